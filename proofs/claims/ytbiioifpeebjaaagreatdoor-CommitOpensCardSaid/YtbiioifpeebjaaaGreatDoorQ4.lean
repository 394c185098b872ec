/- The program's reader of terms: names and texts. · The program's reader of terms: texts. · The program's reader of terms: which parts fit. · An append of an element as one step of a drawing region; rows of the call's own. -/
import Derived.Test.YtbiioifpeebjaaaGreatDoorQ3
import Derived.Test.YtbiioifpeebjaaaGreatDoorQ0
import Derived.RegionTactic
import Derived.BigRegion
import Derived.Deep.RegionLaw
set_option linter.all false
namespace Go.Proofs.YtbiioifpeebjaaaGreatDoor
open Go.RowKit
def ShapeAt (w:World) (b:Nat) (op n:Int) (text:ByteArray) (ks:Value) (deep:Int):Prop:=w.heap[b]? =some (.cells #[.int .u8 op,.int .i64 n,.string text,ks,.int .i64 deep] 134 (0,0))
theorem ShapeAt.cells {w:World} {b:Nat} {op n deep:Int} {text:ByteArray} {ks:Value} (h:ShapeAt w b op n text ks deep):w.cell? ⟨b,0,none⟩=some (.int .u8 op)/\w.cell? ⟨b,1,none⟩=some (.int .i64 n)/\w.cell? ⟨b,2,none⟩=some (.string text)/\w.cell? ⟨b,3,none⟩=some ks/\w.cell? ⟨b,4,none⟩=some (.int .i64 deep)/\ ∀j,w.frozen? ⟨b,j,none⟩=false:=by
 unfold ShapeAt at h;refine⟨by simp[World.cell?,h],by simp[World.cell?,h],by simp[World.cell?,h],by simp[World.cell?,h],by simp[World.cell?,h],fun j=>by simp[World.frozen?,h]⟩
theorem ShapeAt.fr {F:List Nat} {w w':World} {b:Nat} {op n deep:Int} {text:ByteArray} {ks:Value} (h:ShapeAt w b op n text ks deep) (hf:Fr F w w') (hb:b∉F):ShapeAt w' b op n text ks deep:=(hf.block b (lt_of_block h) hb).trans h
theorem ShapeAt.ne {w:World} {b c at_:Nat} {op n deep:Int} {text s:ByteArray} {ks:Value} (h:ShapeAt w b op n text ks deep) (hr:RdrAt w c s at_):b≠c:=fun e=>by
 subst e;unfold ShapeAt at h;unfold RdrAt at hr;rw[h]at hr;injection hr with hr;injection hr with h1;have:=congrArg Array.size h1;simp at this
theorem ShapeAt.notVar {w:World} {b:Nat} {op n deep:Int} {text:ByteArray} {ks:Value} (h:ShapeAt w b op n text ks deep): ∀v T z,w.heap[b]? ≠some (.cells #[v] T z):=fun v T z he=>by
 unfold ShapeAt at h;rw[h]at he;injection he with he;injection he with h1;have:=congrArg Array.size h1;simp at this
theorem ShapeAt.putN {w:World} {b:Nat} {op n deep:Int} {text:ByteArray} {ks:Value} (h:ShapeAt w b op n text ks deep) (k:Nat) (m:Int):ShapeAt ((w.drewN k).setCell ⟨b,1,none⟩ (.int .i64 m)) b op m text ks deep:=by
 unfold ShapeAt at h⊢;rw[set_block _ h k];rfl
theorem ShapeAt.putT {w:World} {b:Nat} {op n deep:Int} {text:ByteArray} {ks:Value} (h:ShapeAt w b op n text ks deep) (k:Nat) (t:ByteArray):ShapeAt ((w.drewN k).setCell ⟨b,2,none⟩ (.string t)) b op n t ks deep:=by
 unfold ShapeAt at h⊢;rw[set_block _ h k];rfl
theorem ShapeAt.putK {w:World} {b:Nat} {op n deep:Int} {text:ByteArray} {ks:Value} (h:ShapeAt w b op n text ks deep) (k:Nat) (u:Value):ShapeAt ((w.drewN k).setCell ⟨b,3,none⟩ u) b op n text u deep:=by
 unfold ShapeAt at h⊢;rw[set_block _ h k];rfl
theorem ShapeAt.putD {w:World} {b:Nat} {op n deep:Int} {text:ByteArray} {ks:Value} (h:ShapeAt w b op n text ks deep) (k:Nat) (m:Int):ShapeAt ((w.drewN k).setCell ⟨b,4,none⟩ (.int .i64 m)) b op n text ks m:=by
 unfold ShapeAt at h⊢;rw[set_block _ h k];rfl
set_option maxRecDepth 100000 in
set_option maxHeartbeats 8000000 in
theorem name_any (b bx:Nat) (s:ByteArray) (at_:Nat) (op deep room:Int) (ks:Value) (text:ByteArray) (n:Int) (w:World) (hr:RdrAt w b s at_) (hx:ShapeAt w bx op n text ks deep) (hat:at_<=s.size) (hs:s.size<=1000000) (hv:VarsOk w):
 Calls Tryz.prog 101 #[.pointer (some ⟨b,0,none⟩),.pointer (some ⟨bx,0,none⟩),.int .i64 room] w fun e w'=>match numL 59 (s.data.toList.drop at_)with
  |some (v,k)=>e= .returned (.bool true)/\RdrAt w' b s (at_+k+1)/\ShapeAt w' bx op v text ks deep/\Fr [b,bx] w w'
  |none=>e= .returned (.bool false)/\Fr [b,bx] w w':=by
 have hne:=hx.ne hr;have HX:=zH hx;have HN:=zH (num_any b s at_ 59 w hr hat hs hv);obtain⟨R,hR⟩: ∃R,numL 59 (s.data.toList.drop at_)=R:=⟨_,rfl⟩;rw[show(59:Int).toNat.toUInt8=59 from rfl,hR]at HN;rw[hR];clear hx hr hR hv;go_enter Tryz.func101,Tryz.ntmps101;cases R with
 |none=>
  go_wp2_with fail;refine HN.out.mono ?_;rintro e w1 ⟨m,rfl,hf⟩;have hx1:=HX.out.fr hf (by simpa using hne);obtain⟨c0,c1,c2,c3,c4,cf⟩:=hx1.cells;have f1:=cf 1;have HF:=zH (hf.mono (G:=[b,bx]) fun i hi _=>by simp at hi;simp[hi]);clear hf hx1 cf;go_wp2_with fail;go_ret;exact⟨rfl,HF.out.trans (Fr.put w1 0 bx 1 _ (by simp)) (fun i hi _=>hi)⟩
 |some y=>
  obtain⟨v,k⟩:=y;go_wp2_with fail;refine HN.out.mono ?_;rintro e w1 ⟨rfl,hr1,hf⟩;have hx1:=HX.out.fr hf (by simpa using hne);obtain⟨c0,c1,c2,c3,c4,cf⟩:=hx1.cells;have f1:=cf 1;have HX1:=zH hx1;have HR1:=zH hr1;have HF:=zH (hf.mono (G:=[b,bx]) fun i hi _=>by simp at hi;simp[hi]);clear hf hx1 cf hr1;go_wp2_with fail;go_ret;have hput:Fr [bx] w1 ((w1.drewN 0).setCell ⟨bx,1,none⟩ (.int .i64 v)):=Fr.put w1 0 bx 1 _ (by simp);exact⟨rfl,HR1.out.fr hput (by simpa using fun e=>hne e.symm),HX1.out.putN 0 v,HF.out.trans hput (fun i hi _=>by simp at hi;simp[hi])⟩
end Go.Proofs.YtbiioifpeebjaaaGreatDoor
namespace Go.Proofs.YtbiioifpeebjaaaGreatDoor
open Go.RowKit
set_option maxRecDepth 100000 in
set_option maxHeartbeats 8000000 in
theorem text_any (b bx:Nat) (s:ByteArray) (at_:Nat) (op deep room:Int) (ks:Value) (text:ByteArray) (n:Int) (w:World) (hr:RdrAt w b s at_) (hx:ShapeAt w bx op n text ks deep) (hat:at_<=s.size) (hs:s.size<=1000000) (hv:VarsOk w):
 Calls Tryz.prog 102 #[.pointer (some ⟨b,0,none⟩),.pointer (some ⟨bx,0,none⟩),.int .i64 room] w fun e w'=>match numL 58 (s.data.toList.drop at_)with
  |some (v,k)=>if v<=4096/\at_+k+1+v<=s.size then e= .returned (.bool true)/\RdrAt w' b s (at_+k+1+v)/\ShapeAt w' bx op n (s.extract (at_+k+1) (at_+k+1+v)) ks deep/\Fr [b,bx] w w' else e= .returned (.bool false)/\Fr [b,bx] w w'
  |none=>e= .returned (.bool false)/\Fr [b,bx] w w':=by
 have hne:=hx.ne hr;have HX:=zH hx;have HN:=zH (num_any b s at_ 58 w hr hat hs hv);obtain⟨R,hR⟩: ∃R,numL 58 (s.data.toList.drop at_)=R:=⟨_,rfl⟩;have hlen:(s.data.toList.drop at_).length=s.size - at_:=by rw[List.length_drop];rfl
 have hrange: ∀v k,R=some (v,k)->v<9223372036854775808/\at_+k+1<=s.size:=fun v k h=>by
  have:=numL_some (hR.trans h);rw[hlen]at this;omega
 rw[show(58:Int).toNat.toUInt8=58 from rfl,hR]at HN;rw[hR];clear hx hr hR hv hlen;cases R with
 |none=>
  go_enter Tryz.func102,Tryz.ntmps102;go_wp2_with fail;refine HN.out.mono ?_;rintro e w1 ⟨m,rfl,hf⟩;have HF:=zH (hf.mono (G:=[b,bx]) fun i hi _=>by simp at hi;simp[hi]);clear hf;go_wp2_with fail;go_big_quiet (fail);go_wp2_with fail;go_ret;exact⟨rfl,HF.out.drewN _⟩
 |some y=>
  obtain⟨v,k⟩:=y;obtain⟨hv63,hk⟩:=hrange v k rfl;simp only;obtain⟨at1,ha1⟩: ∃a,at_+k+1=a:=⟨_,rfl⟩;rw[ha1]at hk⊢;have hwr:IntKind.i64.wrap ((s.size:Int) - (at1:Int))=((s.size - at1:Nat):Int):=by rw[IntWalk.i64_in _ (by omega)];omega
  by_cases h1:v<=4096
  ·have g1:decide ((4096:Int)<(v:Int))=false:=decide_eq_false (by omega);by_cases h2:at1+v<=s.size
   ·have g2:decide (((s.size - at1:Nat):Int)<(v:Int))=false:=decide_eq_false (by omega);have g3: ¬(s.size - at1<v):=by omega
    simp only[if_pos (⟨h1,h2⟩:v<=4096/\at1+v<=s.size)];obtain⟨at2,ha2⟩: ∃a,at1+v=a:=⟨_,rfl⟩;rw[ha2]at h2⊢;have hwr2:IntKind.i64.wrap ((at1:Int)+(v:Int))=(at2:Int):=by rw[IntWalk.i64_in _ (by omega)];omega
    have hb0:(0:Int)<=(at1:Int):=by omega
    have hb1:(at1:Int)<=(at2:Int):=by omega
    have hb2:(at2:Int)<=(s.size:Int):=by omega
    clear ha2;go_enter Tryz.func102,Tryz.ntmps102;go_wp2_with fail;refine HN.out.mono ?_;rintro e w1 ⟨rfl,hr1,hf⟩;rw[ha1]at hr1;have hx1:=HX.out.fr hf (by simpa using hne);obtain⟨d0,d1,df⟩:=hr1.cells;obtain⟨c0,c1,c2,c3,c4,cf⟩:=hx1.cells;have HX1:=zH hx1;have HR1:=zH hr1;have HF:=zH (hf.mono (G:=[b,bx]) fun i hi _=>by simp at hi;simp[hi]);clear hx1 hr1 hf cf df hrange ha1;go_wp2_with fail;go_big_quiet (fail);go_wp2_with fail;have HR2:=zH (show RdrAt (w1.drewN nq) b s at1 from HR1.out);have HX2:=zH (show ShapeAt (w1.drewN nq) bx op n text ks deep from HX1.out);have HFd:=zH (HF.out.drewN nq);clear HR1 HX1 HF d0 d1 c0 c1 c2 c3 c4;generalize w1.drewN nq=w2 at HR2 HX2 HFd⊢;obtain⟨d0,d1,df⟩:=HR2.out.cells;go_still_tail 19,(by kernel_rfl);change wpList _ _ _ _ _ w2.drew;have HR3:=zH (show RdrAt w2.drew b s at1 from HR2.out);have HX3:=zH (show ShapeAt w2.drew bx op n text ks deep from HX2.out);have HF3:=zH (show Fr [b,bx] w w2.drew from HFd.out.drewN 1);clear HR2 HX2 HFd d0 d1 df;generalize w2.drew=w3 at HR3 HX3 HF3⊢;obtain⟨d0,d1,df⟩:=HR3.out.cells;obtain⟨c0,c1,c2,c3,c4,cf⟩:=HX3.out.cells;have f1:=cf 2;have f2:=df 1;have hput:Fr [bx] w3 ((w3.drewN 0).setCell ⟨bx,2,none⟩ (.string (s.extract at1 at2))):=Fr.put w3 0 bx 2 _ (by simp);have HPX:=zH (HX3.out.putT 0 (s.extract at1 at2));have HPR:=zH (HR3.out.fr hput (by simpa using fun e=>hne e.symm));have HPF:=zH hput;clear hput cf df c0 c1 c3 c4;go_wp2_with fail;go_ret;have hp2:Fr [b] ((w3.drewN 0).setCell ⟨bx,2,none⟩ (.string (s.extract at1 at2))) ((((w3.drewN 0).setCell ⟨bx,2,none⟩ (.string (s.extract at1 at2))).drewN 0).setCell ⟨b,1,none⟩ (.int .i64 (at2:Nat))):=Fr.put _ 0 b 1 _ (by simp);exact⟨rfl,HPR.out.put 0 at2,HPX.out.fr hp2 (by simpa using hne),(HF3.out.trans HPF.out (fun i hi _=>by simp at hi;simp[hi])).trans hp2 (fun i hi _=>by simp at hi;simp[hi])⟩
   ·have g2:decide (((s.size - at1:Nat):Int)<(v:Int))=true:=decide_eq_true (by omega);have g3:s.size - at1<v:=by omega
    simp only[if_neg (fun h=>h2 h.2: ¬(v<=4096/\at1+v<=s.size))];go_enter Tryz.func102,Tryz.ntmps102;go_wp2_with fail;refine HN.out.mono ?_;rintro e w1 ⟨rfl,hr1,hf⟩;rw[ha1]at hr1;have hx1:=HX.out.fr hf (by simpa using hne);obtain⟨d0,d1,df⟩:=hr1.cells;obtain⟨c0,c1,c2,c3,c4,cf⟩:=hx1.cells;have HX1:=zH hx1;have HR1:=zH hr1;have HF:=zH (hf.mono (G:=[b,bx]) fun i hi _=>by simp at hi;simp[hi]);clear hx1 hr1 hf cf df hrange ha1;go_wp2_with fail;go_big_quiet (fail);go_wp2_with fail;go_ret;exact⟨rfl,HF.out.drewN _⟩
  ·have g1:decide ((4096:Int)<(v:Int))=true:=decide_eq_true (by omega);simp only[if_neg (fun h=>h1 h.1: ¬(v<=4096/\at1+v<=s.size))];go_enter Tryz.func102,Tryz.ntmps102;go_wp2_with fail;refine HN.out.mono ?_;rintro e w1 ⟨rfl,hr1,hf⟩;rw[ha1]at hr1;have hx1:=HX.out.fr hf (by simpa using hne);obtain⟨d0,d1,df⟩:=hr1.cells;obtain⟨c0,c1,c2,c3,c4,cf⟩:=hx1.cells;have HX1:=zH hx1;have HR1:=zH hr1;have HF:=zH (hf.mono (G:=[b,bx]) fun i hi _=>by simp at hi;simp[hi]);clear hx1 hr1 hf cf df hrange ha1;go_wp2_with fail;go_big_quiet (fail);go_wp2_with fail;go_ret;exact⟨rfl,HF.out.drewN _⟩
end Go.Proofs.YtbiioifpeebjaaaGreatDoor
namespace Go.Proofs.YtbiioifpeebjaaaGreatDoor
open Go.RowKit
theorem index_term {s:ByteArray} {i:Nat} (hi:i<s.size) (W:World):(Instr.index 28 (.string s) (.int .i64 i)).run Tryz.prog W= .ok (.int .u8 ((byte s.data.toList i).toNat:Int)) W:=by
 rw[run_index_string (P:=Tryz.prog) W 28 _ .i64 (i:Int) Tryz.underlying28];rw[dif_pos ⟨by omega,by omega⟩];unfold byte;rw[List.getD_eq_getElem?_getD,List.getElem?_eq_getElem (by simpa using hi)];simp;rfl
theorem index_term0 {s:ByteArray} (hi:0<s.size) (W:World):(Instr.index 28 (.string s) (.int .i64 0)).run Tryz.prog W= .ok (.int .u8 ((byte s.data.toList 0).toNat:Int)) W:=index_term hi W
theorem isPub_iff (c:UInt8):isPub c=(decide ((c.toNat:Int)=80)||decide ((c.toNat:Int)=87)||decide ((c.toNat:Int)=76)):=by
 have h: ∀d:UInt8,(c==d)=decide ((c.toNat:Int)=(d.toNat:Int)):=fun d=>by
  by_cases e:c=d
  ·subst e;simp
  ·have: ¬((c.toNat:Int)=(d.toNat:Int)):=fun h=>e (UInt8.toNat_inj.1 (by omega))
   rw[decide_eq_false this];exact beq_false_of_ne e
 unfold isPub;rw[h,h,h];rfl
set_option maxRecDepth 100000 in
set_option maxHeartbeats 4000000 in
theorem public_any (t:ByteArray) (w:World) (ht:0<t.size):Calls Tryz.prog 106 #[.string t] w fun e w'=>e= .returned (.bool (isPub (byte t.data.toList 0)))/\w'=w:=by
 have hix:=fun W=>index_term0 ht W
 have hp:=isPub_iff (byte t.data.toList 0);obtain⟨x,hx⟩: ∃x:Int,((byte t.data.toList 0).toNat:Int)=x:=⟨_,rfl⟩;simp only[hx]at hix hp;have HP:=zH hp;clear hx hp;by_cases h1:x=80
 ·subst h1;go_enter Tryz.func106,Tryz.ntmps106;go_wp2_with fail;go_ret;rw[HP.out];exact⟨by simp,rfl⟩
 ·have g1:(x==80)=false:=beq_false_of_ne h1;by_cases h2:x=87
  ·subst h2;go_enter Tryz.func106,Tryz.ntmps106;go_wp2_with fail;go_ret;rw[HP.out];exact⟨by simp,rfl⟩
  ·have g2:(x==87)=false:=beq_false_of_ne h2;go_enter Tryz.func106,Tryz.ntmps106;go_wp2_with fail;go_ret;rw[HP.out];exact⟨by by_cases h3:x=76<;>simp[h1,h2,h3],rfl⟩
def strs (l:List ByteArray):List Value:=l.map fun s=> .string s
theorem strs_at {w:World} {A:Option Addr} {l:List ByteArray} (h:Cells w A (strs l)) {k:Nat} (hk:k<l.length): ∃ad,A=some ad/\w.cell? (ad.add k)=some (.string l[k]):=by
 obtain⟨ad,he,hc⟩:=h (by unfold strs;rw[List.length_map];omega);exact⟨ad,he,by rw[hc k (.string l[k]) (by unfold strs;rw[List.getElem?_map,List.getElem?_eq_getElem hk];rfl)]⟩
def pieces (s:ByteArray):List Nat->List ByteArray
 |a::b::r=>s.extract a b::pieces s (b::r)
 |_=>[]
theorem pieces_len (s:ByteArray): ∀l,(pieces s l).length=l.length - 1
 |[]=>rfl
 |[_]=>rfl
 |_::b::r=>by unfold pieces;rw[List.length_cons,pieces_len s (b::r)];simp
theorem pieces_at (s:ByteArray): ∀(l:List Nat) (i:Nat) (h:i<(pieces s l).length),(pieces s l)[i]=s.extract (l.getD i 0) (l.getD (i+1) 0)
 |[],i,h=>by simp[pieces]at h
 |[_],i,h=>by simp[pieces]at h
 |a::b::r,0,h=>rfl
 |a::b::r,i+1,h=>by
  have h':i<(pieces s (b::r)).length:=by unfold pieces at h;simpa using h
  have:=pieces_at s (b::r) i h';show(pieces s (b::r))[i]=_;rw[this];rfl
theorem pieces_snoc (s:ByteArray): ∀(l:List Nat) (a b:Nat),pieces s (l++[a]++[b])=pieces s (l++[a])++[s.extract a b]
 |[],a,b=>rfl
 |[x],a,b=>rfl
 |x::y::r,a,b=>by
  have:=pieces_snoc s (y::r) a b;show s.extract x y::pieces s (y::r++[a]++[b])=s.extract x y::pieces s (y::r++[a])++[s.extract a b];rw[this];rfl
def shapeV (op n:Int) (text:ByteArray) (ks:Value) (deep:Int):Value:= .agg #[.int .u8 op,.int .i64 n,.string text,ks,.int .i64 deep]
theorem kid_byte {s:ByteArray} {a b:Nat} (hab:a<b) (hb:b<=s.size):0<(s.extract a b).size/\byte (s.extract a b).data.toList 0=byte s.data.toList a:=by
 have hl:s.data.toList.length=s.size:=rfl;have h1:(s.extract a b).size=b - a:=by
  have h:=congrArg List.length (ext_list s a b);unfold sub at h;rw[List.length_take,List.length_drop,hl]at h;have e1:(s.extract a b).data.toList.length=(s.extract a b).size:=rfl;rw[e1]at h;omega
 refine⟨by omega, ?_⟩;rw[ext_list];unfold byte sub;rw[List.getD_eq_getElem?_getD,List.getD_eq_getElem?_getD,List.getElem?_take_of_lt (by omega),List.getElem?_drop,Nat.add_zero]
theorem alloc_cells {w:World} {cs:Array Value} {T:TypeId} (j:Nat) (u:Value) (h:cs[j]? =some u):(w.alloc (.cells cs T)).cell? ⟨w.heap.size,j,none⟩=some u:=by
 have h0:=Go.heap_alloc_new w (.cells cs T);unfold World.cell?;rw[h0];simpa using h
theorem opb {c:UInt8} {op:Int} (hop:(c.toNat:Int)=op) (d:UInt8):(c=d)↔op=(d.toNat:Int):=⟨fun e=>by rw[<-hop,e],fun e=>UInt8.toNat_inj.1 (by omega)⟩
set_option maxRecDepth 100000 in
set_option maxHeartbeats 8000000 in
theorem fits_any (s:ByteArray) (c:UInt8) (op:Int) (hop:(c.toNat:Int)=op) (ks:List Nat) (n deep:Int) (text:ByteArray) (A:Option Addr) (cap:Nat) (w:World) (hA:Cells w A (strs (pieces s ks))) (_hs:s.size<=1000000) (hn:(pieces s ks).length<=32)
 (hk: ∀i,i<(pieces s ks).length->ks.getD i 0<ks.getD (i+1) 0/\ks.getD (i+1) 0<=s.size) (h1:c=80\/c=76->1<=(pieces s ks).length) (h2:c=88\/c=87->2<=(pieces s ks).length):
 Calls Tryz.prog 97 #[shapeV op n text (.slice A (pieces s ks).length cap) deep] w fun e w'=>e= .returned (.bool (fitsB s.data.toList c ks))/\Below w.heap.size w w':=by
 unfold shapeV;have hbA:Below w.heap.size w (w.alloc (zO1 op n text A (pieces s ks).length cap deep)):=(Below.refl _ _).alloc (Nat.le_refl _) _;have HBA:=zH hbA;have q0:(w.alloc (zO1 op n text A (pieces s ks).length cap deep)).cell? ⟨w.heap.size,0,none⟩=some (.int .u8 op):=alloc_cells 0 _ rfl;have q3:(w.alloc (zO1 op n text A (pieces s ks).length cap deep)).cell? ⟨w.heap.size,3,none⟩=some (.slice A (pieces s ks).length cap):=alloc_cells 3 _ rfl;have hAW:=Cells.below hA hbA;have HAW:=zH hAW;have HK:=zH hk;have o80:=opb hop 80;have o88:=opb hop 88;have o87:=opb hop 87;have o76:=opb hop 76;rw[show(((80:UInt8).toNat:Nat):Int)=80 from rfl]at o80;rw[show(((88:UInt8).toNat:Nat):Int)=88 from rfl]at o88;rw[show(((87:UInt8).toNat:Nat):Int)=87 from rfl]at o87;rw[show(((76:UInt8).toNat:Nat):Int)=76 from rfl]at o76;clear hbA hAW hA hk;by_cases c80:c=80
 ·have:=h1 (.inl c80);have hR:fitsB s.data.toList c ks=(byte s.data.toList (ks.getD 0 0) !=86&&byte s.data.toList (ks.getD 0 0) !=75):=by unfold fitsB;rw[if_pos c80]
  have e:=o80.1 c80;obtain⟨ad,rfl,k0⟩:=strs_at HAW.out (show 0<(pieces s ks).length by omega);rw[pieces_at,show ad.add 0=ad by simp[Addr.add]]at k0;obtain⟨z1,z2⟩:=HK.out 0 (by omega);obtain⟨y1,y2⟩:=kid_byte z1 z2;have hix:=fun W=>index_term0 y1 W
  rw[y2]at hix;have hpub:=fun W=>public_any (s.extract (ks.getD 0 0) (ks.getD (0+1) 0)) W y1
  rw[y2]at hpub;have hL0:=ext_list s (ks.getD 0 0) (ks.getD (0+1) 0);obtain⟨T0,hT0⟩: ∃T0,s.extract (ks.getD 0 0) (ks.getD (0+1) 0)=T0:=⟨_,rfl⟩;rw[hT0]at k0 hix hpub hL0;obtain⟨b0,hb0⟩: ∃b0,byte s.data.toList (ks.getD 0 0)=b0:=⟨_,rfl⟩;rw[hb0]at hix hpub;rw[hb0]at hR;have HR:=zH hR;have h86:(b0=86)↔((b0.toNat:Int)=86):=opb rfl 86;have h75:(b0=75)↔((b0.toNat:Int)=75):=opb rfl 75;obtain⟨x,hx⟩: ∃x:Int,(b0.toNat:Int)=x:=⟨_,rfl⟩;rw[hx]at h86 h75;simp only[hx]at hix;clear hR o80 o88 o87 o76 hop h1 h2 hb0 hT0 y1 y2 z1 z2 hpub hx hL0;subst e;by_cases g86:x=86
  ·have H86:=zH (h86.2 g86);subst g86;clear h86 h75;go_enter Tryz.func97,Tryz.ntmps97;go_wp2_with fail;go_ret;rw[HR.out,H86.out];exact⟨rfl,HBA.out⟩
  ·have e86:(x==86)=false:=beq_false_of_ne g86;have H86:=zH (fun h=>g86 (h86.1 h));by_cases g75:x=75
   ·have H75:=zH (h75.2 g75);subst g75;clear h86 h75 g86 e86;go_enter Tryz.func97,Tryz.ntmps97;go_wp2_with fail;go_ret;rw[HR.out,H75.out];exact⟨rfl,HBA.out⟩
   ·have e75:(x==75)=false:=beq_false_of_ne g75;have H75:=zH (fun h=>g75 (h75.1 h));clear h86 h75;go_enter Tryz.func97,Tryz.ntmps97;go_wp2_with fail;go_ret;rw[HR.out];exact⟨ret_bool (by rw[bne_iff_ne.2 g86,bne_iff_ne.2 g75,bne_iff_ne.2 H86.out,bne_iff_ne.2 H75.out]),HBA.out⟩
 have n80: ¬op=80:=fun h=>c80 (o80.2 h)
 by_cases c88:c=88
 ·have:=h2 (.inl c88);have hR:fitsB s.data.toList c ks=leT (sub s.data.toList (ks.getD 0 0) (ks.getD 1 0)) (sub s.data.toList (ks.getD 1 0) (ks.getD 2 0)):=by unfold fitsB;rw[if_neg c80,if_pos c88]
  have e:=o88.1 c88;obtain⟨ad,rfl,k0⟩:=strs_at HAW.out (show 0<(pieces s ks).length by omega);rw[pieces_at,show ad.add 0=ad by simp[Addr.add]]at k0;obtain⟨z1,z2⟩:=HK.out 0 (by omega);obtain⟨y1,y2⟩:=kid_byte z1 z2;have hix:=fun W=>index_term0 y1 W
  rw[y2]at hix;have hpub:=fun W=>public_any (s.extract (ks.getD 0 0) (ks.getD (0+1) 0)) W y1
  rw[y2]at hpub;have hL0:=ext_list s (ks.getD 0 0) (ks.getD (0+1) 0);obtain⟨T0,hT0⟩: ∃T0,s.extract (ks.getD 0 0) (ks.getD (0+1) 0)=T0:=⟨_,rfl⟩;rw[hT0]at k0 hix hpub hL0;obtain⟨b0,hb0⟩: ∃b0,byte s.data.toList (ks.getD 0 0)=b0:=⟨_,rfl⟩;rw[hb0]at hix hpub;obtain⟨ad',he',k1⟩:=strs_at HAW.out (show 1<(pieces s ks).length by omega);obtain rfl:=Option.some.inj he';rw[pieces_at,show ad.add 1=⟨ad.block,ad.off+1,none⟩from rfl]at k1;obtain⟨z3,z4⟩:=HK.out 1 (by omega);obtain⟨y3,y4⟩:=kid_byte z3 z4;have hpub1:=fun W=>public_any (s.extract (ks.getD 1 0) (ks.getD (1+1) 0)) W y3
  rw[y4]at hpub1;have hL1:=ext_list s (ks.getD 1 0) (ks.getD (1+1) 0);obtain⟨T1,hT1⟩: ∃T1,s.extract (ks.getD 1 0) (ks.getD (1+1) 0)=T1:=⟨_,rfl⟩;rw[hT1]at k1 hpub1 hL1;obtain⟨b1,hb1⟩: ∃b1,byte s.data.toList (ks.getD 1 0)=b1:=⟨_,rfl⟩;rw[hb1]at hpub1;rw[show ks.getD (0+1) 0=ks.getD 1 0 from rfl]at hL0;rw[show ks.getD (1+1) 0=ks.getD 2 0 from rfl]at hL1;rw[<-hL0,<-hL1,<-Go.ByteArray.toList_eq T0,<-Go.ByteArray.toList_eq T1]at hR;have HR:=zH hR;clear hR o80 o88 o87 o76 hop h1 h2 hb0 hT0 y1 y2 z1 z2 hpub hL0 hb1 hT1 y3 y4 z3 z4 hpub1 hL1 hix n80;subst e;have b1:(0:Int)<((pieces s ks).length:Int):=by omega
  have b2:(1:Int)<((pieces s ks).length:Int):=by omega
  go_enter Tryz.func97,Tryz.ntmps97;go_wp2_with fail;go_big_quiet (fail);go_wp2_with fail;go_ret;rw[HR.out];exact⟨rfl,below_drewN HBA.out _⟩
 have n88: ¬op=88:=fun h=>c88 (o88.2 h)
 by_cases c87:c=87
 ·have:=h2 (.inr c87);have hR:fitsB s.data.toList c ks=(isPub (byte s.data.toList (ks.getD 0 0))&&isPub (byte s.data.toList (ks.getD 1 0))):=by unfold fitsB;rw[if_neg c80,if_neg c88,if_pos c87]
  have e:=o87.1 c87;obtain⟨ad,rfl,k0⟩:=strs_at HAW.out (show 0<(pieces s ks).length by omega);rw[pieces_at,show ad.add 0=ad by simp[Addr.add]]at k0;obtain⟨z1,z2⟩:=HK.out 0 (by omega);obtain⟨y1,y2⟩:=kid_byte z1 z2;have hix:=fun W=>index_term0 y1 W
  rw[y2]at hix;have hpub:=fun W=>public_any (s.extract (ks.getD 0 0) (ks.getD (0+1) 0)) W y1
  rw[y2]at hpub;have hL0:=ext_list s (ks.getD 0 0) (ks.getD (0+1) 0);obtain⟨T0,hT0⟩: ∃T0,s.extract (ks.getD 0 0) (ks.getD (0+1) 0)=T0:=⟨_,rfl⟩;rw[hT0]at k0 hix hpub hL0;obtain⟨b0,hb0⟩: ∃b0,byte s.data.toList (ks.getD 0 0)=b0:=⟨_,rfl⟩;rw[hb0]at hix hpub;obtain⟨ad',he',k1⟩:=strs_at HAW.out (show 1<(pieces s ks).length by omega);obtain rfl:=Option.some.inj he';rw[pieces_at,show ad.add 1=⟨ad.block,ad.off+1,none⟩from rfl]at k1;obtain⟨z3,z4⟩:=HK.out 1 (by omega);obtain⟨y3,y4⟩:=kid_byte z3 z4;have hpub1:=fun W=>public_any (s.extract (ks.getD 1 0) (ks.getD (1+1) 0)) W y3
  rw[y4]at hpub1;have hL1:=ext_list s (ks.getD 1 0) (ks.getD (1+1) 0);obtain⟨T1,hT1⟩: ∃T1,s.extract (ks.getD 1 0) (ks.getD (1+1) 0)=T1:=⟨_,rfl⟩;rw[hT1]at k1 hpub1 hL1;obtain⟨b1,hb1⟩: ∃b1,byte s.data.toList (ks.getD 1 0)=b1:=⟨_,rfl⟩;rw[hb1]at hpub1;rw[hb0,hb1]at hR;have HR:=zH hR;have HP:=zH hpub;have HP1:=zH hpub1;clear hR o80 o88 o87 o76 hop h1 h2 hb0 hT0 y1 y2 z1 z2 hpub hL0 hb1 hT1 y3 y4 z3 z4 hpub1 hL1 hix n80 n88;subst e;go_enter Tryz.func97,Tryz.ntmps97;go_wp2_with fail;refine(HP.out _).mono ?_;rintro e w1 ⟨rfl,rfl⟩;cases hq:isPub b0 with
  |false=>
   have HQ:=zH hq;clear hq;go_wp2_with fail;go_ret;rw[HR.out,HQ.out];exact⟨rfl,HBA.out⟩
  |true=>
   have HQ:=zH hq;clear hq;go_wp2_with fail;refine(HP1.out _).mono ?_;rintro e w1 ⟨rfl,rfl⟩;go_wp2_with fail;go_ret;rw[HR.out,HQ.out];exact⟨by simp,HBA.out⟩
 have n87: ¬op=87:=fun h=>c87 (o87.2 h)
 by_cases c76:c=76
 ·have:=h1 (.inr c76);have hR:fitsB s.data.toList c ks=isPub (byte s.data.toList (ks.getD 0 0)):=by unfold fitsB;rw[if_neg c80,if_neg c88,if_neg c87,if_pos c76]
  have e:=o76.1 c76;obtain⟨ad,rfl,k0⟩:=strs_at HAW.out (show 0<(pieces s ks).length by omega);rw[pieces_at,show ad.add 0=ad by simp[Addr.add]]at k0;obtain⟨z1,z2⟩:=HK.out 0 (by omega);obtain⟨y1,y2⟩:=kid_byte z1 z2;have hix:=fun W=>index_term0 y1 W
  rw[y2]at hix;have hpub:=fun W=>public_any (s.extract (ks.getD 0 0) (ks.getD (0+1) 0)) W y1
  rw[y2]at hpub;have hL0:=ext_list s (ks.getD 0 0) (ks.getD (0+1) 0);obtain⟨T0,hT0⟩: ∃T0,s.extract (ks.getD 0 0) (ks.getD (0+1) 0)=T0:=⟨_,rfl⟩;rw[hT0]at k0 hix hpub hL0;obtain⟨b0,hb0⟩: ∃b0,byte s.data.toList (ks.getD 0 0)=b0:=⟨_,rfl⟩;rw[hb0]at hix hpub;rw[hb0]at hR;have HR:=zH hR;have HP:=zH hpub;clear hR o80 o88 o87 o76 hop h1 h2 hb0 hT0 y1 y2 z1 z2 hpub hL0 hix n80 n88 n87;subst e;go_enter Tryz.func97,Tryz.ntmps97;go_wp2_with fail;refine(HP.out _).mono ?_;rintro e w1 ⟨rfl,rfl⟩;go_wp2_with fail;go_ret;rw[HR.out];exact⟨rfl,HBA.out⟩
 have n76: ¬op=76:=fun h=>c76 (o76.2 h)
 have hR:fitsB s.data.toList c ks=true:=by unfold fitsB;rw[if_neg c80,if_neg c88,if_neg c87,if_neg c76]
 have HR:=zH hR;clear hR o80 o88 o87 o76 hop h1 h2 q3;go_enter Tryz.func97,Tryz.ntmps97;go_wp2_with fail;go_ret;rw[HR.out];exact⟨rfl,HBA.out⟩
end Go.Proofs.YtbiioifpeebjaaaGreatDoor
namespace Go.Proofs.YtbiioifpeebjaaaGreatDoor
open Go.RowKit
theorem step_appk {P:Program} {w:World} {ops:Array Oper} {o:Oper} {a:Act} {K:Act->World->Prop} {Q:Exit->Act->World->Prop} {F:Prop} {T E:TypeId} {z:Value} {size bytes:Nat}
 (S:SlTyK P T E z size bytes) (hgd:o.guard=none) (s x:Operand)
 (ho:o.op= .call {callee:= .builtin .append,args:= #[s,x],argTypes:= #[T,T]})
 (base:Nat) (v:Value) (n:Nat) (xs:List Value) (hs:a.eval s=v) (hown:w.ownsRow base E size v n xs)
 (A:Option Addr) (m c:Nat) (news:List Value) (hx:a.eval x= .slice A m c) (hl:news.length=m*size) (hnews:Cells w A news) (h1: ∀u∈news,u.oneCell'=true)
 (hlen:(n+m)*bytes<=140737488355328) (h63:n+m<=140737488355328) (hbase:base<=w.heap.size)
 (h: ∀v' w',w'.ownsRow base E size v' (n+m) (xs++news)->w.grownBy w' v.ownBlock->Below base w w'->(v'.ownBlock=v.ownBlock\/v'.ownBlock=some w.heap.size)->K (a.put o.dst v') w'):
 if Region.wanted o (yielded ops a.tmps)=true then Oper.wp P o a w K Q else F:=by
 have hw:Region.wanted o (yielded ops a.tmps)=true:=by simp[Region.wanted,hgd]
 rw[if_pos hw];obtain⟨v',w',hr,h2,hg,hb,hat⟩:=run_appk S o.type hown A m c news hl hnews h1 hlen h63 hbase (fun _=>by cases A;exact .inl rfl;exact .inr ⟨_,rfl⟩);unfold Oper.wp execOp;simp only[ho,resolve,invoke,builtin,Sem.run_bind,Sem.run_pure,Result.andThen_ok,List.map_toArray,List.map_cons,List.map_nil,hs,hx,hr];exact h v' w' h2 hg hb hat
theorem ownsRow_block {w w':World} {base:Nat} {E:TypeId} {k:Nat} {v:Value} {n:Nat} {xs:List Value} (h:w.ownsRow base E k v n xs) (hk: ∀g,v.ownBlock=some g->w'.heap[g]? =w.heap[g]?):w'.ownsRow base E k v n xs:=by
 refine⟨h.1, ?_⟩;rcases h.2 with h0|⟨g,cap,cur,rfl,hg,hh,rest⟩
 ·exact .inl h0
 ·exact .inr ⟨g,cap,cur,rfl,hg,(hk g rfl).trans hh,rest⟩
theorem own_below {w w':World} {base:Nat} {E:TypeId} {k:Nat} {v:Value} {n:Nat} {xs:List Value} (h:w.ownsRow base E k v n xs) (hb:Below w.heap.size w w'):w'.ownsRow base E k v n xs:=
 ownsRow_block h fun g hg=>hb.block g (World.ownsRow.lt h g hg).2
theorem row_kind {w:World} {base:Nat} {E:TypeId} {k:Nat} {v:Value} {n:Nat} {xs:List Value} (h:w.ownsRow base E k v n xs) {g:Nat} (hg:v.ownBlock=some g): ∃cur,w.heap[g]? =some (.cells cur E):=by
 rcases h.2 with⟨hv,-⟩|⟨g',cap,cur,hv,-,hh,-⟩
 ·rw[hv]at hg;cases hg
 ·rw[hv]at hg;injection hg with hg;have hg':g'=g:=hg;subst hg';exact⟨cur,hh⟩
theorem slTerm:SlTyK Tryz.prog 32 28 (.string ⟨#[]⟩) 1 16:=⟨Tryz.underlying32,by kernel_rfl,rfl,by decide⟩
theorem own_fr {F:List Nat} {w w':World} {base:Nat} {E:TypeId} {k:Nat} {v:Value} {n:Nat} {xs:List Value} (h:w.ownsRow base E k v n xs) (hf:Fr F w w') (hF: ∀g,v.ownBlock=some g->g∉F):w'.ownsRow base E k v n xs:=
 ownsRow_block h fun g hg=>hf.block g (World.ownsRow.lt h g hg).2 (hF g hg)
theorem own_ne_rdr {w:World} {base k n b at_:Nat} {E:TypeId} {v:Value} {xs:List Value} {s:ByteArray} (h:w.ownsRow base E k v n xs) (hE:E≠156) (hr:RdrAt w b s at_): ∀g,v.ownBlock=some g->g≠b:=fun g hg e=>by
 obtain⟨cur,hc⟩:=row_kind h hg;subst e;unfold RdrAt at hr;rw[hr]at hc;injection hc with hc;injection hc with h1 h2;exact hE h2.symm
theorem own_ne_shape {w:World} {base k n b:Nat} {E:TypeId} {v ks:Value} {xs:List Value} {op num deep:Int} {text:ByteArray} (h:w.ownsRow base E k v n xs) (hE:E≠134) (hr:ShapeAt w b op num text ks deep): ∀g,v.ownBlock=some g->g≠b:=fun g hg e=>by
 obtain⟨cur,hc⟩:=row_kind h hg;subst e;unfold ShapeAt at hr;rw[hr]at hc;injection hc with hc;injection hc with h1 h2;exact hE h2.symm
end Go.Proofs.YtbiioifpeebjaaaGreatDoor
