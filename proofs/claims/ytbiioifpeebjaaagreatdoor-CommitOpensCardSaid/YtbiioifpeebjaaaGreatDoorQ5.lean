/- The program's reader of terms: parts. · The program's reader of terms: how the rest of a term is read; tuples, one part, two parts. · The program's reader of terms: a term. · The program's reader of terms: what the rest of a term comes to, whichever its op. -/
import Derived.Test.YtbiioifpeebjaaaGreatDoorQ4
import Derived.Test.YtbiioifpeebjaaaGreatDoorQ0
set_option linter.all false
namespace Go.Proofs.YtbiioifpeebjaaaGreatDoor
open Go.RowKit
def textOf (s:ByteArray) (c:UInt8) (x:Cut):ByteArray:=if c=116 then s.extract x.text x.fin else⟨#[]⟩
def TermP (s:ByteArray) (room at_ b:Nat) (w:World) (e:Ending) (w':World):Prop:=
 match rd s.data.toList room at_ with
 |some x=> ∃A cap,e= .returned (.tuple #[shapeV (byte s.data.toList at_).toNat x.num (textOf s (byte s.data.toList at_) x) (.slice A (pieces s x.kids).length cap) x.deep,.bool true])/\RdrAt w' b s x.fin/\w'.ownsRow 0 28 1 (.slice A (pieces s x.kids).length cap) (pieces s x.kids).length (strs (pieces s x.kids))/\Fr [b] w w'
 |none=>e= .returned (.tuple #[shapeV 0 0 ⟨#[]⟩ (.slice none 0 0) 0,.bool false])/\Fr [b] w w'
def KidsP (R:Option (Nat×Nat×List Nat)) (s:ByteArray) (b bx:Nat) (op:Int) (text:ByteArray) (w:World) (e:Ending) (w':World):Prop:=
 match R with
 |some (fin,dp,ks)=>e= .returned (.bool true)/\RdrAt w' b s fin/\(∃v,w'.ownsRow 0 28 1 v (pieces s ks).length (strs (pieces s ks))/\ShapeAt w' bx op 0 text v dp)/\Fr [b,bx] w w'
 |none=>e= .returned (.bool false)/\Fr [b,bx] w w'
theorem kidsL_stop {f:Nat->Option Cut} {n nx dp:Nat} {ks:List Nat} (h:f nx=none):kidsL f (n+1) nx dp ks=none:=by
 unfold kidsL;rw[h]
theorem kidsL_next {f:Nat->Option Cut} {n nx dp:Nat} {ks:List Nat} {x:Cut} (h:f nx=some x):kidsL f (n+1) nx dp ks=kidsL f n x.fin (max dp (x.deep+1)) (ks++[x.fin]):=by
 conv=>lhs;unfold kidsL
 rw[h]
theorem own_zero {w:World} {base:Nat} {E:TypeId} {k:Nat} {v:Value} {n:Nat} {xs:List Value} (h:w.ownsRow base E k v n xs):w.ownsRow 0 E k v n xs:=by
 refine⟨h.1, ?_⟩;rcases h.2 with h0|⟨g,cap,cur,hv,hg,rest⟩
 ·exact .inl h0
 ·exact .inr ⟨g,cap,cur,hv,Nat.zero_le _,rest⟩
theorem grown_keep {w w':World} {row:Option Nat} (h:w.grownBy w' row) {i:Nat} {o:Obj} (hi:w.heap[i]? =some o) (hne:some i≠row):w'.heap[i]? =some o:=(h.block i (lt_of_block hi) hne).trans hi
set_option maxRecDepth 100000 in
set_option maxHeartbeats 8000000 in
theorem kids_any (b bx:Nat) (s:ByteArray) (room n nx:Nat) (op:Int) (text:ByteArray) (w:World) (_hs:s.size<=1000000) (hroom:room<=1000) (hn:n<=32)
 (HT: ∀(at_:Nat) (w:World),RdrAt w b s at_->at_<=s.size->VarsOk w->Calls Tryz.prog 91 #[.pointer (some ⟨b,0,none⟩),.int .i64 room] w (TermP s room at_ b w))
 (hr:RdrAt w b s nx) (hx:ShapeAt w bx op 0 text (.slice none 0 0) 1) (hat:nx<=s.size) (hv:VarsOk w):
 Calls Tryz.prog 112 #[.pointer (some ⟨b,0,none⟩),.pointer (some ⟨bx,0,none⟩),.int .i64 n,.int .i64 ((room+1:Nat):Int)] w (KidsP (kidsL (rd s.data.toList room) n nx 1 [nx]) s b bx op text w):=by
 have hne:=hx.ne hr;have HTT:=zH HT;obtain⟨R,hR⟩: ∃R,kidsL (rd s.data.toList room) n nx 1 [nx]=R:=⟨_,rfl⟩;rw[hR];have HR:=zH hr;have HX:=zH hx;have HV:=zH hv;have HRR:=zH hR;have hwr:IntKind.i64.wrap (((room+1:Nat):Int) - 1)=(room:Int):=by rw[IntWalk.i64_in _ (by omega)];omega
 have HWR:=zH hwr;obtain⟨rm,hrm⟩: ∃rm:Int,((room+1:Nat):Int)=rm:=⟨_,rfl⟩;rw[hrm]at hwr⊢;clear hr hx hv hR HT hrm;go_enter Tryz.func112,Tryz.ntmps112;go_wp2_with fail;go_loopw [13] (fun i wr=> ∃(k nx' dp:Nat) (pre:List Nat) (v:Value),k<=n/\i= .int .i64 k/\kidsL (rd s.data.toList room) (n - k) nx' dp (pre++[nx'])=R/\pre.length=k/\nx'<=s.size/\dp<=1001/\RdrAt wr b s nx'/\ShapeAt wr bx op 0 text v dp/\wr.ownsRow w.heap.size 28 1 v (pieces s (pre++[nx'])).length (strs (pieces s (pre++[nx'])))/\Fr [b,bx] w wr/\VarsOk wr) (fun i _=>n - (intOf i).toNat)
 case atStart=>exact⟨0,nx,1,[],.slice none 0 0,Nat.zero_le _,rfl,HRR.out,rfl,hat,by omega,HR.out,HX.out,World.ownsRow_nil _ _ _ _,Fr.refl _ _,HV.out⟩
 case round=>
  obtain⟨k,nx',dp,pre,v,hk,rfl,hrest,hpre,hnx,hdp,hrd,hsh,hown,hfr,hvo⟩:=hrel;by_cases hlt:k<n
  ·obtain⟨d0,d1,df⟩:=hrd.cells;have hT:=HTT.out nx' wr hrd hnx hvo;have HRES:=zH hrest;have HRD:=zH hrd;have HSH:=zH hsh;have HOW:=zH hown;have HFR:=zH hfr;have HVO:=zH hvo;obtain⟨m,hm⟩: ∃m,n - k=m+1:=⟨n - k - 1,by omega⟩;cases hq:rd s.data.toList room nx' with
   |none=>
    have hRn:R=none:=by rw[<-hrest,hm];exact kidsL_stop hq
    unfold TermP shapeV at hT;rw[hq]at hT;simp only at hT;have HT1:=zH hT;clear hT hrest hrd hsh hown hfr hvo;go_wp2_with fail;refine HT1.out.mono ?_;rintro e w1 ⟨rfl,hf1⟩;have HF1:=zH (HFR.out.trans hf1 fun i hi _=>by simp at hi;simp[hi]);clear hf1;go_wp2_with fail;go_ret;rw[hRn];exact⟨rfl,HF1.out.trans (Fr.below (F:=[]) ((Below.refl _ _).alloc (Nat.le_refl _) _)) (fun i hi _=>by cases hi)⟩
   |some x=>
    have hin:=rd_range room nx' hq;have hRn:kidsL (rd s.data.toList room) (n - (k+1)) x.fin (max dp (x.deep+1)) (pre++[nx']++[x.fin])=R:=by rw[<-hrest,hm,kidsL_next hq];congr 1;omega
    unfold TermP shapeV at hT;rw[hq]at hT;simp only at hT;have HT1:=zH hT;have HRN:=zH hRn;have HQ:=zH hq;obtain⟨z0,z1,z2,z3,z4⟩:=hin;clear hT hrest hrd hsh hown hfr hvo hq hRn;go_wp2_with fail;refine HT1.out.mono ?_;rintro e w1 ⟨A1,cap1,rfl,hr1,hc1,hf1⟩;have hx1:=HSH.out.fr hf1 (by simpa using hne);have ho1:=own_fr HOW.out hf1 (fun g hg=>by simpa using own_ne_rdr HOW.out (by decide) HRD.out g hg);have hv1:=HVO.out.fr hf1 HRD.out.notVar;have HF1:=zH (HFR.out.trans hf1 fun i hi _=>by simp at hi;simp[hi]);clear hf1 d0 d1 df hc1;obtain⟨Av,cv,rfl,-,-⟩:=own_shape ho1;have HF1s:=zH hr1;go_wp2_with fail;have hba:Below w1.heap.size w1 (w1.alloc (zO1 ((byte s.data.toList nx').toNat:Int) (x.num:Int) (textOf s (byte s.data.toList nx') x) A1 (pieces s x.kids).length cap1 (x.deep:Int))):=(Below.refl _ _).alloc (Nat.le_refl _) _;have hy4:(w1.alloc (zO1 ((byte s.data.toList nx').toNat:Int) (x.num:Int) (textOf s (byte s.data.toList nx') x) A1 (pieces s x.kids).length cap1 (x.deep:Int))).heap[w1.heap.size]? =some (zO1 ((byte s.data.toList nx').toNat:Int) (x.num:Int) (textOf s (byte s.data.toList nx') x) A1 (pieces s x.kids).length cap1 (x.deep:Int)):=Go.heap_alloc_new w1 _;generalize w1.alloc (zO1 ((byte s.data.toList nx').toNat:Int) (x.num:Int) (textOf s (byte s.data.toList nx') x) A1 (pieces s x.kids).length cap1 (x.deep:Int))=W at hba hy4⊢;have hrW:=hr1.fr (Fr.below (F:=[]) hba) (by simp);have hxW:=hx1.fr (Fr.below (F:=[]) hba) (by simp);have hoW:=own_below ho1 hba;have hvW:=hv1.below hba;have hFW:=HF1.out.trans (Fr.below (F:=[]) hba) (fun i hi _=>by cases hi);have hyb:w1.heap.size≠b/\w1.heap.size≠bx:=⟨fun e=>by have:=lt_of_block hr1;omega,fun e=>by have:=lt_of_block hx1;omega⟩;obtain⟨d0,d1,df⟩:=hrW.cells;obtain⟨-,-,-,c3,-,cf⟩:=hxW.cells;have d0A:=fun o=>(hrW.fr (Fr.below (F:=[]) ((Below.refl _ _).alloc (Nat.le_refl _) o)) (by simp)).cells.1
    have d1A:=fun o=>(hrW.fr (Fr.below (F:=[]) ((Below.refl _ _).alloc (Nat.le_refl _) o)) (by simp)).cells.2.1
    have c3A:=fun o=>(hxW.fr (Fr.below (F:=[]) ((Below.refl _ _).alloc (Nat.le_refl _) o)) (by simp)).cells.2.2.2.1
    have HRW:=zH (show RdrAt W.drew b s x.fin from hrW);have HXW:=zH (show ShapeAt W.drew bx op 0 text _ dp from hxW);have HOW2:=zH (show W.drew.ownsRow w.heap.size 28 1 _ _ _ from hoW);have HVW:=zH (show VarsOk W.drew from hvW);have HFW:=zH (show Fr [b,bx] w W.drew from hFW.drewN 1);have HYW:=zH (show W.drew.heap[w1.heap.size]? =_ from hy4);have hnxx:(nx':Int)<=(x.fin:Int):=by omega
    have hxs:(x.fin:Int)<=(s.size:Int):=by have:x.fin<=s.size:=z1;omega
    have hn0:(0:Int)<=(nx':Int):=by omega
    have hplen:(pieces s (pre++[nx'])).length=k:=by rw[pieces_len];simp;omega
    have HPL:=zH hplen;have HN1:=zH (show((pieces s (pre++[nx'])).length+1)*16<=140737488355328 by omega);have HN2:=zH (show(pieces s (pre++[nx'])).length+1<=140737488355328 by omega);have HSZ:=zH (HFW.out.size);clear hba hy4 hrW hxW hoW hvW hFW hr1 hx1 ho1 hv1 df cf hplen;have hoA:=own_below HOW2.out ((Below.refl _ _).alloc (Nat.le_refl _) (zO17 (s.extract nx' x.fin)):Below W.drew.heap.size W.drew (W.drew.alloc (zO17 (s.extract nx' x.fin))));have HOA:=zH hoA;have HSA:=zH (show w.heap.size<=(W.drew.alloc (zO17 (s.extract nx' x.fin))).heap.size from Nat.le_trans HSZ.out (by simp));have HXA:=zH (HXW.out.fr (Fr.below (F:=[]) ((Below.refl _ _).alloc (Nat.le_refl _) (zO17 (s.extract nx' x.fin)):Below W.drew.heap.size W.drew (W.drew.alloc (zO17 (s.extract nx' x.fin))))) (by simp));have HAP:=zH (fun(e:some bx=(Value.slice Av (pieces s (pre++[nx'])).length cv).ownBlock)=>own_ne_shape HOW2.out (by decide) HXW.out bx e.symm rfl);clear hoA;go_region_law (refine step_appk slTerm rfl (.tmp 33) (.tmp 44) rfl w.heap.size (.slice Av (pieces s (pre++[nx'])).length cv) (pieces s (pre++[nx'])).length (strs (pieces s (pre++[nx']))) (by rfl) (by exact HOA.out) (some ⟨W.heap.size,0,none⟩) 1 1 [.string (s.extract nx' x.fin)] (by rfl) (by rfl) (fun _=>⟨_,rfl,fun j u hj=>World.news_of_block (Go.heap_alloc_new W.drew _) j u hj⟩) (by simp[Value.oneCell']) HN1.out HN2.out HSA.out ?_;intro v6 w6 hown6 hg6 hb6 hat6;obtain⟨A6,c6,rfl,-,-⟩:=own_shape hown6;have hx6:=grown_keep hg6 HXA.out HAP.out;have g3:=(show ShapeAt w6 bx op 0 text _ dp from hx6).cells.2.2.2.1;have h3:=(show ShapeAt w6 bx op 0 text _ dp from hx6).cells.2.2.2.2.2 3)
    all_goals
     have hbal:Below W.drew.heap.size W.drew (W.drew.alloc (zO17 (s.extract nx' x.fin))):=(Below.refl _ _).alloc (Nat.le_refl _) _;have hr6:RdrAt w6 b s x.fin:=grown_keep hg6 (HRW.out.fr (Fr.below (F:=[]) hbal) (by simp)) (fun e=>own_ne_rdr HOW2.out (by decide) HRW.out b e.symm rfl);have hy6:ShapeAt w6 w1.heap.size ((byte s.data.toList nx').toNat:Int) (x.num:Int) (textOf s (byte s.data.toList nx') x) (.slice A1 (pieces s x.kids).length cap1) (x.deep:Int):=grown_keep hg6 (ShapeAt.fr (show ShapeAt W.drew w1.heap.size ((byte s.data.toList nx').toNat:Int) (x.num:Int) (textOf s (byte s.data.toList nx') x) (.slice A1 (pieces s x.kids).length cap1) (x.deep:Int)from HYW.out) (Fr.below (F:=[]) hbal) (by simp)) (fun e=>own_ne_shape HOW2.out (by decide) (show ShapeAt W.drew w1.heap.size ((byte s.data.toList nx').toNat:Int) (x.num:Int) (textOf s (byte s.data.toList nx') x) (.slice A1 (pieces s x.kids).length cap1) (x.deep:Int)from HYW.out) _ e.symm rfl);have hf6:Fr [b,bx] w w6:=(HFW.out.trans (Fr.below (F:=[]) hbal) (fun i hi _=>by cases hi)).trans (G:=(Value.slice Av (pieces s (pre++[nx'])).length cv).ownBlock.toList) ⟨hg6.os,hg6.tape,hg6.output,hg6.size,fun i hi hn=>hg6.block i hi (fun e=>hn (by rw[<-e];simp))⟩ (fun i hi hlt=>absurd (World.ownsRow.lt HOW2.out i (by simpa using hi)).1 (by omega));have hput:Fr [bx] w6 ((w6.drewN 0).setCell ⟨bx,3,none⟩ (.slice A6 ((pieces s (pre++[nx'])).length+1) c6)):=Fr.put w6 0 bx 3 _ (by simp);have hx7:=ShapeAt.putK (show ShapeAt w6 bx op 0 text _ dp from hx6) 0 (.slice A6 ((pieces s (pre++[nx'])).length+1) c6);have hr7:=hr6.fr hput (by simpa using fun e=>hne e.symm);have hy7:=hy6.fr hput (by simpa using hyb.2);have ho7:=own_fr hown6 hput (fun g hg=>by simpa using own_ne_shape hown6 (by decide) (show ShapeAt w6 bx op 0 text _ dp from hx6) g hg);have hf7:=hf6.trans hput (fun i hi _=>by simp at hi;simp[hi]);have HR7:=zH (show RdrAt (w6.setCell ⟨bx,3,none⟩ (.slice A6 ((pieces s (pre++[nx'])).length+1) c6)) b s x.fin from hr7);have HX7:=zH (show ShapeAt (w6.setCell ⟨bx,3,none⟩ (.slice A6 ((pieces s (pre++[nx'])).length+1) c6)) bx op 0 text (.slice A6 ((pieces s (pre++[nx'])).length+1) c6) dp from hx7);have HY7:=zH (show ShapeAt (w6.setCell ⟨bx,3,none⟩ (.slice A6 ((pieces s (pre++[nx'])).length+1) c6)) w1.heap.size ((byte s.data.toList nx').toNat:Int) (x.num:Int) (textOf s (byte s.data.toList nx') x) (.slice A1 (pieces s x.kids).length cap1) (x.deep:Int)from hy7);have HO7:=zH (show World.ownsRow (w6.setCell ⟨bx,3,none⟩ (.slice A6 ((pieces s (pre++[nx'])).length+1) c6)) w.heap.size 28 1 _ _ _ from ho7);have HF7:=zH (show Fr [b,bx] w (w6.setCell ⟨bx,3,none⟩ (.slice A6 ((pieces s (pre++[nx'])).length+1) c6))from hf7);clear hr6 hy6 hf6 hput hx7 hr7 hy7 ho7 hf7 hbal hx6 g3 h3 hown6 hg6 hb6 hat6 d0 d1 c3 d0A d1A c3A HRW HXW HOW2 HVW HFW HYW HOA HSA HXA HAP;go_wp2_with fail;generalize w6.setCell ⟨bx,3,none⟩ (.slice A6 ((pieces s (pre++[nx'])).length+1) c6)=w7 at HR7 HX7 HY7 HO7 HF7⊢;obtain⟨-,-,-,-,c4,-⟩:=HX7.out.cells;obtain⟨-,-,-,-,y4,-⟩:=HY7.out.cells;have hdw:IntKind.i64.wrap ((x.deep:Int)+1)=((x.deep+1:Nat):Int):=by rw[IntWalk.i64_in _ (by omega)];omega
     go_still_tail 11,(by kernel_rfl);change wpList _ _ _ _ _ w7.drew;have HR8:=zH (show RdrAt w7.drew b s x.fin from HR7.out);have HX8:=zH (show ShapeAt w7.drew bx op 0 text (.slice A6 ((pieces s (pre++[nx'])).length+1) c6) dp from HX7.out);have HO8:=zH (show w7.drew.ownsRow w.heap.size 28 1 _ _ _ from HO7.out);have HF8:=zH (show Fr [b,bx] w w7.drew from HF7.out.drewN 1);clear HR7 HX7 HY7 HO7 HF7 c4 y4;generalize w7.drew=w8 at HR8 HX8 HO8 HF8⊢;obtain⟨-,-,-,-,c4,cf⟩:=HX8.out.cells;have f4:=cf 4;clear cf;go_wp2_with fail;have emax:max (dp:Int) ((x.deep:Int)+1)=((max dp (x.deep+1):Nat):Int):=by omega
     rw[emax];go_roundw
     case rel=>
      have hput:Fr [bx] w8 ((w8.drewN 0).setCell ⟨bx,4,none⟩ (.int .i64 ((max dp (x.deep+1):Nat):Int))):=Fr.put w8 0 bx 4 _ (by simp);have hF9:=HF8.out.trans hput (fun i hi _=>by simp at hi;simp[hi]);refine⟨k+1,x.fin,max dp (x.deep+1),pre++[nx'],(.slice A6 ((pieces s (pre++[nx'])).length+1) c6),by omega,by go_num,HRN.out,by simp;omega,z1,by omega,HR8.out.fr hput (by simpa using fun e=>hne e.symm),HX8.out.putD 0 _, ?_,hF9, ?_⟩
      ·have ho:=own_fr HO8.out hput (fun g hg=>by simpa using own_ne_shape HO8.out (by decide) HX8.out g hg);rw[pieces_snoc,List.length_append];unfold strs at ho⊢;rw[List.map_append];exact ho
      ·exact HV.out.fr hF9 fun g hg=>by
        rcases List.mem_cons.1 hg with rfl|hg
        ·exact HR.out.notVar g (by simp)
        ·have:g=bx:=by simpa using hg
         subst this;exact HX.out.notVar
     case measure=>simp[intOf];omega
  ·have hkn:k=n:=by omega
   subst hkn;rw[Nat.sub_self]at hrest;have hRn:R=some (nx',dp,pre++[nx']):=by rw[<-hrest];rfl
   have hfin:KidsP R s b bx op text w (.returned (.bool true)) wr:=by
    rw[hRn];exact⟨rfl,hrd,⟨_,own_zero hown,hsh⟩,hfr⟩
   have HFI:=zH hfin;clear hfin hrest hrd hsh hown hfr hvo hRn;go_wp2_with fail;go_ret;exact HFI.out
end Go.Proofs.YtbiioifpeebjaaaGreatDoor
namespace Go.Proofs.YtbiioifpeebjaaaGreatDoor
open Go.RowKit
def metV (f:FuncId) (b:Nat):Value:= .func (.func f) #[.pointer (some ⟨b,0,none⟩)] #[]
def formV (b:Nat) (op:Int):Value:=
 if op=110 then metV 101 b else
 if op=116 then metV 102 b else
 if op=84 then metV 103 b else
 if op=80 then metV 104 b else
 if op=72 then metV 104 b else
 if op=83 then metV 105 b else
 if op=66 then metV 105 b else
 if op=88 then metV 105 b else
 if op=68 then metV 105 b else
 if op=86 then metV 105 b else
 if op=87 then metV 105 b else
 if op=75 then metV 105 b else
 if op=76 then metV 105 b else
 .nilFunc
set_option maxRecDepth 100000 in
set_option maxHeartbeats 8000000 in
theorem form_any (b:Nat) (op:Int) (w:World):Calls Tryz.prog 96 #[.pointer (some ⟨b,0,none⟩),.int .u8 op] w fun e w'=>e= .returned (formV b op)/\w'=w:=by
 have hmf: ∀(fn:Fn) (first cap:Array Value) (w:World),(Instr.makeFunc fn first cap).run Tryz.prog w= .ok (.func fn first cap) w:=fun fn first cap w=>by simp[Instr.makeFunc]
 by_cases h0:op=110
 ·subst h0;have hR:formV b 110=metV 101 b:=rfl;rw[hR];unfold metV;clear hR;go_enter Tryz.func96,Tryz.ntmps96;go_wp2_with fail;go_ret;exact⟨rfl,rfl⟩
 by_cases h1:op=116
 ·subst h1;have hR:formV b 116=metV 102 b:=rfl;rw[hR];unfold metV;clear hR;go_enter Tryz.func96,Tryz.ntmps96;go_wp2_with fail;go_ret;exact⟨rfl,rfl⟩
 by_cases h2:op=84
 ·subst h2;have hR:formV b 84=metV 103 b:=rfl;rw[hR];unfold metV;clear hR;go_enter Tryz.func96,Tryz.ntmps96;go_wp2_with fail;go_ret;exact⟨rfl,rfl⟩
 by_cases h3:op=80
 ·subst h3;have hR:formV b 80=metV 104 b:=rfl;rw[hR];unfold metV;clear hR;go_enter Tryz.func96,Tryz.ntmps96;go_wp2_with fail;go_ret;exact⟨rfl,rfl⟩
 by_cases h4:op=72
 ·subst h4;have hR:formV b 72=metV 104 b:=rfl;rw[hR];unfold metV;clear hR;go_enter Tryz.func96,Tryz.ntmps96;go_wp2_with fail;go_ret;exact⟨rfl,rfl⟩
 by_cases h5:op=83
 ·subst h5;have hR:formV b 83=metV 105 b:=rfl;rw[hR];unfold metV;clear hR;go_enter Tryz.func96,Tryz.ntmps96;go_wp2_with fail;go_ret;exact⟨rfl,rfl⟩
 by_cases h6:op=66
 ·subst h6;have hR:formV b 66=metV 105 b:=rfl;rw[hR];unfold metV;clear hR;go_enter Tryz.func96,Tryz.ntmps96;go_wp2_with fail;go_ret;exact⟨rfl,rfl⟩
 by_cases h7:op=88
 ·subst h7;have hR:formV b 88=metV 105 b:=rfl;rw[hR];unfold metV;clear hR;go_enter Tryz.func96,Tryz.ntmps96;go_wp2_with fail;go_ret;exact⟨rfl,rfl⟩
 by_cases h8:op=68
 ·subst h8;have hR:formV b 68=metV 105 b:=rfl;rw[hR];unfold metV;clear hR;go_enter Tryz.func96,Tryz.ntmps96;go_wp2_with fail;go_ret;exact⟨rfl,rfl⟩
 by_cases h9:op=86
 ·subst h9;have hR:formV b 86=metV 105 b:=rfl;rw[hR];unfold metV;clear hR;go_enter Tryz.func96,Tryz.ntmps96;go_wp2_with fail;go_ret;exact⟨rfl,rfl⟩
 by_cases h10:op=87
 ·subst h10;have hR:formV b 87=metV 105 b:=rfl;rw[hR];unfold metV;clear hR;go_enter Tryz.func96,Tryz.ntmps96;go_wp2_with fail;go_ret;exact⟨rfl,rfl⟩
 by_cases h11:op=75
 ·subst h11;have hR:formV b 75=metV 105 b:=rfl;rw[hR];unfold metV;clear hR;go_enter Tryz.func96,Tryz.ntmps96;go_wp2_with fail;go_ret;exact⟨rfl,rfl⟩
 by_cases h12:op=76
 ·subst h12;have hR:formV b 76=metV 105 b:=rfl;rw[hR];unfold metV;clear hR;go_enter Tryz.func96,Tryz.ntmps96;go_wp2_with fail;go_ret;exact⟨rfl,rfl⟩
 have hR:formV b op= .nilFunc:=by unfold formV;rw[if_neg h0,if_neg h1,if_neg h2,if_neg h3,if_neg h4,if_neg h5,if_neg h6,if_neg h7,if_neg h8,if_neg h9,if_neg h10,if_neg h11,if_neg h12]
 rw[hR];clear hR;go_enter Tryz.func96,Tryz.ntmps96;go_wp2_with fail;go_ret;exact⟨rfl,rfl⟩
set_option maxRecDepth 100000 in
set_option maxHeartbeats 4000000 in
theorem one_any (b bx:Nat) (s:ByteArray) (room at_:Nat) (op:Int) (text:ByteArray) (w:World) (hs:s.size<=1000000) (hroom:room<=1000)
 (HT: ∀(at_:Nat) (w:World),RdrAt w b s at_->at_<=s.size->VarsOk w->Calls Tryz.prog 91 #[.pointer (some ⟨b,0,none⟩),.int .i64 room] w (TermP s room at_ b w))
 (hr:RdrAt w b s at_) (hx:ShapeAt w bx op 0 text (.slice none 0 0) 1) (hat:at_<=s.size) (hv:VarsOk w):
 Calls Tryz.prog 104 #[.pointer (some ⟨b,0,none⟩),.pointer (some ⟨bx,0,none⟩),.int .i64 ((room+1:Nat):Int)] w (KidsP (kidsL (rd s.data.toList room) 1 at_ 1 [at_]) s b bx op text w):=by
 have HK:=zH (kids_any b bx s room 1 at_ op text w hs hroom (by decide) HT hr hx hat hv);obtain⟨R,hR⟩: ∃R,kidsL (rd s.data.toList room) 1 at_ 1 [at_]=R:=⟨_,rfl⟩;obtain⟨rm,hrm⟩: ∃rm:Int,((room+1:Nat):Int)=rm:=⟨_,rfl⟩;rw[hR,hrm]at HK;rw[hR,hrm];clear hr hx hv HT hR hrm;go_enter Tryz.func104,Tryz.ntmps104;go_wp2_with fail;refine HK.out.mono ?_;rintro e w1 hP;cases R with
 |none=>
  obtain⟨rfl,hf⟩:=hP;have HF:=zH hf;clear hf;go_wp2_with fail;go_ret;exact⟨rfl,HF.out⟩
 |some y=>
  obtain⟨fin,dp,ks⟩:=y;obtain⟨rfl,hrest⟩:=hP;have HF:=zH hrest;clear hrest;go_wp2_with fail;go_ret;exact⟨rfl,HF.out⟩
set_option maxRecDepth 100000 in
set_option maxHeartbeats 4000000 in
theorem two_any (b bx:Nat) (s:ByteArray) (room at_:Nat) (op:Int) (text:ByteArray) (w:World) (hs:s.size<=1000000) (hroom:room<=1000)
 (HT: ∀(at_:Nat) (w:World),RdrAt w b s at_->at_<=s.size->VarsOk w->Calls Tryz.prog 91 #[.pointer (some ⟨b,0,none⟩),.int .i64 room] w (TermP s room at_ b w))
 (hr:RdrAt w b s at_) (hx:ShapeAt w bx op 0 text (.slice none 0 0) 1) (hat:at_<=s.size) (hv:VarsOk w):
 Calls Tryz.prog 105 #[.pointer (some ⟨b,0,none⟩),.pointer (some ⟨bx,0,none⟩),.int .i64 ((room+1:Nat):Int)] w (KidsP (kidsL (rd s.data.toList room) 2 at_ 1 [at_]) s b bx op text w):=by
 have HK:=zH (kids_any b bx s room 2 at_ op text w hs hroom (by decide) HT hr hx hat hv);obtain⟨R,hR⟩: ∃R,kidsL (rd s.data.toList room) 2 at_ 1 [at_]=R:=⟨_,rfl⟩;obtain⟨rm,hrm⟩: ∃rm:Int,((room+1:Nat):Int)=rm:=⟨_,rfl⟩;rw[hR,hrm]at HK;rw[hR,hrm];clear hr hx hv HT hR hrm;go_enter Tryz.func105,Tryz.ntmps105;go_wp2_with fail;refine HK.out.mono ?_;rintro e w1 hP;cases R with
 |none=>
  obtain⟨rfl,hf⟩:=hP;have HF:=zH hf;clear hf;go_wp2_with fail;go_ret;exact⟨rfl,HF.out⟩
 |some y=>
  obtain⟨fin,dp,ks⟩:=y;obtain⟨rfl,hrest⟩:=hP;have HF:=zH hrest;clear hrest;go_wp2_with fail;go_ret;exact⟨rfl,HF.out⟩
def tupleN (s:List UInt8) (room at_:Nat):Option (Nat×Nat)->Option (Nat×Nat×List Nat)
 |none=>none
 |some (v,k)=>if v<=32 then kidsL (rd s room) v (at_+k+1) 1 [at_+k+1]else none
def tupleR (s:List UInt8) (room at_:Nat):Option (Nat×Nat×List Nat):=tupleN s room at_ (numL 58 (s.drop at_))
set_option maxRecDepth 100000 in
set_option maxHeartbeats 8000000 in
theorem tuple_any (b bx:Nat) (s:ByteArray) (room at_:Nat) (op:Int) (text:ByteArray) (w:World) (hs:s.size<=1000000) (hroom:room<=1000)
 (HT: ∀(at_:Nat) (w:World),RdrAt w b s at_->at_<=s.size->VarsOk w->Calls Tryz.prog 91 #[.pointer (some ⟨b,0,none⟩),.int .i64 room] w (TermP s room at_ b w))
 (hr:RdrAt w b s at_) (hx:ShapeAt w bx op 0 text (.slice none 0 0) 1) (hat:at_<=s.size) (hv:VarsOk w):
 Calls Tryz.prog 103 #[.pointer (some ⟨b,0,none⟩),.pointer (some ⟨bx,0,none⟩),.int .i64 ((room+1:Nat):Int)] w (KidsP (tupleR s.data.toList room at_) s b bx op text w):=by
 have hne:=hx.ne hr;have HX:=zH hx;have HRD:=zH hr;have HV:=zH hv;have HTT:=zH HT;have HN:=zH (num_any b s at_ 58 w hr hat hs hv);obtain⟨N,hN⟩: ∃N,numL 58 (s.data.toList.drop at_)=N:=⟨_,rfl⟩;have hlen:(s.data.toList.drop at_).length=s.size - at_:=by rw[List.length_drop];rfl
 have hrange: ∀v k,N=some (v,k)->v<9223372036854775808/\at_+k+1<=s.size:=fun v k h=>by
  have:=numL_some (hN.trans h);rw[hlen]at this;omega
 rw[show(58:Int).toNat.toUInt8=58 from rfl,hN]at HN;obtain⟨rm,hrm⟩: ∃rm:Int,((room+1:Nat):Int)=rm:=⟨_,rfl⟩;have HRM:=zH hrm;have hT:tupleR s.data.toList room at_=tupleN s.data.toList room at_ N:=by unfold tupleR;rw[hN]
 rw[hT,hrm];clear hr hx hv HT hN hT hlen hrm;cases N with
 |none=>
  unfold tupleN;go_enter Tryz.func103,Tryz.ntmps103;go_wp2_with fail;refine HN.out.mono ?_;rintro e w1 ⟨m,rfl,hf⟩;have HF:=zH (hf.mono (G:=[b,bx]) fun i hi _=>by simp at hi;simp[hi]);clear hf;go_wp2_with fail;go_ret;exact⟨rfl,HF.out⟩
 |some y=>
  obtain⟨v,k⟩:=y;obtain⟨hv63,hk⟩:=hrange v k rfl;unfold tupleN;simp only;by_cases h1:v<=32
  ·obtain⟨R,hR⟩: ∃R,kidsL (rd s.data.toList room) v (at_+k+1) 1 [at_+k+1]=R:=⟨_,rfl⟩;rw[if_pos h1,hR];have HRR:=zH hR;clear hR;go_enter Tryz.func103,Tryz.ntmps103;go_wp2_with fail;refine HN.out.mono ?_;rintro e w1 ⟨rfl,hr1,hf⟩;have hx1:=HX.out.fr hf (by simpa using hne);have hv1:=HV.out.fr hf HRD.out.notVar;have hK:=kids_any b bx s room v (at_+k+1) op text w1 hs hroom h1 HTT.out hr1 hx1 hk hv1;rw[HRR.out,HRM.out]at hK;have HK:=zH hK;have HF:=zH (hf.mono (G:=[b,bx]) fun i hi _=>by simp at hi;simp[hi]);clear hf hx1 hv1 hK hr1;go_wp2_with fail;refine HK.out.mono ?_;rintro e w2 hP;cases R with
   |none=>
    obtain⟨rfl,hf2⟩:=hP;have HF2:=zH (HF.out.trans hf2 fun i hi _=>hi);clear hf2;go_wp2_with fail;go_ret;exact⟨rfl,HF2.out⟩
   |some y=>
    obtain⟨fin,dp,ks⟩:=y;obtain⟨rfl,g1,g2,hf2⟩:=hP;have HF2:=zH (HF.out.trans hf2 fun i hi _=>hi);have HG1:=zH g1;have HG2:=zH g2;clear hf2 g1 g2;go_wp2_with fail;go_ret;exact⟨rfl,HG1.out,HG2.out,HF2.out⟩
  ·rw[if_neg h1];have h2: ¬((v:Int)<=32):=by omega
   go_enter Tryz.func103,Tryz.ntmps103;go_wp2_with fail;refine HN.out.mono ?_;rintro e w1 ⟨rfl,hr1,hf⟩;have HF:=zH (hf.mono (G:=[b,bx]) fun i hi _=>by simp at hi;simp[hi]);clear hf hr1;go_wp2_with fail;go_ret;exact⟨rfl,HF.out⟩
end Go.Proofs.YtbiioifpeebjaaaGreatDoor
namespace Go.Proofs.YtbiioifpeebjaaaGreatDoor
open Go.RowKit
def put5 (w:World) (g:Nat) (a b c d e:Value):World:=((((w.setCell ⟨g,0,none⟩ a).setCell ⟨g,1,none⟩ b).setCell ⟨g,2,none⟩ c).setCell ⟨g,3,none⟩ d).setCell ⟨g,4,none⟩ e
theorem put5_at {w:World} {g:Nat} {x0 x1 x2 x3 x4:Value} {T:TypeId} {z:Nat×Nat} (h:w.heap[g]? =some (.cells #[x0,x1,x2,x3,x4] T z)) (a b c d e:Value):(put5 w g a b c d e).heap[g]? =some (.cells #[a,b,c,d,e] T z):=by
 unfold put5;rw[setCell_cells (setCell_cells (setCell_cells (setCell_cells (setCell_cells h 0 a) 1 b) 2 c) 3 d) 4 e];rfl
theorem Fr.put0 {F:List Nat} (w:World) (g j:Nat) (u:Value) (hg:g∈F):Fr F w (w.setCell ⟨g,j,none⟩ u):=
 ⟨rfl,rfl,rfl,by simp[World.setCell],fun i _ hn=>Below.heap_setCell w ⟨g,j,none⟩ u i (fun e=>hn (by rw[show i=g from e];exact hg))⟩
theorem put5_fr (w:World) (g:Nat) (a b c d e:Value) {F:List Nat} (hg:g∈F):Fr F w (put5 w g a b c d e):=by
 unfold put5;exact((((Fr.put0 w g 0 a hg).trans (Fr.put0 _ g 1 b hg) (fun _ h _=>h)).trans (Fr.put0 _ g 2 c hg) (fun _ h _=>h)).trans (Fr.put0 _ g 3 d hg) (fun _ h _=>h)).trans (Fr.put0 _ g 4 e hg) (fun _ h _=>h)
set_option maxRecDepth 100000 in
set_option maxHeartbeats 8000000 in
theorem term_end (b:Nat) (s:ByteArray) (room:Nat) (w:World) (hr:RdrAt w b s s.size):
 Calls Tryz.prog 91 #[.pointer (some ⟨b,0,none⟩),.int .i64 room] w fun e w'=>e= .returned (.tuple #[shapeV 0 0 ⟨#[]⟩ (.slice none 0 0) 0,.bool false])/\Fr [b] w w':=by
 have hbA: ∀o,Below w.heap.size w (w.alloc o):=fun o=>(Below.refl _ _).alloc (Nat.le_refl _) o
 have hrA:=fun o=>hr.fr (Fr.below (F:=[]) (hbA o)) (by simp)
 have d0:=fun o=>(hrA o).cells.1
 have d1:=fun o=>(hrA o).cells.2.1
 have g1:((s.size:Int)==(s.size:Int))=true:=by simp
 clear hbA hrA hr;go_enter Tryz.func91,Tryz.ntmps91;go_wp2_with fail;go_big_quiet (fail);go_wp2_with fail;change bodyPost _ _ _ _ _ (put5 ((w.alloc (zO1 0 0 ⟨#[]⟩ none 0 0 0)).drewN nq) w.heap.size (.int .u8 0) (.int .i64 0) (.string ⟨#[]⟩) (.slice none 0 0) (.int .i64 0));have hA:=put5_at (w:=(w.alloc (zO1 0 0 ⟨#[]⟩ none 0 0 0)).drewN nq) (Go.heap_alloc_new w _) (.int .u8 0) (.int .i64 0) (.string ⟨#[]⟩) (.slice none 0 0) (.int .i64 0);have hF:Fr [b] w (put5 ((w.alloc (zO1 0 0 ⟨#[]⟩ none 0 0 0)).drewN nq) w.heap.size (.int .u8 0) (.int .i64 0) (.string ⟨#[]⟩) (.slice none 0 0) (.int .i64 0)):=((Fr.below (F:=[b]) ((Below.refl _ _).alloc (Nat.le_refl _) _)).drewN nq).trans (put5_fr _ _ _ _ _ _ _ (List.mem_singleton.2 rfl)) (fun i hi hlt=>absurd (show i=w.heap.size by simpa using hi) (by omega));generalize put5 ((w.alloc (zO1 0 0 ⟨#[]⟩ none 0 0 0)).drewN nq) w.heap.size (.int .u8 0) (.int .i64 0) (.string ⟨#[]⟩) (.slice none 0 0) (.int .i64 0)=Wf at hA hF⊢;obtain⟨r0,r1,r2,r3,r4,-⟩:=ShapeAt.cells (show ShapeAt Wf w.heap.size 0 0 ⟨#[]⟩ (.slice none 0 0) 0 from hA);exact bodyPost_ret (v:= .tuple #[shapeV 0 0 ⟨#[]⟩ (.slice none 0 0) 0,.bool false]) (by simp[results,Tryz.results91,go_sem,r0,r1,r2,r3,r4,shapeV]) rfl ⟨rfl,hF⟩
end Go.Proofs.YtbiioifpeebjaaaGreatDoor
namespace Go.Proofs.YtbiioifpeebjaaaGreatDoor
open Go.RowKit
def cutOf:Option (Nat×Nat×List Nat)->Option Cut
 |none=>none
 |some (e,dp,ks)=>some ⟨e,dp,0,0,ks⟩
def rdF (s:List UInt8) (room at_:Nat) (c:UInt8):Option Cut:=
 if c=110 then match numL 59 (s.drop (at_+1))with
  |none=>none
  |some (v,k)=>some ⟨at_+1+k+1,1,v,0,[]⟩
 else if c=116 then match numL 58 (s.drop (at_+1))with
  |none=>none
  |some (v,k)=>if v<=4096/\at_+1+k+1+v<=s.length then some ⟨at_+1+k+1+v,1,0,at_+1+k+1,[]⟩else none
 else match head s c at_ with
  |none=>none
  |some (n,nx)=>cutOf (kidsL (rd s room) n nx 1 [nx])
theorem rd_rdF {s:List UInt8} {room at_:Nat} {c:UInt8} (hc:s[at_]? =some c):rd s (room+1) at_=match rdF s room at_ c with|none=>none|some x=>if fitsB s c x.kids then some x else none:=by
 unfold rdF
 conv=>lhs;unfold rd
 rw[hc];simp only;by_cases h1:c=110
 ·rw[if_pos h1,if_pos h1];cases numL 59 (s.drop (at_+1))with
  |none=>rfl
  |some y=>obtain⟨v,k⟩:=y;subst h1;rfl
 rw[if_neg h1,if_neg h1];by_cases h2:c=116
 ·rw[if_pos h2,if_pos h2];cases numL 58 (s.drop (at_+1))with
  |none=>rfl
  |some y=>
   obtain⟨v,k⟩:=y;simp only;split
   ·subst h2;rfl
   ·rfl
 rw[if_neg h2,if_neg h2];cases head s c at_ with
 |none=>rfl
 |some y=>
  obtain⟨n,nx⟩:=y;simp only;cases kidsL (rd s room) n nx 1 [nx]with
  |none=>rfl
  |some r=>obtain⟨e,dp,ks⟩:=r;rfl
theorem cells_of_own {w:World} {base:Nat} {E:TypeId} {k n m c:Nat} {A:Option Addr} {xs:List Value} (h:w.ownsRow base E k (.slice A m c) n xs):Cells w A xs:=by
 obtain⟨A',c',hv,-,hc⟩:=own_shape h;injection hv with h1 h2 h3;subst h1;exact hc
def FormP (R:Option Cut) (s:ByteArray) (b bx:Nat) (op:Int) (c:UInt8) (w:World) (e:Ending) (w':World):Prop:=
 match R with
 |none=>e= .returned (.bool false)/\Fr [b,bx] w w'
 |some x=>e= .returned (.bool true)/\RdrAt w' b s x.fin/\(∃A cap,ShapeAt w' bx op x.num (textOf s c x) (.slice A (pieces s x.kids).length cap) x.deep/\w'.ownsRow 0 28 1 (.slice A (pieces s x.kids).length cap) (pieces s x.kids).length (strs (pieces s x.kids)))/\Fr [b,bx] w w'
theorem kids_form {R:Option (Nat×Nat×List Nat)} {s:ByteArray} {b bx:Nat} {op:Int} {c:UInt8} {w w':World} {e:Ending} (hc:c≠116) (h:KidsP R s b bx op ⟨#[]⟩ w e w'):FormP (cutOf R) s b bx op c w e w':=by
 cases R with
 |none=>exact h
 |some y=>
  obtain⟨fin,dp,ks⟩:=y;obtain⟨h1,h2,⟨v,ho,hx⟩,h3⟩:=h;obtain⟨A,cap,rfl,-,hcl⟩:=own_shape ho;refine⟨h1,h2,⟨A,cap, ?_,ho⟩,h3⟩;unfold textOf;rw[if_neg hc];exact hx
section
variable (b bx:Nat) (s:ByteArray) (room at_:Nat) (op:Int) (c:UInt8) (w:World) (hs:s.size<=1000000) (hroom:room<=1000)
 (HT: ∀(at_:Nat) (w:World),RdrAt w b s at_->at_<=s.size->VarsOk w->Calls Tryz.prog 91 #[.pointer (some ⟨b,0,none⟩),.int .i64 room] w (TermP s room at_ b w))
 (hr:RdrAt w b s (at_+1)) (hx:ShapeAt w bx op 0 ⟨#[]⟩ (.slice none 0 0) 1) (hat:at_+1<=s.size) (hv:VarsOk w)
include hs hroom HT hr hx hat hv
theorem name_form (hc:c=110):Calls Tryz.prog 101 #[.pointer (some ⟨b,0,none⟩),.pointer (some ⟨bx,0,none⟩),.int .i64 ((room+1:Nat):Int)] w (FormP (rdF s.data.toList room at_ c) s b bx op c w):=by
 have _:=hroom;have _:=HT;refine(name_any b bx s (at_+1) op 1 _ _ _ 0 w hr hx hat hs hv).mono fun e w' h=> ?_
 subst hc;unfold rdF;rw[if_pos rfl]
 revert h
 cases numL 59 (s.data.toList.drop (at_+1))with
 |none=>exact fun h=>h
 |some y=>
  obtain⟨v,k⟩:=y;exact fun h=>⟨h.1,h.2.1,⟨none,0,h.2.2.1,World.ownsRow_nil _ _ _ _⟩,h.2.2.2⟩
theorem text_form (hc:c=116):Calls Tryz.prog 102 #[.pointer (some ⟨b,0,none⟩),.pointer (some ⟨bx,0,none⟩),.int .i64 ((room+1:Nat):Int)] w (FormP (rdF s.data.toList room at_ c) s b bx op c w):=by
 have _:=hroom;have _:=HT;refine(text_any b bx s (at_+1) op 1 _ _ _ 0 w hr hx hat hs hv).mono fun e w' h=> ?_
 subst hc;unfold rdF;rw[if_neg (by decide),if_pos rfl]
 revert h
 cases numL 58 (s.data.toList.drop (at_+1))with
 |none=>exact fun h=>h
 |some y=>
  obtain⟨v,k⟩:=y;simp only;intro h;by_cases hv2:v<=4096/\at_+1+k+1+v<=s.size
  ·rw[if_pos hv2]at h;rw[if_pos (show v<=4096/\at_+1+k+1+v<=s.data.toList.length from hv2)];exact⟨h.1,h.2.1,⟨none,0,h.2.2.1,World.ownsRow_nil _ _ _ _⟩,h.2.2.2⟩
  ·rw[if_neg hv2]at h;rw[if_neg (show¬(v<=4096/\at_+1+k+1+v<=s.data.toList.length)from hv2)];exact h
theorem tuple_form (hc:c=84):Calls Tryz.prog 103 #[.pointer (some ⟨b,0,none⟩),.pointer (some ⟨bx,0,none⟩),.int .i64 ((room+1:Nat):Int)] w (FormP (rdF s.data.toList room at_ c) s b bx op c w):=by
 refine(tuple_any b bx s room (at_+1) op _ w hs hroom HT hr hx hat hv).mono fun e w' h=> ?_
 have h':=kids_form (c:=c) (by rw[hc];decide) h;subst hc;unfold rdF;rw[if_neg (by decide),if_neg (by decide)];unfold head;rw[if_pos rfl];unfold tupleR tupleN at h'
 revert h'
 cases numL 58 (s.data.toList.drop (at_+1))with
 |none=>exact fun h=>h
 |some y=>
  obtain⟨v,k⟩:=y;simp only;by_cases hv2:v<=32
  ·rw[if_pos hv2,if_pos hv2];exact fun h=>h
  ·rw[if_neg hv2,if_neg hv2];exact fun h=>h
theorem one_form (hc:c=80\/c=72):Calls Tryz.prog 104 #[.pointer (some ⟨b,0,none⟩),.pointer (some ⟨bx,0,none⟩),.int .i64 ((room+1:Nat):Int)] w (FormP (rdF s.data.toList room at_ c) s b bx op c w):=by
 have hn:c≠116/\c≠110:=by rcases hc with rfl|rfl<;>decide
 refine(one_any b bx s room (at_+1) op _ w hs hroom HT hr hx hat hv).mono fun e w' h=> ?_
 have h':=kids_form (c:=c) hn.1 h;unfold rdF;rw[if_neg hn.2,if_neg hn.1];have hh:head s.data.toList c at_=some (1,at_+1):=by rcases hc with rfl|rfl<;>rfl
 rw[hh];exact h'
theorem two_form (hc:c=83\/c=66\/c=88\/c=68\/c=86\/c=87\/c=75\/c=76):Calls Tryz.prog 105 #[.pointer (some ⟨b,0,none⟩),.pointer (some ⟨bx,0,none⟩),.int .i64 ((room+1:Nat):Int)] w (FormP (rdF s.data.toList room at_ c) s b bx op c w):=by
 have hn:c≠116/\c≠110:=by rcases hc with rfl|rfl|rfl|rfl|rfl|rfl|rfl|rfl<;>decide
 refine(two_any b bx s room (at_+1) op _ w hs hroom HT hr hx hat hv).mono fun e w' h=> ?_
 have h':=kids_form (c:=c) hn.1 h;unfold rdF;rw[if_neg hn.2,if_neg hn.1];have hh:head s.data.toList c at_=some (2,at_+1):=by rcases hc with rfl|rfl|rfl|rfl|rfl|rfl|rfl|rfl<;>rfl
 rw[hh];exact h'
end
theorem rdF_kids {s:List UInt8} {room at_:Nat} {c:UInt8} {x:Cut} (h:rdF s room at_ c=some x) (ha:at_<s.length):at_<x.fin/\x.fin<=s.length/\1<=x.deep/\x.deep<=room+1/\x.kids.length<=33/\(∀i,i<x.kids.length - 1->x.kids.getD i 0<x.kids.getD (i+1) 0/\x.kids.getD (i+1) 0<=s.length)/\(c=80\/c=76->1<=x.kids.length - 1)/\(c=88\/c=87->2<=x.kids.length - 1):=by
 unfold rdF at h;by_cases h1:c=110
 ·rw[if_pos h1]at h;split at h
  ·cases h
  ·rename_i v k hk;obtain⟨hv,q1,q2⟩:=numL_some hk;rw[List.length_drop]at q2;injection h with h;subst h;subst h1;exact⟨by simp only;omega,by simp only;omega,Nat.le_refl _,by simp only;omega,by simp,fun i hi=>by simp at hi,fun h=>by rcases h with h|h<;>exact absurd h (by decide),fun h=>by rcases h with h|h<;>exact absurd h (by decide)⟩
 rw[if_neg h1]at h;by_cases h2:c=116
 ·rw[if_pos h2]at h;split at h
  ·cases h
  ·rename_i v k hk;split at h
   ·rename_i hv;injection h with h;subst h;subst h2;exact⟨by simp only;omega,hv.2,Nat.le_refl _,by simp only;omega,by simp,fun i hi=>by simp at hi,fun h=>by rcases h with h|h<;>exact absurd h (by decide),fun h=>by rcases h with h|h<;>exact absurd h (by decide)⟩
   ·cases h
 rw[if_neg h2]at h;split at h
 ·cases h
 ·rename_i n nx hh;cases hk:kidsL (rd s room) n nx 1 [nx]with
  |none=>rw[hk]at h;cases h
  |some r=>
   obtain⟨e,dp,ks⟩:=r;rw[hk]at h;injection h with h;subst h;have hran:=head_range hh ha;have hg:=kidsL_range (fun a y hy=>rd_range room a hy) n nx 1 [] hk hran.2.1 trivial (Nat.le_refl _) (by omega);have he:=kidsL_each n nx 1 [] hk;have hlen:ks.length=n+1:=by have:=hg.2.2.2.2.2.1;simpa [Nat.add_comm]using this
   refine⟨by have:=hg.1;have:=hran.1;simp only;omega,hg.2.1,hg.2.2.1,hg.2.2.2.1,by simp only;omega,fun i hi=> ?_,fun hc=> ?_,fun hc=> ?_⟩
   ·simp only at hi⊢;obtain⟨a,y,e1,e2,e3⟩:=he.2 i (by simp) (by simp;omega);have hy:=rd_range room a e2;rw[List.getD_eq_getElem?_getD,List.getD_eq_getElem?_getD,e1,e3];exact⟨hy.lo,hy.hi⟩
   ·have:n=1\/n=2:=by
     rcases hc with rfl|rfl
     ·injection hh with hh;injection hh with hh _;exact .inl hh.symm
     ·injection hh with hh;injection hh with hh _;exact .inr hh.symm
    simp only;omega
   ·have:n=2:=by
     rcases hc with rfl|rfl<;>(injection hh with hh;injection hh with hh _;exact hh.symm)
    simp only;omega
end Go.Proofs.YtbiioifpeebjaaaGreatDoor
