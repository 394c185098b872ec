/- Transactions in memory. · SameLock at equal locks. · A transaction's id: the program's name, the document's id; times. · A map keyed by points: how often each was met. · The program's right transactions. -/
import Derived.Test.YtbiioifpeebjaaaGreatDoorQ9
import Derived.Test.YtbiioifpeebjaaaGreatDoorQ1
import Derived.StillTailTactics
import Derived.Test.YtbiioifpeebjaaaGreatDoorQ2
import Derived.Test.YtbiioifpeebjaaaGreatDoorShelfT
import Derived.Test.YtbiioifpeebjaaaGreatDoorQ0
import Derived.Maps.OwnSet
import Derived.Maps.Views
import Derived.DeepKeys5
import Derived.WideKeyEntry
import Derived.Test.YtbiioifpeebjaaaGreatDoorQ10
import Derived.Deep.DrawnRows
set_option linter.all false
namespace Go.Proofs.YtbiioifpeebjaaaGreatDoor
open Go.RowKit
def insC (l:List InT):List Value:=l.flatMap fun x=>[.string x.tx,.int .i64 x.pn,.int .i64 x.age]
def OutsC (w:World):List OutT->List Value->Prop
 |[],xs=>xs=[]
 |x::r,xs=> ∃cs rest,xs= .int .i64 x.value::cs++rest/\LockC w x.lock cs/\OutsC w r rest
theorem OutsC.below {w w':World} (hb:Below w.heap.size w w'): ∀(l:List OutT) (xs:List Value),OutsC w l xs->OutsC w' l xs
 |[],xs,h=>by unfold OutsC at h⊢;exact h
 |x::r,xs,h=>by
  unfold OutsC at h⊢;obtain⟨cs,rest,h1,h2,h3⟩:=h;exact⟨cs,rest,h1,LockC.below hb x.lock cs h2,OutsC.below hb r rest h3⟩
theorem LockC.len {w:World} {x:LockT} {cs:List Value} (h:LockC w x cs):cs.length=4:=by
 obtain⟨A,cap,ys,hcs,-,-⟩:=h.shape;rw[hcs];rfl
theorem OutsC.at_ {w:World}: ∀{l:List OutT} {xs:List Value},OutsC w l xs-> ∀(k:Nat) (hk:k<l.length),∃cs,LockC w l[k].lock cs/\cs.length=4/\xs[k*5]? =some (.int .i64 l[k].value)/\ ∀j,j<4->xs[k*5+(j+1)]? =cs[j]?
 |[],xs,_,k,hk=>absurd hk (by simp)
 |x::r,xs,h,k,hk=>by
  unfold OutsC at h;obtain⟨cs,rest,rfl,h2,h3⟩:=h;have hl:=h2.len;cases k with
  |zero=>exact⟨cs,h2,hl,rfl,fun j hj=>by rw[Nat.zero_mul,Nat.zero_add,List.cons_append,List.getElem?_cons_succ,List.getElem?_append_left (by omega)]⟩
  |succ k=>
   obtain⟨ds,g1,g2,g3,g4⟩:=OutsC.at_ h3 k (by simpa using hk);refine⟨ds,g1,g2, ?_,fun j hj=> ?_⟩
   ·rw[show(k+1)*5=(k*5+4)+1 by omega,List.cons_append,List.getElem?_cons_succ,List.getElem?_append_right (by omega),hl,show k*5+4 - 4=k*5 by omega];exact g3
   ·rw[show(k+1)*5+(j+1)=(k*5+(j+1)+4)+1 by omega,List.cons_append,List.getElem?_cons_succ,List.getElem?_append_right (by omega),hl,show k*5+(j+1)+4 - 4=k*5+(j+1) by omega];exact g4 j hj
theorem OutsC.len {w:World}: ∀{l:List OutT} {xs:List Value},OutsC w l xs->xs.length=l.length*5
 |[],xs,h=>by unfold OutsC at h;subst h;rfl
 |x::r,xs,h=>by
  unfold OutsC at h;obtain⟨cs,rest,rfl,h2,h3⟩:=h;rw[List.length_append,List.length_cons,h2.len,OutsC.len h3,List.length_cons];omega
theorem out_at {w:World} {A:Option Addr} {l:List OutT} {xs:List Value} (hc:Cells w A xs) (h:OutsC w l xs) {k:Nat} (hk:k<l.length): ∃(ad:Addr) (B:Option Addr) (cap:Nat),A=some ad/\
 w.cell? (ad.add (k*5))=some (.int .i64 l[k].value)/\w.cell? ⟨(ad.add (k*5)).block,(ad.add (k*5)).off+1,none⟩=some (.int .u8 l[k].lock.kind)/\w.cell? ⟨(ad.add (k*5)).block,(ad.add (k*5)).off+2,none⟩=some (.string l[k].lock.term)/\w.cell? ⟨(ad.add (k*5)).block,(ad.add (k*5)).off+3,none⟩=some (.int .i64 l[k].lock.n)/\w.cell? ⟨(ad.add (k*5)).block,(ad.add (k*5)).off+4,none⟩=some (.slice B l[k].lock.kids.length cap)/\
 LockC w l[k].lock [.int .u8 l[k].lock.kind,.string l[k].lock.term,.int .i64 l[k].lock.n,.slice B l[k].lock.kids.length cap]:=by
 obtain⟨ad,he,hcc⟩:=hc (by rw[h.len];omega);obtain⟨cs,h1,h2,h0,h3⟩:=h.at_ k hk;obtain⟨B,cap,ys,hcs,-,-⟩:=h1.shape;subst hcs;refine⟨ad,B,cap,he,hcc _ _ h0, ?_, ?_, ?_, ?_,h1⟩
 ·rw[add_next _ _ _ (by decide)];exact hcc _ _ (h3 0 (by decide))
 ·rw[add_next _ _ _ (by decide)];exact hcc _ _ (h3 1 (by decide))
 ·rw[add_next _ _ _ (by decide)];exact hcc _ _ (h3 2 (by decide))
 ·rw[add_next _ _ _ (by decide)];exact hcc _ _ (h3 3 (by decide))
theorem insC_get: ∀(l:List InT) (k:Nat) (hk:k<l.length),(insC l)[k*3]? =some (.string l[k].tx)/\(insC l)[k*3+1]? =some (.int .i64 l[k].pn)/\(insC l)[k*3+2]? =some (.int .i64 l[k].age)
 |[],k,hk=>absurd hk (by simp)
 |x::r,0,_=>⟨rfl,rfl,rfl⟩
 |x::r,k+1,hk=>by
  have h:=insC_get r k (by simpa using hk);have e:insC (x::r)=[.string x.tx,.int .i64 x.pn,.int .i64 x.age]++insC r:=rfl;rw[e,show(k+1)*3=k*3+3 by omega,List.getElem?_append_right (by simp),List.getElem?_append_right (by simp),List.getElem?_append_right (by simp)];refine⟨?_, ?_, ?_⟩
  ·rw[show k*3+3 - [Value.string x.tx,.int .i64 x.pn,.int .i64 x.age].length=k*3 by simp];exact h.1
  ·rw[show k*3+3+1 - [Value.string x.tx,.int .i64 x.pn,.int .i64 x.age].length=k*3+1 by simp];exact h.2.1
  ·rw[show k*3+3+2 - [Value.string x.tx,.int .i64 x.pn,.int .i64 x.age].length=k*3+2 by simp];exact h.2.2
theorem insC_len: ∀(l:List InT),(insC l).length=l.length*3
 |[]=>rfl
 |x::r=>by
  have e:insC (x::r)=[.string x.tx,.int .i64 x.pn,.int .i64 x.age]++insC r:=rfl;rw[e,List.length_append,insC_len r,List.length_cons];simp;omega
theorem in_at {w:World} {A:Option Addr} {l:List InT} (hc:Cells w A (insC l)) {k:Nat} (hk:k<l.length): ∃(ad:Addr),A=some ad/\
 w.cell? (ad.add (k*3))=some (.string l[k].tx)/\w.cell? ⟨(ad.add (k*3)).block,(ad.add (k*3)).off+1,none⟩=some (.int .i64 l[k].pn)/\w.cell? ⟨(ad.add (k*3)).block,(ad.add (k*3)).off+2,none⟩=some (.int .i64 l[k].age):=by
 obtain⟨ad,he,hcc⟩:=hc (by rw[insC_len];omega);obtain⟨h0,h1,h2⟩:=insC_get l k hk;refine⟨ad,he,hcc _ _ h0, ?_, ?_⟩
 ·rw[add_next _ _ _ (by decide)];exact hcc _ _ h1
 ·rw[add_next _ _ _ (by decide)];exact hcc _ _ h2
def TxC (w:World) (t:TxT) (A:Option Addr) (B:Option Addr):Prop:=Cells w A (insC t.ins)/\ ∃ys,Cells w B ys/\OutsC w t.outs ys
theorem TxC.below {w w':World} {t:TxT} {A B:Option Addr} (h:TxC w t A B) (hb:Below w.heap.size w w'):TxC w' t A B:=by
 obtain⟨h1,ys,h2,h3⟩:=h;exact⟨h1.below hb,ys,h2.below hb,OutsC.below hb t.outs ys h3⟩
theorem lsize_small: ∀(m:Nat) (x:LockT),sizeT x<=m->lsizeT x 150<=150->smallT x
 |0,x,h,_=>absurd (sizeT_pos x) (by omega)
 |m+1,.node k t n l,h,hl=>by
  unfold lsizeT at hl;unfold sizeT at h;have h0:lsizeTs l 150 (1+(t.size:Int) / 64)<=150:=by omega
  have go: ∀(l:List LockT) (c:Int),0<=c->sizeTs l<=m->lsizeTs l 150 c<=150->smallTs l/\c+(l.length:Int)<=150:=by
   intro l
   induction l with
   |nil=>intro c _ _ h;unfold lsizeTs at h;exact⟨by unfold smallTs;trivial,by simp;omega⟩
   |cons x r ih=>
    intro c hc hs h;unfold sizeTs at hs;unfold lsizeTs at h;split at h
    ·have g:=lsizeT_ge x 150 (by omega);obtain⟨i1,i2⟩:=ih (c+lsizeT x 150) (by omega) (by omega) h;have g2:=lsizeTs_ge r 150 (c+lsizeT x 150) (by omega);have hx:lsizeT x 150<=150:=by omega
     exact⟨by unfold smallTs;exact⟨lsize_small m x (by omega) hx,i1⟩,by rw[List.length_cons];push_cast;omega⟩
    ·omega
  have hn:0<=(t.size:Int) / 64:=Int.ediv_nonneg (by omega) (by omega);obtain⟨g1,g2⟩:=go l _ (by omega) (by omega) h0;unfold smallT;refine⟨?_, ?_,g1⟩
  ·have h5:(t.size:Int) / 64<=150:=by omega
   omega
  ·omega
end Go.Proofs.YtbiioifpeebjaaaGreatDoor
namespace Go.Proofs.YtbiioifpeebjaaaGreatDoor
open Go.RowKit
set_option maxRecDepth 100000 in
set_option maxHeartbeats 8000000 in
theorem same_step (k:Int) (t:ByteArray) (n:Int) (l:List LockT) (A B:Option Addr) (ca cb:Nat) (xs ys:List Value) (w:World) (hll:l.length<=1000000) (hcx:Cells w A xs) (hlx:LocksC w l xs) (hcy:Cells w B ys) (hly:LocksC w l ys)
 (HK: ∀(i:Nat) (hi:i<l.length) (W:World) (cs ds:List Value),LockC W l[i] cs->LockC W l[i] ds->Calls Tryz.prog 13 #[.agg cs.toArray,.agg ds.toArray] W fun e w'=>e= .returned (.bool true)/\Below W.heap.size W w'):
 Calls Tryz.prog 13 #[.agg #[.int .u8 k,.string t,.int .i64 n,.slice A l.length ca],.agg #[.int .u8 k,.string t,.int .i64 n,.slice B l.length cb]] w fun e w'=>e= .returned (.bool true)/\Below w.heap.size w w':=by
 have hbA:Below w.heap.size w (w.alloc (zO2 k t n A l.length ca)):=(Below.refl _ _).alloc (Nat.le_refl _) _;have hbB:Below (w.alloc (zO2 k t n A l.length ca)).heap.size (w.alloc (zO2 k t n A l.length ca)) ((w.alloc (zO2 k t n A l.length ca)).alloc (zO2 k t n B l.length cb)):=(Below.refl _ _).alloc (Nat.le_refl _) _;have p0:((w.alloc (zO2 k t n A l.length ca)).alloc (zO2 k t n B l.length cb)).cell? ⟨w.heap.size,0,none⟩=some (.int .u8 k):=cell_below hbB (alloc_cells 0 _ rfl);have p1:((w.alloc (zO2 k t n A l.length ca)).alloc (zO2 k t n B l.length cb)).cell? ⟨w.heap.size,1,none⟩=some (.string t):=cell_below hbB (alloc_cells 1 _ rfl);have p2:((w.alloc (zO2 k t n A l.length ca)).alloc (zO2 k t n B l.length cb)).cell? ⟨w.heap.size,2,none⟩=some (.int .i64 n):=cell_below hbB (alloc_cells 2 _ rfl);have p3:((w.alloc (zO2 k t n A l.length ca)).alloc (zO2 k t n B l.length cb)).cell? ⟨w.heap.size,3,none⟩=some (.slice A l.length ca):=cell_below hbB (alloc_cells 3 _ rfl);have hsz:(w.alloc (.cells #[.int .u8 k,.string t,.int .i64 n,.slice A l.length ca] 35)).heap.size=w.heap.size+1:=by simp
 have q0:((w.alloc (zO2 k t n A l.length ca)).alloc (zO2 k t n B l.length cb)).cell? ⟨w.heap.size+1,0,none⟩=some (.int .u8 k):=by rw[<-hsz];exact alloc_cells 0 _ rfl
 have q1:((w.alloc (zO2 k t n A l.length ca)).alloc (zO2 k t n B l.length cb)).cell? ⟨w.heap.size+1,1,none⟩=some (.string t):=by rw[<-hsz];exact alloc_cells 1 _ rfl
 have q2:((w.alloc (zO2 k t n A l.length ca)).alloc (zO2 k t n B l.length cb)).cell? ⟨w.heap.size+1,2,none⟩=some (.int .i64 n):=by rw[<-hsz];exact alloc_cells 2 _ rfl
 have q3:((w.alloc (zO2 k t n A l.length ca)).alloc (zO2 k t n B l.length cb)).cell? ⟨w.heap.size+1,3,none⟩=some (.slice B l.length cb):=by rw[<-hsz];exact alloc_cells 3 _ rfl
 have HB:=zH (hbA.trans (hbB.mono hbA.size));have P3:=zH p3;have Q3:=zH q3;have HKK:=zH HK;have HCX:=zH hcx;have HLX:=zH hlx;have HCY:=zH hcy;have HLY:=zH hly;clear HK hcx hlx hcy hly hbA hbB hsz;go_enter Tryz.func13,Tryz.ntmps13;go_wp2_with fail;go_loopw [5] (fun i wr=> ∃(j:Nat),j<=l.length/\i= .int .i64 (j:Int)/\Below ((w.alloc (zO2 k t n A l.length ca)).alloc (zO2 k t n B l.length cb)).heap.size ((w.alloc (zO2 k t n A l.length ca)).alloc (zO2 k t n B l.length cb)) wr) (fun i _=>l.length - (intOf i).toNat)
 case atStart=>exact⟨0,Nat.zero_le _,rfl,Below.refl _ _⟩
 case round=>
  obtain⟨j,hj,rfl,hbr⟩:=hrel;have c3:=cell_below hbr P3.out;have d3:=cell_below hbr Q3.out;have HBR:=zH (HB.out.trans (hbr.mono HB.out.size));have HBR2:=zH hbr;clear p0 p1 p2 p3 q0 q1 q2 q3;by_cases hlt:j<l.length
  ·have hbr0:=HBR.out;obtain⟨ad,C,cp,rfl,x0,x1,x2,x3,hlk⟩:=lock_at (Cells.below HCX.out hbr0) (LocksC.below hbr0 l xs HLX.out) hlt;obtain⟨bd,D,cq,rfl,y0,y1,y2,y3,hlm⟩:=lock_at (Cells.below HCY.out hbr0) (LocksC.below hbr0 l ys HLY.out) hlt;have hbd:Below wr.heap.size wr wr.drew:=(Below.refl _ _).drew;have HG:=zH (HKK.out j hlt wr.drew _ _ (LockC.below hbd _ _ hlk) (LockC.below hbd _ _ hlm));have HBD:=zH (HBR2.out.drew);clear hlk hlm hbr hbr0 hbd;go_upto_region 6 with fail;go_still_tail 10,(by kernel_rfl);change wpList _ _ _ _ _ wr.drew;generalize hdr:wr.drew=wd at HG HBD⊢;go_wp2_with (go_at_call 13;refine HG.out.mono ?_;rintro e w1 ⟨rfl,hb1⟩);have HB1:=zH (HBD.out.trans (hb1.mono HBD.out.size));clear hb1 hdr;go_wp2_with fail;go_roundw
   case rel=>exact⟨j+1,by omega,by go_num,HB1.out⟩
   case measure=>simp[intOf];omega
  ·have gj:decide ((j:Int)<(l.length:Int))=false:=decide_eq_false (by omega);clear hbr;go_wp2_with fail;go_ret;exact⟨rfl,HBR.out⟩
theorem same_all: ∀(m:Nat) (x:LockT) (cs ds:List Value) (w:World),sizeT x<=m->smallT x->LockC w x cs->LockC w x ds->Calls Tryz.prog 13 #[.agg cs.toArray,.agg ds.toArray] w fun e w'=>e= .returned (.bool true)/\Below w.heap.size w w'
 |0,x,_,_,_,hm,_,_,_=>absurd (sizeT_pos x) (by omega)
 |m+1,.node k t n l,cs,ds,w,hm,hs,hc,hd=>by
  unfold LockC at hc hd;obtain⟨A,ca,xs,rfl,h2,h3⟩:=hc;obtain⟨B,cb,ys,rfl,g2,g3⟩:=hd;obtain⟨s1,s2,s3⟩:=smallT_parts hs;exact same_step k t n l A B ca cb xs ys w s2 h2 h3 g2 g3 fun i hi W cs ds a b=>
   same_all m l[i] cs ds W (by have:=sizeTs_at i hi;have e:=sizeT_kids (.node k t n l);simp only[LockT.kids]at e;omega) (smallTs_at s3 i hi) a b
theorem sameLock_eq (x:LockT) (cs ds:List Value) (w:World) (hs:smallT x) (hc:LockC w x cs) (hd:LockC w x ds):Calls Tryz.prog 13 #[.agg cs.toArray,.agg ds.toArray] w fun e w'=>e= .returned (.bool true)/\Below w.heap.size w w':=
 same_all (sizeT x) x cs ds w (Nat.le_refl _) hs hc hd
end Go.Proofs.YtbiioifpeebjaaaGreatDoor
namespace Go.Proofs.YtbiioifpeebjaaaGreatDoor
open Go.RowKit Go.Shelf
def idOdd (r:Nat):Bool:=(decide (r<48)||decide (57<r))&&(decide (r<97)||decide (102<r))
theorem idOdd_byte (c:UInt8):idOdd c.toNat= !idByte c:=by
 unfold idOdd idByte;by_cases h1:48<=c.toNat<;>by_cases h2:c.toNat<=57<;>by_cases h3:97<=c.toNat<;>by_cases h4:c.toNat<=102<;>simp[h1,h2,h3,h4]<;>omega
theorem idIdx_ok (s:ByteArray) (h: ∀j (hj:j<s.size),idByte s[j]=true): ∀f pos,Lib.idxFuncFrom idOdd true s f pos= -1:=by
 intro f
 induction f with
 |zero=>intro pos;rfl
 |succ f ih=>
  intro pos;unfold Lib.idxFuncFrom;split
  ·rename_i hp;have hk:=h pos hp;have h128:(s[pos]).toNat<128:=by
    unfold idByte at hk;simp only[Bool.and_eq_true,Bool.or_eq_true,decide_eq_true_eq]at hk;omega
   rw[decode_ascii s pos hp h128];simp only[idOdd_byte,hk];rw[if_neg (by simp)];exact ih _
  ·rfl
theorem idIdx_bad (s:ByteArray) (j:Nat) (hj:j<s.size) (hb:idByte s[j]=false): ∀f pos,pos<=j->j - pos<f->0<=Lib.idxFuncFrom idOdd true s f pos:=by
 intro f
 induction f with
 |zero=>intro pos _ h;omega
 |succ f ih=>
  intro pos hp hf;have hps:pos<s.size:=by omega
  unfold Lib.idxFuncFrom;rw[if_pos hps];split
  ·omega
  ·rename_i hn;by_cases h128:(s[pos]).toNat<128
   ·rw[decode_ascii s pos hps h128]at hn⊢;simp only[idOdd_byte]at hn;have hne:pos≠j:=by
     intro e;subst e;rw[hb]at hn;exact hn rfl
    exact ih _ (by omega) (by omega)
   ·have h:=(decode_high s pos hps (by omega)).1;exfalso;refine hn ?_;unfold idOdd;simp;omega
theorem idIdx (s:ByteArray):decide (0<=Lib.idxFunc idOdd true s)= !(s.data.toList.all idByte):=by
 cases h:s.data.toList.all idByte with
 |true=>
  rw[show Lib.idxFunc idOdd true s= -1 from idIdx_ok s (fun j hj=>by
   rw[List.all_eq_true]at h;exact h _ (List.getElem_mem (l:=s.data.toList) (n:=j) (by simpa using hj))) _ _]
  rfl
 |false=>
  rw[List.all_eq_false]at h;obtain⟨x,hx,hb⟩:=h;obtain⟨j,hj,rfl⟩:=List.mem_iff_getElem.1 hx;have hj':j<s.size:=by simpa using hj
  exact decide_eq_true (idIdx_bad s j hj' (Bool.not_eq_true _ ▸ hb) _ _ (Nat.zero_le _) (by omega))
set_option maxRecDepth 100000 in
set_option maxHeartbeats 4000000 in
theorem idOdd_gives (w:World):PredAtRunes Tryz.prog 89 #[] idOdd w:=by
 intro W r _ _;unfold FnGives;have e:idOdd r=((decide (r<48)||decide (57<r))&&(decide (r<97)||decide (102<r))):=rfl;rw[e];clear e;by_cases h1:r<48
 ·have g1:decide ((r:Int)<48)=true:=decide_eq_true (by omega);have g3:decide ((r:Int)<97)=true:=decide_eq_true (by omega);go_enter Tryz.func89,Tryz.ntmps89;go_wp2_with fail;go_ret;refine⟨ret_bool ?_,0,rfl⟩;simp<;>omega
 have g1:decide ((r:Int)<48)=false:=decide_eq_false (by omega);by_cases h2:r<=57
 ·have g2:decide ((57:Int)<(r:Int))=false:=decide_eq_false (by omega);go_enter Tryz.func89,Tryz.ntmps89;go_wp2_with fail;go_ret;refine⟨ret_bool ?_,0,rfl⟩;simp<;>omega
 have g2:decide ((57:Int)<(r:Int))=true:=decide_eq_true (by omega);by_cases h3:r<97
 ·have g3:decide ((r:Int)<97)=true:=decide_eq_true (by omega);go_enter Tryz.func89,Tryz.ntmps89;go_wp2_with fail;go_ret;refine⟨ret_bool ?_,0,rfl⟩;simp<;>omega
 have g3:decide ((r:Int)<97)=false:=decide_eq_false (by omega);by_cases h4:r<=102
 ·have g4:decide ((102:Int)<(r:Int))=false:=decide_eq_false (by omega);go_enter Tryz.func89,Tryz.ntmps89;go_wp2_with fail;go_ret;refine⟨ret_bool ?_,0,rfl⟩;simp<;>omega
 ·have g4:decide ((102:Int)<(r:Int))=true:=decide_eq_true (by omega);go_enter Tryz.func89,Tryz.ntmps89;go_wp2_with fail;go_ret;refine⟨ret_bool ?_,0,rfl⟩;simp<;>omega
set_option maxRecDepth 100000 in
set_option maxHeartbeats 4000000 in
theorem txname_any (s:ByteArray) (w:World):Calls Tryz.prog 72 #[.string s] w fun e w'=>e= .returned (.bool (idB s))/\Below w.heap.size w w':=by
 obtain⟨R,hR⟩: ∃R,idB s=R:=⟨_,rfl⟩;rw[hR];by_cases h64:s.size=64
 ·have g0:((s.size:Int)==64)=true:=by rw[h64];rfl
  have HI:=zH (idIdx s);have HR:=zH (show s.data.toList.all idByte=R by rw[<-hR];unfold idB;rw[decide_eq_true h64,Bool.and_true]);have HC:=zH (Tryz.strings_ContainsFunc_runes 89 #[] (enters_of Tryz.func89 (by kernel_rfl) rfl) idOdd s w (idOdd_gives w));clear hR h64;go_enter Tryz.func72,Tryz.ntmps72;go_wp2_with fail;refine HC.out.mono ?_;rintro e w1 ⟨rfl,hb1⟩;have HB1:=zH hb1;clear hb1;go_wp2_with fail;go_ret;refine⟨ret_bool ?_,HB1.out⟩;rw[HI.out,HR.out];simp
 ·have g0:((s.size:Int)==64)=false:=beq_false_of_ne (by omega);have HR:=zH (show R=false by rw[<-hR];unfold idB;rw[decide_eq_false h64,Bool.and_false]);clear hR h64;go_enter Tryz.func72,Tryz.ntmps72;go_wp2_with fail;go_ret;rw[HR.out];exact⟨rfl,Below.refl _ _⟩
theorem idByte_iff (c:UInt8) (x:Int) (hx:(c.toNat:Int)=x):idByte c=(decide (48<=x)&&decide (x<=57)||decide (97<=x)&&decide (x<=102)):=by
 unfold idByte;subst hx;by_cases h1:48<=c.toNat<;>by_cases h2:c.toNat<=57<;>by_cases h3:97<=c.toNat<;>by_cases h4:c.toNat<=102<;>simp[h1,h2,h3,h4]<;>omega
theorem all_from (p:UInt8->Bool) (s:ByteArray) {k:Nat} (hk:k<s.size):(s.data.toList.drop k).all p=(p (byte s.data.toList k)&&(s.data.toList.drop (k+1)).all p):=by
 have hl:k<s.data.toList.length:=by simpa using hk
 rw[List.drop_eq_getElem_cons hl,List.all_cons];unfold byte;rw[List.getD_eq_getElem?_getD,List.getElem?_eq_getElem hl];rfl
end Go.Proofs.YtbiioifpeebjaaaGreatDoor
namespace Go.Proofs.YtbiioifpeebjaaaGreatDoor
open Go.RowKit
open Go.WideElems (Fit rd rg pl rd_val elemAt)
open Go.Maps (Keyed)
open Go.ChangeMaps (setBlock heap_setBlock_same)
open Go.WideMaps (KeyLaw)
section
variable {H:Type} {P:Program} {w:World} {t k e:TypeId} {R:Value->Option (DataW H×List MemPlace)} {b n:Nat} {D:DataW H}
theorem setBlock_twice (b:Nat) (o o':Obj):setBlock (setBlock w b o) b o'=setBlock w b o':=by
 unfold setBlock;simp[Array.setIfInBounds_setIfInBounds]
theorem setBlock_same {o:Obj} (h:w.heap[b]? =some o):setBlock w b o=w:=by
 unfold setBlock;congr 1;apply Array.ext_getElem?;intro i;rw[Array.getElem?_setIfInBounds];split
 ·rename_i hi;subst hi;rw[if_pos (Array.getElem?_eq_some_iff.1 h).1,h]
 ·rfl
theorem entry_own {z:Value} {zd:DataW H} {zp:List MemPlace} (h:w.ownsMap P k R b n D) (K:KeyLaw P k) (ht:P.underlying t=some (.map k e)) (hz: ∀u:World,(zeroValue e).run P u= .ok z u) (hzd:R z=some (zd,zp)) (hn:n<maxLen) {key:Value} {kl:Lit} (hkey:keyOf P k key=some kl):
 ∃(v0:Value) (st:Nat) (w1:World) (D1:DataW H),(Instr.mapEntry t (.map (some b)) key).run P w= .ok (.tuple #[v0,goInt st]) w1/\w1.ownsMap P k R b (n+1) D1/\D1.atKey kl zd=D.atKey kl zd/\w.grownBy w1 (some b)/\
  ∀(val:Value) (d:DataW H) (ps:List MemPlace),R val=some (d,ps)-> ∃w2,(Instr.entryStore t (.map (some b)) (goInt st) val).run P w1= .ok () w2/\w2.ownsMap P k R b (n+1) (D.put kl d)/\w.grownBy w2 (some b):=by
 have hown:=h;obtain⟨es,clock,hb,F,hs,hD⟩:=h;have KK:=Keyed.of_law K;obtain⟨v0,st,es1,clock1,hE,-,hS⟩:=Go.WideElems.entry_then_store K ht hz hb F hkey;have h1b:(setBlock w b (.map es1 clock1)).heap[b]? =some (.map es1 clock1):=heap_setBlock_same hb _;have hW1: ∃D1,(setBlock w b (.map es1 clock1)).ownsMap P k R b (n+1) D1/\D1.atKey kl zd=D.atKey kl zd:=by
  rcases K.find w hkey es.toList F.keys with⟨g1,g2⟩|⟨j,e0,g1,g2,g3⟩
  ·have e1:(Instr.mapEntry t (.map (some b)) key).run P w= .ok (.tuple #[z,goInt clock]) (setBlock w b (.map (es.push ⟨key,z,clock⟩) (clock+1))):=by
    simp[Instr.mapEntry,run_underlying ht,MapKept.run_getObj_map hb,K.check w false hkey,g1,hz,MapKept.run_setObj_map _ hb,Result.andThen,setBlock]
   have e2:(Instr.mapUpdate t (.map (some b)) key z).run P w= .ok () (setBlock w b (.map (es.push ⟨key,z,clock⟩) (clock+1))):=by
    simp[Instr.mapUpdate,run_underlying ht,MapKept.run_getObj_map hb,K.check w false hkey,g1,MapKept.run_setObj_map _ hb,Result.andThen,setBlock]
   rw[hE]at e1;injection e1 with e1 e3;obtain⟨w',hu,ho,-⟩:=hown.update KK ht hn hkey hzd;rw[e2]at hu;injection hu with _ hu;rw[e3,hu];refine⟨_,ho, ?_⟩;rw[Go.Maps.atKey_put_same hown.isMap (KK.key hkey)];rcases Maps.fit_look false KK ht (hz w) hb F hkey with⟨-,-,hat⟩|⟨e0,y,hm,hk0,-⟩
   ·rw[hD];exact(hat zd).symm
   ·exact absurd hk0 (g2 e0 hm)
  ·have hj:es[j]? =some e0:=by simpa using g2
   have hsame:es.modify j (fun e=>{e with key:=key})=es:=by
    apply Array.ext';rw[Array.toList_modify,Go.ChangeMaps.modify_eq_set _ _ _ _ g2];have:({e0 with key:=key}:MapEntry)=e0:=by rw[<-g3]
    rw[this];exact Go.WideElems.set_self _ _ _ g2
   have e1:(Instr.mapEntry t (.map (some b)) key).run P w= .ok (.tuple #[e0.val,goInt e0.born]) (setBlock w b (.map es clock)):=by
    simp[Instr.mapEntry,run_underlying ht,MapKept.run_getObj_map hb,K.check w false hkey,g1,hj,g3,K.stays w hkey,hsame,MapKept.run_setObj_map _ hb,Result.andThen,setBlock]
   rw[hE]at e1;injection e1 with e1 e3;rw[e3,setBlock_same hb];exact⟨D,hown.mono (by omega),rfl⟩
 obtain⟨D1,o1,a1⟩:=hW1;refine⟨v0,st,_,D1,hE,o1,a1, ?_,fun val d ps hv=> ?_⟩
 ·exact⟨rfl,rfl,rfl,by simp[setBlock],fun i _ hi=>Go.ChangeMaps.heap_setBlock_other hb _ (fun e=>hi (by rw[e]))⟩
 ·obtain⟨es',clock',r1,r2⟩:=hS _ val h1b;obtain⟨w',hu,ho,hg⟩:=hown.update KK ht hn hkey hv;rw[r2]at hu;injection hu with _ hu;refine⟨_,r1, ?_, ?_⟩
  ·rw[setBlock_twice,hu];exact ho
  ·rw[setBlock_twice,hu];exact hg
end
def ptV (x:InT):Value:= .agg #[.string x.tx,.int .i64 x.pn]
def ptL (x:InT):Lit:= .string (keyBytes [.string x.tx.data.toList,.int .i64 x.pn])
def ptOk (x:InT):Prop:=x.tx.size<=maxLen/\(Lit.int .i64 x.pn).wf=true
theorem pt_key {x:InT} (h:ptOk x):keyOf Tryz.prog 56 (ptV x)=some (ptL x):=by
 have hkt:Tryz.prog.keyType 56=true:=by kernel_rfl
 have hce:Tryz.prog.cellsOf 56=2:=by kernel_rfl
 have c1:Tryz.prog.cellsOf 9=1:=by kernel_rfl
 have c2:Tryz.prog.cellsOf 3=1:=by kernel_rfl
 obtain⟨m,hm⟩: ∃m,Tryz.prog.types.size=m+1:=⟨Tryz.prog.types.size - 1,by kernel_rfl⟩;unfold keyOf ptV ptL;simp only[Tryz.underlying56];rw[if_pos (by simp[hkt,Value.formed,Tryz.underlying56,hce]),hm];unfold Program.keyLits;simp only[Tryz.underlying56,Value.cells];rw[if_pos ⟨by rw[hce];rfl,by kernel_rfl⟩];simp[List.mapM_cons,Program.keyLits,Tryz.underlying9,Tryz.underlying3,c1,c2,h.1,h.2]
theorem ptLaw:KeyLaw Tryz.prog 56:=deep_law_gate (by kernel_rfl) (of_decide_eq_true (by kernel_rfl)) (of_decide_eq_true (by kernel_rfl)) (by kernel_rfl) (by kernel_rfl)
theorem ptL_inj {x y:InT} (hx:ptOk x) (hy:ptOk y) (h:ptL x=ptL y):ptEq x y=true:=by
 have:=ptLaw.inj (pt_key hx) (by rw[h];exact pt_key hy);unfold ptV at this;injection this with this;injection this with this;injection this with h1 h2;injection h2 with h2 _;injection h1 with h1;injection h2 with _ h2;unfold ptEq;rw[h1,h2];simp
theorem ptL_eq {x y:InT} (h:ptEq x y=true):ptL x=ptL y:=by
 unfold ptEq at h;rw[Bool.and_eq_true]at h;have h1:x.tx.toList=y.tx.toList:=eq_of_beq h.1;have h2:x.pn=y.pn:=eq_of_beq h.2;unfold ptL;rw[h2,show x.tx.data.toList=y.tx.data.toList by rw[<-Go.ByteArray.toList_eq,<-Go.ByteArray.toList_eq,h1]]
def Met (w:World) (b:Nat) (seen:List InT):Prop:= ∃(n:Nat) (D:DataW Unit),w.ownsMap Tryz.prog 56 (plainElem Tryz.prog 3) b n D/\n<=seen.length/\ ∀x,ptOk x->D.atKey (ptL x) (.lit (.int .i64 0))= .lit (.int .i64 (if seen.any (ptEq x)then 1 else 0))
theorem Met.start (w:World):Met (w.alloc (.map #[] 0)) w.heap.size []:=
 ⟨0,_,World.ownsMap_made w _ _ _,Nat.le_refl _,fun _ _=>rfl⟩
theorem Met.lt {w:World} {b:Nat} {seen:List InT} (h:Met w b seen):b<w.heap.size:=by
 obtain⟨n,D,h1,-⟩:=h;exact h1.lt
theorem Met.below {w w':World} {b:Nat} {seen:List InT} (h:Met w b seen) (hb:Below w.heap.size w w'):Met w' b seen:=by
 obtain⟨n,D,h1,h2,h3⟩:=h;obtain⟨es,clock,g1,g2⟩:=h1;exact⟨n,D,⟨es,clock,(hb.block b (Array.getElem?_eq_some_iff.1 g1).1).trans g1,g2⟩,h2,h3⟩
theorem Met.grown {w w':World} {b g:Nat} {seen:List InT} (h:Met w b seen) (hg:w.grownBy w' (some g)) (hne:b≠g):Met w' b seen:=by
 obtain⟨n,D,h1,h2,h3⟩:=h;exact⟨n,D,h1.kept hg (fun e=>hne (by injection e)),h2,h3⟩
theorem if_one {p:Bool} {c:Int} (h:(if p then(1:Int)else 0)=c):(p=true/\c=1)\/(p=false/\c=0):=by
 cases p
 ·exact .inr ⟨rfl,h.symm⟩
 ·exact .inl ⟨rfl,h.symm⟩
theorem lit_inj {a b:Int} (h:(DataW.lit (.int .i64 a):DataW Unit)= .lit (.int .i64 b)):a=b:=by
 injection h with h;injection h
theorem Met.step {w:World} {b:Nat} {seen:List InT} (h:Met w b seen) (hl:seen.length<=1000) {x:InT} (hx:ptOk x):
 ∃(c:Int) (v0:Value) (st:Nat) (w1 w2:World),c=(if seen.any (ptEq x)then 1 else 0)/\(Instr.lookup 129 (.map (some b)) (ptV x) false).run Tryz.prog w= .ok (.int .i64 c) w/\
  (Instr.mapEntry 129 (.map (some b)) (ptV x)).run Tryz.prog w= .ok (.tuple #[v0,goInt st]) w1/\(Instr.lookup 129 (.map (some b)) (ptV x) false).run Tryz.prog w1= .ok (.int .i64 c) w1/\w.grownBy w1 (some b)/\
  (Instr.entryStore 129 (.map (some b)) (goInt st) (.int .i64 (c+1))).run Tryz.prog w1= .ok () w2/\w.grownBy w2 (some b)/\(Instr.lookup 129 (.map (some b)) (ptV x) false).run Tryz.prog w2= .ok (.int .i64 (c+1)) w2/\(c=0->Met w2 b (seen++[x])):=by
 obtain⟨n,D,h1,h2,h3⟩:=h;have KK:=Keyed.of_law ptLaw;have hmax:n<maxLen:=by unfold maxLen;omega
 have hz: ∀u:World,(zeroValue 3).run Tryz.prog u= .ok (.int .i64 0) u:=fun u=>Tryz.zeroValue3 u
 have hzd:plainElem (H:=Unit) Tryz.prog 3 (.int .i64 0)=some (.lit (.int .i64 0),[]):=plainElem_int Tryz.underlying3 (by decide);obtain⟨c,l0,a0,-⟩:=h1.lookup_int KK Tryz.underlying129 Tryz.underlying3 (hz w) (pt_key hx);have hc:c=(if seen.any (ptEq x)then 1 else 0):=by
  exact(lit_inj ((h3 x hx).symm.trans a0)).symm
 have hwf:(Lit.int .i64 (c+1)).wf=true:=by rw[hc];cases seen.any (ptEq x)<;>decide
 obtain⟨v0,st,w1,D1,e1,o1,a1,g1,hS⟩:=entry_own h1 ptLaw Tryz.underlying129 hz hzd hmax (pt_key hx);obtain⟨c1,l1,b1,-⟩:=o1.lookup_int KK Tryz.underlying129 Tryz.underlying3 (hz w1) (pt_key hx);have hc1:c1=c:=lit_inj ((b1.symm.trans a1).trans a0);subst hc1;obtain⟨w2,e2,o2,g2⟩:=hS (.int .i64 (c1+1)) _ [] (plainElem_int Tryz.underlying3 hwf);obtain⟨c2,l2,b2,-⟩:=o2.lookup_int KK Tryz.underlying129 Tryz.underlying3 (hz w2) (pt_key hx);have hput:=Go.Maps.atKey_put_same h1.isMap (KK.key (pt_key hx)) (.lit (.int .i64 (c1+1))) (.lit (.int .i64 0));have hc2:c2=c1+1:=lit_inj (b2.symm.trans hput);subst hc2;refine⟨c1,v0,st,w1,w2,hc,l0,e1,l1,g1,e2,g2,l2,fun h0=>⟨n+1,_,o2,by rw[List.length_append];simp;omega,fun y hy=> ?_⟩⟩;rw[List.any_append];by_cases he:ptEq y x=true
 ·rw[ptL_eq he,hput,h0];simp[he]
 ·have hne:ptL y≠ptL x:=fun e=>he (ptL_inj hy hx e)
  rw[Go.Maps.atKey_put_other hne,h3 y hy];simp[he]
end Go.Proofs.YtbiioifpeebjaaaGreatDoor
namespace Go.Proofs.YtbiioifpeebjaaaGreatDoor
open Go.RowKit
def smallTx (t:TxT):Prop:=(∀x∈t.ins,ptOk x/\x.tx.size<=1125899906842624)/\(∀o∈t.outs,smallT o.lock)/\t.ins.length<=1000/\t.outs.length<=1000
def TxBox (w:World) (b:Nat) (A:Option Addr) (n ca:Nat) (B:Option Addr) (m cb:Nat) (after tag:Int):Prop:=w.heap[b]? =some (zO6 A n ca B m cb after tag)
theorem TxBox.cells {w:World} {b:Nat} {A:Option Addr} {n ca:Nat} {B:Option Addr} {m cb:Nat} {after tag:Int} (h:TxBox w b A n ca B m cb after tag):w.cell? ⟨b,0,none⟩=some (.slice A n ca)/\w.cell? ⟨b,1,none⟩=some (.slice B m cb)/\w.cell? ⟨b,2,none⟩=some (.int .i64 after)/\w.cell? ⟨b,3,none⟩=some (.int .i64 tag):=by
 unfold TxBox at h;exact⟨by simp[World.cell?,h],by simp[World.cell?,h],by simp[World.cell?,h],by simp[World.cell?,h]⟩
theorem TxBox.fr {F:List Nat} {w w':World} {b:Nat} {A:Option Addr} {n ca:Nat} {B:Option Addr} {m cb:Nat} {after tag:Int} (h:TxBox w b A n ca B m cb after tag) (hf:Fr F w w') (hb:b∉F):TxBox w' b A n ca B m cb after tag:=(hf.block b (lt_of_block h) hb).trans h
theorem TxBox.below {w w':World} {b:Nat} {A:Option Addr} {n ca:Nat} {B:Option Addr} {m cb:Nat} {after tag:Int} (h:TxBox w b A n ca B m cb after tag) (hb:Below w.heap.size w w'):TxBox w' b A n ca B m cb after tag:=h.fr (Fr.below (F:=[]) hb) (by simp)
theorem headB_eq (ins:List InT) (outs:List OutT) (after tag:Int):headB ⟨ins,outs,after,tag⟩=(!(decide ((64:Int)<(ins.length:Int)))&& !((outs.length:Int)==0)&& !(decide ((64:Int)<(outs.length:Int)))&& !(decide (after<0))&& !(decide (1073741824<=after))&& !(decide (tag<0))&& !(decide (4611686018427387904<tag))):=by
 unfold headB timeB;simp only;generalize ins.length=a;generalize outs.length=b;by_cases h1:a<=64<;>by_cases h2:1<=b<;>by_cases h3:b<=64<;>by_cases h4:0<=after<;>by_cases h5:after<1073741824<;>by_cases h6:0<=tag<;>by_cases h7:tag<=4611686018427387904<;>simp[h1,h2,h3,h4,h5,h6,h7]<;>omega
set_option maxRecDepth 100000 in
set_option maxHeartbeats 16000000 in
theorem txright_any (ins:List InT) (outs:List OutT) (after tag:Int) (A B:Option Addr) (ca cb:Nat) (w:World) (hs:smallTx ⟨ins,outs,after,tag⟩) (hc:TxC w ⟨ins,outs,after,tag⟩ A B) (hv:VarsOk w):
 Calls Tryz.prog 50 #[.agg #[.slice A ins.length ca,.slice B outs.length cb,.int .i64 after,.int .i64 tag]] w fun e w'=>e= .returned (.bool (txB ⟨ins,outs,after,tag⟩))/\Below w.heap.size w w':=by
 have hb0:Below w.heap.size w (w.alloc (zO6 A ins.length ca B outs.length cb after tag)):=(Below.refl _ _).alloc (Nat.le_refl _) _;have hbx:TxBox (w.alloc (zO6 A ins.length ca B outs.length cb after tag)) w.heap.size A ins.length ca B outs.length cb after tag:=Go.heap_alloc_new w _;obtain⟨p0,p1,p2,p3⟩:=hbx.cells;have HB:=zH hb0;have HX:=zH hbx;have HC:=zH hc;have HS:=zH hs;have HV:=zH hv;obtain⟨R,hR⟩: ∃R,txB ⟨ins,outs,after,tag⟩=R:=⟨_,rfl⟩;rw[hR];have HR:=zH (show(headB ⟨ins,outs,after,tag⟩&&insB [] ins&&outsB maxCoin outs)=R by rw[<-hR];rfl);have HH:=zH (headB_eq ins outs after tag);clear hR hb0 hbx hc hs hv;cases g1:decide ((64:Int)<(ins.length:Int))with
 |true=>
  have HN:=zH (show R=false by rw[<-HR.out,HH.out,g1];simp);go_enter Tryz.func50,Tryz.ntmps50;go_wp2_with fail;go_ret;rw[HN.out];exact⟨rfl,HB.out⟩
 |false=>
  cases g2:((outs.length:Int)==0)with
  |true=>
   have HN:=zH (show R=false by rw[<-HR.out,HH.out,g1,g2];simp);go_enter Tryz.func50,Tryz.ntmps50;go_wp2_with fail;go_ret;rw[HN.out];exact⟨rfl,HB.out⟩
  |false=>
   cases g3:decide ((64:Int)<(outs.length:Int))with
   |true=>
    have HN:=zH (show R=false by rw[<-HR.out,HH.out,g1,g2,g3];simp);go_enter Tryz.func50,Tryz.ntmps50;go_wp2_with fail;go_ret;rw[HN.out];exact⟨rfl,HB.out⟩
   |false=>
    cases g4:decide (after<0)with
    |true=>
     have HN:=zH (show R=false by rw[<-HR.out,HH.out,g1,g2,g3,g4];simp);go_enter Tryz.func50,Tryz.ntmps50;go_wp2_with fail;go_ret;rw[HN.out];exact⟨rfl,HB.out⟩
    |false=>
     cases g5:decide (1073741824<=after)with
     |true=>
      have HN:=zH (show R=false by rw[<-HR.out,HH.out,g1,g2,g3,g4,g5];simp);go_enter Tryz.func50,Tryz.ntmps50;go_wp2_with fail;go_ret;rw[HN.out];exact⟨rfl,HB.out⟩
     |false=>
      cases g6:decide (tag<0)with
      |true=>
       have HN:=zH (show R=false by rw[<-HR.out,HH.out,g1,g2,g3,g4,g5,g6];simp);go_enter Tryz.func50,Tryz.ntmps50;go_wp2_with fail;go_ret;rw[HN.out];exact⟨rfl,HB.out⟩
      |false=>
       cases g7:decide (4611686018427387904<tag)with
       |true=>
        have HN:=zH (show R=false by rw[<-HR.out,HH.out,g1,g2,g3,g4,g5,g6,g7];simp);go_enter Tryz.func50,Tryz.ntmps50;go_wp2_with fail;go_ret;rw[HN.out];exact⟨rfl,HB.out⟩
       |false=>
        have HN:=zH (show(insB [] ins&&outsB maxCoin outs)=R by rw[<-HR.out,HH.out,g1,g2,g3,g4,g5,g6,g7];simp);obtain⟨s1,s2,s3,s4⟩:=HS.out;have S1:=zH s1;have S2:=zH s2;have hmm:= @run_makeMap Tryz.prog;have hL1:ins.length<=64:=by have:=of_decide_eq_false g1;omega
        have hL2:outs.length<=64:=by have:=of_decide_eq_false g3;omega
        have hm0:=Met.start (w.alloc (zO6 A ins.length ca B outs.length cb after tag));have hbm:Below (w.alloc (zO6 A ins.length ca B outs.length cb after tag)).heap.size (w.alloc (zO6 A ins.length ca B outs.length cb after tag)) ((w.alloc (zO6 A ins.length ca B outs.length cb after tag)).alloc (.map #[] 0)):=(Below.refl _ _).alloc (Nat.le_refl _) _;have hsz0:(w.alloc (.cells #[.slice A ins.length ca,.slice B outs.length cb,.int .i64 after,.int .i64 tag] 51)).heap.size=w.heap.size+1:=by simp
        rw[hsz0]at hm0;have HM:=zH hm0;have HX1:=zH (HX.out.below hbm);have HB1:=zH (HB.out.trans (hbm.mono HB.out.size));obtain⟨q0,q1,q2,q3⟩:=HX1.out.cells;clear s1 s2 s3 s4 hm0 hbm;go_enter Tryz.func50,Tryz.ntmps50;go_wp2_with fail;go_loopw [49] (fun i wr=> ∃j:Nat,j<=ins.length/\i= .int .i64 (j:Int)/\(insB (ins.take j) (ins.drop j)&&outsB maxCoin outs)=R/\Met wr (w.heap.size+1) (ins.take j)/\TxBox wr w.heap.size A ins.length ca B outs.length cb after tag/\Below w.heap.size w wr) (fun i _=>ins.length - (intOf i).toNat)
        case atStart=>exact⟨0,Nat.zero_le _,rfl,by rw[List.drop_zero,List.take_zero];exact HN.out,by rw[List.take_zero];exact HM.out,HX1.out,HB1.out⟩
        case round=>
         obtain⟨j,hj,rfl,hrest,hmet,hbox,hbr⟩:=hrel;clear p0 p1 p2 p3 q0 q1 q2 q3 hmm;by_cases hlt:j<ins.length
         ·obtain⟨ad,rfl,x0,x1,x2⟩:=in_at (HC.out.below hbr).1 hlt;have hdrop:ins.drop j=ins[j]::ins.drop (j+1):=List.drop_eq_getElem_cons hlt;have htake:ins.take (j+1)=ins.take j++[ins[j]]:=List.take_succ_eq_append_getElem hlt;rw[hdrop]at hrest;have hpt:=(S1.out ins[j] (List.getElem_mem hlt)).1;obtain⟨x,hx⟩: ∃x,ins[j]=x:=⟨_,rfl⟩;rw[hx]at x0 x1 x2 hrest htake hpt;have HT:=zH htake;have hbn:Below wr.heap.size wr (wr.alloc (zO12 x.tx x.pn x.age)):=(Below.refl _ _).alloc (Nat.le_refl _) _;have HMR:=zH hmet;obtain⟨c,v0,st,u1,u2,hc0,l0,e1,l1,hg1,e2,hg2,l2,hnext⟩:=Met.step (w:=(wr.alloc (zO12 x.tx x.pn x.age)).drew) (show Met (wr.alloc (zO12 x.tx x.pn x.age)).drew (w.heap.size+1) (ins.take j)from hmet.below hbn.drew) (by rw[List.length_take];omega) hpt;have y0:(wr.alloc (zO12 x.tx x.pn x.age)).cell? ⟨wr.heap.size,0,none⟩=some (.string x.tx):=alloc_cells 0 _ rfl;have y1:(wr.alloc (zO12 x.tx x.pn x.age)).cell? ⟨wr.heap.size,1,none⟩=some (.int .i64 x.pn):=alloc_cells 1 _ rfl;have y2:(wr.alloc (zO12 x.tx x.pn x.age)).cell? ⟨wr.heap.size,2,none⟩=some (.int .i64 x.age):=alloc_cells 2 _ rfl;have hbi:(wr.alloc (zO12 x.tx x.pn x.age)).heap[wr.heap.size]? =some (zO12 x.tx x.pn x.age):=Go.heap_alloc_new wr _;have hml:w.heap.size+1<wr.heap.size:=Met.lt hmet;have hbi1:=(grown_fr hg1).block wr.heap.size (lt_of_block hbi) (by simp;omega);have hbi2:=(grown_fr hg2).block wr.heap.size (lt_of_block hbi) (by simp;omega);have HU1:=zH (show u1.heap[wr.heap.size]? =_ from hbi1.trans hbi);have HU2:=zH (show u2.heap[wr.heap.size]? =_ from hbi2.trans hbi);have HXU:=zH ((hbox.below hbn.drew).fr (grown_fr hg2) (by simp));have HBU:=zH ((hbr.trans (hbn.drew.mono hbr.size)).trans ((grown_fr hg2).toBelowOf (B:=w.heap.size) ((hbr.trans (hbn.drew.mono hbr.size)).size) (by simp)));have HC0:=zH hc0;have HNX:=zH hnext;have HREST:=zH hrest;unfold ptV at l0 e1 l1 l2;have L0:=zH l0;have L1:=zH l1;have L2:=zH l2;have E1:=zH e1;have hwr:IntKind.i64.wrap (c+1)=c+1:=IntWalk.i64_in _ (by rcases if_one hc0.symm with⟨-,h⟩|⟨-,h⟩<;>omega);have E2:=zH (show(Instr.entryStore 129 (.map (some (w.heap.size+1))) (.int .i64 (st:Int)) (.int .i64 (c+1))).run Tryz.prog u1= .ok () u2 from e2);clear hbn hc0 hnext hrest hmet hbox hbr hg1 hg2 hbi hbi1 hbi2 htake hdrop hpt hml l0 e1 l1 e2 l2 hx;go_upto_region 7 with fail;have hS:(fun V=>V.cell? ⟨wr.heap.size,0,none⟩=some (.string x.tx)/\V.cell? ⟨wr.heap.size,1,none⟩=some (.int .i64 x.pn)/\(Instr.lookup 129 (.map (some (w.heap.size+1))) (.agg #[.string x.tx,.int .i64 x.pn]) false).run Tryz.prog V= .ok (.int .i64 c) V) (wr.alloc (zO12 x.tx x.pn x.age)).drew:=⟨y0,y1,L0.out⟩;refine wp_region_noPanic ?_;refine wp_region_any (by kernel_rfl) (anyG_any (S:=(fun V=>V.cell? ⟨wr.heap.size,0,none⟩=some (.string x.tx)/\V.cell? ⟨wr.heap.size,1,none⟩=some (.int .i64 x.pn)/\(Instr.lookup 129 (.map (some (w.heap.size+1))) (.agg #[.string x.tx,.int .i64 x.pn]) false).run Tryz.prog V= .ok (.int .i64 c) V)) (n:=7) _ _ _ _ ?_);change AnyG _ _ _ _ _ _ 8 (Array.replicate 8 false) _ (wr.alloc (zO12 x.tx x.pn x.age)).drew;refine anyG_take (i:=0) (v:= ?_) rfl rfl (by kernel_rfl) (by kernel_rfl) (by kernel_rfl) (by kernel_rfl) (by kernel_rfl) (fun _ _ _ h=>h) (Or.inl ⟨by rfl, ?_⟩) hS ?_
          rotate_left
          ·(intro w' hSw;(try dsimp only at hSw);go_simp;(try with_reducible rfl))
          try simp only[Act.put,zP]
          refine anyG_take (i:=1) (v:= ?_) rfl rfl (by kernel_rfl) (by kernel_rfl) (by kernel_rfl) (by kernel_rfl) (by kernel_rfl) (fun _ _ _ h=>h) (Or.inl ⟨by rfl, ?_⟩) hS ?_
          rotate_left
          ·(intro w' hSw;(try dsimp only at hSw);go_simp;(try with_reducible rfl))
          try simp only[Act.put,zP]
          refine anyG_take (i:=2) (v:= ?_) rfl rfl (by kernel_rfl) (by kernel_rfl) (by kernel_rfl) (by kernel_rfl) (by kernel_rfl) (fun _ _ _ h=>h) (Or.inl ⟨by rfl, ?_⟩) hS ?_
          rotate_left
          ·(intro w' hSw;(try dsimp only at hSw);go_simp;(try with_reducible rfl))
          try simp only[Act.put,zP]
          refine anyG_take (i:=3) (v:= ?_) rfl rfl (by kernel_rfl) (by kernel_rfl) (by kernel_rfl) (by kernel_rfl) (by kernel_rfl) (fun _ _ _ h=>h) (Or.inl ⟨by rfl, ?_⟩) hS ?_
          rotate_left
          ·(intro w' hSw;(try dsimp only at hSw);go_simp;(try with_reducible rfl))
          try simp only[Act.put,zP]
          refine anyG_take (i:=4) (v:= ?_) rfl rfl (by kernel_rfl) (by kernel_rfl) (by kernel_rfl) (by kernel_rfl) (by kernel_rfl) (fun _ _ _ h=>h) (Or.inl ⟨by rfl, ?_⟩) hS ?_
          rotate_left
          ·(intro w' hSw;(try dsimp only at hSw);go_simp;(try with_reducible rfl))
          try simp only[Act.put,zP]
          clear hS;refine anyG_all (rs:=[5]) (by kernel_rfl) (by simp) (List.forall_mem_singleton.2 ?_);refine wpOp_step rfl (fun K' hK=> ?_);have HK:=zH hK;clear hK;rw[if_pos (by rfl)];have e1:=E1.out;go_simp;clear e1;refine HK.out _ _ ⟨fun _=>⟨cell_of HU1.out rfl,cell_of HU1.out rfl,L1.out⟩, ?_⟩;clear HK
          try simp only[Act.put,zP]
          refine anyG_all (rs:=[6]) (by kernel_rfl) (by simp) (List.forall_mem_singleton.2 ?_);refine wpOp_step rfl (fun K' hK=> ?_);have HK:=zH hK;clear hK;rw[if_pos (by rfl)];go_simp;refine HK.out _ _ ⟨fun _=>⟨cell_of HU1.out rfl,cell_of HU1.out rfl,L1.out⟩, ?_⟩;clear HK
          try simp only[Act.put,zP]
          refine anyG_all (rs:=[7]) (by kernel_rfl) (by simp) (List.forall_mem_singleton.2 ?_);refine wpOp_step rfl (fun K' hK=> ?_);have HK:=zH hK;clear hK;rw[if_pos (by rfl)];have e2:=E2.out;go_simp;clear e2;refine HK.out _ _ ⟨fun h=>absurd rfl h,anyG_done (by kernel_rfl) ?_⟩;clear HK;refine NoPanic.normal ?_;clear y0 y1 y2 x0 x1 x2 HMR L0 L1 E1 HU1 HX HB HM HX1 HB1 hsz0 E2 hwr;have l2:=L2.out;have y0:u2.cell? ⟨wr.heap.size,0,none⟩=some (.string x.tx):=cell_of HU2.out rfl;have y1:u2.cell? ⟨wr.heap.size,1,none⟩=some (.int .i64 x.pn):=cell_of HU2.out rfl;have y2:u2.cell? ⟨wr.heap.size,2,none⟩=some (.int .i64 x.age):=cell_of HU2.out rfl;rcases if_one HC0.out.symm with⟨hany,hc0⟩|⟨hany,hc0⟩
          ·subst hc0;have HN2:=zH (show R=false by rw[<-HREST.out,insB_met hany];rfl);go_wp2_with fail;go_ret;rw[HN2.out];exact⟨rfl,HBU.out⟩
          ·subst hc0;have HMN:=zH (show Met u2 (w.heap.size+1) (ins.take (j+1)) by rw[HT.out];exact HNX.out rfl);have HNM:=zH (txname_any x.tx u2);have HIB:=zH (show inB x=(idB x.tx&&decide (0<=x.pn)&&decide (x.pn<64)&&decide (0<=x.age)&&decide (x.age<1073741824))from rfl);have HNA:=zH hany;clear hany;obtain⟨q,hq⟩: ∃q,idB x.tx=q:=⟨_,rfl⟩;rw[hq]at HNM HIB;clear hq;go_wp2_with fail;refine HNM.out.mono ?_;rintro e w3 ⟨rfl,hb3⟩;have z0:=cell_below hb3 y0;have z1:=cell_below hb3 y1;have z2:=cell_below hb3 y2;have HM3:=zH (HMN.out.below hb3);have HX3:=zH (HXU.out.below hb3);have HB3:=zH (HBU.out.trans (hb3.mono HBU.out.size));clear hb3 y0 y1 y2 l2;cases q with
           |false=>
            have HN2:=zH (show R=false by rw[<-HREST.out,insB_bad (show inB x=false by rw[HIB.out];rfl)];rfl);go_wp2_with fail;go_ret;rw[HN2.out];exact⟨rfl,HB3.out⟩
           |true=>
            cases k1:decide (x.pn<0)with
            |true=>
             have mk1:decide (0<=x.pn)=false:=decide_eq_false (by have:=of_decide_eq_true k1;omega);have HN2:=zH (show R=false by rw[<-HREST.out,insB_bad (show inB x=false by rw[HIB.out,mk1];simp)];rfl);go_wp2_with fail;go_ret;rw[HN2.out];exact⟨rfl,HB3.out⟩
            |false=>
             have mk1:decide (0<=x.pn)=true:=decide_eq_true (by have:=of_decide_eq_false k1;omega);cases k2:decide (64<=x.pn)with
             |true=>
              have mk2:decide (x.pn<64)=false:=decide_eq_false (by have:=of_decide_eq_true k2;omega);have HN2:=zH (show R=false by rw[<-HREST.out,insB_bad (show inB x=false by rw[HIB.out,mk2];simp)];rfl);go_wp2_with fail;go_ret;rw[HN2.out];exact⟨rfl,HB3.out⟩
             |false=>
              have mk2:decide (x.pn<64)=true:=decide_eq_true (by have:=of_decide_eq_false k2;omega);cases k3:decide (x.age<0)with
              |true=>
               have mk3:decide (0<=x.age)=false:=decide_eq_false (by have:=of_decide_eq_true k3;omega);have HN2:=zH (show R=false by rw[<-HREST.out,insB_bad (show inB x=false by rw[HIB.out,mk3];simp)];rfl);go_wp2_with fail;go_ret;rw[HN2.out];exact⟨rfl,HB3.out⟩
              |false=>
               have mk3:decide (0<=x.age)=true:=decide_eq_true (by have:=of_decide_eq_false k3;omega);cases k4:decide (1073741824<=x.age)with
               |true=>
                have mk4:decide (x.age<1073741824)=false:=decide_eq_false (by have:=of_decide_eq_true k4;omega);have HN2:=zH (show R=false by rw[<-HREST.out,insB_bad (show inB x=false by rw[HIB.out,mk4];simp)];rfl);go_wp2_with fail;go_ret;rw[HN2.out];exact⟨rfl,HB3.out⟩
               |false=>
                have mk4:decide (x.age<1073741824)=true:=decide_eq_true (by have:=of_decide_eq_false k4;omega);have HN2:=zH (show(insB (ins.take (j+1)) (ins.drop (j+1))&&outsB maxCoin outs)=R by rw[HT.out,<-HREST.out,insB_next (show inB x=true by rw[HIB.out,mk1,mk2,mk3,mk4];rfl) HNA.out]);clear mk1 mk2 mk3 mk4;go_wp2_with fail;go_roundw
                case rel=>exact⟨j+1,by omega,by go_num,HN2.out,HM3.out,HX3.out,HB3.out⟩
                case measure=>simp[intOf];omega
         ·have HD:=zH (show outsB maxCoin outs=R by rw[<-hrest,List.drop_of_length_le (by omega)];rfl);have HXX:=zH hbox;have HBB:=zH hbr;obtain⟨q0,q1,q2,q3⟩:=hbox.cells;have gj:decide ((j:Int)<(ins.length:Int))=false:=decide_eq_false (by omega);clear hrest hmet hbox hbr;go_wp2_with fail;go_loopw [98,6] (fun i lf wr=> ∃(j:Nat) (left:Int),j<=outs.length/\i= .int .i64 (j:Int)/\lf= .int .i64 left/\0<=left/\left<=2100000000000000/\outsB left (outs.drop j)=R/\TxBox wr w.heap.size A ins.length ca B outs.length cb after tag/\Below w.heap.size w wr) (fun i _ _=>outs.length - (intOf i).toNat)
          case atStart=>exact⟨0,2100000000000000,Nat.zero_le _,rfl,rfl,by omega,Int.le_refl _,by rw[List.drop_zero];exact HD.out,HXX.out,HBB.out⟩
          case round=>
           clear HXX HBB HD q0 q1 q2 q3 gj;obtain⟨j2,left,hj2,rfl,rfl,hl0,hl1,hrest,hbox,hbr⟩:=hrel;by_cases hlt2:j2<outs.length
           ·obtain⟨-,ys,hy1,hy2⟩:=HC.out.below hbr;obtain⟨bd,C,cp,rfl,o0,o1,o2,o3,o4,hlk⟩:=out_at hy1 hy2 hlt2;have hdrop:outs.drop j2=outs[j2]::outs.drop (j2+1):=List.drop_eq_getElem_cons hlt2;rw[hdrop]at hrest;have hsm:=S2.out outs[j2] (List.getElem_mem hlt2);obtain⟨x,hx⟩: ∃x,outs[j2]=x:=⟨_,rfl⟩;rw[hx]at o0 o1 o2 o3 o4 hlk hrest hsm;have hbn:Below wr.heap.size wr (wr.alloc (zO11 x.value x.lock.kind x.lock.term x.lock.n C x.lock.kids.length cp)):=(Below.refl _ _).alloc (Nat.le_refl _) _;have y0:(wr.alloc (zO11 x.value x.lock.kind x.lock.term x.lock.n C x.lock.kids.length cp)).cell? ⟨wr.heap.size,0,none⟩=some (.int .i64 x.value):=alloc_cells 0 _ rfl;have y1:(wr.alloc (zO11 x.value x.lock.kind x.lock.term x.lock.n C x.lock.kids.length cp)).cell? ⟨wr.heap.size,1,none⟩=some (.int .u8 x.lock.kind):=alloc_cells 1 _ rfl;have y2:(wr.alloc (zO11 x.value x.lock.kind x.lock.term x.lock.n C x.lock.kids.length cp)).cell? ⟨wr.heap.size,2,none⟩=some (.string x.lock.term):=alloc_cells 2 _ rfl;have y3:(wr.alloc (zO11 x.value x.lock.kind x.lock.term x.lock.n C x.lock.kids.length cp)).cell? ⟨wr.heap.size,3,none⟩=some (.int .i64 x.lock.n):=alloc_cells 3 _ rfl;have y4:(wr.alloc (zO11 x.value x.lock.kind x.lock.term x.lock.n C x.lock.kids.length cp)).cell? ⟨wr.heap.size,4,none⟩=some (.slice C x.lock.kids.length cp):=alloc_cells 4 _ rfl;have HBN:=zH (hbr.trans (hbn.mono hbr.size));have HXN:=zH (hbox.below hbn);have HLR:=zH (lright_any x.lock _ (wr.alloc (zO11 x.value x.lock.kind x.lock.term x.lock.n C x.lock.kids.length cp)) hsm (LockC.below hbn _ _ hlk) (HV.out.below (hbr.trans (hbn.mono hbr.size))));have HREST:=zH hrest;clear hbn hlk hrest hbox hbr hy1 hy2 hdrop hsm hx;cases k1:decide (x.value<1)with
            |true=>
             have m1:decide (1<=x.value)=false:=decide_eq_false (by have:=of_decide_eq_true k1;omega);have HN2:=zH (show R=false by rw[<-HREST.out];unfold outsB;rw[m1];rfl);go_wp2_with fail;go_ret;rw[HN2.out];exact⟨rfl,HBN.out⟩
            |false=>
             have m1:1<=x.value:=by have:=of_decide_eq_false k1;omega
             cases k2:decide (left<x.value)with
             |true=>
              have m2:decide (x.value<=left)=false:=decide_eq_false (by have:=of_decide_eq_true k2;omega);have HN2:=zH (show R=false by rw[<-HREST.out];unfold outsB;rw[m2];simp);go_wp2_with fail;go_ret;rw[HN2.out];exact⟨rfl,HBN.out⟩
             |false=>
              have m2:x.value<=left:=by have:=of_decide_eq_false k2;omega
              cases k3:lockB x.lock with
              |false=>
               rw[k3]at HLR;have HN2:=zH (show R=false by rw[<-HREST.out];unfold outsB;rw[k3];simp);go_wp2_with fail;refine HLR.out.mono ?_;rintro e w3 ⟨rfl,hb3⟩;have HB3:=zH (HBN.out.trans (hb3.mono HBN.out.size));clear hb3;go_wp2_with fail;go_ret;rw[HN2.out];exact⟨rfl,HB3.out⟩
              |true=>
               rw[k3]at HLR;have HN2:=zH (show outsB (left - x.value) (outs.drop (j2+1))=R by rw[<-HREST.out];exact(outsB_next m1 m2 k3).symm);go_wp2_with fail;refine HLR.out.mono ?_;rintro e w3 ⟨rfl,hb3⟩;have HB3:=zH (HBN.out.trans (hb3.mono HBN.out.size));have HX3:=zH (HXN.out.below hb3);have z0:=cell_below hb3 y0;clear hb3 y0 y1 y2 y3 y4;go_wp2_with fail;go_roundw
               case rel=>exact⟨j2+1,left - x.value,by omega,by go_num,by go_num,by omega,by omega,HN2.out,HX3.out,HB3.out⟩
               case measure=>simp[intOf];omega
           ·have HN2:=zH (show R=true by rw[<-hrest,List.drop_of_length_le (by omega)];rfl);have HBB:=zH hbr;have gj:decide ((j2:Int)<(outs.length:Int))=false:=decide_eq_false (by omega);clear hrest hbox hbr;go_wp2_with fail;go_ret;rw[HN2.out];exact⟨rfl,HBB.out⟩
end Go.Proofs.YtbiioifpeebjaaaGreatDoor
