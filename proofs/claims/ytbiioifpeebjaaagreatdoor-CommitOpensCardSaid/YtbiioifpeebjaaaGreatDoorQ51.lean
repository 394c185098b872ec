/- Right, whole. · build: parts behind a head. -/
import Derived.Test.YtbiioifpeebjaaaGreatDoorQ8
import Derived.Test.YtbiioifpeebjaaaGreatDoorShelf
set_option linter.all false
namespace Go.Proofs.YtbiioifpeebjaaaGreatDoor
open Go.RowKit
set_option maxRecDepth 100000 in
set_option maxHeartbeats 8000000 in
theorem right_any (s:ByteArray) (w:World) (hs:s.size<=1000000) (hv:VarsOk w):Calls Tryz.prog 52 #[.string s] w fun e w'=>e= .returned (.bool (rightB s.data.toList))/\Below w.heap.size w w':=by
 have hR:=read_any s w hs hv;unfold ReadP at hR;obtain⟨R,hq⟩: ∃R,right s.data.toList=R:=⟨_,rfl⟩;have hb:rightB s.data.toList=R.isSome:=by unfold rightB;rw[hq]
 rw[hq]at hR;rw[hb];clear hq hb hv;unfold shapeV at hR;have HR:=zH hR;clear hR;cases R with
 |none=>
  go_enter Tryz.func52,Tryz.ntmps52;go_wp2_with fail;refine HR.out.mono ?_;rintro e w1 ⟨rfl,hb1⟩;have HB:=zH hb1;clear hb1;go_wp2_with fail;go_ret;exact⟨rfl,HB.out.alloc HB.out.size _⟩
 |some x=>
  go_enter Tryz.func52,Tryz.ntmps52;go_wp2_with fail;refine HR.out.mono ?_;rintro e w1 ⟨⟨A,cap,rfl,hc1⟩,hb1⟩;have HB:=zH hb1;clear hb1 hc1;go_wp2_with fail;go_ret;exact⟨rfl,HB.out.alloc HB.out.size _⟩
theorem str_eq (s:ByteArray):s=⟨s.data.toList.toArray⟩:=by cases s;simp
def tupE (x:Int×List UInt8):Value:= .tuple #[.string ⟨x.2.toArray⟩,.int .i64 x.1]
set_option maxRecDepth 100000 in
set_option maxHeartbeats 8000000 in
theorem twhole_any (s:ByteArray) (w:World) (hs:s.size<=1000000) (hv:VarsOk w):Calls Tryz.prog 53 #[.string s] w fun e w'=>e= .returned (tupE (madeE s.data.toList))/\Below w.heap.size w w':=by
 have HR:=zH (right_any s w hs hv);have hm:tupE (madeE s.data.toList)=if rightB s.data.toList then .tuple #[.string s,.int .i64 0]else .tuple #[.string ⟨#[]⟩,.int .i64 3]:=by
  unfold madeE tupE;cases rightB s.data.toList with
  |true=>simp only[if_true]
  |false=>rfl
 rw[hm];clear hm hv;cases hq:rightB s.data.toList with
 |true=>
  rw[hq]at HR;clear hq;go_enter Tryz.func53,Tryz.ntmps53;go_wp2_with fail;refine HR.out.mono ?_;rintro e w1 ⟨rfl,hb1⟩;have HB:=zH hb1;clear hb1;go_wp2_with fail;go_ret2;exact⟨rfl,HB.out⟩
 |false=>
  rw[hq]at HR;clear hq;go_enter Tryz.func53,Tryz.ntmps53;go_wp2_with fail;refine HR.out.mono ?_;rintro e w1 ⟨rfl,hb1⟩;have HB:=zH hb1;clear hb1;go_wp2_with fail;go_ret2;exact⟨rfl,HB.out⟩
end Go.Proofs.YtbiioifpeebjaaaGreatDoor
namespace Go.Proofs.YtbiioifpeebjaaaGreatDoor
open Go.RowKit
def flat (l:List ByteArray):List UInt8:=(l.map (·.data.toList)).flatten
def buildE (h:ByteArray) (l:List ByteArray):Int×List UInt8:=if l.all (fun x=>rightB x.data.toList)then madeE (h.data.toList++flat l)else(10,[])
theorem flat_snoc (l:List ByteArray) {k:Nat} (hk:k<l.length):flat (l.take (k+1))=flat (l.take k)++l[k].data.toList:=by
 unfold flat;rw[List.take_succ_eq_append_getElem hk,List.map_append,List.flatten_append];simp
theorem flat_take (l:List ByteArray) (k:Nat):(flat (l.take k)).length<=(flat l).length:=by
 have h:flat l=flat (l.take k)++flat (l.drop k):=by
  unfold flat;rw[<-List.flatten_append,<-List.map_append,List.take_append_drop]
 rw[h,List.length_append];omega
theorem flat_el (l:List ByteArray) {k:Nat} (hk:k<l.length):(flat (l.take k)).length+l[k].size<=(flat l).length:=by
 have:=flat_take l (k+1);rw[flat_snoc l hk,List.length_append]at this;exact this
theorem take_all_snoc {l:List ByteArray} {p:ByteArray->Bool} {k:Nat} (hk:k<l.length) (h:(l.take k).all p=true) (hp:p l[k]=true):(l.take (k+1)).all p=true:=by
 rw[List.take_succ_eq_append_getElem hk,List.all_append,h];simp[hp]
theorem builder_below {T e:TypeId} {B b:Nat} {bs:List Value} {w w':World} (h:Lib.IsBuilder T e B b bs w) (hb:Below w.heap.size w w'):Lib.IsBuilder T e B b bs w':=by
 have one: ∀p,Lib.BuilderAt T e B b p bs w->Lib.BuilderAt T e B b p bs w':=fun p h=>by
  obtain⟨hB,v,hbk,hown,hne⟩:=h;exact⟨hB,v,(hb.block _ (lt_of_block hbk)).trans hbk,own_below hown hb,hne⟩
 exact h.imp (one _) (one _)
set_option maxRecDepth 100000 in
set_option maxHeartbeats 8000000 in
theorem build_any (h:ByteArray) (l:List ByteArray) (A:Option Addr) (c:Nat) (w:World) (hsz:h.size+(flat l).length<=1000000) (hl:l.length<=1000) (hA:Cells w A (strs l)) (hv:VarsOk w):
 Calls Tryz.prog 34 #[.string h,.slice A l.length c] w fun e w'=>e= .returned (tupE (buildE h l))/\Below w.heap.size w w':=by
 have HA:=zH hA;have HV:=zH hv;obtain⟨R,hR⟩: ∃R,buildE h l=R:=⟨_,rfl⟩;rw[hR];have HR:=zH hR;clear hA hv hR;go_enter Tryz.func34,Tryz.ntmps34;go_wp2_with fail;refine(writeString_any w.heap.size w.heap.size [] h _ (Lib.fresh_isBuilder 112 5 w) (by simp;omega) (by simp)).mono ?_;rintro e w1 ⟨rfl,hbd1,hb1⟩;have hbd:Lib.IsBuilder 112 5 w.heap.size w.heap.size (bv (h.data.toList++flat (l.take 0))) w1:=by
  have h:=hbd1;rw[List.nil_append]at h;have h2:flat (l.take 0)=[]:=by simp[flat]
  rw[h2,List.append_nil];exact .inr h
 have hb01:Below w.heap.size w w1:=((Below.refl _ _).alloc (Nat.le_refl _) _).trans hb1;have HBD:=zH hbd;have HB01:=zH hb01;clear hbd hbd1 hb1 hb01;go_wp2_with fail;go_loopw [13] (fun i wr=> ∃k:Nat,k<=l.length/\i= .int .i64 k/\Lib.IsBuilder 112 5 w.heap.size w.heap.size (bv (h.data.toList++flat (l.take k))) wr/\Below w.heap.size w wr/\(l.take k).all (fun x=>rightB x.data.toList)=true) (fun i _=>l.length - (intOf i).toNat)
 case atStart=>exact⟨0,Nat.zero_le _,rfl,HBD.out,HB01.out,by simp⟩
 case round=>
  obtain⟨k,hk,rfl,hbd,hb,hall⟩:=hrel;have HBK:=zH hbd;have HBB:=zH hb;have HALL:=zH hall;by_cases hlt:k<l.length
  ·obtain⟨ad,rfl,hc⟩:=strs_at (Cells.below HA.out hb) hlt;have hel:=flat_el l hlt;have HSN:=zH (flat_snoc l hlt);have hr:=right_any l[k] wr (by omega) (HV.out.below hb);have HTA:=zH (fun hp=>take_all_snoc (p:=fun x=>rightB x.data.toList) hlt hall hp);have HFA:=zH (fun(hp:rightB l[k].data.toList=false)=>(show l.all (fun x=>rightB x.data.toList)=false from List.all_eq_false.2 ⟨l[k],List.getElem_mem hlt,by simp[hp]⟩));obtain⟨x,hx⟩: ∃x,l[k]=x:=⟨_,rfl⟩;rw[hx]at hc hel hr HSN HTA HFA;cases hq:rightB x.data.toList with
   |false=>
    rw[hq]at hr;have hRe:R=(10,[]):=by rw[<-HR.out];unfold buildE;rw[HFA.out hq];rfl
    have HRE:=zH hRe;have HRT:=zH hr;clear hbd hb hall hr hq hx hRe;go_wp2_with fail;refine HRT.out.mono ?_;rintro e w2 ⟨rfl,hb2⟩;have HB2:=zH (HBB.out.trans (hb2.mono HBB.out.size));clear hb2;go_wp2_with fail;go_ret2;rw[HRE.out];exact⟨rfl,HB2.out⟩
   |true=>
    rw[hq]at hr;have HRT:=zH hr;have HQ:=zH (HTA.out hq);clear hbd hb hall hr hq hx;go_wp2_with fail;refine HRT.out.mono ?_;rintro e w2 ⟨rfl,hb2⟩;have hsz2:=HBB.out.size;have hbk2:Lib.IsBuilder 112 5 w.heap.size w.heap.size (bv (h.data.toList++flat (l.take k))) w2:=builder_below HBK.out hb2;have HB2:=zH (HBB.out.trans (hb2.mono HBB.out.size));have HBK2:=zH hbk2;clear hb2 hbk2;go_wp2_with fail;refine(writeString_any w.heap.size w.heap.size _ x _ HBK2.out (by have:=flat_take l k;simp[bv];have e:h.data.toList.length=h.size:=rfl;omega) HB2.out.size).mono ?_;rintro e w3 ⟨rfl,hbd3,hb3⟩;have HBD3:=zH hbd3;have HB3:=zH (HB2.out.trans hb3);clear hbd3 hb3;go_wp2_with fail;go_roundw
    case rel=>exact⟨k+1,by omega,by go_num,.inr (by rw[HSN.out,<-List.append_assoc,bv_append];exact HBD3.out),HB3.out,HQ.out⟩
    case measure=>simp[intOf];omega
  ·have htk:l.take k=l:=List.take_of_length_le (by omega);rw[htk]at hbd hall;have HF:=zH hbd;have hRe:R=madeE (h.data.toList++flat l):=by rw[<-HR.out];unfold buildE;rw[hall];rfl
   have HRE:=zH hRe;clear hbd hall hb HBK HALL hRe;go_wp2_with fail;refine(Tryz.Builder_String_any w.heap.size w.heap.size _ _ HF.out HBB.out.size).mono ?_;rintro e w2 ⟨rfl,hb2⟩;have hb02:=HBB.out.trans hb2;have hw:=twhole_any ⟨(h.data.toList++flat l).toArray⟩ w2 (by show(h.data.toList++flat l).toArray.size<=_;simp;have e:h.data.toList.length=h.size:=rfl;omega) (HV.out.below hb02);have HW:=zH hw;have HB2:=zH hb02;clear hw hb02 hb2;go_wp2_with fail;refine HW.out.mono ?_;unfold tupE;rintro e w3 ⟨rfl,hb3⟩;have HB3:=zH (HB2.out.trans (hb3.mono HB2.out.size));clear hb3;go_wp2_with fail;go_ret2;rw[HRE.out];exact⟨rfl,HB3.out⟩
end Go.Proofs.YtbiioifpeebjaaaGreatDoor
