/- Payments in memory; the bounds of a state. · The document's sums. · A commitment, in plain Lean. -/
import Derived.Test.YtncniomiplnaaaaGreatDoorQ35
import Derived.Test.YtncniomiplnaaaaGreatDoorQ18
import Derived.Test.YtncniomiplnaaaaGreatDoorQ43
import Derived.Test.YtncniomiplnaaaaGreatDoorQ36
import Derived.Test.YtncniomiplnaaaaGreatDoorQ25
set_option linter.all false
namespace Go.Proofs.YtncniomiplnaaaaGreatDoor
open Go.RowKit
def payC (h:PayR):List Value:=[.bool h.mine,.int .i64 h.id,.int .i64 h.amt,.string h.hash,.int .i64 h.exp]
theorem payC_len (h:PayR):(payC h).length=5:=rfl
theorem pay_at {w:World} {A:Option Addr} {hs:List PayR} (hc:Cells w A (hs.flatMap payC)) {k:Nat} (hk:k<hs.length): ∃ad:Addr,A=some ad/\
 w.cell? (ad.add (k*5))=some (.bool hs[k].mine)/\w.cell? ⟨(ad.add (k*5)).block,(ad.add (k*5)).off+1,none⟩=some (.int .i64 hs[k].id)/\w.cell? ⟨(ad.add (k*5)).block,(ad.add (k*5)).off+2,none⟩=some (.int .i64 hs[k].amt)/\w.cell? ⟨(ad.add (k*5)).block,(ad.add (k*5)).off+3,none⟩=some (.string hs[k].hash)/\w.cell? ⟨(ad.add (k*5)).block,(ad.add (k*5)).off+4,none⟩=some (.int .i64 hs[k].exp):=by
 obtain⟨ad,he,hcc⟩:=hc (by rw[fm_len payC 5 payC_len];omega);have go: ∀(c:Nat) (u:Value),c<5->(payC hs[k])[c]? =some u->w.cell? (ad.add (k*5+c))=some u:=fun c u hc hu=>hcc _ _ ((fm_get payC 5 payC_len hs k hk c hc).trans hu)
 refine⟨ad,he,go 0 _ (by decide) rfl, ?_, ?_, ?_, ?_⟩
 ·rw[add_next _ _ _ (by decide)];exact go 1 _ (by decide) rfl
 ·rw[add_next _ _ _ (by decide)];exact go 2 _ (by decide) rfl
 ·rw[add_next _ _ _ (by decide)];exact go 3 _ (by decide) rfl
 ·rw[add_next _ _ _ (by decide)];exact go 4 _ (by decide) rfl
def mineN (hs:List PayR):Nat:=(hs.filter (·.mine)).length
theorem mineN_snoc (hs:List PayR) (h:PayR):mineN (hs++[h])=if h.mine then mineN hs+1 else mineN hs:=by
 unfold mineN;rw[List.filter_append,List.length_append];cases hm:h.mine<;>simp[hm]
theorem mineN_le (hs:List PayR):mineN hs<=hs.length:=List.length_filter_le _ _
def bndE (d:DealR) (n own other:Int) (hs:List PayR):Int:=if !(decide ((sumE 0 (own::other::hs.map (·.amt))).2=0))||decide (d.cap*1000<(sumE 0 (own::other::hs.map (·.amt))).1)then 40 else if btwB n 0 1048575&&(decide (mineN hs<=30)&&decide (hs.length - mineN hs<=30))then 0 else 2
theorem slAmt:SlTyK Tryz.prog 64 2 (.int .i64 0) 1 8:=⟨Tryz.underlying64,by kernel_rfl,rfl,by decide⟩
theorem amts_snoc (l:List Int) (x:Int):amtsV (l++[x])=amtsV l++[.int .i64 x]:=by simp[amtsV]
theorem own_fresh (w:World) (cs:List Value) (E:TypeId) (n:Nat) (hl:cs.length=n) (h1:n<=maxLen) (h0:1<=n):(w.alloc (.cells cs.toArray E)).ownsRow w.heap.size E 1 (.slice (some ⟨w.heap.size,0,none⟩) n n) n cs:=
 ⟨by omega,.inr ⟨w.heap.size,n,cs.toArray,rfl,Nat.le_refl _,Go.heap_alloc_new w _,Nat.le_refl _,h1,by simp[hl],by simp[<-hl]⟩⟩
set_option maxRecDepth 100000 in
set_option maxHeartbeats 8000000 in
theorem bounds_any (d:DealR) (n own other:Int) (hs:List PayR) (A:Option Addr) (cap:Nat) (w:World) (h0:0<=d.cap) (h1:d.cap<=2100000000000000) (hl:hs.length<=900) (hc:Cells w A (hs.flatMap payC)):
 Calls Tryz.prog 41 #[dealV d,.agg #[.int .i64 n,.int .i64 own,.int .i64 other,.slice A hs.length cap]] w fun e w'=>e= .returned (.int .i64 (bndE d n own other hs))/\Below w.heap.size w w':=by
 unfold dealV;have hb0:Below w.heap.size w ((w.alloc (zB d)).alloc (zO6 n own other A hs.length cap)):=((Below.refl w.heap.size w).alloc (Nat.le_refl _) (zB d)).alloc (by simp) (zO6 n own other A hs.length cap);have hb3:Below (w.heap.size+1+1) ((w.alloc (zB d)).alloc (zO6 n own other A hs.length cap)) (((w.alloc (zB d)).alloc (zO6 n own other A hs.length cap)).alloc (zO15 own other)):=(Below.refl _ _).alloc (by simp) (zO15 own other);have HB:=zH (hb0.trans (hb3.mono (by omega)));have hx0:=allocs_at [(zB d),(zO6 n own other A hs.length cap),(zO15 own other)] w 0 _ rfl;have hx1:=allocs_at [(zB d),(zO6 n own other A hs.length cap),(zO15 own other)] w 1 _ rfl;have H0:=zH (show(((w.alloc (zB d)).alloc (zO6 n own other A hs.length cap)).alloc (zO15 own other)).heap[w.heap.size]? =some (zB d)from hx0);have H1:=zH (show(((w.alloc (zB d)).alloc (zO6 n own other A hs.length cap)).alloc (zO15 own other)).heap[w.heap.size+1]? =some (zO6 n own other A hs.length cap)from hx1);have s3:(((w.alloc (zB d)).alloc (zO6 n own other A hs.length cap)).alloc (zO15 own other)).cell? ⟨w.heap.size+1,3,none⟩=some (.slice A hs.length cap):=cell_of (j:=3) hx1 rfl;have HO:=zH (show(((w.alloc (zB d)).alloc (zO6 n own other A hs.length cap)).alloc (zO15 own other)).ownsRow (w.heap.size+1+1) 2 1 (.slice (some ⟨w.heap.size+1+1,0,none⟩) 2 2) 2 (amtsV [own,other]) by
  have:=own_fresh ((w.alloc (zB d)).alloc (zO6 n own other A hs.length cap)) (amtsV [own,other]) 2 2 rfl (by decide) (by decide);simpa [amtsV]using this)
 have HC:=zH hc;have hsz:(((w.alloc (.cells #[.int .i64 d.cap,.int .i64 d.push,.int .i64 d.dust,.int .i64 d.res,.int .i64 d.rate,.int .i64 d.delay,.int .i64 d.maxH,.int .i64 d.flight,.int .i64 d.minH] 23)).alloc (.cells #[.int .i64 n,.int .i64 own,.int .i64 other,.slice A hs.length cap] 38)).alloc (.cells #[.int .i64 own,.int .i64 other] 2)).heap.size=w.heap.size+1+1+1:=by simp
 have HI:=zH (fun W=>within_any n 0 1048575 W);have hw:IntKind.i64.wrap (d.cap*1000)=d.cap*1000:=by rw[IntKind.wrap_i64];omega
 obtain⟨R,hR⟩: ∃R,bndE d n own other hs=R:=⟨_,rfl⟩;rw[hR];unfold bndE at hR;have HSM:=zH (fun A' c' (W:World) hc'=>sum_any (own::other::hs.map (·.amt)) A' c' W (by simp;omega) hc');obtain⟨t1,t2,ht⟩: ∃t1 t2,sumE 0 (own::other::hs.map (·.amt))=(t1,t2):=⟨_,_,rfl⟩;rw[ht]at hR HSM;have HR:=zH hR;clear hR ht hb0 hb3 hx0 hx1 hc;go_enter Tryz.func41,Tryz.ntmps41;go_wp2_with fail;generalize (((w.alloc (zB d)).alloc (zO6 n own other A hs.length cap)).alloc (zO15 own other))=V at HB H0 H1 s3 HO HC hsz⊢;go_wp2_with fail;go_loopw [5,6,19] (fun va vm vi wr=> ∃(k:Nat) (vA:Value),vA=va/\k<=hs.length/\vm= .int .i64 (mineN (hs.take k):Int)/\vi= .int .i64 (k:Int)/\Below (w.heap.size+1+1) V wr/\wr.ownsRow (w.heap.size+1+1) 2 1 vA (2+k) (amtsV (own::other::(hs.take k).map (·.amt)))) (fun _ _ vi _=>hs.length - (intOf vi).toNat)
 case atStart=>exact⟨0,_,rfl,Nat.zero_le _,rfl,rfl,Below.refl _ _,HO.out⟩
 case round=>
  obtain⟨k,vA,rfl,hk,rfl,rfl,hbr,hown⟩:=hrel;have hbr2:=hbr.size;by_cases hlt:k<hs.length
  ·obtain⟨ad,rfl,c0,c1,c2,c3,c4⟩:=pay_at (HC.out.below (HB.out.trans (hbr.mono (by omega)))) hlt;obtain⟨h,hh⟩: ∃h,hs[k]=h:=⟨_,rfl⟩;rw[hh]at c0 c1 c2 c3 c4;have htk:hs.take (k+1)=hs.take k++[h]:=by rw[List.take_succ_eq_append_getElem hlt,hh]
   have hmn:=mineN_snoc (hs.take k) h;rw[<-htk]at hmn;have hal:amtsV (own::other::(hs.take (k+1)).map (·.amt))=amtsV (own::other::(hs.take k).map (·.amt))++[.int .i64 h.amt]:=by
    rw[htk,List.map_append,<-amts_snoc];rfl
   obtain⟨bm,hbm⟩: ∃bm,h.mine=bm:=⟨_,rfl⟩;rw[hbm]at c0 hmn;have hbo:Below wr.heap.size wr (wr.alloc (zO3 bm h.id h.amt h.hash h.exp)):=(Below.refl _ _).alloc (Nat.le_refl _) _;have hbl0:Below wr.heap.size wr ((wr.alloc (zO3 bm h.id h.amt h.hash h.exp)).alloc (zO18 h.amt)):=hbo.alloc hbo.size _;have hbx:(wr.alloc (zO3 bm h.id h.amt h.hash h.exp)).heap[wr.heap.size]? =some (zO3 bm h.id h.amt h.hash h.exp):=Go.heap_alloc_new wr _;have e0:(wr.alloc (zO3 bm h.id h.amt h.hash h.exp)).cell? ⟨wr.heap.size,0,none⟩=some (.bool bm):=cell_of (j:=0) hbx rfl;have e2:(wr.alloc (zO3 bm h.id h.amt h.hash h.exp)).cell? ⟨wr.heap.size,2,none⟩=some (.int .i64 h.amt):=cell_of (j:=2) hbx rfl;have l0:((wr.alloc (zO3 bm h.id h.amt h.hash h.exp)).alloc (zO18 h.amt)).cell? ⟨wr.heap.size,0,none⟩=some (.bool bm):=cell_below ((Below.refl _ _).alloc (Nat.le_refl _) (zO18 h.amt)) e0;have HL0:=zH l0;have HOL:=zH (show((wr.alloc (zO3 bm h.id h.amt h.hash h.exp)).alloc (zO18 h.amt)).ownsRow (w.heap.size+1+1) 2 1 vA (2+k) (amtsV (own::other::(hs.take k).map (·.amt)))from own_below hown hbl0);have HFC:=zH (show Cells ((wr.alloc (zO3 bm h.id h.amt h.hash h.exp)).alloc (zO18 h.amt)) (some ⟨wr.heap.size+1,0,none⟩) [.int .i64 h.amt] by
    have:=fresh_cells (wr.alloc (zO3 bm h.id h.amt h.hash h.exp)) #[.int .i64 h.amt] 2;simpa using this)
   have hrl:=fun g hg=>(World.ownsRow.lt hown g hg).2
   have HRL:=zH hrl;have HBL:=zH (hbr.trans (hbl0.mono (by omega)));have hsz1:w.heap.size+1+1<=((wr.alloc (zO3 bm h.id h.amt h.hash h.exp)).alloc (zO18 h.amt)).heap.size:=Nat.le_trans (by omega) hbl0.size;have hn1:(2+k+1)*8<=140737488355328:=by omega
   have hn2:2+k+1<=140737488355328:=by omega
   have HN1:=zH hn1;have HN2:=zH hn2;have HSZ:=zH hsz1;have HAL:=zH hal;have HMN:=zH hmn;have HMK:=zH (show mineN (hs.take k)<=900 from Nat.le_trans (mineN_le _) (by rw[List.length_take];omega));clear hh hbm htk hmn hal hbo hbl0 hbx l0 hrl hsz1 hn1 hn2 hown;cases bm with
   |true=>
    have HM:=zH (HMN.out.trans (by rw[if_pos rfl]));have hmk:=HMK.out;obtain⟨m0,hm0⟩: ∃m0,mineN (hs.take k)=m0:=⟨_,rfl⟩;rw[hm0]at HM hmk⊢;clear hm0 HMN HMK;go_wp2_with (at_builtin;refine wpList_appk slAmt rfl _ _ rfl (w.heap.size+1+1) _ (2+k) _ rfl HOL.out (some ⟨wr.heap.size+1,0,none⟩) 1 1 [.int .i64 h.amt] rfl rfl HFC.out (by intro u hu;simp at hu;subst hu;rfl) HN1.out HN2.out HSZ.out ?_;intro v' w6 hown hgr hbl hat;have f0:=hgr.cell HL0.out (fun e=>by have:=HRL.out _ e.symm;simp at this));have hend:w6.ownsRow (w.heap.size+1+1) 2 1 v' (2+(k+1)) (amtsV (own::other::(hs.take (k+1)).map (·.amt))):=by
     rw[HAL.out];exact hown
    have HEND:=zH hend;have HBE:=zH (HBL.out.trans hbl);clear hend hown hgr hbl hat;go_roundw
    case rel=>exact⟨k+1,v',rfl,by omega,by first|(rw[HM.out];done)|(rw[HM.out];go_num),by go_num,HBE.out,HEND.out⟩
    case measure=>simp[intOf];omega
   |false=>
    have HM:=zH (HMN.out.trans (by rw[if_neg (by decide)]));have hmk:=HMK.out;obtain⟨m0,hm0⟩: ∃m0,mineN (hs.take k)=m0:=⟨_,rfl⟩;rw[hm0]at HM hmk⊢;clear hm0 HMN HMK;go_wp2_with (at_builtin;refine wpList_appk slAmt rfl _ _ rfl (w.heap.size+1+1) _ (2+k) _ rfl HOL.out (some ⟨wr.heap.size+1,0,none⟩) 1 1 [.int .i64 h.amt] rfl rfl HFC.out (by intro u hu;simp at hu;subst hu;rfl) HN1.out HN2.out HSZ.out ?_;intro v' w6 hown hgr hbl hat;have f0:=hgr.cell HL0.out (fun e=>by have:=HRL.out _ e.symm;simp at this));have hend:w6.ownsRow (w.heap.size+1+1) 2 1 v' (2+(k+1)) (amtsV (own::other::(hs.take (k+1)).map (·.amt))):=by
     rw[HAL.out];exact hown
    have HEND:=zH hend;have HBE:=zH (HBL.out.trans hbl);clear hend hown hgr hbl hat;go_roundw
    case rel=>exact⟨k+1,v',rfl,by omega,by first|(rw[HM.out];done)|(rw[HM.out];go_num),by go_num,HBE.out,HEND.out⟩
    case measure=>simp[intOf];omega
  ·have hkn:k=hs.length:=by omega
   subst hkn;rw[List.take_of_length_le (Nat.le_refl _)]at hown⊢;obtain⟨A',c',rfl,-,hcc⟩:=own_shape hown;have hsm:=HSM.out A' c' wr hcc;rw[show(own::other::hs.map (·.amt)).length=2+hs.length by simp only[List.length_cons,List.length_map];omega]at hsm;have hs1:=(hbr.block (w.heap.size+1) (by omega)).trans H1.out;have hs0:=(hbr.block w.heap.size (by omega)).trans H0.out;have S0:wr.cell? ⟨w.heap.size+1,0,none⟩=some (.int .i64 n):=cell_of (j:=0) hs1 rfl;have S3:wr.cell? ⟨w.heap.size+1,3,none⟩=some (.slice A hs.length cap):=cell_of (j:=3) hs1 rfl;have d0:wr.cell? ⟨w.heap.size,0,none⟩=some (.int .i64 d.cap):=cell_of (j:=0) hs0 rfl;have HS:=zH hsm;have HBE:=zH (HB.out.trans (hbr.mono (by omega)));have hmk:mineN hs<=hs.length:=mineN_le hs;clear hsm hs0 hs1 hcc hown hbr hbr2 hlt hk;cases hc2:decide (t2=0)with
   |false=>
    have hne:(t2 !=0)=true:=by have:=of_decide_eq_false hc2;simpa using this
    have HE:=zH (show R=40 by rw[<-HR.out,hc2];rfl);clear hc2;go_wp2_with fail;refine HS.out.mono ?_;rintro e w1 ⟨rfl,rfl⟩;go_wp2_with fail;go_ret;rw[HE.out];exact⟨rfl,HBE.out⟩
   |true=>
    have hne:(t2 !=0)=false:=by have:=of_decide_eq_true hc2;simp[this]
    by_cases hg:d.cap*1000<t1
    ·have HE:=zH (show R=40 by rw[<-HR.out,hc2,decide_eq_true hg];rfl);clear hc2;go_wp2_with fail;refine HS.out.mono ?_;rintro e w1 ⟨rfl,rfl⟩;go_wp2_with fail;go_ret;rw[HE.out];exact⟨rfl,HBE.out⟩
    ·have HE0:=zH (show R=if btwB n 0 1048575&&(decide (mineN hs<=30)&&decide (hs.length - mineN hs<=30))then 0 else 2 by rw[<-HR.out,hc2,decide_eq_false hg];rfl);have hi:=HI.out wr;cases hq:btwB n 0 1048575 with
     |false=>
      rw[hq]at hi;have HE:=zH (show R=2 by rw[HE0.out,hq];rfl);have HIW:=zH hi;clear hc2 hi hq;go_wp2_with fail;refine HS.out.mono ?_;rintro e w1 ⟨rfl,rfl⟩;go_wp2_with fail;refine HIW.out.mono ?_;rintro e w1 ⟨rfl,rfl⟩;go_wp2_with fail;go_ret;rw[HE.out];exact⟨rfl,HBE.out⟩
     |true=>
      rw[hq]at hi;have HIW:=zH hi;obtain⟨mn,hmn⟩: ∃mn,mineN hs=mn:=⟨_,rfl⟩;rw[hmn]at hmk HE0⊢;by_cases hm1:mn<=30
      ·have hz1: ¬(30:Int)<(mn:Int):=by omega
       by_cases hm2:hs.length - mn<=30
       ·have HE:=zH (show R=0 by rw[HE0.out,hq,decide_eq_true hm1,decide_eq_true hm2];rfl);have hz2: ¬(30:Int)<(hs.length:Int) - (mn:Int):=by omega
        clear hc2 hi hq hmn;go_wp2_with fail;refine HS.out.mono ?_;rintro e w1 ⟨rfl,rfl⟩;go_wp2_with fail;refine HIW.out.mono ?_;rintro e w1 ⟨rfl,rfl⟩;go_wp2_with fail;go_ret;rw[HE.out];exact⟨rfl,HBE.out⟩
       ·have HE:=zH (show R=2 by rw[HE0.out,hq,decide_eq_true hm1,decide_eq_false hm2];rfl);have hz2:(30:Int)<(hs.length:Int) - (mn:Int):=by omega
        clear hc2 hi hq hmn;go_wp2_with fail;refine HS.out.mono ?_;rintro e w1 ⟨rfl,rfl⟩;go_wp2_with fail;refine HIW.out.mono ?_;rintro e w1 ⟨rfl,rfl⟩;go_wp2_with fail;go_ret;rw[HE.out];exact⟨rfl,HBE.out⟩
      ·have HE:=zH (show R=2 by rw[HE0.out,hq,decide_eq_false hm1];rfl);have hz1:(30:Int)<(mn:Int):=by omega
       clear hc2 hi hq hmn;go_wp2_with fail;refine HS.out.mono ?_;rintro e w1 ⟨rfl,rfl⟩;go_wp2_with fail;refine HIW.out.mono ?_;rintro e w1 ⟨rfl,rfl⟩;go_wp2_with fail;go_ret;rw[HE.out];exact⟨rfl,HBE.out⟩
open Go.RowKit
def plusE (n a:Int):Int×Int:=if btwB a 0 2100000000000000000&&decide (a<=2100000000000000000 - n)then(n+a,0)else(0,40)
theorem sumE_cons (n a:Int) (r:List Int):sumE n (a::r)=if(plusE n a).2=0 then sumE (plusE n a).1 r else(0,40):=by
 show(if btwB a 0 2100000000000000000&&decide (a<=2100000000000000000 - n)then sumE (n+a) r else(0,40))=_;unfold plusE;split<;>simp
theorem plusE_or (n a:Int):(plusE n a).2=0\/plusE n a=(0,40):=by
 unfold plusE;split
 ·exact .inl rfl
 ·exact .inr rfl
theorem plusE_le {n a:Int} (h0:0<=n) (h:(plusE n a).2=0):0<=(plusE n a).1/\(plusE n a).1<=2100000000000000000:=by
 unfold plusE at h⊢;split at h
 ·rename_i hc;rw[if_pos hc];rw[Bool.and_eq_true,decide_eq_true_eq]at hc;have:=btwB_of hc.1;simp only;omega
 ·cases h
set_option maxRecDepth 100000 in
set_option maxHeartbeats 4000000 in
theorem radd_any (n a:Int) (w:World) (h0:0<=n) (h1:n<=2100000000000000000):Calls Tryz.prog 88 #[.int .i64 n,.int .i64 a] w fun e w'=>e= .returned (.tuple #[.int .i64 (plusE n a).1,.int .i64 (plusE n a).2])/\w'=w:=by
 obtain⟨R,hR⟩: ∃R,plusE n a=R:=⟨_,rfl⟩;rw[hR];unfold plusE at hR;have HA:=zH (show Calls Tryz.prog 39 #[.int .i64 n] w fun e w'=>e= .returned (.bool true)/\w'=w by
  have:=rmright_any n w
  rwa [show btwB n 0 2100000000000000000=true by unfold btwB;rw[decide_eq_true h0,decide_eq_true h1];rfl]at this)
 have hb:=rmright_any a w;cases hq:btwB a 0 2100000000000000000 with
 |false=>
  rw[hq]at hb hR;have HE:=zH (show R=(0,40) by rw[<-hR];rfl);have HB:=zH hb;clear hb hR hq;go_enter Tryz.func88,Tryz.ntmps88;go_wp2_with fail;refine HA.out.mono ?_;rintro e w1 ⟨rfl,rfl⟩;go_wp2_with fail;refine HB.out.mono ?_;rintro e w1 ⟨rfl,rfl⟩;go_wp2_with fail;rw[HE.out];exact bodyPost_ret (v:= .tuple #[.int .i64 0,.int .i64 40]) (by simp[results,Tryz.results88,go_sem]) rfl ⟨rfl,rfl⟩
 |true=>
  obtain⟨a0,a1⟩:=btwB_of hq;have hw:IntKind.i64.wrap (n+a)=n+a:=by rw[IntKind.wrap_i64];omega
  rw[hq,Bool.true_and]at hR;rw[hq]at hb;have HB:=zH hb;by_cases hle:a<=2100000000000000000 - n
  ·have HE:=zH (show R=(n+a,0) by rw[<-hR,decide_eq_true hle];rfl);have hg: ¬(2100000000000000000:Int)<n+a:=by omega
   clear hb hR hq;go_enter Tryz.func88,Tryz.ntmps88;go_wp2_with fail;refine HA.out.mono ?_;rintro e w1 ⟨rfl,rfl⟩;go_wp2_with fail;refine HB.out.mono ?_;rintro e w1 ⟨rfl,rfl⟩;go_wp2_with fail;rw[HE.out];exact bodyPost_ret (v:= .tuple #[.int .i64 (n+a),.int .i64 0]) (by simp[results,Tryz.results88,go_sem]) rfl ⟨rfl,rfl⟩
  ·have HE:=zH (show R=(0,40) by rw[<-hR,decide_eq_false hle];rfl);have hg:(2100000000000000000:Int)<n+a:=by omega
   clear hb hR hq;go_enter Tryz.func88,Tryz.ntmps88;go_wp2_with fail;refine HA.out.mono ?_;rintro e w1 ⟨rfl,rfl⟩;go_wp2_with fail;refine HB.out.mono ?_;rintro e w1 ⟨rfl,rfl⟩;go_wp2_with fail;rw[HE.out];exact bodyPost_ret (v:= .tuple #[.int .i64 0,.int .i64 40]) (by simp[results,Tryz.results88,go_sem]) rfl ⟨rfl,rfl⟩
set_option maxRecDepth 100000 in
set_option maxHeartbeats 4000000 in
theorem rsum_any (l:List Int) (A:Option Addr) (cap:Nat) (w:World) (hl:l.length<=1000) (hA:Cells w A (amtsV l)):
 Calls Tryz.prog 74 #[.slice A l.length cap] w fun e w'=>e= .returned (.tuple #[.int .i64 (sumE 0 l).1,.int .i64 (sumE 0 l).2])/\w'=w:=by
 obtain⟨R,hR⟩: ∃R,sumE 0 l=R:=⟨_,rfl⟩;rw[hR];have HA:=zH hA;have HR:=zH hR;clear hA hR;go_enter Tryz.func74,Tryz.ntmps74;go_wp2_with fail;go_loopw [4,5] (fun s i wr=> ∃(k:Nat) (n:Int),k<=l.length/\s= .int .i64 n/\i= .int .i64 (k:Int)/\wr=w/\sumE n (l.drop k)=R/\0<=n/\n<=2100000000000000000) (fun _ i _=>l.length - (intOf i).toNat)
 case atStart=>exact⟨0,0,Nat.zero_le _,rfl,rfl,rfl,by rw[List.drop_zero];exact HR.out,by omega,by omega⟩
 case round=>
  obtain⟨k,n,hk,rfl,rfl,rfl,hs,h0,h1⟩:=hrel;by_cases hlt:k<l.length
  ·obtain⟨ad,rfl,hc⟩:=amts_at HA.out hlt;rw[List.drop_eq_getElem_cons hlt,sumE_cons]at hs;obtain⟨a,ha⟩: ∃a,l[k]=a:=⟨_,rfl⟩;rw[ha]at hc hs;have hr:=radd_any n a wr h0 h1;have hle:=plusE_le (n:=n) (a:=a) h0;have hor:=plusE_or n a;obtain⟨x1,x2,hx⟩: ∃x1 x2,plusE n a=(x1,x2):=⟨_,_,rfl⟩;rw[hx]at hr hs hle hor;have HRT:=zH hr;by_cases hz:x2=0
   ·subst hz;rw[if_pos rfl]at hs;have hle2:=hle rfl;have HS:=zH hs;have HL:=zH hle2;clear hr hs hle hor hx hle2 ha;go_wp2_with fail;refine HRT.out.mono ?_;rintro e w1 ⟨rfl,rfl⟩;go_wp2_with fail;go_roundw
    case rel=>exact⟨k+1,x1,by omega,rfl,by go_num,by trivial,HS.out,HL.out.1,HL.out.2⟩
    case measure=>simp[intOf];omega
   ·have hne:(x2 !=0)=true:=by simpa using hz
    rw[if_neg hz]at hs;rcases hor with h|h
    ·exact absurd h hz
    ·obtain⟨rfl,rfl⟩:=Prod.mk.inj h;have HE:=zH (show R=(0,40)from hs.symm);clear hr hs hle h hx hz hne ha;go_wp2_with fail;refine HRT.out.mono ?_;rintro e w1 ⟨rfl,rfl⟩;go_wp2_with fail;go_ret2;rw[HE.out];exact⟨rfl,rfl⟩
  ·have HE:=zH (show R=(n,0) by rw[<-hs,List.drop_of_length_le (by omega)];rfl);clear hs;go_wp2_with fail;go_ret2;rw[HE.out];exact⟨rfl,rfl⟩
def sumsE (capi own other:Int) (hs:List PayR):Int:=if !(decide ((sumE 0 (own::other::hs.map (·.amt))).2=0))||decide (capi*1000<(sumE 0 (own::other::hs.map (·.amt))).1)then 40 else 0
set_option maxRecDepth 100000 in
set_option maxHeartbeats 8000000 in
theorem sums_any (capi n own other:Int) (hs:List PayR) (A:Option Addr) (cap:Nat) (w:World) (h0:0<=capi) (h1:capi<=2100000000000000) (hl:hs.length<=900) (hc:Cells w A (hs.flatMap payC)):
 Calls Tryz.prog 44 #[.int .i64 capi,.agg #[.int .i64 n,.int .i64 own,.int .i64 other,.slice A hs.length cap]] w fun e w'=>e= .returned (.int .i64 (sumsE capi own other hs))/\Below w.heap.size w w':=by
 have hb0:Below w.heap.size w (w.alloc (zO6 n own other A hs.length cap)):=(Below.refl w.heap.size w).alloc (Nat.le_refl _) (zO6 n own other A hs.length cap);have hb3:Below (w.heap.size+1) (w.alloc (zO6 n own other A hs.length cap)) ((w.alloc (zO6 n own other A hs.length cap)).alloc (zO15 own other)):=(Below.refl _ _).alloc (by simp) (zO15 own other);have HB:=zH (hb0.trans (hb3.mono (by omega)));have hx1:=allocs_at [(zO6 n own other A hs.length cap),(zO15 own other)] w 0 _ rfl;have H1:=zH (show((w.alloc (zO6 n own other A hs.length cap)).alloc (zO15 own other)).heap[w.heap.size]? =some (zO6 n own other A hs.length cap)from hx1);have s3:((w.alloc (zO6 n own other A hs.length cap)).alloc (zO15 own other)).cell? ⟨w.heap.size,3,none⟩=some (.slice A hs.length cap):=cell_of (j:=3) hx1 rfl;have HO:=zH (show((w.alloc (zO6 n own other A hs.length cap)).alloc (zO15 own other)).ownsRow (w.heap.size+1) 2 1 (.slice (some ⟨w.heap.size+1,0,none⟩) 2 2) 2 (amtsV [own,other]) by
  have:=own_fresh (w.alloc (zO6 n own other A hs.length cap)) (amtsV [own,other]) 2 2 rfl (by decide) (by decide);simpa [amtsV]using this)
 have HC:=zH hc;have hsz:((w.alloc (.cells #[.int .i64 n,.int .i64 own,.int .i64 other,.slice A hs.length cap] 38)).alloc (.cells #[.int .i64 own,.int .i64 other] 2)).heap.size=w.heap.size+1+1:=by simp
 have hw:IntKind.i64.wrap (capi*1000)=capi*1000:=by rw[IntKind.wrap_i64];omega
 obtain⟨R,hR⟩: ∃R,sumsE capi own other hs=R:=⟨_,rfl⟩;rw[hR];unfold sumsE at hR;have HSM:=zH (fun A' c' (W:World) hc'=>rsum_any (own::other::hs.map (·.amt)) A' c' W (by simp;omega) hc');obtain⟨t1,t2,ht⟩: ∃t1 t2,sumE 0 (own::other::hs.map (·.amt))=(t1,t2):=⟨_,_,rfl⟩;rw[ht]at hR HSM;have HR:=zH hR;clear hR ht hb0 hb3 hx1 hc;go_enter Tryz.func44,Tryz.ntmps44;go_wp2_with fail;generalize ((w.alloc (zO6 n own other A hs.length cap)).alloc (zO15 own other))=V at HB H1 s3 HO HC hsz⊢;go_wp2_with fail;go_loopw [5,6] (fun va vi wr=> ∃(k:Nat) (vA:Value),vA=va/\k<=hs.length/\vi= .int .i64 (k:Int)/\Below (w.heap.size+1) V wr/\wr.ownsRow (w.heap.size+1) 2 1 vA (2+k) (amtsV (own::other::(hs.take k).map (·.amt)))) (fun _ vi _=>hs.length - (intOf vi).toNat)
 case atStart=>exact⟨0,_,rfl,Nat.zero_le _,rfl,Below.refl _ _,HO.out⟩
 case round=>
  obtain⟨k,vA,rfl,hk,rfl,hbr,hown⟩:=hrel;have hbr2:=hbr.size;have hs1:=(hbr.block w.heap.size (by omega)).trans H1.out;have S3:wr.cell? ⟨w.heap.size,3,none⟩=some (.slice A hs.length cap):=cell_of (j:=3) hs1 rfl;by_cases hlt:k<hs.length
  ·obtain⟨ad,rfl,c0,c1,c2,c3,c4⟩:=pay_at (HC.out.below (HB.out.trans (hbr.mono (by omega)))) hlt;obtain⟨h,hh⟩: ∃h,hs[k]=h:=⟨_,rfl⟩;rw[hh]at c2;have hal:amtsV (own::other::(hs.take (k+1)).map (·.amt))=amtsV (own::other::(hs.take k).map (·.amt))++[.int .i64 h.amt]:=by
    rw[List.take_succ_eq_append_getElem hlt,hh,List.map_append,<-amts_snoc];rfl
   have hz1:(k:Int)<1000:=by omega
   have hbl0:Below wr.heap.size wr (wr.alloc (zO18 h.amt)):=(Below.refl _ _).alloc (Nat.le_refl _) _;have HOL:=zH (show(wr.alloc (zO18 h.amt)).ownsRow (w.heap.size+1) 2 1 vA (2+k) (amtsV (own::other::(hs.take k).map (·.amt)))from own_below hown hbl0);have HFC:=zH (show Cells (wr.alloc (zO18 h.amt)) (some ⟨wr.heap.size,0,none⟩) [.int .i64 h.amt] by
    have:=fresh_cells wr #[.int .i64 h.amt] 2;simpa using this)
   have HBL:=zH (hbr.trans (hbl0.mono (by omega)));have hsz1:w.heap.size+1<=(wr.alloc (zO18 h.amt)).heap.size:=Nat.le_trans (by omega) hbl0.size;have hn1:(2+k+1)*8<=140737488355328:=by omega
   have hn2:2+k+1<=140737488355328:=by omega
   have HN1:=zH hn1;have HN2:=zH hn2;have HSZ:=zH hsz1;have HAL:=zH hal;clear hh hal hbl0 hsz1 hn1 hn2 hown c0 c1 c3 c4 hs1;go_wp2_with (at_builtin;refine wpList_appk slAmt rfl _ _ rfl (w.heap.size+1) _ (2+k) _ rfl HOL.out (some ⟨wr.heap.size,0,none⟩) 1 1 [.int .i64 h.amt] rfl rfl HFC.out (by intro u hu;simp at hu;subst hu;rfl) HN1.out HN2.out HSZ.out ?_;intro v' w6 hown hgr hbl hat);have hend:w6.ownsRow (w.heap.size+1) 2 1 v' (2+(k+1)) (amtsV (own::other::(hs.take (k+1)).map (·.amt))):=by
    rw[HAL.out];exact hown
   have HEND:=zH hend;have HBE:=zH (HBL.out.trans hbl);clear hend hown hgr hbl hat;go_roundw
   case rel=>exact⟨k+1,v',rfl,by omega,by go_num,HBE.out,HEND.out⟩
   case measure=>simp[intOf];omega
  ·have hkn:k=hs.length:=by omega
   subst hkn;rw[List.take_of_length_le (Nat.le_refl _)]at hown;obtain⟨A',c',rfl,-,hcc⟩:=own_shape hown;have hsm:=HSM.out A' c' wr hcc;rw[show(own::other::hs.map (·.amt)).length=2+hs.length by simp only[List.length_cons,List.length_map];omega]at hsm;have HS:=zH hsm;have HBE:=zH (HB.out.trans (hbr.mono (by omega)));clear hsm hs1 hcc hown hbr hbr2 hlt hk;cases hc2:decide (t2=0)with
   |false=>
    have hne:(t2 !=0)=true:=by have:=of_decide_eq_false hc2;simpa using this
    have HE:=zH (show R=40 by rw[<-HR.out,hc2];rfl);clear hc2;go_wp2_with fail;refine HS.out.mono ?_;rintro e w1 ⟨rfl,rfl⟩;go_wp2_with fail;go_ret;rw[HE.out];exact⟨rfl,HBE.out⟩
   |true=>
    have hne:(t2 !=0)=false:=by have:=of_decide_eq_true hc2;simp[this]
    by_cases hg:capi*1000<t1
    ·have HE:=zH (show R=40 by rw[<-HR.out,hc2,decide_eq_true hg];rfl);clear hc2;go_wp2_with fail;refine HS.out.mono ?_;rintro e w1 ⟨rfl,rfl⟩;go_wp2_with fail;go_ret;rw[HE.out];exact⟨rfl,HBE.out⟩
    ·have HE:=zH (show R=0 by rw[<-HR.out,hc2,decide_eq_false hg];rfl);clear hc2;go_wp2_with fail;refine HS.out.mono ?_;rintro e w1 ⟨rfl,rfl⟩;go_wp2_with fail;go_ret;rw[HE.out];exact⟨rfl,HBE.out⟩
open Go.RowKit
def lineH (d:DealR) (k:KeysR) (i:Nat) (h:PayR):LineP:=⟨h.amt / 1000,htlcL d.delay k h.mine h.hash h.exp,(i:Int)⟩
def linesH (d:DealR) (k:KeysR):Nat->List PayR->List LineP
 |_,[]=>[]
 |i,h::r=>if trimB d h.mine h.amt then linesH d k (i+1) r else lineH d k i h::linesH d k (i+1) r
theorem linesH_snoc (d:DealR) (k:KeysR) (x:PayR): ∀(l:List PayR) (i:Nat),linesH d k i (l++[x])=if trimB d x.mine x.amt then linesH d k i l else linesH d k i l++[lineH d k (i+l.length) x]
 |[],i=>by
  show(if trimB d x.mine x.amt then []else [lineH d k i x])=_;simp[linesH]
 |h::r,i=>by
  have ih:=linesH_snoc d k x r (i+1);rw[List.cons_append];unfold linesH;rw[ih,List.length_cons,show i+(r.length+1)=i+1+r.length by omega];cases trimB d h.mine h.amt<;>cases trimB d x.mine x.amt<;>simp
theorem linesH_len (d:DealR) (k:KeysR): ∀(l:List PayR) (i:Nat),(linesH d k i l).length<=l.length
 |[],_=>Nat.le_refl _
 |h::r,i=>by
  have ih:=linesH_len d k r (i+1);unfold linesH;split
  ·rw[List.length_cons];omega
  ·rw[List.length_cons,List.length_cons];omega
def ownA (opener:Bool) (own fee:Int):Int:=if opener then own / 1000 - fee else own / 1000
def otherA (opener:Bool) (other fee:Int):Int:=if opener then other / 1000 else other / 1000 - fee
def baseL (d:DealR) (k:KeysR) (m o:Int):List LineP:=(if d.dust<=m then [⟨m,ownL d.delay k,-1⟩]else [])++(if d.dust<=o then [⟨o,otherL k,-2⟩]else [])
def allL2 (d:DealR) (k:KeysR) (opener:Bool) (own other:Int) (hs:List PayR):List LineP:=
 baseL d k (ownA opener own (feeE d.rate ((linesH d k 0 hs).length:Int)).1) (otherA opener other (feeE d.rate ((linesH d k 0 hs).length:Int)).1)++linesH d k 0 hs
def buildE (tx:ByteArray) (pn:Int) (d:DealR) (opener:Bool) (n own other:Int) (hs:List PayR) (k:KeysR):TxT×List Int×Int:=
 if dealE d=0 then if bndE d n own other hs=0 then wholeE tx pn (allL2 d k opener own other hs) n else(zeroTx,[],bndE d n own other hs)else(zeroTx,[],dealE d)
theorem sum_ok {n a:Int} {r:List Int} (h:(sumE n (a::r)).2=0):btwB a 0 2100000000000000000=true/\(sumE (n+a) r).2=0:=by
 unfold sumE at h;split at h
 ·rename_i hc;rw[Bool.and_eq_true]at hc;exact⟨hc.1,h⟩
 ·cases h
theorem bnd_ok {d:DealR} {n own other:Int} {hs:List PayR} (h:bndE d n own other hs=0):0<=own/\own<=2100000000000000000/\0<=other/\other<=2100000000000000000/\hs.length<=60/\(sumE 0 (own::other::hs.map (·.amt))).2=0/\(sumE 0 (own::other::hs.map (·.amt))).1<=d.cap*1000:=by
 unfold bndE at h;split at h
 ·cases h
 ·rename_i hc;rw[Bool.not_eq_true,Bool.or_eq_false_iff]at hc;have h1:(sumE 0 (own::other::hs.map (·.amt))).2=0:=by have:=hc.1;simpa using this
  have h2: ¬d.cap*1000<(sumE 0 (own::other::hs.map (·.amt))).1:=of_decide_eq_false hc.2;split at h
  ·rename_i hb;rw[Bool.and_eq_true,Bool.and_eq_true,decide_eq_true_eq,decide_eq_true_eq]at hb;obtain⟨a1,a2⟩:=sum_ok h1;obtain⟨a3,-⟩:=sum_ok a2;have b1:=btwB_of a1;have b2:=btwB_of a3;have:=mineN_le hs;exact⟨b1.1,b1.2,b2.1,b2.2,by omega,h1,by omega⟩
  ·cases h
theorem deal_ok {d:DealR} (h:dealE d=0):1<=d.cap/\d.cap<=2100000000000000/\1<=d.dust/\btwB d.rate 0 1000000=true:=by
 unfold dealE at h;split at h
 ·rename_i hb;unfold dealB dealN at hb;simp only[Bool.and_eq_true]at hb;have b1:=btwB_of hb.1.1.1.1.1.1.1.1.1;have b3:=btwB_of hb.1.1.1.1.1.1.1.2;exact⟨b1.1,b1.2,b3.1,hb.1.1.1.1.1.2⟩
 ·cases h
theorem fee_ok {d:DealR} (h:dealE d=0) {m:Nat} (hm:m<=60):(feeE d.rate (m:Int)).2=0/\0<=(feeE d.rate (m:Int)).1/\(feeE d.rate (m:Int)).1<=2100000000000000:=by
 have h1:=(deal_ok h).2.2.2;unfold feeE;rw[if_neg (by omega)];have h2:=cost_ok (w:=724+172*(m:Int)) h1 (by omega) (by omega);have h3:=costE_fst d.rate (724+172*(m:Int));exact⟨by rw[h2],h3.1,h3.2⟩
theorem trim_ok {d:DealR} {mine:Bool} {amt:Int} (h:trimB d mine amt=false):0<=amt/\amt<=2100000000000000000:=by
 unfold trimB at h;rw[Bool.or_eq_false_iff,Bool.or_eq_false_iff]at h;have:=h.1.2;exact btwB_of (by simpa using this)
theorem smallK {d:DealR} {k:KeysR} {h:PayR} (hk:k.rev.size<=900000/\k.mine.size<=900000/\k.theirs.size<=900000) (hh:h.hash.size<=900000):smallT (htlcL d.delay k h.mine h.hash h.exp):=small_htlc _ _ _ _ _ hk.1 hk.2.1 hk.2.2 hh
theorem whole_qm (tx:ByteArray) (pn tag:Int) (ps:List (LineP×LineR)) (vL:Value) (base:Nat) (v w:World) (hn:ps.length<=1000) (hbv:Below v.heap.size v w) (hvb:v.heap.size<=base) (hown:w.ownsRow base 81 7 vL ps.length ((ps.map Prod.snd).flatMap LineR.enc)) (hps: ∀q∈ps,LineK v.heap.size w q) (hpt:ptOk ⟨tx,pn,0⟩) (htx:tx.size<=1125899906842624) (hv:VarsOk v) (ht:TabOk v):
 Calls Tryz.prog 43 #[.agg #[.string tx,.int .i64 pn],vL,.int .i64 tag] w fun e w'=> ∃t ws,e= .returned (.tuple #[t,ws,.int .i64 (wholeE tx pn (ps.map (·.1)) tag).2.2])/\TxF v.heap.size w' (wholeE tx pn (ps.map (·.1)) tag).1 t/\IntsF w' (wholeE tx pn (ps.map (·.1)) tag).2.1 ws/\ ∃F:List Nat,(∀g∈F,base<=g)/\Fr F w w':=by
 rcases Nat.eq_zero_or_pos ps.length with h0|h1
 ·obtain rfl:ps=[]:=List.eq_nil_of_length_eq_zero h0;obtain⟨A,c,rfl,-,-⟩:=own_shape hown;refine(whole_nil tx pn tag A c w).mono ?_;rintro e w' ⟨rfl,hb⟩;exact⟨_,_,rfl,TxF.zero _ _,IntsF.nil _,[],by simp,Fr.below hb⟩
 ·rcases hown.2 with⟨-,hn0⟩|⟨g,cap,cur,rfl,hbg,hg,-,-,-,htk⟩
  ·omega
  ·have hrow:RowL w g (ps.map (·.2)):=⟨cur,hg,fun j u hj=>row_take htk (by rw[List.flatMap_def];exact hj)⟩;refine(whole_many tx pn tag ps g cap v w hn h1 hbv (Nat.le_trans hvb hbg) hrow hps hpt htx hv ht).mono ?_;rintro e w' ⟨t,ws,rfl,a1,a2,a3⟩;exact⟨t,ws,rfl,a1,a2,[g],by simpa using hbg,a3⟩
end Go.Proofs.YtncniomiplnaaaaGreatDoor
