/- How many parts may be left behind a lock. · Of chapter 27's F8 what is wanted at this seat. · A region that draws its order, whose last operation (it waits for all others) spoils what the loads ahead of it rely on. -/
import Derived.Test.YtbiioifpeebjaaaGreatDoorQ9
import Derived.Deep.CutBlock
import Derived.Deep.DeepCutAuto
import Derived.Deep.RegionHeld3
set_option linter.all false
namespace Go.Proofs.YtbiioifpeebjaaaGreatDoor
open Go.RowKit
theorem bool_eq {a b:Bool} (h:a=b):Value.bool a=Value.bool b:=by rw[h]
theorem len_zero {m:Nat} (h:((m:Int)==0)=true):m=0:=by
 have:=eq_of_beq h;omega
theorem len_pos {m:Nat} (h:((m:Int)==0)=false): ¬m=0:=fun e=>by rw[e]at h;cases h
theorem partsTs_stop {x:LockT} {r:List LockT} {room:Int} (h:partsT x room<0):partsTs (x::r) room= -1:=by unfold partsTs;rw[if_pos h]
theorem partsTs_next {x:LockT} {r:List LockT} {room:Int} (h: ¬partsT x room<0):partsTs (x::r) room=partsTs r (partsT x room):=by
 conv=>lhs;unfold partsTs
 rw[if_neg h]
theorem partsT_range (x:LockT) (room:Int) (h:0<=room): -1<=partsT x room/\partsT x room<=room:=by
 rw[partsT_eq x room h];split<;>omega
set_option maxRecDepth 100000 in
set_option maxHeartbeats 8000000 in
theorem parts_step (k:Int) (t:ByteArray) (n:Int) (l:List LockT) (A:Option Addr) (cap:Nat) (xs:List Value) (room:Int) (w:World) (hr0:0<=room) (hr1:room<=1000) (hsm:t.size<=900000) (hll:l.length<=1000000) (hc:Cells w A xs) (hl:LocksC w l xs) (hv:VarsOk w)
 (HK: ∀(i:Nat) (hi:i<l.length) (room:Int) (W:World) (cs:List Value),0<=room->room<=1000->LockC W l[i] cs->VarsOk W->Calls Tryz.prog 55 #[.agg cs.toArray,.int .i64 room] W fun e w'=>e= .returned (.int .i64 (partsT l[i] room))/\Below W.heap.size W w'):
 Calls Tryz.prog 55 #[.agg #[.int .u8 k,.string t,.int .i64 n,.slice A l.length cap],.int .i64 room] w fun e w'=>e= .returned (.int .i64 (partsT (.node k t n l) room))/\Below w.heap.size w w':=by
 have hbA:Below w.heap.size w (w.alloc (zO2 k t n A l.length cap)):=(Below.refl _ _).alloc (Nat.le_refl _) _;have q0:(w.alloc (zO2 k t n A l.length cap)).cell? ⟨w.heap.size,0,none⟩=some (.int .u8 k):=alloc_cells 0 _ rfl;have q1:(w.alloc (zO2 k t n A l.length cap)).cell? ⟨w.heap.size,1,none⟩=some (.string t):=alloc_cells 1 _ rfl;have q2:(w.alloc (zO2 k t n A l.length cap)).cell? ⟨w.heap.size,2,none⟩=some (.int .i64 n):=alloc_cells 2 _ rfl;have q3:(w.alloc (zO2 k t n A l.length cap)).cell? ⟨w.heap.size,3,none⟩=some (.slice A l.length cap):=alloc_cells 3 _ rfl;have HB:=zH hbA;obtain⟨R,hR⟩: ∃R,partsT (.node k t n l) room=R:=⟨_,rfl⟩;rw[hR];have HR:=zH hR;clear hR;by_cases h0:room - 1<0
 ·have HN:=zH (show R= -1 by rw[<-HR.out];unfold partsT;rw[if_pos h0]);have h00:room=0:=by omega
  subst h00;clear HK hc hl;go_enter Tryz.func55,Tryz.ntmps55;go_wp2_with fail;go_ret;rw[HN.out];exact⟨rfl,HB.out⟩
 obtain⟨ok,hok⟩: ∃ok,okT k t.data.toList n l.length=ok:=⟨_,rfl⟩;have HOK:=zH hok;have HKK:=zH HK;have HV:=zH hv;have HC:=zH hc;have HL:=zH hl;clear hok HK hv hc hl hbA;by_cases hte:t.toList=[]
 ·have hte2:t.data.toList=[]:=by rw[<-Go.ByteArray.toList_eq];exact hte
  have HTE:=zH hte2;clear hte2;obtain⟨mb,hmb⟩: ∃mb,((l.length:Int)==0)=mb:=⟨_,rfl⟩;have HP:=zH (fun W hv=>lpub_any t W (by omega) hv);have HH:=zH (fun W hv=>lhash_any t W (by omega) hv);have HV2:=zH (HV.out.below HB.out);go_enter Tryz.func55,Tryz.ntmps55;go_upto_block 0 with fail;go_cut [6] (fun b wx=>b= .bool ok/\Below (w.alloc (zO2 k t n A l.length cap)).heap.size (w.alloc (zO2 k t n A l.length cap)) wx)
  case first=>
   by_cases h1:k=1
   ·subst h1;by_cases hn:n=0
    ·subst hn;cases mb with
     |true=>
      have hm:=len_zero hmb;have HOK:=zH (show ok=pubB t.data.toList by rw[<-HOK.out];unfold okT;rw[if_pos rfl,hm];simp);clear hm;go_wp2_with fail;refine(HP.out _ HV2.out).mono ?_;rintro e w1 ⟨rfl,hb1⟩;go_wp2_with fail;go_meet;exact⟨bool_eq HOK.out.symm,hb1⟩
     |false=>
      have hm:=len_pos hmb;have HOK:=zH (show ok=false by rw[<-HOK.out];unfold okT;rw[if_pos rfl,decide_eq_false hm];simp);clear hm;go_wp2_with fail;go_meet;exact⟨bool_eq HOK.out.symm,Below.refl _ _⟩
    ·have gn:(n==0)=false:=beq_false_of_ne hn;have HOK:=zH (show ok=false by rw[<-HOK.out];unfold okT;rw[if_pos rfl,decide_eq_false hn];simp);clear hn;go_wp2_with fail;go_meet;exact⟨bool_eq HOK.out.symm,Below.refl _ _⟩
   have k1:(k==1)=false:=beq_false_of_ne h1;by_cases h2:k=2
   ·subst h2;by_cases hn:n=0
    ·subst hn;cases mb with
     |true=>
      have hm:=len_zero hmb;have HOK:=zH (show ok=hashB t.data.toList by rw[<-HOK.out];unfold okT;rw[if_neg (by decide),if_pos rfl,hm];simp);clear hm;go_wp2_with fail;refine(HH.out _ HV2.out).mono ?_;rintro e w1 ⟨rfl,hb1⟩;go_wp2_with fail;go_meet;exact⟨bool_eq HOK.out.symm,hb1⟩
     |false=>
      have hm:=len_pos hmb;have HOK:=zH (show ok=false by rw[<-HOK.out];unfold okT;rw[if_neg (by decide),if_pos rfl,decide_eq_false hm];simp);clear hm;go_wp2_with fail;go_meet;exact⟨bool_eq HOK.out.symm,Below.refl _ _⟩
    ·have gn:(n==0)=false:=beq_false_of_ne hn;have HOK:=zH (show ok=false by rw[<-HOK.out];unfold okT;rw[if_neg (by decide),if_pos rfl,decide_eq_false hn];simp);clear hn;go_wp2_with fail;go_meet;exact⟨bool_eq HOK.out.symm,Below.refl _ _⟩
   have k2:(k==2)=false:=beq_false_of_ne h2;by_cases h3:k=3
   ·subst h3;cases mb with
    |true=>
     have HM:=zH (len_zero hmb);by_cases hn0:0<=n
     ·have g0n:decide (0<=n)=true:=decide_eq_true hn0;have HOK:=zH (show ok=decide (n<1073741824) by rw[<-HOK.out];unfold okT;rw[if_neg (by decide),if_neg (by decide),if_pos (by decide),HM.out,decide_eq_true HTE.out,decide_eq_true hn0];simp);go_wp2_with fail;go_meet;exact⟨bool_eq HOK.out.symm,Below.refl _ _⟩
     ·have g0n:decide (0<=n)=false:=decide_eq_false hn0;have HOK:=zH (show ok=false by rw[<-HOK.out];unfold okT;rw[if_neg (by decide),if_neg (by decide),if_pos (by decide),decide_eq_false hn0];simp);clear hn0;go_wp2_with fail;go_meet;exact⟨bool_eq HOK.out.symm,Below.refl _ _⟩
    |false=>
     have hm:=len_pos hmb;have HOK:=zH (show ok=false by rw[<-HOK.out];unfold okT;rw[if_neg (by decide),if_neg (by decide),if_pos (by decide),decide_eq_false hm];simp);clear hm;go_wp2_with fail;go_meet;exact⟨bool_eq HOK.out.symm,Below.refl _ _⟩
   have k3:(k==3)=false:=beq_false_of_ne h3;by_cases h4:k=4
   ·subst h4;cases mb with
    |true=>
     have HM:=zH (len_zero hmb);by_cases hn0:0<=n
     ·have g0n:decide (0<=n)=true:=decide_eq_true hn0;have HOK:=zH (show ok=decide (n<1073741824) by rw[<-HOK.out];unfold okT;rw[if_neg (by decide),if_neg (by decide),if_pos (by decide),HM.out,decide_eq_true HTE.out,decide_eq_true hn0];simp);go_wp2_with fail;go_meet;exact⟨bool_eq HOK.out.symm,Below.refl _ _⟩
     ·have g0n:decide (0<=n)=false:=decide_eq_false hn0;have HOK:=zH (show ok=false by rw[<-HOK.out];unfold okT;rw[if_neg (by decide),if_neg (by decide),if_pos (by decide),decide_eq_false hn0];simp);clear hn0;go_wp2_with fail;go_meet;exact⟨bool_eq HOK.out.symm,Below.refl _ _⟩
    |false=>
     have hm:=len_pos hmb;have HOK:=zH (show ok=false by rw[<-HOK.out];unfold okT;rw[if_neg (by decide),if_neg (by decide),if_pos (by decide),decide_eq_false hm];simp);clear hm;go_wp2_with fail;go_meet;exact⟨bool_eq HOK.out.symm,Below.refl _ _⟩
   have k4:(k==4)=false:=beq_false_of_ne h4;by_cases h5:k=5
   ·subst h5;by_cases hn:n=0
    ·subst hn;by_cases hm:l.length=0
     ·have gm: ¬0<l.length:=by omega
      have HOK:=zH (show ok=false by rw[<-HOK.out];unfold okT;rw[if_neg (by decide),if_neg (by decide),if_neg (by decide),if_pos (by decide),hm];simp);clear hm;go_wp2_with fail;go_meet;exact⟨bool_eq HOK.out.symm,Below.refl _ _⟩
     ·have gm:0<l.length:=by omega
      have g8:decide ((l.length:Int)<=8)=decide (l.length<=8):=by
       by_cases h:l.length<=8
       ·rw[decide_eq_true h,decide_eq_true (by omega)]
       ·rw[decide_eq_false h,decide_eq_false (by omega)]
      have HOK:=zH (show ok=decide ((l.length:Int)<=8) by rw[<-HOK.out,g8];unfold okT;rw[if_neg (by decide),if_neg (by decide),if_neg (by decide),if_pos (by decide),decide_eq_true HTE.out,decide_eq_true (show 0<l.length by omega)];simp);clear hm g8;go_wp2_with fail;go_meet;exact⟨bool_eq HOK.out.symm,Below.refl _ _⟩
    ·have gn:(n==0)=false:=beq_false_of_ne hn;have HOK:=zH (show ok=false by rw[<-HOK.out];unfold okT;rw[if_neg (by decide),if_neg (by decide),if_neg (by decide),if_pos (by decide),decide_eq_false hn];simp);clear hn;go_wp2_with fail;go_meet;exact⟨bool_eq HOK.out.symm,Below.refl _ _⟩
   have k5:(k==5)=false:=beq_false_of_ne h5;by_cases h6:k=6
   ·subst h6;by_cases hn:n=0
    ·subst hn;by_cases hm:l.length=0
     ·have gm: ¬0<l.length:=by omega
      have HOK:=zH (show ok=false by rw[<-HOK.out];unfold okT;rw[if_neg (by decide),if_neg (by decide),if_neg (by decide),if_pos (by decide),hm];simp);clear hm;go_wp2_with fail;go_meet;exact⟨bool_eq HOK.out.symm,Below.refl _ _⟩
     ·have gm:0<l.length:=by omega
      have g8:decide ((l.length:Int)<=8)=decide (l.length<=8):=by
       by_cases h:l.length<=8
       ·rw[decide_eq_true h,decide_eq_true (by omega)]
       ·rw[decide_eq_false h,decide_eq_false (by omega)]
      have HOK:=zH (show ok=decide ((l.length:Int)<=8) by rw[<-HOK.out,g8];unfold okT;rw[if_neg (by decide),if_neg (by decide),if_neg (by decide),if_pos (by decide),decide_eq_true HTE.out,decide_eq_true (show 0<l.length by omega)];simp);clear hm g8;go_wp2_with fail;go_meet;exact⟨bool_eq HOK.out.symm,Below.refl _ _⟩
    ·have gn:(n==0)=false:=beq_false_of_ne hn;have HOK:=zH (show ok=false by rw[<-HOK.out];unfold okT;rw[if_neg (by decide),if_neg (by decide),if_neg (by decide),if_pos (by decide),decide_eq_false hn];simp);clear hn;go_wp2_with fail;go_meet;exact⟨bool_eq HOK.out.symm,Below.refl _ _⟩
   have k6:(k==6)=false:=beq_false_of_ne h6;have HOK:=zH (show ok=false by rw[<-HOK.out];unfold okT;rw[if_neg h1,if_neg h2,if_neg (by omega),if_neg (by omega)]);clear h1 h2 h3 h4 h5 h6;go_wp2_with fail;go_meet;exact⟨bool_eq HOK.out.symm,Below.refl _ _⟩
  case rest=>
   obtain⟨rfl,hbx⟩:=hcut;have c3:=cell_below hbx q3;have HBX:=zH (HB.out.trans (hbx.mono HB.out.size));clear hbx HP HH HV2 hmb;clear q0 q1 q2 q3;cases ok with
   |false=>
    have HN:=zH (show R= -1 by rw[<-HR.out];unfold partsT;rw[if_neg h0,HOK.out];rfl);go_wp2_with fail;go_ret;rw[HN.out];exact⟨rfl,HBX.out⟩
   |true=>
    have HN:=zH (show partsTs l (room - 1)=R by rw[<-HR.out];unfold partsT;rw[if_neg h0,HOK.out];rfl);go_wp2_with fail;go_loopw [98,1] (fun i r wr=> ∃(j:Nat) (rm:Int),j<=l.length/\i= .int .i64 (j:Int)/\r= .int .i64 rm/\partsTs (l.drop j) rm=R/\0<=rm/\rm<=1000/\Below w.heap.size w wr) (fun i _ _=>l.length - (intOf i).toNat)
    case atStart=>exact⟨0,room - 1,Nat.zero_le _,rfl,rfl,by rw[List.drop_zero];exact HN.out,by omega,by omega,HBX.out⟩
    case round=>
     obtain⟨j,rm,hj,rfl,rfl,hrest,hr2,hr3,hbr⟩:=hrel;have HBR:=zH hbr;by_cases hlt:j<l.length
     ·obtain⟨ad,B,cp,rfl,d0,d1,d2,d3,hlk⟩:=lock_at (Cells.below HC.out hbr) (LocksC.below hbr l xs HL.out) hlt;have hbe:Below wr.heap.size wr (wr.alloc (zO2 l[j].kind l[j].term l[j].n B l[j].kids.length cp)):=(Below.refl _ _).alloc (Nat.le_refl _) _;have hcall:=HKK.out j hlt rm (wr.alloc (zO2 l[j].kind l[j].term l[j].n B l[j].kids.length cp)) _ hr2 hr3 (LockC.below hbe _ _ hlk) ((HV.out.below hbr).below hbe);have HBE:=zH (hbr.trans (hbe.mono hbr.size));have hdrop:l.drop j=l[j]::l.drop (j+1):=List.drop_eq_getElem_cons hlt;rw[hdrop]at hrest;have hrg:=partsT_range l[j] rm hr2;have HREST:=zH hrest;obtain⟨p,hp⟩: ∃p,partsT l[j] rm=p:=⟨_,rfl⟩;rw[hp]at hcall hrg;have HP:=zH hp;have HCALL:=zH hcall;clear hcall hp hrest hdrop hbe hlk hbr;by_cases hneg:p<0
      ·have HN2:=zH (show R= -1 by rw[<-HREST.out];exact partsTs_stop (by rw[HP.out];exact hneg));have gp:decide (p<0)=true:=decide_eq_true hneg;go_wp2_with fail;refine HCALL.out.mono ?_;rintro e w1 ⟨rfl,hb1⟩;have HB1:=zH (HBE.out.trans (hb1.mono HBE.out.size));clear hb1;go_wp2_with fail;go_ret;rw[HN2.out];exact⟨rfl,HB1.out⟩
      ·have HN2:=zH (show partsTs (l.drop (j+1)) p=R by rw[<-HREST.out,partsTs_next (by rw[HP.out];exact hneg),HP.out]);have gp:decide (p<0)=false:=decide_eq_false hneg;go_wp2_with fail;refine HCALL.out.mono ?_;rintro e w1 ⟨rfl,hb1⟩;have HB1:=zH (HBE.out.trans (hb1.mono HBE.out.size));clear hb1;go_wp2_with fail;go_roundw
       case rel=>exact⟨j+1,p,by omega,by go_num,rfl,HN2.out,by omega,by omega,HB1.out⟩
       case measure=>simp[intOf];omega
     ·have HN2:=zH (show R=rm by rw[<-hrest,List.drop_of_length_le (by omega)];rfl);clear hrest hbr;go_wp2_with fail;go_ret;rw[HN2.out];exact⟨rfl,HBR.out⟩
 ·have hte2: ¬t.data.toList=[]:=fun h=>hte (by rw[Go.ByteArray.toList_eq];exact h)
  have HTE:=zH hte2;clear hte2;obtain⟨mb,hmb⟩: ∃mb,((l.length:Int)==0)=mb:=⟨_,rfl⟩;have HP:=zH (fun W hv=>lpub_any t W (by omega) hv);have HH:=zH (fun W hv=>lhash_any t W (by omega) hv);have HV2:=zH (HV.out.below HB.out);go_enter Tryz.func55,Tryz.ntmps55;go_upto_block 0 with fail;go_cut [6] (fun b wx=>b= .bool ok/\Below (w.alloc (zO2 k t n A l.length cap)).heap.size (w.alloc (zO2 k t n A l.length cap)) wx)
  case first=>
   by_cases h1:k=1
   ·subst h1;by_cases hn:n=0
    ·subst hn;cases mb with
     |true=>
      have hm:=len_zero hmb;have HOK:=zH (show ok=pubB t.data.toList by rw[<-HOK.out];unfold okT;rw[if_pos rfl,hm];simp);clear hm;go_wp2_with fail;refine(HP.out _ HV2.out).mono ?_;rintro e w1 ⟨rfl,hb1⟩;go_wp2_with fail;go_meet;exact⟨bool_eq HOK.out.symm,hb1⟩
     |false=>
      have hm:=len_pos hmb;have HOK:=zH (show ok=false by rw[<-HOK.out];unfold okT;rw[if_pos rfl,decide_eq_false hm];simp);clear hm;go_wp2_with fail;go_meet;exact⟨bool_eq HOK.out.symm,Below.refl _ _⟩
    ·have gn:(n==0)=false:=beq_false_of_ne hn;have HOK:=zH (show ok=false by rw[<-HOK.out];unfold okT;rw[if_pos rfl,decide_eq_false hn];simp);clear hn;go_wp2_with fail;go_meet;exact⟨bool_eq HOK.out.symm,Below.refl _ _⟩
   have k1:(k==1)=false:=beq_false_of_ne h1;by_cases h2:k=2
   ·subst h2;by_cases hn:n=0
    ·subst hn;cases mb with
     |true=>
      have hm:=len_zero hmb;have HOK:=zH (show ok=hashB t.data.toList by rw[<-HOK.out];unfold okT;rw[if_neg (by decide),if_pos rfl,hm];simp);clear hm;go_wp2_with fail;refine(HH.out _ HV2.out).mono ?_;rintro e w1 ⟨rfl,hb1⟩;go_wp2_with fail;go_meet;exact⟨bool_eq HOK.out.symm,hb1⟩
     |false=>
      have hm:=len_pos hmb;have HOK:=zH (show ok=false by rw[<-HOK.out];unfold okT;rw[if_neg (by decide),if_pos rfl,decide_eq_false hm];simp);clear hm;go_wp2_with fail;go_meet;exact⟨bool_eq HOK.out.symm,Below.refl _ _⟩
    ·have gn:(n==0)=false:=beq_false_of_ne hn;have HOK:=zH (show ok=false by rw[<-HOK.out];unfold okT;rw[if_neg (by decide),if_pos rfl,decide_eq_false hn];simp);clear hn;go_wp2_with fail;go_meet;exact⟨bool_eq HOK.out.symm,Below.refl _ _⟩
   have k2:(k==2)=false:=beq_false_of_ne h2;by_cases h3:k=3
   ·subst h3;have HOK:=zH (show ok=false by rw[<-HOK.out];unfold okT;rw[if_neg (by decide),if_neg (by decide),if_pos (by decide),decide_eq_false HTE.out];simp);go_wp2_with fail;go_meet;exact⟨bool_eq HOK.out.symm,Below.refl _ _⟩
   have k3:(k==3)=false:=beq_false_of_ne h3;by_cases h4:k=4
   ·subst h4;have HOK:=zH (show ok=false by rw[<-HOK.out];unfold okT;rw[if_neg (by decide),if_neg (by decide),if_pos (by decide),decide_eq_false HTE.out];simp);go_wp2_with fail;go_meet;exact⟨bool_eq HOK.out.symm,Below.refl _ _⟩
   have k4:(k==4)=false:=beq_false_of_ne h4;by_cases h5:k=5
   ·subst h5;have HOK:=zH (show ok=false by rw[<-HOK.out];unfold okT;rw[if_neg (by decide),if_neg (by decide),if_neg (by decide),if_pos (by decide),decide_eq_false HTE.out];simp);go_wp2_with fail;go_meet;exact⟨bool_eq HOK.out.symm,Below.refl _ _⟩
   have k5:(k==5)=false:=beq_false_of_ne h5;by_cases h6:k=6
   ·subst h6;have HOK:=zH (show ok=false by rw[<-HOK.out];unfold okT;rw[if_neg (by decide),if_neg (by decide),if_neg (by decide),if_pos (by decide),decide_eq_false HTE.out];simp);go_wp2_with fail;go_meet;exact⟨bool_eq HOK.out.symm,Below.refl _ _⟩
   have k6:(k==6)=false:=beq_false_of_ne h6;have HOK:=zH (show ok=false by rw[<-HOK.out];unfold okT;rw[if_neg h1,if_neg h2,if_neg (by omega),if_neg (by omega)]);clear h1 h2 h3 h4 h5 h6;go_wp2_with fail;go_meet;exact⟨bool_eq HOK.out.symm,Below.refl _ _⟩
  case rest=>
   obtain⟨rfl,hbx⟩:=hcut;have c3:=cell_below hbx q3;have HBX:=zH (HB.out.trans (hbx.mono HB.out.size));clear hbx HP HH HV2 hmb;clear q0 q1 q2 q3;cases ok with
   |false=>
    have HN:=zH (show R= -1 by rw[<-HR.out];unfold partsT;rw[if_neg h0,HOK.out];rfl);go_wp2_with fail;go_ret;rw[HN.out];exact⟨rfl,HBX.out⟩
   |true=>
    have HN:=zH (show partsTs l (room - 1)=R by rw[<-HR.out];unfold partsT;rw[if_neg h0,HOK.out];rfl);go_wp2_with fail;go_loopw [98,1] (fun i r wr=> ∃(j:Nat) (rm:Int),j<=l.length/\i= .int .i64 (j:Int)/\r= .int .i64 rm/\partsTs (l.drop j) rm=R/\0<=rm/\rm<=1000/\Below w.heap.size w wr) (fun i _ _=>l.length - (intOf i).toNat)
    case atStart=>exact⟨0,room - 1,Nat.zero_le _,rfl,rfl,by rw[List.drop_zero];exact HN.out,by omega,by omega,HBX.out⟩
    case round=>
     obtain⟨j,rm,hj,rfl,rfl,hrest,hr2,hr3,hbr⟩:=hrel;have HBR:=zH hbr;by_cases hlt:j<l.length
     ·obtain⟨ad,B,cp,rfl,d0,d1,d2,d3,hlk⟩:=lock_at (Cells.below HC.out hbr) (LocksC.below hbr l xs HL.out) hlt;have hbe:Below wr.heap.size wr (wr.alloc (zO2 l[j].kind l[j].term l[j].n B l[j].kids.length cp)):=(Below.refl _ _).alloc (Nat.le_refl _) _;have hcall:=HKK.out j hlt rm (wr.alloc (zO2 l[j].kind l[j].term l[j].n B l[j].kids.length cp)) _ hr2 hr3 (LockC.below hbe _ _ hlk) ((HV.out.below hbr).below hbe);have HBE:=zH (hbr.trans (hbe.mono hbr.size));have hdrop:l.drop j=l[j]::l.drop (j+1):=List.drop_eq_getElem_cons hlt;rw[hdrop]at hrest;have hrg:=partsT_range l[j] rm hr2;have HREST:=zH hrest;obtain⟨p,hp⟩: ∃p,partsT l[j] rm=p:=⟨_,rfl⟩;rw[hp]at hcall hrg;have HP:=zH hp;have HCALL:=zH hcall;clear hcall hp hrest hdrop hbe hlk hbr;by_cases hneg:p<0
      ·have HN2:=zH (show R= -1 by rw[<-HREST.out];exact partsTs_stop (by rw[HP.out];exact hneg));have gp:decide (p<0)=true:=decide_eq_true hneg;go_wp2_with fail;refine HCALL.out.mono ?_;rintro e w1 ⟨rfl,hb1⟩;have HB1:=zH (HBE.out.trans (hb1.mono HBE.out.size));clear hb1;go_wp2_with fail;go_ret;rw[HN2.out];exact⟨rfl,HB1.out⟩
      ·have HN2:=zH (show partsTs (l.drop (j+1)) p=R by rw[<-HREST.out,partsTs_next (by rw[HP.out];exact hneg),HP.out]);have gp:decide (p<0)=false:=decide_eq_false hneg;go_wp2_with fail;refine HCALL.out.mono ?_;rintro e w1 ⟨rfl,hb1⟩;have HB1:=zH (HBE.out.trans (hb1.mono HBE.out.size));clear hb1;go_wp2_with fail;go_roundw
       case rel=>exact⟨j+1,p,by omega,by go_num,rfl,HN2.out,by omega,by omega,HB1.out⟩
       case measure=>simp[intOf];omega
     ·have HN2:=zH (show R=rm by rw[<-hrest,List.drop_of_length_le (by omega)];rfl);clear hrest hbr;go_wp2_with fail;go_ret;rw[HN2.out];exact⟨rfl,HBR.out⟩
theorem parts_all: ∀(m:Nat) (x:LockT) (cs:List Value) (room:Int) (w:World),sizeT x<=m->smallT x->0<=room->room<=1000->LockC w x cs->VarsOk w->Calls Tryz.prog 55 #[.agg cs.toArray,.int .i64 room] w fun e w'=>e= .returned (.int .i64 (partsT x room))/\Below w.heap.size w w'
 |0,x,_,_,_,hm,_,_,_,_,_=>absurd (sizeT_pos x) (by omega)
 |m+1,.node k t n l,cs,room,w,hm,hs,hr0,hr1,hc,hv=>by
  unfold LockC at hc;obtain⟨A,cap,xs,rfl,h2,h3⟩:=hc;obtain⟨s1,s2,s3⟩:=smallT_parts hs;exact parts_step k t n l A cap xs room w hr0 hr1 s1 s2 h2 h3 hv fun i hi room W cs g0 g1 g2 g3=>
   parts_all m l[i] cs room W (by have:=sizeTs_at i hi;have e:=sizeT_kids (.node k t n l);simp only[LockT.kids]at e;omega) (smallTs_at s3 i hi) g0 g1 g2 g3
set_option maxRecDepth 100000 in
set_option maxHeartbeats 8000000 in
theorem lright_any (x:LockT) (cs:List Value) (w:World) (hs:smallT x) (hc:LockC w x cs) (hv:VarsOk w):Calls Tryz.prog 35 #[.agg cs.toArray] w fun e w'=>e= .returned (.bool (lockB x))/\Below w.heap.size w w':=by
 obtain⟨A,cap,xs,rfl,-,-⟩:=hc.shape;have hb:Below w.heap.size w (w.alloc (zO2 x.kind x.term x.n A x.kids.length cap)):=(Below.refl _ _).alloc (Nat.le_refl _) _;have HP:=zH (parts_all (sizeT x) x _ 64 _ (Nat.le_refl _) hs (by omega) (by omega) (LockC.below hb x _ hc) (hv.below hb));have HD:=zH (lockB_parts x);have HB:=zH hb;clear hb hc hv;go_enter Tryz.func35,Tryz.ntmps35;go_wp2_with fail;refine HP.out.mono ?_;rintro e w1 ⟨rfl,hb1⟩;have HB1:=zH (HB.out.trans (hb1.mono HB.out.size));clear hb1;go_wp2_with fail;go_ret;exact⟨ret_bool HD.out,HB1.out⟩
end Go.Proofs.YtbiioifpeebjaaaGreatDoor
namespace Go.Proofs.YtbiioifpeebjaaaGreatDoor
open Go.RowKit
theorem grown_fr {V V':World} {row:Option Nat} (h:V.grownBy V' row):Fr row.toList V V':=⟨h.os,h.tape,h.output,h.size,fun i hi hn=>h.block i hi fun e=>hn (by rw[<-e];simp)⟩
end Go.Proofs.YtbiioifpeebjaaaGreatDoor
namespace Go.Proofs.YtbiioifpeebjaaaGreatDoor
open Go.RowKit Go
section
variable {P:Program} {md:Region.Mode} {ops:Array Oper} {Q:Exit->Act->World->Prop} {S:World->Prop} {n:Nat}
def AnyG (P:Program) (md:Region.Mode) (ops:Array Oper) (Q:Exit->Act->World->Prop) (S:World->Prop) (n:Nat):Nat->Array Bool->Act->World->Prop
 |0,l,a,w=>Region.ready md ops l=[]/\Q .normal a w
 |f+1,l,a,w=>(Region.ready md ops l=[]->Q .normal a w)/\ ∀i∈Region.ready md ops l,wpOp P ops Q i (fun a' w'=>(i≠n->S w')/\AnyG P md ops Q S n f (l.setIfInBounds i true) a' w') a w
theorem anyG_any: ∀(f:Nat) (l:Array Bool) (a:Act) (w:World),AnyG P md ops Q S n f l a w->wpAny P md ops Q f l a w
 |0,_,_,_,h=>h
 |f+1,_,_,_,h=>⟨h.1,fun i hi=>wpOp_mono (fun _ _ h'=>anyG_any f _ _ _ h'.2) (h.2 i hi)⟩
theorem anyG_put {i:Nat} {oi:Oper} {v:Value} (hi:ops[i]? =some oi) (hin:i≠n) (hsel: ∀(j:Nat) (o:Oper) cs b,ops[j]? =some o->o.op≠ .select cs b) (hQ: ∀c a w,Q (.panic c) (a.put oi.dst v) w->Q (.panic c) a w)
 (hwait: ∀l:Array Bool,l.getD i true=false->n∉Region.ready md ops l): ∀(f:Nat) (l:Array Bool) (a:Act) (w:World),
 (∀j oj,ops[j]? =some oj->j≠i->l.getD j true=false->(∀e∈oj.after,Region.binds md e=true->e.on≠i)->oi.apart ops oj=true)->
 i∈Region.ready md ops l->YieldsIf P ops S oi v a->S w->AnyG P md ops Q S n f (l.setIfInBounds i true) (a.put oi.dst v) w->AnyG P md ops Q S n (f+1) l a w
 |0,l,a,w,_,hr,hy,hS,H=>by
  refine⟨fun h=>absurd hr (by rw[h];simp),fun j hj=> ?_⟩;by_cases e:j=i
  ·subst e;exact hy.wpOp hi hS ⟨fun _=>hS,H⟩
  ·have:=ready_mono hj e;rw[H.1]at this;cases this
 |f+1,l,a,w,hfr,hr,hy,hS,H=>by
  refine⟨fun h=>absurd hr (by rw[h];simp),fun j hj=> ?_⟩;by_cases e:j=i
  ·subst e;exact hy.wpOp hi hS ⟨fun _=>hS,H⟩
  ·have hil:=(mem_ready.1 hr).1;have hjn:j≠n:=fun e2=>hwait l hil (e2 ▸ hj)
   obtain⟨hju,oj,hoj,hall⟩:=mem_ready.1 hj;have hno: ∀d∈oj.after,Region.binds md d=true->d.on≠i:=fun d hd hb e3=>by
    have h1:=hall d hd hb;rw[e3]at h1;rw[getD_both hil]at h1;cases h1
   have h2:=wpOp_putIf hoj (hfr j oj hoj e hju hno) (fun cs b=>hsel i oi cs b hi) (fun cs b=>hsel j oj cs b hoj) hQ hy (H.2 j (ready_mono hj e));refine wpOp_mono (fun a' w' h3=>⟨fun _=>h3.2.1 hjn,anyG_put hi hin hsel hQ hwait f (l.setIfInBounds j true) a' w' ?_ (ready_mono hr (Ne.symm e)) h3.1 (h3.2.1 hjn) ?_⟩) h2
   ·intro k ok hk hki hun hk2;refine hfr k ok hk hki ?_ hk2;by_cases hjk:j=k
    ·subst hjk;exact hju
    ·rw[getD_set_ne true hjk]at hun;exact hun
   ·rw[Array.setIfInBounds_comm _ _ e];exact h3.2.2
theorem wait_of {on:Oper} {i:Nat} (hn:ops[n]? =some on) (hw:on.after.any (fun e=>Region.binds md e&&e.on==i)=true) (l:Array Bool) (hl:l.getD i true=false):n∉Region.ready md ops l:=fun h=>by
 obtain⟨-,o,ho,hall⟩:=mem_ready.1 h;rw[hn]at ho;injection ho with ho;subst ho;rw[Array.any_eq_true]at hw;obtain⟨k,hk,hd⟩:=hw;rw[Bool.and_eq_true,beq_iff_eq]at hd;have:=hall _ (Array.getElem_mem hk) hd.1;rw[hd.2,getD_both hl]at this;cases this
theorem anyG_take {i:Nat} {oi on:Oper} {v:Value} {f:Nat} {l:Array Bool} {a:Act} {w:World} (hi:ops[i]? =some oi) (hn:ops[n]? =some on) (hw:on.after.any (fun e=>Region.binds md e&&e.on==i)=true) (hin:(i==n)=false)
 (hs:Region.noSelect ops=true) (hf:Region.free md ops l i=true) (hr:(Region.ready md ops l).contains i=true)
 (hQ: ∀c a w,Q (.panic c) (a.put oi.dst v) w->Q (.panic c) a w) (hy:YieldsIf P ops S oi v a) (hS:S w)
 (h:AnyG P md ops Q S n f (l.setIfInBounds i true) (a.put oi.dst v) w):AnyG P md ops Q S n (f+1) l a w:=
 anyG_put hi (by simpa using hin) (Region.noSelect_spec hs) hQ (wait_of hn hw) f l a w (Region.free_spec hi hf) (by simpa using hr) hy hS h
theorem anyG_all {rs:List Nat} {f:Nat} {l:Array Bool} {a:Act} {w:World} (hr:Region.ready md ops l=rs) (hne:rs≠[])
 (h: ∀i∈rs,wpOp P ops Q i (fun a' w'=>(i≠n->S w')/\AnyG P md ops Q S n f (l.setIfInBounds i true) a' w') a w):AnyG P md ops Q S n (f+1) l a w:=
 ⟨fun h0=>absurd (hr ▸ h0) hne,hr ▸ h⟩
theorem anyG_done {f:Nat} {l:Array Bool} {a:Act} {w:World} (hr:Region.ready md ops l=[]) (h:Q .normal a w):AnyG P md ops Q S n f l a w:=by
 cases f with
 |zero=>exact⟨hr,h⟩
 |succ f=>exact⟨fun _=>h,by rw[hr];simp⟩
end
end Go.Proofs.YtbiioifpeebjaaaGreatDoor
