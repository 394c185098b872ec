/- Locks, as the document reckons them: count, right, Right. · The document's right transactions. · The statements' reckoning of sizes: locks. -/
import Derived.Test.YtncniomiplnaaaaGreatDoorQ10
import Derived.Test.YtncniomiplnaaaaGreatDoorQ6
import Derived.Test.YtncniomiplnaaaaGreatDoorQ13
import Derived.Laws.StructEq
set_option linter.all false
namespace Go.Proofs.YtncniomiplnaaaaGreatDoor
open Go.RowKit
mutual
theorem countT_le: ∀(x:LockT) (top:Int),0<=top->countT x top<=top+1
 | .node _ _ _ l,top,h=>by unfold countT;exact countTs_le l top 1 (by omega)
theorem countTs_le: ∀(l:List LockT) (top n:Int),n<=top+1->countTs l top n<=top+1
 |[],top,n,h=>by unfold countTs;exact h
 |x::r,top,n,h=>by
  unfold countTs;split
  ·rename_i hn;have:=countT_le x (top - n) (by omega);exact countTs_le r top _ (by omega)
  ·exact h
end
theorem countTs_stop {l:List LockT} {top n:Int} (h: ¬n<=top):countTs l top n=n:=by
 cases l with
 |nil=>rfl
 |cons x r=>unfold countTs;rw[if_neg h]
theorem countTs_next {x:LockT} {r:List LockT} {top n:Int} (h:n<=top):countTs (x::r) top n=countTs r top (n+countT x (top - n)):=by
 conv=>lhs;unfold countTs
 rw[if_pos h]
set_option maxRecDepth 100000 in
set_option maxHeartbeats 8000000 in
theorem rcount_step (k:Int) (t:ByteArray) (n:Int) (l:List LockT) (A:Option Addr) (cap:Nat) (xs:List Value) (top:Int) (w:World) (hr0:0<=top) (hr1:top<=1000) (hll:l.length<=1000000) (hc:Cells w A xs) (hl:LocksC w l xs)
 (HK: ∀(i:Nat) (hi:i<l.length) (top:Int) (W:World) (cs:List Value),0<=top->top<=1000->LockC W l[i] cs->Calls Tryz.prog 105 #[.agg cs.toArray,.int .i64 top] W fun e w'=>e= .returned (.int .i64 (countT l[i] top))/\Below W.heap.size W w'):
 Calls Tryz.prog 105 #[.agg #[.int .u8 k,.string t,.int .i64 n,.slice A l.length cap],.int .i64 top] w fun e w'=>e= .returned (.int .i64 (countT (.node k t n l) top))/\Below w.heap.size w w':=by
 have hbA:Below w.heap.size w (w.alloc (zO1 k t n A l.length cap)):=(Below.refl _ _).alloc (Nat.le_refl _) _;have q3:(w.alloc (zO1 k t n A l.length cap)).cell? ⟨w.heap.size,3,none⟩=some (.slice A l.length cap):=alloc_cells 3 _ rfl;have HB:=zH hbA;have HQ:=zH q3;obtain⟨R,hR⟩: ∃R,countT (.node k t n l) top=R:=⟨_,rfl⟩;rw[hR];have HR:=zH (show countTs l top 1=R by rw[<-hR];unfold countT;rfl);have HKK:=zH HK;have HC:=zH hc;have HL:=zH hl;clear hR HK hc hl hbA;go_enter Tryz.func105,Tryz.ntmps105;go_wp2_with fail;go_loopw [6,5] (fun i m wr=> ∃(j:Nat) (c:Int),j<=l.length/\i= .int .i64 (j:Int)/\m= .int .i64 c/\1<=c/\c<=top+1/\countTs (l.drop j) top c=R/\Below (w.alloc (zO1 k t n A l.length cap)).heap.size (w.alloc (zO1 k t n A l.length cap)) wr) (fun i _ _=>l.length - (intOf i).toNat)
 case atStart=>exact⟨0,1,Nat.zero_le _,rfl,rfl,by omega,by omega,by rw[List.drop_zero];exact HR.out,Below.refl _ _⟩
 case round=>
  obtain⟨j,c,hj,rfl,rfl,hc1,hc2,hrest,hbr⟩:=hrel;have c3:=cell_below hbr HQ.out;have HBR:=zH (HB.out.trans (hbr.mono HB.out.size));have HBR2:=zH hbr;by_cases hlt:j<l.length
  ·by_cases htop:c<=top
   ·have g1:decide (c<=top)=true:=decide_eq_true htop;have hbr0:=HBR.out;obtain⟨ad,B,cp,rfl,d0,d1,d2,d3,hlk⟩:=lock_at (Cells.below HC.out hbr0) (LocksC.below hbr0 l xs HL.out) hlt;have hcall:=HKK.out j hlt (top - c) wr _ (by omega) (by omega) hlk;have hdrop:l.drop j=l[j]::l.drop (j+1):=List.drop_eq_getElem_cons hlt;rw[hdrop,countTs_next htop]at hrest;have hcl:=countT_le l[j] (top - c) (by omega);have hcg:=(countT_eq l[j] (top - c)).2.2.1;obtain⟨p,hp⟩: ∃p,countT l[j] (top - c)=p:=⟨_,rfl⟩;rw[hp]at hcall hrest hcl hcg;have HREST:=zH hrest;have HCALL:=zH hcall;clear hcall hp hrest hdrop hlk hbr hbr0 q3;go_wp2_with fail;refine HCALL.out.mono ?_;rintro e w1 ⟨rfl,hb1⟩;have HB1:=zH (HBR2.out.trans (hb1.mono HBR2.out.size));clear hb1;go_wp2_with fail;go_roundw
    case rel=>exact⟨j+1,c+p,by omega,by go_num,rfl,by omega,by omega,HREST.out,HB1.out⟩
    case measure=>simp[intOf];omega
   ·have g1:decide (c<=top)=false:=decide_eq_false htop;have HN:=zH (show R=c by rw[<-hrest,countTs_stop htop]);clear hrest hbr q3;go_wp2_with fail;go_ret;rw[HN.out];exact⟨rfl,HBR.out⟩
  ·have HN:=zH (show R=c by rw[<-hrest,List.drop_of_length_le (by omega)];rfl);have gj:decide ((j:Int)<(l.length:Int))=false:=decide_eq_false (by omega);clear hrest hbr q3;go_wp2_with fail;go_ret;rw[HN.out];exact⟨rfl,HBR.out⟩
theorem rcount_all: ∀(m:Nat) (x:LockT) (cs:List Value) (top:Int) (w:World),sizeT x<=m->smallT x->0<=top->top<=1000->LockC w x cs->Calls Tryz.prog 105 #[.agg cs.toArray,.int .i64 top] w fun e w'=>e= .returned (.int .i64 (countT x top))/\Below w.heap.size w w'
 |0,x,_,_,_,hm,_,_,_,_=>absurd (sizeT_pos x) (by omega)
 |m+1,.node k t n l,cs,top,w,hm,hs,hr0,hr1,hc=>by
  unfold LockC at hc;obtain⟨A,cap,xs,rfl,h2,h3⟩:=hc;obtain⟨s1,s2,s3⟩:=smallT_parts hs;exact rcount_step k t n l A cap xs top w hr0 hr1 s2 h2 h3 fun i hi top W cs g0 g1 g2=>
   rcount_all m l[i] cs top W (by have:=sizeTs_at i hi;have e:=sizeT_kids (.node k t n l);simp only[LockT.kids]at e;omega) (smallTs_at s3 i hi) g0 g1 g2
theorem rightB_pos {t:ByteArray} (h:rightB t.data.toList=true):0<t.size:=by
 unfold rightB at h;cases hq:right t.data.toList with
 |none=>rw[hq]at h;cases h
 |some x=>exact right_pos hq
set_option maxRecDepth 100000 in
set_option maxHeartbeats 16000000 in
theorem rlright_low (k:Int) (t:ByteArray) (n:Int) (l:List LockT) (A:Option Addr) (cap:Nat) (w:World) (hsm:t.size<=900000) (hll:l.length<=1000000) (h5:k≠5) (h6:k≠6):
 Calls Tryz.prog 106 #[.agg #[.int .u8 k,.string t,.int .i64 n,.slice A l.length cap]] w fun e w'=>e= .returned (.bool (rightT (.node k t n l)))/\Below w.heap.size w w':=by
 have hbA:Below w.heap.size w (w.alloc (zO1 k t n A l.length cap)):=(Below.refl _ _).alloc (Nat.le_refl _) _;have q0:(w.alloc (zO1 k t n A l.length cap)).cell? ⟨w.heap.size,0,none⟩=some (.int .u8 k):=alloc_cells 0 _ rfl;have q1:(w.alloc (zO1 k t n A l.length cap)).cell? ⟨w.heap.size,1,none⟩=some (.string t):=alloc_cells 1 _ rfl;have q2:(w.alloc (zO1 k t n A l.length cap)).cell? ⟨w.heap.size,2,none⟩=some (.int .i64 n):=alloc_cells 2 _ rfl;have q3:(w.alloc (zO1 k t n A l.length cap)).cell? ⟨w.heap.size,3,none⟩=some (.slice A l.length cap):=alloc_cells 3 _ rfl;have HB:=zH hbA;have HRT:=zH (rright_any t (w.alloc (zO1 k t n A l.length cap)) (by omega));obtain⟨R,hR⟩: ∃R,rightT (.node k t n l)=R:=⟨_,rfl⟩;rw[hR];have HR:=zH hR;have HKK:=trivial;have HC:=trivial;have HL:=trivial;clear hR hbA;have g5:(k==5)=false:=beq_false_of_ne h5;have g6:(k==6)=false:=beq_false_of_ne h6;by_cases h1:k=1
 ·subst h1;by_cases hn:n=0
  ·subst hn;cases l with
   |cons y r=>
    have HN:=zH (show R=false by rw[<-HR.out];unfold rightT;rw[show okT 1 t.data.toList 0 (y::r).length=false by unfold okT;rw[if_pos rfl];simp];rfl);obtain⟨ln,hln⟩: ∃ln,(y::r).length=ln:=⟨_,rfl⟩;have hl0:0<ln:=by rw[<-hln];simp
    have HLN:=zH hln;rw[hln]at HB q0 q1 q2 q3 HRT⊢;clear hln HR HKK HC HL;have g0:decide ((0:Int)<(ln:Int))=true:=decide_eq_true (by omega);go_enter Tryz.func106,Tryz.ntmps106;go_wp2_with fail;go_ret;rw[HN.out];exact⟨rfl,HB.out⟩
   |nil=>
    have HOK:=zH (show R=pubB t.data.toList by rw[<-HR.out];unfold rightT;rw[show okT 1 t.data.toList 0 ([]:List LockT).length=pubB t.data.toList by unfold okT;rw[if_pos rfl];simp];simp[rightTs]);cases hq:rightB t.data.toList with
    |false=>
     have HN:=zH (show R=false by rw[HOK.out];unfold pubB;rw[hq];rfl);rw[hq]at HRT;clear hq HR HKK HC HL;go_enter Tryz.func106,Tryz.ntmps106;go_wp2_with fail;refine HRT.out.mono ?_;rintro e w1 ⟨rfl,hb1⟩;have HB1:=zH (HB.out.trans (hb1.mono HB.out.size));clear hb1;go_wp2_with fail;go_ret;rw[HN.out];exact⟨rfl,HB1.out⟩
    |true=>
     have hpos:0<t.size:=rightB_pos hq;have hix:=fun W=>index_term0 hpos W
     obtain⟨c,hc0⟩: ∃c,byte t.data.toList 0=c:=⟨_,rfl⟩;rw[hc0]at hix;obtain⟨x,hx⟩: ∃x:Int,(c.toNat:Int)=x:=⟨_,rfl⟩;simp only[hx]at hix;rw[hq]at HRT;have HN:=zH (show R=(decide (x=80)||decide (x=87)||decide (x=76)) by rw[HOK.out];unfold pubB;rw[hq,hc0,isPub_iff,hx];rfl);clear hq HR HKK HC HL hc0 HOK hx;by_cases e1:x=80
     ·subst e1;have HN:=zH (show R=true by rw[HN.out];rfl);go_enter Tryz.func106,Tryz.ntmps106;go_wp2_with fail;refine HRT.out.mono ?_;rintro e w1 ⟨rfl,hb1⟩;have HB1:=zH (HB.out.trans (hb1.mono HB.out.size));have q0b:=cell_below hb1 q0;have q1b:=cell_below hb1 q1;clear hb1;go_wp2_with fail;go_ret;rw[HN.out];exact⟨rfl,HB1.out⟩
     ·have g1:(x==80)=false:=beq_false_of_ne e1;by_cases e2:x=87
      ·subst e2;have HN:=zH (show R=true by rw[HN.out];rfl);go_enter Tryz.func106,Tryz.ntmps106;go_wp2_with fail;refine HRT.out.mono ?_;rintro e w1 ⟨rfl,hb1⟩;have HB1:=zH (HB.out.trans (hb1.mono HB.out.size));have q0b:=cell_below hb1 q0;have q1b:=cell_below hb1 q1;clear hb1;go_wp2_with fail;go_ret;rw[HN.out];exact⟨rfl,HB1.out⟩
      ·have g2:(x==87)=false:=beq_false_of_ne e2;have HN:=zH (show R=(x==76) by rw[HN.out,decide_eq_false e1,decide_eq_false e2];by_cases e3:x=76<;>simp[e3]);clear e1 e2;go_enter Tryz.func106,Tryz.ntmps106;go_wp2_with fail;refine HRT.out.mono ?_;rintro e w1 ⟨rfl,hb1⟩;have HB1:=zH (HB.out.trans (hb1.mono HB.out.size));have q0b:=cell_below hb1 q0;have q1b:=cell_below hb1 q1;clear hb1;go_wp2_with fail;go_ret;rw[HN.out];exact⟨rfl,HB1.out⟩
  ·have HN:=zH (show R=false by rw[<-HR.out];unfold rightT;rw[show okT 1 t.data.toList n l.length=false by unfold okT;rw[if_pos rfl];simp[hn]];rfl);have gn:(n !=0)=true:=bne_iff_ne.2 hn;clear HR HKK HC HL hn;go_enter Tryz.func106,Tryz.ntmps106;go_wp2_with fail;go_ret;rw[HN.out];exact⟨rfl,HB.out⟩
 have k1:(k==1)=false:=beq_false_of_ne h1;by_cases h2:k=2
 ·subst h2;by_cases hn:n=0
  ·subst hn;cases l with
   |cons y r=>
    have HN:=zH (show R=false by rw[<-HR.out];unfold rightT;rw[show okT 2 t.data.toList 0 (y::r).length=false by unfold okT;rw[if_neg (by decide),if_pos rfl];simp];rfl);obtain⟨ln,hln⟩: ∃ln,(y::r).length=ln:=⟨_,rfl⟩;have hl0:0<ln:=by rw[<-hln];simp
    have HLN:=zH hln;rw[hln]at HB q0 q1 q2 q3 HRT⊢;clear hln HR HKK HC HL;have g0:decide ((0:Int)<(ln:Int))=true:=decide_eq_true (by omega);go_enter Tryz.func106,Tryz.ntmps106;go_wp2_with fail;go_ret;rw[HN.out];exact⟨rfl,HB.out⟩
   |nil=>
    have HOK:=zH (show R=hashB t.data.toList by rw[<-HR.out];unfold rightT;rw[show okT 2 t.data.toList 0 ([]:List LockT).length=hashB t.data.toList by unfold okT;rw[if_neg (by decide),if_pos rfl];simp];simp[rightTs]);cases hq:rightB t.data.toList with
    |false=>
     have HN:=zH (show R=false by rw[HOK.out];unfold hashB;rw[hq];rfl);rw[hq]at HRT;clear hq HR HKK HC HL;go_enter Tryz.func106,Tryz.ntmps106;go_wp2_with fail;refine HRT.out.mono ?_;rintro e w1 ⟨rfl,hb1⟩;have HB1:=zH (HB.out.trans (hb1.mono HB.out.size));clear hb1;go_wp2_with fail;go_ret;rw[HN.out];exact⟨rfl,HB1.out⟩
    |true=>
     have hpos:0<t.size:=rightB_pos hq;have hix:=fun W=>index_term0 hpos W
     obtain⟨c,hc0⟩: ∃c,byte t.data.toList 0=c:=⟨_,rfl⟩;rw[hc0]at hix;obtain⟨x,hx⟩: ∃x:Int,(c.toNat:Int)=x:=⟨_,rfl⟩;simp only[hx]at hix;rw[hq]at HRT;have HN:=zH (show R=(x==72) by
      rw[HOK.out];unfold hashB;rw[hq,hc0,Bool.true_and];by_cases e:c=72
      ·subst e;rw[<-hx];rfl
      ·rw[beq_false_of_ne e];exact(bne_nat hx 72 e).symm)
     clear hq HR HKK HC HL hc0 HOK hx;go_enter Tryz.func106,Tryz.ntmps106;go_wp2_with fail;refine HRT.out.mono ?_;rintro e w1 ⟨rfl,hb1⟩;have HB1:=zH (HB.out.trans (hb1.mono HB.out.size));have q0b:=cell_below hb1 q0;have q1b:=cell_below hb1 q1;clear hb1;go_wp2_with fail;go_ret;rw[HN.out];exact⟨rfl,HB1.out⟩
  ·have HN:=zH (show R=false by rw[<-HR.out];unfold rightT;rw[show okT 2 t.data.toList n l.length=false by unfold okT;rw[if_neg (by decide),if_pos rfl];simp[hn]];rfl);have gn:(n !=0)=true:=bne_iff_ne.2 hn;clear HR HKK HC HL hn;go_enter Tryz.func106,Tryz.ntmps106;go_wp2_with fail;go_ret;rw[HN.out];exact⟨rfl,HB.out⟩
 have k2:(k==2)=false:=beq_false_of_ne h2;clear HRT;by_cases h34:k=3\/k=4
 ·have HOK:=zH (show R=(decide (t.data.toList=[])&&decide (l.length=0)&&decide (0<=n)&&decide (n<1073741824)) by
   rw[<-HR.out];unfold rightT okT;rw[if_neg h1,if_neg h2,if_pos h34];cases l with
   |nil=>simp[rightTs]
   |cons y r=>simp)
  clear HR h5 h6 h1 h2;have hte:(t.toList=[])↔t.data.toList=[]:=by rw[Go.ByteArray.toList_eq]
  by_cases ht:t.toList=[]
  ·have e1:=decide_eq_true (hte.1 ht);by_cases hm:l.length=0
   ·have e2:=decide_eq_true hm;have gm:((l.length:Int)==0)=true:=by rw[hm];rfl
    by_cases hn:0<=n
    ·have e3:=decide_eq_true hn;have HN:=zH (show R=decide (n<1073741824) by rw[HOK.out,e1,e2,e3];simp);clear HOK e1 e2 hte hm hn;rcases h34 with rfl|rfl
     ·go_enter Tryz.func106,Tryz.ntmps106;go_wp2_with fail;go_ret;rw[HN.out];exact⟨rfl,HB.out⟩
     ·go_enter Tryz.func106,Tryz.ntmps106;go_wp2_with fail;go_ret;rw[HN.out];exact⟨rfl,HB.out⟩
    ·have e3:=decide_eq_false hn;have HN:=zH (show R=false by rw[HOK.out,e3];simp);clear HOK e1 e2 hte hm hn;rcases h34 with rfl|rfl
     ·go_enter Tryz.func106,Tryz.ntmps106;go_wp2_with fail;go_ret;rw[HN.out];exact⟨rfl,HB.out⟩
     ·go_enter Tryz.func106,Tryz.ntmps106;go_wp2_with fail;go_ret;rw[HN.out];exact⟨rfl,HB.out⟩
   ·have e2:=decide_eq_false hm;have gm:((l.length:Int)==0)=false:=beq_false_of_ne (by omega);have HN:=zH (show R=false by rw[HOK.out,e2];simp);clear HOK e1 e2 hte hm;rcases h34 with rfl|rfl
    ·go_enter Tryz.func106,Tryz.ntmps106;go_wp2_with fail;go_ret;rw[HN.out];exact⟨rfl,HB.out⟩
    ·go_enter Tryz.func106,Tryz.ntmps106;go_wp2_with fail;go_ret;rw[HN.out];exact⟨rfl,HB.out⟩
  ·have e1:=decide_eq_false (fun h=>ht (hte.2 h));have HN:=zH (show R=false by rw[HOK.out,e1];simp);clear HOK e1 hte;rcases h34 with rfl|rfl
   ·go_enter Tryz.func106,Tryz.ntmps106;go_wp2_with fail;go_ret;rw[HN.out];exact⟨rfl,HB.out⟩
   ·go_enter Tryz.func106,Tryz.ntmps106;go_wp2_with fail;go_ret;rw[HN.out];exact⟨rfl,HB.out⟩
 ·have HN:=zH (show R=false by rw[<-HR.out];unfold rightT okT;rw[if_neg h1,if_neg h2,if_neg h34,if_neg (by omega)];rfl);have k3:(k==3)=false:=beq_false_of_ne (fun h=>h34 (.inl h));have k4:(k==4)=false:=beq_false_of_ne (fun h=>h34 (.inr h));clear HR h34 h1 h2 h5 h6;go_enter Tryz.func106,Tryz.ntmps106;go_wp2_with fail;go_ret;rw[HN.out];exact⟨rfl,HB.out⟩
set_option maxRecDepth 100000 in
set_option maxHeartbeats 16000000 in
theorem rlright_kids (k:Int) (t:ByteArray) (n:Int) (l:List LockT) (A:Option Addr) (cap:Nat) (xs:List Value) (w:World) (_:t.size<=900000) (hll:l.length<=1000000) (h56:k=5\/k=6) (hc:Cells w A xs) (hl:LocksC w l xs)
 (HK: ∀(i:Nat) (hi:i<l.length) (W:World) (cs:List Value),LockC W l[i] cs->Calls Tryz.prog 106 #[.agg cs.toArray] W fun e w'=>e= .returned (.bool (rightT l[i]))/\Below W.heap.size W w'):
 Calls Tryz.prog 106 #[.agg #[.int .u8 k,.string t,.int .i64 n,.slice A l.length cap]] w fun e w'=>e= .returned (.bool (rightT (.node k t n l)))/\Below w.heap.size w w':=by
 have hbA:Below w.heap.size w (w.alloc (zO1 k t n A l.length cap)):=(Below.refl _ _).alloc (Nat.le_refl _) _;have q0:(w.alloc (zO1 k t n A l.length cap)).cell? ⟨w.heap.size,0,none⟩=some (.int .u8 k):=alloc_cells 0 _ rfl;have q1:(w.alloc (zO1 k t n A l.length cap)).cell? ⟨w.heap.size,1,none⟩=some (.string t):=alloc_cells 1 _ rfl;have q2:(w.alloc (zO1 k t n A l.length cap)).cell? ⟨w.heap.size,2,none⟩=some (.int .i64 n):=alloc_cells 2 _ rfl;have q3:(w.alloc (zO1 k t n A l.length cap)).cell? ⟨w.heap.size,3,none⟩=some (.slice A l.length cap):=alloc_cells 3 _ rfl;have HB:=zH hbA;obtain⟨R,hR⟩: ∃R,rightT (.node k t n l)=R:=⟨_,rfl⟩;rw[hR];have HR:=zH (show(decide (t.data.toList=[])&&decide (n=0)&&decide (0<l.length)&&decide (l.length<=8)&&rightTs l)=R by
  rw[<-hR];unfold rightT okT;rw[if_neg (by omega),if_neg (by omega),if_neg (by omega),if_pos h56])
 have HKK:=zH HK;have HC:=zH hc;have HL:=zH hl;have HQ3:=zH q3;have hte:(t.toList=[])↔t.data.toList=[]:=by rw[Go.ByteArray.toList_eq]
 clear hR HK hc hl hbA;by_cases ht:t.toList=[]
 ·have e1:=decide_eq_true (hte.1 ht);by_cases hn:n=0
  ·subst hn;by_cases hm:0<l.length
   ·have gm:decide ((l.length:Int)<1)=false:=decide_eq_false (by omega);by_cases h8:l.length<=8
    ·have g8:decide ((8:Int)<(l.length:Int))=false:=decide_eq_false (by omega);have HN:=zH (show rightTs l=R by rw[<-HR.out,e1,decide_eq_true hm,decide_eq_true h8];simp);clear HR e1 hte h8;have hk5:k=5\/k=6:=h56;clear h56;rcases hk5 with rfl|rfl
     ·go_enter Tryz.func106,Tryz.ntmps106;go_wp2_with fail;go_loopw [4] (fun i wr=> ∃j:Nat,j<=l.length/\i= .int .i64 (j:Int)/\rightTs (l.drop j)=R/\Below (w.alloc (zO1 5 t 0 A l.length cap)).heap.size (w.alloc (zO1 5 t 0 A l.length cap)) wr) (fun i _=>l.length - (intOf i).toNat)
      case atStart=>exact⟨0,Nat.zero_le _,rfl,by rw[List.drop_zero];exact HN.out,Below.refl _ _⟩
      case round=>
       obtain⟨j,hj,rfl,hrest,hbr⟩:=hrel;have c3:=cell_below hbr HQ3.out;have HBR:=zH (HB.out.trans (hbr.mono HB.out.size));have HBR2:=zH hbr;by_cases hlt:j<l.length
       ·have hbr0:=HBR.out;obtain⟨ad,B,cp,rfl,d0,d1,d2,d3,hlk⟩:=lock_at (Cells.below HC.out hbr0) (LocksC.below hbr0 l xs HL.out) hlt;have hcall:=HKK.out j hlt wr _ hlk;have hdrop:l.drop j=l[j]::l.drop (j+1):=List.drop_eq_getElem_cons hlt;rw[hdrop]at hrest;unfold rightTs at hrest;cases hp:rightT l[j]with
        |false=>
         rw[hp]at hcall hrest;have HNN:=zH (show R=false by rw[<-hrest];rfl);have HCALL:=zH hcall;clear hcall hp hrest hdrop hlk hbr hbr0 q0 q1 q2 q3;go_wp2_with fail;refine HCALL.out.mono ?_;rintro e w1 ⟨rfl,hb1⟩;have HB1:=zH (HBR.out.trans (hb1.mono HBR.out.size));clear hb1;go_wp2_with fail;go_ret;rw[HNN.out];exact⟨rfl,HB1.out⟩
        |true=>
         rw[hp,Bool.true_and]at hrest;rw[hp]at hcall;have HREST:=zH hrest;have HCALL:=zH hcall;clear hcall hp hrest hdrop hlk hbr hbr0 q0 q1 q2 q3;go_wp2_with fail;refine HCALL.out.mono ?_;rintro e w1 ⟨rfl,hb1⟩;have HB1:=zH (HBR2.out.trans (hb1.mono HBR2.out.size));clear hb1;go_wp2_with fail;go_roundw
         case rel=>exact⟨j+1,by omega,by go_num,HREST.out,HB1.out⟩
         case measure=>simp[intOf];omega
       ·have HNN:=zH (show R=true by rw[<-hrest,List.drop_of_length_le (by omega)];rfl);clear hrest hbr q0 q1 q2 q3;go_wp2_with fail;go_ret;rw[HNN.out];exact⟨rfl,HBR.out⟩
     ·go_enter Tryz.func106,Tryz.ntmps106;go_wp2_with fail;go_loopw [4] (fun i wr=> ∃j:Nat,j<=l.length/\i= .int .i64 (j:Int)/\rightTs (l.drop j)=R/\Below (w.alloc (zO1 6 t 0 A l.length cap)).heap.size (w.alloc (zO1 6 t 0 A l.length cap)) wr) (fun i _=>l.length - (intOf i).toNat)
      case atStart=>exact⟨0,Nat.zero_le _,rfl,by rw[List.drop_zero];exact HN.out,Below.refl _ _⟩
      case round=>
       obtain⟨j,hj,rfl,hrest,hbr⟩:=hrel;have c3:=cell_below hbr HQ3.out;have HBR:=zH (HB.out.trans (hbr.mono HB.out.size));have HBR2:=zH hbr;by_cases hlt:j<l.length
       ·have hbr0:=HBR.out;obtain⟨ad,B,cp,rfl,d0,d1,d2,d3,hlk⟩:=lock_at (Cells.below HC.out hbr0) (LocksC.below hbr0 l xs HL.out) hlt;have hcall:=HKK.out j hlt wr _ hlk;have hdrop:l.drop j=l[j]::l.drop (j+1):=List.drop_eq_getElem_cons hlt;rw[hdrop]at hrest;unfold rightTs at hrest;cases hp:rightT l[j]with
        |false=>
         rw[hp]at hcall hrest;have HNN:=zH (show R=false by rw[<-hrest];rfl);have HCALL:=zH hcall;clear hcall hp hrest hdrop hlk hbr hbr0 q0 q1 q2 q3;go_wp2_with fail;refine HCALL.out.mono ?_;rintro e w1 ⟨rfl,hb1⟩;have HB1:=zH (HBR.out.trans (hb1.mono HBR.out.size));clear hb1;go_wp2_with fail;go_ret;rw[HNN.out];exact⟨rfl,HB1.out⟩
        |true=>
         rw[hp,Bool.true_and]at hrest;rw[hp]at hcall;have HREST:=zH hrest;have HCALL:=zH hcall;clear hcall hp hrest hdrop hlk hbr hbr0 q0 q1 q2 q3;go_wp2_with fail;refine HCALL.out.mono ?_;rintro e w1 ⟨rfl,hb1⟩;have HB1:=zH (HBR2.out.trans (hb1.mono HBR2.out.size));clear hb1;go_wp2_with fail;go_roundw
         case rel=>exact⟨j+1,by omega,by go_num,HREST.out,HB1.out⟩
         case measure=>simp[intOf];omega
       ·have HNN:=zH (show R=true by rw[<-hrest,List.drop_of_length_le (by omega)];rfl);clear hrest hbr q0 q1 q2 q3;go_wp2_with fail;go_ret;rw[HNN.out];exact⟨rfl,HBR.out⟩
    ·have g8:decide ((8:Int)<(l.length:Int))=true:=decide_eq_true (by omega);have HN:=zH (show R=false by rw[<-HR.out,decide_eq_false h8];simp);clear HR e1 hte h8 HKK HC HL hm;rcases h56 with rfl|rfl
     ·go_enter Tryz.func106,Tryz.ntmps106;go_wp2_with fail;go_ret;rw[HN.out];exact⟨rfl,HB.out⟩
     ·go_enter Tryz.func106,Tryz.ntmps106;go_wp2_with fail;go_ret;rw[HN.out];exact⟨rfl,HB.out⟩
   ·have gm:decide ((l.length:Int)<1)=true:=decide_eq_true (by omega);have HN:=zH (show R=false by rw[<-HR.out,decide_eq_false hm];simp);clear HR e1 hte HKK HC HL hm;rcases h56 with rfl|rfl
    ·go_enter Tryz.func106,Tryz.ntmps106;go_wp2_with fail;go_ret;rw[HN.out];exact⟨rfl,HB.out⟩
    ·go_enter Tryz.func106,Tryz.ntmps106;go_wp2_with fail;go_ret;rw[HN.out];exact⟨rfl,HB.out⟩
  ·have gn:(n !=0)=true:=bne_iff_ne.2 hn;have HN:=zH (show R=false by rw[<-HR.out,decide_eq_false hn];simp);clear HR e1 hte HKK HC HL hn;rcases h56 with rfl|rfl
   ·go_enter Tryz.func106,Tryz.ntmps106;go_wp2_with fail;go_ret;rw[HN.out];exact⟨rfl,HB.out⟩
   ·go_enter Tryz.func106,Tryz.ntmps106;go_wp2_with fail;go_ret;rw[HN.out];exact⟨rfl,HB.out⟩
 ·have HN:=zH (show R=false by rw[<-HR.out,decide_eq_false (fun h=>ht (hte.2 h))];simp);clear HR hte HKK HC HL;rcases h56 with rfl|rfl
  ·go_enter Tryz.func106,Tryz.ntmps106;go_wp2_with fail;go_ret;rw[HN.out];exact⟨rfl,HB.out⟩
  ·go_enter Tryz.func106,Tryz.ntmps106;go_wp2_with fail;go_ret;rw[HN.out];exact⟨rfl,HB.out⟩
theorem rlright_all: ∀(m:Nat) (x:LockT) (cs:List Value) (w:World),sizeT x<=m->smallT x->LockC w x cs->Calls Tryz.prog 106 #[.agg cs.toArray] w fun e w'=>e= .returned (.bool (rightT x))/\Below w.heap.size w w'
 |0,x,_,_,hm,_,_=>absurd (sizeT_pos x) (by omega)
 |m+1,.node k t n l,cs,w,hm,hs,hc=>by
  unfold LockC at hc;obtain⟨A,cap,xs,rfl,h2,h3⟩:=hc;obtain⟨s1,s2,s3⟩:=smallT_parts hs;by_cases h56:k=5\/k=6
  ·exact rlright_kids k t n l A cap xs w s1 s2 h56 h2 h3 fun i hi W cs g2=>
    rlright_all m l[i] cs W (by have:=sizeTs_at i hi;have e:=sizeT_kids (.node k t n l);simp only[LockT.kids]at e;omega) (smallTs_at s3 i hi) g2
  ·exact rlright_low k t n l A cap w s1 s2 (fun h=>h56 (.inl h)) (fun h=>h56 (.inr h))
set_option maxRecDepth 100000 in
set_option maxHeartbeats 8000000 in
theorem rlockright_any (x:LockT) (cs:List Value) (w:World) (hs:smallT x) (hc:LockC w x cs):Calls Tryz.prog 92 #[.agg cs.toArray] w fun e w'=>e= .returned (.bool (lockB x))/\Below w.heap.size w w':=by
 obtain⟨A,cap,xs,rfl,-,-⟩:=hc.shape;have hb:Below w.heap.size w (w.alloc (zO1 x.kind x.term x.n A x.kids.length cap)):=(Below.refl _ _).alloc (Nat.le_refl _) _;have q0:(w.alloc (zO1 x.kind x.term x.n A x.kids.length cap)).cell? ⟨w.heap.size,0,none⟩=some (.int .u8 x.kind):=alloc_cells 0 _ rfl;have q1:(w.alloc (zO1 x.kind x.term x.n A x.kids.length cap)).cell? ⟨w.heap.size,1,none⟩=some (.string x.term):=alloc_cells 1 _ rfl;have q2:(w.alloc (zO1 x.kind x.term x.n A x.kids.length cap)).cell? ⟨w.heap.size,2,none⟩=some (.int .i64 x.n):=alloc_cells 2 _ rfl;have q3:(w.alloc (zO1 x.kind x.term x.n A x.kids.length cap)).cell? ⟨w.heap.size,3,none⟩=some (.slice A x.kids.length cap):=alloc_cells 3 _ rfl;have HP:=zH (rcount_all (sizeT x) x _ 64 _ (Nat.le_refl _) hs (by omega) (by omega) (LockC.below hb x _ hc));have HRR:=zH (fun W (h:Below w.heap.size w W)=>rlright_all (sizeT x) x _ W (Nat.le_refl _) hs (LockC.below h x _ hc));have HD:=zH (lockB_count x);have HB:=zH hb;have HC0:=zH (fun(W:World) (h:Below (w.alloc (zO1 x.kind x.term x.n A x.kids.length cap)).heap.size (w.alloc (zO1 x.kind x.term x.n A x.kids.length cap)) W)=>And.intro (cell_below h q0) (And.intro (cell_below h q1) (And.intro (cell_below h q2) (cell_below h q3))));obtain⟨ct,hct⟩: ∃ct,countT x 64=ct:=⟨_,rfl⟩;rw[hct]at HP HD;clear hb hc hct;by_cases h64:ct<=64
 ·have g:decide (ct<=64)=true:=decide_eq_true h64;have HD:=zH (show rightT x=lockB x by rw[<-HD.out,g,Bool.true_and]);rw[HD.out]at HRR;go_enter Tryz.func92,Tryz.ntmps92;go_wp2_with fail;refine HP.out.mono ?_;rintro e w1 ⟨rfl,hb1⟩;obtain⟨p0,p1,p2,p3⟩:=HC0.out w1 hb1;have HB1:=zH (HB.out.trans (hb1.mono HB.out.size));clear hb1 q0 q1 q2 q3;go_wp2_with fail;refine(HRR.out w1 HB1.out).mono ?_;rintro e w2 ⟨rfl,hb2⟩;have HB2:=zH (HB1.out.trans (hb2.mono HB1.out.size));clear hb2;go_wp2_with fail;go_ret;exact⟨rfl,HB2.out⟩
 ·have g:decide (ct<=64)=false:=decide_eq_false h64;have HD:=zH (show false=lockB x by rw[<-HD.out,g,Bool.false_and]);go_enter Tryz.func92,Tryz.ntmps92;go_wp2_with fail;refine HP.out.mono ?_;rintro e w1 ⟨rfl,hb1⟩;have HB1:=zH (HB.out.trans (hb1.mono HB.out.size));clear hb1 q0 q1 q2 q3;go_wp2_with fail;go_ret;rw[<-HD.out];exact⟨rfl,HB1.out⟩
open Go.RowKit
theorem ptEq_comm (x y:InT):ptEq x y=ptEq y x:=by
 unfold ptEq;rw[show(x.tx.toList==y.tx.toList)=(y.tx.toList==x.tx.toList)from Bool.beq_comm ..,show(x.pn==y.pn)=(y.pn==x.pn)from Bool.beq_comm ..]
theorem any_pt (l:List InT) (x:InT):l.any (ptEq x)=l.any (fun y=>ptEq y x):=by
 congr 1;funext y;exact ptEq_comm x y
@[go_sem] theorem eqPt (x y:InT) (w:World):(Op.equalIn 10000 35 (.agg #[.string x.tx,.int .i64 x.pn]) (.agg #[.string y.tx,.int .i64 y.pn])).run Tryz.prog w= .ok (ptEq x y) w:=by
 have u1:=Tryz.underlying9;have u2:=Tryz.underlying3;have hS:Tryz.prog.underlying 35=some (.struct (Tryz.prog.fieldsOf 35)):=by kernel_rfl
 rw[run_equalIn_agg w 9999 _ _ _ hS (by kernel_rfl)];simp only[Program.fieldsOf,Tryz.underlying35];go_simp;unfold ptEq;cases h1:(x.tx.toList==y.tx.toList)<;>cases h2:(x.pn==y.pn)<;>simp_all
theorem binPt (x y:InT) (w:World):(binOp .eql 35 (.agg #[.string x.tx,.int .i64 x.pn]) (.agg #[.string y.tx,.int .i64 y.pn])).run Tryz.prog w= .ok (.bool (ptEq x y)) w:=by
 have h:=eqPt x y w;simp[binOp,Op.equal,Op.maxDepth,h,Result.andThen]
theorem headB_ref (ins:List InT) (outs:List OutT) (after tag:Int):headB ⟨ins,outs,after,tag⟩=(!(decide ((64:Int)<(ins.length:Int)))&& !(decide ((outs.length:Int)<1))&& !(decide ((64:Int)<(outs.length:Int)))&&timeB after&& !(decide (tag<0))&& !(decide (4611686018427387904<tag))):=by
 unfold headB;simp only;generalize ins.length=a;generalize outs.length=b;generalize timeB after=q;by_cases h1:a<=64<;>by_cases h2:1<=b<;>by_cases h3:b<=64<;>by_cases h6:0<=tag<;>by_cases h7:tag<=4611686018427387904<;>cases q<;>simp[h1,h2,h3,h6,h7]<;>omega
theorem any_take_in {l:List InT} {p:InT->Bool} {k:Nat} (hk:k<l.length):(l.take (k+1)).any p=((l.take k).any p||p l[k]):=by
 rw[List.take_succ_eq_append_getElem hk,List.any_append];simp
theorem any_take_mem {l:List InT} {p:InT->Bool} {j k:Nat} (hk:k<l.length) (hj:k<j) (h:p l[k]=true):(l.take j).any p=true:=by
 rw[List.any_eq_true];exact⟨l[k],by rw[List.mem_take_iff_getElem];exact⟨k,by omega,rfl⟩,h⟩
theorem TxBox.drewN {w:World} {b:Nat} {A:Option Addr} {n ca:Nat} {B:Option Addr} {m cb:Nat} {after tag:Int} (h:TxBox w b A n ca B m cb after tag) (q:Nat):TxBox (w.drewN q) b A n ca B m cb after tag:=h
set_option maxRecDepth 100000 in
set_option maxHeartbeats 16000000 in
theorem rtxright_any (ins:List InT) (outs:List OutT) (after tag:Int) (A B:Option Addr) (ca cb:Nat) (w:World) (hs:smallTx ⟨ins,outs,after,tag⟩) (hc:TxC w ⟨ins,outs,after,tag⟩ A B):
 Calls Tryz.prog 76 #[.agg #[.slice A ins.length ca,.slice B outs.length cb,.int .i64 after,.int .i64 tag]] w fun e w'=>e= .returned (.bool (txB ⟨ins,outs,after,tag⟩))/\Below w.heap.size w w':=by
 have hb0:Below w.heap.size w (w.alloc (zO4 A ins.length ca B outs.length cb after tag)):=(Below.refl _ _).alloc (Nat.le_refl _) _;have hbx:TxBox (w.alloc (zO4 A ins.length ca B outs.length cb after tag)) w.heap.size A ins.length ca B outs.length cb after tag:=Go.heap_alloc_new w _;obtain⟨p0,p1,p2,p3⟩:=hbx.cells;have HB:=zH hb0;have HX:=zH hbx;have HC:=zH hc;have HS:=zH hs;have HTM:=zH (rtime_any after (w.alloc (zO4 A ins.length ca B outs.length cb after tag)));obtain⟨R,hR⟩: ∃R,txB ⟨ins,outs,after,tag⟩=R:=⟨_,rfl⟩;rw[hR];have HR:=zH (show(headB ⟨ins,outs,after,tag⟩&&insB [] ins&&outsR 0 outs)=R by rw[txB_ref,hR]);have HH:=zH (headB_ref ins outs after tag);clear hR hb0 hbx hc hs;cases g1:decide ((64:Int)<(ins.length:Int))with
 |true=>
  have HN:=zH (show R=false by rw[<-HR.out,HH.out,g1];simp);go_enter Tryz.func76,Tryz.ntmps76;go_wp2_with fail;go_ret;rw[HN.out];exact⟨rfl,HB.out⟩
 |false=>
  cases g2:decide ((outs.length:Int)<1)with
  |true=>
   have HN:=zH (show R=false by rw[<-HR.out,HH.out,g1,g2];simp);go_enter Tryz.func76,Tryz.ntmps76;go_wp2_with fail;go_ret;rw[HN.out];exact⟨rfl,HB.out⟩
  |false=>
   cases g3:decide ((64:Int)<(outs.length:Int))with
   |true=>
    have HN:=zH (show R=false by rw[<-HR.out,HH.out,g1,g2,g3];simp);go_enter Tryz.func76,Tryz.ntmps76;go_wp2_with fail;go_ret;rw[HN.out];exact⟨rfl,HB.out⟩
   |false=>
    cases g4:timeB after with
    |false=>
     have HN:=zH (show R=false by rw[<-HR.out,HH.out,g1,g2,g3,g4];simp);rw[g4]at HTM;go_enter Tryz.func76,Tryz.ntmps76;go_wp2_with fail;refine HTM.out.mono ?_;rintro e w1 ⟨rfl,rfl⟩;go_wp2_with fail;go_ret;rw[HN.out];exact⟨rfl,HB.out⟩
    |true=>
     rw[g4]at HTM;cases g6:decide (tag<0)with
     |true=>
      have HN:=zH (show R=false by rw[<-HR.out,HH.out,g1,g2,g3,g4,g6];simp);go_enter Tryz.func76,Tryz.ntmps76;go_wp2_with fail;refine HTM.out.mono ?_;rintro e w1 ⟨rfl,rfl⟩;go_wp2_with fail;go_ret;rw[HN.out];exact⟨rfl,HB.out⟩
     |false=>
      cases g7:decide (4611686018427387904<tag)with
      |true=>
       have HN:=zH (show R=false by rw[<-HR.out,HH.out,g1,g2,g3,g4,g6,g7];simp);go_enter Tryz.func76,Tryz.ntmps76;go_wp2_with fail;refine HTM.out.mono ?_;rintro e w1 ⟨rfl,rfl⟩;go_wp2_with fail;go_ret;rw[HN.out];exact⟨rfl,HB.out⟩
      |false=>
       have HN:=zH (show(insB [] ins&&outsR 0 outs)=R by rw[<-HR.out,HH.out,g1,g2,g3,g4,g6,g7];simp);obtain⟨s1,s2,s3,s4⟩:=HS.out;have S1:=zH s1;have S2:=zH s2;have hL1:ins.length<=64:=by have:=of_decide_eq_false g1;omega
       have hL2:outs.length<=64:=by have:=of_decide_eq_false g3;omega
       clear s1 s2 s3 s4;go_enter Tryz.func76,Tryz.ntmps76;go_wp2_with fail;refine HTM.out.mono ?_;rintro e w1 ⟨rfl,rfl⟩;go_wp2_with fail;go_loopw [3] (fun i wr=> ∃j:Nat,j<=ins.length/\i= .int .i64 (j:Int)/\(insB (ins.take j) (ins.drop j)&&outsR 0 outs)=R/\TxBox wr w.heap.size A ins.length ca B outs.length cb after tag/\Below w.heap.size w wr) (fun i _=>ins.length - (intOf i).toNat)
       case atStart=>exact⟨0,Nat.zero_le _,rfl,by rw[List.drop_zero,List.take_zero];exact HN.out,HX.out,HB.out⟩
       case round=>
        obtain⟨j,hj,rfl,hrest,hbox,hbr⟩:=hrel;clear p0 p1 p2 p3;obtain⟨q0,q1,q2,q3⟩:=hbox.cells;by_cases hlt:j<ins.length
        ·obtain⟨ad,rfl,x0,x1,x2⟩:=in_at (HC.out.below hbr).1 hlt;have hdrop:ins.drop j=ins[j]::ins.drop (j+1):=List.drop_eq_getElem_cons hlt;have htake:ins.take (j+1)=ins.take j++[ins[j]]:=List.take_succ_eq_append_getElem hlt;rw[hdrop]at hrest;have hpt:=(S1.out ins[j] (List.getElem_mem hlt)).2;obtain⟨x,hx⟩: ∃x,ins[j]=x:=⟨_,rfl⟩;rw[hx]at x0 x1 x2 hrest htake hpt;have HT:=zH htake;have hbn:Below wr.heap.size wr (wr.alloc (zO14 x.tx x.pn x.age)):=(Below.refl _ _).alloc (Nat.le_refl _) _;have y0:(wr.alloc (zO14 x.tx x.pn x.age)).cell? ⟨wr.heap.size,0,none⟩=some (.string x.tx):=alloc_cells 0 _ rfl;have y1:(wr.alloc (zO14 x.tx x.pn x.age)).cell? ⟨wr.heap.size,1,none⟩=some (.int .i64 x.pn):=alloc_cells 1 _ rfl;have y2:(wr.alloc (zO14 x.tx x.pn x.age)).cell? ⟨wr.heap.size,2,none⟩=some (.int .i64 x.age):=alloc_cells 2 _ rfl;have u0:=cell_below hbn q0;have HCJ:=zH (HC.out.below (hbr.trans (hbn.mono hbr.size)));have HXN:=zH (hbox.below hbn);have HBN:=zH (hbr.trans (hbn.mono hbr.size));have HID:=zH (rid_any x.tx (wr.alloc (zO14 x.tx x.pn x.age)) hpt);have HTA:=zH (rtime_any x.age (wr.alloc (zO14 x.tx x.pn x.age)));have HIB:=zH (show inB x=(idB x.tx&&decide (0<=x.pn)&&decide (x.pn<64)&&timeB x.age) by unfold inB timeB;simp only[Bool.and_assoc]);have HREST:=zH hrest;clear hbn hrest hbox hbr htake hdrop hpt hx;obtain⟨q,hq⟩: ∃q,idB x.tx=q:=⟨_,rfl⟩;rw[hq]at HID HIB;clear hq;cases q with
         |false=>
          have HN2:=zH (show R=false by rw[<-HREST.out,insB_bad (show inB x=false by rw[HIB.out];rfl)];rfl);go_wp2_with fail;refine HID.out.mono ?_;rintro e w1 ⟨rfl,rfl⟩;go_wp2_with fail;go_ret;rw[HN2.out];exact⟨rfl,HBN.out⟩
         |true=>
          cases k1:decide (x.pn<0)with
          |true=>
           have mk1:decide (0<=x.pn)=false:=decide_eq_false (by have:=of_decide_eq_true k1;omega);have HN2:=zH (show R=false by rw[<-HREST.out,insB_bad (show inB x=false by rw[HIB.out,mk1];simp)];rfl);go_wp2_with fail;refine HID.out.mono ?_;rintro e w1 ⟨rfl,rfl⟩;go_wp2_with fail;go_ret;rw[HN2.out];exact⟨rfl,HBN.out⟩
          |false=>
           have mk1:decide (0<=x.pn)=true:=decide_eq_true (by have:=of_decide_eq_false k1;omega);cases k2:decide (64<=x.pn)with
           |true=>
            have mk2:decide (x.pn<64)=false:=decide_eq_false (by have:=of_decide_eq_true k2;omega);have HN2:=zH (show R=false by rw[<-HREST.out,insB_bad (show inB x=false by rw[HIB.out,mk2];simp)];rfl);go_wp2_with fail;refine HID.out.mono ?_;rintro e w1 ⟨rfl,rfl⟩;go_wp2_with fail;go_ret;rw[HN2.out];exact⟨rfl,HBN.out⟩
           |false=>
            have mk2:decide (x.pn<64)=true:=decide_eq_true (by have:=of_decide_eq_false k2;omega);cases mk4:timeB x.age with
            |false=>
             rw[mk4]at HTA;have HN2:=zH (show R=false by rw[<-HREST.out,insB_bad (show inB x=false by rw[HIB.out,mk4];simp)];rfl);go_wp2_with fail;refine HID.out.mono ?_;rintro e w1 ⟨rfl,rfl⟩;go_wp2_with fail;refine HTA.out.mono ?_;rintro e w1 ⟨rfl,rfl⟩;go_wp2_with fail;go_ret;rw[HN2.out];exact⟨rfl,HBN.out⟩
            |true=>
             rw[mk4]at HTA;go_wp2_with fail;refine HID.out.mono ?_;rintro e w1 ⟨rfl,rfl⟩;go_wp2_with fail;refine HTA.out.mono ?_;rintro e w1 ⟨rfl,rfl⟩;go_wp2_with fail;go_loopw [5] (fun i wq=> ∃k m:Nat,k<=j/\i= .int .i64 (k:Int)/\wq=(wr.alloc (zO14 x.tx x.pn x.age)).drewN m/\(ins.take k).any (fun y=>ptEq y x)=false) (fun i _=>j - (intOf i).toNat)
             case atStart=>exact⟨0,0,Nat.zero_le _,rfl,rfl,rfl⟩
             case round=>
              obtain⟨k,m,hk,rfl,rfl,hno⟩:=hrel;by_cases hlk:k<j
              ·have hkl:k<ins.length:=by omega
               obtain⟨ad2,he2,v0,v1,v2⟩:=in_at HCJ.out.1 hkl;injection he2 with he2;subst he2;obtain⟨y,hy⟩: ∃y,ins[k]=y:=⟨_,rfl⟩;have hstep:=any_take_in (p:=fun y=>ptEq y x) hkl;rw[hy]at v0 v1 v2 hstep;rw[hno,Bool.false_or]at hstep;cases hq:ptEq y x with
               |true=>
                have HN2:=zH (show R=false by rw[<-HREST.out,insB_met (show(ins.take j).any (ptEq x)=true by rw[any_pt];exact any_take_mem hkl hlk (by rw[hy];exact hq))];rfl);clear hstep hy hno;go_upto_region 12 with fail;have hbp:=fun W=>binPt y x W
                rw[hq]at hbp;go_quiet (fail);clear hbp;go_wp2_with fail;go_ret;rw[HN2.out];exact⟨rfl,below_drewN (below_drewN HBN.out _) _⟩
               |false=>
                rw[hq]at hstep;have HST:=zH hstep;clear hstep hy hno;go_upto_region 12 with fail;have hbp:=fun W=>binPt y x W
                rw[hq]at hbp;go_quiet (fail);clear hbp;go_wp2_with fail;go_roundw
                case rel=>exact⟨k+1,_,by omega,by go_num,rfl,HST.out⟩
                case measure=>simp[intOf];omega
              ·have hkj:k=j:=by omega
               subst hkj;have HNA:=zH (show(ins.take k).any (ptEq x)=false by rw[any_pt];exact hno);have HN2:=zH (show(insB (ins.take (k+1)) (ins.drop (k+1))&&outsR 0 outs)=R by rw[HT.out,<-HREST.out,insB_next (show inB x=true by rw[HIB.out,mk1,mk2,mk4];rfl) HNA.out]);have gk:decide ((k:Int)<(k:Int))=false:=decide_eq_false (by omega);clear hno;go_wp2_with fail;go_roundw
               case rel=>exact⟨k+1,by omega,by go_num,HN2.out,TxBox.drewN HXN.out _,below_drewN HBN.out _⟩
               case measure=>simp[intOf];omega
        ·have HD:=zH (show outsR 0 outs=R by rw[<-hrest,List.drop_of_length_le (by omega)];rfl);have HXX:=zH hbox;have HBB:=zH hbr;have gj:decide ((j:Int)<(ins.length:Int))=false:=decide_eq_false (by omega);clear hrest hbox hbr;go_wp2_with fail;go_loopw [7,6] (fun i lf wr=> ∃(j:Nat) (sum:Int),j<=outs.length/\i= .int .i64 (j:Int)/\lf= .int .i64 sum/\0<=sum/\sum<=2100000000000000*(j:Int)/\outsR sum (outs.drop j)=R/\TxBox wr w.heap.size A ins.length ca B outs.length cb after tag/\Below w.heap.size w wr) (fun i _ _=>outs.length - (intOf i).toNat)
         case atStart=>exact⟨0,0,Nat.zero_le _,rfl,rfl,by omega,by omega,by rw[List.drop_zero];exact HD.out,HXX.out,HBB.out⟩
         case round=>
          clear HXX HBB HD q0 q1 q2 q3 gj;obtain⟨j2,sum,hj2,rfl,rfl,hl0,hl1,hrest,hbox,hbr⟩:=hrel;obtain⟨q0,q1,q2,q3⟩:=hbox.cells;by_cases hlt2:j2<outs.length
          ·obtain⟨-,ys,hy1,hy2⟩:=HC.out.below hbr;obtain⟨bd,C,cp,rfl,o0,o1,o2,o3,o4,hlk⟩:=out_at hy1 hy2 hlt2;have hdrop:outs.drop j2=outs[j2]::outs.drop (j2+1):=List.drop_eq_getElem_cons hlt2;rw[hdrop]at hrest;have hsm:=S2.out outs[j2] (List.getElem_mem hlt2);obtain⟨x,hx⟩: ∃x,outs[j2]=x:=⟨_,rfl⟩;rw[hx]at o0 o1 o2 o3 o4 hlk hrest hsm;have hbn:Below wr.heap.size wr (wr.alloc (zO13 x.value x.lock.kind x.lock.term x.lock.n C x.lock.kids.length cp)):=(Below.refl _ _).alloc (Nat.le_refl _) _;have y0:(wr.alloc (zO13 x.value x.lock.kind x.lock.term x.lock.n C x.lock.kids.length cp)).cell? ⟨wr.heap.size,0,none⟩=some (.int .i64 x.value):=alloc_cells 0 _ rfl;have y1:(wr.alloc (zO13 x.value x.lock.kind x.lock.term x.lock.n C x.lock.kids.length cp)).cell? ⟨wr.heap.size,1,none⟩=some (.int .u8 x.lock.kind):=alloc_cells 1 _ rfl;have y2:(wr.alloc (zO13 x.value x.lock.kind x.lock.term x.lock.n C x.lock.kids.length cp)).cell? ⟨wr.heap.size,2,none⟩=some (.string x.lock.term):=alloc_cells 2 _ rfl;have y3:(wr.alloc (zO13 x.value x.lock.kind x.lock.term x.lock.n C x.lock.kids.length cp)).cell? ⟨wr.heap.size,3,none⟩=some (.int .i64 x.lock.n):=alloc_cells 3 _ rfl;have y4:(wr.alloc (zO13 x.value x.lock.kind x.lock.term x.lock.n C x.lock.kids.length cp)).cell? ⟨wr.heap.size,4,none⟩=some (.slice C x.lock.kids.length cp):=alloc_cells 4 _ rfl;have HBN:=zH (hbr.trans (hbn.mono hbr.size));have HXN:=zH (hbox.below hbn);have HLR:=zH (rlockright_any x.lock _ (wr.alloc (zO13 x.value x.lock.kind x.lock.term x.lock.n C x.lock.kids.length cp)) hsm (LockC.below hbn _ _ hlk));have HREST:=zH hrest;clear hbn hlk hrest hbox hbr hy1 hy2 hdrop hsm hx;cases k1:decide (x.value<1)with
           |true=>
            have m1:decide (1<=x.value)=false:=decide_eq_false (by have:=of_decide_eq_true k1;omega);have HN2:=zH (show R=false by rw[<-HREST.out];unfold outsR;rw[m1];rfl);go_wp2_with fail;go_ret;rw[HN2.out];exact⟨rfl,HBN.out⟩
           |false=>
            have m1:1<=x.value:=by have:=of_decide_eq_false k1;omega
            cases k2:decide ((2100000000000000:Int)<x.value)with
            |true=>
             have m2:decide (x.value<=maxCoin)=false:=decide_eq_false (by have:=of_decide_eq_true k2;unfold maxCoin;omega);have HN2:=zH (show R=false by rw[<-HREST.out];unfold outsR;rw[m2];simp);go_wp2_with fail;go_ret;rw[HN2.out];exact⟨rfl,HBN.out⟩
            |false=>
             have m2:x.value<=2100000000000000:=by have:=of_decide_eq_false k2;omega
             cases k3:lockB x.lock with
             |false=>
              rw[k3]at HLR;have HN2:=zH (show R=false by rw[<-HREST.out];unfold outsR;rw[k3];simp);go_wp2_with fail;refine HLR.out.mono ?_;rintro e w3 ⟨rfl,hb3⟩;have HB3:=zH (HBN.out.trans (hb3.mono HBN.out.size));clear hb3;go_wp2_with fail;go_ret;rw[HN2.out];exact⟨rfl,HB3.out⟩
             |true=>
              rw[k3]at HLR;have HN2:=zH (show outsR (sum+x.value) (outs.drop (j2+1))=R by rw[<-HREST.out];exact(outsR_next m1 (show x.value<=maxCoin from m2) k3).symm);go_wp2_with fail;refine HLR.out.mono ?_;rintro e w3 ⟨rfl,hb3⟩;have HB3:=zH (HBN.out.trans (hb3.mono HBN.out.size));have HX3:=zH (HXN.out.below hb3);have z0:=cell_below hb3 y0;clear hb3 y0 y1 y2 y3 y4;go_wp2_with fail;go_roundw
              case rel=>exact⟨j2+1,sum+x.value,by omega,by go_num,by go_num,by omega,by omega,HN2.out,HX3.out,HB3.out⟩
              case measure=>simp[intOf];omega
          ·have HN2:=zH (show decide (sum<=2100000000000000)=R by rw[<-hrest,List.drop_of_length_le (by omega)];rfl);have HBB:=zH hbr;have gj:decide ((j2:Int)<(outs.length:Int))=false:=decide_eq_false (by omega);clear hrest hbox hbr;go_wp2_with fail;go_ret;exact⟨ret_bool HN2.out,HBB.out⟩
open Go.RowKit
end Go.Proofs.YtncniomiplnaaaaGreatDoor
