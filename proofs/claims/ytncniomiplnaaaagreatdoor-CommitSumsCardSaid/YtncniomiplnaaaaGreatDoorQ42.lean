/- A symmetric merge of lines. -/
import Derived.Test.YtncniomiplnaaaaGreatDoorQ41
set_option linter.all false
namespace Go.Proofs.YtncniomiplnaaaaGreatDoor
open Go.RowKit Go.Shelf Go.Sort
set_option maxHeartbeats 1000000 in
theorem sym_parts (X A B Y:List LineR) (g cap n a m b mid s e N:Nat) (hX:X.length=a) (hA:a+A.length=m) (hB:m+B.length=b) (hl:(X++(A++(B++Y))).length=n) (hn:n<=1000) (hN:A.length+B.length=N) (h1:a<=s) (h2:s<=m) (h3:m<=e) (h4:e<=b) (h5:s+e=mid+m) (h6:a<mid) (h7:mid<b)
 (uA:Up ltL A) (uB:Up ltL B) (IH: ∀X A B Y:List LineR,A.length+B.length<N->SymP g cap X A B Y)
 (hsp:ordL ltL (A++B)=ordL ltL (A.take (s - a)++B.take (e - m))++ordL ltL (A.drop (s - a)++B.drop (e - m))):
 ∃L1 L2:List LineR,(s<m->m<e-> ∀W,RowL W g (X++(A++(B++Y)))->Calls Tryz.prog 113 #[.slice (some ⟨g,0,none⟩) n cap,.int .i64 (s:Int),.int .i64 (m:Int),.int .i64 (e:Int),(.func (.func 70) #[] #[])] W fun e w'=>e= .returned (.tuple #[])/\RowL w' g L1/\Fr [g] W w')/\(¬(s<m/\m<e)->X++(A++(B++Y))=L1)/\
  (a<s->m<e-> ∀W,RowL W g L1->Calls Tryz.prog 102 #[.slice (some ⟨g,0,none⟩) n cap,.int .i64 (a:Int),.int .i64 (s:Int),.int .i64 (mid:Int),(.func (.func 70) #[] #[])] W fun e w'=>e= .returned (.tuple #[])/\RowL w' g L2/\Fr [g] W w')/\(¬(a<s/\m<e)->L1=L2)/\
  (s<m->e<b-> ∀W,RowL W g L2->Calls Tryz.prog 102 #[.slice (some ⟨g,0,none⟩) n cap,.int .i64 (mid:Int),.int .i64 (e:Int),.int .i64 (b:Int),(.func (.func 70) #[] #[])] W fun e w'=>e= .returned (.tuple #[])/\RowL w' g (X++ordL ltL (A++B)++Y)/\Fr [g] W w')/\(¬(s<m/\e<b)->L2=X++ordL ltL (A++B)++Y):=by
 obtain⟨A1,hA1⟩: ∃A1,A.take (s - a)=A1:=⟨_,rfl⟩;obtain⟨A2,hA2⟩: ∃A2,A.drop (s - a)=A2:=⟨_,rfl⟩;obtain⟨B1,hB1⟩: ∃B1,B.take (e - m)=B1:=⟨_,rfl⟩;obtain⟨B2,hB2⟩: ∃B2,B.drop (e - m)=B2:=⟨_,rfl⟩;have eA:A=A1++A2:=by rw[<-hA1,<-hA2,List.take_append_drop]
 have eB:B=B1++B2:=by rw[<-hB1,<-hB2,List.take_append_drop]
 have lA1:A1.length=s - a:=by rw[<-hA1,List.length_take];omega
 have lA2:A2.length=m - s:=by rw[<-hA2,List.length_drop];omega
 have lB1:B1.length=e - m:=by rw[<-hB1,List.length_take];omega
 have lB2:B2.length=b - e:=by rw[<-hB2,List.length_drop];omega
 rw[hA1,hA2,hB1,hB2]at hsp;have pA:=List.pairwise_append.1 (show Up ltL (A1++A2) by rw[<-eA];exact uA);have pB:=List.pairwise_append.1 (show Up ltL (B1++B2) by rw[<-eB];exact uB);have lo:(ordL ltL (A1++B1)).length=mid - a:=by rw[ordL_len,List.length_append,lA1,lB1];omega
 have hnl:n=a+(m - a)+(b - m)+Y.length:=by rw[<-hl];simp;omega
 rw[hsp];refine⟨X++(A1++B1)++(A2++(B2++Y)),X++ordL ltL (A1++B1)++(A2++(B2++Y)), ?_, ?_, ?_, ?_, ?_, ?_⟩
 ·intro c1 c2 W hW;have hc:=rotate_any (X++A1) A2 B1 (B2++Y) g cap n (s:Int) (m:Int) (e:Int) (.func (.func 70) #[] #[]) W (by simp[lA1,lA2,lB1,lB2];omega) (by simp[lA1];omega) (by simp[lA1,lA2];omega) (by simp[lA1,lA2,lB1];omega) (by rw[eA,eB]at hW;simp only[List.append_assoc]at hW⊢;exact hW) (by omega) (by omega) hn;refine hc.mono ?_;rintro e' w' ⟨r1,r2,r3⟩;exact⟨r1,by simp only[List.append_assoc]at r2⊢;exact r2,r3⟩
 ·intro hc;rw[eA,eB];by_cases c1:s<m
  ·have:B1=[]:=List.eq_nil_of_length_eq_zero (by omega);rw[this];simp
  ·have:A2=[]:=List.eq_nil_of_length_eq_zero (by omega);rw[this];simp
 ·intro c3 c2 W hW;have hc:=IH X A1 B1 (A2++(B2++Y)) (by omega) n (a:Int) (s:Int) (mid:Int) W (by simp[lA1,lA2,lB1,lB2];omega) (by omega) (by omega) (by omega) (by simp only[List.append_assoc]at hW⊢;exact hW) (by omega) (by omega) pA.1 pB.1 hn;exact hc
 ·intro hc;have:ordL ltL (A1++B1)=A1++B1:=by
   by_cases c3:a<s
   ·have:B1=[]:=List.eq_nil_of_length_eq_zero (by omega);rw[this,List.append_nil];exact ord_id pA.1
   ·have:A1=[]:=List.eq_nil_of_length_eq_zero (by omega);rw[this,List.nil_append];exact ord_id pB.1
  rw[this]
 ·intro c1 c4 W hW;have hc:=IH (X++ordL ltL (A1++B1)) A2 B2 Y (by omega) n (mid:Int) (e:Int) (b:Int) W (by simp[lo,lA2,lB2];omega) (by simp[lo];omega) (by simp[lo,lA2];omega) (by simp[lo,lA2,lB2];omega) (by simp only[List.append_assoc]at hW⊢;exact hW) (by omega) (by omega) pA.2.1 pB.2.1 hn;refine hc.mono ?_;rintro e' w' ⟨r1,r2,r3⟩;exact⟨r1,by simp only[List.append_assoc]at r2⊢;exact r2,r3⟩
 ·intro hc;have:ordL ltL (A2++B2)=A2++B2:=by
   by_cases c1:s<m
   ·have:B2=[]:=List.eq_nil_of_length_eq_zero (by omega);rw[this,List.append_nil];exact ord_id pA.2.1
   ·have:A2=[]:=List.eq_nil_of_length_eq_zero (by omega);rw[this,List.nil_append];exact ord_id pB.2.1
  rw[this];simp
set_option maxRecDepth 100000 in
set_option maxHeartbeats 8000000 in
theorem sym_general (X A B Y:List LineR) (g cap N:Nat) (hA2:2<=A.length) (hB2:2<=B.length) (hN:A.length+B.length=N) (IH: ∀X A B Y:List LineR,A.length+B.length<N->SymP g cap X A B Y):SymP g cap X A B Y:=by
 intro n ai mi bi w hnn ha hm hb h _ _ hA hB hn;subst ha;subst hm;subst hb;simp only[List.append_assoc]at hnn h;obtain⟨a,ha⟩: ∃a,X.length=a:=⟨_,rfl⟩;obtain⟨p,hp⟩: ∃p,A.length=p:=⟨_,rfl⟩;obtain⟨q,hq⟩: ∃q,B.length=q:=⟨_,rfl⟩;obtain⟨m,hm⟩: ∃m,a+p=m:=⟨_,rfl⟩;obtain⟨b,hb⟩: ∃b,m+q=b:=⟨_,rfl⟩;rw[ha,hp,hq,hm,hb];rw[hp]at hA2;rw[hq]at hB2;have hln:n=b+Y.length:=by rw[<-hnn];simp;omega
 have hbn:b<=n:=by omega
 have HH:=zH h;have HL:=zH (show X.length=a/\a+A.length=m/\m+B.length=b/\A.length=p/\(X++(A++(B++Y))).length=n/\A.length+B.length=N from⟨ha,by omega,by omega,hp,hnn,hN⟩);have HUA:=zH hA;have HUB:=zH hB;have IHH:=zH IH;obtain⟨R,hR⟩: ∃R,X++ordL ltL (A++B)++Y=R:=⟨_,rfl⟩;rw[hR];have HRR:=zH hR;clear hR;have hone0:((m:Int) - (a:Int)==1)=false:=beq_false_of_ne (by omega);have hone1:((b:Int) - (m:Int)==1)=false:=beq_false_of_ne (by omega);have ham:a+2<=m:=by omega
 have hmb:m+2<=b:=by omega
 obtain⟨mid,hmid⟩: ∃mid,(a+b) / 2=mid:=⟨_,rfl⟩;have hmz:((a:Int)+(b:Int)) / 2=(mid:Int):=by omega
 obtain⟨nn,hnm⟩: ∃nn,mid+m=nn:=⟨_,rfl⟩;have hnz:(mid:Int)+(m:Int)=(nn:Int):=by omega
 obtain⟨pp,hpp⟩: ∃pp,nn - 1=pp:=⟨_,rfl⟩;have hpz:(nn:Int) - 1=(pp:Int):=by omega
 obtain⟨s0,hs0'⟩: ∃s0,nn - b=s0:=⟨_,rfl⟩;clear h hA hB ha hp hq hm hb hnn hln IH hN hA2 hB2;have mixed:Tryz.prog.follows Departure.mixedOrders=true:=by kernel_rfl
 by_cases hbig:mid<m
 ·go_enter Tryz.func102,Tryz.ntmps102;have hsz:(nn:Int) - (b:Int)=(s0:Int):=by omega
  have hs0:a<=s0:=by omega
  have hs1:s0<=mid:=by omega
  go_wp2_with fail;go_loopw [20,21] (fun vi vj wr=> ∃s r:Nat,vi= .int .i64 (s:Int)/\vj= .int .i64 (r:Int)/\s0<=s/\s<=r/\r<=mid/\RowL wr g (X++(A++(B++Y)))/\Fr [g] w wr/\(s=s0\/ ∃(i j:Nat) (hi:i<A.length) (hj:j<B.length),i+1+a=s/\j+m+s=nn/\ltL B[j] A[i]=false)/\(r=mid\/ ∃(i j:Nat) (hi:i<A.length) (hj:j<B.length),i+a=r/\j+m+r+1=nn/\ltL B[j] A[i]=true)) (fun vi vj _=>(intOf vj).toNat - (intOf vi).toNat)
  case atStart=>exact⟨s0,mid,rfl,rfl,Nat.le_refl _,by omega,Nat.le_refl _,HH.out,Fr.refl _ _,.inl rfl,.inl rfl⟩
  case round=>
   obtain⟨s,r,rfl,rfl,hs,hsr,hr,hrow,hfr,hlo,hhi⟩:=hrel;have HF:=zH hfr;have HLO:=zH hlo;have HHI:=zH hhi;clear hfr hlo hhi;by_cases hlt:s<r
   ·obtain⟨c,hh⟩: ∃c,(s+r) / 2=c:=⟨_,rfl⟩;have hh1:s<=c:=by omega
    have hh2:c<r:=by omega
    have hd:((s:Int)+(r:Int)) / 2=(c:Int):=by omega
    obtain⟨d,hdd⟩: ∃d,pp - c=d:=⟨_,rfl⟩;have hd2:(pp:Int) - (c:Int)=(d:Int):=by omega
    have hwd:IntKind.i64.wrap (d:Int)=(d:Int):=by rw[IntKind.wrap_i64];omega
    have hcn:c<n:=by omega
    have hdn:d<n:=by omega
    obtain⟨l1,l2,l3,l4,l5,l6⟩:=HL.out;have ht:c - a<A.length:=by omega
    have hu:d - m<B.length:=by omega
    have i1:d<(X++(A++(B++Y))).length:=by rw[l5];omega
    have i2:c<(X++(A++(B++Y))).length:=by rw[l5];omega
    have g1:(X++(A++(B++Y)))[d]=B[d - m]:=by
     have:=at_mid (X:=X++A) (B:=B) (Y:=Y) (t:=d - m) (i:=d) hu (by simp;omega) (by simp;simp at i1;omega);simpa using this
    have g2:(X++(A++(B++Y)))[c]=A[c - a]:=at_mid ht (by omega) i2;have hu1:ltL B[d - m] A[c - a]=true-> ∃(i j:Nat) (hi:i<A.length) (hj:j<B.length),i+a=c/\j+m+c+1=nn/\ltL B[j] A[i]=true:=fun hx=>⟨c - a,d - m,ht,hu,by omega,by omega,hx⟩
    have hu2:ltL B[d - m] A[c - a]=false-> ∃(i j:Nat) (hi:i<A.length) (hj:j<B.length),i+1+a=c+1/\j+m+(c+1)=nn/\ltL B[j] A[i]=false:=fun hx=>⟨c - a,d - m,ht,hu,by omega,by omega,hx⟩
    obtain⟨x,hx⟩: ∃x,A[c - a]=x:=⟨_,rfl⟩;obtain⟨y,hy⟩: ∃y,B[d - m]=y:=⟨_,rfl⟩;rw[hx]at g2 hu1 hu2;rw[hy]at g1 hu1 hu2;have HU1:=zH hu1;have HU2:=zH hu2;have c0: ∀n' os',(grow (wr.drewN n') os').cell? ⟨g,d*7,none⟩=some (.int .i64 y.v):=fun n' os'=>by have hc:=((hrow.grown n' os').cells (k:=d) i1).1;rw[g1]at hc;exact hc
    have c1: ∀n' os',(grow (wr.drewN n') os').cell? ⟨g,d*7+1,none⟩=some (.int .u8 y.kind):=fun n' os'=>by have hc:=((hrow.grown n' os').cells (k:=d) i1).2.1;rw[g1]at hc;exact hc
    have c2: ∀n' os',(grow (wr.drewN n') os').cell? ⟨g,d*7+2,none⟩=some (.string y.term):=fun n' os'=>by have hc:=((hrow.grown n' os').cells (k:=d) i1).2.2.1;rw[g1]at hc;exact hc
    have c3: ∀n' os',(grow (wr.drewN n') os').cell? ⟨g,d*7+3,none⟩=some (.int .i64 y.n):=fun n' os'=>by have hc:=((hrow.grown n' os').cells (k:=d) i1).2.2.2.1;rw[g1]at hc;exact hc
    have c4: ∀n' os',(grow (wr.drewN n') os').cell? ⟨g,d*7+4,none⟩=some (.slice y.A y.len y.cap):=fun n' os'=>by have hc:=((hrow.grown n' os').cells (k:=d) i1).2.2.2.2.1;rw[g1]at hc;exact hc
    have c5: ∀n' os',(grow (wr.drewN n') os').cell? ⟨g,d*7+5,none⟩=some (.int .i64 y.what):=fun n' os'=>by have hc:=((hrow.grown n' os').cells (k:=d) i1).2.2.2.2.2.1;rw[g1]at hc;exact hc
    have c6: ∀n' os',(grow (wr.drewN n') os').cell? ⟨g,d*7+6,none⟩=some (.string y.text):=fun n' os'=>by have hc:=((hrow.grown n' os').cells (k:=d) i1).2.2.2.2.2.2.1;rw[g1]at hc;exact hc
    have d0: ∀n' os',(grow (wr.drewN n') os').cell? ⟨g,c*7,none⟩=some (.int .i64 x.v):=fun n' os'=>by have hc:=((hrow.grown n' os').cells (k:=c) i2).1;rw[g2]at hc;exact hc
    have d1: ∀n' os',(grow (wr.drewN n') os').cell? ⟨g,c*7+1,none⟩=some (.int .u8 x.kind):=fun n' os'=>by have hc:=((hrow.grown n' os').cells (k:=c) i2).2.1;rw[g2]at hc;exact hc
    have d2: ∀n' os',(grow (wr.drewN n') os').cell? ⟨g,c*7+2,none⟩=some (.string x.term):=fun n' os'=>by have hc:=((hrow.grown n' os').cells (k:=c) i2).2.2.1;rw[g2]at hc;exact hc
    have d3: ∀n' os',(grow (wr.drewN n') os').cell? ⟨g,c*7+3,none⟩=some (.int .i64 x.n):=fun n' os'=>by have hc:=((hrow.grown n' os').cells (k:=c) i2).2.2.2.1;rw[g2]at hc;exact hc
    have d4: ∀n' os',(grow (wr.drewN n') os').cell? ⟨g,c*7+4,none⟩=some (.slice x.A x.len x.cap):=fun n' os'=>by have hc:=((hrow.grown n' os').cells (k:=c) i2).2.2.2.2.1;rw[g2]at hc;exact hc
    have d5: ∀n' os',(grow (wr.drewN n') os').cell? ⟨g,c*7+5,none⟩=some (.int .i64 x.what):=fun n' os'=>by have hc:=((hrow.grown n' os').cells (k:=c) i2).2.2.2.2.2.1;rw[g2]at hc;exact hc
    have d6: ∀n' os',(grow (wr.drewN n') os').cell? ⟨g,c*7+6,none⟩=some (.string x.text):=fun n' os'=>by have hc:=((hrow.grown n' os').cells (k:=c) i2).2.2.2.2.2.2.1;rw[g2]at hc;exact hc
    have hcg: ∀n' os',Calls Tryz.prog 70 #[.agg #[.int .i64 y.v,.int .u8 y.kind,.string y.term,.int .i64 y.n,.slice y.A y.len y.cap,.int .i64 y.what,.string y.text],.agg #[.int .i64 x.v,.int .u8 x.kind,.string x.term,.int .i64 x.n,.slice x.A x.len x.cap,.int .i64 x.what,.string x.text]] (grow (wr.drewN n') os') fun e w'=>e= .returned (.int .i64 (cfL y x))/\ ∃q os'',w'=grow ((grow (wr.drewN n') os').drewN q) os'':=fun n' os'=>cmpLine_any y x _
    have HR:=zH hrow;clear hrow i1 i2 g1 g2 hu1 hu2 hx hy hh hdd ht hu l1 l2 l3 l4 l5 l6;by_cases hlv:cfL y x<0
    ·go_wp2_with fail;go_quiet_grown (first|(go_at_call 70;refine Calls.grown_of (hcg _ _))|(go_at_fn 70;refine Calls.grown_of (hcg _ _)));go_wp2_with fail;go_roundw
     case rel=>exact⟨s,c,rfl,rfl,hs,hh1,by omega,HR.out.grown nq osq,fr_grown HF.out nq osq,HLO.out,.inr (HU1.out (ltL_t hlv))⟩
     case measure=>simp[intOf];omega
    ·go_wp2_with fail;go_quiet_grown (first|(go_at_call 70;refine Calls.grown_of (hcg _ _))|(go_at_fn 70;refine Calls.grown_of (hcg _ _)));go_wp2_with fail;go_roundw
     case rel=>exact⟨c+1,r,by go_num,rfl,by omega,by omega,hr,HR.out.grown nq osq,fr_grown HF.out nq osq,.inr (HU2.out (ltL_f (by omega))),HHI.out⟩
     case measure=>simp[intOf];omega
     all_goals (exfalso;rename_i hq;simp at hq;omega)
   ·have hsr2:s=r:=by omega
    subst hsr2;obtain⟨e,he⟩: ∃e,nn - s=e:=⟨_,rfl⟩;have hez:(nn:Int) - (s:Int)=(e:Int):=by omega
    obtain⟨l1,l2,l3,l4,l5,l6⟩:=HL.out;obtain⟨L1,L2,P1,P2,P3,P4,P6,P7⟩:=sym_parts X A B Y g cap n a m b mid s e N l1 l2 l3 l5 hn l6 (by omega) (by omega) (by omega) (by omega) (by omega) (by omega) (by omega) HUA.out HUB.out IHH.out (sym_split ltL_weak A B (s - a) (e - m) HUA.out HUB.out (by omega) (by omega)
     (fun h h'=>by
      rcases HHI.out with h0|⟨i,j,hi,hj,q1,q2,q3⟩
      ·exfalso;omega
      ·obtain rfl:i=s - a:=by omega
       obtain rfl:j=e - m - 1:=by omega
       exact q3)
     (fun h h'=>by
      rcases HLO.out with h0|⟨i,j,hi,hj,q1,q2,q3⟩
      ·exfalso;omega
      ·obtain rfl:i=s - a - 1:=by omega
       obtain rfl:j=e - m:=by omega
       exact q3))
    rw[HRR.out]at P6 P7;have HP1:=zH (And.intro P1 P2);have HP3:=zH (And.intro P3 P4);have HP6:=zH (And.intro P6 P7);have HR:=zH hrow;have hes:s+e=nn:=by omega
    have he1:m<=e:=by omega
    have he2:e<=b:=by omega
    have hsm:s<=m:=by omega
    have has:a<=s:=by omega
    clear hrow hlt hsr P1 P2 P3 P4 P6 P7 he l1 l2 l3 l4 l5 l6 hs hr HLO HHI;by_cases hc1:s<m/\m<e
    ·obtain⟨d1,d2⟩:=hc1;go_wp2_with fail;refine(HP1.out.1 d1 d2 _ HR.out).mono ?_;rintro e' w1 ⟨rfl,hr1,hf1⟩;have HR1:=zH hr1;have HF1:=zH (HF.out.trans hf1 (fun i hi _=>hi));clear hr1 hf1 d1 d2;by_cases hc2:a<s/\m<e
     ·obtain⟨d1,d2⟩:=hc2;have d2':s<mid:=by omega
      go_wp2_with fail;refine(HP3.out.1 d1 d2 _ HR1.out).mono ?_;rintro e' w2 ⟨rfl,hr2,hf2⟩;have HR2:=zH hr2;have HF2:=zH (HF1.out.trans hf2 (fun i hi _=>hi));clear hr2 hf2 d2';by_cases hc3:s<m/\e<b
      ·obtain⟨d1,d2⟩:=hc3;have d1':mid<e:=by omega
       go_wp2_with fail;refine(HP6.out.1 d1 d2 _ HR2.out).mono ?_;rintro e' w3 ⟨rfl,hr3,hf3⟩;have HR3:=zH hr3;have HF3:=zH (HF2.out.trans hf3 (fun i hi _=>hi));clear hr3 hf3;go_wp2_with fail;go_end0;exact⟨rfl,HR3.out,HF3.out⟩
      ·have hr3:=HR2.out;rw[HP6.out.2 hc3]at hr3;have HR3:=zH hr3;clear hr3;have hc3':mid<e-> ¬e<b:=fun h h2=>hc3 ⟨by omega,h2⟩
       by_cases d1:mid<e
       ·have d2:=hc3' d1;clear hc3 hc3';go_wp2_with fail;go_end0;exact⟨rfl,HR3.out,HF2.out⟩
       ·clear hc3 hc3';go_wp2_with fail;go_end0;exact⟨rfl,HR3.out,HF2.out⟩
     ·have hr2:=HR1.out;rw[HP3.out.2 hc2]at hr2;have HR2:=zH hr2;have HF2:=HF1;clear hr2;have hc2':a<s-> ¬s<mid:=fun h h2=>hc2 ⟨h,by omega⟩
      by_cases d1:a<s
      ·have d2:=hc2' d1;clear hc2 hc2';by_cases hc3:s<m/\e<b
       ·obtain⟨d1,d2⟩:=hc3;have d1':mid<e:=by omega
        go_wp2_with fail;refine(HP6.out.1 d1 d2 _ HR2.out).mono ?_;rintro e' w3 ⟨rfl,hr3,hf3⟩;have HR3:=zH hr3;have HF3:=zH (HF2.out.trans hf3 (fun i hi _=>hi));clear hr3 hf3;go_wp2_with fail;go_end0;exact⟨rfl,HR3.out,HF3.out⟩
       ·have hr3:=HR2.out;rw[HP6.out.2 hc3]at hr3;have HR3:=zH hr3;clear hr3;have hc3':mid<e-> ¬e<b:=fun h h2=>hc3 ⟨by omega,h2⟩
        by_cases d1:mid<e
        ·have d2:=hc3' d1;clear hc3 hc3';go_wp2_with fail;go_end0;exact⟨rfl,HR3.out,HF2.out⟩
        ·clear hc3 hc3';go_wp2_with fail;go_end0;exact⟨rfl,HR3.out,HF2.out⟩
      ·clear hc2 hc2';by_cases hc3:s<m/\e<b
       ·obtain⟨d1,d2⟩:=hc3;have d1':mid<e:=by omega
        go_wp2_with fail;refine(HP6.out.1 d1 d2 _ HR2.out).mono ?_;rintro e' w3 ⟨rfl,hr3,hf3⟩;have HR3:=zH hr3;have HF3:=zH (HF2.out.trans hf3 (fun i hi _=>hi));clear hr3 hf3;go_wp2_with fail;go_end0;exact⟨rfl,HR3.out,HF3.out⟩
       ·have hr3:=HR2.out;rw[HP6.out.2 hc3]at hr3;have HR3:=zH hr3;clear hr3;have hc3':mid<e-> ¬e<b:=fun h h2=>hc3 ⟨by omega,h2⟩
        by_cases d1:mid<e
        ·have d2:=hc3' d1;clear hc3 hc3';go_wp2_with fail;go_end0;exact⟨rfl,HR3.out,HF2.out⟩
        ·clear hc3 hc3';go_wp2_with fail;go_end0;exact⟨rfl,HR3.out,HF2.out⟩
    ·have hr1:=HR.out;rw[HP1.out.2 hc1]at hr1;have HR1:=zH hr1;have HF1:=HF;clear hr1;have hc1':s<m-> ¬m<e:=fun h h2=>hc1 ⟨h,h2⟩
     by_cases d1:s<m
     ·have d2:=hc1' d1;clear hc1 hc1';by_cases hc2:a<s/\m<e
      ·obtain⟨d1,d2⟩:=hc2;have d2':s<mid:=by omega
       go_wp2_with fail;refine(HP3.out.1 d1 d2 _ HR1.out).mono ?_;rintro e' w2 ⟨rfl,hr2,hf2⟩;have HR2:=zH hr2;have HF2:=zH (HF1.out.trans hf2 (fun i hi _=>hi));clear hr2 hf2 d2';by_cases hc3:s<m/\e<b
       ·obtain⟨d1,d2⟩:=hc3;have d1':mid<e:=by omega
        go_wp2_with fail;refine(HP6.out.1 d1 d2 _ HR2.out).mono ?_;rintro e' w3 ⟨rfl,hr3,hf3⟩;have HR3:=zH hr3;have HF3:=zH (HF2.out.trans hf3 (fun i hi _=>hi));clear hr3 hf3;go_wp2_with fail;go_end0;exact⟨rfl,HR3.out,HF3.out⟩
       ·have hr3:=HR2.out;rw[HP6.out.2 hc3]at hr3;have HR3:=zH hr3;clear hr3;have hc3':mid<e-> ¬e<b:=fun h h2=>hc3 ⟨by omega,h2⟩
        by_cases d1:mid<e
        ·have d2:=hc3' d1;clear hc3 hc3';go_wp2_with fail;go_end0;exact⟨rfl,HR3.out,HF2.out⟩
        ·clear hc3 hc3';go_wp2_with fail;go_end0;exact⟨rfl,HR3.out,HF2.out⟩
      ·have hr2:=HR1.out;rw[HP3.out.2 hc2]at hr2;have HR2:=zH hr2;have HF2:=HF1;clear hr2;have hc2':a<s-> ¬s<mid:=fun h h2=>hc2 ⟨h,by omega⟩
       by_cases d1:a<s
       ·have d2:=hc2' d1;clear hc2 hc2';by_cases hc3:s<m/\e<b
        ·obtain⟨d1,d2⟩:=hc3;have d1':mid<e:=by omega
         go_wp2_with fail;refine(HP6.out.1 d1 d2 _ HR2.out).mono ?_;rintro e' w3 ⟨rfl,hr3,hf3⟩;have HR3:=zH hr3;have HF3:=zH (HF2.out.trans hf3 (fun i hi _=>hi));clear hr3 hf3;go_wp2_with fail;go_end0;exact⟨rfl,HR3.out,HF3.out⟩
        ·have hr3:=HR2.out;rw[HP6.out.2 hc3]at hr3;have HR3:=zH hr3;clear hr3;have hc3':mid<e-> ¬e<b:=fun h h2=>hc3 ⟨by omega,h2⟩
         by_cases d1:mid<e
         ·have d2:=hc3' d1;clear hc3 hc3';go_wp2_with fail;go_end0;exact⟨rfl,HR3.out,HF2.out⟩
         ·clear hc3 hc3';go_wp2_with fail;go_end0;exact⟨rfl,HR3.out,HF2.out⟩
       ·clear hc2 hc2';by_cases hc3:s<m/\e<b
        ·obtain⟨d1,d2⟩:=hc3;have d1':mid<e:=by omega
         go_wp2_with fail;refine(HP6.out.1 d1 d2 _ HR2.out).mono ?_;rintro e' w3 ⟨rfl,hr3,hf3⟩;have HR3:=zH hr3;have HF3:=zH (HF2.out.trans hf3 (fun i hi _=>hi));clear hr3 hf3;go_wp2_with fail;go_end0;exact⟨rfl,HR3.out,HF3.out⟩
        ·have hr3:=HR2.out;rw[HP6.out.2 hc3]at hr3;have HR3:=zH hr3;clear hr3;have hc3':mid<e-> ¬e<b:=fun h h2=>hc3 ⟨by omega,h2⟩
         by_cases d1:mid<e
         ·have d2:=hc3' d1;clear hc3 hc3';go_wp2_with fail;go_end0;exact⟨rfl,HR3.out,HF2.out⟩
         ·clear hc3 hc3';go_wp2_with fail;go_end0;exact⟨rfl,HR3.out,HF2.out⟩
     ·clear hc1 hc1';by_cases hc2:a<s/\m<e
      ·obtain⟨d1,d2⟩:=hc2;have d2':s<mid:=by omega
       go_wp2_with fail;refine(HP3.out.1 d1 d2 _ HR1.out).mono ?_;rintro e' w2 ⟨rfl,hr2,hf2⟩;have HR2:=zH hr2;have HF2:=zH (HF1.out.trans hf2 (fun i hi _=>hi));clear hr2 hf2 d2';by_cases hc3:s<m/\e<b
       ·obtain⟨d1,d2⟩:=hc3;have d1':mid<e:=by omega
        go_wp2_with fail;refine(HP6.out.1 d1 d2 _ HR2.out).mono ?_;rintro e' w3 ⟨rfl,hr3,hf3⟩;have HR3:=zH hr3;have HF3:=zH (HF2.out.trans hf3 (fun i hi _=>hi));clear hr3 hf3;go_wp2_with fail;go_end0;exact⟨rfl,HR3.out,HF3.out⟩
       ·have hr3:=HR2.out;rw[HP6.out.2 hc3]at hr3;have HR3:=zH hr3;clear hr3;have hc3':mid<e-> ¬e<b:=fun h h2=>hc3 ⟨by omega,h2⟩
        by_cases d1:mid<e
        ·have d2:=hc3' d1;clear hc3 hc3';go_wp2_with fail;go_end0;exact⟨rfl,HR3.out,HF2.out⟩
        ·clear hc3 hc3';go_wp2_with fail;go_end0;exact⟨rfl,HR3.out,HF2.out⟩
      ·have hr2:=HR1.out;rw[HP3.out.2 hc2]at hr2;have HR2:=zH hr2;have HF2:=HF1;clear hr2;have hc2':a<s-> ¬s<mid:=fun h h2=>hc2 ⟨h,by omega⟩
       by_cases d1:a<s
       ·have d2:=hc2' d1;clear hc2 hc2';by_cases hc3:s<m/\e<b
        ·obtain⟨d1,d2⟩:=hc3;have d1':mid<e:=by omega
         go_wp2_with fail;refine(HP6.out.1 d1 d2 _ HR2.out).mono ?_;rintro e' w3 ⟨rfl,hr3,hf3⟩;have HR3:=zH hr3;have HF3:=zH (HF2.out.trans hf3 (fun i hi _=>hi));clear hr3 hf3;go_wp2_with fail;go_end0;exact⟨rfl,HR3.out,HF3.out⟩
        ·have hr3:=HR2.out;rw[HP6.out.2 hc3]at hr3;have HR3:=zH hr3;clear hr3;have hc3':mid<e-> ¬e<b:=fun h h2=>hc3 ⟨by omega,h2⟩
         by_cases d1:mid<e
         ·have d2:=hc3' d1;clear hc3 hc3';go_wp2_with fail;go_end0;exact⟨rfl,HR3.out,HF2.out⟩
         ·clear hc3 hc3';go_wp2_with fail;go_end0;exact⟨rfl,HR3.out,HF2.out⟩
       ·clear hc2 hc2';by_cases hc3:s<m/\e<b
        ·obtain⟨d1,d2⟩:=hc3;have d1':mid<e:=by omega
         go_wp2_with fail;refine(HP6.out.1 d1 d2 _ HR2.out).mono ?_;rintro e' w3 ⟨rfl,hr3,hf3⟩;have HR3:=zH hr3;have HF3:=zH (HF2.out.trans hf3 (fun i hi _=>hi));clear hr3 hf3;go_wp2_with fail;go_end0;exact⟨rfl,HR3.out,HF3.out⟩
        ·have hr3:=HR2.out;rw[HP6.out.2 hc3]at hr3;have HR3:=zH hr3;clear hr3;have hc3':mid<e-> ¬e<b:=fun h h2=>hc3 ⟨by omega,h2⟩
         by_cases d1:mid<e
         ·have d2:=hc3' d1;clear hc3 hc3';go_wp2_with fail;go_end0;exact⟨rfl,HR3.out,HF2.out⟩
         ·clear hc3 hc3';go_wp2_with fail;go_end0;exact⟨rfl,HR3.out,HF2.out⟩
 ·go_enter Tryz.func102,Tryz.ntmps102;go_wp2_with fail;go_loopw [20,21] (fun vi vj wr=> ∃s r:Nat,vi= .int .i64 (s:Int)/\vj= .int .i64 (r:Int)/\a<=s/\s<=r/\r<=m/\RowL wr g (X++(A++(B++Y)))/\Fr [g] w wr/\(s=a\/ ∃(i j:Nat) (hi:i<A.length) (hj:j<B.length),i+1+a=s/\j+m+s=nn/\ltL B[j] A[i]=false)/\(r=m\/ ∃(i j:Nat) (hi:i<A.length) (hj:j<B.length),i+a=r/\j+m+r+1=nn/\ltL B[j] A[i]=true)) (fun vi vj _=>(intOf vj).toNat - (intOf vi).toNat)
  case atStart=>exact⟨a,m,rfl,rfl,Nat.le_refl _,by omega,Nat.le_refl _,HH.out,Fr.refl _ _,.inl rfl,.inl rfl⟩
  case round=>
   obtain⟨s,r,rfl,rfl,hs,hsr,hr,hrow,hfr,hlo,hhi⟩:=hrel;have HF:=zH hfr;have HLO:=zH hlo;have HHI:=zH hhi;clear hfr hlo hhi;by_cases hlt:s<r
   ·obtain⟨c,hh⟩: ∃c,(s+r) / 2=c:=⟨_,rfl⟩;have hh1:s<=c:=by omega
    have hh2:c<r:=by omega
    have hd:((s:Int)+(r:Int)) / 2=(c:Int):=by omega
    obtain⟨d,hdd⟩: ∃d,pp - c=d:=⟨_,rfl⟩;have hd2:(pp:Int) - (c:Int)=(d:Int):=by omega
    have hwd:IntKind.i64.wrap (d:Int)=(d:Int):=by rw[IntKind.wrap_i64];omega
    have hcn:c<n:=by omega
    have hdn:d<n:=by omega
    obtain⟨l1,l2,l3,l4,l5,l6⟩:=HL.out;have ht:c - a<A.length:=by omega
    have hu:d - m<B.length:=by omega
    have i1:d<(X++(A++(B++Y))).length:=by rw[l5];omega
    have i2:c<(X++(A++(B++Y))).length:=by rw[l5];omega
    have g1:(X++(A++(B++Y)))[d]=B[d - m]:=by
     have:=at_mid (X:=X++A) (B:=B) (Y:=Y) (t:=d - m) (i:=d) hu (by simp;omega) (by simp;simp at i1;omega);simpa using this
    have g2:(X++(A++(B++Y)))[c]=A[c - a]:=at_mid ht (by omega) i2;have hu1:ltL B[d - m] A[c - a]=true-> ∃(i j:Nat) (hi:i<A.length) (hj:j<B.length),i+a=c/\j+m+c+1=nn/\ltL B[j] A[i]=true:=fun hx=>⟨c - a,d - m,ht,hu,by omega,by omega,hx⟩
    have hu2:ltL B[d - m] A[c - a]=false-> ∃(i j:Nat) (hi:i<A.length) (hj:j<B.length),i+1+a=c+1/\j+m+(c+1)=nn/\ltL B[j] A[i]=false:=fun hx=>⟨c - a,d - m,ht,hu,by omega,by omega,hx⟩
    obtain⟨x,hx⟩: ∃x,A[c - a]=x:=⟨_,rfl⟩;obtain⟨y,hy⟩: ∃y,B[d - m]=y:=⟨_,rfl⟩;rw[hx]at g2 hu1 hu2;rw[hy]at g1 hu1 hu2;have HU1:=zH hu1;have HU2:=zH hu2;have c0: ∀n' os',(grow (wr.drewN n') os').cell? ⟨g,d*7,none⟩=some (.int .i64 y.v):=fun n' os'=>by have hc:=((hrow.grown n' os').cells (k:=d) i1).1;rw[g1]at hc;exact hc
    have c1: ∀n' os',(grow (wr.drewN n') os').cell? ⟨g,d*7+1,none⟩=some (.int .u8 y.kind):=fun n' os'=>by have hc:=((hrow.grown n' os').cells (k:=d) i1).2.1;rw[g1]at hc;exact hc
    have c2: ∀n' os',(grow (wr.drewN n') os').cell? ⟨g,d*7+2,none⟩=some (.string y.term):=fun n' os'=>by have hc:=((hrow.grown n' os').cells (k:=d) i1).2.2.1;rw[g1]at hc;exact hc
    have c3: ∀n' os',(grow (wr.drewN n') os').cell? ⟨g,d*7+3,none⟩=some (.int .i64 y.n):=fun n' os'=>by have hc:=((hrow.grown n' os').cells (k:=d) i1).2.2.2.1;rw[g1]at hc;exact hc
    have c4: ∀n' os',(grow (wr.drewN n') os').cell? ⟨g,d*7+4,none⟩=some (.slice y.A y.len y.cap):=fun n' os'=>by have hc:=((hrow.grown n' os').cells (k:=d) i1).2.2.2.2.1;rw[g1]at hc;exact hc
    have c5: ∀n' os',(grow (wr.drewN n') os').cell? ⟨g,d*7+5,none⟩=some (.int .i64 y.what):=fun n' os'=>by have hc:=((hrow.grown n' os').cells (k:=d) i1).2.2.2.2.2.1;rw[g1]at hc;exact hc
    have c6: ∀n' os',(grow (wr.drewN n') os').cell? ⟨g,d*7+6,none⟩=some (.string y.text):=fun n' os'=>by have hc:=((hrow.grown n' os').cells (k:=d) i1).2.2.2.2.2.2.1;rw[g1]at hc;exact hc
    have d0: ∀n' os',(grow (wr.drewN n') os').cell? ⟨g,c*7,none⟩=some (.int .i64 x.v):=fun n' os'=>by have hc:=((hrow.grown n' os').cells (k:=c) i2).1;rw[g2]at hc;exact hc
    have d1: ∀n' os',(grow (wr.drewN n') os').cell? ⟨g,c*7+1,none⟩=some (.int .u8 x.kind):=fun n' os'=>by have hc:=((hrow.grown n' os').cells (k:=c) i2).2.1;rw[g2]at hc;exact hc
    have d2: ∀n' os',(grow (wr.drewN n') os').cell? ⟨g,c*7+2,none⟩=some (.string x.term):=fun n' os'=>by have hc:=((hrow.grown n' os').cells (k:=c) i2).2.2.1;rw[g2]at hc;exact hc
    have d3: ∀n' os',(grow (wr.drewN n') os').cell? ⟨g,c*7+3,none⟩=some (.int .i64 x.n):=fun n' os'=>by have hc:=((hrow.grown n' os').cells (k:=c) i2).2.2.2.1;rw[g2]at hc;exact hc
    have d4: ∀n' os',(grow (wr.drewN n') os').cell? ⟨g,c*7+4,none⟩=some (.slice x.A x.len x.cap):=fun n' os'=>by have hc:=((hrow.grown n' os').cells (k:=c) i2).2.2.2.2.1;rw[g2]at hc;exact hc
    have d5: ∀n' os',(grow (wr.drewN n') os').cell? ⟨g,c*7+5,none⟩=some (.int .i64 x.what):=fun n' os'=>by have hc:=((hrow.grown n' os').cells (k:=c) i2).2.2.2.2.2.1;rw[g2]at hc;exact hc
    have d6: ∀n' os',(grow (wr.drewN n') os').cell? ⟨g,c*7+6,none⟩=some (.string x.text):=fun n' os'=>by have hc:=((hrow.grown n' os').cells (k:=c) i2).2.2.2.2.2.2.1;rw[g2]at hc;exact hc
    have hcg: ∀n' os',Calls Tryz.prog 70 #[.agg #[.int .i64 y.v,.int .u8 y.kind,.string y.term,.int .i64 y.n,.slice y.A y.len y.cap,.int .i64 y.what,.string y.text],.agg #[.int .i64 x.v,.int .u8 x.kind,.string x.term,.int .i64 x.n,.slice x.A x.len x.cap,.int .i64 x.what,.string x.text]] (grow (wr.drewN n') os') fun e w'=>e= .returned (.int .i64 (cfL y x))/\ ∃q os'',w'=grow ((grow (wr.drewN n') os').drewN q) os'':=fun n' os'=>cmpLine_any y x _
    have HR:=zH hrow;clear hrow i1 i2 g1 g2 hu1 hu2 hx hy hh hdd ht hu l1 l2 l3 l4 l5 l6;by_cases hlv:cfL y x<0
    ·go_wp2_with fail;go_quiet_grown (first|(go_at_call 70;refine Calls.grown_of (hcg _ _))|(go_at_fn 70;refine Calls.grown_of (hcg _ _)));go_wp2_with fail;go_roundw
     case rel=>exact⟨s,c,rfl,rfl,hs,hh1,by omega,HR.out.grown nq osq,fr_grown HF.out nq osq,HLO.out,.inr (HU1.out (ltL_t hlv))⟩
     case measure=>simp[intOf];omega
    ·go_wp2_with fail;go_quiet_grown (first|(go_at_call 70;refine Calls.grown_of (hcg _ _))|(go_at_fn 70;refine Calls.grown_of (hcg _ _)));go_wp2_with fail;go_roundw
     case rel=>exact⟨c+1,r,by go_num,rfl,by omega,by omega,hr,HR.out.grown nq osq,fr_grown HF.out nq osq,.inr (HU2.out (ltL_f (by omega))),HHI.out⟩
     case measure=>simp[intOf];omega
     all_goals (exfalso;rename_i hq;simp at hq;omega)
   ·have hsr2:s=r:=by omega
    subst hsr2;obtain⟨e,he⟩: ∃e,nn - s=e:=⟨_,rfl⟩;have hez:(nn:Int) - (s:Int)=(e:Int):=by omega
    obtain⟨l1,l2,l3,l4,l5,l6⟩:=HL.out;obtain⟨L1,L2,P1,P2,P3,P4,P6,P7⟩:=sym_parts X A B Y g cap n a m b mid s e N l1 l2 l3 l5 hn l6 (by omega) (by omega) (by omega) (by omega) (by omega) (by omega) (by omega) HUA.out HUB.out IHH.out (sym_split ltL_weak A B (s - a) (e - m) HUA.out HUB.out (by omega) (by omega)
     (fun h h'=>by
      rcases HHI.out with h0|⟨i,j,hi,hj,q1,q2,q3⟩
      ·exfalso;omega
      ·obtain rfl:i=s - a:=by omega
       obtain rfl:j=e - m - 1:=by omega
       exact q3)
     (fun h h'=>by
      rcases HLO.out with h0|⟨i,j,hi,hj,q1,q2,q3⟩
      ·exfalso;omega
      ·obtain rfl:i=s - a - 1:=by omega
       obtain rfl:j=e - m:=by omega
       exact q3))
    rw[HRR.out]at P6 P7;have HP1:=zH (And.intro P1 P2);have HP3:=zH (And.intro P3 P4);have HP6:=zH (And.intro P6 P7);have HR:=zH hrow;have hes:s+e=nn:=by omega
    have he1:m<=e:=by omega
    have he2:e<=b:=by omega
    have hsm:s<=m:=by omega
    have has:a<=s:=by omega
    clear hrow hlt hsr P1 P2 P3 P4 P6 P7 he l1 l2 l3 l4 l5 l6 hs hr HLO HHI;by_cases hc1:s<m/\m<e
    ·obtain⟨d1,d2⟩:=hc1;go_wp2_with fail;refine(HP1.out.1 d1 d2 _ HR.out).mono ?_;rintro e' w1 ⟨rfl,hr1,hf1⟩;have HR1:=zH hr1;have HF1:=zH (HF.out.trans hf1 (fun i hi _=>hi));clear hr1 hf1 d1 d2;by_cases hc2:a<s/\m<e
     ·obtain⟨d1,d2⟩:=hc2;have d2':s<mid:=by omega
      go_wp2_with fail;refine(HP3.out.1 d1 d2 _ HR1.out).mono ?_;rintro e' w2 ⟨rfl,hr2,hf2⟩;have HR2:=zH hr2;have HF2:=zH (HF1.out.trans hf2 (fun i hi _=>hi));clear hr2 hf2 d2';by_cases hc3:s<m/\e<b
      ·obtain⟨d1,d2⟩:=hc3;have d1':mid<e:=by omega
       go_wp2_with fail;refine(HP6.out.1 d1 d2 _ HR2.out).mono ?_;rintro e' w3 ⟨rfl,hr3,hf3⟩;have HR3:=zH hr3;have HF3:=zH (HF2.out.trans hf3 (fun i hi _=>hi));clear hr3 hf3;go_wp2_with fail;go_end0;exact⟨rfl,HR3.out,HF3.out⟩
      ·have hr3:=HR2.out;rw[HP6.out.2 hc3]at hr3;have HR3:=zH hr3;clear hr3;have hc3':mid<e-> ¬e<b:=fun h h2=>hc3 ⟨by omega,h2⟩
       by_cases d1:mid<e
       ·have d2:=hc3' d1;clear hc3 hc3';go_wp2_with fail;go_end0;exact⟨rfl,HR3.out,HF2.out⟩
       ·clear hc3 hc3';go_wp2_with fail;go_end0;exact⟨rfl,HR3.out,HF2.out⟩
     ·have hr2:=HR1.out;rw[HP3.out.2 hc2]at hr2;have HR2:=zH hr2;have HF2:=HF1;clear hr2;have hc2':a<s-> ¬s<mid:=fun h h2=>hc2 ⟨h,by omega⟩
      by_cases d1:a<s
      ·have d2:=hc2' d1;clear hc2 hc2';by_cases hc3:s<m/\e<b
       ·obtain⟨d1,d2⟩:=hc3;have d1':mid<e:=by omega
        go_wp2_with fail;refine(HP6.out.1 d1 d2 _ HR2.out).mono ?_;rintro e' w3 ⟨rfl,hr3,hf3⟩;have HR3:=zH hr3;have HF3:=zH (HF2.out.trans hf3 (fun i hi _=>hi));clear hr3 hf3;go_wp2_with fail;go_end0;exact⟨rfl,HR3.out,HF3.out⟩
       ·have hr3:=HR2.out;rw[HP6.out.2 hc3]at hr3;have HR3:=zH hr3;clear hr3;have hc3':mid<e-> ¬e<b:=fun h h2=>hc3 ⟨by omega,h2⟩
        by_cases d1:mid<e
        ·have d2:=hc3' d1;clear hc3 hc3';go_wp2_with fail;go_end0;exact⟨rfl,HR3.out,HF2.out⟩
        ·clear hc3 hc3';go_wp2_with fail;go_end0;exact⟨rfl,HR3.out,HF2.out⟩
      ·clear hc2 hc2';by_cases hc3:s<m/\e<b
       ·obtain⟨d1,d2⟩:=hc3;have d1':mid<e:=by omega
        go_wp2_with fail;refine(HP6.out.1 d1 d2 _ HR2.out).mono ?_;rintro e' w3 ⟨rfl,hr3,hf3⟩;have HR3:=zH hr3;have HF3:=zH (HF2.out.trans hf3 (fun i hi _=>hi));clear hr3 hf3;go_wp2_with fail;go_end0;exact⟨rfl,HR3.out,HF3.out⟩
       ·have hr3:=HR2.out;rw[HP6.out.2 hc3]at hr3;have HR3:=zH hr3;clear hr3;have hc3':mid<e-> ¬e<b:=fun h h2=>hc3 ⟨by omega,h2⟩
        by_cases d1:mid<e
        ·have d2:=hc3' d1;clear hc3 hc3';go_wp2_with fail;go_end0;exact⟨rfl,HR3.out,HF2.out⟩
        ·clear hc3 hc3';go_wp2_with fail;go_end0;exact⟨rfl,HR3.out,HF2.out⟩
    ·have hr1:=HR.out;rw[HP1.out.2 hc1]at hr1;have HR1:=zH hr1;have HF1:=HF;clear hr1;have hc1':s<m-> ¬m<e:=fun h h2=>hc1 ⟨h,h2⟩
     by_cases d1:s<m
     ·have d2:=hc1' d1;clear hc1 hc1';by_cases hc2:a<s/\m<e
      ·obtain⟨d1,d2⟩:=hc2;have d2':s<mid:=by omega
       go_wp2_with fail;refine(HP3.out.1 d1 d2 _ HR1.out).mono ?_;rintro e' w2 ⟨rfl,hr2,hf2⟩;have HR2:=zH hr2;have HF2:=zH (HF1.out.trans hf2 (fun i hi _=>hi));clear hr2 hf2 d2';by_cases hc3:s<m/\e<b
       ·obtain⟨d1,d2⟩:=hc3;have d1':mid<e:=by omega
        go_wp2_with fail;refine(HP6.out.1 d1 d2 _ HR2.out).mono ?_;rintro e' w3 ⟨rfl,hr3,hf3⟩;have HR3:=zH hr3;have HF3:=zH (HF2.out.trans hf3 (fun i hi _=>hi));clear hr3 hf3;go_wp2_with fail;go_end0;exact⟨rfl,HR3.out,HF3.out⟩
       ·have hr3:=HR2.out;rw[HP6.out.2 hc3]at hr3;have HR3:=zH hr3;clear hr3;have hc3':mid<e-> ¬e<b:=fun h h2=>hc3 ⟨by omega,h2⟩
        by_cases d1:mid<e
        ·have d2:=hc3' d1;clear hc3 hc3';go_wp2_with fail;go_end0;exact⟨rfl,HR3.out,HF2.out⟩
        ·clear hc3 hc3';go_wp2_with fail;go_end0;exact⟨rfl,HR3.out,HF2.out⟩
      ·have hr2:=HR1.out;rw[HP3.out.2 hc2]at hr2;have HR2:=zH hr2;have HF2:=HF1;clear hr2;have hc2':a<s-> ¬s<mid:=fun h h2=>hc2 ⟨h,by omega⟩
       by_cases d1:a<s
       ·have d2:=hc2' d1;clear hc2 hc2';by_cases hc3:s<m/\e<b
        ·obtain⟨d1,d2⟩:=hc3;have d1':mid<e:=by omega
         go_wp2_with fail;refine(HP6.out.1 d1 d2 _ HR2.out).mono ?_;rintro e' w3 ⟨rfl,hr3,hf3⟩;have HR3:=zH hr3;have HF3:=zH (HF2.out.trans hf3 (fun i hi _=>hi));clear hr3 hf3;go_wp2_with fail;go_end0;exact⟨rfl,HR3.out,HF3.out⟩
        ·have hr3:=HR2.out;rw[HP6.out.2 hc3]at hr3;have HR3:=zH hr3;clear hr3;have hc3':mid<e-> ¬e<b:=fun h h2=>hc3 ⟨by omega,h2⟩
         by_cases d1:mid<e
         ·have d2:=hc3' d1;clear hc3 hc3';go_wp2_with fail;go_end0;exact⟨rfl,HR3.out,HF2.out⟩
         ·clear hc3 hc3';go_wp2_with fail;go_end0;exact⟨rfl,HR3.out,HF2.out⟩
       ·clear hc2 hc2';by_cases hc3:s<m/\e<b
        ·obtain⟨d1,d2⟩:=hc3;have d1':mid<e:=by omega
         go_wp2_with fail;refine(HP6.out.1 d1 d2 _ HR2.out).mono ?_;rintro e' w3 ⟨rfl,hr3,hf3⟩;have HR3:=zH hr3;have HF3:=zH (HF2.out.trans hf3 (fun i hi _=>hi));clear hr3 hf3;go_wp2_with fail;go_end0;exact⟨rfl,HR3.out,HF3.out⟩
        ·have hr3:=HR2.out;rw[HP6.out.2 hc3]at hr3;have HR3:=zH hr3;clear hr3;have hc3':mid<e-> ¬e<b:=fun h h2=>hc3 ⟨by omega,h2⟩
         by_cases d1:mid<e
         ·have d2:=hc3' d1;clear hc3 hc3';go_wp2_with fail;go_end0;exact⟨rfl,HR3.out,HF2.out⟩
         ·clear hc3 hc3';go_wp2_with fail;go_end0;exact⟨rfl,HR3.out,HF2.out⟩
     ·clear hc1 hc1';by_cases hc2:a<s/\m<e
      ·obtain⟨d1,d2⟩:=hc2;have d2':s<mid:=by omega
       go_wp2_with fail;refine(HP3.out.1 d1 d2 _ HR1.out).mono ?_;rintro e' w2 ⟨rfl,hr2,hf2⟩;have HR2:=zH hr2;have HF2:=zH (HF1.out.trans hf2 (fun i hi _=>hi));clear hr2 hf2 d2';by_cases hc3:s<m/\e<b
       ·obtain⟨d1,d2⟩:=hc3;have d1':mid<e:=by omega
        go_wp2_with fail;refine(HP6.out.1 d1 d2 _ HR2.out).mono ?_;rintro e' w3 ⟨rfl,hr3,hf3⟩;have HR3:=zH hr3;have HF3:=zH (HF2.out.trans hf3 (fun i hi _=>hi));clear hr3 hf3;go_wp2_with fail;go_end0;exact⟨rfl,HR3.out,HF3.out⟩
       ·have hr3:=HR2.out;rw[HP6.out.2 hc3]at hr3;have HR3:=zH hr3;clear hr3;have hc3':mid<e-> ¬e<b:=fun h h2=>hc3 ⟨by omega,h2⟩
        by_cases d1:mid<e
        ·have d2:=hc3' d1;clear hc3 hc3';go_wp2_with fail;go_end0;exact⟨rfl,HR3.out,HF2.out⟩
        ·clear hc3 hc3';go_wp2_with fail;go_end0;exact⟨rfl,HR3.out,HF2.out⟩
      ·have hr2:=HR1.out;rw[HP3.out.2 hc2]at hr2;have HR2:=zH hr2;have HF2:=HF1;clear hr2;have hc2':a<s-> ¬s<mid:=fun h h2=>hc2 ⟨h,by omega⟩
       by_cases d1:a<s
       ·have d2:=hc2' d1;clear hc2 hc2';by_cases hc3:s<m/\e<b
        ·obtain⟨d1,d2⟩:=hc3;have d1':mid<e:=by omega
         go_wp2_with fail;refine(HP6.out.1 d1 d2 _ HR2.out).mono ?_;rintro e' w3 ⟨rfl,hr3,hf3⟩;have HR3:=zH hr3;have HF3:=zH (HF2.out.trans hf3 (fun i hi _=>hi));clear hr3 hf3;go_wp2_with fail;go_end0;exact⟨rfl,HR3.out,HF3.out⟩
        ·have hr3:=HR2.out;rw[HP6.out.2 hc3]at hr3;have HR3:=zH hr3;clear hr3;have hc3':mid<e-> ¬e<b:=fun h h2=>hc3 ⟨by omega,h2⟩
         by_cases d1:mid<e
         ·have d2:=hc3' d1;clear hc3 hc3';go_wp2_with fail;go_end0;exact⟨rfl,HR3.out,HF2.out⟩
         ·clear hc3 hc3';go_wp2_with fail;go_end0;exact⟨rfl,HR3.out,HF2.out⟩
       ·clear hc2 hc2';by_cases hc3:s<m/\e<b
        ·obtain⟨d1,d2⟩:=hc3;have d1':mid<e:=by omega
         go_wp2_with fail;refine(HP6.out.1 d1 d2 _ HR2.out).mono ?_;rintro e' w3 ⟨rfl,hr3,hf3⟩;have HR3:=zH hr3;have HF3:=zH (HF2.out.trans hf3 (fun i hi _=>hi));clear hr3 hf3;go_wp2_with fail;go_end0;exact⟨rfl,HR3.out,HF3.out⟩
        ·have hr3:=HR2.out;rw[HP6.out.2 hc3]at hr3;have HR3:=zH hr3;clear hr3;have hc3':mid<e-> ¬e<b:=fun h h2=>hc3 ⟨by omega,h2⟩
         by_cases d1:mid<e
         ·have d2:=hc3' d1;clear hc3 hc3';go_wp2_with fail;go_end0;exact⟨rfl,HR3.out,HF2.out⟩
         ·clear hc3 hc3';go_wp2_with fail;go_end0;exact⟨rfl,HR3.out,HF2.out⟩
theorem sym_any (g cap:Nat): ∀(N:Nat) (X A B Y:List LineR),A.length+B.length=N->SymP g cap X A B Y:=by
 intro N
 induction N using Nat.strongRecOn with
 |_ N ih=>
  intro X A B Y hN n ai mi bi w hnn ha hm hb h h1 h2 hA hB hn;by_cases hA1:A.length=1
  ·obtain⟨x,rfl⟩:=List.length_eq_one_iff.1 hA1;exact sym_one_left X B Y x g cap n ai mi bi w hnn ha hm hb h h1 h2 hA hB hn
  ·by_cases hB1:B.length=1
   ·obtain⟨y,rfl⟩:=List.length_eq_one_iff.1 hB1;exact sym_one_right X A Y y g cap (by omega) n ai mi bi w hnn ha hm hb h h1 h2 hA hB hn
   ·exact sym_general X A B Y g cap N (by omega) (by omega) hN (fun X A B Y hl=>ih _ hl X A B Y rfl) n ai mi bi w hnn ha hm hb h h1 h2 hA hB hn
end Go.Proofs.YtncniomiplnaaaaGreatDoor
