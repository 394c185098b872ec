/- Merging in place, in plain lists: what a symmetric merge wants. · Two runs of lines exchanged. · Two neighbouring runs of lines exchanged. · A symmetric merge of lines: one on a side. · A symmetric merge of lines: one on the right. -/
import Derived.Test.YtncniomiplnaaaaGreatDoorQ1
import Derived.Test.YtncniomiplnaaaaGreatDoorQ14
import Derived.Shelf.RegionOpenPlain
import Derived.Shelf.SlSortCmp.QuietGrown
set_option linter.all false
namespace Go.Proofs.YtncniomiplnaaaaGreatDoor
open Go.Sort
section
variable {α:Type} {lt:α->α->Bool}
abbrev fins (lt:α->α->Bool) (l S:List α):List α:=l.foldl (fun out x=>insL lt x out) S
theorem insL_comm (W:Weak lt) {x y:α} (h:lt y x=true): ∀l:List α,insL lt y (insL lt x l)=insL lt x (insL lt y l)
 |[]=>by
  have h2:=W.asym y x h;simp[insL,h,h2]
 |z::r=>by
  have h2:=W.asym y x h;cases hx:lt x z with
  |true=>
   have hy:lt y z=true:=W.neg y x z h (W.asym x z hx);simp[insL,hx,hy,h,h2]
  |false=>
   cases hy:lt y z with
   |true=>simp[insL,hx,hy,h2]
   |false=>simp[insL,hx,hy,insL_comm W h r]
theorem fins_past (W:Weak lt) {x:α}: ∀(l S:List α),(∀y∈l,lt y x=true\/lt x y=true)->fins lt l (insL lt x S)=insL lt x (fins lt l S)
 |[],_,_=>rfl
 |y::r,S,h=>by
  show fins lt r (insL lt y (insL lt x S))=insL lt x (fins lt r (insL lt y S));have e:insL lt y (insL lt x S)=insL lt x (insL lt y S):=by
   rcases h y (by simp)with h1|h1
   ·exact insL_comm W h1 S
   ·exact(insL_comm W h1 S).symm
  rw[e,fins_past W r _ fun z hz=>h z (List.mem_cons_of_mem _ hz)]
theorem fins_swap (W:Weak lt): ∀(A B S:List α),(∀x∈A,∀y∈B,lt y x=true)->fins lt (A++B) S=fins lt (B++A) S
 |[],B,S,_=>by simp
 |x::A,B,S,h=>by
  show fins lt (A++B) (insL lt x S)=_;rw[fins_swap W A B _ fun z hz=>h z (List.mem_cons_of_mem _ hz)];show List.foldl _ _ _=List.foldl _ _ _;rw[List.foldl_append,List.foldl_append];show fins lt A (fins lt B (insL lt x S))=fins lt A (insL lt x (fins lt B S));rw[fins_past W B S fun y hy=> .inl (h x (by simp) y hy)]
theorem insL_behind {x:α}: ∀(P R:List α),(∀p∈P,lt x p=false)->insL lt x (P++R)=P++insL lt x R
 |[],_,_=>rfl
 |p::P,R,h=>by
  show(if lt x p=true then x::p::(P++R)else p::insL lt x (P++R))=_;rw[h p (by simp),insL_behind P R fun z hz=>h z (List.mem_cons_of_mem _ hz),if_neg (by simp)];rfl
theorem fins_behind: ∀(Q P R:List α),(∀q∈Q,∀p∈P,lt q p=false)->fins lt Q (P++R)=P++fins lt Q R
 |[],_,_,_=>rfl
 |q::Q,P,R,h=>by
  show fins lt Q (insL lt q (P++R))=P++fins lt Q (insL lt q R);rw[insL_behind P R (h q (by simp)),fins_behind Q P _ fun z hz=>h z (List.mem_cons_of_mem _ hz)]
theorem ord_split (W:Weak lt) {A1 A2 B1 B2:List α} (h1: ∀x∈A2,∀y∈B1,lt y x=true) (h2: ∀p∈A1++B1,∀q∈A2++B2,lt q p=false):ordL lt (A1++A2++(B1++B2))=ordL lt (A1++B1)++ordL lt (A2++B2):=by
 have e:fins lt (A1++A2++(B1++B2)) []=fins lt (A1++B1++(A2++B2)) []:=by
  show List.foldl _ _ _=List.foldl _ _ _;rw[List.append_assoc,List.append_assoc,List.foldl_append,List.foldl_append (l':=B1++(A2++B2)),<-List.append_assoc A2,<-List.append_assoc B1,List.foldl_append,List.foldl_append (l:=B1++A2)];have:=fins_swap W A2 B1 (A1.foldl (fun out x=>insL lt x out) []) h1;rw[show(A2++B1).foldl (fun out x=>insL lt x out) (A1.foldl (fun out x=>insL lt x out) [])=(B1++A2).foldl (fun out x=>insL lt x out) (A1.foldl (fun out x=>insL lt x out) [])from this]
 show fins lt (A1++A2++(B1++B2)) []=fins lt (A1++B1) []++fins lt (A2++B2) [];rw[e];have e2:fins lt (A1++B1++(A2++B2)) []=fins lt (A2++B2) (fins lt (A1++B1) []++[]):=by
  rw[List.append_nil];exact List.foldl_append
 rw[e2,fins_behind (A2++B2) (fins lt (A1++B1) []) [] fun q hq p hp=>h2 p ((ordL_mem lt (A1++B1) p).1 hp) q hq]
theorem fins_id: ∀(l P:List α),Up lt (P++l)->fins lt l P=P++l
 |[],P,_=>by simp
 |x::r,P,h=>by
  show fins lt r (insL lt x P)=_;have hp: ∀p∈P,lt x p=false:=fun p hp=>(List.pairwise_append.1 h).2.2 p hp x (by simp)
  have:=insL_behind (lt:=lt) P [] hp;rw[List.append_nil]at this;rw[this];show fins lt r (P++[x])=_;rw[fins_id r (P++[x]) (by simpa using h)];simp
theorem ord_id {l:List α} (h:Up lt l):ordL lt l=l:=by
 have:=fins_id (lt:=lt) l [] (by simpa using h);rw[List.nil_append]at this;exact this
theorem ord_left (W:Weak lt) (A B:List α):ordL lt (ordL lt A++B)=ordL lt (A++B):=by
 show List.foldl _ _ _=List.foldl _ _ _;rw[List.foldl_append,List.foldl_append];have:ordL lt (ordL lt A)=ordL lt A:=ord_id (ordL_up W A);show fins lt B (ordL lt (ordL lt A))=fins lt B (ordL lt A);rw[this]
theorem fins_ins (W:Weak lt) (x:α): ∀(l S:List α),Up lt l->fins lt (insL lt x l) S=insL lt x (fins lt l S)
 |[],S,_=>rfl
 |y::r,S,h=>by
  have h2:=List.pairwise_cons.1 h;show fins lt (if lt x y=true then x::y::r else y::insL lt x r) S=_;cases hx:lt x y with
  |true=>
   rw[if_pos rfl];show fins lt (y::r) (insL lt x S)=insL lt x (fins lt (y::r) S);refine fins_past W (y::r) S fun z hz=> .inr ?_
   rcases List.mem_cons.1 hz with rfl|hz
   ·exact hx
   ·exact W.neg x y z hx (h2.1 z hz)
  |false=>
   rw[if_neg (by simp)];show fins lt (insL lt x r) (insL lt y S)=insL lt x (fins lt r (insL lt y S));exact fins_ins W x r _ h2.2
theorem fins_ord2 (W:Weak lt): ∀(B P S:List α),Up lt P->fins lt (fins lt B P) S=fins lt B (fins lt P S)
 |[],_,_,_=>rfl
 |x::r,P,S,h=>by
  show fins lt (fins lt r (insL lt x P)) S=fins lt r (insL lt x (fins lt P S));rw[fins_ord2 W r _ S (insL_up W x P h),fins_ins W x P S h]
theorem fins_ord (W:Weak lt) (B S:List α):fins lt (ordL lt B) S=fins lt B S:=fins_ord2 W B [] S List.Pairwise.nil
theorem ord_right (W:Weak lt) (A B:List α):ordL lt (A++ordL lt B)=ordL lt (A++B):=by
 show List.foldl _ _ _=List.foldl _ _ _;rw[List.foldl_append,List.foldl_append];exact fins_ord W B _
theorem ord_both (W:Weak lt) (A B:List α):ordL lt (ordL lt A++ordL lt B)=ordL lt (A++B):=by rw[ord_left W,ord_right W]
theorem one_left (W:Weak lt) (x:α) (B:List α) (k:Nat) (hB:Up lt B) (h1: ∀y∈B.take k,lt y x=true) (h2: ∀y∈B.drop k,lt y x=false):ordL lt ([x]++B)=B.take k++x::B.drop k:=by
 have hp:=List.pairwise_append.1 (show Up lt (B.take k++B.drop k) by rw[List.take_append_drop];exact hB);have e:=ord_split (A1:=[]) (A2:=[x]) (B1:=B.take k) (B2:=B.drop k) W (fun z hz y hy=>by rw[List.mem_singleton.1 hz];exact h1 y hy) (fun p hpm q hq=>by
  rw[List.nil_append]at hpm;rcases List.mem_append.1 hq with hq|hq
  ·rw[List.mem_singleton.1 hq];exact W.asym p x (h1 p hpm)
  ·exact hp.2.2 p hpm q hq)
 rw[List.take_append_drop,List.nil_append,List.nil_append]at e;rw[e,ord_id hp.1,ord_id (show Up lt ([x]++B.drop k)from List.pairwise_cons.2 ⟨h2,hp.2.1⟩)];rfl
theorem one_right (W:Weak lt) (A:List α) (y:α) (k:Nat) (hk:k<=A.length) (hA:Up lt A) (h1: ∀z∈A.take k,lt y z=false) (h2: ∀z∈A.drop k,lt y z=true):ordL lt (A++[y])=A.take k++y::A.drop k:=by
 have e:ordL lt (A++[y])=insL lt y (ordL lt A):=by simp[ordL,List.foldl_append]
 rw[e,ord_id hA]
 conv=>lhs;rw[<-List.take_append_drop k A,insL_behind _ _ h1]
 cases hd:A.drop k with
 |nil=>rfl
 |cons z r=>
  show _++(if lt y z=true then y::z::r else z::insL lt y r)=_;rw[h2 z (by rw[hd];simp),if_pos rfl]
theorem up_lt (W:Weak lt) {L:List α} (h:Up lt L) {i j:Nat} (hj:j<L.length) (hij:i<=j) {x:α} (hx:lt L[j] x=true):lt (L[i]'(by omega)) x=true:=by
 rcases Nat.lt_or_eq_of_le hij with h1|h1
 ·have h2:lt L[j] (L[i]'(by omega))=false:=List.pairwise_iff_getElem.1 h i j (by omega) hj h1;cases h3:lt (L[i]'(by omega)) x with
  |true=>rfl
  |false=>rw[W.neg _ _ _ hx h3]at h2;cases h2
 ·subst h1;exact hx
theorem up_nlt (W:Weak lt) {L:List α} (h:Up lt L) {i j:Nat} (hj:j<L.length) (hij:i<=j) {x:α} (hx:lt (L[i]'(by omega)) x=false):lt L[j] x=false:=by
 cases h3:lt L[j] x with
 |false=>rfl
 |true=>rw[up_lt W h hj hij h3]at hx;cases hx
theorem up_gt (W:Weak lt) {L:List α} (h:Up lt L) {i j:Nat} (hj:j<L.length) (hij:i<=j) {y:α} (hx:lt y (L[i]'(by omega))=true):lt y L[j]=true:=by
 rcases Nat.lt_or_eq_of_le hij with h1|h1
 ·exact W.neg y _ _ hx (List.pairwise_iff_getElem.1 h i j (by omega) hj h1)
 ·subst h1;exact hx
theorem up_ngt (W:Weak lt) {L:List α} (h:Up lt L) {i j:Nat} (hj:j<L.length) (hij:i<=j) {y:α} (hx:lt y L[j]=false):lt y (L[i]'(by omega))=false:=by
 cases h3:lt y (L[i]'(by omega))with
 |false=>rfl
 |true=>rw[up_gt W h hj hij h3]at hx;cases hx
theorem sym_split (W:Weak lt) (A B:List α) (s e:Nat) (hA:Up lt A) (hB:Up lt B) (hs:s<=A.length) (he:e<=B.length)
 (h1: ∀(h:s<A.length) (h':0<e),lt (B[e - 1]'(by omega)) A[s]=true) (h2: ∀(h:0<s) (h':e<B.length),lt B[e] (A[s - 1]'(by omega))=false):
 ordL lt (A++B)=ordL lt (A.take s++B.take e)++ordL lt (A.drop s++B.drop e):=by
 have a1:=List.pairwise_append.1 (show Up lt (A.take s++A.drop s) by rw[List.take_append_drop];exact hA);have b1:=List.pairwise_append.1 (show Up lt (B.take e++B.drop e) by rw[List.take_append_drop];exact hB);have h3: ∀x∈A.drop s,∀y∈B.take e,lt y x=true:=fun x hx y hy=>by
  obtain⟨i,hi,rfl⟩:=List.getElem_of_mem hx;obtain⟨j,hj,rfl⟩:=List.getElem_of_mem hy;rw[List.length_drop]at hi;rw[List.length_take]at hj;rw[List.getElem_drop,List.getElem_take];exact up_lt W hB (j:=e - 1) (by omega) (by omega) (up_gt W hA (i:=s) (by omega) (by omega) (h1 (by omega) (by omega)))
 have h4: ∀x∈A.take s,∀y∈B.drop e,lt y x=false:=fun x hx y hy=>by
  obtain⟨i,hi,rfl⟩:=List.getElem_of_mem hx;obtain⟨j,hj,rfl⟩:=List.getElem_of_mem hy;rw[List.length_take]at hi;rw[List.length_drop]at hj;rw[List.getElem_take,List.getElem_drop];exact up_nlt W hB (i:=e) (by omega) (by omega) (up_ngt W hA (j:=s - 1) (by omega) (by omega) (h2 (by omega) (by omega)))
 have:=ord_split (A1:=A.take s) (A2:=A.drop s) (B1:=B.take e) (B2:=B.drop e) W h3 (fun p hp q hq=>by
  rcases List.mem_append.1 hp with hp|hp<;>rcases List.mem_append.1 hq with hq|hq
  ·exact a1.2.2 p hp q hq
  ·exact h4 p hp q hq
  ·exact W.asym p q (h3 q hq p hp)
  ·exact b1.2.2 p hp q hq)
 rw[List.take_append_drop,List.take_append_drop]at this;exact this
inductive Blk (lt:α->α->Bool) (bs:Nat):List α->List α->Prop
 |last (l:List α):l.length<=bs->Blk lt bs l (ordL lt l)
 |more (c l L:List α):c.length=bs->Blk lt bs l L->Blk lt bs (c++l) (ordL lt c++L)
theorem Blk.len {bs:Nat} {l L:List α} (h:Blk lt bs l L):L.length=l.length:=by
 induction h with
 |last l _=>exact ordL_len lt l
 |more c l L _ _ ih=>rw[List.length_append,List.length_append,ordL_len,ih]
theorem Blk.small {bs:Nat} {l L:List α} (h:Blk lt bs l L) (hl:l.length<=bs):L=ordL lt l:=by
 cases h with
 |last _ _=>rfl
 |more c l L hc hb=>
  have h0:l=[]:=by
   rw[List.length_append]at hl;exact List.eq_nil_of_length_eq_zero (by omega)
  subst h0;have h1:L=[]:=List.eq_nil_of_length_eq_zero (by rw[hb.len];rfl);subst h1;simp
theorem Blk.cut {bs:Nat} {l L:List α} (h:Blk lt bs l L) (hl:bs<=l.length): ∃c r R,l=c++r/\L=ordL lt c++R/\c.length=bs/\Blk lt bs r R:=by
 cases h with
 |last l h1=>exact⟨l,[],[],by simp,by simp,by omega,by simpa [ordL]using Blk.last (lt:=lt) [] (by simp)⟩
 |more c l L hc hb=>exact⟨c,l,L,rfl,rfl,hc,hb⟩
end
open Go.RowKit Go.Shelf Go.Sort
def setA (cur:Array Value):Nat->List Value->Array Value
 |_,[]=>cur
 |o,v::r=>setA (cur.setIfInBounds o v) (o+1) r
theorem setA_get: ∀(vs:List Value) (cur:Array Value) (o j:Nat),(setA cur o vs)[j]? =if o<=j/\j<o+vs.length/\j<cur.size then vs[j - o]? else cur[j]?
 |[],cur,o,j=>by
  rw[if_neg (by simp;omega)];rfl
 |v::r,cur,o,j=>by
  show(setA (cur.setIfInBounds o v) (o+1) r)[j]? =_;rw[setA_get r _ (o+1) j,Array.size_setIfInBounds,List.length_cons];by_cases hj:j=o
  ·subst hj;rw[if_neg (by omega)];by_cases hs:j<cur.size
   ·rw[if_pos ⟨Nat.le_refl _,by omega,hs⟩,Nat.sub_self,Array.getElem?_setIfInBounds,if_pos rfl,if_pos hs];rfl
   ·rw[if_neg (by omega),Array.getElem?_setIfInBounds,if_pos rfl,if_neg hs,Array.getElem?_eq_none (by omega)]
  ·by_cases h1:o+1<=j/\j<o+1+r.length/\j<cur.size
   ·rw[if_pos h1,if_pos ⟨by omega,by omega,h1.2.2⟩,show j - o=(j - (o+1))+1 by omega];rfl
   ·rw[if_neg h1,if_neg (by omega),Array.getElem?_setIfInBounds,if_neg (fun e=>hj e.symm)]
theorem setCells_cells {g:Nat} {T:TypeId}: ∀(vs:List Value) (w:World) (cur:Array Value) (o:Nat),w.heap[g]? =some (.cells cur T (0,0))->(w.setCells g o vs).heap[g]? =some (.cells (setA cur o vs) T (0,0))
 |[],_,_,_,h=>h
 |v::r,w,cur,o,h=>setCells_cells r _ _ (o+1) (setCell_cells h o v)
theorem setCells_fr (g:Nat): ∀(vs:List Value) (w:World) (o:Nat),Fr [g] w (w.setCells g o vs)
 |[],w,_=>Fr.refl _ _
 |v::r,w,o=>(Fr.put0 w g o v (List.mem_singleton.2 rfl)).trans (setCells_fr g r _ (o+1)) (fun i hi _=>hi)
theorem RowL.line {w:World} {g:Nat} {ls:List LineR} (h:RowL w g ls) {k:Nat} (hk:k<ls.length) (z:LineR):RowL (w.setCells g (k*7) z.enc) g (ls.set k z):=by
 obtain⟨cur,h1,h2⟩:=h;refine⟨_,setCells_cells z.enc w cur (k*7) h1,fun j u hj=> ?_⟩;have hj2:j<ls.length*7:=by
  have:=(List.getElem?_eq_some_iff.1 hj).1;rw[flatE_len,List.length_set]at this;exact this
 have hjs:(flatE (ls.set k z))[j / 7*7+j%7]? =((ls.set k z)[j / 7]'(by rw[List.length_set];omega)).enc[j%7]? :=flatE_get _ _ (by rw[List.length_set];omega) _ (by omega);rw[show j / 7*7+j%7=j by omega,hj]at hjs;have hold:(flatE ls)[j / 7*7+j%7]? =(ls[j / 7]'(by omega)).enc[j%7]? :=flatE_get _ _ (by omega) _ (by omega);rw[show j / 7*7+j%7=j by omega]at hold;have hin:j<cur.size:=by
  have h6:(flatE ls)[j]? =some ((flatE ls)[j]'(by rw[flatE_len];exact hj2)):=List.getElem?_eq_getElem _;exact(Array.getElem?_eq_some_iff.1 (h2 j _ h6)).1
 rw[setA_get,LineR.enc_len];by_cases he:k=j / 7
 ·subst he;rw[if_pos ⟨by omega,by omega,hin⟩,show j - j / 7*7=j%7 by omega];simp only[List.getElem_set_self]at hjs;exact hjs.symm
 ·rw[if_neg (by omega)];refine h2 j u ?_;rw[hold,hjs,List.getElem_set_ne he]
theorem RowL.drew {w:World} {g:Nat} {ls:List LineR} (h:RowL w g ls):RowL w.drew g ls:=by
 obtain⟨cur,h1,h2⟩:=h;exact⟨cur,h1,h2⟩
def swapW (w:World) (g i j:Nat) (x y:LineR):World:=((w.setCells g (i*7) y.enc).setCells g (j*7) x.enc).drew
theorem RowL.swap {w:World} {g:Nat} {P1 P2 P3:List LineR} {x y:LineR} (h:RowL w g (P1++x::(P2++y::P3))) {i j:Nat} (hi:P1.length=i) (hj:i+1+P2.length=j):RowL (swapW w g i j x y) g (P1++y::(P2++x::P3))/\Fr [g] w (swapW w g i j x y):=by
 subst hi;subst hj;have h1:=h.line (k:=P1.length) (by simp) y;rw[List.set_append_right _ _ (Nat.le_refl _),Nat.sub_self,List.set_cons_zero]at h1;have h2:=h1.line (k:=P1.length+1+P2.length) (by simp;omega) x;have e:P1.length+1+P2.length=(P1++y::P2).length:=by simp;omega
 rw[show P1++y::(P2++y::P3)=(P1++y::P2)++y::P3 by simp,List.set_append_right _ _ (by rw[e];exact Nat.le_refl _),e,Nat.sub_self,List.set_cons_zero,<-e]at h2;simp only[List.append_assoc,List.cons_append]at h2;unfold swapW;refine⟨RowL.drew h2, ?_⟩
 ·have h4:=(setCells_fr g y.enc w (P1.length*7)).trans (setCells_fr g x.enc (w.setCells g (P1.length*7) y.enc) ((P1.length+1+P2.length)*7)) (fun i hi _=>hi);exact h4.drewN 1
set_option maxRecDepth 100000 in
set_option maxHeartbeats 16000000 in
theorem swapRange_any (X A M B Y:List LineR) (g cap:Nat) (cmp:Value) (w:World) (h:RowL w g (X++A++M++B++Y)) (hab:A.length=B.length) (hn:(X++A++M++B++Y).length<=1000):
 Calls Tryz.prog 120 #[.slice (some ⟨g,0,none⟩) (X++A++M++B++Y).length cap,.int .i64 X.length,.int .i64 (X.length+A.length+M.length:Nat),.int .i64 A.length,cmp] w fun e w'=>e= .returned (.tuple #[])/\RowL w' g (X++B++M++A++Y)/\Fr [g] w w':=by
 obtain⟨n,hnn⟩: ∃n,(X++A++M++B++Y).length=n:=⟨_,rfl⟩;have hnl:n=X.length+A.length+M.length+B.length+Y.length:=by rw[<-hnn];simp;omega
 obtain⟨a,ha⟩: ∃a,X.length=a:=⟨_,rfl⟩;obtain⟨k,hk⟩: ∃k,A.length=k:=⟨_,rfl⟩;obtain⟨b,hb⟩: ∃b,X.length+A.length+M.length=b:=⟨_,rfl⟩;rw[hb,ha,hk,hnn];rw[hnn]at hn;have HH:=zH h;have HL:=zH (show X.length=a/\A.length=k/\B.length=k/\a+k+M.length=b/\n=b+k+Y.length from⟨ha,hk,by omega,by omega,by omega⟩);have hbk:b+k<=n:=by omega
 have hak:a+k<=b:=by omega
 clear h hab ha hk hb hnn hnl;go_enter Tryz.func120,Tryz.ntmps120;go_wp2_with fail;go_loopw [10] (fun i wr=> ∃m:Nat,m<=k/\i= .int .i64 (m:Int)/\RowL wr g (X++(B.take m++A.drop m)++M++(A.take m++B.drop m)++Y)/\Fr [g] w wr) (fun i _=>k - (intOf i).toNat)
 case atStart=>exact⟨0,Nat.zero_le _,rfl,by simpa using HH.out,Fr.refl _ _⟩
 case round=>
  obtain⟨m,hm,rfl,hrow,hfr⟩:=hrel;obtain⟨l1,l2,l3,l4,l5⟩:=HL.out;by_cases hlt:m<k
  ·have hA:A.drop m=A[m]'(by omega)::A.drop (m+1):=List.drop_eq_getElem_cons (by omega);have hB:B.drop m=B[m]'(by omega)::B.drop (m+1):=List.drop_eq_getElem_cons (by omega);have tA:A.take (m+1)=A.take m++[A[m]'(by omega)]:=List.take_succ_eq_append_getElem (by omega);have tB:B.take (m+1)=B.take m++[B[m]'(by omega)]:=List.take_succ_eq_append_getElem (by omega);obtain⟨x,hx⟩: ∃x,A[m]'(by omega)=x:=⟨_,rfl⟩;obtain⟨y,hy⟩: ∃y,B[m]'(by omega)=y:=⟨_,rfl⟩;rw[hx]at hA tA;rw[hy]at hB tB;obtain⟨P1,hP1⟩: ∃P1,X++B.take m=P1:=⟨_,rfl⟩;obtain⟨P2,hP2⟩: ∃P2,A.drop (m+1)++M++A.take m=P2:=⟨_,rfl⟩;obtain⟨P3,hP3⟩: ∃P3,B.drop (m+1)++Y=P3:=⟨_,rfl⟩;have e1:X++(B.take m++A.drop m)++M++(A.take m++B.drop m)++Y=P1++x::(P2++y::P3):=by rw[hA,hB,<-hP1,<-hP2,<-hP3];simp
   have e2:X++(B.take (m+1)++A.drop (m+1))++M++(A.take (m+1)++B.drop (m+1))++Y=P1++y::(P2++x::P3):=by rw[tA,tB,<-hP1,<-hP2,<-hP3];simp
   have p1:P1.length=a+m:=by rw[<-hP1];simp;omega
   have p2:a+m+1+P2.length=b+m:=by rw[<-hP2];simp;omega
   rw[e1]at hrow;have HR:=zH hrow;have HE:=zH e2;have HF:=zH hfr;have i1:a+m<(P1++x::(P2++y::P3)).length:=by simp;omega
   have i2:b+m<(P1++x::(P2++y::P3)).length:=by simp;omega
   obtain⟨c0,c1,c2,c3,c4,c5,c6,cf⟩:=hrow.cells i1;obtain⟨d0,d1,d2,d3,d4,d5,d6,df⟩:=hrow.cells i2;have g1:(P1++x::(P2++y::P3))[a+m]=x:=by
    rw[List.getElem_append_right (by omega)];simp[show a+m - P1.length=0 by omega]
   have g2:(P1++x::(P2++y::P3))[b+m]=y:=by
    rw[List.getElem_append_right (by omega)];simp only[show b+m - P1.length=P2.length+1 by omega,List.getElem_cons_succ];rw[List.getElem_append_right (by omega)];simp
   rw[g1]at c0 c1 c2 c3 c4 c5 c6;rw[g2]at d0 d1 d2 d3 d4 d5 d6;have HP:=zH (show P1.length=a+m/\a+m+1+P2.length=b+m from⟨p1,p2⟩);have wa:IntKind.i64.wrap ((a:Int)+(m:Int))=((a+m:Nat):Int):=by rw[IntKind.wrap_i64];omega
   have wb:IntKind.i64.wrap ((b:Int)+(m:Int))=((b+m:Nat):Int):=by rw[IntKind.wrap_i64];omega
   have na:(a:Int)+(m:Int)<(n:Int):=by omega
   have nb:(b:Int)+(m:Int)<(n:Int):=by omega
   clear hA hB tA tB hx hy hP1 hP2 hP3 e1 e2 p1 p2 hrow hfr i1 i2 g1 g2 l1 l2 l3 l4 l5;go_upto_region 3 with fail;have mixed:Tryz.prog.follows Departure.mixedOrders=true:=by kernel_rfl
   go_big_region_o;change Exit.inBlock _ _ _ _ (swapW wr g (a+m) (b+m) x y);obtain⟨s1,s2⟩:=HR.out.swap (i:=a+m) (j:=b+m) HP.out.1 HP.out.2;rw[<-HE.out]at s1;have hf2:=HF.out.trans s2 (fun i hi _=>hi);have S1:=zH s1;have S2:=zH hf2;clear s1 s2 hf2 c0 c1 c2 c3 c4 c5 c6 cf d0 d1 d2 d3 d4 d5 d6 df HR;generalize swapW wr g (a+m) (b+m) x y=W at S1 S2⊢;go_wp2_with fail;go_roundw
   case rel=>exact⟨m+1,by omega,by go_num,S1.out,S2.out⟩
   case measure=>simp[intOf];omega
  ·have hmk:m=k:=by omega
   subst hmk;rw[List.take_of_length_le (by omega),List.drop_of_length_le (by omega),List.take_of_length_le (by omega),List.drop_of_length_le (by omega),List.append_nil,List.append_nil]at hrow;have HR:=zH hrow;have HF:=zH hfr;clear hrow hfr l1 l2 l3 l4 l5;go_wp2_with fail;go_end0;exact⟨rfl,HR.out,HF.out⟩
open Go.RowKit Go.Shelf Go.Sort
theorem swapRange_i (X A M B Y:List LineR) (g cap n:Nat) (ai bi ki:Int) (cmp:Value) (w:World) (hnn:(X++A++M++B++Y).length=n) (ha:ai=(X.length:Int)) (hb:bi=((X.length+A.length+M.length:Nat):Int)) (hk:ki=(A.length:Int)) (h:RowL w g (X++A++M++B++Y)) (hab:A.length=B.length) (hn:n<=1000):
 Calls Tryz.prog 120 #[.slice (some ⟨g,0,none⟩) n cap,.int .i64 ai,.int .i64 bi,.int .i64 ki,cmp] w fun e w'=>e= .returned (.tuple #[])/\RowL w' g (X++B++M++A++Y)/\Fr [g] w w':=by
 subst hnn;subst ha;subst hb;subst hk;exact swapRange_any X A M B Y g cap cmp w h hab hn
set_option maxRecDepth 100000 in
set_option maxHeartbeats 1000000 in
theorem rotate_any (X A B Y:List LineR) (g cap n:Nat) (ai mi bi:Int) (cmp:Value) (w:World) (hnn:(X++A++B++Y).length=n) (ha:ai=(X.length:Int)) (hm:mi=((X.length+A.length:Nat):Int)) (hb:bi=((X.length+A.length+B.length:Nat):Int)) (h:RowL w g (X++A++B++Y)) (h1:1<=A.length) (h2:1<=B.length) (hn:n<=1000):
 Calls Tryz.prog 113 #[.slice (some ⟨g,0,none⟩) n cap,.int .i64 ai,.int .i64 mi,.int .i64 bi,cmp] w fun e w'=>e= .returned (.tuple #[])/\RowL w' g (X++B++A++Y)/\Fr [g] w w':=by
 subst ha;subst hm;subst hb;obtain⟨a,ha⟩: ∃a,X.length=a:=⟨_,rfl⟩;obtain⟨p,hp⟩: ∃p,A.length=p:=⟨_,rfl⟩;obtain⟨q,hq⟩: ∃q,B.length=q:=⟨_,rfl⟩;obtain⟨m,hm⟩: ∃m,a+p=m:=⟨_,rfl⟩;obtain⟨b,hb⟩: ∃b,m+q=b:=⟨_,rfl⟩;rw[hp]at h1;rw[hq]at h2;rw[ha,hp,hq,hm,hb];have hbn:b<=n:=by
  rw[<-hnn];simp;omega
 have HS:=zH (show∃X' P Q Y':List LineR,P.length=p/\Q.length=q/\X'.length+p=m/\1<=p/\1<=q/\(X'++P++Q++Y').length=n/\X'++Q++P++Y'=X++B++A++Y/\RowL w g (X'++P++Q++Y')from⟨X,A,B,Y,hp,hq,by omega,h1,h2,hnn,rfl,h⟩);have s1:(m:Int) - (a:Int)=(p:Int):=by omega
 have s2:(b:Int) - (m:Int)=(q:Int):=by omega
 obtain⟨T,hT⟩: ∃T,X++B++A++Y=T:=⟨_,rfl⟩;rw[hT]at HS⊢;have ham:a<=m:=by omega
 have hmb:m<=b:=by omega
 clear h hnn hT ha hp hq hm hb h1 h2;have S1:=zH s1;have S2:=zH s2;clear s1 s2;go_enter Tryz.func113,Tryz.ntmps113;go_wp2_with fail;go_loopw [10,11] (fun vi vj wr=> ∃(i j:Nat) (X' P Q Y':List LineR),vi= .int .i64 (i:Int)/\vj= .int .i64 (j:Int)/\P.length=i/\Q.length=j/\X'.length+i=m/\1<=i/\1<=j/\(X'++P++Q++Y').length=n/\X'++Q++P++Y'=T/\RowL wr g (X'++P++Q++Y')/\Fr [g] w wr) (fun vi vj _=>(intOf vi).toNat+(intOf vj).toNat)
 case atStart=>
  obtain⟨X',P,Q,Y',a1,a2,a3,a4,a5,a6,a7,a8⟩:=HS.out;exact⟨p,q,X',P,Q,Y',by rw[<-S1.out],by rw[<-S2.out],a1,a2,a3,a4,a5,a6,a7,a8,Fr.refl _ _⟩
 case round=>
  obtain⟨i,j,X',P,Q,Y',rfl,rfl,hP,hQ,hX,hi,hj,hl,hT,hrow,hfr⟩:=hrel;have hln:n=X'.length+i+j+Y'.length:=by rw[<-hl];simp;omega
  have HT:=zH hT;have HL:=zH hl;have HF:=zH hfr;have hmn:m+j<=n:=by omega
  have HLN:=zH hln;clear hT hl hfr hln;rcases Nat.lt_trichotomy i j with hij|hij|hij
  · -- the left is shorter
   have hne:((i:Int) !=(j:Int))=true:=by
    simp only[bne_iff_ne,ne_eq,Int.natCast_inj];omega
   have hd:Q.take (j - i)++Q.drop (j - i)=Q:=List.take_append_drop _ _;have e1:X'++P++Q++Y'=X'++P++Q.take (j - i)++Q.drop (j - i)++Y':=by
    rw[List.append_assoc (X'++P) (Q.take (j - i)),hd]
   have hln:=HLN.out;have HC:=zH (fun cmp=>swapRange_i X' P (Q.take (j - i)) (Q.drop (j - i)) Y' g cap n ((m:Int) - (i:Int)) ((m:Int)+(j:Int) - (i:Int)) (i:Int) cmp wr (by rw[<-e1];exact HL.out) (by omega) (by rw[List.length_take];omega) (by omega) (by rw[<-e1];exact hrow) (by rw[List.length_drop];omega) hn);have HD:=zH (show(X'++Q.drop (j - i)++Q.take (j - i)++(P++Y')).length=n/\X'++Q.take (j - i)++Q.drop (j - i)++(P++Y')=T by
    refine⟨?_, ?_⟩
    ·simp only[List.length_append,List.length_take,List.length_drop];have:=HLN.out;omega
    ·rw[List.append_assoc X',hd,<-List.append_assoc];exact HT.out)
   have HQL:=zH (show(Q.drop (j - i)).length=i/\(Q.take (j - i)).length=j - i by rw[List.length_drop,List.length_take];omega);clear hrow e1 hd hln;go_wp2_with fail
   (with_reducible refine(HC.out _).mono ?_)
   rintro e w1 ⟨rfl,hr1,hf1⟩;have HR1:=zH hr1;have HF1:=zH (HF.out.trans hf1 (fun i hi _=>hi));clear hr1 hf1;go_wp2_with fail;go_roundw
   case rel=>exact⟨i,j - i,X',Q.drop (j - i),Q.take (j - i),P++Y',rfl,by congr 1;omega,HQL.out.1,HQL.out.2,hX,hi,by omega,HD.out.1,HD.out.2,by simpa using HR1.out,HF1.out⟩
   case measure=>simp[intOf];omega
  ·subst hij;have hne:((i:Int) !=(i:Int))=false:=by simp
   have hln:=HLN.out;have HC:=zH (fun cmp=>swapRange_i X' P [] Q Y' g cap n ((m:Int) - (i:Int)) (m:Int) (i:Int) cmp wr (by simpa using HL.out) (by omega) (by simp;omega) (by omega) (by simpa using hrow) (by omega) hn);clear hrow hln;go_wp2_with fail
   (with_reducible refine(HC.out _).mono ?_)
   rintro e w1 ⟨rfl,hr1,hf1⟩;have HR1:=zH hr1;have HF1:=zH (HF.out.trans hf1 (fun i hi _=>hi));clear hr1 hf1;go_wp2_with fail;go_end0;refine⟨rfl, ?_,HF1.out⟩;rw[<-HT.out];simpa using HR1.out
  ·have hne:((i:Int) !=(j:Int))=true:=by
    simp only[bne_iff_ne,ne_eq,Int.natCast_inj];omega
   have hd:P.take j++P.drop j=P:=List.take_append_drop _ _;have e1:X'++P++Q++Y'=X'++P.take j++P.drop j++Q++Y':=by
    rw[List.append_assoc X' (P.take j),hd]
   have hln:=HLN.out;have HC:=zH (fun cmp=>swapRange_i X' (P.take j) (P.drop j) Q Y' g cap n ((m:Int) - (i:Int)) (m:Int) (j:Int) cmp wr (by rw[<-e1];exact HL.out) (by omega) (by rw[List.length_take,List.length_drop];omega) (by rw[List.length_take];omega) (by rw[<-e1];exact hrow) (by rw[List.length_take];omega) hn);have HD:=zH (show(X'++Q++P.drop j++P.take j++Y').length=n/\X'++Q++P.take j++P.drop j++Y'=T by
    refine⟨?_, ?_⟩
    ·simp only[List.length_append,List.length_take,List.length_drop];have:=HLN.out;omega
    ·rw[List.append_assoc (X'++Q),hd];exact HT.out)
   have HQL:=zH (show(P.drop j).length=i - j/\(P.take j).length=j/\(X'++Q).length=X'.length+j by rw[List.length_drop,List.length_take,List.length_append];omega);clear hrow e1 hd hln;go_wp2_with fail
   (with_reducible refine(HC.out _).mono ?_)
   rintro e w1 ⟨rfl,hr1,hf1⟩;have HR1:=zH hr1;have HF1:=zH (HF.out.trans hf1 (fun i hi _=>hi));clear hr1 hf1;go_wp2_with fail;go_roundw
   case rel=>exact⟨i - j,j,X'++Q,P.drop j,P.take j,Y',by congr 1;omega,rfl,HQL.out.1,HQL.out.2.1,by rw[HQL.out.2.2];omega,by omega,hj,HD.out.1,HD.out.2,HR1.out,HF1.out⟩
   case measure=>simp[intOf];omega
open Go.RowKit Go.Shelf Go.Sort
theorem RowL.grown {w:World} {g:Nat} {ls:List LineR} (h:RowL w g ls) (n:Nat) (os:Array Obj):RowL (grow (w.drewN n) os) g ls:=by
 have hl:=h.lt;obtain⟨cur,h1,h2⟩:=h;refine⟨cur, ?_,h2⟩;show(w.heap++os)[g]? =_;rw[Array.getElem?_append_left hl];exact h1
theorem fr_grown {F:List Nat} {v w:World} (h:Fr F v w) (n:Nat) (os:Array Obj):Fr F v (grow (w.drewN n) os):=⟨h.os,h.tape,h.output,Nat.le_trans h.size (by show w.heap.size<=(w.heap++os).size;rw[Array.size_append];omega),fun i hi hn=>by
 show(w.heap++os)[i]? =_;rw[Array.getElem?_append_left (Nat.lt_of_lt_of_le hi h.size)];exact h.block i hi hn⟩
theorem ltL_cf (x y:LineR):ltL x y=decide (cfL x y<0):=by rw[<-ltOf_eq];rfl
theorem ltL_t {x y:LineR} (h:cfL x y<0):ltL x y=true:=by rw[ltL_cf];exact decide_eq_true h
theorem ltL_f {x y:LineR} (h: ¬cfL x y<0):ltL x y=false:=by rw[ltL_cf];exact decide_eq_false h
theorem at_mid {X B Y:List LineR} {t i:Nat} (ht:t<B.length) (hi:X.length+t=i) (h:i<(X++(B++Y)).length):(X++(B++Y))[i]=B[t]:=by
 subst hi;rw[List.getElem_append_right (by omega)];simp only[Nat.add_sub_cancel_left];rw[List.getElem_append_left ht]
theorem at_one {X Y:List LineR} {x:LineR} {i:Nat} (hi:X.length=i) (h:i<(X++x::Y).length):(X++x::Y)[i]=x:=by
 subst hi;rw[List.getElem_append_right (Nat.le_refl _)];simp
theorem RowL.swap2 {w:World} {g:Nat} {P1 P2 P3:List LineR} {x y:LineR} (h:RowL w g (P1++x::(P2++y::P3))) {i j:Nat} (hi:P1.length=i) (hj:i+1+P2.length=j):RowL (swapW w g j i y x) g (P1++y::(P2++x::P3))/\Fr [g] w (swapW w g j i y x):=by
 subst hi;subst hj;have e:P1.length+1+P2.length=(P1++x::P2).length:=by simp;omega
 have h1:=h.line (k:=P1.length+1+P2.length) (by simp;omega) x;rw[show P1++x::(P2++y::P3)=(P1++x::P2)++y::P3 by simp,List.set_append_right _ _ (by rw[e];exact Nat.le_refl _),e,Nat.sub_self,List.set_cons_zero,<-e]at h1;simp only[List.append_assoc,List.cons_append]at h1;have h2:=h1.line (k:=P1.length) (by simp) y;rw[List.set_append_right _ _ (Nat.le_refl _),Nat.sub_self,List.set_cons_zero]at h2;unfold swapW;refine⟨RowL.drew h2, ?_⟩;have h4:=(setCells_fr g x.enc w ((P1.length+1+P2.length)*7)).trans (setCells_fr g y.enc (w.setCells g ((P1.length+1+P2.length)*7) x.enc) (P1.length*7)) (fun i hi _=>hi);exact h4.drewN 1
def SymP (g cap:Nat) (X A B Y:List LineR):Prop:= ∀(n:Nat) (ai mi bi:Int) (w:World),(X++A++B++Y).length=n->ai=(X.length:Int)->mi=((X.length+A.length:Nat):Int)->bi=((X.length+A.length+B.length:Nat):Int)->RowL w g (X++A++B++Y)->1<=A.length->1<=B.length->Up ltL A->Up ltL B->n<=1000->
 Calls Tryz.prog 102 #[.slice (some ⟨g,0,none⟩) n cap,.int .i64 ai,.int .i64 mi,.int .i64 bi,(.func (.func 70) #[] #[])] w fun e w'=>e= .returned (.tuple #[])/\RowL w' g (X++ordL ltL (A++B)++Y)/\Fr [g] w w'
set_option maxRecDepth 100000 in
set_option maxHeartbeats 4000000 in
theorem sym_one_left (X B Y:List LineR) (x:LineR) (g cap:Nat):SymP g cap X [x] B Y:=by
 intro n ai mi bi w hnn ha hm hb h _ hB1 _ hB hn;subst ha;subst hm;subst hb;simp only[List.append_assoc,List.singleton_append]at hnn h;obtain⟨a,ha⟩: ∃a,X.length=a:=⟨_,rfl⟩;obtain⟨q,hq⟩: ∃q,B.length=q:=⟨_,rfl⟩;obtain⟨m,hm⟩: ∃m,a+1=m:=⟨_,rfl⟩;obtain⟨b,hb⟩: ∃b,m+q=b:=⟨_,rfl⟩;rw[ha,hq,show([x]:List LineR).length=1 from rfl,hm,hb];have hln:n=b+Y.length:=by rw[<-hnn];simp;omega
 have hbn:b<=n:=by omega
 have HH:=zH h;have HL:=zH (show X.length=a/\B.length=q/\a+1=m/\m+q=b/\(X++x::(B++Y)).length=n from⟨ha,hq,hm,hb,hnn⟩);have HU:=zH hB;obtain⟨R,hR⟩: ∃R,X++ordL ltL ([x]++B)++Y=R:=⟨_,rfl⟩;rw[hR];have HRR:=zH hR;clear hR;have hone:((m:Int) - (a:Int)==1)=true:=by simp;omega
 have ham:a<m:=by omega
 have hma:m<=a+1:=by omega
 have hmb:m<=b:=by omega
 clear h hB ha hq hm hb hnn hln hB1;have mixed:Tryz.prog.follows Departure.mixedOrders=true:=by kernel_rfl
 go_enter Tryz.func102,Tryz.ntmps102;go_wp2_with fail;go_loopw [10,11] (fun vi vj wr=> ∃i j:Nat,vi= .int .i64 (i:Int)/\vj= .int .i64 (j:Int)/\m<=i/\i<=j/\j<=b/\RowL wr g (X++x::(B++Y))/\Fr [g] w wr/\(∀t (ht:t<B.length),t<i - m->ltL B[t] x=true)/\(∀t (ht:t<B.length),j - m<=t->ltL B[t] x=false)) (fun vi vj _=>(intOf vj).toNat - (intOf vi).toNat)
 case atStart=>
  obtain⟨l1,l2,l3,l4,l5⟩:=HL.out;exact⟨m,b,rfl,rfl,Nat.le_refl _,by omega,Nat.le_refl _,HH.out,Fr.refl _ _,fun t ht h=>by omega,fun t ht h=>by omega⟩
 case round=>
  obtain⟨i,j,rfl,rfl,hi,hij,hj,hrow,hfr,hlo,hhi⟩:=hrel;have HF:=zH hfr;have HLO:=zH hlo;have HHI:=zH hhi;clear hfr hlo hhi;by_cases hlt:i<j
  ·obtain⟨h,hh⟩: ∃h,(i+j) / 2=h:=⟨_,rfl⟩;have hh1:i<=h:=by omega
   have hh2:h<j:=by omega
   have hd:((i:Int)+(j:Int)) / 2=(h:Int):=by omega
   have hhn:h<n:=by omega
   have han:a<n:=by omega
   obtain⟨l1,l2,l3,l4,l5⟩:=HL.out;have ht:h - m<B.length:=by omega
   have i1:h<(X++x::(B++Y)).length:=by rw[l5];omega
   have i2:a<(X++x::(B++Y)).length:=by rw[l5];omega
   have g1:(X++x::(B++Y))[h]=B[h - m]:=by
    have:=at_mid (X:=X++[x]) (Y:=Y) (t:=h - m) (i:=h) ht (by simp;omega) (by simp;simp at i1;omega);simpa using this
   have g2:(X++x::(B++Y))[a]=x:=at_one l1 i2;have hu1:ltL B[h - m] x=true-> ∀t (h':t<B.length),t<h+1 - m->ltL B[t] x=true:=fun hx t h' htm=>up_lt ltL_weak HU.out ht (by omega) hx
   have hu2:ltL B[h - m] x=false-> ∀t (h':t<B.length),h - m<=t->ltL B[t] x=false:=fun hx t h' htm=>up_nlt ltL_weak HU.out (i:=h - m) h' htm hx
   obtain⟨y,hy⟩: ∃y,B[h - m]=y:=⟨_,rfl⟩;rw[hy]at g1 hu1 hu2;have HU1:=zH hu1;have HU2:=zH hu2;have c0: ∀n' os',(grow (wr.drewN n') os').cell? ⟨g,h*7,none⟩=some (.int .i64 y.v):=fun n' os'=>by have hc:=((hrow.grown n' os').cells (k:=h) i1).1;rw[g1]at hc;exact hc
   have c1: ∀n' os',(grow (wr.drewN n') os').cell? ⟨g,h*7+1,none⟩=some (.int .u8 y.kind):=fun n' os'=>by have hc:=((hrow.grown n' os').cells (k:=h) i1).2.1;rw[g1]at hc;exact hc
   have c2: ∀n' os',(grow (wr.drewN n') os').cell? ⟨g,h*7+2,none⟩=some (.string y.term):=fun n' os'=>by have hc:=((hrow.grown n' os').cells (k:=h) i1).2.2.1;rw[g1]at hc;exact hc
   have c3: ∀n' os',(grow (wr.drewN n') os').cell? ⟨g,h*7+3,none⟩=some (.int .i64 y.n):=fun n' os'=>by have hc:=((hrow.grown n' os').cells (k:=h) i1).2.2.2.1;rw[g1]at hc;exact hc
   have c4: ∀n' os',(grow (wr.drewN n') os').cell? ⟨g,h*7+4,none⟩=some (.slice y.A y.len y.cap):=fun n' os'=>by have hc:=((hrow.grown n' os').cells (k:=h) i1).2.2.2.2.1;rw[g1]at hc;exact hc
   have c5: ∀n' os',(grow (wr.drewN n') os').cell? ⟨g,h*7+5,none⟩=some (.int .i64 y.what):=fun n' os'=>by have hc:=((hrow.grown n' os').cells (k:=h) i1).2.2.2.2.2.1;rw[g1]at hc;exact hc
   have c6: ∀n' os',(grow (wr.drewN n') os').cell? ⟨g,h*7+6,none⟩=some (.string y.text):=fun n' os'=>by have hc:=((hrow.grown n' os').cells (k:=h) i1).2.2.2.2.2.2.1;rw[g1]at hc;exact hc
   have d0: ∀n' os',(grow (wr.drewN n') os').cell? ⟨g,a*7,none⟩=some (.int .i64 x.v):=fun n' os'=>by have hc:=((hrow.grown n' os').cells (k:=a) i2).1;rw[g2]at hc;exact hc
   have d1: ∀n' os',(grow (wr.drewN n') os').cell? ⟨g,a*7+1,none⟩=some (.int .u8 x.kind):=fun n' os'=>by have hc:=((hrow.grown n' os').cells (k:=a) i2).2.1;rw[g2]at hc;exact hc
   have d2: ∀n' os',(grow (wr.drewN n') os').cell? ⟨g,a*7+2,none⟩=some (.string x.term):=fun n' os'=>by have hc:=((hrow.grown n' os').cells (k:=a) i2).2.2.1;rw[g2]at hc;exact hc
   have d3: ∀n' os',(grow (wr.drewN n') os').cell? ⟨g,a*7+3,none⟩=some (.int .i64 x.n):=fun n' os'=>by have hc:=((hrow.grown n' os').cells (k:=a) i2).2.2.2.1;rw[g2]at hc;exact hc
   have d4: ∀n' os',(grow (wr.drewN n') os').cell? ⟨g,a*7+4,none⟩=some (.slice x.A x.len x.cap):=fun n' os'=>by have hc:=((hrow.grown n' os').cells (k:=a) i2).2.2.2.2.1;rw[g2]at hc;exact hc
   have d5: ∀n' os',(grow (wr.drewN n') os').cell? ⟨g,a*7+5,none⟩=some (.int .i64 x.what):=fun n' os'=>by have hc:=((hrow.grown n' os').cells (k:=a) i2).2.2.2.2.2.1;rw[g2]at hc;exact hc
   have d6: ∀n' os',(grow (wr.drewN n') os').cell? ⟨g,a*7+6,none⟩=some (.string x.text):=fun n' os'=>by have hc:=((hrow.grown n' os').cells (k:=a) i2).2.2.2.2.2.2.1;rw[g2]at hc;exact hc
   have hcg: ∀n' os',Calls Tryz.prog 70 #[.agg #[.int .i64 y.v,.int .u8 y.kind,.string y.term,.int .i64 y.n,.slice y.A y.len y.cap,.int .i64 y.what,.string y.text],.agg #[.int .i64 x.v,.int .u8 x.kind,.string x.term,.int .i64 x.n,.slice x.A x.len x.cap,.int .i64 x.what,.string x.text]] (grow (wr.drewN n') os') fun e w'=>e= .returned (.int .i64 (cfL y x))/\ ∃q os'',w'=grow ((grow (wr.drewN n') os').drewN q) os'':=fun n' os'=>cmpLine_any y x _
   have HR:=zH hrow;clear hrow i1 i2 g1 g2 hu1 hu2 hy hh ht l1 l2 l3 l4 l5;by_cases hlv:cfL y x<0
   ·go_wp2_with fail;go_quiet_grown (first|(go_at_call 70;refine Calls.grown_of (hcg _ _))|(go_at_fn 70;refine Calls.grown_of (hcg _ _)));go_wp2_with fail;go_roundw
    case rel=>exact⟨h+1,j,by go_num,rfl,by omega,by omega,hj,HR.out.grown nq osq,fr_grown HF.out nq osq,HU1.out (ltL_t hlv),HHI.out⟩
    case measure=>simp[intOf];omega
   ·go_wp2_with fail;go_quiet_grown (first|(go_at_call 70;refine Calls.grown_of (hcg _ _))|(go_at_fn 70;refine Calls.grown_of (hcg _ _)));go_wp2_with fail;go_roundw
    case rel=>exact⟨i,h,rfl,rfl,hi,hh1,by omega,HR.out.grown nq osq,fr_grown HF.out nq osq,HLO.out,HU2.out (ltL_f (by omega))⟩
    case measure=>simp[intOf];omega
  ·have hij2:i=j:=by omega
   subst hij2;have HR:=zH hrow;have HO:=zH (show X++(B.take (i - m)++x::B.drop (i - m))++Y=R by
    rw[<-HRR.out,one_left ltL_weak x B (i - m) HU.out (fun y hy=>by
     obtain⟨t,ht,rfl⟩:=List.getElem_of_mem hy;rw[List.length_take]at ht;rw[List.getElem_take];exact HLO.out t (by omega) (by omega)) (fun y hy=>by
     obtain⟨t,ht,rfl⟩:=List.getElem_of_mem hy;rw[List.length_drop]at ht;rw[List.getElem_drop];exact HHI.out _ (by omega) (by omega))])
   clear hrow hlt hij HLO HHI;go_wp2_with fail;go_loopw [13] (fun vk wr=> ∃k:Nat,vk= .int .i64 (k:Int)/\a<=k/\k<=i - 1/\RowL wr g (X++(B.take (k - a)++x::B.drop (k - a))++Y)/\Fr [g] w wr) (fun vk _=>i - (intOf vk).toNat)
   case atStart=>exact⟨a,rfl,Nat.le_refl _,by omega,by simpa using HR.out,HF.out⟩
   case round=>
    obtain⟨k,rfl,hk1,hk2,hrow,hfr⟩:=hrel;have HF2:=zH hfr;clear hfr;by_cases hlt:k<i - 1
    ·obtain⟨l1,l2,l3,l4,l5⟩:=HL.out;have hlti:(k:Int)<(i:Int) - 1:=by omega
     have hB:B.drop (k - a)=B[k - a]'(by omega)::B.drop (k - a+1):=List.drop_eq_getElem_cons (by omega);have tB:B.take (k+1 - a)=B.take (k - a)++[B[k - a]'(by omega)]:=by rw[show k+1 - a=k - a+1 by omega];exact List.take_succ_eq_append_getElem (by omega)
     have dB:B.drop (k+1 - a)=B.drop (k - a+1):=by rw[show k+1 - a=k - a+1 by omega]
     obtain⟨y,hy⟩: ∃y,B[k - a]'(by omega)=y:=⟨_,rfl⟩;rw[hy]at hB tB;obtain⟨P1,hP1⟩: ∃P1,X++B.take (k - a)=P1:=⟨_,rfl⟩;obtain⟨P3,hP3⟩: ∃P3,B.drop (k - a+1)++Y=P3:=⟨_,rfl⟩;have e1:X++(B.take (k - a)++x::B.drop (k - a))++Y=P1++x::([]++y::P3):=by rw[hB,<-hP1,<-hP3];simp
     have e2:X++(B.take (k+1 - a)++x::B.drop (k+1 - a))++Y=P1++y::([]++x::P3):=by rw[tB,dB,<-hP1,<-hP3];simp
     have p1:P1.length=k:=by rw[<-hP1,List.length_append,List.length_take];omega
     rw[e1]at hrow;have HR2:=zH hrow;have HE:=zH e2;have HP:=zH p1;have i1:k<(P1++x::([]++y::P3)).length:=by simp;omega
     have i2:k+1<(P1++x::([]++y::P3)).length:=by simp;omega
     have g1:(P1++x::([]++y::P3))[k]=x:=at_one p1 i1;have g2:(P1++x::([]++y::P3))[k+1]=y:=by
      rw[List.getElem_append_right (by omega)];simp[show k+1 - P1.length=1 by omega]
     obtain⟨c0,c1,c2,c3,c4,c5,c6,cf⟩:=hrow.cells (k:=k) i1;rw[g1]at c0 c1 c2 c3 c4 c5 c6;obtain⟨d0,d1,d2,d3,d4,d5,d6,df⟩:=hrow.cells (k:=(k+1)) i2;rw[g2]at d0 d1 d2 d3 d4 d5 d6;have nb:(k:Int)+1<(n:Int):=by omega
     clear hB tB dB hy hP1 hP3 e1 e2 p1 hrow i1 i2 g1 g2 l1 l2 l3 l4 l5;go_upto_region 11 with fail;go_big_region_o;change Exit.inBlock _ _ _ _ (swapW wr g k (k+1) x y);obtain⟨s1,s2⟩:=HR2.out.swap (i:=k) (j:=k+1) HP.out rfl;rw[<-HE.out]at s1;have S1:=zH s1;have S2:=zH (HF2.out.trans s2 (fun i hi _=>hi));clear s1 s2 c0 c1 c2 c3 c4 c5 c6 cf d0 d1 d2 d3 d4 d5 d6 df HR2;generalize swapW wr g k (k+1) x y=W at S1 S2⊢;go_wp2_with fail;go_roundw
     case rel=>exact⟨k+1,by go_num,by omega,by omega,S1.out,S2.out⟩
     case measure=>simp[intOf];omega
    ·have hki:k - a=i - m:=by omega
     rw[hki,HO.out]at hrow;have hlti: ¬(k:Int)<(i:Int) - 1:=by omega
     have HR2:=zH hrow;clear hrow hki;go_wp2_with fail;refine bodyPost_ret (results_none rfl _ _ _) rfl ?_;exact⟨rfl,HR2.out,HF2.out⟩
open Go.RowKit Go.Shelf Go.Sort
set_option maxRecDepth 100000 in
set_option maxHeartbeats 4000000 in
theorem sym_one_right (X A Y:List LineR) (y:LineR) (g cap:Nat) (hA2:2<=A.length):SymP g cap X A [y] Y:=by
 intro n ai mi bi w hnn ha hm hb h _ _ hA _ hn;subst ha;subst hm;subst hb;simp only[List.append_assoc,List.singleton_append]at hnn h;obtain⟨a,ha⟩: ∃a,X.length=a:=⟨_,rfl⟩;obtain⟨p,hp⟩: ∃p,A.length=p:=⟨_,rfl⟩;obtain⟨m,hm⟩: ∃m,a+p=m:=⟨_,rfl⟩;obtain⟨b,hb⟩: ∃b,m+1=b:=⟨_,rfl⟩;rw[ha,hp,show([y]:List LineR).length=1 from rfl,hm,hb];rw[hp]at hA2;have hln:n=b+Y.length:=by rw[<-hnn];simp;omega
 have hbn:b<=n:=by omega
 have HH:=zH h;have HL:=zH (show X.length=a/\A.length=p/\a+p=m/\m+1=b/\(X++(A++y::Y)).length=n from⟨ha,hp,hm,hb,hnn⟩);have HU:=zH hA;obtain⟨R,hR⟩: ∃R,X++ordL ltL (A++[y])++Y=R:=⟨_,rfl⟩;rw[hR];have HRR:=zH hR;clear hR;have hone0:((m:Int) - (a:Int)==1)=false:=beq_false_of_ne (by omega);have hone:((b:Int) - (m:Int)==1)=true:=by simp;omega
 have ham:a<=m:=by omega
 have hmb:m<b:=by omega
 have hmn:m<n:=by omega
 clear h hA ha hp hm hb hnn hln;have mixed:Tryz.prog.follows Departure.mixedOrders=true:=by kernel_rfl
 go_enter Tryz.func102,Tryz.ntmps102;go_wp2_with fail;go_loopw [14,15] (fun vi vj wr=> ∃i j:Nat,vi= .int .i64 (i:Int)/\vj= .int .i64 (j:Int)/\a<=i/\i<=j/\j<=m/\RowL wr g (X++(A++y::Y))/\Fr [g] w wr/\(∀t (ht:t<A.length),t<i - a->ltL y A[t]=false)/\(∀t (ht:t<A.length),j - a<=t->ltL y A[t]=true)) (fun vi vj _=>(intOf vj).toNat - (intOf vi).toNat)
 case atStart=>
  obtain⟨l1,l2,l3,l4,l5⟩:=HL.out;exact⟨a,m,rfl,rfl,Nat.le_refl _,ham,Nat.le_refl _,HH.out,Fr.refl _ _,fun t ht h=>by omega,fun t ht h=>by omega⟩
 case round=>
  obtain⟨i,j,rfl,rfl,hi,hij,hj,hrow,hfr,hlo,hhi⟩:=hrel;have HF:=zH hfr;have HLO:=zH hlo;have HHI:=zH hhi;clear hfr hlo hhi;by_cases hlt:i<j
  ·obtain⟨h,hh⟩: ∃h,(i+j) / 2=h:=⟨_,rfl⟩;have hh1:i<=h:=by omega
   have hh2:h<j:=by omega
   have hd:((i:Int)+(j:Int)) / 2=(h:Int):=by omega
   have hhn:h<n:=by omega
   obtain⟨l1,l2,l3,l4,l5⟩:=HL.out;have ht:h - a<A.length:=by omega
   have i1:h<(X++(A++y::Y)).length:=by rw[l5];omega
   have i2:m<(X++(A++y::Y)).length:=by rw[l5];omega
   have g1:(X++(A++y::Y))[h]=A[h - a]:=at_mid ht (by omega) i1;have g2:(X++(A++y::Y))[m]=y:=by
    have:=at_one (X:=X++A) (Y:=Y) (x:=y) (i:=m) (by simp;omega) (by simp;simp at i2;omega);simpa using this
   have hu1:ltL y A[h - a]=false-> ∀t (h':t<A.length),t<h+1 - a->ltL y A[t]=false:=fun hx t h' htm=>up_ngt ltL_weak HU.out ht (by omega) hx
   have hu2:ltL y A[h - a]=true-> ∀t (h':t<A.length),h - a<=t->ltL y A[t]=true:=fun hx t h' htm=>up_gt ltL_weak HU.out (i:=h - a) h' htm hx
   obtain⟨x,hy⟩: ∃x,A[h - a]=x:=⟨_,rfl⟩;rw[hy]at g1 hu1 hu2;have HU1:=zH hu1;have HU2:=zH hu2;have c0: ∀n' os',(grow (wr.drewN n') os').cell? ⟨g,h*7,none⟩=some (.int .i64 x.v):=fun n' os'=>by have hc:=((hrow.grown n' os').cells (k:=h) i1).1;rw[g1]at hc;exact hc
   have c1: ∀n' os',(grow (wr.drewN n') os').cell? ⟨g,h*7+1,none⟩=some (.int .u8 x.kind):=fun n' os'=>by have hc:=((hrow.grown n' os').cells (k:=h) i1).2.1;rw[g1]at hc;exact hc
   have c2: ∀n' os',(grow (wr.drewN n') os').cell? ⟨g,h*7+2,none⟩=some (.string x.term):=fun n' os'=>by have hc:=((hrow.grown n' os').cells (k:=h) i1).2.2.1;rw[g1]at hc;exact hc
   have c3: ∀n' os',(grow (wr.drewN n') os').cell? ⟨g,h*7+3,none⟩=some (.int .i64 x.n):=fun n' os'=>by have hc:=((hrow.grown n' os').cells (k:=h) i1).2.2.2.1;rw[g1]at hc;exact hc
   have c4: ∀n' os',(grow (wr.drewN n') os').cell? ⟨g,h*7+4,none⟩=some (.slice x.A x.len x.cap):=fun n' os'=>by have hc:=((hrow.grown n' os').cells (k:=h) i1).2.2.2.2.1;rw[g1]at hc;exact hc
   have c5: ∀n' os',(grow (wr.drewN n') os').cell? ⟨g,h*7+5,none⟩=some (.int .i64 x.what):=fun n' os'=>by have hc:=((hrow.grown n' os').cells (k:=h) i1).2.2.2.2.2.1;rw[g1]at hc;exact hc
   have c6: ∀n' os',(grow (wr.drewN n') os').cell? ⟨g,h*7+6,none⟩=some (.string x.text):=fun n' os'=>by have hc:=((hrow.grown n' os').cells (k:=h) i1).2.2.2.2.2.2.1;rw[g1]at hc;exact hc
   have d0: ∀n' os',(grow (wr.drewN n') os').cell? ⟨g,m*7,none⟩=some (.int .i64 y.v):=fun n' os'=>by have hc:=((hrow.grown n' os').cells (k:=m) i2).1;rw[g2]at hc;exact hc
   have d1: ∀n' os',(grow (wr.drewN n') os').cell? ⟨g,m*7+1,none⟩=some (.int .u8 y.kind):=fun n' os'=>by have hc:=((hrow.grown n' os').cells (k:=m) i2).2.1;rw[g2]at hc;exact hc
   have d2: ∀n' os',(grow (wr.drewN n') os').cell? ⟨g,m*7+2,none⟩=some (.string y.term):=fun n' os'=>by have hc:=((hrow.grown n' os').cells (k:=m) i2).2.2.1;rw[g2]at hc;exact hc
   have d3: ∀n' os',(grow (wr.drewN n') os').cell? ⟨g,m*7+3,none⟩=some (.int .i64 y.n):=fun n' os'=>by have hc:=((hrow.grown n' os').cells (k:=m) i2).2.2.2.1;rw[g2]at hc;exact hc
   have d4: ∀n' os',(grow (wr.drewN n') os').cell? ⟨g,m*7+4,none⟩=some (.slice y.A y.len y.cap):=fun n' os'=>by have hc:=((hrow.grown n' os').cells (k:=m) i2).2.2.2.2.1;rw[g2]at hc;exact hc
   have d5: ∀n' os',(grow (wr.drewN n') os').cell? ⟨g,m*7+5,none⟩=some (.int .i64 y.what):=fun n' os'=>by have hc:=((hrow.grown n' os').cells (k:=m) i2).2.2.2.2.2.1;rw[g2]at hc;exact hc
   have d6: ∀n' os',(grow (wr.drewN n') os').cell? ⟨g,m*7+6,none⟩=some (.string y.text):=fun n' os'=>by have hc:=((hrow.grown n' os').cells (k:=m) i2).2.2.2.2.2.2.1;rw[g2]at hc;exact hc
   have hcg: ∀n' os',Calls Tryz.prog 70 #[.agg #[.int .i64 y.v,.int .u8 y.kind,.string y.term,.int .i64 y.n,.slice y.A y.len y.cap,.int .i64 y.what,.string y.text],.agg #[.int .i64 x.v,.int .u8 x.kind,.string x.term,.int .i64 x.n,.slice x.A x.len x.cap,.int .i64 x.what,.string x.text]] (grow (wr.drewN n') os') fun e w'=>e= .returned (.int .i64 (cfL y x))/\ ∃q os'',w'=grow ((grow (wr.drewN n') os').drewN q) os'':=fun n' os'=>cmpLine_any y x _
   have HR:=zH hrow;clear hrow i1 i2 g1 g2 hu1 hu2 hy hh ht l1 l2 l3 l4 l5;by_cases hlv:cfL y x<0
   ·go_wp2_with fail;go_quiet_grown (first|(go_at_call 70;refine Calls.grown_of (hcg _ _))|(go_at_fn 70;refine Calls.grown_of (hcg _ _)));go_wp2_with fail;go_roundw
    case rel=>exact⟨i,h,rfl,rfl,hi,hh1,by omega,HR.out.grown nq osq,fr_grown HF.out nq osq,HLO.out,HU2.out (ltL_t hlv)⟩
    case measure=>simp[intOf];omega
   ·go_wp2_with fail;go_quiet_grown (first|(go_at_call 70;refine Calls.grown_of (hcg _ _))|(go_at_fn 70;refine Calls.grown_of (hcg _ _)));go_wp2_with fail;go_roundw
    case rel=>exact⟨h+1,j,by go_num,rfl,by omega,by omega,hj,HR.out.grown nq osq,fr_grown HF.out nq osq,HU1.out (ltL_f (by omega)),HHI.out⟩
    case measure=>simp[intOf];omega
    all_goals (exfalso;rename_i hq;simp at hq;omega)
  ·have hij2:i=j:=by omega
   subst hij2;have HR:=zH hrow;have HO:=zH (show X++(A.take (i - a)++y::A.drop (i - a))++Y=R by
    obtain⟨l1,l2,l3,l4,l5⟩:=HL.out;rw[<-HRR.out,one_right ltL_weak A y (i - a) (by omega) HU.out (fun z hz=>by
     obtain⟨t,ht,rfl⟩:=List.getElem_of_mem hz;rw[List.length_take]at ht;rw[List.getElem_take];exact HLO.out t (by omega) (by omega)) (fun z hz=>by
     obtain⟨t,ht,rfl⟩:=List.getElem_of_mem hz;rw[List.length_drop]at ht;rw[List.getElem_drop];exact HHI.out _ (by omega) (by omega))])
   clear hrow hlt hij HLO HHI;go_wp2_with fail;go_loopw [17] (fun vk wr=> ∃k:Nat,vk= .int .i64 (k:Int)/\i<=k/\k<=m/\RowL wr g (X++(A.take (k - a)++y::A.drop (k - a))++Y)/\Fr [g] w wr) (fun vk _=>(intOf vk).toNat - i)
   case atStart=>
    obtain⟨l1,l2,l3,l4,l5⟩:=HL.out;exact⟨m,rfl,hj,Nat.le_refl _,by rw[List.take_of_length_le (by omega),List.drop_of_length_le (by omega)];simpa using HR.out,HF.out⟩
   case round=>
    obtain⟨k,rfl,hk1,hk2,hrow,hfr⟩:=hrel;have HF2:=zH hfr;clear hfr;by_cases hlt:i<k
    ·obtain⟨l1,l2,l3,l4,l5⟩:=HL.out;obtain⟨c,rfl⟩: ∃c,k=c+1:=⟨k - 1,by omega⟩;have hlti:(i:Int)<(c:Int)+1:=by omega
     have hB:A.drop (c - a)=A[c - a]'(by omega)::A.drop (c+1 - a):=by rw[show c+1 - a=c - a+1 by omega];exact List.drop_eq_getElem_cons (by omega)
     have tB:A.take (c+1 - a)=A.take (c - a)++[A[c - a]'(by omega)]:=by rw[show c+1 - a=c - a+1 by omega];exact List.take_succ_eq_append_getElem (by omega)
     obtain⟨z,hy⟩: ∃z,A[c - a]'(by omega)=z:=⟨_,rfl⟩;rw[hy]at hB tB;obtain⟨P1,hP1⟩: ∃P1,X++A.take (c - a)=P1:=⟨_,rfl⟩;obtain⟨P3,hP3⟩: ∃P3,A.drop (c+1 - a)++Y=P3:=⟨_,rfl⟩;have e1:X++(A.take (c+1 - a)++y::A.drop (c+1 - a))++Y=P1++z::([]++y::P3):=by rw[tB,<-hP1,<-hP3];simp
     have e2:X++(A.take (c - a)++y::A.drop (c - a))++Y=P1++y::([]++z::P3):=by rw[hB,<-hP1,<-hP3];simp
     have p1:P1.length=c:=by rw[<-hP1,List.length_append,List.length_take];omega
     rw[e1]at hrow;have HR2:=zH hrow;have HE:=zH e2;have HP:=zH p1;have i1:c<(P1++z::([]++y::P3)).length:=by simp;omega
     have i2:c+1<(P1++z::([]++y::P3)).length:=by simp;omega
     have g1:(P1++z::([]++y::P3))[c]=z:=at_one p1 i1;have g2:(P1++z::([]++y::P3))[c+1]=y:=by
      rw[List.getElem_append_right (by omega)];simp[show c+1 - P1.length=1 by omega]
     obtain⟨c0,c1,c2,c3,c4,c5,c6,cf⟩:=hrow.cells (k:=c) i1;rw[g1]at c0 c1 c2 c3 c4 c5 c6;obtain⟨d0,d1,d2,d3,d4,d5,d6,df⟩:=hrow.cells (k:=(c+1)) i2;rw[g2]at d0 d1 d2 d3 d4 d5 d6;have nb:(c:Int)+1<(n:Int):=by omega
     have nc:c<n:=by omega
     have np:(0:Int)<=(c:Int)+1:=by omega
     clear hB tB hy hP1 hP3 e1 e2 p1 hrow i1 i2 g1 g2 l1 l2 l3 l4 l5;go_upto_region 23 with fail;go_big_region_o;change Exit.inBlock _ _ _ _ (swapW wr g (c+1) c y z);obtain⟨s1,s2⟩:=HR2.out.swap2 (i:=c) (j:=c+1) HP.out rfl;rw[<-HE.out]at s1;have S1:=zH s1;have S2:=zH (HF2.out.trans s2 (fun i hi _=>hi));clear s1 s2 c0 c1 c2 c3 c4 c5 c6 cf d0 d1 d2 d3 d4 d5 d6 df HR2;generalize swapW wr g (c+1) c y z=W at S1 S2⊢;go_wp2_with fail;go_roundw
     case rel=>exact⟨c,by first|rfl|go_num|(congr 1;omega),by omega,by omega,S1.out,S2.out⟩
     case measure=>simp[intOf];omega
    ·have hki:k=i:=by omega
     subst hki;rw[HO.out]at hrow;have HR2:=zH hrow;clear hrow;go_wp2_with fail;refine bodyPost_ret (results_none rfl _ _ _) rfl ?_;exact⟨rfl,HR2.out,HF2.out⟩
end Go.Proofs.YtncniomiplnaaaaGreatDoor
