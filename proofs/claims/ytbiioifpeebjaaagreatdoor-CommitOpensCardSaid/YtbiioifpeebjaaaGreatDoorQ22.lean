/- Regions that lay boxes at whatever time: the boxes' operations float. · The moves of a walk where boxes float: take what only reads; whichever comes up; the end. · The lock of the funding output. · What goes to the owner, as the document says. -/
import Derived.Test.YtbiioifpeebjaaaGreatDoorQ10
import Derived.Test.YtbiioifpeebjaaaGreatDoorQ18
import Derived.Sort.Walk0
set_option linter.all false
namespace Go.Proofs.YtbiioifpeebjaaaGreatDoor
open Go.RowKit Go
section
variable {P:Program} {md:Region.Mode} {ops:Array Oper} {Q:Exit->Act->World->Prop}
def AnyB (P:Program) (md:Region.Mode) (ops:Array Oper) (Q:Exit->Act->World->Prop) (R:Act->World->Prop) (stop:Array Bool):Nat->Array Bool->Act->World->Prop
 |0,l,a,w=>l=stop/\ ∀w',Below w.heap.size w w'->R a w'
 |f+1,l,a,w=>(l=stop/\ ∀w',Below w.heap.size w w'->R a w')\/(l≠stop/\Region.ready md ops l≠[]/\ ∀i∈Region.ready md ops l,stop.getD i false=true/\ ∀w',Below w.heap.size w w'->wpOp P ops Q i (fun a' w''=>Below w'.heap.size w' w''/\AnyB P md ops Q R stop f (l.setIfInBounds i true) a' w'') a w')
variable {R:Act->World->Prop} {stop:Array Bool}
theorem below_step {w w1 w2:World} (h:Below w.heap.size w w1) (h':Below w1.heap.size w1 w2):Below w.heap.size w w2:=h.trans (h'.mono h.size)
theorem anyB_grow: ∀(f:Nat) (l:Array Bool) (a:Act) (w w1:World),AnyB P md ops Q R stop f l a w->Below w.heap.size w w1->AnyB P md ops Q R stop f l a w1
 |0,_,_,_,_,h,hb=>⟨h.1,fun w' h'=>h.2 w' (below_step hb h')⟩
 |f+1,_,_,_,_,h,hb=>by
  rcases h with⟨h1,h2⟩|⟨h1,h2,h3⟩
  ·exact .inl ⟨h1,fun w' h'=>h2 w' (below_step hb h')⟩
  ·exact .inr ⟨h1,h2,fun i hi=>⟨(h3 i hi).1,fun w' h'=>(h3 i hi).2 w' (below_step hb h')⟩⟩
theorem wpAny_more: ∀(g:Nat) (l:Array Bool) (a:Act) (w:World),wpAny P md ops Q g l a w->wpAny P md ops Q (g+1) l a w
 |0,_,_,_,h=>⟨fun _=>h.2,fun i hi=>by rw[h.1]at hi;cases hi⟩
 |g+1,_,_,_,h=>⟨h.1,fun i hi=>wpOp_mono (fun _ _ h'=>wpAny_more g _ _ _ h') (h.2 i hi)⟩
theorem wpAny_add (g:Nat) (l:Array Bool) (a:Act) (w:World) (h:wpAny P md ops Q g l a w): ∀f,wpAny P md ops Q (f+g) l a w
 |0=>by rw[Nat.zero_add];exact h
 |f+1=>by rw[show f+1+g=(f+g)+1 by omega];exact wpAny_more _ _ _ _ (wpAny_add g l a w h f)
theorem wpOp_putBack {j:Nat} {oj:Oper} {v:Value} {dst:Tmp} (hj:ops[j]? =some oj) (h1:dst∉oj.looksAt ops) (h2:oj.dst≠some dst) (hsj: ∀cs b,oj.op≠ .select cs b)
 (hQ: ∀c a w,Q (.panic c) a w->Q (.panic c) (a.put (some dst) v) w) {K:Act->World->Prop} {a:Act} {w:World} (h:wpOp P ops Q j K a w):
 wpOp P ops Q j (fun a' w'=> ∃a0,a'=Act.put a0 (some dst) v/\K a0 w') (a.put (some dst) v) w:=by
 have g1: ∀d,some dst=some d->d∉oj.looksAt ops:=fun d e=>by injection e with e;subst e;exact h1
 have g2: ∀d,some dst=some d->oj.dst≠some d:=fun d e=>by injection e with e;subst e;exact h2
 unfold wpOp at*;simp only[hj]at*;rw[wanted_put oj a (some dst) v g1];split
 ·rename_i hw;simp only[hw,if_true]at h;rcases h with h|⟨hasks,hlets⟩
  case inr=>exact .inr ⟨by unfold Oper.asks at*;rw[execOp_put oj hsj a (some dst) v g1];exact hasks,hlets⟩
  refine .inl ?_;unfold Oper.wp at*;rw[execOp_put oj hsj a (some dst) v g1];generalize (execOp a.eval oj).run P w=r at*;cases r with
  |ok n w'=>
   cases n<;>simp only[Oper.upon]at h⊢
   case value u=>exact⟨_,Act.put_comm a v u g2,h⟩
   case skip=>exact⟨_,Act.put_comm a v undef g2,h⟩
   case defer d=>exact⟨_,by rw[<-Act.put_comm _ v undef g2];rfl,h⟩
   case row name args=>exact Rows.mono h fun u w'' he=>⟨_,Act.put_comm a v u g2,he⟩
   case enter f args=>
    refine Calls.mono h fun e w'' he=> ?_
    cases e with
    |returned u=>exact⟨_,Act.put_comm a v u g2,he⟩
    |panicked c=>exact hQ _ _ _ he
    |outgrown=>exact he
  |halt x w'=>
   cases x<;>simp only[Oper.upon]at h⊢
   case panic u=>exact hQ _ _ _ h
 ·rename_i hw;simp only[hw]at h;exact⟨_,Act.put_comm a v undef g2,h⟩
def putD (a:Act) (D:List (Tmp×Nat)):Act:=D.foldr (fun p a=>Act.put a (some p.1) (.pointer (some ⟨p.2,0,none⟩))) a
theorem wpOp_putD {j:Nat} {oj:Oper} (hj:ops[j]? =some oj) (hsj: ∀cs b,oj.op≠ .select cs b) (hQ: ∀c a w s v,Q (.panic c) a w->Q (.panic c) (Act.put a s v) w) {K:Act->World->Prop} {a:Act} {w:World} (h:wpOp P ops Q j K a w):
 ∀D:List (Tmp×Nat),(∀p∈D,p.1∉oj.looksAt ops/\oj.dst≠some p.1)->wpOp P ops Q j (fun a' w'=> ∃a0,a'=putD a0 D/\K a0 w') (putD a D) w
 |[],_=>wpOp_mono (fun a' _ h'=>⟨a',rfl,h'⟩) h
 |p::D,hD=>by
  have ih:=wpOp_putD hj hsj hQ h D (fun q hq=>hD q (List.mem_cons_of_mem _ hq));have hp:=hD p (by simp);refine wpOp_mono ?_ (wpOp_putBack hj hp.1 hp.2 hsj (fun c a w=>hQ c a w _ _) ih);rintro a' w' ⟨a1,rfl,a0,rfl,hK⟩;exact⟨a0,rfl,hK⟩
def mark (todo:List (Nat×Tmp)) (l:Array Bool):Array Bool:=todo.foldl (fun l p=>l.setIfInBounds p.1 true) l
theorem set_comm' (l:Array Bool) (i j:Nat):(l.setIfInBounds i true).setIfInBounds j true=(l.setIfInBounds j true).setIfInBounds i true:=by
 by_cases e:i=j
 ·subst e;rfl
 ·exact Array.setIfInBounds_comm _ _ e
theorem mark_set: ∀(todo:List (Nat×Tmp)) (l:Array Bool) (i:Nat),mark todo (l.setIfInBounds i true)=(mark todo l).setIfInBounds i true
 |[],_,_=>rfl
 |p::t,l,i=>by
  show mark t ((l.setIfInBounds i true).setIfInBounds p.1 true)=(mark t (l.setIfInBounds p.1 true)).setIfInBounds i true;rw[set_comm',mark_set t]
theorem mark_erase {p:Nat×Tmp}: ∀{todo:List (Nat×Tmp)} (l:Array Bool),p∈todo->mark todo l=mark (todo.erase p) (l.setIfInBounds p.1 true)
 |q::t,l,h=>by
  by_cases e:q=p
  ·subst e;rw[List.erase_cons_head];rfl
  ·have hm:p∈t:=(List.mem_cons.1 h).resolve_left (fun e'=>e e'.symm);rw[List.erase_cons_tail (by simpa using e)];show mark t (l.setIfInBounds q.1 true)=mark (t.erase p) ((l.setIfInBounds p.1 true).setIfInBounds q.1 true);rw[mark_erase _ hm,set_comm']
theorem ready_mark {j:Nat}: ∀(todo:List (Nat×Tmp)) (l:Array Bool),j∈Region.ready md ops l->(∀p∈todo,j≠p.1)->j∈Region.ready md ops (mark todo l)
 |[],_,h,_=>h
 |p::t,l,h,hn=>ready_mark t _ (ready_mono h (hn p (by simp))) (fun q hq=>hn q (List.mem_cons_of_mem _ hq))
theorem nodup_erase {p q:Nat×Tmp}: ∀{todo:List (Nat×Tmp)},(todo.map (·.1)).Nodup->p∈todo->q∈todo.erase p->q.1≠p.1
 |r::t,hn,hp,hq=>by
  rw[List.map_cons,List.nodup_cons]at hn;by_cases e:r=p
  ·subst e;rw[List.erase_cons_head]at hq;exact fun e2=>hn.1 (by rw[<-e2];exact List.mem_map.2 ⟨q,hq,rfl⟩)
  ·have hp2:p∈t:=(List.mem_cons.1 hp).resolve_left (fun e'=>e e'.symm);rw[List.erase_cons_tail (by simpa using e)]at hq;rcases List.mem_cons.1 hq with rfl|hq
   ·exact fun e2=>hn.1 (by rw[e2];exact List.mem_map.2 ⟨p,hp2,rfl⟩)
   ·exact nodup_erase hn.2 hp2 hq
def Boxes (o:Obj) (base:Nat) (D:List (Tmp×Nat)) (w:World):Prop:=(∀p∈D,base<=p.2/\w.heap[p.2]? =some o)/\(D.map (·.2)).Nodup
theorem heap_lt {w:World} {b:Nat} {o:Obj} (h:w.heap[b]? =some o):b<w.heap.size:=Classical.byContradiction fun hn=>by rw[Array.getElem?_eq_none (by omega)]at h;cases h
theorem Boxes.below {o:Obj} {base:Nat} {D:List (Tmp×Nat)} {w w':World} (h:Boxes o base D w) (hb:Below w.heap.size w w'):Boxes o base D w':=
 ⟨fun p hp=>⟨(h.1 p hp).1,(hb.block _ (heap_lt (h.1 p hp).2)).trans (h.1 p hp).2⟩,h.2⟩
theorem float {F:List (Nat×Tmp)} {o:Obj} {base g:Nat}
 (hal: ∀p∈F,∀(K:Act->World->Prop) (a:Act) (w:World),K (Act.put a (some p.2) (.pointer (some ⟨w.heap.size,0,none⟩))) (w.alloc o)->wpOp P ops Q p.1 K a w)
 (hap: ∀p∈F,∀j oj,ops[j]? =some oj->stop.getD j false=true->(∀q∈F,j≠q.1)->p.2∉oj.looksAt ops/\oj.dst≠some p.2)
 (hst: ∀p∈F,∀j oj,ops[j]? =some oj->stop.getD j true=false-> ∃e∈oj.after,Region.binds md e=true/\e.on=p.1)
 (hsel: ∀(j:Nat) (oj:Oper) cs b,ops[j]? =some oj->oj.op≠ .select cs b) (hQ: ∀c a w s v,Q (.panic c) a w->Q (.panic c) (Act.put a s v) w)
 (hfin: ∀a w D,R a w->Boxes o base D w->(D.map (·.1)).Perm (F.map (·.2))->wpAny P md ops Q g stop (putD a D) w):
 ∀(m f:Nat) (todo:List (Nat×Tmp)) (D:List (Tmp×Nat)) (l:Array Bool) (a:Act) (w:World),m=f+todo.length->AnyB P md ops Q R stop f (mark todo l) a w->(∀p∈todo,p∈F/\l.getD p.1 true=false)->(todo.map (·.1)).Nodup->(∀p∈F,p∉todo->l.getD p.1 false=true)->
  Boxes o base D w->(∀p∈D,∃q∈F,q.2=p.1)->(D.map (·.1)++todo.map (·.2)).Perm (F.map (·.2))->base<=w.heap.size->(todo=[]->True)->(∀p∈todo,p.1∈Region.ready md ops l)->wpAny P md ops Q (m+g) l (putD a D) w:=by
 intro m
 induction m with
 |zero=>
  intro f todo D l a w hm hA _ _ _ hB _ hp _ _ _;have hf:f=0:=by omega
  have ht:todo=[]:=List.length_eq_zero_iff.1 (by omega);subst hf;subst ht;rw[Nat.zero_add];have h1:l=stop:=hA.1;rw[h1];exact hfin a w D (hA.2 w (Below.refl _ _)) hB (by simpa using hp)
 |succ m ih=>
  intro f todo D l a w hm hA htd hnd hdn hB hDF hp hbw _ hrd;by_cases hstop:todo=[]/\l=stop
  ·obtain⟨rfl,rfl⟩:=hstop;have hR:R a w:=by
    cases f with
    |zero=>exact hA.2 w (Below.refl _ _)
    |succ f=>
     rcases hA with h|h
     ·exact h.2 w (Below.refl _ _)
     ·exact absurd rfl h.1
   exact wpAny_add g _ _ _ (hfin a w D hR hB (by simpa using hp)) (m+1)
  ·rw[show m+1+g=(m+g)+1 by omega];have hne:Region.ready md ops l≠[]:=by
    cases todo with
    |cons p t=>exact fun e=>by have:=hrd p (by simp);rw[e]at this;cases this
    |nil=>
     cases f with
     |zero=>exact absurd ⟨rfl,hA.1⟩ hstop
     |succ f=>
      rcases hA with h|h
      ·exact absurd ⟨rfl,h.1⟩ hstop
      ·exact h.2.1
   refine⟨fun e=>absurd e hne,fun j hj=> ?_⟩;by_cases hjt: ∃p∈todo,p.1=j
   ·obtain⟨p,hp1,rfl⟩:=hjt;have hpF:=(htd p hp1).1;refine hal p hpF _ _ _ ?_;have hgr:Below w.heap.size w (w.alloc o):=(Below.refl _ _).alloc (Nat.le_refl _) _;have hlen:todo.length=(todo.erase p).length+1:=by rw[List.length_erase_of_mem hp1];have:=List.length_pos_of_mem hp1;omega
    refine ih f (todo.erase p) ((p.2,w.heap.size)::D) (l.setIfInBounds p.1 true) a (w.alloc o) (by omega) ?_ ?_ ?_ ?_ ?_ ?_ ?_ ?_ (fun _=>trivial) ?_
    ·rw[<-mark_erase l hp1];exact anyB_grow _ _ _ _ _ hA hgr
    ·intro q hq;have hq':=List.mem_of_mem_erase hq;refine⟨(htd q hq').1, ?_⟩;have hqne:p.1≠q.1:=fun e=>nodup_erase hnd hp1 hq e.symm
     rw[getD_set_ne true hqne];exact(htd q hq').2
    ·exact(List.Sublist.map _ (List.erase_sublist)).nodup hnd
    ·intro q hqF hqn;by_cases e:q=p
     ·subst e;have hlt:q.1<l.size:=by
       have:=(htd q hp1).2;exact Classical.byContradiction fun hn=>by rw[Array.getD_eq_getD_getElem?,Array.getElem?_eq_none (by omega)]at this;cases this
      simp[Array.getD_eq_getD_getElem?,hlt]
     ·exact getD_set_true (hdn q hqF (fun hm2=>hqn ((List.mem_erase_of_ne e).2 hm2)))
    ·refine⟨fun q hq=> ?_, ?_⟩
     ·rcases List.mem_cons.1 hq with rfl|hq
      ·exact⟨hbw,by show(w.heap.push o)[w.heap.size]? =some o;simp⟩
      ·exact(hB.below hgr).1 q hq
     ·rw[List.map_cons,List.nodup_cons];refine⟨fun hm2=> ?_,hB.2⟩;obtain⟨q,hq,e⟩:=List.mem_map.1 hm2;have:=heap_lt (hB.1 q hq).2;omega
    ·intro q hq;rcases List.mem_cons.1 hq with rfl|hq
     ·exact⟨p,hpF,rfl⟩
     ·exact hDF q hq
    ·refine List.Perm.trans ?_ hp;rw[List.map_cons,List.cons_append];have h1:(todo.map (·.2)).Perm (p.2::(todo.erase p).map (·.2)):=by
      have:=(List.perm_cons_erase hp1).map (fun x:Nat×Tmp=>x.2);simpa using this
     exact(List.perm_middle.symm).trans (List.Perm.append_left _ h1.symm)
    ·have:=hgr.size;omega
    ·intro q hq;have hq':=List.mem_of_mem_erase hq;exact ready_mono (hrd q hq') (fun e=>nodup_erase hnd hp1 hq e)
   ·have hjn: ∀p∈todo,j≠p.1:=fun p hp2 e=>hjt ⟨p,hp2,e.symm⟩
    have hjr:=ready_mark todo l hj hjn;obtain⟨hju,oj,hoj,hall⟩:=mem_ready.1 hj;cases f with
    |zero=>
     exfalso;have hs:mark todo l=stop:=hA.1;rw[hs]at hjr;obtain⟨hsu,-⟩:=mem_ready.1 hjr;cases todo with
     |nil=>exact hstop ⟨rfl,hs⟩
     |cons p t=>
      obtain⟨e,he,hb,heq⟩:=hst p (htd p (by simp)).1 j oj hoj hsu;have h3:=hall e he hb;rw[heq]at h3;rw[getD_both (htd p (by simp)).2]at h3;cases h3
    |succ f=>
     rcases hA with⟨hs,-⟩|⟨hns,-,hstep⟩
     ·exfalso;rw[hs]at hjr;obtain⟨hsu,-⟩:=mem_ready.1 hjr;cases todo with
      |nil=>exact hstop ⟨rfl,hs⟩
      |cons p t=>
       obtain⟨e,he,hb,heq⟩:=hst p (htd p (by simp)).1 j oj hoj hsu;have h3:=hall e he hb;rw[heq]at h3;rw[getD_both (htd p (by simp)).2]at h3;cases h3
     ·obtain⟨hsj,hw⟩:=hstep j hjr;have hjF: ∀q∈F,j≠q.1:=fun q hq e=>by
       by_cases hqt:q∈todo
       ·exact hjn q hqt e
       ·have:=hdn q hq hqt;rw[<-e]at this;rw[getD_both hju]at this;cases this
      have hx:=wpOp_putD hoj (fun cs b=>hsel j oj cs b hoj) hQ (hw w (Below.refl _ _)) D (fun p hp2=>by
       obtain⟨q,hq,e⟩:=hDF p hp2;rw[<-e];exact hap q hq j oj hoj hsj hjF)
      refine wpOp_mono ?_ hx;rintro a' w' ⟨a0,rfl,hgw,hA'⟩;refine ih f todo D (l.setIfInBounds j true) a0 w' (by omega) ?_ ?_ hnd ?_ (hB.below hgw) hDF hp (by have:=hgw.size;omega) (fun _=>trivial) ?_
      ·rw[mark_set];exact hA'
      ·intro p hp2;refine⟨(htd p hp2).1, ?_⟩;rw[getD_set_ne true (hjn p hp2)];exact(htd p hp2).2
      ·intro p hpF hpn;exact getD_set_true (hdn p hpF hpn)
      ·intro p hp2;exact ready_mono (hrd p hp2) (Ne.symm (hjn p hp2))
end
end Go.Proofs.YtbiioifpeebjaaaGreatDoor
namespace Go.Proofs.YtbiioifpeebjaaaGreatDoor
open Go.RowKit Go
section
variable {P:Program} {md:Region.Mode} {ops:Array Oper} {Q:Exit->Act->World->Prop} {R:Act->World->Prop} {stop:Array Bool} {S:World->Prop}
def waitsD (md:Region.Mode) (ops:Array Oper) (stop:Array Bool) (i:Nat):Bool:=(List.range ops.size).all fun j=>stop.getD j true||(match ops[j]? with|some oj=>oj.after.any (fun e=>Region.binds md e&&e.on==i)|none=>true)
theorem waitsD_spec {i:Nat} (h:waitsD md ops stop i=true): ∀j oj,ops[j]? =some oj->stop.getD j true=false-> ∃e∈oj.after,Region.binds md e=true/\e.on=i:=fun j oj hj hs=>by
 unfold waitsD at h;have hlt:j<ops.size:=(Array.getElem?_eq_some_iff.1 hj).1;have h1:=List.all_eq_true.1 h j (List.mem_range.2 hlt);rw[hs,Bool.false_or,hj]at h1;simp only at h1;rw[Array.any_eq_true]at h1;obtain⟨k,hk,hd⟩:=h1;rw[Bool.and_eq_true,beq_iff_eq]at hd;exact⟨_,Array.getElem_mem hk,hd.1,hd.2⟩
def dependsB (md:Region.Mode) (ops:Array Oper):Nat->Nat->Nat->Bool
 |0,_,_=>false
 |f+1,j,i=>match ops[j]? with|some oj=>oj.after.any (fun e=>Region.binds md e&&(e.on==i||dependsB md ops f e.on i))|none=>false
def Closed (md:Region.Mode) (ops:Array Oper) (l:Array Bool):Prop:= ∀k ok,ops[k]? =some ok->l.getD k false=true-> ∀e∈ok.after,Region.binds md e=true->l.getD e.on false=true
def closedB (md:Region.Mode) (ops:Array Oper) (l:Array Bool):Bool:=(List.range ops.size).all fun k=> !(l.getD k false)||(match ops[k]? with|some ok=>ok.after.all (fun e=> !(Region.binds md e)||l.getD e.on false)|none=>true)
theorem closedB_spec {l:Array Bool} (h:closedB md ops l=true):Closed md ops l:=fun k ok hk hd e he hb=>by
 unfold closedB at h;have hlt:k<ops.size:=(Array.getElem?_eq_some_iff.1 hk).1;have h1:=List.all_eq_true.1 h k (List.mem_range.2 hlt);rw[hd,Bool.not_true,Bool.false_or,hk]at h1;simp only at h1;rw[Array.all_eq_true]at h1;obtain⟨q,hq,rfl⟩:=Array.mem_iff_getElem.1 he;have h2:=h1 q hq;rw[hb,Bool.not_true,Bool.false_or]at h2;exact h2
theorem closed_set {l:Array Bool} {j:Nat} (h:Closed md ops l) (hj:j∈Region.ready md ops l):Closed md ops (l.setIfInBounds j true):=fun k ok hk hd e he hb=>by
 by_cases e1:j=k
 ·subst e1;obtain⟨-,oj,hoj,hall⟩:=mem_ready.1 hj;rw[hk]at hoj;injection hoj with hoj;subst hoj;exact getD_set_true (hall e he hb)
 ·rw[getD_set_ne false e1]at hd;exact getD_set_true (h k ok hk hd e he hb)
theorem depends_done {l:Array Bool} (hc:Closed md ops l) {i:Nat}: ∀(f j:Nat),dependsB md ops f j i=true->(∀oj,ops[j]? =some oj-> ∀e∈oj.after,Region.binds md e=true->l.getD e.on false=true)->l.getD i false=true
 |0,_,h,_=>by cases h
 |f+1,j,h,hd=>by
  unfold dependsB at h;cases hj:ops[j]? with
  |none=>rw[hj]at h;cases h
  |some oj=>
   rw[hj]at h;simp only at h;rw[Array.any_eq_true]at h;obtain⟨q,hq,h1⟩:=h;rw[Bool.and_eq_true,Bool.or_eq_true,beq_iff_eq]at h1;have h2:=hd oj hj _ (Array.getElem_mem hq) h1.1;rcases h1.2 with h3|h3
   ·rw[<-h3];exact h2
   ·exact depends_done hc f _ h3 (fun ok hk e he hb=>hc _ ok hk h2 e he hb)
def waitsB (md:Region.Mode) (ops:Array Oper) (stop:Array Bool) (i:Nat):Bool:=(List.range ops.size).all fun j=>stop.getD j true||dependsB md ops 6 j i
theorem waitsB_spec {i:Nat} (h:waitsB md ops stop i=true): ∀j oj,ops[j]? =some oj->stop.getD j true=false->dependsB md ops 6 j i=true:=fun j oj hj hs=>by
 unfold waitsB at h;have hlt:j<ops.size:=(Array.getElem?_eq_some_iff.1 hj).1;have h1:=List.all_eq_true.1 h j (List.mem_range.2 hlt);rw[hs,Bool.false_or]at h1;exact h1
theorem anyB_put {i:Nat} {oi:Oper} {v:Value} (hi:ops[i]? =some oi) (hsi:stop.getD i false=true) (hsel: ∀(j:Nat) (o:Oper) cs b,ops[j]? =some o->o.op≠ .select cs b) (hQ: ∀c a w,Q (.panic c) (a.put oi.dst v) w->Q (.panic c) a w)
 (hwt: ∀j oj,ops[j]? =some oj->stop.getD j true=false->dependsB md ops 6 j i=true) (hSg: ∀w w',S w->Below w.heap.size w w'->S w'): ∀(f:Nat) (l:Array Bool) (a:Act) (w:World),
 (∀j oj,ops[j]? =some oj->j≠i->l.getD j true=false->(∀e∈oj.after,Region.binds md e=true->e.on≠i)->oi.apart ops oj=true)->
 Closed md ops l->i∈Region.ready md ops l->YieldsIf P ops S oi v a->S w->AnyB P md ops Q R stop f (l.setIfInBounds i true) (a.put oi.dst v) w->AnyB P md ops Q R stop (f+1) l a w
 |f,l,a,w,hfr,hcl,hr,hy,hS,H=>by
  have hil:=(mem_ready.1 hr).1;have hns:l≠stop:=fun e=>by
   rw[e]at hil;rw[getD_both hil]at hsi;cases hsi
  have hstopcase:l.setIfInBounds i true=stop-> ∀j∈Region.ready md ops l,j≠i->False:=fun hs j hj e=>by
   have hj2:=ready_mono hj e;rw[hs]at hj2;obtain⟨hsu,-⟩:=mem_ready.1 hj2;obtain⟨-,oj,hoj,hall⟩:=mem_ready.1 hj;have h3:=depends_done hcl 6 j (hwt j oj hoj hsu) (fun ok hk e he hb=>by
    rw[hoj]at hk;injection hk with hk;subst hk;exact hall e he hb)
   rw[getD_both hil]at h3;cases h3
  refine .inr ⟨hns,(fun e=>by rw[e]at hr;cases hr),fun j hj=> ?_⟩;by_cases e:j=i
  ·subst e;exact⟨hsi,fun w' hb=>hy.wpOp hi (hSg _ _ hS hb) ⟨Below.refl _ _,anyB_grow _ _ _ _ _ H hb⟩⟩
  ·cases f with
   |zero=>exact(hstopcase H.1 j hj e).elim
   |succ f=>
    rcases H with⟨hs,-⟩|⟨-,-,hstep⟩
    ·exact(hstopcase hs j hj e).elim
    ·obtain⟨h1,h2⟩:=hstep j (ready_mono hj e);refine⟨h1,fun w' hb=> ?_⟩;obtain⟨hju,oj,hoj,hall⟩:=mem_ready.1 hj;have hno: ∀d∈oj.after,Region.binds md d=true->d.on≠i:=fun d hd hb' e3=>by
      have h1:=hall d hd hb';rw[e3]at h1;rw[getD_both hil]at h1;cases h1
     have h3:=wpOp_putIf hoj (hfr j oj hoj e hju hno) (fun cs b=>hsel i oi cs b hi) (fun cs b=>hsel j oj cs b hoj) hQ hy (h2 w' hb);refine wpOp_mono (fun a' w'' h4=>⟨h4.2.1,anyB_put hi hsi hsel hQ hwt hSg f (l.setIfInBounds j true) a' w'' ?_ (closed_set hcl hj) (ready_mono hr (Ne.symm e)) h4.1 (hSg _ _ hS (below_step hb h4.2.1)) ?_⟩) h3
     ·intro k ok hk hki hun hk2;refine hfr k ok hk hki ?_ hk2;by_cases hjk:j=k
      ·subst hjk;exact hju
      ·rw[getD_set_ne true hjk]at hun;exact hun
     ·rw[Array.setIfInBounds_comm _ _ e];exact h4.2.2
theorem anyB_take {i:Nat} {oi:Oper} {v:Value} {f:Nat} {l:Array Bool} {a:Act} {w:World} (hSg: ∀w w',S w->Below w.heap.size w w'->S w') (hi:ops[i]? =some oi) (hsi:stop.getD i false=true) (hw:waitsB md ops stop i=true) (hcl:closedB md ops l=true)
 (hs:Region.noSelect ops=true) (hf:Region.free md ops l i=true) (hr:(Region.ready md ops l).contains i=true)
 (hQ: ∀c a w,Q (.panic c) (a.put oi.dst v) w->Q (.panic c) a w) (hy:YieldsIf P ops S oi v a) (hS:S w)
 (h:AnyB P md ops Q R stop f (l.setIfInBounds i true) (a.put oi.dst v) w):AnyB P md ops Q R stop (f+1) l a w:=
 anyB_put hi hsi (Region.noSelect_spec hs) hQ (waitsB_spec hw) hSg f l a w (Region.free_spec hi hf) (closedB_spec hcl) (by simpa using hr) hy hS h
theorem anyB_one {k f:Nat} {l:Array Bool} {a:Act} {w:World} (hr:Region.ready md ops l=[k]) (hs:stop.getD k false=true) (hlk:l.getD k true=false)
 (h: ∀w',Below w.heap.size w w'->wpOp P ops Q k (fun a' w''=>Below w'.heap.size w' w''/\AnyB P md ops Q R stop f (l.setIfInBounds k true) a' w'') a w'):AnyB P md ops Q R stop (f+1) l a w:=
 .inr ⟨(fun e=>by rw[e]at hlk;rw[getD_both hlk]at hs;cases hs),(by rw[hr];simp),fun i hi=>by
  rw[hr]at hi;obtain rfl:=List.mem_singleton.1 hi;exact⟨hs,h⟩⟩
theorem anyB_two {k1 k2 f:Nat} {l:Array Bool} {a:Act} {w:World} (hr:Region.ready md ops l=[k1,k2]) (hs1:stop.getD k1 false=true) (hs2:stop.getD k2 false=true) (hlk:l.getD k1 true=false)
 (h1: ∀w',Below w.heap.size w w'->wpOp P ops Q k1 (fun a' w''=>Below w'.heap.size w' w''/\AnyB P md ops Q R stop f (l.setIfInBounds k1 true) a' w'') a w')
 (h2: ∀w',Below w.heap.size w w'->wpOp P ops Q k2 (fun a' w''=>Below w'.heap.size w' w''/\AnyB P md ops Q R stop f (l.setIfInBounds k2 true) a' w'') a w'):AnyB P md ops Q R stop (f+1) l a w:=
 .inr ⟨(fun e=>by rw[e]at hlk;rw[getD_both hlk]at hs1;cases hs1),(by rw[hr];simp),fun i hi=>by
  rw[hr]at hi;rcases List.mem_cons.1 hi with rfl|hi
  ·exact⟨hs1,h1⟩
  ·obtain rfl:=List.mem_singleton.1 hi;exact⟨hs2,h2⟩⟩
theorem anyB_stop {f:Nat} {l:Array Bool} {a:Act} {w:World} (hl:l=stop) (h: ∀w',Below w.heap.size w w'->R a w'):AnyB P md ops Q R stop f l a w:=by
 cases f with
 |zero=>exact⟨hl,h⟩
 |succ f=>exact .inl ⟨hl,h⟩
def floatB (md:Region.Mode) (ops:Array Oper) (stop:Array Bool) (F:List (Nat×Tmp)):Bool:=
 F.all (fun p=>waitsD md ops stop p.1&&(List.range ops.size).all (fun j=> !(stop.getD j false)||(F.any (fun q=>q.1==j)||(match ops[j]? with|some oj=> !(oj.looksAt ops).contains p.2&& !(oj.dst==some p.2)|none=>true))))
theorem floatB_wait {F:List (Nat×Tmp)} (h:floatB md ops stop F=true): ∀p∈F,∀j oj,ops[j]? =some oj->stop.getD j true=false-> ∃e∈oj.after,Region.binds md e=true/\e.on=p.1:=fun p hp=>by
 have:=List.all_eq_true.1 h p hp;rw[Bool.and_eq_true]at this;exact waitsD_spec this.1
theorem floatB_apart {F:List (Nat×Tmp)} (h:floatB md ops stop F=true): ∀p∈F,∀j oj,ops[j]? =some oj->stop.getD j false=true->(∀q∈F,j≠q.1)->p.2∉oj.looksAt ops/\oj.dst≠some p.2:=fun p hp j oj hj hsj hn=>by
 have h1:=List.all_eq_true.1 h p hp;rw[Bool.and_eq_true]at h1;have hlt:j<ops.size:=(Array.getElem?_eq_some_iff.1 hj).1;have h2:=List.all_eq_true.1 h1.2 j (List.mem_range.2 hlt);have h3:F.any (fun q=>q.1==j)=false:=by
  rw[List.any_eq_false];exact fun q hq=>by have:=hn q hq;simp;exact fun e=>this e.symm
 rw[hsj,h3,Bool.not_true,Bool.false_or,Bool.false_or,hj]at h2;simp only[Bool.and_eq_true,Bool.not_eq_true',List.contains_eq_mem,decide_eq_false_iff_not,beq_eq_false_iff_ne]at h2;exact h2
theorem putD_swap (a:Act) {s s':Tmp} (b b':Nat) (hs:s≠s') (D:List (Tmp×Nat)):putD a ((s,b)::(s',b')::D)=putD a ((s',b')::(s,b)::D):=by
 show((putD a D).put (some s') _).put (some s) _=((putD a D).put (some s) _).put (some s') _;exact Act.put_comm _ _ _ (fun d e=>by injection e with e;subst e;exact fun e2=>hs (by injection e2))
theorem putD_perm (a:Act) {D D':List (Tmp×Nat)} (h:D.Perm D'):(D.map (·.1)).Nodup->putD a D=putD a D':=by
 induction h with
 |nil=>intro _;rfl
 |cons x _ ih=>
  intro hn;rw[List.map_cons,List.nodup_cons]at hn;unfold putD at ih⊢;rw[List.foldr_cons,List.foldr_cons,ih hn.2]
 |swap x y l=>
  intro hn;rw[List.map_cons,List.map_cons,List.nodup_cons]at hn;exact putD_swap a y.2 x.2 (fun e=>hn.1 (by rw[e];simp)) l
 |trans h1 _ i1 i2=>
  intro hn;exact(i1 hn).trans (i2 ((h1.map _).nodup_iff.1 hn))
theorem zip_of: ∀(ss:List Tmp) (D:List (Tmp×Nat)),(D.map (·.1)).Perm ss->ss.Nodup-> ∃bs:List Nat,bs.length=ss.length/\D.Perm (ss.zip bs)
 |[],D,h,_=>by
  have:D=[]:=by simpa using h.eq_nil
  subst this;exact⟨[],rfl,List.Perm.refl _⟩
 |s::ss,D,h,hn=>by
  have hm:s∈D.map (·.1):=h.mem_iff.2 (by simp);obtain⟨p,hp,rfl⟩:=List.mem_map.1 hm;have h1:D.Perm (p::D.erase p):=List.perm_cons_erase hp;have h2:((D.erase p).map (·.1)).Perm ss:=by
   have:=((h1.map (·.1)).symm.trans h);rw[List.map_cons]at this;exact this.cons_inv
  obtain⟨bs,hl,hb⟩:=zip_of ss (D.erase p) h2 (List.nodup_cons.1 hn).2;exact⟨p.2::bs,by simp[hl],h1.trans (List.Perm.cons p hb)⟩
theorem float_all {F:List (Nat×Tmp)} {o:Obj} {base g f n:Nat} {a:Act} {w:World} (hn:n=f+F.length+g) (hF:floatB md ops stop F=true) (hrd:F.all (fun p=>(Region.ready md ops (Array.replicate n false)).contains p.1)=true) (hnd:(F.map (·.1)).Nodup) (hns:(F.map (·.2)).Nodup)
 (hsel:Region.noSelect ops=true) (hQ: ∀c a w s v,Q (.panic c) a w->Q (.panic c) (Act.put a s v) w)
 (hal: ∀p∈F,∀(K:Act->World->Prop) (a:Act) (w:World),K (Act.put a (some p.2) (.pointer (some ⟨w.heap.size,0,none⟩))) (w.alloc o)->wpOp P ops Q p.1 K a w)
 (hfin: ∀a w bs,bs.length=F.length->R a w->(∀b∈bs,base<=b/\w.heap[b]? =some o)->bs.Nodup->wpAny P md ops Q g stop (putD a ((F.map (·.2)).zip bs)) w)
 (hbw:base<=w.heap.size) (hA:AnyB P md ops Q R stop f (mark F (Array.replicate n false)) a w):wpAny P md ops Q n (Array.replicate n false) a w:=by
 have hr: ∀p∈F,p.1∈Region.ready md ops (Array.replicate n false):=fun p hp=>by simpa using List.all_eq_true.1 hrd p hp
 have key:=float (P:=P) (md:=md) (ops:=ops) (Q:=Q) (R:=R) (stop:=stop) (F:=F) (o:=o) (base:=base) (g:=g) hal (floatB_apart hF) (floatB_wait hF) (fun j oj cs b hj=>Region.noSelect_spec hsel j oj cs b hj) hQ
  (fun a w D hR hB hp=>by
   obtain⟨bs,hl,hb⟩:=zip_of _ D hp hns;have hDn:(D.map (·.1)).Nodup:=(hp.nodup_iff).2 hns;rw[putD_perm a hb hDn];have hz:((F.map (·.2)).zip bs).map (·.2)=bs:=by rw[List.map_snd_zip];omega
   refine hfin a w bs (by rw[hl,List.length_map]) hR (fun b hbm=> ?_) ?_
   ·rw[<-hz]at hbm;obtain⟨p,hp1,rfl⟩:=List.mem_map.1 hbm;exact hB.1 p (hb.mem_iff.2 hp1)
   ·rw[<-hz];exact((hb.map _).nodup_iff).1 hB.2)
  (f+F.length) f F [] (Array.replicate n false) a w rfl hA (fun p hp=>⟨hp,(mem_ready.1 (hr p hp)).1⟩) hnd (fun p hp hn=>absurd hp hn) ⟨by simp,by simp⟩ (by simp) (by simp) hbw (fun _=>trivial) hr
 rw[<-hn]at key;exact key
theorem wpAny_one {k f:Nat} {l:Array Bool} {a:Act} {w:World} (hr:Region.ready md ops l=[k]) (h:wpOp P ops Q k (wpAny P md ops Q f (l.setIfInBounds k true)) a w):wpAny P md ops Q (f+1) l a w:=
 ⟨(fun e=>by rw[hr]at e;cases e),fun i hi=>by
  rw[hr]at hi;obtain rfl:=List.mem_singleton.1 hi;exact h⟩
theorem wpAny_end {f:Nat} {l:Array Bool} {a:Act} {w:World} (hr:Region.ready md ops l=[]) (h:Q .normal a w):wpAny P md ops Q f l a w:=by
 cases f with
 |zero=>exact⟨hr,h⟩
 |succ f=>exact⟨fun _=>h,by rw[hr];simp⟩
end
end Go.Proofs.YtbiioifpeebjaaaGreatDoor
namespace Go.Proofs.YtbiioifpeebjaaaGreatDoor
open Go.RowKit Go.Sort
def twoC (x y:ByteArray):Array Value:= #[.int .u8 1,.string x,.int .i64 0,.slice none 0 0,.int .u8 1,.string y,.int .i64 0,.slice none 0 0]
theorem twoH (x y:ByteArray) (w:World):LocksH (w.alloc (.cells (twoC x y) 35)) (some ⟨w.heap.size,0,none⟩) [sigL x,sigL y] (twoC x y).toList:=
 rowH (by simp[twoC]) fun _ _=>LocksC.cons (LockC.leaf 1 _ _) (LocksC.cons (LockC.leaf 1 _ _) LocksC.nil)
def fundL (a b:ByteArray):LockT:=if b.data.toList<a.data.toList then allL [sigL b,sigL a]else allL [sigL a,sigL b]
set_option maxRecDepth 100000 in
set_option maxHeartbeats 4000000 in
theorem fund_lt (a b:ByteArray) (w:World) (hlt:b.data.toList<a.data.toList):Calls Tryz.prog 12 #[.string a,.string b] w fun e w'=> ∃v,e= .returned v/\LockV w' (allL [sigL b,sigL a]) v/\Below w.heap.size w w':=by
 have l1:Op.bytesLess a.toList b.toList=false:=by rw[bytesLess_eq,Lib.toList_data,Lib.toList_data];exact decide_eq_false (List.lt_asymm hlt)
 have l2:(a.toList==b.toList)=false:=beq_false_of_ne (fun e=>by rw[Lib.toList_data,Lib.toList_data]at e;rw[e]at hlt;exact List.lt_irrefl _ hlt);have h1: ∀W,Sem.run Tryz.prog (Builtin.min_ #[28,28] 28 #[.string a,.string b]) W= .ok (.string b) W:=fun W=>by
  simp[Builtin.min_,Builtin.min2,Op.stringOp,asBool,l1,l2]
 have h2: ∀W,Sem.run Tryz.prog (Builtin.max_ #[28,28] 28 #[.string a,.string b]) W= .ok (.string a) W:=fun W=>by
  simp[Builtin.max_,Builtin.max2,Op.stringOp,asBool,l1]
 have HS:=zH (fun t W=>show Calls Tryz.prog _ _ W (fun e w'=>e= .returned (.agg #[.int .u8 1,.string t,.int .i64 0,.slice none 0 0])/\Below W.heap.size W w')from sig_any t W);have HZ:=zH (show LBox (w.alloc (zO2 0 ⟨#[]⟩ 0 none 0 0)) w.heap.size 0 ⟨#[]⟩ 0 (.slice none 0 0)from Go.heap_alloc_new w _);have HB:=zH ((Below.refl w.heap.size w).alloc (Nat.le_refl _) (zO2 0 ⟨#[]⟩ 0 none 0 0));go_enter Tryz.func12,Tryz.ntmps12;go_wp2_with fail;refine(HS.out b _).mono ?_;rintro e w1 ⟨rfl,hb1⟩;have HB1:=zH (HB.out.trans (hb1.mono HB.out.size));have HZ1:=zH (HZ.out.below hb1);clear hb1;go_wp2_with fail;refine(HS.out a _).mono ?_;rintro e w2 ⟨rfl,hb2⟩;have HB2:=zH (HB1.out.trans (hb2.mono HB1.out.size));have HZ2:=zH (HZ1.out.below hb2);have hal:Below w2.heap.size w2 (w2.alloc (.cells (twoC b a) 35)):=(Below.refl _ _).alloc (Nat.le_refl _) _;have HB3:=zH (HB2.out.trans (hal.mono HB2.out.size));have HZ3:=zH (HZ2.out.below hal);have HC:=zH (all_n [sigL b,sigL a] 2 rfl ⟨w2.heap.size,0,none⟩ 2 _ (by simp) (by simp) (twoH b a w2));unfold twoC at HC HB3 HZ3;clear hb2 hal;go_wp2_with fail;refine HC.out.mono ?_;rintro e w3 ⟨A,c,rfl,hl,hb4⟩;have HB4:=zH (HB3.out.trans (hb4.mono HB3.out.size));have HZ4:=zH (HZ3.out.below hb4);have HL:=zH hl;obtain⟨p0,p1,p2,p3,pf⟩:=HZ4.out.cells;clear hb4 hl;go_wp2_with fail;change bodyPost _ _ _ _ _ (putL w3 w.heap.size (.int .u8 5) (.string ⟨#[]⟩) (.int .i64 0) (.slice A 2 c));have hA:=HZ4.out.put 5 ⟨#[]⟩ 0 (.slice A 2 c);have hFr:=putL_fr w3 w.heap.size (.int .u8 5) (.string ⟨#[]⟩) (.int .i64 0) (.slice A 2 c) (F:=[w.heap.size]) (List.mem_singleton.2 rfl);generalize putL w3 w.heap.size (.int .u8 5) (.string ⟨#[]⟩) (.int .i64 0) (.slice A 2 c)=Wf at hA hFr⊢;clear p0 p1 p2 p3 pf;obtain⟨r0,r1,r2,r3,-⟩:=hA.cells;have hD:=DepEq.box HZ4.out hFr;have hF:=HB4.out.trans (hFr.toBelowOf (B:=w.heap.size) HB4.out.size (fun i hi=>by simp at hi;omega));exact bodyPost_ret (v:=lockV 5 ⟨#[]⟩ 0 A 2 c) (by simp[results,Tryz.results12,go_sem,r0,r1,r2,r3,lockV]) rfl ⟨_,rfl,⟨A,c,rfl,HL.out.mono hD⟩,hF⟩
set_option maxRecDepth 100000 in
set_option maxHeartbeats 4000000 in
theorem fund_ge (a b:ByteArray) (w:World) (hlt: ¬b.data.toList<a.data.toList):Calls Tryz.prog 12 #[.string a,.string b] w fun e w'=> ∃v,e= .returned v/\LockV w' (allL [sigL a,sigL b]) v/\Below w.heap.size w w':=by
 have l1:(Op.bytesLess a.toList b.toList||a.toList==b.toList)=true:=by
  rw[bytesLess_eq,Lib.toList_data,Lib.toList_data];rcases Classical.em (a.data.toList<b.data.toList)with h|h
  ·rw[decide_eq_true h];rfl
  ·rw[List.le_antisymm (List.not_lt.1 hlt) (List.not_lt.1 h)];simp
 have l2:Op.bytesLess a.toList b.toList=false->a=b:=fun h0=>by
  rw[bytesLess_eq,Lib.toList_data,Lib.toList_data]at h0;exact ByteArray.ext (Array.ext' (List.le_antisymm (List.not_lt.1 hlt) (List.not_lt.1 (of_decide_eq_false h0))))
 have h1: ∀W,Sem.run Tryz.prog (Builtin.min_ #[28,28] 28 #[.string a,.string b]) W= .ok (.string a) W:=fun W=>by
  simp[Builtin.min_,Builtin.min2,Op.stringOp,asBool,l1]
 have h2: ∀W,Sem.run Tryz.prog (Builtin.max_ #[28,28] 28 #[.string a,.string b]) W= .ok (.string b) W:=fun W=>by
  simp[Builtin.max_,Builtin.max2,Op.stringOp,asBool];exact l2
 have HS:=zH (fun t W=>show Calls Tryz.prog _ _ W (fun e w'=>e= .returned (.agg #[.int .u8 1,.string t,.int .i64 0,.slice none 0 0])/\Below W.heap.size W w')from sig_any t W);have HZ:=zH (show LBox (w.alloc (zO2 0 ⟨#[]⟩ 0 none 0 0)) w.heap.size 0 ⟨#[]⟩ 0 (.slice none 0 0)from Go.heap_alloc_new w _);have HB:=zH ((Below.refl w.heap.size w).alloc (Nat.le_refl _) (zO2 0 ⟨#[]⟩ 0 none 0 0));go_enter Tryz.func12,Tryz.ntmps12;go_wp2_with fail;refine(HS.out a _).mono ?_;rintro e w1 ⟨rfl,hb1⟩;have HB1:=zH (HB.out.trans (hb1.mono HB.out.size));have HZ1:=zH (HZ.out.below hb1);clear hb1;go_wp2_with fail;refine(HS.out b _).mono ?_;rintro e w2 ⟨rfl,hb2⟩;have HB2:=zH (HB1.out.trans (hb2.mono HB1.out.size));have HZ2:=zH (HZ1.out.below hb2);have hal:Below w2.heap.size w2 (w2.alloc (.cells (twoC a b) 35)):=(Below.refl _ _).alloc (Nat.le_refl _) _;have HB3:=zH (HB2.out.trans (hal.mono HB2.out.size));have HZ3:=zH (HZ2.out.below hal);have HC:=zH (all_n [sigL a,sigL b] 2 rfl ⟨w2.heap.size,0,none⟩ 2 _ (by simp) (by simp) (twoH a b w2));unfold twoC at HC HB3 HZ3;clear hb2 hal;go_wp2_with fail;refine HC.out.mono ?_;rintro e w3 ⟨A,c,rfl,hl,hb4⟩;have HB4:=zH (HB3.out.trans (hb4.mono HB3.out.size));have HZ4:=zH (HZ3.out.below hb4);have HL:=zH hl;obtain⟨p0,p1,p2,p3,pf⟩:=HZ4.out.cells;clear hb4 hl;go_wp2_with fail;change bodyPost _ _ _ _ _ (putL w3 w.heap.size (.int .u8 5) (.string ⟨#[]⟩) (.int .i64 0) (.slice A 2 c));have hA:=HZ4.out.put 5 ⟨#[]⟩ 0 (.slice A 2 c);have hFr:=putL_fr w3 w.heap.size (.int .u8 5) (.string ⟨#[]⟩) (.int .i64 0) (.slice A 2 c) (F:=[w.heap.size]) (List.mem_singleton.2 rfl);generalize putL w3 w.heap.size (.int .u8 5) (.string ⟨#[]⟩) (.int .i64 0) (.slice A 2 c)=Wf at hA hFr⊢;clear p0 p1 p2 p3 pf;obtain⟨r0,r1,r2,r3,-⟩:=hA.cells;have hD:=DepEq.box HZ4.out hFr;have hF:=HB4.out.trans (hFr.toBelowOf (B:=w.heap.size) HB4.out.size (fun i hi=>by simp at hi;omega));exact bodyPost_ret (v:=lockV 5 ⟨#[]⟩ 0 A 2 c) (by simp[results,Tryz.results12,go_sem,r0,r1,r2,r3,lockV]) rfl ⟨_,rfl,⟨A,c,rfl,HL.out.mono hD⟩,hF⟩
theorem fund_any (a b:ByteArray) (w:World):Calls Tryz.prog 12 #[.string a,.string b] w fun e w'=> ∃v,e= .returned v/\LockV w' (fundL a b) v/\Below w.heap.size w w':=by
 unfold fundL;by_cases hlt:b.data.toList<a.data.toList
 ·rw[if_pos hlt];exact fund_lt a b w hlt
 ·rw[if_neg hlt];exact fund_ge a b w hlt
end Go.Proofs.YtbiioifpeebjaaaGreatDoor
namespace Go.Proofs.YtbiioifpeebjaaaGreatDoor
open Go.RowKit
theorem below_now {w w1 w2:World} (h:Below w.heap.size w w1) (h':Below w1.heap.size w1 w2):Below w.heap.size w w2:=below_step h h'
end Go.Proofs.YtbiioifpeebjaaaGreatDoor
