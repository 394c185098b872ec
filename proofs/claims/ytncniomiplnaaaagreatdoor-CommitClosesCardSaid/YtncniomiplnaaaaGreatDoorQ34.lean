/- A point, an output that came in, opened: its lock is a finite tree. -/
import Derived.Test.YtncniomiplnaaaaGreatDoorQ31
import Derived.Test.YtncniomiplnaaaaGreatDoorQ36
import Derived.Test.YtncniomiplnaaaaGreatDoorQ21
set_option linter.all false
namespace Go.Proofs.YtncniomiplnaaaaGreatDoor
open Go.RowKit Go.ChangeShapes Go.WideShapes Go.Deep
def Chunks {α:Type} (C:α->List Value->Prop):List α->List Value->Prop
 |[],xs=>xs=[]
 |x::r,xs=> ∃cs rest,xs=cs++rest/\C x cs/\Chunks C r rest
theorem chunk_cells {α:Type} {W:World} {K:Nat} {C:α->List Value->Prop} {a:Addr}: ∀(l:List α) (off:Nat),(∀i (hi:i<l.length),∃cs,C l[i] cs/\cs.length=K/\ ∀j,j<K->W.cell? (a.add ((off+i)*K+j))=cs[j]?)->
 ∃xs,Chunks C l xs/\ ∀j u,xs[j]? =some u->W.cell? (a.add (off*K+j))=some u
 |[],off,_=>⟨[],rfl,fun j u h=>by simp at h⟩
 |x::r,off,h=>by
  obtain⟨cs,h1,h2,h3⟩:=h 0 (by simp);obtain⟨rest,g1,g2⟩:=chunk_cells r (off+1) (fun i hi=>by
   obtain⟨ds,d1,d2,d3⟩:=h (i+1) (by simpa using hi);exact⟨ds,d1,d2,fun j hj=>by rw[show off+1+i=off+(i+1) by omega];exact d3 j hj⟩)
  refine⟨cs++rest,⟨cs,rest,rfl,h1,g1⟩,fun j u hj=> ?_⟩;by_cases hjk:j<K
  ·rw[List.getElem?_append_left (by omega)]at hj;have:=h3 j hjk;rw[Nat.add_zero]at this;rw[this];exact hj
  ·rw[List.getElem?_append_right (by omega),h2]at hj;have:=g2 (j - K) u hj;rw[Nat.succ_mul,show off*K+K+(j - K)=off*K+j by omega]at this;exact this
theorem arrayN2 {α:Type} {cs:Array α} (h:cs.size=2): ∃c0 c1,cs= #[c0,c1]:=by
 obtain⟨l⟩:=cs
 match l,h with
 |[c0,c1],_=>exact⟨c0,c1,rfl⟩
section
variable {H:Type} {enc:TypeId×Value->H} {W:World} {base:Nat}
theorem open_rows {α:Type} {t e:TypeId} {K b:Nat} (ht:Tryz.prog.underlying t=some (.slice e)) (hK:Tryz.prog.cellsOf e=K) (hb:Tryz.prog.bytesOf e=b) (hb1:1<=b) (C:α->List Value->Prop) (G:α->Prop) {fuel:Nat} {cs:List Value} {x:DataW H×List MemPlace}
 (hE: ∀n,n<fuel-> ∀cs y,cs.length=K->DataW.trod enc Tryz.prog W 0 (fun _=>true) true n e cs=some y->(∀k∈y.1.weights Tryz.prog e,k<=reachBytes)-> ∃x,C x cs/\G x)
 (h:DataW.trod enc Tryz.prog W 0 (fun _=>true) true fuel t cs=some x) (hB: ∀k∈x.1.weights Tryz.prog t,k<=reachBytes):
 ∃A l c xs,cs=[.slice A (List.length l) c]/\Cells W A xs/\Chunks C l xs/\(∀x∈l,G x)/\l.length<=reachBytes:=by
 rcases DataW.trod_slice ht h with⟨rfl,rfl⟩|⟨a,len,cap,elems,rest,n,hfu,rfl,rfl,-,hl,hm,hlen,hel,hsp,-⟩
 ·exact⟨none,[],0,[],rfl,Cells.nil _ _,rfl,by simp,Nat.zero_le _⟩
 ·obtain⟨hw,hwe⟩:=weight_slice ht hb hB;rw[hK]at hel;have hex: ∀i,i<len-> ∃x:α,∃cs,C x cs/\cs.length=K/\(∀j,j<K->W.cell? (a.add ((0+i)*K+j))=cs[j]?)/\G x:=by
   intro i hi;have key:=hel i hi;have hie:i<elems.length:=by omega
   rw[List.getElem?_eq_getElem hie]at key;obtain⟨cs',h1,h2⟩:=Option.bind_eq_some_iff.1 key;obtain⟨_,hcl,hat⟩:=World.cells?_some h1;obtain⟨x,g1,g2⟩:=hE n (by omega) cs' _ hcl h2 (hwe _ (List.mem_map.2 ⟨_,List.getElem_mem hie,rfl⟩));refine⟨x,cs',g1,hcl,fun j hj=> ?_,g2⟩;have:=hat j hj;rw[Nat.zero_add,<-Go.Deep.add_add];exact this
  obtain⟨l,hll,hp⟩:=list_of hex;obtain⟨xs,k1,k2⟩:=chunk_cells (C:=C) (W:=W) (a:=a) l 0 (fun i hi=>by
   obtain⟨cs,c1,c2,c3,-⟩:=hp i hi;exact⟨cs,c1,c2,c3⟩)
  subst hll;refine⟨some a,l,cap,xs,rfl,fun _=>⟨a,rfl,fun j u hj=> ?_⟩,k1,fun y hy=> ?_, ?_⟩
  ·have:=k2 j u hj
   rwa [Nat.zero_mul,Nat.zero_add]at this
  ·obtain⟨i,hi,rfl⟩:=List.getElem_of_mem hy;obtain⟨cs,-,-,-,g⟩:=hp i hi;exact g
  ·simp only[List.length_map]at hw;have h5:=Nat.le_mul_of_pos_right (elems.length+rest.length) (show 0<b by omega);omega
theorem list5 {cs:List Value} (h:cs.length=5): ∃a b c d e,cs=[a,b,c,d,e]:=by
 match cs,h with
 |[a,b,c,d,e],_=>exact⟨a,b,c,d,e,rfl⟩
set_option maxRecDepth 100000 in
theorem open_point {v:Value} {d:DataW H} {p:List MemPlace} (hval:Value.okWide Tryz.prog W .any base 35 v) (h:DataW.Trod enc Tryz.prog W 0 (fun _=>true) true 35 v d p) (hB: ∀n∈d.weights Tryz.prog 35,n<=reachBytes):
 ∃(tx:ByteArray) (pn:Int),v= .agg #[.string tx,.int .i64 pn]/\tx.size<=reachBytes/\(Lit.int .i64 pn).wf=true:=by
 obtain⟨cs,rfl,hsz⟩:=okWide_struct Tryz.underlying35 hval;obtain⟨c0,c1,rfl⟩:=arrayN2 (hsz.trans (show Tryz.prog.cellsOf 35=2 by kernel_rfl));obtain⟨fuel,hf⟩:=h;obtain⟨xs,n,-,hx,hl,hlen,hfi⟩:=DataW.trod_struct Tryz.underlying35 hf;obtain⟨y0,y1,rfl⟩: ∃y0 y1,xs=[y0,y1]:=by
  match xs,hlen with
  |[y0,y1],_=>exact⟨_,_,rfl⟩
 have hc0:Tryz.prog.cellsOf 9=1:=by kernel_rfl
 have hc1:Tryz.prog.cellsOf 3=1:=by kernel_rfl
 have t0:=hfi 0 _ rfl;have t1:=hfi 1 _ rfl;simp only[Value.cells,hc0,hc1]at t0 t1;obtain⟨s0,e0,q0,-⟩:=DataW.trod_string Tryz.underlying9 t0;obtain⟨s1,e1,q1,hwf⟩:=DataW.trod_int Tryz.underlying3 t1;subst q0;subst q1;simp[hc0,hc1]at e0 e1;subst e0;subst e1;simp only[Prod.mk.injEq,List.map_cons,List.map_nil]at hx;obtain⟨hx1,-⟩:=hx;subst hx1;have z0:=weight_agg (fs:=_) Tryz.underlying35 hB 0 _ _ rfl rfl;exact⟨s0,s1,rfl,weight_string z0,hwf⟩
end
end Go.Proofs.YtncniomiplnaaaaGreatDoor
