/- (Chapter 27's D7 is not wanted at this seat.) · Blocks laid one behind the other; a digest held against a term. · Open: a term taken apart. · (Chapter 27's E6 is not wanted at this seat.) · Locks in memory; which terms are public keys, digests. -/
import Derived.Test.YtncniomiplnaaaaGreatDoorQ6
import Derived.Test.YtncniomiplnaaaaGreatDoorQ8
import Derived.Deep.DrawnRows
import Derived.Deep.DeepCutAuto
import Derived.Deep.RegionWith
import Derived.Deep.CutBlock
import Derived.Test.YtncniomiplnaaaaGreatDoorQ1
set_option linter.all false
namespace Go.Proofs.YtncniomiplnaaaaGreatDoor
open Go.RowKit
def allocs (w:World):List Obj->World
 |[]=>w
 |o::r=>allocs (w.alloc o) r
theorem allocs_low {B:Nat}: ∀(os:List Obj) (w:World),B<=w.heap.size->Below B w (allocs w os)
 |[],w,_=>Below.refl _ _
 |o::r,w,h=>((Below.refl B w).alloc h o).trans (allocs_low r (w.alloc o) (by simp;omega))
theorem allocs_below (os:List Obj) (w:World):Below w.heap.size w (allocs w os):=allocs_low os w (Nat.le_refl _)
theorem allocs_at: ∀(os:List Obj) (w:World) (k:Nat) (o:Obj),os[k]? =some o->(allocs w os).heap[w.heap.size+k]? =some o
 |[],_,_,_,h=>by simp at h
 |x::r,w,0,o,h=>by
  have hx:x=o:=by simpa using h
  subst hx;have h0:=Go.heap_alloc_new w x;exact((allocs_below r (w.alloc x)).block _ (lt_of_block h0)).trans h0
 |x::r,w,k+1,o,h=>by
  have:=allocs_at r (w.alloc x) k o (by simpa using h);rw[show(w.alloc x).heap.size=w.heap.size+1 by simp]at this;rw[show w.heap.size+(k+1)=w.heap.size+1+k by omega];exact this
theorem cell_of {w:World} {b j:Nat} {cs:Array Value} {T:TypeId} {z:Nat×Nat} {u:Value} (h:w.heap[b]? =some (.cells cs T z)) (hj:cs[j]? =some u):w.cell? ⟨b,j,none⟩=some u:=by
 unfold World.cell?;rw[h];simpa using hj
theorem cN2 {w:World} {b:Nat} {a0 a1:Value} {r:List Value} {T:TypeId} {z:Nat×Nat} (h:w.heap[b]? =some (.cells (a0::a1::r).toArray T z)):w.cell? ⟨b,0,none⟩=some a0/\w.cell? ⟨b,1,none⟩=some a1:=⟨cell_of h (by simp),cell_of h (by simp)⟩
theorem cN4 {w:World} {b:Nat} {a0 a1 a2 a3:Value} {r:List Value} {T:TypeId} {z:Nat×Nat} (h:w.heap[b]? =some (.cells (a0::a1::a2::a3::r).toArray T z)):w.cell? ⟨b,0,none⟩=some a0/\w.cell? ⟨b,1,none⟩=some a1/\w.cell? ⟨b,2,none⟩=some a2/\w.cell? ⟨b,3,none⟩=some a3:=⟨cell_of h (by simp),cell_of h (by simp),cell_of h (by simp),cell_of h (by simp)⟩
theorem cN5 {w:World} {b:Nat} {a0 a1 a2 a3 a4:Value} {r:List Value} {T:TypeId} {z:Nat×Nat} (h:w.heap[b]? =some (.cells (a0::a1::a2::a3::a4::r).toArray T z)):w.cell? ⟨b,0,none⟩=some a0/\w.cell? ⟨b,1,none⟩=some a1/\w.cell? ⟨b,2,none⟩=some a2/\w.cell? ⟨b,3,none⟩=some a3/\w.cell? ⟨b,4,none⟩=some a4:=⟨cell_of h (by simp),cell_of h (by simp),cell_of h (by simp),cell_of h (by simp),cell_of h (by simp)⟩
theorem cN9 {w:World} {b:Nat} {a0 a1 a2 a3 a4 a5 a6 a7 a8:Value} {r:List Value} {T:TypeId} {z:Nat×Nat} (h:w.heap[b]? =some (.cells (a0::a1::a2::a3::a4::a5::a6::a7::a8::r).toArray T z)):w.cell? ⟨b,0,none⟩=some a0/\w.cell? ⟨b,1,none⟩=some a1/\w.cell? ⟨b,2,none⟩=some a2/\w.cell? ⟨b,3,none⟩=some a3/\w.cell? ⟨b,4,none⟩=some a4/\w.cell? ⟨b,5,none⟩=some a5/\w.cell? ⟨b,6,none⟩=some a6/\w.cell? ⟨b,7,none⟩=some a7/\w.cell? ⟨b,8,none⟩=some a8:=⟨cell_of h (by simp),cell_of h (by simp),cell_of h (by simp),cell_of h (by simp),cell_of h (by simp),cell_of h (by simp),cell_of h (by simp),cell_of h (by simp),cell_of h (by simp)⟩
open Go.RowKit
def partsV (op n:Int) (text:ByteArray) (ks:Value):Value:= .agg #[.int .u8 op,.int .i64 n,.string text,ks]
def put4 (w:World) (g:Nat) (a b c d:Value):World:=(((w.setCell ⟨g,0,none⟩ a).setCell ⟨g,1,none⟩ b).setCell ⟨g,2,none⟩ c).setCell ⟨g,3,none⟩ d
theorem put4_at {w:World} {g:Nat} {x0 x1 x2 x3:Value} {T:TypeId} {z:Nat×Nat} (h:w.heap[g]? =some (.cells #[x0,x1,x2,x3] T z)) (a b c d:Value):(put4 w g a b c d).heap[g]? =some (.cells #[a,b,c,d] T z):=by
 unfold put4;rw[setCell_cells (setCell_cells (setCell_cells (setCell_cells h 0 a) 1 b) 2 c) 3 d];rfl
theorem put4_fr (w:World) (g:Nat) (a b c d:Value) {F:List Nat} (hg:g∈F):Fr F w (put4 w g a b c d):=by
 unfold put4;exact(((Fr.put0 w g 0 a hg).trans (Fr.put0 _ g 1 b hg) (fun _ h _=>h)).trans (Fr.put0 _ g 2 c hg) (fun _ h _=>h)).trans (Fr.put0 _ g 3 d hg) (fun _ h _=>h)
def PartsAt (w:World) (b:Nat) (op n:Int) (text:ByteArray) (ks:Value):Prop:=w.heap[b]? =some (.cells #[.int .u8 op,.int .i64 n,.string text,ks] 152 (0,0))
theorem PartsAt.cells {w:World} {b:Nat} {op n:Int} {text:ByteArray} {ks:Value} (h:PartsAt w b op n text ks):w.cell? ⟨b,0,none⟩=some (.int .u8 op)/\w.cell? ⟨b,1,none⟩=some (.int .i64 n)/\w.cell? ⟨b,2,none⟩=some (.string text)/\w.cell? ⟨b,3,none⟩=some ks/\ ∀j,w.frozen? ⟨b,j,none⟩=false:=by
 unfold PartsAt at h;refine⟨by simp[World.cell?,h],by simp[World.cell?,h],by simp[World.cell?,h],by simp[World.cell?,h],fun j=>by simp[World.frozen?,h]⟩
theorem PartsAt.fr {F:List Nat} {w w':World} {b:Nat} {op n:Int} {text:ByteArray} {ks:Value} (h:PartsAt w b op n text ks) (hf:Fr F w w') (hb:b∉F):PartsAt w' b op n text ks:=(hf.block b (lt_of_block h) hb).trans h
theorem own_ne_parts {w:World} {base k m b:Nat} {E:TypeId} {v ks:Value} {xs:List Value} {op num:Int} {text:ByteArray} (h:w.ownsRow base E k v m xs) (hE:E≠152) (hr:PartsAt w b op num text ks): ∀g,v.ownBlock=some g->g≠b:=fun g hg e=>by
 obtain⟨cur,hc⟩:=row_kind h hg;subst e;unfold PartsAt at hr;rw[hr]at hc;injection hc with hc;injection hc with h1 h2;exact hE h2.symm
def OpenP (s:ByteArray) (w:World) (e:Ending) (w':World):Prop:=
 match right s.data.toList with
 |some x=> ∃A cap,e= .returned (.tuple #[partsV (byte s.data.toList 0).toNat x.num (textOf s (byte s.data.toList 0) x) (.slice A (pieces s x.kids).length cap),.bool true])/\Cells w' A (strs (pieces s x.kids))/\Below w.heap.size w w'
 |none=> ∃A cap,e= .returned (.tuple #[partsV 0 0 ⟨#[]⟩ (.slice A 0 cap),.bool false])/\Below w.heap.size w w'
set_option maxRecDepth 100000 in
set_option maxHeartbeats 8000000 in
theorem open_gen (s:ByteArray) (ok:Bool) (op n deep:Int) (text:ByteArray) (m:Nat) (xs:List Value) (w:World)
 (hR: ∀W,Below w.heap.size w W->Calls Tryz.prog 122 #[.string s] W fun e w'=> ∃A cap,e= .returned (.tuple #[shapeV op n text (.slice A m cap) deep,.bool ok])/\w'.ownsRow 0 24 1 (.slice A m cap) m xs/\Below W.heap.size W w'):
 Calls Tryz.prog 117 #[.string s] w fun e w'=> ∃A cap,e= .returned (.tuple #[partsV op n text (.slice A m cap),.bool ok])/\Cells w' A xs/\Below w.heap.size w w':=by
 have hbA:Below w.heap.size w (w.alloc (zO17 0 0 ⟨#[]⟩ none 0 0)):=(Below.refl _ _).alloc (Nat.le_refl _) _;have hz:PartsAt (w.alloc (zO17 0 0 ⟨#[]⟩ none 0 0)) w.heap.size 0 0 ⟨#[]⟩ (.slice none 0 0):=Go.heap_alloc_new w _;have HR:=zH (hR _ hbA);unfold shapeV at HR;have HB:=zH hbA;have HZ:=zH hz;clear hbA hz hR;go_enter Tryz.func117,Tryz.ntmps117;go_wp2_with fail;refine HR.out.mono ?_;rintro e w1 ⟨A,cap,rfl,hc1,hb1⟩;have hb2:Below w1.heap.size w1 (w1.alloc (zO5 op n text A m cap deep)):=(Below.refl _ _).alloc (Nat.le_refl _) _;have hz2:=(HZ.out.fr (Fr.below (F:=[]) hb1) (by simp)).fr (Fr.below (F:=[]) hb2) (by simp);have hB2:=(HB.out.trans (hb1.mono HB.out.size)).trans (hb2.mono (Nat.le_trans HB.out.size hb1.size));have hc2:=own_below hc1 hb2;obtain⟨z0,z1,z2,z3,zf⟩:=hz2.cells;have HZ2:=zH hz2;have HB2:=zH hB2;have HC2:=zH hc2;clear hz2 hB2 hc2 hc1 hb1 hb2;go_wp2_with fail;change bodyPost _ _ _ _ _ (put4 (w1.alloc (zO5 op n text A m cap deep)) w.heap.size (.int .u8 op) (.int .i64 n) (.string text) (.slice A m cap));have hA:=put4_at HZ2.out (.int .u8 op) (.int .i64 n) (.string text) (.slice A m cap);have hF:=HB2.out.trans ((put4_fr _ w.heap.size (.int .u8 op) (.int .i64 n) (.string text) (.slice A m cap) (F:=[w.heap.size]) (List.mem_singleton.2 rfl)).toBelowOf (B:=w.heap.size) HB2.out.size (fun i hi=>by simp at hi;omega));have hro:=own_fr HC2.out (put4_fr _ w.heap.size (.int .u8 op) (.int .i64 n) (.string text) (.slice A m cap) (F:=[w.heap.size]) (List.mem_singleton.2 rfl)) (fun g hg=>by simpa using own_ne_parts HC2.out (by decide) HZ2.out g hg);generalize put4 (w1.alloc (zO5 op n text A m cap deep)) w.heap.size (.int .u8 op) (.int .i64 n) (.string text) (.slice A m cap)=Wf at hA hF hro⊢;obtain⟨r0,r1,r2,r3,-⟩:=PartsAt.cells (show PartsAt Wf w.heap.size op n text (.slice A m cap)from hA);exact bodyPost_ret (v:= .tuple #[partsV op n text (.slice A m cap),.bool ok]) (by simp[results,Tryz.results117,go_sem,r0,r1,r2,r3,partsV]) rfl ⟨A,cap,rfl,cells_of_own hro,hF⟩
theorem open_any (s:ByteArray) (w:World) (hs:s.size<=1000000) (hv:VarsOk w):Calls Tryz.prog 117 #[.string s] w (OpenP s w):=by
 have hR:=fun W (hW:Below w.heap.size w W)=>read_any s W hs (hv.below hW)
 unfold ReadP at hR;unfold OpenP;cases hq:right s.data.toList with
 |none=>
  simp only[hq]at hR;refine(open_gen s false 0 0 0 ⟨#[]⟩ 0 [] w fun W hW=>(hR W hW).mono ?_).mono ?_
  ·rintro e w' ⟨rfl,hb⟩;exact⟨none,0,rfl,World.ownsRow_nil _ _ _ _,hb⟩
  ·rintro e w' ⟨A,cap,he,-,hb⟩;exact⟨A,cap,he,hb⟩
 |some x=>
  simp only[hq]at hR;refine(open_gen s true ((byte s.data.toList 0).toNat:Int) x.num x.deep (textOf s (byte s.data.toList 0) x) (pieces s x.kids).length (strs (pieces s x.kids)) w fun W hW=>(hR W hW).mono ?_).mono ?_
  ·rintro e w' ⟨⟨A,cap,rfl,ho⟩,hb⟩;exact⟨A,cap,rfl,ho,hb⟩
  ·rintro e w' h;exact h
open Go.RowKit
theorem bne_nat {c:UInt8} {x:Int} (hx:(c.toNat:Int)=x) (d:UInt8) (h:c≠d):(x==(d.toNat:Int))=false:=beq_false_of_ne fun e=>h (UInt8.toNat_inj.1 (by omega))
theorem open_op (s:ByteArray) (w:World) (hs:s.size<=1000000) (hv:VarsOk w):Calls Tryz.prog 117 #[.string s] w fun e w'=> ∃(n:Int) (text:ByteArray) (A:Option Addr) (m cap:Nat) (ok:Bool),e= .returned (.tuple #[partsV (if rightB s.data.toList then((byte s.data.toList 0).toNat:Int)else 0) n text (.slice A m cap),.bool ok])/\Below w.heap.size w w':=by
 refine(open_any s w hs hv).mono fun e w' h=> ?_
 unfold OpenP at h;unfold rightB;cases hq:right s.data.toList with
 |none=>
  rw[hq]at h;obtain⟨A,cap,he,hb⟩:=h;exact⟨0,⟨#[]⟩,A,0,cap,false,he,hb⟩
 |some x=>
  rw[hq]at h;obtain⟨A,cap,he,-,hb⟩:=h;exact⟨_,_,A,_,cap,true,he,hb⟩
set_option maxRecDepth 100000 in
set_option maxHeartbeats 8000000 in
theorem lhash_any (s:ByteArray) (w:World) (hs:s.size<=1000000) (hv:VarsOk w):Calls Tryz.prog 109 #[.string s] w fun e w'=>e= .returned (.bool (hashB s.data.toList))/\Below w.heap.size w w':=by
 have hO:=open_op s w hs hv;obtain⟨op,hop⟩: ∃op:Int,(if rightB s.data.toList then((byte s.data.toList 0).toNat:Int)else 0)=op:=⟨_,rfl⟩;have hh:hashB s.data.toList=(op==72):=by
  unfold hashB;rw[<-hop];cases rightB s.data.toList with
  |false=>rfl
  |true=>
   rw[if_pos rfl,Bool.true_and];by_cases h:byte s.data.toList 0=72
   ·rw[h];rfl
   ·rw[beq_false_of_ne h];exact(bne_nat rfl 72 h).symm
 rw[hop]at hO;unfold partsV at hO;have HO:=zH hO;have HH:=zH hh;clear hO hop hh hv;go_enter Tryz.func109,Tryz.ntmps109;go_wp2_with fail;refine HO.out.mono ?_;rintro e w1 ⟨n,text,A,m,cap,ok,rfl,hb1⟩;have HB1:=zH (hb1.alloc hb1.size (zO17 op n text A m cap));clear hb1;go_wp2_with fail;go_ret;exact⟨ret_bool HH.out.symm,HB1.out⟩
set_option maxRecDepth 100000 in
set_option maxHeartbeats 8000000 in
theorem lpub_any (s:ByteArray) (w:World) (hs:s.size<=1000000) (hv:VarsOk w):Calls Tryz.prog 108 #[.string s] w fun e w'=>e= .returned (.bool (pubB s.data.toList))/\Below w.heap.size w w':=by
 have hO:=open_op s w hs hv;obtain⟨op,hop⟩: ∃op:Int,(if rightB s.data.toList then((byte s.data.toList 0).toNat:Int)else 0)=op:=⟨_,rfl⟩;have hh:pubB s.data.toList=(decide (op=80)||decide (op=87)||decide (op=76)):=by
  unfold pubB;rw[<-hop];cases rightB s.data.toList with
  |false=>rfl
  |true=>
   rw[if_pos rfl,Bool.true_and];exact isPub_iff _
 rw[hop]at hO;unfold partsV at hO;have HO:=zH hO;have HH:=zH hh;clear hO hop hh hv;by_cases h1:op=80
 ·subst h1;go_enter Tryz.func108,Tryz.ntmps108;go_wp2_with fail;refine HO.out.mono ?_;rintro e w1 ⟨n,text,A,m,cap,ok,rfl,hb1⟩;have HB1:=zH (hb1.alloc hb1.size (zO17 80 n text A m cap));clear hb1;go_wp2_with fail;go_ret;rw[HH.out];exact⟨by simp,HB1.out⟩
 have g1:(op==80)=false:=beq_false_of_ne h1;by_cases h2:op=87
 ·subst h2;clear g1;go_enter Tryz.func108,Tryz.ntmps108;go_wp2_with fail;refine HO.out.mono ?_;rintro e w1 ⟨n,text,A,m,cap,ok,rfl,hb1⟩;have HB1:=zH (hb1.alloc hb1.size (zO17 87 n text A m cap));clear hb1;go_wp2_with fail;go_ret;rw[HH.out];exact⟨by simp,HB1.out⟩
 have g2:(op==87)=false:=beq_false_of_ne h2;go_enter Tryz.func108,Tryz.ntmps108;go_wp2_with fail;refine HO.out.mono ?_;rintro e w1 ⟨n,text,A,m,cap,ok,rfl,hb1⟩;have HB1:=zH (hb1.alloc hb1.size (zO17 op n text A m cap));clear hb1;go_wp2_with fail;go_ret;rw[HH.out];exact⟨by by_cases h3:op=76<;>simp[h1,h2,h3],HB1.out⟩
mutual
def LockC (w:World):LockT->List Value->Prop
 | .node k t n l,cs=> ∃(A:Option Addr) (cap:Nat) (xs:List Value),cs=[.int .u8 k,.string t,.int .i64 n,.slice A l.length cap]/\Cells w A xs/\LocksC w l xs
def LocksC (w:World):List LockT->List Value->Prop
 |[],xs=>xs=[]
 |x::r,xs=> ∃cs rest,xs=cs++rest/\LockC w x cs/\LocksC w r rest
end
mutual
theorem LockC.below {w w':World} (hb:Below w.heap.size w w'): ∀(x:LockT) (cs:List Value),LockC w x cs->LockC w' x cs
 | .node k t n l,cs,h=>by
  unfold LockC at h⊢;obtain⟨A,cap,xs,h1,h2,h3⟩:=h;exact⟨A,cap,xs,h1,Cells.below h2 hb,LocksC.below hb l xs h3⟩
theorem LocksC.below {w w':World} (hb:Below w.heap.size w w'): ∀(l:List LockT) (xs:List Value),LocksC w l xs->LocksC w' l xs
 |[],xs,h=>by unfold LocksC at h⊢;exact h
 |x::r,xs,h=>by
  unfold LocksC at h⊢;obtain⟨cs,rest,h1,h2,h3⟩:=h;exact⟨cs,rest,h1,LockC.below hb x cs h2,LocksC.below hb r rest h3⟩
end
theorem LockC.shape {w:World} {x:LockT} {cs:List Value} (h:LockC w x cs): ∃(A:Option Addr) (cap:Nat) (xs:List Value),cs=[.int .u8 x.kind,.string x.term,.int .i64 x.n,.slice A x.kids.length cap]/\Cells w A xs/\LocksC w x.kids xs:=by
 cases x with
 |node k t n l=>
  unfold LockC at h;exact h
theorem LocksC.at_ {w:World}: ∀{l:List LockT} {xs:List Value},LocksC w l xs-> ∀(k:Nat) (hk:k<l.length),∃cs,LockC w l[k] cs/\cs.length=4/\ ∀j,j<4->xs[k*4+j]? =cs[j]?
 |[],xs,_,k,hk=>absurd hk (by simp)
 |x::r,xs,h,k,hk=>by
  unfold LocksC at h;obtain⟨cs,rest,rfl,h2,h3⟩:=h;obtain⟨A,cap,ys,hcs,-,-⟩:=h2.shape;have hl:cs.length=4:=by rw[hcs];rfl
  cases k with
  |zero=>exact⟨cs,h2,hl,fun j hj=>by rw[Nat.zero_mul,Nat.zero_add,List.getElem?_append_left (by omega)]⟩
  |succ k=>
   obtain⟨ds,g1,g2,g3⟩:=LocksC.at_ h3 k (by simpa using hk);refine⟨ds,g1,g2,fun j hj=> ?_⟩;rw[List.getElem?_append_right (by omega),hl,show(k+1)*4+j - 4=k*4+j by omega];exact g3 j hj
theorem LocksC.len {w:World}: ∀{l:List LockT} {xs:List Value},LocksC w l xs->xs.length=l.length*4
 |[],xs,h=>by unfold LocksC at h;subst h;rfl
 |x::r,xs,h=>by
  unfold LocksC at h;obtain⟨cs,rest,rfl,h2,h3⟩:=h;obtain⟨A,cap,ys,hcs,-,-⟩:=h2.shape;have hl:cs.length=4:=by rw[hcs];rfl
  rw[List.length_append,hl,LocksC.len h3,List.length_cons];omega
theorem add_next (ad:Addr) (i j:Nat) (hj:0<j):(⟨(ad.add i).block,(ad.add i).off+j,none⟩:Addr)=ad.add (i+j):=by
 unfold Addr.add;by_cases hi:i=0
 ·subst hi;simp;omega
 ·rw[if_neg hi,if_neg (by omega)];simp;omega
theorem lock_at {w:World} {A:Option Addr} {l:List LockT} {xs:List Value} (hc:Cells w A xs) (h:LocksC w l xs) {k:Nat} (hk:k<l.length): ∃(ad:Addr) (B:Option Addr) (cap:Nat),A=some ad/\
 w.cell? (ad.add (k*4))=some (.int .u8 l[k].kind)/\w.cell? ⟨(ad.add (k*4)).block,(ad.add (k*4)).off+1,none⟩=some (.string l[k].term)/\w.cell? ⟨(ad.add (k*4)).block,(ad.add (k*4)).off+2,none⟩=some (.int .i64 l[k].n)/\w.cell? ⟨(ad.add (k*4)).block,(ad.add (k*4)).off+3,none⟩=some (.slice B l[k].kids.length cap)/\
 LockC w l[k] [.int .u8 l[k].kind,.string l[k].term,.int .i64 l[k].n,.slice B l[k].kids.length cap]:=by
 obtain⟨ad,he,hcc⟩:=hc (by rw[h.len];omega);obtain⟨cs,h1,h2,h3⟩:=h.at_ k hk;obtain⟨B,cap,ys,hcs,-,-⟩:=h1.shape;subst hcs;refine⟨ad,B,cap,he,hcc _ _ (h3 0 (by decide)), ?_, ?_, ?_,h1⟩
 ·rw[add_next _ _ _ (by decide)];exact hcc _ _ (h3 1 (by decide))
 ·rw[add_next _ _ _ (by decide)];exact hcc _ _ (h3 2 (by decide))
 ·rw[add_next _ _ _ (by decide)];exact hcc _ _ (h3 3 (by decide))
mutual
def smallT:LockT->Prop
 | .node _ t _ l=>t.size<=900000/\l.length<=1000000/\smallTs l
def smallTs:List LockT->Prop
 |[]=>True
 |x::r=>smallT x/\smallTs r
end
theorem smallTs_at: ∀{l:List LockT},smallTs l-> ∀(k:Nat) (hk:k<l.length),smallT l[k]
 |[],_,k,hk=>absurd hk (by simp)
 |x::r,h,0,_=>by unfold smallTs at h;exact h.1
 |x::r,h,k+1,hk=>by unfold smallTs at h;exact smallTs_at h.2 k (by simpa using hk)
theorem smallT_parts {x:LockT} (h:smallT x):x.term.size<=900000/\x.kids.length<=1000000/\smallTs x.kids:=by
 cases x with
 |node k t n l=>unfold smallT at h;exact h
theorem sizeTs_at: ∀{l:List LockT} (k:Nat) (hk:k<l.length),sizeT l[k]<=sizeTs l
 |[],k,hk=>absurd hk (by simp)
 |x::r,0,_=>by unfold sizeTs;show sizeT x<=_;omega
 |x::r,k+1,hk=>by
  unfold sizeTs;have h:k<r.length:=by simpa using hk
  have:=sizeTs_at (l:=r) k h;show sizeT (r[k]'h)<=_;omega
theorem sizeT_kids (x:LockT):sizeT x=sizeTs x.kids+1:=by
 cases x with
 |node k t n l=>unfold sizeT;rfl
end Go.Proofs.YtncniomiplnaaaaGreatDoor
