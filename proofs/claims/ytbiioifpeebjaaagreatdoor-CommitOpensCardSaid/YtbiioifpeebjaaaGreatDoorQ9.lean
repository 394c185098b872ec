/- The document's terms over one term; the program's hash. · Blocks laid one behind the other; a digest held against a term. · Open: a term taken apart. · Public keys. · Locks in memory; which terms are public keys, digests. -/
import Derived.Test.YtbiioifpeebjaaaGreatDoorQ6
import Derived.Test.YtbiioifpeebjaaaGreatDoorQ51
import Derived.Deep.DrawnRows
import Derived.Deep.DeepCutAuto
import Derived.Deep.RegionWith
import Derived.Test.YtbiioifpeebjaaaGreatDoorQ1
set_option linter.all false
namespace Go.Proofs.YtbiioifpeebjaaaGreatDoor
open Go.RowKit
theorem conv_one (op:UInt8) (w:World):(convert 110 9 (.slice (some ⟨w.heap.size,0,none⟩) 1 1)).run Tryz.prog (w.alloc (.cells #[.int .u8 (op.toNat:Int)] 5))= .ok (.string ⟨#[op]⟩) (w.alloc (.cells #[.int .u8 (op.toNat:Int)] 5)):=by
 have h:Cells (w.alloc (.cells #[.int .u8 (op.toNat:Int)] 5)) (some ⟨w.heap.size,0,none⟩) (bv [op]):=fun _=>⟨_,rfl,cell_one_new w _ _⟩
 exact conv_str (l:=[op]) h 1 _ _ 5 Tryz.underlying110 Tryz.underlying5 Tryz.underlying9
theorem cons_list (op:UInt8) (x:ByteArray):((⟨#[op]⟩:ByteArray)++x).data.toList=op::x.data.toList:=by simp[ByteArray.data_append]
theorem cons_size (op:UInt8) (x:ByteArray):((⟨#[op]⟩:ByteArray)++x).size=x.size+1:=by
 have h:=congrArg List.length (cons_list op x);exact h
set_option maxRecDepth 100000 in
set_option maxHeartbeats 8000000 in
theorem hash_any (x:ByteArray) (w:World) (hs:x.size<=900000) (hv:VarsOk w):Calls Tryz.prog 61 #[.string x] w fun e w'=>e= .returned (tupE (oneE 72 x.data.toList))/\Below w.heap.size w w':=by
 have hbA:Below w.heap.size w (w.alloc (zO17 x)):=(Below.refl _ _).alloc (Nat.le_refl _) _;have h72:(⟨#[72]⟩:ByteArray).size=1:=rfl;have hfl:(flat [x]).length=x.size:=by simp[flat]
 have hB:=build_any ⟨#[72]⟩ [x] (some ⟨w.heap.size,0,none⟩) 1 (w.alloc (zO17 x)) (by rw[h72,hfl];omega) (by simp) (fun _=>⟨_,rfl,cell_one_new w _ _⟩) (hv.below hbA);have he:buildE ⟨#[72]⟩ [x]=oneE 72 x.data.toList:=by
  unfold buildE oneE flat;simp
 rw[he]at hB;have HB:=zH hB;have HA:=zH hbA;obtain⟨R,hR⟩: ∃R,oneE 72 x.data.toList=R:=⟨_,rfl⟩;rw[hR]at HB⊢;unfold tupE at HB⊢;clear hB hbA he hv hR;go_enter Tryz.func61,Tryz.ntmps61;go_wp2_with fail;refine HB.out.mono ?_;rintro e w1 ⟨rfl,hb1⟩;have HB1:=zH (HA.out.trans (hb1.mono HA.out.size));clear hb1;go_wp2_with fail;go_ret2;exact⟨rfl,HB1.out⟩
end Go.Proofs.YtbiioifpeebjaaaGreatDoor
namespace Go.Proofs.YtbiioifpeebjaaaGreatDoor
open Go.RowKit
def allocs (w:World):List Obj->World
 |[]=>w
 |o::r=>allocs (w.alloc o) r
theorem allocs_low {B:Nat}: ∀(os:List Obj) (w:World),B<=w.heap.size->Below B w (allocs w os)
 |[],w,_=>Below.refl _ _
 |o::r,w,h=>((Below.refl B w).alloc h o).trans (allocs_low r (w.alloc o) (by simp;omega))
theorem allocs_below (os:List Obj) (w:World):Below w.heap.size w (allocs w os):=allocs_low os w (Nat.le_refl _)
theorem allocs_at: ∀(os:List Obj) (w:World) (k:Nat) (o:Obj),os[k]? =some o->(allocs w os).heap[w.heap.size+k]? =some o
 |[],_,_,_,h=>by simp at h
 |x::r,w,0,o,h=>by
  have hx:x=o:=by simpa using h
  subst hx;have h0:=Go.heap_alloc_new w x;exact((allocs_below r (w.alloc x)).block _ (lt_of_block h0)).trans h0
 |x::r,w,k+1,o,h=>by
  have:=allocs_at r (w.alloc x) k o (by simpa using h);rw[show(w.alloc x).heap.size=w.heap.size+1 by simp]at this;rw[show w.heap.size+(k+1)=w.heap.size+1+k by omega];exact this
theorem cell_of {w:World} {b j:Nat} {cs:Array Value} {T:TypeId} {z:Nat×Nat} {u:Value} (h:w.heap[b]? =some (.cells cs T z)) (hj:cs[j]? =some u):w.cell? ⟨b,j,none⟩=some u:=by
 unfold World.cell?;rw[h];simpa using hj
theorem cN2 {w:World} {b:Nat} {a0 a1:Value} {r:List Value} {T:TypeId} {z:Nat×Nat} (h:w.heap[b]? =some (.cells (a0::a1::r).toArray T z)):w.cell? ⟨b,0,none⟩=some a0/\w.cell? ⟨b,1,none⟩=some a1:=⟨cell_of h (by simp),cell_of h (by simp)⟩
theorem cN4 {w:World} {b:Nat} {a0 a1 a2 a3:Value} {r:List Value} {T:TypeId} {z:Nat×Nat} (h:w.heap[b]? =some (.cells (a0::a1::a2::a3::r).toArray T z)):w.cell? ⟨b,0,none⟩=some a0/\w.cell? ⟨b,1,none⟩=some a1/\w.cell? ⟨b,2,none⟩=some a2/\w.cell? ⟨b,3,none⟩=some a3:=⟨cell_of h (by simp),cell_of h (by simp),cell_of h (by simp),cell_of h (by simp)⟩
theorem cN5 {w:World} {b:Nat} {a0 a1 a2 a3 a4:Value} {r:List Value} {T:TypeId} {z:Nat×Nat} (h:w.heap[b]? =some (.cells (a0::a1::a2::a3::a4::r).toArray T z)):w.cell? ⟨b,0,none⟩=some a0/\w.cell? ⟨b,1,none⟩=some a1/\w.cell? ⟨b,2,none⟩=some a2/\w.cell? ⟨b,3,none⟩=some a3/\w.cell? ⟨b,4,none⟩=some a4:=⟨cell_of h (by simp),cell_of h (by simp),cell_of h (by simp),cell_of h (by simp),cell_of h (by simp)⟩
theorem str_test (d t:ByteArray):(d.toList==t.toList)=(d.data.toList==t.data.toList):=by
 rw[Go.ByteArray.toList_eq,Go.ByteArray.toList_eq]
theorem preB_one (x t:ByteArray) {r1:Int} {d:ByteArray} (h:oneE 72 x.data.toList=(r1,d.data.toList)):preB t x=(decide (r1=0)&&(d.toList==t.toList)):=by
 unfold preB;rw[hashOf_one,h,str_test];simp only;by_cases h0:r1=0
 ·rw[if_pos h0,decide_eq_true h0,Bool.true_and];rfl
 ·rw[if_neg h0,decide_eq_false h0];rfl
end Go.Proofs.YtbiioifpeebjaaaGreatDoor
namespace Go.Proofs.YtbiioifpeebjaaaGreatDoor
open Go.RowKit
def partsV (op n:Int) (text:ByteArray) (ks:Value):Value:= .agg #[.int .u8 op,.int .i64 n,.string text,ks]
def put4 (w:World) (g:Nat) (a b c d:Value):World:=(((w.setCell ⟨g,0,none⟩ a).setCell ⟨g,1,none⟩ b).setCell ⟨g,2,none⟩ c).setCell ⟨g,3,none⟩ d
theorem put4_at {w:World} {g:Nat} {x0 x1 x2 x3:Value} {T:TypeId} {z:Nat×Nat} (h:w.heap[g]? =some (.cells #[x0,x1,x2,x3] T z)) (a b c d:Value):(put4 w g a b c d).heap[g]? =some (.cells #[a,b,c,d] T z):=by
 unfold put4;rw[setCell_cells (setCell_cells (setCell_cells (setCell_cells h 0 a) 1 b) 2 c) 3 d];rfl
theorem put4_fr (w:World) (g:Nat) (a b c d:Value) {F:List Nat} (hg:g∈F):Fr F w (put4 w g a b c d):=by
 unfold put4;exact(((Fr.put0 w g 0 a hg).trans (Fr.put0 _ g 1 b hg) (fun _ h _=>h)).trans (Fr.put0 _ g 2 c hg) (fun _ h _=>h)).trans (Fr.put0 _ g 3 d hg) (fun _ h _=>h)
def PartsAt (w:World) (b:Nat) (op n:Int) (text:ByteArray) (ks:Value):Prop:=w.heap[b]? =some (.cells #[.int .u8 op,.int .i64 n,.string text,ks] 132 (0,0))
theorem PartsAt.cells {w:World} {b:Nat} {op n:Int} {text:ByteArray} {ks:Value} (h:PartsAt w b op n text ks):w.cell? ⟨b,0,none⟩=some (.int .u8 op)/\w.cell? ⟨b,1,none⟩=some (.int .i64 n)/\w.cell? ⟨b,2,none⟩=some (.string text)/\w.cell? ⟨b,3,none⟩=some ks/\ ∀j,w.frozen? ⟨b,j,none⟩=false:=by
 unfold PartsAt at h;refine⟨by simp[World.cell?,h],by simp[World.cell?,h],by simp[World.cell?,h],by simp[World.cell?,h],fun j=>by simp[World.frozen?,h]⟩
theorem PartsAt.fr {F:List Nat} {w w':World} {b:Nat} {op n:Int} {text:ByteArray} {ks:Value} (h:PartsAt w b op n text ks) (hf:Fr F w w') (hb:b∉F):PartsAt w' b op n text ks:=(hf.block b (lt_of_block h) hb).trans h
theorem own_ne_parts {w:World} {base k m b:Nat} {E:TypeId} {v ks:Value} {xs:List Value} {op num:Int} {text:ByteArray} (h:w.ownsRow base E k v m xs) (hE:E≠132) (hr:PartsAt w b op num text ks): ∀g,v.ownBlock=some g->g≠b:=fun g hg e=>by
 obtain⟨cur,hc⟩:=row_kind h hg;subst e;unfold PartsAt at hr;rw[hr]at hc;injection hc with hc;injection hc with h1 h2;exact hE h2.symm
def OpenP (s:ByteArray) (w:World) (e:Ending) (w':World):Prop:=
 match right s.data.toList with
 |some x=> ∃A cap,e= .returned (.tuple #[partsV (byte s.data.toList 0).toNat x.num (textOf s (byte s.data.toList 0) x) (.slice A (pieces s x.kids).length cap),.bool true])/\Cells w' A (strs (pieces s x.kids))/\Below w.heap.size w w'
 |none=> ∃A cap,e= .returned (.tuple #[partsV 0 0 ⟨#[]⟩ (.slice A 0 cap),.bool false])/\Below w.heap.size w w'
set_option maxRecDepth 100000 in
set_option maxHeartbeats 8000000 in
theorem open_gen (s:ByteArray) (ok:Bool) (op n deep:Int) (text:ByteArray) (m:Nat) (xs:List Value) (w:World)
 (hR: ∀W,Below w.heap.size w W->Calls Tryz.prog 74 #[.string s] W fun e w'=> ∃A cap,e= .returned (.tuple #[shapeV op n text (.slice A m cap) deep,.bool ok])/\w'.ownsRow 0 28 1 (.slice A m cap) m xs/\Below W.heap.size W w'):
 Calls Tryz.prog 78 #[.string s] w fun e w'=> ∃A cap,e= .returned (.tuple #[partsV op n text (.slice A m cap),.bool ok])/\Cells w' A xs/\Below w.heap.size w w':=by
 have hbA:Below w.heap.size w (w.alloc (zO13 0 0 ⟨#[]⟩ none 0 0)):=(Below.refl _ _).alloc (Nat.le_refl _) _;have hz:PartsAt (w.alloc (zO13 0 0 ⟨#[]⟩ none 0 0)) w.heap.size 0 0 ⟨#[]⟩ (.slice none 0 0):=Go.heap_alloc_new w _;have HR:=zH (hR _ hbA);unfold shapeV at HR;have HB:=zH hbA;have HZ:=zH hz;clear hbA hz hR;go_enter Tryz.func78,Tryz.ntmps78;go_wp2_with fail;refine HR.out.mono ?_;rintro e w1 ⟨A,cap,rfl,hc1,hb1⟩;have hb2:Below w1.heap.size w1 (w1.alloc (zO1 op n text A m cap deep)):=(Below.refl _ _).alloc (Nat.le_refl _) _;have hz2:=(HZ.out.fr (Fr.below (F:=[]) hb1) (by simp)).fr (Fr.below (F:=[]) hb2) (by simp);have hB2:=(HB.out.trans (hb1.mono HB.out.size)).trans (hb2.mono (Nat.le_trans HB.out.size hb1.size));have hc2:=own_below hc1 hb2;obtain⟨z0,z1,z2,z3,zf⟩:=hz2.cells;have HZ2:=zH hz2;have HB2:=zH hB2;have HC2:=zH hc2;clear hz2 hB2 hc2 hc1 hb1 hb2;go_wp2_with fail;change bodyPost _ _ _ _ _ (put4 (w1.alloc (zO1 op n text A m cap deep)) w.heap.size (.int .u8 op) (.int .i64 n) (.string text) (.slice A m cap));have hA:=put4_at HZ2.out (.int .u8 op) (.int .i64 n) (.string text) (.slice A m cap);have hF:=HB2.out.trans ((put4_fr _ w.heap.size (.int .u8 op) (.int .i64 n) (.string text) (.slice A m cap) (F:=[w.heap.size]) (List.mem_singleton.2 rfl)).toBelowOf (B:=w.heap.size) HB2.out.size (fun i hi=>by simp at hi;omega));have hro:=own_fr HC2.out (put4_fr _ w.heap.size (.int .u8 op) (.int .i64 n) (.string text) (.slice A m cap) (F:=[w.heap.size]) (List.mem_singleton.2 rfl)) (fun g hg=>by simpa using own_ne_parts HC2.out (by decide) HZ2.out g hg);generalize put4 (w1.alloc (zO1 op n text A m cap deep)) w.heap.size (.int .u8 op) (.int .i64 n) (.string text) (.slice A m cap)=Wf at hA hF hro⊢;obtain⟨r0,r1,r2,r3,-⟩:=PartsAt.cells (show PartsAt Wf w.heap.size op n text (.slice A m cap)from hA);exact bodyPost_ret (v:= .tuple #[partsV op n text (.slice A m cap),.bool ok]) (by simp[results,Tryz.results78,go_sem,r0,r1,r2,r3,partsV]) rfl ⟨A,cap,rfl,cells_of_own hro,hF⟩
theorem open_any (s:ByteArray) (w:World) (hs:s.size<=1000000) (hv:VarsOk w):Calls Tryz.prog 78 #[.string s] w (OpenP s w):=by
 have hR:=fun W (hW:Below w.heap.size w W)=>read_any s W hs (hv.below hW)
 unfold ReadP at hR;unfold OpenP;cases hq:right s.data.toList with
 |none=>
  simp only[hq]at hR;refine(open_gen s false 0 0 0 ⟨#[]⟩ 0 [] w fun W hW=>(hR W hW).mono ?_).mono ?_
  ·rintro e w' ⟨rfl,hb⟩;exact⟨none,0,rfl,World.ownsRow_nil _ _ _ _,hb⟩
  ·rintro e w' ⟨A,cap,he,-,hb⟩;exact⟨A,cap,he,hb⟩
 |some x=>
  simp only[hq]at hR;refine(open_gen s true ((byte s.data.toList 0).toNat:Int) x.num x.deep (textOf s (byte s.data.toList 0) x) (pieces s x.kids).length (strs (pieces s x.kids)) w fun W hW=>(hR W hW).mono ?_).mono ?_
  ·rintro e w' ⟨⟨A,cap,rfl,ho⟩,hb⟩;exact⟨A,cap,rfl,ho,hb⟩
  ·rintro e w' h;exact h
end Go.Proofs.YtbiioifpeebjaaaGreatDoor
namespace Go.Proofs.YtbiioifpeebjaaaGreatDoor
open Go.RowKit
attribute [local go_sem ↓] Go.wp_at_zero Go.wp_at_succ
def bs (l:List UInt8):ByteArray:=⟨l.toArray⟩
theorem bs_list (l:List UInt8):(bs l).data.toList=l:=by simp[bs]
theorem bs_of (s:ByteArray):bs s.data.toList=s:=(str_eq s).symm
theorem bs_append (a b:List UInt8):bs a++bs b=bs (a++b):=by
 have h:(bs a++bs b).data.toList=(bs (a++b)).data.toList:=by rw[ByteArray.data_append,Array.toList_append,bs_list,bs_list,bs_list]
 rw[<-bs_of (bs a++bs b),h,bs_list]
theorem bs_bind (k:List UInt8) (t:ByteArray):bs [76]++bs k++t=bs (76::(k++t.data.toList)):=by
 have h:=bs_append (76::k) t.data.toList;rw[bs_of]at h;rw[bs_append];exact h
structure KeyInv (w:World) (b:Nat) (A:Option Addr) (l:List ByteArray) (cap:Nat) (W:World):Prop where
 below:Below w.heap.size w W
 vars:VarsOk W
 ks:W.cell? ⟨b,3,none⟩=some (.slice A l.length cap)
 row:Cells W A (strs l)
theorem KeyInv.next {w W W':World} {b cap:Nat} {A:Option Addr} {l:List ByteArray} (h:KeyInv w b A l cap W) (hb:Below W.heap.size W W'):KeyInv w b A l cap W':=
 ⟨h.below.trans (hb.mono h.below.size),h.vars.below hb,cell_below hb h.ks,Cells.below h.row hb⟩
theorem KeyInv.drew {w W:World} {b cap:Nat} {A:Option Addr} {l:List ByteArray} (h:KeyInv w b A l cap W):KeyInv w b A l cap W.drew:=
 ⟨⟨h.below.os,h.below.tape,h.below.output,h.below.size,h.below.block⟩,h.vars,h.ks,h.row⟩
theorem KeyInv.first {w W:World} {b cap:Nat} {A:Option Addr} {l:List ByteArray} (h:KeyInv w b A l cap W) (h0:0<l.length): ∃ad,A=some ad/\W.cell? ad=some (.string l[0]):=by
 obtain⟨ad,he,hc⟩:=strs_at h.row h0;exact⟨ad,he,by rw[show ad.add 0=ad by simp[Addr.add]]at hc;exact hc⟩
theorem KeyInv.cells {w W:World} {b cap:Nat} {ad:Addr} {l:List ByteArray} (h:KeyInv w b (some ad) l cap W) (h0:1<l.length):W.cell? ⟨b,3,none⟩=some (.slice (some ad) l.length cap)/\W.cell? ad=some (.string l[0])/\W.cell? ⟨ad.block,ad.off+1,none⟩=some (.string l[1]):=by
 obtain⟨ad',he,hc⟩:=strs_at h.row (show 0<l.length by omega);obtain rfl:=Option.some.inj he;obtain⟨ad',he,hc1⟩:=strs_at h.row h0;obtain rfl:=Option.some.inj he;refine⟨h.ks, ?_,hc1⟩;rw[show ad.add 0=ad by simp[Addr.add]]at hc;exact hc
set_option maxRecDepth 100000 in
set_option maxHeartbeats 8000000 in
theorem key_plain (s:ByteArray) (w:World) (hsz:s.size<=1000000) (hs:0<s.size) (h1:byte s.data.toList 0≠86) (h2:byte s.data.toList 0≠75):
 Calls Tryz.prog 79 #[.string s] w fun e w'=>e= .returned (.string (bs (80::s.data.toList)))/\Below w.heap.size w w':=by
 have hix:=fun W=>index_term0 hs W
 have he:bs [80]++s=bs (80::s.data.toList):=by
  have:=bs_append [80] s.data.toList;rw[bs_of]at this;exact this
 have HE:=zH he;obtain⟨x,hx⟩: ∃x:Int,((byte s.data.toList 0).toNat:Int)=x:=⟨_,rfl⟩;have g1:(x !=86)=true:=bne_iff_ne.2 fun h=>h1 ((opb hx 86).2 h)
 have g2:(x !=75)=true:=bne_iff_ne.2 fun h=>h2 ((opb hx 75).2 h)
 simp only[hx]at hix;clear h1 h2 hx he;go_enter Tryz.func79,Tryz.ntmps79;go_wp2_with fail;go_ret;rw[<-HE.out];exact⟨rfl,Below.refl _ _⟩
set_option maxRecDepth 100000 in
set_option maxHeartbeats 8000000 in
theorem key_join (s:ByteArray) (x:Cut) (k0 k1:List UInt8) (T0 T1:ByteArray) (w:World) (hsz:s.size<=1000000) (hq:right s.data.toList=some x) (hb:byte s.data.toList 0=86) (hp:pieces s x.kids=[T0,T1]) (hv:VarsOk w) (hk0:k0.length<=200000) (hk1:k1.length<=200000)
 (H0: ∀W,VarsOk W->Calls Tryz.prog 79 #[.string T0] W fun e w'=>e= .returned (.string (bs k0))/\Below W.heap.size W w')
 (H1: ∀W,VarsOk W->Calls Tryz.prog 79 #[.string T1] W fun e w'=>e= .returned (.string (bs k1))/\Below W.heap.size W w'):
 Calls Tryz.prog 79 #[.string s] w fun e w'=>e= .returned (.string (bs (87::(k0++k1))))/\Below w.heap.size w w':=by
 have hs:0<s.size:=right_pos hq;have hix:=fun W=>index_term0 hs W
 rw[hb]at hix;have hO:=open_any s w hsz hv;unfold OpenP at hO;rw[hq,hb]at hO;simp only at hO;rw[hp]at hO;unfold partsV at hO;have HO:=zH hO;have HE:=zH (show bs [87]++bs k0++bs k1=bs (87::(k0++k1)) by rw[bs_append,bs_append];rfl);have HV:=zH hv;have HK0:=zH H0;have HK1:=zH H1;clear hO hb hp hv hq H0 H1;go_enter Tryz.func79,Tryz.ntmps79;go_wp2_with fail;refine HO.out.mono ?_;rintro e w1 ⟨A,cap,rfl,hc1,hb1⟩;obtain⟨W,hW⟩: ∃W,w1.alloc (zO13 86 (x.num:Int) (textOf s 86 x) A 2 cap)=W:=⟨_,rfl⟩;have hI:KeyInv w w1.heap.size A [T0,T1] cap W:=by
  have hb2:Below w1.heap.size w1 W:=by rw[<-hW];exact(Below.refl _ _).alloc (Nat.le_refl _) _
  refine⟨hb1.trans (hb2.mono hb1.size),(HV.out.below hb1).below hb2, ?_,Cells.below hc1 hb2⟩;rw[<-hW];exact alloc_cells 3 _ rfl
 have q0:W.cell? ⟨w1.heap.size,0,none⟩=some (.int .u8 86):=by rw[<-hW];exact alloc_cells 0 _ rfl
 obtain⟨ad,rfl,-⟩:=hI.first (by simp);obtain⟨a0,a1,a2⟩:W.cell? ⟨w1.heap.size,3,none⟩=some (.slice (some ad) 2 cap)/\W.cell? ad=some (.string T0)/\W.cell? ⟨ad.block,ad.off+1,none⟩=some (.string T1):=hI.cells (by simp);have HI:=zH hI.drew;have z0:(bs k0).size<=200000:=by rw[show(bs k0).size=k0.length by simp[bs,ByteArray.size]];exact hk0
 have z1:(bs k1).size<=200000:=by rw[show(bs k1).size=k1.length by simp[bs,ByteArray.size]];exact hk1
 have z3: ¬(9223372036854775807<1+(bs k0).size):=by omega
 have z4: ¬(9223372036854775807<1+(bs k0).size+(bs k1).size):=by omega
 clear hc1 hb1 hI;have HW:=zH hW;clear hW;go_wp2_with fail;rw[HW.out];go_region_held3 (fun w'=>w'.cell? ⟨w1.heap.size,3,none⟩=some (.slice (some ad) 2 cap)/\w'.cell? ad=some (.string T0)/\w'.cell? ⟨ad.block,ad.off+1,none⟩=some (.string T1))
  (first|exact⟨a0,a1,a2⟩|exact⟨b0,b1,b2⟩|exact⟨d0,d1,d2⟩)
  (first
   |(go_at_call 79;(with_reducible refine(HK0.out _ HI.out.vars).mono ?_);rintro e wa ⟨rfl,hba⟩;have HI1:=zH (HI.out.next hba);obtain⟨b0,b1,b2⟩:wa.cell? ⟨w1.heap.size,3,none⟩=some (.slice (some ad) 2 cap)/\wa.cell? ad=some (.string T0)/\wa.cell? ⟨ad.block,ad.off+1,none⟩=some (.string T1):=HI1.out.cells (by simp);clear hba)
   |(go_at_call 79;(with_reducible refine(HK1.out _ HI1.out.vars).mono ?_);rintro e wb ⟨rfl,hbb⟩;have HI2:=zH (HI1.out.next hbb);obtain⟨d0,d1,d2⟩:wb.cell? ⟨w1.heap.size,3,none⟩=some (.slice (some ad) 2 cap)/\wb.cell? ad=some (.string T0)/\wb.cell? ⟨ad.block,ad.off+1,none⟩=some (.string T1):=HI2.out.cells (by simp);clear hbb))
 all_goals (go_wp2_with fail)
 all_goals go_ret
 all_goals exact⟨by rw[<-HE.out];rfl,HI2.out.below⟩
set_option maxRecDepth 100000 in
set_option maxHeartbeats 8000000 in
theorem key_bind (s:ByteArray) (x:Cut) (k0:List UInt8) (T0 T1:ByteArray) (w:World) (hsz:s.size<=1000000) (hq:right s.data.toList=some x) (hb:byte s.data.toList 0=75) (hp:pieces s x.kids=[T0,T1]) (hv:VarsOk w) (hk0:k0.length<=200000) (hk1:T1.size<=1000000)
 (H0: ∀W,VarsOk W->Calls Tryz.prog 79 #[.string T0] W fun e w'=>e= .returned (.string (bs k0))/\Below W.heap.size W w'):
 Calls Tryz.prog 79 #[.string s] w fun e w'=>e= .returned (.string (bs (76::(k0++T1.data.toList))))/\Below w.heap.size w w':=by
 have hs:0<s.size:=right_pos hq;have hix:=fun W=>index_term0 hs W
 rw[hb]at hix;have hO:=open_any s w hsz hv;unfold OpenP at hO;rw[hq,hb]at hO;simp only at hO;rw[hp]at hO;unfold partsV at hO;have HO:=zH hO;have HE:=zH (bs_bind k0 T1);have HV:=zH hv;have HK0:=zH H0;clear hO hb hp hv hq H0;go_enter Tryz.func79,Tryz.ntmps79;go_wp2_with fail;refine HO.out.mono ?_;rintro e w1 ⟨A,cap,rfl,hc1,hb1⟩;obtain⟨W,hW⟩: ∃W,w1.alloc (zO13 75 (x.num:Int) (textOf s 75 x) A 2 cap)=W:=⟨_,rfl⟩;have hI:KeyInv w w1.heap.size A [T0,T1] cap W:=by
  have hb2:Below w1.heap.size w1 W:=by rw[<-hW];exact(Below.refl _ _).alloc (Nat.le_refl _) _
  refine⟨hb1.trans (hb2.mono hb1.size),(HV.out.below hb1).below hb2, ?_,Cells.below hc1 hb2⟩;rw[<-hW];exact alloc_cells 3 _ rfl
 have q0:W.cell? ⟨w1.heap.size,0,none⟩=some (.int .u8 75):=by rw[<-hW];exact alloc_cells 0 _ rfl
 obtain⟨ad,rfl,-⟩:=hI.first (by simp);obtain⟨a0,a1,a2⟩:W.cell? ⟨w1.heap.size,3,none⟩=some (.slice (some ad) 2 cap)/\W.cell? ad=some (.string T0)/\W.cell? ⟨ad.block,ad.off+1,none⟩=some (.string T1):=hI.cells (by simp);have HI:=zH hI.drew;have z0:(bs k0).size<=200000:=by rw[show(bs k0).size=k0.length by simp[bs,ByteArray.size]];exact hk0
 have z3: ¬(9223372036854775807<1+(bs k0).size):=by omega
 have z4: ¬(9223372036854775807<1+(bs k0).size+T1.size):=by omega
 clear hc1 hb1 hI;have HW:=zH hW;clear hW;go_wp2_with fail;rw[HW.out];go_region_held3 (fun w'=>w'.cell? ⟨w1.heap.size,3,none⟩=some (.slice (some ad) 2 cap)/\w'.cell? ad=some (.string T0)/\w'.cell? ⟨ad.block,ad.off+1,none⟩=some (.string T1))
  (first|exact⟨a0,a1,a2⟩|exact⟨b0,b1,b2⟩)
  (first
   |(go_at_call 79;(with_reducible refine(HK0.out _ HI.out.vars).mono ?_);rintro e wa ⟨rfl,hba⟩;have HI1:=zH (HI.out.next hba);obtain⟨b0,b1,b2⟩:wa.cell? ⟨w1.heap.size,3,none⟩=some (.slice (some ad) 2 cap)/\wa.cell? ad=some (.string T0)/\wa.cell? ⟨ad.block,ad.off+1,none⟩=some (.string T1):=HI1.out.cells (by simp);clear hba))
 all_goals (go_wp2_with fail)
 all_goals go_ret
 all_goals exact⟨by rw[<-HE.out];rfl,HI1.out.below⟩
theorem two_kids {s:List UInt8} {x:Cut} (h:right s=some x) (hb:byte s 0=86\/byte s 0=75):x.kids.length=3:=by
 have hne:byte s 0≠110/\byte s 0≠116:=by rcases hb with h|h<;>rw[h]<;>decide
 obtain⟨m,nx,hh,hkl,-,-,-,-⟩:=right_kids h hne.1 hne.2;have hm:m=2:=by
  rcases hb with h|h<;>(rw[h]at hh;injection hh with hh;injection hh with hh _;exact hh.symm)
 omega
theorem pieces_two (s:ByteArray) (l:List Nat) (h:l.length=3):pieces s l=[s.extract (l.getD 0 0) (l.getD 1 0),s.extract (l.getD 1 0) (l.getD 2 0)]:=by
 match l,h with
 |[a,b,c],_=>rfl
theorem key_any: ∀(n:Nat) (s:ByteArray) (w:World),s.size<=n->s.size<=16384->rightB s.data.toList=true->VarsOk w->Calls Tryz.prog 79 #[.string s] w fun e w'=>e= .returned (.string (bs (keyF n s.data.toList)))/\Below w.heap.size w w'
 |0,s,w,hn,_,hr,_=>by
  obtain⟨x,hx⟩:=Option.isSome_iff_exists.1 hr;have:=right_pos hx;have e:s.data.toList.length=s.size:=rfl;omega
 |n+1,s,w,hn,hsz,hr,hv=>by
  obtain⟨x,hx⟩:=Option.isSome_iff_exists.1 hr;have hpos:=right_pos hx;have e:s.data.toList.length=s.size:=rfl;by_cases hb:byte s.data.toList 0=86\/byte s.data.toList 0=75
  ·have hk:=two_kids hx hb;have hne:byte s.data.toList 0≠110/\byte s.data.toList 0≠116:=by rcases hb with h|h<;>rw[h]<;>decide
   obtain⟨m,nx,hh,hkl,-,-,-,hkids⟩:=right_kids hx hne.1 hne.2;have hm:m=2:=by omega
   subst hm;obtain⟨a1,a2,a3,a4⟩:=hkids 0 (by omega);obtain⟨b1,b2,b3,b4⟩:=hkids 1 (by omega);have e1:x.kids.getD (0+1) 0=x.kids.getD 1 0:=rfl;have e2:x.kids.getD (1+1) 0=x.kids.getD 2 0:=rfl;rw[e1]at a2 a3 a4;rw[e2]at b2 b3 b4;have hp:=pieces_two s x.kids hk;have s0:(s.extract (x.kids.getD 0 0) (x.kids.getD 1 0)).size<=n:=by rw[ByteArray.size_extract];omega
   have s1:(s.extract (x.kids.getD 1 0) (x.kids.getD 2 0)).size<=n:=by rw[ByteArray.size_extract];omega
   have s0':(s.extract (x.kids.getD 0 0) (x.kids.getD 1 0)).size<=16384:=by rw[ByteArray.size_extract];omega
   have s1':(s.extract (x.kids.getD 1 0) (x.kids.getD 2 0)).size<=16384:=by rw[ByteArray.size_extract];omega
   have l0:=ext_list s (x.kids.getD 0 0) (x.kids.getD 1 0);have l1:=ext_list s (x.kids.getD 1 0) (x.kids.getD 2 0);have k0:=fun W hv=>key_any n (s.extract (x.kids.getD 0 0) (x.kids.getD 1 0)) W s0 s0' (by rw[l0];exact a4) hv
   have k1:=fun W hv=>key_any n (s.extract (x.kids.getD 1 0) (x.kids.getD 2 0)) W s1 s1' (by rw[l1];exact b4) hv
   have z0:=keyF_len n (s.extract (x.kids.getD 0 0) (x.kids.getD 1 0)).data.toList;have z1:=keyF_len n (s.extract (x.kids.getD 1 0) (x.kids.getD 2 0)).data.toList;have y0:(s.extract (x.kids.getD 0 0) (x.kids.getD 1 0)).data.toList.length=(s.extract (x.kids.getD 0 0) (x.kids.getD 1 0)).size:=rfl;have y1:(s.extract (x.kids.getD 1 0) (x.kids.getD 2 0)).data.toList.length=(s.extract (x.kids.getD 1 0) (x.kids.getD 2 0)).size:=rfl;rcases hb with hb|hb
   ·have:=key_join s x _ _ _ _ w (by omega) hx hb hp hv (by omega) (by omega) k0 k1;have hK:keyF (n+1) s.data.toList=87::(keyF n (s.extract (x.kids.getD 0 0) (x.kids.getD 1 0)).data.toList++keyF n (s.extract (x.kids.getD 1 0) (x.kids.getD 2 0)).data.toList):=by
     rw[l0,l1]
     conv=>lhs;unfold keyF
     rw[if_pos (.inl hb),hx];simp only;rw[if_pos hb]
    rw[hK];exact this
   ·have:=key_bind s x _ _ _ w (by omega) hx hb hp hv (by omega) (by omega) k0;have hK:keyF (n+1) s.data.toList=76::(keyF n (s.extract (x.kids.getD 0 0) (x.kids.getD 1 0)).data.toList++(s.extract (x.kids.getD 1 0) (x.kids.getD 2 0)).data.toList):=by
     rw[l0,l1]
     conv=>lhs;unfold keyF
     rw[if_pos (.inr hb),hx];simp only;rw[if_neg (by rw[hb];decide)]
    rw[hK];exact this
  ·have hK:keyF (n+1) s.data.toList=80::s.data.toList:=by
    unfold keyF;rw[if_neg hb]
   rw[hK];exact key_plain s w (by omega) (by omega) (fun h=>hb (.inl h)) (fun h=>hb (.inr h))
end Go.Proofs.YtbiioifpeebjaaaGreatDoor
namespace Go.Proofs.YtbiioifpeebjaaaGreatDoor
open Go.RowKit
theorem bne_nat {c:UInt8} {x:Int} (hx:(c.toNat:Int)=x) (d:UInt8) (h:c≠d):(x==(d.toNat:Int))=false:=beq_false_of_ne fun e=>h (UInt8.toNat_inj.1 (by omega))
theorem open_op (s:ByteArray) (w:World) (hs:s.size<=1000000) (hv:VarsOk w):Calls Tryz.prog 78 #[.string s] w fun e w'=> ∃(n:Int) (text:ByteArray) (A:Option Addr) (m cap:Nat) (ok:Bool),e= .returned (.tuple #[partsV (if rightB s.data.toList then((byte s.data.toList 0).toNat:Int)else 0) n text (.slice A m cap),.bool ok])/\Below w.heap.size w w':=by
 refine(open_any s w hs hv).mono fun e w' h=> ?_
 unfold OpenP at h;unfold rightB;cases hq:right s.data.toList with
 |none=>
  rw[hq]at h;obtain⟨A,cap,he,hb⟩:=h;exact⟨0,⟨#[]⟩,A,0,cap,false,he,hb⟩
 |some x=>
  rw[hq]at h;obtain⟨A,cap,he,-,hb⟩:=h;exact⟨_,_,A,_,cap,true,he,hb⟩
set_option maxRecDepth 100000 in
set_option maxHeartbeats 8000000 in
theorem lhash_any (s:ByteArray) (w:World) (hs:s.size<=1000000) (hv:VarsOk w):Calls Tryz.prog 76 #[.string s] w fun e w'=>e= .returned (.bool (hashB s.data.toList))/\Below w.heap.size w w':=by
 have hO:=open_op s w hs hv;obtain⟨op,hop⟩: ∃op:Int,(if rightB s.data.toList then((byte s.data.toList 0).toNat:Int)else 0)=op:=⟨_,rfl⟩;have hh:hashB s.data.toList=(op==72):=by
  unfold hashB;rw[<-hop];cases rightB s.data.toList with
  |false=>rfl
  |true=>
   rw[if_pos rfl,Bool.true_and];by_cases h:byte s.data.toList 0=72
   ·rw[h];rfl
   ·rw[beq_false_of_ne h];exact(bne_nat rfl 72 h).symm
 rw[hop]at hO;unfold partsV at hO;have HO:=zH hO;have HH:=zH hh;clear hO hop hh hv;go_enter Tryz.func76,Tryz.ntmps76;go_wp2_with fail;refine HO.out.mono ?_;rintro e w1 ⟨n,text,A,m,cap,ok,rfl,hb1⟩;have HB1:=zH (hb1.alloc hb1.size (zO13 op n text A m cap));clear hb1;go_wp2_with fail;go_ret;exact⟨ret_bool HH.out.symm,HB1.out⟩
set_option maxRecDepth 100000 in
set_option maxHeartbeats 8000000 in
theorem lpub_any (s:ByteArray) (w:World) (hs:s.size<=1000000) (hv:VarsOk w):Calls Tryz.prog 75 #[.string s] w fun e w'=>e= .returned (.bool (pubB s.data.toList))/\Below w.heap.size w w':=by
 have hO:=open_op s w hs hv;obtain⟨op,hop⟩: ∃op:Int,(if rightB s.data.toList then((byte s.data.toList 0).toNat:Int)else 0)=op:=⟨_,rfl⟩;have hh:pubB s.data.toList=(decide (op=80)||decide (op=87)||decide (op=76)):=by
  unfold pubB;rw[<-hop];cases rightB s.data.toList with
  |false=>rfl
  |true=>
   rw[if_pos rfl,Bool.true_and];exact isPub_iff _
 rw[hop]at hO;unfold partsV at hO;have HO:=zH hO;have HH:=zH hh;clear hO hop hh hv;by_cases h1:op=80
 ·subst h1;go_enter Tryz.func75,Tryz.ntmps75;go_wp2_with fail;refine HO.out.mono ?_;rintro e w1 ⟨n,text,A,m,cap,ok,rfl,hb1⟩;have HB1:=zH (hb1.alloc hb1.size (zO13 80 n text A m cap));clear hb1;go_wp2_with fail;go_ret;rw[HH.out];exact⟨by simp,HB1.out⟩
 have g1:(op==80)=false:=beq_false_of_ne h1;by_cases h2:op=87
 ·subst h2;clear g1;go_enter Tryz.func75,Tryz.ntmps75;go_wp2_with fail;refine HO.out.mono ?_;rintro e w1 ⟨n,text,A,m,cap,ok,rfl,hb1⟩;have HB1:=zH (hb1.alloc hb1.size (zO13 87 n text A m cap));clear hb1;go_wp2_with fail;go_ret;rw[HH.out];exact⟨by simp,HB1.out⟩
 have g2:(op==87)=false:=beq_false_of_ne h2;go_enter Tryz.func75,Tryz.ntmps75;go_wp2_with fail;refine HO.out.mono ?_;rintro e w1 ⟨n,text,A,m,cap,ok,rfl,hb1⟩;have HB1:=zH (hb1.alloc hb1.size (zO13 op n text A m cap));clear hb1;go_wp2_with fail;go_ret;rw[HH.out];exact⟨by by_cases h3:op=76<;>simp[h1,h2,h3],HB1.out⟩
mutual
def LockC (w:World):LockT->List Value->Prop
 | .node k t n l,cs=> ∃(A:Option Addr) (cap:Nat) (xs:List Value),cs=[.int .u8 k,.string t,.int .i64 n,.slice A l.length cap]/\Cells w A xs/\LocksC w l xs
def LocksC (w:World):List LockT->List Value->Prop
 |[],xs=>xs=[]
 |x::r,xs=> ∃cs rest,xs=cs++rest/\LockC w x cs/\LocksC w r rest
end
mutual
theorem LockC.below {w w':World} (hb:Below w.heap.size w w'): ∀(x:LockT) (cs:List Value),LockC w x cs->LockC w' x cs
 | .node k t n l,cs,h=>by
  unfold LockC at h⊢;obtain⟨A,cap,xs,h1,h2,h3⟩:=h;exact⟨A,cap,xs,h1,Cells.below h2 hb,LocksC.below hb l xs h3⟩
theorem LocksC.below {w w':World} (hb:Below w.heap.size w w'): ∀(l:List LockT) (xs:List Value),LocksC w l xs->LocksC w' l xs
 |[],xs,h=>by unfold LocksC at h⊢;exact h
 |x::r,xs,h=>by
  unfold LocksC at h⊢;obtain⟨cs,rest,h1,h2,h3⟩:=h;exact⟨cs,rest,h1,LockC.below hb x cs h2,LocksC.below hb r rest h3⟩
end
theorem LockC.shape {w:World} {x:LockT} {cs:List Value} (h:LockC w x cs): ∃(A:Option Addr) (cap:Nat) (xs:List Value),cs=[.int .u8 x.kind,.string x.term,.int .i64 x.n,.slice A x.kids.length cap]/\Cells w A xs/\LocksC w x.kids xs:=by
 cases x with
 |node k t n l=>
  unfold LockC at h;exact h
theorem LocksC.at_ {w:World}: ∀{l:List LockT} {xs:List Value},LocksC w l xs-> ∀(k:Nat) (hk:k<l.length),∃cs,LockC w l[k] cs/\cs.length=4/\ ∀j,j<4->xs[k*4+j]? =cs[j]?
 |[],xs,_,k,hk=>absurd hk (by simp)
 |x::r,xs,h,k,hk=>by
  unfold LocksC at h;obtain⟨cs,rest,rfl,h2,h3⟩:=h;obtain⟨A,cap,ys,hcs,-,-⟩:=h2.shape;have hl:cs.length=4:=by rw[hcs];rfl
  cases k with
  |zero=>exact⟨cs,h2,hl,fun j hj=>by rw[Nat.zero_mul,Nat.zero_add,List.getElem?_append_left (by omega)]⟩
  |succ k=>
   obtain⟨ds,g1,g2,g3⟩:=LocksC.at_ h3 k (by simpa using hk);refine⟨ds,g1,g2,fun j hj=> ?_⟩;rw[List.getElem?_append_right (by omega),hl,show(k+1)*4+j - 4=k*4+j by omega];exact g3 j hj
theorem LocksC.len {w:World}: ∀{l:List LockT} {xs:List Value},LocksC w l xs->xs.length=l.length*4
 |[],xs,h=>by unfold LocksC at h;subst h;rfl
 |x::r,xs,h=>by
  unfold LocksC at h;obtain⟨cs,rest,rfl,h2,h3⟩:=h;obtain⟨A,cap,ys,hcs,-,-⟩:=h2.shape;have hl:cs.length=4:=by rw[hcs];rfl
  rw[List.length_append,hl,LocksC.len h3,List.length_cons];omega
theorem add_next (ad:Addr) (i j:Nat) (hj:0<j):(⟨(ad.add i).block,(ad.add i).off+j,none⟩:Addr)=ad.add (i+j):=by
 unfold Addr.add;by_cases hi:i=0
 ·subst hi;simp;omega
 ·rw[if_neg hi,if_neg (by omega)];simp;omega
theorem lock_at {w:World} {A:Option Addr} {l:List LockT} {xs:List Value} (hc:Cells w A xs) (h:LocksC w l xs) {k:Nat} (hk:k<l.length): ∃(ad:Addr) (B:Option Addr) (cap:Nat),A=some ad/\
 w.cell? (ad.add (k*4))=some (.int .u8 l[k].kind)/\w.cell? ⟨(ad.add (k*4)).block,(ad.add (k*4)).off+1,none⟩=some (.string l[k].term)/\w.cell? ⟨(ad.add (k*4)).block,(ad.add (k*4)).off+2,none⟩=some (.int .i64 l[k].n)/\w.cell? ⟨(ad.add (k*4)).block,(ad.add (k*4)).off+3,none⟩=some (.slice B l[k].kids.length cap)/\
 LockC w l[k] [.int .u8 l[k].kind,.string l[k].term,.int .i64 l[k].n,.slice B l[k].kids.length cap]:=by
 obtain⟨ad,he,hcc⟩:=hc (by rw[h.len];omega);obtain⟨cs,h1,h2,h3⟩:=h.at_ k hk;obtain⟨B,cap,ys,hcs,-,-⟩:=h1.shape;subst hcs;refine⟨ad,B,cap,he,hcc _ _ (h3 0 (by decide)), ?_, ?_, ?_,h1⟩
 ·rw[add_next _ _ _ (by decide)];exact hcc _ _ (h3 1 (by decide))
 ·rw[add_next _ _ _ (by decide)];exact hcc _ _ (h3 2 (by decide))
 ·rw[add_next _ _ _ (by decide)];exact hcc _ _ (h3 3 (by decide))
mutual
def smallT:LockT->Prop
 | .node _ t _ l=>t.size<=900000/\l.length<=1000000/\smallTs l
def smallTs:List LockT->Prop
 |[]=>True
 |x::r=>smallT x/\smallTs r
end
theorem smallTs_at: ∀{l:List LockT},smallTs l-> ∀(k:Nat) (hk:k<l.length),smallT l[k]
 |[],_,k,hk=>absurd hk (by simp)
 |x::r,h,0,_=>by unfold smallTs at h;exact h.1
 |x::r,h,k+1,hk=>by unfold smallTs at h;exact smallTs_at h.2 k (by simpa using hk)
theorem smallT_parts {x:LockT} (h:smallT x):x.term.size<=900000/\x.kids.length<=1000000/\smallTs x.kids:=by
 cases x with
 |node k t n l=>unfold smallT at h;exact h
theorem sizeTs_at: ∀{l:List LockT} (k:Nat) (hk:k<l.length),sizeT l[k]<=sizeTs l
 |[],k,hk=>absurd hk (by simp)
 |x::r,0,_=>by unfold sizeTs;show sizeT x<=_;omega
 |x::r,k+1,hk=>by
  unfold sizeTs;have h:k<r.length:=by simpa using hk
  have:=sizeTs_at (l:=r) k h;show sizeT (r[k]'h)<=_;omega
theorem sizeT_kids (x:LockT):sizeT x=sizeTs x.kids+1:=by
 cases x with
 |node k t n l=>unfold sizeT;rfl
end Go.Proofs.YtbiioifpeebjaaaGreatDoor
