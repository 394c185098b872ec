/- The plain locks: by a signature, a preimage, a time. · Locks of several parts: the row is copied. · The lines of a commitment: plain, and in memory. · The transaction of lines. -/
import Derived.Test.YtbiioifpeebjaaaGreatDoorQ2
import Derived.Test.YtbiioifpeebjaaaGreatDoorQ1
import Derived.Test.YtbiioifpeebjaaaGreatDoorQ9
import Derived.Test.YtbiioifpeebjaaaGreatDoorQ4
import Derived.Lib.LazyBuf
import Derived.Test.YtbiioifpeebjaaaGreatDoorQ11
import Derived.Test.YtbiioifpeebjaaaGreatDoorQ12
import Derived.Test.YtbiioifpeebjaaaGreatDoorQ13
set_option linter.all false
namespace Go.Proofs.YtbiioifpeebjaaaGreatDoor
open Go.RowKit
def lockV (k:Int) (t:ByteArray) (n:Int) (A:Option Addr) (len cap:Nat):Value:= .agg #[.int .u8 k,.string t,.int .i64 n,.slice A len cap]
set_option maxRecDepth 100000 in
set_option maxHeartbeats 2000000 in
theorem sig_any (t:ByteArray) (w:World):Calls Tryz.prog 23 #[.string t] w fun e w'=>e= .returned (lockV 1 t 0 none 0 0)/\Below w.heap.size w w':=by
 go_enter Tryz.func23,Tryz.ntmps23;go_wp2_with fail;exact bodyPost_ret (v:=lockV 1 t 0 none 0 0) (by simp[results,Tryz.results23,go_sem,lockV]) rfl ⟨rfl,((Below.refl _ _).alloc (Nat.le_refl _) _)⟩
set_option maxRecDepth 100000 in
set_option maxHeartbeats 2000000 in
theorem pre_any (t:ByteArray) (w:World):Calls Tryz.prog 20 #[.string t] w fun e w'=>e= .returned (lockV 2 t 0 none 0 0)/\Below w.heap.size w w':=by
 go_enter Tryz.func20,Tryz.ntmps20;go_wp2_with fail;exact bodyPost_ret (v:=lockV 2 t 0 none 0 0) (by simp[results,Tryz.results20,go_sem,lockV]) rfl ⟨rfl,((Below.refl _ _).alloc (Nat.le_refl _) _)⟩
set_option maxRecDepth 100000 in
set_option maxHeartbeats 2000000 in
theorem after_any (n:Int) (w:World):Calls Tryz.prog 21 #[.int .i64 n] w fun e w'=>e= .returned (lockV 3 ⟨#[]⟩ n none 0 0)/\Below w.heap.size w w':=by
 go_enter Tryz.func21,Tryz.ntmps21;go_wp2_with fail;exact bodyPost_ret (v:=lockV 3 ⟨#[]⟩ n none 0 0) (by simp[results,Tryz.results21,go_sem,lockV]) rfl ⟨rfl,((Below.refl _ _).alloc (Nat.le_refl _) _)⟩
set_option maxRecDepth 100000 in
set_option maxHeartbeats 2000000 in
theorem older_any (n:Int) (w:World):Calls Tryz.prog 24 #[.int .i64 n] w fun e w'=>e= .returned (lockV 4 ⟨#[]⟩ n none 0 0)/\Below w.heap.size w w':=by
 go_enter Tryz.func24,Tryz.ntmps24;go_wp2_with fail;exact bodyPost_ret (v:=lockV 4 ⟨#[]⟩ n none 0 0) (by simp[results,Tryz.results24,go_sem,lockV]) rfl ⟨rfl,((Below.refl _ _).alloc (Nat.le_refl _) _)⟩
end Go.Proofs.YtbiioifpeebjaaaGreatDoor
namespace Go.Proofs.YtbiioifpeebjaaaGreatDoor
open Go.RowKit
theorem slLock:SlTyK Tryz.prog 33 35 (.agg #[.int .u8 0,.string ⟨#[]⟩,.int .i64 0,.slice none 0 0]) 4 56:=⟨Tryz.underlying33,by kernel_rfl,rfl,by decide⟩
theorem own_empty (w:World) (E:TypeId) (size:Nat):(w.alloc (.cells #[] E)).ownsRow w.heap.size E size (.slice (some ⟨w.heap.size,0,none⟩) 0 0) 0 []:=
 ⟨by simp,.inr ⟨w.heap.size,0,#[],rfl,Nat.le_refl _,Go.heap_alloc_new w _,Nat.le_refl _,by decide,by simp,by simp⟩⟩
theorem LocksC.one {w:World}: ∀{l:List LockT} {xs:List Value},LocksC w l xs-> ∀u∈xs,u.oneCell'=true
 |[],xs,h,u,hu=>by unfold LocksC at h;subst h;cases hu
 |x::r,xs,h,u,hu=>by
  unfold LocksC at h;obtain⟨cs,rest,rfl,h2,h3⟩:=h;obtain⟨A,cap,ys,hcs,-,-⟩:=h2.shape;subst hcs;rcases List.mem_append.1 hu with h|h
  ·simp only[List.mem_cons,List.not_mem_nil,or_false]at h;rcases h with rfl|rfl|rfl|rfl<;>rfl
  ·exact h3.one u h
def Dep (w:World) (i:Nat):Prop:= ∃cs z,w.heap[i]? =some (.cells cs 35 z)/\8<=cs.size
def DepEq (w W:World):Prop:= ∀i,Dep w i->W.heap[i]? =w.heap[i]?
theorem Dep.lt {w:World} {i:Nat} (h:Dep w i):i<w.heap.size:=by
 obtain⟨cs,z,h,-⟩:=h;exact Classical.byContradiction fun hn=>by rw[Array.getElem?_eq_none (by omega)]at h;cases h
theorem DepEq.refl (w:World):DepEq w w:=fun _ _=>rfl
theorem DepEq.trans {w w1 w2:World} (h:DepEq w w1) (h':DepEq w1 w2):DepEq w w2:=fun i hi=>by
 have e:=h i hi;obtain⟨cs,z,hh,hs⟩:=hi;exact(h' i ⟨cs,z,e.trans hh,hs⟩).trans e
theorem DepEq.below {w w1:World} (h:Below w.heap.size w w1):DepEq w w1:=fun i hi=>h.block i hi.lt
def LockH (w:World) (x:LockT) (cs:List Value):Prop:= ∀W,DepEq w W->LockC W x cs
def LocksH (w:World) (A:Option Addr) (l:List LockT) (xs:List Value):Prop:= ∀W,DepEq w W->Cells W A xs/\LocksC W l xs
theorem LockH.at {w:World} {x:LockT} {cs:List Value} (h:LockH w x cs):LockC w x cs:=h w (DepEq.refl w)
theorem LocksH.at {w:World} {A:Option Addr} {l:List LockT} {xs:List Value} (h:LocksH w A l xs):Cells w A xs/\LocksC w l xs:=h w (DepEq.refl w)
theorem LockH.mono {w w':World} {x:LockT} {cs:List Value} (h:LockH w x cs) (hd:DepEq w w'):LockH w' x cs:=fun W hW=>h W (hd.trans hW)
theorem LocksH.mono {w w':World} {A:Option Addr} {l:List LockT} {xs:List Value} (h:LocksH w A l xs) (hd:DepEq w w'):LocksH w' A l xs:=fun W hW=>h W (hd.trans hW)
def LockV (w:World) (x:LockT) (v:Value):Prop:= ∃A cap,v=lockV x.kind x.term x.n A x.kids.length cap/\LockH w x [.int .u8 x.kind,.string x.term,.int .i64 x.n,.slice A x.kids.length cap]
theorem LockV.mono {w w':World} {x:LockT} {v:Value} (h:LockV w x v) (hd:DepEq w w'):LockV w' x v:=by
 obtain⟨A,cap,h1,h2⟩:=h;exact⟨A,cap,h1,h2.mono hd⟩
theorem LockV.below {w w':World} {x:LockT} {v:Value} (h:LockV w x v) (hb:Below w.heap.size w w'):LockV w' x v:=h.mono (DepEq.below hb)
theorem own_dep {w W:World} {base:Nat} {v:Value} {n:Nat} {xs:List Value} (h:w.ownsRow base 35 4 v n xs) (hn:2<=n) (hd:DepEq w W):W.ownsRow base 35 4 v n xs:=by
 refine ownsRow_block h fun g hg=>hd g ?_
 rcases h.2 with⟨hv,-⟩|⟨g',cap,cur,hv,hg',hh,hnc,hm,hs,ht⟩
 ·rw[hv]at hg;cases hg
 ·rw[hv]at hg;injection hg with hg;have hg'':g'=g:=hg;subst hg'';exact⟨cur,_,hh,by omega⟩
theorem LockC.leaf {w:World} (k:Int) (t:ByteArray) (n:Int):LockC w (.node k t n []) [.int .u8 k,.string t,.int .i64 n,.slice none 0 0]:=by
 unfold LockC;refine⟨none,0,[],rfl,fun h=>absurd h (by simp), ?_⟩;unfold LocksC;rfl
theorem LockC.node {w:World} (k:Int) (t:ByteArray) (n:Int) {l:List LockT} {A:Option Addr} {cap:Nat} {xs:List Value} (hc:Cells w A xs) (h:LocksC w l xs):LockC w (.node k t n l) [.int .u8 k,.string t,.int .i64 n,.slice A l.length cap]:=by
 unfold LockC;exact⟨A,cap,xs,rfl,hc,h⟩
theorem LocksC.nil {w:World}:LocksC w [] []:=by unfold LocksC;rfl
theorem LocksC.cons {w:World} {x:LockT} {r:List LockT} {cs xs:List Value} (h:LockC w x cs) (hr:LocksC w r xs):LocksC w (x::r) (cs++xs):=by
 unfold LocksC;exact⟨cs,xs,rfl,h,hr⟩
set_option maxRecDepth 100000 in
set_option maxHeartbeats 1000000 in
theorem cloneLocks (l:List LockT) (ad:Addr) (c:Nat) (w:World) {xs:List Value} (hl:l.length<=100000) (hA:Cells w (some ad) xs) (hx:LocksC w l xs):
 Calls Tryz.prog 33 #[.slice (some ad) l.length c] w fun e w'=> ∃A' c',e= .returned (.slice A' l.length c')/\w'.ownsRow w.heap.size 35 4 (.slice A' l.length c') l.length xs/\LocksC w' l xs/\Below w.heap.size w w':=by
 have h0:=own_empty w 35 4;have HX:=zH hx;have HL:=zH hx.len;have H1:=zH hx.one;have HA:=zH (Cells.alloc hA (.cells #[] 35));generalize hn:l.length=n at*;have HN:=zH hn;clear hn hA hx;have hsz:w.heap.size<=(w.alloc (.cells #[] 35)).heap.size:=by simp
 have HSZ:=zH hsz;clear hsz;have hq:=fun(w:World) (a:Option Addr) (l c:Nat)=>Go.run_eql_slice_nil (P:=Tryz.prog) w 33 35 a l c Tryz.underlying33
 go_enter Tryz.func33,Tryz.ntmps33;go_wp2_with (at_builtin;refine wpList_appk slLock rfl _ _ rfl w.heap.size _ 0 [] rfl h0 (some ad) n c xs rfl HL.out HA.out H1.out (by omega) (by omega) HSZ.out ?_;intro v' w1 hown hg hb hat);go_ret;rw[Nat.zero_add,List.nil_append]at hown;have hb1:Below w.heap.size w w1:=((Below.refl _ _).alloc (Nat.le_refl _) _).trans hb;obtain⟨A',c',rfl,-,hc⟩:=own_shape hown;exact⟨A',c',rfl,hown,LocksC.below hb1 _ _ HX.out,hb1⟩
def LBox (w:World) (b:Nat) (k:Int) (t:ByteArray) (n:Int) (v:Value):Prop:=w.heap[b]? =some (.cells #[.int .u8 k,.string t,.int .i64 n,v] 35 (0,0))
theorem LBox.cells {w:World} {b:Nat} {k:Int} {t:ByteArray} {n:Int} {v:Value} (h:LBox w b k t n v):w.cell? ⟨b,0,none⟩=some (.int .u8 k)/\w.cell? ⟨b,1,none⟩=some (.string t)/\w.cell? ⟨b,2,none⟩=some (.int .i64 n)/\w.cell? ⟨b,3,none⟩=some v/\ ∀j,w.frozen? ⟨b,j,none⟩=false:=by
 unfold LBox at h;refine⟨by simp[World.cell?,h],by simp[World.cell?,h],by simp[World.cell?,h],by simp[World.cell?,h],fun j=>by simp[World.frozen?,h]⟩
theorem LBox.lt {w:World} {b:Nat} {k:Int} {t:ByteArray} {n:Int} {v:Value} (h:LBox w b k t n v):b<w.heap.size:=by
 unfold LBox at h;exact Classical.byContradiction fun hn=>by rw[Array.getElem?_eq_none (by omega)]at h;cases h
theorem LBox.fr {F:List Nat} {w w':World} {b:Nat} {k:Int} {t:ByteArray} {n:Int} {v:Value} (h:LBox w b k t n v) (hf:Fr F w w') (hb:b∉F):LBox w' b k t n v:=(hf.block b h.lt hb).trans h
theorem LBox.below {w w':World} {b:Nat} {k:Int} {t:ByteArray} {n:Int} {v:Value} (h:LBox w b k t n v) (hb:Below w.heap.size w w'):LBox w' b k t n v:=(hb.block b h.lt).trans h
def putL (w:World) (g:Nat) (x0 x1 x2 x3:Value):World:=(((w.setCell ⟨g,0,none⟩ x0).setCell ⟨g,1,none⟩ x1).setCell ⟨g,2,none⟩ x2).setCell ⟨g,3,none⟩ x3
theorem putL_gen {w:World} {g:Nat} {x0 x1 x2 x3:Value} {T:TypeId} {z:Nat×Nat} (h:w.heap[g]? =some (.cells #[x0,x1,x2,x3] T z)) (y0 y1 y2 y3:Value):(putL w g y0 y1 y2 y3).heap[g]? =some (.cells #[y0,y1,y2,y3] T z):=by
 unfold putL;have h0:=setCell_cells h 0 y0;have h1:=setCell_cells h0 1 y1;have h2:=setCell_cells h1 2 y2;have h3:=setCell_cells h2 3 y3;rw[h3];simp
theorem putL_fr (w:World) (g:Nat) (x0 x1 x2 x3:Value) {F:List Nat} (hg:g∈F):Fr F w (putL w g x0 x1 x2 x3):=by
 unfold putL;exact(((Fr.put0 w g 0 x0 hg).trans (Fr.put0 _ g 1 x1 hg) (fun _ h _=>h)).trans (Fr.put0 _ g 2 x2 hg) (fun _ h _=>h)).trans (Fr.put0 _ g 3 x3 hg) (fun _ h _=>h)
theorem DepEq.box {w W:World} {b:Nat} {k:Int} {t:ByteArray} {n:Int} {v:Value} (h:LBox w b k t n v) (hf:Fr [b] w W):DepEq w W:=fun i hi=>hf.block i hi.lt fun hm=>by
 have e:i=b:=List.mem_singleton.1 hm;subst e;obtain⟨cs,z,hh,hs⟩:=hi;unfold LBox at h;rw[h]at hh;injection hh with hh;injection hh with h1;subst h1;exact absurd hs (by simp)
theorem LBox.put {w:World} {b:Nat} {k:Int} {t:ByteArray} {n:Int} {v:Value} (h:LBox w b k t n v) (k':Int) (t':ByteArray) (n':Int) (v':Value):LBox (putL w b (.int .u8 k') (.string t') (.int .i64 n') v') b k' t' n' v':=putL_gen h _ _ _ _
set_option maxRecDepth 100000 in
set_option maxHeartbeats 2000000 in
theorem all_any (l:List LockT) (ad:Addr) (c:Nat) (w:World) {xs:List Value} (hl:l.length<=100000) (h2:2<=l.length) (hx:LocksH w (some ad) l xs):
 Calls Tryz.prog 22 #[.slice (some ad) l.length c] w fun e w'=> ∃v,e= .returned v/\LockV w' (allL l) v/\Below w.heap.size w w':=by
 have HC:=zH (fun(w':World) (hb:Below w.heap.size w w')=>cloneLocks l ad c w' hl (hx w' (DepEq.below hb)).1 (hx w' (DepEq.below hb)).2);have HB:=zH ((Below.refl w.heap.size w).alloc (Nat.le_refl _) (zO2 0 ⟨#[]⟩ 0 none 0 0));have HZ:=zH (show LBox (w.alloc (zO2 0 ⟨#[]⟩ 0 none 0 0)) w.heap.size 0 ⟨#[]⟩ 0 (.slice none 0 0)from Go.heap_alloc_new w _);have HX:=zH hx;have H2:=zH h2;clear hx hl h2;go_enter Tryz.func22,Tryz.ntmps22;go_wp2_with fail;refine(HC.out _ HB.out).mono ?_;rintro e w1 ⟨A1,c1,rfl,ho1,-,hb1⟩;have HO1:=zH ho1;have HB1:=zH (HB.out.trans (hb1.mono HB.out.size));have HZ1:=zH (HZ.out.below hb1);obtain⟨p0,p1,p2,p3,pf⟩:=HZ1.out.cells;clear hb1 ho1;go_wp2_with fail;change bodyPost _ _ _ _ _ (putL w1 w.heap.size (.int .u8 5) (.string ⟨#[]⟩) (.int .i64 0) (.slice A1 l.length c1));have hA:=HZ1.out.put 5 ⟨#[]⟩ 0 (.slice A1 l.length c1);have hFr:=putL_fr w1 w.heap.size (.int .u8 5) (.string ⟨#[]⟩) (.int .i64 0) (.slice A1 l.length c1) (F:=[w.heap.size]) (List.mem_singleton.2 rfl);have hF:=HB1.out.trans (hFr.toBelowOf (B:=w.heap.size) HB1.out.size (fun i hi=>by simp at hi;omega));have hO:=own_fr HO1.out hFr (fun g hg=>by have:=(World.ownsRow.lt HO1.out g hg).1;simp at this⊢;omega);generalize putL w1 w.heap.size (.int .u8 5) (.string ⟨#[]⟩) (.int .i64 0) (.slice A1 l.length c1)=Wf at hA hF hO⊢;clear p0 p1 p2 p3 pf hFr;obtain⟨r0,r1,r2,r3,-⟩:=hA.cells;exact bodyPost_ret (v:=lockV 5 ⟨#[]⟩ 0 A1 l.length c1) (by simp[results,Tryz.results22,go_sem,r0,r1,r2,r3,lockV]) rfl ⟨_,rfl,⟨A1,c1,rfl,fun W hW=>by
  obtain⟨A2,c2,he2,-,hc2⟩:=own_shape (own_dep hO H2.out hW);injection he2 with he2 _ he3;subst he2;exact LockC.node _ _ _ hc2 (HX.out W ((DepEq.below hF).trans hW)).2⟩,hF⟩
set_option maxRecDepth 100000 in
set_option maxHeartbeats 2000000 in
theorem any_any (l:List LockT) (ad:Addr) (c:Nat) (w:World) {xs:List Value} (hl:l.length<=100000) (h2:2<=l.length) (hx:LocksH w (some ad) l xs):
 Calls Tryz.prog 25 #[.slice (some ad) l.length c] w fun e w'=> ∃v,e= .returned v/\LockV w' (anyL l) v/\Below w.heap.size w w':=by
 have HC:=zH (fun(w':World) (hb:Below w.heap.size w w')=>cloneLocks l ad c w' hl (hx w' (DepEq.below hb)).1 (hx w' (DepEq.below hb)).2);have HB:=zH ((Below.refl w.heap.size w).alloc (Nat.le_refl _) (zO2 0 ⟨#[]⟩ 0 none 0 0));have HZ:=zH (show LBox (w.alloc (zO2 0 ⟨#[]⟩ 0 none 0 0)) w.heap.size 0 ⟨#[]⟩ 0 (.slice none 0 0)from Go.heap_alloc_new w _);have HX:=zH hx;have H2:=zH h2;clear hx hl h2;go_enter Tryz.func25,Tryz.ntmps25;go_wp2_with fail;refine(HC.out _ HB.out).mono ?_;rintro e w1 ⟨A1,c1,rfl,ho1,-,hb1⟩;have HO1:=zH ho1;have HB1:=zH (HB.out.trans (hb1.mono HB.out.size));have HZ1:=zH (HZ.out.below hb1);obtain⟨p0,p1,p2,p3,pf⟩:=HZ1.out.cells;clear hb1 ho1;go_wp2_with fail;change bodyPost _ _ _ _ _ (putL w1 w.heap.size (.int .u8 6) (.string ⟨#[]⟩) (.int .i64 0) (.slice A1 l.length c1));have hA:=HZ1.out.put 6 ⟨#[]⟩ 0 (.slice A1 l.length c1);have hFr:=putL_fr w1 w.heap.size (.int .u8 6) (.string ⟨#[]⟩) (.int .i64 0) (.slice A1 l.length c1) (F:=[w.heap.size]) (List.mem_singleton.2 rfl);have hF:=HB1.out.trans (hFr.toBelowOf (B:=w.heap.size) HB1.out.size (fun i hi=>by simp at hi;omega));have hO:=own_fr HO1.out hFr (fun g hg=>by have:=(World.ownsRow.lt HO1.out g hg).1;simp at this⊢;omega);generalize putL w1 w.heap.size (.int .u8 6) (.string ⟨#[]⟩) (.int .i64 0) (.slice A1 l.length c1)=Wf at hA hF hO⊢;clear p0 p1 p2 p3 pf hFr;obtain⟨r0,r1,r2,r3,-⟩:=hA.cells;exact bodyPost_ret (v:=lockV 6 ⟨#[]⟩ 0 A1 l.length c1) (by simp[results,Tryz.results25,go_sem,r0,r1,r2,r3,lockV]) rfl ⟨_,rfl,⟨A1,c1,rfl,fun W hW=>by
  obtain⟨A2,c2,he2,-,hc2⟩:=own_shape (own_dep hO H2.out hW);injection he2 with he2 _ he3;subst he2;exact LockC.node _ _ _ hc2 (HX.out W ((DepEq.below hF).trans hW)).2⟩,hF⟩
end Go.Proofs.YtbiioifpeebjaaaGreatDoor
namespace Go.Proofs.YtbiioifpeebjaaaGreatDoor
open Go.RowKit
structure LineP where
 v:Int
 lk:LockT
 what:Int
def LineP.text (p:LineP):ByteArray:=(writeE p.lk).1
def ltP (x y:LineP):Bool:=decide (x.v<y.v)||(decide (x.v=y.v)&&decide (x.text.data.toList<y.text.data.toList))
def outP (p:LineP):OutT:=⟨p.v,p.lk⟩
def txOf (tx:ByteArray) (pn:Int) (l:List LineP) (tag:Int):TxT:=⟨[⟨tx,pn,0⟩],l.map outP,0,tag⟩
def zeroTx:TxT:=⟨[],[],0,0⟩
def wholeE (tx:ByteArray) (pn:Int) (l:List LineP) (tag:Int):TxT×List Int×Int:=
 if l.length=0 then(zeroTx,[],180)else if txB (txOf tx pn (ordL ltP l) tag)then(txOf tx pn (ordL ltP l) tag,(ordL ltP l).map LineP.what,0)else(zeroTx,[],120)
theorem insL_map {α β:Type} (f:α->β) (lt:α->α->Bool) (lt':β->β->Bool) (P:α->Prop) (h: ∀x y,P x->P y->lt' (f x) (f y)=lt x y) (x:α) (hx:P x): ∀l:List α,(∀y∈l,P y)->insL lt' (f x) (l.map f)=(insL lt x l).map f
 |[],_=>rfl
 |y::r,hl=>by
  rw[List.map_cons];unfold insL;rw[h x y hx (hl y (by simp))];by_cases hy:lt x y=true
  ·rw[if_pos hy,if_pos hy];rfl
  ·rw[if_neg hy,if_neg hy,insL_map f lt lt' P h x hx r (fun z hz=>hl z (List.mem_cons_of_mem _ hz))];rfl
theorem foldl_map {α β:Type} (f:α->β) (lt:α->α->Bool) (lt':β->β->Bool) (P:α->Prop) (h: ∀x y,P x->P y->lt' (f x) (f y)=lt x y): ∀(l p:List α),(∀y∈l,P y)->(∀y∈p,P y)->(l.map f).foldl (fun out x=>insL lt' x out) (p.map f)=(l.foldl (fun out x=>insL lt x out) p).map f
 |[],p,_,_=>rfl
 |x::r,p,hl,hp=>by
  rw[List.map_cons,List.foldl_cons,List.foldl_cons,insL_map f lt lt' P h x (hl x (by simp)) p hp];refine foldl_map f lt lt' P h r _ (fun z hz=>hl z (List.mem_cons_of_mem _ hz)) (fun z hz=> ?_);rcases(insL_mem lt x p z).1 hz with hz|hz
  ·rw[hz];exact hl x (by simp)
  ·exact hp z hz
theorem ordL_map {α β:Type} (f:α->β) (lt:α->α->Bool) (lt':β->β->Bool) (P:α->Prop) (h: ∀x y,P x->P y->lt' (f x) (f y)=lt x y) (l:List α) (hl: ∀y∈l,P y):ordL lt' (l.map f)=(ordL lt l).map f:=
 foldl_map f lt lt' P h l [] hl (by simp)
def lined (q:LineP×LineR):LineR:={q.2 with text:=q.1.text}
def ltQ (x y:LineP×LineR):Bool:=ltP x.1 y.1
theorem ord_fst (ps:List (LineP×LineR)):ordL ltP (ps.map (·.1))=(ordL ltQ ps).map (·.1):=ordL_map (fun q:LineP×LineR=>q.1) ltQ ltP (fun _=>True) (fun _ _ _ _=>rfl) ps (by simp)
theorem ord_lined (ps:List (LineP×LineR)) (h: ∀q∈ps,q.2.v=q.1.v):ordL ltL (ps.map lined)=(ordL ltQ ps).map lined:=
 ordL_map lined ltQ ltL (fun q=>q.2.v=q.1.v) (fun x y hx hy=>by
  unfold ltL ltQ ltP lined;simp only[hx,hy]) ps h
def LineK (base:Nat) (w:World) (q:LineP×LineR):Prop:=q.2.v=q.1.v/\q.2.what=q.1.what/\smallT q.1.lk/\ ∀W,Below base w W->DepEq w W->LockC W q.1.lk [.int .u8 q.2.kind,.string q.2.term,.int .i64 q.2.n,.slice q.2.A q.2.len q.2.cap]
theorem LineK.mono {base:Nat} {w w':World} {q:LineP×LineR} (h:LineK base w q) (hb:Below base w w') (hd:DepEq w w'):LineK base w' q:=
 ⟨h.1,h.2.1,h.2.2.1,fun W h1 h2=>h.2.2.2 W (hb.trans h1) (hd.trans h2)⟩
theorem LineK.at {base:Nat} {w:World} {q:LineP×LineR} (h:LineK base w q):LockC w q.1.lk [.int .u8 q.2.kind,.string q.2.term,.int .i64 q.2.n,.slice q.2.A q.2.len q.2.cap]:=h.2.2.2 w (Below.refl _ _) (DepEq.refl w)
def Stay (w W:World):Prop:= ∀(i:Nat) (cs:Array Value) (T:TypeId) (z:Nat×Nat),T≠51->(T=35->8<=cs.size)->w.heap[i]? =some (.cells cs T z)->W.heap[i]? =some (.cells cs T z)
theorem Stay.refl (w:World):Stay w w:=fun _ _ _ _ _ _ h=>h
theorem Stay.trans {w w1 w2:World} (h:Stay w w1) (h':Stay w1 w2):Stay w w2:=fun i cs T z a b c=>h' i cs T z a b (h i cs T z a b c)
theorem Stay.below {w W:World} (h:Below w.heap.size w W):Stay w W:=fun i _ _ _ _ _ hh=>(h.block i (lt_of_block hh)).trans hh
theorem Stay.dep {w W:World} (h:Stay w W):DepEq w W:=fun i hi=>by
 obtain⟨cs,z,hh,hs⟩:=hi;exact(h i cs _ z (by decide) (fun _=>hs) hh).trans hh.symm
def TxF (base:Nat) (w:World) (t:TxT) (x:Value):Prop:= ∃A ca B cb,x= .agg #[.slice A t.ins.length ca,.slice B t.outs.length cb,.int .i64 t.after,.int .i64 t.tag]/\ ∀W,Below base w W->Stay w W->TxC W t A B
theorem TxF.mono {base:Nat} {w w':World} {t:TxT} {x:Value} (h:TxF base w t x) (hb:Below base w w') (hs:Stay w w'):TxF base w' t x:=by
 obtain⟨A,ca,B,cb,h1,h2⟩:=h;exact⟨A,ca,B,cb,h1,fun W a b=>h2 W (hb.trans a) (hs.trans b)⟩
def wordsV (l:List Int):List Value:=l.map (Value.int .i64 ·)
def IntsF (w:World) (l:List Int) (x:Value):Prop:= ∃A cap,x= .slice A l.length cap/\ ∀W,Stay w W->Cells W A (wordsV l)
theorem IntsF.mono {w w':World} {l:List Int} {x:Value} (h:IntsF w l x) (hs:Stay w w'):IntsF w' l x:=by
 obtain⟨A,cap,h1,h2⟩:=h;exact⟨A,cap,h1,fun W a=>h2 W (hs.trans a)⟩
theorem TxF.zero (base:Nat) (w:World):TxF base w zeroTx (.agg #[.slice none 0 0,.slice none 0 0,.int .i64 0,.int .i64 0]):=
 ⟨none,0,none,0,rfl,fun W _ _=>⟨fun h=>absurd h (by simp[zeroTx,insC]),[],fun h=>absurd h (by simp),by unfold zeroTx OutsC;rfl⟩⟩
theorem IntsF.nil (w:World):IntsF w [] (.slice none 0 0):=⟨none,0,rfl,fun W _ h=>absurd h (by simp[wordsV])⟩
def flatO (ls:List LineR):List Value:=(ls.map fun r=>r.enc.take 5).flatten
theorem flatO_len (ls:List LineR):(flatO ls).length=ls.length*5:=by
 induction ls with
 |nil=>rfl
 |cons x r ih=>
  show(x.enc.take 5++flatO r).length=_;rw[List.length_append,ih,List.length_take,LineR.enc_len,List.length_cons];omega
theorem flatO_snoc (ls:List LineR) (x:LineR):flatO (ls++[x])=flatO ls++[.int .i64 x.v,.int .u8 x.kind,.string x.term,.int .i64 x.n,.slice x.A x.len x.cap]:=by
 unfold flatO;simp[LineR.enc]
theorem outs_of {base:Nat} {w W:World} (hb:Below base w W) (hd:DepEq w W): ∀qs:List (LineP×LineR),(∀q∈qs,LineK base w q)->OutsC W (qs.map fun q=>outP q.1) (flatO (qs.map lined))
 |[],_=>by unfold OutsC;rfl
 |q::r,h=>by
  obtain⟨h1,h2,h3,h4⟩:=h q (by simp);rw[List.map_cons];unfold OutsC;refine⟨_,flatO (r.map lined), ?_,h4 W hb hd,outs_of hb hd r fun x hx=>h x (List.mem_cons_of_mem _ hx)⟩;show(lined q).enc.take 5++flatO (r.map lined)=_;unfold lined LineR.enc outP;simp[h1]
theorem RowL.put {w:World} {g:Nat} {ls:List LineR} (h:RowL w g ls) {k:Nat} (hk:k<ls.length) (t:ByteArray):RowL (w.setCell ⟨g,k*7+6,none⟩ (.string t)) g (ls.set k {ls[k]with text:=t}):=by
 obtain⟨cur,h1,h2⟩:=h;refine⟨cur.setIfInBounds (k*7+6) (.string t),setCell_cells h1 (k*7+6) (.string t),fun j u hj=> ?_⟩;rw[Array.getElem?_setIfInBounds];have hj2:j<ls.length*7:=by
  have:=(List.getElem?_eq_some_iff.1 hj).1;rw[flatE_len,List.length_set]at this;exact this
 have hjs:(flatE (ls.set k {ls[k]with text:=t}))[j / 7*7+j%7]? =((ls.set k {ls[k]with text:=t})[j / 7]'(by rw[List.length_set];omega)).enc[j%7]? :=flatE_get _ _ (by rw[List.length_set];omega) _ (by omega);rw[show j / 7*7+j%7=j by omega,hj]at hjs;have hold:(flatE ls)[j / 7*7+j%7]? =(ls[j / 7]'(by omega)).enc[j%7]? :=flatE_get _ _ (by omega) _ (by omega);rw[show j / 7*7+j%7=j by omega]at hold;have hin:j<cur.size:=by
  have h6:(flatE ls)[j]? =some ((flatE ls)[j]'(by rw[flatE_len];exact hj2)):=List.getElem?_eq_getElem _;exact(Array.getElem?_eq_some_iff.1 (h2 j _ h6)).1
 by_cases he:k*7+6=j
 ·subst he;rw[if_pos rfl,if_pos hin];have e1:(k*7+6) / 7=k:=by omega
  have e2:(k*7+6)%7=6:=by omega
  simp only[e1,e2,List.getElem_set_self]at hjs;simpa [LineR.enc]using hjs.symm
 ·rw[if_neg he];refine h2 j u ?_;rw[hold,hjs];by_cases hk2:k=j / 7
  ·subst hk2;simp only[List.getElem_set_self];have:j%7≠6:=by omega
   have h7:j%7<7:=by omega
   generalize j%7=m at this h7;unfold LineR.enc
   match m,this,h7 with
   |0,_,_=>rfl
   |1,_,_=>rfl
   |2,_,_=>rfl
   |3,_,_=>rfl
   |4,_,_=>rfl
   |5,_,_=>rfl
   |6,h,_=>exact absurd rfl h
  ·rw[List.getElem_set_ne hk2]
theorem RowL.cells {w:World} {g:Nat} {ls:List LineR} (h:RowL w g ls) {k:Nat} (hk:k<ls.length):
 w.cell? ⟨g,k*7,none⟩=some (.int .i64 ls[k].v)/\w.cell? ⟨g,k*7+1,none⟩=some (.int .u8 ls[k].kind)/\w.cell? ⟨g,k*7+2,none⟩=some (.string ls[k].term)/\w.cell? ⟨g,k*7+3,none⟩=some (.int .i64 ls[k].n)/\w.cell? ⟨g,k*7+4,none⟩=some (.slice ls[k].A ls[k].len ls[k].cap)/\w.cell? ⟨g,k*7+5,none⟩=some (.int .i64 ls[k].what)/\w.cell? ⟨g,k*7+6,none⟩=some (.string ls[k].text)/\ ∀j,w.frozen? ⟨g,j,none⟩=false:=by
 obtain⟨cur,h1,h2⟩:=h;have go: ∀(c:Nat) (u:Value),c<7->ls[k].enc[c]? =some u->w.cell? ⟨g,k*7+c,none⟩=some u:=fun c u hc hu=>cell_of h1 (h2 _ _ ((flatE_get ls k hk c hc).trans hu))
 exact⟨go 0 _ (by decide) rfl,go 1 _ (by decide) rfl,go 2 _ (by decide) rfl,go 3 _ (by decide) rfl,go 4 _ (by decide) rfl,go 5 _ (by decide) rfl,go 6 _ (by decide) rfl,fun j=>by simp[World.frozen?,h1]⟩
end Go.Proofs.YtbiioifpeebjaaaGreatDoor
namespace Go.Proofs.YtbiioifpeebjaaaGreatDoor
open Go.RowKit
theorem slOut:SlTyK Tryz.prog 49 63 (.agg #[.int .i64 0,.int .u8 0,.string ⟨#[]⟩,.int .i64 0,.slice none 0 0]) 5 64:=⟨Tryz.underlying49,by kernel_rfl,rfl,by decide⟩
theorem slNum:SlTyK Tryz.prog 52 3 (.int .i64 0) 1 8:=⟨Tryz.underlying52,by kernel_rfl,rfl,by decide⟩
def halfL (ps:List (LineP×LineR)) (k:Nat):List LineR:=(ps.take k).map lined++(ps.drop k).map (·.2)
theorem halfL_len (ps:List (LineP×LineR)) (k:Nat):(halfL ps k).length=ps.length:=by
 unfold halfL;rw[List.length_append,List.length_map,List.length_map,List.length_take,List.length_drop];omega
theorem halfL_at (ps:List (LineP×LineR)) (k:Nat) (hk:k<ps.length) (h:k<(halfL ps k).length):(halfL ps k)[k]=ps[k].2:=by
 have h1:(halfL ps k)[k]? =some ps[k].2:=by
  unfold halfL;rw[List.getElem?_append_right (by rw[List.length_map,List.length_take];omega),List.length_map,List.length_take,show k - min k ps.length=0 by omega,List.getElem?_map,List.getElem?_drop,Nat.add_zero,List.getElem?_eq_getElem hk];rfl
 rw[List.getElem?_eq_getElem h]at h1;injection h1
theorem halfL_step (ps:List (LineP×LineR)) (k:Nat) (hk:k<ps.length) (h:k<(halfL ps k).length):(halfL ps k).set k {(halfL ps k)[k]with text:=ps[k].1.text}=halfL ps (k+1):=by
 rw[halfL_at ps k hk h];unfold halfL;rw[List.set_append_right _ _ (by rw[List.length_map,List.length_take];omega),List.length_map,List.length_take,show k - min k ps.length=0 by omega,List.drop_eq_getElem_cons hk,List.map_cons,List.set_cons_zero,List.take_succ_eq_append_getElem hk,List.map_append];simp[lined]
theorem fr_below {F:List Nat} {B:Nat} {w w1 w2:World} (h:Fr F w w1) (hb:Below B w1 w2) (hB:w.heap.size<=B):Fr F w w2:=⟨hb.os.trans h.os,hb.tape.trans h.tape,hb.output.trans h.output,Nat.le_trans h.size hb.size,fun i hi hn=>(hb.block i (Nat.lt_of_lt_of_le hi hB)).trans (h.block i hi hn)⟩
theorem TxBox.grown {w w':World} {row:Option Nat} {b:Nat} {A:Option Addr} {n ca:Nat} {B:Option Addr} {m cb:Nat} {after tag:Int} (h:TxBox w b A n ca B m cb after tag) (hg:w.grownBy w' row) (hb:some b≠row):TxBox w' b A n ca B m cb after tag:=(hg.block b (lt_of_block h) hb).trans h
theorem TxBox.frozen {w:World} {b:Nat} {A:Option Addr} {n ca:Nat} {B:Option Addr} {m cb:Nat} {after tag:Int} (h:TxBox w b A n ca B m cb after tag) (j:Nat):w.frozen? ⟨b,j,none⟩=false:=by
 unfold TxBox at h;simp[World.frozen?,h]
theorem TxBox.put1 {w:World} {b:Nat} {A:Option Addr} {n ca:Nat} {B:Option Addr} {m cb:Nat} {after tag:Int} (h:TxBox w b A n ca B m cb after tag) (B':Option Addr) (m' cb':Nat):TxBox (w.setCell ⟨b,1,none⟩ (.slice B' m' cb')) b A n ca B' m' cb' after tag:=setCell_cells h 1 _
theorem wholeE_pos {tx:ByteArray} {pn tag:Int} {ps:List (LineP×LineR)} (h:ps.length≠0):wholeE tx pn (ps.map (·.1)) tag=if txB (txOf tx pn ((ordL ltQ ps).map (·.1)) tag)then(txOf tx pn ((ordL ltQ ps).map (·.1)) tag,((ordL ltQ ps).map (·.1)).map LineP.what,0)else(zeroTx,[],120):=by
 unfold wholeE;rw[if_neg (by rw[List.length_map];exact h),ord_fst]
theorem cell_fr {F:List Nat} {w w':World} (h:Fr F w w') {a:Addr} (ha:a.block∉F) {u:Value} (hc:w.cell? a=some u):w'.cell? a=some u:=h.cellKept ha hc
theorem cells_stay {w:World} {base E k n c:Nat} {A:Option Addr} {xs:List Value} (h:w.ownsRow base E k (.slice A n c) n xs) (hE:E≠51) (hE2:E≠35): ∀W,Stay w W->Cells W A xs:=fun W hW=>by
 have h2:W.ownsRow base E k (.slice A n c) n xs:=ownsRow_block h fun g hg=>by
  obtain⟨cur,hc⟩:=row_kind h hg;exact(hW g cur E _ hE (fun e=>absurd e hE2) hc).trans hc.symm
 obtain⟨A',c',he,-,hc⟩:=own_shape h2;injection he with he;rw[he];exact hc
theorem dep_tx {w W:World} {b:Nat} {cs:Array Value} {z:Nat×Nat} (h:w.heap[b]? =some (.cells cs 51 z)) (hf:Fr [b] w W):DepEq w W:=fun i hi=>hf.block i hi.lt fun hm=>by
 have e:i=b:=List.mem_singleton.1 hm;subst e;obtain⟨ds,z',hh,-⟩:=hi;rw[h]at hh;injection hh with hh;injection hh with _ h2;exact absurd h2 (by decide)
theorem stay_tx {w W:World} {b:Nat} {cs:Array Value} {z:Nat×Nat} (h:w.heap[b]? =some (.cells cs 51 z)) (hf:Fr [b] w W):Stay w W:=fun i ds T z' hT _ hh=>(hf.block i (lt_of_block hh) fun hm=>by
 have e:i=b:=List.mem_singleton.1 hm;subst e;rw[h]at hh;injection hh with hh;injection hh with _ h2;exact absurd h2.symm hT).trans hh
theorem TxBox.put {w:World} {b:Nat} {A:Option Addr} {n ca:Nat} {B:Option Addr} {m cb:Nat} {after tag:Int} (h:TxBox w b A n ca B m cb after tag) (A':Option Addr) (n' ca':Nat) (B':Option Addr) (m' cb':Nat) (after' tag':Int):TxBox (putL w b (.slice A' n' ca') (.slice B' m' cb') (.int .i64 after') (.int .i64 tag')) b A' n' ca' B' m' cb' after' tag':=putL_gen h _ _ _ _
theorem rows_apart {w:World} {b1 b2:Nat} {E1 E2:TypeId} {k1 k2 n1 n2:Nat} {v1 v2:Value} {x1 x2:List Value} (h1:w.ownsRow b1 E1 k1 v1 n1 x1) (h2:w.ownsRow b2 E2 k2 v2 n2 x2) (hE:E1≠E2):v1.ownBlock=none\/v1.ownBlock≠v2.ownBlock:=by
 cases h:v1.ownBlock with
 |none=>exact .inl rfl
 |some g=>
  refine .inr fun e=> ?_
  obtain⟨c1,hc1⟩:=row_kind h1 h;obtain⟨c2,hc2⟩:=row_kind h2 e.symm;rw[hc1]at hc2;injection hc2 with hc2;injection hc2 with _ h3;exact hE h3
theorem words_snoc (l:List Int) (x:Int):wordsV (l++[x])=wordsV l++[.int .i64 x]:=by simp[wordsV]
set_option maxRecDepth 100000 in
set_option maxHeartbeats 16000000 in
theorem whole_any (tx:ByteArray) (pn tag:Int) (ps:List (LineP×LineR)) (g cap:Nat) (v w:World) (hn:ps.length<20) (h1:1<=ps.length) (hbv:Below v.heap.size v w) (hg:v.heap.size<=g) (hrow:RowL w g (ps.map (·.2))) (hps: ∀q∈ps,LineK v.heap.size w q) (hpt:ptOk ⟨tx,pn,0⟩) (htx:tx.size<=1125899906842624) (hv:VarsOk v) (ht:TabOk v):
 Calls Tryz.prog 32 #[.agg #[.string tx,.int .i64 pn],.slice (some ⟨g,0,none⟩) ps.length cap,.int .i64 tag] w fun e w'=> ∃t ws,e= .returned (.tuple #[t,ws,.int .i64 (wholeE tx pn (ps.map (·.1)) tag).2.2])/\TxF v.heap.size w' (wholeE tx pn (ps.map (·.1)) tag).1 t/\IntsF w' (wholeE tx pn (ps.map (·.1)) tag).2.1 ws/\Fr [g] w w':=by
 have hgw:=hrow.lt;have hb0:Below w.heap.size w ((w.alloc (zO10 tx pn)).alloc (zO6 none 0 0 none 0 0 0 0)):=((Below.refl w.heap.size w).alloc (Nat.le_refl _) (zO10 tx pn)).alloc (by simp) (zO6 none 0 0 none 0 0 0 0);have HB:=zH (hbv.trans (hb0.mono hbv.size));have HPX:=zH (show((w.alloc (zO10 tx pn)).alloc (zO6 none 0 0 none 0 0 0 0)).heap[w.heap.size]? =some (zO10 tx pn)from allocs_at [(zO10 tx pn),(zO6 none 0 0 none 0 0 0 0)] w 0 _ rfl);have HTX:=zH (show TxBox ((w.alloc (zO10 tx pn)).alloc (zO6 none 0 0 none 0 0 0 0)) (w.heap.size+1) none 0 0 none 0 0 0 0 from allocs_at [(zO10 tx pn),(zO6 none 0 0 none 0 0 0 0)] w 1 _ rfl);have HRW:=zH (show RowL ((w.alloc (zO10 tx pn)).alloc (zO6 none 0 0 none 0 0 0 0)) g (halfL ps 0) by
  have h:=hrow.fr (Fr.below (F:=[]) hb0) (by simp);simpa [halfL]using h)
 have HLK:=zH (fun(q:LineP×LineR) (hq:q∈ps)=>(hps q hq).mono (hb0.mono hbv.size) (DepEq.below hb0));have HFV:=zH (Fr.below (F:=[g]) hb0);have HV:=zH hv;have HT:=zH ht;have HPT:=zH hpt;obtain⟨R,hR⟩: ∃R,wholeE tx pn (ps.map (·.1)) tag=R:=⟨_,rfl⟩;rw[hR];have HR:=zH hR;have hne0:((ps.length:Int)==0)=false:=beq_false_of_ne (by omega);clear hps hrow hv ht hR hpt;go_enter Tryz.func32,Tryz.ntmps32;go_wp2_with fail;generalize ((w.alloc (zO10 tx pn)).alloc (zO6 none 0 0 none 0 0 0 0))=V at HB HPX HTX HRW HLK HFV⊢;go_loopw [20] (fun i wr=> ∃k:Nat,k<=ps.length/\i= .int .i64 (k:Int)/\RowL wr g (halfL ps k)/\Fr [g] V wr/\DepEq V wr/\wr.heap[w.heap.size]? =some (zO10 tx pn)/\TxBox wr (w.heap.size+1) none 0 0 none 0 0 0 0) (fun i _=>ps.length - (intOf i).toNat)
 case atStart=>exact⟨0,Nat.zero_le _,rfl,HRW.out,Fr.refl _ _,DepEq.refl _,HPX.out,HTX.out⟩
 case round=>
  obtain⟨k,hk,rfl,hrw,hff,hdr,hpx,htx2⟩:=hrel;have hbr:=hff.toBelowOf (B:=v.heap.size) HB.out.size (fun i hi=>by rw[List.mem_singleton.1 hi];exact hg);have HFF:=zH hff;by_cases hlt:k<ps.length
  ·have hlt2:k<(halfL ps k).length:=by rw[halfL_len];exact hlt
   obtain⟨c0,c1,c2,c3,c4,c5,c6,cf⟩:=hrw.cells hlt2;have hat:=halfL_at ps k hlt hlt2;rw[hat]at c0 c1 c2 c3 c4 c5 c6;have hlk:=(HLK.out ps[k] (List.getElem_mem hlt)).mono hbr hdr;have hwr:=lwrite_any ps[k].1.lk _ wr hlk.2.2.1 hlk.at (HV.out.below (HB.out.trans hbr)) (HT.out.below (HB.out.trans hbr));have HWR:=zH hwr;have HBR:=zH hbr;have HDR:=zH hdr;have HPR:=zH hpx;have HTR:=zH htx2;have HRR:=zH hrw;clear hwr hlk hbr hdr hpx htx2 hrw hat hff;go_wp2_with fail;refine HWR.out.mono ?_;rintro e w1 ⟨rfl,hb1⟩;have hr1:=HRR.out.fr (Fr.below (F:=[]) hb1) (by simp);have hbv1:=HBR.out.trans (hb1.mono (Nat.le_trans HB.out.size HBR.out.size));have hd1:=HDR.out.trans (DepEq.below hb1);have hp1:=(hb1.block _ (lt_of_block HPR.out)).trans HPR.out;have ht1:=HTR.out.below hb1;have hst:=hr1.put hlt2 ps[k].1.text;rw[halfL_step ps k hlt hlt2]at hst;obtain⟨_,_,_,_,_,_,e6,ef⟩:=hr1.cells hlt2;have hfr:Fr [g] w1 (w1.setCell ⟨g,k*7+6,none⟩ (.string ps[k].1.text)):=Fr.put0 w1 g _ _ (List.mem_singleton.2 rfl);have hgd:DepEq w1 (w1.setCell ⟨g,k*7+6,none⟩ (.string ps[k].1.text)):=fun i hi=>hfr.block i hi.lt fun hm=>by
    have e:i=g:=List.mem_singleton.1 hm;subst e;obtain⟨cs,z,hh,-⟩:=hi;obtain⟨cur,hc,-⟩:=hr1;rw[hc]at hh;injection hh with hh;injection hh with _ h2;exact absurd h2 (by decide)
   have HST:=zH hst;have HB2:=zH ((HFF.out.trans (Fr.below (F:=[g]) hb1) (fun i hi _=>hi)).trans hfr (fun i hi _=>hi));have HD2:=zH (hd1.trans hgd);have HP2:=zH ((hfr.block _ (lt_of_block hp1) (by simp;omega)).trans hp1);have HT2:=zH (ht1.fr hfr (by simp;omega));clear hb1 hr1 hbv1 hd1 hp1 ht1 hst hfr hgd;rw[halfL_at ps k hlt hlt2]at e6;go_wp2_with fail;go_roundw
   case rel=>exact⟨k+1,by omega,by go_num,HST.out,HB2.out,HD2.out,HP2.out,HT2.out⟩
   case measure=>simp[intOf];omega
  ·have hkl:k=ps.length:=by omega
   have hall:halfL ps k=ps.map lined:=by
    unfold halfL;rw[hkl,List.take_of_length_le (Nat.le_refl _),List.drop_of_length_le (Nat.le_refl _)];simp
   rw[hall]at hrw;have HBR:=zH (HB.out.trans hbr);have HLKR:=zH (fun(q:LineP×LineR) (hq:q∈ps)=>(HLK.out q hq).mono hbr hdr);have HPR:=zH hpx;have HTR:=zH htx2;have hso:=sort_small (ps.map lined) g cap wr hrw (by rw[List.length_map];exact hn);rw[List.length_map]at hso;have HSO:=zH hso;have HOL:=zH (fun h=>ord_lined ps h);have hfw0:Fr [g] w V:=HFV.out;have HFW:=zH (hfw0.trans hff (fun i hi _=>hi));clear hfw0 hff;have hgr:=hrw.lt;clear hso hbr hdr hpx htx2 hall;go_wp2_with fail;refine HSO.out.mono ?_;rintro e w2 ⟨rfl,hr2,hf2⟩;rw[HOL.out (fun q hq=>(HLKR.out q hq).1)]at hr2;have hdf:DepEq wr w2:=fun i hi=>hf2.block i hi.lt fun hm=>by
    have e:i=g:=List.mem_singleton.1 hm;subst e;obtain⟨cs,z,hh,-⟩:=hi;obtain⟨cur,hc,-⟩:=hrw;rw[hc]at hh;injection hh with hh;injection hh with _ h2;exact absurd h2 (by decide)
   have hbf:=hf2.toBelowOf (B:=v.heap.size) HBR.out.size (fun i hi=>by rw[List.mem_singleton.1 hi];exact hg);have hp2:=(hf2.block _ (lt_of_block HPR.out) (by simp;omega)).trans HPR.out;have ht2:=HTR.out.fr hf2 (by simp;omega);have HB2:=zH (HBR.out.trans hbf);have HFW2:=zH (HFW.out.trans hf2 (fun i hi _=>hi));have HL2:=zH (fun(q:LineP×LineR) (hq:q∈ordL ltQ ps)=>(HLKR.out q ((ordL_mem ltQ ps q).1 hq)).mono hbf hdf);have hsl:(ordL ltQ ps).length=ps.length:=ordL_len ltQ ps;have HR2:=zH hr2;have HT2:=zH ht2;have HRE:=zH (show(if txB (txOf tx pn ((ordL ltQ ps).map (·.1)) tag)then(txOf tx pn ((ordL ltQ ps).map (·.1)) tag,((ordL ltQ ps).map (·.1)).map LineP.what,0)else(zeroTx,[],120))=R by
    rw[<-HR.out,wholeE_pos (by omega)])
   obtain⟨q0,q1⟩:=cN2 hp2;have hw2:w.heap.size+1<w2.heap.size:=lt_of_block ht2;clear hf2 hr2 hdf hbf hp2 ht2 hrw HSO HOL HPR HTR HLKR HBR HR HRW HLK HTX HPX HB;generalize ordL ltQ ps=qs at HL2 hsl HR2 HRE;go_wp2_with fail;have hin:((w2.alloc (zO12 tx pn 0)).alloc (zO6 (some ⟨w2.heap.size,0,none⟩) 1 1 none 0 0 0 tag)).heap[w2.heap.size]? =some (zO12 tx pn 0):=allocs_at [(zO12 tx pn 0),(zO6 (some ⟨w2.heap.size,0,none⟩) 1 1 none 0 0 0 tag)] w2 0 _ rfl;have hbx:TxBox ((w2.alloc (zO12 tx pn 0)).alloc (zO6 (some ⟨w2.heap.size,0,none⟩) 1 1 none 0 0 0 tag)) (w2.heap.size+1) (some ⟨w2.heap.size,0,none⟩) 1 1 none 0 0 0 tag:=allocs_at [(zO12 tx pn 0),(zO6 (some ⟨w2.heap.size,0,none⟩) 1 1 none 0 0 0 tag)] w2 1 _ rfl;have hb3:Below w2.heap.size w2 ((w2.alloc (zO12 tx pn 0)).alloc (zO6 (some ⟨w2.heap.size,0,none⟩) 1 1 none 0 0 0 tag)):=((Below.refl w2.heap.size w2).alloc (Nat.le_refl _) (zO12 tx pn 0)).alloc (by simp) (zO6 (some ⟨w2.heap.size,0,none⟩) 1 1 none 0 0 0 tag);have hs3:((w2.alloc (.cells #[.string tx,.int .i64 pn,.int .i64 0] 107)).alloc (.cells #[.slice (some ⟨w2.heap.size,0,none⟩) 1 1,.slice none 0 0,.int .i64 0,.int .i64 tag] 51)).heap.size=w2.heap.size+1+1:=by simp
   have hr3:=HR2.out.fr (Fr.below (F:=[]) hb3) (by simp);have ht3:=HT2.out.below hb3;have HB3:=zH (HB2.out.trans (hb3.mono HB2.out.size));have HFW3:=zH (HFW2.out.trans (Fr.below (F:=[g]) hb3) (fun i hi _=>hi));have HL3:=zH (fun(q:LineP×LineR) (hq:q∈qs)=>(HL2.out q hq).mono (hb3.mono HB2.out.size) (DepEq.below hb3));have hgw2:g<w2.heap.size:=HR2.out.lt;generalize ((w2.alloc (zO12 tx pn 0)).alloc (zO6 (some ⟨w2.heap.size,0,none⟩) 1 1 none 0 0 0 tag))=W3 at hin hbx hs3 hr3 ht3 HB3 HL3 HFW3⊢;have HIN:=zH hin;have HBX:=zH hbx;have HR3:=zH hr3;have HT3:=zH ht3;clear hin hbx hb3 hr3 ht3 HB2 HL2 HR2 HT2 q0 q1;go_loopw [11,47] (fun ws i wr=> ∃(k:Nat) (B:Option Addr) (cb:Nat) (vW:Value),vW=ws/\k<=qs.length/\i= .int .i64 (k:Int)/\Fr [w2.heap.size+1] W3 wr/\TxBox wr (w2.heap.size+1) (some ⟨w2.heap.size,0,none⟩) 1 1 B k cb 0 tag/\wr.ownsRow (w2.heap.size+1+1) 63 5 (.slice B k cb) k (flatO ((qs.take k).map lined))/\wr.ownsRow (w2.heap.size+1+1) 3 1 vW k (wordsV ((qs.take k).map fun q=>q.1.what))) (fun _ i _=>qs.length - (intOf i).toNat)
   case atStart=>
    refine⟨0,none,0,_,rfl,Nat.zero_le _,rfl,Fr.refl _ _,HBX.out,⟨rfl,.inl ⟨rfl,rfl⟩⟩,⟨rfl,.inl ⟨rfl,rfl⟩⟩⟩
   case round=>
    obtain⟨k,B,cb,vW,rfl,hk,rfl,hfr,hbx,hoO,hoW⟩:=hrel;have hrr:=HR3.out.fr hfr (by simp;omega);by_cases hlt:k<qs.length
    ·have hlt2:k<(qs.map lined).length:=by rw[List.length_map];exact hlt
     obtain⟨c0,c1,c2,c3,c4,c5,c6,cf⟩:=hrr.cells hlt2;obtain⟨x,hx⟩: ∃x,lined qs[k]=x:=⟨_,rfl⟩;rw[List.getElem_map,hx]at c0 c1 c2 c3 c4 c5 c6;have hwx:qs[k].1.what=x.what:=by rw[<-hx];exact((HL3.out qs[k] (List.getElem_mem hlt)).2.1).symm
     have hsn:flatO ((qs.take (k+1)).map lined)=flatO ((qs.take k).map lined)++[.int .i64 x.v,.int .u8 x.kind,.string x.term,.int .i64 x.n,.slice x.A x.len x.cap]:=by
      rw[List.take_succ_eq_append_getElem hlt,List.map_append,List.map_cons,List.map_nil,hx,flatO_snoc]
     have hsw:wordsV ((qs.take (k+1)).map fun q=>q.1.what)=wordsV ((qs.take k).map fun q=>q.1.what)++[.int .i64 x.what]:=by
      rw[List.take_succ_eq_append_getElem hlt,List.map_append,List.map_cons,List.map_nil,hwx,words_snoc]
     have HSN:=zH hsn;have HSW:=zH hsw;have hb5:Below wr.heap.size wr ((wr.alloc (zO5 x.v x.kind x.term x.n x.A x.len x.cap x.what x.text)).alloc (zO11 x.v x.kind x.term x.n x.A x.len x.cap)):=((Below.refl wr.heap.size wr).alloc (Nat.le_refl _) (zO5 x.v x.kind x.term x.n x.A x.len x.cap x.what x.text)).alloc (by simp) (zO11 x.v x.kind x.term x.n x.A x.len x.cap);have t1:(wr.alloc (zO5 x.v x.kind x.term x.n x.A x.len x.cap x.what x.text)).cell? ⟨w2.heap.size+1,1,none⟩=some (.slice B k cb):=cell_below ((Below.refl wr.heap.size wr).alloc (Nat.le_refl _) (zO5 x.v x.kind x.term x.n x.A x.len x.cap x.what x.text)) hbx.cells.2.1;have hlb:(wr.alloc (zO5 x.v x.kind x.term x.n x.A x.len x.cap x.what x.text)).heap[wr.heap.size]? =some (zO5 x.v x.kind x.term x.n x.A x.len x.cap x.what x.text):=Go.heap_alloc_new wr _;obtain⟨e0,e1,e2,e3,e4⟩:=cN5 hlb;have h5:((wr.alloc (zO5 x.v x.kind x.term x.n x.A x.len x.cap x.what x.text)).alloc (zO11 x.v x.kind x.term x.n x.A x.len x.cap)).cell? ⟨wr.heap.size,5,none⟩=some (.int .i64 x.what):=cell_below ((Below.refl _ (wr.alloc (zO5 x.v x.kind x.term x.n x.A x.len x.cap x.what x.text))).alloc (Nat.le_refl _) (zO11 x.v x.kind x.term x.n x.A x.len x.cap)) (cell_of (j:=5) hlb rfl);have HE5:=zH h5;have HOO:=zH (show((wr.alloc (zO5 x.v x.kind x.term x.n x.A x.len x.cap x.what x.text)).alloc (zO11 x.v x.kind x.term x.n x.A x.len x.cap)).ownsRow (w2.heap.size+1+1) 63 5 (.slice B k cb) k (flatO ((qs.take k).map lined))from own_below hoO hb5);have HOW:=zH (show((wr.alloc (zO5 x.v x.kind x.term x.n x.A x.len x.cap x.what x.text)).alloc (zO11 x.v x.kind x.term x.n x.A x.len x.cap)).ownsRow (w2.heap.size+1+1) 3 1 vW k (wordsV ((qs.take k).map fun q=>q.1.what))from own_below hoW hb5);have HBX5:=zH (hbx.below hb5);have HFC:=zH (show Cells ((wr.alloc (zO5 x.v x.kind x.term x.n x.A x.len x.cap x.what x.text)).alloc (zO11 x.v x.kind x.term x.n x.A x.len x.cap)) (some ⟨wr.heap.size+1,0,none⟩) [.int .i64 x.v,.int .u8 x.kind,.string x.term,.int .i64 x.n,.slice x.A x.len x.cap] by
      have:=fresh_cells (wr.alloc (zO5 x.v x.kind x.term x.n x.A x.len x.cap x.what x.text)) #[.int .i64 x.v,.int .u8 x.kind,.string x.term,.int .i64 x.n,.slice x.A x.len x.cap] 63;simpa using this)
     have HFR5:=zH (hfr.trans (Fr.below (F:=[]) hb5) (by simp));have hsz5:wr.heap.size+1+1=((wr.alloc (.cells #[.int .i64 x.v,.int .u8 x.kind,.string x.term,.int .i64 x.n,.slice x.A x.len x.cap,.int .i64 x.what,.string x.text] 78)).alloc (.cells #[.int .i64 x.v,.int .u8 x.kind,.string x.term,.int .i64 x.n,.slice x.A x.len x.cap] 63)).heap.size:=by simp
     have hbs:w2.heap.size+1+1<=wr.heap.size:=by have:=hfr.size;omega
     have HBO:=zH (fun g' (hg':(Value.slice B k cb).ownBlock=some g')=>World.ownsRow.lt hoO g' hg');clear hbx hoO hoW hfr hrr hb5 hlb h5 hx hwx hsn hsw HR3 HT3 HIN HBX;have tok1:True:=trivial;have tok2:True:=trivial;have hkb:(k+1)*64<=140737488355328:=by omega
     have hk63:k+1<=140737488355328:=by omega
     go_wp2_with (first
      |(
       have _t:=tok1;at_builtin;refine wpList_appk slOut rfl _ _ rfl (w2.heap.size+1+1) _ k _ rfl HOO.out (some ⟨wr.heap.size+1,0,none⟩) 1 1 [.int .i64 x.v,.int .u8 x.kind,.string x.term,.int .i64 x.n,.slice x.A x.len x.cap] rfl rfl HFC.out (by intro u hu;simp at hu;rcases hu with rfl|rfl|rfl|rfl|rfl<;>rfl) hkb hk63 (by omega) ?_;intro v' w6 hown hgr hbl hat;clear tok1 _t hat;obtain⟨B',cb',rfl,-,-⟩:=own_shape hown;have hb6:=HBX5.out.grown hgr (fun e=>by have:=HBO.out _ e.symm;omega);have s1:w6.cell? ⟨w2.heap.size+1,1,none⟩=some (.slice B k cb):=hb6.cells.2.1;have sf:w6.frozen? ⟨w2.heap.size+1,1,none⟩=false:=hb6.frozen 1;have f5:(w6.setCell ⟨w2.heap.size+1,1,none⟩ (.slice B' (k+1) cb')).cell? ⟨wr.heap.size,5,none⟩=some (.int .i64 x.what):=cell_fr (Fr.put0 w6 _ _ _ (List.mem_singleton.2 rfl)) (by simp;omega) (hgr.cell HE5.out (fun e=>Nat.lt_irrefl _ (HBO.out _ e.symm).2));have HG6:=zH hgr;have HL6:=zH hbl;have HW6:=zH hown;have HB6:=zH hb6;clear hgr hbl hown hb6)
      |(have _t:=tok2;at_builtin;refine wpList_appk slNum rfl _ _ rfl (w2.heap.size+1+1) _ k _ rfl (((own_fr (HOW.out.kept HG6.out (rows_apart HOW.out HOO.out (by decide))) (Fr.put0 w6 _ _ _ (List.mem_singleton.2 rfl)) (fun g' hg'=>by have:=World.ownsRow.lt HOW.out g' hg';simp;omega)).alloc _)) (some ⟨w6.heap.size,0,none⟩) 1 1 [.int .i64 x.what] rfl rfl ((by have:=fresh_cells (w6.setCell ⟨w2.heap.size+1,1,none⟩ (.slice B' (k+1) cb')) #[.int .i64 x.what] 3;simpa using this)) (by intro u hu;simp at hu;subst hu;rfl) (by omega) hk63 ((by have:=HL6.out.size;simp at this⊢;omega)) ?_;intro v'' w9 hown2 hgr2 hbl2 hat2;clear tok2 _t hat2))
     have hf7:Fr [w2.heap.size+1] w6 (w6.setCell ⟨w2.heap.size+1,1,none⟩ (.slice B' (k+1) cb')):=Fr.put0 w6 _ _ _ (List.mem_singleton.2 rfl);have hal:Below (w6.setCell ⟨w2.heap.size+1,1,none⟩ (.slice B' (k+1) cb')).heap.size (w6.setCell ⟨w2.heap.size+1,1,none⟩ (.slice B' (k+1) cb')) ((w6.setCell ⟨w2.heap.size+1,1,none⟩ (.slice B' (k+1) cb')).alloc (.cells #[.int .i64 x.what] 3)):=(Below.refl _ _).alloc (Nat.le_refl _) _;have hb9:=((HB6.out.put1 B' (k+1) cb').below hal).grown hgr2 (fun e=>by have:=World.ownsRow.lt HOW.out _ e.symm;omega);have hoO9:w9.ownsRow (w2.heap.size+1+1) 63 5 (.slice B' (k+1) cb') (k+1) (flatO ((qs.take (k+1)).map lined)):=by
      rw[HSN.out];have a1:=(own_fr HW6.out hf7 (fun g' hg'=>by have:=World.ownsRow.lt HW6.out g' hg';simp;omega)).alloc (.cells #[.int .i64 x.what] 3);have a2:((w6.setCell ⟨w2.heap.size+1,1,none⟩ (.slice B' (k+1) cb')).alloc (.cells #[.int .i64 x.what] 3)).ownsRow (w2.heap.size+1+1) 3 1 vW k (wordsV ((qs.take k).map fun q=>q.1.what)):=((own_fr (HOW.out.kept HG6.out (rows_apart HOW.out HOO.out (by decide))) (Fr.put0 w6 _ _ _ (List.mem_singleton.2 rfl)) (fun g' hg'=>by have:=World.ownsRow.lt HOW.out g' hg';simp;omega)).alloc _);exact a1.kept hgr2 (rows_apart a1 a2 (by decide))
     have hoW9:w9.ownsRow (w2.heap.size+1+1) 3 1 v'' (k+1) (wordsV ((qs.take (k+1)).map fun q=>q.1.what)):=by rw[HSW.out];exact hown2
     have hfr9:Fr [w2.heap.size+1] W3 w9:=fr_below ((fr_below HFR5.out HL6.out (by omega)).trans hf7 (fun i hi _=>hi)) (((Below.refl _ _).alloc (by have h8:=HL6.out.size;have h9:=HFR5.out.size;simp at h8 h9⊢;omega) (.cells #[.int .i64 x.what] 3)).trans hbl2) (by omega);have HB9:=zH hb9;have HO9:=zH hoO9;have HW9:=zH hoW9;have HF9:=zH hfr9;clear hf7 hal hb9 hoO9 hoW9 hfr9 hgr2 hbl2 hown2;go_roundw
     case rel=>exact⟨k+1,B',cb',v'',rfl,by omega,by go_num,HF9.out,HB9.out,HO9.out,HW9.out⟩
     case measure=>simp[intOf];omega
    ·have hkn:k=qs.length:=by omega
     have htk:qs.take k=qs:=List.take_of_length_le (by omega);rw[htk]at hoO hoW;subst hkn;have hdep:=dep_tx HBX.out hfr;have hbw:Below v.heap.size W3 wr:=hfr.toBelowOf HB3.out.size (fun i hi=>by rw[List.mem_singleton.1 hi];omega);have hin:wr.heap[w2.heap.size]? =some (zO12 tx pn 0):=(hfr.block _ (lt_of_block HIN.out) (by simp)).trans HIN.out;have hcin: ∀W:World,W.heap[w2.heap.size]? =some (zO12 tx pn 0)->Cells W (some ⟨w2.heap.size,0,none⟩) (insC [⟨tx,pn,0⟩]):=fun W hW _=>⟨_,rfl,fun j u h=>by
      have:=cell_of hW (j:=j) (u:=u) (by simpa [insC]using h);rw[Addr.add_lit,Nat.zero_add];exact this⟩
     obtain⟨ls,hls⟩: ∃ls:List LineP,qs.map (·.1)=ls:=⟨_,rfl⟩;rw[hls]at HRE;have hml:ls.map outP=qs.map fun q=>outP q.1:=by rw[<-hls,List.map_map];rfl
     have hll:ls.length=qs.length:=by rw[<-hls];simp
     have htc: ∀W,Below v.heap.size wr W->Stay wr W->TxC W (txOf tx pn ls tag) (some ⟨w2.heap.size,0,none⟩) B:=fun W h1 h2=>by
      refine⟨hcin W (h2 _ _ _ _ (by decide) (fun e=>absurd e (by decide)) hin),_,cells_stay hoO (by decide) (by decide) W h2, ?_⟩;show OutsC W (ls.map outP) _;rw[hml];exact outs_of (hbw.trans h1) (hdep.trans h2.dep) qs HL3.out
     have hsm:smallTx (txOf tx pn ls tag):=by
      refine⟨fun x hx=> ?_,fun o ho=> ?_,by simp[txOf],by simp[txOf];omega⟩
      ·rw[List.mem_singleton.1 hx];exact⟨HPT.out,htx⟩
      ·have ho:o∈ls.map outP:=ho;rw[hml]at ho;obtain⟨q,hq,rfl⟩:=List.mem_map.1 ho;exact(HL3.out q hq).2.2.1
     have hright:=txright_any [⟨tx,pn,0⟩] (ls.map outP) 0 tag (some ⟨w2.heap.size,0,none⟩) B 1 cb wr hsm (htc wr (Below.refl _ _) (Stay.refl _)) (HV.out.below (HB3.out.trans hbw));have hol:(ls.map outP).length=qs.length:=by simp[hll]
     rw[hol,hsl,show([⟨tx,pn,0⟩]:List InT).length=1 from rfl]at hright;have HRI:=zH hright;have HTC:=zH htc;have HBW:=zH (HB3.out.trans hbw);have HFR:=zH (HFW3.out.trans hfr (fun i hi hl=>absurd hl (by rw[List.mem_singleton.1 hi];omega)));have HBXR:=zH hbx;have hb6:TxBox wr (w.heap.size+1) none 0 0 none 0 0 0 0:=HT3.out.fr hfr (by simp;omega);have HB6:=zH hb6;have HOW:=zH hoW;obtain⟨x0,x1,x2,x3⟩:=hbx.cells;have hwl:w.heap.size+1<wr.heap.size:=lt_of_block hb6;clear hright htc hsm hcin hin hdep hbw hfr hbx hoO hoW hrr hml htk hb6 HBX HIN HR3 HT3 HL3 HB3 hs3;cases hq:txB (txOf tx pn ls tag)with
     |false=>
      have HE:=zH (show R=(zeroTx,[],120) by rw[<-HRE.out,hq];rfl);have HQ:=zH hq;clear hq;go_wp2_with fail;refine HRI.out.mono ?_;rintro e w3 ⟨rfl,hb3⟩;have hq:txB ⟨[⟨tx,pn,0⟩],ls.map outP,0,tag⟩=false:=HQ.out;have hb6:=HB6.out.below hb3;obtain⟨y0,y1,y2,y3⟩:=hb6.cells;have yf:=hb6.frozen;have HBB:=zH hb3;have HB63:=zH hb6;have HB3:=zH (HBW.out.trans (hb3.mono HBW.out.size));rw[hq];clear hb3 hq hb6;go_wp2_with fail;change bodyPost _ _ _ _ _ (putL w3 (w.heap.size+1) (.slice none 0 0) (.slice none 0 0) (.int .i64 0) (.int .i64 0));have hP:=HB63.out.put none 0 0 none 0 0 0 0;have hF:=putL_fr w3 (w.heap.size+1) (.slice none 0 0) (.slice none 0 0) (.int .i64 0) (.int .i64 0) (F:=[w.heap.size+1]) (List.mem_singleton.2 rfl);generalize (putL w3 (w.heap.size+1) (.slice none 0 0) (.slice none 0 0) (.int .i64 0) (.int .i64 0))=Wf at hP hF⊢;have hFf:=(HFR.out.trans (Fr.below (F:=[g]) HBB.out) (fun i hi _=>hi)).trans hF (fun i hi hl=>absurd hl (by rw[List.mem_singleton.1 hi];omega));have hBf:=HB3.out.trans (hF.toBelowOf (B:=v.heap.size) HB3.out.size (fun i hi=>by rw[List.mem_singleton.1 hi];omega));obtain⟨z0,z1,z2,z3⟩:=hP.cells;rw[HE.out];exact bodyPost_ret (v:= .tuple #[.agg #[.slice none 0 0,.slice none 0 0,.int .i64 0,.int .i64 0],.slice none 0 0,.int .i64 120]) (by simp[results,Tryz.results32,go_sem,z0,z1,z2,z3]) rfl ⟨_,_,rfl,TxF.zero _ _,IntsF.nil _,hFf⟩
     |true=>
      have HE:=zH (show R=(txOf tx pn ls tag,ls.map LineP.what,0) by rw[<-HRE.out,hq];rfl);have HQ:=zH hq;clear hq;go_wp2_with fail;refine HRI.out.mono ?_;rintro e w3 ⟨rfl,hb3⟩;have hq:txB ⟨[⟨tx,pn,0⟩],ls.map outP,0,tag⟩=true:=HQ.out;have hb6:=HB6.out.below hb3;obtain⟨y0,y1,y2,y3⟩:=hb6.cells;have yf:=hb6.frozen;obtain⟨u0,u1,u2,u3⟩:=(HBXR.out.below hb3).cells;rw[hsl]at u1;have HB63:=zH hb6;have HBB:=zH hb3;have HB3:=zH (HBW.out.trans (hb3.mono HBW.out.size));rw[hq];clear hb3 hq hb6;go_wp2_with fail;change bodyPost _ _ _ _ _ (putL w3 (w.heap.size+1) (.slice (some ⟨w2.heap.size,0,none⟩) 1 1) (.slice B ps.length cb) (.int .i64 0) (.int .i64 tag));have hP:=HB63.out.put (some ⟨w2.heap.size,0,none⟩) 1 1 B ps.length cb 0 tag;have hF:=putL_fr w3 (w.heap.size+1) (.slice (some ⟨w2.heap.size,0,none⟩) 1 1) (.slice B ps.length cb) (.int .i64 0) (.int .i64 tag) (F:=[w.heap.size+1]) (List.mem_singleton.2 rfl);generalize (putL w3 (w.heap.size+1) (.slice (some ⟨w2.heap.size,0,none⟩) 1 1) (.slice B ps.length cb) (.int .i64 0) (.int .i64 tag))=Wf at hP hF⊢;have hFf:=(HFR.out.trans (Fr.below (F:=[g]) HBB.out) (fun i hi _=>hi)).trans hF (fun i hi hl=>absurd hl (by rw[List.mem_singleton.1 hi];omega));have hBf:=HB3.out.trans (hF.toBelowOf (B:=v.heap.size) HB3.out.size (fun i hi=>by rw[List.mem_singleton.1 hi];omega));have hBt:=(HBB.out.mono HBW.out.size).trans (hF.toBelowOf (B:=v.heap.size) HB3.out.size (fun i hi=>by rw[List.mem_singleton.1 hi];omega));have hSt:=(Stay.below HBB.out).trans (stay_tx HB63.out hF);obtain⟨z0,z1,z2,z3⟩:=hP.cells;obtain⟨AW,cW,hvw,-,-⟩:=own_shape HOW.out;have hlw:(ls.map LineP.what).length=qs.length:=by simp[hll]
      rw[HE.out];refine bodyPost_ret (v:= .tuple #[.agg #[.slice (some ⟨w2.heap.size,0,none⟩) 1 1,.slice B ps.length cb,.int .i64 0,.int .i64 tag],vW,.int .i64 0]) (by simp[results,Tryz.results32,go_sem,z0,z1,z2,z3]) rfl ⟨_,_,rfl,⟨some ⟨w2.heap.size,0,none⟩,1,B,cb, ?_,fun W a b=>HTC.out W (hBt.trans a) (hSt.trans b)⟩,⟨AW,cW, ?_,fun W a=> ?_⟩,hFf⟩
      ·show _=Value.agg #[.slice _ 1 _,.slice _ (ls.map outP).length _,_,_];rw[hol,hsl];rfl
      ·rw[hlw];exact hvw
      ·have ho:=HOW.out;rw[hvw]at ho;have:=cells_stay ho (by decide) (by decide) W (hSt.trans a);have e:(qs.map fun q=>q.1.what)=ls.map LineP.what:=by rw[<-hls,List.map_map];rfl
       rw[e]at this;exact this
end Go.Proofs.YtbiioifpeebjaaaGreatDoor
