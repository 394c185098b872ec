/- Lines compared; a row of lines sorted. · A row of lines sorted. · The order of lines: by their value, then by their text. · A row of lines in memory; sorted, where there are fewer than 20. -/
import Derived.Test.YtbiioifpeebjaaaGreatDoorShelfT
import Derived.Test.YtbiioifpeebjaaaGreatDoorQ0
import Derived.Test.YtbiioifpeebjaaaGreatDoorQ1
import Derived.Shelf.SlSortCmp.InsertionK
import Derived.Lib.Hide
import Derived.Test.YtbiioifpeebjaaaGreatDoorQ10
set_option linter.all false
namespace Go.Proofs.YtbiioifpeebjaaaGreatDoor
open Go.RowKit Go.Shelf
def linesRen:Go.Shelf.Ren:=⟨fun|20=>85|n=>n,fun|24=>78|22=>75|25=>105|n=>n,fun|n=>n⟩
theorem linesLay:SlLaysF0.n20 Tryz.prog linesRen:={
 mixed:=by kernel_rfl
 f20:=⟨ "slices.insertionSortCmpFunc[sluiceway/commit.line]",by decide,Tryz.func85.trans (congrArg some (by kernel_rfl))⟩
 t0:=Tryz.underlying0
 a0:=Tryz.isAgg0
 z0:=Tryz.sizeOf0
 v0:=Tryz.zeroValue0
 t3:=Tryz.underlying3
 a3:=Tryz.isAgg3
 z3:=Tryz.sizeOf3
 v3:=Tryz.zeroValue3
 t4:=Tryz.underlying4
 a4:=Tryz.isAgg4
 z4:=Tryz.sizeOf4
 v4:=Tryz.zeroValue4
 t22:=Tryz.underlying75
 a22:=Tryz.isAgg75
 z22:=Tryz.sizeOf75
 v22:=Tryz.zeroValue75
 t25:=Tryz.underlying105
 a25:=Tryz.isAgg105
 z25:=Tryz.sizeOf105
 v25:=Tryz.zeroValue105}
set_option maxRecDepth 100000 in
set_option maxHeartbeats 2000000 in
theorem nan_any (n:Int) (w:World):Calls Tryz.prog 70 #[.int .i64 n] w fun e w'=>e= .returned (.bool false)/\w'=w:=by
 have hq:(n !=n)=false:=by simp
 go_enter Tryz.func70,Tryz.ntmps70;go_wp2;go_ret;exact⟨ret_bool (by simp),rfl⟩
def cmpI (a b:Int):Int:=if a<b then -1 else if b<a then 1 else 0
set_option maxRecDepth 100000 in
set_option maxHeartbeats 2000000 in
theorem compare_any (a b:Int) (w:World):Calls Tryz.prog 48 #[.int .i64 a,.int .i64 b] w fun e w'=>e= .returned (.int .i64 (cmpI a b))/\w'=w:=by
 unfold cmpI;go_enter Tryz.func48,Tryz.ntmps48;go_wp2_with (go_at_call 70;refine(nan_any _ _).mono ?_;rintro e w' ⟨rfl,rfl⟩)
 all_goals
  go_ret;exact⟨rfl,rfl⟩
def orI (a b:Int):Int:=if a=0 then b else a
structure LineR where
 v:Int
 kind:Int
 term:ByteArray
 n:Int
 A:Option Addr
 len:Nat
 cap:Nat
 what:Int
 text:ByteArray
instance:Inhabited LineR:=⟨⟨0,0,⟨#[]⟩,0,none,0,0,0,⟨#[]⟩⟩⟩
def LineR.enc (x:LineR):List Value:=[.int .i64 x.v,.int .u8 x.kind,.string x.term,.int .i64 x.n,.slice x.A x.len x.cap,.int .i64 x.what,.string x.text]
theorem LineR.enc_len (x:LineR):x.enc.length=7:=rfl
theorem LineR.enc_one (x:LineR): ∀v∈x.enc,v.oneCell'=true:=fun v hv=>by
 unfold LineR.enc at hv;simp only[List.mem_cons,List.not_mem_nil,or_false]at hv;rcases hv with rfl|rfl|rfl|rfl|rfl|rfl|rfl<;>rfl
def cfL (x y:LineR):Int:=orI (cmpI x.v y.v) (Lib.compareBytes x.text.data.toList y.text.data.toList)
end Go.Proofs.YtbiioifpeebjaaaGreatDoor
namespace Go.Proofs.YtbiioifpeebjaaaGreatDoor
open Go.RowKit Go.Shelf Go.Sort
theorem fresh_cells (w:World) (cs:Array Value) (E:TypeId):Cells (w.alloc (.cells cs E)) (some ⟨w.heap.size,0,none⟩) cs.toList:=fun _=>⟨_,rfl,fun j u h=>by
 have hh:(w.alloc (.cells cs E)).heap[w.heap.size]? =some (.cells cs E (0,0)):=Go.heap_alloc_new w _;have hj:cs[j]? =some u:=by simpa using h
 have:=cell_of hh hj;unfold Addr.add;by_cases h0:j=0
 ·subst h0;simpa using this
 ·rw[if_neg h0];simpa using this⟩
set_option maxRecDepth 100000 in
set_option maxHeartbeats 2000000 in
theorem or_any (a b:Int) (ad:Addr) (c:Nat) (w:World) (hA:Cells w (some ad) [.int .i64 a,.int .i64 b]):Calls Tryz.prog 47 #[.slice (some ad) 2 c] w fun e w'=>e= .returned (.int .i64 (orI a b))/\w'=w:=by
 unfold orI;obtain⟨ad',he,hc⟩:=hA (by simp);injection he with he;subst he;have c0:w.cell? ad=some (.int .i64 a):=by simpa [Addr.add]using hc 0 _ rfl
 have c1:w.cell? ⟨ad.block,ad.off+1,none⟩=some (.int .i64 b):=by simpa [Addr.add]using hc 1 _ rfl
 clear hc hA;go_enter Tryz.func47,Tryz.ntmps47;go_wp2;go_loopw [8] (fun i wr=> ∃k:Nat,k<=2/\i= .int .i64 (k:Int)/\wr=w/\(0<k->a=0)/\(k=2->b=0)) (fun i _=>2 - (intOf i).toNat)
 case atStart=>exact⟨0,by omega,rfl,rfl,by omega,by omega⟩
 case round=>
  obtain⟨k,hk,rfl,rfl,h0,h1⟩:=hrel;rcases(show k=0\/k=1\/k=2 by omega)with rfl|rfl|rfl
  ·by_cases ha:a=0
   ·subst ha;go_wp2;go_roundw
    case rel=>exact⟨1,by omega,by go_num,by simp⟩
    case measure=>simp[intOf]
   ·have hne:(a !=0)=true:=by simpa using ha
    go_wp2;go_ret;exact⟨rfl,rfl⟩
  ·obtain rfl:=h0 (by omega);by_cases hb:b=0
   ·subst hb;go_wp2;go_roundw
    case rel=>exact⟨2,by omega,by go_num,by simp⟩
    case measure=>simp[intOf]
   ·have hne:(b !=0)=true:=by simpa using hb
    go_wp2;go_ret;exact⟨by simp,rfl⟩
  ·obtain rfl:=h0 (by omega);obtain rfl:=h1 rfl;go_wp2;go_ret;exact⟨by simp,rfl⟩
set_option maxRecDepth 100000 in
set_option maxHeartbeats 8000000 in
theorem cmpLine_any (x y:LineR) (w:World):Calls Tryz.prog 46 #[.agg x.enc.toArray,.agg y.enc.toArray] w fun e w'=>e= .returned (.int .i64 (cfL x y))/\ ∃q os',w'=grow (w.drewN q) os':=by
 have HX0:=zH (show((w.alloc (zO5 x.v x.kind x.term x.n x.A x.len x.cap x.what x.text)).alloc (zO5 y.v y.kind y.term y.n y.A y.len y.cap y.what y.text)).cell? ⟨w.heap.size,0,none⟩=some (.int .i64 x.v)from cell_of (j:=0) (allocs_at [(zO5 x.v x.kind x.term x.n x.A x.len x.cap x.what x.text),(zO5 y.v y.kind y.term y.n y.A y.len y.cap y.what y.text)] w 0 _ rfl) rfl);have HX6:=zH (show((w.alloc (zO5 x.v x.kind x.term x.n x.A x.len x.cap x.what x.text)).alloc (zO5 y.v y.kind y.term y.n y.A y.len y.cap y.what y.text)).cell? ⟨w.heap.size,6,none⟩=some (.string x.text)from cell_of (j:=6) (allocs_at [(zO5 x.v x.kind x.term x.n x.A x.len x.cap x.what x.text),(zO5 y.v y.kind y.term y.n y.A y.len y.cap y.what y.text)] w 0 _ rfl) rfl);have HY0:=zH (show((w.alloc (zO5 x.v x.kind x.term x.n x.A x.len x.cap x.what x.text)).alloc (zO5 y.v y.kind y.term y.n y.A y.len y.cap y.what y.text)).cell? ⟨w.heap.size+1,0,none⟩=some (.int .i64 y.v)from cell_of (j:=0) (allocs_at [(zO5 x.v x.kind x.term x.n x.A x.len x.cap x.what x.text),(zO5 y.v y.kind y.term y.n y.A y.len y.cap y.what y.text)] w 1 _ rfl) rfl);have HY6:=zH (show((w.alloc (zO5 x.v x.kind x.term x.n x.A x.len x.cap x.what x.text)).alloc (zO5 y.v y.kind y.term y.n y.A y.len y.cap y.what y.text)).cell? ⟨w.heap.size+1,6,none⟩=some (.string y.text)from cell_of (j:=6) (allocs_at [(zO5 x.v x.kind x.term x.n x.A x.len x.cap x.what x.text),(zO5 y.v y.kind y.term y.n y.A y.len y.cap y.what y.text)] w 1 _ rfl) rfl);have HE:=zH (show∀o,∃q os',((w.alloc (zO5 x.v x.kind x.term x.n x.A x.len x.cap x.what x.text)).alloc (zO5 y.v y.kind y.term y.n y.A y.len y.cap y.what y.text)).drew.alloc o=grow (w.drewN q) os' from fun o=>⟨1,#[(zO5 x.v x.kind x.term x.n x.A x.len x.cap x.what x.text),(zO5 y.v y.kind y.term y.n y.A y.len y.cap y.what y.text),o],by simp only[alloc_eq_grow,drew_grow,grow_grow];rfl⟩);unfold LineR.enc cfL;go_enter Tryz.func46,Tryz.ntmps46;go_upto_region 1 with fail;generalize ((w.alloc (zO5 x.v x.kind x.term x.n x.A x.len x.cap x.what x.text)).alloc (zO5 y.v y.kind y.term y.n y.A y.len y.cap y.what y.text))=W at HX0 HX6 HY0 HY6 HE⊢;refine wp_region_noPanic ?_;refine wp_region_any (by kernel_rfl) (anyG_any (S:=fun V=>Below W.heap.size W V) (n:=14) _ _ _ _ ?_);have hS:Below W.heap.size W W.drew:=(Below.refl _ _).drew;change AnyG _ _ _ _ _ _ 15 (Array.replicate 15 false) _ W.drew;refine anyG_take (i:=0) (v:= ?_) rfl rfl (by kernel_rfl) (by kernel_rfl) (by kernel_rfl) (by kernel_rfl) (by kernel_rfl) (fun _ _ _ h=>h) (Or.inl ⟨by rfl, ?_⟩) hS ?_
 rotate_left
 ·(intro w' hSw;(try dsimp only at hSw);go_simp;(try with_reducible rfl))
 try simp only[Act.put,zP]
 refine anyG_take (i:=1) (v:= ?_) rfl rfl (by kernel_rfl) (by kernel_rfl) (by kernel_rfl) (by kernel_rfl) (by kernel_rfl) (fun _ _ _ h=>h) (Or.inl ⟨by rfl, ?_⟩) hS ?_
 rotate_left
 ·(intro w' hSw;(try dsimp only at hSw);go_simp;(try with_reducible rfl))
 try simp only[Act.put,zP]
 refine anyG_take (i:=2) (v:= ?_) rfl rfl (by kernel_rfl) (by kernel_rfl) (by kernel_rfl) (by kernel_rfl) (by kernel_rfl) (fun _ _ _ h=>h) (Or.inl ⟨by rfl, ?_⟩) hS ?_
 rotate_left
 ·(intro w' hSw;have hc:=cell_below hSw HX0.out;(try dsimp only at hSw);go_simp;(try with_reducible rfl))
 try simp only[Act.put,zP]
 refine anyG_take (i:=3) (v:= ?_) rfl rfl (by kernel_rfl) (by kernel_rfl) (by kernel_rfl) (by kernel_rfl) (by kernel_rfl) (fun _ _ _ h=>h) (Or.inl ⟨by rfl, ?_⟩) hS ?_
 rotate_left
 ·(intro w' hSw;(try dsimp only at hSw);go_simp;(try with_reducible rfl))
 try simp only[Act.put,zP]
 refine anyG_take (i:=4) (v:= ?_) rfl rfl (by kernel_rfl) (by kernel_rfl) (by kernel_rfl) (by kernel_rfl) (by kernel_rfl) (fun _ _ _ h=>h) (Or.inl ⟨by rfl, ?_⟩) hS ?_
 rotate_left
 ·(intro w' hSw;(try dsimp only at hSw);go_simp;(try with_reducible rfl))
 try simp only[Act.put,zP]
 refine anyG_take (i:=5) (v:= ?_) rfl rfl (by kernel_rfl) (by kernel_rfl) (by kernel_rfl) (by kernel_rfl) (by kernel_rfl) (fun _ _ _ h=>h) (Or.inl ⟨by rfl, ?_⟩) hS ?_
 rotate_left
 ·(intro w' hSw;have hc:=cell_below hSw HY0.out;(try dsimp only at hSw);go_simp;(try with_reducible rfl))
 try simp only[Act.put,zP]
 refine anyG_take (i:=7) (v:= ?_) rfl rfl (by kernel_rfl) (by kernel_rfl) (by kernel_rfl) (by kernel_rfl) (by kernel_rfl) (fun _ _ _ h=>h) (Or.inl ⟨by rfl, ?_⟩) hS ?_
 rotate_left
 ·(intro w' hSw;(try dsimp only at hSw);go_simp;(try with_reducible rfl))
 try simp only[Act.put,zP]
 refine anyG_take (i:=8) (v:= ?_) rfl rfl (by kernel_rfl) (by kernel_rfl) (by kernel_rfl) (by kernel_rfl) (by kernel_rfl) (fun _ _ _ h=>h) (Or.inl ⟨by rfl, ?_⟩) hS ?_
 rotate_left
 ·(intro w' hSw;have hc:=cell_below hSw HX6.out;(try dsimp only at hSw);go_simp;(try with_reducible rfl))
 try simp only[Act.put,zP]
 refine anyG_take (i:=9) (v:= ?_) rfl rfl (by kernel_rfl) (by kernel_rfl) (by kernel_rfl) (by kernel_rfl) (by kernel_rfl) (fun _ _ _ h=>h) (Or.inl ⟨by rfl, ?_⟩) hS ?_
 rotate_left
 ·(intro w' hSw;(try dsimp only at hSw);go_simp;(try with_reducible rfl))
 try simp only[Act.put,zP]
 refine anyG_take (i:=10) (v:= ?_) rfl rfl (by kernel_rfl) (by kernel_rfl) (by kernel_rfl) (by kernel_rfl) (by kernel_rfl) (fun _ _ _ h=>h) (Or.inl ⟨by rfl, ?_⟩) hS ?_
 rotate_left
 ·(intro w' hSw;have hc:=cell_below hSw HY6.out;(try dsimp only at hSw);go_simp;(try with_reducible rfl))
 try simp only[Act.put,zP]
 refine anyG_all (rs:=[6]) (by kernel_rfl) (by simp) (List.forall_mem_singleton.2 ?_);refine wpOp_step rfl (fun K' hK=> ?_);have HK:=zH hK;clear hK;rw[if_pos (by rfl)];go_simp;refine Calls.mono (compare_any x.v y.v _) ?_;rintro e w' ⟨rfl,rfl⟩;go_wp2_with fail;refine HK.out _ _ ⟨fun _=>hS, ?_⟩;clear HK
 try simp only[Act.put,zP]
 refine anyG_all (rs:=[11]) (by kernel_rfl) (by simp) (List.forall_mem_singleton.2 ?_);refine wpOp_step rfl (fun K' hK=> ?_);have HK:=zH hK;clear hK;rw[if_pos (by rfl)];go_simp;refine Calls.mono (Tryz.strings_Compare x.text y.text _) ?_;rintro e w' ⟨rfl,rfl⟩;go_wp2_with fail;refine HK.out _ _ ⟨fun _=>hS, ?_⟩;clear HK
 try simp only[Act.put,zP]
 refine anyG_all (rs:=[12]) (by kernel_rfl) (by simp) (List.forall_mem_singleton.2 ?_);refine wpOp_step rfl (fun K' hK=> ?_);have HK:=zH hK;clear hK;rw[if_pos (by rfl)];go_simp;refine HK.out _ _ ⟨fun _=>hS.alloc hS.size _, ?_⟩;clear HK
 try simp only[Act.put,zP]
 refine anyG_all (rs:=[13]) (by kernel_rfl) (by simp) (List.forall_mem_singleton.2 ?_);refine wpOp_step rfl (fun K' hK=> ?_);have HK:=zH hK;clear hK;rw[if_pos (by rfl)];go_simp;have hor:=or_any (cmpI x.v y.v) (Lib.compareBytes x.text.data.toList y.text.data.toList) ⟨W.heap.size,0,none⟩ 2 (W.drew.alloc (zO16 (cmpI x.v y.v) (Lib.compareBytes x.text.data.toList y.text.data.toList))) (fresh_cells _ _ _);refine Calls.mono (hor) ?_;rintro e w' ⟨rfl,rfl⟩;go_wp2_with fail;refine HK.out _ _ ⟨fun _=>hS.alloc hS.size _, ?_⟩;clear HK
 try simp only[Act.put,zP]
 refine anyG_all (rs:=[14]) (by kernel_rfl) (by simp) (List.forall_mem_singleton.2 ?_);refine wpOp_step rfl (fun K' hK=> ?_);have HK:=zH hK;clear hK;rw[if_pos (by rfl)];go_simp;refine HK.out _ _ ⟨fun h=>absurd rfl h,anyG_done (by kernel_rfl) ?_⟩;clear HK;refine NoPanic.normal ?_;go_wp2_with fail;go_ret;exact⟨rfl,HE.out _⟩
theorem lines_agg (w:World):(isAgg 78).run Tryz.prog w= .ok true w:=Tryz.isAgg78 w
theorem lines_size (w:World):(Go.sizeOf 78).run Tryz.prog w= .ok 7 w:=Tryz.sizeOf78 w
theorem insertion_any (d:Array LineR) (blk off cap a b:Nat) (w:World) (hH:Go.Sort.HoldsK LineR.enc 7 w blk off d) (hblk:blk<w.heap.size) (hab:a<=b) (hb:b<=d.size) (hsz:d.size<4611686018427387904):
 Calls Tryz.prog 85 #[.slice (some ⟨blk,off,none⟩) d.size cap,.int .i64 a,.int .i64 b,.func (.func 46) #[] #[]] w fun e w'=>
  e= .returned (.tuple #[])/\ ∃n os,w'=sortWorldK LineR.enc 7 w blk off n (Sort.insertionSort (ltOf cfL) d a b) os:=
 AnyQ.insertionSortCmpFunc linesLay 7 lines_agg lines_size LineR.enc LineR.enc_len LineR.enc_one cfL 46 #[] blk off cap a b d w (enters_of Tryz.func46 (by kernel_rfl) rfl)
  (fun _ _ _ _ x y=>cmpLine_any x y _) hH hblk hab hb hsz
end Go.Proofs.YtbiioifpeebjaaaGreatDoor
namespace Go.Proofs.YtbiioifpeebjaaaGreatDoor
open Go.RowKit
theorem u8_lt_irrefl (a:UInt8): ¬a<a:=fun h=>by simp[UInt8.lt_iff_toNat_lt]at h
theorem compareBytes_eq: ∀a b:List UInt8,Lib.compareBytes a b=if a<b then -1 else if b<a then 1 else 0
 |[],[]=>by simp[Lib.compareBytes]
 |[],_::_=>by simp[Lib.compareBytes]
 |_::_,[]=>by simp[Lib.compareBytes]
 |a::p,b::q=>by
  unfold Lib.compareBytes;rw[compareBytes_eq p q];simp only[List.cons_lt_cons_iff];by_cases h1:a<b
  ·simp[h1]
  ·rw[if_neg h1];by_cases h2:b<a
   ·have hne:a≠b:=fun e=>by subst e;exact h1 h2
    simp[h1,h2,hne]
   ·rw[if_neg h2];have he:a=b:=UInt8.toNat_inj.1 (by simp only[UInt8.lt_iff_toNat_lt]at h1 h2;omega);subst he;simp[h1]
theorem lt_le_list {a b c:List UInt8} (h1:a<b) (h2:b<=c):a<c:=by
 rcases Classical.em (a<c)with h|h
 ·exact h
 ·have h3:c<=a:=List.not_lt.1 h;exact absurd (List.le_antisymm (List.le_trans h2 h3) (List.le_of_lt h1)) (fun e=>by subst e;exact List.lt_irrefl _ h1)
def ltL (x y:LineR):Bool:=decide (x.v<y.v)||(decide (x.v=y.v)&&decide (x.text.data.toList<y.text.data.toList))
theorem cfL_lt (x y:LineR):ltOf cfL x y=ltL x y:=by
 unfold ltOf cfL ltL orI cmpI;rw[compareBytes_eq];by_cases h1:x.v<y.v
 ·simp[h1]
 ·by_cases h2:y.v<x.v
  ·have: ¬x.v=y.v:=by omega
   simp[h1,h2,this]
  ·have he:x.v=y.v:=by omega
   by_cases h3:x.text.data.toList<y.text.data.toList
   ·simp[he,h3]
   ·by_cases h4:y.text.data.toList<x.text.data.toList
    ·simp[he,h3,h4]
    ·simp[he,h3,h4]
theorem ltL_weak:Weak ltL where
 asym x y h:=by
  unfold ltL at h⊢;simp only[Bool.or_eq_true,Bool.and_eq_true,decide_eq_true_eq]at h;rw[Bool.or_eq_false_iff];rcases h with h|⟨h1,h2⟩
  ·exact⟨decide_eq_false (by omega),by rw[decide_eq_false (by omega: ¬y.v=x.v)];rfl⟩
  ·refine⟨decide_eq_false (by omega), ?_⟩;rw[decide_eq_false (List.lt_asymm h2)];simp
 neg x y z h h':=by
  unfold ltL at h h'⊢;simp only[Bool.or_eq_true,Bool.and_eq_true,decide_eq_true_eq]at h⊢;rw[Bool.or_eq_false_iff]at h';have a1: ¬z.v<y.v:=by simpa using h'.1
  rcases h with h|⟨h1,h2⟩
  ·exact .inl (by omega)
  ·by_cases hz:y.v<z.v
   ·exact .inl (by omega)
   ·have hv:z.v=y.v:=by omega
    have a2: ¬z.text.data.toList<y.text.data.toList:=by simpa [hv]using h'.2
    exact .inr ⟨by omega,lt_le_list h2 (List.not_lt.1 a2)⟩
theorem ltOf_eq:ltOf cfL=ltL:=by
 funext x y;exact cfL_lt x y
def flatE (ls:List LineR):List Value:=(ls.map LineR.enc).flatten
theorem flatE_len (ls:List LineR):(flatE ls).length=ls.length*7:=by
 induction ls with
 |nil=>rfl
 |cons x r ih=>
  show(x.enc++flatE r).length=_;rw[List.length_append,ih,LineR.enc_len,List.length_cons];omega
theorem flatE_get: ∀(ls:List LineR) (i:Nat) (hi:i<ls.length) (c:Nat),c<7->(flatE ls)[i*7+c]? =ls[i].enc[c]?
 |[],i,hi,_,_=>absurd hi (by simp)
 |x::r,0,_,c,hc=>by
  show(x.enc++flatE r)[0*7+c]? =_;rw[Nat.zero_mul,Nat.zero_add,List.getElem?_append_left (by rw[LineR.enc_len];exact hc)];rfl
 |x::r,i+1,hi,c,hc=>by
  show(x.enc++flatE r)[(i+1)*7+c]? =_;rw[List.getElem?_append_right (by rw[LineR.enc_len];omega),LineR.enc_len,show(i+1)*7+c - 7=i*7+c by omega,flatE_get r i (by simpa using hi) c hc];rfl
theorem flatK_eq (d:Array LineR):Go.Sort.flatK LineR.enc 7 d=(flatE d.toList).toArray:=by
 apply Array.ext
 ·rw[Go.Sort.size_flatK];simp[flatE_len]
 ·intro t h1 h2;rw[Go.Sort.size_flatK]at h1;have hi:t / 7<d.size:=by omega
  have h3:(flatE d.toList)[t / 7*7+t%7]? =(d.toList[t / 7]'(by simpa using hi)).enc[t%7]? :=flatE_get d.toList (t / 7) (by simpa using hi) (t%7) (by omega);rw[show t / 7*7+t%7=t by omega]at h3;have h4:=Go.Sort.get_flatK LineR.enc 7 d t h1;rw[getElem!_pos _ t (by rw[Go.Sort.size_flatK];exact h1)]at h4;rw[h4];have h5:(flatE d.toList).toArray[t]? =some ((flatE d.toList).toArray[t]'h2):=Array.getElem?_eq_getElem h2;rw[List.getElem?_toArray,h3]at h5;rw[getElem!_pos d _ hi];have h6:t%7<(d.toList[t / 7]'(by simpa using hi)).enc.length:=by rw[LineR.enc_len];omega
  rw[List.getElem?_eq_getElem h6]at h5;injection h5 with h5;rw[<-h5,Array.getElem_toList];rw[getElem!_pos _ _ (by rw[LineR.enc_len];omega)];rfl
end Go.Proofs.YtbiioifpeebjaaaGreatDoor
namespace Go.Proofs.YtbiioifpeebjaaaGreatDoor
open Go.RowKit
def RowL (w:World) (g:Nat) (ls:List LineR):Prop:= ∃cur:Array Value,w.heap[g]? =some (.cells cur 78 (0,0))/\ ∀(j:Nat) (u:Value),(flatE ls)[j]? =some u->cur[j]? =some u
theorem RowL.lt {w:World} {g:Nat} {ls:List LineR} (h:RowL w g ls):g<w.heap.size:=by
 obtain⟨cur,h,-⟩:=h;exact lt_of_block h
theorem RowL.fr {F:List Nat} {w w':World} {g:Nat} {ls:List LineR} (h:RowL w g ls) (hf:Fr F w w') (hg:g∉F):RowL w' g ls:=by
 have hl:=h.lt;obtain⟨cur,h1,h2⟩:=h;exact⟨cur,(hf.block g hl hg).trans h1,h2⟩
theorem RowL.holds {w:World} {g:Nat} {ls:List LineR} (h:RowL w g ls):Go.Sort.HoldsK LineR.enc 7 w g 0 ls.toArray:=by
 obtain⟨cur,h1,h2⟩:=h;intro j hj;rw[flatK_eq]at hj⊢;have hj':j<(flatE ls).length:=by simpa using hj
 have hu:(flatE ls)[j]? =some (flatE ls)[j]:=List.getElem?_eq_getElem hj';refine⟨?_,by simp[World.frozen?,h1]⟩;rw[Nat.zero_add,cell_of h1 (h2 j _ hu)];rw[getElem!_pos _ j hj];rfl
theorem sorted_row {w:World} {g:Nat} {ls:List LineR} (h:RowL w g ls) (ks:List LineR) (hk:ks.length=ls.length) (n:Nat) (os:Array Obj):RowL (Go.Proofs.sortWorldK LineR.enc 7 w g 0 n ks.toArray os) g ks/\Fr [g] w (Go.Proofs.sortWorldK LineR.enc 7 w g 0 n ks.toArray os):=by
 have hl:=h.lt;have hH:=holdsK_sortWorldK_c LineR.enc 7 w g 0 ls.toArray ks.toArray n os h.holds hl (by simpa using hk);obtain⟨cur,h1,-⟩:=h;have hb:(Go.Proofs.sortWorldK LineR.enc 7 w g 0 n ks.toArray os).heap[g]? =some (.cells (Go.Sort.putCells id 0 (Go.Sort.flatK LineR.enc 7 ks.toArray) cur) 78 (0,0)):=by
  show((w.heap.modify g (Go.Sort.onCells (Go.Sort.putCells id 0 (Go.Sort.flatK LineR.enc 7 ks.toArray))))++os)[g]? =_;rw[Array.getElem?_append_left (by simpa using hl),Array.getElem?_modify,if_pos rfl,h1];rfl
 refine⟨⟨_,hb,fun j u hu=> ?_⟩,⟨rfl,rfl,rfl, ?_,fun i hi hn=> ?_⟩⟩
 ·have hj:j<(Go.Sort.flatK LineR.enc 7 ks.toArray).size:=by
   rw[flatK_eq];simpa using(List.getElem?_eq_some_iff.1 hu).1
  have h2:=(hH j hj).1;rw[Nat.zero_add,getElem!_pos _ j hj]at h2;have h3:(Go.Sort.flatK LineR.enc 7 ks.toArray)[j]=u:=by
   have h4:(Go.Sort.flatK LineR.enc 7 ks.toArray)[j]? =some u:=by rw[flatK_eq];simpa using hu
   rw[Array.getElem?_eq_getElem hj]at h4;injection h4
  rw[h3]at h2;simp only[World.cell?,hb]at h2;exact h2
 ·show w.heap.size<=((w.heap.modify g _)++os).size;rw[Array.size_append,Array.size_modify];omega
 ·show((w.heap.modify g _)++os)[i]? =_;rw[Array.getElem?_append_left (by simpa using hi),Array.getElem?_modify,if_neg (fun e=>hn (by rw[<-e];simp))]
set_option maxRecDepth 100000 in
set_option maxHeartbeats 4000000 in
theorem stable_small (ls:List LineR) (g cap:Nat) (w:World) (h:RowL w g ls) (hn:ls.length<20):
 Calls Tryz.prog 69 #[.slice (some ⟨g,0,none⟩) ls.length cap,.int .i64 ls.length,.func (.func 46) #[] #[]] w fun e w'=>e= .returned (.tuple #[])/\RowL w' g (ordL ltL ls)/\Fr [g] w w':=by
 have hI:=insertion_any ls.toArray g 0 cap 0 ls.length w h.holds h.lt (by omega) (by simp) (by simp;omega);rw[List.size_toArray]at hI;have HI:=zH hI;have he:Go.Sort.insertionSort (ltOf cfL) ls.toArray 0 ls.length=(ordL ltL ls).toArray:=by
  have:=insertion_list ltL_weak [] ls [] ls.toArray (by simp);simp only[List.length_nil,Nat.zero_add,List.nil_append,List.append_nil]at this;rw[ltOf_eq];apply Array.ext';rw[this]
 have HE:=zH he;have HS:=zH (fun n os=>sorted_row h (ordL ltL ls) (ordL_len _ _) n os);clear hI he h;generalize hm:ls.length=m at*;have HM:=zH hm;clear hm;go_enter Tryz.func69,Tryz.ntmps69;go_wp2_with fail;go_loopw [7,8] (fun a b wr=>a= .int .i64 0/\b= .int .i64 20/\wr=w) (fun _ _ _=>0)
 case atStart=>exact⟨rfl,rfl,rfl⟩
 case round=>
  obtain⟨rfl,rfl,rfl⟩:=hrel;have hc: ¬(20:Int)<=(m:Int):=by omega
  go_wp2_with fail;refine HI.out.mono ?_;rintro e w1 ⟨rfl,n,os,rfl⟩;rw[HE.out];obtain⟨a1,a2⟩:=HS.out n os;have A1:=zH a1;have A2:=zH a2;clear a1 a2;generalize Go.Proofs.sortWorldK LineR.enc 7 wr g 0 n (ordL ltL ls).toArray os=W at A1 A2⊢;go_wp2_with fail;go_loopw [6] (fun a wr=>a= .int .i64 20/\wr=W) (fun _ _=>0)
  case atStart=>exact⟨rfl,rfl⟩
  case round=>
   obtain⟨rfl,rfl⟩:=hrel;have hc2: ¬(20:Int)<(m:Int):=by omega
   go_wp2_with fail;go_end0;exact⟨rfl,A1.out,A2.out⟩
set_option maxRecDepth 100000 in
set_option maxHeartbeats 4000000 in
theorem sort_small (ls:List LineR) (g cap:Nat) (w:World) (h:RowL w g ls) (hn:ls.length<20):
 Calls Tryz.prog 45 #[.slice (some ⟨g,0,none⟩) ls.length cap,.func (.func 46) #[] #[]] w fun e w'=>e= .returned (.tuple #[])/\RowL w' g (ordL ltL ls)/\Fr [g] w w':=by
 have HI:=zH (stable_small ls g cap w h hn);clear h;go_enter Tryz.func45,Tryz.ntmps45;go_wp2_with fail;refine HI.out.mono ?_;rintro e w1 ⟨rfl,h1,h2⟩;go_wp2_with fail;go_end0;exact⟨rfl,h1,h2⟩
end Go.Proofs.YtbiioifpeebjaaaGreatDoor
