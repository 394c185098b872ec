/- What goes to the owner, and to the other. · Which payments are left out. · Amounts summed; the bounds of a state without payments. · The bounds of a state without payments. -/
import Derived.Test.YtbiioifpeebjaaaGreatDoorQ14
import Derived.Test.YtbiioifpeebjaaaGreatDoorQ9
import Derived.Test.YtbiioifpeebjaaaGreatDoorQ17
import Derived.Test.YtbiioifpeebjaaaGreatDoorQ10
import Derived.Deep.DrawnRows
import Derived.Test.YtbiioifpeebjaaaGreatDoorQ11
set_option linter.all false
namespace Go.Proofs.YtbiioifpeebjaaaGreatDoor
open Go.RowKit
def keysV (k:KeysR):Value:= .agg #[.string k.rev,.string k.later,.string k.mine,.string k.theirs,.string k.pay]
theorem LockV.leaf {w:World} (k:Int) (t:ByteArray) (n:Int):LockV w (.node k t n []) (lockV k t n none 0 0):=⟨none,0,rfl,fun _ _=>LockC.leaf k t n⟩
theorem lockV_cells (k:Int) (t:ByteArray) (n:Int) (A:Option Addr) (len cap:Nat):(lockV k t n A len cap).cells= #[.int .u8 k,.string t,.int .i64 n,.slice A len cap]:=by
 simp[lockV,Value.cells]
set_option maxRecDepth 100000 in
set_option maxHeartbeats 2000000 in
theorem other_any (k:KeysR) (w:World):Calls Tryz.prog 10 #[keysV k] w fun e w'=> ∃v,e= .returned v/\LockV w' (otherL k) v/\Below w.heap.size w w':=by
 unfold keysV;have HC:=zH (fun W=>show Calls Tryz.prog _ _ W (fun e w'=>e= .returned (.agg #[.int .u8 1,.string k.pay,.int .i64 0,.slice none 0 0])/\Below W.heap.size W w')from sig_any k.pay W);have HB:=zH (((Below.refl w.heap.size w).alloc (Nat.le_refl _) (zk k)).alloc (by simp;try omega) (zO2 0 ⟨#[]⟩ 0 none 0 0));have HZ:=zH (show LBox ((w.alloc (zk k)).alloc (zO2 0 ⟨#[]⟩ 0 none 0 0)) (w.heap.size+1) 0 ⟨#[]⟩ 0 (.slice none 0 0)from allocs_at [(zk k),(zO2 0 ⟨#[]⟩ 0 none 0 0)] w 1 _ rfl);go_enter Tryz.func10,Tryz.ntmps10;go_wp2_with fail;refine(HC.out _).mono ?_;rintro e w1 ⟨rfl,hb1⟩;have HB1:=zH (HB.out.trans (hb1.mono HB.out.size));have HZ1:=zH (HZ.out.below hb1);obtain⟨p0,p1,p2,p3,pf⟩:=HZ1.out.cells;clear hb1;go_wp2_with fail;change bodyPost _ _ _ _ _ (putL w1 (w.heap.size+1) (.int .u8 1) (.string k.pay) (.int .i64 0) (.slice none 0 0));have hA:=HZ1.out.put 1 k.pay 0 (.slice none 0 0);have hFr:=putL_fr w1 (w.heap.size+1) (.int .u8 1) (.string k.pay) (.int .i64 0) (.slice none 0 0) (F:=[w.heap.size+1]) (List.mem_singleton.2 rfl);have hF:=HB1.out.trans (hFr.toBelowOf (B:=w.heap.size) HB1.out.size (fun i hi=>by simp at hi;omega));generalize putL w1 (w.heap.size+1) (.int .u8 1) (.string k.pay) (.int .i64 0) (.slice none 0 0)=Wf at hA hF⊢;clear p0 p1 p2 p3 pf hFr;obtain⟨r0,r1,r2,r3,-⟩:=hA.cells;exact bodyPost_ret (v:=lockV 1 k.pay 0 none 0 0) (by simp[results,Tryz.results10,go_sem,r0,r1,r2,r3,lockV]) rfl ⟨_,rfl,LockV.leaf _ _ _,hF⟩
theorem cells_fresh (w:World) (cs:Array Value) (E:TypeId):Cells (w.alloc (.cells cs E)) (some ⟨w.heap.size,0,none⟩) cs.toList:=fun _=>⟨_,rfl,fun j u h=>by
 have hh:(w.alloc (.cells cs E)).heap[w.heap.size]? =some (.cells cs E (0,0)):=Go.heap_alloc_new w _;have hj:cs[j]? =some u:=by simpa using h
 have:=cell_of hh hj;unfold Addr.add;by_cases h0:j=0
 ·subst h0;simpa using this
 ·rw[if_neg h0];simpa using this⟩
theorem LBox.drew {w:World} {b:Nat} {k:Int} {t:ByteArray} {n:Int} {v:Value} (h:LBox w b k t n v):LBox w.drew b k t n v:=h
theorem rowH {w:World} {cs:Array Value} {l:List LockT} (h8:8<=cs.size) (hx: ∀W,DepEq w W->LocksC W l cs.toList):LocksH (w.alloc (.cells cs 35)) (some ⟨w.heap.size,0,none⟩) l cs.toList:=fun W hW=>by
 have hh:(w.alloc (.cells cs 35)).heap[w.heap.size]? =some (.cells cs 35 (0,0)):=Go.heap_alloc_new w _;have hb:W.heap[w.heap.size]? =some (.cells cs 35 (0,0)):=(hW w.heap.size ⟨cs,_,hh,h8⟩).trans hh;refine⟨fun _=>⟨_,rfl,fun j u h=> ?_⟩,hx W ((DepEq.below ((Below.refl _ _).alloc (Nat.le_refl _) _)).trans hW)⟩;have hj:cs[j]? =some u:=by simpa using h
 have:=cell_of hb hj;unfold Addr.add;by_cases h0:j=0
 ·subst h0;simpa using this
 ·rw[if_neg h0];simpa using this
theorem all_n (l:List LockT) (n:Nat) (hn:l.length=n) (ad:Addr) (c:Nat) (w:World) {xs:List Value} (hl:l.length<=100000) (h2:2<=l.length) (hx:LocksH w (some ad) l xs):
 Calls Tryz.prog 22 #[.slice (some ad) n c] w fun e w'=> ∃A c',e= .returned (.agg #[.int .u8 5,.string ⟨#[]⟩,.int .i64 0,.slice A n c'])/\LockH w' (allL l) [.int .u8 5,.string ⟨#[]⟩,.int .i64 0,.slice A n c']/\Below w.heap.size w w':=by
 subst hn;refine(all_any l ad c w hl h2 hx).mono ?_;rintro e w' ⟨v,rfl,⟨A,c',rfl,hc⟩,hb⟩;exact⟨A,c',rfl,hc,hb⟩
theorem any_n (l:List LockT) (n:Nat) (hn:l.length=n) (ad:Addr) (c:Nat) (w:World) {xs:List Value} (hl:l.length<=100000) (h2:2<=l.length) (hx:LocksH w (some ad) l xs):
 Calls Tryz.prog 25 #[.slice (some ad) n c] w fun e w'=> ∃A c',e= .returned (.agg #[.int .u8 6,.string ⟨#[]⟩,.int .i64 0,.slice A n c'])/\LockH w' (anyL l) [.int .u8 6,.string ⟨#[]⟩,.int .i64 0,.slice A n c']/\Below w.heap.size w w':=by
 subst hn;refine(any_any l ad c w hl h2 hx).mono ?_;rintro e w' ⟨v,rfl,⟨A,c',rfl,hc⟩,hb⟩;exact⟨A,c',rfl,hc,hb⟩
set_option maxRecDepth 100000 in
set_option maxHeartbeats 8000000 in
theorem own_any (d:DealR) (k:KeysR) (w:World):Calls Tryz.prog 9 #[dealV d,keysV k] w fun e w'=> ∃v,e= .returned v/\LockV w' (ownL d.delay k) v/\Below w.heap.size w w':=by
 unfold dealV keysV;have HB:=zH ((((Below.refl w.heap.size w).alloc (Nat.le_refl _) (zB d)).alloc (by simp) (zk k)).alloc (by simp;try omega) (zO2 0 ⟨#[]⟩ 0 none 0 0));have HZ:=zH (show LBox ((zu w d k).alloc (zO2 0 ⟨#[]⟩ 0 none 0 0)) (w.heap.size+1+1) 0 ⟨#[]⟩ 0 (.slice none 0 0)from allocs_at [(zB d),(zk k),(zO2 0 ⟨#[]⟩ 0 none 0 0)] w 2 _ rfl);have HD:=zH (show((zu w d k).alloc (zO2 0 ⟨#[]⟩ 0 none 0 0)).cell? ⟨w.heap.size,5,none⟩=some (.int .i64 d.delay)from cell_of (j:=5) (allocs_at [(zB d),(zk k),(zO2 0 ⟨#[]⟩ 0 none 0 0)] w 0 _ rfl) rfl);have HK0:=zH (show((zu w d k).alloc (zO2 0 ⟨#[]⟩ 0 none 0 0)).cell? ⟨w.heap.size+1,0,none⟩=some (.string k.rev)from cell_of (j:=0) (allocs_at [(zB d),(zk k),(zO2 0 ⟨#[]⟩ 0 none 0 0)] w 1 _ rfl) rfl);have HK1:=zH (show((zu w d k).alloc (zO2 0 ⟨#[]⟩ 0 none 0 0)).cell? ⟨w.heap.size+1,1,none⟩=some (.string k.later)from cell_of (j:=1) (allocs_at [(zB d),(zk k),(zO2 0 ⟨#[]⟩ 0 none 0 0)] w 1 _ rfl) rfl);have SR:=zH (fun W=>show Calls Tryz.prog _ _ W (fun e w'=>e= .returned (.agg #[.int .u8 1,.string k.rev,.int .i64 0,.slice none 0 0])/\Below W.heap.size W w')from sig_any k.rev W);have SL:=zH (fun W=>show Calls Tryz.prog _ _ W (fun e w'=>e= .returned (.agg #[.int .u8 1,.string k.later,.int .i64 0,.slice none 0 0])/\Below W.heap.size W w')from sig_any k.later W);have SO:=zH (fun W=>show Calls Tryz.prog _ _ W (fun e w'=>e= .returned (.agg #[.int .u8 4,.string ⟨#[]⟩,.int .i64 d.delay,.slice none 0 0])/\Below W.heap.size W w')from older_any d.delay W);go_enter Tryz.func9,Tryz.ntmps9;go_upto_region 1 with fail;generalize ((zu w d k).alloc (zO2 0 ⟨#[]⟩ 0 none 0 0))=W at HB HZ HD HK0 HK1⊢;refine wp_region_noPanic ?_;refine wp_region_any (by kernel_rfl) (anyG_any (S:=fun V=>Below W.heap.size W V) (n:=13) _ _ _ _ ?_);have hS:Below W.heap.size W W.drew:=(Below.refl _ _).drew;change AnyG _ _ _ _ _ _ 14 (Array.replicate 14 false) _ W.drew;refine anyG_take (i:=0) (v:= ?_) rfl rfl (by kernel_rfl) (by kernel_rfl) (by kernel_rfl) (by kernel_rfl) (by kernel_rfl) (fun _ _ _ h=>h) (Or.inl ⟨by rfl, ?_⟩) hS ?_
 rotate_left
 ·(intro w' hSw;(try dsimp only at hSw);go_simp;(try with_reducible rfl))
 try simp only[Act.put,zP]
 refine anyG_take (i:=1) (v:= ?_) rfl rfl (by kernel_rfl) (by kernel_rfl) (by kernel_rfl) (by kernel_rfl) (by kernel_rfl) (fun _ _ _ h=>h) (Or.inl ⟨by rfl, ?_⟩) hS ?_
 rotate_left
 ·(intro w' hSw;have hc:=cell_below hSw HK0.out;(try dsimp only at hSw);go_simp;(try with_reducible rfl))
 try simp only[Act.put,zP]
 refine anyG_take (i:=3) (v:= ?_) rfl rfl (by kernel_rfl) (by kernel_rfl) (by kernel_rfl) (by kernel_rfl) (by kernel_rfl) (fun _ _ _ h=>h) (Or.inl ⟨by rfl, ?_⟩) hS ?_
 rotate_left
 ·(intro w' hSw;(try dsimp only at hSw);go_simp;(try with_reducible rfl))
 try simp only[Act.put,zP]
 refine anyG_take (i:=4) (v:= ?_) rfl rfl (by kernel_rfl) (by kernel_rfl) (by kernel_rfl) (by kernel_rfl) (by kernel_rfl) (fun _ _ _ h=>h) (Or.inl ⟨by rfl, ?_⟩) hS ?_
 rotate_left
 ·(intro w' hSw;have hc:=cell_below hSw HD.out;(try dsimp only at hSw);go_simp;(try with_reducible rfl))
 try simp only[Act.put,zP]
 refine anyG_take (i:=6) (v:= ?_) rfl rfl (by kernel_rfl) (by kernel_rfl) (by kernel_rfl) (by kernel_rfl) (by kernel_rfl) (fun _ _ _ h=>h) (Or.inl ⟨by rfl, ?_⟩) hS ?_
 rotate_left
 ·(intro w' hSw;(try dsimp only at hSw);go_simp;(try with_reducible rfl))
 try simp only[Act.put,zP]
 refine anyG_take (i:=7) (v:= ?_) rfl rfl (by kernel_rfl) (by kernel_rfl) (by kernel_rfl) (by kernel_rfl) (by kernel_rfl) (fun _ _ _ h=>h) (Or.inl ⟨by rfl, ?_⟩) hS ?_
 rotate_left
 ·(intro w' hSw;have hc:=cell_below hSw HK1.out;(try dsimp only at hSw);go_simp;(try with_reducible rfl))
 try simp only[Act.put,zP]
 refine anyG_all (rs:=[2]) (by kernel_rfl) (by simp) (List.forall_mem_singleton.2 ?_);refine wpOp_step rfl (fun K' hK=> ?_);have HK:=zH hK;clear hK;rw[if_pos (by rfl)];go_simp;refine Calls.mono (SR.out _) ?_;rintro e w1 ⟨rfl,hb1⟩;have B1:=zH (hS.trans (hb1.mono hS.size));have D1:=zH hb1;clear hb1 hS;have hS:=B1.out;go_wp2_with fail;refine HK.out _ _ ⟨fun _=>B1.out, ?_⟩;clear HK
 try simp only[Act.put,zP]
 refine anyG_all (rs:=[5]) (by kernel_rfl) (by simp) (List.forall_mem_singleton.2 ?_);refine wpOp_step rfl (fun K' hK=> ?_);have HK:=zH hK;clear hK;rw[if_pos (by rfl)];go_simp;refine Calls.mono (SO.out _) ?_;rintro e w2 ⟨rfl,hb2⟩;have B2:=zH (hS.trans (hb2.mono hS.size));have D2:=zH hb2;clear hb2 hS;have hS:=B2.out;go_wp2_with fail;refine HK.out _ _ ⟨fun _=>B2.out, ?_⟩;clear HK
 try simp only[Act.put,zP]
 refine anyG_all (rs:=[8]) (by kernel_rfl) (by simp) (List.forall_mem_singleton.2 ?_);refine wpOp_step rfl (fun K' hK=> ?_);have HK:=zH hK;clear hK;rw[if_pos (by rfl)];go_simp;refine Calls.mono (SL.out _) ?_;rintro e w3 ⟨rfl,hb3⟩;have B3:=zH (hS.trans (hb3.mono hS.size));have D3:=zH hb3;clear hb3 hS;have hS:=B3.out;go_wp2_with fail;refine HK.out _ _ ⟨fun _=>B3.out, ?_⟩;clear HK
 try simp only[Act.put,zP]
 refine anyG_all (rs:=[9]) (by kernel_rfl) (by simp) (List.forall_mem_singleton.2 ?_);refine wpOp_step rfl (fun K' hK=> ?_);have HK:=zH hK;clear hK;rw[if_pos (by rfl)];go_simp;refine HK.out _ _ ⟨fun _=>hS.alloc hS.size _, ?_⟩;clear HK;have hS:Below W.heap.size W (w3.alloc (zO9 4 ⟨#[]⟩ d.delay none 0 0 1 k.later 0 none 0 0)):=hS.alloc hS.size _
 try simp only[Act.put,zP]
 have X4:LocksH (w3.alloc (zO9 4 ⟨#[]⟩ d.delay none 0 0 1 k.later 0 none 0 0)) (some ⟨w3.heap.size,0,none⟩) [olderL d.delay,sigL k.later] [.int .u8 4,.string ⟨#[]⟩,.int .i64 d.delay,.slice none 0 0,.int .u8 1,.string k.later,.int .i64 0,.slice none 0 0]:=rowH (cs:= #[.int .u8 4,.string ⟨#[]⟩,.int .i64 d.delay,.slice none 0 0,.int .u8 1,.string k.later,.int .i64 0,.slice none 0 0]) (by simp) (fun W hW=>LocksC.cons (LockC.leaf 4 _ _) (LocksC.cons (LockC.leaf 1 _ _) LocksC.nil));refine anyG_all (rs:=[10]) (by kernel_rfl) (by simp) (List.forall_mem_singleton.2 ?_);refine wpOp_step rfl (fun K' hK=> ?_);have HK:=zH hK;clear hK;rw[if_pos (by rfl)];go_simp;refine Calls.mono (all_n [olderL d.delay,sigL k.later] 2 rfl ⟨w3.heap.size,0,none⟩ 2 _ (by simp) (by simp) X4) ?_;rintro e w4 ⟨A4,c4,rfl,hl4,hb4⟩;have L4:=zH hl4;have B4:=zH (hS.trans (hb4.mono hS.size));have D4:=zH hb4;clear hb4 hl4 hS X4;have hS:=B4.out;go_wp2_with fail;refine HK.out _ _ ⟨fun _=>B4.out, ?_⟩;clear HK
 try simp only[Act.put,zP]
 refine anyG_all (rs:=[11]) (by kernel_rfl) (by simp) (List.forall_mem_singleton.2 ?_);refine wpOp_step rfl (fun K' hK=> ?_);have HK:=zH hK;clear hK;rw[if_pos (by rfl)];go_simp;refine HK.out _ _ ⟨fun _=>hS.alloc hS.size _, ?_⟩;clear HK;have hS:Below W.heap.size W (w4.alloc (zO9 1 k.rev 0 none 0 0 5 ⟨#[]⟩ 0 A4 2 c4)):=hS.alloc hS.size _
 try simp only[Act.put,zP]
 have X5:LocksH (w4.alloc (zO9 1 k.rev 0 none 0 0 5 ⟨#[]⟩ 0 A4 2 c4)) (some ⟨w4.heap.size,0,none⟩) [sigL k.rev,allL [olderL d.delay,sigL k.later]] [.int .u8 1,.string k.rev,.int .i64 0,.slice none 0 0,.int .u8 5,.string ⟨#[]⟩,.int .i64 0,.slice A4 2 c4]:=rowH (cs:= #[.int .u8 1,.string k.rev,.int .i64 0,.slice none 0 0,.int .u8 5,.string ⟨#[]⟩,.int .i64 0,.slice A4 2 c4]) (by simp) (fun W hW=>LocksC.cons (LockC.leaf 1 _ _) (LocksC.cons (L4.out W hW) LocksC.nil));refine anyG_all (rs:=[12]) (by kernel_rfl) (by simp) (List.forall_mem_singleton.2 ?_);refine wpOp_step rfl (fun K' hK=> ?_);have HK:=zH hK;clear hK;rw[if_pos (by rfl)];go_simp;refine Calls.mono (any_n [sigL k.rev,allL [olderL d.delay,sigL k.later]] 2 rfl ⟨w4.heap.size,0,none⟩ 2 _ (by simp) (by simp) X5) ?_;rintro e w5 ⟨A5,c5,rfl,hl5,hb5⟩;have L5:=zH hl5;have B5:=zH (hS.trans (hb5.mono hS.size));have D5:=zH hb5;clear hb5 hl5 hS X5;have hS:=B5.out;go_wp2_with fail;refine HK.out _ _ ⟨fun _=>B5.out, ?_⟩;clear HK
 try simp only[Act.put,zP]
 obtain⟨p0,p1,p2,p3,pf⟩:=(HZ.out.below B5.out).cells;have HZ2:=zH (HZ.out.below B5.out);refine anyG_all (rs:=[13]) (by kernel_rfl) (by simp) (List.forall_mem_singleton.2 ?_);refine wpOp_step rfl (fun K' hK=> ?_);have HK:=zH hK;clear hK;rw[if_pos (by rfl)];go_simp;have hA:=HZ2.out.put 6 ⟨#[]⟩ 0 (.slice A5 2 c5);have hFr:=putL_fr w5 (w.heap.size+1+1) (.int .u8 6) (.string ⟨#[]⟩) (.int .i64 0) (.slice A5 2 c5) (F:=[(w.heap.size+1+1)]) (List.mem_singleton.2 rfl);refine HK.out _ (putL w5 (w.heap.size+1+1) (.int .u8 6) (.string ⟨#[]⟩) (.int .i64 0) (.slice A5 2 c5)) ⟨fun h=>absurd rfl h,anyG_done (by kernel_rfl) ?_⟩;clear HK;refine NoPanic.normal ?_;clear p0 p1 p2 p3 pf;generalize putL w5 (w.heap.size+1+1) (.int .u8 6) (.string ⟨#[]⟩) (.int .i64 0) (.slice A5 2 c5)=Wf at hA hFr⊢;obtain⟨r0,r1,r2,r3,-⟩:=hA.cells;have HFR:=zH hFr;have HA:=zH hA;clear hA hFr hS;go_wp2_with fail;have hD:=DepEq.box HZ2.out HFR.out;have hF:=HB.out.trans ((B5.out.mono HB.out.size).trans (HFR.out.toBelowOf (B:=w.heap.size) (Nat.le_trans HB.out.size B5.out.size) (fun i hi=>by simp at hi;omega)));exact bodyPost_ret (v:=lockV 6 ⟨#[]⟩ 0 A5 2 c5) (by simp[results,Tryz.results9,go_sem,r0,r1,r2,r3,lockV]) rfl ⟨_,rfl,⟨A5,c5,rfl,L5.out.mono hD⟩,hF⟩
end Go.Proofs.YtbiioifpeebjaaaGreatDoor
namespace Go.Proofs.YtbiioifpeebjaaaGreatDoor
open Go.RowKit
structure PayR where
 mine:Bool
 id:Int
 amt:Int
 hash:ByteArray
 exp:Int
def htlcV (h:PayR):Value:= .agg #[.bool h.mine,.int .i64 h.id,.int .i64 h.amt,.string h.hash,.int .i64 h.exp]
def coinsE (n:Int):Int×Int×Int:=if btwB n 0 2100000000000000000 then(n / 1000,n%1000,0)else(0,0,40)
theorem btwB_of {n a b:Int} (h:btwB n a b=true):a<=n/\n<=b:=by
 unfold btwB at h;rw[Bool.and_eq_true,decide_eq_true_eq,decide_eq_true_eq]at h;exact h
set_option maxRecDepth 100000 in
theorem mcoins_any (n:Int) (w:World):Calls Tryz.prog 41 #[.int .i64 n] w fun e w'=>e= .returned (.tuple #[.int .i64 (coinsE n).1,.int .i64 (coinsE n).2.1,.int .i64 (coinsE n).2.2])/\w'=w:=by
 have hr:=mright_any n w;unfold coinsE;cases hq:btwB n 0 2100000000000000000 with
 |false=>
  rw[hq]at hr;have HR:=zH hr;clear hr hq;go_enter Tryz.func41,Tryz.ntmps41;go_wp2_with fail;refine HR.out.mono ?_;rintro e w1 ⟨rfl,rfl⟩;go_wp2_with fail;exact bodyPost_ret (v:= .tuple #[.int .i64 0,.int .i64 0,.int .i64 40]) (by simp[results,Tryz.results41,go_sem]) rfl ⟨rfl,rfl⟩
 |true=>
  rw[hq]at hr;obtain⟨h0,h1⟩:=btwB_of hq;have HR:=zH hr;have hd:Int.tdiv n 1000=n / 1000:=Int.tdiv_eq_ediv_of_nonneg h0;have hm:Int.tmod n 1000=n%1000:=Int.tmod_eq_emod_of_nonneg h0;have hw:IntKind.i64.wrap (n / 1000)=n / 1000:=by rw[IntKind.wrap_i64];omega
  clear hr hq;go_enter Tryz.func41,Tryz.ntmps41;go_wp2_with fail;refine HR.out.mono ?_;rintro e w1 ⟨rfl,rfl⟩;go_wp2_with fail;exact bodyPost_ret (v:= .tuple #[.int .i64 (n / 1000),.int .i64 (n%1000),.int .i64 0]) (by simp[results,Tryz.results41,go_sem]) rfl ⟨rfl,rfl⟩
set_option maxRecDepth 100000 in
set_option maxHeartbeats 8000000 in
theorem trim_any (d:DealR) (h:PayR) (w:World):Calls Tryz.prog 30 #[dealV d,htlcV h] w fun e w'=>e= .returned (.bool (trimB d h.mine h.amt))/\Below w.heap.size w w':=by
 obtain⟨mine,hid,amt,hash,exp⟩:=h;unfold dealV htlcV;cases mine with
 |true=>
  have HB:=zH (((Below.refl w.heap.size w).alloc (Nat.le_refl _) (zB d)).alloc (by simp) (zO4 true hid amt hash exp));have h0:((w.alloc (zB d)).alloc (zO4 true hid amt hash exp)).cell? ⟨w.heap.size+1,0,none⟩=some (.bool true):=cell_of (j:=0) (allocs_at [(zB d),(zO4 true hid amt hash exp)] w 1 _ rfl) rfl;have h2:((w.alloc (zB d)).alloc (zO4 true hid amt hash exp)).cell? ⟨w.heap.size+1,2,none⟩=some (.int .i64 amt):=cell_of (j:=2) (allocs_at [(zB d),(zO4 true hid amt hash exp)] w 1 _ rfl) rfl;have d2:((w.alloc (zB d)).alloc (zO4 true hid amt hash exp)).cell? ⟨w.heap.size,2,none⟩=some (.int .i64 d.dust):=cell_of (j:=2) (allocs_at [(zB d),(zO4 true hid amt hash exp)] w 0 _ rfl) rfl;have d4:((w.alloc (zB d)).alloc (zO4 true hid amt hash exp)).cell? ⟨w.heap.size,4,none⟩=some (.int .i64 d.rate):=cell_of (j:=4) (allocs_at [(zB d),(zO4 true hid amt hash exp)] w 0 _ rfl) rfl;obtain⟨R,hR⟩: ∃R,trimB d true amt=R:=⟨_,rfl⟩;rw[hR];unfold trimB at hR;simp only[if_true,if_false,Bool.false_eq_true]at hR;have hc:=cost_any d.rate 663 ((w.alloc (zB d)).alloc (zO4 true hid amt hash exp));have hx:=costE_fst d.rate 663;obtain⟨c1,c2,hce⟩: ∃c1 c2,costE d.rate 663=(c1,c2):=⟨_,_,rfl⟩;rw[hce]at hR hc hx;simp only at hR hc hx;have HC:=zH hc;have HR:=zH hR;clear hce hc hR;go_enter Tryz.func30,Tryz.ntmps30;go_wp2_with fail;refine HC.out.mono ?_;rintro e w1 ⟨rfl,hb1⟩;have HB1:=zH (HB.out.trans (hb1.mono HB.out.size));replace h0:=cell_below hb1 h0;replace h2:=cell_below hb1 h2;replace d2:=cell_below hb1 d2;replace d4:=cell_below hb1 d4;clear hb1;have hmc:=mcoins_any amt w1;cases hc2:decide (c2=0)with
  |false=>
   have hne:(c2 !=0)=true:=by have:=of_decide_eq_false hc2;simpa using this
   have HE:=zH (show R=true by rw[<-HR.out,hc2];rfl);have HMC:=zH hmc;clear hmc hc2;go_wp2_with fail;refine HMC.out.mono ?_;rintro e w2 ⟨rfl,rfl⟩;go_wp2_with fail;go_ret;rw[HE.out];exact⟨rfl,HB1.out⟩
  |true=>
   have hne:(c2 !=0)=false:=by have:=of_decide_eq_true hc2;simp[this]
   unfold coinsE at hmc;cases hi:btwB amt 0 2100000000000000000 with
   |false=>
    rw[hi]at hmc;have HE:=zH (show R=true by rw[<-HR.out,hi];simp);have HMC:=zH hmc;clear hmc hc2 hi;go_wp2_with fail;refine HMC.out.mono ?_;rintro e w2 ⟨rfl,rfl⟩;go_wp2_with fail;go_ret;rw[HE.out];exact⟨rfl,HB1.out⟩
   |true=>
    rw[hi]at hmc;obtain⟨i0,i1⟩:=btwB_of hi;have hwr:IntKind.i64.wrap (amt / 1000 - c1)=amt / 1000 - c1:=by rw[IntKind.wrap_i64];omega
    have HE:=zH (show R=decide (amt / 1000 - c1<d.dust) by rw[<-HR.out,hi,hc2];rfl);have HMC:=zH hmc;clear hmc hc2 hi;obtain⟨q,hq⟩: ∃q,amt / 1000=q:=⟨_,rfl⟩;rw[hq]at hwr HMC HE;clear hq;cases hdd:decide (q - c1<d.dust)with
    |_=>
     rw[hdd]at HE;go_wp2_with fail;refine HMC.out.mono ?_;rintro e w2 ⟨rfl,rfl⟩;go_wp2_with fail;go_ret;rw[HE.out];exact⟨rfl,HB1.out⟩
 |false=>
  have HB:=zH (((Below.refl w.heap.size w).alloc (Nat.le_refl _) (zB d)).alloc (by simp) (zO4 false hid amt hash exp));have h0:((w.alloc (zB d)).alloc (zO4 false hid amt hash exp)).cell? ⟨w.heap.size+1,0,none⟩=some (.bool false):=cell_of (j:=0) (allocs_at [(zB d),(zO4 false hid amt hash exp)] w 1 _ rfl) rfl;have h2:((w.alloc (zB d)).alloc (zO4 false hid amt hash exp)).cell? ⟨w.heap.size+1,2,none⟩=some (.int .i64 amt):=cell_of (j:=2) (allocs_at [(zB d),(zO4 false hid amt hash exp)] w 1 _ rfl) rfl;have d2:((w.alloc (zB d)).alloc (zO4 false hid amt hash exp)).cell? ⟨w.heap.size,2,none⟩=some (.int .i64 d.dust):=cell_of (j:=2) (allocs_at [(zB d),(zO4 false hid amt hash exp)] w 0 _ rfl) rfl;have d4:((w.alloc (zB d)).alloc (zO4 false hid amt hash exp)).cell? ⟨w.heap.size,4,none⟩=some (.int .i64 d.rate):=cell_of (j:=4) (allocs_at [(zB d),(zO4 false hid amt hash exp)] w 0 _ rfl) rfl;obtain⟨R,hR⟩: ∃R,trimB d false amt=R:=⟨_,rfl⟩;rw[hR];unfold trimB at hR;simp only[if_true,if_false,Bool.false_eq_true]at hR;have hc:=cost_any d.rate 703 ((w.alloc (zB d)).alloc (zO4 false hid amt hash exp));have hx:=costE_fst d.rate 703;obtain⟨c1,c2,hce⟩: ∃c1 c2,costE d.rate 703=(c1,c2):=⟨_,_,rfl⟩;rw[hce]at hR hc hx;simp only at hR hc hx;have HC:=zH hc;have HR:=zH hR;clear hce hc hR;go_enter Tryz.func30,Tryz.ntmps30;go_wp2_with fail;refine HC.out.mono ?_;rintro e w1 ⟨rfl,hb1⟩;have HB1:=zH (HB.out.trans (hb1.mono HB.out.size));replace h0:=cell_below hb1 h0;replace h2:=cell_below hb1 h2;replace d2:=cell_below hb1 d2;replace d4:=cell_below hb1 d4;clear hb1;have hmc:=mcoins_any amt w1;cases hc2:decide (c2=0)with
  |false=>
   have hne:(c2 !=0)=true:=by have:=of_decide_eq_false hc2;simpa using this
   have HE:=zH (show R=true by rw[<-HR.out,hc2];rfl);have HMC:=zH hmc;clear hmc hc2;go_wp2_with fail;refine HMC.out.mono ?_;rintro e w2 ⟨rfl,rfl⟩;go_wp2_with fail;go_ret;rw[HE.out];exact⟨rfl,HB1.out⟩
  |true=>
   have hne:(c2 !=0)=false:=by have:=of_decide_eq_true hc2;simp[this]
   unfold coinsE at hmc;cases hi:btwB amt 0 2100000000000000000 with
   |false=>
    rw[hi]at hmc;have HE:=zH (show R=true by rw[<-HR.out,hi];simp);have HMC:=zH hmc;clear hmc hc2 hi;go_wp2_with fail;refine HMC.out.mono ?_;rintro e w2 ⟨rfl,rfl⟩;go_wp2_with fail;go_ret;rw[HE.out];exact⟨rfl,HB1.out⟩
   |true=>
    rw[hi]at hmc;obtain⟨i0,i1⟩:=btwB_of hi;have hwr:IntKind.i64.wrap (amt / 1000 - c1)=amt / 1000 - c1:=by rw[IntKind.wrap_i64];omega
    have HE:=zH (show R=decide (amt / 1000 - c1<d.dust) by rw[<-HR.out,hi,hc2];rfl);have HMC:=zH hmc;clear hmc hc2 hi;obtain⟨q,hq⟩: ∃q,amt / 1000=q:=⟨_,rfl⟩;rw[hq]at hwr HMC HE;clear hq;cases hdd:decide (q - c1<d.dust)with
    |_=>
     rw[hdd]at HE;go_wp2_with fail;refine HMC.out.mono ?_;rintro e w2 ⟨rfl,rfl⟩;go_wp2_with fail;go_ret;rw[HE.out];exact⟨rfl,HB1.out⟩
end Go.Proofs.YtbiioifpeebjaaaGreatDoor
namespace Go.Proofs.YtbiioifpeebjaaaGreatDoor
open Go.RowKit
def sumE:Int->List Int->Int×Int
 |n,[]=>(n,0)
 |n,a::r=>if btwB a 0 2100000000000000000&&decide (a<=2100000000000000000 - n)then sumE (n+a) r else(0,40)
def amtsV (l:List Int):List Value:=l.map (Value.int .i64 ·)
theorem amts_at {w:World} {A:Option Addr} {l:List Int} (hc:Cells w A (amtsV l)) {k:Nat} (hk:k<l.length): ∃ad:Addr,A=some ad/\w.cell? (ad.add k)=some (.int .i64 l[k]):=by
 obtain⟨ad,he,h⟩:=hc (by unfold amtsV;rw[List.length_map];omega);exact⟨ad,he,h k _ (by unfold amtsV;rw[List.getElem?_map,List.getElem?_eq_getElem hk];rfl)⟩
set_option maxRecDepth 100000 in
set_option maxHeartbeats 4000000 in
theorem sum_any (l:List Int) (A:Option Addr) (cap:Nat) (w:World) (hl:l.length<=1000) (hA:Cells w A (amtsV l)):
 Calls Tryz.prog 40 #[.slice A l.length cap] w fun e w'=>e= .returned (.tuple #[.int .i64 (sumE 0 l).1,.int .i64 (sumE 0 l).2])/\w'=w:=by
 obtain⟨R,hR⟩: ∃R,sumE 0 l=R:=⟨_,rfl⟩;rw[hR];have HA:=zH hA;have HR:=zH hR;clear hA hR;go_enter Tryz.func40,Tryz.ntmps40;go_wp2_with fail;go_loopw [4,9] (fun s i wr=> ∃(k:Nat) (n:Int),k<=l.length/\s= .int .i64 n/\i= .int .i64 (k:Int)/\wr=w/\sumE n (l.drop k)=R/\0<=n/\n<=2100000000000000000) (fun _ i _=>l.length - (intOf i).toNat)
 case atStart=>exact⟨0,0,Nat.zero_le _,rfl,rfl,rfl,by rw[List.drop_zero];exact HR.out,by omega,by omega⟩
 case round=>
  obtain⟨k,n,hk,rfl,rfl,rfl,hs,h0,h1⟩:=hrel;by_cases hlt:k<l.length
  ·obtain⟨ad,rfl,hc⟩:=amts_at HA.out hlt;rw[List.drop_eq_getElem_cons hlt]at hs;unfold sumE at hs;obtain⟨a,ha⟩: ∃a,l[k]=a:=⟨_,rfl⟩;rw[ha]at hc hs;have hr:=mright_any a wr;cases hq:btwB a 0 2100000000000000000 with
   |false=>
    rw[hq]at hr hs;have HE:=zH (show R=(0,40) by rw[<-hs];rfl);have HRT:=zH hr;clear hr hs hq;go_wp2_with fail;refine HRT.out.mono ?_;rintro e w1 ⟨rfl,rfl⟩;go_wp2_with fail;go_ret2;rw[HE.out];exact⟨rfl,rfl⟩
   |true=>
    obtain⟨a0,a1⟩:=btwB_of hq;rw[hq,Bool.true_and]at hs;rw[hq]at hr;have HRT:=zH hr;have hw1:IntKind.i64.wrap (2100000000000000000 - n)=2100000000000000000 - n:=by rw[IntKind.wrap_i64];omega
    have hw2:IntKind.i64.wrap (n+a)=n+a:=by rw[IntKind.wrap_i64];omega
    by_cases hle:a<=2100000000000000000 - n
    ·rw[if_pos (decide_eq_true hle)]at hs;have hg: ¬(2100000000000000000 - n<a):=by omega
     have HS:=zH hs;clear hr hs hq;go_wp2_with fail;refine HRT.out.mono ?_;rintro e w1 ⟨rfl,rfl⟩;go_wp2_with fail;go_roundw
     case rel=>exact⟨k+1,n+a,by omega,rfl,by go_num,by trivial,HS.out,by omega,by omega⟩
     case measure=>simp[intOf];omega
    ·rw[if_neg (by rw[decide_eq_false hle];decide)]at hs;have hg:(2100000000000000000 - n<a):=by omega
     have HE:=zH (show R=(0,40) by rw[<-hs]);clear hr hs hq;go_wp2_with fail;refine HRT.out.mono ?_;rintro e w1 ⟨rfl,rfl⟩;go_wp2_with fail;go_ret2;rw[HE.out];exact⟨rfl,rfl⟩
  ·have HE:=zH (show R=(n,0) by rw[<-hs,List.drop_of_length_le (by omega)];rfl);clear hs;go_wp2_with fail;go_ret2;rw[HE.out];exact⟨rfl,rfl⟩
end Go.Proofs.YtbiioifpeebjaaaGreatDoor
namespace Go.Proofs.YtbiioifpeebjaaaGreatDoor
open Go.RowKit
def boundsE (d:DealR) (n own other:Int):Int:=if !(decide ((sumE 0 [own,other]).2=0))||decide (d.cap*1000<(sumE 0 [own,other]).1)then 40 else if btwB n 0 1048575 then 0 else 2
set_option maxRecDepth 100000 in
set_option maxHeartbeats 8000000 in
theorem bounds_nil (d:DealR) (n own other:Int) (w:World) (h0:0<=d.cap) (h1:d.cap<=2100000000000000):
 Calls Tryz.prog 29 #[dealV d,.agg #[.int .i64 n,.int .i64 own,.int .i64 other,.slice none 0 0]] w fun e w'=>e= .returned (.int .i64 (boundsE d n own other))/\Below w.heap.size w w':=by
 unfold dealV;have HB:=zH ((((Below.refl w.heap.size w).alloc (Nat.le_refl _) (zB d)).alloc (by simp) (zO8 n own other none 0 0)).alloc (by simp;try omega) (zO14 own other));have s0:(((w.alloc (zB d)).alloc (zO8 n own other none 0 0)).alloc (zO14 own other)).cell? ⟨w.heap.size+1,0,none⟩=some (.int .i64 n):=cell_of (j:=0) (allocs_at [(zB d),(zO8 n own other none 0 0),(zO14 own other)] w 1 _ rfl) rfl;have s3:(((w.alloc (zB d)).alloc (zO8 n own other none 0 0)).alloc (zO14 own other)).cell? ⟨w.heap.size+1,3,none⟩=some (.slice none 0 0):=cell_of (j:=3) (allocs_at [(zB d),(zO8 n own other none 0 0),(zO14 own other)] w 1 _ rfl) rfl;have d0:(((w.alloc (zB d)).alloc (zO8 n own other none 0 0)).alloc (zO14 own other)).cell? ⟨w.heap.size,0,none⟩=some (.int .i64 d.cap):=cell_of (j:=0) (allocs_at [(zB d),(zO8 n own other none 0 0),(zO14 own other)] w 0 _ rfl) rfl;have hfc:Cells (((w.alloc (zB d)).alloc (zO8 n own other none 0 0)).alloc (zO14 own other)) (some ⟨w.heap.size+1+1,0,none⟩) (amtsV [own,other]):=by
  have:=fresh_cells ((w.alloc (zB d)).alloc (zO8 n own other none 0 0)) #[.int .i64 own,.int .i64 other] 2;simpa [amtsV]using this
 have HS:=zH (sum_any [own,other] (some ⟨w.heap.size+1+1,0,none⟩) 2 (((w.alloc (zB d)).alloc (zO8 n own other none 0 0)).alloc (zO14 own other)) (by simp) hfc);have HI:=zH (fun W=>within_any n 0 1048575 W);have hw:IntKind.i64.wrap (d.cap*1000)=d.cap*1000:=by rw[IntKind.wrap_i64];omega
 clear hfc;obtain⟨R,hR⟩: ∃R,boundsE d n own other=R:=⟨_,rfl⟩;rw[hR];unfold boundsE at hR;obtain⟨t1,t2,ht⟩: ∃t1 t2,sumE 0 [own,other]=(t1,t2):=⟨_,_,rfl⟩;rw[ht]at hR HS;simp only[List.length_cons,List.length_nil,Nat.zero_add,Nat.reduceAdd]at hR HS;have HR:=zH hR;clear hR ht;go_enter Tryz.func29,Tryz.ntmps29;go_wp2_with fail;generalize (((w.alloc (zB d)).alloc (zO8 n own other none 0 0)).alloc (zO14 own other))=V at HB s0 s3 d0 HS⊢;go_loopw [5,6,19] (fun a m i wr=>a= .slice (some ⟨w.heap.size+1+1,0,none⟩) 2 2/\m= .int .i64 0/\i= .int .i64 0/\wr=V) (fun _ _ _ _=>0)
 case atStart=>exact⟨rfl,rfl,rfl,rfl⟩
 case round=>
  obtain⟨rfl,rfl,rfl,rfl⟩:=hrel;cases hc:decide (t2=0)with
  |false=>
   have hne:(t2 !=0)=true:=by have:=of_decide_eq_false hc;simpa using this
   have HE:=zH (show R=40 by rw[<-HR.out,hc];rfl);clear hc;go_wp2_with fail;refine HS.out.mono ?_;rintro e w1 ⟨rfl,rfl⟩;go_wp2_with fail;go_ret;rw[HE.out];exact⟨rfl,HB.out⟩
  |true=>
   have hne:(t2 !=0)=false:=by have:=of_decide_eq_true hc;simp[this]
   by_cases hg:d.cap*1000<t1
   ·have HE:=zH (show R=40 by rw[<-HR.out,hc,decide_eq_true hg];rfl);clear hc;go_wp2_with fail;refine HS.out.mono ?_;rintro e w1 ⟨rfl,rfl⟩;go_wp2_with fail;go_ret;rw[HE.out];exact⟨rfl,HB.out⟩
   ·have HE:=zH (show R=if btwB n 0 1048575=true then 0 else 2 by rw[<-HR.out,hc,decide_eq_false hg];rfl);clear hc;cases hi:btwB n 0 1048575 with
    |_=>
     rw[hi]at HE HI;go_wp2_with fail;refine HS.out.mono ?_;rintro e w1 ⟨rfl,rfl⟩;go_wp2_with fail;refine(HI.out _).mono ?_;rintro e w1 ⟨rfl,rfl⟩;go_wp2_with fail;go_ret;rw[HE.out];exact⟨rfl,HB.out⟩
end Go.Proofs.YtbiioifpeebjaaaGreatDoor
