/- The document's Claims. -/
import Derived.Test.YtaonadgelkdbcaaGreatDoorS11
import Derived.Test.YtaonadgelkdbcaaGreatDoorS6
import Derived.Test.YtaonadgelkdbcaaGreatDoorS10
namespace Go.Proofs.YtaonadgelkdbcaaGreatDoor
open Go.RowKit

theorem own_ne_tx {W : World} {base k n b : Nat} {E : TypeId} {v : Value} {ys : List Value} {A : Option Addr} {l ca : Nat} {B : Option Addr} {m cb : Nat} {after tag : Int} (ho : W.ownsRow base E k v n ys) (hE : E ≠ 25) (hb : TxBox W b A l ca B m cb after tag) : b ∉ v.ownBlock.toList := fun hm => by
  cases hv : v.ownBlock with
  | none => rw [hv] at hm; simp at hm
  | some g =>
    rw [hv] at hm
    simp at hm
    subst hm
    obtain ⟨cur, hc⟩ := row_kind ho hv
    unfold TxBox at hb
    rw [hb] at hc
    injection hc with hc
    injection hc with h1 h2
    exact hE h2.symm
theorem slrClaim : SlTyK Tryz.prog 47 39 (.agg #[.int .i64 0, .int .i64 0, .int .u8 0, .string ⟨#[]⟩, .int .i64 0, .slice none 0 0, .int .i64 0, .int .i64 0, .slice none 0 0, .slice none 0 0]) 10 136 := ⟨Tryz.underlying47, by kernel_rfl, rfl, by decide⟩
set_option maxRecDepth 100000 in
set_option maxHeartbeats 16000000 in
theorem rclaims_any (ins : List InT) (outs : List OutT) (after tag : Int) (A B : Option Addr) (ca cb : Nat) (ks ps : List ByteArray) (SA : Option Addr) (sc : Nat) (PA : Option Addr) (pc : Nat) (w : World) (ho : EnvOk ks ps) (hs : smallTx ⟨ins, outs, after, tag⟩) (hc : TxC w ⟨ins, outs, after, tag⟩ A B) (hk : Cells w SA (strs ks)) (hp : Cells w PA (strs ps)) (hv : VarsOk w) :
    Calls Tryz.prog 11 #[.agg #[.slice A ins.length ca, .slice B outs.length cb, .int .i64 after, .int .i64 tag], .slice SA ks.length sc, .slice PA ps.length pc] w (ClaimsP w (claimsE ks ps ⟨ins, outs, after, tag⟩)) := by
  have hb0 : Below w.heap.size w (w.alloc (.cells #[.slice A ins.length ca, .slice B outs.length cb, .int .i64 after, .int .i64 tag] 25)) := (Below.refl _ _).alloc (Nat.le_refl _) _
  have hbx : TxBox (w.alloc (.cells #[.slice A ins.length ca, .slice B outs.length cb, .int .i64 after, .int .i64 tag] 25)) w.heap.size A ins.length ca B outs.length cb after tag := Go.heap_alloc_new w _
  obtain ⟨p0, p1, p2, p3⟩ := hbx.cells
  have hc0 := hc.below hb0
  have HB := Lib.hid hb0
  have HX := Lib.hid hbx
  have HC := Lib.hid hc
  have HO := Lib.hid ho
  have HSK := Lib.hid hk
  have HSP := Lib.hid hp
  have HV := Lib.hid hv
  have HRT := Lib.hid (rtxright_any ins outs after tag A B ca cb _ hs hc0)
  obtain ⟨-, S2, -, s4⟩ := hs
  simp only at S2 s4
  have S2 := Lib.hid S2
  obtain ⟨R, hR⟩ : ∃ R, claimsE ks ps ⟨ins, outs, after, tag⟩ = R := ⟨_, rfl⟩
  rw [hR]
  have HR := Lib.hid hR
  clear hR hb0 hbx hc hc0 hk hp hv ho
  cases hq : txB ⟨ins, outs, after, tag⟩ with
  | false =>
    have HN := Lib.hid (show R = (120, []) by rw [← HR.out]; unfold claimsE; rw [hq]; rfl)
    rw [hq] at HRT
    go_enter Tryz.func11, Tryz.ntmps11
    go_wp2_with fail
    refine HRT.out.mono ?_
    rintro e w1 ⟨rfl, hb1⟩
    have HB1 := Lib.hid (HB.out.trans (hb1.mono HB.out.size))
    clear hb1
    go_wp2_with fail
    exact bodyPost_ret (v := .tuple #[.slice none 0 0, .int .i64 120]) (by simp [results, Tryz.results11, go_sem]) rfl (by rw [HN.out]; exact ⟨none, 0, [], rfl, Cells.nil _ _, rfl, HB1.out⟩)
  | true =>
    have HN := Lib.hid (show R = (0, claimsL ks ps 0 outs) by rw [← HR.out]; unfold claimsE; rw [hq]; rfl)
    rw [hq] at HRT
    obtain ⟨L, hL⟩ : ∃ L, claimsL ks ps 0 outs = L := ⟨_, rfl⟩
    have hLl : L.length ≤ 1000 := by
      have := claimsL_len ks ps outs 0
      rw [hL] at this
      omega
    rw [hL] at HN
    have HL := Lib.hid hL
    clear hL
    go_enter Tryz.func11, Tryz.ntmps11
    go_wp2_with fail
    refine HRT.out.mono ?_
    rintro e w1 ⟨rfl, hb1⟩
    have HX1 := Lib.hid (HX.out.below hb1)
    have HB1 := Lib.hid (HB.out.trans (hb1.mono HB.out.size))
    clear hb1 p0 p1 p2 p3
    obtain ⟨p0, p1, p2, p3⟩ := HX1.out.cells
    go_wp2_with fail
    go_loopw [9, 8] (fun i u wr => ∃ (j : Nat) (L1 : List ClaimX) (xs : List Value), j ≤ outs.length ∧ i = .int .i64 (j : Int) ∧ wr.ownsRow w.heap.size 39 10 u L1.length xs ∧ ClaimsR w wr L1 xs ∧ L1 ++ claimsL ks ps j (outs.drop j) = L ∧ TxBox wr w.heap.size A ins.length ca B outs.length cb after tag ∧ Below w.heap.size w wr) (fun i _ _ => outs.length - (intOf i).toNat)
    case atStart => exact ⟨0, [], [], Nat.zero_le _, rfl, World.ownsRow_nil _ _ _ _, rfl, by rw [List.drop_zero]; exact HL.out, HX1.out, HB1.out⟩
    case round =>
      obtain ⟨j, L1, xs, hj, rfl, hown, hcl, hrest, hbox, hbr⟩ := hrel
      clear p0 p1 p2 p3
      obtain ⟨q0, q1, q2, q3⟩ := hbox.cells
      obtain ⟨Au, cu, rfl, -, hcu⟩ := own_shape hown
      by_cases hlt : j < outs.length
      · obtain ⟨-, ys, hy1, hy2⟩ := HC.out.below hbr
        obtain ⟨-, yw, hw1, hw2⟩ := HC.out
        obtain ⟨bd, C, cp, rfl, o0, o1, o2, o3, o4, hlk⟩ := out_at hw1 hw2 hlt
        have n0 := cell_below hbr o0
        have n1 := cell_below hbr o1
        have n2 := cell_below hbr o2
        have n3 := cell_below hbr o3
        have n4 := cell_below hbr o4
        clear o0 o1 o2 o3 o4 hy1 hy2 hw1 hw2
        have hdrop : outs.drop j = outs[j] :: outs.drop (j + 1) := List.drop_eq_getElem_cons hlt
        rw [hdrop] at hrest
        have hsm := S2.out outs[j] (List.getElem_mem hlt)
        have hln := claimsL_len ks ps (outs[j] :: outs.drop (j + 1)) j
        have hL1 : L1.length ≤ 1000 := by
          have := congrArg List.length hrest
          rw [List.length_append] at this
          omega
        obtain ⟨x, hx⟩ : ∃ x, outs[j] = x := ⟨_, rfl⟩
        rw [hx] at n0 n1 n2 n3 n4 hlk hrest hsm
        have hbn : Below wr.heap.size wr wr := Below.refl _ _
        have hbrn := hbr.trans (hbn.mono hbr.size)
        have HBN := Lib.hid hbrn
        have HOW := Lib.hid (own_below hown hbn)
        have HCL := Lib.hid (hcl.below hbn)
        have HLK := Lib.hid hlk
        have HXN := Lib.hid hbox
        have hcall := rsolve_any x.lock _ ks ps SA sc PA pc wr HO.out hsm (LockC.below hbrn _ _ hlk) (Cells.below HSK.out hbrn) (Cells.below HSP.out hbrn) (HV.out.below hbrn)
        have HREST := Lib.hid hrest
        clear hbn hrest hbr hbrn hdrop hsm hx hown hcl hlk hln hbox
        unfold WayP at hcall
        cases hS : solveT ks ps x.lock with
        | none =>
          rw [hS] at hcall
          simp only at hcall
          unfold claimV at hcall
          have HCALL := Lib.hid hcall
          have HN2 := Lib.hid (show L1 ++ claimsL ks ps (j + 1) (outs.drop (j + 1)) = L by rw [← HREST.out, claimsL_none ks ps hS])
          clear hcall hS
          go_wp2_with fail
          refine HCALL.out.mono ?_
          rintro e w1 ⟨K, kc, P, pc2, rfl, hb1⟩
          have hbz : Below w1.heap.size w1 (w1.alloc (.cells #[.int .i64 0, .int .i64 0, .int .u8 0, .string ⟨#[]⟩, .int .i64 0, .slice none 0 0, .int .i64 0, .int .i64 0, .slice K 0 kc, .slice P 0 pc2] 39)) := (Below.refl _ _).alloc (Nat.le_refl _) _
          have hb2 := hb1.trans (hbz.mono hb1.size)
          have HBZ := Lib.hid (HBN.out.trans (hb2.mono HBN.out.size))
          have HOZ := Lib.hid (own_below HOW.out hb2)
          have HCZ := Lib.hid (HCL.out.below hb2)
          have HXZ := Lib.hid (HXN.out.below hb2)
          clear hb1 hb2 hbz 
          go_wp2_with fail
          go_roundw
          case rel => exact ⟨j + 1, L1, xs, by omega, by go_num, HOZ.out, HCZ.out, HN2.out, HXZ.out, HBZ.out⟩
          case measure => simp [intOf]; omega
        | some c =>
          rw [hS] at hcall
          simp only at hcall
          unfold claimV at hcall
          have HCALL := Lib.hid hcall
          have HN2 := Lib.hid (show (L1 ++ [((j : Int), x, c)]) ++ claimsL ks ps (j + 1) (outs.drop (j + 1)) = L by rw [← HREST.out, claimsL_some ks ps hS, List.append_assoc]; rfl)
          clear hcall hS
          go_wp2_with fail
          refine HCALL.out.mono ?_
          rintro e w1 ⟨K, kc, P, pc2, rfl, hrk, hrp, hap, hb1⟩
          have hbz : Below w1.heap.size w1 (w1.alloc (.cells #[.int .i64 (j : Int), .int .i64 x.value, .int .u8 x.lock.kind, .string x.lock.term, .int .i64 x.lock.n, .slice C x.lock.kids.length cp, .int .i64 c.after, .int .i64 c.age, .slice K c.keys.length kc, .slice P c.pres.length pc2] 39)) := (Below.refl _ _).alloc (Nat.le_refl _) _
          have hbz4 : Below w1.heap.size w1 (w1.alloc (.cells #[.int .i64 (j : Int), .int .i64 x.value, .int .u8 x.lock.kind, .string x.lock.term, .int .i64 x.lock.n, .slice C x.lock.kids.length cp, .int .i64 c.after, .int .i64 c.age, .slice K c.keys.length kc, .slice P c.pres.length pc2] 39)) := hbz
          have hb3 := hb1.trans (hbz4.mono hb1.size)
          have HB3 := Lib.hid (HBN.out.trans (hb3.mono HBN.out.size))
          have HO3 := Lib.hid (own_below HOW.out hb3)
          have HC3 := Lib.hid (HCL.out.below hb3)
          have HX3 := Lib.hid (HXN.out.below hb3)
          have HRK := Lib.hid ((hrk.base_le (show w.heap.size ≤ wr.heap.size from HBN.out.size)).below hbz4)
          have HRP := Lib.hid ((hrp.base_le (show w.heap.size ≤ wr.heap.size from HBN.out.size)).below hbz4)
          have hbc : Below w1.heap.size w1 (w1.alloc (.cells #[.int .i64 0, .int .i64 0, .int .u8 0, .string ⟨#[]⟩, .int .i64 0, .slice none 0 0, .int .i64 c.after, .int .i64 c.age, .slice K c.keys.length kc, .slice P c.pres.length pc2] 39)) := (Below.refl _ _).alloc (Nat.le_refl _) _
          have HBW := Lib.hid (HBN.out.trans (hb1.mono HBN.out.size))
          have m0 := fun o => cell_below ((Below.refl w1.heap.size w1).alloc (Nat.le_refl _) o) (cell_below hb1 n0)
          have m1 := fun o => cell_below ((Below.refl w1.heap.size w1).alloc (Nat.le_refl _) o) (cell_below hb1 n1)
          have m2 := fun o => cell_below ((Below.refl w1.heap.size w1).alloc (Nat.le_refl _) o) (cell_below hb1 n2)
          have m3 := fun o => cell_below ((Below.refl w1.heap.size w1).alloc (Nat.le_refl _) o) (cell_below hb1 n3)
          have m4 := fun o => cell_below ((Below.refl w1.heap.size w1).alloc (Nat.le_refl _) o) (cell_below hb1 n4)
          have t1 := fun o => cell_below ((Below.refl w1.heap.size w1).alloc (Nat.le_refl _) o) (cell_below hb1 q1)
          have hW : (w1.alloc (.cells #[.int .i64 0, .int .i64 0, .int .u8 0, .string ⟨#[]⟩, .int .i64 0, .slice none 0 0, .int .i64 c.after, .int .i64 c.age, .slice K c.keys.length kc, .slice P c.pres.length pc2] 39)).heap[w1.heap.size]? = some (.cells #[.int .i64 0, .int .i64 0, .int .u8 0, .string ⟨#[]⟩, .int .i64 0, .slice none 0 0, .int .i64 c.after, .int .i64 c.age, .slice K c.keys.length kc, .slice P c.pres.length pc2] 39 (0, 0)) := Go.heap_alloc_new w1 _
          have HN1 := Lib.hid (show (L1.length + 1) * 136 ≤ 140737488355328 by omega)
          have HN3 := Lib.hid (show L1.length + 1 ≤ 140737488355328 by omega)
          clear hb1 hbz hbz4 hb3 hrk hrp hap hbc 
          go_upto_region 11 with fail
          have h4 : (w1.alloc (.cells #[.int .i64 (j : Int), .int .i64 x.value, .int .u8 x.lock.kind, .string x.lock.term, .int .i64 x.lock.n, .slice C x.lock.kids.length cp, .int .i64 c.after, .int .i64 c.age, .slice K c.keys.length kc, .slice P c.pres.length pc2] 39)).heap[w1.heap.size]? = some (.cells #[.int .i64 (j : Int), .int .i64 x.value, .int .u8 x.lock.kind, .string x.lock.term, .int .i64 x.lock.n, .slice C x.lock.kids.length cp, .int .i64 c.after, .int .i64 c.age, .slice K c.keys.length kc, .slice P c.pres.length pc2] 39 (0, 0)) := Go.heap_alloc_new w1 _
          generalize (w1.alloc (.cells #[.int .i64 (j : Int), .int .i64 x.value, .int .u8 x.lock.kind, .string x.lock.term, .int .i64 x.lock.n, .slice C x.lock.kids.length cp, .int .i64 c.after, .int .i64 c.age, .slice K c.keys.length kc, .slice P c.pres.length pc2] 39)) = W4 at h4 HB3 HO3 HC3 HX3 HRK HRP ⊢
          have hbv : Below W4.heap.size W4 (W4.alloc (.cells #[.int .i64 (j : Int), .int .i64 x.value, .int .u8 x.lock.kind, .string x.lock.term, .int .i64 x.lock.n, .slice C x.lock.kids.length cp, .int .i64 c.after, .int .i64 c.age, .slice K c.keys.length kc, .slice P c.pres.length pc2] 39)) := (Below.refl _ _).alloc (Nat.le_refl _) _
          have HB5 := Lib.hid (HB3.out.trans (hbv.mono HB3.out.size))
          have HO5 := Lib.hid (own_below HO3.out hbv)
          have HC5 := Lib.hid (HC3.out.below hbv)
          have HK5 := Lib.hid (HRK.out.below hbv)
          have HP5 := Lib.hid (HRP.out.below hbv)
          have HX5 := Lib.hid (HX3.out.below hbv)
          have HSZ := Lib.hid (show w.heap.size ≤ (W4.alloc (.cells #[.int .i64 (j : Int), .int .i64 x.value, .int .u8 x.lock.kind, .string x.lock.term, .int .i64 x.lock.n, .slice C x.lock.kids.length cp, .int .i64 c.after, .int .i64 c.age, .slice K c.keys.length kc, .slice P c.pres.length pc2] 39)).heap.size from HB5.out.size)
          have z0 : W4.cell? ⟨w1.heap.size, 0, none⟩ = some (.int .i64 (j : Int)) := cell_of h4 rfl
          have z1 : W4.cell? ⟨w1.heap.size, 1, none⟩ = some (.int .i64 x.value) := cell_of h4 rfl
          have z2 : W4.cell? ⟨w1.heap.size, 2, none⟩ = some (.int .u8 x.lock.kind) := cell_of h4 rfl
          have z3 : W4.cell? ⟨w1.heap.size, 3, none⟩ = some (.string x.lock.term) := cell_of h4 rfl
          have z4 : W4.cell? ⟨w1.heap.size, 4, none⟩ = some (.int .i64 x.lock.n) := cell_of h4 rfl
          have z5 : W4.cell? ⟨w1.heap.size, 5, none⟩ = some (.slice C x.lock.kids.length cp) := cell_of h4 rfl
          have z6 : W4.cell? ⟨w1.heap.size, 6, none⟩ = some (.int .i64 c.after) := cell_of h4 rfl
          have z7 : W4.cell? ⟨w1.heap.size, 7, none⟩ = some (.int .i64 c.age) := cell_of h4 rfl
          have z8 : W4.cell? ⟨w1.heap.size, 8, none⟩ = some (.slice K c.keys.length kc) := cell_of h4 rfl
          have z9 : W4.cell? ⟨w1.heap.size, 9, none⟩ = some (.slice P c.pres.length pc2) := cell_of h4 rfl
          clear hbv
          go_wp2_with (at_builtin; go_must (refine wpList_appk slrClaim rfl _ _ rfl w.heap.size _ L1.length xs rfl HO5.out (some ⟨W4.heap.size, 0, none⟩) 1 1 [.int .i64 (j : Int), .int .i64 x.value, .int .u8 x.lock.kind, .string x.lock.term, .int .i64 x.lock.n, .slice C x.lock.kids.length cp, .int .i64 c.after, .int .i64 c.age, .slice K c.keys.length kc, .slice P c.pres.length pc2] rfl rfl (fun _ => ⟨_, rfl, fun j u hj => World.news_of_block (Go.heap_alloc_new W4 _) j u hj⟩) (by simp [Value.oneCell']) HN1.out HN3.out HSZ.out ?_); intro v6 w6 hown6 hg6 hb6 hat6)
          go_roundw
          case rel => exact ⟨j + 1, L1 ++ [((j : Int), x, c)], xs ++ [.int .i64 (j : Int), .int .i64 x.value, .int .u8 x.lock.kind, .string x.lock.term, .int .i64 x.lock.n, .slice C x.lock.kids.length cp, .int .i64 c.after, .int .i64 c.age, .slice K c.keys.length kc, .slice P c.pres.length pc2], by omega, by go_num, by rw [List.length_append]; exact hown6, ClaimsR.snoc ⟨C, cp, K, kc, P, pc2, rfl, HLK.out, HK5.out.grown hg6 (own_part HK5.out (by decide) HO5.out), HP5.out.grown hg6 (own_part HP5.out (by decide) HO5.out)⟩ _ _ (HC5.out.grown (by decide) HO5.out hg6), HN2.out, HX5.out.fr (grown_fr hg6) (own_ne_tx HO5.out (by decide) HX5.out), HB5.out.trans hb6⟩
          case measure => simp [intOf]; omega
      · have HN2 := Lib.hid (show L1 = L by rw [← hrest, List.drop_of_length_le (by omega)]; unfold claimsL; rw [List.append_nil])
        have HFIN := Lib.hid (show ClaimsP w R (.returned (.tuple #[.slice Au L1.length cu, .int .i64 0])) wr by
          rw [HN.out, ← HN2.out]
          exact ⟨Au, cu, xs, rfl, hcu, ClaimsR.toC hbr _ _ hcl, hbr⟩)
        have gj : decide ((j : Int) < (outs.length : Int)) = false := decide_eq_false (by omega)
        clear hrest hown hcl hbr hbox hcu
        go_wp2_with fail
        exact bodyPost_ret (v := .tuple #[.slice Au L1.length cu, .int .i64 0]) (by simp [results, Tryz.results11, go_sem]) rfl HFIN.out
end Go.Proofs.YtaonadgelkdbcaaGreatDoor
