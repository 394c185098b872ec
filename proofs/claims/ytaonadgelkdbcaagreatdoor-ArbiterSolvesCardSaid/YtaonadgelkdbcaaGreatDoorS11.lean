/- The claims of a transaction: which; rows of claims in memory. · The program's Claims. -/
import Derived.Test.YtaonadgelkdbcaaGreatDoorS2
import Derived.Test.YtaonadgelkdbcaaGreatDoorS4
import Derived.Test.YtaonadgelkdbcaaGreatDoorQ18
import Derived.Test.YtaonadgelkdbcaaGreatDoorS1
import Derived.RegionTactic
namespace Go.Proofs.YtaonadgelkdbcaaGreatDoor
open Go.RowKit

abbrev ClaimX := Int × OutT × ClaimR
def claimsL (ks ps : List ByteArray) : Nat → List OutT → List ClaimX
  | _, [] => []
  | i, o :: r => match solveT ks ps o.lock with
    | none => claimsL ks ps (i + 1) r
    | some c => ((i : Int), o, c) :: claimsL ks ps (i + 1) r
theorem claimsL_none (ks ps : List ByteArray) {i : Nat} {o : OutT} {r : List OutT} (h : solveT ks ps o.lock = none) : claimsL ks ps i (o :: r) = claimsL ks ps (i + 1) r := by
  conv => lhs; unfold claimsL
  rw [h]
theorem claimsL_some (ks ps : List ByteArray) {i : Nat} {o : OutT} {r : List OutT} {c : ClaimR} (h : solveT ks ps o.lock = some c) : claimsL ks ps i (o :: r) = ((i : Int), o, c) :: claimsL ks ps (i + 1) r := by
  conv => lhs; unfold claimsL
  rw [h]
theorem claimsL_len (ks ps : List ByteArray) : ∀ (r : List OutT) (i : Nat), (claimsL ks ps i r).length ≤ r.length
  | [], _ => by unfold claimsL; simp
  | o :: r, i => by
    have := claimsL_len ks ps r (i + 1)
    cases h : solveT ks ps o.lock with
    | none => rw [claimsL_none ks ps h, List.length_cons]; omega
    | some c => rw [claimsL_some ks ps h, List.length_cons, List.length_cons]; omega
theorem claimsL_mem (ks ps : List ByteArray) : ∀ (r : List OutT) (i : Nat), ∀ x ∈ claimsL ks ps i r, x.2.1 ∈ r ∧ solveT ks ps x.2.1.lock = some x.2.2
  | [], i, x, h => by unfold claimsL at h; cases h
  | o :: r, i, x, h => by
    cases hs : solveT ks ps o.lock with
    | none =>
      rw [claimsL_none ks ps hs] at h
      obtain ⟨h1, h2⟩ := claimsL_mem ks ps r (i + 1) x h
      exact ⟨List.mem_cons_of_mem _ h1, h2⟩
    | some c =>
      rw [claimsL_some ks ps hs] at h
      rcases List.mem_cons.1 h with rfl | h
      · exact ⟨List.mem_cons_self .., hs⟩
      · obtain ⟨h1, h2⟩ := claimsL_mem ks ps r (i + 1) x h
        exact ⟨List.mem_cons_of_mem _ h1, h2⟩
theorem solveT_len {ks ps : List ByteArray} {x : LockT} {c : ClaimR} (h : solveT ks ps x = some c) : c.keys.length ≤ 64 ∧ c.pres.length ≤ 64 := by
  unfold solveT at h
  split at h
  · rename_i hl
    unfold lockB at hl
    rw [Bool.and_eq_true, decide_eq_true_eq] at hl
    have := wayT_len ks ps x h
    omega
  · cases h
def claimV10 (x : ClaimX) (C : Option Addr) (cp : Nat) (K : Option Addr) (kc : Nat) (P : Option Addr) (pc : Nat) : List Value := [.int .i64 x.1, .int .i64 x.2.1.value, .int .u8 x.2.1.lock.kind, .string x.2.1.lock.term, .int .i64 x.2.1.lock.n, .slice C x.2.1.lock.kids.length cp, .int .i64 x.2.2.after, .int .i64 x.2.2.age, .slice K x.2.2.keys.length kc, .slice P x.2.2.pres.length pc]
/-- One claim while they are made: its lock lies where it came from, its terms in rows of the call's own. -/
def ClaimR1 (w wr : World) (x : ClaimX) (cs : List Value) : Prop := ∃ (C : Option Addr) (cp : Nat) (K : Option Addr) (kc : Nat) (P : Option Addr) (pc : Nat), cs = claimV10 x C cp K kc P pc ∧
  LockC w x.2.1.lock [.int .u8 x.2.1.lock.kind, .string x.2.1.lock.term, .int .i64 x.2.1.lock.n, .slice C x.2.1.lock.kids.length cp] ∧
  Row wr w.heap.size 29 (.slice K x.2.2.keys.length kc) (strs x.2.2.keys) ∧ Row wr w.heap.size 29 (.slice P x.2.2.pres.length pc) (strs x.2.2.pres)
def ClaimsR (w wr : World) : List ClaimX → List Value → Prop
  | [], xs => xs = []
  | x :: r, xs => ∃ cs rest, xs = cs ++ rest ∧ ClaimR1 w wr x cs ∧ ClaimsR w wr r rest
def ClaimsC (w : World) : List ClaimX → List Value → Prop
  | [], xs => xs = []
  | x :: r, xs => ∃ cs rest, xs = cs ++ rest ∧ ClaimC w x.1 x.2.1 x.2.2 cs ∧ ClaimsC w r rest
theorem ClaimsR.map {w wr wr' : World} (hr : ∀ (v : Value) (ys : List Value), Row wr w.heap.size 29 v ys → Row wr' w.heap.size 29 v ys) : ∀ (l : List ClaimX) (xs : List Value), ClaimsR w wr l xs → ClaimsR w wr' l xs
  | [], xs, h => by unfold ClaimsR at h ⊢; exact h
  | x :: r, xs, h => by
    unfold ClaimsR at h ⊢
    obtain ⟨cs, rest, h1, ⟨C, cp, K, kc, P, pc, g1, g2, g3, g4⟩, h3⟩ := h
    exact ⟨cs, rest, h1, ⟨C, cp, K, kc, P, pc, g1, g2, hr _ _ g3, hr _ _ g4⟩, ClaimsR.map hr r rest h3⟩
theorem ClaimsR.below {w wr wr' : World} {l : List ClaimX} {xs : List Value} (h : ClaimsR w wr l xs) (hb : Below wr.heap.size wr wr') : ClaimsR w wr' l xs := ClaimsR.map (fun _ _ hr => hr.below hb) l xs h
theorem own_part {wr : World} {base base' k n : Nat} {E T : TypeId} {v u : Value} {ys zs : List Value} (hr : Row wr base T u zs) (hE : E ≠ T) (ho : wr.ownsRow base' E k v n ys) : u.ownBlock = none ∨ u.ownBlock ≠ v.ownBlock := by
  cases hv : v.ownBlock with
  | none =>
    cases hu : u.ownBlock with
    | none => exact .inl rfl
    | some g => exact .inr (by simp)
  | some b =>
    obtain ⟨cur, hc⟩ := row_kind ho hv
    right
    intro e
    exact row_ne hr hc hE b e rfl
theorem ClaimsR.grown {w wr wr' : World} {l : List ClaimX} {xs ys : List Value} {base k n : Nat} {E : TypeId} {v : Value} (h : ClaimsR w wr l xs) (hE : E ≠ 29) (ho : wr.ownsRow base E k v n ys) (hg : wr.grownBy wr' v.ownBlock) : ClaimsR w wr' l xs := by
  exact ClaimsR.map (fun u zs hr => hr.grown hg (own_part hr hE ho)) l xs h
theorem ClaimsR.snoc {w wr : World} {x : ClaimX} {cs : List Value} (hx : ClaimR1 w wr x cs) : ∀ (l : List ClaimX) (xs : List Value), ClaimsR w wr l xs → ClaimsR w wr (l ++ [x]) (xs ++ cs)
  | [], xs, h => by
    unfold ClaimsR at h
    subst h
    show ClaimsR w wr [x] cs
    unfold ClaimsR
    exact ⟨cs, [], by simp, hx, by unfold ClaimsR; rfl⟩
  | y :: r, xs, h => by
    unfold ClaimsR at h
    obtain ⟨ds, rest, rfl, h2, h3⟩ := h
    show ClaimsR w wr (y :: (r ++ [x])) _
    unfold ClaimsR
    exact ⟨ds, rest ++ cs, by rw [List.append_assoc], h2, ClaimsR.snoc hx r rest h3⟩
theorem ClaimsR.toC {w wr : World} (hb : Below w.heap.size w wr) : ∀ (l : List ClaimX) (xs : List Value), ClaimsR w wr l xs → ClaimsC wr l xs
  | [], xs, h => by unfold ClaimsR at h; unfold ClaimsC; exact h
  | x :: r, xs, h => by
    unfold ClaimsR at h
    obtain ⟨cs, rest, h1, ⟨C, cp, K, kc, P, pc, g1, g2, g3, g4⟩, h3⟩ := h
    unfold ClaimsC
    exact ⟨cs, rest, h1, ⟨C, cp, K, kc, P, pc, g1, LockC.below hb _ _ g2, row_cells g3, row_cells g4⟩, ClaimsR.toC hb r rest h3⟩
theorem ClaimsC.below {w w' : World} (hb : Below w.heap.size w w') : ∀ (l : List ClaimX) (xs : List Value), ClaimsC w l xs → ClaimsC w' l xs
  | [], xs, h => by unfold ClaimsC at h ⊢; exact h
  | x :: r, xs, h => by
    unfold ClaimsC at h ⊢
    obtain ⟨cs, rest, h1, h2, h3⟩ := h
    exact ⟨cs, rest, h1, h2.below hb, ClaimsC.below hb r rest h3⟩
theorem ClaimC.len {w : World} {n : Int} {o : OutT} {c : ClaimR} {cs : List Value} (h : ClaimC w n o c cs) : cs.length = 10 := by
  obtain ⟨C, cp, K, kc, P, pc, rfl, -⟩ := h
  rfl
theorem ClaimsC.at_ {w : World} : ∀ {l : List ClaimX} {xs : List Value}, ClaimsC w l xs → ∀ (k : Nat) (hk : k < l.length), ∃ cs, ClaimC w l[k].1 l[k].2.1 l[k].2.2 cs ∧ ∀ j, j < 10 → xs[k * 10 + j]? = cs[j]?
  | [], xs, _, k, hk => absurd hk (by simp)
  | x :: r, xs, h, k, hk => by
    unfold ClaimsC at h
    obtain ⟨cs, rest, rfl, h2, h3⟩ := h
    have hl := h2.len
    cases k with
    | zero => exact ⟨cs, h2, fun j hj => by rw [Nat.zero_mul, Nat.zero_add, List.getElem?_append_left (by omega)]⟩
    | succ k =>
      obtain ⟨ds, g1, g3⟩ := ClaimsC.at_ h3 k (by simpa using hk)
      refine ⟨ds, g1, fun j hj => ?_⟩
      rw [List.getElem?_append_right (by omega), hl, show (k + 1) * 10 + j - 10 = k * 10 + j by omega]
      exact g3 j hj
theorem ClaimsC.len {w : World} : ∀ {l : List ClaimX} {xs : List Value}, ClaimsC w l xs → xs.length = l.length * 10
  | [], xs, h => by unfold ClaimsC at h; subst h; rfl
  | x :: r, xs, h => by
    unfold ClaimsC at h
    obtain ⟨cs, rest, rfl, h2, h3⟩ := h
    rw [List.length_append, h2.len, ClaimsC.len h3, List.length_cons]; omega
/-- What the claims of a transaction are, and the error. -/
def claimsE (ks ps : List ByteArray) (t : TxT) : Int × List ClaimX := if txB t then (0, claimsL ks ps 0 t.outs) else (120, [])
def ClaimsP (w : World) (r : Int × List ClaimX) (e : Ending) (w' : World) : Prop := ∃ (A : Option Addr) (cp : Nat) (xs : List Value), e = .returned (.tuple #[.slice A r.2.length cp, .int .i64 r.1]) ∧ Cells w' A xs ∧ ClaimsC w' r.2 xs ∧ Below w.heap.size w w'
end Go.Proofs.YtaonadgelkdbcaaGreatDoor

namespace Go.Proofs.YtaonadgelkdbcaaGreatDoor
open Go.RowKit

theorem slClaim : SlTyK Tryz.prog 43 36 (.agg #[.int .i64 0, .int .i64 0, .int .u8 0, .string ⟨#[]⟩, .int .i64 0, .slice none 0 0, .int .i64 0, .int .i64 0, .slice none 0 0, .slice none 0 0]) 10 136 := ⟨Tryz.underlying43, by kernel_rfl, rfl, by decide⟩
set_option maxRecDepth 100000 in
set_option maxHeartbeats 16000000 in
theorem claims_any (ins : List InT) (outs : List OutT) (after tag : Int) (A B : Option Addr) (ca cb : Nat) (ks ps : List ByteArray) (SA : Option Addr) (sc : Nat) (PA : Option Addr) (pc : Nat) (w : World) (ho : EnvOk ks ps) (hs : smallTx ⟨ins, outs, after, tag⟩) (hc : TxC w ⟨ins, outs, after, tag⟩ A B) (hk : Cells w SA (strs ks)) (hp : Cells w PA (strs ps)) (hv : VarsOk w) :
    Calls Tryz.prog 10 #[.agg #[.slice A ins.length ca, .slice B outs.length cb, .int .i64 after, .int .i64 tag], .slice SA ks.length sc, .slice PA ps.length pc] w (ClaimsP w (claimsE ks ps ⟨ins, outs, after, tag⟩)) := by
  have hb0 : Below w.heap.size w (w.alloc (.cells #[.slice A ins.length ca, .slice B outs.length cb, .int .i64 after, .int .i64 tag] 25)) := (Below.refl _ _).alloc (Nat.le_refl _) _
  have hbx : TxBox (w.alloc (.cells #[.slice A ins.length ca, .slice B outs.length cb, .int .i64 after, .int .i64 tag] 25)) w.heap.size A ins.length ca B outs.length cb after tag := Go.heap_alloc_new w _
  obtain ⟨p0, p1, p2, p3⟩ := hbx.cells
  have hc0 := hc.below hb0
  have HB := Lib.hid hb0
  have HX := Lib.hid hbx
  have HC := Lib.hid hc
  have HO := Lib.hid ho
  have HSK := Lib.hid hk
  have HSP := Lib.hid hp
  have HV := Lib.hid hv
  have HRT := Lib.hid (txright_any ins outs after tag A B ca cb _ hs hc0 (hv.below hb0))
  obtain ⟨-, S2, -, s4⟩ := hs
  simp only at S2 s4
  have S2 := Lib.hid S2
  obtain ⟨R, hR⟩ : ∃ R, claimsE ks ps ⟨ins, outs, after, tag⟩ = R := ⟨_, rfl⟩
  rw [hR]
  have HR := Lib.hid hR
  clear hR hb0 hbx hc hc0 hk hp hv ho
  cases hq : txB ⟨ins, outs, after, tag⟩ with
  | false =>
    have HN := Lib.hid (show R = (120, []) by rw [← HR.out]; unfold claimsE; rw [hq]; rfl)
    rw [hq] at HRT
    go_enter Tryz.func10, Tryz.ntmps10
    go_wp2_with fail
    refine HRT.out.mono ?_
    rintro e w1 ⟨rfl, hb1⟩
    have HB1 := Lib.hid (HB.out.trans (hb1.mono HB.out.size))
    clear hb1
    go_wp2_with fail
    exact bodyPost_ret (v := .tuple #[.slice none 0 0, .int .i64 120]) (by simp [results, Tryz.results10, go_sem]) rfl (by rw [HN.out]; exact ⟨none, 0, [], rfl, Cells.nil _ _, rfl, HB1.out⟩)
  | true =>
    have HN := Lib.hid (show R = (0, claimsL ks ps 0 outs) by rw [← HR.out]; unfold claimsE; rw [hq]; rfl)
    rw [hq] at HRT
    obtain ⟨L, hL⟩ : ∃ L, claimsL ks ps 0 outs = L := ⟨_, rfl⟩
    have hLl : L.length ≤ 1000 := by
      have := claimsL_len ks ps outs 0
      rw [hL] at this
      omega
    rw [hL] at HN
    have HL := Lib.hid hL
    clear hL
    go_enter Tryz.func10, Tryz.ntmps10
    go_wp2_with fail
    refine HRT.out.mono ?_
    rintro e w1 ⟨rfl, hb1⟩
    have HX1 := Lib.hid (HX.out.below hb1)
    have HB1 := Lib.hid (HB.out.trans (hb1.mono HB.out.size))
    clear hb1 p0 p1 p2 p3
    obtain ⟨p0, p1, p2, p3⟩ := HX1.out.cells
    go_wp2_with fail
    go_loopw [19, 8] (fun i u wr => ∃ (j : Nat) (L1 : List ClaimX) (xs : List Value), j ≤ outs.length ∧ i = .int .i64 (j : Int) ∧ wr.ownsRow w.heap.size 36 10 u L1.length xs ∧ ClaimsR w wr L1 xs ∧ L1 ++ claimsL ks ps j (outs.drop j) = L ∧ Below w.heap.size w wr) (fun i _ _ => outs.length - (intOf i).toNat)
    case atStart => exact ⟨0, [], [], Nat.zero_le _, rfl, World.ownsRow_nil _ _ _ _, rfl, by rw [List.drop_zero]; exact HL.out, HB1.out⟩
    case round =>
      obtain ⟨j, L1, xs, hj, rfl, hown, hcl, hrest, hbr⟩ := hrel
      clear p0 p1 p2 p3
      obtain ⟨Au, cu, rfl, -, hcu⟩ := own_shape hown
      by_cases hlt : j < outs.length
      · obtain ⟨-, ys, hy1, hy2⟩ := HC.out.below hbr
        obtain ⟨-, yw, hw1, hw2⟩ := HC.out
        obtain ⟨bd, C, cp, rfl, o0, o1, o2, o3, o4, hlk⟩ := out_at hw1 hw2 hlt
        have n0 := cell_below hbr o0
        have n1 := cell_below hbr o1
        have n2 := cell_below hbr o2
        have n3 := cell_below hbr o3
        have n4 := cell_below hbr o4
        clear o0 o1 o2 o3 o4 hy1 hy2 hw1 hw2
        have hdrop : outs.drop j = outs[j] :: outs.drop (j + 1) := List.drop_eq_getElem_cons hlt
        rw [hdrop] at hrest
        have hsm := S2.out outs[j] (List.getElem_mem hlt)
        have hln := claimsL_len ks ps (outs[j] :: outs.drop (j + 1)) j
        have hL1 : L1.length ≤ 1000 := by
          have := congrArg List.length hrest
          rw [List.length_append] at this
          omega
        obtain ⟨x, hx⟩ : ∃ x, outs[j] = x := ⟨_, rfl⟩
        rw [hx] at n0 n1 n2 n3 n4 hlk hrest hsm
        have hbn : Below wr.heap.size wr (wr.alloc (.cells #[.int .i64 x.value, .int .u8 x.lock.kind, .string x.lock.term, .int .i64 x.lock.n, .slice C x.lock.kids.length cp] 34)) := (Below.refl _ _).alloc (Nat.le_refl _) _
        have hbrn := hbr.trans (hbn.mono hbr.size)
        have y0 : (wr.alloc (.cells #[.int .i64 x.value, .int .u8 x.lock.kind, .string x.lock.term, .int .i64 x.lock.n, .slice C x.lock.kids.length cp] 34)).cell? ⟨wr.heap.size, 0, none⟩ = some (.int .i64 x.value) := alloc_cells 0 _ rfl
        have y1 : (wr.alloc (.cells #[.int .i64 x.value, .int .u8 x.lock.kind, .string x.lock.term, .int .i64 x.lock.n, .slice C x.lock.kids.length cp] 34)).cell? ⟨wr.heap.size, 1, none⟩ = some (.int .u8 x.lock.kind) := alloc_cells 1 _ rfl
        have y2 : (wr.alloc (.cells #[.int .i64 x.value, .int .u8 x.lock.kind, .string x.lock.term, .int .i64 x.lock.n, .slice C x.lock.kids.length cp] 34)).cell? ⟨wr.heap.size, 2, none⟩ = some (.string x.lock.term) := alloc_cells 2 _ rfl
        have y3 : (wr.alloc (.cells #[.int .i64 x.value, .int .u8 x.lock.kind, .string x.lock.term, .int .i64 x.lock.n, .slice C x.lock.kids.length cp] 34)).cell? ⟨wr.heap.size, 3, none⟩ = some (.int .i64 x.lock.n) := alloc_cells 3 _ rfl
        have y4 : (wr.alloc (.cells #[.int .i64 x.value, .int .u8 x.lock.kind, .string x.lock.term, .int .i64 x.lock.n, .slice C x.lock.kids.length cp] 34)).cell? ⟨wr.heap.size, 4, none⟩ = some (.slice C x.lock.kids.length cp) := alloc_cells 4 _ rfl
        have HBN := Lib.hid hbrn
        have HOW := Lib.hid (own_below hown hbn)
        have HCL := Lib.hid (hcl.below hbn)
        have HLK := Lib.hid hlk
        have hcall := solve_any x.lock _ ks ps SA sc PA pc (wr.alloc (.cells #[.int .i64 x.value, .int .u8 x.lock.kind, .string x.lock.term, .int .i64 x.lock.n, .slice C x.lock.kids.length cp] 34)) HO.out hsm (LockC.below hbrn _ _ hlk) (Cells.below HSK.out hbrn) (Cells.below HSP.out hbrn) (HV.out.below hbrn)
        have HREST := Lib.hid hrest
        clear hbn hrest hbr hbrn hdrop hsm hx hown hcl hlk hln
        unfold WayP at hcall
        cases hS : solveT ks ps x.lock with
        | none =>
          rw [hS] at hcall
          simp only at hcall
          unfold claimV at hcall
          have HCALL := Lib.hid hcall
          have HN2 := Lib.hid (show L1 ++ claimsL ks ps (j + 1) (outs.drop (j + 1)) = L by rw [← HREST.out, claimsL_none ks ps hS])
          clear hcall hS
          go_wp2_with fail
          refine HCALL.out.mono ?_
          rintro e w1 ⟨K, kc, P, pc2, rfl, hb1⟩
          have hbz : Below w1.heap.size w1 (w1.alloc (.cells #[.int .i64 0, .int .i64 0, .int .u8 0, .string ⟨#[]⟩, .int .i64 0, .slice none 0 0, .int .i64 0, .int .i64 0, .slice K 0 kc, .slice P 0 pc2] 36)) := (Below.refl _ _).alloc (Nat.le_refl _) _
          have hb2 := hb1.trans (hbz.mono hb1.size)
          have HBZ := Lib.hid (HBN.out.trans (hb2.mono HBN.out.size))
          have HOZ := Lib.hid (own_below HOW.out hb2)
          have HCZ := Lib.hid (HCL.out.below hb2)
          clear hb1 hb2 hbz y0 y1 y2 y3 y4
          go_wp2_with fail
          go_roundw
          case rel => exact ⟨j + 1, L1, xs, by omega, by go_num, HOZ.out, HCZ.out, HN2.out, HBZ.out⟩
          case measure => simp [intOf]; omega
        | some c =>
          rw [hS] at hcall
          simp only at hcall
          unfold claimV at hcall
          have HCALL := Lib.hid hcall
          have HN2 := Lib.hid (show (L1 ++ [((j : Int), x, c)]) ++ claimsL ks ps (j + 1) (outs.drop (j + 1)) = L by rw [← HREST.out, claimsL_some ks ps hS, List.append_assoc]; rfl)
          clear hcall hS
          go_wp2_with fail
          refine HCALL.out.mono ?_
          rintro e w1 ⟨K, kc, P, pc2, rfl, hrk, hrp, hap, hb1⟩
          have hbz : Below w1.heap.size w1 (w1.alloc (.cells #[.int .i64 (j : Int), .int .i64 x.value, .int .u8 x.lock.kind, .string x.lock.term, .int .i64 x.lock.n, .slice C x.lock.kids.length cp, .int .i64 c.after, .int .i64 c.age, .slice K c.keys.length kc, .slice P c.pres.length pc2] 36)) := (Below.refl _ _).alloc (Nat.le_refl _) _
          have hbz4 : Below w1.heap.size w1 (w1.alloc (.cells #[.int .i64 (j : Int), .int .i64 x.value, .int .u8 x.lock.kind, .string x.lock.term, .int .i64 x.lock.n, .slice C x.lock.kids.length cp, .int .i64 c.after, .int .i64 c.age, .slice K c.keys.length kc, .slice P c.pres.length pc2] 36)).drew := hbz.drew
          have hb3 := hb1.trans (hbz4.mono hb1.size)
          have HB3 := Lib.hid (HBN.out.trans (hb3.mono HBN.out.size))
          have HO3 := Lib.hid (own_below HOW.out hb3)
          have HC3 := Lib.hid (HCL.out.below hb3)
          have HRK := Lib.hid ((hrk.base_le (show w.heap.size ≤ (wr.alloc (.cells #[.int .i64 x.value, .int .u8 x.lock.kind, .string x.lock.term, .int .i64 x.lock.n, .slice C x.lock.kids.length cp] 34)).heap.size from HBN.out.size)).below hbz4)
          have HRP := Lib.hid ((hrp.base_le (show w.heap.size ≤ (wr.alloc (.cells #[.int .i64 x.value, .int .u8 x.lock.kind, .string x.lock.term, .int .i64 x.lock.n, .slice C x.lock.kids.length cp] 34)).heap.size from HBN.out.size)).below hbz4)
          have hbc : Below w1.heap.size w1 (w1.alloc (.cells #[.int .i64 0, .int .i64 0, .int .u8 0, .string ⟨#[]⟩, .int .i64 0, .slice none 0 0, .int .i64 c.after, .int .i64 c.age, .slice K c.keys.length kc, .slice P c.pres.length pc2] 36)) := (Below.refl _ _).alloc (Nat.le_refl _) _
          have m0 := fun o => cell_below ((Below.refl w1.heap.size w1).alloc (Nat.le_refl _) o) (cell_below hb1 y0)
          have m1 := fun o => cell_below ((Below.refl w1.heap.size w1).alloc (Nat.le_refl _) o) (cell_below hb1 y1)
          have m2 := fun o => cell_below ((Below.refl w1.heap.size w1).alloc (Nat.le_refl _) o) (cell_below hb1 y2)
          have m3 := fun o => cell_below ((Below.refl w1.heap.size w1).alloc (Nat.le_refl _) o) (cell_below hb1 y3)
          have m4 := fun o => cell_below ((Below.refl w1.heap.size w1).alloc (Nat.le_refl _) o) (cell_below hb1 y4)
          have hW : (w1.alloc (.cells #[.int .i64 0, .int .i64 0, .int .u8 0, .string ⟨#[]⟩, .int .i64 0, .slice none 0 0, .int .i64 c.after, .int .i64 c.age, .slice K c.keys.length kc, .slice P c.pres.length pc2] 36)).heap[w1.heap.size]? = some (.cells #[.int .i64 0, .int .i64 0, .int .u8 0, .string ⟨#[]⟩, .int .i64 0, .slice none 0 0, .int .i64 c.after, .int .i64 c.age, .slice K c.keys.length kc, .slice P c.pres.length pc2] 36 (0, 0)) := Go.heap_alloc_new w1 _
          have HN1 := Lib.hid (show (L1.length + 1) * 136 ≤ 140737488355328 by omega)
          have HN3 := Lib.hid (show L1.length + 1 ≤ 140737488355328 by omega)
          clear hb1 hbz hbz4 hb3 hrk hrp hap hbc y0 y1 y2 y3 y4
          go_upto_region 9 with fail
          go_region
          have h4 : (w1.alloc (.cells #[.int .i64 (j : Int), .int .i64 x.value, .int .u8 x.lock.kind, .string x.lock.term, .int .i64 x.lock.n, .slice C x.lock.kids.length cp, .int .i64 c.after, .int .i64 c.age, .slice K c.keys.length kc, .slice P c.pres.length pc2] 36)).drew.heap[w1.heap.size]? = some (.cells #[.int .i64 (j : Int), .int .i64 x.value, .int .u8 x.lock.kind, .string x.lock.term, .int .i64 x.lock.n, .slice C x.lock.kids.length cp, .int .i64 c.after, .int .i64 c.age, .slice K c.keys.length kc, .slice P c.pres.length pc2] 36 (0, 0)) := Go.heap_alloc_new w1 _
          generalize (w1.alloc (.cells #[.int .i64 (j : Int), .int .i64 x.value, .int .u8 x.lock.kind, .string x.lock.term, .int .i64 x.lock.n, .slice C x.lock.kids.length cp, .int .i64 c.after, .int .i64 c.age, .slice K c.keys.length kc, .slice P c.pres.length pc2] 36)).drew = W4 at h4 HB3 HO3 HC3 HRK HRP ⊢
          have hbv : Below W4.heap.size W4 (W4.alloc (.cells #[.int .i64 (j : Int), .int .i64 x.value, .int .u8 x.lock.kind, .string x.lock.term, .int .i64 x.lock.n, .slice C x.lock.kids.length cp, .int .i64 c.after, .int .i64 c.age, .slice K c.keys.length kc, .slice P c.pres.length pc2] 36)) := (Below.refl _ _).alloc (Nat.le_refl _) _
          have HB5 := Lib.hid (HB3.out.trans (hbv.mono HB3.out.size))
          have HO5 := Lib.hid (own_below HO3.out hbv)
          have HC5 := Lib.hid (HC3.out.below hbv)
          have HK5 := Lib.hid (HRK.out.below hbv)
          have HP5 := Lib.hid (HRP.out.below hbv)
          have HSZ := Lib.hid (show w.heap.size ≤ (W4.alloc (.cells #[.int .i64 (j : Int), .int .i64 x.value, .int .u8 x.lock.kind, .string x.lock.term, .int .i64 x.lock.n, .slice C x.lock.kids.length cp, .int .i64 c.after, .int .i64 c.age, .slice K c.keys.length kc, .slice P c.pres.length pc2] 36)).heap.size from HB5.out.size)
          have z0 : W4.cell? ⟨w1.heap.size, 0, none⟩ = some (.int .i64 (j : Int)) := cell_of h4 rfl
          have z1 : W4.cell? ⟨w1.heap.size, 1, none⟩ = some (.int .i64 x.value) := cell_of h4 rfl
          have z2 : W4.cell? ⟨w1.heap.size, 2, none⟩ = some (.int .u8 x.lock.kind) := cell_of h4 rfl
          have z3 : W4.cell? ⟨w1.heap.size, 3, none⟩ = some (.string x.lock.term) := cell_of h4 rfl
          have z4 : W4.cell? ⟨w1.heap.size, 4, none⟩ = some (.int .i64 x.lock.n) := cell_of h4 rfl
          have z5 : W4.cell? ⟨w1.heap.size, 5, none⟩ = some (.slice C x.lock.kids.length cp) := cell_of h4 rfl
          have z6 : W4.cell? ⟨w1.heap.size, 6, none⟩ = some (.int .i64 c.after) := cell_of h4 rfl
          have z7 : W4.cell? ⟨w1.heap.size, 7, none⟩ = some (.int .i64 c.age) := cell_of h4 rfl
          have z8 : W4.cell? ⟨w1.heap.size, 8, none⟩ = some (.slice K c.keys.length kc) := cell_of h4 rfl
          have z9 : W4.cell? ⟨w1.heap.size, 9, none⟩ = some (.slice P c.pres.length pc2) := cell_of h4 rfl
          clear hbv
          go_wp2_with (at_builtin; go_must (refine wpList_appk slClaim rfl _ _ rfl w.heap.size _ L1.length xs rfl HO5.out (some ⟨W4.heap.size, 0, none⟩) 1 1 [.int .i64 (j : Int), .int .i64 x.value, .int .u8 x.lock.kind, .string x.lock.term, .int .i64 x.lock.n, .slice C x.lock.kids.length cp, .int .i64 c.after, .int .i64 c.age, .slice K c.keys.length kc, .slice P c.pres.length pc2] rfl rfl (fun _ => ⟨_, rfl, fun j u hj => World.news_of_block (Go.heap_alloc_new W4 _) j u hj⟩) (by simp [Value.oneCell']) HN1.out HN3.out HSZ.out ?_); intro v6 w6 hown6 hg6 hb6 hat6)
          go_roundw
          case rel => exact ⟨j + 1, L1 ++ [((j : Int), x, c)], xs ++ [.int .i64 (j : Int), .int .i64 x.value, .int .u8 x.lock.kind, .string x.lock.term, .int .i64 x.lock.n, .slice C x.lock.kids.length cp, .int .i64 c.after, .int .i64 c.age, .slice K c.keys.length kc, .slice P c.pres.length pc2], by omega, by go_num, by rw [List.length_append]; exact hown6, ClaimsR.snoc ⟨C, cp, K, kc, P, pc2, rfl, HLK.out, HK5.out.grown hg6 (own_part HK5.out (by decide) HO5.out), HP5.out.grown hg6 (own_part HP5.out (by decide) HO5.out)⟩ _ _ (HC5.out.grown (by decide) HO5.out hg6), HN2.out, HB5.out.trans hb6⟩
          case measure => simp [intOf]; omega
      · have HN2 := Lib.hid (show L1 = L by rw [← hrest, List.drop_of_length_le (by omega)]; unfold claimsL; rw [List.append_nil])
        have HFIN := Lib.hid (show ClaimsP w R (.returned (.tuple #[.slice Au L1.length cu, .int .i64 0])) wr by
          rw [HN.out, ← HN2.out]
          exact ⟨Au, cu, xs, rfl, hcu, ClaimsR.toC hbr _ _ hcl, hbr⟩)
        have gj : decide ((j : Int) < (outs.length : Int)) = false := decide_eq_false (by omega)
        clear hrest hown hcl hbr hcu
        go_wp2_with fail
        exact bodyPost_ret (v := .tuple #[.slice Au L1.length cu, .int .i64 0]) (by simp [results, Tryz.results10, go_sem]) rfl HFIN.out
end Go.Proofs.YtaonadgelkdbcaaGreatDoor
