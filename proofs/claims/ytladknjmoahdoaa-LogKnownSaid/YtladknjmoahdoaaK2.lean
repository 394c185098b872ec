/- A page laid down. -/
import Derived.Test.YtladknjmoahdoaaK1
set_option linter.all false
namespace Go.Proofs.Ytladknjmoahdoaa
open Go.RowKit

theorem zero_built : Try.prog.built 75 [] = some (pgC zeroP) := by kernel_rfl
theorem slPage : SlTyK Try.prog 69 75 (.agg (pgC zeroP)) 256 256 := ⟨Try.underlying69, by kernel_rfl, pgC_size _, by decide⟩
theorem page_size : (Try.prog.info? 75).map (·.size) = some 256 := by kernel_rfl
theorem write_size : (Try.prog.info? 77).map (·.size) = some 258 := by kernel_rfl
theorem own_ne {w : World} {base k n b : Nat} {E T : TypeId} {v : Value} {xs : List Value} {cs : Array Value} {fr : Nat × Nat} (h : w.ownsRow base E k v n xs) (hE : E ≠ T) (hb : w.heap[b]? = some (.cells cs T fr)) : ∀ g, v.ownBlock = some g → g ≠ b := by
  intro g hg e
  subst e
  rcases h.2 with ⟨hv, -⟩ | ⟨g', cap, cur, hv, -, hh, -⟩
  · rw [hv] at hg; cases hg
  · rw [hv] at hg
    injection hg with hg
    have hg' : g' = g := hg
    subst hg'
    rw [hh] at hb
    injection hb with hb
    injection hb with _ hb _
    exact hE hb
/-- Where a file's row lies behind a page that was laid. -/
def OwnNext (N : Nat) (v v' : Value) : Prop := v'.ownBlock = v.ownBlock ∨ ∃ g, v'.ownBlock = some g ∧ N ≤ g
structure LayP (w : World) (bl : Nat) (vn vs vo : Value) (l : List PageT) (vn' : Value) (w' : World) : Prop where
  blk : w'.heap[bl]? = some (.cells #[vn', vs, vo] 73)
  own : w'.ownsRow 0 75 256 vn' l.length (pagesC l)
  fr : Fr (bl :: vn.ownBlock.toList) w w'
  next : OwnNext w.heap.size vn vn'
theorem OwnNext.refl (N : Nat) (v : Value) : OwnNext N v v := .inl rfl
theorem OwnNext.step {N : Nat} {v v' v'' : Value} {M : Nat} (h : OwnNext N v v') (h' : v''.ownBlock = v'.ownBlock ∨ v''.ownBlock = some M) (hM : N ≤ M) : OwnNext N v v'' := by
  rcases h' with h' | h'
  · rcases h with h | ⟨g, h, hg⟩
    · exact .inl (h'.trans h)
    · exact .inr ⟨g, h'.trans h, hg⟩
  · exact .inr ⟨M, h', hM⟩
/-- How long a file's row is. -/
def lenAt (w : World) (bl : Nat) : Nat := match w.cell? ⟨bl, 0, none⟩ with | some (.slice _ n _) => n | _ => 0
theorem pages_snoc (l : List PageT) (p : PageT) : pagesC (l ++ [p]) = pagesC l ++ (pgC p).toList := by simp [pagesC, pgL]
theorem ownBlock_eq {A A' : Option Addr} {n c n' c' : Nat} (h : (Value.slice A n c).ownBlock = (Value.slice A' n' c').ownBlock) : True := trivial
/-- A row's block is apart from the file's block and lies below, or among the new ones. -/
theorem LayP.block {w w' : World} {bl : Nat} {vn vs vo v : Value} {l : List PageT} (h : LayP w bl vn vs vo l v w') (hlt : ∀ g, vn.ownBlock = some g → g < w.heap.size) : ∀ g, v.ownBlock = some g → g ≠ bl ∧ (vn.ownBlock = some g ∨ w.heap.size ≤ g) := by
  intro g hg
  refine ⟨own_ne h.own (by decide) h.blk g hg, ?_⟩
  rcases h.next with h1 | ⟨g', h1, h2⟩
  · exact .inl (h1.symm.trans hg)
  · rw [hg] at h1
    injection h1 with h1
    subst h1
    exact .inr h2
theorem LayP.store {w w1 w2 : World} {bl : Nat} {vn vs vo v v2 : Value} {l l2 : List PageT} (h : LayP w bl vn vs vo l v w1) (hbl : bl < w.heap.size) (hg : w1.grownBy w2 v.ownBlock) (ho : w2.ownsRow 0 75 256 v2 l2.length (pagesC l2)) (hat : OwnNext w.heap.size vn v2) (hlt : ∀ g, vn.ownBlock = some g → g < w.heap.size)
    (hblk : w2.heap[bl]? = some (.cells #[v, vs, vo] 73)) : LayP w bl vn vs vo l2 v2 (w2.setCell ⟨bl, 0, none⟩ v2) := by
  have hf2 : Fr (bl :: vn.ownBlock.toList) w w2 := by
    refine h.fr.trans (G := v.ownBlock.toList) (Fr.grown hg fun k hk _ => by rw [hk]; simp) fun i hi hl => ?_
    rcases (h.block hlt i (by simpa using hi)).2 with h1 | h1
    · simp [h1]
    · omega
  refine ⟨setCell_heap v2 hblk, ?_, hf2.put bl 0 v2 (.inl (by simp)), hat⟩
  refine ownsRow_block ho fun g hg => ?_
  exact Below.heap_setCell w2 ⟨bl, 0, none⟩ v2 g (own_ne ho (by decide) hblk g hg)
theorem replicate_snoc (l : List PageT) (j : Nat) : l ++ List.replicate (j + 1) zeroP = l ++ List.replicate j zeroP ++ [zeroP] := by rw [List.replicate_succ', List.append_assoc]
set_option maxRecDepth 100000 in
set_option maxHeartbeats 4000000 in
theorem lay_any (bl : Nat) (vn vs vo : Value) (l : List PageT) (k : Nat) (pg : PageT) (w : World) (hb : w.heap[bl]? = some (.cells #[vn, vs, vo] 73)) (hn : w.ownsRow 0 75 256 vn l.length (pagesC l)) (hk : k ≤ 100000) (hl : l.length ≤ 100000) :
    Calls Try.prog 36 #[.pointer (some ⟨bl, 0, none⟩), .int .i64 k, .agg (pgC pg)] w fun e w' => e = .returned (.tuple #[]) ∧ ∃ vn', LayP w bl vn vs vo (layP l k pg) vn' w' := by
  have hbx : (w.alloc (.cells (pgC pg) 75)).heap[w.heap.size]? = some (.cells (pgC pg) 75) := Go.heap_alloc_new w _
  have hb0 : Below w.heap.size w (w.alloc (.cells (pgC pg) 75)) := (Below.refl _ _).alloc (Nat.le_refl _) _
  have hbl := lt_of_block hb
  have hvl : ∀ g, vn.ownBlock = some g → g < w.heap.size := fun g hg => (World.ownsRow.lt hn g hg).2
  have hsz : (w.alloc (.cells (pgC pg) 75)).heap.size = w.heap.size + 1 := by simp
  have HB := Lib.hid ((hb0.block _ hbl).trans hb)
  have HN := Lib.hid (own_below hn hb0)
  have HX := Lib.hid hbx
  have HSZ := Lib.hid hsz
  have HBL := Lib.hid hbl
  have HVL := Lib.hid hvl
  have HB0 := Lib.hid hb0
  have L0 := Lib.hid (show LayP (w.alloc (.cells (pgC pg) 75)) bl vn vs vo l vn (w.alloc (.cells (pgC pg) 75)) from ⟨HB.out, HN.out, Fr.refl _ _, .inl rfl⟩)
  have HBL0 := Lib.hid (show bl < (w.alloc (.cells (pgC pg) 75)).heap.size by rw [hsz]; omega)
  have HVL0 := Lib.hid (show ∀ g, vn.ownBlock = some g → g < (w.alloc (.cells (pgC pg) 75)).heap.size from fun g hg => by rw [hsz]; have := hvl g hg; omega)
  clear hb hn hbx hb0 hbl hvl hsz
  go_enter Try.func36, Try.ntmps36
  go_wp2_with fail
  go_loopw [6] (fun _ wr => ∃ j v, l.length + j ≤ max l.length (k + 1) ∧ LayP (w.alloc (.cells (pgC pg) 75)) bl vn vs vo (l ++ List.replicate j zeroP) v wr) (fun _ wr => k + 1 - lenAt wr bl)
  case atStart => exact ⟨0, vn, by omega, by simpa using L0.out⟩
  case round =>
    obtain ⟨j, v, hj, L⟩ := hrel
    obtain ⟨A, c, hv, -, -⟩ := own_shape L.own
    have hlen : (l ++ List.replicate j zeroP).length = l.length + j := by simp
    obtain ⟨n, hn⟩ : ∃ n, l.length + j = n := ⟨_, rfl⟩
    have hown := L.own
    rw [hlen, hn] at hv hown
    subst hv
    have c0 : wr.cell? ⟨bl, 0, none⟩ = some (.slice A n c) := cell_of (j := 0) L.blk rfl
    have hM : lenAt wr bl = n := by unfold lenAt; rw [c0]
    have hvw : wr.heap[w.heap.size]? = some (.cells (pgC pg) 75) := L.fr.kept (by
      intro hi
      rcases List.mem_cons.1 hi with hi | hi
      · have := HBL.out; omega
      · have := HVL.out _ (by simpa using hi); omega) HX.out
    have HL := Lib.hid L
    have HO := Lib.hid hown
    have HJ := Lib.hid hj
    have HNN := Lib.hid hn
    have HM := Lib.hid hM
    have HXX := Lib.hid hvw
    have HLEN := Lib.hid (hlen.trans hn)
    clear L hj hn hM hvw hlen hown
    by_cases hlt : n ≤ k
    · have HLT := Lib.hid hlt
      have B1 := Lib.hid (show (n + 1) * 256 ≤ 140737488355328 by omega)
      have B2 := Lib.hid (show n + 1 ≤ 140737488355328 by omega)
      go_wp2_with (first
        | (refine wpList_zero rfl 75 rfl (pgC zeroP) zero_built ?_)
        | (refine wpList_slice1 slPage rfl 0 _ rfl rfl (pgC zeroP) rfl (pgC_size _) (by decide) ?_)
        | (at_builtin; refine wpList_appk slPage rfl _ _ rfl 0 (.slice A n c) n _ rfl (HO.out.alloc _) (some ⟨wr.heap.size, 0, none⟩) 1 1 (pgC zeroP).toList rfl (by rw [Array.length_toList, pgC_size]) (fresh_cells wr _ _) (pgC_one _) B1.out B2.out (Nat.zero_le _) ?_; intro v2 w2 hown2 hg2 hb2 hat2; obtain ⟨A2, c2, hv2, -, -⟩ := own_shape hown2; subst hv2; have hgw : wr.grownBy w2 (Value.slice A n c).ownBlock := (World.grownBy_alloc wr _ _).trans hg2; have hbl2 : w2.heap[bl]? = some (.cells #[.slice A n c, vs, vo] 73) := ((hgw.block bl (lt_of_block HL.out.blk) (fun e => own_ne HO.out (by decide) HL.out.blk bl e.symm rfl)).trans HL.out.blk); have c2f := free_of hbl2 0; have c2c : w2.cell? ⟨bl, 0, none⟩ = some (.slice A n c) := cell_of (j := 0) hbl2 rfl; have HO2 := Lib.hid hown2; have HG2 := Lib.hid hgw; have HB2 := Lib.hid hbl2; have HAT2 := Lib.hid hat2; clear hown2 hg2 hgw hb2 hat2 hbl2))
      refine ⟨⟨j + 1, .slice A2 (n + 1) c2, by have := HJ.out; have := HNN.out; omega, ?_⟩, ?_⟩
      · rw [replicate_snoc]
        refine LayP.store (v2 := .slice A2 (n + 1) c2) HL.out HBL0.out HG2.out ?_ (HL.out.next.step HAT2.out (Nat.le_trans HL.out.fr.size (by simp))) HVL0.out HB2.out
        have h1 := HO2.out
        rw [← pages_snoc] at h1
        rw [List.length_append, HLEN.out]
        exact h1
      · rw [HM.out]
        have : lenAt (w2.setCell ⟨bl, 0, none⟩ (.slice A2 (n + 1) c2)) bl = n + 1 := by
          unfold lenAt
          rw [cell_of (j := 0) (u := .slice A2 (n + 1) c2) (setCell_heap _ HB2.out) rfl]
        rw [this]
        omega
    · obtain ⟨g, c', hv, -⟩ := own_nil HO.out (by omega)
      injection hv with hA _ hc
      subst hA; subst hc
      have hjk : j = k + 1 - l.length := by have := HJ.out; have := HNN.out; omega
      have gk : k < n := by omega
      have gk' : ((k : Int) < (n : Int)) := by omega
      have hrow : wr.there g (k * 256) (pgC pg).size := by rw [pgC_size]; exact row_there HO.out gk
      have hst := row_stored (w := wr.drew) (f := pgL) pgL_len (i := k) (World.ownsRow.drew HO.out) HLEN.out gk pg
      have HST := Lib.hid hst
      have HRW := Lib.hid hrow
      have HJK := Lib.hid hjk
      have HGK := Lib.hid gk
      have hwrap : IntKind.i64.wrap (k : Int) = k := IntWalk.i64_in _ (by omega)
      clear hst hrow hjk
      go_wp2_with fail
      go_still_tail 7, (by kernel_rfl)
      refine wpStill_wide (op := ⟨some 28, _, _, _, _, _⟩) rfl 75 (.tmp 5) rfl w.heap.size 0 rfl (pgC pg) (range_block HXX.out) Try.underlying75 rfl (by rw [pgC_size]; exact page_size) ?_
      repeat still_step
      refine wpStill_nil ?_
      change wpList _ _ _ _ _ wr.drew
      have HRD := Lib.hid (show wr.drew.there g (k * 256) (pgC pg).size from HRW.out)
      refine wpList_store_mid rfl 75 _ _ rfl g (k * 256) (pgC pg) rfl rfl HRD.out (by rw [pgC_size]; exact page_size) (pgC_all pg) ?_
      have HF2 : LayP (w.alloc (.cells (pgC pg) 75)) bl vn vs vo (layP l k pg) (.slice (some ⟨g, 0, none⟩) n c) (wr.drew.setCells g (k * 256) (pgC pg).toList) := by
        have h1 := HST.out.1
        have h2 := HST.out.2
        have hL := HL.out
        have hb := hL.block HVL0.out g rfl
        refine ⟨?_, ?_, ?_, hL.next⟩
        · exact (h2.block bl (lt_of_block hL.blk) (fun e => by injection e with e; exact hb.1 e.symm)).trans hL.blk
        · have e1 : (layP l k pg).length = n := by rw [layP_len]; have := HJ.out; have := HNN.out; omega
          rw [e1]
          have e2 : layP l k pg = (l ++ List.replicate j zeroP).set k pg := by unfold layP; rw [HJK.out]
          rw [e2]
          exact h1
        · refine hL.fr.trans (G := [g]) ⟨h2.os, h2.tape, h2.output, h2.size, fun i hi hn => h2.block i hi (fun e => hn (by injection e with e; simp [e]))⟩ fun i hi hl => ?_
          simp at hi; subst hi
          rcases hb.2 with h3 | h3
          · simp [h3]
          · omega
      have HFF := Lib.hid HF2
      generalize wr.drew.setCells g (k * 256) (pgC pg).toList = wf at HF2 HFF ⊢
      clear HF2
      go_wp2_with fail
      go_end0
      refine ⟨rfl, _, HFF.out.blk, HFF.out.own, (Fr.below HB0.out).trans HFF.out.fr (fun i hi _ => hi), ?_⟩
      rcases HFF.out.next with h | ⟨g', h, hg⟩
      · exact .inl h
      · exact .inr ⟨g', h, Nat.le_trans (by simp) hg⟩
end Go.Proofs.Ytladknjmoahdoaa
