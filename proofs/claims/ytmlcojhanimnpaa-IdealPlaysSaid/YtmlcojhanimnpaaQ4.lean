/- The document's Copy. · The document's Hold. · The document's Hold: its walk. · The document's ends: what each step gives (plain), and what is left in memory. · The document's ends: its walk. · The document's Settle and Fail. -/
import Derived.Test.YtmlcojhanimnpaaQ3
import Derived.Deep.RegionLaw
import Derived.StillTailTactics
import Derived.IntWalk
namespace Go.Proofs.Ytmlcojhanimnpaa
open Go.RowKit

/-- A new ledger of the document's. -/
def RNew (w : World) (A : List (ByteArray × Int)) (C : List Chan) (H : List HoldR) (n : Int) (e : Ending) (w' : World) : Prop :=
  ∃ q va vc vh vs, e = .returned (.pointer (some ⟨q, 0, none⟩)) ∧ RAt w' q va vc vh vs A C H n ∧ (∀ i ∈ fpR q va vc vh, w.heap.size ≤ i) ∧ Below w.heap.size w w'
theorem rnew_of {w w3 : World} {v1 v2 v3 : Value} {vs : List Value} {A : List (ByteArray × Int)} {C : List Chan} {H : List HoldR} {n : Int} (hb : Below w.heap.size w w3) (h1 : w3.ownsRow w.heap.size 94 2 v1 A.length (A.flatMap accC)) (h2 : w3.ownsRow w.heap.size 95 6 v2 C.length (C.flatMap chC))
    (h3 : w3.ownsRow w.heap.size 97 2 v3 H.length vs) (hv : RHoldVs w3 H vs) : RNew w A C H n (.returned (.pointer (some ⟨w3.heap.size, 0, none⟩))) (w3.alloc (.cells #[v1, v2, v3, .int .i64 n] 55)) := by
  have hb' := hb.alloc hb.size (.cells #[v1, v2, v3, .int .i64 n] 55)
  have ha : Below w3.heap.size w3 (w3.alloc (.cells #[v1, v2, v3, .int .i64 n] 55)) := (Below.refl _ _).alloc (Nat.le_refl _) _
  refine ⟨w3.heap.size, v1, v2, v3, vs, rfl, ⟨Go.heap_alloc_new w3 _, own_zero (own_below h1 ha), own_zero (own_below h2 ha), own_zero (own_below h3 ha), hv.kept fun g _ hg => ha.block g (lt_of_block hg)⟩, fun i hi => ?_, hb'⟩
  simp only [fpR, List.mem_cons, List.mem_append] at hi
  rcases hi with rfl | hi | hi | hi
  · exact hb.size
  · exact (World.ownsRow.lt h1 i (by simpa using hi)).1
  · exact (World.ownsRow.lt h2 i (by simpa using hi)).1
  · exact (World.ownsRow.lt h3 i (by simpa using hi)).1
set_option maxRecDepth 100000 in
set_option maxHeartbeats 4000000 in
theorem rcopy_any (p : Nat) (va vc vh : Value) (vs : List Value) (A : List (ByteArray × Int)) (C : List Chan) (H : List HoldR) (n : Int) (w : World) (hA : A.length ≤ 64) (hC : C.length ≤ 256) (hH : H.length ≤ 256) (h : RAt w p va vc vh vs A C H n) :
    Calls Try.prog 22 #[.pointer (some ⟨p, 0, none⟩)] w (RNew w A C H n) := by
  obtain ⟨e0, e1, e2, e3⟩ := h.cell
  obtain ⟨Aa, ca, rfl, -, hca⟩ := h.accs
  obtain ⟨Ac, cc, rfl, -, hcc⟩ := h.chs
  obtain ⟨Ah, ch, rfl, -, hch⟩ := own_shape h.oh
  have HL := Lib.hid h
  have HCA := Lib.hid hca
  have HCC := Lib.hid hcc
  have HCH := Lib.hid hch
  have HLA := Lib.hid (flat_len accC 2 (fun _ => rfl) A)
  have HLC := Lib.hid (flat_len chC 6 (fun _ => rfl) C)
  have HLH := Lib.hid h.hv.len
  have HOH := Lib.hid h.hv.one
  have HN1 := Lib.hid (show (0 + A.length) * 24 ≤ 140737488355328 by omega)
  have HN2 := Lib.hid (show 0 + A.length ≤ 140737488355328 by omega)
  have HN3 := Lib.hid (show (0 + C.length) * 72 ≤ 140737488355328 by omega)
  have HN4 := Lib.hid (show 0 + C.length ≤ 140737488355328 by omega)
  have HN5 := Lib.hid (show (0 + H.length) * 32 ≤ 140737488355328 by omega)
  have HN6 := Lib.hid (show 0 + H.length ≤ 140737488355328 by omega)
  have H0 := Lib.hid (World.ownsRow_nil w w.heap.size 94 2)
  have tok1 : True := trivial
  have tok2 : True := trivial
  have tok3 : True := trivial
  clear h hca hcc hch hA hC hH
  go_enter Try.func22, Try.ntmps22
  go_wp2_with (first
    | (at_builtin; have _t := tok1; go_must (refine wpList_appk slRAcc rfl _ _ rfl w.heap.size _ 0 [] rfl H0.out Aa A.length ca (A.flatMap accC) rfl HLA.out HCA.out (flat_one _ accC_one _) HN1.out HN2.out (Nat.le_refl _) ?_); intro u1 w1 hown1 hg1 hb1 hat1; obtain ⟨A1, c1, hv1, -, -⟩ := own_shape hown1; subst hv1; have HO1 := Lib.hid hown1; have HB1 := Lib.hid hb1; have k1 := cell_below hb1 e1; have HSZ1 := Lib.hid hb1.size; have HCC1 := Lib.hid (HCC.out.below hb1); clear tok1 _t hown1 hg1 hb1 hat1)
    | (at_builtin; have _t := tok2; go_must (refine wpList_appk slRChan rfl _ _ rfl w1.heap.size _ 0 [] rfl (World.ownsRow_nil w1 w1.heap.size 95 6) Ac C.length cc (C.flatMap chC) rfl HLC.out HCC1.out (flat_one _ chC_one _) HN3.out HN4.out (Nat.le_refl _) ?_); intro u2 w2 hown2 hg2 hb2 hat2; obtain ⟨A2, c2, hv2, -, -⟩ := own_shape hown2; subst hv2; have HO2 := Lib.hid hown2; have HB2 := Lib.hid (HB1.out.trans (hb2.mono HSZ1.out)); have HO1 := Lib.hid (own_below HO1.out hb2); have k4 := cell_below (HB1.out.trans (hb2.mono HSZ1.out)) e2; clear tok2 _t hown2 hg2 hb2 hat2 k1)
    | (at_builtin; have _t := tok3; go_must (refine wpList_appk slRHold rfl _ _ rfl w2.heap.size _ 0 [] rfl (World.ownsRow_nil w2 w2.heap.size 97 2) Ah H.length ch vs rfl HLH.out (HCH.out.below HB2.out) HOH.out HN5.out HN6.out (Nat.le_refl _) ?_); intro u3 w3 hown3 hg3 hb3 hat3; obtain ⟨A3, c3, hv3, -, -⟩ := own_shape hown3; subst hv3; have HO3 := Lib.hid hown3; have HB3 := Lib.hid (HB2.out.trans (hb3.mono HB2.out.size)); have HO1 := Lib.hid (own_below HO1.out hb3); have HO2 := Lib.hid (own_below HO2.out hb3); have k6 := cell_below (HB2.out.trans (hb3.mono HB2.out.size)) e3; clear tok3 _t hown3 hg3 hb3 hat3 k4))
  go_ret
  have h1 := HO1.out
  have h2 := base_le HO2.out HB1.out.size
  have h3 := base_le HO3.out HB2.out.size
  rw [Nat.zero_add, List.nil_append] at h1 h2 h3
  exact rnew_of HB3.out h1 h2 h3 (RAt.below HL.out HB3.out).hv
end Go.Proofs.Ytmlcojhanimnpaa

namespace Go.Proofs.Ytmlcojhanimnpaa
open Go.RowKit

theorem slRLeg : SlTyK Try.prog 92 119 (.agg #[.string ⟨#[]⟩, .string ⟨#[]⟩, .int .i64 0]) 3 40 := ⟨Try.underlying92, by kernel_rfl, rfl, by decide⟩
theorem CHok.take1 {l : List (ByteArray × Chan)} (h : CHok l) {x : Leg} (he : (take1 l x).1 = 0) : ∃ c, mget l x.ch = some c ∧ (take1 l x).2 = mset l x.ch (givesC c x false (-x.amt)) ∧ 1 ≤ x.amt ∧ x.amt ≤ 2100000000000000000 ∧ CHok (take1 l x).2 := by
  unfold Proofs.Ytmlcojhanimnpaa.take1 at he ⊢
  split at he
  · cases he
  rename_i c hc
  split at he
  · cases he
  rename_i n hn
  split at he
  · cases he
  rename_i h1
  split at he
  · cases he
  rename_i h2
  simp only [hc, if_neg h1, if_neg h2]
  have hg : c.put x.src (n - x.amt) = givesC c x false (-x.amt) := by
    unfold Chan.has at hn
    unfold Chan.put givesC toA
    by_cases ha : x.src = c.a
    · rw [if_pos ha] at hn ⊢
      injection hn with hn
      rw [(ch_beq _ _).2 ha.symm]
      simp only [bne, Bool.true_beq, Bool.not_false, if_true]
      unfold putF
      rw [if_pos rfl, ← hn]
      rfl
    · rw [if_neg ha] at hn ⊢
      split at hn
      · injection hn with hn
        rw [(ch_bne _ _).2 (fun e => ha e.symm)]
        simp only [bne, Bool.false_beq, Bool.not_false, Bool.not_true, Bool.false_eq_true, if_false]
        unfold putF
        rw [if_neg (by decide), ← hn]
        rfl
      · cases hn
  unfold maxMoney at h1
  have b := h.lo _ _ hc
  have b2 := h.hi _ _ hc
  have hnb : 0 ≤ n ∧ n ≤ 2100000000000000000 := by
    unfold Chan.has at hn
    split at hn
    · injection hn with hn; omega
    · split at hn
      · injection hn with hn; omega
      · cases hn
  have hnm := h.nm _ _ hc
  have hne := h.ne _ _ hc
  refine ⟨c, rfl, by rw [hg], by omega, by omega, ⟨mset_nodup h.nc _ _, ?_, fun k c' hk => ?_, fun k c' hk => ?_, fun k c' hk => ?_, fun k c' hk => ?_⟩⟩
  · rw [mset_length, hc]; exact h.len
  · by_cases e : k = x.ch
    · subst e; rw [mget_mset_same] at hk; injection hk with hk; subst hk; unfold Chan.put; split <;> exact hnm
    · rw [mget_mset_other _ _ e] at hk; exact h.nm _ _ hk
  · by_cases e : k = x.ch
    · subst e; rw [mget_mset_same] at hk; injection hk with hk; subst hk; unfold Chan.put; split <;> exact hne
    · rw [mget_mset_other _ _ e] at hk; exact h.ne _ _ hk
  · by_cases e : k = x.ch
    · subst e; rw [mget_mset_same] at hk; injection hk with hk; subst hk; unfold Chan.put; split <;> simp only <;> omega
    · rw [mget_mset_other _ _ e] at hk; exact h.lo _ _ hk
  · by_cases e : k = x.ch
    · subst e; rw [mget_mset_same] at hk; injection hk with hk; subst hk; unfold Chan.put; split <;> simp only <;> omega
    · rw [mget_mset_other _ _ e] at hk; exact h.hi _ _ hk
theorem own_base {w : World} {base : Nat} {E : TypeId} {k : Nat} {v : Value} {n : Nat} {xs : List Value} (h : w.ownsRow 0 E k v n xs) (hb : ∀ g, v.ownBlock = some g → base ≤ g) : w.ownsRow base E k v n xs := by
  refine ⟨h.1, ?_⟩
  rcases h.2 with h0 | ⟨g, cap, cur, hv, -, hr⟩
  · exact .inl h0
  · exact .inr ⟨g, cap, cur, hv, hb g (by rw [hv]; rfl), hr⟩
/-- The document's ledger with another row of channels and another number. -/
def held2 (w : World) (p : Nat) (vc : Value) (n : Int) : World := (w.setCell ⟨p, 1, none⟩ vc).setCell ⟨p, 3, none⟩ (.int .i64 n)
theorem held2_other (w : World) (p : Nat) (vc : Value) (n : Int) : ∀ i, i ≠ p → (held2 w p vc n).heap[i]? = w.heap[i]? := fun i hi => by
  unfold held2
  exact (Below.heap_setCell _ ⟨p, 3, none⟩ _ i hi).trans (Below.heap_setCell w ⟨p, 1, none⟩ _ i hi)
theorem RAt.held {w : World} {p : Nat} {va vc vh vc1 : Value} {vs : List Value} {A : List (ByteArray × Int)} {C C1 : List Chan} {H : List HoldR} {n n1 : Int} (h : RAt w p va vc vh vs A C H n) (ho : w.ownsRow 0 95 6 vc1 C1.length (C1.flatMap chC)) : RAt (held2 w p vc1 n1) p va vc1 vh vs A C1 H n1 := by
  have hk : ∀ (i : Nat) (cs : Array Value) (T : TypeId), w.heap[i]? = some (.cells cs T) → T ≠ 55 → i ≠ p := fun i cs T h1 h2 e => by
    subst e
    rw [h.blk] at h1
    injection h1 with h1
    injection h1 with h1 h4
    exact h2 h4.symm
  refine ⟨?_, ?_, ?_, ?_, ?_⟩
  · unfold held2
    exact (setCell_cells (setCell_cells h.blk 1 vc1) 3 (.int .i64 n1)).trans rfl
  · exact ownsRow_block h.oa fun g hg => by obtain ⟨c, hc⟩ := row_kind h.oa hg; exact held2_other w p vc1 n1 g (hk g _ _ hc (by decide))
  · exact ownsRow_block ho fun g hg => by obtain ⟨c, hc⟩ := row_kind ho hg; exact held2_other w p vc1 n1 g (hk g _ _ hc (by decide))
  · exact ownsRow_block h.oh fun g hg => by obtain ⟨c, hc⟩ := row_kind h.oh hg; exact held2_other w p vc1 n1 g (hk g _ _ hc (by decide))
  · exact h.hv.kept fun g cur hc => held2_other w p vc1 n1 g (hk g _ _ hc (by decide))
/-- What holding leaves. -/
theorem rhold_fin {w W Wd w6 : World} {p base n6 : Nat} {va vc vc1 vh vo v6 : Value} {vs : List Value} {A : List (ByteArray × Int)} {C1 : List Chan} {H : List HoldR} {n1 id : Int} {legs : List Leg} {o : Obj} {Ao : Option Addr} {co : Nat}
    (hF : Fr (fpR p va vc vh) w W) (hL : RAt W p va vc1 vh vs A C1 H n1) (hWd : Wd.heap = W.heap) (hWo : Wd.os = W.os) (hWt : Wd.tape = W.tape) (hWu : Wd.output = W.output) (hvo : vo = .slice Ao legs.length co) (ho5 : W.ownsRow base 119 3 vo legs.length (legsC legs)) (hvc : ∀ g, vc1.ownBlock = some g → w.heap.size ≤ g)
    (ho6 : w6.ownsRow 0 97 2 v6 n6 (vs ++ [.int .i64 id, vo])) (hn6 : n6 = H.length + 1) (hg6 : (Wd.alloc o).grownBy w6 vh.ownBlock) (hat6 : v6.ownBlock = vh.ownBlock ∨ v6.ownBlock = some (Wd.alloc o).heap.size) :
    RAt (w6.setCell ⟨p, 2, none⟩ v6) p va vc1 v6 (vs ++ [.int .i64 id, vo]) A C1 (H ++ [⟨id, legs⟩]) n1 ∧ Fr (fpR p va vc vh) w (w6.setCell ⟨p, 2, none⟩ v6) ∧ ∀ i ∈ fpR p va vc1 v6, i ∈ fpR p va vc vh ∨ w.heap.size ≤ i := by
  have hsz : Wd.heap.size = W.heap.size := by rw [hWd]
  have hold : ∀ g, g < W.heap.size → vh.ownBlock ≠ some g → w6.heap[g]? = W.heap[g]? := fun g hg hne => by
    refine (hg6.block g (by simp; omega) (fun e => hne e.symm)).trans ((Go.heap_alloc_old Wd o (by omega)).trans (by rw [hWd]))
  have hk : ∀ (i : Nat) (cs : Array Value) (T : TypeId), W.heap[i]? = some (.cells cs T) → T ≠ 55 → i ≠ p := fun i cs T h1 h2 e => by
    subst e
    rw [hL.blk] at h1
    injection h1 with h1
    injection h1 with h1 h4
    exact h2 h4.symm
  have hkh : ∀ (i : Nat) (cs : Array Value) (T : TypeId), W.heap[i]? = some (.cells cs T) → T ≠ 97 → vh.ownBlock ≠ some i := fun i cs T h1 h2 e => by
    obtain ⟨c, hc⟩ := row_kind hL.oh e
    rw [hc] at h1
    injection h1 with h1
    injection h1 with h1 h4
    exact h2 h4.symm
  have hp6 := (hold p (lt_of_block hL.blk) (hkh p _ _ hL.blk (by decide))).trans hL.blk
  have hoth : ∀ g, g ≠ p → (w6.setCell ⟨p, 2, none⟩ v6).heap[g]? = w6.heap[g]? := fun g hg => Below.heap_setCell w6 _ _ g hg
  have hkeep : ∀ (i : Nat) (cs : Array Value) (T : TypeId), W.heap[i]? = some (.cells cs T) → T ≠ 55 → T ≠ 97 → (w6.setCell ⟨p, 2, none⟩ v6).heap[i]? = W.heap[i]? := fun i cs T h1 h2 h3 =>
    (hoth i (hk i cs T h1 h2)).trans (hold i (lt_of_block h1) (hkh i cs T h1 h3))
  have hsz6 : W.heap.size ≤ w6.heap.size := by have := hg6.size; simp at this; omega
  refine ⟨⟨(setCell_cells hp6 2 _).trans rfl, ?_, ?_, ?_, ?_⟩, ?_, ?_⟩
  · exact ownsRow_block hL.oa fun g hg => by obtain ⟨c, hc⟩ := row_kind hL.oa hg; exact hkeep g _ _ hc (by decide) (by decide)
  · exact ownsRow_block hL.oc fun g hg => by obtain ⟨c, hc⟩ := row_kind hL.oc hg; exact hkeep g _ _ hc (by decide) (by decide)
  · rw [List.length_append]
    show World.ownsRow _ 0 _ 2 v6 (H.length + 1) _
    rw [← hn6]
    refine ownsRow_block ho6 fun g hg => hoth g ?_
    rintro rfl
    obtain ⟨cur, hh⟩ := row_kind ho6 hg
    rw [hp6] at hh
    injection hh with hh
    injection hh with h1 h2
    exact absurd h2 (by decide)
  · have hx : RHoldVs W [⟨id, legs⟩] [.int .i64 id, vo] := ⟨Ao, co, [], by rw [hvo], by rw [hvo] at ho5; exact own_zero ho5, rfl⟩
    have h1 : RHoldVs W (H ++ [⟨id, legs⟩]) (vs ++ [.int .i64 id, vo]) := hL.hv.append hx
    exact h1.kept fun g cur hg => hkeep g _ _ hg (by decide) (by decide)
  · have f1 : Fr vh.ownBlock.toList W w6 := ⟨hg6.os.trans hWo, hg6.tape.trans hWt, hg6.output.trans hWu, hsz6, fun g hg hn => hold g hg (fun e => hn (by rw [e]; simp))⟩
    have f2 : Fr [p] w6 (w6.setCell ⟨p, 2, none⟩ v6) := ⟨rfl, rfl, rfl, by simp [World.setCell], fun g _ hg => hoth g (by simpa using hg)⟩
    exact (hF.trans f1 fun i hi _ => by simp [fpR]; exact .inr (.inr (.inr (by simpa using hi)))).trans f2 fun i hi _ => by simp at hi; subst hi; simp [fpR]
  · intro g hg
    simp only [fpR, List.mem_cons, List.mem_append] at hg ⊢
    rcases hg with rfl | hg | hg | hg
    · exact .inl (.inl rfl)
    · exact .inl (.inr (.inl hg))
    · exact .inr (hvc g (by simpa using hg))
    · have hg' : v6.ownBlock = some g := by simpa using hg
      rcases hat6 with h | h
      · exact .inl (.inr (.inr (.inr (by rw [← h, hg']; simp))))
      · rw [h] at hg'
        injection hg' with hg'
        have := hF.size
        exact .inr (by simp at hg'; omega)
end Go.Proofs.Ytmlcojhanimnpaa

namespace Go.Proofs.Ytmlcojhanimnpaa
open Go.RowKit

def RHoldP (w : World) (p : Nat) (va vc vh : Value) (r : Int × Int × Led) (e : Ending) (w' : World) : Prop :=
  e = .returned (.tuple #[.int .i64 r.1, .int .i64 r.2.1]) ∧ ROp w p va vc vh 0 r.2.2 (.returned (.int .i64 0)) w'
theorem RHoldP.same {w w' : World} {p : Nat} {va vc vh : Value} {vs : List Value} {s : Led} {n err : Int} (h : RLed w p va vc vh vs s) (hb : Below w.heap.size w w') : RHoldP w p va vc vh (n, err, s) (.returned (.tuple #[.int .i64 n, .int .i64 err])) w' :=
  ⟨rfl, ROp.same h hb⟩
theorem held2_fr (w : World) (p : Nat) (vc : Value) (n : Int) : Fr [p] w (held2 w p vc n) :=
  ⟨rfl, rfl, rfl, by unfold held2; simp [World.setCell], fun g _ hg => held2_other w p vc n g (by simpa using hg)⟩
theorem row_not_led {w : World} {base p : Nat} {va vc vh v : Value} {vs xs : List Value} {A : List (ByteArray × Int)} {C : List Chan} {H : List HoldR} {n : Int} {m : Nat} (ho : w.ownsRow base 119 3 v m xs) (h : RAt w p va vc vh vs A C H n) {g : Nat} (hg : v.ownBlock = some g) : g ≠ p := by
  rintro rfl
  obtain ⟨c, hc⟩ := row_kind ho hg
  rw [h.blk] at hc
  injection hc with hc
  injection hc with h1 h2
  exact absurd h2 (by decide)
theorem rhold_keep {w w6 : World} {p : Nat} {va vc vh : Value} {vs : List Value} {A : List (ByteArray × Int)} {C : List Chan} {H : List HoldR} {n : Int} {o : Obj} (L : RAt w p va vc vh vs A C H n) (hg6 : (w.alloc o).grownBy w6 vh.ownBlock) :
    w6.cell? ⟨p, 2, none⟩ = some vh ∧ w6.frozen? ⟨p, 2, none⟩ = false ∧ ∀ u, (w6.setCell ⟨p, 2, none⟩ u).cell? ⟨p, 3, none⟩ = some (.int .i64 n) := by
  have hpv : vh.ownBlock ≠ some p := fun e => by
    obtain ⟨cur, hh⟩ := row_kind L.oh e
    rw [L.blk] at hh
    injection hh with hh
    injection hh with h1 h2
    exact absurd h2 (by decide)
  have hlp : p < w.heap.size := lt_of_block L.blk
  have hp6 := ((hg6.block p (by simp; omega) (fun e => hpv e.symm)).trans (Go.heap_alloc_old w o hlp)).trans L.blk
  refine ⟨by simp [World.cell?, hp6], by simp [World.frozen?, hp6], fun u => ?_⟩
  have h2 := setCell_cells hp6 2 u
  simp [World.cell?, h2]
set_option maxRecDepth 100000 in
set_option maxHeartbeats 8000000 in
theorem rhold_any (p : Nat) (va vc vh : Value) (vs : List Value) (s : Led) (legs : List Leg) (A : Option Addr) (ca : Nat) (w : World) (hs : Inv s) (h : RLed w p va vc vh vs s) (hlast : s.last ≤ 4611686018427387904) (hl0 : 0 ≤ s.last) (hlen : legs.length ≤ 100000) (hA : LegsIn w A legs) :
    Calls Try.prog 54 #[.pointer (some ⟨p, 0, none⟩), .slice A legs.length ca] w (RHoldP w p va vc vh (hold s legs)) := by
  obtain ⟨R, hR⟩ : ∃ R, hold s legs = R := ⟨_, rfl⟩
  rw [hR]
  have HR := Lib.hid hR
  have H := Lib.hid h
  have HS := Lib.hid hs
  have HL := Lib.hid hA
  have hal : (accs s).length ≤ 64 := by rw [accs_len]; exact hs.lk
  have hcl : (chs s).length ≤ 256 := by rw [chs_len]; exact hs.lc
  have hhl := hs.lh
  have HCO := Lib.hid (rcopy_any p va vc vh vs (accs s) (chs s) s.holds s.last w hal hcl hhl h)
  obtain ⟨n, hn⟩ : ∃ n, legs.length = n := ⟨_, rfl⟩
  have HN := Lib.hid hn
  rw [hn] at hlen ⊢
  clear hR h hs hA hn
  by_cases hn1 : n < 1
  · have hr : R = (0, 2, s) := by rw [← HR.out]; unfold hold; rw [if_pos (.inl (by rw [HN.out]; omega))]
    rw [hr]
    clear hr
    go_enter Try.func54, Try.ntmps54
    go_wp2_with fail
    go_ret2
    exact RHoldP.same H.out (Below.refl _ _)
  · by_cases hn2 : 20 < n
    · have hr : R = (0, 2, s) := by rw [← HR.out]; unfold hold; rw [if_pos (.inr (by rw [HN.out]; omega))]
      rw [hr]
      clear hr
      go_enter Try.func54, Try.ntmps54
      go_wp2_with fail
      go_ret2
      exact RHoldP.same H.out (Below.refl _ _)
    · have HZ := Lib.hid (show ¬ (legs.length = 0 ∨ 20 < legs.length) by rw [HN.out]; omega)
      go_enter Try.func54, Try.ntmps54
      go_wp2_with fail
      refine HCO.out.mono ?_
      rintro e w1 ⟨q, va1, vc1, vh1, vs1, rfl, hq, hqf, hb1⟩
      have HQ := Lib.hid hq
      have HQF := Lib.hid hqf
      have HB1 := Lib.hid hb1
      clear hq hqf hb1
      go_wp2_with fail
      go_loopw [7] (fun i wr => ∃ k : Nat, k ≤ n ∧ i = .int .i64 k ∧ (takeAll s.chans (legs.take k)).1 = 0 ∧ CHok (takeAll s.chans (legs.take k)).2 ∧ RAt wr q va1 vc1 vh1 vs1 (accs s) (tch (takeAll s.chans (legs.take k)).2) s.holds s.last ∧ Below w.heap.size w wr) (fun i _ => n - (intOf i).toNat)
      case atStart => exact ⟨0, Nat.zero_le _, rfl, rfl, CHok.led HS.out, HQ.out, HB1.out⟩
      case round =>
        obtain ⟨k, hk, rfl, htk, hck, hqk, hbr⟩ := hrel
        have HTK := Lib.hid htk
        have HCK := Lib.hid hck
        have HQK := Lib.hid hqk
        have HBR := Lib.hid hbr
        by_cases hkn : k < n
        · have hkl : k < legs.length := by rw [HN.out]; exact hkn
          obtain ⟨Y, hY⟩ : ∃ Y, legs[k] = Y := ⟨_, rfl⟩
          have hLr : LegsIn wr A legs := Cells.below HL.out hbr
          obtain ⟨la, rfl, l1, l2, l3⟩ := hLr.look hkl
          rw [hY] at l1 l2 l3
          have hst := takeAll_step hkl htk
          rw [hY] at hst
          obtain ⟨L, hLk⟩ : ∃ L, (takeAll s.chans (legs.take k)).2 = L := ⟨_, rfl⟩
          rw [hLk] at hst hck hqk
          have HST := Lib.hid hst
          have HM := Lib.hid (rmay_any q va1 vc1 vh1 vs1 (accs s) L s.holds s.last Y wr hck hqk)
          have HQL := Lib.hid hqk
          have HCL := Lib.hid hck
          have HLR := Lib.hid hLr
          have HY := Lib.hid hY
          clear hst htk hck hqk hbr hY hLr
          go_wp2_with fail
          refine HM.out.mono ?_
          rintro e w2 ⟨rfl, hb2⟩
          have m1 := cell_below hb2 l1
          have m2 := cell_below hb2 l2
          have m3 := cell_below hb2 l3
          have HQ2 := Lib.hid (HQL.out.below hb2)
          have HB2 := Lib.hid (HBR.out.trans (hb2.mono HBR.out.size))
          obtain ⟨er, her⟩ : ∃ er, (take1 L Y).1 = er := ⟨_, rfl⟩
          rw [her]
          have HER := Lib.hid her
          clear hb2 l1 l2 l3 her
          by_cases he0 : er = 0
          · subst he0
            obtain ⟨c, hc, h2, a1, a2, hok⟩ := HCL.out.take1 HER.out
            have HG := Lib.hid (rgives_any q va1 vc1 vh1 vs1 (accs s) L s.holds s.last Y false (-Y.amt) c w2.drew HCL.out (RAt.of_heap HQ2.out rfl) hc (by omega) (by omega))
            have HH2 := Lib.hid h2
            have HOK := Lib.hid hok
            have a3 : -2100000000000000000 ≤ -Y.amt := by omega
            clear hc h2 hok
            have hwr : IntKind.i64.wrap (-Y.amt) = -Y.amt := IntWalk.i64_in _ (by omega)
            go_wp2_with fail
            go_still_tail 11, (by kernel_rfl)
            change wpList _ _ _ _ _ w2.drew
            clear hwr
            generalize hdr : w2.drew = wd at HG ⊢
            go_wp2_with (go_at_call 84; refine HG.out.mono ?_; rintro e w3 ⟨rfl, hq3, hf3⟩)
            have hbd : Below w.heap.size w wd := by rw [← hdr]; exact HB2.out.drew
            have HQ3 := Lib.hid hq3
            have HB3 := Lib.hid (hbd.trans (Fr.toBelowOf ⟨hf3.os, hf3.tape, hf3.output, hf3.size, hf3.block⟩ hbd.size HQF.out))
            clear hq3 hf3 hbd hdr
            go_roundw
            case rel =>
              obtain ⟨g1, g2⟩ := HST.out.1 HER.out
              exact ⟨k + 1, by omega, by go_num, g1, by rw [g2]; exact HOK.out, by rw [g2, HH2.out]; exact HQ3.out, HB3.out⟩
            case measure => simp [intOf]; omega
          · go_wp2_with fail
            go_ret2
            have hr : R = (0, er, s) := by
              have h1 := HST.out.2 (by rw [HER.out]; exact he0)
              rw [HER.out] at h1
              rw [← HR.out]; unfold hold; rw [if_neg HZ.out, if_pos (by rw [h1]; exact he0), h1]
            rw [hr]
            exact RHoldP.same H.out HB2.out
        · have hke : k = n := by omega
          subst hke
          have htk2 : (takeAll s.chans legs).1 = 0 := by rw [← HN.out, List.take_length] at htk; exact htk
          have hqk2 : RAt wr q va1 vc1 vh1 vs1 (accs s) (tch (takeAll s.chans legs).2) s.holds s.last := by rw [← HN.out, List.take_length] at hqk; exact hqk
          have HTK2 := Lib.hid htk2
          have HQ2 := Lib.hid hqk2
          have HP2 := Lib.hid (RAt.below H.out hbr)
          have HLR := Lib.hid (Cells.below HL.out hbr)
          obtain ⟨e0, e1, e2, e3⟩ := RAt.cell (RAt.below H.out hbr)
          obtain ⟨Ah, chh, hvh, -, -⟩ := own_shape H.out.oh
          subst hvh
          obtain ⟨Acp, ccp, hvcp, -, -⟩ := own_shape H.out.oc
          subst hvcp
          clear htk htk2 hqk hqk2 hck hbr
          by_cases h256 : 256 ≤ s.holds.length
          · have h256I : (256 : Int) ≤ ((s.holds.length : Nat) : Int) := by omega
            go_wp2_with fail
            go_ret2
            have hr : R = (0, 3, s) := by rw [← HR.out]; unfold hold; rw [if_neg HZ.out, if_neg (by rw [HTK2.out]; simp), if_pos h256]
            rw [hr]
            exact RHoldP.same H.out HBR.out
          · have h256I : ¬ (256 : Int) ≤ ((s.holds.length : Nat) : Int) := by omega
            obtain ⟨Ac1, cc1, hvc1, -, -⟩ := own_shape HQ2.out.oc
            subst hvc1
            obtain ⟨q0, q1, q2, q3⟩ := HQ2.out.cell
            have HN1 := Lib.hid (show (0 + k) * 40 ≤ 140737488355328 by omega)
            have HN2 := Lib.hid (show 0 + k ≤ 140737488355328 by omega)
            have HLL := Lib.hid (show (legsC legs).length = k * 3 by rw [legsC_len, HN.out])
            have hr : R = (s.last + 1, 0, { s with chans := (takeAll s.chans legs).2, holds := s.holds ++ [⟨s.last + 1, legs⟩], last := s.last + 1 }) := by
              rw [← HR.out]; unfold hold; rw [if_neg HZ.out, if_neg (by rw [HTK2.out]; simp), if_neg h256]
            have HRR := Lib.hid hr
            clear hr
            have tok1 : True := trivial
            go_upto_region 17 with (first
              | (at_builtin; have _t := tok1; go_must (refine wpList_appk slRLeg rfl _ _ rfl wr.heap.size _ 0 [] rfl (World.ownsRow_nil wr wr.heap.size 119 3) A k ca (legsC legs) rfl HLL.out HLR.out (legsC_one _) HN1.out HN2.out (Nat.le_refl _) ?_); intro v5 w5 hown5 hg5 hb5 hat5; rw [Nat.zero_add, List.nil_append] at hown5; obtain ⟨A5, c5, hv5, -, -⟩ := own_shape hown5; subst hv5; have HO5 := Lib.hid hown5; have HB5 := Lib.hid hb5; have k1 := cell_below hb5 q1; have k3 := cell_below hb5 e3; have kp1 := cell_below hb5 e1; have f1 := RAt.free (HP2.out.below hb5) 1; have f3 := RAt.free (HP2.out.below hb5) 3; clear tok1 _t hown5 hg5 hb5 hat5))
            have L3 : RAt (held2 w5 p (.slice Ac1 (tch (takeAll s.chans legs).2).length cc1) (s.last + 1)) p va (.slice Ac1 (tch (takeAll s.chans legs).2).length cc1) (.slice Ah s.holds.length chh) vs (accs s) (tch (takeAll s.chans legs).2) s.holds (s.last + 1) := (HP2.out.below HB5.out).held (HQ2.out.below HB5.out).oc
            have F3 : Fr (fpR p va (.slice Acp (chs s).length ccp) (.slice Ah s.holds.length chh)) w (held2 w5 p (.slice Ac1 (tch (takeAll s.chans legs).2).length cc1) (s.last + 1)) := (Fr.below (HBR.out.trans (HB5.out.mono HBR.out.size))).trans (held2_fr w5 p _ (s.last + 1)) fun i hi _ => by simp at hi; subst hi; simp [fpR]
            have O3 : (held2 w5 p (.slice Ac1 (tch (takeAll s.chans legs).2).length cc1) (s.last + 1)).ownsRow wr.heap.size 119 3 (.slice A5 k c5) legs.length (legsC legs) := by
              rw [HN.out]
              exact ownsRow_block HO5.out fun g hg => held2_other w5 p _ _ g (row_not_led HO5.out (HP2.out.below HB5.out) hg)
            generalize hW : held2 w5 p (.slice Ac1 (tch (takeAll s.chans legs).2).length cc1) (s.last + 1) = W at L3 F3 O3
            unfold held2 at hW
            rw [hW]
            clear hW
            have LD : RAt W.drew p va (.slice Ac1 (tch (takeAll s.chans legs).2).length cc1) (.slice Ah s.holds.length chh) vs (accs s) (tch (takeAll s.chans legs).2) s.holds (s.last + 1) := L3.of_heap rfl
            have k2 := L3.cell.2.2.1
            have k3' := L3.cell.2.2.2
            have k2A : ∀ o, (W.alloc o).cell? ⟨p, 2, none⟩ = some (.slice Ah s.holds.length chh) := fun o => (L3.below ((Below.refl _ _).alloc (Nat.le_refl _) o)).cell.2.2.1
            have HL3 := Lib.hid L3
            have HLD := Lib.hid LD
            have HF3 := Lib.hid F3
            have HO3 := Lib.hid O3
            have HBB1 := Lib.hid (show (s.holds.length + 1) * 32 ≤ 140737488355328 by omega)
            have HBB2 := Lib.hid (show s.holds.length + 1 ≤ 140737488355328 by omega)
            clear e0 e1 e2 e3 q0 q1 q2 q3 LD F3 L3 O3 k3 kp1 f1 f3
            go_region_law (refine step_appk slRHold rfl (.tmp 74) (.tmp 81) rfl 0 (.slice Ah s.holds.length chh) s.holds.length vs (by rfl) (by exact (HLD.out.below ((Below.refl _ _).alloc (Nat.le_refl _) _)).oh) (some ⟨W.heap.size, 0, none⟩) 1 1 [.int .i64 (s.last + 1), .slice A5 k c5] (by rfl) (by rfl) (fun _ => ⟨_, rfl, fun j u hj => World.news_of_block (Go.heap_alloc_new W.drew _) j u hj⟩) (by simp [Value.oneCell']) HBB1.out HBB2.out (Nat.zero_le _) ?_; intro v6 w6 hown6 hg6 hb6 hat6; obtain ⟨A6, c6, rfl, -, -⟩ := own_shape hown6; obtain ⟨d5, d6, d7⟩ := rhold_keep HLD.out hg6)
            all_goals
              have HO6 := Lib.hid hown6
              have HG6 := Lib.hid hg6
              have HAT := Lib.hid hat6
              clear hown6 hg6 hat6
              go_wp2_with fail
              go_ret2
              rw [HRR.out]
              obtain ⟨g1, g2, g3⟩ := rhold_fin (Wd := W.drew) (o := .cells #[Value.int .i64 (s.last + 1), Value.slice A5 k c5] 97) HF3.out HL3.out rfl rfl rfl rfl (by rw [HN.out]) HO3.out (fun g hg => HQF.out g (by simp [fpR, hg])) HO6.out rfl HG6.out HAT.out
              exact ⟨rfl, rfl, _, _, _, _, g1, g2, g3⟩
end Go.Proofs.Ytmlcojhanimnpaa

namespace Go.Proofs.Ytmlcojhanimnpaa
open Go.RowKit

theorem put_givesC {c : Chan} {x : Leg} {n : Int} (settled : Bool) (hne : c.a ≠ c.b) (hx : x.src = c.a ∨ x.src = c.b) (hn : c.has (toSide settled c x) = some n) : c.put (toSide settled c x) (n + x.amt) = givesC c x settled x.amt := by
  unfold toSide at hn ⊢
  unfold givesC toA
  by_cases ha : x.src = c.a
  · rw [(ch_beq _ _).2 ha.symm]
    cases settled
    · simp only [Bool.false_eq_true, if_false] at hn ⊢
      unfold Chan.has at hn
      rw [if_pos ha] at hn
      injection hn with hn
      unfold Chan.put putF
      rw [if_pos ha, hn]
      rfl
    · simp only [if_true] at hn ⊢
      unfold Chan.other at hn ⊢
      rw [if_pos ha] at hn ⊢
      unfold Chan.has at hn
      rw [if_neg (fun e => hne e.symm), if_pos rfl] at hn
      injection hn with hn
      unfold Chan.put putF
      rw [if_neg (fun e => hne e.symm), hn]
      rfl
  · have hb := hx.resolve_left ha
    rw [(ch_bne _ _).2 (fun e => ha e.symm)]
    cases settled
    · simp only [Bool.false_eq_true, if_false] at hn ⊢
      unfold Chan.has at hn
      rw [if_neg ha, if_pos hb] at hn
      injection hn with hn
      unfold Chan.put putF
      rw [if_neg ha, hn]
      rfl
    · simp only [if_true] at hn ⊢
      unfold Chan.other at hn ⊢
      rw [if_neg ha] at hn ⊢
      unfold Chan.has at hn
      rw [if_pos rfl] at hn
      injection hn with hn
      unfold Chan.put putF
      rw [if_pos rfl, hn]
      rfl
theorem rgive_step {s : Led} (h : Inv s) (settled : Bool) {x : HoldR} (hx : x ∈ s.holds) (k : Nat) (hk : k < x.legs.length) :
    ∃ c, mget (giveAll settled s.chans (x.legs.take k)) x.legs[k].ch = some c ∧ 1 ≤ x.legs[k].amt ∧ x.legs[k].amt ≤ 2100000000000000000 ∧
      giveAll settled s.chans (x.legs.take (k + 1)) = mset (giveAll settled s.chans (x.legs.take k)) x.legs[k].ch (givesC c x.legs[k] settled x.legs[k].amt) := by
  obtain ⟨c, n, hc, hn, hne, h0, -, hm, hlo, hst⟩ := give_step h settled hx k hk
  have hall := h.hs x hx
  obtain ⟨g1, g2⟩ := giveAll_ok settled h.ch (legs := x.legs.take k) fun y hy => hall y (List.mem_of_mem_take hy)
  have hlk : LegOk (giveAll settled s.chans (x.legs.take k)) x.legs[k] := (hall _ (List.getElem_mem hk)).same g2
  obtain ⟨c', hc', hs⟩ := hlk.on
  rw [hc] at hc'
  injection hc' with hc'
  subst hc'
  unfold maxMoney at hm
  exact ⟨c, hc, hlo, by omega, by rw [hst, put_givesC settled hne hs hn]⟩
theorem giveAll_CHok {s : Led} (h : Inv s) (settled : Bool) {x : HoldR} (hx : x ∈ s.holds) (k : Nat) : CHok (giveAll settled s.chans (x.legs.take k)) := by
  have hall := h.hs x hx
  have hpos : ∀ z ∈ s.holds, ∀ y ∈ z.legs, 1 ≤ y.amt := fun z hz y hy => (h.hs z hz y hy).lo
  obtain ⟨g1, g2⟩ := giveAll_ok settled h.ch (legs := x.legs.take k) fun y hy => hall y (List.mem_of_mem_take hy)
  refine CHok.of (by rw [g2.keys]; exact h.nc) (by rw [g2.length]; exact h.lc) g1 (fun q => ?_) fun q c hc => ?_
  · have hheld := legSum_held (fun y => y.ch == q) s.holds hpos hx
    have htake := legSum_take (fun y => y.ch == q) x.legs (fun y hy => hpos x hx y hy) k
    have hf : heldF s.holds q = holdSum (fun y => y.ch == q) s.holds := rfl
    omega
  · obtain ⟨c', hc', hsh⟩ := Same.get (Eq.symm g2) hc
    have := cap_le h hc'
    unfold Chan.shape at hsh
    simp only [Prod.mk.injEq] at hsh
    rw [← hsh.2.2.2]; exact this
theorem rend_fin {w wr w4 : World} {p n i c4 : Nat} {A4 : Option Addr} {va vc vh : Value} {vs : List Value} {A : List (ByteArray × Int)} {C : List Chan} {H : List HoldR} {n1 : Int}
    (hF : Fr (fpR p va vc vh) w wr) (hL : RAt wr p va vc vh vs A C H n1) (hb4 : Below wr.heap.size wr w4) (hi : i < H.length)
    (hown : w4.ownsRow wr.heap.size 97 2 (.slice A4 n c4) n (vs.take (i * 2) ++ vs.drop ((i + 1) * 2))) (hn : n = H.length - 1) :
    RAt (w4.setCell ⟨p, 2, none⟩ (.slice A4 n c4)) p va vc (.slice A4 n c4) (vs.take (i * 2) ++ vs.drop ((i + 1) * 2)) A C (H.eraseIdx i) n1 ∧ Fr (fpR p va vc vh) w (w4.setCell ⟨p, 2, none⟩ (.slice A4 n c4)) ∧ ∀ g ∈ fpR p va vc (.slice A4 n c4), g ∈ fpR p va vc vh ∨ w.heap.size ≤ g := by
  have L4 := hL.below hb4
  have hoth : ∀ g, g ≠ p → (w4.setCell ⟨p, 2, none⟩ (.slice A4 n c4)).heap[g]? = w4.heap[g]? := fun g hg => Below.heap_setCell w4 _ _ g hg
  have hk : ∀ (g : Nat) (cs : Array Value) (T : TypeId), w4.heap[g]? = some (.cells cs T) → T ≠ 55 → g ≠ p := fun g cs T h1 h2 e => by
    subst e
    rw [L4.blk] at h1
    injection h1 with h1
    injection h1 with h1 h4
    exact h2 h4.symm
  have hp : p < wr.heap.size := lt_of_block hL.blk
  have hlen : (H.eraseIdx i).length = n := by rw [List.length_eraseIdx_of_lt hi, hn]
  have hle : H.eraseIdx i = H.take i ++ H.drop (i + 1) := List.eraseIdx_eq_take_drop_succ ..
  have hblk : ∀ g, (Value.slice A4 n c4).ownBlock = some g → wr.heap.size ≤ g := fun g hg => (World.ownsRow.lt hown g hg).1
  have hsz := hF.size
  refine ⟨⟨(setCell_cells L4.blk 2 _).trans rfl, ?_, ?_, ?_, ?_⟩, ?_, ?_⟩
  · exact ownsRow_block L4.oa fun g hg => by obtain ⟨c, hc⟩ := row_kind L4.oa hg; exact hoth g (hk g _ _ hc (by decide))
  · exact ownsRow_block L4.oc fun g hg => by obtain ⟨c, hc⟩ := row_kind L4.oc hg; exact hoth g (hk g _ _ hc (by decide))
  · show World.ownsRow _ 0 _ 2 (.slice A4 n c4) (H.eraseIdx i).length _
    rw [hlen]
    exact ownsRow_block (own_zero hown) fun g hg => hoth g (by have := hblk g hg; omega)
  · rw [hle]
    exact ((L4.hv.take i).append (L4.hv.drop (i + 1))).kept fun g cur hg => hoth g (hk g _ _ hg (by decide))
  · have f2 : Fr [p] w4 (w4.setCell ⟨p, 2, none⟩ (.slice A4 n c4)) := ⟨rfl, rfl, rfl, by simp [World.setCell], fun g _ hg => hoth g (by simpa using hg)⟩
    exact (hF.trans (Fr.below (F := []) hb4) fun i hi _ => by cases hi).trans f2 fun i hi _ => by simp at hi; subst hi; simp [fpR]
  · intro g hg
    simp only [fpR, List.mem_cons, List.mem_append] at hg ⊢
    rcases hg with rfl | hg | hg | hg
    · exact .inl (.inl rfl)
    · exact .inl (.inr (.inl hg))
    · exact .inl (.inr (.inr (.inl hg)))
    · have := hblk g (by simpa using hg)
      exact .inr (by omega)
end Go.Proofs.Ytmlcojhanimnpaa

namespace Go.Proofs.Ytmlcojhanimnpaa
open Go.RowKit

set_option maxRecDepth 100000 in
set_option maxHeartbeats 8000000 in
theorem rends_any (p : Nat) (va vc vh : Value) (vs : List Value) (s : Led) (id : Int) (settled : Bool) (w : World) (hs : Inv s) (h : RLed w p va vc vh vs s) :
    Calls Try.prog 82 #[.pointer (some ⟨p, 0, none⟩), .int .i64 id, .bool settled] w (ROp w p va vc vh (endH settled s id).1 (endH settled s id).2) := by
  obtain ⟨R, hR⟩ : ∃ R, endH settled s id = R := ⟨_, rfl⟩
  rw [hR]
  have HR := Lib.hid hR
  obtain ⟨Ah, cp, hvh, hcp, -⟩ := own_shape h.oh
  subst hvh
  have H := Lib.hid h
  have HS := Lib.hid hs
  have hhl := hs.lh
  clear hR h hs
  go_enter Try.func82, Try.ntmps82
  go_wp2_with fail
  go_loopw [7] (fun i wr => ∃ k : Nat, k ≤ s.holds.length ∧ i = .int .i64 k ∧ (∀ j (hj : j < s.holds.length), j < k → s.holds[j].id ≠ id) ∧ Below w.heap.size w wr) (fun i _ => s.holds.length - (intOf i).toNat)
  case atStart => exact ⟨0, Nat.zero_le _, rfl, fun j _ h => absurd h (Nat.not_lt_zero j), Below.refl _ _⟩
  case round =>
    obtain ⟨i, hi, rfl, hfst, hbr⟩ := hrel
    have HFST := Lib.hid hfst
    have HBR := Lib.hid hbr
    have HL := Lib.hid (RAt.below H.out hbr)
    obtain ⟨e0, e1, e2, e3⟩ := HL.out.cell
    clear hfst hbr
    by_cases hil : i < s.holds.length
    · obtain ⟨z, hz⟩ : ∃ z, s.holds[i] = z := ⟨_, rfl⟩
      obtain ⟨B, cb, hv0, hv1, hown⟩ := HL.out.hv.at_ i hil
      rw [hz] at hv0 hv1 hown
      have hlen := HL.out.hv.len
      obtain ⟨A', c'', hv', -, hcells1⟩ := own_shape HL.out.oh
      injection hv' with hv'1 hv'2 hv'3
      subst hv'1
      obtain ⟨ad, rfl, hcc⟩ := hcells1 (by rw [hlen]; omega)
      have f0 : wr.cell? (ad.add (i * 2)) = some (.int .i64 z.id) := hcc _ _ hv0
      have f1 : wr.cell? ⟨(ad.add (i * 2)).block, (ad.add (i * 2)).off + 1, none⟩ = some (.slice B z.legs.length cb) := by rw [next_add _ _ _ (by decide)]; exact hcc _ _ hv1
      have HZ := Lib.hid hz
      have HV1 := Lib.hid hv1
      clear hz hv0 hv1 hown hcc hv'2 hv'3 hcells1 hlen
      by_cases hid : z.id = id
      · subst hid
        have hzm : z ∈ s.holds := by rw [← HZ.out]; exact List.getElem_mem hil
        have hzl := HS.out.hl z hzm
        have HZM := Lib.hid hzm
        have hr : R = (0, { s with chans := giveAll settled s.chans z.legs, holds := s.holds.eraseIdx i }) := by
          have hpl : placeOf s.holds z.id = some i := by
            unfold placeOf
            rw [List.findIdx?_eq_some_iff_getElem]
            refine ⟨hil, by rw [HZ.out]; simp, fun j hj => ?_⟩
            have := HFST.out j (by omega) hj
            simpa using this
          rw [← HR.out]; unfold endH; rw [hpl]; simp only []; rw [List.getElem?_eq_getElem hil, HZ.out]; rfl
        have HRR := Lib.hid hr
        clear hzm hr
        go_wp2_with fail
        go_loopw [9] (fun q wr => ∃ k : Nat, k ≤ z.legs.length ∧ q = .int .i64 k ∧ RAt wr p va vc (.slice (some ad) s.holds.length cp) vs (accs s) (tch (giveAll settled s.chans (z.legs.take k))) s.holds s.last ∧ Fr (fpR p va vc (.slice (some ad) s.holds.length cp)) w wr) (fun q _ => z.legs.length - (intOf q).toNat)
        case atStart => exact ⟨0, Nat.zero_le _, rfl, HL.out, Fr.below HBR.out⟩
        case round =>
          obtain ⟨k, hk, rfl, hat, hfr⟩ := hrel
          have HAT := Lib.hid hat
          have HFR := Lib.hid hfr
          clear e0 e1 e2 e3 f0 f1 hfr
          by_cases hkl : k < z.legs.length
          · obtain ⟨c, hc, a1, a2, hst⟩ := rgive_step HS.out settled HZM.out k hkl
            obtain ⟨Y, hY⟩ : ∃ Y, z.legs[k] = Y := ⟨_, rfl⟩
            rw [hY] at hc a1 a2 hst
            have hcells : LegsIn wr B z.legs := by
              obtain ⟨B', cb', -, hv1', hown'⟩ := hat.hv.at_ i hil
              rw [HZ.out] at hv1' hown'
              rw [HV1.out] at hv1'
              injection hv1' with hv1'
              injection hv1' with h1 h2 h3
              subst h1
              obtain ⟨B2, c2, hv2, -, hc2⟩ := own_shape hown'
              injection hv2 with h4 h5 h6
              subst h4
              exact hc2
            obtain ⟨la, rfl, l0, l1, l2⟩ := hcells.look hkl
            rw [hY] at l0 l1 l2
            have HG := Lib.hid (rgives_any p va vc (.slice (some ad) s.holds.length cp) vs (accs s) (giveAll settled s.chans (z.legs.take k)) s.holds s.last Y settled Y.amt c wr.drew (giveAll_CHok HS.out settled HZM.out k) (RAt.of_heap hat rfl) hc (by omega) (by omega))
            have HST := Lib.hid hst
            clear hc hst hcells hat hY
            go_wp2_with fail
            go_still_tail 11, (by kernel_rfl)
            change wpList _ _ _ _ _ wr.drew
            generalize hdr : wr.drew = wd at HG ⊢
            go_wp2_with (go_at_call 84; refine HG.out.mono ?_; rintro e w3 ⟨rfl, hq3, hf3⟩)
            have hfd : Fr (fpR p va vc (.slice (some ad) s.holds.length cp)) w wd := by rw [← hdr]; exact ⟨HFR.out.os, HFR.out.tape, HFR.out.output, HFR.out.size, HFR.out.block⟩
            have HQ3 := Lib.hid hq3
            have HF3 := Lib.hid (hfd.trans hf3 fun i hi _ => hi)
            clear hq3 hf3 hfd hdr
            go_roundw
            case rel => exact ⟨k + 1, by omega, by go_num, by rw [HST.out]; exact HQ3.out, HF3.out⟩
            case measure => simp [intOf]; omega
          · have hke : k = z.legs.length := by omega
            subst hke
            rw [List.take_length] at hat
            have L := Lib.hid hat
            obtain ⟨d0, d1, d2, d3⟩ := hat.cell
            have hlen : vs.length = s.holds.length * 2 := hat.hv.len
            obtain ⟨A2, c2, hv2, -, hcells2⟩ := own_shape hat.oh
            injection hv2 with hv21 hv22 hv23
            subst hv21
            clear hv22 hv23
            have hi0 : (0 : Int) ≤ (i : Int) := by omega
            have hi1 : (i : Int) ≤ (cp : Int) := by omega
            have hi2 : (i : Int) + 1 ≤ (s.holds.length : Int) := by omega
            have hi3 : (s.holds.length : Int) ≤ (cp : Int) := by omega
            have hi4 : (i : Int) + 1 ≤ (cp : Int) := by omega
            have hi5 : (0 : Int) ≤ (i : Int) + 1 := by omega
            have hi6 : ((i : Int) + 1).toNat = i + 1 := by omega
            have hone := hat.hv.one
            have HC0 := Lib.hid (show s.holds.length = i + 1 → vs.drop ((i + 1) * 2) = [] from fun he => List.drop_of_length_le (by rw [hlen]; omega))
            have H1T := Lib.hid fun (u : Value) (hu : u ∈ vs.take (i * 2)) => hone u (List.mem_of_mem_take hu)
            have H1D := Lib.hid fun (u : Value) (hu : u ∈ vs.drop ((i + 1) * 2)) => hone u (List.mem_of_mem_drop hu)
            have HLT := Lib.hid (show (vs.take (i * 2)).length = i * 2 by rw [List.length_take, hlen]; omega)
            have HLD := Lib.hid (show (vs.drop ((i + 1) * 2)).length = (s.holds.length - (i + 1)) * 2 by rw [List.length_drop, hlen]; omega)
            have HCT := Lib.hid (Cells.take hcells2 (i * 2))
            have HCD := Lib.hid (cells_drop hcells2 ((i + 1) * 2))
            have HN1 := Lib.hid (show (0 + i) * 32 ≤ 140737488355328 by omega)
            have HN2 := Lib.hid (show 0 + i ≤ 140737488355328 by omega)
            have HNIL := Lib.hid (show ∀ u ∈ ([] : List Value), u.oneCell' = true from fun u hu => by cases hu)
            have H0 := Lib.hid (World.ownsRow_nil wr wr.heap.size 97 2)
            clear hone hlen hcells2 hat hk
            by_cases hce : cp = i + 1
            · have hh0 : s.holds.length = i + 1 := by omega
              have HNN := Lib.hid (show i + 0 = s.holds.length - 1 by omega)
              have HN3 := Lib.hid (show (i + 0) * 32 ≤ 140737488355328 by omega)
              have HN4 := Lib.hid (show i + 0 ≤ 140737488355328 by omega)
              have tok1 : True := trivial
              have tok2 : True := trivial
              go_wp2_with (first
                | (at_builtin; have _t := tok1; go_must (refine wpList_appk slRHold rfl _ _ rfl wr.heap.size _ 0 [] rfl H0.out (some ad) i (i + 1) (vs.take (i * 2)) rfl HLT.out HCT.out H1T.out HN1.out HN2.out (Nat.le_refl _) ?_); intro v1 u1 hown1 hg1 hb1 hat1; rw [Nat.zero_add, List.nil_append] at hown1; obtain ⟨A1, c1, hv1, -, -⟩ := own_shape hown1; subst hv1; have HO1 := Lib.hid hown1; have HB1 := Lib.hid hb1; have k2 := cell_below hb1 d2; have HCD1 := Lib.hid (Cells.nil u1 (some ad)); have HSZ1 := Lib.hid hb1.size; clear tok1 _t hown1 hg1 hb1 hat1)
                | (at_builtin; have _t := tok2; go_must (refine wpList_appk slRHold rfl _ _ rfl wr.heap.size _ i (vs.take (i * 2)) rfl HO1.out (some ad) 0 0 [] rfl rfl HCD1.out HNIL.out HN3.out HN4.out HSZ1.out ?_); intro v2 u2 hown2 hg2 hb2 hat2; obtain ⟨A2, c2, hv2, -, -⟩ := own_shape hown2; subst hv2; have HO2 := Lib.hid hown2; have HB2 := Lib.hid (HB1.out.trans hb2); have k3 := cell_below (HB1.out.trans hb2) d2; have f3 := RAt.free (L.out.below (HB1.out.trans hb2)) 2; clear tok2 _t hown2 hg2 hb2 hat2 k2))
              go_ret
              rw [HRR.out]
              obtain ⟨g1, g2, g3⟩ := rend_fin HFR.out L.out HB2.out hil (n := i + 0) (by rw [HC0.out hh0]; exact HO2.out) HNN.out
              exact ⟨rfl, _, _, _, _, g1, g2, g3⟩
            · have HNN := Lib.hid (show i + (s.holds.length - (i + 1)) = s.holds.length - 1 by omega)
              have HN3 := Lib.hid (show (i + (s.holds.length - (i + 1))) * 32 ≤ 140737488355328 by omega)
              have HN4 := Lib.hid (show i + (s.holds.length - (i + 1)) ≤ 140737488355328 by omega)
              have tok1 : True := trivial
              have tok2 : True := trivial
              go_wp2_with (first
                | (at_builtin; have _t := tok1; go_must (refine wpList_appk slRHold rfl _ _ rfl wr.heap.size _ 0 [] rfl H0.out (some ad) i cp (vs.take (i * 2)) rfl HLT.out HCT.out H1T.out HN1.out HN2.out (Nat.le_refl _) ?_); intro v1 u1 hown1 hg1 hb1 hat1; rw [Nat.zero_add, List.nil_append] at hown1; obtain ⟨A1, c1, hv1, -, -⟩ := own_shape hown1; subst hv1; have HO1 := Lib.hid hown1; have HB1 := Lib.hid hb1; have k2 := cell_below hb1 d2; have HCD1 := Lib.hid (HCD.out.below hb1); have HSZ1 := Lib.hid hb1.size; clear tok1 _t hown1 hg1 hb1 hat1)
                | (at_builtin; have _t := tok2; go_must (refine wpList_appk slRHold rfl _ _ rfl wr.heap.size _ i (vs.take (i * 2)) rfl HO1.out (some (ad.add ((i + 1) * 2))) (s.holds.length - (i + 1)) (cp - (i + 1)) (vs.drop ((i + 1) * 2)) rfl HLD.out HCD1.out H1D.out HN3.out HN4.out HSZ1.out ?_); intro v2 u2 hown2 hg2 hb2 hat2; obtain ⟨A2, c2, hv2, -, -⟩ := own_shape hown2; subst hv2; have HO2 := Lib.hid hown2; have HB2 := Lib.hid (HB1.out.trans hb2); have k3 := cell_below (HB1.out.trans hb2) d2; have f3 := RAt.free (L.out.below (HB1.out.trans hb2)) 2; clear tok2 _t hown2 hg2 hb2 hat2 k2))
              go_ret
              rw [HRR.out]
              obtain ⟨g1, g2, g3⟩ := rend_fin HFR.out L.out HB2.out hil (n := i + (s.holds.length - (i + 1))) (HO2.out) HNN.out
              exact ⟨rfl, _, _, _, _, g1, g2, g3⟩
      · go_wp2_with fail
        go_roundw
        case rel =>
          refine ⟨i + 1, by omega, by go_num, fun j hj hji => ?_, HBR.out⟩
          by_cases e : j = i
          · subst e; rw [HZ.out]; exact hid
          · exact HFST.out j hj (by omega)
        case measure => simp [intOf]; omega
    · go_wp2_with fail
      go_ret
      have hpl : placeOf s.holds id = none := by
        unfold placeOf
        rw [List.findIdx?_eq_none_iff]
        intro x hx
        obtain ⟨j, hj, rfl⟩ := List.mem_iff_getElem.1 hx
        have := HFST.out j hj (by omega)
        simpa using this
      have hr : R = (5, s) := by rw [← HR.out]; unfold endH; rw [hpl]
      rw [hr]
      exact ROp.same H.out HBR.out
end Go.Proofs.Ytmlcojhanimnpaa

namespace Go.Proofs.Ytmlcojhanimnpaa
open Go.RowKit

set_option maxRecDepth 100000 in
set_option maxHeartbeats 4000000 in
theorem rsettle_any (p : Nat) (va vc vh : Value) (vs : List Value) (s : Led) (id : Int) (w : World) (hs : Inv s) (h : RLed w p va vc vh vs s) :
    Calls Try.prog 50 #[.pointer (some ⟨p, 0, none⟩), .int .i64 id] w (ROp w p va vc vh (endH true s id).1 (endH true s id).2) := by
  have HC := Lib.hid (rends_any p va vc vh vs s id true w hs h)
  clear hs h
  generalize endH true s id = R at *
  go_enter Try.func50, Try.ntmps50
  go_wp2_with fail
  refine HC.out.mono ?_
  rintro e w1 ⟨rfl, hr⟩
  have HR := Lib.hid hr
  clear hr
  go_wp2_with fail
  go_ret
  exact ⟨rfl, HR.out⟩
set_option maxRecDepth 100000 in
set_option maxHeartbeats 4000000 in
theorem rfail_any (p : Nat) (va vc vh : Value) (vs : List Value) (s : Led) (id : Int) (w : World) (hs : Inv s) (h : RLed w p va vc vh vs s) :
    Calls Try.prog 51 #[.pointer (some ⟨p, 0, none⟩), .int .i64 id] w (ROp w p va vc vh (endH false s id).1 (endH false s id).2) := by
  have HC := Lib.hid (rends_any p va vc vh vs s id false w hs h)
  clear hs h
  generalize endH false s id = R at *
  go_enter Try.func51, Try.ntmps51
  go_wp2_with fail
  refine HC.out.mono ?_
  rintro e w1 ⟨rfl, hr⟩
  have HR := Lib.hid hr
  clear hr
  go_wp2_with fail
  go_ret
  exact ⟨rfl, HR.out⟩
end Go.Proofs.Ytmlcojhanimnpaa
