/- A region that draws its order, whose last operation (it waits for all others) spoils what the loads ahead of it rely on. -/
import Derived.Test.YtladknjmoahdoaaFr
import Derived.Deep.RegionHeld3
set_option linter.all false
namespace Go.Proofs.Ytladknjmoahdoaa
open Go.RowKit Go

section
variable {P : Program} {md : Region.Mode} {ops : Array Oper} {Q : Exit → Act → World → Prop} {S : World → Prop} {n : Nat}
/-- Whatever order is picked; S holds behind every operation but number n. -/
def AnyG (P : Program) (md : Region.Mode) (ops : Array Oper) (Q : Exit → Act → World → Prop) (S : World → Prop) (n : Nat) : Nat → Array Bool → Act → World → Prop
  | 0, l, a, w => Region.ready md ops l = [] ∧ Q .normal a w
  | f + 1, l, a, w => (Region.ready md ops l = [] → Q .normal a w) ∧ ∀ i ∈ Region.ready md ops l, wpOp P ops Q i (fun a' w' => (i ≠ n → S w') ∧ AnyG P md ops Q S n f (l.setIfInBounds i true) a' w') a w
theorem anyG_any : ∀ (f : Nat) (l : Array Bool) (a : Act) (w : World), AnyG P md ops Q S n f l a w → wpAny P md ops Q f l a w
  | 0, _, _, _, h => h
  | f + 1, _, _, _, h => ⟨h.1, fun i hi => wpOp_mono (fun _ _ h' => anyG_any f _ _ _ h'.2) (h.2 i hi)⟩
theorem anyG_put {i : Nat} {oi : Oper} {v : Value} (hi : ops[i]? = some oi) (hin : i ≠ n) (hsel : ∀ (j : Nat) (o : Oper) cs b, ops[j]? = some o → o.op ≠ .select cs b) (hQ : ∀ c a w, Q (.panic c) (a.put oi.dst v) w → Q (.panic c) a w)
    (hwait : ∀ l : Array Bool, l.getD i true = false → n ∉ Region.ready md ops l) : ∀ (f : Nat) (l : Array Bool) (a : Act) (w : World),
    (∀ j oj, ops[j]? = some oj → j ≠ i → l.getD j true = false → (∀ e ∈ oj.after, Region.binds md e = true → e.on ≠ i) → oi.apart ops oj = true) →
    i ∈ Region.ready md ops l → YieldsIf P ops S oi v a → S w → AnyG P md ops Q S n f (l.setIfInBounds i true) (a.put oi.dst v) w → AnyG P md ops Q S n (f + 1) l a w
  | 0, l, a, w, _, hr, hy, hS, H => by
    refine ⟨fun h => absurd hr (by rw [h]; simp), fun j hj => ?_⟩
    by_cases e : j = i
    · subst e
      exact hy.wpOp hi hS ⟨fun _ => hS, H⟩
    · have := ready_mono hj e
      rw [H.1] at this
      cases this
  | f + 1, l, a, w, hfr, hr, hy, hS, H => by
    refine ⟨fun h => absurd hr (by rw [h]; simp), fun j hj => ?_⟩
    by_cases e : j = i
    · subst e
      exact hy.wpOp hi hS ⟨fun _ => hS, H⟩
    · have hil := (mem_ready.1 hr).1
      have hjn : j ≠ n := fun e2 => hwait l hil (e2 ▸ hj)
      obtain ⟨hju, oj, hoj, hall⟩ := mem_ready.1 hj
      have hno : ∀ d ∈ oj.after, Region.binds md d = true → d.on ≠ i := fun d hd hb e3 => by
        have h1 := hall d hd hb
        rw [e3] at h1
        rw [getD_both hil] at h1
        cases h1
      have h2 := wpOp_putIf hoj (hfr j oj hoj e hju hno) (fun cs b => hsel i oi cs b hi) (fun cs b => hsel j oj cs b hoj) hQ hy (H.2 j (ready_mono hj e))
      refine wpOp_mono (fun a' w' h3 => ⟨fun _ => h3.2.1 hjn, anyG_put hi hin hsel hQ hwait f (l.setIfInBounds j true) a' w' ?_ (ready_mono hr (Ne.symm e)) h3.1 (h3.2.1 hjn) ?_⟩) h2
      · intro k ok hk hki hun hk2
        refine hfr k ok hk hki ?_ hk2
        by_cases hjk : j = k
        · subst hjk; exact hju
        · rw [getD_set_ne true hjk] at hun; exact hun
      · rw [Array.setIfInBounds_comm _ _ e]
        exact h3.2.2
theorem wait_of {on : Oper} {i : Nat} (hn : ops[n]? = some on) (hw : on.after.any (fun e => Region.binds md e && e.on == i) = true) (l : Array Bool) (hl : l.getD i true = false) : n ∉ Region.ready md ops l := fun h => by
  obtain ⟨-, o, ho, hall⟩ := mem_ready.1 h
  rw [hn] at ho
  injection ho with ho
  subst ho
  rw [Array.any_eq_true] at hw
  obtain ⟨k, hk, hd⟩ := hw
  rw [Bool.and_eq_true, beq_iff_eq] at hd
  have := hall _ (Array.getElem_mem hk) hd.1
  rw [hd.2, getD_both hl] at this
  cases this
/-- Take number i first. -/
theorem anyG_take {i : Nat} {oi on : Oper} {v : Value} {f : Nat} {l : Array Bool} {a : Act} {w : World} (hi : ops[i]? = some oi) (hn : ops[n]? = some on) (hw : on.after.any (fun e => Region.binds md e && e.on == i) = true) (hin : (i == n) = false)
    (hs : Region.noSelect ops = true) (hf : Region.free md ops l i = true) (hr : (Region.ready md ops l).contains i = true)
    (hQ : ∀ c a w, Q (.panic c) (a.put oi.dst v) w → Q (.panic c) a w) (hy : YieldsIf P ops S oi v a) (hS : S w)
    (h : AnyG P md ops Q S n f (l.setIfInBounds i true) (a.put oi.dst v) w) : AnyG P md ops Q S n (f + 1) l a w :=
  anyG_put hi (by simpa using hin) (Region.noSelect_spec hs) hQ (wait_of hn hw) f l a w (Region.free_spec hi hf) (by simpa using hr) hy hS h
/-- Whichever comes up. -/
theorem anyG_all {rs : List Nat} {f : Nat} {l : Array Bool} {a : Act} {w : World} (hr : Region.ready md ops l = rs) (hne : rs ≠ [])
    (h : ∀ i ∈ rs, wpOp P ops Q i (fun a' w' => (i ≠ n → S w') ∧ AnyG P md ops Q S n f (l.setIfInBounds i true) a' w') a w) : AnyG P md ops Q S n (f + 1) l a w :=
  ⟨fun h0 => absurd (hr ▸ h0) hne, hr ▸ h⟩
theorem anyG_done {f : Nat} {l : Array Bool} {a : Act} {w : World} (hr : Region.ready md ops l = []) (h : Q .normal a w) : AnyG P md ops Q S n f l a w := by
  cases f with
  | zero => exact ⟨hr, h⟩
  | succ f => exact ⟨fun _ => h, by rw [hr]; simp⟩
end
end Go.Proofs.Ytladknjmoahdoaa
