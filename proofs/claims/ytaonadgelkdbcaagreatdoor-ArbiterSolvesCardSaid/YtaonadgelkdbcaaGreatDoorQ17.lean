/- Two claims joined: what the rows of terms become. · A region that draws its order, whose last operation (it waits for all others) spoils what the loads ahead of it rely on. · Solve's ways: all of many. -/
import Derived.Test.YtaonadgelkdbcaaGreatDoorQ16
import Derived.Deep.RegionHeld3
import Derived.Test.YtaonadgelkdbcaaGreatDoorQ12
import Derived.Deep.DeepCutAuto
import Derived.Deep.DrawnRows
namespace Go.Proofs.YtaonadgelkdbcaaGreatDoor
open Go.RowKit

mutual
/-- A way takes at most as many secrets, preimages as the lock has parts. -/
theorem wayT_len (ks ps : List ByteArray) : ∀ (x : LockT) {c : ClaimR}, wayT ks ps x = some c → c.keys.length ≤ sizeT x ∧ c.pres.length ≤ sizeT x
  | .node k t n l, c, h => by
    unfold wayT at h
    unfold sizeT
    split at h
    · obtain ⟨y, -, rfl⟩ := Option.map_eq_some_iff.1 h
      exact ⟨by simp, by simp⟩
    split at h
    · obtain ⟨y, -, rfl⟩ := Option.map_eq_some_iff.1 h
      exact ⟨by simp, by simp⟩
    split at h
    · injection h with h; subst h; exact ⟨by simp, by simp⟩
    split at h
    · injection h with h; subst h; exact ⟨by simp, by simp⟩
    split at h
    · have := allTs_len ks ps l h
      have e : claim0.keys.length = 0 ∧ claim0.pres.length = 0 := ⟨rfl, rfl⟩
      omega
    · have := anyTs_len ks ps l (b := none) (m := 0) (fun o h => by cases h) h
      omega
theorem allTs_len (ks ps : List ByteArray) : ∀ (l : List LockT) {b c : ClaimR}, allTs ks ps l b = some c → c.keys.length ≤ b.keys.length + sizeTs l ∧ c.pres.length ≤ b.pres.length + sizeTs l
  | [], b, c, h => by
    unfold allTs at h
    injection h with h
    subst h
    exact ⟨by omega, by omega⟩
  | x :: r, b, c, h => by
    unfold allTs at h
    unfold sizeTs
    cases hx : wayT ks ps x with
    | none => rw [hx] at h; cases h
    | some d =>
      rw [hx] at h
      have h1 := wayT_len ks ps x hx
      have h2 := allTs_len ks ps r h
      have h3 := joinL_len d.keys b.keys
      have h4 := joinL_len d.pres b.pres
      have e1 : (joinC b d).keys = joinL b.keys d.keys := rfl
      have e2 : (joinC b d).pres = joinL b.pres d.pres := rfl
      rw [e1, e2] at h2
      omega
theorem anyTs_len (ks ps : List ByteArray) : ∀ (l : List LockT) {b : Option ClaimR} {c : ClaimR} {m : Nat}, (∀ o, b = some o → o.keys.length ≤ m ∧ o.pres.length ≤ m) → anyTs ks ps l b = some c → c.keys.length ≤ m + sizeTs l ∧ c.pres.length ≤ m + sizeTs l
  | [], b, c, m, hb, h => by
    unfold anyTs at h
    have := hb c h
    omega
  | x :: r, b, c, m, hb, h => by
    unfold anyTs at h
    unfold sizeTs
    cases hx : wayT ks ps x with
    | none =>
      rw [hx] at h
      have := anyTs_len ks ps r hb h
      omega
    | some d =>
      have h1 := wayT_len ks ps x hx
      rw [hx] at h
      cases b with
      | none =>
        have := anyTs_len ks ps r (m := sizeT x + m) (fun o ho => by injection ho with ho; subst ho; omega) h
        omega
      | some o =>
        have h2 := hb o rfl
        have := anyTs_len ks ps r (m := sizeT x + m) (fun o' ho => by
          injection ho with ho
          subst ho
          split <;> omega) h
        omega
end
/-- What holds while two claims are joined. -/
structure JoinInv (w : World) (bx : Nat) (b c : ClaimR) (K : Option Addr) (kc : Nat) (P : Option Addr) (pc : Nat) (K2 : Option Addr) (kc2 : Nat) (P2 : Option Addr) (pc2 : Nat) (V : World) : Prop where
  cl : ClaimAt V (w.heap.size + 1 + 1) b.after b.age (.slice K b.keys.length kc) (.slice P b.pres.length pc)
  cx : ClaimAt V bx c.after c.age (.slice K2 c.keys.length kc2) (.slice P2 c.pres.length pc2)
  cz : ClaimAt V (w.heap.size + 1) 0 0 (.slice none 0 0) (.slice none 0 0)
  q : KindAt V w.heap.size 5
  rk2 : Row V w.heap.size 29 (.slice K2 c.keys.length kc2) (strs c.keys)
  rp2 : Row V w.heap.size 29 (.slice P2 c.pres.length pc2) (strs c.pres)
  below : Below w.heap.size w V
section
variable {w : World} {bx : Nat} {b c : ClaimR} {K : Option Addr} {kc : Nat} {P : Option Addr} {pc : Nat} {K2 : Option Addr} {kc2 : Nat} {P2 : Option Addr} {pc2 : Nat} {V V' : World}
theorem JoinInv.next (h : JoinInv w bx b c K kc P pc K2 kc2 P2 pc2 V) (hb : Below V.heap.size V V') : JoinInv w bx b c K kc P pc K2 kc2 P2 pc2 V' :=
  ⟨h.cl.below hb, h.cx.below hb, h.cz.below hb, h.q.below hb, h.rk2.below hb, h.rp2.below hb, h.below.trans (hb.mono h.below.size)⟩
theorem JoinInv.alloc (h : JoinInv w bx b c K kc P pc K2 kc2 P2 pc2 V) (o : Obj) : JoinInv w bx b c K kc P pc K2 kc2 P2 pc2 (V.alloc o) := h.next ((Below.refl _ _).alloc (Nat.le_refl _) o)
theorem JoinInv.drew (h : JoinInv w bx b c K kc P pc K2 kc2 P2 pc2 V) : JoinInv w bx b c K kc P pc K2 kc2 P2 pc2 V.drew :=
  ⟨h.cl, h.cx, h.cz, h.q, h.rk2, h.rp2, ⟨h.below.os, h.below.tape, h.below.output, h.below.size, h.below.block⟩⟩
theorem row_same {W W' : World} {base : Nat} {E : TypeId} {v : Value} {xs : List Value} (h : Row W base E v xs) (he : W'.heap = W.heap) : Row W' base E v xs := by
  unfold Row at h ⊢
  rw [he]; exact h
theorem JoinInv.same (h : JoinInv w bx b c K kc P pc K2 kc2 P2 pc2 V) (e1 : V'.heap = V.heap) (e2 : V'.os = w.os) (e3 : V'.tape = w.tape) (e4 : V'.output = w.output) : JoinInv w bx b c K kc P pc K2 kc2 P2 pc2 V' := by
  obtain ⟨h1, h2, h3, ⟨cs, z, h4, h5⟩, h6, h7, h8⟩ := h
  refine ⟨?_, ?_, ?_, ⟨cs, z, by rw [e1]; exact h4, h5⟩, row_same h6 e1, row_same h7 e1, ⟨e2, e3, e4, by rw [e1]; exact h8.size, by rw [e1]; exact h8.block⟩⟩
  · unfold ClaimAt at h1 ⊢; rw [e1]; exact h1
  · unfold ClaimAt at h2 ⊢; rw [e1]; exact h2
  · unfold ClaimAt at h3 ⊢; rw [e1]; exact h3
theorem JoinInv.S (h : JoinInv w bx b c K kc P pc K2 kc2 P2 pc2 V) : V.cell? ⟨w.heap.size + 1 + 1, 6, none⟩ = some (.int .i64 b.after) ∧ V.cell? ⟨w.heap.size + 1 + 1, 7, none⟩ = some (.int .i64 b.age) ∧ V.cell? ⟨w.heap.size + 1 + 1, 8, none⟩ = some (.slice K b.keys.length kc) ∧ V.cell? ⟨w.heap.size + 1 + 1, 9, none⟩ = some (.slice P b.pres.length pc) ∧
    V.cell? ⟨bx, 6, none⟩ = some (.int .i64 c.after) ∧ V.cell? ⟨bx, 7, none⟩ = some (.int .i64 c.age) ∧ V.cell? ⟨bx, 8, none⟩ = some (.slice K2 c.keys.length kc2) ∧ V.cell? ⟨bx, 9, none⟩ = some (.slice P2 c.pres.length pc2) := by
  obtain ⟨-, -, -, -, -, -, a6, a7, a8, a9, -⟩ := h.cl.cells
  obtain ⟨-, -, -, -, -, -, b6, b7, b8, b9, -⟩ := h.cx.cells
  exact ⟨a6, a7, a8, a9, b6, b7, b8, b9⟩
theorem JoinInv.Sat {V0 : World} (h : JoinInv w bx b c K kc P pc K2 kc2 P2 pc2 V0) (e : V.heap = V0.heap) : V.cell? ⟨w.heap.size + 1 + 1, 6, none⟩ = some (.int .i64 b.after) ∧ V.cell? ⟨w.heap.size + 1 + 1, 7, none⟩ = some (.int .i64 b.age) ∧ V.cell? ⟨w.heap.size + 1 + 1, 8, none⟩ = some (.slice K b.keys.length kc) ∧ V.cell? ⟨w.heap.size + 1 + 1, 9, none⟩ = some (.slice P b.pres.length pc) ∧
    V.cell? ⟨bx, 6, none⟩ = some (.int .i64 c.after) ∧ V.cell? ⟨bx, 7, none⟩ = some (.int .i64 c.age) ∧ V.cell? ⟨bx, 8, none⟩ = some (.slice K2 c.keys.length kc2) ∧ V.cell? ⟨bx, 9, none⟩ = some (.slice P2 c.pres.length pc2) := by
  have hS := h.S
  unfold World.cell? at hS ⊢
  rw [e]; exact hS
theorem grown_fr {row : Option Nat} (h : V.grownBy V' row) : Fr row.toList V V' := ⟨h.os, h.tape, h.output, h.size, fun i hi hn => h.block i hi fun e => hn (by rw [← e]; simp)⟩
theorem JoinInv.grown {v : Value} {xs : List Value} {base : Nat} (h : JoinInv w bx b c K kc P pc K2 kc2 P2 pc2 V) (hv : Row V base 29 v xs) (hg : V.grownBy V' v.ownBlock) (hbl : Below w.heap.size V V')
    (n1 : ∀ g, (Value.slice K2 c.keys.length kc2).ownBlock = some g → v.ownBlock ≠ some g) (n2 : ∀ g, (Value.slice P2 c.pres.length pc2).ownBlock = some g → v.ownBlock ≠ some g) : JoinInv w bx b c K kc P pc K2 kc2 P2 pc2 V' := by
  have hf := grown_fr hg
  have ne : ∀ i, (∀ g, v.ownBlock = some g → g ≠ i) → i ∉ v.ownBlock.toList := fun i hi hm => by
    cases ho : v.ownBlock with
    | none => rw [ho] at hm; simp at hm
    | some g => rw [ho] at hm; simp at hm; exact hi g ho hm.symm
  refine ⟨h.cl.fr hf (ne _ (row_ne_claim hv (by decide) h.cl)), h.cx.fr hf (ne _ (row_ne_claim hv (by decide) h.cx)), h.cz.fr hf (ne _ (row_ne_claim hv (by decide) h.cz)), h.q.fr hf (ne _ (row_ne_kind hv (by decide) h.q)), ?_, ?_, h.below.trans hbl⟩
  · exact row_fr h.rk2 hf fun g hgg => ne g fun g' h1 h2 => n1 g hgg (by rw [h1, h2])
  · exact row_fr h.rp2 hf fun g hgg => ne g fun g' h1 h2 => n2 g hgg (by rw [h1, h2])
theorem join_keys (h : JoinInv w bx b c K kc P pc K2 kc2 P2 pc2 V) (l1 : b.keys.length ≤ 100000) (l2 : c.keys.length ≤ 100000) (hK : Row V w.heap.size 29 (.slice K b.keys.length kc) (strs b.keys)) (hP : Row V w.heap.size 29 (.slice P b.pres.length pc) (strs b.pres))
    (hap : (Value.slice K b.keys.length kc).ownBlock = none ∨ (Value.slice K b.keys.length kc).ownBlock ≠ (Value.slice P b.pres.length pc).ownBlock)
    (n1 : ∀ g, (Value.slice K2 c.keys.length kc2).ownBlock = some g → (Value.slice K b.keys.length kc).ownBlock ≠ some g) (n2 : ∀ g, (Value.slice P2 c.pres.length pc2).ownBlock = some g → (Value.slice K b.keys.length kc).ownBlock ≠ some g) :
    Calls Tryz.prog 25 #[.slice K b.keys.length kc, .slice K2 c.keys.length kc2] V fun e w' => ∃ (K3 : Option Addr) (kc3 : Nat), e = .returned (.slice K3 (joinL b.keys c.keys).length kc3) ∧ JoinInv w bx b c K kc P pc K2 kc2 P2 pc2 w' ∧
      Row w' w.heap.size 29 (.slice K3 (joinL b.keys c.keys).length kc3) (strs (joinL b.keys c.keys)) ∧ Row w' w.heap.size 29 (.slice P b.pres.length pc) (strs b.pres) ∧ ((Value.slice K3 (joinL b.keys c.keys).length kc3).ownBlock = none ∨ (Value.slice K3 (joinL b.keys c.keys).length kc3).ownBlock ≠ (Value.slice P b.pres.length pc).ownBlock) := by
  refine (join_any b.keys c.keys _ K2 kc2 w.heap.size V l1 l2 h.below.size hK (row_cells h.rk2) (fun ad he => ?_)).mono ?_
  · subst he; exact n1 ad.block rfl
  · rintro e w' ⟨v', rfl, hr, hg, hbl, ho⟩
    obtain ⟨A3, c3, rfl, -, -⟩ := Row.shape hr
    rw [show (strs (joinL b.keys c.keys)).length = (joinL b.keys c.keys).length by simp [strs]] at hr ho ⊢
    refine ⟨A3, c3, rfl, h.grown hK hg hbl n1 n2, hr, hP.grown hg (apart_symm hap), ?_⟩
    rcases ho with ho | ⟨g, ho, hge⟩
    · rw [ho]; exact hap
    · right
      rw [ho]
      intro e
      have := (hP.own g e.symm).2
      omega
theorem join_pres {K3 : Option Addr} {kc3 n3 : Nat} {x3 : List Value} (h : JoinInv w bx b c K kc P pc K2 kc2 P2 pc2 V) (l1 : b.pres.length ≤ 100000) (l2 : c.pres.length ≤ 100000) (hK : Row V w.heap.size 29 (.slice K3 n3 kc3) x3) (hP : Row V w.heap.size 29 (.slice P b.pres.length pc) (strs b.pres))
    (hap : (Value.slice K3 n3 kc3).ownBlock = none ∨ (Value.slice K3 n3 kc3).ownBlock ≠ (Value.slice P b.pres.length pc).ownBlock)
    (n1 : ∀ g, (Value.slice K2 c.keys.length kc2).ownBlock = some g → (Value.slice P b.pres.length pc).ownBlock ≠ some g) (n2 : ∀ g, (Value.slice P2 c.pres.length pc2).ownBlock = some g → (Value.slice P b.pres.length pc).ownBlock ≠ some g) :
    Calls Tryz.prog 25 #[.slice P b.pres.length pc, .slice P2 c.pres.length pc2] V fun e w' => ∃ (P3 : Option Addr) (pc3 : Nat), e = .returned (.slice P3 (joinL b.pres c.pres).length pc3) ∧ JoinInv w bx b c K kc P pc K2 kc2 P2 pc2 w' ∧
      Row w' w.heap.size 29 (.slice K3 n3 kc3) x3 ∧ Row w' w.heap.size 29 (.slice P3 (joinL b.pres c.pres).length pc3) (strs (joinL b.pres c.pres)) ∧ ((Value.slice K3 n3 kc3).ownBlock = none ∨ (Value.slice K3 n3 kc3).ownBlock ≠ (Value.slice P3 (joinL b.pres c.pres).length pc3).ownBlock) := by
  refine (join_any b.pres c.pres _ P2 pc2 w.heap.size V l1 l2 h.below.size hP (row_cells h.rp2) (fun ad he => ?_)).mono ?_
  · subst he; exact n2 ad.block rfl
  · rintro e w' ⟨v', rfl, hr, hg, hbl, ho⟩
    obtain ⟨A3, c3, rfl, -, -⟩ := Row.shape hr
    rw [show (strs (joinL b.pres c.pres)).length = (joinL b.pres c.pres).length by simp [strs]] at hr ho ⊢
    refine ⟨A3, c3, rfl, h.grown hP hg hbl n1 n2, hK.grown hg hap, hr, ?_⟩
    rcases ho with ho | ⟨g, ho, hge⟩
    · rw [ho]; exact hap
    · rcases hap with hn | hn
      · exact .inl hn
      · right
        rw [ho]
        intro e
        have := (hK.own g e).2
        omega
end
end Go.Proofs.YtaonadgelkdbcaaGreatDoor

namespace Go.Proofs.YtaonadgelkdbcaaGreatDoor
open Go.RowKit Go

section
variable {P : Program} {md : Region.Mode} {ops : Array Oper} {Q : Exit → Act → World → Prop} {S : World → Prop} {n : Nat}
/-- Whatever order is picked; S holds behind every operation but number n. -/
def AnyG (P : Program) (md : Region.Mode) (ops : Array Oper) (Q : Exit → Act → World → Prop) (S : World → Prop) (n : Nat) : Nat → Array Bool → Act → World → Prop
  | 0, l, a, w => Region.ready md ops l = [] ∧ Q .normal a w
  | f + 1, l, a, w => (Region.ready md ops l = [] → Q .normal a w) ∧ ∀ i ∈ Region.ready md ops l, wpOp P ops Q i (fun a' w' => (i ≠ n → S w') ∧ AnyG P md ops Q S n f (l.setIfInBounds i true) a' w') a w
theorem anyG_any : ∀ (f : Nat) (l : Array Bool) (a : Act) (w : World), AnyG P md ops Q S n f l a w → wpAny P md ops Q f l a w
  | 0, _, _, _, h => h
  | f + 1, _, _, _, h => ⟨h.1, fun i hi => wpOp_mono (fun _ _ h' => anyG_any f _ _ _ h'.2) (h.2 i hi)⟩
theorem anyG_put {i : Nat} {oi : Oper} {v : Value} (hi : ops[i]? = some oi) (hin : i ≠ n) (hsel : ∀ (j : Nat) (o : Oper) cs b, ops[j]? = some o → o.op ≠ .select cs b) (hQ : ∀ c a w, Q (.panic c) (a.put oi.dst v) w → Q (.panic c) a w)
    (hwait : ∀ l : Array Bool, l.getD i true = false → n ∉ Region.ready md ops l) : ∀ (f : Nat) (l : Array Bool) (a : Act) (w : World),
    (∀ j oj, ops[j]? = some oj → j ≠ i → l.getD j true = false → (∀ e ∈ oj.after, Region.binds md e = true → e.on ≠ i) → oi.apart ops oj = true) →
    i ∈ Region.ready md ops l → YieldsIf P ops S oi v a → S w → AnyG P md ops Q S n f (l.setIfInBounds i true) (a.put oi.dst v) w → AnyG P md ops Q S n (f + 1) l a w
  | 0, l, a, w, _, hr, hy, hS, H => by
    refine ⟨fun h => absurd hr (by rw [h]; simp), fun j hj => ?_⟩
    by_cases e : j = i
    · subst e
      exact hy.wpOp hi hS ⟨fun _ => hS, H⟩
    · have := ready_mono hj e
      rw [H.1] at this
      cases this
  | f + 1, l, a, w, hfr, hr, hy, hS, H => by
    refine ⟨fun h => absurd hr (by rw [h]; simp), fun j hj => ?_⟩
    by_cases e : j = i
    · subst e
      exact hy.wpOp hi hS ⟨fun _ => hS, H⟩
    · have hil := (mem_ready.1 hr).1
      have hjn : j ≠ n := fun e2 => hwait l hil (e2 ▸ hj)
      obtain ⟨hju, oj, hoj, hall⟩ := mem_ready.1 hj
      have hno : ∀ d ∈ oj.after, Region.binds md d = true → d.on ≠ i := fun d hd hb e3 => by
        have h1 := hall d hd hb
        rw [e3] at h1
        rw [getD_both hil] at h1
        cases h1
      have h2 := wpOp_putIf hoj (hfr j oj hoj e hju hno) (fun cs b => hsel i oi cs b hi) (fun cs b => hsel j oj cs b hoj) hQ hy (H.2 j (ready_mono hj e))
      refine wpOp_mono (fun a' w' h3 => ⟨fun _ => h3.2.1 hjn, anyG_put hi hin hsel hQ hwait f (l.setIfInBounds j true) a' w' ?_ (ready_mono hr (Ne.symm e)) h3.1 (h3.2.1 hjn) ?_⟩) h2
      · intro k ok hk hki hun hk2
        refine hfr k ok hk hki ?_ hk2
        by_cases hjk : j = k
        · subst hjk; exact hju
        · rw [getD_set_ne true hjk] at hun; exact hun
      · rw [Array.setIfInBounds_comm _ _ e]
        exact h3.2.2
theorem wait_of {on : Oper} {i : Nat} (hn : ops[n]? = some on) (hw : on.after.any (fun e => Region.binds md e && e.on == i) = true) (l : Array Bool) (hl : l.getD i true = false) : n ∉ Region.ready md ops l := fun h => by
  obtain ⟨-, o, ho, hall⟩ := mem_ready.1 h
  rw [hn] at ho
  injection ho with ho
  subst ho
  rw [Array.any_eq_true] at hw
  obtain ⟨k, hk, hd⟩ := hw
  rw [Bool.and_eq_true, beq_iff_eq] at hd
  have := hall _ (Array.getElem_mem hk) hd.1
  rw [hd.2, getD_both hl] at this
  cases this
/-- Take number i first. -/
theorem anyG_take {i : Nat} {oi on : Oper} {v : Value} {f : Nat} {l : Array Bool} {a : Act} {w : World} (hi : ops[i]? = some oi) (hn : ops[n]? = some on) (hw : on.after.any (fun e => Region.binds md e && e.on == i) = true) (hin : (i == n) = false)
    (hs : Region.noSelect ops = true) (hf : Region.free md ops l i = true) (hr : (Region.ready md ops l).contains i = true)
    (hQ : ∀ c a w, Q (.panic c) (a.put oi.dst v) w → Q (.panic c) a w) (hy : YieldsIf P ops S oi v a) (hS : S w)
    (h : AnyG P md ops Q S n f (l.setIfInBounds i true) (a.put oi.dst v) w) : AnyG P md ops Q S n (f + 1) l a w :=
  anyG_put hi (by simpa using hin) (Region.noSelect_spec hs) hQ (wait_of hn hw) f l a w (Region.free_spec hi hf) (by simpa using hr) hy hS h
/-- Whichever comes up. -/
theorem anyG_all {rs : List Nat} {f : Nat} {l : Array Bool} {a : Act} {w : World} (hr : Region.ready md ops l = rs) (hne : rs ≠ [])
    (h : ∀ i ∈ rs, wpOp P ops Q i (fun a' w' => (i ≠ n → S w') ∧ AnyG P md ops Q S n f (l.setIfInBounds i true) a' w') a w) : AnyG P md ops Q S n (f + 1) l a w :=
  ⟨fun h0 => absurd (hr ▸ h0) hne, hr ▸ h⟩
theorem anyG_done {f : Nat} {l : Array Bool} {a : Act} {w : World} (hr : Region.ready md ops l = []) (h : Q .normal a w) : AnyG P md ops Q S n f l a w := by
  cases f with
  | zero => exact ⟨hr, h⟩
  | succ f => exact ⟨fun _ => h, by rw [hr]; simp⟩
end
end Go.Proofs.YtaonadgelkdbcaaGreatDoor

namespace Go.Proofs.YtaonadgelkdbcaaGreatDoor
open Go.RowKit

theorem cells2 {V : World} {m : Nat} {a b : Int} {T : TypeId} {z : Nat × Nat} (h : V.heap[m]? = some (.cells #[.int .i64 a, .int .i64 b] T z)) : Cells V (some ⟨m, 0, none⟩) (ivs [a, b]) := by
  refine fun _ => ⟨_, rfl, fun j u hj => ?_⟩
  rcases j with _ | _ | j
  · injection hj with hj; subst hj
    exact cell_of h rfl
  · injection hj with hj; subst hj
    exact cell_of h rfl
  · simp [ivs] at hj
theorem all_stop (ks ps : List ByteArray) {x : LockT} (r : List LockT) (b : ClaimR) (hq : wayT ks ps x = none) : allTs ks ps (x :: r) b = none := by
  unfold allTs
  rw [hq]
theorem all_next (ks ps : List ByteArray) {x : LockT} (r : List LockT) (b : ClaimR) {c : ClaimR} (hq : wayT ks ps x = some c) : allTs ks ps (x :: r) b = allTs ks ps r (joinC b c) := by
  conv => lhs; unfold allTs
  rw [hq]
/-- Rows that were laid behind others lie apart from them. -/
theorem new_blocks {w w' : World} {E : TypeId} {base : Nat} {v a b : Value} {xs la lb : List Value} (h : Row w' w.heap.size E v xs) (ha : Row w base E a la) (hb : Row w base E b lb) : (∀ g, v.ownBlock = some g → a.ownBlock ≠ some g) ∧ ∀ g, v.ownBlock = some g → b.ownBlock ≠ some g :=
  ⟨fun g hg e => by have := (h.own g hg).1; have := (ha.own g e).2; omega, fun g hg e => by have := (h.own g hg).1; have := (hb.own g e).2; omega⟩
set_option maxRecDepth 100000 in
set_option maxHeartbeats 8000000 in
theorem way_all (t : ByteArray) (n : Int) (l : List LockT) (A : Option Addr) (cap : Nat) (xs : List Value) (sb pb wb : Nat) (ks ps : List ByteArray) (w : World) (hll : l.length ≤ 1000) (hc : Cells w A xs) (hl : LocksC w l xs) (he : EnvAt w sb pb ks ps) (hv : VarsOk w) (hw : w.cell? ⟨wb, 0, none⟩ = some (.func (.func 18) #[] #[.pointer (some ⟨sb, 0, none⟩), .pointer (some ⟨pb, 0, none⟩), .pointer (some ⟨wb, 0, none⟩)])) (hne : 0 < l.length) (hsz : sizeTs l ≤ 1000)
    (HW : ∀ (i : Nat) (hi : i < l.length) (W : World) (cs : List Value), LockC W l[i] cs → EnvAt W sb pb ks ps → VarsOk W → W.cell? ⟨wb, 0, none⟩ = some (.func (.func 18) #[] #[.pointer (some ⟨sb, 0, none⟩), .pointer (some ⟨pb, 0, none⟩), .pointer (some ⟨wb, 0, none⟩)]) → Calls Tryz.prog 18 #[.agg cs.toArray, .pointer (some ⟨sb, 0, none⟩), .pointer (some ⟨pb, 0, none⟩), .pointer (some ⟨wb, 0, none⟩)] W (WayP (wayT ks ps l[i]) W)) :
    Calls Tryz.prog 18 #[.agg #[.int .u8 5, .string t, .int .i64 n, .slice A l.length cap], .pointer (some ⟨sb, 0, none⟩), .pointer (some ⟨pb, 0, none⟩), .pointer (some ⟨wb, 0, none⟩)] w (WayP (allTs ks ps l claim0) w) := by
  have hb0 : Below w.heap.size w (w.alloc (.cells #[.int .u8 5, .string t, .int .i64 n, .slice A l.length cap] 32)) := (Below.refl _ _).alloc (Nat.le_refl _) _
  have hb1 : Below w.heap.size w ((w.alloc (.cells #[.int .u8 5, .string t, .int .i64 n, .slice A l.length cap] 32)).alloc (.cells #[.int .i64 0, .int .i64 0, .int .u8 0, .string ⟨#[]⟩, .int .i64 0, .slice none 0 0, .int .i64 0, .int .i64 0, (.slice none 0 0), (.slice none 0 0)] 36)) := hb0.alloc (by simp) _
  have hb2 : Below w.heap.size w (((w.alloc (.cells #[.int .u8 5, .string t, .int .i64 n, .slice A l.length cap] 32)).alloc (.cells #[.int .i64 0, .int .i64 0, .int .u8 0, .string ⟨#[]⟩, .int .i64 0, .slice none 0 0, .int .i64 0, .int .i64 0, (.slice none 0 0), (.slice none 0 0)] 36)).alloc (.cells #[.int .i64 0, .int .i64 0, .int .u8 0, .string ⟨#[]⟩, .int .i64 0, .slice none 0 0, .int .i64 0, .int .i64 0, (.slice none 0 0), (.slice none 0 0)] 36)) := hb1.alloc (by simp; omega) _
  have q0 : (((w.alloc (.cells #[.int .u8 5, .string t, .int .i64 n, .slice A l.length cap] 32)).alloc (.cells #[.int .i64 0, .int .i64 0, .int .u8 0, .string ⟨#[]⟩, .int .i64 0, .slice none 0 0, .int .i64 0, .int .i64 0, (.slice none 0 0), (.slice none 0 0)] 36)).alloc (.cells #[.int .i64 0, .int .i64 0, .int .u8 0, .string ⟨#[]⟩, .int .i64 0, .slice none 0 0, .int .i64 0, .int .i64 0, (.slice none 0 0), (.slice none 0 0)] 36)).cell? ⟨w.heap.size, 0, none⟩ = some (.int .u8 5) := cell_below ((Below.refl _ _).alloc (Nat.le_refl _) _) (cell_below ((Below.refl _ _).alloc (Nat.le_refl _) _) (alloc_cells 0 _ rfl : (w.alloc (.cells #[.int .u8 5, .string t, .int .i64 n, .slice A l.length cap] 32)).cell? ⟨w.heap.size, 0, none⟩ = some (.int .u8 5)))
  have q3 : (((w.alloc (.cells #[.int .u8 5, .string t, .int .i64 n, .slice A l.length cap] 32)).alloc (.cells #[.int .i64 0, .int .i64 0, .int .u8 0, .string ⟨#[]⟩, .int .i64 0, .slice none 0 0, .int .i64 0, .int .i64 0, (.slice none 0 0), (.slice none 0 0)] 36)).alloc (.cells #[.int .i64 0, .int .i64 0, .int .u8 0, .string ⟨#[]⟩, .int .i64 0, .slice none 0 0, .int .i64 0, .int .i64 0, (.slice none 0 0), (.slice none 0 0)] 36)).cell? ⟨w.heap.size, 3, none⟩ = some (.slice A l.length cap) := cell_below ((Below.refl _ _).alloc (Nat.le_refl _) _) (cell_below ((Below.refl _ _).alloc (Nat.le_refl _) _) (alloc_cells 3 _ rfl : (w.alloc (.cells #[.int .u8 5, .string t, .int .i64 n, .slice A l.length cap] 32)).cell? ⟨w.heap.size, 3, none⟩ = some (.slice A l.length cap)))
  have hz1 : ClaimAt ((w.alloc (.cells #[.int .u8 5, .string t, .int .i64 n, .slice A l.length cap] 32)).alloc (.cells #[.int .i64 0, .int .i64 0, .int .u8 0, .string ⟨#[]⟩, .int .i64 0, .slice none 0 0, .int .i64 0, .int .i64 0, (.slice none 0 0), (.slice none 0 0)] 36)) (w.heap.size + 1) 0 0 (.slice none 0 0) (.slice none 0 0) := by
    have h := Go.heap_alloc_new (w.alloc (.cells #[.int .u8 5, .string t, .int .i64 n, .slice A l.length cap] 32)) (.cells #[.int .i64 0, .int .i64 0, .int .u8 0, .string ⟨#[]⟩, .int .i64 0, .slice none 0 0, .int .i64 0, .int .i64 0, (.slice none 0 0), (.slice none 0 0)] 36)
    rw [show (w.alloc (.cells #[.int .u8 5, .string t, .int .i64 n, .slice A l.length cap] 32)).heap.size = w.heap.size + 1 by simp] at h
    exact h
  have hz2 : ClaimAt (((w.alloc (.cells #[.int .u8 5, .string t, .int .i64 n, .slice A l.length cap] 32)).alloc (.cells #[.int .i64 0, .int .i64 0, .int .u8 0, .string ⟨#[]⟩, .int .i64 0, .slice none 0 0, .int .i64 0, .int .i64 0, (.slice none 0 0), (.slice none 0 0)] 36)).alloc (.cells #[.int .i64 0, .int .i64 0, .int .u8 0, .string ⟨#[]⟩, .int .i64 0, .slice none 0 0, .int .i64 0, .int .i64 0, (.slice none 0 0), (.slice none 0 0)] 36)) (w.heap.size + 1 + 1) 0 0 (.slice none 0 0) (.slice none 0 0) := by
    have h := Go.heap_alloc_new ((w.alloc (.cells #[.int .u8 5, .string t, .int .i64 n, .slice A l.length cap] 32)).alloc (.cells #[.int .i64 0, .int .i64 0, .int .u8 0, .string ⟨#[]⟩, .int .i64 0, .slice none 0 0, .int .i64 0, .int .i64 0, (.slice none 0 0), (.slice none 0 0)] 36)) (.cells #[.int .i64 0, .int .i64 0, .int .u8 0, .string ⟨#[]⟩, .int .i64 0, .slice none 0 0, .int .i64 0, .int .i64 0, (.slice none 0 0), (.slice none 0 0)] 36)
    rw [show ((w.alloc (.cells #[.int .u8 5, .string t, .int .i64 n, .slice A l.length cap] 32)).alloc (.cells #[.int .i64 0, .int .i64 0, .int .u8 0, .string ⟨#[]⟩, .int .i64 0, .slice none 0 0, .int .i64 0, .int .i64 0, (.slice none 0 0), (.slice none 0 0)] 36)).heap.size = w.heap.size + 1 + 1 by simp] at h
    exact h
  have HB := Lib.hid hb2
  have HZ := Lib.hid (hz1.below ((Below.refl _ _).alloc (Nat.le_refl _) _) : ClaimAt (((w.alloc (.cells #[.int .u8 5, .string t, .int .i64 n, .slice A l.length cap] 32)).alloc (.cells #[.int .i64 0, .int .i64 0, .int .u8 0, .string ⟨#[]⟩, .int .i64 0, .slice none 0 0, .int .i64 0, .int .i64 0, (.slice none 0 0), (.slice none 0 0)] 36)).alloc (.cells #[.int .i64 0, .int .i64 0, .int .u8 0, .string ⟨#[]⟩, .int .i64 0, .slice none 0 0, .int .i64 0, .int .i64 0, (.slice none 0 0), (.slice none 0 0)] 36)) (w.heap.size + 1) 0 0 (.slice none 0 0) (.slice none 0 0))
  have HBE := Lib.hid hz2
  have HC := Lib.hid hc
  have HL := Lib.hid hl
  have HE := Lib.hid he
  have HV := Lib.hid hv
  have HWC := Lib.hid hw
  have HWW := Lib.hid HW
  have hk0 : KindAt (w.alloc (.cells #[.int .u8 5, .string t, .int .i64 n, .slice A l.length cap] 32)) w.heap.size 5 := ⟨_, _, Go.heap_alloc_new w _, rfl⟩
  have Q0 := Lib.hid (show KindAt (((w.alloc (.cells #[.int .u8 5, .string t, .int .i64 n, .slice A l.length cap] 32)).alloc (.cells #[.int .i64 0, .int .i64 0, .int .u8 0, .string ⟨#[]⟩, .int .i64 0, .slice none 0 0, .int .i64 0, .int .i64 0, (.slice none 0 0), (.slice none 0 0)] 36)).alloc (.cells #[.int .i64 0, .int .i64 0, .int .u8 0, .string ⟨#[]⟩, .int .i64 0, .slice none 0 0, .int .i64 0, .int .i64 0, (.slice none 0 0), (.slice none 0 0)] 36)) w.heap.size 5 from (hk0.below ((Below.refl _ _).alloc (Nat.le_refl _) _)).below ((Below.refl _ _).alloc (Nat.le_refl _) _))
  clear hk0
  obtain ⟨R, hR⟩ : ∃ R, allTs ks ps l claim0 = R := ⟨_, rfl⟩
  rw [hR]
  have HR := Lib.hid hR
  clear hb0 hb1 hb2 hz1 hz2 hc hl he hv hw HW hR
  go_enter Tryz.func18, Tryz.ntmps18
  go_wp2_with fail
  go_loopw [58, 10] (fun i f wr => ∃ (j : Nat) (o : Option ClaimR) (K : Option Addr) (kc : Nat) (P : Option Addr) (pc : Nat), j ≤ l.length ∧ i = .int .i64 (j : Int) ∧ f = .bool o.isSome ∧ (allTs ks ps (l.drop j) (o.getD claim0) = R ∧ (o = none → j = 0) ∧ (o.getD claim0).keys.length + sizeTs (l.drop j) ≤ 1000 ∧ (o.getD claim0).pres.length + sizeTs (l.drop j) ≤ 1000) ∧ ClaimAt wr (w.heap.size + 1) 0 0 (.slice none 0 0) (.slice none 0 0) ∧ ClaimAt wr (w.heap.size + 1 + 1) (o.getD claim0).after (o.getD claim0).age (.slice K (o.getD claim0).keys.length kc) (.slice P (o.getD claim0).pres.length pc) ∧ Row wr w.heap.size 29 (.slice K (o.getD claim0).keys.length kc) (strs (o.getD claim0).keys) ∧ Row wr w.heap.size 29 (.slice P (o.getD claim0).pres.length pc) (strs (o.getD claim0).pres) ∧ ((Value.slice K (o.getD claim0).keys.length kc).ownBlock = none ∨ (Value.slice K (o.getD claim0).keys.length kc).ownBlock ≠ (Value.slice P (o.getD claim0).pres.length pc).ownBlock) ∧ KindAt wr w.heap.size 5 ∧ Below w.heap.size w wr) (fun i _ _ => l.length - (intOf i).toNat)
  case atStart => exact ⟨0, none, none, 0, none, 0, Nat.zero_le _, rfl, rfl, ⟨by rw [List.drop_zero]; exact HR.out, fun _ => rfl, by rw [List.drop_zero]; show 0 + sizeTs l ≤ 1000; omega, by rw [List.drop_zero]; show 0 + sizeTs l ≤ 1000; omega⟩, HZ.out, HBE.out, Row.nil _ _ _, Row.nil _ _ _, .inl rfl, Q0.out, HB.out⟩
  case round =>
    obtain ⟨j, o, K, kc, P, pc, hj, rfl, rfl, hrest, hzz, hbest, hrk, hrp, hap, hq0, hbel⟩ := hrel
    clear HZ HBE HB Q0 q0
    by_cases hlt : j < l.length
    · obtain ⟨ad, B, cp, rfl, d0, d1, d2, d3, hlk⟩ := lock_at (Cells.below HC.out hbel) (LocksC.below hbel l xs HL.out) hlt
      have hbe : Below wr.heap.size wr (wr.alloc (.cells #[.int .u8 l[j].kind, .string l[j].term, .int .i64 l[j].n, .slice B l[j].kids.length cp] 32)) := (Below.refl _ _).alloc (Nat.le_refl _) _
      have hbw := hbel.trans (hbe.mono hbel.size)
      have hwc := cell_below hbw HWC.out
      have hcall := HWW.out j hlt (wr.alloc (.cells #[.int .u8 l[j].kind, .string l[j].term, .int .i64 l[j].n, .slice B l[j].kids.length cp] 32)) _ (LockC.below hbe _ _ hlk) (HE.out.below hbw) (HV.out.below hbw) hwc
      have HB1 := Lib.hid hbw
      have HZ1 := Lib.hid (hzz.below hbe)
      have HBE1 := Lib.hid (hbest.below hbe)
      have HK1 := Lib.hid (hrk.below hbe)
      have HP1 := Lib.hid (hrp.below hbe)
      have HAP := Lib.hid hap
      have hdrop : l.drop j = l[j] :: l.drop (j + 1) := List.drop_eq_getElem_cons hlt
      rw [hdrop] at hrest
      have HREST := Lib.hid hrest
      have HQ1 := Lib.hid (hq0.below hbe)
      clear hlk hbe hbw hzz hbest hrk hrp hap hdrop hrest hbel hq0
      unfold WayP at hcall
      cases hq : wayT ks ps l[j] with
      | none =>
        rw [hq] at hcall
        simp only at hcall
        unfold claimV at hcall
        have HCALL := Lib.hid hcall
        have HN := Lib.hid (show R = none by rw [← HREST.out.1]; exact all_stop ks ps (l.drop (j + 1)) _ hq)
        clear hcall hq
        go_wp2_with fail
        refine HCALL.out.mono ?_
        rintro e w1 ⟨K2, kc2, P2, pc2, rfl, hb1⟩
        have hbx : Below w1.heap.size w1 (w1.alloc (.cells #[.int .i64 0, .int .i64 0, .int .u8 0, .string ⟨#[]⟩, .int .i64 0, .slice none 0 0, .int .i64 0, .int .i64 0, (.slice K2 0 kc2), (.slice P2 0 pc2)] 36)) := (Below.refl _ _).alloc (Nat.le_refl _) _
        have hb12 := hb1.trans (hbx.mono hb1.size)
        have HB2 := Lib.hid (HB1.out.trans (hb12.mono HB1.out.size))
        have HZ2 := Lib.hid (HZ1.out.below hb12)
        have HBE2 := Lib.hid (HBE1.out.below hb12)
        have HK2 := Lib.hid (HK1.out.below hb12)
        have HP2 := Lib.hid (HP1.out.below hb12)
        have HQ2 := Lib.hid (HQ1.out.below hb12)
        have hq2 := HQ2.out.cell
        obtain ⟨z0, z1, z2, z3, z4, z5, z6, z7, z8, z9, zf⟩ := HZ2.out.cells
        clear hbx hb12 hb1
        go_wp2_with fail
        change bodyPost _ _ _ _ _ (put10 (w1.alloc (.cells #[.int .i64 0, .int .i64 0, .int .u8 0, .string ⟨#[]⟩, .int .i64 0, .slice none 0 0, .int .i64 0, .int .i64 0, (.slice K2 0 kc2), (.slice P2 0 pc2)] 36)) (w.heap.size + 1) (.int .i64 0) (.int .i64 0) (.int .u8 0) (.string ⟨#[]⟩) (.int .i64 0) (.slice none 0 0) (.int .i64 0) (.int .i64 0) (.slice none 0 0) (.slice none 0 0))
        have hA := put10_at HZ2.out 0 0 (.slice none 0 0) (.slice none 0 0)
        have hF := HB2.out.trans ((put10_fr (w1.alloc (.cells #[.int .i64 0, .int .i64 0, .int .u8 0, .string ⟨#[]⟩, .int .i64 0, .slice none 0 0, .int .i64 0, .int .i64 0, (.slice K2 0 kc2), (.slice P2 0 pc2)] 36)) (w.heap.size + 1) (.int .i64 0) (.int .i64 0) (.int .u8 0) (.string ⟨#[]⟩) (.int .i64 0) (.slice none 0 0) (.int .i64 0) (.int .i64 0) (.slice none 0 0) (.slice none 0 0) (F := [w.heap.size + 1]) (List.mem_singleton.2 rfl)).toBelowOf (B := w.heap.size) HB2.out.size (fun i hi => by simp at hi; omega))
        generalize put10 (w1.alloc (.cells #[.int .i64 0, .int .i64 0, .int .u8 0, .string ⟨#[]⟩, .int .i64 0, .slice none 0 0, .int .i64 0, .int .i64 0, (.slice K2 0 kc2), (.slice P2 0 pc2)] 36)) (w.heap.size + 1) (.int .i64 0) (.int .i64 0) (.int .u8 0) (.string ⟨#[]⟩) (.int .i64 0) (.slice none 0 0) (.int .i64 0) (.int .i64 0) (.slice none 0 0) (.slice none 0 0) = Wf at hA hF ⊢
        clear z0 z1 z2 z3 z4 z5 z6 z7 z8 z9 zf
        obtain ⟨r0, r1, r2, r3, r4, r5, r6, r7, r8, r9, -⟩ := hA.cells
        exact bodyPost_ret (v := .tuple #[claimV 0 0 (.slice none 0 0) (.slice none 0 0), .bool false]) (by simp [results, Tryz.results18, go_sem, r0, r1, r2, r3, r4, r5, r6, r7, r8, r9, claimV]) rfl (by rw [HN.out]; exact ⟨none, 0, none, 0, rfl, hF⟩)
      | some c =>
        rw [hq] at hcall
        simp only at hcall
        unfold claimV at hcall
        have HCALL := Lib.hid hcall
        have HN := Lib.hid (show allTs ks ps (l.drop (j + 1)) (joinC (o.getD claim0) c) = R by rw [← HREST.out.1]; exact (all_next ks ps (l.drop (j + 1)) _ hq).symm)
        have hwl := wayT_len ks ps l[j] hq
        have hll2 := HREST.out.2.2
        have hjl1 := joinL_len c.keys (o.getD claim0).keys
        have hjl2 := joinL_len c.pres (o.getD claim0).pres
        have hs2 : sizeTs (l[j] :: l.drop (j + 1)) = sizeT l[j] + sizeTs (l.drop (j + 1)) := by conv => lhs; unfold sizeTs
        rw [hs2] at hll2
        have HLL := Lib.hid (show (joinC (o.getD claim0) c).keys.length + sizeTs (l.drop (j + 1)) ≤ 1000 ∧ (joinC (o.getD claim0) c).pres.length + sizeTs (l.drop (j + 1)) ≤ 1000 from ⟨by show (joinL (o.getD claim0).keys c.keys).length + _ ≤ _; omega, by show (joinL (o.getD claim0).pres c.pres).length + _ ≤ _; omega⟩)
        have hlk1 : (o.getD claim0).keys.length ≤ 100000 := by omega
        have hlk2 : c.keys.length ≤ 100000 := by omega
        have hlp1 : (o.getD claim0).pres.length ≤ 100000 := by omega
        have hlp2 : c.pres.length ≤ 100000 := by omega
        clear hcall hq hwl hll2 hjl1 hjl2 hs2
        go_wp2_with fail
        refine HCALL.out.mono ?_
        rintro e w1 ⟨K2, kc2, P2, pc2, rfl, hck, hcp, hca, hb1⟩
        have hbx : Below w1.heap.size w1 (w1.alloc (.cells #[.int .i64 0, .int .i64 0, .int .u8 0, .string ⟨#[]⟩, .int .i64 0, .slice none 0 0, .int .i64 c.after, .int .i64 c.age, (.slice K2 c.keys.length kc2), (.slice P2 c.pres.length pc2)] 36)) := (Below.refl _ _).alloc (Nat.le_refl _) _
        have hb12 := hb1.trans (hbx.mono hb1.size)
        have HB2 := Lib.hid (HB1.out.trans (hb12.mono HB1.out.size))
        have HZ2 := Lib.hid (HZ1.out.below hb12)
        have HBE2 := Lib.hid (HBE1.out.below hb12)
        have HK2 := Lib.hid (HK1.out.below hb12)
        have HP2 := Lib.hid (HP1.out.below hb12)
        have HQ2 := Lib.hid (HQ1.out.below hb12)
        have hq2 := HQ2.out.cell
        have HCK := Lib.hid ((hck.base_le (Nat.le_trans HB1.out.size (Nat.le_refl _))).below hbx)
        have HCP := Lib.hid ((hcp.base_le (Nat.le_trans HB1.out.size (Nat.le_refl _))).below hbx)
        have HNB := Lib.hid (new_blocks hck HK1.out HP1.out)
        have HNC := Lib.hid (new_blocks hcp HK1.out HP1.out)
        have hcx : ClaimAt (w1.alloc (.cells #[.int .i64 0, .int .i64 0, .int .u8 0, .string ⟨#[]⟩, .int .i64 0, .slice none 0 0, .int .i64 c.after, .int .i64 c.age, (.slice K2 c.keys.length kc2), (.slice P2 c.pres.length pc2)] 36)) w1.heap.size c.after c.age (.slice K2 c.keys.length kc2) (.slice P2 c.pres.length pc2) := Go.heap_alloc_new w1 _
        have HCX := Lib.hid hcx
        clear hbx hb12 hb1 hck hcp hca
        have h5 : (w1.alloc (.cells #[.int .i64 0, .int .i64 0, .int .u8 0, .string ⟨#[]⟩, .int .i64 0, .slice none 0 0, .int .i64 c.after, .int .i64 c.age, (.slice K2 c.keys.length kc2), (.slice P2 c.pres.length pc2)] 36)).cell? ⟨w1.heap.size, 0, none⟩ = some (.int .i64 0) := hcx.cells.1
        clear hcx
        obtain ⟨b, hbb⟩ : ∃ b, o.getD claim0 = b := ⟨_, rfl⟩
        rw [hbb] at HBE2 HK2 HP2 HAP HN HLL hlk1 hlp1 HNB HNC
        go_upto_region 25 with fail
        generalize hW : w1.alloc (.cells #[.int .i64 0, .int .i64 0, .int .u8 0, .string ⟨#[]⟩, .int .i64 0, .slice none 0 0, .int .i64 c.after, .int .i64 c.age, (.slice K2 c.keys.length kc2), (.slice P2 c.pres.length pc2)] 36) = W at HB2 HZ2 HBE2 HK2 HP2 HCK HCP HCX hq2 HQ2 ⊢
        have HI := Lib.hid (show JoinInv w w1.heap.size b c K kc P pc K2 kc2 P2 pc2 W from ⟨HBE2.out, HCX.out, HZ2.out, HQ2.out, HCK.out, HCP.out, HB2.out⟩)
        have HKd := Lib.hid (show Row W w.heap.size 29 (.slice K b.keys.length kc) (strs b.keys) from HK2.out)
        have HPd := Lib.hid (show Row W w.heap.size 29 (.slice P b.pres.length pc) (strs b.pres) from HP2.out)
        clear HB2 HZ2 HBE2 HK2 HP2 HCK HCP HCX hq2 HQ2 hW
        go_cut [9] (fun p wx => ∃ (K3 : Option Addr) (kc3 : Nat) (P3 : Option Addr) (pc3 : Nat), p = .pointer (some ⟨w.heap.size + 1 + 1, 0, none⟩) ∧ ClaimAt wx (w.heap.size + 1 + 1) (joinC b c).after (joinC b c).age (.slice K3 (joinC b c).keys.length kc3) (.slice P3 (joinC b c).pres.length pc3) ∧ ClaimAt wx (w.heap.size + 1) 0 0 (.slice none 0 0) (.slice none 0 0) ∧ KindAt wx w.heap.size 5 ∧ Row wx w.heap.size 29 (.slice K3 (joinC b c).keys.length kc3) (strs (joinC b c).keys) ∧ Row wx w.heap.size 29 (.slice P3 (joinC b c).pres.length pc3) (strs (joinC b c).pres) ∧ ((Value.slice K3 (joinC b c).keys.length kc3).ownBlock = none ∨ (Value.slice K3 (joinC b c).keys.length kc3).ownBlock ≠ (Value.slice P3 (joinC b c).pres.length pc3).ownBlock) ∧ Below w.heap.size w wx)
        case first =>
          have JA := Lib.hid (fun V (e1 : V.heap = ((W.alloc (.cells #[.int .i64 b.after, .int .i64 c.after] 3)).alloc (.cells #[.int .i64 b.age, .int .i64 c.age] 3)).heap) (e2 : V.os = W.os) (e3 : V.tape = W.tape) (e4 : V.output = W.output) => join_keys (((HI.out.alloc (.cells #[.int .i64 b.after, .int .i64 c.after] 3)).alloc (.cells #[.int .i64 b.age, .int .i64 c.age] 3)).same (V' := V) e1 (e2.trans HI.out.below.os) (e3.trans HI.out.below.tape) (e4.trans HI.out.below.output)) hlk1 hlk2 (row_same ((HKd.out.alloc (.cells #[.int .i64 b.after, .int .i64 c.after] 3)).alloc (.cells #[.int .i64 b.age, .int .i64 c.age] 3)) e1) (row_same ((HPd.out.alloc (.cells #[.int .i64 b.after, .int .i64 c.after] 3)).alloc (.cells #[.int .i64 b.age, .int .i64 c.age] 3)) e1) HAP.out (fun g h => HNB.out.1 g h) (fun g h => HNC.out.1 g h))
          have JB := Lib.hid (fun V (e1 : V.heap = ((W.alloc (.cells #[.int .i64 b.age, .int .i64 c.age] 3)).alloc (.cells #[.int .i64 b.after, .int .i64 c.after] 3)).heap) (e2 : V.os = W.os) (e3 : V.tape = W.tape) (e4 : V.output = W.output) => join_keys (((HI.out.alloc (.cells #[.int .i64 b.age, .int .i64 c.age] 3)).alloc (.cells #[.int .i64 b.after, .int .i64 c.after] 3)).same (V' := V) e1 (e2.trans HI.out.below.os) (e3.trans HI.out.below.tape) (e4.trans HI.out.below.output)) hlk1 hlk2 (row_same ((HKd.out.alloc (.cells #[.int .i64 b.age, .int .i64 c.age] 3)).alloc (.cells #[.int .i64 b.after, .int .i64 c.after] 3)) e1) (row_same ((HPd.out.alloc (.cells #[.int .i64 b.age, .int .i64 c.age] 3)).alloc (.cells #[.int .i64 b.after, .int .i64 c.after] 3)) e1) HAP.out (fun g h => HNB.out.1 g h) (fun g h => HNC.out.1 g h))
          have JP := Lib.hid (fun V V0 K3 kc3 (h : JoinInv w w1.heap.size b c K kc P pc K2 kc2 P2 pc2 V0) hK hP hap (e1 : V.heap = V0.heap) (e2 : V.os = V0.os) (e3 : V.tape = V0.tape) (e4 : V.output = V0.output) => join_pres (K3 := K3) (kc3 := kc3) (n3 := (joinL b.keys c.keys).length) (x3 := strs (joinL b.keys c.keys)) (h.same (V' := V) e1 (e2.trans h.below.os) (e3.trans h.below.tape) (e4.trans h.below.output)) hlp1 hlp2 (row_same hK e1) (row_same hP e1) hap (fun g h => HNB.out.2 g h) (fun g h => HNC.out.2 g h))
          clear hlk1 hlk2 hlp1 hlp2
          have HMA := Lib.hid (show max 0 (max b.after c.after) = (joinC b c).after by unfold joinC; simp only; omega)
          have HMG := Lib.hid (show max 0 (max b.age c.age) = (joinC b c).age by unfold joinC; simp only; omega)
          refine wp_region_noPanic ?_
          refine wp_region_any (by kernel_rfl) (anyG_any (S := (fun V => V.cell? ⟨w.heap.size + 1 + 1, 6, none⟩ = some (.int .i64 b.after) ∧ V.cell? ⟨w.heap.size + 1 + 1, 7, none⟩ = some (.int .i64 b.age) ∧ V.cell? ⟨w.heap.size + 1 + 1, 8, none⟩ = some (.slice K b.keys.length kc) ∧ V.cell? ⟨w.heap.size + 1 + 1, 9, none⟩ = some (.slice P b.pres.length pc) ∧ V.cell? ⟨w1.heap.size, 6, none⟩ = some (.int .i64 c.after) ∧ V.cell? ⟨w1.heap.size, 7, none⟩ = some (.int .i64 c.age) ∧ V.cell? ⟨w1.heap.size, 8, none⟩ = some (.slice K2 c.keys.length kc2) ∧ V.cell? ⟨w1.heap.size, 9, none⟩ = some (.slice P2 c.pres.length pc2))) (n := 23) _ _ _ _ ?_)
          have hS : (fun V => V.cell? ⟨w.heap.size + 1 + 1, 6, none⟩ = some (.int .i64 b.after) ∧ V.cell? ⟨w.heap.size + 1 + 1, 7, none⟩ = some (.int .i64 b.age) ∧ V.cell? ⟨w.heap.size + 1 + 1, 8, none⟩ = some (.slice K b.keys.length kc) ∧ V.cell? ⟨w.heap.size + 1 + 1, 9, none⟩ = some (.slice P b.pres.length pc) ∧ V.cell? ⟨w1.heap.size, 6, none⟩ = some (.int .i64 c.after) ∧ V.cell? ⟨w1.heap.size, 7, none⟩ = some (.int .i64 c.age) ∧ V.cell? ⟨w1.heap.size, 8, none⟩ = some (.slice K2 c.keys.length kc2) ∧ V.cell? ⟨w1.heap.size, 9, none⟩ = some (.slice P2 c.pres.length pc2)) W.drew := JoinInv.Sat (V0 := W) HI.out rfl
          change AnyG _ _ _ _ _ _ 24 (Array.replicate 24 false) _ W.drew
          refine anyG_take (i := 0) (v := ?_) rfl rfl (by kernel_rfl) (by kernel_rfl) (by kernel_rfl) (by kernel_rfl) (by kernel_rfl) (fun _ _ _ h => h) (Or.inl ⟨by rfl, ?_⟩) hS ?_
          rotate_left
          · (intro w' hSw; (try dsimp only at hSw); go_simp; (try with_reducible rfl))
          try simp only [Act.put, List.setIfInBounds_toArray, List.set_cons_zero, List.set_cons_succ]
          refine anyG_take (i := 1) (v := ?_) rfl rfl (by kernel_rfl) (by kernel_rfl) (by kernel_rfl) (by kernel_rfl) (by kernel_rfl) (fun _ _ _ h => h) (Or.inl ⟨by rfl, ?_⟩) hS ?_
          rotate_left
          · (intro w' hSw; (try dsimp only at hSw); go_simp; (try with_reducible rfl))
          try simp only [Act.put, List.setIfInBounds_toArray, List.set_cons_zero, List.set_cons_succ]
          refine anyG_take (i := 2) (v := ?_) rfl rfl (by kernel_rfl) (by kernel_rfl) (by kernel_rfl) (by kernel_rfl) (by kernel_rfl) (fun _ _ _ h => h) (Or.inl ⟨by rfl, ?_⟩) hS ?_
          rotate_left
          · (intro w' hSw; (try dsimp only at hSw); go_simp; (try with_reducible rfl))
          try simp only [Act.put, List.setIfInBounds_toArray, List.set_cons_zero, List.set_cons_succ]
          refine anyG_take (i := 3) (v := ?_) rfl rfl (by kernel_rfl) (by kernel_rfl) (by kernel_rfl) (by kernel_rfl) (by kernel_rfl) (fun _ _ _ h => h) (Or.inl ⟨by rfl, ?_⟩) hS ?_
          rotate_left
          · (intro w' hSw; (try dsimp only at hSw); go_simp; (try with_reducible rfl))
          try simp only [Act.put, List.setIfInBounds_toArray, List.set_cons_zero, List.set_cons_succ]
          refine anyG_take (i := 6) (v := ?_) rfl rfl (by kernel_rfl) (by kernel_rfl) (by kernel_rfl) (by kernel_rfl) (by kernel_rfl) (fun _ _ _ h => h) (Or.inl ⟨by rfl, ?_⟩) hS ?_
          rotate_left
          · (intro w' hSw; (try dsimp only at hSw); go_simp; (try with_reducible rfl))
          try simp only [Act.put, List.setIfInBounds_toArray, List.set_cons_zero, List.set_cons_succ]
          refine anyG_take (i := 7) (v := ?_) rfl rfl (by kernel_rfl) (by kernel_rfl) (by kernel_rfl) (by kernel_rfl) (by kernel_rfl) (fun _ _ _ h => h) (Or.inl ⟨by rfl, ?_⟩) hS ?_
          rotate_left
          · (intro w' hSw; (try dsimp only at hSw); go_simp; (try with_reducible rfl))
          try simp only [Act.put, List.setIfInBounds_toArray, List.set_cons_zero, List.set_cons_succ]
          refine anyG_take (i := 8) (v := ?_) rfl rfl (by kernel_rfl) (by kernel_rfl) (by kernel_rfl) (by kernel_rfl) (by kernel_rfl) (fun _ _ _ h => h) (Or.inl ⟨by rfl, ?_⟩) hS ?_
          rotate_left
          · (intro w' hSw; (try dsimp only at hSw); go_simp; (try with_reducible rfl))
          try simp only [Act.put, List.setIfInBounds_toArray, List.set_cons_zero, List.set_cons_succ]
          refine anyG_take (i := 9) (v := ?_) rfl rfl (by kernel_rfl) (by kernel_rfl) (by kernel_rfl) (by kernel_rfl) (by kernel_rfl) (fun _ _ _ h => h) (Or.inl ⟨by rfl, ?_⟩) hS ?_
          rotate_left
          · (intro w' hSw; (try dsimp only at hSw); go_simp; (try with_reducible rfl))
          try simp only [Act.put, List.setIfInBounds_toArray, List.set_cons_zero, List.set_cons_succ]
          refine anyG_take (i := 12) (v := ?_) rfl rfl (by kernel_rfl) (by kernel_rfl) (by kernel_rfl) (by kernel_rfl) (by kernel_rfl) (fun _ _ _ h => h) (Or.inl ⟨by rfl, ?_⟩) hS ?_
          rotate_left
          · (intro w' hSw; (try dsimp only at hSw); go_simp; (try with_reducible rfl))
          try simp only [Act.put, List.setIfInBounds_toArray, List.set_cons_zero, List.set_cons_succ]
          refine anyG_take (i := 13) (v := ?_) rfl rfl (by kernel_rfl) (by kernel_rfl) (by kernel_rfl) (by kernel_rfl) (by kernel_rfl) (fun _ _ _ h => h) (Or.inl ⟨by rfl, ?_⟩) hS ?_
          rotate_left
          · (intro w' hSw; (try dsimp only at hSw); go_simp; (try with_reducible rfl))
          try simp only [Act.put, List.setIfInBounds_toArray, List.set_cons_zero, List.set_cons_succ]
          refine anyG_take (i := 14) (v := ?_) rfl rfl (by kernel_rfl) (by kernel_rfl) (by kernel_rfl) (by kernel_rfl) (by kernel_rfl) (fun _ _ _ h => h) (Or.inl ⟨by rfl, ?_⟩) hS ?_
          rotate_left
          · (intro w' hSw; (try dsimp only at hSw); go_simp; (try with_reducible rfl))
          try simp only [Act.put, List.setIfInBounds_toArray, List.set_cons_zero, List.set_cons_succ]
          refine anyG_take (i := 15) (v := ?_) rfl rfl (by kernel_rfl) (by kernel_rfl) (by kernel_rfl) (by kernel_rfl) (by kernel_rfl) (fun _ _ _ h => h) (Or.inl ⟨by rfl, ?_⟩) hS ?_
          rotate_left
          · (intro w' hSw; (try dsimp only at hSw); go_simp; (try with_reducible rfl))
          try simp only [Act.put, List.setIfInBounds_toArray, List.set_cons_zero, List.set_cons_succ]
          refine anyG_take (i := 17) (v := ?_) rfl rfl (by kernel_rfl) (by kernel_rfl) (by kernel_rfl) (by kernel_rfl) (by kernel_rfl) (fun _ _ _ h => h) (Or.inl ⟨by rfl, ?_⟩) hS ?_
          rotate_left
          · (intro w' hSw; (try dsimp only at hSw); go_simp; (try with_reducible rfl))
          try simp only [Act.put, List.setIfInBounds_toArray, List.set_cons_zero, List.set_cons_succ]
          refine anyG_take (i := 18) (v := ?_) rfl rfl (by kernel_rfl) (by kernel_rfl) (by kernel_rfl) (by kernel_rfl) (by kernel_rfl) (fun _ _ _ h => h) (Or.inl ⟨by rfl, ?_⟩) hS ?_
          rotate_left
          · (intro w' hSw; (try dsimp only at hSw); go_simp; (try with_reducible rfl))
          try simp only [Act.put, List.setIfInBounds_toArray, List.set_cons_zero, List.set_cons_succ]
          refine anyG_take (i := 19) (v := ?_) rfl rfl (by kernel_rfl) (by kernel_rfl) (by kernel_rfl) (by kernel_rfl) (by kernel_rfl) (fun _ _ _ h => h) (Or.inl ⟨by rfl, ?_⟩) hS ?_
          rotate_left
          · (intro w' hSw; (try dsimp only at hSw); go_simp; (try with_reducible rfl))
          try simp only [Act.put, List.setIfInBounds_toArray, List.set_cons_zero, List.set_cons_succ]
          refine anyG_take (i := 20) (v := ?_) rfl rfl (by kernel_rfl) (by kernel_rfl) (by kernel_rfl) (by kernel_rfl) (by kernel_rfl) (fun _ _ _ h => h) (Or.inl ⟨by rfl, ?_⟩) hS ?_
          rotate_left
          · (intro w' hSw; (try dsimp only at hSw); go_simp; (try with_reducible rfl))
          try simp only [Act.put, List.setIfInBounds_toArray, List.set_cons_zero, List.set_cons_succ]
          clear hS
          refine anyG_all (rs := [4, 10]) (by kernel_rfl) (by simp) (fun i hi => ?_)
          simp only [List.mem_cons, List.not_mem_nil, or_false] at hi
          rcases hi with rfl | rfl
          · refine wpOp_step rfl (fun K' hK => ?_)
            have HK := Lib.hid hK
            clear hK
            rw [if_pos (by rfl)]
            go_simp
            refine HK.out _ _ ⟨fun _ => JoinInv.Sat (V0 := (W.alloc (.cells #[.int .i64 b.after, .int .i64 c.after] 3))) (HI.out.alloc _) rfl, ?_⟩
            clear HK
            try simp only [Act.put, List.setIfInBounds_toArray, List.set_cons_zero, List.set_cons_succ]
            refine anyG_all (rs := [5, 10]) (by kernel_rfl) (by simp) (fun i hi => ?_)
            simp only [List.mem_cons, List.not_mem_nil, or_false] at hi
            rcases hi with rfl | rfl
            · refine wpOp_step rfl (fun K' hK => ?_)
              have HK := Lib.hid hK
              clear hK
              rw [if_pos (by rfl)]
              go_simp
              refine Calls.mono (most_any b.after c.after _ _ _ (cells2 (Go.heap_alloc_new W.drew (.cells #[.int .i64 b.after, .int .i64 c.after] 3)))) ?_
              rintro e wm ⟨rfl, rfl⟩
              go_wp2_with fail
              refine HK.out _ _ ⟨fun _ => JoinInv.Sat (V0 := (W.alloc (.cells #[.int .i64 b.after, .int .i64 c.after] 3))) (HI.out.alloc _) rfl, ?_⟩
              clear HK
              try simp only [Act.put, List.setIfInBounds_toArray, List.set_cons_zero, List.set_cons_succ]
              refine anyG_all (rs := [10]) (by kernel_rfl) (by simp) (fun i hi => ?_)
              obtain rfl : i = 10 := by simpa using hi
              clear hi
              refine wpOp_step rfl (fun K' hK => ?_)
              have HK := Lib.hid hK
              clear hK
              rw [if_pos (by rfl)]
              go_simp
              refine HK.out _ _ ⟨fun _ => JoinInv.Sat (V0 := ((W.alloc (.cells #[.int .i64 b.after, .int .i64 c.after] 3)).alloc (.cells #[.int .i64 b.age, .int .i64 c.age] 3))) ((HI.out.alloc _).alloc _) rfl, ?_⟩
              clear HK
              try simp only [Act.put, List.setIfInBounds_toArray, List.set_cons_zero, List.set_cons_succ]
              refine anyG_all (rs := [11]) (by kernel_rfl) (by simp) (fun i hi => ?_)
              obtain rfl : i = 11 := by simpa using hi
              clear hi
              refine wpOp_step rfl (fun K' hK => ?_)
              have HK := Lib.hid hK
              clear hK
              rw [if_pos (by rfl)]
              go_simp
              refine Calls.mono (most_any b.age c.age _ _ _ (cells2 (allocs_at [(.cells #[.int .i64 b.after, .int .i64 c.after] 3), (.cells #[.int .i64 b.age, .int .i64 c.age] 3)] W.drew 1 _ rfl))) ?_
              rintro e wm ⟨rfl, rfl⟩
              go_wp2_with fail
              refine HK.out _ _ ⟨fun _ => JoinInv.Sat (V0 := ((W.alloc (.cells #[.int .i64 b.after, .int .i64 c.after] 3)).alloc (.cells #[.int .i64 b.age, .int .i64 c.age] 3))) ((HI.out.alloc _).alloc _) rfl, ?_⟩
              clear HK
              try simp only [Act.put, List.setIfInBounds_toArray, List.set_cons_zero, List.set_cons_succ]
              refine anyG_all (rs := [16]) (by kernel_rfl) (by simp) (fun i hi => ?_)
              obtain rfl : i = 16 := by simpa using hi
              clear hi
              refine wpOp_step rfl (fun K' hK => ?_)
              have HK := Lib.hid hK
              clear hK
              rw [if_pos (by rfl)]
              go_simp
              refine Calls.mono (JA.out _ rfl rfl rfl rfl) ?_
              rintro e wj ⟨K3, kc3, rfl, hi1, hk3, hp3, ha3⟩
              have HJ1 := Lib.hid hi1
              have HK3 := Lib.hid hk3
              have HP3 := Lib.hid hp3
              have HA3 := Lib.hid ha3
              clear hi1 hk3 hp3 ha3
              go_wp2_with fail
              refine HK.out _ _ ⟨fun _ => JoinInv.Sat (V0 := wj) HJ1.out rfl, ?_⟩
              clear HK
              try simp only [Act.put, List.setIfInBounds_toArray, List.set_cons_zero, List.set_cons_succ]
              refine anyG_all (rs := [21]) (by kernel_rfl) (by simp) (fun i hi => ?_)
              obtain rfl : i = 21 := by simpa using hi
              clear hi
              refine wpOp_step rfl (fun K' hK => ?_)
              have HK := Lib.hid hK
              clear hK
              rw [if_pos (by rfl)]
              go_simp
              refine Calls.mono (JP.out _ wj K3 kc3 HJ1.out HK3.out HP3.out HA3.out rfl rfl rfl rfl) ?_
              rintro e wk ⟨P3, pc3, rfl, hi2, hk4, hp4, ha4⟩
              obtain ⟨e0, e1, e2, e3, e4, e5, e6, e7, e8, e9, ef⟩ := hi2.cl.cells
              have HJ2 := Lib.hid hi2
              have HK4 := Lib.hid hk4
              have HP4 := Lib.hid hp4
              have HA4 := Lib.hid ha4
              clear hi2 hk4 hp4 ha4
              go_wp2_with fail
              refine HK.out _ _ ⟨fun _ => JoinInv.Sat (V0 := wk) HJ2.out rfl, ?_⟩
              clear HK
              try simp only [Act.put, List.setIfInBounds_toArray, List.set_cons_zero, List.set_cons_succ]
              refine anyG_all (rs := [22]) (by kernel_rfl) (by simp) (fun i hi => ?_)
              obtain rfl : i = 22 := by simpa using hi
              clear hi
              refine wpOp_step rfl (fun K' hK => ?_)
              have HK := Lib.hid hK
              clear hK
              rw [if_pos (by rfl)]
              go_simp
              refine HK.out _ _ ⟨fun _ => JoinInv.Sat (V0 := wk) HJ2.out rfl, ?_⟩
              clear HK
              try simp only [Act.put, List.setIfInBounds_toArray, List.set_cons_zero, List.set_cons_succ]
              refine anyG_all (rs := [23]) (by kernel_rfl) (by simp) (fun i hi => ?_)
              obtain rfl : i = 23 := by simpa using hi
              clear hi
              refine wpOp_step rfl (fun K' hK => ?_)
              have HK := Lib.hid hK
              clear hK
              rw [if_pos (by rfl)]
              go_simp
              refine HK.out _ _ ⟨fun h => absurd rfl h, anyG_done (by kernel_rfl) ?_⟩
              clear HK
              refine NoPanic.normal ?_
              go_wp2_with fail
              rw [HMA.out, HMG.out]
              go_meet
              have hFF := put10_fr wk (w.heap.size + 1 + 1) (.int .i64 0) (.int .i64 0) (.int .u8 0) (.string ⟨#[]⟩) (.int .i64 0) (.slice none 0 0) (.int .i64 (joinC b c).after) (.int .i64 (joinC b c).age) (.slice K3 (joinL b.keys c.keys).length kc3) (.slice P3 (joinL b.pres c.pres).length pc3) (F := [w.heap.size + 1 + 1]) (List.mem_singleton.2 rfl)
              exact ⟨K3, kc3, P3, pc3, rfl, put10_at HJ2.out.cl (joinC b c).after (joinC b c).age (.slice K3 (joinL b.keys c.keys).length kc3) (.slice P3 (joinL b.pres c.pres).length pc3), HJ2.out.cz.fr hFF (by simp), HJ2.out.q.fr hFF (by simp; omega), row_fr HK4.out hFF (fun g hg => by simpa using row_ne_claim HK4.out (by decide) HJ2.out.cl g hg), row_fr HP4.out hFF (fun g hg => by simpa using row_ne_claim HP4.out (by decide) HJ2.out.cl g hg), HA4.out, HJ2.out.below.trans (hFF.toBelowOf (B := w.heap.size) HJ2.out.below.size (fun i hi => by simp at hi; omega))⟩
            · refine wpOp_step rfl (fun K' hK => ?_)
              have HK := Lib.hid hK
              clear hK
              rw [if_pos (by rfl)]
              go_simp
              refine HK.out _ _ ⟨fun _ => JoinInv.Sat (V0 := ((W.alloc (.cells #[.int .i64 b.after, .int .i64 c.after] 3)).alloc (.cells #[.int .i64 b.age, .int .i64 c.age] 3))) ((HI.out.alloc _).alloc _) rfl, ?_⟩
              clear HK
              try simp only [Act.put, List.setIfInBounds_toArray, List.set_cons_zero, List.set_cons_succ]
              refine anyG_all (rs := [5]) (by kernel_rfl) (by simp) (fun i hi => ?_)
              obtain rfl : i = 5 := by simpa using hi
              clear hi
              refine wpOp_step rfl (fun K' hK => ?_)
              have HK := Lib.hid hK
              clear hK
              rw [if_pos (by rfl)]
              go_simp
              refine Calls.mono (most_any b.after c.after _ _ _ (cells2 (allocs_at [(.cells #[.int .i64 b.after, .int .i64 c.after] 3), (.cells #[.int .i64 b.age, .int .i64 c.age] 3)] W.drew 0 _ rfl))) ?_
              rintro e wm ⟨rfl, rfl⟩
              go_wp2_with fail
              refine HK.out _ _ ⟨fun _ => JoinInv.Sat (V0 := ((W.alloc (.cells #[.int .i64 b.after, .int .i64 c.after] 3)).alloc (.cells #[.int .i64 b.age, .int .i64 c.age] 3))) ((HI.out.alloc _).alloc _) rfl, ?_⟩
              clear HK
              try simp only [Act.put, List.setIfInBounds_toArray, List.set_cons_zero, List.set_cons_succ]
              refine anyG_all (rs := [11]) (by kernel_rfl) (by simp) (fun i hi => ?_)
              obtain rfl : i = 11 := by simpa using hi
              clear hi
              refine wpOp_step rfl (fun K' hK => ?_)
              have HK := Lib.hid hK
              clear hK
              rw [if_pos (by rfl)]
              go_simp
              refine Calls.mono (most_any b.age c.age _ _ _ (cells2 (allocs_at [(.cells #[.int .i64 b.after, .int .i64 c.after] 3), (.cells #[.int .i64 b.age, .int .i64 c.age] 3)] W.drew 1 _ rfl))) ?_
              rintro e wm ⟨rfl, rfl⟩
              go_wp2_with fail
              refine HK.out _ _ ⟨fun _ => JoinInv.Sat (V0 := ((W.alloc (.cells #[.int .i64 b.after, .int .i64 c.after] 3)).alloc (.cells #[.int .i64 b.age, .int .i64 c.age] 3))) ((HI.out.alloc _).alloc _) rfl, ?_⟩
              clear HK
              try simp only [Act.put, List.setIfInBounds_toArray, List.set_cons_zero, List.set_cons_succ]
              refine anyG_all (rs := [16]) (by kernel_rfl) (by simp) (fun i hi => ?_)
              obtain rfl : i = 16 := by simpa using hi
              clear hi
              refine wpOp_step rfl (fun K' hK => ?_)
              have HK := Lib.hid hK
              clear hK
              rw [if_pos (by rfl)]
              go_simp
              refine Calls.mono (JA.out _ rfl rfl rfl rfl) ?_
              rintro e wj ⟨K3, kc3, rfl, hi1, hk3, hp3, ha3⟩
              have HJ1 := Lib.hid hi1
              have HK3 := Lib.hid hk3
              have HP3 := Lib.hid hp3
              have HA3 := Lib.hid ha3
              clear hi1 hk3 hp3 ha3
              go_wp2_with fail
              refine HK.out _ _ ⟨fun _ => JoinInv.Sat (V0 := wj) HJ1.out rfl, ?_⟩
              clear HK
              try simp only [Act.put, List.setIfInBounds_toArray, List.set_cons_zero, List.set_cons_succ]
              refine anyG_all (rs := [21]) (by kernel_rfl) (by simp) (fun i hi => ?_)
              obtain rfl : i = 21 := by simpa using hi
              clear hi
              refine wpOp_step rfl (fun K' hK => ?_)
              have HK := Lib.hid hK
              clear hK
              rw [if_pos (by rfl)]
              go_simp
              refine Calls.mono (JP.out _ wj K3 kc3 HJ1.out HK3.out HP3.out HA3.out rfl rfl rfl rfl) ?_
              rintro e wk ⟨P3, pc3, rfl, hi2, hk4, hp4, ha4⟩
              obtain ⟨e0, e1, e2, e3, e4, e5, e6, e7, e8, e9, ef⟩ := hi2.cl.cells
              have HJ2 := Lib.hid hi2
              have HK4 := Lib.hid hk4
              have HP4 := Lib.hid hp4
              have HA4 := Lib.hid ha4
              clear hi2 hk4 hp4 ha4
              go_wp2_with fail
              refine HK.out _ _ ⟨fun _ => JoinInv.Sat (V0 := wk) HJ2.out rfl, ?_⟩
              clear HK
              try simp only [Act.put, List.setIfInBounds_toArray, List.set_cons_zero, List.set_cons_succ]
              refine anyG_all (rs := [22]) (by kernel_rfl) (by simp) (fun i hi => ?_)
              obtain rfl : i = 22 := by simpa using hi
              clear hi
              refine wpOp_step rfl (fun K' hK => ?_)
              have HK := Lib.hid hK
              clear hK
              rw [if_pos (by rfl)]
              go_simp
              refine HK.out _ _ ⟨fun _ => JoinInv.Sat (V0 := wk) HJ2.out rfl, ?_⟩
              clear HK
              try simp only [Act.put, List.setIfInBounds_toArray, List.set_cons_zero, List.set_cons_succ]
              refine anyG_all (rs := [23]) (by kernel_rfl) (by simp) (fun i hi => ?_)
              obtain rfl : i = 23 := by simpa using hi
              clear hi
              refine wpOp_step rfl (fun K' hK => ?_)
              have HK := Lib.hid hK
              clear hK
              rw [if_pos (by rfl)]
              go_simp
              refine HK.out _ _ ⟨fun h => absurd rfl h, anyG_done (by kernel_rfl) ?_⟩
              clear HK
              refine NoPanic.normal ?_
              go_wp2_with fail
              rw [HMA.out, HMG.out]
              go_meet
              have hFF := put10_fr wk (w.heap.size + 1 + 1) (.int .i64 0) (.int .i64 0) (.int .u8 0) (.string ⟨#[]⟩) (.int .i64 0) (.slice none 0 0) (.int .i64 (joinC b c).after) (.int .i64 (joinC b c).age) (.slice K3 (joinL b.keys c.keys).length kc3) (.slice P3 (joinL b.pres c.pres).length pc3) (F := [w.heap.size + 1 + 1]) (List.mem_singleton.2 rfl)
              exact ⟨K3, kc3, P3, pc3, rfl, put10_at HJ2.out.cl (joinC b c).after (joinC b c).age (.slice K3 (joinL b.keys c.keys).length kc3) (.slice P3 (joinL b.pres c.pres).length pc3), HJ2.out.cz.fr hFF (by simp), HJ2.out.q.fr hFF (by simp; omega), row_fr HK4.out hFF (fun g hg => by simpa using row_ne_claim HK4.out (by decide) HJ2.out.cl g hg), row_fr HP4.out hFF (fun g hg => by simpa using row_ne_claim HP4.out (by decide) HJ2.out.cl g hg), HA4.out, HJ2.out.below.trans (hFF.toBelowOf (B := w.heap.size) HJ2.out.below.size (fun i hi => by simp at hi; omega))⟩
          · refine wpOp_step rfl (fun K' hK => ?_)
            have HK := Lib.hid hK
            clear hK
            rw [if_pos (by rfl)]
            go_simp
            refine HK.out _ _ ⟨fun _ => JoinInv.Sat (V0 := (W.alloc (.cells #[.int .i64 b.age, .int .i64 c.age] 3))) (HI.out.alloc _) rfl, ?_⟩
            clear HK
            try simp only [Act.put, List.setIfInBounds_toArray, List.set_cons_zero, List.set_cons_succ]
            refine anyG_all (rs := [4]) (by kernel_rfl) (by simp) (fun i hi => ?_)
            obtain rfl : i = 4 := by simpa using hi
            clear hi
            refine wpOp_step rfl (fun K' hK => ?_)
            have HK := Lib.hid hK
            clear hK
            rw [if_pos (by rfl)]
            go_simp
            refine HK.out _ _ ⟨fun _ => JoinInv.Sat (V0 := ((W.alloc (.cells #[.int .i64 b.age, .int .i64 c.age] 3)).alloc (.cells #[.int .i64 b.after, .int .i64 c.after] 3))) ((HI.out.alloc _).alloc _) rfl, ?_⟩
            clear HK
            try simp only [Act.put, List.setIfInBounds_toArray, List.set_cons_zero, List.set_cons_succ]
            refine anyG_all (rs := [5]) (by kernel_rfl) (by simp) (fun i hi => ?_)
            obtain rfl : i = 5 := by simpa using hi
            clear hi
            refine wpOp_step rfl (fun K' hK => ?_)
            have HK := Lib.hid hK
            clear hK
            rw [if_pos (by rfl)]
            go_simp
            refine Calls.mono (most_any b.after c.after _ _ _ (cells2 (allocs_at [(.cells #[.int .i64 b.age, .int .i64 c.age] 3), (.cells #[.int .i64 b.after, .int .i64 c.after] 3)] W.drew 1 _ rfl))) ?_
            rintro e wm ⟨rfl, rfl⟩
            go_wp2_with fail
            refine HK.out _ _ ⟨fun _ => JoinInv.Sat (V0 := ((W.alloc (.cells #[.int .i64 b.age, .int .i64 c.age] 3)).alloc (.cells #[.int .i64 b.after, .int .i64 c.after] 3))) ((HI.out.alloc _).alloc _) rfl, ?_⟩
            clear HK
            try simp only [Act.put, List.setIfInBounds_toArray, List.set_cons_zero, List.set_cons_succ]
            refine anyG_all (rs := [11]) (by kernel_rfl) (by simp) (fun i hi => ?_)
            obtain rfl : i = 11 := by simpa using hi
            clear hi
            refine wpOp_step rfl (fun K' hK => ?_)
            have HK := Lib.hid hK
            clear hK
            rw [if_pos (by rfl)]
            go_simp
            refine Calls.mono (most_any b.age c.age _ _ _ (cells2 (allocs_at [(.cells #[.int .i64 b.age, .int .i64 c.age] 3), (.cells #[.int .i64 b.after, .int .i64 c.after] 3)] W.drew 0 _ rfl))) ?_
            rintro e wm ⟨rfl, rfl⟩
            go_wp2_with fail
            refine HK.out _ _ ⟨fun _ => JoinInv.Sat (V0 := ((W.alloc (.cells #[.int .i64 b.age, .int .i64 c.age] 3)).alloc (.cells #[.int .i64 b.after, .int .i64 c.after] 3))) ((HI.out.alloc _).alloc _) rfl, ?_⟩
            clear HK
            try simp only [Act.put, List.setIfInBounds_toArray, List.set_cons_zero, List.set_cons_succ]
            refine anyG_all (rs := [16]) (by kernel_rfl) (by simp) (fun i hi => ?_)
            obtain rfl : i = 16 := by simpa using hi
            clear hi
            refine wpOp_step rfl (fun K' hK => ?_)
            have HK := Lib.hid hK
            clear hK
            rw [if_pos (by rfl)]
            go_simp
            refine Calls.mono (JB.out _ rfl rfl rfl rfl) ?_
            rintro e wj ⟨K3, kc3, rfl, hi1, hk3, hp3, ha3⟩
            have HJ1 := Lib.hid hi1
            have HK3 := Lib.hid hk3
            have HP3 := Lib.hid hp3
            have HA3 := Lib.hid ha3
            clear hi1 hk3 hp3 ha3
            go_wp2_with fail
            refine HK.out _ _ ⟨fun _ => JoinInv.Sat (V0 := wj) HJ1.out rfl, ?_⟩
            clear HK
            try simp only [Act.put, List.setIfInBounds_toArray, List.set_cons_zero, List.set_cons_succ]
            refine anyG_all (rs := [21]) (by kernel_rfl) (by simp) (fun i hi => ?_)
            obtain rfl : i = 21 := by simpa using hi
            clear hi
            refine wpOp_step rfl (fun K' hK => ?_)
            have HK := Lib.hid hK
            clear hK
            rw [if_pos (by rfl)]
            go_simp
            refine Calls.mono (JP.out _ wj K3 kc3 HJ1.out HK3.out HP3.out HA3.out rfl rfl rfl rfl) ?_
            rintro e wk ⟨P3, pc3, rfl, hi2, hk4, hp4, ha4⟩
            obtain ⟨e0, e1, e2, e3, e4, e5, e6, e7, e8, e9, ef⟩ := hi2.cl.cells
            have HJ2 := Lib.hid hi2
            have HK4 := Lib.hid hk4
            have HP4 := Lib.hid hp4
            have HA4 := Lib.hid ha4
            clear hi2 hk4 hp4 ha4
            go_wp2_with fail
            refine HK.out _ _ ⟨fun _ => JoinInv.Sat (V0 := wk) HJ2.out rfl, ?_⟩
            clear HK
            try simp only [Act.put, List.setIfInBounds_toArray, List.set_cons_zero, List.set_cons_succ]
            refine anyG_all (rs := [22]) (by kernel_rfl) (by simp) (fun i hi => ?_)
            obtain rfl : i = 22 := by simpa using hi
            clear hi
            refine wpOp_step rfl (fun K' hK => ?_)
            have HK := Lib.hid hK
            clear hK
            rw [if_pos (by rfl)]
            go_simp
            refine HK.out _ _ ⟨fun _ => JoinInv.Sat (V0 := wk) HJ2.out rfl, ?_⟩
            clear HK
            try simp only [Act.put, List.setIfInBounds_toArray, List.set_cons_zero, List.set_cons_succ]
            refine anyG_all (rs := [23]) (by kernel_rfl) (by simp) (fun i hi => ?_)
            obtain rfl : i = 23 := by simpa using hi
            clear hi
            refine wpOp_step rfl (fun K' hK => ?_)
            have HK := Lib.hid hK
            clear hK
            rw [if_pos (by rfl)]
            go_simp
            refine HK.out _ _ ⟨fun h => absurd rfl h, anyG_done (by kernel_rfl) ?_⟩
            clear HK
            refine NoPanic.normal ?_
            go_wp2_with fail
            rw [HMA.out, HMG.out]
            go_meet
            have hFF := put10_fr wk (w.heap.size + 1 + 1) (.int .i64 0) (.int .i64 0) (.int .u8 0) (.string ⟨#[]⟩) (.int .i64 0) (.slice none 0 0) (.int .i64 (joinC b c).after) (.int .i64 (joinC b c).age) (.slice K3 (joinL b.keys c.keys).length kc3) (.slice P3 (joinL b.pres c.pres).length pc3) (F := [w.heap.size + 1 + 1]) (List.mem_singleton.2 rfl)
            exact ⟨K3, kc3, P3, pc3, rfl, put10_at HJ2.out.cl (joinC b c).after (joinC b c).age (.slice K3 (joinL b.keys c.keys).length kc3) (.slice P3 (joinL b.pres c.pres).length pc3), HJ2.out.cz.fr hFF (by simp), HJ2.out.q.fr hFF (by simp; omega), row_fr HK4.out hFF (fun g hg => by simpa using row_ne_claim HK4.out (by decide) HJ2.out.cl g hg), row_fr HP4.out hFF (fun g hg => by simpa using row_ne_claim HP4.out (by decide) HJ2.out.cl g hg), HA4.out, HJ2.out.below.trans (hFF.toBelowOf (B := w.heap.size) HJ2.out.below.size (fun i hi => by simp at hi; omega))⟩
        case rest =>
          obtain ⟨K3, kc3, P3, pc3, rfl, hcl, hcz, hcq, hk3, hp3, ha3, hb3⟩ := hcut
          have HCL := Lib.hid hcl
          have HCZ := Lib.hid hcz
          have HCQ := Lib.hid hcq
          have HK3 := Lib.hid hk3
          have HP3 := Lib.hid hp3
          have HA3 := Lib.hid ha3
          have HB3 := Lib.hid hb3
          clear hcl hcz hcq hk3 hp3 ha3 hb3
          go_wp2_with fail
          go_roundw
          case rel => exact ⟨j + 1, some (joinC b c), K3, kc3, P3, pc3, by omega, by go_num, rfl, ⟨HN.out, (fun h => by cases h), HLL.out⟩, HCZ.out, HCL.out, HK3.out, HP3.out, HA3.out, HCQ.out, HB3.out⟩
          case measure => simp [intOf]; omega
    · have hRo : R = o := by
        rw [← hrest.1, List.drop_of_length_le (by omega)]
        cases o with
        | none => have := hrest.2.1 rfl; omega
        | some c => unfold allTs; rfl
      obtain ⟨b0, b1, b2, b3, b4, b5, b6, b7, b8, b9, bf⟩ := hbest.cells
      obtain ⟨z0, z1, z2, z3, z4, z5, z6, z7, z8, z9, zf⟩ := hzz.cells
      have HZZ := Lib.hid hzz
      have HRK := Lib.hid hrk
      have HRP := Lib.hid hrp
      have HAP := Lib.hid hap
      have HBEL := Lib.hid hbel
      have HRO := Lib.hid hRo
      clear hrest hzz hrk hrp hap hbel hbest hRo
      cases o with
      | none =>
        obtain ⟨c, hc0⟩ : ∃ c, (none : Option ClaimR).getD claim0 = c := ⟨_, rfl⟩
        have hcc : c.after = 0 ∧ c.age = 0 ∧ c.keys.length = 0 ∧ c.pres.length = 0 := by rw [← hc0]; exact ⟨rfl, rfl, rfl, rfl⟩
        rw [hc0] at b6 b7 b8 b9
        rw [hcc.1] at b6
        rw [hcc.2.1] at b7
        rw [hcc.2.2.1] at b8
        rw [hcc.2.2.2] at b9
        clear hc0 hcc HRK HRP HAP
        go_wp2_with fail
        change bodyPost _ _ _ _ _ (put10 wr (w.heap.size + 1) (.int .i64 0) (.int .i64 0) (.int .u8 0) (.string ⟨#[]⟩) (.int .i64 0) (.slice none 0 0) (.int .i64 0) (.int .i64 0) (.slice K 0 kc) (.slice P 0 pc))
        have hA := put10_at HZZ.out 0 0 (.slice K 0 kc) (.slice P 0 pc)
        have hF := HBEL.out.trans ((put10_fr wr (w.heap.size + 1) (.int .i64 0) (.int .i64 0) (.int .u8 0) (.string ⟨#[]⟩) (.int .i64 0) (.slice none 0 0) (.int .i64 0) (.int .i64 0) (.slice K 0 kc) (.slice P 0 pc) (F := [w.heap.size + 1]) (List.mem_singleton.2 rfl)).toBelowOf (B := w.heap.size) HBEL.out.size (fun i hi => by simp at hi; omega))
        generalize put10 wr (w.heap.size + 1) (.int .i64 0) (.int .i64 0) (.int .u8 0) (.string ⟨#[]⟩) (.int .i64 0) (.slice none 0 0) (.int .i64 0) (.int .i64 0) (.slice K 0 kc) (.slice P 0 pc) = Wf at hA hF ⊢
        clear b0 b1 b2 b3 b4 b5 b6 b7 b8 b9 bf z0 z1 z2 z3 z4 z5 z6 z7 z8 z9 zf
        obtain ⟨r0, r1, r2, r3, r4, r5, r6, r7, r8, r9, -⟩ := hA.cells
        exact bodyPost_ret (v := .tuple #[claimV 0 0 (.slice K 0 kc) (.slice P 0 pc), .bool false]) (by simp [results, Tryz.results18, go_sem, r0, r1, r2, r3, r4, r5, r6, r7, r8, r9, claimV]) rfl (by rw [show R = none from HRO.out]; exact ⟨K, kc, P, pc, rfl, hF⟩)
      | some c =>
        simp only [Option.getD_some] at b6 b7 b8 b9 HRK HRP HAP
        go_wp2_with fail
        change bodyPost _ _ _ _ _ (put10 wr (w.heap.size + 1) (.int .i64 0) (.int .i64 0) (.int .u8 0) (.string ⟨#[]⟩) (.int .i64 0) (.slice none 0 0) (.int .i64 c.after) (.int .i64 c.age) (.slice K c.keys.length kc) (.slice P c.pres.length pc))
        have hA := put10_at HZZ.out c.after c.age (.slice K c.keys.length kc) (.slice P c.pres.length pc)
        have hFF := put10_fr wr (w.heap.size + 1) (.int .i64 0) (.int .i64 0) (.int .u8 0) (.string ⟨#[]⟩) (.int .i64 0) (.slice none 0 0) (.int .i64 c.after) (.int .i64 c.age) (.slice K c.keys.length kc) (.slice P c.pres.length pc) (F := [w.heap.size + 1]) (List.mem_singleton.2 rfl)
        have hF := HBEL.out.trans (hFF.toBelowOf (B := w.heap.size) HBEL.out.size (fun i hi => by simp at hi; omega))
        have HK9 := Lib.hid (row_fr HRK.out hFF (fun g hg => by simpa using row_ne_claim HRK.out (by decide) HZZ.out g hg))
        have HP9 := Lib.hid (row_fr HRP.out hFF (fun g hg => by simpa using row_ne_claim HRP.out (by decide) HZZ.out g hg))
        generalize put10 wr (w.heap.size + 1) (.int .i64 0) (.int .i64 0) (.int .u8 0) (.string ⟨#[]⟩) (.int .i64 0) (.slice none 0 0) (.int .i64 c.after) (.int .i64 c.age) (.slice K c.keys.length kc) (.slice P c.pres.length pc) = Wf at hA hF HK9 HP9 ⊢
        clear b0 b1 b2 b3 b4 b5 b6 b7 b8 b9 bf z0 z1 z2 z3 z4 z5 z6 z7 z8 z9 zf hFF
        obtain ⟨r0, r1, r2, r3, r4, r5, r6, r7, r8, r9, -⟩ := hA.cells
        exact bodyPost_ret (v := .tuple #[claimV c.after c.age (.slice K c.keys.length kc) (.slice P c.pres.length pc), .bool true]) (by simp [results, Tryz.results18, go_sem, r0, r1, r2, r3, r4, r5, r6, r7, r8, r9, claimV]) rfl (by rw [show R = some c from HRO.out]; exact ⟨K, kc, P, pc, rfl, HK9.out, HP9.out, HAP.out, hF⟩)
end Go.Proofs.YtaonadgelkdbcaaGreatDoor
