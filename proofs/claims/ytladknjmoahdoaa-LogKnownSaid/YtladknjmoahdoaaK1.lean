/- Small calls of a disk: named, up, find, Used, Steps, Off, Len, Fail, New. -/
import Derived.Test.YtladknjmoahdoaaDk
set_option linter.all false
namespace Go.Proofs.Ytladknjmoahdoaa
open Go.RowKit

theorem str_empty (s : ByteArray) (h : 1 ≤ s.size) : s.toList.isEmpty = false ∧ (!s.toList.isEmpty) = true := by
  have h1 : s.toList = s.data.toList := Go.ByteArray.toList_eq s
  have h2 : s.toList.isEmpty = false := by
    rw [h1]
    cases hd : s.data.toList with
    | nil =>
      exfalso
      have h : s.data.toList.length = 0 := by rw [hd]; rfl
      have h2 : s.size = 0 := by simpa using h
      omega
    | cons a l => rfl
  exact ⟨h2, by rw [h2]; rfl⟩
theorem str_none (s : ByteArray) (h : s.size = 0) : s = ⟨#[]⟩ := by
  have hl : s.data.toList = [] := List.eq_nil_of_length_eq_zero (by simpa using h)
  cases s; simp at hl ⊢; exact hl

theorem tl_inj {x y : ByteArray} (h : x.toList = y.toList) : x = y := by
  rw [Go.ByteArray.toList_eq, Go.ByteArray.toList_eq] at h
  cases x; cases y
  simp at h
  rw [h]
theorem tl_t {x y : ByteArray} (h : x = y) : (x.toList == y.toList) = true := by rw [h]; simp
theorem tl_f {x y : ByteArray} (h : x ≠ y) : (x.toList == y.toList) = false := by simpa using fun e => h (tl_inj e)
theorem tl_nt {x y : ByteArray} (h : x = y) : (x.toList != y.toList) = false := by rw [h]; simp
theorem tl_nf {x y : ByteArray} (h : x ≠ y) : (x.toList != y.toList) = true := by simpa using fun e => h (tl_inj e)
theorem named_any (s : ByteArray) (w : World) : Calls Try.prog 37 #[.string s] w fun e w' => e = .returned (.bool (namedB s)) ∧ w = w' := by
  by_cases h0 : s.size = 0
  · have hs := str_none s h0
    subst hs
    clear h0
    go_enter Try.func37, Try.ntmps37
    go_wp2
    go_ret
    exact ⟨rfl, rfl⟩
  · obtain ⟨h1, h2⟩ := str_empty s (by omega)
    by_cases h3 : s.size ≤ 100
    · have hb : namedB s = true := by unfold namedB; simp; omega
      rw [hb]
      go_enter Try.func37, Try.ntmps37
      go_wp2
      go_ret
      exact ⟨ret_bool (by simp; omega), rfl⟩
    · have hb : namedB s = false := by unfold namedB; simp; omega
      rw [hb]
      go_enter Try.func37, Try.ntmps37
      go_wp2
      go_ret
      exact ⟨ret_bool (by simp; omega), rfl⟩
section calls
variable {p m : Nat} {sb : Option Nat} {es : List (ByteArray × FileM)} {d : DiskT} {w : World}
theorem up_any (h : DiskAt w p m sb es d) : Calls Try.prog 32 #[.pointer (some ⟨p, 0, none⟩)] w fun e w' => e = .returned (.int .i64 (if d.off = true then 7 else 0)) ∧ w = w' := by
  obtain ⟨-, -, -, -, -, -, c6⟩ := h.cell
  clear h
  cases ho : d.off with
  | true =>
    rw [ho] at c6
    clear ho
    go_enter Try.func32, Try.ntmps32
    go_wp2
    go_ret
    exact ⟨rfl, rfl⟩
  | false =>
    rw [ho] at c6
    clear ho
    go_enter Try.func32, Try.ntmps32
    go_wp2
    go_ret
    exact ⟨rfl, rfl⟩
/-- What find tells. -/
def findV (d : DiskT) (es : List (ByteArray × FileM)) (name : ByteArray) : Value :=
  if d.off = true then .tuple #[.pointer none, .int .i64 7] else match mget es name with | none => .tuple #[.pointer none, .int .i64 91] | some x => .tuple #[encF x, .int .i64 0]
set_option maxRecDepth 100000 in
theorem find_any (h : DiskAt w p m sb es d) (name : ByteArray) : Calls Try.prog 40 #[.pointer (some ⟨p, 0, none⟩), .string name] w fun e w' => e = .returned (findV d es name) ∧ w = w' := by
  obtain ⟨c0, -⟩ := h.cell
  have hl := look_files h name true
  simp only [if_true] at hl
  rw [mget_menc] at hl
  unfold findV
  have HU := Lib.hid (up_any h)
  clear h
  cases ho : d.off with
  | true =>
    rw [ho] at HU
    clear ho hl
    go_enter Try.func40, Try.ntmps40
    go_wp2_with fail
    refine HU.out.mono ?_
    rintro e w' ⟨rfl, rfl⟩
    go_wp2_with fail
    go_ret2
    exact ⟨rfl, rfl⟩
  | false =>
    rw [ho] at HU
    clear ho
    cases hg : mget es name with
    | none =>
      rw [hg] at hl
      simp only [Option.map_none, Option.getD_none, Option.isSome_none] at hl
      clear hg
      go_enter Try.func40, Try.ntmps40
      go_wp2_with fail
      refine HU.out.mono ?_
      rintro e w' ⟨rfl, rfl⟩
      go_wp2_with fail
      go_ret2
      exact ⟨rfl, rfl⟩
    | some x =>
      rw [hg] at hl
      simp only [Option.map_some, Option.getD_some, Option.isSome_some, encF] at hl
      clear hg
      unfold encF
      go_enter Try.func40, Try.ntmps40
      go_wp2_with fail
      refine HU.out.mono ?_
      rintro e w' ⟨rfl, rfl⟩
      go_wp2_with fail
      go_ret2
      exact ⟨rfl, rfl⟩
theorem off_any (h : DiskAt w p m sb es d) : Calls Try.prog 16 #[.pointer (some ⟨p, 0, none⟩)] w fun e w' => e = .returned (.bool d.off) ∧ w = w' := by
  obtain ⟨-, -, -, -, -, -, c6⟩ := h.cell
  clear h
  go_enter Try.func16, Try.ntmps16
  go_wp2
  go_ret
  exact ⟨rfl, rfl⟩
set_option maxRecDepth 100000 in
theorem len_any (h : DiskAt w p m sb es d) (name : ByteArray) : Calls Try.prog 18 #[.pointer (some ⟨p, 0, none⟩), .string name] w fun e w' => e = .returned (.tuple #[.int .i64 (lenD d name).2, .int .i64 (lenD d name).1]) ∧ w = w' := by
  have HF := find_any h name
  unfold findV at HF
  have hg := h.get name
  unfold lenD findD
  cases ho : d.off with
  | true =>
    rw [ho] at HF
    simp only [if_true] at HF ⊢
    have HF := Lib.hid HF
    clear ho hg h
    go_enter Try.func18, Try.ntmps18
    go_wp2_with fail
    refine HF.out.mono ?_
    rintro e w' ⟨rfl, rfl⟩
    go_wp2_with fail
    go_ret2
    exact ⟨rfl, rfl⟩
  | false =>
    rw [ho] at HF
    simp only [Bool.false_eq_true, if_false] at HF ⊢
    rw [hg]
    cases hx : mget es name with
    | none =>
      rw [hx] at HF
      simp only [Option.map_none] at HF ⊢
      have HF := Lib.hid HF
      clear ho hg h
      go_enter Try.func18, Try.ntmps18
      go_wp2_with fail
      refine HF.out.mono ?_
      rintro e w' ⟨rfl, rfl⟩
      go_wp2_with fail
      go_ret2
      exact ⟨rfl, rfl⟩
    | some x =>
      rw [hx] at HF
      simp only [Option.map_some] at HF ⊢
      have hfa := h.files _ (mget_mem hx)
      obtain ⟨A, c, hv, -, -⟩ := own_shape hfa.now
      obtain ⟨f0, -, -⟩ := hfa.cell
      unfold encF at HF
      dsimp only at hv f0
      rw [hv] at f0
      have HF := Lib.hid HF
      clear ho hg h hx hfa hv
      go_enter Try.func18, Try.ntmps18
      go_wp2_with fail
      refine HF.out.mono ?_
      rintro e w' ⟨rfl, rfl⟩
      go_wp2_with fail
      go_ret2
      exact ⟨rfl, rfl⟩
end calls
end Go.Proofs.Ytladknjmoahdoaa
