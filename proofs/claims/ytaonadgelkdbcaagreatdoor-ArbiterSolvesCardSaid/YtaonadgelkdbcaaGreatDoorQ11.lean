/- The document's reader of terms: any term; right terms. · The document's terms over one term; the program's hash. -/
import Derived.Test.YtaonadgelkdbcaaGreatDoorQ10
import Derived.Test.YtaonadgelkdbcaaGreatDoorQ8
namespace Go.Proofs.YtaonadgelkdbcaaGreatDoor
open Go.RowKit

theorem rread_any (s : ByteArray) (hs : s.size ≤ 1000000) : ∀ (room : Nat), room ≤ 1000 → ∀ (at_ : Nat) (w : World), at_ ≤ s.size → Calls Tryz.prog 59 #[.string s, .int .i64 at_, .int .i64 room] w (RReadP s room at_ w)
  | 0, _, at_, w, hat => rread_end s 0 at_ w rfl (.inr rfl)
  | room + 1, hroom, at_, w, hat => by
    rcases Nat.lt_or_eq_of_le hat with h | rfl
    · have HT := fun (a : Nat) (w : World) ha => rread_any s hs room (by omega) a w ha
      obtain ⟨c, hbc⟩ : ∃ c, byte s.data.toList at_ = c := ⟨_, rfl⟩
      by_cases h1 : c = 110
      · subst h1; exact rread_name s room at_ w hs h (by omega) hbc
      by_cases h2 : c = 116
      · subst h2; exact rread_text s room at_ w hs h (by omega) hbc
      by_cases h3 : c = 84
      · subst h3; exact rread_tuple s room at_ w hs h (by omega) hbc HT
      cases har : arity c with
      | none => exact rread_bad s room at_ c w h hs hbc h1 h2 h3 har
      | some n => exact rread_arity s room at_ c n w hs h (by omega) hbc h1 h2 h3 har HT
    · have hn : rd s.data.toList (room + 1) s.size = none := by
        unfold rd
        rw [List.getElem?_eq_none (show s.data.toList.length ≤ s.size from Nat.le_of_eq rfl)]
      exact rread_end s (room + 1) s.size w hn (.inl (Nat.le_refl _))
theorem field_end (e d n f : Int) (A : Option Addr) (l c : Nat) (W : World) : (Instr.field 95 (.agg #[.int .i64 e, .int .i64 d, .int .u64 n, .int .i64 f, .slice A l c]) 0).run Tryz.prog W = .ok (.int .i64 e) W := by kernel_rfl
set_option maxRecDepth 100000 in
set_option maxHeartbeats 8000000 in
theorem rright_any (s : ByteArray) (w : World) (hs : s.size ≤ 1000000) : Calls Tryz.prog 37 #[.string s] w fun e w' => e = .returned (.bool (rightB s.data.toList)) ∧ Below w.heap.size w w' := by
  have hlen : s.data.toList.length = s.size := rfl
  by_cases hl : s.size ≤ 16384
  · have g1 : decide ((s.size : Int) ≤ 16384) = true := decide_eq_true (by omega)
    have hR := rread_any s hs 64 (by omega) 0 w (Nat.zero_le _)
    unfold RReadP at hR
    cases hq : rd s.data.toList 64 0 with
    | none =>
      have HN := Lib.hid (show rightB s.data.toList = false by unfold rightB right; rw [hq]; split <;> rfl)
      rw [hq] at hR
      simp only at hR
      unfold cutV at hR
      have HR := Lib.hid hR
      have g2 : ((-1 : Int) == (s.size : Int)) = false := beq_false_of_ne (by omega)
      clear hR hq
      go_enter Tryz.func37, Tryz.ntmps37
      go_wp2_with fail
      refine HR.out.mono ?_
      rintro e w1 ⟨d, n, f, A, l, c, rfl, hb⟩
      have hfd := fun W => field_end (-1) d n f A l c W
      have HB := Lib.hid hb
      clear hb
      go_wp2_with fail
      go_ret
      rw [HN.out]
      exact ⟨rfl, HB.out⟩
    | some x =>
      have HN := Lib.hid (show rightB s.data.toList = decide (x.fin = s.size) by
        unfold rightB right
        rw [hq, if_pos (by omega)]
        simp only
        by_cases h : x.fin = s.size
        · rw [if_pos (by omega), decide_eq_true h]; rfl
        · rw [if_neg (by omega), decide_eq_false h]; rfl)
      rw [hq] at hR
      simp only at hR
      unfold cutV at hR
      have HR := Lib.hid hR
      have hd : ((x.fin : Int) == (s.size : Int)) = decide (x.fin = s.size) := by
        by_cases h : x.fin = s.size
        · rw [decide_eq_true h, h]; exact beq_self_eq_true _
        · rw [decide_eq_false h]; exact beq_false_of_ne (by omega)
      have HD := Lib.hid hd
      clear hR hq hd
      go_enter Tryz.func37, Tryz.ntmps37
      go_wp2_with fail
      refine HR.out.mono ?_
      rintro e w1 ⟨N, F, A, c, rfl, -, -, -, hb⟩
      have hfd := fun W => field_end (x.fin : Int) (x.deep : Int) N F A x.kids.length c W
      have HB := Lib.hid hb
      clear hb
      go_wp2_with fail
      go_ret
      rw [HN.out]
      exact ⟨by rw [← HD.out]; rfl, HB.out⟩
  · have g1 : decide ((s.size : Int) ≤ 16384) = false := decide_eq_false (by omega)
    have HN := Lib.hid (show rightB s.data.toList = false by unfold rightB right; rw [if_neg (by omega)]; rfl)
    go_enter Tryz.func37, Tryz.ntmps37
    go_wp2_with fail
    go_ret
    rw [HN.out]
    exact ⟨rfl, Below.refl _ _⟩
end Go.Proofs.YtaonadgelkdbcaaGreatDoor

namespace Go.Proofs.YtaonadgelkdbcaaGreatDoor
open Go.RowKit

set_option maxRecDepth 100000 in
set_option maxHeartbeats 8000000 in
theorem rmade_any (s : ByteArray) (w : World) (hs : s.size ≤ 1000000) : Calls Tryz.prog 62 #[.string s] w fun e w' => e = .returned (tupE (madeE s.data.toList)) ∧ Below w.heap.size w w' := by
  have HR := Lib.hid (rright_any s w hs)
  have hm : tupE (madeE s.data.toList) = if rightB s.data.toList then .tuple #[.string s, .int .i64 0] else .tuple #[.string ⟨#[]⟩, .int .i64 3] := by
    unfold madeE tupE
    cases rightB s.data.toList with
    | true => simp only [if_true]
    | false => rfl
  rw [hm]
  clear hm
  cases hq : rightB s.data.toList with
  | true =>
    rw [hq] at HR
    clear hq
    go_enter Tryz.func62, Tryz.ntmps62
    go_wp2_with fail
    refine HR.out.mono ?_
    rintro e w1 ⟨rfl, hb1⟩
    have HB := Lib.hid hb1
    clear hb1
    go_wp2_with fail
    go_ret2
    exact ⟨rfl, HB.out⟩
  | false =>
    rw [hq] at HR
    clear hq
    go_enter Tryz.func62, Tryz.ntmps62
    go_wp2_with fail
    refine HR.out.mono ?_
    rintro e w1 ⟨rfl, hb1⟩
    have HB := Lib.hid hb1
    clear hb1
    go_wp2_with fail
    go_ret2
    exact ⟨rfl, HB.out⟩
theorem conv_one (op : UInt8) (w : World) : (convert 103 9 (.slice (some ⟨w.heap.size, 0, none⟩) 1 1)).run Tryz.prog (w.alloc (.cells #[.int .u8 (op.toNat : Int)] 5)) = .ok (.string ⟨#[op]⟩) (w.alloc (.cells #[.int .u8 (op.toNat : Int)] 5)) := by
  have h : Cells (w.alloc (.cells #[.int .u8 (op.toNat : Int)] 5)) (some ⟨w.heap.size, 0, none⟩) (bv [op]) := fun _ => ⟨_, rfl, cell_one_new w _ _⟩
  exact conv_str (l := [op]) h 1 _ _ 5 Tryz.underlying103 Tryz.underlying5 Tryz.underlying9
theorem cons_list (op : UInt8) (x : ByteArray) : ((⟨#[op]⟩ : ByteArray) ++ x).data.toList = op :: x.data.toList := by simp [ByteArray.data_append]
theorem cons_size (op : UInt8) (x : ByteArray) : ((⟨#[op]⟩ : ByteArray) ++ x).size = x.size + 1 := by
  have h := congrArg List.length (cons_list op x)
  exact h
set_option maxRecDepth 100000 in
set_option maxHeartbeats 8000000 in
theorem rone_any (op : UInt8) (opi : Int) (hop : (op.toNat : Int) = opi) (x : ByteArray) (w : World) (hs : x.size ≤ 900000) : Calls Tryz.prog 49 #[.int .u8 opi, .string x] w fun e w' => e = .returned (tupE (oneE op x.data.toList)) ∧ Below w.heap.size w w' := by
  have HR := Lib.hid (rright_any x w (by omega))
  unfold oneE
  cases hq : rightB x.data.toList with
  | true =>
    rw [hq] at HR
    clear hq
    rw [if_pos rfl]
    have HC := Lib.hid (conv_one op)
    rw [hop] at HC
    have HM := fun W => Lib.hid (rmade_any ((⟨#[op]⟩ : ByteArray) ++ x) W (by rw [cons_size]; omega))
    simp only [cons_list] at HM
    obtain ⟨R, hR⟩ : ∃ R, madeE (op :: x.data.toList) = R := ⟨_, rfl⟩
    simp only [hR] at HM
    rw [hR]
    unfold tupE at HM ⊢
    clear hop hR
    go_enter Tryz.func49, Tryz.ntmps49
    go_wp2_with fail
    refine HR.out.mono ?_
    rintro e w1 ⟨rfl, hb1⟩
    have HB := Lib.hid hb1
    have hcv := HC.out w1
    clear hb1
    go_wp2_with fail
    refine (HM _).out.mono ?_
    rintro e w2 ⟨rfl, hb2⟩
    have HB2 := Lib.hid hb2
    clear hb2 hcv
    go_wp2_with fail
    go_ret2
    exact ⟨rfl, (HB.out.alloc HB.out.size _).trans (HB2.out.mono (by simp; have := HB.out.size; omega))⟩
  | false =>
    rw [hq] at HR
    clear hq
    go_enter Tryz.func49, Tryz.ntmps49
    go_wp2_with fail
    refine HR.out.mono ?_
    rintro e w1 ⟨rfl, hb1⟩
    have HB := Lib.hid hb1
    clear hb1
    go_wp2_with fail
    go_ret2
    exact ⟨rfl, HB.out⟩
set_option maxRecDepth 100000 in
set_option maxHeartbeats 8000000 in
theorem hash_any (x : ByteArray) (w : World) (hs : x.size ≤ 900000) (hv : VarsOk w) : Calls Tryz.prog 23 #[.string x] w fun e w' => e = .returned (tupE (oneE 72 x.data.toList)) ∧ Below w.heap.size w w' := by
  have hbA : Below w.heap.size w (w.alloc (.cells #[.string x] 29)) := (Below.refl _ _).alloc (Nat.le_refl _) _
  have h72 : (⟨#[72]⟩ : ByteArray).size = 1 := rfl
  have hfl : (flat [x]).length = x.size := by simp [flat]
  have hB := build_any ⟨#[72]⟩ [x] (some ⟨w.heap.size, 0, none⟩) 1 (w.alloc (.cells #[.string x] 29)) (by rw [h72, hfl]; omega) (by simp) (fun _ => ⟨_, rfl, cell_one_new w _ _⟩) (hv.below hbA)
  have he : buildE ⟨#[72]⟩ [x] = oneE 72 x.data.toList := by
    unfold buildE oneE flat
    simp
  rw [he] at hB
  have HB := Lib.hid hB
  have HA := Lib.hid hbA
  obtain ⟨R, hR⟩ : ∃ R, oneE 72 x.data.toList = R := ⟨_, rfl⟩
  rw [hR] at HB ⊢
  unfold tupE at HB ⊢
  clear hB hbA he hv hR
  go_enter Tryz.func23, Tryz.ntmps23
  go_wp2_with fail
  refine HB.out.mono ?_
  rintro e w1 ⟨rfl, hb1⟩
  have HB1 := Lib.hid (HA.out.trans (hb1.mono HA.out.size))
  clear hb1
  go_wp2_with fail
  go_ret2
  exact ⟨rfl, HB1.out⟩
end Go.Proofs.YtaonadgelkdbcaaGreatDoor
