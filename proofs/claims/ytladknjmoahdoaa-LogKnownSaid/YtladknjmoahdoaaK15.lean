/- Read. -/
import Derived.Test.YtladknjmoahdoaaK14
set_option linter.all false
namespace Go.Proofs.Ytladknjmoahdoaa
open Go.RowKit

/-- What is read: nothing, or a page in a new block. -/
def ReadV (w : World) (o : Option PageT) (v : Value) (w' : World) : Prop :=
  match o with
  | none => v = .slice none 0 0 ∧ w' = w
  | some q => ∃ g, v = .slice (some ⟨g, 0, none⟩) 256 256 ∧ w'.heap[g]? = some (.cells (pgC q) 75) ∧ w.heap.size ≤ g ∧ Below w.heap.size w w'
theorem ReadV.below {w w' : World} {o : Option PageT} {v : Value} (h : ReadV w o v w') : Below w.heap.size w w' := by
  cases o with
  | none => rw [h.2]; exact Below.refl _ _
  | some q => obtain ⟨g, -, -, -, hb⟩ := h; exact hb
theorem ReadV.shape {w w' : World} {o : Option PageT} {v : Value} (h : ReadV w o v w') : ∃ A n, v = .slice A n n ∧ n ≤ 256 ∧ n = (match o with | none => 0 | some _ => 256) ∧ Cells w' A (match o with | none => [] | some q => bv q.b) := by
  cases o with
  | none => exact ⟨none, 0, h.1, by omega, rfl, Cells.nil _ _⟩
  | some q =>
    obtain ⟨g, rfl, hh, -, -⟩ := h
    refine ⟨_, 256, rfl, Nat.le_refl _, rfl, fun _ => ⟨_, rfl, fun j u hj => ?_⟩⟩
    rw [Addr.add_mid, Nat.zero_add]
    exact cell_of hh (by unfold pgC; simpa using hj)
set_option maxRecDepth 100000 in
set_option maxHeartbeats 4000000 in
theorem read_any (p m : Nat) (sb : Option Nat) (es : List (ByteArray × FileM)) (d : DiskT) (name : ByteArray) (at_ : Int) (w : World) (h : DiskAt w p m sb es d) (hi : Inv d) :
    Calls Try.prog 42 #[.pointer (some ⟨p, 0, none⟩), .string name, .int .i64 at_] w fun e w' => ∃ v, e = .returned (.tuple #[v, .int .i64 (readD d name at_).1]) ∧ ReadV w (readD d name at_).2 v w' := by
  have hcs := findV_cases d es name h.eq
  have hF := find_any h name
  have HH := Lib.hid h
  have HI := Lib.hid hi
  have hzp := zero_page
  clear h hi
  rcases hcs with ⟨err, hv, hf, her⟩ | ⟨x, hx, hgd, hv, hf⟩
  · have HR := Lib.hid (show readD d name at_ = (err, none) by unfold readD; rw [hf])
    rw [hv] at hF
    have HF := Lib.hid hF
    have HE := Lib.hid (show ¬ err = 0 by omega)
    have he0 : (err == 0) = false := by have := HE.out; simpa using this
    clear hv hf her hF
    go_enter Try.func42, Try.ntmps42
    go_wp2_with fail
    refine HF.out.mono ?_
    rintro e w' ⟨rfl, rfl⟩
    go_wp2_with fail
    all_goals first
      | (go_ret2; rw [HR.out]; exact ⟨_, rfl, rfl, rfl⟩)
      | (exfalso; exact HE.out (by omega))
  · rw [hv] at hF
    have HF := Lib.hid hF
    unfold encF at HF
    have hfa := HH.out.files _ (mget_mem hx)
    dsimp only at hfa
    obtain ⟨f0, -, -⟩ := hfa.cell
    obtain ⟨An, cn, hvn, -, -⟩ := own_shape hfa.now
    obtain ⟨n, hn⟩ : ∃ n, x.f.now.length = n := ⟨_, rfl⟩
    have hown := hfa.now
    rw [hn] at hvn hown
    rw [hvn] at f0 hown
    have HN := Lib.hid hn
    have HO := Lib.hid hown
    have HFD := Lib.hid hf
    have hnl : n ≤ 65536 := by have h1 := HI.out.get_le hgd; have h2 := HI.out.within; have h3 := HI.out.quota; omega
    clear hv hf hF hfa hvn hn hown hgd
    by_cases hneg : at_ < 0
    · have HR := Lib.hid (show readD d name at_ = (92, none) by unfold readD; rw [HFD.out]; simp only; rw [if_pos hneg])
      go_enter Try.func42, Try.ntmps42
      go_wp2_with fail
      refine HF.out.mono ?_
      rintro e w' ⟨rfl, rfl⟩
      go_wp2_with fail
      go_ret2
      rw [HR.out]
      exact ⟨_, rfl, rfl, rfl⟩
    · obtain ⟨k, hk⟩ : ∃ k : Nat, at_ = (k : Int) := ⟨at_.toNat, by omega⟩
      subst hk
      clear hneg
      have hneg : decide ((k : Int) < 0) = false := decide_eq_false (by omega)
      by_cases hkn : n ≤ k
      · have g1 : decide ((k : Int) ≥ (n : Int)) = true := decide_eq_true (by omega)
        have HR := Lib.hid (show readD d name k = (92, none) by
          unfold readD; rw [HFD.out]; simp only; rw [if_neg (by omega), Int.toNat_natCast, List.getElem?_eq_none (by rw [HN.out]; exact hkn)])
        have hkI : (n : Int) ≤ (k : Int) := by omega
        go_enter Try.func42, Try.ntmps42
        go_wp2_with fail
        refine HF.out.mono ?_
        rintro e w' ⟨rfl, rfl⟩
        go_wp2_with fail
        go_ret2
        rw [HR.out]
        exact ⟨_, rfl, rfl, rfl⟩
      · have g1 : decide ((k : Int) ≥ (n : Int)) = false := decide_eq_false (by omega)
        have hlt : k < x.f.now.length := by rw [HN.out]; omega
        have HR := Lib.hid (show readD d name k = (0, some x.f.now[k]) by
          unfold readD; rw [HFD.out]; simp only; rw [if_neg (by omega), Int.toNat_natCast, List.getElem?_eq_getElem hlt])
        obtain ⟨g, c', hv, -⟩ := own_nil HO.out (by omega)
        injection hv with hA _ hc
        subst hA; subst hc
        have hrg := row_range (f := pgL) pgL_len HO.out HN.out (i := k) (by omega)
        obtain ⟨q, hq⟩ : ∃ q, x.f.now[k] = q := ⟨_, rfl⟩
        rw [hq] at hrg HR
        have HRG := Lib.hid (show w.rangeAt g (k * 256) (pgC q).toList from hrg)
        have gk : k < n := by omega
        have gk' : ((k : Int) < (n : Int)) := by omega
        clear hrg hq hlt hkn
        go_enter Try.func42, Try.ntmps42
        go_wp2_with fail
        refine HF.out.mono ?_
        rintro e w' ⟨rfl, rfl⟩
        go_wp2_with (first
          | (refine wpList_loadW rfl 75 _ rfl g (k * 256) rfl (pgC q) HRG.out Try.underlying75 rfl (by rw [pgC_size]; exact page_size) ?_)
          | (refine wpList_store_new rfl 75 _ _ rfl w (pgC zeroP) 75 (pgC q) rfl rfl rfl (by rw [pgC_size]; exact page_size) (by rw [pgC_size, pgC_size]) (pgC_all q) ?_))
        go_ret2
        rw [HR.out]
        exact ⟨_, rfl, w.heap.size, rfl, Go.heap_alloc_new w _, Nat.le_refl _, one_below w _⟩
end Go.Proofs.Ytladknjmoahdoaa
