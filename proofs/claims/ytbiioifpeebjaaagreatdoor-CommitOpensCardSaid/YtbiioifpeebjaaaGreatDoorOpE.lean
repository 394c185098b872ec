/- The secrets of the law CommitOpens: their signatures, public keys; what opens its locks. -/
import Derived.Test.YtbiioifpeebjaaaGreatDoorOpX
set_option linter.all false
namespace Go.Proofs.YtbiioifpeebjaaaGreatDoor
open Go.RowKit

def sfT (k : ByteArray) : ByteArray := ⟨#[83] ++ k.data ++ #[116, 49, 58, 109]⟩
def pubS (s : ByteArray) : ByteArray := match right s.data.toList with
  | some x => (match pieces s x.kids with | k :: _ => bs (keyF k.size k.data.toList) | [] => ⟨#[]⟩)
  | none => ⟨#[]⟩
theorem ver_of {s k pb : ByteArray} (h : (right s.data.toList).map (fun x => (byte s.data.toList 0, pieces s x.kids)) = some (83, [k, msgT])) (hs : s.size ≤ 1000000) (hk : k.size ≤ 16384) (hr : rightB k.data.toList = true) (hp : bs (keyF k.size k.data.toList) = pb) : VerOk s pb msgT := fun p W hW => by
  obtain ⟨x, hx, he⟩ := Option.map_eq_some_iff.1 h
  injection he with e1 e2
  exact verify_any p msgT s k pb x W hs hx e1 e2 hW hk hr hp
set_option maxRecDepth 100000 in
set_option maxHeartbeats 4000000 in
theorem sign_of {k s : ByteArray} (hk : k.size ≤ 1000) (hb : buildE ⟨#[83]⟩ [k, msgT] = (0, s.data.toList)) : SignOk k s := fun w hv => by
  have hal : Below w.heap.size w (w.alloc (.cells #[.string k, .string ⟨#[116, 49, 58, 109]⟩] 28)) := (Below.refl _ _).alloc (Nat.le_refl _) _
  have hC : Cells (w.alloc (.cells #[.string k, .string ⟨#[116, 49, 58, 109]⟩] 28)) (some ⟨w.heap.size, 0, none⟩) (strs [k, msgT]) := fun _ => ⟨_, rfl, fun j u hj => by
    match j, hj with
    | 0, hj => injection hj with hj; subst hj; exact alloc_cells 0 _ rfl
    | 1, hj => injection hj with hj; subst hj; exact alloc_cells 1 _ rfl⟩
  have hfl : (flat [k, msgT]).length = k.size + 4 := by
    unfold flat
    simp only [List.map_cons, List.map_nil, List.flatten_cons, List.flatten_nil, List.length_append, Array.length_toList]
    rfl
  have h1 := build_any ⟨#[83]⟩ [k, msgT] (some ⟨w.heap.size, 0, none⟩) 2 _ (by rw [hfl]; show 1 + (k.size + 4) ≤ 1000000; omega) (by simp) hC (hv.below hal)
  rw [hb] at h1
  unfold tupE at h1
  simp only at h1
  rw [show (⟨s.data.toList.toArray⟩ : ByteArray) = s from (str_eq s).symm] at h1
  have HB := Lib.hid h1
  have HA := Lib.hid hal
  clear hal hC hv hb h1 hfl
  go_enter Tryz.func26, Tryz.ntmps26
  go_wp2_with fail
  refine HB.out.mono ?_
  rintro e w1 ⟨rfl, hb1⟩
  have HB1 := Lib.hid (HA.out.trans (hb1.mono HA.out.size)); clear hb1
  go_wp2_with fail
  exact bodyPost_ret (v := .tuple #[.string s, .int .i64 0]) (by simp [results, Tryz.results26, go_sem]) rfl ⟨rfl, HB1.out⟩
theorem sg_n1 : SignOk ⟨#[110, 49, 59]⟩ (sfT ⟨#[110, 49, 59]⟩) ∧ VerOk (sfT ⟨#[110, 49, 59]⟩) (pubS (sfT ⟨#[110, 49, 59]⟩)) msgT := ⟨sign_of (by decide) (by kernel_rfl), ver_of (k := ⟨#[110, 49, 59]⟩) (by kernel_rfl) (by decide) (by decide) (by kernel_rfl) (by kernel_rfl)⟩
theorem sg_n2 : SignOk ⟨#[110, 50, 59]⟩ (sfT ⟨#[110, 50, 59]⟩) ∧ VerOk (sfT ⟨#[110, 50, 59]⟩) (pubS (sfT ⟨#[110, 50, 59]⟩)) msgT := ⟨sign_of (by decide) (by kernel_rfl), ver_of (k := ⟨#[110, 50, 59]⟩) (by kernel_rfl) (by decide) (by decide) (by kernel_rfl) (by kernel_rfl)⟩
theorem sg_n3 : SignOk ⟨#[110, 51, 59]⟩ (sfT ⟨#[110, 51, 59]⟩) ∧ VerOk (sfT ⟨#[110, 51, 59]⟩) (pubS (sfT ⟨#[110, 51, 59]⟩)) msgT := ⟨sign_of (by decide) (by kernel_rfl), ver_of (k := ⟨#[110, 51, 59]⟩) (by kernel_rfl) (by decide) (by decide) (by kernel_rfl) (by kernel_rfl)⟩
theorem sg_n4 : SignOk ⟨#[110, 52, 59]⟩ (sfT ⟨#[110, 52, 59]⟩) ∧ VerOk (sfT ⟨#[110, 52, 59]⟩) (pubS (sfT ⟨#[110, 52, 59]⟩)) msgT := ⟨sign_of (by decide) (by kernel_rfl), ver_of (k := ⟨#[110, 52, 59]⟩) (by kernel_rfl) (by decide) (by decide) (by kernel_rfl) (by kernel_rfl)⟩
theorem sg_n5 : SignOk ⟨#[110, 53, 59]⟩ (sfT ⟨#[110, 53, 59]⟩) ∧ VerOk (sfT ⟨#[110, 53, 59]⟩) (pubS (sfT ⟨#[110, 53, 59]⟩)) msgT := ⟨sign_of (by decide) (by kernel_rfl), ver_of (k := ⟨#[110, 53, 59]⟩) (by kernel_rfl) (by decide) (by decide) (by kernel_rfl) (by kernel_rfl)⟩
theorem sg_n6 : SignOk ⟨#[110, 54, 59]⟩ (sfT ⟨#[110, 54, 59]⟩) ∧ VerOk (sfT ⟨#[110, 54, 59]⟩) (pubS (sfT ⟨#[110, 54, 59]⟩)) msgT := ⟨sign_of (by decide) (by kernel_rfl), ver_of (k := ⟨#[110, 54, 59]⟩) (by kernel_rfl) (by decide) (by decide) (by kernel_rfl) (by kernel_rfl)⟩
theorem sg_v : SignOk ⟨#[86, 110, 49, 59, 110, 50, 59]⟩ (sfT ⟨#[86, 110, 49, 59, 110, 50, 59]⟩) ∧ VerOk (sfT ⟨#[86, 110, 49, 59, 110, 50, 59]⟩) (pubS (sfT ⟨#[86, 110, 49, 59, 110, 50, 59]⟩)) msgT := ⟨sign_of (by decide) (by kernel_rfl), ver_of (k := ⟨#[86, 110, 49, 59, 110, 50, 59]⟩) (by kernel_rfl) (by decide) (by decide) (by kernel_rfl) (by kernel_rfl)⟩
def ownerS : List ByteArray := [⟨#[110, 51, 59]⟩, ⟨#[110, 52, 59]⟩]
theorem owner_ok : (∀ k ∈ ownerS, SignOk k (sfT k)) ∧ ∀ k ∈ ownerS, VerOk (sfT k) (pubS (sfT k)) msgT := by
  constructor <;> intro k hk <;> simp only [ownerS, List.mem_cons, List.not_mem_nil, or_false] at hk
  · rcases hk with rfl | rfl
    · exact sg_n3.1
    · exact sg_n4.1
  · rcases hk with rfl | rfl
    · exact sg_n3.2
    · exact sg_n4.2
theorem owner_pub : (ownerS.map sfT).map pubS = [⟨#[80, 110, 51, 59]⟩, ⟨#[80, 110, 52, 59]⟩] := by kernel_rfl
def otherS : List ByteArray := [⟨#[110, 53, 59]⟩, ⟨#[110, 54, 59]⟩]
theorem other_ok : (∀ k ∈ otherS, SignOk k (sfT k)) ∧ ∀ k ∈ otherS, VerOk (sfT k) (pubS (sfT k)) msgT := by
  constructor <;> intro k hk <;> simp only [otherS, List.mem_cons, List.not_mem_nil, or_false] at hk
  · rcases hk with rfl | rfl
    · exact sg_n5.1
    · exact sg_n6.1
  · rcases hk with rfl | rfl
    · exact sg_n5.2
    · exact sg_n6.2
theorem other_pub : (otherS.map sfT).map pubS = [⟨#[80, 110, 53, 59]⟩, ⟨#[80, 110, 54, 59]⟩] := by kernel_rfl
def revkS : List ByteArray := [⟨#[86, 110, 49, 59, 110, 50, 59]⟩]
theorem revk_ok : (∀ k ∈ revkS, SignOk k (sfT k)) ∧ ∀ k ∈ revkS, VerOk (sfT k) (pubS (sfT k)) msgT := by
  constructor <;> intro k hk <;> simp only [revkS, List.mem_cons, List.not_mem_nil, or_false] at hk
  · rcases hk with rfl
    exact sg_v.1
  · rcases hk with rfl
    exact sg_v.2
theorem revk_pub : (revkS.map sfT).map pubS = [⟨#[87, 80, 110, 49, 59, 80, 110, 50, 59]⟩] := by kernel_rfl
def twoS : List ByteArray := [⟨#[110, 49, 59]⟩, ⟨#[110, 50, 59]⟩]
theorem two_ok : (∀ k ∈ twoS, SignOk k (sfT k)) ∧ ∀ k ∈ twoS, VerOk (sfT k) (pubS (sfT k)) msgT := by
  constructor <;> intro k hk <;> simp only [twoS, List.mem_cons, List.not_mem_nil, or_false] at hk
  · rcases hk with rfl | rfl
    · exact sg_n1.1
    · exact sg_n2.1
  · rcases hk with rfl | rfl
    · exact sg_n1.2
    · exact sg_n2.2
theorem two_pub : (twoS.map sfT).map pubS = [⟨#[80, 110, 49, 59]⟩, ⟨#[80, 110, 50, 59]⟩] := by kernel_rfl
def oneS : List ByteArray := [⟨#[110, 49, 59]⟩]
theorem one_ok : (∀ k ∈ oneS, SignOk k (sfT k)) ∧ ∀ k ∈ oneS, VerOk (sfT k) (pubS (sfT k)) msgT := by
  constructor <;> intro k hk <;> simp only [oneS, List.mem_cons, List.not_mem_nil, or_false] at hk
  · rcases hk with rfl
    exact sg_n1.1
  · rcases hk with rfl
    exact sg_n1.2
theorem one_pub : (oneS.map sfT).map pubS = [⟨#[80, 110, 49, 59]⟩] := by kernel_rfl
def hsT (x : ByteArray) : ByteArray := ⟨#[72] ++ x.data⟩
theorem hash_n9 : HashOk ⟨#[110, 57, 59]⟩ (hsT ⟨#[110, 57, 59]⟩) := fun W hW => by
  have h := hash_any ⟨#[110, 57, 59]⟩ W (by decide) hW
  have e : oneE 72 (⟨#[110, 57, 59]⟩ : ByteArray).data.toList = (0, [72, 110, 57, 59]) := by kernel_rfl
  rw [e] at h
  exact h
def preT (b : Bool) : ByteArray := if b then ⟨#[110, 57, 59]⟩ else ⟨#[]⟩
theorem pr_false : prOf (preT false) = [] := by unfold prOf; rw [if_pos (by rw [Go.ByteArray.toList_eq]; rfl)]
theorem pr_true : prOf (preT true) = [⟨#[110, 57, 59]⟩] := by unfold prOf; rw [if_neg (by rw [Go.ByteArray.toList_eq]; decide)]; rfl
theorem pre_ok (b : Bool) : ∀ x ∈ prOf (preT b), HashOk x (hsT x) := fun x hx => by
  cases b with
  | false => rw [pr_false] at hx; cases hx
  | true =>
    rw [pr_true] at hx
    rw [List.mem_singleton.1 hx]; exact hash_n9
theorem pre_hs (b : Bool) : (prOf (preT b)).map hsT = if b then [⟨#[72, 110, 57, 59]⟩] else [] := by
  cases b with
  | false => rw [pr_false]; rfl
  | true => rw [pr_true]; kernel_rfl
end Go.Proofs.YtbiioifpeebjaaaGreatDoor
