/- Open: a term taken apart. · Public keys. -/
import Derived.Test.YtaonadgelkdbcaaGreatDoorQ11
import Derived.Deep.DrawnRows
import Derived.Deep.DeepCutAuto
import Derived.Deep.RegionWith
namespace Go.Proofs.YtaonadgelkdbcaaGreatDoor
open Go.RowKit

def partsV (op n : Int) (text : ByteArray) (ks : Value) : Value := .agg #[.int .u8 op, .int .i64 n, .string text, ks]
/-- A whole value of four cells stored. -/
def put4 (w : World) (g : Nat) (a b c d : Value) : World := (((w.setCell ⟨g, 0, none⟩ a).setCell ⟨g, 1, none⟩ b).setCell ⟨g, 2, none⟩ c).setCell ⟨g, 3, none⟩ d
theorem put4_at {w : World} {g : Nat} {x0 x1 x2 x3 : Value} {T : TypeId} {z : Nat × Nat} (h : w.heap[g]? = some (.cells #[x0, x1, x2, x3] T z)) (a b c d : Value) : (put4 w g a b c d).heap[g]? = some (.cells #[a, b, c, d] T z) := by
  unfold put4
  rw [setCell_cells (setCell_cells (setCell_cells (setCell_cells h 0 a) 1 b) 2 c) 3 d]
  rfl
theorem put4_fr (w : World) (g : Nat) (a b c d : Value) {F : List Nat} (hg : g ∈ F) : Fr F w (put4 w g a b c d) := by
  unfold put4
  exact (((Fr.put0 w g 0 a hg).trans (Fr.put0 _ g 1 b hg) (fun _ h _ => h)).trans (Fr.put0 _ g 2 c hg) (fun _ h _ => h)).trans (Fr.put0 _ g 3 d hg) (fun _ h _ => h)
def PartsAt (w : World) (b : Nat) (op n : Int) (text : ByteArray) (ks : Value) : Prop := w.heap[b]? = some (.cells #[.int .u8 op, .int .i64 n, .string text, ks] 88 (0, 0))
theorem PartsAt.cells {w : World} {b : Nat} {op n : Int} {text : ByteArray} {ks : Value} (h : PartsAt w b op n text ks) : w.cell? ⟨b, 0, none⟩ = some (.int .u8 op) ∧ w.cell? ⟨b, 1, none⟩ = some (.int .i64 n) ∧ w.cell? ⟨b, 2, none⟩ = some (.string text) ∧ w.cell? ⟨b, 3, none⟩ = some ks ∧ ∀ j, w.frozen? ⟨b, j, none⟩ = false := by
  unfold PartsAt at h
  refine ⟨by simp [World.cell?, h], by simp [World.cell?, h], by simp [World.cell?, h], by simp [World.cell?, h], fun j => by simp [World.frozen?, h]⟩
theorem PartsAt.fr {F : List Nat} {w w' : World} {b : Nat} {op n : Int} {text : ByteArray} {ks : Value} (h : PartsAt w b op n text ks) (hf : Fr F w w') (hb : b ∉ F) : PartsAt w' b op n text ks := (hf.block b (lt_of_block h) hb).trans h
theorem own_ne_parts {w : World} {base k m b : Nat} {E : TypeId} {v ks : Value} {xs : List Value} {op num : Int} {text : ByteArray} (h : w.ownsRow base E k v m xs) (hE : E ≠ 88) (hr : PartsAt w b op num text ks) : ∀ g, v.ownBlock = some g → g ≠ b := fun g hg e => by
  obtain ⟨cur, hc⟩ := row_kind h hg
  subst e
  unfold PartsAt at hr
  rw [hr] at hc
  injection hc with hc
  injection hc with h1 h2
  exact hE h2.symm
/-- What Open tells. -/
def OpenP (s : ByteArray) (w : World) (e : Ending) (w' : World) : Prop :=
  match right s.data.toList with
  | some x => ∃ A cap, e = .returned (.tuple #[partsV (byte s.data.toList 0).toNat x.num (textOf s (byte s.data.toList 0) x) (.slice A (pieces s x.kids).length cap), .bool true]) ∧ Cells w' A (strs (pieces s x.kids)) ∧ Below w.heap.size w w'
  | none => ∃ A cap, e = .returned (.tuple #[partsV 0 0 ⟨#[]⟩ (.slice A 0 cap), .bool false]) ∧ Below w.heap.size w w'
set_option maxRecDepth 100000 in
set_option maxHeartbeats 8000000 in
theorem open_gen (s : ByteArray) (ok : Bool) (op n deep : Int) (text : ByteArray) (m : Nat) (xs : List Value) (w : World)
    (hR : ∀ W, Below w.heap.size w W → Calls Tryz.prog 55 #[.string s] W fun e w' => ∃ A cap, e = .returned (.tuple #[shapeV op n text (.slice A m cap) deep, .bool ok]) ∧ w'.ownsRow 0 29 1 (.slice A m cap) m xs ∧ Below W.heap.size W w') :
    Calls Tryz.prog 66 #[.string s] w fun e w' => ∃ A cap, e = .returned (.tuple #[partsV op n text (.slice A m cap), .bool ok]) ∧ Cells w' A xs ∧ Below w.heap.size w w' := by
  have hbA : Below w.heap.size w (w.alloc (.cells #[.int .u8 0, .int .i64 0, .string ⟨#[]⟩, .slice none 0 0] 88)) := (Below.refl _ _).alloc (Nat.le_refl _) _
  have hz : PartsAt (w.alloc (.cells #[.int .u8 0, .int .i64 0, .string ⟨#[]⟩, .slice none 0 0] 88)) w.heap.size 0 0 ⟨#[]⟩ (.slice none 0 0) := Go.heap_alloc_new w _
  have HR := Lib.hid (hR _ hbA)
  unfold shapeV at HR
  have HB := Lib.hid hbA
  have HZ := Lib.hid hz
  clear hbA hz hR
  go_enter Tryz.func66, Tryz.ntmps66
  go_wp2_with fail
  refine HR.out.mono ?_
  rintro e w1 ⟨A, cap, rfl, hc1, hb1⟩
  have hb2 : Below w1.heap.size w1 (w1.alloc (.cells #[.int .u8 op, .int .i64 n, .string text, .slice A m cap, .int .i64 deep] 90)) := (Below.refl _ _).alloc (Nat.le_refl _) _
  have hz2 := (HZ.out.fr (Fr.below (F := []) hb1) (by simp)).fr (Fr.below (F := []) hb2) (by simp)
  have hB2 := (HB.out.trans (hb1.mono HB.out.size)).trans (hb2.mono (Nat.le_trans HB.out.size hb1.size))
  have hc2 := own_below hc1 hb2
  obtain ⟨z0, z1, z2, z3, zf⟩ := hz2.cells
  have HZ2 := Lib.hid hz2
  have HB2 := Lib.hid hB2
  have HC2 := Lib.hid hc2
  clear hz2 hB2 hc2 hc1 hb1 hb2
  go_wp2_with fail
  change bodyPost _ _ _ _ _ (put4 (w1.alloc (.cells #[.int .u8 op, .int .i64 n, .string text, .slice A m cap, .int .i64 deep] 90)) w.heap.size (.int .u8 op) (.int .i64 n) (.string text) (.slice A m cap))
  have hA := put4_at HZ2.out (.int .u8 op) (.int .i64 n) (.string text) (.slice A m cap)
  have hF := HB2.out.trans ((put4_fr _ w.heap.size (.int .u8 op) (.int .i64 n) (.string text) (.slice A m cap) (F := [w.heap.size]) (List.mem_singleton.2 rfl)).toBelowOf (B := w.heap.size) HB2.out.size (fun i hi => by simp at hi; omega))
  have hro := own_fr HC2.out (put4_fr _ w.heap.size (.int .u8 op) (.int .i64 n) (.string text) (.slice A m cap) (F := [w.heap.size]) (List.mem_singleton.2 rfl)) (fun g hg => by simpa using own_ne_parts HC2.out (by decide) HZ2.out g hg)
  generalize put4 (w1.alloc (.cells #[.int .u8 op, .int .i64 n, .string text, .slice A m cap, .int .i64 deep] 90)) w.heap.size (.int .u8 op) (.int .i64 n) (.string text) (.slice A m cap) = Wf at hA hF hro ⊢
  obtain ⟨r0, r1, r2, r3, -⟩ := PartsAt.cells (show PartsAt Wf w.heap.size op n text (.slice A m cap) from hA)
  exact bodyPost_ret (v := .tuple #[partsV op n text (.slice A m cap), .bool ok]) (by simp [results, Tryz.results66, go_sem, r0, r1, r2, r3, partsV]) rfl ⟨A, cap, rfl, cells_of_own hro, hF⟩
theorem open_any (s : ByteArray) (w : World) (hs : s.size ≤ 1000000) (hv : VarsOk w) : Calls Tryz.prog 66 #[.string s] w (OpenP s w) := by
  have hR := fun W (hW : Below w.heap.size w W) => read_any s W hs (hv.below hW)
  unfold ReadP at hR
  unfold OpenP
  cases hq : right s.data.toList with
  | none =>
    simp only [hq] at hR
    refine (open_gen s false 0 0 0 ⟨#[]⟩ 0 [] w fun W hW => (hR W hW).mono ?_).mono ?_
    · rintro e w' ⟨rfl, hb⟩
      exact ⟨none, 0, rfl, World.ownsRow_nil _ _ _ _, hb⟩
    · rintro e w' ⟨A, cap, he, -, hb⟩
      exact ⟨A, cap, he, hb⟩
  | some x =>
    simp only [hq] at hR
    refine (open_gen s true ((byte s.data.toList 0).toNat : Int) x.num x.deep (textOf s (byte s.data.toList 0) x) (pieces s x.kids).length (strs (pieces s x.kids)) w fun W hW => (hR W hW).mono ?_).mono ?_
    · rintro e w' ⟨⟨A, cap, rfl, ho⟩, hb⟩
      exact ⟨A, cap, rfl, ho, hb⟩
    · rintro e w' h
      exact h
end Go.Proofs.YtaonadgelkdbcaaGreatDoor

namespace Go.Proofs.YtaonadgelkdbcaaGreatDoor
open Go.RowKit
attribute [local go_sem ↓] Go.wp_at_zero Go.wp_at_succ

def bs (l : List UInt8) : ByteArray := ⟨l.toArray⟩
theorem bs_list (l : List UInt8) : (bs l).data.toList = l := by simp [bs]
theorem bs_of (s : ByteArray) : bs s.data.toList = s := (str_eq s).symm
theorem bs_append (a b : List UInt8) : bs a ++ bs b = bs (a ++ b) := by
  have h : (bs a ++ bs b).data.toList = (bs (a ++ b)).data.toList := by rw [ByteArray.data_append, Array.toList_append, bs_list, bs_list, bs_list]
  rw [← bs_of (bs a ++ bs b), h, bs_list]
theorem bs_bind (k : List UInt8) (t : ByteArray) : bs [76] ++ bs k ++ t = bs (76 :: (k ++ t.data.toList)) := by
  have h := bs_append (76 :: k) t.data.toList
  rw [bs_of] at h
  rw [bs_append]
  exact h
/-- What holds while a key is made: the parts in block b, their row. -/
structure KeyInv (w : World) (b : Nat) (A : Option Addr) (l : List ByteArray) (cap : Nat) (W : World) : Prop where
  below : Below w.heap.size w W
  vars : VarsOk W
  ks : W.cell? ⟨b, 3, none⟩ = some (.slice A l.length cap)
  row : Cells W A (strs l)
theorem KeyInv.next {w W W' : World} {b cap : Nat} {A : Option Addr} {l : List ByteArray} (h : KeyInv w b A l cap W) (hb : Below W.heap.size W W') : KeyInv w b A l cap W' :=
  ⟨h.below.trans (hb.mono h.below.size), h.vars.below hb, cell_below hb h.ks, Cells.below h.row hb⟩
theorem KeyInv.drew {w W : World} {b cap : Nat} {A : Option Addr} {l : List ByteArray} (h : KeyInv w b A l cap W) : KeyInv w b A l cap W.drew :=
  ⟨⟨h.below.os, h.below.tape, h.below.output, h.below.size, h.below.block⟩, h.vars, h.ks, h.row⟩
theorem KeyInv.first {w W : World} {b cap : Nat} {A : Option Addr} {l : List ByteArray} (h : KeyInv w b A l cap W) (h0 : 0 < l.length) : ∃ ad, A = some ad ∧ W.cell? ad = some (.string l[0]) := by
  obtain ⟨ad, he, hc⟩ := strs_at h.row h0
  exact ⟨ad, he, by rw [show ad.add 0 = ad by simp [Addr.add]] at hc; exact hc⟩
theorem KeyInv.cells {w W : World} {b cap : Nat} {ad : Addr} {l : List ByteArray} (h : KeyInv w b (some ad) l cap W) (h0 : 1 < l.length) : W.cell? ⟨b, 3, none⟩ = some (.slice (some ad) l.length cap) ∧ W.cell? ad = some (.string l[0]) ∧ W.cell? ⟨ad.block, ad.off + 1, none⟩ = some (.string l[1]) := by
  obtain ⟨ad', he, hc⟩ := strs_at h.row (show 0 < l.length by omega)
  obtain rfl := Option.some.inj he
  obtain ⟨ad', he, hc1⟩ := strs_at h.row h0
  obtain rfl := Option.some.inj he
  refine ⟨h.ks, ?_, hc1⟩
  rw [show ad.add 0 = ad by simp [Addr.add]] at hc; exact hc
set_option maxRecDepth 100000 in
set_option maxHeartbeats 8000000 in
theorem key_plain (s : ByteArray) (w : World) (hsz : s.size ≤ 1000000) (hs : 0 < s.size) (h1 : byte s.data.toList 0 ≠ 86) (h2 : byte s.data.toList 0 ≠ 75) :
    Calls Tryz.prog 44 #[.string s] w fun e w' => e = .returned (.string (bs (80 :: s.data.toList))) ∧ Below w.heap.size w w' := by
  have hix := fun W => index_term0 hs W
  have he : bs [80] ++ s = bs (80 :: s.data.toList) := by
    have := bs_append [80] s.data.toList
    rw [bs_of] at this
    exact this
  have HE := Lib.hid he
  obtain ⟨x, hx⟩ : ∃ x : Int, ((byte s.data.toList 0).toNat : Int) = x := ⟨_, rfl⟩
  have g1 : (x != 86) = true := bne_iff_ne.2 fun h => h1 ((opb hx 86).2 h)
  have g2 : (x != 75) = true := bne_iff_ne.2 fun h => h2 ((opb hx 75).2 h)
  simp only [hx] at hix
  clear h1 h2 hx he
  go_enter Tryz.func44, Tryz.ntmps44
  go_wp2_with fail
  go_ret
  rw [← HE.out]
  exact ⟨rfl, Below.refl _ _⟩
set_option maxRecDepth 100000 in
set_option maxHeartbeats 8000000 in
theorem key_join (s : ByteArray) (x : Cut) (k0 k1 : List UInt8) (T0 T1 : ByteArray) (w : World) (hsz : s.size ≤ 1000000) (hq : right s.data.toList = some x) (hb : byte s.data.toList 0 = 86) (hp : pieces s x.kids = [T0, T1]) (hv : VarsOk w) (hk0 : k0.length ≤ 200000) (hk1 : k1.length ≤ 200000)
    (H0 : ∀ W, VarsOk W → Calls Tryz.prog 44 #[.string T0] W fun e w' => e = .returned (.string (bs k0)) ∧ Below W.heap.size W w')
    (H1 : ∀ W, VarsOk W → Calls Tryz.prog 44 #[.string T1] W fun e w' => e = .returned (.string (bs k1)) ∧ Below W.heap.size W w') :
    Calls Tryz.prog 44 #[.string s] w fun e w' => e = .returned (.string (bs (87 :: (k0 ++ k1)))) ∧ Below w.heap.size w w' := by
  have hs : 0 < s.size := right_pos hq
  have hix := fun W => index_term0 hs W
  rw [hb] at hix
  have hO := open_any s w hsz hv
  unfold OpenP at hO
  rw [hq, hb] at hO
  simp only at hO
  rw [hp] at hO
  unfold partsV at hO
  have HO := Lib.hid hO
  have HE := Lib.hid (show bs [87] ++ bs k0 ++ bs k1 = bs (87 :: (k0 ++ k1)) by rw [bs_append, bs_append]; rfl)
  have HV := Lib.hid hv
  have HK0 := Lib.hid H0
  have HK1 := Lib.hid H1
  clear hO hb hp hv hq H0 H1
  go_enter Tryz.func44, Tryz.ntmps44
  go_wp2_with fail
  refine HO.out.mono ?_
  rintro e w1 ⟨A, cap, rfl, hc1, hb1⟩
  obtain ⟨W, hW⟩ : ∃ W, w1.alloc (.cells #[.int .u8 86, .int .i64 (x.num : Int), .string (textOf s 86 x), .slice A 2 cap] 88) = W := ⟨_, rfl⟩
  have hI : KeyInv w w1.heap.size A [T0, T1] cap W := by
    have hb2 : Below w1.heap.size w1 W := by rw [← hW]; exact (Below.refl _ _).alloc (Nat.le_refl _) _
    refine ⟨hb1.trans (hb2.mono hb1.size), (HV.out.below hb1).below hb2, ?_, Cells.below hc1 hb2⟩
    rw [← hW]; exact alloc_cells 3 _ rfl
  have q0 : W.cell? ⟨w1.heap.size, 0, none⟩ = some (.int .u8 86) := by rw [← hW]; exact alloc_cells 0 _ rfl
  obtain ⟨ad, rfl, -⟩ := hI.first (by simp)
  obtain ⟨a0, a1, a2⟩ : W.cell? ⟨w1.heap.size, 3, none⟩ = some (.slice (some ad) 2 cap) ∧ W.cell? ad = some (.string T0) ∧ W.cell? ⟨ad.block, ad.off + 1, none⟩ = some (.string T1) := hI.cells (by simp)
  have HI := Lib.hid hI.drew
  have z0 : (bs k0).size ≤ 200000 := by rw [show (bs k0).size = k0.length by simp [bs, ByteArray.size]]; exact hk0
  have z1 : (bs k1).size ≤ 200000 := by rw [show (bs k1).size = k1.length by simp [bs, ByteArray.size]]; exact hk1
  have z3 : ¬ (9223372036854775807 < 1 + (bs k0).size) := by omega
  have z4 : ¬ (9223372036854775807 < 1 + (bs k0).size + (bs k1).size) := by omega
  clear hc1 hb1 hI
  have HW := Lib.hid hW
  clear hW
  go_wp2_with fail
  rw [HW.out]
  go_region_held3 (fun w' => w'.cell? ⟨w1.heap.size, 3, none⟩ = some (.slice (some ad) 2 cap) ∧ w'.cell? ad = some (.string T0) ∧ w'.cell? ⟨ad.block, ad.off + 1, none⟩ = some (.string T1))
    (first | exact ⟨a0, a1, a2⟩ | exact ⟨b0, b1, b2⟩ | exact ⟨d0, d1, d2⟩)
    (first
      | (go_at_call 44; (with_reducible refine (HK0.out _ HI.out.vars).mono ?_); rintro e wa ⟨rfl, hba⟩; have HI1 := Lib.hid (HI.out.next hba); obtain ⟨b0, b1, b2⟩ : wa.cell? ⟨w1.heap.size, 3, none⟩ = some (.slice (some ad) 2 cap) ∧ wa.cell? ad = some (.string T0) ∧ wa.cell? ⟨ad.block, ad.off + 1, none⟩ = some (.string T1) := HI1.out.cells (by simp); clear hba)
      | (go_at_call 44; (with_reducible refine (HK1.out _ HI1.out.vars).mono ?_); rintro e wb ⟨rfl, hbb⟩; have HI2 := Lib.hid (HI1.out.next hbb); obtain ⟨d0, d1, d2⟩ : wb.cell? ⟨w1.heap.size, 3, none⟩ = some (.slice (some ad) 2 cap) ∧ wb.cell? ad = some (.string T0) ∧ wb.cell? ⟨ad.block, ad.off + 1, none⟩ = some (.string T1) := HI2.out.cells (by simp); clear hbb))
  all_goals (go_wp2_with fail)
  all_goals go_ret
  all_goals exact ⟨by rw [← HE.out]; rfl, HI2.out.below⟩
set_option maxRecDepth 100000 in
set_option maxHeartbeats 8000000 in
theorem key_bind (s : ByteArray) (x : Cut) (k0 : List UInt8) (T0 T1 : ByteArray) (w : World) (hsz : s.size ≤ 1000000) (hq : right s.data.toList = some x) (hb : byte s.data.toList 0 = 75) (hp : pieces s x.kids = [T0, T1]) (hv : VarsOk w) (hk0 : k0.length ≤ 200000) (hk1 : T1.size ≤ 1000000)
    (H0 : ∀ W, VarsOk W → Calls Tryz.prog 44 #[.string T0] W fun e w' => e = .returned (.string (bs k0)) ∧ Below W.heap.size W w') :
    Calls Tryz.prog 44 #[.string s] w fun e w' => e = .returned (.string (bs (76 :: (k0 ++ T1.data.toList)))) ∧ Below w.heap.size w w' := by
  have hs : 0 < s.size := right_pos hq
  have hix := fun W => index_term0 hs W
  rw [hb] at hix
  have hO := open_any s w hsz hv
  unfold OpenP at hO
  rw [hq, hb] at hO
  simp only at hO
  rw [hp] at hO
  unfold partsV at hO
  have HO := Lib.hid hO
  have HE := Lib.hid (bs_bind k0 T1)
  have HV := Lib.hid hv
  have HK0 := Lib.hid H0
  clear hO hb hp hv hq H0
  go_enter Tryz.func44, Tryz.ntmps44
  go_wp2_with fail
  refine HO.out.mono ?_
  rintro e w1 ⟨A, cap, rfl, hc1, hb1⟩
  obtain ⟨W, hW⟩ : ∃ W, w1.alloc (.cells #[.int .u8 75, .int .i64 (x.num : Int), .string (textOf s 75 x), .slice A 2 cap] 88) = W := ⟨_, rfl⟩
  have hI : KeyInv w w1.heap.size A [T0, T1] cap W := by
    have hb2 : Below w1.heap.size w1 W := by rw [← hW]; exact (Below.refl _ _).alloc (Nat.le_refl _) _
    refine ⟨hb1.trans (hb2.mono hb1.size), (HV.out.below hb1).below hb2, ?_, Cells.below hc1 hb2⟩
    rw [← hW]; exact alloc_cells 3 _ rfl
  have q0 : W.cell? ⟨w1.heap.size, 0, none⟩ = some (.int .u8 75) := by rw [← hW]; exact alloc_cells 0 _ rfl
  obtain ⟨ad, rfl, -⟩ := hI.first (by simp)
  obtain ⟨a0, a1, a2⟩ : W.cell? ⟨w1.heap.size, 3, none⟩ = some (.slice (some ad) 2 cap) ∧ W.cell? ad = some (.string T0) ∧ W.cell? ⟨ad.block, ad.off + 1, none⟩ = some (.string T1) := hI.cells (by simp)
  have HI := Lib.hid hI.drew
  have z0 : (bs k0).size ≤ 200000 := by rw [show (bs k0).size = k0.length by simp [bs, ByteArray.size]]; exact hk0
  have z3 : ¬ (9223372036854775807 < 1 + (bs k0).size) := by omega
  have z4 : ¬ (9223372036854775807 < 1 + (bs k0).size + T1.size) := by omega
  clear hc1 hb1 hI
  have HW := Lib.hid hW
  clear hW
  go_wp2_with fail
  rw [HW.out]
  go_region_held3 (fun w' => w'.cell? ⟨w1.heap.size, 3, none⟩ = some (.slice (some ad) 2 cap) ∧ w'.cell? ad = some (.string T0) ∧ w'.cell? ⟨ad.block, ad.off + 1, none⟩ = some (.string T1))
    (first | exact ⟨a0, a1, a2⟩ | exact ⟨b0, b1, b2⟩)
    (first
      | (go_at_call 44; (with_reducible refine (HK0.out _ HI.out.vars).mono ?_); rintro e wa ⟨rfl, hba⟩; have HI1 := Lib.hid (HI.out.next hba); obtain ⟨b0, b1, b2⟩ : wa.cell? ⟨w1.heap.size, 3, none⟩ = some (.slice (some ad) 2 cap) ∧ wa.cell? ad = some (.string T0) ∧ wa.cell? ⟨ad.block, ad.off + 1, none⟩ = some (.string T1) := HI1.out.cells (by simp); clear hba))
  all_goals (go_wp2_with fail)
  all_goals go_ret
  all_goals exact ⟨by rw [← HE.out]; rfl, HI1.out.below⟩
theorem two_kids {s : List UInt8} {x : Cut} (h : right s = some x) (hb : byte s 0 = 86 ∨ byte s 0 = 75) : x.kids.length = 3 := by
  have hne : byte s 0 ≠ 110 ∧ byte s 0 ≠ 116 := by rcases hb with h | h <;> rw [h] <;> decide
  obtain ⟨m, nx, hh, hkl, -, -, -, -⟩ := right_kids h hne.1 hne.2
  have hm : m = 2 := by
    rcases hb with h | h <;> (rw [h] at hh; injection hh with hh; injection hh with hh _; exact hh.symm)
  omega
theorem pieces_two (s : ByteArray) (l : List Nat) (h : l.length = 3) : pieces s l = [s.extract (l.getD 0 0) (l.getD 1 0), s.extract (l.getD 1 0) (l.getD 2 0)] := by
  match l, h with
  | [a, b, c], _ => rfl
/-- The public key of a right term. -/
theorem key_any : ∀ (n : Nat) (s : ByteArray) (w : World), s.size ≤ n → s.size ≤ 16384 → rightB s.data.toList = true → VarsOk w → Calls Tryz.prog 44 #[.string s] w fun e w' => e = .returned (.string (bs (keyF n s.data.toList))) ∧ Below w.heap.size w w'
  | 0, s, w, hn, _, hr, _ => by
    obtain ⟨x, hx⟩ := Option.isSome_iff_exists.1 hr
    have := right_pos hx
    have e : s.data.toList.length = s.size := rfl
    omega
  | n + 1, s, w, hn, hsz, hr, hv => by
    obtain ⟨x, hx⟩ := Option.isSome_iff_exists.1 hr
    have hpos := right_pos hx
    have e : s.data.toList.length = s.size := rfl
    by_cases hb : byte s.data.toList 0 = 86 ∨ byte s.data.toList 0 = 75
    · have hk := two_kids hx hb
      have hne : byte s.data.toList 0 ≠ 110 ∧ byte s.data.toList 0 ≠ 116 := by rcases hb with h | h <;> rw [h] <;> decide
      obtain ⟨m, nx, hh, hkl, -, -, -, hkids⟩ := right_kids hx hne.1 hne.2
      have hm : m = 2 := by omega
      subst hm
      obtain ⟨a1, a2, a3, a4⟩ := hkids 0 (by omega)
      obtain ⟨b1, b2, b3, b4⟩ := hkids 1 (by omega)
      have e1 : x.kids.getD (0 + 1) 0 = x.kids.getD 1 0 := rfl
      have e2 : x.kids.getD (1 + 1) 0 = x.kids.getD 2 0 := rfl
      rw [e1] at a2 a3 a4
      rw [e2] at b2 b3 b4
      have hp := pieces_two s x.kids hk
      have s0 : (s.extract (x.kids.getD 0 0) (x.kids.getD 1 0)).size ≤ n := by rw [ByteArray.size_extract]; omega
      have s1 : (s.extract (x.kids.getD 1 0) (x.kids.getD 2 0)).size ≤ n := by rw [ByteArray.size_extract]; omega
      have s0' : (s.extract (x.kids.getD 0 0) (x.kids.getD 1 0)).size ≤ 16384 := by rw [ByteArray.size_extract]; omega
      have s1' : (s.extract (x.kids.getD 1 0) (x.kids.getD 2 0)).size ≤ 16384 := by rw [ByteArray.size_extract]; omega
      have l0 := ext_list s (x.kids.getD 0 0) (x.kids.getD 1 0)
      have l1 := ext_list s (x.kids.getD 1 0) (x.kids.getD 2 0)
      have k0 := fun W hv => key_any n (s.extract (x.kids.getD 0 0) (x.kids.getD 1 0)) W s0 s0' (by rw [l0]; exact a4) hv
      have k1 := fun W hv => key_any n (s.extract (x.kids.getD 1 0) (x.kids.getD 2 0)) W s1 s1' (by rw [l1]; exact b4) hv
      have z0 := keyF_len n (s.extract (x.kids.getD 0 0) (x.kids.getD 1 0)).data.toList
      have z1 := keyF_len n (s.extract (x.kids.getD 1 0) (x.kids.getD 2 0)).data.toList
      have y0 : (s.extract (x.kids.getD 0 0) (x.kids.getD 1 0)).data.toList.length = (s.extract (x.kids.getD 0 0) (x.kids.getD 1 0)).size := rfl
      have y1 : (s.extract (x.kids.getD 1 0) (x.kids.getD 2 0)).data.toList.length = (s.extract (x.kids.getD 1 0) (x.kids.getD 2 0)).size := rfl
      rcases hb with hb | hb
      · have := key_join s x _ _ _ _ w (by omega) hx hb hp hv (by omega) (by omega) k0 k1
        have hK : keyF (n + 1) s.data.toList = 87 :: (keyF n (s.extract (x.kids.getD 0 0) (x.kids.getD 1 0)).data.toList ++ keyF n (s.extract (x.kids.getD 1 0) (x.kids.getD 2 0)).data.toList) := by
          rw [l0, l1]
          conv => lhs; unfold keyF
          rw [if_pos (.inl hb), hx]
          simp only
          rw [if_pos hb]
        rw [hK]
        exact this
      · have := key_bind s x _ _ _ w (by omega) hx hb hp hv (by omega) (by omega) k0
        have hK : keyF (n + 1) s.data.toList = 76 :: (keyF n (s.extract (x.kids.getD 0 0) (x.kids.getD 1 0)).data.toList ++ (s.extract (x.kids.getD 1 0) (x.kids.getD 2 0)).data.toList) := by
          rw [l0, l1]
          conv => lhs; unfold keyF
          rw [if_pos (.inr hb), hx]
          simp only
          rw [if_neg (by rw [hb]; decide)]
        rw [hK]
        exact this
    · have hK : keyF (n + 1) s.data.toList = 80 :: s.data.toList := by
        unfold keyF
        rw [if_neg hb]
      rw [hK]
      exact key_plain s w (by omega) (by omega) (fun h => hb (.inl h)) (fun h => hb (.inr h))
set_option maxRecDepth 100000 in
set_option maxHeartbeats 8000000 in
theorem pub_any (s : ByteArray) (w : World) (hs : s.size ≤ 1000000) (hv : VarsOk w) : Calls Tryz.prog 21 #[.string s] w fun e w' => e = .returned (tupE (pubE s.data.toList)) ∧ Below w.heap.size w w' := by
  have HR := Lib.hid (right_any s w hs hv)
  unfold pubE
  cases hq : rightB s.data.toList with
  | true =>
    rw [hq] at HR
    obtain ⟨x, hx⟩ := Option.isSome_iff_exists.1 hq
    obtain ⟨h16, -, -⟩ := right_some hx
    have h16' : s.size ≤ 16384 := h16
    have hK := fun W hv => key_any s.size s W (Nat.le_refl _) h16' hq hv
    have hlen := keyF_len s.size s.data.toList
    have hl2 : s.data.toList.length = s.size := rfl
    rw [if_pos rfl]
    have hT : keyT s.data.toList = keyF s.size s.data.toList := rfl
    rw [hT]
    obtain ⟨k, hk⟩ : ∃ k, keyF s.size s.data.toList = k := ⟨_, rfl⟩
    rw [hk] at hlen ⊢
    simp only [hk] at hK
    have hW := fun W hv => whole_any (bs k) W (by rw [show (bs k).size = k.length by simp [bs, ByteArray.size]]; omega) hv
    simp only [bs_list] at hW
    obtain ⟨R, hR⟩ : ∃ R, madeE k = R := ⟨_, rfl⟩
    simp only [hR] at hW
    rw [hR]
    unfold tupE at hW ⊢
    have HK := Lib.hid hK
    have HW := Lib.hid hW
    have HV := Lib.hid hv
    clear hq hx hK hW hT hk hR hlen hl2 hv h16
    go_enter Tryz.func21, Tryz.ntmps21
    go_wp2_with fail
    refine HR.out.mono ?_
    rintro e w1 ⟨rfl, hb1⟩
    have HB1 := Lib.hid hb1; clear hb1
    go_wp2_with fail
    refine (HK.out w1 (HV.out.below HB1.out)).mono ?_
    rintro e w2 ⟨rfl, hb2⟩
    have HB2 := Lib.hid (HB1.out.trans (hb2.mono HB1.out.size)); clear hb2
    go_wp2_with fail
    refine (HW.out w2 (HV.out.below HB2.out)).mono ?_
    rintro e w3 ⟨rfl, hb3⟩
    have HB3 := Lib.hid (HB2.out.trans (hb3.mono HB2.out.size)); clear hb3
    go_wp2_with fail
    go_ret2
    exact ⟨rfl, HB3.out⟩
  | false =>
    rw [hq] at HR
    clear hq
    go_enter Tryz.func21, Tryz.ntmps21
    go_wp2_with fail
    refine HR.out.mono ?_
    rintro e w1 ⟨rfl, hb1⟩
    have HB := Lib.hid hb1
    clear hb1
    go_wp2_with fail
    go_ret2
    exact ⟨rfl, HB.out⟩
end Go.Proofs.YtaonadgelkdbcaaGreatDoor
