/- The calls that BechKnown makes, each by its contract. -/
import Derived.Test.YtnkhbhkmllnniaaDoorT26
import Derived.Test.YtnkhbhkmllnniaaDoorKnownM
namespace Go.Proofs.YtnkhbhkmllnniaaDoor
open Go.RowKit Bech

def BadPost (n : Int) (w : World) (e : Ending) (w' : World) : Prop :=
  ∃ (A : Option Addr) (c : Nat), e = .returned (.tuple #[.string ⟨#[]⟩, .slice A 0 c, .int .i64 n]) ∧ Below w.heap.size w w'
theorem dec_bad (l : List UInt8) (s : ByteArray) (w : World) (n : Int) (hs : s.data.toList = l) (hl : l.length ≤ 1000000) (he : decErr l = n) (hn : n ≠ 0) : Calls Tryd.prog 12 #[.string s] w (BadPost n w) := by
  subst hs
  refine (decode_any s w (by simpa using hl)).mono ?_
  rintro e w' ⟨A, c, rfl, -, -, hb⟩
  have h1 : decHead s.data.toList = [] := by unfold decHead; rw [he, if_neg hn]
  have h2 : decWords s.data.toList = [] := by unfold decWords; rw [he, if_neg hn]
  refine ⟨A, c, ?_, hb⟩
  rw [h1, h2, he]
  rfl
theorem enc_bad (s : ByteArray) (ws : List UInt8) (n : Nat) (hn : ws.length = n) (A : Option Addr) (c : Nat) (w : World) (er : Int) (hs : s.size ≤ 1000000) (hl : n ≤ 1000000) (hA : Cells w A (bv ws)) (he : encErr s.data.toList ws = er) (hr : er ≠ 0) :
    Calls Tryd.prog 10 #[.string s, .slice A n c] w fun e w' => e = .returned (.tuple #[.string ⟨#[]⟩, .int .i64 er]) ∧ Below w.heap.size w w' := by
  refine (encode_n s ws n hn A c w hs hl hA).mono ?_
  rintro e w' ⟨rfl, hb⟩
  refine ⟨?_, hb⟩
  unfold encText
  rw [he, if_neg hr]
theorem bits_is (l : List UInt8) (n : Nat) (hn : l.length = n) (A : Option Addr) (c : Nat) (f t : Int) (pad : Bool) (w : World) (x : List UInt8) (m : Nat) (hm : x.length = m) (er : Int) (hl : n ≤ 1000000) (hA : Cells w A (bv l)) (hr : BitsRes l f t pad x er) :
    Calls Tryd.prog 14 #[.slice A n c, .int .i64 f, .int .i64 t, .bool pad] w fun e w' => ∃ A' c', e = .returned (.tuple #[.slice A' m c', .int .i64 er]) ∧ Cells w' A' (bv x) ∧ Below w.heap.size w w' := by
  refine (bits_n l n hn A c f t pad w hl hA).mono ?_
  rintro e w' ⟨v, y, er', rfl, hres, hown, hb⟩
  obtain ⟨rfl, rfl⟩ := BitsRes.unique hres hr
  obtain ⟨A', c', rfl, -, hcell⟩ := hown.shape
  rw [bv_length, hm]
  exact ⟨A', c', rfl, hcell, hb⟩
def rowT (n : Nat) : ByteArray := ⟨(List.replicate n 97).toArray⟩
theorem row_is (n : Nat) (w : World) (h : n ≤ 100000) : Calls Tryd.prog 17 #[.int .i64 (n : Int), .int .u8 97] w fun e w' => e = .returned (.string (rowT n)) ∧ Below w.heap.size w w' := row_any n 97 w h
theorem row_83 (w : World) : Calls Tryd.prog 17 #[.int .i64 83, .int .u8 97] w fun e w' => e = .returned (.string (rowT 83)) ∧ Below w.heap.size w w' := row_is 83 w (by decide)
theorem row_84 (w : World) : Calls Tryd.prog 17 #[.int .i64 84, .int .u8 97] w fun e w' => e = .returned (.string (rowT 84)) ∧ Below w.heap.size w w' := row_is 84 w (by decide)
theorem rowT_list (n : Nat) : (rowT n).data.toList = List.replicate n 97 := rfl
theorem rowT_size (n : Nat) : (rowT n).size = n := by
  show (List.replicate n (97 : UInt8)).toArray.size = n
  simp
/-- A block of n bytes 0. -/
def zrow (n : Nat) : Obj := .cells (madeCells #[.int .u8 0] n) 5
theorem make_z (n : Nat) (h : n ≤ 100000) (w : World) : (Instr.makeSlice 22 (.int .i64 (n : Int)) (.int .i64 (n : Int))).run Tryd.prog w = .ok (.slice (some ⟨w.heap.size, 0, none⟩) n n) (w.alloc (zrow n)) := by
  obtain ⟨i0, hi, hz0, hz1, hz2⟩ := info_parts info5
  have hr := run_make (P := Tryd.prog) w 22 5 i0 (.int .u8 0) Tryd.underlying22 hi hz0 .i64 .i64 (n : Int) (n : Int) (by omega) (Int.le_refl _) (by rw [hz2]; omega) (by omega)
  simp only [Int.toNat_natCast] at hr
  rw [hr]
  unfold zrow
  rw [hz1, Nat.mul_one]
  rfl
theorem zrow_cells (w : World) (n : Nat) : Cells (w.alloc (zrow n)) (some ⟨w.heap.size, 0, none⟩) (bv (rl n)) := by
  have h : (w.alloc (zrow n)).heap[w.heap.size]? = some (.cells (madeCells #[.int .u8 0] n) 5) := heap_alloc_new w _
  intro _
  refine ⟨_, rfl, fun j u hj => World.news_of_block h j u ?_⟩
  rw [← hj]
  have h2 : (madeCells #[Value.int .u8 0] n).toList = bv (rl n) := by
    rw [toList_madeCells_one]; unfold rl; rw [bv_rep]; try rfl
  rw [← h2]
def LongPost (w : World) (e : Ending) (w' : World) : Prop :=
  ∃ t : ByteArray, t.data.toList = encText (List.replicate 83 97) (rl 32678) ∧ e = .returned (.tuple #[.string t, .int .i64 0]) ∧ Below w.heap.size w w'
theorem long_enc (A : Option Addr) (w : World) (hA : Cells w A (bv (rl 32678))) : Calls Tryd.prog 10 #[.string (rowT 83), .slice A 32678 32678] w (LongPost w) := by
  refine (encode_n (rowT 83) (rl 32678) 32678 (by rw [rl, List.length_replicate]) A 32678 w (by rw [rowT_size]; omega) (by omega) hA).mono ?_
  rintro e w' ⟨rfl, hb⟩
  rw [rowT_list, long_ok]
  generalize htx : encText (List.replicate 83 97) (rl 32678) = tx
  exact ⟨⟨tx.toArray⟩, by rw [htx], rfl, hb⟩
theorem long_bad (A : Option Addr) (w : World) (hA : Cells w A (bv (rl 32679))) : Calls Tryd.prog 10 #[.string (rowT 83), .slice A 32679 32679] w fun e w' => e = .returned (.tuple #[.string ⟨#[]⟩, .int .i64 3]) ∧ Below w.heap.size w w' :=
  enc_bad (rowT 83) (rl 32679) 32679 (by rw [rl, List.length_replicate]) A 32679 w 3 (by rw [rowT_size]; omega) (by omega) hA (by rw [rowT_list, long_no]) (by decide)
theorem long_dec (t : ByteArray) (w : World) (ht : t.data.toList = encText (List.replicate 83 97) (rl 32678)) : Calls Tryd.prog 12 #[.string t] w fun e w' => ∃ (A : Option Addr) (c : Nat) (h : ByteArray), e = .returned (.tuple #[.string h, .slice A 32678 c, .int .i64 0]) ∧ Below w.heap.size w w' := by
  have hs : t.size ≤ 1000000 := by
    have h := long_len
    rw [← ht] at h
    simp at h
    omega
  refine (decode_any t w hs).mono ?_
  rintro e w' ⟨A, c, rfl, -, -, hb⟩
  obtain ⟨h1, h2, h3⟩ := dec_enc long_ok
  refine ⟨A, c, ⟨(List.replicate 83 97).toArray⟩, ?_, hb⟩
  rw [ht, h1, h2, h3, rl, List.length_replicate]
theorem long_size (t : ByteArray) (ht : t.data.toList = encText (List.replicate 83 97) (rl 32678)) : t.size = 32768 := by
  have h := long_len
  rw [← ht] at h
  simpa using h
end Go.Proofs.YtnkhbhkmllnniaaDoor
