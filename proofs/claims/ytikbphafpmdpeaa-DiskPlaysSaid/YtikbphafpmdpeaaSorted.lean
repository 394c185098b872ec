/- slices.Sorted(maps.Keys(m)). Names. -/
import Derived.Test.YtikbphafpmdpeaaKeys
import Derived.Test.YtikbphafpmdpeaaShelf
set_option linter.all false
namespace Go.Proofs.Ytikbphafpmdpeaa
open Go.RowKit Go.Maps Go.Sort Go.Shelf Go.MapKept

/-- The keys of a map, in order. -/
def skeys {α : Type} (l : List (ByteArray × α)) : List ByteArray := ((l.map fun p => p.1.data.toList).mergeSort leB).map fun x => ⟨x.toArray⟩
theorem skeys_perm {α : Type} (l : List (ByteArray × α)) : (skeys l).Perm (l.map (·.1)) := by
  unfold skeys
  refine ((List.mergeSort_perm _ _).map _).trans ?_
  rw [List.map_map]
  have : (l.map ((fun x : List UInt8 => (⟨x.toArray⟩ : ByteArray)) ∘ fun p => p.1.data.toList)) = l.map (·.1) := List.map_congr_left fun p _ => rfl
  rw [this]
theorem skeys_len {α : Type} (l : List (ByteArray × α)) : (skeys l).length = l.length := by rw [(skeys_perm l).length_eq, List.length_map]
theorem skeys_menc {α β : Type} (f : α → β) (l : List (ByteArray × α)) : skeys (menc f l) = skeys l := by
  unfold skeys menc
  rw [List.map_map]
  rfl
theorem skeys_same {α β : Type} {l : List (ByteArray × α)} {r : List (ByteArray × β)} (h : l.map (·.1) = r.map (·.1)) : skeys l = skeys r := by
  have h1 : (l.map fun p => p.1.data.toList) = r.map fun p => p.1.data.toList := by
    have := congrArg (List.map fun x : ByteArray => x.data.toList) h
    rw [List.map_map, List.map_map] at this
    exact this
  unfold skeys
  rw [h1]
theorem sorts_any (m : Nat) : AnyZ.SortsIn Try.prog Try.sorted51_ren Fence.wide m :=
  ⟨fun blk off cap ss W hH hblk hsz => callsIn_wide.2 (AnyM.slices_Sort_string Try.sort66 blk off cap ss W hH hblk hsz),
   fun p cap W => callsIn_wide.2 (AnyM.slices_Sort_string_none Try.sort66 p cap W)⟩
/-- The result of sorting a map's keys. -/
def KeysP (W : World) (ks : List ByteArray) (e : Ending) (w' : World) : Prop :=
  ∃ v, e = .returned v ∧ w'.ownsRow W.heap.size 9 1 v ks.length (ks.map .string) ∧ Below W.heap.size W w'
theorem keysC (mb : Option Nat) (W : World) : Calls Try.prog 52 #[.map mb] W fun e w' => e = .returned (.func (.func 67) #[] #[.pointer (some ⟨W.heap.size, 0, none⟩)]) ∧ W.alloc (.cells #[.map mb] 56) = w' :=
  ((callsIn_wide (n := 5)).1 (AnyZ.keys_in Try.keys52 Fence.wide 5 trivial rfl mb W)).mono fun _ _ h => ⟨h.1, h.2.symm⟩
set_option maxHeartbeats 1000000 in
theorem sortedC (b : Nat) (l : List (ByteArray × Value)) (w : World) (h : SMap w b l) (hk : ∀ p ∈ l, p.1.size ≤ 1000) (hl : l.length ≤ 1000) :
    Calls Try.prog 51 #[.func (.func 67) #[] #[.pointer (some ⟨w.heap.size, 0, none⟩)]] (w.alloc (.cells #[.map (some b)] 56)) (KeysP (w.alloc (.cells #[.map (some b)] 56)) (skeys l)) := by
  obtain ⟨D0, hown, hperm, hsize⟩ := h.owns (fun p hp => by have := hk p hp; unfold maxLen; omega) (by unfold maxLen; omega)
  have hbl := hown.lt
  have hseq : SeqGives Fence.wide 2 Try.prog 67 #[.pointer (some ⟨w.heap.size, 0, none⟩)] encStr (fun ss => ss.Perm (strKeys D0)) (Maps.size D0) (w.alloc (.cells #[.map (some b)] 56)) :=
    AnyZ.keys_gives (ρ := Try.keys52_ren) { Try.keys52 with } Fence.wide _ trivial rfl (by omega) w.heap.size b l.length D0 _ (by simp) (by simp) (by
      obtain ⟨es, clock, hb, Ft, hs, hD⟩ := hown
      exact ⟨es, clock, (Below.heap_alloc _ _ b hbl).trans hb, Ft, hs, hD⟩)
  refine ((callsIn_wide (n := 5)).1 (AnyZ.sorted_in Try.sorted51 Fence.wide 5 trivial trivial trivial trivial rfl (by omega) (sorts_any _) (enters_of Try.func66 (by kernel_rfl) rfl) 67 #[.pointer (some ⟨w.heap.size, 0, none⟩)] trivial (enters_of Try.func67 (by kernel_rfl) rfl) _ _ (by rw [hsize]; unfold maxLen; omega) (by rw [hsize]; omega) _ hseq)).mono ?_
  rintro e w' ⟨v, ss, rfl, hS, hrow, -, hb⟩
  refine ⟨v, rfl, ?_, hb⟩
  have h1 : ss.mergeSort leB = (l.map fun p => p.1.data.toList).mergeSort leB := mergeSort_of_perm (hS.trans hperm)
  have h2 : ss.length = (skeys l).length := by rw [skeys_len, hS.length_eq, hperm.length_eq, List.length_map]
  have h3 : (ss.mergeSort (fun x y => decide (x ≤ y))).map encStr = (skeys l).map Value.string := by
    show (ss.mergeSort leB).map encStr = _
    rw [h1]
    unfold skeys
    rw [List.map_map]
    rfl
  rw [h2, h3] at hrow
  exact hrow
/-- The names of a disk's files, in order. -/
def namesD (d : DiskT) : List ByteArray := if d.off = true then [] else skeys d.files
set_option maxRecDepth 100000 in
theorem names_any (p m : Nat) (sb : Option Nat) (es : List (ByteArray × FileM)) (d : DiskT) (w : World) (h : DiskAt w p m sb es d) (hi : Inv d) :
    Calls Try.prog 21 #[.pointer (some ⟨p, 0, none⟩)] w (KeysP w (namesD d)) := by
  have HU := Lib.hid (up_any h)
  obtain ⟨c0, -⟩ := h.cell
  have HH := Lib.hid h
  unfold namesD
  rcases Bool.eq_false_or_eq_true d.off with ho | ho
  · rw [ho] at HU
    rw [if_pos ho]
    clear ho h
    go_enter Try.func21, Try.ntmps21
    go_wp2_with fail
    refine HU.out.mono ?_
    rintro e w' ⟨rfl, rfl⟩
    go_wp2_with fail
    go_ret
    exact ⟨_, rfl, World.ownsRow_nil _ _ _ _, Below.refl _ _⟩
  · rw [ho] at HU
    rw [if_neg (by rw [ho]; simp)]
    have hk : skeys (menc encF es) = skeys d.files := by rw [h.eq, skeys_menc, skeys_menc]
    have hsz : ∀ q ∈ menc encF es, q.1.size ≤ 1000 := fun q hq => by
      have h1 : q.1 ∈ (menc encF es).map Prod.fst := List.mem_map.2 ⟨q, hq, rfl⟩
      rw [menc_keys, ← menc_keys FileM.f, ← h.eq] at h1
      obtain ⟨r, hr, e⟩ := List.mem_map.1 h1
      have h2 := hi.names r hr
      unfold namedB at h2
      have h3 := of_decide_eq_true h2
      rw [← e]; omega
    have hlen : (menc encF es).length ≤ 1000 := by
      have := hi.count
      rw [h.eq, menc_len] at this
      rw [menc_len]; omega
    have hS := sortedC m (menc encF es) w h.map hsz hlen
    rw [hk] at hS
    have HS := Lib.hid hS
    clear ho h hk hsz hlen hS
    go_enter Try.func21, Try.ntmps21
    go_wp2_with fail
    refine HU.out.mono ?_
    rintro e w' ⟨rfl, rfl⟩
    go_wp2_with fail
    refine (keysC (some m) w).mono ?_
    rintro e w' ⟨rfl, rfl⟩
    go_wp2_with fail
    refine HS.out.mono ?_
    rintro e w' ⟨v, rfl, hown, hb⟩
    have HO := Lib.hid hown
    have HB := Lib.hid hb
    clear hown hb
    go_wp2_with fail
    go_ret
    have h1 := one_below w (.cells #[.map (some m)] 56)
    exact ⟨v, rfl, own_to HO.out h1.size, h1.trans (HB.out.mono h1.size)⟩
end Go.Proofs.Ytikbphafpmdpeaa
