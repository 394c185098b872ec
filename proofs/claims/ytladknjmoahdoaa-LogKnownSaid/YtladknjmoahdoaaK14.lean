/- New, Fail, Read. -/
import Derived.Test.YtladknjmoahdoaaK13
import Derived.Deep.WholeRow
set_option linter.all false
namespace Go.Proofs.Ytladknjmoahdoaa
open Go.RowKit

section
variable {P : Program} {ops : Array Oper} {rest : List Oper} {o : Oper} {a : Act} {w : World} {Q : Exit → Act → World → Prop}
/-- A value of many cells is read. -/
theorem wpList_loadW (hg : o.guard = none) (ty : TypeId) (x : Operand) (ho : o.op = .load ty x) (b j : Nat) (hx : a.eval x = .pointer (some ⟨b, j, none⟩)) (cs : Array Value) {d : TypeDesc} (hc : w.rangeAt b j cs.toList)
    (hu : P.underlying ty = some d) (hd : d.isRow = true) (hi : (P.info? ty).map (·.size) = some cs.size) (h : wpList P ops Q rest (a.put o.dst (.agg cs)) w) : wpList P ops Q (o :: rest) a w := by
  refine wpList_load_mid hg ty x ho b j hx cs.toList d hc hu hd (by rw [Array.length_toList]; exact hi) ?_
  rw [Array.toArray_toList]
  exact h
/-- A value of many cells goes into the block that was made last. -/
theorem wpList_store_new (hg : o.guard = none) (ty : TypeId) (x y : Operand) (ho : o.op = .store ty x y) (w0 : World) (c0 : Array Value) (t : TypeId) (cs : Array Value) (hw : w = w0.alloc (.cells c0 t)) (hx : a.eval x = .pointer (some ⟨w0.heap.size, 0, none⟩)) (hy : a.eval y = .agg cs)
    (hi : (P.info? ty).map (·.size) = some cs.size) (hs : c0.size = cs.size) (h1 : cs.all (·.oneCell') = true) (h : wpList P ops Q rest (a.put o.dst undef) (w0.alloc (.cells cs t))) : wpList P ops Q (o :: rest) a w := by
  subst hw
  refine wpList_store_row hg ty x y ho w0.heap.size cs hx hy t c0 (Go.heap_alloc_new w0 _) hi hs h1 ?_
  rw [World.setRow_alloc_new]
  exact h
end
def NewP (w : World) (quota : Int) (e : Ending) (w' : World) : Prop := ∃ p m, e = .returned (.pointer (some ⟨p, 0, none⟩)) ∧ DiskAt w' p m none [] (newD quota) ∧ w.heap.size ≤ p ∧ w.heap.size ≤ m ∧ Below w.heap.size w w'
set_option maxRecDepth 100000 in
theorem new_any (quota : Int) (w : World) : Calls Try.prog 6 #[.int .i64 quota] w (NewP w quota) := by
  have hmm := @run_makeMap Try.prog
  have hm := SMap.made w
  have hq : ((newD quota).quota : Int) = min (max quota 0) 65536 := by
    show ((min (max quota 0).toNat 65536 : Nat) : Int) = _
    omega
  have hfin : ∀ q : Int, q = min (max quota 0) 65536 → NewP w quota (.returned (.pointer (some ⟨w.heap.size + 1, 0, none⟩))) ((w.alloc (.map #[] 0)).alloc (.cells #[.map (some w.heap.size), .int .i64 q, .int .i64 0, .int .i64 0, .int .i64 0, .pointer none, .bool false] 48)) := by
    rintro q rfl
    have hD : DiskAt ((w.alloc (.map #[] 0)).alloc (.cells #[.map (some w.heap.size), .int .i64 (min (max quota 0) 65536), .int .i64 0, .int .i64 0, .int .i64 0, .pointer none, .bool false] 48)) (w.heap.size + 1) w.heap.size none [] (newD quota) := by
      refine ⟨?_, SMap.fr hm (Fr.below (F := []) (one_below _ _)) (by simp), ?_, rfl, trivial, ?_⟩
      · rw [second_of_two]
        unfold headC
        rw [hq]
        rfl
      · intro e he
        exact absurd he (by simp)
      · simp [fpD, fpF]
    exact ⟨w.heap.size + 1, w.heap.size, rfl, hD, by omega, Nat.le_refl _, two_below w _ _⟩
  have HF := Lib.hid hfin
  clear hfin hq hm
  go_enter Try.func6, Try.ntmps6
  go_wp2
  all_goals
    go_ret
    exact HF.out _ (by omega)
/-- What a failure's setting leaves. -/
def FailP (w : World) (p m : Nat) (sb : Option Nat) (es : List (ByteArray × FileM)) (d' : DiskT) (e : Ending) (w' : World) : Prop := e = .returned (.tuple #[]) ∧ ∃ sb', OpL w p m sb es d' sb' es w'
theorem DiskAt.setFail {w : World} {p m i k : Nat} {sb : Option Nat} {es : List (ByteArray × FileM)} {d : DiskT} (h : DiskAt w p m sb es d) :
    OpL w p m sb es { d with set := some (i, k) } (some w.heap.size) es ((w.alloc (.cells #[.int .i64 i, .int .u64 k] 65)).setCell ⟨p, 5, none⟩ (.pointer (some ⟨w.heap.size, 0, none⟩))) := by
  have hb := one_below w (.cells #[.int .i64 i, .int .u64 k] 65)
  have h1 := h.below hb
  have hf : Fr [p] w ((w.alloc (.cells #[.int .i64 i, .int .u64 k] 65)).setCell ⟨p, 5, none⟩ (.pointer (some ⟨w.heap.size, 0, none⟩))) := (Fr.below (F := [p]) hb).put p 5 _ (.inl (by simp))
  have hf1 : Fr [p] (w.alloc (.cells #[.int .i64 i, .int .u64 k] 65)) ((w.alloc (.cells #[.int .i64 i, .int .u64 k] 65)).setCell ⟨p, 5, none⟩ (.pointer (some ⟨w.heap.size, 0, none⟩))) := (Fr.refl _ _).put p 5 _ (.inl (by simp))
  obtain ⟨n1, -, n3⟩ := h.p_ne
  have hp := h.lt p mem_p
  refine ⟨⟨setCell_heap _ h1.blk, h.map.fr hf (by simpa using Ne.symm n1), fun e he => (h.files e he).fr hf fun g hg => by simpa using Ne.symm (n3 e he g hg), h.eq, ?_, ?_⟩, hf.mono fun g hg _ => by simp at hg; subst hg; exact mem_p, ?_⟩
  · exact hf1.kept (by simp; omega) (Go.heap_alloc_new w _)
  · have ha := h.apart
    have hl := h.lt
    unfold fpD at ha hl ⊢
    simp only [List.cons_append, List.nodup_cons, List.mem_cons, List.mem_append, not_or, Option.toList_some, List.nil_append] at ha hl ⊢
    have hm := h.lt m mem_m
    have hfl : ∀ g ∈ fpF es, g < w.heap.size := fun g hg => hl g (.inr (.inr (.inr hg)))
    exact ⟨⟨ha.1.1, by omega, ha.1.2.2⟩, ⟨by omega, ha.2.1.2⟩, fun hg => by have := hfl _ hg; omega, (List.nodup_append.1 ha.2.2).2.1⟩
  · intro g hg
    simp only [fpD, List.cons_append, List.mem_cons, List.mem_append, Option.toList_some, List.nil_append] at hg
    rcases hg with rfl | rfl | rfl | hg
    · exact .inl mem_p
    · exact .inl mem_m
    · exact .inr (Nat.le_refl _)
    · exact .inl (List.mem_append_right _ hg)
set_option maxRecDepth 100000 in
theorem fail_any (p m : Nat) (sb : Option Nat) (es : List (ByteArray × FileM)) (d : DiskT) (n : Int) (k : Nat) (w : World) (h : DiskAt w p m sb es d) :
    Calls Try.prog 9 #[.pointer (some ⟨p, 0, none⟩), .int .i64 n, .int .u64 k] w (FailP w p m sb es (failD d n k)) := by
  have HU := Lib.hid (up_any h)
  have HH := Lib.hid h
  unfold failD
  rcases Bool.eq_false_or_eq_true d.off with ho | ho
  · rw [ho] at HU
    rw [if_pos ho]
    clear ho h
    go_enter Try.func9, Try.ntmps9
    go_wp2_with fail
    refine HU.out.mono ?_
    rintro e w' ⟨rfl, rfl⟩
    go_wp2_with fail
    go_end0
    exact ⟨rfl, sb, OpL.here HH.out⟩
  · rw [ho] at HU
    rw [if_neg (by rw [ho]; simp)]
    clear ho
    have hfin : ∀ q : Int, q = max n 0 → FailP w p m sb es { d with set := some ((max n 0).toNat, k) } (.returned (.tuple #[])) ((w.alloc (.cells #[.int .i64 q, .int .u64 k] 65)).setCell ⟨p, 5, none⟩ (.pointer (some ⟨w.heap.size, 0, none⟩))) := by
      rintro q rfl
      have hq : max n 0 = (((max n 0).toNat : Nat) : Int) := by omega
      refine ⟨rfl, some w.heap.size, ?_⟩
      have := h.setFail (i := (max n 0).toNat) (k := k)
      rw [← hq] at this
      exact this
    have HF := Lib.hid hfin
    have c5 := fun o => (h.alloc o).cell.2.2.2.2.2.1
    have z5 := fun o => (h.alloc o).free 5
    unfold setV at c5
    clear hfin h
    go_enter Try.func9, Try.ntmps9
    go_wp2_with fail
    refine HU.out.mono ?_
    rintro e w' ⟨rfl, rfl⟩
    go_wp2_with fail
    all_goals
      go_end0
      first
        | exact HF.out 0 (by omega)
        | exact HF.out n (by omega)
end Go.Proofs.Ytladknjmoahdoaa
