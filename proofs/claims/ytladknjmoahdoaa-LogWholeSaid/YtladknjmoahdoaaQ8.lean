/- LogCreated: the walk. · LogWhole: the walk. -/
import Derived.Test.YtladknjmoahdoaaQ6
set_option linter.all false
namespace Go.Proofs.Ytladknjmoahdoaa
open Go.RowKit Go

set_option maxRecDepth 100000 in
set_option maxHeartbeats 8000000 in
theorem created_walk (n : Int) (k : Nat) (name : ByteArray) (w : World) (hn : n < 9223372036854775808) (hk : k < 18446744073709551616) : Calls Try.prog 5 #[.int .i64 n, .int .u64 (k : Int), .string name] w fun e w' => e = .returned (.bool true) ∧ Below w.heap.size w w' := by
  have hfr := (new_fresh (q := 9) (by decide) name).fail hn hk
  have hfl : (failD (newD 9) n k).files = [] ∧ (failD (newD 9) n k).steps = 0 := ⟨rfl, rfl⟩
  have HN0 := Lib.hid (fun V => new_o 9 V)
  obtain ⟨d0, hd0⟩ : ∃ d0, newD 9 = d0 := ⟨_, rfl⟩
  rw [hd0] at hfr hfl
  simp only [hd0] at HN0
  have HFA := Lib.hid (fun V p F (hV : DkO V p F d0) => hV.fail hn hk)
  obtain ⟨d1, hd1⟩ : ∃ d1, failD d0 n k = d1 := ⟨_, rfl⟩
  rw [hd1] at hfr hfl
  simp only [hd1] at HFA
  have HFR := Lib.hid hfr
  have HFL := Lib.hid hfl
  have HCL := Lib.hid (fun hh => created_law hfr hh)
  have HOB := Lib.hid (fun (hh : namedB name = false) => open_bad hfr.2.1 hfl.1 hh)
  have HST := Lib.hid (open_steps d1 name)
  obtain ⟨⟨e1, d2, o1⟩, hr1⟩ : ∃ r1, openL d1 name = r1 := ⟨_, rfl⟩
  have HR1 := Lib.hid hr1
  have hcl := HCL.out
  have hob := HOB.out
  have hst := HST.out
  rw [hr1] at hcl hob hst
  have HCL := Lib.hid hcl
  have HOB := Lib.hid hob
  have HST := Lib.hid hst
  clear hd0 hd1 hfr hfl hr1 hcl hob hst
  go_enter Try.func5, Try.ntmps5
  go_wp2_with fail
  refine (HN0.out _).mono ?_
  rintro e w1 ⟨p, F0, rfl, h1, hb1, hlo⟩
  have HB1 := Lib.hid hb1
  have HLO := Lib.hid hlo
  have HD0 := Lib.hid h1
  clear h1 hb1 hlo HN0
  go_wp2_with fail
  refine (HFA.out _ _ _ HD0.out).mono ?_
  rintro e w2 ⟨rfl, F1, hL⟩
  have HL1 := Lib.hid hL
  have hF1 := hL.new.ge HLO.out HB1.out.size
  have HB2 := Lib.hid (HB1.out.trans (hL.fr.toBelowOf HB1.out.size HLO.out))
  have HF1 := Lib.hid hF1
  clear hL hF1 HFA
  go_wp2_with fail
  refine (open_any (d := d1) (name := name) HL1.out.at_ (by rw [HFL.out.2]; decide)).mono ?_
  rintro e w3 hP
  rw [HR1.out] at hP
  by_cases hnm : namedB name = true
  · obtain ⟨hx, hy1, hy2⟩ := HCL.out hnm
    have HY := Lib.hid (And.intro hy1 hy2)
    clear hy1 hy2
    rcases hx with ⟨rfl, rfl⟩ | ⟨rfl, rfl, hoff⟩
    · obtain ⟨F3, hL, lp, v, vs, rfl, hlp, hlf, hown, hev, hla⟩ := hP
      obtain ⟨Av, cv, hv, -, -⟩ := own_shape hown
      dsimp only at hv hL
      rw [show ([] : List (List UInt8)).length = 0 from rfl] at hv
      subst hv
      have HL3 := Lib.hid hL
      have hF3 := hL.new.ge HF1.out HB2.out.size
      have HB3 := Lib.hid (HB2.out.trans (hL.fr.toBelowOf HB2.out.size HF1.out))
      have HF3 := Lib.hid hF3
      clear hL hF3 hlp hlf hown hev hla
      go_wp2_with fail
      refine (DkO.on (d := d2) HL3.out.at_ (by have := HST.out; have := HFL.out.2; omega)).mono ?_
      rintro e w4 ⟨rfl, F4, hL⟩
      have HL4 := Lib.hid hL
      have hF4 := hL.new.ge HF3.out HB3.out.size
      have HB4 := Lib.hid (HB3.out.trans (hL.fr.toBelowOf HB3.out.size HF3.out))
      have HF4 := Lib.hid hF4
      clear hL hF4
      go_wp2_with fail
      refine (DkO.fail (d := onD d2) (n := 1073741824) (k := 0) HL4.out.at_ (by decide) (by decide)).mono ?_
      rintro e w5 ⟨rfl, F5, hL⟩
      have HL5 := Lib.hid hL
      have hF5 := hL.new.ge HF4.out HB4.out.size
      have HB5 := Lib.hid (HB4.out.trans (hL.fr.toBelowOf HB4.out.size HF4.out))
      have HF5 := Lib.hid hF5
      clear hL hF5
      go_wp2_with fail
      refine (open_any (d := failD (onD d2) 1073741824 0) (name := name) HL5.out.at_ (by rw [fail_steps, on_steps]; have := HST.out; have := HFL.out.2; omega)).mono ?_
      have HY1 := Lib.hid HY.out.1
      have HY2 := Lib.hid HY.out.2
      obtain ⟨⟨e6, d6, o6⟩, hr6⟩ : ∃ r6, openL (failD (onD d2) 1073741824 0) name = r6 := ⟨_, rfl⟩
      have hy := HY.out
      try dsimp only at hy
      rw [hr6] at hy
      obtain ⟨h61, h62⟩ := hy
      try dsimp only at h61 h62
      subst h61 h62
      rw [hr6]
      clear hr6 HY1 HY2
      rintro e w6 ⟨F6, hL, lp6, v6, vs6, rfl, hlp6, hlf6, hown6, hev6, hla6⟩
      obtain ⟨A6, c6, hv6, -, -⟩ := own_shape hown6
      dsimp only at hv6 hL hla6
      rw [show ([] : List (List UInt8)).length = 0 from rfl] at hv6 hla6
      subst hv6
      have HLA6 := Lib.hid hla6
      have HB6 := Lib.hid (HB5.out.trans (hL.fr.toBelowOf HB5.out.size HF5.out))
      clear hL hlp6 hlf6 hown6 hev6 hla6
      go_wp2_with fail
      refine (count_any HLA6.out).mono ?_
      rintro e w6' ⟨rfl, rfl⟩
      go_wp2_with fail
      refine (works_any _).mono ?_
      rintro e w9 ⟨rfl, hb9⟩
      go_wp2_with fail
      go_ret
      exact ⟨rfl, HB6.out.trans (hb9.mono HB6.out.size)⟩
    · obtain ⟨F3, hL, rfl⟩ := hP
      dsimp only at hL
      have HL3 := Lib.hid hL
      have hF3 := hL.new.ge HF1.out HB2.out.size
      have HB3 := Lib.hid (HB2.out.trans (hL.fr.toBelowOf HB2.out.size HF1.out))
      have HF3 := Lib.hid hF3
      have HO5 := Lib.hid hoff
      clear hL hF3 hoff
      go_wp2_with fail
      refine (DkO.off (d := d2) HL3.out.at_).mono ?_
      rintro e w3' ⟨rfl, rfl⟩
      rw [show d2.off = true from HO5.out]
      go_wp2_with fail
      refine (DkO.on (d := d2) HL3.out.at_ (by have := HST.out; have := HFL.out.2; omega)).mono ?_
      rintro e w4 ⟨rfl, F4, hL⟩
      have HL4 := Lib.hid hL
      have hF4 := hL.new.ge HF3.out HB3.out.size
      have HB4 := Lib.hid (HB3.out.trans (hL.fr.toBelowOf HB3.out.size HF3.out))
      have HF4 := Lib.hid hF4
      clear hL hF4
      go_wp2_with fail
      refine (DkO.fail (d := onD d2) (n := 1073741824) (k := 0) HL4.out.at_ (by decide) (by decide)).mono ?_
      rintro e w5 ⟨rfl, F5, hL⟩
      have HL5 := Lib.hid hL
      have hF5 := hL.new.ge HF4.out HB4.out.size
      have HB5 := Lib.hid (HB4.out.trans (hL.fr.toBelowOf HB4.out.size HF4.out))
      have HF5 := Lib.hid hF5
      clear hL hF5
      go_wp2_with fail
      refine (open_any (d := failD (onD d2) 1073741824 0) (name := name) HL5.out.at_ (by rw [fail_steps, on_steps]; have := HST.out; have := HFL.out.2; omega)).mono ?_
      have HY1 := Lib.hid HY.out.1
      have HY2 := Lib.hid HY.out.2
      obtain ⟨⟨e6, d6, o6⟩, hr6⟩ : ∃ r6, openL (failD (onD d2) 1073741824 0) name = r6 := ⟨_, rfl⟩
      have hy := HY.out
      try dsimp only at hy
      rw [hr6] at hy
      obtain ⟨h61, h62⟩ := hy
      try dsimp only at h61 h62
      subst h61 h62
      rw [hr6]
      clear hr6 HY1 HY2
      rintro e w6 ⟨F6, hL, lp6, v6, vs6, rfl, hlp6, hlf6, hown6, hev6, hla6⟩
      obtain ⟨A6, c6, hv6, -, -⟩ := own_shape hown6
      dsimp only at hv6 hL hla6
      rw [show ([] : List (List UInt8)).length = 0 from rfl] at hv6 hla6
      subst hv6
      have HLA6 := Lib.hid hla6
      have HB6 := Lib.hid (HB5.out.trans (hL.fr.toBelowOf HB5.out.size HF5.out))
      clear hL hlp6 hlf6 hown6 hev6 hla6
      go_wp2_with fail
      refine (count_any HLA6.out).mono ?_
      rintro e w6' ⟨rfl, rfl⟩
      go_wp2_with fail
      refine (works_any _).mono ?_
      rintro e w9 ⟨rfl, hb9⟩
      go_wp2_with fail
      go_ret
      exact ⟨rfl, HB6.out.trans (hb9.mono HB6.out.size)⟩
  · have hnf : namedB name = false := by simpa using hnm
    have ho := HOB.out hnf
    injection ho with h1 h2
    injection h2 with h2 h3
    subst h1 h2 h3
    obtain ⟨F3, hL, rfl⟩ := hP
    dsimp only at hL
    have HB3 := Lib.hid (HB2.out.trans (hL.fr.toBelowOf HB2.out.size HF1.out))
    clear hL hnm
    by_cases h0 : name.size = 0
    · have hs := str_none name h0
      subst hs
      clear h0
      go_wp2_with fail
      refine (works_any _).mono ?_
      rintro e w9 ⟨rfl, hb9⟩
      go_wp2_with fail
      go_ret
      exact ⟨rfl, HB3.out.trans (hb9.mono HB3.out.size)⟩
    · obtain ⟨hs1, hs2⟩ := str_empty name (by omega)
      have h3 : ¬ name.size ≤ 100 := fun h => by unfold namedB at hnf; simp at hnf; omega
      go_wp2_with fail
      refine (works_any _).mono ?_
      rintro e w9 ⟨rfl, hb9⟩
      go_wp2_with fail
      go_ret
      exact ⟨rfl, HB3.out.trans (hb9.mono HB3.out.size)⟩
end Go.Proofs.Ytladknjmoahdoaa

set_option linter.all false
namespace Go.Proofs.Ytladknjmoahdoaa
open Go.RowKit Go

/-- A turn that came in. -/
structure TurnT where
  es : List (List UInt8)
  inn : Int
  keep : Nat
structure TurnT.Ok (x : TurnT) : Prop where
  inn : x.inn < 9223372036854775808
  keep : x.keep < 18446744073709551616
  many : x.es.length ≤ 1000000000000000
  long : ∀ e ∈ x.es, e.length ≤ 1000000000000000
def TurnAt (w : World) (ad : Addr) (i : Nat) (x : TurnT) : Prop :=
  ∃ B us c, w.cell? (ad.add (i * 3)) = some (.slice B x.es.length c) ∧ w.cell? (ad.add (i * 3 + 1)) = some (.int .i64 x.inn) ∧ w.cell? (ad.add (i * 3 + 2)) = some (.int .u64 (x.keep : Int)) ∧ Cells w B us ∧ EntC w us x.es
def TurnsIn (w : World) (A : Option Addr) (l : List TurnT) : Prop := ∀ i (hi : i < l.length), ∃ ad, A = some ad ∧ TurnAt w ad i l[i]
theorem next_add3 (ad : Addr) (i j : Nat) (hj : 0 < j) : (⟨(ad.add i).block, (ad.add i).off + j, none⟩ : Addr) = ad.add (i + j) := by
  unfold Addr.add
  by_cases h : i = 0
  · subst h
    rw [if_pos rfl, if_neg (by omega)]
    simp
  · rw [if_neg h, if_neg (by omega)]
    simp [Nat.add_assoc]
theorem turn_look {W V : World} (hb : Below W.heap.size W V) {A : Option Addr} {l : List TurnT} (h : TurnsIn W A l) {i : Nat} (hi : i < l.length) : ∃ ad B us c, A = some ad ∧ V.cell? (ad.add (i * 3)) = some (.slice B l[i].es.length c) ∧
    V.cell? ⟨(ad.add (i * 3)).block, (ad.add (i * 3)).off + 1, none⟩ = some (.int .i64 l[i].inn) ∧ V.cell? ⟨(ad.add (i * 3)).block, (ad.add (i * 3)).off + 2, none⟩ = some (.int .u64 (l[i].keep : Int)) ∧ Cells V B us ∧ EntC V us l[i].es := by
  obtain ⟨ad, e, B, us, c, h0, h1, h2, h3, h4⟩ := h i hi
  exact ⟨ad, B, us, c, e, cell_below hb h0, by rw [next_add3 _ _ _ (by decide)]; exact cell_below hb h1, by rw [next_add3 _ _ _ (by decide)]; exact cell_below hb h2, h3.below hb, h4.below hb⟩
def sumT (l : List TurnT) (j : Nat) : Nat := ((l.take j).map fun x => (rowL x.es).length).sum
theorem sumT_succ {l : List TurnT} {j : Nat} (hj : j < l.length) : sumT l (j + 1) = sumT l j + (rowL l[j].es).length := by
  unfold sumT
  rw [← List.take_append_getElem hj, List.map_append, List.sum_append]
  simp
theorem sumT_le (l : List TurnT) {j k : Nat} (h : j ≤ k) : sumT l j ≤ sumT l k := by
  unfold sumT
  rw [show k = j + (k - j) by omega, List.take_add, List.map_append, List.sum_append]
  omega
/-- Rows of slices, and bytes, behind Append. -/
theorem log_rows {w w' : World} {lp dp dp2 : Nat} {F : List Nat} {d : DiskT} {name : ByteArray} {long count : Nat} {tail : List UInt8} {broken : Int} (hd : DkO w dp2 F d) (hl : LogAt w lp dp name long count tail broken) (hf : Fr (lp :: F) w w') :
    U8Kept w w' ∧ ∀ base v n xs, w.ownsRow base 30 1 v n xs → w'.ownsRow base 30 1 v n xs := by
  obtain ⟨A, c, h1, -, -⟩ := hl.at_
  have key : ∀ t, Plain t → t ≠ 54 → ∀ i ∈ lp :: F, ∀ cur fr, w.heap[i]? ≠ some (.cells cur t fr) := fun t ht hne i hi cur fr he => by
    rcases List.mem_cons.1 hi with rfl | hi
    · rw [h1] at he; injection he with he; injection he with _ he _; exact hne he.symm
    · exact hd.kinds ht i hi cur fr he
  refine ⟨U8Kept.fr hf fun i hi cur fr => key _ plain_u8 (by decide) i hi cur fr, fun base v n xs hr => own_fr hr hf fun g hg hi => ?_⟩
  obtain ⟨c, hc⟩ := row_kind hr hg
  exact key _ plain_b (by decide) g hi _ _ hc
/-- Where the law's loop stands. -/
structure At (W wr : World) (p : Nat) (l : List TurnT) (j : Nat) (v : Value) (lp : Nat) (F : List Nat) (d : DiskT) (es : List (List UInt8)) (vs : List Value) (T : Nat) : Prop where
  turned : Turned d fB es T
  row : wr.ownsRow W.heap.size 30 1 v es.length vs
  ent : EntVs wr vs es
  log : LogAt wr lp p fB (logOf es).long (logOf es).count (logOf es).tail (logOf es).broken
  out : lp ∉ F
  disk : DkO wr p F d
  ge : ∀ i ∈ F, W.heap.size ≤ i
  lge : W.heap.size ≤ lp
  below : Below W.heap.size W wr
  steps : d.steps ≤ 5 + 100 * j
theorem At.bel {W wr V : World} {p j lp T : Nat} {l : List TurnT} {v : Value} {F : List Nat} {d : DiskT} {es : List (List UInt8)} {vs : List Value} (h : At W wr p l j v lp F d es vs T) (hb : Below wr.heap.size wr V) : At W V p l j v lp F d es vs T :=
  ⟨h.turned, own_below h.row hb, h.ent.kept (U8Kept.below hb), h.log.below hb, h.out, h.disk.below hb, h.ge, h.lge, h.below.trans (hb.mono h.below.size), h.steps⟩
theorem At.fails {W wr V : World} {p j lp T : Nat} {l : List TurnT} {v : Value} {F F1 : List Nat} {d : DiskT} {es : List (List UInt8)} {vs : List Value} (h : At W wr p l j v lp F d es vs T) {n : Int} {k : Nat} (hn : n < 9223372036854775808) (hk : k < 18446744073709551616) (hL : LeftO wr p F (failD d n k) F1 V) : At W V p l j v lp F1 (failD d n k) es vs T := by
  obtain ⟨A, c, h1, -, -⟩ := h.log.at_
  exact ⟨h.turned.fail hn hk, h.disk.rowB hL.fr h.row, h.ent.kept (h.disk.u8 hL.fr), h.log.fr h.disk hL.fr h.out, hL.new.out h.out (lt_of_block h1), hL.at_, hL.new.ge h.ge h.below.size, h.lge, h.below.trans (hL.fr.toBelowOf h.below.size h.ge), by rw [fail_steps]; exact h.steps⟩
/-- What stays while the disk is called: both rows of entries. -/
structure Kp (W w : World) (b8 : Nat) (v8 v : Value) (L8 el : Nat) (ws vs : List Value) (es : List (List UInt8)) : Prop where
  more : w.ownsRow b8 30 1 v8 L8 ws
  sure : w.ownsRow W.heap.size 30 1 v el vs
  ent : EntVs w vs es
  below : Below W.heap.size W w
theorem Kp.bel {W w V : World} {b8 L8 el : Nat} {v8 v : Value} {ws vs : List Value} {es : List (List UInt8)} (h : Kp W w b8 v8 v L8 el ws vs es) (hb : Below w.heap.size w V) : Kp W V b8 v8 v L8 el ws vs es :=
  ⟨own_below h.more hb, own_below h.sure hb, h.ent.kept (U8Kept.below hb), h.below.trans (hb.mono h.below.size)⟩
theorem Kp.disk {W w V : World} {b8 L8 el p : Nat} {v8 v : Value} {ws vs : List Value} {es : List (List UInt8)} {F : List Nat} {d : DiskT} (h : Kp W w b8 v8 v L8 el ws vs es) (hd : DkO w p F d) (hF : ∀ i ∈ F, W.heap.size ≤ i) (hf : Fr F w V) : Kp W V b8 v8 v L8 el ws vs es :=
  ⟨hd.rowB hf h.more, hd.rowB hf h.sure, h.ent.kept (hd.u8 hf), h.below.trans (hf.toBelowOf h.below.size hF)⟩
set_option maxRecDepth 100000 in
set_option maxHeartbeats 16000000 in
theorem whole_walk {l : List TurnT} {A : Option Addr} {c : Nat} {W : World} (hl : TurnsIn W A l) (hok : ∀ x ∈ l, x.Ok) : Calls Try.prog 4 #[.slice A l.length c] W fun e w' => e = .returned (.bool true) ∧ Below W.heap.size W w' := by
  have HTI := Lib.hid hl
  have HOK := Lib.hid hok
  clear hl hok
  obtain ⟨n, hn⟩ : ∃ n, l.length = n := ⟨_, rfl⟩
  rw [hn]
  have HN := Lib.hid hn
  clear hn
  by_cases h30 : 30 < n
  · have h30i : ((n : Int) > 30) := by omega
    go_enter Try.func4, Try.ntmps4
    go_wp2_with fail
    refine (works_any _).mono ?_
    rintro e w9 ⟨rfl, hb9⟩
    go_wp2_with fail
    go_ret
    exact ⟨rfl, hb9⟩
  · have h30i : ¬ ((n : Int) > 30) := by omega
    go_enter Try.func4, Try.ntmps4
    go_wp2_with fail
    go_loopw [3, 4] (fun u i wr => ∃ j : Nat, j ≤ n ∧ i = .int .i64 j ∧ u = .int .i64 ((sumT l j : Nat) : Int) ∧ sumT l j ≤ 20000 ∧ W = wr) (fun _ i _ => n - (intOf i).toNat)
    case atStart => exact ⟨0, Nat.zero_le _, rfl, rfl, Nat.zero_le _, rfl⟩
    case round =>
      obtain ⟨j, hj, rfl, rfl, hsum, hwr⟩ := hrel
      subst hwr
      by_cases hlt : j < n
      · have hjl : j < l.length := by rw [HN.out]; exact hlt
        have hji : ((j : Int) < (n : Int)) := by omega
        obtain ⟨ad, B, us, c2, rfl, q0, -, -, hcB, hevB⟩ := turn_look (Below.refl _ _) HTI.out hjl
        have hsu := sumT_succ hjl
        have hxo := HOK.out _ (List.getElem_mem hjl)
        obtain ⟨x, hx⟩ : ∃ x, l[j] = x := ⟨_, rfl⟩
        rw [hx] at q0 hevB hsu hxo
        obtain ⟨xn, hxn⟩ : ∃ xn, x.es.length = xn := ⟨_, rfl⟩
        rw [hxn] at q0
        have HSZ := Lib.hid (size_any (c := c2) hcB ⟨hevB.len, fun k hk => by obtain ⟨A', c', h1, -, -⟩ := hevB.at_ k hk; exact ⟨A', c', h1⟩⟩ hxn (by rw [← hxn]; exact hxo.many) hxo.long)
        obtain ⟨sj, hsj⟩ : ∃ sj, sumT l j = sj := ⟨_, rfl⟩
        rw [hsj] at hsum hsu ⊢
        have HSU := Lib.hid hsu
        clear hcB hevB hsu hxo hx hxn
        go_wp2_with fail
        refine HSZ.out.mono ?_
        rintro e w2 ⟨s, rfl, rfl, hs1, hs2⟩
        have HS2 := Lib.hid hs2
        clear hs2 HSZ q0
        by_cases hbig : 20000 < sj + s
        · have hbi : ((sj : Int) + (s : Int) > 20000) := by omega
          go_wp2_with fail
          refine (works_any _).mono ?_
          rintro e w9 ⟨rfl, hb9⟩
          go_wp2_with fail
          go_ret
          exact ⟨rfl, hb9⟩
        · have hbi : ¬ ((sj : Int) + (s : Int) > 20000) := by omega
          go_wp2_with fail
          go_roundw
          case rel =>
            have h1 := HSU.out
            rw [HS2.out (by omega)] at h1
            exact ⟨j + 1, hlt, by go_num, by rw [h1]; go_num, by rw [h1]; omega, by first | rfl | trivial⟩
          case measure => simp [intOf]; omega
      · obtain rfl : j = n := by omega
        have hji : ¬ ((j : Int) < (j : Int)) := by omega
        have HTOT := Lib.hid hsum
        clear hsum
        obtain ⟨sj, hsj⟩ : ∃ sj, sumT l j = sj := ⟨_, rfl⟩
        rw [hsj]
        clear hsj
        have hfr := (new_fresh (q := 500) (by decide) fB)
        have hlv : Live 3 (newD 500) := .inl rfl
        have hs0 : (newD 500).steps = 0 ∧ (newD 500).quota = 500 := ⟨rfl, rfl⟩
        have HN0 := Lib.hid (fun V => new_o 500 V)
        obtain ⟨d0, hd0⟩ : ∃ d0, newD 500 = d0 := ⟨_, rfl⟩
        rw [hd0] at hfr hlv hs0
        simp only [hd0] at HN0
        have hop := hfr.open_ (by decide)
        have hst1 := open_steps d0 fB
        obtain ⟨⟨e1, d1, o1⟩, hr1⟩ : ∃ r1, openL d0 fB = r1 := ⟨_, rfl⟩
        rw [hr1] at hop hst1
        have HR1 := Lib.hid hr1
        obtain ⟨hop1, hq1, hz1⟩ := hop
        have h0 := hz1 hlv
        dsimp only at h0 hop1 hq1 hst1
        subst h0
        rcases hop1 with ⟨-, ho1, hol⟩ | ⟨h7, -⟩
        · subst ho1
          have HT0 := Lib.hid (show Turned d1 fB [] 0 from ⟨hq1.trans hs0.2, ⟨_, hol, by simp⟩, by simp [rowL]⟩)
          have HST0 := Lib.hid (show d1.steps ≤ 5 from by have := hs0.1; omega)
          have HS0 := Lib.hid hs0.1
          clear hd0 hfr hlv hs0 hr1 hz1 hq1 hst1 hol
          go_wp2_with fail
          refine (HN0.out _).mono ?_
          rintro e w1 ⟨p, F0, rfl, h1, hb1, hlo⟩
          have HB1 := Lib.hid hb1
          have HLO := Lib.hid hlo
          have HD0 := Lib.hid h1
          clear h1 hb1 hlo HN0
          go_wp2_with fail
          refine (open_any (d := d0) (name := fB) HD0.out (by rw [HS0.out]; decide)).mono ?_
          rintro e w2 hP
          rw [HR1.out] at hP
          obtain ⟨F1, hL, lp, v, vs, rfl, hlp, hlf, hown, hev, hla⟩ := hP
          obtain ⟨Av, cv, hv, -, -⟩ := own_shape hown
          dsimp only at hv hL hla
          rw [show ([] : List (List UInt8)).length = 0 from rfl] at hv hla
          subst hv
          have HAT := Lib.hid (show At W w2 p l 0 (.slice none 0 0) lp F1 d1 [] [] 0 from ⟨HT0.out, World.ownsRow_nil _ _ _ _, EntVs.nil _, hla, hlf, hL.at_, hL.new.ge HLO.out HB1.out.size, Nat.le_trans HB1.out.size hlp, HB1.out.trans (hL.fr.toBelowOf HB1.out.size HLO.out), by have := HST0.out; omega⟩)
          clear hL hlp hlf hown hev hla
          go_wp2_with fail
          go_loopw [6, 7, 10] (fun v u i V => ∃ (k lp : Nat) (F : List Nat) (d : DiskT) (es : List (List UInt8)) (vs : List Value), k ≤ j ∧ i = .int .i64 k ∧ u = .pointer (some ⟨lp, 0, none⟩) ∧ At W V p l k v lp F d es vs (sumT l k)) (fun _ _ i _ => j - (intOf i).toNat)
          case atStart => exact ⟨0, lp, F1, d1, [], [], Nat.zero_le _, rfl, rfl, HAT.out⟩
          case round =>
            obtain ⟨k, lp, F, d, es, vs, hk, rfl, rfl, hat⟩ := hrel
            obtain ⟨As, cs, hv, -, hcs⟩ := own_shape hat.row
            subst hv
            have HAT2 := Lib.hid hat
            clear hat HAT
            by_cases hlt : k < j
            · have hkl : k < l.length := by rw [HN.out]; exact hlt
              have hki : ((k : Int) < (j : Int)) := by omega
              have hsu := sumT_succ hkl
              have hsle := Nat.le_trans (sumT_le l (show k + 1 ≤ j from hlt)) HTOT.out
              have hxo := HOK.out _ (List.getElem_mem hkl)
              obtain ⟨ad, hadA, B, us, c2, q0, q1, q2, hcB, hevB⟩ := HTI.out k hkl
              subst hadA
              obtain ⟨⟨more, inn, keep⟩, hx⟩ : ∃ x, l[k] = x := ⟨_, rfl⟩
              rw [hx] at q0 q1 q2 hevB hsu hxo
              dsimp only at q0 q1 q2 hevB hsu
              obtain ⟨hbi, hbk, -, -⟩ := hxo
              dsimp only at hbi hbk
              obtain ⟨mn, hmn⟩ : ∃ mn, more.length = mn := ⟨_, rfl⟩
              rw [hmn] at q0
              obtain ⟨el, hel⟩ : ∃ el, es.length = el := ⟨_, rfl⟩
              rw [hel]
              have HEL := Lib.hid hel
              have HMN := Lib.hid hmn
              have HSU := Lib.hid hsu
              have HSLE := Lib.hid hsle
              have HCB := Lib.hid hcB
              have HEVB := Lib.hid hevB
              have q0 := cell_below HAT2.out.below q0
              have q1 : wr.cell? ⟨(ad.add (k * 3)).block, (ad.add (k * 3)).off + 1, none⟩ = some (.int .i64 inn) := by rw [next_add3 _ _ _ (by decide)]; exact cell_below HAT2.out.below q1
              have q2 : wr.cell? ⟨(ad.add (k * 3)).block, (ad.add (k * 3)).off + 2, none⟩ = some (.int .u64 (keep : Int)) := by rw [next_add3 _ _ _ (by decide)]; exact cell_below HAT2.out.below q2
              have hat4 := HAT2.out.bel (one_below wr (.cells #[.slice B mn c2, .int .i64 inn, .int .u64 (keep : Int)] 41))
              have hbox := Go.heap_alloc_new wr (.cells #[.slice B mn c2, .int .i64 inn, .int .u64 (keep : Int)] 41)
              obtain ⟨bx, hbx⟩ : ∃ bx, wr.heap.size = bx := ⟨_, rfl⟩
              rw [hbx] at hbox
              have HBX := Lib.hid (show ¬ bx = lp ∧ bx ∉ F from ⟨fun h => by
                  obtain ⟨A', c', h1, -, -⟩ := HAT2.out.log.at_
                  have := lt_of_block h1
                  omega, fun h => by have := HAT2.out.disk.lt _ h; omega⟩)
              have b0 : (wr.alloc (.cells #[.slice B mn c2, .int .i64 inn, .int .u64 (keep : Int)] 41)).cell? ⟨bx, 0, none⟩ = some (.slice B mn c2) := cell_of (j := 0) hbox rfl
              have HAT4 := Lib.hid hat4
              have hwb : bx < (wr.alloc (.cells #[.slice B mn c2, .int .i64 inn, .int .u64 (keep : Int)] 41)).heap.size := lt_of_block hbox
              clear hel hmn hsu hsle hcB hevB hx hcs hat4 hkl
              by_cases hin : 0 ≤ inn
              · have hini : (inn ≥ 0) := hin
                go_wp2_with fail
                refine (DkO.fail (d := d) (n := inn) (k := keep) HAT4.out.disk hbi hbk).mono ?_
                rintro e w5 ⟨rfl, F5, hL⟩
                have hat5 := HAT4.out.fails hbi hbk hL
                have b0 := hL.fr.cellKept HBX.out.2 b0
                have HBX := Lib.hid (show ¬ bx = lp ∧ bx ∉ F5 from ⟨HBX.out.1, hL.new.out HBX.out.2 hwb⟩)
                clear hL HAT4 HAT2 q0 q1 q2 hbox hwb
                go_wp2_with fail
                have HAT5 := Lib.hid hat5
                clear hat5
                have hcount : es.length ≤ 65536 := by
                  obtain ⟨P, h1, -⟩ := HAT5.out.turned.at_
                  exact h1.log.count
                have hrw := HAT5.out.turned.row
                have hTm : sumT l k + (rowL more).length ≤ 20000 := by have := HSLE.out; have := HSU.out; omega
                obtain ⟨a, ha, hcases⟩ := turn_law HAT5.out.turned hTm
                have hast := append_steps (failD d inn keep) fB (logOf es) more
                rw [ha] at hast
                have hbl : ((logOf es).tail ++ rowL more).length ≤ 20300 := by
                  have h9 := tailL_len (rowL es)
                  show (tailL (rowL es) ++ rowL more).length ≤ _
                  rw [List.length_append]
                  omega
                have hst5 := HAT5.out.steps
                refine (append_any (l := logOf es) HAT5.out.disk (by omega) HAT5.out.log HAT5.out.out (tailL_len _) (show (rowL es).length ≤ 100000000 by omega) hcount (HCB.out.below HAT5.out.below) (HEVB.out.below HAT5.out.below) HMN.out (by omega)).mono ?_
                rw [ha]
                rintro e w6 ⟨rfl, F6, hd6, hf6, hn6, hl6, hla6⟩
                obtain ⟨a1, d6, l6⟩ := a
                dsimp only at hcases hast hd6 hla6 ⊢
                have hrows := log_rows HAT5.out.disk HAT5.out.log hf6
                have HROW6 := Lib.hid (show w6.ownsRow W.heap.size 30 1 (.slice As el cs) el vs from by have h9 := hrows.2 _ _ _ _ HAT5.out.row; rw [HEL.out] at h9; exact h9)
                have HEV6 := Lib.hid (HAT5.out.ent.kept hrows.1)
                have HBEL6 := Lib.hid (HAT5.out.below.trans (hf6.toBelowOf HAT5.out.below.size fun i hi => (List.mem_cons.1 hi).elim (fun h => by rw [h]; exact HAT5.out.lge) (HAT5.out.ge i)))
                have HF6 := Lib.hid (hn6.ge HAT5.out.ge HAT5.out.below.size)
                have HD6 := Lib.hid hd6
                have HST6 := Lib.hid (show d6.steps ≤ 5 + 100 * k + 83 from by omega)
                have b0 : w6.cell? ⟨bx, 0, none⟩ = some (.slice B mn c2) := hf6.cellKept (fun h => (List.mem_cons.1 h).elim (fun h => HBX.out.1 h) (fun h => HBX.out.2 h)) b0
                have hcu6 : Cells w6 B us := HCB.out.below HBEL6.out
                have HSC := Lib.hid (show Cells w6 As vs from by
                  obtain ⟨A', c', he, -, h9⟩ := own_shape HROW6.out
                  injection he with he
                  subst he
                  exact h9)
                have HVL := Lib.hid (show vs.length = el * 1 from by rw [HEV6.out.len, HEL.out, Nat.mul_one])
                have HV1 := Lib.hid HEV6.out.one
                have HUL := Lib.hid (show us.length = mn * 1 from by rw [HEVB.out.len, HMN.out, Nat.mul_one])
                have HU1 := Lib.hid HEVB.out.one
                have hell : el ≤ 65536 := by rw [← HEL.out]; exact hcount
                have hmnl : mn ≤ 5000 := by have := row_big (es := more); have := HMN.out; omega
                obtain ⟨L8, hL8⟩ : ∃ L8, el + mn = L8 := ⟨_, rfl⟩
                have HL8 := Lib.hid hL8
                have HLM := Lib.hid (show (es ++ more).length = L8 from by rw [List.length_append, HEL.out, HMN.out]; exact hL8)
                clear hcount hrw hTm ha hast hbl hst5 hd6 hf6 hn6 hl6 hla6 hrows hL8
                rcases hcases with h3 | ⟨h0, hoff, hT6⟩ | ⟨h7, hoff, es', hes, hT6⟩
                · subst h3
                  have tok1 : True := trivial
                  go_wp2_with (first
                    | (have _t := tok1; at_builtin; go_must (refine wpList_appk slB rfl _ _ rfl w6.heap.size (.slice none 0 0) 0 [] rfl (World.ownsRow_nil _ _ _ _) As el cs vs rfl HVL.out HSC.out HV1.out (by omega) (by omega) (Nat.le_refl _) ?_); intro v7 w7 hown7 hg7 hb7 hat7; rw [Nat.zero_add, List.nil_append] at hown7; obtain ⟨A7, c7, hv7, -, -⟩ := own_shape hown7; subst hv7; have HO7 := Lib.hid hown7; have HB7 := Lib.hid hb7; have b0 := cell_below hb7 b0; have HSU7 := Lib.hid (hcu6.below hb7); clear tok1 _t hown7 hg7 hb7 hat7)
                    | (at_builtin; go_must (refine wpList_appk slB rfl _ _ rfl w6.heap.size (.slice A7 el c7) el _ rfl HO7.out B mn c2 us rfl HUL.out HSU7.out HU1.out (by omega) (by omega) HB7.out.size ?_); intro v8 w8 hown8 hg8 hb8 hat8; rw [HL8.out] at hown8; obtain ⟨A8, c8, hv8, -, -⟩ := own_shape hown8; subst hv8; have HO8 := Lib.hid hown8; have HB8 := Lib.hid (HB7.out.trans hb8); clear hown8 hg8 hb8 hat8))
                  clear b0
                  have HBE8 := Lib.hid (HBEL6.out.trans (HB8.out.mono HBEL6.out.size))
                  refine (works_any _).mono ?_
                  rintro e w9 ⟨rfl, hb9⟩
                  go_wp2_with fail
                  go_ret
                  exact ⟨rfl, HBE8.out.trans (hb9.mono HBE8.out.size)⟩
                · subst h0
                  have HTX := Lib.hid (hT6.fail (n := 1073741824) (k := 0) (by decide) (by decide))
                  have HOFF := Lib.hid hoff
                  clear hT6 hoff
                  have tok1 : True := trivial
                  go_wp2_with (first
                    | (have _t := tok1; at_builtin; go_must (refine wpList_appk slB rfl _ _ rfl w6.heap.size (.slice none 0 0) 0 [] rfl (World.ownsRow_nil _ _ _ _) As el cs vs rfl HVL.out HSC.out HV1.out (by omega) (by omega) (Nat.le_refl _) ?_); intro v7 w7 hown7 hg7 hb7 hat7; rw [Nat.zero_add, List.nil_append] at hown7; obtain ⟨A7, c7, hv7, -, -⟩ := own_shape hown7; subst hv7; have HO7 := Lib.hid hown7; have HB7 := Lib.hid hb7; have b0 := cell_below hb7 b0; have HSU7 := Lib.hid (hcu6.below hb7); clear tok1 _t hown7 hg7 hb7 hat7)
                    | (at_builtin; go_must (refine wpList_appk slB rfl _ _ rfl w6.heap.size (.slice A7 el c7) el _ rfl HO7.out B mn c2 us rfl HUL.out HSU7.out HU1.out (by omega) (by omega) HB7.out.size ?_); intro v8 w8 hown8 hg8 hb8 hat8; rw [HL8.out] at hown8; obtain ⟨A8, c8, hv8, -, -⟩ := own_shape hown8; subst hv8; have HO8 := Lib.hid hown8; have HB8 := Lib.hid (HB7.out.trans hb8); clear hown8 hg8 hb8 hat8))
                  clear b0
                  have HK8 := Lib.hid (show Kp W w8 w6.heap.size (.slice A8 L8 c8) (.slice As el cs) L8 el (vs ++ us) vs es from ⟨HO8.out, own_below HROW6.out HB8.out, HEV6.out.kept (U8Kept.below HB8.out), HBEL6.out.trans (HB8.out.mono HBEL6.out.size)⟩)
                  have HD8 := Lib.hid (HD6.out.below HB8.out)
                  refine (DkO.off (d := d6) HD8.out).mono ?_
                  rintro e w9 ⟨rfl, hw9⟩
                  subst hw9
                  rw [HOFF.out]
                  have HDX := HD8
                  have HKX := HK8
                  have HFX := HF6
                  have HSTX := Lib.hid HST6.out
                  have HSZX := Lib.hid HK8.out.below.size
                  go_wp2_with fail
                  refine (DkO.fail (d := d6) (n := 1073741824) (k := 0) HDX.out (by decide) (by decide)).mono ?_
                  rintro e w10 ⟨rfl, F10, hL10⟩
                  have HKX := Lib.hid (HKX.out.disk HDX.out HFX.out hL10.fr)
                  have hF10 := hL10.new.ge HFX.out HSZX.out
                  have hsz10 := Nat.le_trans HSZX.out hL10.fr.size
                  have HD10 := Lib.hid hL10.at_
                  have HFX := Lib.hid hF10
                  have HSZX := Lib.hid hsz10
                  clear hL10 hF10 hsz10
                  go_wp2_with fail
                  refine (open_any (name := fB) HD10.out (by rw [fail_steps]; have := HSTX.out; omega)).mono ?_
                  rw [HTX.out.open_]
                  rintro e w11 ⟨F11, hL11, lp2, v11, vs11, rfl, hlp11, hlf11, hown11, hev11, hla11⟩
                  dsimp only at hL11 hown11 hev11 hla11
                  have HKX := Lib.hid (HKX.out.disk HD10.out HFX.out hL11.fr)
                  have HF11 := Lib.hid (hL11.new.ge HFX.out HSZX.out)
                  obtain ⟨A11, c11, hv11, -, hc11⟩ := own_shape hown11
                  subst hv11
                  have HROW11 := Lib.hid (own_to hown11 HSZX.out)
                  have HEV11 := Lib.hid hev11
                  have HLA11 := Lib.hid (show LogAt w11 lp2 p fB (logOf (es ++ more)).long (logOf (es ++ more)).count (logOf (es ++ more)).tail (logOf (es ++ more)).broken from hla11)
                  have HD11 := Lib.hid hL11.at_
                  have HLF11 := Lib.hid hlf11
                  have HLP11 := Lib.hid (Nat.le_trans HSZX.out hlp11)
                  have HC11 := Lib.hid hc11
                  clear hL11 hlp11 hlf11 hown11 hev11 hla11 hc11
                  obtain ⟨L11, hL11⟩ : ∃ L11, ((es ++ more)).length = L11 := ⟨_, rfl⟩
                  rw [hL11] at HROW11
                  have HL11 := Lib.hid hL11
                  rw [hL11]
                  clear hL11
                  have HLS := Lib.hid (show L11 ≤ 1000000000 from by have := HTX.out.row; have := row_big (es := es ++ more); have := HL11.out; have := HSLE.out; have := HSU.out; omega)
                  go_wp2_with fail
                  obtain ⟨Az, cz, hvz, -, hcz⟩ := own_shape HKX.out.more
                  injection hvz with hvz1 hvz2 hvz3
                  subst hvz1
                  clear hvz2 hvz3 cz
                  refine (same_any (n := L11) (k := L8) (es := (es ++ more)) (fs := (es ++ more)) HC11.out HEV11.out.c hcz (HKX.out.ent.c.append (HEVB.out.below HKX.out.below)) HL11.out HLM.out HLS.out).mono ?_
                  rintro e w12 ⟨rfl, hb12⟩
                  clear hcz
                  rw [show decide ((es ++ more) = (es ++ more)) = true from decide_eq_true rfl]
                  have HKX := Lib.hid (HKX.out.bel hb12)
                  have HROW11 := Lib.hid (own_below HROW11.out hb12)
                  have HC11 := Lib.hid (HC11.out.below hb12)
                  have HEV11 := Lib.hid (HEV11.out.kept (U8Kept.below hb12))
                  have HLA11 := Lib.hid (HLA11.out.below hb12)
                  have HD11 := Lib.hid (HD11.out.below hb12)
                  clear hb12
                  go_wp2_with fail
                  refine (count_any HLA11.out).mono ?_
                  rintro e w13 ⟨rfl, rfl⟩
                  rw [show ((logOf (es ++ more)).count : Int) = (L11 : Int) from by rw [← HL11.out]; rfl]
                  go_wp2_with fail
                  go_roundw
                  case rel =>
                    refine ⟨k + 1, lp2, F11, failD d6 1073741824 0, (es ++ more), vs11, hlt, by go_num, rfl, ?_⟩
                    exact ⟨by rw [HSU.out]; exact HTX.out, by rw [HL11.out]; exact HROW11.out, HEV11.out, HLA11.out, HLF11.out, HD11.out, HF11.out, HLP11.out, HKX.out.below, by rw [fail_steps]; have := HSTX.out; omega⟩
                  case measure => simp [intOf]; omega
                · subst h7
                  have HTX := Lib.hid (hT6.fail (n := 1073741824) (k := 0) (by decide) (by decide))
                  have HOFF := Lib.hid hoff
                  have HES := Lib.hid hes
                  clear hT6 hoff hes
                  have tok1 : True := trivial
                  go_wp2_with (first
                    | (have _t := tok1; at_builtin; go_must (refine wpList_appk slB rfl _ _ rfl w6.heap.size (.slice none 0 0) 0 [] rfl (World.ownsRow_nil _ _ _ _) As el cs vs rfl HVL.out HSC.out HV1.out (by omega) (by omega) (Nat.le_refl _) ?_); intro v7 w7 hown7 hg7 hb7 hat7; rw [Nat.zero_add, List.nil_append] at hown7; obtain ⟨A7, c7, hv7, -, -⟩ := own_shape hown7; subst hv7; have HO7 := Lib.hid hown7; have HB7 := Lib.hid hb7; have b0 := cell_below hb7 b0; have HSU7 := Lib.hid (hcu6.below hb7); clear tok1 _t hown7 hg7 hb7 hat7)
                    | (at_builtin; go_must (refine wpList_appk slB rfl _ _ rfl w6.heap.size (.slice A7 el c7) el _ rfl HO7.out B mn c2 us rfl HUL.out HSU7.out HU1.out (by omega) (by omega) HB7.out.size ?_); intro v8 w8 hown8 hg8 hb8 hat8; rw [HL8.out] at hown8; obtain ⟨A8, c8, hv8, -, -⟩ := own_shape hown8; subst hv8; have HO8 := Lib.hid hown8; have HB8 := Lib.hid (HB7.out.trans hb8); clear hown8 hg8 hb8 hat8))
                  clear b0
                  have HK8 := Lib.hid (show Kp W w8 w6.heap.size (.slice A8 L8 c8) (.slice As el cs) L8 el (vs ++ us) vs es from ⟨HO8.out, own_below HROW6.out HB8.out, HEV6.out.kept (U8Kept.below HB8.out), HBEL6.out.trans (HB8.out.mono HBEL6.out.size)⟩)
                  have HD8 := Lib.hid (HD6.out.below HB8.out)
                  refine (DkO.off (d := d6) HD8.out).mono ?_
                  rintro e w9 ⟨rfl, hw9⟩
                  subst hw9
                  rw [HOFF.out]
                  go_wp2_with fail
                  refine (DkO.on (d := d6) HD8.out (by have := HST6.out; omega)).mono ?_
                  rintro e w9 ⟨rfl, F9, hL9⟩
                  have HKX := Lib.hid (HK8.out.disk HD8.out HF6.out hL9.fr)
                  have HFX := Lib.hid (hL9.new.ge HF6.out HK8.out.below.size)
                  have HDX := Lib.hid hL9.at_
                  have HSTX := Lib.hid (show (onD d6).steps ≤ 5 + 100 * k + 83 from by rw [on_steps]; exact HST6.out)
                  have HSZX := Lib.hid HKX.out.below.size
                  clear hL9
                  go_wp2_with fail
                  refine (DkO.fail (d := (onD d6)) (n := 1073741824) (k := 0) HDX.out (by decide) (by decide)).mono ?_
                  rintro e w10 ⟨rfl, F10, hL10⟩
                  have HKX := Lib.hid (HKX.out.disk HDX.out HFX.out hL10.fr)
                  have hF10 := hL10.new.ge HFX.out HSZX.out
                  have hsz10 := Nat.le_trans HSZX.out hL10.fr.size
                  have HD10 := Lib.hid hL10.at_
                  have HFX := Lib.hid hF10
                  have HSZX := Lib.hid hsz10
                  clear hL10 hF10 hsz10
                  go_wp2_with fail
                  refine (open_any (name := fB) HD10.out (by rw [fail_steps]; have := HSTX.out; omega)).mono ?_
                  rw [HTX.out.open_]
                  rintro e w11 ⟨F11, hL11, lp2, v11, vs11, rfl, hlp11, hlf11, hown11, hev11, hla11⟩
                  dsimp only at hL11 hown11 hev11 hla11
                  have HKX := Lib.hid (HKX.out.disk HD10.out HFX.out hL11.fr)
                  have HF11 := Lib.hid (hL11.new.ge HFX.out HSZX.out)
                  obtain ⟨A11, c11, hv11, -, hc11⟩ := own_shape hown11
                  subst hv11
                  have HROW11 := Lib.hid (own_to hown11 HSZX.out)
                  have HEV11 := Lib.hid hev11
                  have HLA11 := Lib.hid (show LogAt w11 lp2 p fB (logOf es').long (logOf es').count (logOf es').tail (logOf es').broken from hla11)
                  have HD11 := Lib.hid hL11.at_
                  have HLF11 := Lib.hid hlf11
                  have HLP11 := Lib.hid (Nat.le_trans HSZX.out hlp11)
                  have HC11 := Lib.hid hc11
                  clear hL11 hlp11 hlf11 hown11 hev11 hla11 hc11
                  obtain ⟨L11, hL11⟩ : ∃ L11, (es').length = L11 := ⟨_, rfl⟩
                  rw [hL11] at HROW11
                  have HL11 := Lib.hid hL11
                  rw [hL11]
                  clear hL11
                  have HLS := Lib.hid (show L11 ≤ 1000000000 from by have := HTX.out.row; have := row_big (es := es'); have := HL11.out; have := HSLE.out; have := HSU.out; omega)
                  by_cases hee : es' = es
                  · have HEE := Lib.hid hee
                    clear hee
                    go_wp2_with fail
                    obtain ⟨Az, cz, hvz, -, hcz⟩ := own_shape HKX.out.sure
                    injection hvz with hvz1 hvz2 hvz3
                    subst hvz1
                    clear hvz2 hvz3 cz
                    refine (same_any (n := L11) (k := el) (es := es') (fs := es) HC11.out HEV11.out.c hcz HKX.out.ent.c HL11.out HEL.out HLS.out).mono ?_
                    rintro e w12 ⟨rfl, hb12⟩
                    clear hcz
                    rw [show decide (es' = es) = true from decide_eq_true HEE.out]
                    have HKX := Lib.hid (HKX.out.bel hb12)
                    have HROW11 := Lib.hid (own_below HROW11.out hb12)
                    have HC11 := Lib.hid (HC11.out.below hb12)
                    have HEV11 := Lib.hid (HEV11.out.kept (U8Kept.below hb12))
                    have HLA11 := Lib.hid (HLA11.out.below hb12)
                    have HD11 := Lib.hid (HD11.out.below hb12)
                    clear hb12
                    go_wp2_with fail
                    refine (count_any HLA11.out).mono ?_
                    rintro e w13 ⟨rfl, rfl⟩
                    rw [show ((logOf es').count : Int) = (L11 : Int) from by rw [← HL11.out]; rfl]
                    go_wp2_with fail
                    go_roundw
                    case rel =>
                      refine ⟨k + 1, lp2, F11, failD (onD d6) 1073741824 0, es', vs11, hlt, by go_num, rfl, ?_⟩
                      exact ⟨by rw [HSU.out]; exact HTX.out, by rw [HL11.out]; exact HROW11.out, HEV11.out, HLA11.out, HLF11.out, HD11.out, HF11.out, HLP11.out, HKX.out.below, by rw [fail_steps]; have := HSTX.out; omega⟩
                    case measure => simp [intOf]; omega
                  · have hea : es' = es ++ more := HES.out.elim (fun h => absurd h hee) id
                    have HEE := Lib.hid hee
                    have HEA := Lib.hid hea
                    clear hee hea
                    go_wp2_with fail
                    obtain ⟨Az, cz, hvz, -, hcz⟩ := own_shape HKX.out.sure
                    injection hvz with hvz1 hvz2 hvz3
                    subst hvz1
                    clear hvz2 hvz3 cz
                    refine (same_any (n := L11) (k := el) (es := es') (fs := es) HC11.out HEV11.out.c hcz HKX.out.ent.c HL11.out HEL.out HLS.out).mono ?_
                    rintro e w12 ⟨rfl, hb12⟩
                    clear hcz
                    rw [show decide (es' = es) = false from decide_eq_false HEE.out]
                    have HKX := Lib.hid (HKX.out.bel hb12)
                    have HROW11 := Lib.hid (own_below HROW11.out hb12)
                    have HC11 := Lib.hid (HC11.out.below hb12)
                    have HEV11 := Lib.hid (HEV11.out.kept (U8Kept.below hb12))
                    have HLA11 := Lib.hid (HLA11.out.below hb12)
                    have HD11 := Lib.hid (HD11.out.below hb12)
                    clear hb12
                    go_wp2_with fail
                    obtain ⟨Az, cz, hvz, -, hcz⟩ := own_shape HKX.out.more
                    injection hvz with hvz1 hvz2 hvz3
                    subst hvz1
                    clear hvz2 hvz3 cz
                    refine (same_any (n := L11) (k := L8) (es := es') (fs := (es ++ more)) HC11.out HEV11.out.c hcz (HKX.out.ent.c.append (HEVB.out.below HKX.out.below)) HL11.out HLM.out HLS.out).mono ?_
                    rintro e w12 ⟨rfl, hb12⟩
                    clear hcz
                    rw [show decide (es' = (es ++ more)) = true from decide_eq_true HEA.out]
                    have HKX := Lib.hid (HKX.out.bel hb12)
                    have HROW11 := Lib.hid (own_below HROW11.out hb12)
                    have HC11 := Lib.hid (HC11.out.below hb12)
                    have HEV11 := Lib.hid (HEV11.out.kept (U8Kept.below hb12))
                    have HLA11 := Lib.hid (HLA11.out.below hb12)
                    have HD11 := Lib.hid (HD11.out.below hb12)
                    clear hb12
                    go_wp2_with fail
                    refine (count_any HLA11.out).mono ?_
                    rintro e w13 ⟨rfl, rfl⟩
                    rw [show ((logOf es').count : Int) = (L11 : Int) from by rw [← HL11.out]; rfl]
                    go_wp2_with fail
                    go_roundw
                    case rel =>
                      refine ⟨k + 1, lp2, F11, failD (onD d6) 1073741824 0, es', vs11, hlt, by go_num, rfl, ?_⟩
                      exact ⟨by rw [HSU.out]; exact HTX.out, by rw [HL11.out]; exact HROW11.out, HEV11.out, HLA11.out, HLF11.out, HD11.out, HF11.out, HLP11.out, HKX.out.below, by rw [fail_steps]; have := HSTX.out; omega⟩
                    case measure => simp [intOf]; omega
              · have hini : ¬ (inn ≥ 0) := hin
                go_wp2_with fail
                have hat5 := HAT4.out
                clear HAT4 HAT2 q0 q1 q2 hbox hwb
                have HAT5 := Lib.hid hat5
                clear hat5
                have hcount : es.length ≤ 65536 := by
                  obtain ⟨P, h1, -⟩ := HAT5.out.turned.at_
                  exact h1.log.count
                have hrw := HAT5.out.turned.row
                have hTm : sumT l k + (rowL more).length ≤ 20000 := by have := HSLE.out; have := HSU.out; omega
                obtain ⟨a, ha, hcases⟩ := turn_law HAT5.out.turned hTm
                have hast := append_steps d fB (logOf es) more
                rw [ha] at hast
                have hbl : ((logOf es).tail ++ rowL more).length ≤ 20300 := by
                  have h9 := tailL_len (rowL es)
                  show (tailL (rowL es) ++ rowL more).length ≤ _
                  rw [List.length_append]
                  omega
                have hst5 := HAT5.out.steps
                refine (append_any (l := logOf es) HAT5.out.disk (by omega) HAT5.out.log HAT5.out.out (tailL_len _) (show (rowL es).length ≤ 100000000 by omega) hcount (HCB.out.below HAT5.out.below) (HEVB.out.below HAT5.out.below) HMN.out (by omega)).mono ?_
                rw [ha]
                rintro e w6 ⟨rfl, F6, hd6, hf6, hn6, hl6, hla6⟩
                obtain ⟨a1, d6, l6⟩ := a
                dsimp only at hcases hast hd6 hla6 ⊢
                have hrows := log_rows HAT5.out.disk HAT5.out.log hf6
                have HROW6 := Lib.hid (show w6.ownsRow W.heap.size 30 1 (.slice As el cs) el vs from by have h9 := hrows.2 _ _ _ _ HAT5.out.row; rw [HEL.out] at h9; exact h9)
                have HEV6 := Lib.hid (HAT5.out.ent.kept hrows.1)
                have HBEL6 := Lib.hid (HAT5.out.below.trans (hf6.toBelowOf HAT5.out.below.size fun i hi => (List.mem_cons.1 hi).elim (fun h => by rw [h]; exact HAT5.out.lge) (HAT5.out.ge i)))
                have HF6 := Lib.hid (hn6.ge HAT5.out.ge HAT5.out.below.size)
                have HD6 := Lib.hid hd6
                have HST6 := Lib.hid (show d6.steps ≤ 5 + 100 * k + 83 from by omega)
                have b0 : w6.cell? ⟨bx, 0, none⟩ = some (.slice B mn c2) := hf6.cellKept (fun h => (List.mem_cons.1 h).elim (fun h => HBX.out.1 h) (fun h => HBX.out.2 h)) b0
                have hcu6 : Cells w6 B us := HCB.out.below HBEL6.out
                have HSC := Lib.hid (show Cells w6 As vs from by
                  obtain ⟨A', c', he, -, h9⟩ := own_shape HROW6.out
                  injection he with he
                  subst he
                  exact h9)
                have HVL := Lib.hid (show vs.length = el * 1 from by rw [HEV6.out.len, HEL.out, Nat.mul_one])
                have HV1 := Lib.hid HEV6.out.one
                have HUL := Lib.hid (show us.length = mn * 1 from by rw [HEVB.out.len, HMN.out, Nat.mul_one])
                have HU1 := Lib.hid HEVB.out.one
                have hell : el ≤ 65536 := by rw [← HEL.out]; exact hcount
                have hmnl : mn ≤ 5000 := by have := row_big (es := more); have := HMN.out; omega
                obtain ⟨L8, hL8⟩ : ∃ L8, el + mn = L8 := ⟨_, rfl⟩
                have HL8 := Lib.hid hL8
                have HLM := Lib.hid (show (es ++ more).length = L8 from by rw [List.length_append, HEL.out, HMN.out]; exact hL8)
                clear hcount hrw hTm ha hast hbl hst5 hd6 hf6 hn6 hl6 hla6 hrows hL8
                rcases hcases with h3 | ⟨h0, hoff, hT6⟩ | ⟨h7, hoff, es', hes, hT6⟩
                · subst h3
                  have tok1 : True := trivial
                  go_wp2_with (first
                    | (have _t := tok1; at_builtin; go_must (refine wpList_appk slB rfl _ _ rfl w6.heap.size (.slice none 0 0) 0 [] rfl (World.ownsRow_nil _ _ _ _) As el cs vs rfl HVL.out HSC.out HV1.out (by omega) (by omega) (Nat.le_refl _) ?_); intro v7 w7 hown7 hg7 hb7 hat7; rw [Nat.zero_add, List.nil_append] at hown7; obtain ⟨A7, c7, hv7, -, -⟩ := own_shape hown7; subst hv7; have HO7 := Lib.hid hown7; have HB7 := Lib.hid hb7; have b0 := cell_below hb7 b0; have HSU7 := Lib.hid (hcu6.below hb7); clear tok1 _t hown7 hg7 hb7 hat7)
                    | (at_builtin; go_must (refine wpList_appk slB rfl _ _ rfl w6.heap.size (.slice A7 el c7) el _ rfl HO7.out B mn c2 us rfl HUL.out HSU7.out HU1.out (by omega) (by omega) HB7.out.size ?_); intro v8 w8 hown8 hg8 hb8 hat8; rw [HL8.out] at hown8; obtain ⟨A8, c8, hv8, -, -⟩ := own_shape hown8; subst hv8; have HO8 := Lib.hid hown8; have HB8 := Lib.hid (HB7.out.trans hb8); clear hown8 hg8 hb8 hat8))
                  clear b0
                  have HBE8 := Lib.hid (HBEL6.out.trans (HB8.out.mono HBEL6.out.size))
                  refine (works_any _).mono ?_
                  rintro e w9 ⟨rfl, hb9⟩
                  go_wp2_with fail
                  go_ret
                  exact ⟨rfl, HBE8.out.trans (hb9.mono HBE8.out.size)⟩
                · subst h0
                  have HTX := Lib.hid (hT6.fail (n := 1073741824) (k := 0) (by decide) (by decide))
                  have HOFF := Lib.hid hoff
                  clear hT6 hoff
                  have tok1 : True := trivial
                  go_wp2_with (first
                    | (have _t := tok1; at_builtin; go_must (refine wpList_appk slB rfl _ _ rfl w6.heap.size (.slice none 0 0) 0 [] rfl (World.ownsRow_nil _ _ _ _) As el cs vs rfl HVL.out HSC.out HV1.out (by omega) (by omega) (Nat.le_refl _) ?_); intro v7 w7 hown7 hg7 hb7 hat7; rw [Nat.zero_add, List.nil_append] at hown7; obtain ⟨A7, c7, hv7, -, -⟩ := own_shape hown7; subst hv7; have HO7 := Lib.hid hown7; have HB7 := Lib.hid hb7; have b0 := cell_below hb7 b0; have HSU7 := Lib.hid (hcu6.below hb7); clear tok1 _t hown7 hg7 hb7 hat7)
                    | (at_builtin; go_must (refine wpList_appk slB rfl _ _ rfl w6.heap.size (.slice A7 el c7) el _ rfl HO7.out B mn c2 us rfl HUL.out HSU7.out HU1.out (by omega) (by omega) HB7.out.size ?_); intro v8 w8 hown8 hg8 hb8 hat8; rw [HL8.out] at hown8; obtain ⟨A8, c8, hv8, -, -⟩ := own_shape hown8; subst hv8; have HO8 := Lib.hid hown8; have HB8 := Lib.hid (HB7.out.trans hb8); clear hown8 hg8 hb8 hat8))
                  clear b0
                  have HK8 := Lib.hid (show Kp W w8 w6.heap.size (.slice A8 L8 c8) (.slice As el cs) L8 el (vs ++ us) vs es from ⟨HO8.out, own_below HROW6.out HB8.out, HEV6.out.kept (U8Kept.below HB8.out), HBEL6.out.trans (HB8.out.mono HBEL6.out.size)⟩)
                  have HD8 := Lib.hid (HD6.out.below HB8.out)
                  refine (DkO.off (d := d6) HD8.out).mono ?_
                  rintro e w9 ⟨rfl, hw9⟩
                  subst hw9
                  rw [HOFF.out]
                  have HDX := HD8
                  have HKX := HK8
                  have HFX := HF6
                  have HSTX := Lib.hid HST6.out
                  have HSZX := Lib.hid HK8.out.below.size
                  go_wp2_with fail
                  refine (DkO.fail (d := d6) (n := 1073741824) (k := 0) HDX.out (by decide) (by decide)).mono ?_
                  rintro e w10 ⟨rfl, F10, hL10⟩
                  have HKX := Lib.hid (HKX.out.disk HDX.out HFX.out hL10.fr)
                  have hF10 := hL10.new.ge HFX.out HSZX.out
                  have hsz10 := Nat.le_trans HSZX.out hL10.fr.size
                  have HD10 := Lib.hid hL10.at_
                  have HFX := Lib.hid hF10
                  have HSZX := Lib.hid hsz10
                  clear hL10 hF10 hsz10
                  go_wp2_with fail
                  refine (open_any (name := fB) HD10.out (by rw [fail_steps]; have := HSTX.out; omega)).mono ?_
                  rw [HTX.out.open_]
                  rintro e w11 ⟨F11, hL11, lp2, v11, vs11, rfl, hlp11, hlf11, hown11, hev11, hla11⟩
                  dsimp only at hL11 hown11 hev11 hla11
                  have HKX := Lib.hid (HKX.out.disk HD10.out HFX.out hL11.fr)
                  have HF11 := Lib.hid (hL11.new.ge HFX.out HSZX.out)
                  obtain ⟨A11, c11, hv11, -, hc11⟩ := own_shape hown11
                  subst hv11
                  have HROW11 := Lib.hid (own_to hown11 HSZX.out)
                  have HEV11 := Lib.hid hev11
                  have HLA11 := Lib.hid (show LogAt w11 lp2 p fB (logOf (es ++ more)).long (logOf (es ++ more)).count (logOf (es ++ more)).tail (logOf (es ++ more)).broken from hla11)
                  have HD11 := Lib.hid hL11.at_
                  have HLF11 := Lib.hid hlf11
                  have HLP11 := Lib.hid (Nat.le_trans HSZX.out hlp11)
                  have HC11 := Lib.hid hc11
                  clear hL11 hlp11 hlf11 hown11 hev11 hla11 hc11
                  obtain ⟨L11, hL11⟩ : ∃ L11, ((es ++ more)).length = L11 := ⟨_, rfl⟩
                  rw [hL11] at HROW11
                  have HL11 := Lib.hid hL11
                  rw [hL11]
                  clear hL11
                  have HLS := Lib.hid (show L11 ≤ 1000000000 from by have := HTX.out.row; have := row_big (es := es ++ more); have := HL11.out; have := HSLE.out; have := HSU.out; omega)
                  go_wp2_with fail
                  obtain ⟨Az, cz, hvz, -, hcz⟩ := own_shape HKX.out.more
                  injection hvz with hvz1 hvz2 hvz3
                  subst hvz1
                  clear hvz2 hvz3 cz
                  refine (same_any (n := L11) (k := L8) (es := (es ++ more)) (fs := (es ++ more)) HC11.out HEV11.out.c hcz (HKX.out.ent.c.append (HEVB.out.below HKX.out.below)) HL11.out HLM.out HLS.out).mono ?_
                  rintro e w12 ⟨rfl, hb12⟩
                  clear hcz
                  rw [show decide ((es ++ more) = (es ++ more)) = true from decide_eq_true rfl]
                  have HKX := Lib.hid (HKX.out.bel hb12)
                  have HROW11 := Lib.hid (own_below HROW11.out hb12)
                  have HC11 := Lib.hid (HC11.out.below hb12)
                  have HEV11 := Lib.hid (HEV11.out.kept (U8Kept.below hb12))
                  have HLA11 := Lib.hid (HLA11.out.below hb12)
                  have HD11 := Lib.hid (HD11.out.below hb12)
                  clear hb12
                  go_wp2_with fail
                  refine (count_any HLA11.out).mono ?_
                  rintro e w13 ⟨rfl, rfl⟩
                  rw [show ((logOf (es ++ more)).count : Int) = (L11 : Int) from by rw [← HL11.out]; rfl]
                  go_wp2_with fail
                  go_roundw
                  case rel =>
                    refine ⟨k + 1, lp2, F11, failD d6 1073741824 0, (es ++ more), vs11, hlt, by go_num, rfl, ?_⟩
                    exact ⟨by rw [HSU.out]; exact HTX.out, by rw [HL11.out]; exact HROW11.out, HEV11.out, HLA11.out, HLF11.out, HD11.out, HF11.out, HLP11.out, HKX.out.below, by rw [fail_steps]; have := HSTX.out; omega⟩
                  case measure => simp [intOf]; omega
                · subst h7
                  have HTX := Lib.hid (hT6.fail (n := 1073741824) (k := 0) (by decide) (by decide))
                  have HOFF := Lib.hid hoff
                  have HES := Lib.hid hes
                  clear hT6 hoff hes
                  have tok1 : True := trivial
                  go_wp2_with (first
                    | (have _t := tok1; at_builtin; go_must (refine wpList_appk slB rfl _ _ rfl w6.heap.size (.slice none 0 0) 0 [] rfl (World.ownsRow_nil _ _ _ _) As el cs vs rfl HVL.out HSC.out HV1.out (by omega) (by omega) (Nat.le_refl _) ?_); intro v7 w7 hown7 hg7 hb7 hat7; rw [Nat.zero_add, List.nil_append] at hown7; obtain ⟨A7, c7, hv7, -, -⟩ := own_shape hown7; subst hv7; have HO7 := Lib.hid hown7; have HB7 := Lib.hid hb7; have b0 := cell_below hb7 b0; have HSU7 := Lib.hid (hcu6.below hb7); clear tok1 _t hown7 hg7 hb7 hat7)
                    | (at_builtin; go_must (refine wpList_appk slB rfl _ _ rfl w6.heap.size (.slice A7 el c7) el _ rfl HO7.out B mn c2 us rfl HUL.out HSU7.out HU1.out (by omega) (by omega) HB7.out.size ?_); intro v8 w8 hown8 hg8 hb8 hat8; rw [HL8.out] at hown8; obtain ⟨A8, c8, hv8, -, -⟩ := own_shape hown8; subst hv8; have HO8 := Lib.hid hown8; have HB8 := Lib.hid (HB7.out.trans hb8); clear hown8 hg8 hb8 hat8))
                  clear b0
                  have HK8 := Lib.hid (show Kp W w8 w6.heap.size (.slice A8 L8 c8) (.slice As el cs) L8 el (vs ++ us) vs es from ⟨HO8.out, own_below HROW6.out HB8.out, HEV6.out.kept (U8Kept.below HB8.out), HBEL6.out.trans (HB8.out.mono HBEL6.out.size)⟩)
                  have HD8 := Lib.hid (HD6.out.below HB8.out)
                  refine (DkO.off (d := d6) HD8.out).mono ?_
                  rintro e w9 ⟨rfl, hw9⟩
                  subst hw9
                  rw [HOFF.out]
                  go_wp2_with fail
                  refine (DkO.on (d := d6) HD8.out (by have := HST6.out; omega)).mono ?_
                  rintro e w9 ⟨rfl, F9, hL9⟩
                  have HKX := Lib.hid (HK8.out.disk HD8.out HF6.out hL9.fr)
                  have HFX := Lib.hid (hL9.new.ge HF6.out HK8.out.below.size)
                  have HDX := Lib.hid hL9.at_
                  have HSTX := Lib.hid (show (onD d6).steps ≤ 5 + 100 * k + 83 from by rw [on_steps]; exact HST6.out)
                  have HSZX := Lib.hid HKX.out.below.size
                  clear hL9
                  go_wp2_with fail
                  refine (DkO.fail (d := (onD d6)) (n := 1073741824) (k := 0) HDX.out (by decide) (by decide)).mono ?_
                  rintro e w10 ⟨rfl, F10, hL10⟩
                  have HKX := Lib.hid (HKX.out.disk HDX.out HFX.out hL10.fr)
                  have hF10 := hL10.new.ge HFX.out HSZX.out
                  have hsz10 := Nat.le_trans HSZX.out hL10.fr.size
                  have HD10 := Lib.hid hL10.at_
                  have HFX := Lib.hid hF10
                  have HSZX := Lib.hid hsz10
                  clear hL10 hF10 hsz10
                  go_wp2_with fail
                  refine (open_any (name := fB) HD10.out (by rw [fail_steps]; have := HSTX.out; omega)).mono ?_
                  rw [HTX.out.open_]
                  rintro e w11 ⟨F11, hL11, lp2, v11, vs11, rfl, hlp11, hlf11, hown11, hev11, hla11⟩
                  dsimp only at hL11 hown11 hev11 hla11
                  have HKX := Lib.hid (HKX.out.disk HD10.out HFX.out hL11.fr)
                  have HF11 := Lib.hid (hL11.new.ge HFX.out HSZX.out)
                  obtain ⟨A11, c11, hv11, -, hc11⟩ := own_shape hown11
                  subst hv11
                  have HROW11 := Lib.hid (own_to hown11 HSZX.out)
                  have HEV11 := Lib.hid hev11
                  have HLA11 := Lib.hid (show LogAt w11 lp2 p fB (logOf es').long (logOf es').count (logOf es').tail (logOf es').broken from hla11)
                  have HD11 := Lib.hid hL11.at_
                  have HLF11 := Lib.hid hlf11
                  have HLP11 := Lib.hid (Nat.le_trans HSZX.out hlp11)
                  have HC11 := Lib.hid hc11
                  clear hL11 hlp11 hlf11 hown11 hev11 hla11 hc11
                  obtain ⟨L11, hL11⟩ : ∃ L11, (es').length = L11 := ⟨_, rfl⟩
                  rw [hL11] at HROW11
                  have HL11 := Lib.hid hL11
                  rw [hL11]
                  clear hL11
                  have HLS := Lib.hid (show L11 ≤ 1000000000 from by have := HTX.out.row; have := row_big (es := es'); have := HL11.out; have := HSLE.out; have := HSU.out; omega)
                  by_cases hee : es' = es
                  · have HEE := Lib.hid hee
                    clear hee
                    go_wp2_with fail
                    obtain ⟨Az, cz, hvz, -, hcz⟩ := own_shape HKX.out.sure
                    injection hvz with hvz1 hvz2 hvz3
                    subst hvz1
                    clear hvz2 hvz3 cz
                    refine (same_any (n := L11) (k := el) (es := es') (fs := es) HC11.out HEV11.out.c hcz HKX.out.ent.c HL11.out HEL.out HLS.out).mono ?_
                    rintro e w12 ⟨rfl, hb12⟩
                    clear hcz
                    rw [show decide (es' = es) = true from decide_eq_true HEE.out]
                    have HKX := Lib.hid (HKX.out.bel hb12)
                    have HROW11 := Lib.hid (own_below HROW11.out hb12)
                    have HC11 := Lib.hid (HC11.out.below hb12)
                    have HEV11 := Lib.hid (HEV11.out.kept (U8Kept.below hb12))
                    have HLA11 := Lib.hid (HLA11.out.below hb12)
                    have HD11 := Lib.hid (HD11.out.below hb12)
                    clear hb12
                    go_wp2_with fail
                    refine (count_any HLA11.out).mono ?_
                    rintro e w13 ⟨rfl, rfl⟩
                    rw [show ((logOf es').count : Int) = (L11 : Int) from by rw [← HL11.out]; rfl]
                    go_wp2_with fail
                    go_roundw
                    case rel =>
                      refine ⟨k + 1, lp2, F11, failD (onD d6) 1073741824 0, es', vs11, hlt, by go_num, rfl, ?_⟩
                      exact ⟨by rw [HSU.out]; exact HTX.out, by rw [HL11.out]; exact HROW11.out, HEV11.out, HLA11.out, HLF11.out, HD11.out, HF11.out, HLP11.out, HKX.out.below, by rw [fail_steps]; have := HSTX.out; omega⟩
                    case measure => simp [intOf]; omega
                  · have hea : es' = es ++ more := HES.out.elim (fun h => absurd h hee) id
                    have HEE := Lib.hid hee
                    have HEA := Lib.hid hea
                    clear hee hea
                    go_wp2_with fail
                    obtain ⟨Az, cz, hvz, -, hcz⟩ := own_shape HKX.out.sure
                    injection hvz with hvz1 hvz2 hvz3
                    subst hvz1
                    clear hvz2 hvz3 cz
                    refine (same_any (n := L11) (k := el) (es := es') (fs := es) HC11.out HEV11.out.c hcz HKX.out.ent.c HL11.out HEL.out HLS.out).mono ?_
                    rintro e w12 ⟨rfl, hb12⟩
                    clear hcz
                    rw [show decide (es' = es) = false from decide_eq_false HEE.out]
                    have HKX := Lib.hid (HKX.out.bel hb12)
                    have HROW11 := Lib.hid (own_below HROW11.out hb12)
                    have HC11 := Lib.hid (HC11.out.below hb12)
                    have HEV11 := Lib.hid (HEV11.out.kept (U8Kept.below hb12))
                    have HLA11 := Lib.hid (HLA11.out.below hb12)
                    have HD11 := Lib.hid (HD11.out.below hb12)
                    clear hb12
                    go_wp2_with fail
                    obtain ⟨Az, cz, hvz, -, hcz⟩ := own_shape HKX.out.more
                    injection hvz with hvz1 hvz2 hvz3
                    subst hvz1
                    clear hvz2 hvz3 cz
                    refine (same_any (n := L11) (k := L8) (es := es') (fs := (es ++ more)) HC11.out HEV11.out.c hcz (HKX.out.ent.c.append (HEVB.out.below HKX.out.below)) HL11.out HLM.out HLS.out).mono ?_
                    rintro e w12 ⟨rfl, hb12⟩
                    clear hcz
                    rw [show decide (es' = (es ++ more)) = true from decide_eq_true HEA.out]
                    have HKX := Lib.hid (HKX.out.bel hb12)
                    have HROW11 := Lib.hid (own_below HROW11.out hb12)
                    have HC11 := Lib.hid (HC11.out.below hb12)
                    have HEV11 := Lib.hid (HEV11.out.kept (U8Kept.below hb12))
                    have HLA11 := Lib.hid (HLA11.out.below hb12)
                    have HD11 := Lib.hid (HD11.out.below hb12)
                    clear hb12
                    go_wp2_with fail
                    refine (count_any HLA11.out).mono ?_
                    rintro e w13 ⟨rfl, rfl⟩
                    rw [show ((logOf es').count : Int) = (L11 : Int) from by rw [← HL11.out]; rfl]
                    go_wp2_with fail
                    go_roundw
                    case rel =>
                      refine ⟨k + 1, lp2, F11, failD (onD d6) 1073741824 0, es', vs11, hlt, by go_num, rfl, ?_⟩
                      exact ⟨by rw [HSU.out]; exact HTX.out, by rw [HL11.out]; exact HROW11.out, HEV11.out, HLA11.out, HLF11.out, HD11.out, HF11.out, HLP11.out, HKX.out.below, by rw [fail_steps]; have := HSTX.out; omega⟩
                    case measure => simp [intOf]; omega
            · obtain rfl : k = j := by omega
              have hji : ¬ ((k : Int) < (k : Int)) := by omega
              clear hcs
              go_wp2_with fail
              refine (works_any _).mono ?_
              rintro e w9 ⟨rfl, hb9⟩
              go_wp2_with fail
              go_ret
              exact ⟨rfl, HAT2.out.below.trans (hb9.mono HAT2.out.below.size)⟩
        · cases h7
end Go.Proofs.Ytladknjmoahdoaa
