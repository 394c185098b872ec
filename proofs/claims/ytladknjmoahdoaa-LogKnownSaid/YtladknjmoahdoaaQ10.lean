/- LogCreated: the walk. · A disk and a log of one's own: each call by one step; the states that LogKnown goes through. · LogKnown: the walk. -/
import Derived.Test.YtladknjmoahdoaaQ6
import Derived.Lib.ConvBytes
set_option linter.all false
namespace Go.Proofs.Ytladknjmoahdoaa
open Go.RowKit Go

set_option maxRecDepth 100000 in
set_option maxHeartbeats 8000000 in
theorem created_walk (n : Int) (k : Nat) (name : ByteArray) (w : World) (hn : n < 9223372036854775808) (hk : k < 18446744073709551616) : Calls Try.prog 5 #[.int .i64 n, .int .u64 (k : Int), .string name] w fun e w' => e = .returned (.bool true) ∧ Below w.heap.size w w' := by
  have hfr := (new_fresh (q := 9) (by decide) name).fail hn hk
  have hfl : (failD (newD 9) n k).files = [] ∧ (failD (newD 9) n k).steps = 0 := ⟨rfl, rfl⟩
  have HN0 := Lib.hid (fun V => new_o 9 V)
  obtain ⟨d0, hd0⟩ : ∃ d0, newD 9 = d0 := ⟨_, rfl⟩
  rw [hd0] at hfr hfl
  simp only [hd0] at HN0
  have HFA := Lib.hid (fun V p F (hV : DkO V p F d0) => hV.fail hn hk)
  obtain ⟨d1, hd1⟩ : ∃ d1, failD d0 n k = d1 := ⟨_, rfl⟩
  rw [hd1] at hfr hfl
  simp only [hd1] at HFA
  have HFR := Lib.hid hfr
  have HFL := Lib.hid hfl
  have HCL := Lib.hid (fun hh => created_law hfr hh)
  have HOB := Lib.hid (fun (hh : namedB name = false) => open_bad hfr.2.1 hfl.1 hh)
  have HST := Lib.hid (open_steps d1 name)
  obtain ⟨⟨e1, d2, o1⟩, hr1⟩ : ∃ r1, openL d1 name = r1 := ⟨_, rfl⟩
  have HR1 := Lib.hid hr1
  have hcl := HCL.out
  have hob := HOB.out
  have hst := HST.out
  rw [hr1] at hcl hob hst
  have HCL := Lib.hid hcl
  have HOB := Lib.hid hob
  have HST := Lib.hid hst
  clear hd0 hd1 hfr hfl hr1 hcl hob hst
  go_enter Try.func5, Try.ntmps5
  go_wp2_with fail
  refine (HN0.out _).mono ?_
  rintro e w1 ⟨p, F0, rfl, h1, hb1, hlo⟩
  have HB1 := Lib.hid hb1
  have HLO := Lib.hid hlo
  have HD0 := Lib.hid h1
  clear h1 hb1 hlo HN0
  go_wp2_with fail
  refine (HFA.out _ _ _ HD0.out).mono ?_
  rintro e w2 ⟨rfl, F1, hL⟩
  have HL1 := Lib.hid hL
  have hF1 := hL.new.ge HLO.out HB1.out.size
  have HB2 := Lib.hid (HB1.out.trans (hL.fr.toBelowOf HB1.out.size HLO.out))
  have HF1 := Lib.hid hF1
  clear hL hF1 HFA
  go_wp2_with fail
  refine (open_any (d := d1) (name := name) HL1.out.at_ (by rw [HFL.out.2]; decide)).mono ?_
  rintro e w3 hP
  rw [HR1.out] at hP
  by_cases hnm : namedB name = true
  · obtain ⟨hx, hy1, hy2⟩ := HCL.out hnm
    have HY := Lib.hid (And.intro hy1 hy2)
    clear hy1 hy2
    rcases hx with ⟨rfl, rfl⟩ | ⟨rfl, rfl, hoff⟩
    · obtain ⟨F3, hL, lp, v, vs, rfl, hlp, hlf, hown, hev, hla⟩ := hP
      obtain ⟨Av, cv, hv, -, -⟩ := own_shape hown
      dsimp only at hv hL
      rw [show ([] : List (List UInt8)).length = 0 from rfl] at hv
      subst hv
      have HL3 := Lib.hid hL
      have hF3 := hL.new.ge HF1.out HB2.out.size
      have HB3 := Lib.hid (HB2.out.trans (hL.fr.toBelowOf HB2.out.size HF1.out))
      have HF3 := Lib.hid hF3
      clear hL hF3 hlp hlf hown hev hla
      go_wp2_with fail
      refine (DkO.on (d := d2) HL3.out.at_ (by have := HST.out; have := HFL.out.2; omega)).mono ?_
      rintro e w4 ⟨rfl, F4, hL⟩
      have HL4 := Lib.hid hL
      have hF4 := hL.new.ge HF3.out HB3.out.size
      have HB4 := Lib.hid (HB3.out.trans (hL.fr.toBelowOf HB3.out.size HF3.out))
      have HF4 := Lib.hid hF4
      clear hL hF4
      go_wp2_with fail
      refine (DkO.fail (d := onD d2) (n := 1073741824) (k := 0) HL4.out.at_ (by decide) (by decide)).mono ?_
      rintro e w5 ⟨rfl, F5, hL⟩
      have HL5 := Lib.hid hL
      have hF5 := hL.new.ge HF4.out HB4.out.size
      have HB5 := Lib.hid (HB4.out.trans (hL.fr.toBelowOf HB4.out.size HF4.out))
      have HF5 := Lib.hid hF5
      clear hL hF5
      go_wp2_with fail
      refine (open_any (d := failD (onD d2) 1073741824 0) (name := name) HL5.out.at_ (by rw [fail_steps, on_steps]; have := HST.out; have := HFL.out.2; omega)).mono ?_
      have HY1 := Lib.hid HY.out.1
      have HY2 := Lib.hid HY.out.2
      obtain ⟨⟨e6, d6, o6⟩, hr6⟩ : ∃ r6, openL (failD (onD d2) 1073741824 0) name = r6 := ⟨_, rfl⟩
      have hy := HY.out
      try dsimp only at hy
      rw [hr6] at hy
      obtain ⟨h61, h62⟩ := hy
      try dsimp only at h61 h62
      subst h61 h62
      rw [hr6]
      clear hr6 HY1 HY2
      rintro e w6 ⟨F6, hL, lp6, v6, vs6, rfl, hlp6, hlf6, hown6, hev6, hla6⟩
      obtain ⟨A6, c6, hv6, -, -⟩ := own_shape hown6
      dsimp only at hv6 hL hla6
      rw [show ([] : List (List UInt8)).length = 0 from rfl] at hv6 hla6
      subst hv6
      have HLA6 := Lib.hid hla6
      have HB6 := Lib.hid (HB5.out.trans (hL.fr.toBelowOf HB5.out.size HF5.out))
      clear hL hlp6 hlf6 hown6 hev6 hla6
      go_wp2_with fail
      refine (count_any HLA6.out).mono ?_
      rintro e w6' ⟨rfl, rfl⟩
      go_wp2_with fail
      refine (works_any _).mono ?_
      rintro e w9 ⟨rfl, hb9⟩
      go_wp2_with fail
      go_ret
      exact ⟨rfl, HB6.out.trans (hb9.mono HB6.out.size)⟩
    · obtain ⟨F3, hL, rfl⟩ := hP
      dsimp only at hL
      have HL3 := Lib.hid hL
      have hF3 := hL.new.ge HF1.out HB2.out.size
      have HB3 := Lib.hid (HB2.out.trans (hL.fr.toBelowOf HB2.out.size HF1.out))
      have HF3 := Lib.hid hF3
      have HO5 := Lib.hid hoff
      clear hL hF3 hoff
      go_wp2_with fail
      refine (DkO.off (d := d2) HL3.out.at_).mono ?_
      rintro e w3' ⟨rfl, rfl⟩
      rw [show d2.off = true from HO5.out]
      go_wp2_with fail
      refine (DkO.on (d := d2) HL3.out.at_ (by have := HST.out; have := HFL.out.2; omega)).mono ?_
      rintro e w4 ⟨rfl, F4, hL⟩
      have HL4 := Lib.hid hL
      have hF4 := hL.new.ge HF3.out HB3.out.size
      have HB4 := Lib.hid (HB3.out.trans (hL.fr.toBelowOf HB3.out.size HF3.out))
      have HF4 := Lib.hid hF4
      clear hL hF4
      go_wp2_with fail
      refine (DkO.fail (d := onD d2) (n := 1073741824) (k := 0) HL4.out.at_ (by decide) (by decide)).mono ?_
      rintro e w5 ⟨rfl, F5, hL⟩
      have HL5 := Lib.hid hL
      have hF5 := hL.new.ge HF4.out HB4.out.size
      have HB5 := Lib.hid (HB4.out.trans (hL.fr.toBelowOf HB4.out.size HF4.out))
      have HF5 := Lib.hid hF5
      clear hL hF5
      go_wp2_with fail
      refine (open_any (d := failD (onD d2) 1073741824 0) (name := name) HL5.out.at_ (by rw [fail_steps, on_steps]; have := HST.out; have := HFL.out.2; omega)).mono ?_
      have HY1 := Lib.hid HY.out.1
      have HY2 := Lib.hid HY.out.2
      obtain ⟨⟨e6, d6, o6⟩, hr6⟩ : ∃ r6, openL (failD (onD d2) 1073741824 0) name = r6 := ⟨_, rfl⟩
      have hy := HY.out
      try dsimp only at hy
      rw [hr6] at hy
      obtain ⟨h61, h62⟩ := hy
      try dsimp only at h61 h62
      subst h61 h62
      rw [hr6]
      clear hr6 HY1 HY2
      rintro e w6 ⟨F6, hL, lp6, v6, vs6, rfl, hlp6, hlf6, hown6, hev6, hla6⟩
      obtain ⟨A6, c6, hv6, -, -⟩ := own_shape hown6
      dsimp only at hv6 hL hla6
      rw [show ([] : List (List UInt8)).length = 0 from rfl] at hv6 hla6
      subst hv6
      have HLA6 := Lib.hid hla6
      have HB6 := Lib.hid (HB5.out.trans (hL.fr.toBelowOf HB5.out.size HF5.out))
      clear hL hlp6 hlf6 hown6 hev6 hla6
      go_wp2_with fail
      refine (count_any HLA6.out).mono ?_
      rintro e w6' ⟨rfl, rfl⟩
      go_wp2_with fail
      refine (works_any _).mono ?_
      rintro e w9 ⟨rfl, hb9⟩
      go_wp2_with fail
      go_ret
      exact ⟨rfl, HB6.out.trans (hb9.mono HB6.out.size)⟩
  · have hnf : namedB name = false := by simpa using hnm
    have ho := HOB.out hnf
    injection ho with h1 h2
    injection h2 with h2 h3
    subst h1 h2 h3
    obtain ⟨F3, hL, rfl⟩ := hP
    dsimp only at hL
    have HB3 := Lib.hid (HB2.out.trans (hL.fr.toBelowOf HB2.out.size HF1.out))
    clear hL hnm
    by_cases h0 : name.size = 0
    · have hs := str_none name h0
      subst hs
      clear h0
      go_wp2_with fail
      refine (works_any _).mono ?_
      rintro e w9 ⟨rfl, hb9⟩
      go_wp2_with fail
      go_ret
      exact ⟨rfl, HB3.out.trans (hb9.mono HB3.out.size)⟩
    · obtain ⟨hs1, hs2⟩ := str_empty name (by omega)
      have h3 : ¬ name.size ≤ 100 := fun h => by unfold namedB at hnf; simp at hnf; omega
      go_wp2_with fail
      refine (works_any _).mono ?_
      rintro e w9 ⟨rfl, hb9⟩
      go_wp2_with fail
      go_ret
      exact ⟨rfl, HB3.out.trans (hb9.mono HB3.out.size)⟩
end Go.Proofs.Ytladknjmoahdoaa

set_option linter.all false
namespace Go.Proofs.Ytladknjmoahdoaa
open Go.RowKit Go

/-- A disk of one's own. -/
structure St (W w : World) (p : Nat) (F : List Nat) (d : DiskT) : Prop where
  disk : DkO w p F d
  ge : ∀ i ∈ F, W.heap.size ≤ i
  below : Below W.heap.size W w
/-- And a log over it. -/
structure Sl (W w : World) (p : Nat) (F : List Nat) (d : DiskT) (lp : Nat) (l : LogT) : Prop where
  st : St W w p F d
  log : LogAt w lp p fB l.long l.count l.tail l.broken
  out : lp ∉ F
  lge : W.heap.size ≤ lp
section
variable {W w V : World} {p lp : Nat} {F : List Nat} {d : DiskT} {l : LogT}
theorem St.bel (h : St W w p F d) (hb : Below w.heap.size w V) : St W V p F d := ⟨h.disk.below hb, h.ge, h.below.trans (hb.mono h.below.size)⟩
theorem Sl.bel (h : Sl W w p F d lp l) (hb : Below w.heap.size w V) : Sl W V p F d lp l := ⟨h.st.bel hb, h.log.below hb, h.out, h.lge⟩
theorem St.left {F' : List Nat} {d' : DiskT} (h : St W w p F d) (hL : LeftO w p F d' F' V) : St W V p F' d' := ⟨hL.at_, hL.new.ge h.ge h.below.size, h.below.trans (hL.fr.toBelowOf h.below.size h.ge)⟩
theorem Sl.left {F' : List Nat} {d' : DiskT} (h : Sl W w p F d lp l) (hL : LeftO w p F d' F' V) : Sl W V p F' d' lp l := by
  obtain ⟨A, c, h1, -, -⟩ := h.log.at_
  exact ⟨h.st.left hL, h.log.fr h.st.disk hL.fr h.out, hL.new.out h.out (lt_of_block h1), h.lge⟩
structure LogOk (l : LogT) : Prop where
  tail : l.tail.length = l.long % 256
  long : l.long ≤ 100000000
  count : l.count ≤ 65536
def okB (l : LogT) : Bool := decide (l.tail.length = l.long % 256) && decide (l.long ≤ 100000000) && decide (l.count ≤ 65536)
theorem LogOk.of (h : okB l = true) : LogOk l := by
  unfold okB at h
  simp only [Bool.and_eq_true, decide_eq_true_eq] at h
  exact ⟨h.1.1, h.1.2, h.2⟩
theorem St.open_ (h : St W w p F d) (hst : d.steps ≤ 1000) {r : Int × DiskT × Option ReadT} (hr : openL d fB = r) :
    Calls Try.prog 7 #[.pointer (some ⟨p, 0, none⟩), .string fB] w fun e w' => ∃ F', St W w' p F' r.2.1 ∧ match r.2.2 with
      | none => e = .returned (.tuple #[.pointer none, .slice none 0 0, .int .i64 r.1])
      | some q => ∃ lp A c, e = .returned (.tuple #[.pointer (some ⟨lp, 0, none⟩), .slice A q.es.length c, .int .i64 0]) ∧ Sl W w' p F' r.2.1 lp (ofRead q) := by
  refine (open_any h.disk (Nat.le_trans hst (by decide))).mono ?_
  rw [hr]
  rintro e w' ⟨F', hL, hm⟩
  refine ⟨F', h.left hL, ?_⟩
  obtain ⟨e1, d1, o⟩ := r
  cases o with
  | none => exact hm
  | some q =>
    obtain ⟨lp, v, vs, rfl, h1, h2, h3, h4, h5⟩ := hm
    obtain ⟨A, c, hv, -, -⟩ := own_shape h3
    subst hv
    exact ⟨lp, A, c, rfl, h.left hL, h5, h2, Nat.le_trans h.below.size h1⟩
theorem Sl.append (h : Sl W w p F d lp l) (hst : d.steps ≤ 1000) (hok : LogOk l) {A : Option Addr} {n c : Nat} {es : List (List UInt8)} {vs : List Value} (hA : Cells w A vs) (hv : EntC w vs es) (hn : es.length = n) (hsz : (rowL es).length ≤ 1000000) {r : Int × DiskT × LogT} (hr : appendL d fB l es = r) :
    Calls Try.prog 8 #[.pointer (some ⟨lp, 0, none⟩), .slice A n c] w fun e w' => e = .returned (.int .i64 r.1) ∧ ∃ F', Sl W w' p F' r.2.1 lp r.2.2 := by
  refine (append_any h.st.disk (Nat.le_trans hst (by decide)) h.log h.out hok.tail hok.long hok.count hA hv hn (Nat.le_trans hsz (by decide))).mono ?_
  rw [hr]
  rintro e w' ⟨rfl, F', h1, h2, h3, h4, h5⟩
  exact ⟨rfl, F', ⟨h1, h3.ge h.st.ge h.st.below.size, h.st.below.trans (h2.toBelowOf h.st.below.size fun i hi => (List.mem_cons.1 hi).elim (fun e => by rw [e]; exact h.lge) (h.st.ge i))⟩, h5, h4, h.lge⟩
theorem Sl.fail (h : Sl W w p F d lp l) {n : Int} {k : Nat} (hn : n < 9223372036854775808) (hk : k < 18446744073709551616) {d' : DiskT} (hd : failD d n k = d') : Calls Try.prog 9 #[.pointer (some ⟨p, 0, none⟩), .int .i64 n, .int .u64 k] w fun e w' => e = .returned (.tuple #[]) ∧ ∃ F', Sl W w' p F' d' lp l := by
  refine (h.st.disk.fail hn hk).mono ?_
  rintro e w' ⟨rfl, F', hL⟩
  rw [hd] at hL
  exact ⟨rfl, F', h.left hL⟩
theorem Sl.on (h : Sl W w p F d lp l) (hst : d.steps ≤ 1000) {d' : DiskT} (hd : onD d = d') : Calls Try.prog 10 #[.pointer (some ⟨p, 0, none⟩)] w fun e w' => e = .returned (.tuple #[]) ∧ ∃ F', Sl W w' p F' d' lp l := by
  refine (h.st.disk.on (Nat.le_trans hst (by decide))).mono ?_
  rintro e w' ⟨rfl, F', hL⟩
  rw [hd] at hL
  exact ⟨rfl, F', h.left hL⟩
end
theorem St.new (q : Int) {d : DiskT} (hd : newD q = d) {W w : World} (hb : Below W.heap.size W w) : Calls Try.prog 6 #[.int .i64 q] w fun e w' => ∃ p F, e = .returned (.pointer (some ⟨p, 0, none⟩)) ∧ St W w' p F d := by
  refine (new_o q w).mono ?_
  rintro e w1 ⟨p, F, rfl, h1, hb1, hlo⟩
  rw [hd] at h1
  exact ⟨p, F, rfl, h1, fun i hi => Nat.le_trans hb.size (hlo i hi), hb.trans (hb1.mono hb.size)⟩
/-- One entry of these bytes, just laid. -/
theorem one_ent (w : World) (bs : List UInt8) {n : Nat} (hn : bs.length = n) : Below w.heap.size w ((w.alloc (.cells (bv bs).toArray 5)).alloc (.cells #[.slice (some ⟨w.heap.size, 0, none⟩) n n] 30)) ∧
    Cells ((w.alloc (.cells (bv bs).toArray 5)).alloc (.cells #[.slice (some ⟨w.heap.size, 0, none⟩) n n] 30)) (some ⟨w.heap.size + 1, 0, none⟩) [.slice (some ⟨w.heap.size, 0, none⟩) n n] ∧
    EntC ((w.alloc (.cells (bv bs).toArray 5)).alloc (.cells #[.slice (some ⟨w.heap.size, 0, none⟩) n n] 30)) [.slice (some ⟨w.heap.size, 0, none⟩) n n] [bs] := by
  refine ⟨(one_below _ _).trans ((one_below _ _).mono (by simp)), ?_, (EntVs.one_ hn ((bytes_new w bs).kept (U8Kept.below (one_below _ _))) (Nat.le_refl _)).c⟩
  have h := fresh_cells (w.alloc (.cells (bv bs).toArray 5)) #[.slice (some ⟨w.heap.size, 0, none⟩) n n] 30
  rw [World.size_alloc] at h
  exact h
/-! The states -/
def ka1 : DiskT := (openL (newD 9) fB).2.1
def ka2 : DiskT := (appendL ka1 fB log0 wlE).2.1
def La2 : LogT := (appendL ka1 fB log0 wlE).2.2
def ka3 : DiskT := failD ka2 0 0
def ka4 : DiskT := (appendL ka3 fB La2 [[3]]).2.1
def La4 : LogT := (appendL ka3 fB La2 [[3]]).2.2
def ka5 : DiskT := onD ka4
def rd0 : ReadT := ⟨0, [], []⟩
def ra5 : ReadT := ((openL ka5 fB).2.2).getD rd0
def ka6 : DiskT := failD ka5 2 18446744073709551615
def ka7 : DiskT := (appendL ka6 fB (ofRead ra5) [[3]]).2.1
def La7 : LogT := (appendL ka6 fB (ofRead ra5) [[3]]).2.2
def ka8 : DiskT := onD ka7
def ra8 : ReadT := ((openL ka8 fB).2.2).getD rd0
def ka9 : DiskT := failD ka8 3 18446744073709551615
def ka10 : DiskT := (appendL ka9 fB (ofRead ra8) [[3]]).2.1
def La10 : LogT := (appendL ka9 fB (ofRead ra8) [[3]]).2.2
def ka11 : DiskT := onD ka10
def ra11 : ReadT := ((openL ka11 fB).2.2).getD rd0
def ka12 : DiskT := (appendL ka11 fB (ofRead ra11) [[5]]).2.1
def La12 : LogT := (appendL ka11 fB (ofRead ra11) [[5]]).2.2
def empB : ByteArray := { data := #[] }
theorem ka_facts : ∃ (d0 d1 d2 d3 d4 d5 d6 d7 d8 d9 d10 d11 d12 : DiskT) (l2 l4 l7 l10 l12 : LogT) (r5 r8 r11 : ReadT),
    (newD 9 = d0 ∧ openL d0 fB = (0, d1, some rd0) ∧ appendL d1 fB log0 wlE = (0, d2, l2) ∧ failD d2 0 0 = d3 ∧ appendL d3 fB l2 [[3]] = (7, d4, l4) ∧ appendL d4 fB l4 [[4]] = (7, d4, l4) ∧ onD d4 = d5) ∧
    (openL d5 fB = (0, d5, some r5) ∧ failD d5 2 18446744073709551615 = d6 ∧ appendL d6 fB (ofRead r5) [[3]] = (7, d7, l7) ∧ onD d7 = d8) ∧
    (openL d8 fB = (0, d8, some r8) ∧ failD d8 3 18446744073709551615 = d9 ∧ appendL d9 fB (ofRead r8) [[3]] = (7, d10, l10) ∧ onD d10 = d11) ∧
    (openL d11 fB = (0, d11, some r11) ∧ openL d11 empB = (2, d11, none) ∧ appendL d11 fB (ofRead r11) [] = (0, d11, ofRead r11) ∧ appendL d11 fB (ofRead r11) [[5]] = (0, d12, l12)) ∧
    (r5.es.length = 2 ∧ r8.es.length = 2 ∧ r11.es.length = 3 ∧ (ofRead r11).broken = 0) ∧
    (d0.steps ≤ 1000 ∧ d1.steps ≤ 1000 ∧ d3.steps ≤ 1000 ∧ d4.steps ≤ 1000 ∧ d5.steps ≤ 1000 ∧ d6.steps ≤ 1000 ∧ d7.steps ≤ 1000 ∧ d8.steps ≤ 1000 ∧ d9.steps ≤ 1000 ∧ d10.steps ≤ 1000 ∧ d11.steps ≤ 1000) ∧
    (LogOk l2 ∧ LogOk l4 ∧ LogOk (ofRead r5) ∧ LogOk (ofRead r8) ∧ LogOk (ofRead r11)) := by
  have f1 : openL (newD 9) fB = (0, ka1, some rd0) := by kernel_rfl
  have f2 : appendL ka1 fB log0 wlE = (0, ka2, La2) := by kernel_rfl
  have f4 : appendL ka3 fB La2 [[3]] = (7, ka4, La4) := by kernel_rfl
  have f4b : appendL ka4 fB La4 [[4]] = (7, ka4, La4) := by kernel_rfl
  have f5 : openL ka5 fB = (0, ka5, some ra5) := by kernel_rfl
  have f7 : appendL ka6 fB (ofRead ra5) [[3]] = (7, ka7, La7) := by kernel_rfl
  have f8 : openL ka8 fB = (0, ka8, some ra8) := by kernel_rfl
  have f10 : appendL ka9 fB (ofRead ra8) [[3]] = (7, ka10, La10) := by kernel_rfl
  have f11 : openL ka11 fB = (0, ka11, some ra11) := by kernel_rfl
  have f12 : openL ka11 empB = (2, ka11, none) := by kernel_rfl
  have f13 : appendL ka11 fB (ofRead ra11) [] = (0, ka11, ofRead ra11) := by kernel_rfl
  have f15 : appendL ka11 fB (ofRead ra11) [[5]] = (0, ka12, La12) := by kernel_rfl
  have n5 : ra5.es.length = 2 := by kernel_rfl
  have n8 : ra8.es.length = 2 := by kernel_rfl
  have n11 : ra11.es.length = 3 := by kernel_rfl
  have b11 : (ofRead ra11).broken = 0 := by kernel_rfl
  have s : ∀ d : DiskT, decide (d.steps ≤ 1000) = true → d.steps ≤ 1000 := fun d h => of_decide_eq_true h
  exact ⟨newD 9, ka1, ka2, ka3, ka4, ka5, ka6, ka7, ka8, ka9, ka10, ka11, ka12, La2, La4, La7, La10, La12, ra5, ra8, ra11, ⟨rfl, f1, f2, rfl, f4, f4b, rfl⟩, ⟨f5, rfl, f7, rfl⟩, ⟨f8, rfl, f10, rfl⟩, ⟨f11, f12, f13, f15⟩, ⟨n5, n8, n11, b11⟩,
    ⟨s _ (by kernel_rfl), s _ (by kernel_rfl), s _ (by kernel_rfl), s _ (by kernel_rfl), s _ (by kernel_rfl), s _ (by kernel_rfl), s _ (by kernel_rfl), s _ (by kernel_rfl), s _ (by kernel_rfl), s _ (by kernel_rfl), s _ (by kernel_rfl)⟩,
    ⟨LogOk.of (by kernel_rfl), LogOk.of (by kernel_rfl), LogOk.of (by kernel_rfl), LogOk.of (by kernel_rfl), LogOk.of (by kernel_rfl)⟩⟩
def kb1 : DiskT := (openL (newD 2) fB).2.1
def kb2 : DiskT := (appendL kb1 fB log0 [List.replicate 252 0]).2.1
def Lb2 : LogT := (appendL kb1 fB log0 [List.replicate 252 0]).2.2
def kb3 : DiskT := (appendL kb2 fB Lb2 [[1]]).2.1
def Lb3 : LogT := (appendL kb2 fB Lb2 [[1]]).2.2
theorem kb_facts : ∃ (d0 d1 d2 d3 : DiskT) (l2 l3 : LogT), (newD 2 = d0 ∧ openL d0 fB = (0, d1, some rd0) ∧ appendL d1 fB log0 [List.replicate 252 0] = (0, d2, l2) ∧ appendL d2 fB l2 [[1]] = (93, d3, l3) ∧ appendL d3 fB l3 [[]] = (93, d3, l3) ∧ l3.count = 1) ∧
    (d0.steps ≤ 1000 ∧ d1.steps ≤ 1000 ∧ d2.steps ≤ 1000 ∧ d3.steps ≤ 1000) ∧ LogOk l2 ∧ LogOk l3 := by
  have f1 : openL (newD 2) fB = (0, kb1, some rd0) := by kernel_rfl
  have f2 : appendL kb1 fB log0 [List.replicate 252 0] = (0, kb2, Lb2) := by kernel_rfl
  have f3 : appendL kb2 fB Lb2 [[1]] = (93, kb3, Lb3) := by kernel_rfl
  have f4 : appendL kb3 fB Lb3 [[]] = (93, kb3, Lb3) := by kernel_rfl
  have f5 : Lb3.count = 1 := by kernel_rfl
  have s : ∀ d : DiskT, decide (d.steps ≤ 1000) = true → d.steps ≤ 1000 := fun d h => of_decide_eq_true h
  exact ⟨newD 2, kb1, kb2, kb3, Lb2, Lb3, ⟨rfl, f1, f2, f3, f4, f5⟩, ⟨s _ (by kernel_rfl), s _ (by kernel_rfl), s _ (by kernel_rfl), s _ (by kernel_rfl)⟩, LogOk.of (by kernel_rfl), LogOk.of (by kernel_rfl)⟩
/-- The spoilt heads. -/
def hdL : List (List UInt8) := [[0, 0, 0, 0, 0, 0, 1, 44, 0, 0, 0, 0, 0, 0, 0, 1], [0, 0, 0, 0, 0, 0, 0, 4, 0, 0, 0, 0, 0, 0, 0, 2], [0, 0, 0, 0, 0, 0, 0, 3, 0, 0, 0, 0, 0, 0, 0, 1], [255, 255, 255, 255, 255, 255, 255, 255, 0, 0, 0, 0, 0, 0, 0, 0], [0, 0, 0, 0, 0, 0, 0, 0, 0, 0, 0, 0, 0, 0, 0, 0, 1], [0, 0, 0, 0, 0, 0, 0, 4, 0, 0, 0, 0, 0, 1, 0, 1]]
def hdD (b : List UInt8) : DiskT := (writeD (writeD (createD (newD 9) fB).2 fB 0 b).2 fB 1 []).2
def hdB : Bool := hdL.all fun b => decide ((createD (newD 9) fB).1 = 0) && decide ((createD (newD 9) fB).2.steps ≤ 10) && decide ((writeD (createD (newD 9) fB).2 fB 0 b).2.steps ≤ 10) && decide ((openL (hdD b) fB).1 = 100) && (openL (hdD b) fB).2.2.isNone && decide ((hdD b).steps ≤ 10) && decide (b.length ≤ 17)
theorem hd_facts : ∀ b ∈ hdL, (createD (newD 9) fB).2.steps ≤ 10 ∧ (writeD (createD (newD 9) fB).2 fB 0 b).2.steps ≤ 10 ∧ (openL (hdD b) fB).1 = 100 ∧ (openL (hdD b) fB).2.2 = none ∧ (hdD b).steps ≤ 10 ∧ b.length ≤ 17 := fun b hb => by
  have h : hdB = true := by kernel_rfl
  unfold hdB at h
  rw [List.all_eq_true] at h
  have h1 := h b hb
  simp only [Bool.and_eq_true, decide_eq_true_eq, Option.isNone_iff_eq_none] at h1
  obtain ⟨⟨⟨⟨⟨⟨-, h2⟩, h3⟩, h4⟩, h5⟩, h6⟩, h7⟩ := h1
  exact ⟨h2, h3, h4, h5, h6, h7⟩
end Go.Proofs.Ytladknjmoahdoaa

set_option linter.all false
namespace Go.Proofs.Ytladknjmoahdoaa
open Go.RowKit Go

theorem infoU8 : (Try.prog.info? 5).map (fun i => (i.zero, i.size, i.bytes)) = some (some (.int .u8 0), 1, 1) := by kernel_rfl
theorem info_of {P : Program} {t : TypeId} {z : Value} {size bytes : Nat} (h : (P.info? t).map (fun i => (i.zero, i.size, i.bytes)) = some (some z, size, bytes)) : ∃ i, P.info? t = some i ∧ i.zero = some z ∧ i.size = size ∧ i.bytes = bytes := by
  cases hi : P.info? t with
  | none => rw [hi] at h; cases h
  | some i =>
    rw [hi] at h
    simp only [Option.map_some, Option.some.injEq, Prod.mk.injEq] at h
    exact ⟨i, rfl, h.1, h.2.1, h.2.2⟩
/-- A new row of noughts; the world it makes bears a name. -/
theorem make_any (n : Nat) (hn : n ≤ 100000) : ∃ mk : World → World, ∀ w, (Instr.makeSlice 30 (.int .i64 (n : Int)) (.int .i64 (n : Int))).run Try.prog w = .ok (.slice (some ⟨w.heap.size, 0, none⟩) n n) (mk w) ∧ Below w.heap.size w (mk w) ∧ BytesAt (mk w) (some ⟨w.heap.size, 0, none⟩) (List.replicate n 0) := by
  obtain ⟨i0, hi, hz0, hz1, hz2⟩ := info_of infoU8
  have h := fun w : World => run_makeSlice_full (P := Try.prog) w w.heap.size 30 5 i0 (.int .u8 0) 1 Try.underlying30 hi hz0 hz1 .i64 .i64 n (by omega) (by rw [hz2]; omega) (by unfold maxLen; omega) (Nat.le_refl _)
  obtain ⟨f, hf⟩ : ∃ f : World → World, ∀ w, (Instr.makeSlice 30 (.int .i64 (n : Int)) (.int .i64 (n : Int))).run Try.prog w = .ok (.slice (some ⟨w.heap.size, 0, none⟩) n n) (f w) ∧ (f w).ownsRow w.heap.size 5 1 (.slice (some ⟨w.heap.size, 0, none⟩) n n) n (madeCells (Value.int .u8 0).cells (n * 1)).toList ∧ w.grownBy (f w) none := ⟨fun w => (h w).choose, fun w => (h w).choose_spec⟩
  refine ⟨f, fun w => ?_⟩
  obtain ⟨h1, h2, h3⟩ := hf w
  refine ⟨h1, (Below.refl _ _).grown h3 (Nat.le_refl _) (by intro k hk; cases hk), ?_⟩
  have hl : (madeCells (Value.int .u8 0).cells (n * 1)).toList = bv (List.replicate n 0) := by
    rw [Nat.mul_one, show bv (List.replicate n 0) = List.replicate n (.int .u8 0) from by simp [bv]]
    exact toList_madeCells_one _ _
  rw [hl] at h2
  exact BytesAt.own (n := n) (c := n) h2
theorem make_big : ∃ (mk : World → World) (big : List UInt8), big.length = 32769 ∧ ∀ w, (Instr.makeSlice 30 (.int .i64 32769) (.int .i64 32769)).run Try.prog w = .ok (.slice (some ⟨w.heap.size, 0, none⟩) 32769 32769) (mk w) ∧ Below w.heap.size w (mk w) ∧ BytesAt (mk w) (some ⟨w.heap.size, 0, none⟩) big := by
  obtain ⟨mk, h⟩ := make_any 32769 (by decide)
  exact ⟨mk, List.replicate 32769 0, List.length_replicate .., h⟩
theorem make_252 : ∃ (mk : World → World), ∀ w, (Instr.makeSlice 30 (.int .i64 252) (.int .i64 252)).run Try.prog w = .ok (.slice (some ⟨w.heap.size, 0, none⟩) 252 252) (mk w) ∧ Below w.heap.size w (mk w) ∧ BytesAt (mk w) (some ⟨w.heap.size, 0, none⟩) (List.replicate 252 0) := make_any 252 (by decide)
theorem big_many {d : DiskT} {l : LogT} {big : List UInt8} (h : big.length = 32769) (hb : l.broken = 0) : appendL d fB l [big] = (3, d, l) := append_many (by rintro (h | h); exact h hb; cases h) (.inl (by unfold tooBig; simp [h]))
/-- One entry that a new row holds. -/
theorem row_ent {w w1 : World} {ad : Addr} {bs : List UInt8} {n : Nat} (hn : bs.length = n) (hb : Below w.heap.size w w1) (h : BytesAt w1 (some ad) bs) : Below w.heap.size w (w1.alloc (.cells #[.slice (some ad) n n] 30)) ∧
    Cells (w1.alloc (.cells #[.slice (some ad) n n] 30)) (some ⟨w1.heap.size, 0, none⟩) [.slice (some ad) n n] ∧ EntC (w1.alloc (.cells #[.slice (some ad) n n] 30)) [.slice (some ad) n n] [bs] :=
  ⟨hb.trans ((one_below _ _).mono hb.size), fresh_cells w1 #[.slice (some ad) n n] 30, (EntVs.one_ hn (h.kept (U8Kept.below (one_below _ _))) (Nat.le_refl _)).c⟩
theorem nil_ent (w : World) : Cells (w.alloc (.cells #[.slice none 0 0] 30)) (some ⟨w.heap.size, 0, none⟩) [.slice none 0 0] ∧ EntC (w.alloc (.cells #[.slice none 0 0] 30)) [.slice none 0 0] [[]] :=
  ⟨fresh_cells w #[.slice none 0 0] 30, (EntVs.one_ rfl (BytesAt.nil _) (Nat.le_refl _)).c⟩
theorem two_ent (w : World) : Below w.heap.size w ((w.alloc (.cells #[.int .u8 1, .int .u8 2] 5)).alloc (.cells #[.slice (some ⟨w.heap.size, 0, none⟩) 2 2, .slice none 0 0] 30)) ∧
    Cells ((w.alloc (.cells #[.int .u8 1, .int .u8 2] 5)).alloc (.cells #[.slice (some ⟨w.heap.size, 0, none⟩) 2 2, .slice none 0 0] 30)) (some ⟨w.heap.size + 1, 0, none⟩) [.slice (some ⟨w.heap.size, 0, none⟩) 2 2, .slice none 0 0] ∧
    EntC ((w.alloc (.cells #[.int .u8 1, .int .u8 2] 5)).alloc (.cells #[.slice (some ⟨w.heap.size, 0, none⟩) 2 2, .slice none 0 0] 30)) [.slice (some ⟨w.heap.size, 0, none⟩) 2 2, .slice none 0 0] wlE := by
  refine ⟨(one_below _ _).trans ((one_below _ _).mono (by simp)), ?_, (EntVs.two rfl rfl ((bytes_new w [1, 2]).kept (U8Kept.below (one_below _ _))) (BytesAt.nil _) (Nat.le_refl _) (Nat.le_refl _)).c⟩
  have h := fresh_cells (w.alloc (.cells #[.int .u8 1, .int .u8 2] 5)) #[.slice (some ⟨w.heap.size, 0, none⟩) 2 2, .slice none 0 0] 30
  rw [World.size_alloc] at h
  exact h
theorem hd_at (j : Nat) (hj : j < 6) : ∃ b ∈ hdL, (#[Value.string { data := #[0, 0, 0, 0, 0, 0, 1, 44, 0, 0, 0, 0, 0, 0, 0, 1] }, Value.string { data := #[0, 0, 0, 0, 0, 0, 0, 4, 0, 0, 0, 0, 0, 0, 0, 2] }, Value.string { data := #[0, 0, 0, 0, 0, 0, 0, 3, 0, 0, 0, 0, 0, 0, 0, 1] }, Value.string { data := #[255, 255, 255, 255, 255, 255, 255, 255, 0, 0, 0, 0, 0, 0, 0, 0] }, Value.string { data := #[0, 0, 0, 0, 0, 0, 0, 0, 0, 0, 0, 0, 0, 0, 0, 0, 1] }, Value.string { data := #[0, 0, 0, 0, 0, 0, 0, 4, 0, 0, 0, 0, 0, 1, 0, 1] }] : Array Value)[j]? = some (.string ⟨b.toArray⟩) := by
  match j, hj with
  | 0, _ => exact ⟨[0, 0, 0, 0, 0, 0, 1, 44, 0, 0, 0, 0, 0, 0, 0, 1], by decide, rfl⟩
  | 1, _ => exact ⟨[0, 0, 0, 0, 0, 0, 0, 4, 0, 0, 0, 0, 0, 0, 0, 2], by decide, rfl⟩
  | 2, _ => exact ⟨[0, 0, 0, 0, 0, 0, 0, 3, 0, 0, 0, 0, 0, 0, 0, 1], by decide, rfl⟩
  | 3, _ => exact ⟨[255, 255, 255, 255, 255, 255, 255, 255, 0, 0, 0, 0, 0, 0, 0, 0], by decide, rfl⟩
  | 4, _ => exact ⟨[0, 0, 0, 0, 0, 0, 0, 0, 0, 0, 0, 0, 0, 0, 0, 0, 1], by decide, rfl⟩
  | 5, _ => exact ⟨[0, 0, 0, 0, 0, 0, 0, 4, 0, 0, 0, 0, 0, 1, 0, 1], by decide, rfl⟩
theorem log0_ok : LogOk log0 := ⟨rfl, by decide, by decide⟩
theorem row_one (b : List UInt8) : (rowL [b]).length = 4 + b.length := by rw [row_sum]; simp
theorem St.create {W w : World} {p : Nat} {F : List Nat} {d : DiskT} (h : St W w p F d) (hst : d.steps ≤ 1000) (name : ByteArray) : Calls Try.prog 12 #[.pointer (some ⟨p, 0, none⟩), .string name] w fun e w' => e = .returned (.int .i64 (createD d name).1) ∧ ∃ F', St W w' p F' (createD d name).2 := by
  refine (h.disk.create (Nat.le_trans hst (by decide)) name).mono ?_
  rintro e w' ⟨rfl, F', hL⟩
  exact ⟨rfl, F', h.left hL⟩
theorem St.write {W w : World} {p : Nat} {F : List Nat} {d : DiskT} (h : St W w p F d) (hst : d.steps ≤ 1000) (name : ByteArray) (at_ : Int) (b : List UInt8) (A : Option Addr) (n c : Nat) (hA : Cells w A (bv b)) (hn : b.length = n) : Calls Try.prog 13 #[.pointer (some ⟨p, 0, none⟩), .string name, .int .i64 at_, .slice A n c] w fun e w' => e = .returned (.int .i64 (writeD d name at_ b).1) ∧ ∃ F', St W w' p F' (writeD d name at_ b).2 := by
  refine (h.disk.write (Nat.le_trans hst (by decide)) name at_ b A n c hA hn).mono ?_
  rintro e w' ⟨rfl, F', hL⟩
  exact ⟨rfl, F', h.left hL⟩
theorem conv_new (w : World) (b : List UInt8) : Below w.heap.size w (Lib.bytesWorld w 5 ⟨b.toArray⟩) ∧ Cells (Lib.bytesWorld w 5 ⟨b.toArray⟩) (some ⟨w.heap.size, 0, none⟩) (bv b) := by
  refine ⟨⟨rfl, rfl, rfl, ?_, fun i hi => Lib.bytesWorld_at_old w _ _ i hi⟩, fun _ => ⟨_, rfl, fun j u hj => ?_⟩⟩
  · unfold Lib.bytesWorld
    simp [World.freeze]
  · have hjl : j < b.length := by
      have := (List.getElem?_eq_some_iff.1 hj).1
      rwa [bv_length] at this
    have h1 := Lib.bytesWorld_cell w 5 ⟨b.toArray⟩ j (show j < (⟨b.toArray⟩ : ByteArray).size from by show j < b.toArray.size; simpa using hjl)
    have e : Addr.add ⟨w.heap.size, 0, none⟩ j = ⟨w.heap.size, j, none⟩ := by cases j <;> simp [Addr.add]
    rw [e, h1]
    rw [bv_get b j hjl] at hj
    rw [← hj]
    simp [List.getD, hjl]
set_option maxRecDepth 100000 in
set_option maxHeartbeats 16000000 in
theorem known_walk (W : World) : Calls Try.prog 3 #[] W fun e w' => e = .returned (.bool true) ∧ Below W.heap.size W w' := by
  obtain ⟨d0, d1, d2, d3, d4, d5, d6, d7, d8, d9, d10, d11, d12, l2, l4, l7, l10, l12, r5, r8, r11, g1, g2, g3, g4, g5, g6, g7⟩ := ka_facts
  have G1 := Lib.hid g1
  have G2 := Lib.hid g2
  have G3 := Lib.hid g3
  have G4 := Lib.hid g4
  have G5 := Lib.hid g5
  have G6 := Lib.hid g6
  have G7 := Lib.hid g7
  clear g1 g2 g3 g4 g5 g6 g7
  go_enter Try.func3, Try.ntmps3
  go_wp2_with fail
  refine (St.new 9 G1.out.1 (Below.refl _ _)).mono ?_
  rintro e w1 ⟨p, F1, rfl, h⟩
  have H1 := Lib.hid h
  clear h
  go_wp2_with fail
  refine (St.open_ H1.out G6.out.1 G1.out.2.1).mono ?_
  rintro e w2 ⟨F2, -, lp, A2, c2, rfl, h⟩
  have H2 := Lib.hid (show Sl W w2 p F2 d1 lp log0 from h)
  clear h
  go_wp2_with fail
  have he := two_ent w2
  refine (Sl.append (H2.out.bel he.1) G6.out.2.1 log0_ok he.2.1 he.2.2 rfl (by rw [wl_r]; decide) G1.out.2.2.1).mono ?_
  rintro e w3 ⟨rfl, F3, h⟩
  have H3 := Lib.hid (show Sl W w3 p F3 d2 lp l2 from h)
  clear h he
  go_wp2_with fail
  refine (Sl.fail H3.out (by decide) (by decide) G1.out.2.2.2.1).mono ?_
  rintro e w4 ⟨rfl, F4, h⟩
  have H4 := Lib.hid (show Sl W w4 p F4 d3 lp l2 from h)
  clear h
  go_wp2_with fail
  have he : Below w4.heap.size w4 ((w4.alloc (.cells #[.int .u8 3] 5)).alloc (.cells #[.slice (some ⟨w4.heap.size, 0, none⟩) 1 1] 30)) ∧ Cells ((w4.alloc (.cells #[.int .u8 3] 5)).alloc (.cells #[.slice (some ⟨w4.heap.size, 0, none⟩) 1 1] 30)) (some ⟨w4.heap.size + 1, 0, none⟩) [.slice (some ⟨w4.heap.size, 0, none⟩) 1 1] ∧ EntC ((w4.alloc (.cells #[.int .u8 3] 5)).alloc (.cells #[.slice (some ⟨w4.heap.size, 0, none⟩) 1 1] 30)) [.slice (some ⟨w4.heap.size, 0, none⟩) 1 1] [[3]] := one_ent w4 [3] rfl
  refine (Sl.append (H4.out.bel he.1) G6.out.2.2.1 G7.out.1 he.2.1 he.2.2 rfl (by rw [row_one]; decide) G1.out.2.2.2.2.1).mono ?_
  rintro e w5 ⟨rfl, F5, h⟩
  have H5 := Lib.hid (show Sl W w5 p F5 d4 lp l4 from h)
  clear h he
  go_wp2_with fail
  have he : Below w5.heap.size w5 ((w5.alloc (.cells #[.int .u8 4] 5)).alloc (.cells #[.slice (some ⟨w5.heap.size, 0, none⟩) 1 1] 30)) ∧ Cells ((w5.alloc (.cells #[.int .u8 4] 5)).alloc (.cells #[.slice (some ⟨w5.heap.size, 0, none⟩) 1 1] 30)) (some ⟨w5.heap.size + 1, 0, none⟩) [.slice (some ⟨w5.heap.size, 0, none⟩) 1 1] ∧ EntC ((w5.alloc (.cells #[.int .u8 4] 5)).alloc (.cells #[.slice (some ⟨w5.heap.size, 0, none⟩) 1 1] 30)) [.slice (some ⟨w5.heap.size, 0, none⟩) 1 1] [[4]] := one_ent w5 [4] rfl
  refine (Sl.append (H5.out.bel he.1) G6.out.2.2.2.1 G7.out.2.1 he.2.1 he.2.2 rfl (by rw [row_one]; decide) G1.out.2.2.2.2.2.1).mono ?_
  rintro e w6 ⟨rfl, F6, h⟩
  have H6 := Lib.hid (show Sl W w6 p F6 d4 lp l4 from h)
  clear h he
  go_wp2_with fail
  refine (Sl.on H6.out G6.out.2.2.2.1 G1.out.2.2.2.2.2.2).mono ?_
  rintro e w7 ⟨rfl, F7, h⟩
  have H7 := Lib.hid (show Sl W w7 p F7 d5 lp l4 from h)
  clear h
  go_wp2_with fail
  refine (St.open_ H7.out.st G6.out.2.2.2.2.1 G2.out.1).mono ?_
  rintro e w8 ⟨F8, -, lq, A8, c8, rfl, h⟩
  have H8 := Lib.hid (show Sl W w8 p F8 d5 lq (ofRead r5) from h)
  clear h
  simp only [show r5.es.length = 2 from G5.out.1]
  go_wp2_with fail
  refine (Sl.fail H8.out (by decide) (by decide) G2.out.2.1).mono ?_
  rintro e w9 ⟨rfl, F9, h⟩
  have H9 := Lib.hid (show Sl W w9 p F9 d6 lq (ofRead r5) from h)
  clear h
  go_wp2_with fail
  have he : Below w9.heap.size w9 ((w9.alloc (.cells #[.int .u8 3] 5)).alloc (.cells #[.slice (some ⟨w9.heap.size, 0, none⟩) 1 1] 30)) ∧ Cells ((w9.alloc (.cells #[.int .u8 3] 5)).alloc (.cells #[.slice (some ⟨w9.heap.size, 0, none⟩) 1 1] 30)) (some ⟨w9.heap.size + 1, 0, none⟩) [.slice (some ⟨w9.heap.size, 0, none⟩) 1 1] ∧ EntC ((w9.alloc (.cells #[.int .u8 3] 5)).alloc (.cells #[.slice (some ⟨w9.heap.size, 0, none⟩) 1 1] 30)) [.slice (some ⟨w9.heap.size, 0, none⟩) 1 1] [[3]] := one_ent w9 [3] rfl
  refine (Sl.append (H9.out.bel he.1) G6.out.2.2.2.2.2.1 G7.out.2.2.1 he.2.1 he.2.2 rfl (by rw [row_one]; decide) G2.out.2.2.1).mono ?_
  rintro e w10 ⟨rfl, F10, h⟩
  have H10 := Lib.hid (show Sl W w10 p F10 d7 lq l7 from h)
  clear h he
  go_wp2_with fail
  refine (Sl.on H10.out G6.out.2.2.2.2.2.2.1 G2.out.2.2.2).mono ?_
  rintro e w11 ⟨rfl, F11, h⟩
  have H11 := Lib.hid (show Sl W w11 p F11 d8 lq l7 from h)
  clear h
  go_wp2_with fail
  refine (St.open_ H11.out.st G6.out.2.2.2.2.2.2.2.1 G3.out.1).mono ?_
  rintro e w12 ⟨F12, -, lr, A12, c12, rfl, h⟩
  have H12 := Lib.hid (show Sl W w12 p F12 d8 lr (ofRead r8) from h)
  clear h
  simp only [show r8.es.length = 2 from G5.out.2.1]
  go_wp2_with fail
  refine (Sl.fail H12.out (by decide) (by decide) G3.out.2.1).mono ?_
  rintro e w13 ⟨rfl, F13, h⟩
  have H13 := Lib.hid (show Sl W w13 p F13 d9 lr (ofRead r8) from h)
  clear h
  go_wp2_with fail
  have he : Below w13.heap.size w13 ((w13.alloc (.cells #[.int .u8 3] 5)).alloc (.cells #[.slice (some ⟨w13.heap.size, 0, none⟩) 1 1] 30)) ∧ Cells ((w13.alloc (.cells #[.int .u8 3] 5)).alloc (.cells #[.slice (some ⟨w13.heap.size, 0, none⟩) 1 1] 30)) (some ⟨w13.heap.size + 1, 0, none⟩) [.slice (some ⟨w13.heap.size, 0, none⟩) 1 1] ∧ EntC ((w13.alloc (.cells #[.int .u8 3] 5)).alloc (.cells #[.slice (some ⟨w13.heap.size, 0, none⟩) 1 1] 30)) [.slice (some ⟨w13.heap.size, 0, none⟩) 1 1] [[3]] := one_ent w13 [3] rfl
  refine (Sl.append (H13.out.bel he.1) G6.out.2.2.2.2.2.2.2.2.1 G7.out.2.2.2.1 he.2.1 he.2.2 rfl (by rw [row_one]; decide) G3.out.2.2.1).mono ?_
  rintro e w14 ⟨rfl, F14, h⟩
  have H14 := Lib.hid (show Sl W w14 p F14 d10 lr l10 from h)
  clear h he
  go_wp2_with fail
  refine (Sl.on H14.out G6.out.2.2.2.2.2.2.2.2.2.1 G3.out.2.2.2).mono ?_
  rintro e w15 ⟨rfl, F15, h⟩
  have H15 := Lib.hid (show Sl W w15 p F15 d11 lr l10 from h)
  clear h
  go_wp2_with fail
  refine (St.open_ H15.out.st G6.out.2.2.2.2.2.2.2.2.2.2 G4.out.1).mono ?_
  rintro e w16 ⟨F16, -, ls, A16, c16, rfl, h⟩
  have H16 := Lib.hid (show Sl W w16 p F16 d11 ls (ofRead r11) from h)
  clear h
  simp only [show r11.es.length = 3 from G5.out.2.2.1]
  go_wp2_with fail
  refine (count_any H16.out.log).mono ?_
  rintro e w17 ⟨rfl, hw⟩
  subst hw
  rw [show ((ofRead r11).count : Int) = 3 from by show ((r11.es.length : Nat) : Int) = 3; rw [G5.out.2.2.1]; rfl]
  go_wp2_with fail
  refine (open_nil fB _).mono ?_
  rintro e w17 ⟨rfl, hb⟩
  have H17 := Lib.hid (H16.out.bel hb)
  clear hb
  go_wp2_with fail
  refine (open_any (name := empB) H17.out.st.disk (Nat.le_trans G6.out.2.2.2.2.2.2.2.2.2.2 (by decide))).mono ?_
  rw [G4.out.2.1]
  rintro e w18 ⟨F18, hL, rfl⟩
  have H18 := Lib.hid (show Sl W w18 p F18 d11 ls (ofRead r11) from H17.out.left hL)
  clear hL
  go_wp2_with fail
  refine (append_nil _ _).mono ?_
  rintro e w19 ⟨rfl, hb⟩
  have H19 := Lib.hid (H18.out.bel ((one_below _ _).trans (hb.mono (one_below _ _).size)))
  clear hb
  go_wp2_with fail
  refine (append_nil _ _).mono ?_
  rintro e w20 ⟨rfl, hb⟩
  have H20 := Lib.hid (H19.out.bel hb)
  clear hb
  go_wp2_with fail
  refine (count_nil _).mono ?_
  rintro e w21 ⟨rfl, hw⟩
  subst hw
  go_wp2_with fail
  refine (Sl.append H20.out G6.out.2.2.2.2.2.2.2.2.2.2 G7.out.2.2.2.2 (Cells.nil _ _) (⟨rfl, fun k hk => by simp at hk⟩ : EntC _ [] []) rfl (by simp [rowL]) G4.out.2.2.1).mono ?_
  rintro e w21 ⟨rfl, F21, h⟩
  have H21 := Lib.hid (show Sl W w21 p F21 d11 ls (ofRead r11) from h)
  clear h
  obtain ⟨mk, big, hbig, hmk⟩ := make_big
  have HMK := Lib.hid (fun w => (hmk w).2)
  have hmk := fun w => (hmk w).1
  have HBIG := Lib.hid hbig
  clear hbig
  go_wp2_with fail
  have he := row_ent HBIG.out (HMK.out w21).1 (HMK.out w21).2
  refine (Sl.append (H21.out.bel he.1) G6.out.2.2.2.2.2.2.2.2.2.2 G7.out.2.2.2.2 he.2.1 he.2.2 rfl (by rw [row_one, HBIG.out]; decide) (big_many HBIG.out G5.out.2.2.2)).mono ?_
  rintro e w22 ⟨rfl, F22, h⟩
  have H22 := Lib.hid (show Sl W w22 p F22 d11 ls (ofRead r11) from h)
  clear h he hmk HMK HBIG
  go_wp2_with fail
  have he : Below w22.heap.size w22 ((w22.alloc (.cells #[.int .u8 5] 5)).alloc (.cells #[.slice (some ⟨w22.heap.size, 0, none⟩) 1 1] 30)) ∧ Cells ((w22.alloc (.cells #[.int .u8 5] 5)).alloc (.cells #[.slice (some ⟨w22.heap.size, 0, none⟩) 1 1] 30)) (some ⟨w22.heap.size + 1, 0, none⟩) [.slice (some ⟨w22.heap.size, 0, none⟩) 1 1] ∧ EntC ((w22.alloc (.cells #[.int .u8 5] 5)).alloc (.cells #[.slice (some ⟨w22.heap.size, 0, none⟩) 1 1] 30)) [.slice (some ⟨w22.heap.size, 0, none⟩) 1 1] [[5]] := one_ent w22 [5] rfl
  refine (Sl.append (H22.out.bel he.1) G6.out.2.2.2.2.2.2.2.2.2.2 G7.out.2.2.2.2 he.2.1 he.2.2 rfl (by rw [row_one]; decide) G4.out.2.2.2).mono ?_
  rintro e w23 ⟨rfl, F23, h⟩
  have H23 := Lib.hid (show Sl W w23 p F23 d12 ls l12 from h)
  clear h he
  go_wp2_with fail
  obtain ⟨gh, hgh⟩ : ∃ gh, w23.heap.size = gh := ⟨_, rfl⟩
  have hO : (w23.alloc (.cells #[Value.string { data := #[0, 0, 0, 0, 0, 0, 1, 44, 0, 0, 0, 0, 0, 0, 0, 1] }, Value.string { data := #[0, 0, 0, 0, 0, 0, 0, 4, 0, 0, 0, 0, 0, 0, 0, 2] }, Value.string { data := #[0, 0, 0, 0, 0, 0, 0, 3, 0, 0, 0, 0, 0, 0, 0, 1] }, Value.string { data := #[255, 255, 255, 255, 255, 255, 255, 255, 0, 0, 0, 0, 0, 0, 0, 0] }, Value.string { data := #[0, 0, 0, 0, 0, 0, 0, 0, 0, 0, 0, 0, 0, 0, 0, 0, 1] }, Value.string { data := #[0, 0, 0, 0, 0, 0, 0, 4, 0, 0, 0, 0, 0, 1, 0, 1] }] 9)).heap[gh]? = some (.cells #[Value.string { data := #[0, 0, 0, 0, 0, 0, 1, 44, 0, 0, 0, 0, 0, 0, 0, 1] }, Value.string { data := #[0, 0, 0, 0, 0, 0, 0, 4, 0, 0, 0, 0, 0, 0, 0, 2] }, Value.string { data := #[0, 0, 0, 0, 0, 0, 0, 3, 0, 0, 0, 0, 0, 0, 0, 1] }, Value.string { data := #[255, 255, 255, 255, 255, 255, 255, 255, 0, 0, 0, 0, 0, 0, 0, 0] }, Value.string { data := #[0, 0, 0, 0, 0, 0, 0, 0, 0, 0, 0, 0, 0, 0, 0, 0, 1] }, Value.string { data := #[0, 0, 0, 0, 0, 0, 0, 4, 0, 0, 0, 0, 0, 1, 0, 1] }] 9) := by rw [← hgh]; exact Go.heap_alloc_new _ _
  have hb24 : Below w23.heap.size w23 (w23.alloc (.cells #[Value.string { data := #[0, 0, 0, 0, 0, 0, 1, 44, 0, 0, 0, 0, 0, 0, 0, 1] }, Value.string { data := #[0, 0, 0, 0, 0, 0, 0, 4, 0, 0, 0, 0, 0, 0, 0, 2] }, Value.string { data := #[0, 0, 0, 0, 0, 0, 0, 3, 0, 0, 0, 0, 0, 0, 0, 1] }, Value.string { data := #[255, 255, 255, 255, 255, 255, 255, 255, 0, 0, 0, 0, 0, 0, 0, 0] }, Value.string { data := #[0, 0, 0, 0, 0, 0, 0, 0, 0, 0, 0, 0, 0, 0, 0, 0, 1] }, Value.string { data := #[0, 0, 0, 0, 0, 0, 0, 4, 0, 0, 0, 0, 0, 1, 0, 1] }] 9)) := one_below _ _
  simp only [hgh]
  clear hgh
  generalize w23.alloc (.cells #[Value.string { data := #[0, 0, 0, 0, 0, 0, 1, 44, 0, 0, 0, 0, 0, 0, 0, 1] }, Value.string { data := #[0, 0, 0, 0, 0, 0, 0, 4, 0, 0, 0, 0, 0, 0, 0, 2] }, Value.string { data := #[0, 0, 0, 0, 0, 0, 0, 3, 0, 0, 0, 0, 0, 0, 0, 1] }, Value.string { data := #[255, 255, 255, 255, 255, 255, 255, 255, 0, 0, 0, 0, 0, 0, 0, 0] }, Value.string { data := #[0, 0, 0, 0, 0, 0, 0, 0, 0, 0, 0, 0, 0, 0, 0, 0, 1] }, Value.string { data := #[0, 0, 0, 0, 0, 0, 0, 4, 0, 0, 0, 0, 0, 1, 0, 1] }] 9) = w24 at hO hb24 ⊢
  have HO := Lib.hid hO
  have HB24 := Lib.hid (H23.out.st.below.trans (hb24.mono H23.out.st.below.size))
  clear hb24 hO
  go_loopw [25] (fun i wr => ∃ j : Nat, j ≤ 6 ∧ i = .int .i64 j ∧ Below w24.heap.size w24 wr) (fun i _ => 6 - (intOf i).toNat)
  case atStart => exact ⟨0, Nat.zero_le _, rfl, Below.refl _ _⟩
  case round =>
    obtain ⟨j, hj, rfl, hbr⟩ := hrel
    have HBR := Lib.hid hbr
    clear hbr
    by_cases hlt : j < 6
    · obtain ⟨b, hbm, hcell⟩ := hd_at j hlt
      have hji : ((j : Int) < 6) := by omega
      have hfa := hd_facts b hbm
      unfold hdD at hfa
      obtain ⟨s, hs⟩ : ∃ s : ByteArray, ⟨b.toArray⟩ = s := ⟨_, rfl⟩
      rw [hs] at hcell
      have HN0 := Lib.hid (fun V hV => St.new (W := w24) (w := V) 9 rfl hV)
      obtain ⟨da, hda⟩ : ∃ da, newD 9 = da := ⟨_, rfl⟩
      have hsa : da.steps ≤ 1000 := by rw [← hda]; decide
      rw [hda] at hfa
      simp only [hda] at HN0
      obtain ⟨db, hdb⟩ : ∃ db, (createD da fB).2 = db := ⟨_, rfl⟩
      rw [hdb] at hfa
      obtain ⟨dc, hdc⟩ : ∃ dc, (writeD db fB 0 b).2 = dc := ⟨_, rfl⟩
      rw [hdc] at hfa
      obtain ⟨dd, hdd⟩ : ∃ dd, (writeD dc fB 1 []).2 = dd := ⟨_, rfl⟩
      rw [hdd] at hfa
      obtain ⟨⟨er, df, o⟩, hr⟩ : ∃ r, openL dd fB = r := ⟨_, rfl⟩
      rw [hr] at hfa
      obtain ⟨k1, k2, k3, k4, k5, k6⟩ := hfa
      dsimp only at k3 k4
      subst k3 k4
      obtain ⟨bl, hbl⟩ : ∃ bl, b.length = bl := ⟨_, rfl⟩
      have hsz : s.size = bl := by rw [← hs, ← hbl]; show b.toArray.size = _; simp
      have HF := Lib.hid (And.intro hda (And.intro hdb (And.intro hdc (And.intro hdd (And.intro hr (And.intro hsa (And.intro k1 (And.intro k2 (And.intro k5 (And.intro hs hbl))))))))))
      have HSZ := Lib.hid hsz
      have HCE := Lib.hid hcell
      clear hda hdb hdc hdd hr hsa k1 k2 k5 k6 hs hbl hsz hcell hbm
      go_wp2_with fail
      refine (HN0.out _ HBR.out).mono ?_
      rintro e w25 ⟨p2, F25, rfl, h⟩
      have H25 := Lib.hid h
      clear h HN0
      go_wp2_with fail
      refine (St.create H25.out HF.out.2.2.2.2.2.1 fB).mono ?_
      rintro e w26 ⟨rfl, F26, h⟩
      rw [HF.out.2.1] at h
      have H26 := Lib.hid h
      have e1 : w26.cell? ⟨gh, j, none⟩ = some (.string s) := cell_of (j := j) ((h.below.block gh (lt_of_block HO.out)).trans HO.out) HCE.out
      have hcv := Lib.run_convert_string_bytes (P := Try.prog) w26 9 30 5 s Try.underlying9 Try.underlying30 Try.underlying5
      rw [HSZ.out] at hcv
      have hcn := conv_new w26 b
      rw [HF.out.2.2.2.2.2.2.2.2.2.1] at hcn
      have HCN := Lib.hid hcn
      clear h hcn
      generalize Lib.bytesWorld w26 5 s = w27 at hcv HCN
      go_wp2_with fail
      refine (St.write (H26.out.bel HCN.out.1) (Nat.le_trans HF.out.2.2.2.2.2.2.1 (by decide)) fB 0 b _ bl _ HCN.out.2 HF.out.2.2.2.2.2.2.2.2.2.2).mono ?_
      rintro e w28 ⟨rfl, F28, h⟩
      rw [HF.out.2.2.1] at h
      have H28 := Lib.hid h
      clear h hcv e1
      go_wp2_with fail
      refine (St.write H28.out (Nat.le_trans HF.out.2.2.2.2.2.2.2.1 (by decide)) fB 1 [] none 0 0 (Cells.nil _ _) rfl).mono ?_
      rintro e w29 ⟨rfl, F29, h⟩
      rw [HF.out.2.2.2.1] at h
      have H29 := Lib.hid h
      clear h
      go_wp2_with fail
      refine (St.open_ H29.out (Nat.le_trans HF.out.2.2.2.2.2.2.2.2.1 (by decide)) HF.out.2.2.2.2.1).mono ?_
      rintro e w30 ⟨F30, h, rfl⟩
      have H30 := Lib.hid h.below
      clear h
      go_wp2_with fail
      go_roundw
      case rel => exact ⟨j + 1, hlt, by go_num, H30.out⟩
      case measure => simp [intOf]; omega
    · obtain rfl : j = 6 := by omega
      have hbw := HB24.out.trans (HBR.out.mono HB24.out.size)
      have HBW := Lib.hid hbw
      obtain ⟨m0, m1, m2, m3, y2, y3, k1, k2, k3, k4⟩ := kb_facts
      obtain ⟨z, hz⟩ : ∃ z : List UInt8, List.replicate 252 0 = z := ⟨_, rfl⟩
      have hzl : z.length = 252 := by rw [← hz]; exact List.length_replicate ..
      obtain ⟨mk, hmk⟩ := make_252
      rw [hz] at k1
      have hmk2 : ∀ w, Below w.heap.size w (mk w) ∧ BytesAt (mk w) (some ⟨w.heap.size, 0, none⟩) z := fun w => by rw [← hz]; exact (hmk w).2
      have hmk := fun w => (hmk w).1
      have K1 := Lib.hid k1
      have K2 := Lib.hid k2
      have K3 := Lib.hid k3
      have K4 := Lib.hid k4
      have HZL := Lib.hid hzl
      have HMK := Lib.hid hmk2
      clear k1 k2 k3 k4 hz hzl hmk2 hbw
      go_wp2_with fail
      refine (St.new 2 K1.out.1 HBW.out).mono ?_
      rintro e w31 ⟨p3, F31, rfl, h⟩
      have H31 := Lib.hid h
      clear h
      go_wp2_with fail
      refine (St.open_ H31.out K2.out.1 K1.out.2.1).mono ?_
      rintro e w32 ⟨F32, -, lt, A32, c32, rfl, h⟩
      have H32 := Lib.hid (show Sl W w32 p3 F32 m1 lt log0 from h)
      clear h
      go_wp2_with fail
      have he := row_ent HZL.out (HMK.out w32).1 (HMK.out w32).2
      refine (Sl.append (H32.out.bel he.1) K2.out.2.1 log0_ok he.2.1 he.2.2 rfl (by rw [row_one, HZL.out]; decide) K1.out.2.2.1).mono ?_
      rintro e w33 ⟨rfl, F33, h⟩
      have H33 := Lib.hid (show Sl W w33 p3 F33 m2 lt y2 from h)
      clear h he hmk HMK
      go_wp2_with fail
      have he : Below w33.heap.size w33 ((w33.alloc (.cells #[.int .u8 1] 5)).alloc (.cells #[.slice (some ⟨w33.heap.size, 0, none⟩) 1 1] 30)) ∧ Cells ((w33.alloc (.cells #[.int .u8 1] 5)).alloc (.cells #[.slice (some ⟨w33.heap.size, 0, none⟩) 1 1] 30)) (some ⟨w33.heap.size + 1, 0, none⟩) [.slice (some ⟨w33.heap.size, 0, none⟩) 1 1] ∧ EntC ((w33.alloc (.cells #[.int .u8 1] 5)).alloc (.cells #[.slice (some ⟨w33.heap.size, 0, none⟩) 1 1] 30)) [.slice (some ⟨w33.heap.size, 0, none⟩) 1 1] [[1]] := one_ent w33 [1] rfl
      refine (Sl.append (H33.out.bel he.1) K2.out.2.2.1 K3.out he.2.1 he.2.2 rfl (by rw [row_one]; decide) K1.out.2.2.2.1).mono ?_
      rintro e w34 ⟨rfl, F34, h⟩
      have H34 := Lib.hid (show Sl W w34 p3 F34 m3 lt y3 from h)
      clear h he
      go_wp2_with fail
      refine (Sl.append (H34.out.bel (one_below _ _)) K2.out.2.2.2 K4.out (nil_ent w34).1 (nil_ent w34).2 rfl (by rw [row_one]; decide) K1.out.2.2.2.2.1).mono ?_
      rintro e w35 ⟨rfl, F35, h⟩
      have H35 := Lib.hid (show Sl W w35 p3 F35 m3 lt y3 from h)
      clear h
      go_wp2_with fail
      refine (count_any H35.out.log).mono ?_
      rintro e w36 ⟨rfl, hw⟩
      subst hw
      rw [K1.out.2.2.2.2.2]
      go_wp2_with fail
      refine (works_any _).mono ?_
      rintro e w37 ⟨rfl, hb⟩
      go_wp2_with fail
      go_ret
      exact ⟨rfl, H35.out.st.below.trans (hb.mono H35.out.st.below.size)⟩
end Go.Proofs.Ytladknjmoahdoaa
