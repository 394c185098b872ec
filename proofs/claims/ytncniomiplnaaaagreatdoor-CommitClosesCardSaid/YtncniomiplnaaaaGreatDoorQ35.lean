/- The document's order of lines. · The document's transaction of lines. -/
import Derived.Test.YtncniomiplnaaaaGreatDoorQ14
import Derived.Test.YtncniomiplnaaaaGreatDoorQ33
import Derived.Deep.DeepMust
import Derived.Test.YtncniomiplnaaaaGreatDoorQ31
namespace Go.Proofs.YtncniomiplnaaaaGreatDoor
open Go.RowKit

def encD (r : LineR) : List Value := [.int .i64 r.v, .int .u8 r.kind, .string r.term, .int .i64 r.n, .slice r.A r.len r.cap, .int .i64 r.what]
theorem encD_len (r : LineR) : (encD r).length = 6 := rfl
theorem encD_one (r : LineR) : ∀ u ∈ encD r, u.oneCell' = true := by
  intro u hu
  simp only [encD, List.mem_cons, List.not_mem_nil, or_false] at hu
  rcases hu with rfl | rfl | rfl | rfl | rfl | rfl <;> rfl
theorem slD : SlTyK Tryz.prog 85 87 (.agg #[.int .i64 0, .int .u8 0, .string ⟨#[]⟩, .int .i64 0, .slice none 0 0, .int .i64 0]) 6 72 := ⟨Tryz.underlying85, by kernel_rfl, rfl, by decide⟩
theorem fm_len {α : Type} (f : α → List Value) (m : Nat) (hf : ∀ x, (f x).length = m) : ∀ l : List α, (l.flatMap f).length = l.length * m
  | [] => by simp
  | x :: r => by rw [List.flatMap_cons, List.length_append, hf, fm_len f m hf r, List.length_cons, Nat.add_mul, Nat.one_mul, Nat.add_comm]
theorem fm_drop {α : Type} (f : α → List Value) (m : Nat) (hf : ∀ x, (f x).length = m) : ∀ (l : List α) (k : Nat), k ≤ l.length → (l.flatMap f).drop (k * m) = (l.drop k).flatMap f
  | l, 0, _ => by simp
  | [], k + 1, h => absurd h (by simp)
  | x :: r, k + 1, h => by
    rw [List.flatMap_cons, List.drop_succ_cons, ← fm_drop f m hf r k (by simpa using h), List.drop_append, List.drop_of_length_le (by rw [hf, Nat.add_mul]; omega), List.nil_append, hf]
    congr 1
    rw [Nat.add_mul]; omega
theorem fm_take {α : Type} (f : α → List Value) (l : List α) (k : Nat) : (l.take k).flatMap f <+: l.flatMap f := by
  conv => rhs; rw [← List.take_append_drop k l, List.flatMap_append]
  exact List.prefix_append _ _
theorem fm_get {α : Type} (f : α → List Value) (m : Nat) (hf : ∀ x, (f x).length = m) (l : List α) (k : Nat) (hk : k < l.length) (c : Nat) (hc : c < m) : (l.flatMap f)[k * m + c]? = (f l[k])[c]? := by
  rw [← List.getElem?_drop, fm_drop f m hf l k (by omega), List.drop_eq_getElem_cons hk, List.flatMap_cons, List.getElem?_append_left (by rw [hf]; exact hc)]
theorem fm_one {α : Type} (f : α → List Value) (hf : ∀ x, ∀ u ∈ f x, u.oneCell' = true) (l : List α) : ∀ u ∈ l.flatMap f, u.oneCell' = true := fun u hu => by
  obtain ⟨x, -, hx⟩ := List.mem_flatMap.1 hu
  exact hf x u hx
theorem fm_ctake {w : World} {A : Option Addr} {α : Type} (f : α → List Value) {l : List α} (h : Cells w A (l.flatMap f)) (k : Nat) : Cells w A ((l.take k).flatMap f) := fun hn => by
  obtain ⟨t, ht⟩ := fm_take f l k
  obtain ⟨ad, he, hc⟩ := h (by rw [← ht, List.length_append]; omega)
  exact ⟨ad, he, fun j u hj => hc j u (by rw [← ht, List.getElem?_append_left (List.getElem?_eq_some_iff.1 hj).1]; exact hj)⟩
theorem fm_cdrop {w : World} {ad : Addr} {α : Type} (f : α → List Value) (m : Nat) (hf : ∀ x, (f x).length = m) {l : List α} (h : Cells w (some ad) (l.flatMap f)) (k : Nat) (hk : k ≤ l.length) : Cells w (some (ad.add (k * m))) ((l.drop k).flatMap f) := fun hn => by
  have hl : (l.flatMap f).length = k * m + ((l.drop k).flatMap f).length := by
    rw [fm_len f m hf, fm_len f m hf, List.length_drop, ← Nat.add_mul]; congr 1; omega
  obtain ⟨ad', he, hc⟩ := h (by omega)
  injection he with he
  subst he
  refine ⟨_, rfl, fun j u hj => ?_⟩
  rw [← fm_drop f m hf l k hk, List.getElem?_drop] at hj
  rw [Addr.add_add]
  exact hc _ _ hj
theorem line_at {w : World} {A : Option Addr} {ls : List LineR} (hc : Cells w A (ls.flatMap encD)) {k : Nat} (hk : k < ls.length) : ∃ ad : Addr, A = some ad ∧
    w.cell? (ad.add (k * 6)) = some (.int .i64 ls[k].v) ∧ w.cell? ⟨(ad.add (k * 6)).block, (ad.add (k * 6)).off + 1, none⟩ = some (.int .u8 ls[k].kind) ∧ w.cell? ⟨(ad.add (k * 6)).block, (ad.add (k * 6)).off + 2, none⟩ = some (.string ls[k].term) ∧ w.cell? ⟨(ad.add (k * 6)).block, (ad.add (k * 6)).off + 3, none⟩ = some (.int .i64 ls[k].n) ∧ w.cell? ⟨(ad.add (k * 6)).block, (ad.add (k * 6)).off + 4, none⟩ = some (.slice ls[k].A ls[k].len ls[k].cap) ∧ w.cell? ⟨(ad.add (k * 6)).block, (ad.add (k * 6)).off + 5, none⟩ = some (.int .i64 ls[k].what) := by
  obtain ⟨ad, he, hcc⟩ := hc (by rw [fm_len encD 6 encD_len]; omega)
  have go : ∀ (c : Nat) (u : Value), c < 6 → (encD ls[k])[c]? = some u → w.cell? (ad.add (k * 6 + c)) = some u := fun c u hc hu => hcc _ _ ((fm_get encD 6 encD_len ls k hk c hc).trans hu)
  refine ⟨ad, he, go 0 _ (by decide) rfl, ?_, ?_, ?_, ?_, ?_⟩
  · rw [add_next _ _ _ (by decide)]; exact go 1 _ (by decide) rfl
  · rw [add_next _ _ _ (by decide)]; exact go 2 _ (by decide) rfl
  · rw [add_next _ _ _ (by decide)]; exact go 3 _ (by decide) rfl
  · rw [add_next _ _ _ (by decide)]; exact go 4 _ (by decide) rfl
  · rw [add_next _ _ _ (by decide)]; exact go 5 _ (by decide) rfl
theorem insL_at {α : Type} {lt : α → α → Bool} {x : α} : ∀ (l : List α) (k : Nat), k ≤ l.length → (∀ j (hj : j < l.length), j < k → lt x l[j] = false) → (∀ hk : k < l.length, lt x l[k] = true) → insL lt x l = l.take k ++ x :: l.drop k
  | [], k, h, _, _ => by
    obtain rfl : k = 0 := by simpa using h
    rfl
  | y :: r, 0, _, _, h2 => by
    unfold insL
    have h0 : lt x y = true := h2 (by simp)
    rw [if_pos h0]; rfl
  | y :: r, k + 1, h, h1, h2 => by
    unfold insL
    have h0 : lt x y = false := h1 0 (by simp) (by omega)
    rw [h0, insL_at r k (by simpa using h) (fun j hj hjk => h1 (j + 1) (by simpa using hj) (by omega)) (fun hk => h2 (by simpa using hk))]
    rfl
theorem ordL_snoc {α : Type} (lt : α → α → Bool) (l : List α) (x : α) : ordL lt (l ++ [x]) = insL lt x (ordL lt l) := by simp [ordL, List.foldl_append]
theorem own_base {w : World} {base base' : Nat} {E : TypeId} {k : Nat} {v : Value} {n : Nat} {xs : List Value} (h : w.ownsRow base E k v n xs) (hb : base' ≤ base) : w.ownsRow base' E k v n xs := by
  refine ⟨h.1, ?_⟩
  rcases h.2 with h0 | ⟨g, cap, cur, a1, a2, a3⟩
  · exact .inl h0
  · exact .inr ⟨g, cap, cur, a1, Nat.le_trans hb a2, a3⟩
theorem less_b (a b : ByteArray) : Op.bytesLess a.toList b.toList = decide (a.data.toList < b.data.toList) := by
  rw [bytesLess_eq, Go.ByteArray.toList_eq, Go.ByteArray.toList_eq]
theorem str_lt {a b : ByteArray} (h : a.data.toList < b.data.toList) : Op.bytesLess b.toList a.toList = false ∧ (b.toList == a.toList) = false := by
  rw [less_b]
  refine ⟨decide_eq_false (fun h2 => List.lt_irrefl _ (List.lt_trans h h2)), beq_false_of_ne fun e => ?_⟩
  rw [Go.ByteArray.toList_eq, Go.ByteArray.toList_eq] at e
  rw [e] at h
  exact List.lt_irrefl _ h
theorem str_nlt {a b : ByteArray} (h : ¬ a.data.toList < b.data.toList) : (b.toList == a.toList) = true ∨ Op.bytesLess b.toList a.toList = true := by
  rw [less_b]
  by_cases h2 : b.data.toList < a.data.toList
  · exact .inr (decide_eq_true h2)
  · refine .inl ?_
    rw [Go.ByteArray.toList_eq, Go.ByteArray.toList_eq, List.le_antisymm (List.not_lt.1 h) (List.not_lt.1 h2)]
    simp
theorem ltQ_val {x y : LineP × LineR} (hx : x.2.v = x.1.v) (hy : y.2.v = y.1.v) : ltQ x y = (decide (x.2.v < y.2.v) || (decide (x.2.v = y.2.v) && decide (x.1.text.data.toList < y.1.text.data.toList))) := by
  unfold ltQ ltP
  rw [hx, hy]
set_option maxRecDepth 100000 in
set_option maxHeartbeats 16000000 in
theorem ordered_any (ps : List (LineP × LineR)) (A : Option Addr) (cap : Nat) (w : World) (hn : ps.length ≤ 1000) (hc : Cells w A ((ps.map Prod.snd).flatMap encD)) (hps : ∀ q ∈ ps, LineK w.heap.size w q) :
    Calls Tryz.prog 75 #[.slice A ps.length cap] w fun e w' => ∃ v', e = .returned v' ∧ w'.ownsRow w.heap.size 87 6 v' ps.length (((ordL ltQ ps).map Prod.snd).flatMap encD) ∧ Below w.heap.size w w' := by
  have HC := Lib.hid hc
  have HPS := Lib.hid hps
  clear hc hps
  go_enter Tryz.func75, Tryz.ntmps75
  go_wp2_with fail
  go_loopw [3, 4] (fun vo i wr => ∃ (k : Nat) (vO : Value), vO = vo ∧ k ≤ ps.length ∧ i = .int .i64 (k : Int) ∧ Below w.heap.size w wr ∧ wr.ownsRow w.heap.size 87 6 vO k (((ordL ltQ (ps.take k)).map Prod.snd).flatMap encD)) (fun _ i _ => ps.length - (intOf i).toNat)
  case atStart => exact ⟨0, _, rfl, Nat.zero_le _, rfl, Below.refl _ _, World.ownsRow_nil _ _ _ _⟩
  case round =>
    obtain ⟨k, vO, rfl, hk, rfl, hbr, hown⟩ := hrel
    by_cases hlt : k < ps.length
    · rcases hown.2 with ⟨rfl, hk0⟩ | ⟨g, cb, cur, rfl, hg1, hg2, hkc, hcm, -⟩
      · have hlt2 : k < (ps.map Prod.snd).length := by rw [List.length_map]; exact hlt
        obtain ⟨la, rfl, x0, x1, x2, x3, x4, x5⟩ := line_at (HC.out.below hbr) hlt2
        have hlk0 := HPS.out ps[k] (List.getElem_mem hlt)
        have hsn : ordL ltQ (ps.take (k + 1)) = insL ltQ ps[k] (ordL ltQ (ps.take k)) := by rw [List.take_succ_eq_append_getElem hlt, ordL_snoc]
        rw [List.getElem_map] at x0 x1 x2 x3 x4 x5
        have hqs : ∀ q ∈ ordL ltQ (ps.take k), LineK w.heap.size w q := fun q hq => HPS.out q (List.mem_of_mem_take ((ordL_mem ltQ _ q).1 hq))
        have hql : (ordL ltQ (ps.take k)).length = k := by rw [ordL_len, List.length_take]; omega
        obtain ⟨qs, hqe⟩ : ∃ qs, ordL ltQ (ps.take k) = qs := ⟨_, rfl⟩
        rw [hqe] at hsn hqs hql hown
        obtain ⟨x, hx⟩ : ∃ x, ps[k] = x := ⟨_, rfl⟩
        rw [hx] at x0 x1 x2 x3 x4 x5 hlk0 hsn
        have HSN := Lib.hid hsn
        have HQS := Lib.hid hqs
        have HQL := Lib.hid hql
        have HXK := Lib.hid hlk0
        have HBR := Lib.hid hbr
        have HXC0 := Lib.hid (show wr.cell? (la.add (k * 6)) = some (.int .i64 x.2.v) ∧ wr.cell? ⟨(la.add (k * 6)).block, (la.add (k * 6)).off + 1, none⟩ = some (.int .u8 x.2.kind) ∧ wr.cell? ⟨(la.add (k * 6)).block, (la.add (k * 6)).off + 2, none⟩ = some (.string x.2.term) ∧ wr.cell? ⟨(la.add (k * 6)).block, (la.add (k * 6)).off + 3, none⟩ = some (.int .i64 x.2.n) ∧ wr.cell? ⟨(la.add (k * 6)).block, (la.add (k * 6)).off + 4, none⟩ = some (.slice x.2.A x.2.len x.2.cap) ∧ wr.cell? ⟨(la.add (k * 6)).block, (la.add (k * 6)).off + 5, none⟩ = some (.int .i64 x.2.what) from ⟨x0, x1, x2, x3, x4, x5⟩)
        have HW := Lib.hid (rwrite_any x.1.lk _ wr hlk0.2.2.1 (hlk0.mono hbr (DepEq.below hbr)).at)
        have HNIL := Lib.hid (show qs = [] from List.eq_nil_of_length_eq_zero (hql.trans hk0))
        have HK0 := Lib.hid hk0
        clear hk0
        clear hsn hqs hql hlk0 hbr hown hqe hx x5


        go_wp2_with fail
        refine HW.out.mono ?_
        rintro e w1 ⟨rfl, hb1⟩
        have HB1 := Lib.hid hb1
        clear hb1 x0 x1 x2 x3 x4
        obtain ⟨tx, htx⟩ : ∃ tx, x.1.text = tx := ⟨_, rfl⟩
        have htx2 : (writeE x.1.lk).1 = tx := htx
        have HTX := Lib.hid htx
        rw [htx2]
        clear htx2 htx
        go_wp2_with fail
        go_loopw [7] (fun a wr => a = .int .i64 0 ∧ wr = w1) (fun _ _ => 0)
        case atStart => exact ⟨rfl, rfl⟩
        case round =>
          obtain ⟨rfl, rfl⟩ := hrel
          have HBQ := Lib.hid (HBR.out.trans (HB1.out.mono HBR.out.size))
          have HXQ := Lib.hid (show wr.cell? (la.add (k * 6)) = some (.int .i64 x.2.v) ∧ wr.cell? ⟨(la.add (k * 6)).block, (la.add (k * 6)).off + 1, none⟩ = some (.int .u8 x.2.kind) ∧ wr.cell? ⟨(la.add (k * 6)).block, (la.add (k * 6)).off + 2, none⟩ = some (.string x.2.term) ∧ wr.cell? ⟨(la.add (k * 6)).block, (la.add (k * 6)).off + 3, none⟩ = some (.int .i64 x.2.n) ∧ wr.cell? ⟨(la.add (k * 6)).block, (la.add (k * 6)).off + 4, none⟩ = some (.slice x.2.A x.2.len x.2.cap) ∧ wr.cell? ⟨(la.add (k * 6)).block, (la.add (k * 6)).off + 5, none⟩ = some (.int .i64 x.2.what) from ⟨cell_below HB1.out HXC0.out.1, cell_below HB1.out HXC0.out.2.1, cell_below HB1.out HXC0.out.2.2.1, cell_below HB1.out HXC0.out.2.2.2.1, cell_below HB1.out HXC0.out.2.2.2.2.1, cell_below HB1.out HXC0.out.2.2.2.2.2⟩)
          have HXC := Lib.hid (fun (V : World) (hb : Below wr.heap.size wr V) => (show V.cell? (la.add (k * 6)) = some (.int .i64 x.2.v) ∧ V.cell? ⟨(la.add (k * 6)).block, (la.add (k * 6)).off + 1, none⟩ = some (.int .u8 x.2.kind) ∧ V.cell? ⟨(la.add (k * 6)).block, (la.add (k * 6)).off + 2, none⟩ = some (.string x.2.term) ∧ V.cell? ⟨(la.add (k * 6)).block, (la.add (k * 6)).off + 3, none⟩ = some (.int .i64 x.2.n) ∧ V.cell? ⟨(la.add (k * 6)).block, (la.add (k * 6)).off + 4, none⟩ = some (.slice x.2.A x.2.len x.2.cap) ∧ V.cell? ⟨(la.add (k * 6)).block, (la.add (k * 6)).off + 5, none⟩ = some (.int .i64 x.2.what) from ⟨cell_below hb HXQ.out.1, cell_below hb HXQ.out.2.1, cell_below hb HXQ.out.2.2.1, cell_below hb HXQ.out.2.2.2.1, cell_below hb HXQ.out.2.2.2.2.1, cell_below hb HXQ.out.2.2.2.2.2⟩))
          have HINS := Lib.hid (show (ordL ltQ (ps.take (k + 1))).map Prod.snd = (qs.map Prod.snd).take 0 ++ x.2 :: (qs.map Prod.snd).drop 0 by
            rw [HSN.out, insL_at qs 0 (Nat.zero_le _) (fun j hj h => absurd h (Nat.not_lt_zero j)) (fun h => by rw [HNIL.out] at h; cases h), List.map_append, List.map_cons, List.map_take, List.map_drop])
          have HTAK := Lib.hid (show Cells wr none (((qs.map Prod.snd).take 0).flatMap encD) from Cells.nil _ _)
          have HDRP := Lib.hid (fun (V : World) (_ : Below wr.heap.size wr V) => (show Cells V none (((qs.map Prod.snd).drop 0).flatMap encD) by
            rw [HNIL.out]; exact Cells.nil _ _))
          have tok1 : True := trivial
          have tok2 : True := trivial
          have tok3 : True := trivial
          have H0 := Lib.hid (World.ownsRow_nil wr wr.heap.size 87 6)
          have hlk : ((qs.map Prod.snd).take 0).length = 0 := by rw [List.length_take, List.length_map]; have := HQL.out; omega
          have hld : ((qs.map Prod.snd).drop 0).length = 0 := by rw [List.length_drop, List.length_map]; have := HQL.out; have := HK0.out; omega
          have HTL := Lib.hid (show (((qs.map Prod.snd).take 0).flatMap encD).length = 0 * 6 by rw [fm_len encD 6 encD_len, hlk])
          have HDL := Lib.hid (show (((qs.map Prod.snd).drop 0).flatMap encD).length = 0 * 6 by rw [fm_len encD 6 encD_len, hld])
          have HTK := Lib.hid (show Cells wr none (((qs.map Prod.snd).take 0).flatMap encD) from HTAK.out)
          have hn1 : (0 + 0) * 72 ≤ 140737488355328 := by omega
          have hn2 : 0 + 0 ≤ 140737488355328 := by omega
          have hn3 : (0 + 1) * 72 ≤ 140737488355328 := by omega
          have hn4 : 0 + 1 ≤ 140737488355328 := by omega
          have hn5 : (0 + 1 + 0) * 72 ≤ 140737488355328 := by omega
          have hn6 : 0 + 1 + 0 ≤ 140737488355328 := by omega
          have HN1 := Lib.hid hn1
          have HN2 := Lib.hid hn2
          have HN3 := Lib.hid hn3
          have HN4 := Lib.hid hn4
          have HN5 := Lib.hid hn5
          have HN6 := Lib.hid hn6
          clear hn1 hn2 hn3 hn4 hn5 hn6 hlk hld
          go_wp2_with (first
            | (at_builtin; have _t := tok1; go_must (refine wpList_appk slD rfl _ _ rfl wr.heap.size _ 0 [] rfl H0.out none 0 0 (((qs.map Prod.snd).take 0).flatMap encD) rfl HTL.out HTK.out (fm_one encD encD_one _) HN1.out HN2.out (Nat.le_refl _) ?_); intro v1 u1 hown1 hg1 hb1 hat1; rw [Nat.zero_add, List.nil_append] at hown1; obtain ⟨A1, c1', hv1, -, -⟩ := own_shape hown1; subst hv1; obtain ⟨z0, z1, z2, z3, z4, z5⟩ := HXC.out u1 hb1; have HO1 := Lib.hid (World.ownsRow.alloc hown1 (.cells #[.int .i64 x.2.v, .int .u8 x.2.kind, .string x.2.term, .int .i64 x.2.n, .slice x.2.A x.2.len x.2.cap, .int .i64 x.2.what] 87)); have HB1 := Lib.hid hb1; have hsz1 := hb1.size; clear tok1 _t hown1 hg1 hb1 hat1)
            | (at_builtin; have _t := tok2; clear tok1; fail)
            | (at_builtin; have _t := tok2; go_must (refine wpList_appk slD rfl _ _ rfl wr.heap.size _ 0 (((qs.map Prod.snd).take 0).flatMap encD) rfl HO1.out (some ⟨u1.heap.size, 0, none⟩) 1 1 (encD x.2) rfl rfl (fun _ => ⟨_, rfl, fun j u hj => World.news_of_block (Go.heap_alloc_new u1 _) j u hj⟩) (encD_one _) HN3.out HN4.out (by simp; omega) ?_); intro v2 u2 hown2 hg2 hb2 hat2; obtain ⟨A2, c2', hv2, -, -⟩ := own_shape hown2; subst hv2; have HO2 := Lib.hid hown2; have hbb2 := (HB1.out.alloc HB1.out.size (.cells #[.int .i64 x.2.v, .int .u8 x.2.kind, .string x.2.term, .int .i64 x.2.n, .slice x.2.A x.2.len x.2.cap, .int .i64 x.2.what] 87)).trans hb2; have HB2 := Lib.hid hbb2; have HSZ2 := Lib.hid hbb2.size; have HDR := Lib.hid (HDRP.out u2 hbb2); clear tok2 _t hown2 hg2 hb2 hat2 hbb2)
            | (at_builtin; have _t := tok3; go_must (refine wpList_appk slD rfl _ _ rfl wr.heap.size _ (0 + 1) (((qs.map Prod.snd).take 0).flatMap encD ++ encD x.2) rfl HO2.out none 0 0 (((qs.map Prod.snd).drop 0).flatMap encD) rfl HDL.out HDR.out (fm_one encD encD_one _) HN5.out HN6.out HSZ2.out ?_); intro v3 u3 hown3 hg3 hb3 hat3; have HO3 := Lib.hid hown3; have hbb3 := HB2.out.trans hb3; have HB3 := Lib.hid hbb3; clear tok3 _t hown3 hg3 hb3 hat3 hbb3))
          have hend : u3.ownsRow w.heap.size 87 6 v3 (k + 1) (((ordL ltQ (ps.take (k + 1))).map Prod.snd).flatMap encD) := by
            rw [HINS.out]
            have h3 := own_base HO3.out (show w.heap.size ≤ wr.heap.size from HBQ.out.size)
            rw [show 0 + 1 + 0 = k + 1 by have := HK0.out; omega] at h3
            simpa [List.flatMap_append, List.append_assoc] using h3
          have HEND := Lib.hid hend
          have HBE := Lib.hid (HBQ.out.trans (HB3.out.mono HBQ.out.size))
          clear hend
          go_roundw
          case rel => exact ⟨k + 1, v3, rfl, by omega, by go_num, HBE.out, HEND.out⟩
          case measure => simp [intOf]; omega
      · have hlt2 : k < (ps.map Prod.snd).length := by rw [List.length_map]; exact hlt
        obtain ⟨la, rfl, x0, x1, x2, x3, x4, x5⟩ := line_at (HC.out.below hbr) hlt2
        have hlk0 := HPS.out ps[k] (List.getElem_mem hlt)
        have hsn : ordL ltQ (ps.take (k + 1)) = insL ltQ ps[k] (ordL ltQ (ps.take k)) := by rw [List.take_succ_eq_append_getElem hlt, ordL_snoc]
        rw [List.getElem_map] at x0 x1 x2 x3 x4 x5
        have hqs : ∀ q ∈ ordL ltQ (ps.take k), LineK w.heap.size w q := fun q hq => HPS.out q (List.mem_of_mem_take ((ordL_mem ltQ _ q).1 hq))
        have hql : (ordL ltQ (ps.take k)).length = k := by rw [ordL_len, List.length_take]; omega
        obtain ⟨qs, hqe⟩ : ∃ qs, ordL ltQ (ps.take k) = qs := ⟨_, rfl⟩
        rw [hqe] at hsn hqs hql hown
        obtain ⟨x, hx⟩ : ∃ x, ps[k] = x := ⟨_, rfl⟩
        rw [hx] at x0 x1 x2 x3 x4 x5 hlk0 hsn
        have HSN := Lib.hid hsn
        have HQS := Lib.hid hqs
        have HQL := Lib.hid hql
        have HXK := Lib.hid hlk0
        have HBR := Lib.hid hbr
        have HXC0 := Lib.hid (show wr.cell? (la.add (k * 6)) = some (.int .i64 x.2.v) ∧ wr.cell? ⟨(la.add (k * 6)).block, (la.add (k * 6)).off + 1, none⟩ = some (.int .u8 x.2.kind) ∧ wr.cell? ⟨(la.add (k * 6)).block, (la.add (k * 6)).off + 2, none⟩ = some (.string x.2.term) ∧ wr.cell? ⟨(la.add (k * 6)).block, (la.add (k * 6)).off + 3, none⟩ = some (.int .i64 x.2.n) ∧ wr.cell? ⟨(la.add (k * 6)).block, (la.add (k * 6)).off + 4, none⟩ = some (.slice x.2.A x.2.len x.2.cap) ∧ wr.cell? ⟨(la.add (k * 6)).block, (la.add (k * 6)).off + 5, none⟩ = some (.int .i64 x.2.what) from ⟨x0, x1, x2, x3, x4, x5⟩)
        have HW := Lib.hid (rwrite_any x.1.lk _ wr hlk0.2.2.1 (hlk0.mono hbr (DepEq.below hbr)).at)
        obtain ⟨ad, had⟩ : ∃ ad : Addr, (⟨g, 0, none⟩ : Addr) = ad := ⟨_, rfl⟩
        rw [had] at hown
        have HCO := Lib.hid (show Cells wr (some ad) ((qs.map Prod.snd).flatMap encD) from cells_of_own hown)
        have hkc0 := hkc
        clear hsn hqs hql hlk0 hbr hown hqe hx x5
        rw [had]
        clear had
        go_wp2_with fail
        refine HW.out.mono ?_
        rintro e w1 ⟨rfl, hb1⟩
        have HB1 := Lib.hid hb1
        clear hb1 x0 x1 x2 x3 x4
        obtain ⟨tx, htx⟩ : ∃ tx, x.1.text = tx := ⟨_, rfl⟩
        have htx2 : (writeE x.1.lk).1 = tx := htx
        have HTX := Lib.hid htx
        rw [htx2]
        clear htx2 htx
        go_wp2_with fail
        go_loopw [7] (fun a wr => ∃ m : Nat, m ≤ k ∧ a = .int .i64 (m : Int) ∧ Below w1.heap.size w1 wr ∧ ∀ j (hj : j < qs.length), j < m → ltQ x qs[j] = false) (fun a _ => k - (intOf a).toNat)
        case atStart => exact ⟨0, Nat.zero_le _, rfl, Below.refl _ _, fun j _ h => absurd h (Nat.not_lt_zero j)⟩
        case round =>
          obtain ⟨m, hm, rfl, hbq, hlow⟩ := hrel
          have HLOW := Lib.hid hlow
          have hbw := HB1.out.trans (hbq.mono HB1.out.size)
          have HBWR := Lib.hid hbw
          by_cases hmk : m < k
          · have hmq : m < qs.length := by rw [HQL.out]; exact hmk
            have hmr : m < (qs.map Prod.snd).length := by rw [List.length_map]; exact hmq
            obtain ⟨ad', he, y0, y1, y2, y3, y4, -⟩ := line_at (HCO.out.below hbw) hmr
            injection he with he
            subst he
            rw [List.getElem_map] at y0 y1 y2 y3 y4
            have hyk := HQS.out qs[m] (List.getElem_mem hmq)
            have hlow2 : ltQ x qs[m] = false → ∀ j (hj : j < qs.length), j < m + 1 → ltQ x qs[j] = false := fun h j hj hjm => by
              rcases Nat.lt_or_ge j m with h2 | h2
              · exact HLOW.out j hj h2
              · obtain rfl : j = m := by omega
                exact h
            have hup2 : ltQ x qs[m] = true → ∀ hk : m < qs.length, ltQ x qs[m] = true := fun h _ => h
            obtain ⟨y, hy⟩ : ∃ y, qs[m] = y := ⟨_, rfl⟩
            rw [hy] at y0 y1 y2 y3 y4 hyk hlow2 hup2
            have hv := ltQ_val HXK.out.1 hyk.1
            have HWY := Lib.hid (rwrite_any y.1.lk _ wr hyk.2.2.1 (hyk.mono (HBR.out.trans (hbw.mono HBR.out.size)) (DepEq.below (HBR.out.trans (hbw.mono HBR.out.size)))).at)
            obtain ⟨ty, hty⟩ : ∃ ty, y.1.text = ty := ⟨_, rfl⟩
            have hty2 : (writeE y.1.lk).1 = ty := hty
            rw [HTX.out, hty] at hv
            have HV := Lib.hid hv
            have HLOW2 := Lib.hid hlow2
            have HUP2 := Lib.hid hup2
            clear hyk hlow2 hup2 hv hlow
            go_wp2_with fail
            refine HWY.out.mono ?_
            rintro e w2 ⟨rfl, hb2⟩
            rw [hty2]
            have r0 := cell_below hb2 y0
            have s0 := cell_below (hbw.trans (hb2.mono hbw.size)) HXC0.out.1
            have HB2 := Lib.hid hb2
            clear hb2 hty hty2 y0 y1 y2 y3 y4 hy
            have HBQ2 := Lib.hid (HBR.out.trans ((hbw.trans (HB2.out.mono hbw.size)).mono HBR.out.size))
            have HBW2 := Lib.hid (hbw.trans (HB2.out.mono hbw.size))
            have HB12 := Lib.hid (hbq.trans (HB2.out.mono hbq.size))
            clear hbw hbq
            go_upto_region 9 with fail
            cases c1 : decide (x.2.v < y.2.v) with
            | true =>
              have HUP3 := Lib.hid (HUP2.out (by rw [HV.out, c1]; rfl))
              go_quiet (fail)
              generalize hwz : w2.drewN nq = wz
              have hbz : Below w2.heap.size w2 wz := hwz ▸ below_drewN (Below.refl _ _) _
              have HBQ := Lib.hid (HBQ2.out.trans (hbz.mono HBQ2.out.size))
              have hbwz := HBW2.out.trans (hbz.mono HBW2.out.size)
              have HXQ := Lib.hid (show wz.cell? (la.add (k * 6)) = some (.int .i64 x.2.v) ∧ wz.cell? ⟨(la.add (k * 6)).block, (la.add (k * 6)).off + 1, none⟩ = some (.int .u8 x.2.kind) ∧ wz.cell? ⟨(la.add (k * 6)).block, (la.add (k * 6)).off + 2, none⟩ = some (.string x.2.term) ∧ wz.cell? ⟨(la.add (k * 6)).block, (la.add (k * 6)).off + 3, none⟩ = some (.int .i64 x.2.n) ∧ wz.cell? ⟨(la.add (k * 6)).block, (la.add (k * 6)).off + 4, none⟩ = some (.slice x.2.A x.2.len x.2.cap) ∧ wz.cell? ⟨(la.add (k * 6)).block, (la.add (k * 6)).off + 5, none⟩ = some (.int .i64 x.2.what) from ⟨cell_below hbwz HXC0.out.1, cell_below hbwz HXC0.out.2.1, cell_below hbwz HXC0.out.2.2.1, cell_below hbwz HXC0.out.2.2.2.1, cell_below hbwz HXC0.out.2.2.2.2.1, cell_below hbwz HXC0.out.2.2.2.2.2⟩)
              have HOQ := Lib.hid (HCO.out.below hbwz)
              clear hbz hbwz hwz r0 s0
              have HXC := Lib.hid (fun (V : World) (hb : Below wz.heap.size wz V) => (show V.cell? (la.add (k * 6)) = some (.int .i64 x.2.v) ∧ V.cell? ⟨(la.add (k * 6)).block, (la.add (k * 6)).off + 1, none⟩ = some (.int .u8 x.2.kind) ∧ V.cell? ⟨(la.add (k * 6)).block, (la.add (k * 6)).off + 2, none⟩ = some (.string x.2.term) ∧ V.cell? ⟨(la.add (k * 6)).block, (la.add (k * 6)).off + 3, none⟩ = some (.int .i64 x.2.n) ∧ V.cell? ⟨(la.add (k * 6)).block, (la.add (k * 6)).off + 4, none⟩ = some (.slice x.2.A x.2.len x.2.cap) ∧ V.cell? ⟨(la.add (k * 6)).block, (la.add (k * 6)).off + 5, none⟩ = some (.int .i64 x.2.what) from ⟨cell_below hb HXQ.out.1, cell_below hb HXQ.out.2.1, cell_below hb HXQ.out.2.2.1, cell_below hb HXQ.out.2.2.2.1, cell_below hb HXQ.out.2.2.2.2.1, cell_below hb HXQ.out.2.2.2.2.2⟩))
              have HINS := Lib.hid (show (ordL ltQ (ps.take (k + 1))).map Prod.snd = (qs.map Prod.snd).take m ++ x.2 :: (qs.map Prod.snd).drop m by
                rw [HSN.out, insL_at qs m (by have := HQL.out; omega) HLOW.out HUP3.out, List.map_append, List.map_cons, List.map_take, List.map_drop])
              have HTAK := Lib.hid (show Cells wz (some ad) (((qs.map Prod.snd).take m).flatMap encD) from fm_ctake encD HOQ.out m)
              have HDRP := Lib.hid (fun (V : World) (hb : Below wz.heap.size wz V) => fm_cdrop encD 6 encD_len (HOQ.out.below hb) m (by rw [List.length_map]; have := HQL.out; omega))
              have tok1 : True := trivial
              have tok2 : True := trivial
              have tok3 : True := trivial
              have H0 := Lib.hid (World.ownsRow_nil wz wz.heap.size 87 6)
              have hlk : ((qs.map Prod.snd).take m).length = m := by rw [List.length_take, List.length_map]; have := HQL.out; omega
              have hld : ((qs.map Prod.snd).drop m).length = (k - m) := by rw [List.length_drop, List.length_map]; have := HQL.out; omega
              have HTL := Lib.hid (show (((qs.map Prod.snd).take m).flatMap encD).length = m * 6 by rw [fm_len encD 6 encD_len, hlk])
              have HDL := Lib.hid (show (((qs.map Prod.snd).drop m).flatMap encD).length = (k - m) * 6 by rw [fm_len encD 6 encD_len, hld])
              have HTK := Lib.hid (show Cells wz (some ad) (((qs.map Prod.snd).take m).flatMap encD) from HTAK.out)
              have hn1 : (0 + m) * 72 ≤ 140737488355328 := by omega
              have hn2 : 0 + m ≤ 140737488355328 := by omega
              have hn3 : (m + 1) * 72 ≤ 140737488355328 := by omega
              have hn4 : m + 1 ≤ 140737488355328 := by omega
              have hn5 : (m + 1 + (k - m)) * 72 ≤ 140737488355328 := by omega
              have hn6 : m + 1 + (k - m) ≤ 140737488355328 := by omega
              have HN1 := Lib.hid hn1
              have HN2 := Lib.hid hn2
              have HN3 := Lib.hid hn3
              have HN4 := Lib.hid hn4
              have HN5 := Lib.hid hn5
              have HN6 := Lib.hid hn6
              clear hn1 hn2 hn3 hn4 hn5 hn6 hlk hld
              go_wp2_with (first
                | (at_builtin; have _t := tok1; go_must (refine wpList_appk slD rfl _ _ rfl wz.heap.size _ 0 [] rfl H0.out (some ad) m cb (((qs.map Prod.snd).take m).flatMap encD) rfl HTL.out HTK.out (fm_one encD encD_one _) HN1.out HN2.out (Nat.le_refl _) ?_); intro v1 u1 hown1 hg1 hb1 hat1; rw [Nat.zero_add, List.nil_append] at hown1; obtain ⟨A1, c1', hv1, -, -⟩ := own_shape hown1; subst hv1; obtain ⟨z0, z1, z2, z3, z4, z5⟩ := HXC.out u1 hb1; have HO1 := Lib.hid (World.ownsRow.alloc hown1 (.cells #[.int .i64 x.2.v, .int .u8 x.2.kind, .string x.2.term, .int .i64 x.2.n, .slice x.2.A x.2.len x.2.cap, .int .i64 x.2.what] 87)); have HB1 := Lib.hid hb1; have hsz1 := hb1.size; clear tok1 _t hown1 hg1 hb1 hat1)
                | (at_builtin; have _t := tok2; clear tok1; fail)
                | (at_builtin; have _t := tok2; go_must (refine wpList_appk slD rfl _ _ rfl wz.heap.size _ m (((qs.map Prod.snd).take m).flatMap encD) rfl HO1.out (some ⟨u1.heap.size, 0, none⟩) 1 1 (encD x.2) rfl rfl (fun _ => ⟨_, rfl, fun j u hj => World.news_of_block (Go.heap_alloc_new u1 _) j u hj⟩) (encD_one _) HN3.out HN4.out (by simp; omega) ?_); intro v2 u2 hown2 hg2 hb2 hat2; obtain ⟨A2, c2', hv2, -, -⟩ := own_shape hown2; subst hv2; have HO2 := Lib.hid hown2; have hbb2 := (HB1.out.alloc HB1.out.size (.cells #[.int .i64 x.2.v, .int .u8 x.2.kind, .string x.2.term, .int .i64 x.2.n, .slice x.2.A x.2.len x.2.cap, .int .i64 x.2.what] 87)).trans hb2; have HB2 := Lib.hid hbb2; have HSZ2 := Lib.hid hbb2.size; have HDR := Lib.hid (HDRP.out u2 hbb2); clear tok2 _t hown2 hg2 hb2 hat2 hbb2)
                | (at_builtin; have _t := tok3; go_must (refine wpList_appk slD rfl _ _ rfl wz.heap.size _ (m + 1) (((qs.map Prod.snd).take m).flatMap encD ++ encD x.2) rfl HO2.out (some (ad.add (m * 6))) (k - m) (cb - m) (((qs.map Prod.snd).drop m).flatMap encD) rfl HDL.out HDR.out (fm_one encD encD_one _) HN5.out HN6.out HSZ2.out ?_); intro v3 u3 hown3 hg3 hb3 hat3; have HO3 := Lib.hid hown3; have hbb3 := HB2.out.trans hb3; have HB3 := Lib.hid hbb3; clear tok3 _t hown3 hg3 hb3 hat3 hbb3))
              have hend : u3.ownsRow w.heap.size 87 6 v3 (k + 1) (((ordL ltQ (ps.take (k + 1))).map Prod.snd).flatMap encD) := by
                rw [HINS.out]
                have h3 := own_base HO3.out (show w.heap.size ≤ wz.heap.size from HBQ.out.size)
                rw [show m + 1 + (k - m) = k + 1 by omega] at h3
                simpa [List.flatMap_append, List.append_assoc] using h3
              have HEND := Lib.hid hend
              have HBE := Lib.hid (HBQ.out.trans (HB3.out.mono HBQ.out.size))
              clear hend
              go_roundw
              case rel => exact ⟨k + 1, v3, rfl, by omega, by go_num, HBE.out, HEND.out⟩
              case measure => simp [intOf]; omega
            | false =>
              by_cases c2 : x.2.v = y.2.v
              · by_cases c3 : tx.data.toList < ty.data.toList
                · have C3 := Lib.hid (show decide (tx.data.toList < ty.data.toList) = true from decide_eq_true c3)
                  rw [← c2] at r0
                  have C2 := Lib.hid (show decide (x.2.v = y.2.v) = true from decide_eq_true c2)
                  have C1 := Lib.hid c1
                  clear c1 c2
                  have c1b : decide (x.2.v < x.2.v) = false := by simp
                  obtain ⟨c4, c5⟩ := str_lt c3
                  have HUP3 := Lib.hid (HUP2.out (by rw [HV.out, C1.out, C2.out, C3.out]; rfl))
                  go_quiet (fail)
                  generalize hwz : w2.drewN nq = wz
                  have hbz : Below w2.heap.size w2 wz := hwz ▸ below_drewN (Below.refl _ _) _
                  have HBQ := Lib.hid (HBQ2.out.trans (hbz.mono HBQ2.out.size))
                  have hbwz := HBW2.out.trans (hbz.mono HBW2.out.size)
                  have HXQ := Lib.hid (show wz.cell? (la.add (k * 6)) = some (.int .i64 x.2.v) ∧ wz.cell? ⟨(la.add (k * 6)).block, (la.add (k * 6)).off + 1, none⟩ = some (.int .u8 x.2.kind) ∧ wz.cell? ⟨(la.add (k * 6)).block, (la.add (k * 6)).off + 2, none⟩ = some (.string x.2.term) ∧ wz.cell? ⟨(la.add (k * 6)).block, (la.add (k * 6)).off + 3, none⟩ = some (.int .i64 x.2.n) ∧ wz.cell? ⟨(la.add (k * 6)).block, (la.add (k * 6)).off + 4, none⟩ = some (.slice x.2.A x.2.len x.2.cap) ∧ wz.cell? ⟨(la.add (k * 6)).block, (la.add (k * 6)).off + 5, none⟩ = some (.int .i64 x.2.what) from ⟨cell_below hbwz HXC0.out.1, cell_below hbwz HXC0.out.2.1, cell_below hbwz HXC0.out.2.2.1, cell_below hbwz HXC0.out.2.2.2.1, cell_below hbwz HXC0.out.2.2.2.2.1, cell_below hbwz HXC0.out.2.2.2.2.2⟩)
                  have HOQ := Lib.hid (HCO.out.below hbwz)
                  clear hbz hbwz hwz r0 s0
                  have HXC := Lib.hid (fun (V : World) (hb : Below wz.heap.size wz V) => (show V.cell? (la.add (k * 6)) = some (.int .i64 x.2.v) ∧ V.cell? ⟨(la.add (k * 6)).block, (la.add (k * 6)).off + 1, none⟩ = some (.int .u8 x.2.kind) ∧ V.cell? ⟨(la.add (k * 6)).block, (la.add (k * 6)).off + 2, none⟩ = some (.string x.2.term) ∧ V.cell? ⟨(la.add (k * 6)).block, (la.add (k * 6)).off + 3, none⟩ = some (.int .i64 x.2.n) ∧ V.cell? ⟨(la.add (k * 6)).block, (la.add (k * 6)).off + 4, none⟩ = some (.slice x.2.A x.2.len x.2.cap) ∧ V.cell? ⟨(la.add (k * 6)).block, (la.add (k * 6)).off + 5, none⟩ = some (.int .i64 x.2.what) from ⟨cell_below hb HXQ.out.1, cell_below hb HXQ.out.2.1, cell_below hb HXQ.out.2.2.1, cell_below hb HXQ.out.2.2.2.1, cell_below hb HXQ.out.2.2.2.2.1, cell_below hb HXQ.out.2.2.2.2.2⟩))
                  have HINS := Lib.hid (show (ordL ltQ (ps.take (k + 1))).map Prod.snd = (qs.map Prod.snd).take m ++ x.2 :: (qs.map Prod.snd).drop m by
                    rw [HSN.out, insL_at qs m (by have := HQL.out; omega) HLOW.out HUP3.out, List.map_append, List.map_cons, List.map_take, List.map_drop])
                  have HTAK := Lib.hid (show Cells wz (some ad) (((qs.map Prod.snd).take m).flatMap encD) from fm_ctake encD HOQ.out m)
                  have HDRP := Lib.hid (fun (V : World) (hb : Below wz.heap.size wz V) => fm_cdrop encD 6 encD_len (HOQ.out.below hb) m (by rw [List.length_map]; have := HQL.out; omega))
                  have tok1 : True := trivial
                  have tok2 : True := trivial
                  have tok3 : True := trivial
                  have H0 := Lib.hid (World.ownsRow_nil wz wz.heap.size 87 6)
                  have hlk : ((qs.map Prod.snd).take m).length = m := by rw [List.length_take, List.length_map]; have := HQL.out; omega
                  have hld : ((qs.map Prod.snd).drop m).length = (k - m) := by rw [List.length_drop, List.length_map]; have := HQL.out; omega
                  have HTL := Lib.hid (show (((qs.map Prod.snd).take m).flatMap encD).length = m * 6 by rw [fm_len encD 6 encD_len, hlk])
                  have HDL := Lib.hid (show (((qs.map Prod.snd).drop m).flatMap encD).length = (k - m) * 6 by rw [fm_len encD 6 encD_len, hld])
                  have HTK := Lib.hid (show Cells wz (some ad) (((qs.map Prod.snd).take m).flatMap encD) from HTAK.out)
                  have hn1 : (0 + m) * 72 ≤ 140737488355328 := by omega
                  have hn2 : 0 + m ≤ 140737488355328 := by omega
                  have hn3 : (m + 1) * 72 ≤ 140737488355328 := by omega
                  have hn4 : m + 1 ≤ 140737488355328 := by omega
                  have hn5 : (m + 1 + (k - m)) * 72 ≤ 140737488355328 := by omega
                  have hn6 : m + 1 + (k - m) ≤ 140737488355328 := by omega
                  have HN1 := Lib.hid hn1
                  have HN2 := Lib.hid hn2
                  have HN3 := Lib.hid hn3
                  have HN4 := Lib.hid hn4
                  have HN5 := Lib.hid hn5
                  have HN6 := Lib.hid hn6
                  clear hn1 hn2 hn3 hn4 hn5 hn6 hlk hld
                  go_wp2_with (first
                    | (at_builtin; have _t := tok1; go_must (refine wpList_appk slD rfl _ _ rfl wz.heap.size _ 0 [] rfl H0.out (some ad) m cb (((qs.map Prod.snd).take m).flatMap encD) rfl HTL.out HTK.out (fm_one encD encD_one _) HN1.out HN2.out (Nat.le_refl _) ?_); intro v1 u1 hown1 hg1 hb1 hat1; rw [Nat.zero_add, List.nil_append] at hown1; obtain ⟨A1, c1', hv1, -, -⟩ := own_shape hown1; subst hv1; obtain ⟨z0, z1, z2, z3, z4, z5⟩ := HXC.out u1 hb1; have HO1 := Lib.hid (World.ownsRow.alloc hown1 (.cells #[.int .i64 x.2.v, .int .u8 x.2.kind, .string x.2.term, .int .i64 x.2.n, .slice x.2.A x.2.len x.2.cap, .int .i64 x.2.what] 87)); have HB1 := Lib.hid hb1; have hsz1 := hb1.size; clear tok1 _t hown1 hg1 hb1 hat1)
                    | (at_builtin; have _t := tok2; clear tok1; fail)
                    | (at_builtin; have _t := tok2; go_must (refine wpList_appk slD rfl _ _ rfl wz.heap.size _ m (((qs.map Prod.snd).take m).flatMap encD) rfl HO1.out (some ⟨u1.heap.size, 0, none⟩) 1 1 (encD x.2) rfl rfl (fun _ => ⟨_, rfl, fun j u hj => World.news_of_block (Go.heap_alloc_new u1 _) j u hj⟩) (encD_one _) HN3.out HN4.out (by simp; omega) ?_); intro v2 u2 hown2 hg2 hb2 hat2; obtain ⟨A2, c2', hv2, -, -⟩ := own_shape hown2; subst hv2; have HO2 := Lib.hid hown2; have hbb2 := (HB1.out.alloc HB1.out.size (.cells #[.int .i64 x.2.v, .int .u8 x.2.kind, .string x.2.term, .int .i64 x.2.n, .slice x.2.A x.2.len x.2.cap, .int .i64 x.2.what] 87)).trans hb2; have HB2 := Lib.hid hbb2; have HSZ2 := Lib.hid hbb2.size; have HDR := Lib.hid (HDRP.out u2 hbb2); clear tok2 _t hown2 hg2 hb2 hat2 hbb2)
                    | (at_builtin; have _t := tok3; go_must (refine wpList_appk slD rfl _ _ rfl wz.heap.size _ (m + 1) (((qs.map Prod.snd).take m).flatMap encD ++ encD x.2) rfl HO2.out (some (ad.add (m * 6))) (k - m) (cb - m) (((qs.map Prod.snd).drop m).flatMap encD) rfl HDL.out HDR.out (fm_one encD encD_one _) HN5.out HN6.out HSZ2.out ?_); intro v3 u3 hown3 hg3 hb3 hat3; have HO3 := Lib.hid hown3; have hbb3 := HB2.out.trans hb3; have HB3 := Lib.hid hbb3; clear tok3 _t hown3 hg3 hb3 hat3 hbb3))
                  have hend : u3.ownsRow w.heap.size 87 6 v3 (k + 1) (((ordL ltQ (ps.take (k + 1))).map Prod.snd).flatMap encD) := by
                    rw [HINS.out]
                    have h3 := own_base HO3.out (show w.heap.size ≤ wz.heap.size from HBQ.out.size)
                    rw [show m + 1 + (k - m) = k + 1 by omega] at h3
                    simpa [List.flatMap_append, List.append_assoc] using h3
                  have HEND := Lib.hid hend
                  have HBE := Lib.hid (HBQ.out.trans (HB3.out.mono HBQ.out.size))
                  clear hend
                  go_roundw
                  case rel => exact ⟨k + 1, v3, rfl, by omega, by go_num, HBE.out, HEND.out⟩
                  case measure => simp [intOf]; omega
                · have C3 := Lib.hid (show decide (tx.data.toList < ty.data.toList) = false from decide_eq_false c3)
                  rcases str_nlt c3 with c4 | c4
                  · rw [← c2] at r0
                    have C2 := Lib.hid (show decide (x.2.v = y.2.v) = true from decide_eq_true c2)
                    have C1 := Lib.hid c1
                    clear c1 c2
                    have c1b : decide (x.2.v < x.2.v) = false := by simp
                    go_quiet (fail)
                    go_wp2_with fail
                    go_roundw
                    case rel => exact ⟨m + 1, by omega, by go_num, below_drewN HB12.out _, HLOW2.out (by rw [HV.out, C1.out, C2.out, C3.out]; rfl)⟩
                    case measure => simp [intOf]; omega
                  · rw [← c2] at r0
                    have C2 := Lib.hid (show decide (x.2.v = y.2.v) = true from decide_eq_true c2)
                    have C1 := Lib.hid c1
                    clear c1 c2
                    have c1b : decide (x.2.v < x.2.v) = false := by simp
                    go_quiet (fail)
                    go_wp2_with fail
                    go_roundw
                    case rel => exact ⟨m + 1, by omega, by go_num, below_drewN HB12.out _, HLOW2.out (by rw [HV.out, C1.out, C2.out, C3.out]; rfl)⟩
                    case measure => simp [intOf]; omega
              · have c2b : (y.2.v == x.2.v) = false := beq_false_of_ne (fun e => c2 e.symm)
                have c2d : decide (x.2.v = y.2.v) = false := decide_eq_false c2
                go_quiet (fail)
                go_wp2_with fail
                go_roundw
                case rel => exact ⟨m + 1, by omega, by go_num, below_drewN HB12.out _, HLOW2.out (by rw [HV.out, c1, c2d]; rfl)⟩
                case measure => simp [intOf]; omega
          · have hmk2 : k = m := by omega
            subst hmk2
            by_cases hcm : k = cb
            · subst hcm
              have HBQ := Lib.hid (HBR.out.trans (hbw.mono HBR.out.size))
              have HXQ := Lib.hid (show wr.cell? (la.add (k * 6)) = some (.int .i64 x.2.v) ∧ wr.cell? ⟨(la.add (k * 6)).block, (la.add (k * 6)).off + 1, none⟩ = some (.int .u8 x.2.kind) ∧ wr.cell? ⟨(la.add (k * 6)).block, (la.add (k * 6)).off + 2, none⟩ = some (.string x.2.term) ∧ wr.cell? ⟨(la.add (k * 6)).block, (la.add (k * 6)).off + 3, none⟩ = some (.int .i64 x.2.n) ∧ wr.cell? ⟨(la.add (k * 6)).block, (la.add (k * 6)).off + 4, none⟩ = some (.slice x.2.A x.2.len x.2.cap) ∧ wr.cell? ⟨(la.add (k * 6)).block, (la.add (k * 6)).off + 5, none⟩ = some (.int .i64 x.2.what) from ⟨cell_below hbw HXC0.out.1, cell_below hbw HXC0.out.2.1, cell_below hbw HXC0.out.2.2.1, cell_below hbw HXC0.out.2.2.2.1, cell_below hbw HXC0.out.2.2.2.2.1, cell_below hbw HXC0.out.2.2.2.2.2⟩)
              have HOQ := Lib.hid (HCO.out.below hbw)
              clear hbw hbq hlow
              have HXC := Lib.hid (fun (V : World) (hb : Below wr.heap.size wr V) => (show V.cell? (la.add (k * 6)) = some (.int .i64 x.2.v) ∧ V.cell? ⟨(la.add (k * 6)).block, (la.add (k * 6)).off + 1, none⟩ = some (.int .u8 x.2.kind) ∧ V.cell? ⟨(la.add (k * 6)).block, (la.add (k * 6)).off + 2, none⟩ = some (.string x.2.term) ∧ V.cell? ⟨(la.add (k * 6)).block, (la.add (k * 6)).off + 3, none⟩ = some (.int .i64 x.2.n) ∧ V.cell? ⟨(la.add (k * 6)).block, (la.add (k * 6)).off + 4, none⟩ = some (.slice x.2.A x.2.len x.2.cap) ∧ V.cell? ⟨(la.add (k * 6)).block, (la.add (k * 6)).off + 5, none⟩ = some (.int .i64 x.2.what) from ⟨cell_below hb HXQ.out.1, cell_below hb HXQ.out.2.1, cell_below hb HXQ.out.2.2.1, cell_below hb HXQ.out.2.2.2.1, cell_below hb HXQ.out.2.2.2.2.1, cell_below hb HXQ.out.2.2.2.2.2⟩))
              have HINS := Lib.hid (show (ordL ltQ (ps.take (k + 1))).map Prod.snd = (qs.map Prod.snd).take k ++ x.2 :: (qs.map Prod.snd).drop k by
                rw [HSN.out, insL_at qs k (by have := HQL.out; omega) HLOW.out (fun h => by have := HQL.out; omega), List.map_append, List.map_cons, List.map_take, List.map_drop])
              have HTAK := Lib.hid (show Cells wr (some ad) (((qs.map Prod.snd).take k).flatMap encD) from fm_ctake encD HOQ.out k)
              have HDRP := Lib.hid (fun (V : World) (_ : Below wr.heap.size wr V) => (show Cells V (some ad) (((qs.map Prod.snd).drop k).flatMap encD) by
                rw [List.drop_of_length_le (by rw [List.length_map]; have := HQL.out; omega)]; exact Cells.nil _ _))
              have tok1 : True := trivial
              have tok2 : True := trivial
              have tok3 : True := trivial
              have H0 := Lib.hid (World.ownsRow_nil wr wr.heap.size 87 6)
              have hlk : ((qs.map Prod.snd).take k).length = k := by rw [List.length_take, List.length_map]; have := HQL.out; omega
              have hld : ((qs.map Prod.snd).drop k).length = 0 := by rw [List.length_drop, List.length_map]; have := HQL.out; omega
              have HTL := Lib.hid (show (((qs.map Prod.snd).take k).flatMap encD).length = k * 6 by rw [fm_len encD 6 encD_len, hlk])
              have HDL := Lib.hid (show (((qs.map Prod.snd).drop k).flatMap encD).length = 0 * 6 by rw [fm_len encD 6 encD_len, hld])
              have HTK := Lib.hid (show Cells wr (some ad) (((qs.map Prod.snd).take k).flatMap encD) from HTAK.out)
              have hn1 : (0 + k) * 72 ≤ 140737488355328 := by omega
              have hn2 : 0 + k ≤ 140737488355328 := by omega
              have hn3 : (k + 1) * 72 ≤ 140737488355328 := by omega
              have hn4 : k + 1 ≤ 140737488355328 := by omega
              have hn5 : (k + 1 + 0) * 72 ≤ 140737488355328 := by omega
              have hn6 : k + 1 + 0 ≤ 140737488355328 := by omega
              have HN1 := Lib.hid hn1
              have HN2 := Lib.hid hn2
              have HN3 := Lib.hid hn3
              have HN4 := Lib.hid hn4
              have HN5 := Lib.hid hn5
              have HN6 := Lib.hid hn6
              clear hn1 hn2 hn3 hn4 hn5 hn6 hlk hld
              go_wp2_with (first
                | (at_builtin; have _t := tok1; go_must (refine wpList_appk slD rfl _ _ rfl wr.heap.size _ 0 [] rfl H0.out (some ad) k k (((qs.map Prod.snd).take k).flatMap encD) rfl HTL.out HTK.out (fm_one encD encD_one _) HN1.out HN2.out (Nat.le_refl _) ?_); intro v1 u1 hown1 hg1 hb1 hat1; rw [Nat.zero_add, List.nil_append] at hown1; obtain ⟨A1, c1', hv1, -, -⟩ := own_shape hown1; subst hv1; obtain ⟨z0, z1, z2, z3, z4, z5⟩ := HXC.out u1 hb1; have HO1 := Lib.hid (World.ownsRow.alloc hown1 (.cells #[.int .i64 x.2.v, .int .u8 x.2.kind, .string x.2.term, .int .i64 x.2.n, .slice x.2.A x.2.len x.2.cap, .int .i64 x.2.what] 87)); have HB1 := Lib.hid hb1; have hsz1 := hb1.size; clear tok1 _t hown1 hg1 hb1 hat1)
                | (at_builtin; have _t := tok2; clear tok1; fail)
                | (at_builtin; have _t := tok2; go_must (refine wpList_appk slD rfl _ _ rfl wr.heap.size _ k (((qs.map Prod.snd).take k).flatMap encD) rfl HO1.out (some ⟨u1.heap.size, 0, none⟩) 1 1 (encD x.2) rfl rfl (fun _ => ⟨_, rfl, fun j u hj => World.news_of_block (Go.heap_alloc_new u1 _) j u hj⟩) (encD_one _) HN3.out HN4.out (by simp; omega) ?_); intro v2 u2 hown2 hg2 hb2 hat2; obtain ⟨A2, c2', hv2, -, -⟩ := own_shape hown2; subst hv2; have HO2 := Lib.hid hown2; have hbb2 := (HB1.out.alloc HB1.out.size (.cells #[.int .i64 x.2.v, .int .u8 x.2.kind, .string x.2.term, .int .i64 x.2.n, .slice x.2.A x.2.len x.2.cap, .int .i64 x.2.what] 87)).trans hb2; have HB2 := Lib.hid hbb2; have HSZ2 := Lib.hid hbb2.size; have HDR := Lib.hid (HDRP.out u2 hbb2); clear tok2 _t hown2 hg2 hb2 hat2 hbb2)
                | (at_builtin; have _t := tok3; go_must (refine wpList_appk slD rfl _ _ rfl wr.heap.size _ (k + 1) (((qs.map Prod.snd).take k).flatMap encD ++ encD x.2) rfl HO2.out (some ad) 0 0 (((qs.map Prod.snd).drop k).flatMap encD) rfl HDL.out HDR.out (fm_one encD encD_one _) HN5.out HN6.out HSZ2.out ?_); intro v3 u3 hown3 hg3 hb3 hat3; have HO3 := Lib.hid hown3; have hbb3 := HB2.out.trans hb3; have HB3 := Lib.hid hbb3; clear tok3 _t hown3 hg3 hb3 hat3 hbb3))
              have hend : u3.ownsRow w.heap.size 87 6 v3 (k + 1) (((ordL ltQ (ps.take (k + 1))).map Prod.snd).flatMap encD) := by
                rw [HINS.out]
                have h3 := own_base HO3.out (show w.heap.size ≤ wr.heap.size from HBQ.out.size)
                rw [show k + 1 + 0 = k + 1 by omega] at h3
                simpa [List.flatMap_append, List.append_assoc] using h3
              have HEND := Lib.hid hend
              have HBE := Lib.hid (HBQ.out.trans (HB3.out.mono HBQ.out.size))
              clear hend
              go_roundw
              case rel => exact ⟨k + 1, v3, rfl, by omega, by go_num, HBE.out, HEND.out⟩
              case measure => simp [intOf]; omega
            · have HBQ := Lib.hid (HBR.out.trans (hbw.mono HBR.out.size))
              have HXQ := Lib.hid (show wr.cell? (la.add (k * 6)) = some (.int .i64 x.2.v) ∧ wr.cell? ⟨(la.add (k * 6)).block, (la.add (k * 6)).off + 1, none⟩ = some (.int .u8 x.2.kind) ∧ wr.cell? ⟨(la.add (k * 6)).block, (la.add (k * 6)).off + 2, none⟩ = some (.string x.2.term) ∧ wr.cell? ⟨(la.add (k * 6)).block, (la.add (k * 6)).off + 3, none⟩ = some (.int .i64 x.2.n) ∧ wr.cell? ⟨(la.add (k * 6)).block, (la.add (k * 6)).off + 4, none⟩ = some (.slice x.2.A x.2.len x.2.cap) ∧ wr.cell? ⟨(la.add (k * 6)).block, (la.add (k * 6)).off + 5, none⟩ = some (.int .i64 x.2.what) from ⟨cell_below hbw HXC0.out.1, cell_below hbw HXC0.out.2.1, cell_below hbw HXC0.out.2.2.1, cell_below hbw HXC0.out.2.2.2.1, cell_below hbw HXC0.out.2.2.2.2.1, cell_below hbw HXC0.out.2.2.2.2.2⟩)
              have HOQ := Lib.hid (HCO.out.below hbw)
              clear hbw hbq hlow
              have HXC := Lib.hid (fun (V : World) (hb : Below wr.heap.size wr V) => (show V.cell? (la.add (k * 6)) = some (.int .i64 x.2.v) ∧ V.cell? ⟨(la.add (k * 6)).block, (la.add (k * 6)).off + 1, none⟩ = some (.int .u8 x.2.kind) ∧ V.cell? ⟨(la.add (k * 6)).block, (la.add (k * 6)).off + 2, none⟩ = some (.string x.2.term) ∧ V.cell? ⟨(la.add (k * 6)).block, (la.add (k * 6)).off + 3, none⟩ = some (.int .i64 x.2.n) ∧ V.cell? ⟨(la.add (k * 6)).block, (la.add (k * 6)).off + 4, none⟩ = some (.slice x.2.A x.2.len x.2.cap) ∧ V.cell? ⟨(la.add (k * 6)).block, (la.add (k * 6)).off + 5, none⟩ = some (.int .i64 x.2.what) from ⟨cell_below hb HXQ.out.1, cell_below hb HXQ.out.2.1, cell_below hb HXQ.out.2.2.1, cell_below hb HXQ.out.2.2.2.1, cell_below hb HXQ.out.2.2.2.2.1, cell_below hb HXQ.out.2.2.2.2.2⟩))
              have HINS := Lib.hid (show (ordL ltQ (ps.take (k + 1))).map Prod.snd = (qs.map Prod.snd).take k ++ x.2 :: (qs.map Prod.snd).drop k by
                rw [HSN.out, insL_at qs k (by have := HQL.out; omega) HLOW.out (fun h => by have := HQL.out; omega), List.map_append, List.map_cons, List.map_take, List.map_drop])
              have HTAK := Lib.hid (show Cells wr (some ad) (((qs.map Prod.snd).take k).flatMap encD) from fm_ctake encD HOQ.out k)
              have HDRP := Lib.hid (fun (V : World) (hb : Below wr.heap.size wr V) => fm_cdrop encD 6 encD_len (HOQ.out.below hb) k (by rw [List.length_map]; have := HQL.out; omega))
              have tok1 : True := trivial
              have tok2 : True := trivial
              have tok3 : True := trivial
              have H0 := Lib.hid (World.ownsRow_nil wr wr.heap.size 87 6)
              have hlk : ((qs.map Prod.snd).take k).length = k := by rw [List.length_take, List.length_map]; have := HQL.out; omega
              have hld : ((qs.map Prod.snd).drop k).length = 0 := by rw [List.length_drop, List.length_map]; have := HQL.out; omega
              have HTL := Lib.hid (show (((qs.map Prod.snd).take k).flatMap encD).length = k * 6 by rw [fm_len encD 6 encD_len, hlk])
              have HDL := Lib.hid (show (((qs.map Prod.snd).drop k).flatMap encD).length = 0 * 6 by rw [fm_len encD 6 encD_len, hld])
              have HTK := Lib.hid (show Cells wr (some ad) (((qs.map Prod.snd).take k).flatMap encD) from HTAK.out)
              have hn1 : (0 + k) * 72 ≤ 140737488355328 := by omega
              have hn2 : 0 + k ≤ 140737488355328 := by omega
              have hn3 : (k + 1) * 72 ≤ 140737488355328 := by omega
              have hn4 : k + 1 ≤ 140737488355328 := by omega
              have hn5 : (k + 1 + 0) * 72 ≤ 140737488355328 := by omega
              have hn6 : k + 1 + 0 ≤ 140737488355328 := by omega
              have HN1 := Lib.hid hn1
              have HN2 := Lib.hid hn2
              have HN3 := Lib.hid hn3
              have HN4 := Lib.hid hn4
              have HN5 := Lib.hid hn5
              have HN6 := Lib.hid hn6
              clear hn1 hn2 hn3 hn4 hn5 hn6 hlk hld
              go_wp2_with (first
                | (at_builtin; have _t := tok1; go_must (refine wpList_appk slD rfl _ _ rfl wr.heap.size _ 0 [] rfl H0.out (some ad) k cb (((qs.map Prod.snd).take k).flatMap encD) rfl HTL.out HTK.out (fm_one encD encD_one _) HN1.out HN2.out (Nat.le_refl _) ?_); intro v1 u1 hown1 hg1 hb1 hat1; rw [Nat.zero_add, List.nil_append] at hown1; obtain ⟨A1, c1', hv1, -, -⟩ := own_shape hown1; subst hv1; obtain ⟨z0, z1, z2, z3, z4, z5⟩ := HXC.out u1 hb1; have HO1 := Lib.hid (World.ownsRow.alloc hown1 (.cells #[.int .i64 x.2.v, .int .u8 x.2.kind, .string x.2.term, .int .i64 x.2.n, .slice x.2.A x.2.len x.2.cap, .int .i64 x.2.what] 87)); have HB1 := Lib.hid hb1; have hsz1 := hb1.size; clear tok1 _t hown1 hg1 hb1 hat1)
                | (at_builtin; have _t := tok2; clear tok1; fail)
                | (at_builtin; have _t := tok2; go_must (refine wpList_appk slD rfl _ _ rfl wr.heap.size _ k (((qs.map Prod.snd).take k).flatMap encD) rfl HO1.out (some ⟨u1.heap.size, 0, none⟩) 1 1 (encD x.2) rfl rfl (fun _ => ⟨_, rfl, fun j u hj => World.news_of_block (Go.heap_alloc_new u1 _) j u hj⟩) (encD_one _) HN3.out HN4.out (by simp; omega) ?_); intro v2 u2 hown2 hg2 hb2 hat2; obtain ⟨A2, c2', hv2, -, -⟩ := own_shape hown2; subst hv2; have HO2 := Lib.hid hown2; have hbb2 := (HB1.out.alloc HB1.out.size (.cells #[.int .i64 x.2.v, .int .u8 x.2.kind, .string x.2.term, .int .i64 x.2.n, .slice x.2.A x.2.len x.2.cap, .int .i64 x.2.what] 87)).trans hb2; have HB2 := Lib.hid hbb2; have HSZ2 := Lib.hid hbb2.size; have HDR := Lib.hid (HDRP.out u2 hbb2); clear tok2 _t hown2 hg2 hb2 hat2 hbb2)
                | (at_builtin; have _t := tok3; go_must (refine wpList_appk slD rfl _ _ rfl wr.heap.size _ (k + 1) (((qs.map Prod.snd).take k).flatMap encD ++ encD x.2) rfl HO2.out (some (ad.add (k * 6))) 0 (cb - k) (((qs.map Prod.snd).drop k).flatMap encD) rfl HDL.out HDR.out (fm_one encD encD_one _) HN5.out HN6.out HSZ2.out ?_); intro v3 u3 hown3 hg3 hb3 hat3; have HO3 := Lib.hid hown3; have hbb3 := HB2.out.trans hb3; have HB3 := Lib.hid hbb3; clear tok3 _t hown3 hg3 hb3 hat3 hbb3))
              have hend : u3.ownsRow w.heap.size 87 6 v3 (k + 1) (((ordL ltQ (ps.take (k + 1))).map Prod.snd).flatMap encD) := by
                rw [HINS.out]
                have h3 := own_base HO3.out (show w.heap.size ≤ wr.heap.size from HBQ.out.size)
                rw [show k + 1 + 0 = k + 1 by omega] at h3
                simpa [List.flatMap_append, List.append_assoc] using h3
              have HEND := Lib.hid hend
              have HBE := Lib.hid (HBQ.out.trans (HB3.out.mono HBQ.out.size))
              clear hend
              go_roundw
              case rel => exact ⟨k + 1, v3, rfl, by omega, by go_num, HBE.out, HEND.out⟩
              case measure => simp [intOf]; omega
    · have hkn : k = ps.length := by omega
      subst hkn
      have hfin := hown
      rw [List.take_of_length_le (Nat.le_refl _)] at hfin
      have HF := Lib.hid hfin
      have HBR := Lib.hid hbr
      clear hfin hbr hown
      go_wp2_with fail
      go_ret
      exact ⟨_, rfl, HF.out, HBR.out⟩
end Go.Proofs.YtncniomiplnaaaaGreatDoor

namespace Go.Proofs.YtncniomiplnaaaaGreatDoor
open Go.RowKit

theorem add_block (a : Addr) (k : Nat) : (a.add k).block = a.block := by unfold Addr.add; split <;> rfl
theorem LineK.up {base : Nat} {w : World} {q : LineP × LineR} (h : LineK base w q) {B : Nat} (hb : base ≤ B) : LineK B w q := ⟨h.1, h.2.1, h.2.2.1, fun W h1 h2 => h.2.2.2 W (h1.mono hb) h2⟩
set_option maxRecDepth 100000 in
set_option maxHeartbeats 4000000 in
theorem rwhole_nil (tx : ByteArray) (pn tag : Int) (A : Option Addr) (cap : Nat) (w : World) :
    Calls Tryz.prog 45 #[.agg #[.string tx, .int .i64 pn], .slice A 0 cap, .int .i64 tag] w fun e w' => e = .returned (.tuple #[.agg #[.slice none 0 0, .slice none 0 0, .int .i64 0, .int .i64 0], .slice none 0 0, .int .i64 180]) ∧ Below w.heap.size w w' := by
  have hb0 : Below w.heap.size w ((w.alloc (.cells #[.string tx, .int .i64 pn] 35)).alloc (.cells #[.slice none 0 0, .slice none 0 0, .int .i64 0, .int .i64 0] 45)) := ((Below.refl w.heap.size w).alloc (Nat.le_refl _) (.cells #[.string tx, .int .i64 pn] 35)).alloc (by simp) (.cells #[.slice none 0 0, .slice none 0 0, .int .i64 0, .int .i64 0] 45)
  have HB := Lib.hid hb0
  have HTX := Lib.hid (show TxBox ((w.alloc (.cells #[.string tx, .int .i64 pn] 35)).alloc (.cells #[.slice none 0 0, .slice none 0 0, .int .i64 0, .int .i64 0] 45)) (w.heap.size + 1) none 0 0 none 0 0 0 0 from allocs_at [(.cells #[.string tx, .int .i64 pn] 35), (.cells #[.slice none 0 0, .slice none 0 0, .int .i64 0, .int .i64 0] 45)] w 1 _ rfl)
  clear hb0
  go_enter Tryz.func45, Tryz.ntmps45
  go_wp2_with fail
  generalize ((w.alloc (.cells #[.string tx, .int .i64 pn] 35)).alloc (.cells #[.slice none 0 0, .slice none 0 0, .int .i64 0, .int .i64 0] 45)) = V at HB HTX ⊢
  obtain ⟨z0, z1, z2, z3⟩ := HTX.out.cells
  exact bodyPost_ret (v := .tuple #[.agg #[.slice none 0 0, .slice none 0 0, .int .i64 0, .int .i64 0], .slice none 0 0, .int .i64 180]) (by simp [results, Tryz.results45, go_sem, z0, z1, z2, z3]) rfl ⟨rfl, HB.out⟩
set_option maxRecDepth 100000 in
set_option maxHeartbeats 16000000 in
theorem rwhole_any (tx : ByteArray) (pn tag : Int) (ps : List (LineP × LineR)) (A : Option Addr) (cap : Nat) (v w : World) (hvs : v.heap.size ≤ w.heap.size) (hn : ps.length ≤ 1000) (h1 : 1 ≤ ps.length) (hc : Cells w A ((ps.map (·.2)).flatMap encD)) (hps : ∀ q ∈ ps, LineK v.heap.size w q) (hpt : ptOk ⟨tx, pn, 0⟩) (htx : tx.size ≤ 1125899906842624) :
    Calls Tryz.prog 45 #[.agg #[.string tx, .int .i64 pn], .slice A ps.length cap, .int .i64 tag] w fun e w' => ∃ t ws, e = .returned (.tuple #[t, ws, .int .i64 (wholeE tx pn (ps.map (·.1)) tag).2.2]) ∧ TxF v.heap.size w' (wholeE tx pn (ps.map (·.1)) tag).1 t ∧ IntsF w' (wholeE tx pn (ps.map (·.1)) tag).2.1 ws ∧ Below w.heap.size w w' := by
  have hb0 : Below w.heap.size w ((w.alloc (.cells #[.string tx, .int .i64 pn] 35)).alloc (.cells #[.slice none 0 0, .slice none 0 0, .int .i64 0, .int .i64 0] 45)) := ((Below.refl w.heap.size w).alloc (Nat.le_refl _) (.cells #[.string tx, .int .i64 pn] 35)).alloc (by simp) (.cells #[.slice none 0 0, .slice none 0 0, .int .i64 0, .int .i64 0] 45)
  have HB := Lib.hid hb0
  have HPX := Lib.hid (show ((w.alloc (.cells #[.string tx, .int .i64 pn] 35)).alloc (.cells #[.slice none 0 0, .slice none 0 0, .int .i64 0, .int .i64 0] 45)).heap[w.heap.size]? = some (.cells #[.string tx, .int .i64 pn] 35) from allocs_at [(.cells #[.string tx, .int .i64 pn] 35), (.cells #[.slice none 0 0, .slice none 0 0, .int .i64 0, .int .i64 0] 45)] w 0 _ rfl)
  have HTX := Lib.hid (show TxBox ((w.alloc (.cells #[.string tx, .int .i64 pn] 35)).alloc (.cells #[.slice none 0 0, .slice none 0 0, .int .i64 0, .int .i64 0] 45)) (w.heap.size + 1) none 0 0 none 0 0 0 0 from allocs_at [(.cells #[.string tx, .int .i64 pn] 35), (.cells #[.slice none 0 0, .slice none 0 0, .int .i64 0, .int .i64 0] 45)] w 1 _ rfl)
  have hLK : ∀ q ∈ ps, LineK v.heap.size ((w.alloc (.cells #[.string tx, .int .i64 pn] 35)).alloc (.cells #[.slice none 0 0, .slice none 0 0, .int .i64 0, .int .i64 0] 45)) q := fun q hq => (hps q hq).mono (hb0.mono hvs) (DepEq.below hb0)
  have hor := ordered_any ps A cap ((w.alloc (.cells #[.string tx, .int .i64 pn] 35)).alloc (.cells #[.slice none 0 0, .slice none 0 0, .int .i64 0, .int .i64 0] 45)) hn (hc.below hb0) (fun q hq => (hLK q hq).up (Nat.le_trans hvs hb0.size))
  have HOR := Lib.hid hor
  have HLK := Lib.hid hLK
  have HPT := Lib.hid hpt
  obtain ⟨R, hR⟩ : ∃ R, wholeE tx pn (ps.map (·.1)) tag = R := ⟨_, rfl⟩
  rw [hR]
  have HRE := Lib.hid (show (if txB (txOf tx pn ((ordL ltQ ps).map (·.1)) tag) then (txOf tx pn ((ordL ltQ ps).map (·.1)) tag, ((ordL ltQ ps).map (·.1)).map LineP.what, 0) else (zeroTx, [], 120)) = R by
    rw [← hR, wholeE_pos (by omega)])
  have hne0 : ((ps.length : Int) == 0) = false := beq_false_of_ne (by omega)
  clear hps hc hR hpt hor hb0 hLK
  go_enter Tryz.func45, Tryz.ntmps45
  go_wp2_with fail
  generalize ((w.alloc (.cells #[.string tx, .int .i64 pn] 35)).alloc (.cells #[.slice none 0 0, .slice none 0 0, .int .i64 0, .int .i64 0] 45)) = V at HB HPX HTX HOR HLK ⊢
  refine HOR.out.mono ?_
  rintro e w2 ⟨vo, rfl, hown, hb2⟩
  have hsl : (ordL ltQ ps).length = ps.length := ordL_len ltQ ps
  have hp2 := (hb2.block _ (lt_of_block HPX.out)).trans HPX.out
  have ht2 := HTX.out.below hb2
  have HB2 := Lib.hid (HB.out.trans (hb2.mono HB.out.size))
  have HL2 := Lib.hid (fun (q : LineP × LineR) (hq : q ∈ ordL ltQ ps) => (HLK.out q ((ordL_mem ltQ ps q).1 hq)).mono (hb2.mono (Nat.le_trans hvs HB.out.size)) (DepEq.below hb2))
  have q0 : w2.cell? ⟨w.heap.size, 0, none⟩ = some (.string tx) := cell_of (j := 0) hp2 rfl
  have q1 : w2.cell? ⟨w.heap.size, 1, none⟩ = some (.int .i64 pn) := cell_of (j := 1) hp2 rfl
  have hw2 : w.heap.size + 1 < w2.heap.size := lt_of_block ht2
  have HT2 := Lib.hid ht2
  obtain ⟨Ao, co, rfl, hco, -⟩ := own_shape hown
  have HOW2 := Lib.hid hown
  clear hb2 hp2 ht2 hown HOR HLK HTX HPX HB
  generalize ordL ltQ ps = qs at HL2 hsl HOW2 HRE
  go_wp2_with fail
  have hin : ((w2.alloc (.cells #[.string tx, .int .i64 pn, .int .i64 0] 90)).alloc (.cells #[.slice (some ⟨w2.heap.size, 0, none⟩) 1 1, .slice none 0 0, .int .i64 0, .int .i64 tag] 45)).heap[w2.heap.size]? = some (.cells #[.string tx, .int .i64 pn, .int .i64 0] 90) := allocs_at [(.cells #[.string tx, .int .i64 pn, .int .i64 0] 90), (.cells #[.slice (some ⟨w2.heap.size, 0, none⟩) 1 1, .slice none 0 0, .int .i64 0, .int .i64 tag] 45)] w2 0 _ rfl
  have hbx : TxBox ((w2.alloc (.cells #[.string tx, .int .i64 pn, .int .i64 0] 90)).alloc (.cells #[.slice (some ⟨w2.heap.size, 0, none⟩) 1 1, .slice none 0 0, .int .i64 0, .int .i64 tag] 45)) (w2.heap.size + 1) (some ⟨w2.heap.size, 0, none⟩) 1 1 none 0 0 0 tag := allocs_at [(.cells #[.string tx, .int .i64 pn, .int .i64 0] 90), (.cells #[.slice (some ⟨w2.heap.size, 0, none⟩) 1 1, .slice none 0 0, .int .i64 0, .int .i64 tag] 45)] w2 1 _ rfl
  have hb3 : Below w2.heap.size w2 ((w2.alloc (.cells #[.string tx, .int .i64 pn, .int .i64 0] 90)).alloc (.cells #[.slice (some ⟨w2.heap.size, 0, none⟩) 1 1, .slice none 0 0, .int .i64 0, .int .i64 tag] 45)) := ((Below.refl w2.heap.size w2).alloc (Nat.le_refl _) (.cells #[.string tx, .int .i64 pn, .int .i64 0] 90)).alloc (by simp) (.cells #[.slice (some ⟨w2.heap.size, 0, none⟩) 1 1, .slice none 0 0, .int .i64 0, .int .i64 tag] 45)
  have hs3 : ((w2.alloc (.cells #[.string tx, .int .i64 pn, .int .i64 0] 90)).alloc (.cells #[.slice (some ⟨w2.heap.size, 0, none⟩) 1 1, .slice none 0 0, .int .i64 0, .int .i64 tag] 45)).heap.size = w2.heap.size + 1 + 1 := by simp
  have hr3 := own_below HOW2.out hb3
  have hrl := fun g hg => (World.ownsRow.lt HOW2.out g hg).2
  have ht3 := HT2.out.below hb3
  have HB3 := Lib.hid (HB2.out.trans (hb3.mono HB2.out.size))
  have HL3 := Lib.hid (fun (q : LineP × LineR) (hq : q ∈ qs) => (HL2.out q hq).mono (hb3.mono (Nat.le_trans hvs HB2.out.size)) (DepEq.below hb3))
  generalize ((w2.alloc (.cells #[.string tx, .int .i64 pn, .int .i64 0] 90)).alloc (.cells #[.slice (some ⟨w2.heap.size, 0, none⟩) 1 1, .slice none 0 0, .int .i64 0, .int .i64 tag] 45)) = W3 at hin hbx hs3 hr3 ht3 HB3 HL3 ⊢
  have HIN := Lib.hid hin
  have HBX := Lib.hid hbx
  have HR3 := Lib.hid hr3
  have HRL := Lib.hid hrl
  have HT3 := Lib.hid ht3
  clear hin hbx hb3 hr3 ht3 hrl HB2 HL2 HOW2 HT2 q0 q1
  go_loopw [10, 11] (fun ws i wr => ∃ (k : Nat) (B : Option Addr) (cb : Nat) (vW : Value), vW = ws ∧ k ≤ qs.length ∧ i = .int .i64 (k : Int) ∧ Fr [w2.heap.size + 1] W3 wr ∧ TxBox wr (w2.heap.size + 1) (some ⟨w2.heap.size, 0, none⟩) 1 1 B k cb 0 tag ∧ wr.ownsRow (w2.heap.size + 1 + 1) 66 5 (.slice B k cb) k (flatO ((qs.take k).map lined)) ∧ wr.ownsRow (w2.heap.size + 1 + 1) 3 1 vW k (wordsV ((qs.take k).map fun q => q.1.what))) (fun _ i _ => qs.length - (intOf i).toNat)
  case atStart =>
    exact ⟨0, none, 0, _, rfl, Nat.zero_le _, rfl, Fr.refl _ _, HBX.out, ⟨rfl, .inl ⟨rfl, rfl⟩⟩, ⟨rfl, .inl ⟨rfl, rfl⟩⟩⟩
  case round =>
    obtain ⟨k, B, cb, vW, rfl, hk, rfl, hfr, hbx, hoO, hoW⟩ := hrel
    by_cases hlt : k < qs.length
    · have hlt2 : k < (qs.map (·.2)).length := by rw [List.length_map]; exact hlt
      have hrr := own_fr HR3.out hfr (fun g hg => by have := HRL.out g hg; simp; omega)
      obtain ⟨ad, he, c0, c1, c2, c3, c4, c5⟩ := line_at (cells_of_own hrr) hlt2
      subst he
      obtain ⟨x, hx⟩ : ∃ x, qs[k].2 = x := ⟨_, rfl⟩
      rw [List.getElem_map, hx] at c0 c1 c2 c3 c4 c5
      have hwx : qs[k].1.what = x.what := by rw [← hx]; exact ((HL3.out qs[k] (List.getElem_mem hlt)).2.1).symm
      have hsn : flatO ((qs.take (k + 1)).map lined) = flatO ((qs.take k).map lined) ++ [.int .i64 x.v, .int .u8 x.kind, .string x.term, .int .i64 x.n, .slice x.A x.len x.cap] := by
        rw [List.take_succ_eq_append_getElem hlt, List.map_append, List.map_cons, List.map_nil, flatO_snoc, ← hx]
        rfl
      have hsw : wordsV ((qs.take (k + 1)).map fun q => q.1.what) = wordsV ((qs.take k).map fun q => q.1.what) ++ [.int .i64 x.what] := by
        rw [List.take_succ_eq_append_getElem hlt, List.map_append, List.map_cons, List.map_nil, hwx, words_snoc]
      have HSN := Lib.hid hsn
      have HSW := Lib.hid hsw
      have t1 := hbx.cells.2.1
      have t1A := fun o => cell_below ((Below.refl wr.heap.size wr).alloc (Nat.le_refl _) o) t1
      have c0A := fun o => cell_below ((Below.refl wr.heap.size wr).alloc (Nat.le_refl _) o) c0
      have c1A := fun o => cell_below ((Below.refl wr.heap.size wr).alloc (Nat.le_refl _) o) c1
      have c2A := fun o => cell_below ((Below.refl wr.heap.size wr).alloc (Nat.le_refl _) o) c2
      have c3A := fun o => cell_below ((Below.refl wr.heap.size wr).alloc (Nat.le_refl _) o) c3
      have c4A := fun o => cell_below ((Below.refl wr.heap.size wr).alloc (Nat.le_refl _) o) c4
      have hb5 : Below wr.heap.size wr (wr.drew.alloc (.cells #[.int .i64 x.v, .int .u8 x.kind, .string x.term, .int .i64 x.n, .slice x.A x.len x.cap] 66)) := ((Below.refl wr.heap.size wr).drew).alloc (Nat.le_refl _) _
      have HOO := Lib.hid (show (wr.drew.alloc (.cells #[.int .i64 x.v, .int .u8 x.kind, .string x.term, .int .i64 x.n, .slice x.A x.len x.cap] 66)).ownsRow (w2.heap.size + 1 + 1) 66 5 (.slice B k cb) k (flatO ((qs.take k).map lined)) from own_below hoO hb5)
      have HOW := Lib.hid (show (wr.drew.alloc (.cells #[.int .i64 x.v, .int .u8 x.kind, .string x.term, .int .i64 x.n, .slice x.A x.len x.cap] 66)).ownsRow (w2.heap.size + 1 + 1) 3 1 vW k (wordsV ((qs.take k).map fun q => q.1.what)) from own_below hoW hb5)
      have HBX5 := Lib.hid (show TxBox (wr.drew.alloc (.cells #[.int .i64 x.v, .int .u8 x.kind, .string x.term, .int .i64 x.n, .slice x.A x.len x.cap] 66)) (w2.heap.size + 1) (some ⟨w2.heap.size, 0, none⟩) 1 1 B k cb 0 tag from hbx.below hb5)
      have HC5 := Lib.hid (show (wr.drew.alloc (.cells #[.int .i64 x.v, .int .u8 x.kind, .string x.term, .int .i64 x.n, .slice x.A x.len x.cap] 66)).cell? ⟨(ad.add (k * 6)).block, (ad.add (k * 6)).off + 5, none⟩ = some (.int .i64 x.what) from cell_below hb5 c5)
      have HFR5 := Lib.hid (show Fr [w2.heap.size + 1] W3 (wr.drew.alloc (.cells #[.int .i64 x.v, .int .u8 x.kind, .string x.term, .int .i64 x.n, .slice x.A x.len x.cap] 66)) from hfr.trans (Fr.below (F := []) hb5) (by simp))
      have hbs : w2.heap.size + 1 + 1 ≤ wr.heap.size := by have := hfr.size; omega
      have HSA := Lib.hid (show w2.heap.size + 1 + 1 ≤ (wr.drew.alloc (.cells #[.int .i64 x.v, .int .u8 x.kind, .string x.term, .int .i64 x.n, .slice x.A x.len x.cap] 66)).heap.size from Nat.le_trans hbs (by simp))
      have HBO := Lib.hid (fun g' (hg' : (Value.slice B k cb).ownBlock = some g') => World.ownsRow.lt hoO g' hg')
      have hrb := HRL.out ad.block rfl
      have hkb : (k + 1) * 64 ≤ 140737488355328 := by omega
      have hk63 : k + 1 ≤ 140737488355328 := by omega
      have HK1 := Lib.hid hkb
      have HK2 := Lib.hid hk63
      clear hbx hoO hoW hfr hrr hb5 c5 hx hwx hsn hsw hkb hk63
      go_upto_region 9 with fail
      go_region_law (refine step_appk slOut rfl (.tmp 30) (.tmp 36) rfl (w2.heap.size + 1 + 1) (.slice B k cb) k (flatO ((qs.take k).map lined)) (by rfl) (by exact HOO.out) (some ⟨wr.heap.size, 0, none⟩) 1 1 [.int .i64 x.v, .int .u8 x.kind, .string x.term, .int .i64 x.n, .slice x.A x.len x.cap] (by rfl) (by rfl) (fun _ => ⟨_, rfl, fun j u hj => World.news_of_block (Go.heap_alloc_new wr.drew _) j u hj⟩) (by intro u hu; simp at hu; rcases hu with rfl | rfl | rfl | rfl | rfl <;> rfl) HK1.out HK2.out HSA.out ?_; intro v6 w6 hown hgr hbl hat; obtain ⟨B', cb', rfl, -, -⟩ := own_shape hown; have hb6 := HBX5.out.grown hgr (fun e => by have := HBO.out _ e.symm; omega); have s1 : w6.cell? ⟨w2.heap.size + 1, 1, none⟩ = some (.slice B k cb) := hb6.cells.2.1; have sf : w6.frozen? ⟨w2.heap.size + 1, 1, none⟩ = false := hb6.frozen 1)
      all_goals
        have hf7 : Fr [w2.heap.size + 1] w6 (w6.setCell ⟨w2.heap.size + 1, 1, none⟩ (.slice B' (k + 1) cb')) := Fr.put0 w6 _ _ _ (List.mem_singleton.2 rfl)
        have h5c : (wr.alloc (.cells #[.int .i64 x.v, .int .u8 x.kind, .string x.term, .int .i64 x.n, .slice x.A x.len x.cap] 66)).drew.cell? ⟨(ad.add (k * 6)).block, (ad.add (k * 6)).off + 5, none⟩ = some (.int .i64 x.what) := HC5.out
        have f5 : (w6.setCell ⟨w2.heap.size + 1, 1, none⟩ (.slice B' (k + 1) cb')).cell? ⟨(ad.add (k * 6)).block, (ad.add (k * 6)).off + 5, none⟩ = some (.int .i64 x.what) := cell_fr hf7 (a := ⟨(ad.add (k * 6)).block, (ad.add (k * 6)).off + 5, none⟩) (show (ad.add (k * 6)).block ∉ [w2.heap.size + 1] by rw [add_block]; simp; omega) (hgr.cell h5c (fun e => by have h : w2.heap.size + 1 + 1 ≤ (ad.add (k * 6)).block := (HBO.out _ e.symm).1; rw [add_block] at h; omega))
        have h7x := hb6.put1 B' (k + 1) cb'
        have h7o := own_fr hown hf7 (fun g' hg' => by have := World.ownsRow.lt hown g' hg'; simp; omega)
        have h7w := own_fr (HOW.out.kept hgr (rows_apart HOW.out HOO.out (by decide))) hf7 (fun g' hg' => by have := World.ownsRow.lt HOW.out g' hg'; simp; omega)
        have h7f := (fr_below HFR5.out hbl (by omega)).trans hf7 (fun i hi _ => hi)
        have h7s : w2.heap.size + 1 + 1 ≤ (w6.setCell ⟨w2.heap.size + 1, 1, none⟩ (.slice B' (k + 1) cb')).heap.size := Nat.le_trans HSA.out (Nat.le_trans hbl.size hf7.size)
        rw [← HSN.out] at h7o
        clear h5c hown hgr hbl hat hb6 hf7 s1 sf t1 t1A c0 c1 c2 c3 c4 c0A c1A c2A c3A c4A HOO HOW HBX5 HC5 HFR5 HSA HBO HSN
        generalize (w6.setCell ⟨w2.heap.size + 1, 1, none⟩ (.slice B' (k + 1) cb')) = w7 at f5 h7x h7o h7w h7f h7s ⊢
        have H7X := Lib.hid h7x
        have H7O := Lib.hid h7o
        have H7W := Lib.hid h7w
        have H7F := Lib.hid h7f
        clear h7x h7o h7w h7f
        have hkb := HK1.out
        have hk63 := HK2.out
        go_wp2_with (at_builtin; refine wpList_appk slNum rfl _ _ rfl (w2.heap.size + 1 + 1) _ k _ rfl (World.ownsRow.alloc H7W.out _) (some ⟨w7.heap.size, 0, none⟩) 1 1 [.int .i64 x.what] rfl rfl (by have := fresh_cells w7 #[.int .i64 x.what] 3; simpa using this) (by intro u hu; simp at hu; subst hu; rfl) (by omega) hk63 (by simp; omega) ?_; intro v'' w9 hown2 hgr2 hbl2 hat2)
        have hal : Below w7.heap.size w7 (w7.alloc (.cells #[.int .i64 x.what] 3)) := (Below.refl _ _).alloc (Nat.le_refl _) _
        have hb9 := (H7X.out.below hal).grown hgr2 (fun e => by have := World.ownsRow.lt H7W.out _ e.symm; omega)
        have a1 := World.ownsRow.alloc H7O.out (.cells #[.int .i64 x.what] 3)
        have a2 := World.ownsRow.alloc H7W.out (.cells #[.int .i64 x.what] 3)
        have hoO9 := a1.kept hgr2 (rows_apart a1 a2 (by decide))
        have hoW9 : w9.ownsRow (w2.heap.size + 1 + 1) 3 1 v'' (k + 1) (wordsV ((qs.take (k + 1)).map fun q => q.1.what)) := by rw [HSW.out]; exact hown2
        have hfr9 : Fr [w2.heap.size + 1] W3 w9 := fr_below H7F.out (((Below.refl _ _).alloc h7s (.cells #[.int .i64 x.what] 3)).trans hbl2) (by omega)
        have HB9 := Lib.hid hb9
        have HO9 := Lib.hid hoO9
        have HW9 := Lib.hid hoW9
        have HF9 := Lib.hid hfr9
        clear hal hb9 a1 a2 hoO9 hoW9 hfr9 hgr2 hbl2 hown2 hat2
        go_roundw
        case rel => exact ⟨k + 1, B', cb', v'', rfl, by omega, by go_num, HF9.out, HB9.out, HO9.out, HW9.out⟩
        case measure => simp [intOf]; omega
    · have hkn : k = qs.length := by omega
      have htk : qs.take k = qs := List.take_of_length_le (by omega)
      rw [htk] at hoO hoW
      subst hkn
      have hdep := dep_tx HBX.out hfr
      have hbw : Below w.heap.size W3 wr := hfr.toBelowOf HB3.out.size (fun i hi => by rw [List.mem_singleton.1 hi]; omega)
      have hin : wr.heap[w2.heap.size]? = some (.cells #[.string tx, .int .i64 pn, .int .i64 0] 90) := (hfr.block _ (lt_of_block HIN.out) (by simp)).trans HIN.out
      have hcin : ∀ W : World, W.heap[w2.heap.size]? = some (.cells #[.string tx, .int .i64 pn, .int .i64 0] 90) → Cells W (some ⟨w2.heap.size, 0, none⟩) (insC [⟨tx, pn, 0⟩]) := fun W hW _ => ⟨_, rfl, fun j u h => by
        have := cell_of hW (j := j) (u := u) (by simpa [insC] using h)
        rw [Addr.add_lit, Nat.zero_add]
        exact this⟩
      obtain ⟨ls, hls⟩ : ∃ ls : List LineP, qs.map (·.1) = ls := ⟨_, rfl⟩
      rw [hls] at HRE
      have hml : ls.map outP = qs.map fun q => outP q.1 := by rw [← hls, List.map_map]; rfl
      have hll : ls.length = qs.length := by rw [← hls]; simp
      have htc : ∀ W, Below v.heap.size wr W → Stay wr W → TxC W (txOf tx pn ls tag) (some ⟨w2.heap.size, 0, none⟩) B := fun W h1 h2 => by
        refine ⟨hcin W (h2 _ _ _ _ (by decide) (fun e => absurd e (by decide)) hin), _, cells_stay hoO (by decide) (by decide) W h2, ?_⟩
        show OutsC W (ls.map outP) _
        rw [hml]
        exact outs_of ((hbw.mono hvs).trans h1) (hdep.trans h2.dep) qs HL3.out
      have hsm : smallTx (txOf tx pn ls tag) := by
        refine ⟨fun x hx => ?_, fun o ho => ?_, by simp [txOf], by simp [txOf]; omega⟩
        · rw [List.mem_singleton.1 hx]
          exact ⟨HPT.out, htx⟩
        · have ho : o ∈ ls.map outP := ho
          rw [hml] at ho
          obtain ⟨q, hq, rfl⟩ := List.mem_map.1 ho
          exact (HL3.out q hq).2.2.1
      have hright := rtxright_any [⟨tx, pn, 0⟩] (ls.map outP) 0 tag (some ⟨w2.heap.size, 0, none⟩) B 1 cb wr hsm (htc wr (Below.refl _ _) (Stay.refl _))
      have hol : (ls.map outP).length = qs.length := by simp [hll]
      rw [hol, hsl, show ([⟨tx, pn, 0⟩] : List InT).length = 1 from rfl] at hright
      have HRI := Lib.hid hright
      have HTC := Lib.hid htc
      have HBW := Lib.hid (HB3.out.trans hbw)
      have HBXR := Lib.hid hbx
      have hb6 : TxBox wr (w.heap.size + 1) none 0 0 none 0 0 0 0 := HT3.out.fr hfr (by simp; omega)
      have HB6 := Lib.hid hb6
      have HOW := Lib.hid hoW
      obtain ⟨x0, x1, x2, x3⟩ := hbx.cells
      have hwl : w.heap.size + 1 < wr.heap.size := lt_of_block hb6
      clear hright htc hsm hcin hin hdep hbw hfr hbx hoO hoW hml htk hb6 HBX HIN HR3 HT3 HL3 HB3 hs3
      cases hq : txB (txOf tx pn ls tag) with
      | false =>
        have HE := Lib.hid (show R = (zeroTx, [], 120) by rw [← HRE.out, hq]; rfl)
        have HQ := Lib.hid hq
        clear hq
        go_wp2_with fail
        refine HRI.out.mono ?_
        rintro e w3 ⟨rfl, hb3⟩
        have hq : txB ⟨[⟨tx, pn, 0⟩], ls.map outP, 0, tag⟩ = false := HQ.out
        have hb6 := HB6.out.below hb3
        obtain ⟨y0, y1, y2, y3⟩ := hb6.cells
        have yf := hb6.frozen
        have HBB := Lib.hid hb3
        have HB63 := Lib.hid hb6
        have HB3 := Lib.hid (HBW.out.trans (hb3.mono HBW.out.size))
        rw [hq]
        clear hb3 hq hb6
        go_wp2_with fail
        change bodyPost _ _ _ _ _ (putL w3 (w.heap.size + 1) (.slice none 0 0) (.slice none 0 0) (.int .i64 0) (.int .i64 0))
        have hP := HB63.out.put none 0 0 none 0 0 0 0
        have hF := putL_fr w3 (w.heap.size + 1) (.slice none 0 0) (.slice none 0 0) (.int .i64 0) (.int .i64 0) (F := [w.heap.size + 1]) (List.mem_singleton.2 rfl)
        generalize (putL w3 (w.heap.size + 1) (.slice none 0 0) (.slice none 0 0) (.int .i64 0) (.int .i64 0)) = Wf at hP hF ⊢
        have hBf := HB3.out.trans (hF.toBelowOf (B := w.heap.size) HB3.out.size (fun i hi => by rw [List.mem_singleton.1 hi]; omega))
        obtain ⟨z0, z1, z2, z3⟩ := hP.cells
        rw [HE.out]
        exact bodyPost_ret (v := .tuple #[.agg #[.slice none 0 0, .slice none 0 0, .int .i64 0, .int .i64 0], .slice none 0 0, .int .i64 120]) (by simp [results, Tryz.results45, go_sem, z0, z1, z2, z3]) rfl ⟨_, _, rfl, TxF.zero _ _, IntsF.nil _, hBf⟩
      | true =>
        have HE := Lib.hid (show R = (txOf tx pn ls tag, ls.map LineP.what, 0) by rw [← HRE.out, hq]; rfl)
        have HQ := Lib.hid hq
        clear hq
        go_wp2_with fail
        refine HRI.out.mono ?_
        rintro e w3 ⟨rfl, hb3⟩
        have hq : txB ⟨[⟨tx, pn, 0⟩], ls.map outP, 0, tag⟩ = true := HQ.out
        have hb6 := HB6.out.below hb3
        obtain ⟨y0, y1, y2, y3⟩ := hb6.cells
        have yf := hb6.frozen
        obtain ⟨u0, u1, u2, u3⟩ := (HBXR.out.below hb3).cells
        rw [hsl] at u1
        have HBB := Lib.hid hb3
        have HB63 := Lib.hid hb6
        have HB3 := Lib.hid (HBW.out.trans (hb3.mono HBW.out.size))
        rw [hq]
        clear hb3 hq hb6
        go_wp2_with fail
        change bodyPost _ _ _ _ _ (putL w3 (w.heap.size + 1) (.slice (some ⟨w2.heap.size, 0, none⟩) 1 1) (.slice B ps.length cb) (.int .i64 0) (.int .i64 tag))
        have hP := HB63.out.put (some ⟨w2.heap.size, 0, none⟩) 1 1 B ps.length cb 0 tag
        have hF := putL_fr w3 (w.heap.size + 1) (.slice (some ⟨w2.heap.size, 0, none⟩) 1 1) (.slice B ps.length cb) (.int .i64 0) (.int .i64 tag) (F := [w.heap.size + 1]) (List.mem_singleton.2 rfl)
        generalize (putL w3 (w.heap.size + 1) (.slice (some ⟨w2.heap.size, 0, none⟩) 1 1) (.slice B ps.length cb) (.int .i64 0) (.int .i64 tag)) = Wf at hP hF ⊢
        have hBt := (HBB.out.mono HBW.out.size).trans (hF.toBelowOf (B := w.heap.size) HB3.out.size (fun i hi => by rw [List.mem_singleton.1 hi]; omega))
        have hBf := HBW.out.trans hBt
        have hSt := (Stay.below HBB.out).trans (stay_tx HB63.out hF)
        obtain ⟨z0, z1, z2, z3⟩ := hP.cells
        obtain ⟨AW, cW, hvw, -, -⟩ := own_shape HOW.out
        have hlw : (ls.map LineP.what).length = qs.length := by simp [hll]
        rw [HE.out]
        refine bodyPost_ret (v := .tuple #[.agg #[.slice (some ⟨w2.heap.size, 0, none⟩) 1 1, .slice B ps.length cb, .int .i64 0, .int .i64 tag], vW, .int .i64 0]) (by simp [results, Tryz.results45, go_sem, z0, z1, z2, z3]) rfl ⟨_, _, rfl, ⟨some ⟨w2.heap.size, 0, none⟩, 1, B, cb, ?_, fun W a b => HTC.out W ((hBt.mono hvs).trans a) (hSt.trans b)⟩, ⟨AW, cW, ?_, fun W a => ?_⟩, hBf⟩
        · show _ = Value.agg #[.slice _ 1 _, .slice _ (ls.map outP).length _, _, _]
          rw [hol, hsl]
          rfl
        · rw [hlw]; exact hvw
        · have ho := HOW.out
          rw [hvw] at ho
          have := cells_stay ho (by decide) (by decide) W (hSt.trans a)
          have e : (qs.map fun q => q.1.what) = ls.map LineP.what := by rw [← hls, List.map_map]; rfl
          rw [e] at this
          exact this
end Go.Proofs.YtncniomiplnaaaaGreatDoor
