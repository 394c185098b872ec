/- The document's Names. · same: the two disks that hold the same are told to be the same. · The two pairs of disks of DiskPlays: the same, or apart. · The law: any row of calls is answered as the document says. · DiskPlays: the row's statement. -/
import Derived.Test.YtikbphafpmdpeaaQ10
import Derived.Test.YtikbphafpmdpeaaQ6
import Derived.Test.YtikbphafpmdpeaaFrame
set_option linter.all false
namespace Go.Proofs.Ytikbphafpmdpeaa
open Go.RowKit

theorem gtS_lt {a b : ByteArray} (h : gtS a b = true) : Op.bytesLess a.toList b.toList = false ∧ (a.toList == b.toList) = false := by
  unfold gtS at h
  rw [Bool.not_eq_true', Bool.or_eq_false_iff] at h
  exact h
theorem gtS_ge {a b : ByteArray} (h : gtS a b = false) : (Op.bytesLess a.toList b.toList = true) ∨ (Op.bytesLess a.toList b.toList = false ∧ (a.toList == b.toList) = true) := by
  unfold gtS at h
  rw [Bool.not_eq_false', Bool.or_eq_true] at h
  cases hb : Op.bytesLess a.toList b.toList with
  | true => exact .inl rfl
  | false =>
    rw [hb] at h
    rcases h with h | h
    · cases h
    · exact .inr ⟨rfl, h⟩
theorem str_one (l : List ByteArray) : ∀ u ∈ l.map Value.string, u.oneCell' = true := by
  intro u hu
  obtain ⟨x, -, rfl⟩ := List.mem_map.1 hu
  rfl
theorem names_nil {V w7 : World} {v7 : Value} {x : ByteArray} {fs : List RFile} {N : Nat} (h : w7.ownsRow V.heap.size 9 1 v7 (0 + 1 + 0) (([] ++ [.string x]) ++ [])) (hN : N ≤ V.heap.size) (hs : putsN fs = putN [] x) : w7.ownsRow N 9 1 v7 (0 + 1) ((putsN fs).map .string) := by
  rw [hs]
  exact own_to h hN
theorem names_done {V w7 : World} {v7 : Value} {x : ByteArray} {L : List ByteArray} {fs : List RFile} {N t j : Nat} (h : w7.ownsRow V.heap.size 9 1 v7 (t + 1 + (j - t)) (((L.map Value.string).take t ++ [.string x]) ++ (L.map Value.string).drop t)) (hN : N ≤ V.heap.size) (hs : putsN fs = putN L x) (hl : L.length = j) (hk : placeN L x j = t) (ht : t ≤ j) :
    w7.ownsRow N 9 1 v7 (j + 1) ((putsN fs).map .string) := by
  have e : (putsN fs).map Value.string = ((L.map Value.string).take t ++ [.string x]) ++ (L.map Value.string).drop t := by
    rw [hs]
    unfold putN
    rw [hl, hk, List.map_append, List.map_cons, List.map_take, List.map_drop, List.append_assoc]
    rfl
  rw [e, show j + 1 = t + 1 + (j - t) by omega]
  exact own_to h hN
theorem names_end {V w7 : World} {v7 : Value} {x : ByteArray} {L : List ByteArray} {fs : List RFile} {N t j : Nat} (h : w7.ownsRow V.heap.size 9 1 v7 (t + 1 + 0) (((L.map Value.string).take t ++ [.string x]) ++ [])) (hN : N ≤ V.heap.size) (hs : putsN fs = putN L x) (hl : L.length = j) (hk : placeN L x j = t) (ht : j = t) :
    w7.ownsRow N 9 1 v7 (j + 1) ((putsN fs).map .string) := by
  refine names_done (L := L) (t := t) ?_ hN hs hl hk (by omega)
  rw [List.drop_of_length_le (by rw [List.length_map]; omega), show j - t = 0 by omega]
  exact h
set_option maxRecDepth 100000 in
set_option maxHeartbeats 8000000 in
theorem rnames_any {p : Nat} {vf vo : Value} {vs : List Value} {m : RefT} {w : World} (h : RfAt w p vf vo vs m) (hl : m.files.length ≤ 1000) :
    Calls Try.prog 53 #[.pointer (some ⟨p, 0, none⟩)] w (KeysP w (namesR m)) := by
  have hcl := h.cell
  have c0 := hcl.1
  have c8 := hcl.2.2.2.2.2.2.2.2
  obtain ⟨Af, cf, rfl, -, hcf⟩ := h.files
  have HCF := Lib.hid hcf
  have HV := Lib.hid h.fv
  obtain ⟨dn, hdn⟩ : ∃ dn, m.down = dn := ⟨_, rfl⟩
  rw [hdn] at c8
  have HD := Lib.hid hdn
  have HC0 := Lib.hid c0
  have HC8 := Lib.hid c8
  clear h hcl hcf hdn
  cases dn
  case true =>
    have hnr : namesR m = [] := by unfold namesR; rw [if_pos HD.out]
    rw [hnr]
    clear hnr
    go_enter Try.func53, Try.ntmps53
    by_cases hz : 0 < m.files.length
    · have hzi : ((m.files.length : Nat) : Int) > 0 := by omega
      have hd : decide ((0 : Int) < ((m.files.length : Nat) : Int)) = true := decide_eq_true (by omega)
      go_wp2_with fail
      go_loopw [3, 4] (fun u k wr => u = .slice none 0 0 ∧ k = .int .i64 0 ∧ w = wr) (fun _ _ _ => 0)
      case atStart => exact ⟨rfl, rfl, rfl⟩
      case round =>
        obtain ⟨rfl, rfl, rfl⟩ := hrel
        go_wp2_with fail
        go_ret
        exact ⟨_, rfl, World.ownsRow_nil _ _ _ _, Below.refl _ _⟩
    · have hzi : ¬ (0 : Int) < ((m.files.length : Nat) : Int) := by omega
      have hd : decide ((0 : Int) < ((m.files.length : Nat) : Int)) = false := decide_eq_false (by omega)
      go_wp2_with fail
      go_loopw [3, 4] (fun u k wr => u = .slice none 0 0 ∧ k = .int .i64 0 ∧ w = wr) (fun _ _ _ => 0)
      case atStart => exact ⟨rfl, rfl, rfl⟩
      case round =>
        obtain ⟨rfl, rfl, rfl⟩ := hrel
        go_wp2_with fail
        go_ret
        exact ⟨_, rfl, World.ownsRow_nil _ _ _ _, Below.refl _ _⟩
  case false =>
    have HNR := Lib.hid (show namesR m = putsN m.files from by unfold namesR; rw [if_neg (by rw [HD.out]; simp)])
    go_enter Try.func53, Try.ntmps53
    go_wp2_with fail
    go_loopw [3, 4] (fun u k wr => ∃ j : Nat, j ≤ m.files.length ∧ k = .int .i64 j ∧ (j = 0 → u = .slice none 0 0) ∧ wr.ownsRow w.heap.size 9 1 u j ((putsN (m.files.take j)).map .string) ∧ Below w.heap.size w wr) (fun _ k _ => m.files.length - (intOf k).toNat)
    case atStart => exact ⟨0, Nat.zero_le _, rfl, fun _ => rfl, World.ownsRow_nil _ _ _ _, Below.refl _ _⟩
    case round =>
      obtain ⟨j, hj, rfl, hj0, hown, hbr⟩ := hrel
      obtain ⟨Au, cu, hu, hcu, hcc⟩ := own_shape hown
      have HB := Lib.hid hbr
      have HO := Lib.hid hown
      have d0 : wr.cell? _ = some _ := (Fr.below (F := []) HB.out).cellKept (by simp) HC0.out
      have d8 : wr.cell? _ = some _ := (Fr.below (F := []) HB.out).cellKept (by simp) HC8.out
      have HLL := Lib.hid (show (putsN (m.files.take j)).length = j by rw [putsN_len, List.length_take]; omega)
      by_cases hlt : j < m.files.length
      · obtain ⟨af, vv, haf, -, e1, -, -⟩ := file_look (Cells.below HCF.out HB.out) (HV.out.kept (.below HB.out)) hlt
        subst haf
        have hd : decide ((j : Int) < ((m.files.length : Nat) : Int)) = true := decide_eq_true (by omega)
        have HST := Lib.hid (show putsN (m.files.take (j + 1)) = putN (putsN (m.files.take j)) m.files[j].name from by
          rw [List.take_add_one, List.getElem?_eq_getElem hlt]
          exact putsN_snoc _ _)
        obtain ⟨x, hx⟩ : ∃ x, m.files[j].name = x := ⟨_, rfl⟩
        rw [hx] at e1 HST
        obtain ⟨L, hL⟩ : ∃ L, putsN (m.files.take j) = L := ⟨_, rfl⟩
        rw [hL] at HO HST HLL hcc
        have HCC := Lib.hid hcc
        have HE1 := Lib.hid e1
        have HD0 := Lib.hid d0
        have HX := Lib.hid hx
        clear hown hbr hx hL hcc
        obtain ⟨wo, rfl⟩ : ∃ x, x = wr := ⟨_, rfl⟩
        by_cases hjz : j = 0
        · subst hjz
          have hun := hj0 rfl
          subst hun
          obtain rfl : L = [] := List.eq_nil_of_length_eq_zero HLL.out
          have e1' : wo.cell? ⟨af.block, af.off + 1, none⟩ = some (.string x) := HE1.out
          have HE1 := Lib.hid e1'
          clear hj0 HO e1 e1'
          go_wp2_with fail
          go_loopw [5] (fun a wr => ∃ t : Nat, t ≤ 0 ∧ a = .int .i64 t ∧ placeN [] x 0 = placeN [] x t ∧ Below wo.heap.size wo wr) (fun a _ => (intOf a).toNat)
          case atStart => exact ⟨0, Nat.le_refl _, rfl, rfl, Below.refl _ _⟩
          case round =>
            obtain ⟨t, ht, rfl, hpl, hbq⟩ := hrel
            have HPL := Lib.hid hpl
            have HBQ := Lib.hid hbq
            have f0 := fun q => ((Fr.below (F := []) HBQ.out).drewN q).cellKept (by simp) HD0.out
            have f1 := fun q => ((Fr.below (F := []) HBQ.out).drewN q).cellKept (by simp) HE1.out
            clear hpl hbq d0 d8
            obtain rfl : t = 0 := by omega
            have ht0 : decide (((0 : Nat) : Int) > 0) = false := rfl
            go_wp2_with fail
            go_quiet (fail)
            have HBV := Lib.hid (show Below wo.heap.size wo (wr.drewN nq) from HBQ.out.trans (((Fr.refl [] wr).drewN _).toBelow.mono HBQ.out.size))
            clear f0 f1
            generalize wr.drewN nq = V at HBV ⊢
            have g0 := cell_below HBV.out HD0.out
            have g1 := cell_below HBV.out HE1.out
            have G0 := Lib.hid g0
            have G1 := Lib.hid g1
            have tok1 : True := trivial
            have tok2 : True := trivial
            have tok3 : True := trivial
            go_wp2_with (first
              | (at_builtin; have _t := tok1; go_must (refine wpList_appk slStr rfl _ _ rfl V.heap.size _ 0 [] rfl (World.ownsRow_nil V V.heap.size 9 1) none 0 0 [] rfl rfl (fun h => absurd h (by simp)) (by simp) (by omega) (by omega) (Nat.le_refl _) ?_); intro v4 w4 hown4 hg4 hb4 hat4; rw [Nat.zero_add, List.nil_append] at hown4; obtain ⟨A4, c4, hv4, -, -⟩ := own_shape hown4; subst hv4; have HB4 := Lib.hid hb4; have g0 := cell_below hb4 G0.out; have g1 := cell_below hb4 G1.out; have HC5 := Lib.hid (fresh_cells w4 #[.string x] 9); have hb5 : Below w4.heap.size w4 (w4.alloc (.cells #[.string x] 9)) := (Below.refl _ _).alloc (Nat.le_refl _) _; have HO5 := Lib.hid (own_below hown4 hb5); have HB5 := Lib.hid (hb4.trans (hb5.mono hb4.size)); have HS5 := Lib.hid HB5.out.size; clear tok1 _t hown4 hg4 hb4 hat4 hb5)
              | (at_builtin; have _t := tok2; clear g0 g1; go_must (refine wpList_appk slStr rfl _ _ rfl V.heap.size _ 0 [] rfl HO5.out (some ⟨w4.heap.size, 0, none⟩) 1 1 [Value.string x] rfl rfl HC5.out (by intro u hu; simp only [List.mem_singleton] at hu; subst hu; rfl) (by omega) (by omega) HS5.out ?_); intro v6 w6 hown6 hg6 hb6 hat6; generalize hn6 : 0 + 1 = n6 at hown6; have HN6 := Lib.hid hn6; obtain ⟨A6, c6, hv6, -, -⟩ := own_shape hown6; subst hv6; have HO6 := Lib.hid hown6; have HB6 := Lib.hid (HB5.out.trans hb6); have HS6 := Lib.hid HB6.out.size; clear tok2 _t hown6 hg6 hb6 hat6 hn6)
              | (at_builtin; have _t := tok3; go_must (refine wpList_appk slStr rfl _ _ rfl V.heap.size _ n6 ([] ++ [Value.string x]) rfl HO6.out none 0 0 [] rfl rfl (fun h => absurd h (by simp)) (by simp) (by have := HN6.out; omega) (by have := HN6.out; omega) HS6.out ?_); intro v7 w7 hown7 hg7 hb7 hat7; rw [← HN6.out] at hown7; have HO7 := Lib.hid hown7; have HB7 := Lib.hid (HB6.out.trans hb7); clear tok3 _t hown7 hg7 hb7 hat7))
            go_roundw
            case rel => exact ⟨0 + 1, hlt, by go_num, fun h => absurd h (by omega), names_nil HO7.out (Nat.le_trans HB.out.size HBV.out.size) HST.out, HB.out.trans ((HBV.out.trans (HB7.out.mono HBV.out.size)).mono HB.out.size)⟩
            case measure => simp [intOf]; omega
        · subst hu
          obtain ⟨al, hal, -⟩ := HCC.out (by rw [List.length_map, HLL.out]; omega)
          subst hal
          have hjp : 0 < j := by omega
          go_wp2_with fail
          go_loopw [5] (fun a wr => ∃ t : Nat, t ≤ j ∧ a = .int .i64 t ∧ placeN L x j = placeN L x t ∧ Below wo.heap.size wo wr) (fun a _ => (intOf a).toNat)
          case atStart => exact ⟨j, Nat.le_refl _, rfl, rfl, Below.refl _ _⟩
          case round =>
            obtain ⟨t, ht, rfl, hpl, hbq⟩ := hrel
            have HPL := Lib.hid hpl
            have HBQ := Lib.hid hbq
            have f0 := fun q => ((Fr.below (F := []) HBQ.out).drewN q).cellKept (by simp) HD0.out
            have f1 := fun q => ((Fr.below (F := []) HBQ.out).drewN q).cellKept (by simp) HE1.out
            clear hpl hbq d0 d8 e1
            by_cases htz : t = 0
            · subst htz
              have ht0 : decide (((0 : Nat) : Int) > 0) = false := rfl
              have hcut : ¬ cu = 0 := by omega
              have HK := Lib.hid (show placeN L x j = 0 from HPL.out)
              go_wp2_with fail
              go_quiet (fail)
              have HBV := Lib.hid (show Below wo.heap.size wo (wr.drewN nq) from HBQ.out.trans (((Fr.refl [] wr).drewN _).toBelow.mono HBQ.out.size))
              clear f0 f1
              generalize wr.drewN nq = V at HBV ⊢
              have g0 := cell_below HBV.out HD0.out
              have g1 := cell_below HBV.out HE1.out
              have G0 := Lib.hid g0
              have G1 := Lib.hid g1
              have HCV := Lib.hid (Cells.below HCC.out HBV.out)
              have htc : 0 ≤ cu := by omega
              have HT1 := Lib.hid (show ((L.map Value.string).take (0)).length = (0) * 1 by rw [List.length_take, List.length_map, HLL.out]; omega)
              have HT2 := Lib.hid (fun u (hu : u ∈ (L.map Value.string).take (0)) => str_one L u (List.mem_of_mem_take hu))
              have HCT := Lib.hid (HCV.out.take (0))
              have HT3 := Lib.hid (show ((L.map Value.string).drop (0)).length = (j - (0)) * 1 by rw [List.length_drop, List.length_map, HLL.out]; omega)
              have HT4 := Lib.hid (fun u (hu : u ∈ (L.map Value.string).drop (0)) => str_one L u (List.mem_of_mem_drop hu))
              have HCD := Lib.hid (HCV.out.dropA (0))
              have tok1 : True := trivial
              have tok2 : True := trivial
              have tok3 : True := trivial
              go_wp2_with (first
                | (at_builtin; have _t := tok1; go_must (refine wpList_appk slStr rfl _ _ rfl V.heap.size _ 0 [] rfl (World.ownsRow_nil V V.heap.size 9 1) _ _ _ ((L.map Value.string).take (0)) rfl HT1.out HCT.out HT2.out (by omega) (by omega) (Nat.le_refl _) ?_); intro v4 w4 hown4 hg4 hb4 hat4; rw [Nat.zero_add, List.nil_append] at hown4; obtain ⟨A4, c4, hv4, -, -⟩ := own_shape hown4; subst hv4; have HB4 := Lib.hid hb4; have g0 := cell_below hb4 G0.out; have g1 := cell_below hb4 G1.out; have HC5 := Lib.hid (fresh_cells w4 #[.string x] 9); have hb5 : Below w4.heap.size w4 (w4.alloc (.cells #[.string x] 9)) := (Below.refl _ _).alloc (Nat.le_refl _) _; have HO5 := Lib.hid (own_below hown4 hb5); have HB5 := Lib.hid (hb4.trans (hb5.mono hb4.size)); have HS5 := Lib.hid HB5.out.size; clear tok1 _t hown4 hg4 hb4 hat4 hb5)
                | (at_builtin; have _t := tok2; clear g0 g1; go_must (refine wpList_appk slStr rfl _ _ rfl V.heap.size _ 0 ((L.map Value.string).take (0)) rfl HO5.out (some ⟨w4.heap.size, 0, none⟩) 1 1 [Value.string x] rfl rfl HC5.out (by intro u hu; simp only [List.mem_singleton] at hu; subst hu; rfl) (by omega) (by omega) HS5.out ?_); intro v6 w6 hown6 hg6 hb6 hat6; generalize hn6 : 0 + 1 = n6 at hown6; have HN6 := Lib.hid hn6; obtain ⟨A6, c6, hv6, -, -⟩ := own_shape hown6; subst hv6; have HO6 := Lib.hid hown6; have HB6 := Lib.hid (HB5.out.trans hb6); have HS6 := Lib.hid HB6.out.size; have HCD6 := Lib.hid (Cells.below HCD.out HB6.out); clear tok2 _t hown6 hg6 hb6 hat6 hn6)
                | (at_builtin; have _t := tok3; go_must (refine wpList_appk slStr rfl _ _ rfl V.heap.size _ n6 (((L.map Value.string).take (0)) ++ [Value.string x]) rfl HO6.out _ _ _ ((L.map Value.string).drop (0)) rfl HT3.out HCD6.out HT4.out (by have := HN6.out; omega) (by have := HN6.out; omega) HS6.out ?_); intro v7 w7 hown7 hg7 hb7 hat7; rw [← HN6.out] at hown7; have HO7 := Lib.hid hown7; have HB7 := Lib.hid (HB6.out.trans hb7); clear tok3 _t hown7 hg7 hb7 hat7))
              go_roundw
              case rel => exact ⟨j + 1, hlt, by go_num, fun h => absurd h (by omega), names_done HO7.out (Nat.le_trans HB.out.size HBV.out.size) HST.out HLL.out HK.out (by omega), HB.out.trans ((HBV.out.trans (HB7.out.mono HBV.out.size)).mono HB.out.size)⟩
              case measure => simp [intOf]; omega
            · have ht0 : decide (0 < t) = true := decide_eq_true (by omega)
              obtain ⟨t', ht'⟩ : ∃ t', t = t' + 1 := ⟨t - 1, by omega⟩
              have hts : (t : Int) - 1 = (t' : Int) := by omega
              have htj : t' < j := by omega
              obtain ⟨a', ha', hcl'⟩ := HCC.out (by rw [List.length_map, HLL.out]; omega)
              injection ha' with ha'
              subst ha'
              have htl : t' < L.length := by rw [HLL.out]; omega
              have hc1 := hcl' t' (.string L[t']) (by simp [htl])
              have f2 := fun q => ((Fr.below (F := []) HBQ.out).drewN q).cellKept (by simp) hc1
              have hLt : L[t']? = some L[t'] := List.getElem?_eq_getElem htl
              obtain ⟨y, hy⟩ : ∃ y, L[t'] = y := ⟨_, rfl⟩
              rw [hy] at f2 hLt
              have HLT := Lib.hid hLt
              have HT := Lib.hid ht'
              clear hcl' hc1 hLt hy htl ht'
              cases hg : gtS y x
              · have HKK := Lib.hid (show placeN L x j = t by rw [HPL.out, HT.out]; exact placeN_stop HLT.out hg)
                rcases gtS_ge hg with hb1 | ⟨hb1, hb2⟩
                · clear hg
                  by_cases hcut : cu = t
                  · subst hcut
                    have HK := Lib.hid (show placeN L x j = cu from HKK.out)
                    go_wp2_with fail
                    go_quiet (fail)
                    have HBV := Lib.hid (show Below wo.heap.size wo (wr.drewN nq) from HBQ.out.trans (((Fr.refl [] wr).drewN _).toBelow.mono HBQ.out.size))
                    clear f0 f1
                    generalize wr.drewN nq = V at HBV ⊢
                    have g0 := cell_below HBV.out HD0.out
                    have g1 := cell_below HBV.out HE1.out
                    have G0 := Lib.hid g0
                    have G1 := Lib.hid g1
                    have HCV := Lib.hid (Cells.below HCC.out HBV.out)
                    have htc : cu ≤ cu := by omega
                    have HT1 := Lib.hid (show ((L.map Value.string).take (cu)).length = (cu) * 1 by rw [List.length_take, List.length_map, HLL.out]; omega)
                    have HT2 := Lib.hid (fun u (hu : u ∈ (L.map Value.string).take (cu)) => str_one L u (List.mem_of_mem_take hu))
                    have HCT := Lib.hid (HCV.out.take (cu))
                    have tok1 : True := trivial
                    have tok2 : True := trivial
                    have tok3 : True := trivial
                    go_wp2_with (first
                      | (at_builtin; have _t := tok1; go_must (refine wpList_appk slStr rfl _ _ rfl V.heap.size _ 0 [] rfl (World.ownsRow_nil V V.heap.size 9 1) _ _ _ ((L.map Value.string).take (cu)) rfl HT1.out HCT.out HT2.out (by omega) (by omega) (Nat.le_refl _) ?_); intro v4 w4 hown4 hg4 hb4 hat4; rw [Nat.zero_add, List.nil_append] at hown4; obtain ⟨A4, c4, hv4, -, -⟩ := own_shape hown4; subst hv4; have HB4 := Lib.hid hb4; have g0 := cell_below hb4 G0.out; have g1 := cell_below hb4 G1.out; have HC5 := Lib.hid (fresh_cells w4 #[.string x] 9); have hb5 : Below w4.heap.size w4 (w4.alloc (.cells #[.string x] 9)) := (Below.refl _ _).alloc (Nat.le_refl _) _; have HO5 := Lib.hid (own_below hown4 hb5); have HB5 := Lib.hid (hb4.trans (hb5.mono hb4.size)); have HS5 := Lib.hid HB5.out.size; clear tok1 _t hown4 hg4 hb4 hat4 hb5)
                      | (at_builtin; have _t := tok2; clear g0 g1; go_must (refine wpList_appk slStr rfl _ _ rfl V.heap.size _ cu ((L.map Value.string).take (cu)) rfl HO5.out (some ⟨w4.heap.size, 0, none⟩) 1 1 [Value.string x] rfl rfl HC5.out (by intro u hu; simp only [List.mem_singleton] at hu; subst hu; rfl) (by omega) (by omega) HS5.out ?_); intro v6 w6 hown6 hg6 hb6 hat6; generalize hn6 : cu + 1 = n6 at hown6; have HN6 := Lib.hid hn6; obtain ⟨A6, c6, hv6, -, -⟩ := own_shape hown6; subst hv6; have HO6 := Lib.hid hown6; have HB6 := Lib.hid (HB5.out.trans hb6); have HS6 := Lib.hid HB6.out.size; clear tok2 _t hown6 hg6 hb6 hat6 hn6)
                      | (at_builtin; have _t := tok3; go_must (refine wpList_appk slStr rfl _ _ rfl V.heap.size _ n6 (((L.map Value.string).take (cu)) ++ [Value.string x]) rfl HO6.out _ _ _ [] rfl rfl (fun h => absurd h (by simp)) (by simp) (by have := HN6.out; omega) (by have := HN6.out; omega) HS6.out ?_); intro v7 w7 hown7 hg7 hb7 hat7; rw [← HN6.out] at hown7; have HO7 := Lib.hid hown7; have HB7 := Lib.hid (HB6.out.trans hb7); clear tok3 _t hown7 hg7 hb7 hat7))
                    go_roundw
                    case rel => exact ⟨j + 1, hlt, by go_num, fun h => absurd h (by omega), names_end HO7.out (Nat.le_trans HB.out.size HBV.out.size) HST.out HLL.out HK.out (by omega), HB.out.trans ((HBV.out.trans (HB7.out.mono HBV.out.size)).mono HB.out.size)⟩
                    case measure => simp [intOf]; omega
                  · have HK := Lib.hid (show placeN L x j = t from HKK.out)
                    go_wp2_with fail
                    go_quiet (fail)
                    have HBV := Lib.hid (show Below wo.heap.size wo (wr.drewN nq) from HBQ.out.trans (((Fr.refl [] wr).drewN _).toBelow.mono HBQ.out.size))
                    clear f0 f1
                    generalize wr.drewN nq = V at HBV ⊢
                    have g0 := cell_below HBV.out HD0.out
                    have g1 := cell_below HBV.out HE1.out
                    have G0 := Lib.hid g0
                    have G1 := Lib.hid g1
                    have HCV := Lib.hid (Cells.below HCC.out HBV.out)
                    have htc : t ≤ cu := by omega
                    have HT1 := Lib.hid (show ((L.map Value.string).take (t)).length = (t) * 1 by rw [List.length_take, List.length_map, HLL.out]; omega)
                    have HT2 := Lib.hid (fun u (hu : u ∈ (L.map Value.string).take (t)) => str_one L u (List.mem_of_mem_take hu))
                    have HCT := Lib.hid (HCV.out.take (t))
                    have HT3 := Lib.hid (show ((L.map Value.string).drop (t)).length = (j - (t)) * 1 by rw [List.length_drop, List.length_map, HLL.out]; omega)
                    have HT4 := Lib.hid (fun u (hu : u ∈ (L.map Value.string).drop (t)) => str_one L u (List.mem_of_mem_drop hu))
                    have HCD := Lib.hid (HCV.out.dropA (t))
                    have tok1 : True := trivial
                    have tok2 : True := trivial
                    have tok3 : True := trivial
                    go_wp2_with (first
                      | (at_builtin; have _t := tok1; go_must (refine wpList_appk slStr rfl _ _ rfl V.heap.size _ 0 [] rfl (World.ownsRow_nil V V.heap.size 9 1) _ _ _ ((L.map Value.string).take (t)) rfl HT1.out HCT.out HT2.out (by omega) (by omega) (Nat.le_refl _) ?_); intro v4 w4 hown4 hg4 hb4 hat4; rw [Nat.zero_add, List.nil_append] at hown4; obtain ⟨A4, c4, hv4, -, -⟩ := own_shape hown4; subst hv4; have HB4 := Lib.hid hb4; have g0 := cell_below hb4 G0.out; have g1 := cell_below hb4 G1.out; have HC5 := Lib.hid (fresh_cells w4 #[.string x] 9); have hb5 : Below w4.heap.size w4 (w4.alloc (.cells #[.string x] 9)) := (Below.refl _ _).alloc (Nat.le_refl _) _; have HO5 := Lib.hid (own_below hown4 hb5); have HB5 := Lib.hid (hb4.trans (hb5.mono hb4.size)); have HS5 := Lib.hid HB5.out.size; clear tok1 _t hown4 hg4 hb4 hat4 hb5)
                      | (at_builtin; have _t := tok2; clear g0 g1; go_must (refine wpList_appk slStr rfl _ _ rfl V.heap.size _ t ((L.map Value.string).take (t)) rfl HO5.out (some ⟨w4.heap.size, 0, none⟩) 1 1 [Value.string x] rfl rfl HC5.out (by intro u hu; simp only [List.mem_singleton] at hu; subst hu; rfl) (by omega) (by omega) HS5.out ?_); intro v6 w6 hown6 hg6 hb6 hat6; generalize hn6 : t + 1 = n6 at hown6; have HN6 := Lib.hid hn6; obtain ⟨A6, c6, hv6, -, -⟩ := own_shape hown6; subst hv6; have HO6 := Lib.hid hown6; have HB6 := Lib.hid (HB5.out.trans hb6); have HS6 := Lib.hid HB6.out.size; have HCD6 := Lib.hid (Cells.below HCD.out HB6.out); clear tok2 _t hown6 hg6 hb6 hat6 hn6)
                      | (at_builtin; have _t := tok3; go_must (refine wpList_appk slStr rfl _ _ rfl V.heap.size _ n6 (((L.map Value.string).take (t)) ++ [Value.string x]) rfl HO6.out _ _ _ ((L.map Value.string).drop (t)) rfl HT3.out HCD6.out HT4.out (by have := HN6.out; omega) (by have := HN6.out; omega) HS6.out ?_); intro v7 w7 hown7 hg7 hb7 hat7; rw [← HN6.out] at hown7; have HO7 := Lib.hid hown7; have HB7 := Lib.hid (HB6.out.trans hb7); clear tok3 _t hown7 hg7 hb7 hat7))
                    go_roundw
                    case rel => exact ⟨j + 1, hlt, by go_num, fun h => absurd h (by omega), names_done HO7.out (Nat.le_trans HB.out.size HBV.out.size) HST.out HLL.out HK.out (by omega), HB.out.trans ((HBV.out.trans (HB7.out.mono HBV.out.size)).mono HB.out.size)⟩
                    case measure => simp [intOf]; omega
                · clear hg
                  by_cases hcut : cu = t
                  · subst hcut
                    have HK := Lib.hid (show placeN L x j = cu from HKK.out)
                    go_wp2_with fail
                    go_quiet (fail)
                    have HBV := Lib.hid (show Below wo.heap.size wo (wr.drewN nq) from HBQ.out.trans (((Fr.refl [] wr).drewN _).toBelow.mono HBQ.out.size))
                    clear f0 f1
                    generalize wr.drewN nq = V at HBV ⊢
                    have g0 := cell_below HBV.out HD0.out
                    have g1 := cell_below HBV.out HE1.out
                    have G0 := Lib.hid g0
                    have G1 := Lib.hid g1
                    have HCV := Lib.hid (Cells.below HCC.out HBV.out)
                    have htc : cu ≤ cu := by omega
                    have HT1 := Lib.hid (show ((L.map Value.string).take (cu)).length = (cu) * 1 by rw [List.length_take, List.length_map, HLL.out]; omega)
                    have HT2 := Lib.hid (fun u (hu : u ∈ (L.map Value.string).take (cu)) => str_one L u (List.mem_of_mem_take hu))
                    have HCT := Lib.hid (HCV.out.take (cu))
                    have tok1 : True := trivial
                    have tok2 : True := trivial
                    have tok3 : True := trivial
                    go_wp2_with (first
                      | (at_builtin; have _t := tok1; go_must (refine wpList_appk slStr rfl _ _ rfl V.heap.size _ 0 [] rfl (World.ownsRow_nil V V.heap.size 9 1) _ _ _ ((L.map Value.string).take (cu)) rfl HT1.out HCT.out HT2.out (by omega) (by omega) (Nat.le_refl _) ?_); intro v4 w4 hown4 hg4 hb4 hat4; rw [Nat.zero_add, List.nil_append] at hown4; obtain ⟨A4, c4, hv4, -, -⟩ := own_shape hown4; subst hv4; have HB4 := Lib.hid hb4; have g0 := cell_below hb4 G0.out; have g1 := cell_below hb4 G1.out; have HC5 := Lib.hid (fresh_cells w4 #[.string x] 9); have hb5 : Below w4.heap.size w4 (w4.alloc (.cells #[.string x] 9)) := (Below.refl _ _).alloc (Nat.le_refl _) _; have HO5 := Lib.hid (own_below hown4 hb5); have HB5 := Lib.hid (hb4.trans (hb5.mono hb4.size)); have HS5 := Lib.hid HB5.out.size; clear tok1 _t hown4 hg4 hb4 hat4 hb5)
                      | (at_builtin; have _t := tok2; clear g0 g1; go_must (refine wpList_appk slStr rfl _ _ rfl V.heap.size _ cu ((L.map Value.string).take (cu)) rfl HO5.out (some ⟨w4.heap.size, 0, none⟩) 1 1 [Value.string x] rfl rfl HC5.out (by intro u hu; simp only [List.mem_singleton] at hu; subst hu; rfl) (by omega) (by omega) HS5.out ?_); intro v6 w6 hown6 hg6 hb6 hat6; generalize hn6 : cu + 1 = n6 at hown6; have HN6 := Lib.hid hn6; obtain ⟨A6, c6, hv6, -, -⟩ := own_shape hown6; subst hv6; have HO6 := Lib.hid hown6; have HB6 := Lib.hid (HB5.out.trans hb6); have HS6 := Lib.hid HB6.out.size; clear tok2 _t hown6 hg6 hb6 hat6 hn6)
                      | (at_builtin; have _t := tok3; go_must (refine wpList_appk slStr rfl _ _ rfl V.heap.size _ n6 (((L.map Value.string).take (cu)) ++ [Value.string x]) rfl HO6.out _ _ _ [] rfl rfl (fun h => absurd h (by simp)) (by simp) (by have := HN6.out; omega) (by have := HN6.out; omega) HS6.out ?_); intro v7 w7 hown7 hg7 hb7 hat7; rw [← HN6.out] at hown7; have HO7 := Lib.hid hown7; have HB7 := Lib.hid (HB6.out.trans hb7); clear tok3 _t hown7 hg7 hb7 hat7))
                    go_roundw
                    case rel => exact ⟨j + 1, hlt, by go_num, fun h => absurd h (by omega), names_end HO7.out (Nat.le_trans HB.out.size HBV.out.size) HST.out HLL.out HK.out (by omega), HB.out.trans ((HBV.out.trans (HB7.out.mono HBV.out.size)).mono HB.out.size)⟩
                    case measure => simp [intOf]; omega
                  · have HK := Lib.hid (show placeN L x j = t from HKK.out)
                    go_wp2_with fail
                    go_quiet (fail)
                    have HBV := Lib.hid (show Below wo.heap.size wo (wr.drewN nq) from HBQ.out.trans (((Fr.refl [] wr).drewN _).toBelow.mono HBQ.out.size))
                    clear f0 f1
                    generalize wr.drewN nq = V at HBV ⊢
                    have g0 := cell_below HBV.out HD0.out
                    have g1 := cell_below HBV.out HE1.out
                    have G0 := Lib.hid g0
                    have G1 := Lib.hid g1
                    have HCV := Lib.hid (Cells.below HCC.out HBV.out)
                    have htc : t ≤ cu := by omega
                    have HT1 := Lib.hid (show ((L.map Value.string).take (t)).length = (t) * 1 by rw [List.length_take, List.length_map, HLL.out]; omega)
                    have HT2 := Lib.hid (fun u (hu : u ∈ (L.map Value.string).take (t)) => str_one L u (List.mem_of_mem_take hu))
                    have HCT := Lib.hid (HCV.out.take (t))
                    have HT3 := Lib.hid (show ((L.map Value.string).drop (t)).length = (j - (t)) * 1 by rw [List.length_drop, List.length_map, HLL.out]; omega)
                    have HT4 := Lib.hid (fun u (hu : u ∈ (L.map Value.string).drop (t)) => str_one L u (List.mem_of_mem_drop hu))
                    have HCD := Lib.hid (HCV.out.dropA (t))
                    have tok1 : True := trivial
                    have tok2 : True := trivial
                    have tok3 : True := trivial
                    go_wp2_with (first
                      | (at_builtin; have _t := tok1; go_must (refine wpList_appk slStr rfl _ _ rfl V.heap.size _ 0 [] rfl (World.ownsRow_nil V V.heap.size 9 1) _ _ _ ((L.map Value.string).take (t)) rfl HT1.out HCT.out HT2.out (by omega) (by omega) (Nat.le_refl _) ?_); intro v4 w4 hown4 hg4 hb4 hat4; rw [Nat.zero_add, List.nil_append] at hown4; obtain ⟨A4, c4, hv4, -, -⟩ := own_shape hown4; subst hv4; have HB4 := Lib.hid hb4; have g0 := cell_below hb4 G0.out; have g1 := cell_below hb4 G1.out; have HC5 := Lib.hid (fresh_cells w4 #[.string x] 9); have hb5 : Below w4.heap.size w4 (w4.alloc (.cells #[.string x] 9)) := (Below.refl _ _).alloc (Nat.le_refl _) _; have HO5 := Lib.hid (own_below hown4 hb5); have HB5 := Lib.hid (hb4.trans (hb5.mono hb4.size)); have HS5 := Lib.hid HB5.out.size; clear tok1 _t hown4 hg4 hb4 hat4 hb5)
                      | (at_builtin; have _t := tok2; clear g0 g1; go_must (refine wpList_appk slStr rfl _ _ rfl V.heap.size _ t ((L.map Value.string).take (t)) rfl HO5.out (some ⟨w4.heap.size, 0, none⟩) 1 1 [Value.string x] rfl rfl HC5.out (by intro u hu; simp only [List.mem_singleton] at hu; subst hu; rfl) (by omega) (by omega) HS5.out ?_); intro v6 w6 hown6 hg6 hb6 hat6; generalize hn6 : t + 1 = n6 at hown6; have HN6 := Lib.hid hn6; obtain ⟨A6, c6, hv6, -, -⟩ := own_shape hown6; subst hv6; have HO6 := Lib.hid hown6; have HB6 := Lib.hid (HB5.out.trans hb6); have HS6 := Lib.hid HB6.out.size; have HCD6 := Lib.hid (Cells.below HCD.out HB6.out); clear tok2 _t hown6 hg6 hb6 hat6 hn6)
                      | (at_builtin; have _t := tok3; go_must (refine wpList_appk slStr rfl _ _ rfl V.heap.size _ n6 (((L.map Value.string).take (t)) ++ [Value.string x]) rfl HO6.out _ _ _ ((L.map Value.string).drop (t)) rfl HT3.out HCD6.out HT4.out (by have := HN6.out; omega) (by have := HN6.out; omega) HS6.out ?_); intro v7 w7 hown7 hg7 hb7 hat7; rw [← HN6.out] at hown7; have HO7 := Lib.hid hown7; have HB7 := Lib.hid (HB6.out.trans hb7); clear tok3 _t hown7 hg7 hb7 hat7))
                    go_roundw
                    case rel => exact ⟨j + 1, hlt, by go_num, fun h => absurd h (by omega), names_done HO7.out (Nat.le_trans HB.out.size HBV.out.size) HST.out HLL.out HK.out (by omega), HB.out.trans ((HBV.out.trans (HB7.out.mono HBV.out.size)).mono HB.out.size)⟩
                    case measure => simp [intOf]; omega
              · have HKK := Lib.hid (show placeN L x j = placeN L x t' by rw [HPL.out, HT.out]; exact placeN_go HLT.out hg)
                obtain ⟨hb1, hb2⟩ := gtS_lt hg
                clear hg
                go_wp2_with fail
                go_quiet (fail)
                go_wp2_with fail
                go_roundw
                case rel => exact ⟨t', by omega, by go_num, HKK.out, HBQ.out.trans (((Fr.refl [] wr).drewN _).toBelow.mono HBQ.out.size)⟩
                case measure => simp [intOf]; omega
      · obtain rfl : j = m.files.length := by omega
        subst hu
        have hd : decide (((m.files.length : Nat) : Int) < ((m.files.length : Nat) : Int)) = false := decide_eq_false (by omega)
        clear hown hbr hcc hj0
        go_wp2_with fail
        go_ret
        refine ⟨_, rfl, ?_, HB.out⟩
        have h1 := HO.out
        rw [List.take_length] at h1
        rw [HNR.out, putsN_len]
        exact h1
end Go.Proofs.Ytikbphafpmdpeaa

set_option linter.all false
namespace Go.Proofs.Ytikbphafpmdpeaa
open Go.RowKit Go

section
variable {P : Program} {md : Region.Mode} {ops : Array Oper} {Q : Exit → Act → World → Prop} {S : World → Prop} {n : Nat}
theorem wait_out (hn : ops.size ≤ n) (l : Array Bool) : n ∉ Region.ready md ops l := fun h => by
  obtain ⟨-, o, ho, -⟩ := mem_ready.1 h
  rw [Array.getElem?_eq_none hn] at ho
  cases ho
/-- Take number i first, where no operation spoils what the others rely on. -/
theorem anyG_take0 {i : Nat} {oi : Oper} {v : Value} {f : Nat} {l : Array Bool} {a : Act} {w : World} (hi : ops[i]? = some oi) (hn : decide (ops.size ≤ n) = true)
    (hs : Region.noSelect ops = true) (hf : Region.free md ops l i = true) (hr : (Region.ready md ops l).contains i = true)
    (hQ : ∀ c a w, Q (.panic c) (a.put oi.dst v) w → Q (.panic c) a w) (hy : YieldsIf P ops S oi v a) (hS : S w)
    (h : AnyG P md ops Q S n f (l.setIfInBounds i true) (a.put oi.dst v) w) : AnyG P md ops Q S n (f + 1) l a w := by
  have hn' := of_decide_eq_true hn
  have hil := (Array.getElem?_eq_some_iff.1 hi).1
  exact anyG_put hi (by omega) (Region.noSelect_spec hs) hQ (fun l _ => wait_out hn' l) f l a w (Region.free_spec hi hf) (by simpa using hr) hy hS h
end
theorem lenR_le {m : RefT} (h : RInv m) (name : ByteArray) : (lenR m name).2 ≤ m.count := by
  unfold lenR
  split
  · exact Nat.zero_le _
  · split
    · exact Nat.zero_le _
    · split
      · exact Nat.zero_le _
      · rename_i hf
        exact pagesR_len h (List.mem_of_getElem? hf)
theorem namesR_len {m : RefT} (h : RInv m) : (namesR m).length ≤ 256 := by
  unfold namesR
  split
  · exact Nat.zero_le _
  · rw [putsN_len]; exact h.files
theorem RfO.names {w : World} {q : Nat} {F : List Nat} {m : RefT} (h : RfO w q F m) : Calls Try.prog 53 #[.pointer (some ⟨q, 0, none⟩)] w (KeysP w (namesR m)) := by
  obtain ⟨⟨vf, vo, vs, rfl, h1⟩, hi⟩ := h
  exact rnames_any h1 (Nat.le_trans hi.files (by decide))
theorem RfO.used {w : World} {q : Nat} {F : List Nat} {m : RefT} (h : RfO w q F m) (hc : m.count ≤ 4000000000) : Calls Try.prog 54 #[.pointer (some ⟨q, 0, none⟩)] w fun e w' => e = .returned (.int .i64 (usedR m)) ∧ Below w.heap.size w w' := by
  obtain ⟨⟨vf, vo, vs, rfl, h1⟩, hi⟩ := h
  exact rused_any h1 (hi.small hc)
theorem RfO.cell {w : World} {q : Nat} {F : List Nat} {m : RefT} (h : RfO w q F m) : w.cell? ⟨q, 4, none⟩ = some (.int .i64 m.count) ∧ w.cell? ⟨q, 8, none⟩ = some (.bool m.down) := by
  obtain ⟨⟨vf, vo, vs, rfl, h1⟩, hi⟩ := h
  have hc := h1.cell
  exact ⟨hc.2.2.2.2.1, hc.2.2.2.2.2.2.2.2⟩
theorem RReadV.below {w w' : World} {o : Option PageT} {v : Value} (h : RReadV w o v w') : Below w.heap.size w w' := h.1
set_option maxRecDepth 100000 in
set_option maxHeartbeats 16000000 in
theorem same_any {w : World} {p q : Nat} {Fd Fm : List Nat} {d : DiskT} {m : RefT} (h : Duo w p q Fd Fm d m) (hr : Rel d m) (hd : d.steps ≤ 3999999999) :
    Calls Try.prog 25 #[.pointer (some ⟨p, 0, none⟩), .pointer (some ⟨q, 0, none⟩)] w fun e w' => e = .returned (.bool true) ∧ Below w.heap.size w w' := by
  have hmc : m.count ≤ 3999999999 := by rw [← hr.steps]; exact hd
  have hnl := namesR_len h.rf.inv
  have hll := fun nm => Nat.le_trans (lenR_le h.rf.inv nm) hmc
  have HNM := Lib.hid (fun V (hV : Below w.heap.size w V) => (h.below hV).rf.names)
  have HND := Lib.hid (fun V (hV : Below w.heap.size w V) => (h.below hV).dk.names)
  have HUD := Lib.hid (fun V (hV : Below w.heap.size w V) => (h.below hV).dk.used)
  have HUM := Lib.hid (fun V (hV : Below w.heap.size w V) => (h.below hV).rf.used (Nat.le_trans hmc (by decide)))
  have HSD := Lib.hid (fun V (hV : Below w.heap.size w V) => (h.below hV).dk.steps)
  have HOD := Lib.hid (fun V (hV : Below w.heap.size w V) => (h.below hV).dk.off)
  have SC := Lib.hid (fun V (hV : Below w.heap.size w V) => (h.below hV).rf.cell)
  have HLD := Lib.hid (fun V (hV : Below w.heap.size w V) nm => (h.below hV).dk.len nm)
  have HLM := Lib.hid (fun V (hV : Below w.heap.size w V) nm => (h.below hV).rf.len (Nat.le_trans hmc (by decide)) nm)
  have HRD := Lib.hid (fun V (hV : Below w.heap.size w V) nm pg => (h.below hV).dk.read nm pg)
  have HRM := Lib.hid (fun V (hV : Below w.heap.size w V) nm pg => (h.below hV).rf.read (Nat.le_trans hmc (by decide)) nm pg)
  have hinv := h.dk.inv
  simp only [hr.names] at HND
  simp only [hr.used hinv] at HUD
  simp only [hr.steps] at HSD
  simp only [hr.off] at HOD
  simp only [fun nm => hr.len hinv nm] at HLD
  simp only [fun nm pg => hr.read hinv nm pg] at HRD
  obtain ⟨us, hus⟩ : ∃ us, usedR m = us := ⟨_, rfl⟩
  obtain ⟨cn, hcn⟩ : ∃ cn, m.count = cn := ⟨_, rfl⟩
  obtain ⟨dn, hdn⟩ : ∃ dn, m.down = dn := ⟨_, rfl⟩
  obtain ⟨ns, hns⟩ : ∃ ns, namesR m = ns := ⟨_, rfl⟩
  obtain ⟨ln, hln⟩ : ∃ ln, lenR m = ln := ⟨_, rfl⟩
  obtain ⟨rd, hrd⟩ : ∃ rd, readR m = rd := ⟨_, rfl⟩
  rw [hus] at HUD HUM
  rw [hcn] at HSD SC
  rw [hdn] at HOD SC
  rw [hns] at HND HNM hnl
  rw [hln] at HLD HLM hll
  rw [hrd] at HRD HRM
  have HLL := Lib.hid hll
  clear hus hcn hdn hns hln hrd hll hinv hr h hmc hd
  go_enter Try.func25, Try.ntmps25
  go_wp2_with fail
  refine (HNM.out _ (Below.refl _ _)).mono ?_
  rintro e w1 ⟨v, rfl, ho, hb⟩
  obtain ⟨Am, cm, hv, -, hc⟩ := own_shape ho
  subst hv
  have HB := Lib.hid hb
  have HX := Lib.hid hc
  clear ho hb hc HNM
  go_wp2_with fail
  refine wp_region_noPanic ?_
  refine wp_region_any (by kernel_rfl) (anyG_any (S := fun V : World => Below w.heap.size w V) (n := 30) _ _ _ _ ?_)
  have hS : Below w.heap.size w w1.drew := HB.out.drew
  have HXS := Lib.hid (Cells.below HX.out (show Below w1.heap.size w1 w1.drew from (Below.refl _ _).drew))
  change AnyG _ _ _ _ _ _ 30 (Array.replicate 30 false) _ w1.drew
  refine anyG_take0 (i := 0) (oi := ⟨_, _, _, _, _, _⟩) (v := ?_) rfl (by kernel_rfl) (by kernel_rfl) (by kernel_rfl) (by kernel_rfl) (fun _ _ _ h => h) (Or.inl ⟨by rfl, ?_⟩) hS ?_
  rotate_left
  · (intro w' hSw; skip; go_simp; (try with_reducible rfl))
  try simp only [Act.put, List.setIfInBounds_toArray, List.set_cons_zero, List.set_cons_succ]
  refine anyG_take0 (i := 2) (oi := ⟨_, _, _, _, _, _⟩) (v := ?_) rfl (by kernel_rfl) (by kernel_rfl) (by kernel_rfl) (by kernel_rfl) (fun _ _ _ h => h) (Or.inl ⟨by rfl, ?_⟩) hS ?_
  rotate_left
  · (intro w' hSw; skip; go_simp; (try with_reducible rfl))
  try simp only [Act.put, List.setIfInBounds_toArray, List.set_cons_zero, List.set_cons_succ]
  refine anyG_all (rs := [1]) (by kernel_rfl) (by simp) (List.forall_mem_singleton.2 ?_)
  refine wpOp_step (o := ⟨_, _, _, _, _, _⟩) rfl (fun K' hK => ?_)
  have HK := Lib.hid hK
  clear hK
  rw [if_pos (by rfl)]
  go_simp
  refine (HND.out _ hS).mono ?_
  rintro e V1 ⟨v1, rfl, ho1, hb1⟩
  obtain ⟨A1, c1, hv1, -, hc1⟩ := own_shape ho1
  subst hv1
  have hS := hS.trans (hb1.mono hS.size)
  have HXV := Lib.hid (Cells.below HXS.out hb1)
  have hne := names_eq A1 Am ns.length ns.length c1 cm ns ns V1 hc1 HXV.out rfl rfl (by omega)
  rw [decide_eq_true rfl] at hne
  have HNE := Lib.hid hne
  clear ho1 hb1 hc1 hne
  go_wp2_with fail
  refine HK.out _ _ ⟨fun _ => hS, ?_⟩
  clear HK
  try simp only [Act.put, List.setIfInBounds_toArray, List.set_cons_zero, List.set_cons_succ]
  refine anyG_all (rs := [3]) (by kernel_rfl) (by simp) (List.forall_mem_singleton.2 ?_)
  refine wpOp_step (o := ⟨_, _, _, _, _, _⟩) rfl (fun K' hK => ?_)
  have HK := Lib.hid hK
  clear hK
  rw [if_pos (by rfl)]
  go_simp
  refine HNE.out.mono ?_
  rintro e V2 ⟨rfl, hb2⟩
  have hS := hS.trans (hb2.mono hS.size)
  have HXV := Lib.hid (Cells.below HXV.out hb2)
  clear hb2 HNE
  go_wp2_with fail
  refine HK.out _ _ ⟨fun _ => hS, ?_⟩
  clear HK
  try simp only [Act.put, List.setIfInBounds_toArray, List.set_cons_zero, List.set_cons_succ]
  refine anyG_take0 (i := 4) (oi := ⟨_, _, _, _, _, _⟩) (v := ?_) rfl (by kernel_rfl) (by kernel_rfl) (by kernel_rfl) (by kernel_rfl) (fun _ _ _ h => h) (Or.inl ⟨by rfl, ?_⟩) hS ?_
  rotate_left
  · (intro w' hSw; skip; go_simp; (try with_reducible rfl))
  try simp only [Act.put, List.setIfInBounds_toArray, List.set_cons_zero, List.set_cons_succ]
  refine anyG_take0 (i := 5) (oi := ⟨_, _, _, _, _, _⟩) (v := ?_) rfl (by kernel_rfl) (by kernel_rfl) (by kernel_rfl) (by kernel_rfl) (fun _ _ _ h => h) (Or.inl ⟨by rfl, ?_⟩) hS ?_
  rotate_left
  · (intro w' hSw; skip; go_simp; (try with_reducible rfl))
  try simp only [Act.put, List.setIfInBounds_toArray, List.set_cons_zero, List.set_cons_succ]
  refine anyG_take0 (i := 6) (oi := ⟨_, _, _, _, _, _⟩) (v := ?_) rfl (by kernel_rfl) (by kernel_rfl) (by kernel_rfl) (by kernel_rfl) (fun _ _ _ h => h) (Or.inl ⟨by rfl, ?_⟩) hS ?_
  rotate_left
  · (intro w' hSw; skip; go_simp; (try with_reducible rfl))
  try simp only [Act.put, List.setIfInBounds_toArray, List.set_cons_zero, List.set_cons_succ]
  refine anyG_take0 (i := 8) (oi := ⟨_, _, _, _, _, _⟩) (v := ?_) rfl (by kernel_rfl) (by kernel_rfl) (by kernel_rfl) (by kernel_rfl) (fun _ _ _ h => h) (Or.inl ⟨by rfl, ?_⟩) hS ?_
  rotate_left
  · (intro w' hSw; skip; go_simp; (try with_reducible rfl))
  try simp only [Act.put, List.setIfInBounds_toArray, List.set_cons_zero, List.set_cons_succ]
  refine anyG_all (rs := [7]) (by kernel_rfl) (by simp) (List.forall_mem_singleton.2 ?_)
  refine wpOp_step (o := ⟨_, _, _, _, _, _⟩) rfl (fun K' hK => ?_)
  have HK := Lib.hid hK
  clear hK
  rw [if_pos (by rfl)]
  go_simp
  refine (HUD.out _ hS).mono ?_
  rintro e V3 ⟨rfl, hV⟩
  subst hV
  go_wp2_with fail
  refine HK.out _ _ ⟨fun _ => hS, ?_⟩
  clear HK
  try simp only [Act.put, List.setIfInBounds_toArray, List.set_cons_zero, List.set_cons_succ]
  refine anyG_all (rs := [9]) (by kernel_rfl) (by simp) (List.forall_mem_singleton.2 ?_)
  refine wpOp_step (o := ⟨_, _, _, _, _, _⟩) rfl (fun K' hK => ?_)
  have HK := Lib.hid hK
  clear hK
  rw [if_pos (by rfl)]
  go_simp
  refine (HUM.out _ hS).mono ?_
  rintro e V4 ⟨rfl, hb4⟩
  have hS := hS.trans (hb4.mono hS.size)
  have HXV := Lib.hid (Cells.below HXV.out hb4)
  clear hb4
  go_wp2_with fail
  refine HK.out _ _ ⟨fun _ => hS, ?_⟩
  clear HK
  try simp only [Act.put, List.setIfInBounds_toArray, List.set_cons_zero, List.set_cons_succ]
  refine anyG_take0 (i := 10) (oi := ⟨_, _, _, _, _, _⟩) (v := ?_) rfl (by kernel_rfl) (by kernel_rfl) (by kernel_rfl) (by kernel_rfl) (fun _ _ _ h => h) (Or.inl ⟨by rfl, ?_⟩) hS ?_
  rotate_left
  · (intro w' hSw; skip; go_simp; (try with_reducible rfl))
  try simp only [Act.put, List.setIfInBounds_toArray, List.set_cons_zero, List.set_cons_succ]
  refine anyG_take0 (i := 11) (oi := ⟨_, _, _, _, _, _⟩) (v := ?_) rfl (by kernel_rfl) (by kernel_rfl) (by kernel_rfl) (by kernel_rfl) (fun _ _ _ h => h) (Or.inl ⟨by rfl, ?_⟩) hS ?_
  rotate_left
  · (intro w' hSw; skip; go_simp; (try with_reducible rfl))
  try simp only [Act.put, List.setIfInBounds_toArray, List.set_cons_zero, List.set_cons_succ]
  refine anyG_take0 (i := 12) (oi := ⟨_, _, _, _, _, _⟩) (v := ?_) rfl (by kernel_rfl) (by kernel_rfl) (by kernel_rfl) (by kernel_rfl) (fun _ _ _ h => h) (Or.inl ⟨by rfl, ?_⟩) hS ?_
  rotate_left
  · (intro w' hSw; skip; go_simp; (try with_reducible rfl))
  try simp only [Act.put, List.setIfInBounds_toArray, List.set_cons_zero, List.set_cons_succ]
  refine anyG_take0 (i := 13) (oi := ⟨_, _, _, _, _, _⟩) (v := ?_) rfl (by kernel_rfl) (by kernel_rfl) (by kernel_rfl) (by kernel_rfl) (fun _ _ _ h => h) (Or.inl ⟨by rfl, ?_⟩) hS ?_
  rotate_left
  · (intro w' hSw; skip; go_simp; (try with_reducible rfl))
  try simp only [Act.put, List.setIfInBounds_toArray, List.set_cons_zero, List.set_cons_succ]
  refine anyG_take0 (i := 15) (oi := ⟨_, _, _, _, _, _⟩) (v := ?_) rfl (by kernel_rfl) (by kernel_rfl) (by kernel_rfl) (by kernel_rfl) (fun _ _ _ h => h) (Or.inl ⟨by rfl, ?_⟩) hS ?_
  rotate_left
  · (intro w' hSw; skip; go_simp; (try with_reducible rfl))
  try simp only [Act.put, List.setIfInBounds_toArray, List.set_cons_zero, List.set_cons_succ]
  refine anyG_take0 (i := 16) (oi := ⟨_, _, _, _, _, _⟩) (v := ?_) rfl (by kernel_rfl) (by kernel_rfl) (by kernel_rfl) (by kernel_rfl) (fun _ _ _ h => h) (Or.inl ⟨by rfl, ?_⟩) hS ?_
  rotate_left
  · (intro w' hSw; skip; go_simp; (try with_reducible rfl))
  try simp only [Act.put, List.setIfInBounds_toArray, List.set_cons_zero, List.set_cons_succ]
  refine anyG_take0 (i := 17) (oi := ⟨_, _, _, _, _, _⟩) (v := ?_) rfl (by kernel_rfl) (by kernel_rfl) (by kernel_rfl) (by kernel_rfl) (fun _ _ _ h => h) (Or.inl ⟨by rfl, ?_⟩) hS ?_
  rotate_left
  · (intro w' hSw; skip; go_simp; (try with_reducible rfl))
  try simp only [Act.put, List.setIfInBounds_toArray, List.set_cons_zero, List.set_cons_succ]
  refine anyG_take0 (i := 18) (oi := ⟨_, _, _, _, _, _⟩) (v := ?_) rfl (by kernel_rfl) (by kernel_rfl) (by kernel_rfl) (by kernel_rfl) (fun _ _ _ h => h) (Or.inl ⟨by rfl, ?_⟩) hS ?_
  rotate_left
  · (intro w' hSw; obtain ⟨s1, s2⟩ := SC.out _ hSw; go_simp; (try with_reducible rfl))
  try simp only [Act.put, List.setIfInBounds_toArray, List.set_cons_zero, List.set_cons_succ]
  refine anyG_all (rs := [14]) (by kernel_rfl) (by simp) (List.forall_mem_singleton.2 ?_)
  refine wpOp_step (o := ⟨_, _, _, _, _, _⟩) rfl (fun K' hK => ?_)
  have HK := Lib.hid hK
  clear hK
  rw [if_pos (by rfl)]
  go_simp
  refine (HSD.out _ hS).mono ?_
  rintro e V5 ⟨rfl, hV⟩
  subst hV
  go_wp2_with fail
  refine HK.out _ _ ⟨fun _ => hS, ?_⟩
  clear HK
  try simp only [Act.put, List.setIfInBounds_toArray, List.set_cons_zero, List.set_cons_succ]
  refine anyG_take0 (i := 19) (oi := ⟨_, _, _, _, _, _⟩) (v := ?_) rfl (by kernel_rfl) (by kernel_rfl) (by kernel_rfl) (by kernel_rfl) (fun _ _ _ h => h) (Or.inl ⟨by rfl, ?_⟩) hS ?_
  rotate_left
  · (intro w' hSw; skip; go_simp; (try with_reducible rfl))
  try simp only [Act.put, List.setIfInBounds_toArray, List.set_cons_zero, List.set_cons_succ]
  refine anyG_take0 (i := 20) (oi := ⟨_, _, _, _, _, _⟩) (v := ?_) rfl (by kernel_rfl) (by kernel_rfl) (by kernel_rfl) (by kernel_rfl) (fun _ _ _ h => h) (Or.inl ⟨by rfl, ?_⟩) hS ?_
  rotate_left
  · (intro w' hSw; skip; go_simp; (try with_reducible rfl))
  try simp only [Act.put, List.setIfInBounds_toArray, List.set_cons_zero, List.set_cons_succ]
  refine anyG_take0 (i := 21) (oi := ⟨_, _, _, _, _, _⟩) (v := ?_) rfl (by kernel_rfl) (by kernel_rfl) (by kernel_rfl) (by kernel_rfl) (fun _ _ _ h => h) (Or.inl ⟨by rfl, ?_⟩) hS ?_
  rotate_left
  · (intro w' hSw; skip; go_simp; (try with_reducible rfl))
  try simp only [Act.put, List.setIfInBounds_toArray, List.set_cons_zero, List.set_cons_succ]
  refine anyG_take0 (i := 22) (oi := ⟨_, _, _, _, _, _⟩) (v := ?_) rfl (by kernel_rfl) (by kernel_rfl) (by kernel_rfl) (by kernel_rfl) (fun _ _ _ h => h) (Or.inl ⟨by rfl, ?_⟩) hS ?_
  rotate_left
  · (intro w' hSw; skip; go_simp; (try with_reducible rfl))
  try simp only [Act.put, List.setIfInBounds_toArray, List.set_cons_zero, List.set_cons_succ]
  refine anyG_take0 (i := 24) (oi := ⟨_, _, _, _, _, _⟩) (v := ?_) rfl (by kernel_rfl) (by kernel_rfl) (by kernel_rfl) (by kernel_rfl) (fun _ _ _ h => h) (Or.inl ⟨by rfl, ?_⟩) hS ?_
  rotate_left
  · (intro w' hSw; skip; go_simp; (try with_reducible rfl))
  try simp only [Act.put, List.setIfInBounds_toArray, List.set_cons_zero, List.set_cons_succ]
  refine anyG_take0 (i := 25) (oi := ⟨_, _, _, _, _, _⟩) (v := ?_) rfl (by kernel_rfl) (by kernel_rfl) (by kernel_rfl) (by kernel_rfl) (fun _ _ _ h => h) (Or.inl ⟨by rfl, ?_⟩) hS ?_
  rotate_left
  · (intro w' hSw; skip; go_simp; (try with_reducible rfl))
  try simp only [Act.put, List.setIfInBounds_toArray, List.set_cons_zero, List.set_cons_succ]
  refine anyG_take0 (i := 26) (oi := ⟨_, _, _, _, _, _⟩) (v := ?_) rfl (by kernel_rfl) (by kernel_rfl) (by kernel_rfl) (by kernel_rfl) (fun _ _ _ h => h) (Or.inl ⟨by rfl, ?_⟩) hS ?_
  rotate_left
  · (intro w' hSw; skip; go_simp; (try with_reducible rfl))
  try simp only [Act.put, List.setIfInBounds_toArray, List.set_cons_zero, List.set_cons_succ]
  refine anyG_take0 (i := 27) (oi := ⟨_, _, _, _, _, _⟩) (v := ?_) rfl (by kernel_rfl) (by kernel_rfl) (by kernel_rfl) (by kernel_rfl) (fun _ _ _ h => h) (Or.inl ⟨by rfl, ?_⟩) hS ?_
  rotate_left
  · (intro w' hSw; obtain ⟨s1, s2⟩ := SC.out _ hSw; go_simp; (try with_reducible rfl))
  try simp only [Act.put, List.setIfInBounds_toArray, List.set_cons_zero, List.set_cons_succ]
  refine anyG_all (rs := [23]) (by kernel_rfl) (by simp) (List.forall_mem_singleton.2 ?_)
  refine wpOp_step (o := ⟨_, _, _, _, _, _⟩) rfl (fun K' hK => ?_)
  have HK := Lib.hid hK
  clear hK
  rw [if_pos (by rfl)]
  go_simp
  refine (HOD.out _ hS).mono ?_
  rintro e V6 ⟨rfl, hV⟩
  subst hV
  go_wp2_with fail
  refine HK.out _ _ ⟨fun _ => hS, ?_⟩
  clear HK
  try simp only [Act.put, List.setIfInBounds_toArray, List.set_cons_zero, List.set_cons_succ]
  refine anyG_take0 (i := 28) (oi := ⟨_, _, _, _, _, _⟩) (v := ?_) rfl (by kernel_rfl) (by kernel_rfl) (by kernel_rfl) (by kernel_rfl) (fun _ _ _ h => h) (Or.inl ⟨by rfl, ?_⟩) hS ?_
  rotate_left
  · (intro w' hSw; skip; go_simp; (try with_reducible rfl))
  try simp only [Act.put, List.setIfInBounds_toArray, List.set_cons_zero, List.set_cons_succ]
  refine anyG_take0 (i := 29) (oi := ⟨_, _, _, _, _, _⟩) (v := ?_) rfl (by kernel_rfl) (by kernel_rfl) (by kernel_rfl) (by kernel_rfl) (fun _ _ _ h => h) (Or.inl ⟨by rfl, ?_⟩) hS ?_
  rotate_left
  · (intro w' hSw; skip; go_simp; (try with_reducible rfl))
  try simp only [Act.put, List.setIfInBounds_toArray, List.set_cons_zero, List.set_cons_succ]
  refine anyG_done (by kernel_rfl) ?_
  refine NoPanic.normal ?_
  have HB := Lib.hid hS
  have HX := HXV
  clear hS HXV HXS
  go_wp2_with fail
  go_loopw [6] (fun i wr => ∃ j : Nat, j ≤ ns.length ∧ i = .int .i64 j ∧ Below w.heap.size w wr ∧ Cells wr Am (ns.map Value.string)) (fun i _ => ns.length - (intOf i).toNat)
  case atStart => exact ⟨0, Nat.zero_le _, rfl, HB.out, HX.out⟩
  case round =>
    obtain ⟨j, hj, rfl, hbr, hcr⟩ := hrel
    have HB := Lib.hid hbr
    have HX := Lib.hid hcr
    clear hbr hcr
    by_cases hlt : j < ns.length
    · have hji : ((j : Nat) : Int) < ns.length := by omega
      obtain ⟨adx, hax, hcx0⟩ := HX.out (by rw [List.length_map]; omega)
      have hcx := hcx0 j (.string ns[j]) (by simp [hlt])
      subst hax
      obtain ⟨nm, hnm⟩ : ∃ nm, ns[j] = nm := ⟨_, rfl⟩
      rw [hnm] at hcx
      obtain ⟨K, hK⟩ : ∃ K, (ln nm).2 = K := ⟨_, rfl⟩
      obtain ⟨ee, hee⟩ : ∃ ee, (ln nm).1 = ee := ⟨_, rfl⟩
      have hKl := HLL.out nm
      have h1 := HLD.out _ HB.out nm
      have h2 := HLM.out _ HB.out nm
      rw [hK] at hKl
      rw [hK, hee] at h1 h2
      have H2 := Lib.hid h2
      have HCX := Lib.hid hcx
      clear hcx0 hnm hK hee h2
      go_wp2_with fail
      refine h1.mono ?_
      rintro e wl ⟨rfl, hwl⟩
      subst hwl
      clear h1
      go_wp2_with fail
      refine H2.out.mono ?_
      rintro e wl ⟨rfl, hbl⟩
      have hcl := cell_below hbl HCX.out
      have HB := Lib.hid (HB.out.trans (hbl.mono HB.out.size))
      have HX := Lib.hid (Cells.below HX.out hbl)
      have HCX := Lib.hid hcl
      clear hbl hcx hcl H2
      go_wp2_with fail
      go_loopw [11] (fun k wr => ∃ i : Nat, i ≤ K ∧ k = .int .i64 i ∧ Below w.heap.size w wr ∧ Cells wr (some adx) (ns.map Value.string) ∧ wr.cell? (adx.add j) = some (.string nm)) (fun k _ => K - (intOf k).toNat)
      case atStart => exact ⟨0, Nat.zero_le _, rfl, HB.out, HX.out, HCX.out⟩
      case round =>
        obtain ⟨i, hi, rfl, hbq, hxq, hcq⟩ := hrel
        have HB := Lib.hid hbq
        have HX := Lib.hid hxq
        have HCX := Lib.hid hcq
        clear hbq hxq
        by_cases hil : i < K
        · have hii : ((i : Nat) : Int) < K := by omega
          obtain ⟨r1, hr1⟩ : ∃ r1, (rd nm (i : Int)).1 = r1 := ⟨_, rfl⟩
          obtain ⟨r2, hr2⟩ : ∃ r2, (rd nm (i : Int)).2 = r2 := ⟨_, rfl⟩
          have g1 := HRD.out _ HB.out nm (i : Int)
          rw [hr1, hr2] at g1
          go_wp2_with fail
          refine g1.mono ?_
          rintro e w8 ⟨v, rfl, hv⟩
          have hb8 := hv.below
          obtain ⟨Ar, nr, cr, rfl, hl1, hc1, -, -⟩ := hv.bytes
          have hcq := cell_below hb8 HCX.out
          have HCQ := Lib.hid hcq
          have HB := Lib.hid (HB.out.trans (hb8.mono HB.out.size))
          have HX := Lib.hid (Cells.below HX.out hb8)
          have g2 := HRM.out _ HB.out nm (i : Int)
          rw [hr1, hr2] at g2
          have HC1 := Lib.hid hc1
          have HL1 := Lib.hid hl1
          clear g1 hv hb8 hc1 hl1 hr1 hr2
          go_wp2_with fail
          refine g2.mono ?_
          rintro e w9 ⟨v, rfl, hv2⟩
          have hb9 := hv2.below
          obtain ⟨Ar2, nr2, cr2, rfl, hl2, hc2, -⟩ := hv2.bytes
          have hcv1 := conv_bytes (Cells.below HC1.out hb9) nr cr HL1.out
          have hcv2 := conv_bytes hc2 nr2 cr2 hl2
          obtain ⟨bs, hbs⟩ : ∃ bs : ByteArray, (⟨(pgO r2).toArray⟩ : ByteArray) = bs := ⟨_, rfl⟩
          rw [hbs] at hcv1 hcv2
          have hce := cell_below hb9 HCQ.out
          have HCE := Lib.hid hce
          have HB := Lib.hid (HB.out.trans (hb9.mono HB.out.size))
          have HX := Lib.hid (Cells.below HX.out hb9)
          clear g2 hv2 hb9 hc2 hl2 hbs hcq hce
          go_wp2_with fail
          go_roundw
          case rel => exact ⟨i + 1, hil, by go_num, HB.out, HX.out, HCE.out⟩
          case measure => simp [intOf]; omega
        · have hii : ¬ ((i : Nat) : Int) < K := by omega
          go_wp2_with fail
          go_roundw
          case rel => exact ⟨j + 1, hlt, by go_num, HB.out, HX.out⟩
          case measure => simp [intOf]; omega
    · have hji : ¬ ((j : Nat) : Int) < ns.length := by omega
      go_wp2_with fail
      go_ret
      exact ⟨rfl, HB.out⟩
end Go.Proofs.Ytikbphafpmdpeaa

set_option linter.all false
namespace Go.Proofs.Ytikbphafpmdpeaa
open Go.RowKit

theorem Duo.fr {G : List Nat} {w w' : World} {p q : Nat} {Fd Fm : List Nat} {d : DiskT} {m : RefT} (h : Duo w p q Fd Fm d m) (hf : Fr G w w') (hF : ∀ i ∈ Fd ++ Fm, i ∉ G) (hs : ∀ i ∈ G, ∀ cur fr, w.heap[i]? ≠ some (.cells cur 9 fr)) : Duo w' p q Fd Fm d m :=
  ⟨h.dk.fr hf fun i hi => hF i (List.mem_append_left _ hi), h.rf.fr hf (fun i hi => hF i (List.mem_append_right _ hi)) hs, h.apart⟩
theorem Duo.not_str {w : World} {p q : Nat} {Fd Fm : List Nat} {d : DiskT} {m : RefT} (h : Duo w p q Fd Fm d m) : ∀ i ∈ Fd ++ Fm, ∀ cur fr, w.heap[i]? ≠ some (.cells cur 9 fr) := fun i hi => by
  rcases List.mem_append.1 hi with hi | hi
  · exact h.dk.not_str i hi
  · exact h.rf.not_str i hi
/-- A disk and the document's that hold the same; F is where they lie. -/
structure PairO (w : World) (p q : Nat) (F : List Nat) (n : Nat) : Prop where
  at_ : ∃ Fd Fm d m, F = Fd ++ Fm ∧ Duo w p q Fd Fm d m ∧ Rel d m ∧ d.steps ≤ n
theorem PairO.lt {w : World} {p q n : Nat} {F : List Nat} (h : PairO w p q F n) : ∀ i ∈ F, i < w.heap.size := by
  obtain ⟨Fd, Fm, d, m, rfl, h1, -⟩ := h
  exact h1.lt
theorem PairO.fr {G : List Nat} {w w' : World} {p q n : Nat} {F : List Nat} (h : PairO w p q F n) (hf : Fr G w w') (hF : ∀ i ∈ F, i ∉ G) (hs : ∀ i ∈ G, ∀ cur fr, w.heap[i]? ≠ some (.cells cur 9 fr)) : PairO w' p q F n := by
  obtain ⟨Fd, Fm, d, m, rfl, h1, h2⟩ := h
  exact ⟨Fd, Fm, d, m, rfl, h1.fr hf hF hs, h2⟩
theorem PairO.below {w w' : World} {p q n : Nat} {F : List Nat} (h : PairO w p q F n) (hb : Below w.heap.size w w') : PairO w' p q F n := by
  obtain ⟨Fd, Fm, d, m, rfl, h1, h2⟩ := h
  exact ⟨Fd, Fm, d, m, rfl, h1.below hb, h2⟩
theorem PairO.mono {w : World} {p q n n' : Nat} {F : List Nat} (h : PairO w p q F n) (hn : n ≤ n') : PairO w p q F n' := by
  obtain ⟨Fd, Fm, d, m, rfl, h1, h2, h3⟩ := h
  exact ⟨Fd, Fm, d, m, rfl, h1, h2, Nat.le_trans h3 hn⟩
/-- Both pairs, in new blocks. -/
structure Two (W w : World) (p q p2 q2 n : Nat) : Prop where
  at_ : ∃ F, PairO w p q F n ∧ (∀ i ∈ F, W.heap.size ≤ i) ∧ ((p2 = p ∧ q2 = q) ∨ ∃ F2, PairO w p2 q2 F2 n ∧ (∀ i ∈ F2, W.heap.size ≤ i) ∧ ∀ i ∈ F2, i ∉ F)
  bel : Below W.heap.size W w
theorem Two.below {W w w' : World} {p q p2 q2 n : Nat} (h : Two W w p q p2 q2 n) (hb : Below w.heap.size w w') : Two W w' p q p2 q2 n := by
  obtain ⟨⟨F, h1, h2, h3⟩, h4⟩ := h
  refine ⟨⟨F, h1.below hb, h2, ?_⟩, h4.trans (hb.mono h4.size)⟩
  rcases h3 with h3 | ⟨F2, h5, h6, h7⟩
  · exact .inl h3
  · exact .inr ⟨F2, h5.below hb, h6, h7⟩
theorem Two.mono {W w : World} {p q p2 q2 n n' : Nat} (h : Two W w p q p2 q2 n) (hn : n ≤ n') : Two W w p q p2 q2 n' := by
  obtain ⟨⟨F, h1, h2, h3⟩, h4⟩ := h
  refine ⟨⟨F, h1.mono hn, h2, ?_⟩, h4⟩
  rcases h3 with h3 | ⟨F2, h5, h6, h7⟩
  · exact .inl h3
  · exact .inr ⟨F2, h5.mono hn, h6, h7⟩
/-- Back to the other pair. -/
theorem Two.back {W w : World} {p q p2 q2 n : Nat} (h : Two W w p q p2 q2 n) : Two W w p2 q2 p2 q2 n := by
  obtain ⟨⟨F, h1, h2, h3⟩, h4⟩ := h
  rcases h3 with ⟨rfl, rfl⟩ | ⟨F2, h5, h6, -⟩
  · exact ⟨⟨F, h1, h2, .inl ⟨rfl, rfl⟩⟩, h4⟩
  · exact ⟨⟨F2, h5, h6, .inl ⟨rfl, rfl⟩⟩, h4⟩
theorem Two.new {W w1 w2 : World} {quota : Int} {p q : Nat} {F0 : List Nat} {vf vo : Value} {vs : List Value} (h1 : DkO w1 p F0 (newD quota)) (hb1 : Below W.heap.size W w1) (hlo : ∀ i ∈ F0, W.heap.size ≤ i) (h2 : RfAt w2 q vf vo vs (newR quota)) (hn : ∀ i ∈ fpR q vf vo, w1.heap.size ≤ i) (hb2 : Below w1.heap.size w1 w2) :
    Two W w2 p q p q 0 :=
  ⟨⟨F0 ++ fpR q vf vo, ⟨⟨F0, fpR q vf vo, _, _, rfl, ⟨h1.below hb2, ⟨⟨vf, vo, vs, rfl, h2⟩, newR_inv quota⟩, fun i hi hi2 => absurd (h1.lt i hi) (by have := hn i hi2; omega)⟩, newRel quota, Nat.le_refl _⟩⟩, fun i hi => by
    rcases List.mem_append.1 hi with h | h
    · exact hlo i h
    · exact Nat.le_trans hb1.size (hn i h), .inl ⟨rfl, rfl⟩⟩, hb1.trans (hb2.mono hb1.size)⟩
/-- A call of both. -/
theorem Two.play {W w : World} {p q p2 q2 n : Nat} (h : Two W w p q p2 q2 n) (hn : n ≤ 3999999999) {x : OpT} (hx : x.Ok) :
    Calls Try.prog 10 #[.pointer (some ⟨p, 0, none⟩), .pointer (some ⟨q, 0, none⟩), opV x] w fun e w' => e = .returned (.bool true) ∧ Two W w' p q p2 q2 (n + 1) := by
  obtain ⟨⟨F, ⟨Fd, Fm, d, m, rfl, h1, h2, h3⟩, h4, h5⟩, h6⟩ := h
  have hmc : m.count ≤ n := by rw [← h2.steps]; exact h3
  refine (plays_any h1 (by omega) (by omega) hx).mono ?_
  rintro e w' ⟨rfl, Fd', Fm', hw⟩
  obtain ⟨hpb, hpr⟩ := h2.play h1.dk.inv h1.rf.inv x
  have hnew : ∀ i ∈ Fd' ++ Fm', i ∈ Fd ++ Fm ∨ w.heap.size ≤ i := fun i hi => by
    rcases List.mem_append.1 hi with hi | hi
    · exact (hw.nd i hi).imp (List.mem_append_left _) id
    · exact (hw.nm i hi).imp (List.mem_append_right _) id
  have hst := playD_steps d x
  refine ⟨by rw [hpb], ⟨⟨Fd' ++ Fm', ⟨Fd', Fm', _, _, rfl, hw.duo, hpr, by omega⟩, fun i hi => ?_, ?_⟩, h6.trans (hw.fr.toBelowOf h6.size h4)⟩⟩
  · rcases hnew i hi with h7 | h7
    · exact h4 i h7
    · exact Nat.le_trans h6.size h7
  · rcases h5 with h5 | ⟨F2, h7, h8, h9⟩
    · exact .inl h5
    · refine .inr ⟨F2, (h7.mono (Nat.le_succ n)).fr hw.fr h9 h1.not_str, h8, fun i hi hi2 => ?_⟩
      rcases hnew i hi2 with h10 | h10
      · exact h9 i hi h10
      · exact absurd (h7.lt i hi) (by omega)
/-- Both are the same. -/
theorem Two.same {W w : World} {p q p2 q2 n : Nat} (h : Two W w p q p2 q2 n) (hn : n ≤ 3999999999) :
    Calls Try.prog 25 #[.pointer (some ⟨p, 0, none⟩), .pointer (some ⟨q, 0, none⟩)] w fun e w' => e = .returned (.bool true) ∧ Two W w' p q p2 q2 n := by
  have hh := h
  obtain ⟨⟨F, ⟨Fd, Fm, d, m, rfl, h1, h2, h3⟩, h4, h5⟩, h6⟩ := h
  refine (same_any h1 h2 (by omega)).mono ?_
  rintro e w' ⟨rfl, hb⟩
  exact ⟨rfl, hh.below hb⟩
theorem Rel.eqv {d d2 : DiskT} {m : RefT} (h : Rel d m) (he : EqvD d d2) : Rel d2 m := by
  obtain ⟨hp, he⟩ := he
  obtain ⟨h1, h2, h3, h4, ns, h5, h6, h7, h8⟩ := h
  rw [he]
  exact ⟨h1, h2, h3, h4, ns, h5, h6, h7, hp.trans h8⟩
/-- The disk has its copy, the document's not yet. -/
structure Half (W w : World) (p q pa n : Nat) : Prop where
  at_ : ∃ Fd Fm d m Fa da, Duo w p q Fd Fm d m ∧ Rel d m ∧ d.steps ≤ n ∧ (∀ i ∈ Fd ++ Fm, W.heap.size ≤ i) ∧ DkO w pa Fa da ∧ EqvD d da ∧ (∀ i ∈ Fa, W.heap.size ≤ i) ∧ ∀ i ∈ Fd ++ Fm, i ∉ Fa
  bel : Below W.heap.size W w
theorem Two.copy {W w : World} {p q p2 q2 n : Nat} (h : Two W w p q p2 q2 n) (hn : n ≤ 3999999999) :
    Calls Try.prog 19 #[.pointer (some ⟨p, 0, none⟩)] w fun e w' => ∃ pa, e = .returned (.pointer (some ⟨pa, 0, none⟩)) ∧ Half W w' p q pa n := by
  obtain ⟨⟨F, ⟨Fd, Fm, d, m, rfl, h1, h2, h3⟩, h4, h5⟩, h6⟩ := h
  refine (h1.dk.copy (by omega)).mono ?_
  rintro e w' ⟨pa, Fa, da, rfl, k1, k2, k3, k4⟩
  exact ⟨pa, rfl, ⟨⟨Fd, Fm, d, m, Fa, da, h1.below k3, h2, h3, h4, k1, k2, fun i hi => Nat.le_trans h6.size (k4 i hi), fun i hi hi2 => absurd (h1.lt i hi) (by have := k4 i hi2; omega)⟩, h6.trans (k3.mono h6.size)⟩⟩
theorem Half.copy {W w : World} {p q pa n : Nat} (h : Half W w p q pa n) (hn : n ≤ 3999999999) :
    Calls Try.prog 24 #[.pointer (some ⟨q, 0, none⟩)] w fun e w' => ∃ qa, e = .returned (.pointer (some ⟨qa, 0, none⟩)) ∧ Two W w' pa qa p q n := by
  obtain ⟨⟨Fd, Fm, d, m, Fa, da, h1, h2, h3, h4, k1, k2, k3, k4⟩, h6⟩ := h
  obtain ⟨⟨vf, vo, vs, hF, hr⟩, hri⟩ := h1.rf
  have hmc : m.count ≤ n := by rw [← h2.steps]; exact h3
  refine (rcopy_any hr (hri.small (by omega))).mono ?_
  rintro e w' ⟨qa, vf', vo', vs', rfl, r1, r2, r3⟩
  have hst : da.steps = d.steps := by rw [k2.2]
  refine ⟨qa, rfl, ⟨⟨Fa ++ fpR qa vf' vo', ⟨Fa, fpR qa vf' vo', da, m, rfl, ⟨k1.below r3, ⟨⟨vf', vo', vs', rfl, r1⟩, hri⟩, fun i hi hi2 => absurd (k1.lt i hi) (by have := r2 i hi2; omega)⟩, h2.eqv k2, by omega⟩, fun i hi => ?_, .inr ⟨Fd ++ Fm, ⟨Fd, Fm, d, m, rfl, h1.below r3, h2, h3⟩, h4, fun i hi hi2 => ?_⟩⟩, h6.trans (r3.mono h6.size)⟩⟩
  · rcases List.mem_append.1 hi with h | h
    · exact k3 i h
    · exact Nat.le_trans h6.size (r2 i h)
  · rcases List.mem_append.1 hi2 with h | h
    · exact k4 i hi h
    · exact absurd (h1.lt i hi) (by have := r2 i h; omega)
end Go.Proofs.Ytikbphafpmdpeaa

set_option linter.all false
namespace Go.Proofs.Ytikbphafpmdpeaa
open Go.RowKit

set_option maxRecDepth 100000 in
set_option maxHeartbeats 16000000 in
theorem plays_law {l : List OpT} {A : Option Addr} {c : Nat} {quota : Int} {W : World} (ha : OpsIn W A l) (hoa : ∀ x ∈ l, x.Ok) :
    Calls Try.prog 5 #[.int .i64 quota, .slice A l.length c] W fun e w' => e = .returned (.bool true) ∧ Below W.heap.size W w' := by
  have HA := Lib.hid ha
  have HOA := Lib.hid hoa
  clear ha hoa
  by_cases h1 : 60 < l.length
  · have h1' : ((l.length : Int) > 60) := by omega
    go_enter Try.func5, Try.ntmps5
    go_wp2_with fail
    refine (works_any _).mono ?_
    rintro e wz ⟨rfl, hbz⟩
    have HBZ := Lib.hid hbz
    clear hbz
    go_wp2_with fail
    go_ret
    exact ⟨rfl, HBZ.out⟩
  · have h1' : ¬ ((l.length : Int) > 60) := by omega
    go_enter Try.func5, Try.ntmps5
    go_wp2_with fail
    refine (new_o quota _).mono ?_
    rintro e w1 ⟨p0, F0, rfl, hd1, hbn1, hlo1⟩
    have HD1 := Lib.hid hd1
    have HBN1 := Lib.hid hbn1
    have HLO1 := Lib.hid hlo1
    clear hd1 hbn1 hlo1
    go_wp2_with fail
    refine (rnew_any quota _).mono ?_
    rintro e w2 ⟨q0, vf, vo, vs, rfl, hr2, hnr, hbn2⟩
    have HT := Lib.hid (Two.new HD1.out HBN1.out HLO1.out hr2 hnr hbn2)
    clear HD1 HBN1 HLO1 hr2 hnr hbn2
    go_wp2_with fail
    go_loopw [5, 6, 7, 8, 9] (fun u5 u6 u7 u8 i wr => ∃ j p q p2 q2 : Nat, j ≤ l.length ∧ u5 = .pointer (some ⟨p, 0, none⟩) ∧ u6 = .pointer (some ⟨q, 0, none⟩) ∧ u7 = .pointer (some ⟨p2, 0, none⟩) ∧ u8 = .pointer (some ⟨q2, 0, none⟩) ∧ i = .int .i64 j ∧ Two W wr p q p2 q2 j) (fun _ _ _ _ i _ => l.length - (intOf i).toNat)
    case atStart => exact ⟨0, p0, q0, p0, q0, Nat.zero_le _, rfl, rfl, rfl, rfl, rfl, HT.out⟩
    case round =>
      obtain ⟨j, p, q, p2, q2, hj, rfl, rfl, rfl, rfl, rfl, hg⟩ := hrel
      have HT := Lib.hid hg
      clear hg
      by_cases hlt : j < l.length
      · obtain ⟨ad, had, c0, c1, c2, c3, c4, c5, c6⟩ := ops_look HT.out.bel.block HA.out hlt
        subst had
        have hji : ((j : Nat) : Int) < l.length := by omega
        have HOK := Lib.hid (HOA.out _ (List.getElem_mem hlt))
        obtain ⟨x, hx⟩ : ∃ x, l[j] = x := ⟨_, rfl⟩
        rw [hx] at c0 c1 c2 c3 c4 c5 c6 HOK
        have hxk := HOK.out.kind
        clear hx
        by_cases hk9 : x.kind % 11 = 9
        · have hmm : Int.tmod (x.kind : Int) 11 = 9 := by rw [Int.tmod_eq_emod_of_nonneg (by omega)]; omega
          clear hk9
          go_wp2_with fail
          refine (HT.out.copy (by omega)).mono ?_
          rintro e w3 ⟨pa, rfl, hh⟩
          have HH := Lib.hid hh
          clear hh c0 c1 c2 c3 c4 c5 c6
          go_wp2_with fail
          refine (HH.out.copy (by omega)).mono ?_
          rintro e w4 ⟨qa, rfl, hh⟩
          have HT := Lib.hid (hh.mono (Nat.le_succ j))
          clear hh HH
          go_wp2_with fail
          refine (HT.out.same (by omega)).mono ?_
          rintro e w9 ⟨rfl, ht9⟩
          have HT := Lib.hid ht9
          clear ht9
          go_wp2_with fail
          go_roundw
          case rel => exact ⟨j + 1, pa, qa, p, q, hlt, rfl, rfl, rfl, rfl, by go_num, HT.out⟩
          case measure => simp [intOf]; omega
        · by_cases hk10 : x.kind % 11 = 10
          · have hmm : Int.tmod (x.kind : Int) 11 = 10 := by rw [Int.tmod_eq_emod_of_nonneg (by omega)]; omega
            have HT := Lib.hid (HT.out.back.mono (Nat.le_succ j))
            clear hk9 hk10
            go_wp2_with fail
            refine (HT.out.same (by omega)).mono ?_
            rintro e w9 ⟨rfl, ht9⟩
            have HT := Lib.hid ht9
            clear ht9
            go_wp2_with fail
            go_roundw
            case rel => exact ⟨j + 1, p2, q2, p2, q2, hlt, rfl, rfl, rfl, rfl, by go_num, HT.out⟩
            case measure => simp [intOf]; omega
          · obtain ⟨r, hr⟩ : ∃ r : Int, Int.tmod (x.kind : Int) 11 = r := ⟨_, rfl⟩
            have hm9 : ¬ r = 9 := by rw [← hr, Int.tmod_eq_emod_of_nonneg (by omega)]; omega
            have hm10 : ¬ r = 10 := by rw [← hr, Int.tmod_eq_emod_of_nonneg (by omega)]; omega
            have HPL := Lib.hid (HT.out.play (by omega) HOK.out)
            clear hk9 hk10
            obtain ⟨kd, nm, ds, pg, lg, fl, kp⟩ := x
            go_wp2_with fail
            refine HPL.out.mono ?_
            rintro e w3 ⟨rfl, hg2⟩
            have HT := Lib.hid hg2
            clear hg2 c0 c1 c2 c3 c4 c5 c6
            go_wp2_with fail
            refine (HT.out.same (by omega)).mono ?_
            rintro e w9 ⟨rfl, ht9⟩
            have HT := Lib.hid ht9
            clear ht9
            go_wp2_with fail
            go_roundw
            case rel => exact ⟨j + 1, p, q, p2, q2, hlt, rfl, rfl, rfl, rfl, by go_num, HT.out⟩
            case measure => simp [intOf]; omega
      · have hji : ¬ ((j : Nat) : Int) < l.length := by omega
        have HT := Lib.hid HT.out.back
        go_wp2_with fail
        refine (HT.out.same (by omega)).mono ?_
        rintro e w9 ⟨rfl, ht9⟩
        have HT := Lib.hid ht9
        clear ht9
        go_wp2_with fail
        refine (works_any _).mono ?_
        rintro e wz ⟨rfl, hbz⟩
        have HBZ := Lib.hid hbz
        clear hbz
        go_wp2_with fail
        go_ret
        exact ⟨rfl, HT.out.bel.trans (HBZ.out.mono HT.out.bel.size)⟩
end Go.Proofs.Ytikbphafpmdpeaa

set_option linter.all false
namespace Go.Proofs.Ytikbphafpmdpeaa
open Go.ChangeShapes Go.WideShapes Go.ChangeAt Go.RowKit Go.WideMaps Go.WideElems

set_option maxRecDepth 100000 in
theorem diskPlays_lifted (os : Os) (started : os.Started) (H : Type) (enc : TypeId × Value → H) :
    ReturnsInHanded {} Try.checked os 5 .any (Rows.diskPlaysSpec.pre6 enc Try.prog Try.f5 Rows.diskPlaysRow.domain false) (Rows.diskPlaysSpec.post enc Try.prog Try.f5 false true false false) := by
  refine returnsInHanded_of_change_sized (C := Try.checked) own started (by kernel_rfl) Try.func5
    (ChangeSpec.witness6 (enc := enc) (C := Try.checked) false ⟨#[], #[.int .i64 0, .slice none 0 0], []⟩ 8 (by kernel_rfl) (by kernel_rfl) (by kernel_rfl) (by kernel_rfl)) ?_
  intro W base args ds gs before hval0 hW _ hz0 _
  have hval : ∀ (j : Nat) t v, Try.f5.params[j]? = some t → args[j]? = some v → Value.okWide Try.prog W .any base t v := hval0
  have hz1 : ∀ n ∈ DataW.weightsEach Try.prog (Try.f5.params.toList ++ Rows.diskPlaysSpec.plain.varTypes Try.prog) (ds ++ gs), n ≤ reachBytes := fun n hn => of_decide_eq_true (List.all_eq_true.1 hz0 n hn)
  have hW' := hW
  obtain ⟨p, q, hA0, hV, rfl, _, _⟩ := hW
  have hA : DataW.TrodAll enc Try.prog W 0 (fun _ => true) true Try.f5.params.toList args.toList ds p := hA0
  rw [Try.params5] at hA hval
  obtain ⟨v0, vs0, d0, ds0, p0, q0, hargs, rfl, rfl, h0, r0⟩ := trodAll_cons hA
  obtain ⟨v1, vs1, d1, ds1, p1, q1, rfl, rfl, rfl, h1, r1⟩ := trodAll_cons r0
  obtain ⟨rfl, rfl, rfl⟩ := trodAll_nil r1
  obtain rfl : args = #[v0, v1] := by cases args; simp_all
  obtain ⟨rfl, rfl⟩ := trodVars_none hV
  obtain ⟨a0, rfl, rfl, rfl, wf0⟩ := open_int Try.underlying3 (hval 0 3 v0 rfl rfl) h0
  have z1 := weightsEach_le hz1 1 22 d1 rfl rfl
  obtain ⟨A1, a1, c1, rfl, hcell1, hm1, hw1⟩ := open_ops (hval 1 22 v1 rfl rfl) h1 z1
  refine (plays_law (quota := a0) hcell1 hw1).mono fun e W' ⟨he, hb⟩ => ?_
  subst he
  refine ⟨_, rfl, post_true hW' rfl ?_ rfl rfl hb⟩
  rw [Try.params5]
  intro t ht
  have ht2 : t ∈ [3, 22] := ht
  simp only [List.mem_cons, List.not_mem_nil, or_false] at ht2
  rcases ht2 with rfl | rfl <;> exact ⟨by kernel_rfl, of_decide_eq_true (by kernel_rfl)⟩

theorem diskPlays_holds : Rows.DiskPlaysSaid :=
  OpenClaim.holds_of_wide 5 Try.f5 rfl rfl rfl rfl rfl rfl rfl ⟨rfl, rfl, rfl, rfl, rfl⟩ rfl rfl rfl rfl rfl (by kernel_rfl) Try.func5 (by kernel_rfl)
    (of_decide_eq_true (by kernel_rfl)) (by unfold Func.isWrapper; first | (rw [if_pos (by decide +kernel)]; kernel_rfl) | (rw [if_neg (by decide +kernel)]; exact ⟨rfl, rfl⟩))
    (fun os started H enc _ => diskPlays_lifted os started H enc)
#print axioms diskPlays_holds
end Go.Proofs.Ytikbphafpmdpeaa
