/- The document's Create, Sync, Rename. · The document's Sync, Rename. · A field of a file in place; the document's Rename. -/
import Derived.Test.YtikbphafpmdpeaaQ2
set_option linter.all false
namespace Go.Proofs.Ytikbphafpmdpeaa
open Go.RowKit

theorem StrKept.fr {w w' : World} {F : List Nat} (hf : Fr F w w') (hs : ∀ i ∈ F, ∀ cur fr, w.heap[i]? ≠ some (.cells cur 9 fr)) : StrKept w w' := fun g cur fr hg => hf.block g (lt_of_block hg) fun hi => hs g hi cur fr hg
theorem RfAt.freeOf {p : Nat} {vf vo : Value} {vs : List Value} {m : RefT} {w w' : World} (h : RfAt w p vf vo vs m) (hf : Fr vf.ownBlock.toList w w') (j : Nat) : w'.frozen? ⟨p, j, none⟩ = false :=
  free_of ((hf.block p (lt_of_block h.blk) fun hi => h.ne_f (by simpa using hi)).trans h.blk) j
section
variable {p : Nat} {vf vo : Value} {vs : List Value} {m : RefT} {w : World}
theorem RfAt.not_f (h : RfAt w p vf vo vs m) : p ∉ vf.ownBlock.toList := fun hi => h.ne_f (by simpa using hi)
theorem RfAt.not_o (h : RfAt w p vf vo vs m) : p ∉ vo.ownBlock.toList := fun hi => h.ne_o (by simpa using hi)
theorem RfAt.strs_f (h : RfAt w p vf vo vs m) {w' : World} (hf : Fr vf.ownBlock.toList w w') : StrKept w w' := .fr hf fun i hi => h.not_str i (by simp [fpR]; exact .inr (.inl (by simpa using hi)))
theorem RfAt.strs_o (h : RfAt w p vf vo vs m) {w' : World} (hf : Fr vo.ownBlock.toList w w') : StrKept w w' := .fr hf fun i hi => h.not_str i (by simp [fpR]; exact .inr (.inr (by simpa using hi)))
/-- A file behind the others. -/
theorem RfAt.add_file {w4 : World} {v4 u : Value} {f : RFile} (h : RfAt w p vf vo vs m) (hf : Fr vf.ownBlock.toList w w4) (ho : w4.ownsRow 0 96 3 v4 (m.files.length + 1) (vs ++ [.int .i64 f.no, .string f.name, u]))
    (hu : Row w4 0 9 u (f.settled.map pgS)) (hat : v4.ownBlock = vf.ownBlock ∨ ∃ k, v4.ownBlock = some k ∧ w.heap.size ≤ k) :
    RfAt (w4.setCell ⟨p, 0, none⟩ v4) p v4 vo (vs ++ [.int .i64 f.no, .string f.name, u]) { m with files := m.files ++ [f] } ∧ Fr (fpR p vf vo) w (w4.setCell ⟨p, 0, none⟩ v4) ∧ ∀ i ∈ fpR p v4 vo, i ∈ fpR p vf vo ∨ w.heap.size ≤ i := by
  refine ⟨h.set_files hf (by rw [List.length_append]; exact ho) ((h.fv.kept (h.strs_f hf)).append ⟨u, [], rfl, hu, rfl⟩), (hf.mono fun i hi _ => by simp [fpR]; exact .inr (.inl (by simpa using hi))).put p 0 _ (.inl (by simp [fpR])), fun i hi => ?_⟩
  simp only [fpR, List.mem_cons, List.mem_append] at hi ⊢
  rcases hi with rfl | hi | hi
  · exact .inl (.inl rfl)
  · rcases hat with e | ⟨k, e, hk⟩
    · exact .inl (.inr (.inl (by rw [← e]; exact hi)))
    · rw [e] at hi
      simp at hi
      subst hi
      exact .inr hk
  · exact .inl (.inr (.inr hi))
end
set_option maxRecDepth 100000 in
set_option maxHeartbeats 8000000 in
theorem rcreate_any {p : Nat} {vf vo : Value} {vs : List Value} {m : RefT} {w : World} (h : RfAt w p vf vo vs m) (hi : RInv m) (hc : m.count ≤ 3999999999) (name : ByteArray) :
    Calls Try.prog 30 #[.pointer (some ⟨p, 0, none⟩), .string name] w (ROp w p vf vo (createR m name)) := by
  have c8 := h.cell.2.2.2.2.2.2.2.2
  have H := Lib.hid h
  have HI := Lib.hid hi
  have HF := Lib.hid (rfind_any name h (Nat.le_trans hi.files (by decide)))
  have HN := Lib.hid (rnamed_any name w)
  have HST := Lib.hid (rstep_any h hc hi.inn)
  have hlf := hi.files
  obtain ⟨dn, hdn⟩ : ∃ dn, m.down = dn := ⟨_, rfl⟩
  rw [hdn] at c8
  have HD := Lib.hid hdn
  clear h hi hdn
  have c0 := H.out.cell.1
  obtain ⟨Af, cf, hvf, -, -⟩ := H.out.files
  subst hvf
  cases dn
  · cases hnb : namedB name
    · rw [hnb] at HN
      have HR := Lib.hid (show createR m name = (2, m) from by unfold createR; rw [if_neg (show ¬ m.down = true by rw [HD.out]; simp)]; rw [if_pos hnb])
      clear hnb
      go_enter Try.func30, Try.ntmps30
      go_wp2_with fail
      refine HN.out.mono ?_
      rintro e w1 ⟨rfl, rfl⟩
      go_wp2_with fail
      go_ret
      exact ROp.same H.out _ _ HR.out
    · rw [hnb] at HN
      cases hf : findR m.files name with
      | some i =>
        rw [findI_some hf] at HF
        have hi0 : ((i : Int) ≥ 0) := by omega
        have HR := Lib.hid (show createR m name = (90, m) from by unfold createR; rw [if_neg (show ¬ m.down = true by rw [HD.out]; simp)]; rw [if_neg (by rw [hnb]; simp), if_pos (by rw [hf]; rfl)])
        clear hnb hf
        go_enter Try.func30, Try.ntmps30
        go_wp2_with fail
        refine HN.out.mono ?_
        rintro e w1 ⟨rfl, rfl⟩
        go_wp2_with fail
        refine HF.out.mono ?_
        rintro e w1 ⟨rfl, rfl⟩
        go_wp2_with fail
        go_ret
        exact ROp.same H.out _ _ HR.out
      | none =>
        rw [findI_none hf] at HF
        by_cases hl : 256 ≤ m.files.length
        · have hli : ((m.files.length : Nat) : Int) ≥ 256 := by omega
          have HR := Lib.hid (show createR m name = (3, m) from by unfold createR; rw [if_neg (show ¬ m.down = true by rw [HD.out]; simp)]; rw [if_neg (by rw [hnb]; simp), if_neg (by rw [hf]; simp), if_pos hl])
          clear hnb hf hl
          go_enter Try.func30, Try.ntmps30
          go_wp2_with fail
          refine HN.out.mono ?_
          rintro e w1 ⟨rfl, rfl⟩
          go_wp2_with fail
          refine HF.out.mono ?_
          rintro e w1 ⟨rfl, rfl⟩
          go_wp2_with fail
          go_ret
          exact ROp.same H.out _ _ HR.out
        · have hli : ¬ ((m.files.length : Nat) : Int) ≥ 256 := by omega
          obtain ⟨sb, hsb⟩ : ∃ sb, (stepR m).1 = sb := ⟨_, rfl⟩
          have HSB := Lib.hid hsb
          have hst := HST.out
          rw [hsb] at hst
          have HST2 := Lib.hid hst
          have HRS := Lib.hid (show createR m name = stepsR m fun m => { m with files := m.files ++ [⟨m.next, name, []⟩], next := m.next + 1 } from by unfold createR; rw [if_neg (show ¬ m.down = true by rw [HD.out]; simp)]; rw [if_neg (by rw [hnb]; simp), if_neg (by rw [hf]; simp), if_neg hl])
          clear hsb hst hnb hf
          cases sb
          · have HR := Lib.hid (show createR m name = (7, (stepR m).2) from by rw [HRS.out]; exact steps_no HSB.out)
            go_enter Try.func30, Try.ntmps30
            go_wp2_with fail
            refine HN.out.mono ?_
            rintro e w1 ⟨rfl, rfl⟩
            go_wp2_with fail
            refine HF.out.mono ?_
            rintro e w1 ⟨rfl, rfl⟩
            go_wp2_with fail
            refine HST2.out.mono ?_
            rintro e w1 ⟨rfl, hA, hB⟩
            have HA := Lib.hid hA
            have HB := Lib.hid hB
            clear hA hB
            go_wp2_with fail
            go_ret
            rw [HR.out]
            exact ⟨rfl, RfP.here HA.out HB.out⟩
          · have HR := Lib.hid (show createR m name = (0, { (stepR m).2 with files := (stepR m).2.files ++ [⟨(stepR m).2.next, name, []⟩], next := (stepR m).2.next + 1 }) from by rw [HRS.out]; exact steps_yes HSB.out)
            go_enter Try.func30, Try.ntmps30
            go_wp2_with fail
            refine HN.out.mono ?_
            rintro e w1 ⟨rfl, rfl⟩
            go_wp2_with fail
            refine HF.out.mono ?_
            rintro e w1 ⟨rfl, rfl⟩
            go_wp2_with fail
            refine HST2.out.mono ?_
            rintro e w1 ⟨rfl, hA, hB⟩
            have HA := Lib.hid hA
            have HB := Lib.hid hB
            clear hA hB
            obtain ⟨nf, hnf⟩ : ∃ nf, m.files.length = nf := ⟨_, rfl⟩
            have hnf2 : (stepR m).2.files.length = nf := by rw [(stepR_files m).1]; exact hnf
            obtain ⟨nx, hnx⟩ : ∃ nx : Nat, (stepR m).2.next = nx := ⟨_, rfl⟩
            have hnxl : nx ≤ 4000000000 := by have h1 := HI.out.next; rw [← hnx, (stepR_files m).2.2.1]; omega
            have how := HA.out.of
            have hc0 := HA.out.cell.1
            have hc2 := HA.out.cell.2.2.1
            rw [hnf2, ← hnf] at how
            rw [hnx] at hc2
            have HOW := Lib.hid how
            have hsc : ∀ V : World, Fr (Value.slice Af m.files.length cf).ownBlock.toList w1 V → V.cell? ⟨p, 0, none⟩ = some (.slice Af m.files.length cf) ∧ V.cell? ⟨p, 2, none⟩ = some (.int .i64 nx) := fun V hV => ⟨hV.cellKept HA.out.not_f hc0, hV.cellKept HA.out.not_f hc2⟩
            have SC := Lib.hid hsc
            have H1 : ∀ u ∈ [Value.int .i64 (nx : Int), .string name, .slice none 0 0], u.oneCell' = true := by
              intro u hu
              simp only [List.mem_cons, List.not_mem_nil, or_false] at hu
              rcases hu with rfl | rfl | rfl <;> rfl
            have H1 := Lib.hid H1
            have HNF := Lib.hid hnf2
            have HNX := Lib.hid hnx
            rw [hnf] at hlf hli
            have HN0 := Lib.hid hnf
            clear how hc2 hsc hnf2 hnx c0 c8 hc0 hnf hl
            go_wp2_with fail
            refine wp_region_noPanic ?_
            refine wp_region_any (by kernel_rfl) (anyG_any (S := fun V : World => Fr (Value.slice Af m.files.length cf).ownBlock.toList w1 V) (n := 15) _ _ _ _ ?_)
            have hS : Fr (Value.slice Af m.files.length cf).ownBlock.toList w1 w1.drew := (Fr.refl _ _).drew
            change AnyG _ _ _ _ _ _ 16 (Array.replicate 16 false) _ w1.drew
            refine anyG_take (i := 0) (oi := ⟨_, _, _, _, _, _⟩) (v := ?_) rfl rfl (by kernel_rfl) (by kernel_rfl) (by kernel_rfl) (by kernel_rfl) (by kernel_rfl) (fun _ _ _ h => h) (Or.inl ⟨by rfl, ?_⟩) hS ?_
            rotate_left
            · (intro w' hSw; skip; go_simp; (try with_reducible rfl))
            try simp only [Act.put, List.setIfInBounds_toArray, List.set_cons_zero, List.set_cons_succ]
            refine anyG_take (i := 1) (oi := ⟨_, _, _, _, _, _⟩) (v := ?_) rfl rfl (by kernel_rfl) (by kernel_rfl) (by kernel_rfl) (by kernel_rfl) (by kernel_rfl) (fun _ _ _ h => h) (Or.inl ⟨by rfl, ?_⟩) hS ?_
            rotate_left
            · (intro w' hSw; skip; go_simp; (try with_reducible rfl))
            try simp only [Act.put, List.setIfInBounds_toArray, List.set_cons_zero, List.set_cons_succ]
            refine anyG_take (i := 2) (oi := ⟨_, _, _, _, _, _⟩) (v := ?_) rfl rfl (by kernel_rfl) (by kernel_rfl) (by kernel_rfl) (by kernel_rfl) (by kernel_rfl) (fun _ _ _ h => h) (Or.inl ⟨by rfl, ?_⟩) hS ?_
            rotate_left
            · (intro w' hSw; skip; go_simp; (try with_reducible rfl))
            try simp only [Act.put, List.setIfInBounds_toArray, List.set_cons_zero, List.set_cons_succ]
            refine anyG_take (i := 3) (oi := ⟨_, _, _, _, _, _⟩) (v := ?_) rfl rfl (by kernel_rfl) (by kernel_rfl) (by kernel_rfl) (by kernel_rfl) (by kernel_rfl) (fun _ _ _ h => h) (Or.inl ⟨by rfl, ?_⟩) hS ?_
            rotate_left
            · (intro w' hSw; skip; go_simp; (try with_reducible rfl))
            try simp only [Act.put, List.setIfInBounds_toArray, List.set_cons_zero, List.set_cons_succ]
            refine anyG_take (i := 4) (oi := ⟨_, _, _, _, _, _⟩) (v := ?_) rfl rfl (by kernel_rfl) (by kernel_rfl) (by kernel_rfl) (by kernel_rfl) (by kernel_rfl) (fun _ _ _ h => h) (Or.inl ⟨by rfl, ?_⟩) hS ?_
            rotate_left
            · (intro w' hSw; obtain ⟨s1, s2⟩ := SC.out _ hSw; go_simp; (try with_reducible rfl))
            try simp only [Act.put, List.setIfInBounds_toArray, List.set_cons_zero, List.set_cons_succ]
            refine anyG_take (i := 5) (oi := ⟨_, _, _, _, _, _⟩) (v := ?_) rfl rfl (by kernel_rfl) (by kernel_rfl) (by kernel_rfl) (by kernel_rfl) (by kernel_rfl) (fun _ _ _ h => h) (Or.inl ⟨by rfl, ?_⟩) hS ?_
            rotate_left
            · (intro w' hSw; skip; go_simp; (try with_reducible rfl))
            try simp only [Act.put, List.setIfInBounds_toArray, List.set_cons_zero, List.set_cons_succ]
            refine anyG_take (i := 6) (oi := ⟨_, _, _, _, _, _⟩) (v := ?_) rfl rfl (by kernel_rfl) (by kernel_rfl) (by kernel_rfl) (by kernel_rfl) (by kernel_rfl) (fun _ _ _ h => h) (Or.inl ⟨by rfl, ?_⟩) hS ?_
            rotate_left
            · (intro w' hSw; skip; go_simp; (try with_reducible rfl))
            try simp only [Act.put, List.setIfInBounds_toArray, List.set_cons_zero, List.set_cons_succ]
            refine anyG_take (i := 7) (oi := ⟨_, _, _, _, _, _⟩) (v := ?_) rfl rfl (by kernel_rfl) (by kernel_rfl) (by kernel_rfl) (by kernel_rfl) (by kernel_rfl) (fun _ _ _ h => h) (Or.inl ⟨by rfl, ?_⟩) hS ?_
            rotate_left
            · (intro w' hSw; skip; go_simp; (try with_reducible rfl))
            try simp only [Act.put, List.setIfInBounds_toArray, List.set_cons_zero, List.set_cons_succ]
            refine anyG_take (i := 8) (oi := ⟨_, _, _, _, _, _⟩) (v := ?_) rfl rfl (by kernel_rfl) (by kernel_rfl) (by kernel_rfl) (by kernel_rfl) (by kernel_rfl) (fun _ _ _ h => h) (Or.inl ⟨by rfl, ?_⟩) hS ?_
            rotate_left
            · (intro w' hSw; obtain ⟨s1, s2⟩ := SC.out _ hSw; go_simp; (try with_reducible rfl))
            try simp only [Act.put, List.setIfInBounds_toArray, List.set_cons_zero, List.set_cons_succ]
            refine anyG_take (i := 9) (oi := ⟨_, _, _, _, _, _⟩) (v := ?_) rfl rfl (by kernel_rfl) (by kernel_rfl) (by kernel_rfl) (by kernel_rfl) (by kernel_rfl) (fun _ _ _ h => h) (Or.inl ⟨by rfl, ?_⟩) hS ?_
            rotate_left
            · (intro w' hSw; skip; go_simp; (try with_reducible rfl))
            try simp only [Act.put, List.setIfInBounds_toArray, List.set_cons_zero, List.set_cons_succ]
            refine anyG_take (i := 10) (oi := ⟨_, _, _, _, _, _⟩) (v := ?_) rfl rfl (by kernel_rfl) (by kernel_rfl) (by kernel_rfl) (by kernel_rfl) (by kernel_rfl) (fun _ _ _ h => h) (Or.inl ⟨by rfl, ?_⟩) hS ?_
            rotate_left
            · (intro w' hSw; skip; go_simp; (try with_reducible rfl))
            try simp only [Act.put, List.setIfInBounds_toArray, List.set_cons_zero, List.set_cons_succ]
            refine anyG_all (rs := [11]) (by kernel_rfl) (by simp) (List.forall_mem_singleton.2 ?_)
            refine wpOp_step (o := ⟨_, _, _, _, _, _⟩) rfl (fun K' hK => ?_)
            have HK := Lib.hid hK
            clear hK
            rw [if_pos (by rfl)]
            go_simp
            refine HK.out _ _ ⟨fun _ => hS.alloc _, ?_⟩
            clear HK
            have hS := hS.alloc (.cells #[.int .i64 (nx : Int), .string name, .slice none 0 0] 96)
            try simp only [Act.put, List.setIfInBounds_toArray, List.set_cons_zero, List.set_cons_succ]
            refine anyG_all (rs := [12]) (by kernel_rfl) (by simp) (List.forall_mem_singleton.2 ?_)
            refine wpOp_step (o := ⟨_, _, _, _, _, _⟩) rfl (fun K' hK => ?_)
            have HK := Lib.hid hK
            clear hK
            rw [if_pos (by rfl)]
            refine wp_appk slRFile _ _ rfl 0 (.slice Af m.files.length cf) m.files.length vs rfl (own_below HOW.out ((Below.refl _ _).drew.alloc (Nat.le_refl _) _)) (some ⟨w1.drew.heap.size, 0, none⟩) 1 1 [.int .i64 (nx : Int), .string name, .slice none 0 0] rfl rfl (fresh_cells w1.drew _ _) H1.out (by rw [HN0.out]; omega) (by rw [HN0.out]; omega) (Nat.zero_le _) ?_
            intro v4 w4 ho4 hg4 hb4 hat4
            obtain ⟨A4, c4, hv4, -, -⟩ := own_shape ho4
            subst hv4
            have hf4 : Fr (Value.slice Af m.files.length cf).ownBlock.toList w1 w4 := hS.trans (Fr.grown hg4 fun k hk _ => by rw [hk]; simp) fun i hi _ => hi
            have hD := HA.out.add_file (f := ⟨nx, name, []⟩) hf4 (by rw [HNF.out, ← HN0.out]; exact ho4) (Row.nil _ _ _) (by
              rcases hat4 with e | e
              · exact .inl e
              · exact .inr ⟨_, e, by simp⟩)
            have HF4 := Lib.hid hf4
            have HDD := Lib.hid hD
            have z0 := (SC.out _ hf4).1
            have z1 : w4.frozen? ⟨p, 0, none⟩ = false := (RfAt.freeOf HA.out hf4 0)
            clear ho4 hg4 hb4 hat4 hf4 hD hS
            have hS := HF4.out
            refine HK.out _ _ ⟨fun _ => hS, ?_⟩
            clear HK
            try simp only [Act.put, List.setIfInBounds_toArray, List.set_cons_zero, List.set_cons_succ]
            refine anyG_all (rs := [13]) (by kernel_rfl) (by simp) (List.forall_mem_singleton.2 ?_)
            refine wpOp_step (o := ⟨_, _, _, _, _, _⟩) rfl (fun K' hK => ?_)
            have HK := Lib.hid hK
            clear hK
            rw [if_pos (by rfl)]
            go_simp
            refine HK.out _ _ ⟨fun _ => hS, ?_⟩
            clear HK
            try simp only [Act.put, List.setIfInBounds_toArray, List.set_cons_zero, List.set_cons_succ]
            refine anyG_all (rs := [14]) (by kernel_rfl) (by simp) (List.forall_mem_singleton.2 ?_)
            refine wpOp_step (o := ⟨_, _, _, _, _, _⟩) rfl (fun K' hK => ?_)
            have HK := Lib.hid hK
            clear hK
            rw [if_pos (by rfl)]
            go_simp
            refine HK.out _ _ ⟨fun _ => hS, ?_⟩
            clear HK
            try simp only [Act.put, List.setIfInBounds_toArray, List.set_cons_zero, List.set_cons_succ]
            refine anyG_all (rs := [15]) (by kernel_rfl) (by simp) (List.forall_mem_singleton.2 ?_)
            refine wpOp_step (o := ⟨_, _, _, _, _, _⟩) rfl (fun K' hK => ?_)
            have HK := Lib.hid hK
            clear hK
            rw [if_pos (by rfl)]
            go_simp
            refine HK.out _ _ ⟨fun h => absurd rfl h, anyG_done (by kernel_rfl) ?_⟩
            clear HK
            refine NoPanic.normal ?_
            clear hS SC z0 z1
            generalize w4.setCell ⟨p, 0, none⟩ (.slice A4 (m.files.length + 1) c4) = w5 at HDD ⊢
            have d2 := HDD.out.1.cell.2.2.1
            have f2 := HDD.out.1.free 2
            simp only [HNX.out] at d2
            go_wp2_with fail
            go_ret
            rw [HR.out]
            have h9 := HDD.out.1.field (m' := { (stepR m).2 with files := (stepR m).2.files ++ [⟨nx, name, []⟩], next := nx + 1 }) 2 (.int .i64 ((nx : Int) + 1)) (by simp [cellsR]) rfl rfl
            rw [HNX.out]
            refine ⟨rfl, RfP.first HB.out ⟨_, _, _, h9, HDD.out.2.1.put p 2 _ (.inl (by simp [fpR])), HDD.out.2.2⟩⟩
  · have HR := Lib.hid (show createR m name = (7, m) from by unfold createR; rw [if_pos HD.out])
    go_enter Try.func30, Try.ntmps30
    go_wp2_with fail
    go_ret
    exact ROp.same H.out _ _ HR.out
end Go.Proofs.Ytikbphafpmdpeaa

set_option linter.all false
namespace Go.Proofs.Ytikbphafpmdpeaa
open Go.RowKit

set_option maxRecDepth 100000 in
set_option maxHeartbeats 8000000 in
theorem rsync_any {p : Nat} {vf vo : Value} {vs : List Value} {m : RefT} {w : World} (h : RfAt w p vf vo vs m) (hi : RInv m) (hc : m.count ≤ 3999999999) (name : ByteArray) :
    Calls Try.prog 32 #[.pointer (some ⟨p, 0, none⟩), .string name] w (ROp w p vf vo (syncR m name)) := by
  have c8 := h.cell.2.2.2.2.2.2.2.2
  have H := Lib.hid h
  have HI := Lib.hid hi
  have HF := Lib.hid (rfind_any name h (Nat.le_trans hi.files (by decide)))
  have HST := Lib.hid (rstep_any h hc hi.inn)
  have hlf := hi.files
  obtain ⟨dn, hdn⟩ : ∃ dn, m.down = dn := ⟨_, rfl⟩
  rw [hdn] at c8
  have HD := Lib.hid hdn
  clear h hi hdn
  cases dn
  · cases hf : findR m.files name with
    | none =>
      rw [findI_none hf] at HF
      have HR := Lib.hid (show syncR m name = (91, m) from by unfold syncR; rw [if_neg (show ¬ m.down = true by rw [HD.out]; simp)]; rw [hf])
      clear hf
      go_enter Try.func32, Try.ntmps32
      go_wp2_with fail
      refine HF.out.mono ?_
      rintro e w1 ⟨rfl, rfl⟩
      go_wp2_with fail
      go_ret
      exact ROp.same H.out _ _ HR.out
    | some i =>
      rw [findI_some hf] at HF
      have hi0 : ¬ ((i : Int) < 0) := by omega
      obtain ⟨f, hfi, -, hlt⟩ := findR_some hf
      obtain ⟨sb, hsb⟩ : ∃ sb, (stepR m).1 = sb := ⟨_, rfl⟩
      have HSB := Lib.hid hsb
      have hst := HST.out
      rw [hsb] at hst
      have HST2 := Lib.hid hst
      have HRS := Lib.hid (show syncR m name = stepsR m fun m => { dropR m i with files := (dropR m i).files ++ [{ f with settled := pagesR m f }] } from by unfold syncR; rw [if_neg (show ¬ m.down = true by rw [HD.out]; simp)]; rw [hf]; simp only; rw [hfi])
      have HFI := Lib.hid hfi
      clear hsb hst hf hfi
      cases sb
      · have HR := Lib.hid (show syncR m name = (7, (stepR m).2) from by rw [HRS.out]; exact steps_no HSB.out)
        go_enter Try.func32, Try.ntmps32
        go_wp2_with fail
        refine HF.out.mono ?_
        rintro e w1 ⟨rfl, rfl⟩
        go_wp2_with fail
        refine HST2.out.mono ?_
        rintro e w1 ⟨rfl, hA, hB⟩
        have HA := Lib.hid hA
        have HB := Lib.hid hB
        clear hA hB
        go_wp2_with fail
        go_ret
        rw [HR.out]
        exact ⟨rfl, RfP.here HA.out HB.out⟩
      · have HR := Lib.hid (show syncR m name = (0, { dropR (stepR m).2 i with files := (dropR (stepR m).2 i).files ++ [{ f with settled := pagesR (stepR m).2 f }] }) from by rw [HRS.out]; exact steps_yes HSB.out)
        go_enter Try.func32, Try.ntmps32
        go_wp2_with fail
        refine HF.out.mono ?_
        rintro e w1 ⟨rfl, rfl⟩
        go_wp2_with fail
        refine HST2.out.mono ?_
        rintro e w1 ⟨rfl, hA, hB⟩
        have HA := Lib.hid hA
        have HB := Lib.hid hB
        clear hA hB
        have hlt1 : i < (stepR m).2.files.length := by rw [(stepR_files m).1]; exact hlt
        have hfe : (stepR m).2.files[i] = f := by
          have h1 := HFI.out
          rw [← (stepR_files m).1] at h1
          exact (List.getElem?_eq_some_iff.1 h1).2
        have hsm : Small (stepR m).2 := HI.out.step.small (by rw [stepR_count]; split <;> omega)
        have HSM := Lib.hid hsm
        have hpg := pages_any HA.out hsm hlt1
        rw [hfe] at hpg
        have HPG := Lib.hid hpg
        have HFE := Lib.hid hfe
        have HLT := Lib.hid hlt1
        have hll := hsm.pages (List.getElem_mem hlt1) (stepR m).2.opens.length
        rw [List.take_length, hfe] at hll
        have hll : (pagesR (stepR m).2 f).length ≤ 4000000000 := hll
        clear hsm hpg hfe c8
        go_wp2_with fail
        refine HPG.out.mono ?_
        rintro e w2 ⟨lv, rfl, hrow, hb⟩
        obtain ⟨Al, cl, hsh, -, -⟩ := hrow.shape
        rw [List.length_map] at hsh
        subst hsh
        have HROW := Lib.hid hrow
        have HB2 := Lib.hid hb
        have H2 := Lib.hid (HA.out.below hb)
        clear hrow hb HPG
        obtain ⟨Af, cf, hvf, -, hcf⟩ := H2.out.files
        subst hvf
        obtain ⟨ad, sv, rfl, e0, e1, e2, erow⟩ := file_look hcf H2.out.fv HLT.out
        rw [HFE.out] at e0 e1 erow
        obtain ⟨Asv, csv, hsv, -, -⟩ := erow.shape
        subst hsv
        have k0 := H2.out.cell.1
        obtain ⟨no, hno⟩ : ∃ no : Nat, f.no = no := ⟨_, rfl⟩
        obtain ⟨nm, hnm⟩ : ∃ nm, f.name = nm := ⟨_, rfl⟩
        rw [hno] at e0
        rw [hnm] at e1
        have HNO := Lib.hid hno
        have HNM := Lib.hid hnm
        have hli2 : ((i : Nat) : Int) < (stepR m).2.files.length := by have := HLT.out; omega
        obtain ⟨sn, hsn⟩ : ∃ sn, (f.settled.map pgS).length = sn := ⟨_, rfl⟩
        rw [hsn] at e2
        clear hcf erow hno hnm hsn
        go_wp2_with fail
        generalize hw3 : w2.alloc (.cells #[.int .i64 (no : Int), .string nm, .slice Asv sn csv] 96) = w3
        have hb3 : Below w2.heap.size w2 w3 := by rw [← hw3]; exact (Below.refl _ _).alloc (Nat.le_refl _) _
        have hbx : w3.heap[w2.heap.size]? = some (.cells #[.int .i64 (no : Int), .string nm, .slice Asv sn csv] 96) := by rw [← hw3]; exact Go.heap_alloc_new w2 _
        have hsz3 : w2.heap.size < w3.heap.size := by rw [← hw3]; simp
        have H3 := Lib.hid (H2.out.below hb3)
        clear k0 e0 e1 e2 hw3
        refine (drop_any (i := i) H3.out HSM.out HLT.out).mono ?_
        rintro e w4 ⟨rfl, vf', vo', vs', hD, hfr, hnew⟩
        have hbn : w2.heap.size ∉ fpR p (.slice (some ad) (stepR m).2.files.length cf) vo := fun hi => absurd (H2.out.lt _ hi) (Nat.lt_irrefl _)
        have hbn' : w2.heap.size ∉ fpR p vf' vo' := fun hi => by
          rcases hnew _ hi with h1 | h1
          · exact hbn h1
          · omega
        have hbx4 : w4.heap[w2.heap.size]? = some (.cells #[.int .i64 (no : Int), .string nm, .slice Asv sn csv] 96) := hfr.kept hbn hbx
        have z0 : w4.cell? ⟨w2.heap.size, 2, none⟩ = some (.slice Asv sn csv) := cell_of (j := 2) hbx4 rfl
        have z1 : w4.frozen? ⟨w2.heap.size, 2, none⟩ = false := free_of hbx4 2
        have hrow4 := (HROW.out.below hb3).strs (.fr hfr H3.out.not_str)
        have HD4 := Lib.hid hD
        have HFR := Lib.hid (show Fr (fpR p (.slice (some ad) (stepR m).2.files.length cf) vo) w1 w4 from ((Fr.below HB2.out).and (Fr.below hb3)).and hfr)
        have HNEW := Lib.hid (fun j (hj : j ∈ fpR p vf' vo') => (hnew j hj).imp id fun h => Nat.le_trans (Nat.le_trans HB2.out.size hb3.size) h)
        have HBX := Lib.hid hbx4
        have HBN := Lib.hid hbn'
        have HR4 := Lib.hid hrow4
        clear hD hfr hnew hbn hbn' hbx4 hbx hsz3 hb3 hrow4 H3 H2 HSM HROW hli2
        go_wp2_with fail
        obtain ⟨ll, hlleq⟩ : ∃ ll, (pagesR (stepR m).2 f).length = ll := ⟨_, rfl⟩
        rw [hlleq] at hll HR4 ⊢
        have hne5 : ∀ j, j ≠ w2.heap.size → (w4.setCell ⟨w2.heap.size, 2, none⟩ (.slice Al ll cl)).heap[j]? = w4.heap[j]? := fun j hj => Below.heap_setCell w4 ⟨w2.heap.size, 2, none⟩ (.slice Al ll cl) j hj
        have hsk5 : StrKept w4 (w4.setCell ⟨w2.heap.size, 2, none⟩ (.slice Al ll cl)) := fun g cur fr hg => hne5 g fun e => by
          subst e
          have h1 := HBX.out
          rw [hg] at h1
          cases h1
        have h5 : RfAt (w4.setCell ⟨w2.heap.size, 2, none⟩ (.slice Al ll cl)) p vf' vo' vs' (dropR (stepR m).2 i) := HD4.out.kept (fun j hj => hne5 j fun e => HBN.out (e ▸ hj)) hsk5
        have hbx5 : (w4.setCell ⟨w2.heap.size, 2, none⟩ (.slice Al ll cl)).heap[w2.heap.size]? = some (.cells #[.int .i64 (no : Int), .string nm, .slice Al ll cl] 96) := setCell_heap (.slice Al ll cl) HBX.out
        have hr5 := HR4.out.strs hsk5
        have hfr5 : Fr (fpR p (.slice (some ad) (stepR m).2.files.length cf) vo) w1 (w4.setCell ⟨w2.heap.size, 2, none⟩ (.slice Al ll cl)) := HFR.out.put w2.heap.size 2 _ (.inr HB2.out.size)
        have HLL := Lib.hid hlleq
        clear z0 z1 hne5 hsk5 HD4 HBX HFR HR4 hlleq
        generalize w4.setCell ⟨w2.heap.size, 2, none⟩ (.slice Al ll cl) = w5 at h5 hbx5 hr5 hfr5 ⊢
        obtain ⟨A5, c5, hvf', -, -⟩ := h5.files
        subst hvf'
        have how := h5.of
        have hc0 := h5.cell.1
        obtain ⟨nf, hnf⟩ : ∃ nf, (dropR (stepR m).2 i).files.length = nf := ⟨_, rfl⟩
        have hnfl : nf ≤ 256 := by rw [← hnf]; exact (HI.out.step.drop i).files
        rw [hnf] at how hc0 h5 HNEW HBN
        have HNF := Lib.hid hnf
        have HOW := Lib.hid how
        have HBXF : w2.heap.size ∉ (Value.slice A5 nf c5).ownBlock.toList := fun hi => HBN.out (by simp [fpR]; exact .inr (.inl (by simpa using hi)))
        have hsc : ∀ V : World, Fr (Value.slice A5 nf c5).ownBlock.toList w5 V → V.cell? ⟨p, 0, none⟩ = some (.slice A5 nf c5) ∧ V.cell? ⟨w2.heap.size, 0, none⟩ = some (.int .i64 (no : Int)) ∧ V.cell? ⟨w2.heap.size, 1, none⟩ = some (.string nm) ∧ V.cell? ⟨w2.heap.size, 2, none⟩ = some (.slice Al ll cl) := fun V hV =>
          ⟨hV.cellKept h5.not_f hc0, hV.cellKept HBXF (cell_of (j := 0) hbx5 rfl), hV.cellKept HBXF (cell_of (j := 1) hbx5 rfl), hV.cellKept HBXF (cell_of (j := 2) hbx5 rfl)⟩
        have SC := Lib.hid hsc
        have H5 := Lib.hid h5
        have HR5 := Lib.hid hr5
        have HFR5 := Lib.hid hfr5
        have H1 : ∀ u ∈ [Value.int .i64 (no : Int), .string nm, .slice Al ll cl], u.oneCell' = true := by
          intro u hu
          simp only [List.mem_cons, List.not_mem_nil, or_false] at hu
          rcases hu with rfl | rfl | rfl <;> rfl
        have H1 := Lib.hid H1
        clear how hc0 hsc h5 hr5 hfr5 hbx5 HBXF hnf
        go_wp2_with fail
        refine wp_region_noPanic ?_
        refine wp_region_any (by kernel_rfl) (anyG_any (S := fun V : World => Fr (Value.slice A5 nf c5).ownBlock.toList w5 V) (n := 10) _ _ _ _ ?_)
        have hS : Fr (Value.slice A5 nf c5).ownBlock.toList w5 w5.drew := (Fr.refl _ _).drew
        change AnyG _ _ _ _ _ _ 11 (Array.replicate 11 false) _ w5.drew
        refine anyG_take (i := 0) (oi := ⟨_, _, _, _, _, _⟩) (v := ?_) rfl rfl (by kernel_rfl) (by kernel_rfl) (by kernel_rfl) (by kernel_rfl) (by kernel_rfl) (fun _ _ _ h => h) (Or.inl ⟨by rfl, ?_⟩) hS ?_
        rotate_left
        · (intro w' hSw; skip; go_simp; (try with_reducible rfl))
        try simp only [Act.put, List.setIfInBounds_toArray, List.set_cons_zero, List.set_cons_succ]
        refine anyG_take (i := 1) (oi := ⟨_, _, _, _, _, _⟩) (v := ?_) rfl rfl (by kernel_rfl) (by kernel_rfl) (by kernel_rfl) (by kernel_rfl) (by kernel_rfl) (fun _ _ _ h => h) (Or.inl ⟨by rfl, ?_⟩) hS ?_
        rotate_left
        · (intro w' hSw; skip; go_simp; (try with_reducible rfl))
        try simp only [Act.put, List.setIfInBounds_toArray, List.set_cons_zero, List.set_cons_succ]
        refine anyG_take (i := 2) (oi := ⟨_, _, _, _, _, _⟩) (v := ?_) rfl rfl (by kernel_rfl) (by kernel_rfl) (by kernel_rfl) (by kernel_rfl) (by kernel_rfl) (fun _ _ _ h => h) (Or.inl ⟨by rfl, ?_⟩) hS ?_
        rotate_left
        · (intro w' hSw; skip; go_simp; (try with_reducible rfl))
        try simp only [Act.put, List.setIfInBounds_toArray, List.set_cons_zero, List.set_cons_succ]
        refine anyG_take (i := 3) (oi := ⟨_, _, _, _, _, _⟩) (v := ?_) rfl rfl (by kernel_rfl) (by kernel_rfl) (by kernel_rfl) (by kernel_rfl) (by kernel_rfl) (fun _ _ _ h => h) (Or.inl ⟨by rfl, ?_⟩) hS ?_
        rotate_left
        · (intro w' hSw; skip; go_simp; (try with_reducible rfl))
        try simp only [Act.put, List.setIfInBounds_toArray, List.set_cons_zero, List.set_cons_succ]
        refine anyG_take (i := 4) (oi := ⟨_, _, _, _, _, _⟩) (v := ?_) rfl rfl (by kernel_rfl) (by kernel_rfl) (by kernel_rfl) (by kernel_rfl) (by kernel_rfl) (fun _ _ _ h => h) (Or.inl ⟨by rfl, ?_⟩) hS ?_
        rotate_left
        · (intro w' hSw; obtain ⟨s1, s2, s3, s4⟩ := SC.out _ hSw; go_simp; (try with_reducible rfl))
        try simp only [Act.put, List.setIfInBounds_toArray, List.set_cons_zero, List.set_cons_succ]
        refine anyG_take (i := 5) (oi := ⟨_, _, _, _, _, _⟩) (v := ?_) rfl rfl (by kernel_rfl) (by kernel_rfl) (by kernel_rfl) (by kernel_rfl) (by kernel_rfl) (fun _ _ _ h => h) (Or.inl ⟨by rfl, ?_⟩) hS ?_
        rotate_left
        · (intro w' hSw; obtain ⟨s1, s2, s3, s4⟩ := SC.out _ hSw; go_simp; (try with_reducible rfl))
        try simp only [Act.put, List.setIfInBounds_toArray, List.set_cons_zero, List.set_cons_succ]
        refine anyG_all (rs := [6]) (by kernel_rfl) (by simp) (List.forall_mem_singleton.2 ?_)
        refine wpOp_step (o := ⟨_, _, _, _, _, _⟩) rfl (fun K' hK => ?_)
        have HK := Lib.hid hK
        clear hK
        rw [if_pos (by rfl)]
        go_simp
        refine HK.out _ _ ⟨fun _ => hS.alloc _, ?_⟩
        clear HK
        have hS := hS.alloc (.cells #[.int .i64 (no : Int), .string nm, .slice Al ll cl] 96)
        try simp only [Act.put, List.setIfInBounds_toArray, List.set_cons_zero, List.set_cons_succ]
        refine anyG_all (rs := [7]) (by kernel_rfl) (by simp) (List.forall_mem_singleton.2 ?_)
        refine wpOp_step (o := ⟨_, _, _, _, _, _⟩) rfl (fun K' hK => ?_)
        have HK := Lib.hid hK
        clear hK
        rw [if_pos (by rfl)]
        refine wp_appk slRFile _ _ rfl 0 (.slice A5 nf c5) nf vs' rfl (own_below HOW.out ((Below.refl _ _).drew.alloc (Nat.le_refl _) _)) (some ⟨w5.drew.heap.size, 0, none⟩) 1 1 [.int .i64 (no : Int), .string nm, .slice Al ll cl] rfl rfl (fresh_cells w5.drew _ _) H1.out (by omega) (by omega) (Nat.zero_le _) ?_
        intro v6 w6 ho6 hg6 hb6 hat6
        obtain ⟨A6, c6, hv6, -, -⟩ := own_shape ho6
        subst hv6
        have hf6 : Fr (Value.slice A5 nf c5).ownBlock.toList w5 w6 := hS.trans (Fr.grown hg6 fun k hk _ => by rw [hk]; simp) fun i hi _ => hi
        have hD := H5.out.add_file (f := ⟨no, nm, pagesR (stepR m).2 f⟩) hf6 (by rw [HNF.out]; exact ho6) ((HR5.out.strs (H5.out.strs_f hf6)).base_le (Nat.zero_le _)) (by
          rcases hat6 with e | e
          · exact .inl e
          · exact .inr ⟨_, e, by simp⟩)
        have HF6 := Lib.hid hf6
        have HDD := Lib.hid hD
        have z0 := (SC.out _ hf6).1
        have z1 : w6.frozen? ⟨p, 0, none⟩ = false := (RfAt.freeOf H5.out hf6 0)
        clear ho6 hg6 hb6 hat6 hf6 hD hS
        have hS := HF6.out
        refine HK.out _ _ ⟨fun _ => hS, ?_⟩
        clear HK
        try simp only [Act.put, List.setIfInBounds_toArray, List.set_cons_zero, List.set_cons_succ]
        refine anyG_all (rs := [8]) (by kernel_rfl) (by simp) (List.forall_mem_singleton.2 ?_)
        refine wpOp_step (o := ⟨_, _, _, _, _, _⟩) rfl (fun K' hK => ?_)
        have HK := Lib.hid hK
        clear hK
        rw [if_pos (by rfl)]
        go_simp
        refine HK.out _ _ ⟨fun _ => hS, ?_⟩
        clear HK
        try simp only [Act.put, List.setIfInBounds_toArray, List.set_cons_zero, List.set_cons_succ]
        refine anyG_all (rs := [9]) (by kernel_rfl) (by simp) (List.forall_mem_singleton.2 ?_)
        refine wpOp_step (o := ⟨_, _, _, _, _, _⟩) rfl (fun K' hK => ?_)
        have HK := Lib.hid hK
        clear hK
        rw [if_pos (by rfl)]
        go_simp
        refine HK.out _ _ ⟨fun _ => hS, ?_⟩
        clear HK
        try simp only [Act.put, List.setIfInBounds_toArray, List.set_cons_zero, List.set_cons_succ]
        refine anyG_all (rs := [10]) (by kernel_rfl) (by simp) (List.forall_mem_singleton.2 ?_)
        refine wpOp_step (o := ⟨_, _, _, _, _, _⟩) rfl (fun K' hK => ?_)
        have HK := Lib.hid hK
        clear hK
        rw [if_pos (by rfl)]
        go_simp
        refine HK.out _ _ ⟨fun h => absurd rfl h, anyG_done (by kernel_rfl) ?_⟩
        clear HK
        refine NoPanic.normal ?_
        clear hS SC z0 z1
        go_wp2_with fail
        go_ret
        rw [HR.out]
        have h9 := HDD.out.1
        simp only [show (⟨no, nm, pagesR (stepR m).2 f⟩ : RFile) = { f with settled := pagesR (stepR m).2 f } by rw [← HNO.out, ← HNM.out]] at h9
        exact ⟨rfl, RfP.first HB.out (RfP.trans HFR5.out HNEW.out ⟨_, _, _, h9, HDD.out.2.1, HDD.out.2.2⟩)⟩
  · have HR := Lib.hid (show syncR m name = (7, m) from by unfold syncR; rw [if_pos HD.out])
    go_enter Try.func32, Try.ntmps32
    go_wp2_with fail
    go_ret
    exact ROp.same H.out _ _ HR.out
end Go.Proofs.Ytikbphafpmdpeaa

set_option linter.all false
namespace Go.Proofs.Ytikbphafpmdpeaa
open Go.RowKit

theorem own_putk {w : World} {base k n : Nat} {E : TypeId} {v : Value} {xs : List Value} (h : w.ownsRow base E k v n xs) {i : Nat} (hi : i < xs.length) (u : Value) :
    ∃ g c, v = .slice (some ⟨g, 0, none⟩) n c ∧ w.cell? ⟨g, i, none⟩ = some (xs[i]'hi) ∧ w.frozen? ⟨g, i, none⟩ = false ∧ (w.setCell ⟨g, i, none⟩ u).ownsRow base E k v n (xs.set i u) := by
  have hl := h.1
  rcases h.2 with ⟨-, h0⟩ | ⟨g, cap, cur, rfl, hg, hh, hnc, hm, hs, ht⟩
  · subst h0
    rw [hl] at hi
    omega
  · have hic : i < cur.size := by
      have h1 := congrArg List.length ht
      rw [List.length_take, Array.length_toList] at h1
      omega
    have hxi : cur[i]? = some (xs[i]'hi) := by
      have h1 : (cur.toList.take (n * k))[i]? = xs[i]? := by rw [ht]
      rw [List.getElem?_take] at h1
      split at h1
      · rw [List.getElem?_eq_getElem hi] at h1
        simpa using h1
      · rw [List.getElem?_eq_getElem hi] at h1
        cases h1
    refine ⟨g, cap, rfl, cell_of hh hxi, free_of hh i, by rw [List.length_set]; exact hl, .inr ⟨g, cap, cur.setIfInBounds i u, rfl, hg, setCell_heap u hh, hnc, hm, by rw [Array.size_setIfInBounds]; exact hs, ?_⟩⟩
    rw [Array.toList_setIfInBounds, List.take_set, ht]
section
variable {p : Nat} {vo : Value} {vs : List Value} {m : RefT} {w : World} {ad : Addr} {nf cf : Nat}
theorem RfAt.put_cell (h : RfAt w p (.slice (some ad) nf cf) vo vs m) {j o : Nat} (hj : j < m.files.length) (ho : o < 3) (ho0 : 0 < o) : ∃ x, vs[j * 3 + o]? = some x ∧
    w.cell? ⟨(ad.add (j * 3)).block, (ad.add (j * 3)).off + o, none⟩ = some x ∧ w.frozen? ⟨(ad.add (j * 3)).block, (ad.add (j * 3)).off + o, none⟩ = false ∧
    ∀ (u : Value) (fs : List RFile), FilesVs w fs (vs.set (j * 3 + o) u) → fs.length = m.files.length →
      RfAt (w.setCell ⟨(ad.add (j * 3)).block, (ad.add (j * 3)).off + o, none⟩ u) p (.slice (some ad) nf cf) vo (vs.set (j * 3 + o) u) { m with files := fs } ∧ Fr (fpR p (.slice (some ad) nf cf) vo) w (w.setCell ⟨(ad.add (j * 3)).block, (ad.add (j * 3)).off + o, none⟩ u) := by
  have hvl := h.fv.len
  have hi : j * 3 + o < vs.length := by rw [hvl]; omega
  have hput := fun u => own_putk h.of hi u
  obtain ⟨g, c, hv, h1, h2, -⟩ := hput (.bool true)
  injection hv with hv1 hv2 hv3
  injection hv1 with hv1
  subst hv1
  rw [next_add _ _ _ ho0, Go.WideShapes.add_plain, Nat.zero_add]
  refine ⟨_, List.getElem?_eq_getElem hi, h1, h2, fun u fs hfs hlen => ?_⟩
  obtain ⟨g', c', hv', -, -, h5⟩ := hput u
  injection hv' with hv1'
  injection hv1' with hv1'
  injection hv1' with hv1'
  subst hv1'
  have hgf : (Value.slice (some ⟨g, 0, none⟩) nf cf).ownBlock = some g := rfl
  have hgp : g ≠ p := fun e => h.ne_f (by rw [hgf, e])
  have hne : ∀ i, i ≠ g → (w.setCell ⟨g, j * 3 + o, none⟩ u).heap[i]? = w.heap[i]? := fun i hi => Below.heap_setCell w ⟨g, j * 3 + o, none⟩ u i hi
  obtain ⟨cur, hcur⟩ := row_kind h.of hgf
  refine ⟨⟨(hne p (Ne.symm hgp)).trans h.blk, by rw [show ({ m with files := fs } : RefT).files.length = m.files.length from hlen]; exact h5, ownsRow_block h.oo fun i hi => hne i fun e => h.ne_fo hgf (by rw [hi, e]), hfs.kept fun i cur2 fr hi => hne i fun e => by
    subst e
    rw [hcur] at hi
    cases hi⟩, (Fr.refl _ w).put g _ u (.inl (by simp [fpR, Value.ownBlock]))⟩
end
theorem findR_ex {fs : List RFile} {name : ByteArray} {f : RFile} (hf : f ∈ fs) (h : f.name = name) : ∃ j, findR fs name = some j := by
  cases hq : findR fs name with
  | some j => exact ⟨j, rfl⟩
  | none => exact absurd h (findR_none hq f hf)
/-- Who is not dropped is found still. -/
theorem find_dropN {m : RefT} {src dst : ByteArray} (hne : src ≠ dst) {i : Nat} (h : findR m.files src = some i) : ∃ j, findR (dropN m dst).files src = some j := by
  obtain ⟨f, hf, hn, -⟩ := findR_some h
  have hm := List.mem_of_getElem? hf
  unfold dropN
  cases hk : findR m.files dst with
  | none => exact ⟨i, h⟩
  | some k =>
    obtain ⟨g, hg, hgn, -⟩ := findR_some hk
    refine findR_ex (f := f) ?_ hn
    show f ∈ (dropR m k).files
    unfold dropR
    rw [hg]
    refine List.mem_eraseIdx_iff_getElem?.2 ⟨i, fun e => ?_, hf⟩
    subst e
    rw [hg] at hf
    injection hf with hf
    subst hf
    exact hne (hn.symm.trans hgn)
set_option maxRecDepth 100000 in
set_option maxHeartbeats 8000000 in
theorem rrename_any {p : Nat} {vf vo : Value} {vs : List Value} {m : RefT} {w : World} (h : RfAt w p vf vo vs m) (hi : RInv m) (hc : m.count ≤ 3999999999) (name dst : ByteArray) :
    Calls Try.prog 33 #[.pointer (some ⟨p, 0, none⟩), .string name, .string dst] w (ROp w p vf vo (renameR m name dst)) := by
  have c8 := h.cell.2.2.2.2.2.2.2.2
  have H := Lib.hid h
  have HI := Lib.hid hi
  have HF := Lib.hid (rfind_any name h (Nat.le_trans hi.files (by decide)))
  have HN := Lib.hid (rnamed_any dst w)
  have HST := Lib.hid (rstep_any h hc hi.inn)
  have hlf := hi.files
  obtain ⟨dn, hdn⟩ : ∃ dn, m.down = dn := ⟨_, rfl⟩
  rw [hdn] at c8
  have HD := Lib.hid hdn
  clear h hi hdn
  cases dn
  · cases hf : findR m.files name with
    | none =>
      rw [findI_none hf] at HF
      have hm1 : ((-1 : Int) < 0) := by omega
      have HR := Lib.hid (show renameR m name dst = (91, m) from by unfold renameR; rw [if_neg (show ¬ m.down = true by rw [HD.out]; simp)]; rw [hf])
      clear hf
      go_enter Try.func33, Try.ntmps33
      go_wp2_with fail
      refine HF.out.mono ?_
      rintro e w1 ⟨rfl, rfl⟩
      go_wp2_with fail
      go_ret
      exact ROp.same H.out _ _ HR.out
    | some i =>
      rw [findI_some hf] at HF
      have hi0 : ¬ ((i : Int) < 0) := by omega
      cases hnb : namedB dst
      · rw [hnb] at HN
        have HR := Lib.hid (show renameR m name dst = (2, m) from by unfold renameR; rw [if_neg (show ¬ m.down = true by rw [HD.out]; simp)]; rw [hf]; simp only; rw [if_pos hnb])
        clear hf hnb
        go_enter Try.func33, Try.ntmps33
        go_wp2_with fail
        refine HF.out.mono ?_
        rintro e w1 ⟨rfl, rfl⟩
        go_wp2_with fail
        refine HN.out.mono ?_
        rintro e w1 ⟨rfl, rfl⟩
        go_wp2_with fail
        go_ret
        exact ROp.same H.out _ _ HR.out
      · rw [hnb] at HN
        obtain ⟨sb, hsb⟩ : ∃ sb, (stepR m).1 = sb := ⟨_, rfl⟩
        have HSB := Lib.hid hsb
        have hst := HST.out
        rw [hsb] at hst
        have HST2 := Lib.hid hst
        have HRS := Lib.hid (show renameR m name dst = stepsR m fun m => if name = dst then m else nameR (dropN m dst) (findI (dropN m dst).files name).toNat dst from by unfold renameR; rw [if_neg (show ¬ m.down = true by rw [HD.out]; simp)]; rw [hf]; simp only; rw [if_neg (by rw [hnb]; simp)])
        have HQ := Lib.hid hf
        clear hsb hst hf hnb
        cases sb
        · have HR := Lib.hid (show renameR m name dst = (7, (stepR m).2) from by rw [HRS.out]; exact steps_no HSB.out)
          go_enter Try.func33, Try.ntmps33
          go_wp2_with fail
          refine HF.out.mono ?_
          rintro e w1 ⟨rfl, rfl⟩
          go_wp2_with fail
          refine HN.out.mono ?_
          rintro e w1 ⟨rfl, rfl⟩
          go_wp2_with fail
          refine HST2.out.mono ?_
          rintro e w1 ⟨rfl, hA, hB⟩
          have HA := Lib.hid hA
          have HB := Lib.hid hB
          clear hA hB
          go_wp2_with fail
          go_ret
          rw [HR.out]
          exact ⟨rfl, RfP.here HA.out HB.out⟩
        · by_cases heq : name = dst
          · have he := tl_t heq
            have HR := Lib.hid (show renameR m name dst = (0, (stepR m).2) from by rw [HRS.out, steps_yes HSB.out, if_pos heq])
            clear heq
            go_enter Try.func33, Try.ntmps33
            go_wp2_with fail
            refine HF.out.mono ?_
            rintro e w1 ⟨rfl, rfl⟩
            go_wp2_with fail
            refine HN.out.mono ?_
            rintro e w1 ⟨rfl, rfl⟩
            go_wp2_with fail
            refine HST2.out.mono ?_
            rintro e w1 ⟨rfl, hA, hB⟩
            have HA := Lib.hid hA
            have HB := Lib.hid hB
            clear hA hB
            go_wp2_with fail
            go_ret
            rw [HR.out]
            exact ⟨rfl, RfP.here HA.out HB.out⟩
          · have he := tl_f heq
            have HR := Lib.hid (show renameR m name dst = (0, nameR (dropN (stepR m).2 dst) (findI (dropN (stepR m).2 dst).files name).toNat dst) from by rw [HRS.out, steps_yes HSB.out, if_neg heq])
            have HEQ := Lib.hid heq
            clear heq
            cases hf2 : findR (stepR m).2.files dst with
            | none =>
              have hk1 : ¬ ((-1 : Int) ≥ 0) := by omega
              have hdn2 : dropN (stepR m).2 dst = (stepR m).2 := by unfold dropN; rw [hf2]
              have HF2 := Lib.hid (fun (V : World) (hV : RfAt V p vf vo vs (stepR m).2) => rfind_any dst hV (Nat.le_trans HI.out.step.files (by decide)))
              rw [findI_none hf2] at HF2
              have HDN2 := Lib.hid hdn2
              clear hf2 hdn2
              go_enter Try.func33, Try.ntmps33
              go_wp2_with fail
              refine HF.out.mono ?_
              rintro e w1 ⟨rfl, rfl⟩
              go_wp2_with fail
              refine HN.out.mono ?_
              rintro e w1 ⟨rfl, rfl⟩
              go_wp2_with fail
              refine HST2.out.mono ?_
              rintro e w1 ⟨rfl, hA, hB⟩
              have HA := Lib.hid hA
              have HB := Lib.hid hB
              clear hA hB
              go_wp2_with fail
              refine (HF2.out _ HA.out).mono ?_
              rintro e w3 ⟨rfl, hw3⟩
              subst hw3
              obtain ⟨vf', vo', vs', hD, hfr, hnew⟩ : RfP w1 p vf vo (dropN (stepR m).2 dst) w1 := by rw [HDN2.out]; exact RfP.here HA.out (Fr.refl _ _)
              obtain ⟨j, hj⟩ := find_dropN (m := (stepR m).2) HEQ.out (by rw [(stepR_files m).1]; exact HQ.out)
              have hjl : j < (dropN (stepR m).2 dst).files.length := by obtain ⟨f, -, -, h4⟩ := findR_some hj; exact h4
              have HFJ := Lib.hid (fun (V : World) (hV : RfAt V p vf' vo' vs' (dropN (stepR m).2 dst)) => rfind_any name hV (Nat.le_trans (HI.out.step.dropN dst).files (by decide)))
              rw [findI_some hj] at HFJ
              have HRJ := Lib.hid (show (findI (dropN (stepR m).2 dst).files name).toNat = j by rw [findI_some hj]; rfl)
              obtain ⟨Af, cf, hvf, -, hcf⟩ := hD.files
              have hvl := hD.fv.len
              obtain ⟨ad, hAd⟩ : ∃ ad, Af = some ad := by
                obtain ⟨ad, e, -⟩ := hcf (by rw [hvl]; omega)
                exact ⟨ad, e⟩
              subst hAd
              subst hvf
              obtain ⟨nm0, hx, z0, z1, hput⟩ := hD.put_cell (j := j) (o := 1) hjl (by decide) (by decide)
              have hc0 := hD.cell.1
              have hji : ((j : Nat) : Int) < (dropN (stepR m).2 dst).files.length := by omega
              have hdone := hput (.string dst) ((dropN (stepR m).2 dst).files.modify j fun f => { f with name := dst }) (hD.fv.modName dst j) (by simp)
              have HDN := Lib.hid hdone
              have HD3 := Lib.hid hD
              have HFR := Lib.hid hfr
              have HNEW := Lib.hid hnew
              have hlf3 : (dropN (stepR m).2 dst).files.length ≤ 256 := (HI.out.step.dropN dst).files
              have hsc : ∀ V : World, Fr [] w1 V → V.cell? ⟨p, 0, none⟩ = some (.slice (some ad) (dropN (stepR m).2 dst).files.length cf) := fun V hV => hV.cellKept (by simp) hc0
              have SC := Lib.hid hsc
              clear hD hfr hnew hj hcf hvl hx hput hdone hsc hc0 c8
              go_wp2_with fail
              refine wp_region_noPanic ?_
              refine wp_region_any (by kernel_rfl) (anyG_any (S := fun V : World => Fr [] w1 V) (n := 10) _ _ _ _ ?_)
              have hS : Fr [] w1 w1.drew := (Fr.refl _ _).drew
              change AnyG _ _ _ _ _ _ 11 (Array.replicate 11 false) _ w1.drew
              refine anyG_take (i := 0) (oi := ⟨_, _, _, _, _, _⟩) (v := ?_) rfl rfl (by kernel_rfl) (by kernel_rfl) (by kernel_rfl) (by kernel_rfl) (by kernel_rfl) (fun _ _ _ h => h) (Or.inl ⟨by rfl, ?_⟩) hS ?_
              rotate_left
              · (intro w' hSw; skip; go_simp; (try with_reducible rfl))
              try simp only [Act.put, List.setIfInBounds_toArray, List.set_cons_zero, List.set_cons_succ]
              refine anyG_take (i := 1) (oi := ⟨_, _, _, _, _, _⟩) (v := ?_) rfl rfl (by kernel_rfl) (by kernel_rfl) (by kernel_rfl) (by kernel_rfl) (by kernel_rfl) (fun _ _ _ h => h) (Or.inl ⟨by rfl, ?_⟩) hS ?_
              rotate_left
              · (intro w' hSw; skip; go_simp; (try with_reducible rfl))
              try simp only [Act.put, List.setIfInBounds_toArray, List.set_cons_zero, List.set_cons_succ]
              refine anyG_take (i := 2) (oi := ⟨_, _, _, _, _, _⟩) (v := ?_) rfl rfl (by kernel_rfl) (by kernel_rfl) (by kernel_rfl) (by kernel_rfl) (by kernel_rfl) (fun _ _ _ h => h) (Or.inl ⟨by rfl, ?_⟩) hS ?_
              rotate_left
              · (intro w' hSw; skip; go_simp; (try with_reducible rfl))
              try simp only [Act.put, List.setIfInBounds_toArray, List.set_cons_zero, List.set_cons_succ]
              refine anyG_take (i := 3) (oi := ⟨_, _, _, _, _, _⟩) (v := ?_) rfl rfl (by kernel_rfl) (by kernel_rfl) (by kernel_rfl) (by kernel_rfl) (by kernel_rfl) (fun _ _ _ h => h) (Or.inl ⟨by rfl, ?_⟩) hS ?_
              rotate_left
              · (intro w' hSw; have s1 := SC.out _ hSw; go_simp; (try with_reducible rfl))
              try simp only [Act.put, List.setIfInBounds_toArray, List.set_cons_zero, List.set_cons_succ]
              refine anyG_take (i := 4) (oi := ⟨_, _, _, _, _, _⟩) (v := ?_) rfl rfl (by kernel_rfl) (by kernel_rfl) (by kernel_rfl) (by kernel_rfl) (by kernel_rfl) (fun _ _ _ h => h) (Or.inl ⟨by rfl, ?_⟩) hS ?_
              rotate_left
              · (intro w' hSw; skip; go_simp; (try with_reducible rfl))
              try simp only [Act.put, List.setIfInBounds_toArray, List.set_cons_zero, List.set_cons_succ]
              refine anyG_take (i := 5) (oi := ⟨_, _, _, _, _, _⟩) (v := ?_) rfl rfl (by kernel_rfl) (by kernel_rfl) (by kernel_rfl) (by kernel_rfl) (by kernel_rfl) (fun _ _ _ h => h) (Or.inl ⟨by rfl, ?_⟩) hS ?_
              rotate_left
              · (intro w' hSw; skip; go_simp; (try with_reducible rfl))
              try simp only [Act.put, List.setIfInBounds_toArray, List.set_cons_zero, List.set_cons_succ]
              refine anyG_take (i := 7) (oi := ⟨_, _, _, _, _, _⟩) (v := ?_) rfl rfl (by kernel_rfl) (by kernel_rfl) (by kernel_rfl) (by kernel_rfl) (by kernel_rfl) (fun _ _ _ h => h) (Or.inl ⟨by rfl, ?_⟩) hS ?_
              rotate_left
              · (intro w' hSw; skip; go_simp; (try with_reducible rfl))
              try simp only [Act.put, List.setIfInBounds_toArray, List.set_cons_zero, List.set_cons_succ]
              refine anyG_all (rs := [6]) (by kernel_rfl) (by simp) (List.forall_mem_singleton.2 ?_)
              refine wpOp_step (o := ⟨_, _, _, _, _, _⟩) rfl (fun K' hK => ?_)
              have HK := Lib.hid hK
              clear hK
              rw [if_pos (by rfl)]
              go_simp
              refine (HFJ.out w1.drew (HD3.out.heap rfl)).mono ?_
              rintro e V6 ⟨rfl, rfl⟩
              go_wp2_with fail
              refine HK.out _ _ ⟨fun _ => hS, ?_⟩
              clear HK
              try simp only [Act.put, List.setIfInBounds_toArray, List.set_cons_zero, List.set_cons_succ]
              refine anyG_all (rs := [8]) (by kernel_rfl) (by simp) (List.forall_mem_singleton.2 ?_)
              refine wpOp_step (o := ⟨_, _, _, _, _, _⟩) rfl (fun K' hK => ?_)
              have HK := Lib.hid hK
              clear hK
              rw [if_pos (by rfl)]
              go_simp
              refine HK.out _ _ ⟨fun _ => hS, ?_⟩
              clear HK
              try simp only [Act.put, List.setIfInBounds_toArray, List.set_cons_zero, List.set_cons_succ]
              refine anyG_all (rs := [9]) (by kernel_rfl) (by simp) (List.forall_mem_singleton.2 ?_)
              refine wpOp_step (o := ⟨_, _, _, _, _, _⟩) rfl (fun K' hK => ?_)
              have HK := Lib.hid hK
              clear hK
              rw [if_pos (by rfl)]
              go_simp
              refine HK.out _ _ ⟨fun _ => hS, ?_⟩
              clear HK
              try simp only [Act.put, List.setIfInBounds_toArray, List.set_cons_zero, List.set_cons_succ]
              refine anyG_all (rs := [10]) (by kernel_rfl) (by simp) (List.forall_mem_singleton.2 ?_)
              refine wpOp_step (o := ⟨_, _, _, _, _, _⟩) rfl (fun K' hK => ?_)
              have HK := Lib.hid hK
              clear hK
              rw [if_pos (by rfl)]
              have z0' : w1.drew.cell? ⟨(ad.add (j * 3)).block, (ad.add (j * 3)).off + 1, none⟩ = some nm0 := z0
              have z1' : w1.drew.frozen? ⟨(ad.add (j * 3)).block, (ad.add (j * 3)).off + 1, none⟩ = false := z1
              go_simp
              refine HK.out _ _ ⟨fun h => absurd rfl h, anyG_done (by kernel_rfl) ?_⟩
              clear HK
              refine NoPanic.normal ?_
              clear hS SC z0 z1 z0' z1'
              go_wp2_with fail
              go_ret
              rw [HR.out, HRJ.out]
              have h9 := HDN.out.1.heap (w' := w1.drew.setCell ⟨(ad.add (j * 3)).block, (ad.add (j * 3)).off + 1, none⟩ (.string dst)) rfl
              have hfr9 : Fr (fpR p (.slice (some ad) (dropN (stepR m).2 dst).files.length cf) vo') w1 (w1.drew.setCell ⟨(ad.add (j * 3)).block, (ad.add (j * 3)).off + 1, none⟩ (.string dst)) := ⟨rfl, rfl, rfl, HDN.out.2.size, HDN.out.2.block⟩
              exact ⟨rfl, RfP.first HB.out (RfP.trans HFR.out HNEW.out ⟨_, _, _, h9, hfr9, fun i hi => .inl hi⟩)⟩
            | some k =>
              have hk1 : ((k : Int) ≥ 0) := by omega
              have hdn2 : dropN (stepR m).2 dst = dropR (stepR m).2 k := by unfold dropN; rw [hf2]
              have hkl : k < (stepR m).2.files.length := by obtain ⟨f, -, -, h4⟩ := findR_some hf2; exact h4
              have HF2 := Lib.hid (fun (V : World) (hV : RfAt V p vf vo vs (stepR m).2) => rfind_any dst hV (Nat.le_trans HI.out.step.files (by decide)))
              rw [findI_some hf2] at HF2
              have HDN2 := Lib.hid hdn2
              clear hf2 hdn2
              go_enter Try.func33, Try.ntmps33
              go_wp2_with fail
              refine HF.out.mono ?_
              rintro e w1 ⟨rfl, rfl⟩
              go_wp2_with fail
              refine HN.out.mono ?_
              rintro e w1 ⟨rfl, rfl⟩
              go_wp2_with fail
              refine HST2.out.mono ?_
              rintro e w1 ⟨rfl, hA, hB⟩
              have HA := Lib.hid hA
              have HB := Lib.hid hB
              clear hA hB
              go_wp2_with fail
              refine (HF2.out _ HA.out).mono ?_
              rintro e w2 ⟨rfl, hw2⟩
              subst hw2
              go_wp2_with fail
              refine (drop_any (i := k) HA.out (HI.out.step.small (by rw [stepR_count]; split <;> omega)) hkl).mono ?_
              rintro e w3 ⟨rfl, hP⟩
              rw [← HDN2.out] at hP
              obtain ⟨vf', vo', vs', hD, hfr, hnew⟩ := hP
              obtain ⟨j, hj⟩ := find_dropN (m := (stepR m).2) HEQ.out (by rw [(stepR_files m).1]; exact HQ.out)
              have hjl : j < (dropN (stepR m).2 dst).files.length := by obtain ⟨f, -, -, h4⟩ := findR_some hj; exact h4
              have HFJ := Lib.hid (fun (V : World) (hV : RfAt V p vf' vo' vs' (dropN (stepR m).2 dst)) => rfind_any name hV (Nat.le_trans (HI.out.step.dropN dst).files (by decide)))
              rw [findI_some hj] at HFJ
              have HRJ := Lib.hid (show (findI (dropN (stepR m).2 dst).files name).toNat = j by rw [findI_some hj]; rfl)
              obtain ⟨Af, cf, hvf, -, hcf⟩ := hD.files
              have hvl := hD.fv.len
              obtain ⟨ad, hAd⟩ : ∃ ad, Af = some ad := by
                obtain ⟨ad, e, -⟩ := hcf (by rw [hvl]; omega)
                exact ⟨ad, e⟩
              subst hAd
              subst hvf
              obtain ⟨nm0, hx, z0, z1, hput⟩ := hD.put_cell (j := j) (o := 1) hjl (by decide) (by decide)
              have hc0 := hD.cell.1
              have hji : ((j : Nat) : Int) < (dropN (stepR m).2 dst).files.length := by omega
              have hdone := hput (.string dst) ((dropN (stepR m).2 dst).files.modify j fun f => { f with name := dst }) (hD.fv.modName dst j) (by simp)
              have HDN := Lib.hid hdone
              have HD3 := Lib.hid hD
              have HFR := Lib.hid hfr
              have HNEW := Lib.hid hnew
              have hlf3 : (dropN (stepR m).2 dst).files.length ≤ 256 := (HI.out.step.dropN dst).files
              have hsc : ∀ V : World, Fr [] w3 V → V.cell? ⟨p, 0, none⟩ = some (.slice (some ad) (dropN (stepR m).2 dst).files.length cf) := fun V hV => hV.cellKept (by simp) hc0
              have SC := Lib.hid hsc
              clear hD hfr hnew hj hcf hvl hx hput hdone hsc hc0 c8
              go_wp2_with fail
              refine wp_region_noPanic ?_
              refine wp_region_any (by kernel_rfl) (anyG_any (S := fun V : World => Fr [] w3 V) (n := 10) _ _ _ _ ?_)
              have hS : Fr [] w3 w3.drew := (Fr.refl _ _).drew
              change AnyG _ _ _ _ _ _ 11 (Array.replicate 11 false) _ w3.drew
              refine anyG_take (i := 0) (oi := ⟨_, _, _, _, _, _⟩) (v := ?_) rfl rfl (by kernel_rfl) (by kernel_rfl) (by kernel_rfl) (by kernel_rfl) (by kernel_rfl) (fun _ _ _ h => h) (Or.inl ⟨by rfl, ?_⟩) hS ?_
              rotate_left
              · (intro w' hSw; skip; go_simp; (try with_reducible rfl))
              try simp only [Act.put, List.setIfInBounds_toArray, List.set_cons_zero, List.set_cons_succ]
              refine anyG_take (i := 1) (oi := ⟨_, _, _, _, _, _⟩) (v := ?_) rfl rfl (by kernel_rfl) (by kernel_rfl) (by kernel_rfl) (by kernel_rfl) (by kernel_rfl) (fun _ _ _ h => h) (Or.inl ⟨by rfl, ?_⟩) hS ?_
              rotate_left
              · (intro w' hSw; skip; go_simp; (try with_reducible rfl))
              try simp only [Act.put, List.setIfInBounds_toArray, List.set_cons_zero, List.set_cons_succ]
              refine anyG_take (i := 2) (oi := ⟨_, _, _, _, _, _⟩) (v := ?_) rfl rfl (by kernel_rfl) (by kernel_rfl) (by kernel_rfl) (by kernel_rfl) (by kernel_rfl) (fun _ _ _ h => h) (Or.inl ⟨by rfl, ?_⟩) hS ?_
              rotate_left
              · (intro w' hSw; skip; go_simp; (try with_reducible rfl))
              try simp only [Act.put, List.setIfInBounds_toArray, List.set_cons_zero, List.set_cons_succ]
              refine anyG_take (i := 3) (oi := ⟨_, _, _, _, _, _⟩) (v := ?_) rfl rfl (by kernel_rfl) (by kernel_rfl) (by kernel_rfl) (by kernel_rfl) (by kernel_rfl) (fun _ _ _ h => h) (Or.inl ⟨by rfl, ?_⟩) hS ?_
              rotate_left
              · (intro w' hSw; have s1 := SC.out _ hSw; go_simp; (try with_reducible rfl))
              try simp only [Act.put, List.setIfInBounds_toArray, List.set_cons_zero, List.set_cons_succ]
              refine anyG_take (i := 4) (oi := ⟨_, _, _, _, _, _⟩) (v := ?_) rfl rfl (by kernel_rfl) (by kernel_rfl) (by kernel_rfl) (by kernel_rfl) (by kernel_rfl) (fun _ _ _ h => h) (Or.inl ⟨by rfl, ?_⟩) hS ?_
              rotate_left
              · (intro w' hSw; skip; go_simp; (try with_reducible rfl))
              try simp only [Act.put, List.setIfInBounds_toArray, List.set_cons_zero, List.set_cons_succ]
              refine anyG_take (i := 5) (oi := ⟨_, _, _, _, _, _⟩) (v := ?_) rfl rfl (by kernel_rfl) (by kernel_rfl) (by kernel_rfl) (by kernel_rfl) (by kernel_rfl) (fun _ _ _ h => h) (Or.inl ⟨by rfl, ?_⟩) hS ?_
              rotate_left
              · (intro w' hSw; skip; go_simp; (try with_reducible rfl))
              try simp only [Act.put, List.setIfInBounds_toArray, List.set_cons_zero, List.set_cons_succ]
              refine anyG_take (i := 7) (oi := ⟨_, _, _, _, _, _⟩) (v := ?_) rfl rfl (by kernel_rfl) (by kernel_rfl) (by kernel_rfl) (by kernel_rfl) (by kernel_rfl) (fun _ _ _ h => h) (Or.inl ⟨by rfl, ?_⟩) hS ?_
              rotate_left
              · (intro w' hSw; skip; go_simp; (try with_reducible rfl))
              try simp only [Act.put, List.setIfInBounds_toArray, List.set_cons_zero, List.set_cons_succ]
              refine anyG_all (rs := [6]) (by kernel_rfl) (by simp) (List.forall_mem_singleton.2 ?_)
              refine wpOp_step (o := ⟨_, _, _, _, _, _⟩) rfl (fun K' hK => ?_)
              have HK := Lib.hid hK
              clear hK
              rw [if_pos (by rfl)]
              go_simp
              refine (HFJ.out w3.drew (HD3.out.heap rfl)).mono ?_
              rintro e V6 ⟨rfl, rfl⟩
              go_wp2_with fail
              refine HK.out _ _ ⟨fun _ => hS, ?_⟩
              clear HK
              try simp only [Act.put, List.setIfInBounds_toArray, List.set_cons_zero, List.set_cons_succ]
              refine anyG_all (rs := [8]) (by kernel_rfl) (by simp) (List.forall_mem_singleton.2 ?_)
              refine wpOp_step (o := ⟨_, _, _, _, _, _⟩) rfl (fun K' hK => ?_)
              have HK := Lib.hid hK
              clear hK
              rw [if_pos (by rfl)]
              go_simp
              refine HK.out _ _ ⟨fun _ => hS, ?_⟩
              clear HK
              try simp only [Act.put, List.setIfInBounds_toArray, List.set_cons_zero, List.set_cons_succ]
              refine anyG_all (rs := [9]) (by kernel_rfl) (by simp) (List.forall_mem_singleton.2 ?_)
              refine wpOp_step (o := ⟨_, _, _, _, _, _⟩) rfl (fun K' hK => ?_)
              have HK := Lib.hid hK
              clear hK
              rw [if_pos (by rfl)]
              go_simp
              refine HK.out _ _ ⟨fun _ => hS, ?_⟩
              clear HK
              try simp only [Act.put, List.setIfInBounds_toArray, List.set_cons_zero, List.set_cons_succ]
              refine anyG_all (rs := [10]) (by kernel_rfl) (by simp) (List.forall_mem_singleton.2 ?_)
              refine wpOp_step (o := ⟨_, _, _, _, _, _⟩) rfl (fun K' hK => ?_)
              have HK := Lib.hid hK
              clear hK
              rw [if_pos (by rfl)]
              have z0' : w3.drew.cell? ⟨(ad.add (j * 3)).block, (ad.add (j * 3)).off + 1, none⟩ = some nm0 := z0
              have z1' : w3.drew.frozen? ⟨(ad.add (j * 3)).block, (ad.add (j * 3)).off + 1, none⟩ = false := z1
              go_simp
              refine HK.out _ _ ⟨fun h => absurd rfl h, anyG_done (by kernel_rfl) ?_⟩
              clear HK
              refine NoPanic.normal ?_
              clear hS SC z0 z1 z0' z1'
              go_wp2_with fail
              go_ret
              rw [HR.out, HRJ.out]
              have h9 := HDN.out.1.heap (w' := w3.drew.setCell ⟨(ad.add (j * 3)).block, (ad.add (j * 3)).off + 1, none⟩ (.string dst)) rfl
              have hfr9 : Fr (fpR p (.slice (some ad) (dropN (stepR m).2 dst).files.length cf) vo') w3 (w3.drew.setCell ⟨(ad.add (j * 3)).block, (ad.add (j * 3)).off + 1, none⟩ (.string dst)) := ⟨rfl, rfl, rfl, HDN.out.2.size, HDN.out.2.block⟩
              exact ⟨rfl, RfP.first HB.out (RfP.trans HFR.out HNEW.out ⟨_, _, _, h9, hfr9, fun i hi => .inl hi⟩)⟩
  · have HR := Lib.hid (show renameR m name dst = (7, m) from by unfold renameR; rw [if_pos HD.out])
    go_enter Try.func33, Try.ntmps33
    go_wp2_with fail
    go_ret
    exact ROp.same H.out _ _ HR.out
end Go.Proofs.Ytikbphafpmdpeaa
