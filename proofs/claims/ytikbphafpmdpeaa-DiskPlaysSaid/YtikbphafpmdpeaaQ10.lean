/- The two disks hold the same, plain: the relation, and what it says of a file that is asked for. · The two disks hold the same: Create, Fail (plain). · The two disks hold the same: what is used, Len, Read (plain). · The two disks hold the same: Write, Sync, Remove, Rename (plain). · The two disks hold the same: On (plain); every call. · The document's Names, plain: put in one by one from the end; the same as the sorted keys. -/
import Derived.Test.YtikbphafpmdpeaaQ5
import Derived.Sort.Walk0
set_option linter.all false
namespace Go.Proofs.Ytikbphafpmdpeaa

/-- A file's open writes, with their numbers. -/
def ofNo (no : Nat) : List Nat → List RWr → List WrT
  | n :: ns, x :: ws => if x.file = no then ⟨n, x.page, x.text⟩ :: ofNo no ns ws else ofNo no ns ws
  | _, _ => []
theorem laid_of (no : Nat) : ∀ (ns : List Nat) (ws : List RWr) (l : List PageT), ns.length = ws.length → laidP l (ofNo no ns ws) = layR no l ws
  | [], [], _, _ => rfl
  | [], _ :: _, _, h => by simp at h
  | _ :: _, [], _, h => by simp at h
  | n :: ns, x :: ws, l, h => by
    have ih := fun l => laid_of no ns ws l (by simpa using h)
    show laidP l (if x.file = no then _ else _) = layR no (layW no l x) ws
    unfold layW
    by_cases e : x.file = no
    · rw [if_pos e, if_pos e]
      show laidP (layP l x.page x.text) (ofNo no ns ws) = _
      exact ih _
    · rw [if_neg e, if_neg e]
      exact ih _
def encR (m : RefT) (ns : List Nat) (f : RFile) : ByteArray × FileT := (f.name, ⟨pagesR m f, f.settled, ofNo f.no ns m.opens⟩)
structure Rel (d : DiskT) (m : RefT) : Prop where
  off : d.off = m.down
  quota : d.quota = m.quota
  steps : d.steps = m.count
  set : d.set = if m.set = true then some (m.inn, m.keep) else none
  files : ∃ ns : List Nat, ns.length = m.opens.length ∧ ns.Pairwise (· < ·) ∧ (∀ n ∈ ns, n < d.no) ∧ d.files.Perm (m.files.map (encR m ns))
theorem newRel (q : Int) : Rel (newD q) (newR q) := ⟨rfl, rfl, rfl, rfl, [], rfl, List.Pairwise.nil, by simp, List.Perm.refl _⟩
theorem mget_enc (m : RefT) (ns : List Nat) (name : ByteArray) : ∀ fs : List RFile, mget (fs.map (encR m ns)) name = ((findR fs name).bind fun i => fs[i]?).map fun f => (encR m ns f).2
  | [] => rfl
  | f :: fs => by
    have ih := mget_enc m ns name fs
    show mget (encR m ns f :: fs.map (encR m ns)) name = _
    unfold mget findR
    rw [List.findIdx?_cons]
    by_cases e : f.name = name
    · rw [if_pos (show (encR m ns f).1 = name from e)]
      simp [e]
    · rw [if_neg (show ¬ (encR m ns f).1 = name from e), ih]
      unfold findR
      rw [if_neg (by simpa using e)]
      cases fs.findIdx? fun f => decide (f.name = name) <;> simp
theorem Rel.get {d : DiskT} {m : RefT} {ns : List Nat} (hd : Inv d) (hp : d.files.Perm (m.files.map (encR m ns))) (name : ByteArray) : mget d.files name = ((findR m.files name).bind fun i => m.files[i]?).map fun f => (encR m ns f).2 := by
  rw [mget_perm hp hd.nodup, mget_enc]
/-- A step is the same in both. -/
theorem Rel.step {d : DiskT} {m : RefT} (h : Rel d m) : (stepD d).1 = (stepR m).1 ∧ Rel (stepD d).2 (stepR m).2 := by
  obtain ⟨h1, h2, h3, h4, ns, h5, h6, h7, h8⟩ := h
  unfold stepD stepR
  cases hs : m.set with
  | false =>
    rw [hs] at h4
    rw [if_neg (by simp) ] at h4
    rw [h4, if_neg (fun h => by simp at h)]
    exact ⟨rfl, h1, h2, by show d.steps + 1 = m.count + 1; rw [h3], by simp [h4, hs], ns, h5, h6, h7, h8⟩
  | true =>
    rw [hs, if_pos rfl] at h4
    rw [h4]
    cases hi : m.inn with
    | zero =>
      rw [if_pos ⟨rfl, rfl⟩]
      exact ⟨rfl, rfl, h2, h3, by simp [h4, hs, hi], ns, h5, h6, h7, h8⟩
    | succ i =>
      rw [if_neg (fun h => by simp at h)]
      refine ⟨rfl, h1, h2, by show d.steps + 1 = m.count + 1; rw [h3], ?_, ns, h5, h6, h7, h8⟩
      simp [hs]
end Go.Proofs.Ytikbphafpmdpeaa

set_option linter.all false
namespace Go.Proofs.Ytikbphafpmdpeaa

theorem rel_steps {d : DiskT} {m : RefT} {f : DiskT → DiskT} {g : RefT → RefT} (h : Rel d m) (hfg : Rel (stepD d).2 (stepR m).2 → Rel (f (stepD d).2) (g (stepR m).2)) : (stepsD d f).1 = (stepsR m g).1 ∧ Rel (stepsD d f).2 (stepsR m g).2 := by
  obtain ⟨h1, h2⟩ := h.step
  unfold stepsD stepsR
  rw [h1]
  split
  · exact ⟨rfl, hfg h2⟩
  · exact ⟨rfl, h2⟩
theorem ofNo_none (no : Nat) : ∀ (ns : List Nat) (ws : List RWr), (∀ x ∈ ws, x.file ≠ no) → ofNo no ns ws = []
  | [], _, _ => rfl
  | _ :: _, [], _ => rfl
  | _ :: ns, x :: ws, h => by
    show (if x.file = no then _ else _) = _
    rw [if_neg (h x (List.mem_cons_self ..))]
    exact ofNo_none no ns ws fun y hy => h y (List.mem_cons_of_mem _ hy)
theorem layR_none (no : Nat) : ∀ (ws : List RWr) (l : List PageT), (∀ x ∈ ws, x.file ≠ no) → layR no l ws = l
  | [], _, _ => rfl
  | x :: ws, l, h => by
    show layR no (layW no l x) ws = l
    unfold layW
    rw [if_neg (h x (List.mem_cons_self ..))]
    exact layR_none no ws l fun y hy => h y (List.mem_cons_of_mem _ hy)
theorem Rel.found {d : DiskT} {m : RefT} (h : Rel d m) (hd : Inv d) (name : ByteArray) : (mget d.files name).isSome = (findR m.files name).isSome := by
  obtain ⟨ns, -, -, -, hp⟩ := h.files
  rw [Rel.get hd hp]
  cases hf : findR m.files name with
  | none => rfl
  | some i =>
    obtain ⟨f, hi, -, -⟩ := findR_some hf
    rw [Option.bind_some, hi]; rfl
theorem Rel.create {d : DiskT} {m : RefT} (h : Rel d m) (hd : Inv d) (hm : RInv m) (name : ByteArray) : (createD d name).1 = (createR m name).1 ∧ Rel (createD d name).2 (createR m name).2 := by
  have hfd := h.found hd name
  have hlen : d.files.length = m.files.length := by
    obtain ⟨ns, -, -, -, hp⟩ := h.files
    rw [hp.length_eq, List.length_map]
  unfold createD createR
  rw [h.off, hfd, hlen]
  split
  · exact ⟨rfl, h⟩
  · split
    · exact ⟨rfl, h⟩
    · split
      · exact ⟨rfl, h⟩
      · rename_i hnf
        split
        · exact ⟨rfl, h⟩
        · refine rel_steps h fun h2 => ?_
          obtain ⟨g1, g2, g3, g4, ns, g5, g6, g7, g8⟩ := h2
          have hnone : mget (stepD d).2.files name = none := by
            have e : (stepD d).2.files = d.files := by unfold stepD; split <;> rfl
            rw [e]
            cases hq : mget d.files name with
            | none => rfl
            | some f => rw [hq] at hfd; rw [← hfd] at hnf; simp at hnf
          obtain ⟨e1, e2, e3, -, -, -⟩ := stepR_files m
          have hw : ∀ x ∈ (stepR m).2.opens, x.file ≠ (stepR m).2.next := fun x hx e => by
            rw [e2] at hx
            obtain ⟨f, hf, hfe⟩ := List.mem_map.1 (hm.place x hx).2
            have := hm.lt f hf
            rw [e3] at e
            omega
          refine ⟨g1, g2, g3, g4, ns, g5, g6, g7, ?_⟩
          show (mset (stepD d).2.files name file0).Perm (((stepR m).2.files ++ [RFile.mk (stepR m).2.next name []]).map (encR { (stepR m).2 with files := (stepR m).2.files ++ [RFile.mk (stepR m).2.next name []], next := (stepR m).2.next + 1 } ns))
          refine (perm_set _ _ _).trans ?_
          rw [mdel_of_none hnone, List.map_append]
          have he : [RFile.mk (stepR m).2.next name []].map (encR { (stepR m).2 with files := (stepR m).2.files ++ [⟨(stepR m).2.next, name, []⟩], next := (stepR m).2.next + 1 } ns) = [(name, file0)] := by
            show [(name, FileT.mk (layR (stepR m).2.next [] (stepR m).2.opens) [] (ofNo (stepR m).2.next ns (stepR m).2.opens))] = _
            rw [layR_none _ _ _ hw, ofNo_none _ _ _ hw]
            rfl
          rw [he]
          refine (List.Perm.cons _ g8).trans ?_
          exact (List.perm_append_singleton _ _).symm
theorem Rel.fail {d : DiskT} {m : RefT} (h : Rel d m) (n : Int) (k : Nat) : Rel (failD d n k) (failR m n k) := by
  unfold failD failR
  rw [h.off]
  split
  · exact h
  · refine ⟨?_, h.quota, h.steps, rfl, h.files⟩
    first
      | rfl
      | exact h.off
end Go.Proofs.Ytikbphafpmdpeaa

set_option linter.all false
namespace Go.Proofs.Ytikbphafpmdpeaa

theorem Rel.used {d : DiskT} {m : RefT} (h : Rel d m) (hd : Inv d) : d.used = usedR m := by
  obtain ⟨ns, -, -, -, hp⟩ := h.files
  rw [hd.sum, sumN_perm hp]
  unfold sumN usedR
  rw [List.map_map]
  rfl
/-- What is found of a file in both. -/
theorem Rel.file {d : DiskT} {m : RefT} {ns : List Nat} (hd : Inv d) (hp : d.files.Perm (m.files.map (encR m ns))) (name : ByteArray) :
    (findR m.files name = none ∧ mget d.files name = none) ∨ ∃ i f, findR m.files name = some i ∧ m.files[i]? = some f ∧ f.name = name ∧ mget d.files name = some ⟨pagesR m f, f.settled, ofNo f.no ns m.opens⟩ := by
  have hg := Rel.get hd hp name
  cases hf : findR m.files name with
  | none =>
    rw [hf] at hg
    exact .inl ⟨rfl, hg⟩
  | some i =>
    obtain ⟨f, hi, hn, -⟩ := findR_some hf
    rw [hf, Option.bind_some, hi] at hg
    exact .inr ⟨i, f, rfl, hi, hn, hg⟩
theorem Rel.len {d : DiskT} {m : RefT} (h : Rel d m) (hd : Inv d) (name : ByteArray) : lenD d name = lenR m name := by
  obtain ⟨ns, -, -, -, hp⟩ := h.files
  unfold lenD lenR findD
  rw [h.off]
  by_cases hm : m.down = true
  · rw [if_pos hm, if_pos hm]
  · rw [if_neg hm, if_neg hm]
    rcases Rel.file hd hp name with ⟨h1, h2⟩ | ⟨i, f, h1, h2, -, h3⟩
    · rw [h1, h2]
    · rw [h1, h3]
      simp only
      rw [h2]
theorem Rel.read {d : DiskT} {m : RefT} (h : Rel d m) (hd : Inv d) (name : ByteArray) (pg : Int) : readD d name pg = readR m name pg := by
  obtain ⟨ns, -, -, -, hp⟩ := h.files
  unfold readD readR findD
  rw [h.off]
  by_cases hm : m.down = true
  · rw [if_pos hm, if_pos hm]
  · rw [if_neg hm, if_neg hm]
    rcases Rel.file hd hp name with ⟨h1, h2⟩ | ⟨i, f, h1, h2, -, h3⟩
    · rw [h1, h2]
    · rw [h1, h3]
      simp only
      rw [h2]
      rfl
end Go.Proofs.Ytikbphafpmdpeaa

set_option linter.all false
namespace Go.Proofs.Ytikbphafpmdpeaa

theorem erase_perm {α : Type} : ∀ {l : List α} {i : Nat} {x : α}, l[i]? = some x → l.Perm (x :: l.eraseIdx i)
  | [], _, _, h => by simp at h
  | y :: l, 0, x, h => by
    simp at h
    subst h
    exact List.Perm.refl _
  | y :: l, i + 1, x, h => by
    have ih := erase_perm (l := l) (i := i) (x := x) (by simpa using h)
    rw [List.eraseIdx_cons_succ]
    exact (ih.cons y).trans (List.Perm.swap _ _ _)
theorem modify_perm {α : Type} {g : α → α} : ∀ {l : List α} {i : Nat} {x : α}, l[i]? = some x → (l.modify i g).Perm (g x :: l.eraseIdx i)
  | [], _, _, h => by simp at h
  | y :: l, 0, x, h => by
    simp at h
    subst h
    simp
  | y :: l, i + 1, x, h => by
    have ih := modify_perm (g := g) (l := l) (i := i) (x := x) (by simpa using h)
    simp only [List.modify_succ_cons, List.eraseIdx_cons_succ]
    exact (ih.cons y).trans (List.Perm.swap _ _ _)
theorem enc_del {d : DiskT} {m : RefT} {ns : List Nat} (hd : Inv d) (hp : d.files.Perm (m.files.map (encR m ns))) {i : Nat} {f : RFile} (hi : m.files[i]? = some f) : (mdel d.files f.name).Perm ((m.files.eraseIdx i).map (encR m ns)) := by
  have h1 : (m.files.map (encR m ns)).Perm (encR m ns f :: (m.files.eraseIdx i).map (encR m ns)) := (erase_perm hi).map (encR m ns)
  have h2 := hp.trans h1
  have h3 : mget d.files f.name = some (encR m ns f).2 := by
    rw [mget_perm h2 hd.nodup]
    show (if f.name = f.name then _ else _) = _
    rw [if_pos rfl]
  exact List.Perm.cons_inv ((perm_get h3).symm.trans h2)
theorem layR_add (no : Nat) (l : List PageT) (ws : List RWr) (x : RWr) : layR no l (ws ++ [x]) = layW no (layR no l ws) x := by
  unfold layR
  rw [List.foldl_append]; rfl
theorem ofNo_snoc (no n : Nat) (x : RWr) : ∀ (ns : List Nat) (ws : List RWr), ns.length = ws.length → ofNo no (ns ++ [n]) (ws ++ [x]) = ofNo no ns ws ++ (if x.file = no then [⟨n, x.page, x.text⟩] else [])
  | [], [], _ => by
    show (if x.file = no then _ else _) = _
    split <;> rfl
  | [], _ :: _, h => by simp at h
  | _ :: _, [], h => by simp at h
  | k :: ns, y :: ws, h => by
    have ih := ofNo_snoc no n x ns ws (by simpa using h)
    show (if y.file = no then (⟨k, y.page, y.text⟩ : WrT) :: ofNo no (ns ++ [n]) (ws ++ [x]) else ofNo no (ns ++ [n]) (ws ++ [x])) = (if y.file = no then _ else _) ++ _
    rw [ih]
    split
    · rw [List.cons_append]
    · rfl
theorem nodup_ne {m : RefT} (hm : RInv m) {i : Nat} {f : RFile} (hi : m.files[i]? = some f) : ∀ g ∈ m.files.eraseIdx i, g.no ≠ f.no := fun g hg e => erase_nos hm.nos hi (List.mem_map.2 ⟨g, hg, e⟩)
theorem map_congr_mem {α β : Type} {f g : α → β} {l : List α} (h : ∀ x ∈ l, f x = g x) : l.map f = l.map g := List.map_congr_left h
theorem Rel.write {d : DiskT} {m : RefT} (h : Rel d m) (hd : Inv d) (hm : RInv m) (name : ByteArray) (pg : Int) (b : List UInt8) : (writeD d name pg b).1 = (writeR m name pg b).1 ∧ Rel (writeD d name pg b).2 (writeR m name pg b).2 := by
  have hu := h.used hd
  obtain ⟨ns, -, -, -, hp⟩ := h.files
  unfold writeD writeR findD
  rw [h.off]
  by_cases hdn : m.down = true
  · rw [if_pos hdn, if_pos hdn]; exact ⟨rfl, h⟩
  · rw [if_neg hdn, if_neg hdn]
    rcases Rel.file hd hp name with ⟨h1, h2⟩ | ⟨i, f, h1, h2, rfl, h3⟩
    · rw [h1, h2]; exact ⟨rfl, h⟩
    · rw [h1, h3]
      simp only
      rw [h2]
      simp only
      rw [h.quota, hu]
      split
      · exact ⟨rfl, h⟩
      · split
        · exact ⟨rfl, h⟩
        · split
          · exact ⟨rfl, h⟩
          · refine rel_steps h fun hs => ?_
            obtain ⟨g1, g2, g3, g4, ks, g5, g6, g7, g8⟩ := hs
            obtain ⟨e1, e2, e3, e4, e5, e6⟩ := stepR_files m
            obtain ⟨d1, d2, d3, d4⟩ := stepD_files d
            have hd' : Inv (stepD d).2 := hd.stepped
            have hm' : RInv (stepR m).2 := hm.step
            rw [← e1] at h2
            generalize (stepR m).2 = m' at *
            generalize (stepD d).2 = d' at *
            -- the file's numbers as they are now
            have hF : mget d'.files f.name = some ⟨pagesR m' f, f.settled, ofNo f.no ks m'.opens⟩ := by
              have h4 := (g8.trans ((erase_perm h2).map (encR m' ks)))
              rw [mget_perm h4 hd'.nodup]
              show (if f.name = f.name then _ else _) = _
              rw [if_pos rfl]; rfl
            have hF2 : (⟨pagesR m f, f.settled, ofNo f.no ns m.opens⟩ : FileT) = ⟨pagesR m' f, f.settled, ofNo f.no ks m'.opens⟩ := by
              rw [d1, h3] at hF
              injection hF
            injection hF2 with hF3 hF4 hF5
            rw [hF3, hF5]
            refine ⟨g1, g2, g3, g4, ks ++ [d'.no], ?_, ?_, ?_, ?_⟩
            · show (ks ++ [d'.no]).length = (m'.opens ++ [_]).length
              rw [List.length_append, List.length_append, g5]; rfl
            · refine List.pairwise_append.2 ⟨g6, List.pairwise_singleton .., fun a ha c hc => ?_⟩
              rw [List.mem_singleton.1 hc]; exact g7 a ha
            · intro n hn
              show n < d'.no + 1
              rcases List.mem_append.1 hn with hn | hn
              · have := g7 n hn; omega
              · rw [List.mem_singleton.1 hn]; omega
            · refine (perm_set _ _ _).trans ?_
              have hdel := enc_del hd' g8 h2
              refine (List.Perm.cons _ hdel).trans ?_
              refine List.Perm.trans ?_ ((erase_perm h2).map _).symm
              rw [List.map_cons]
              have ho : ∀ g : RFile, encR { m' with opens := m'.opens ++ [⟨f.no, pg.toNat, padP b⟩] } (ks ++ [d'.no]) g = (g.name, ⟨layW g.no (pagesR m' g) ⟨f.no, pg.toNat, padP b⟩, g.settled, ofNo g.no ks m'.opens ++ (if f.no = g.no then [⟨d'.no, pg.toNat, padP b⟩] else [])⟩) := fun g => by
                unfold encR pagesR
                rw [ofNo_snoc _ _ _ _ _ g5, layR_add]
              rw [ho f]
              have hsame : (m'.files.eraseIdx i).map (encR { m' with opens := m'.opens ++ [⟨f.no, pg.toNat, padP b⟩] } (ks ++ [d'.no])) = (m'.files.eraseIdx i).map (encR m' ks) := map_congr_mem fun g hg => by
                have hne := nodup_ne hm' h2 g hg
                rw [ho g]
                unfold layW encR
                rw [if_neg fun e => hne e.symm, if_neg fun e => hne e.symm, List.append_nil]
              rw [hsame]
              unfold layW
              rw [if_pos rfl, if_pos rfl]
/-- The numbers of the writes that are left behind a drop. -/
def nsDrop (no : Nat) : List Nat → List RWr → List Nat
  | n :: ns, x :: ws => if x.file ≠ no then n :: nsDrop no ns ws else nsDrop no ns ws
  | _, _ => []
theorem nsDrop_len (no : Nat) : ∀ (ns : List Nat) (ws : List RWr), ns.length = ws.length → (nsDrop no ns ws).length = (ws.filter fun x => decide (x.file ≠ no)).length
  | [], [], _ => rfl
  | [], _ :: _, h => by simp at h
  | _ :: _, [], h => by simp at h
  | n :: ns, x :: ws, h => by
    have ih := nsDrop_len no ns ws (by simpa using h)
    unfold nsDrop
    by_cases e : x.file ≠ no
    · rw [if_pos e, List.filter_cons_of_pos (by simpa using e), List.length_cons, List.length_cons, ih]
    · rw [if_neg e, List.filter_cons_of_neg (by simpa using e), ih]
theorem nsDrop_sub (no : Nat) : ∀ (ns : List Nat) (ws : List RWr), (nsDrop no ns ws).Sublist ns
  | [], _ => by unfold nsDrop; exact List.nil_sublist _
  | _ :: _, [] => by unfold nsDrop; exact List.nil_sublist _
  | n :: ns, x :: ws => by
    have ih := nsDrop_sub no ns ws
    unfold nsDrop
    split
    · exact ih.cons_cons n
    · exact ih.cons n
theorem nsDrop_of (no k : Nat) (hk : k ≠ no) : ∀ (ns : List Nat) (ws : List RWr), ns.length = ws.length → ofNo k (nsDrop no ns ws) (ws.filter fun x => decide (x.file ≠ no)) = ofNo k ns ws
  | [], [], _ => rfl
  | [], _ :: _, h => by simp at h
  | _ :: _, [], h => by simp at h
  | n :: ns, x :: ws, h => by
    have ih := nsDrop_of no k hk ns ws (by simpa using h)
    unfold nsDrop
    by_cases e : x.file ≠ no
    · rw [if_pos e, List.filter_cons_of_pos (by simpa using e)]
      show (if x.file = k then _ else _) = (if x.file = k then _ else _)
      rw [ih]
    · rw [if_neg e, List.filter_cons_of_neg (by simpa using e), ih]
      show _ = (if x.file = k then _ else _)
      rw [if_neg fun e2 => hk (e2.symm.trans (Classical.not_not.1 e))]
theorem lay_drop (no k : Nat) (hk : k ≠ no) : ∀ (ws : List RWr) (l : List PageT), layR k l (ws.filter fun x => decide (x.file ≠ no)) = layR k l ws
  | [], _ => rfl
  | x :: ws, l => by
    by_cases e : x.file ≠ no
    · rw [List.filter_cons_of_pos (by simpa using e)]
      exact lay_drop no k hk ws (layW k l x)
    · rw [List.filter_cons_of_neg (by simpa using e), lay_drop no k hk ws l]
      show _ = layR k (layW k l x) ws
      unfold layW
      rw [if_neg fun e2 => hk (e2.symm.trans (Classical.not_not.1 e))]
theorem dropR_at {m : RefT} {i : Nat} {f : RFile} (hi : m.files[i]? = some f) : dropR m i = { m with opens := m.opens.filter fun x => decide (x.file ≠ f.no), files := m.files.eraseIdx i } := by
  unfold dropR
  rw [hi]
/-- A file is dropped in both. -/
theorem drop_perm {d : DiskT} {m : RefT} {ns : List Nat} (hd : Inv d) (hm : RInv m) (hl : ns.length = m.opens.length) (hp : d.files.Perm (m.files.map (encR m ns))) {i : Nat} {f : RFile} (hi : m.files[i]? = some f) :
    (mdel d.files f.name).Perm ((dropR m i).files.map (encR (dropR m i) (nsDrop f.no ns m.opens))) := by
  refine (enc_del hd hp hi).trans ?_
  rw [dropR_at hi]
  rw [map_congr_mem fun g hg => ?_]
  have hne := nodup_ne hm hi g hg
  unfold encR pagesR
  dsimp only
  rw [nsDrop_of _ _ hne _ _ hl, lay_drop _ _ hne]
theorem Rel.drop {d : DiskT} {m : RefT} (h : Rel d m) (hd : Inv d) (hm : RInv m) {i : Nat} {f : RFile} (hi : m.files[i]? = some f) : Rel (goneD d f.name) (dropR m i) := by
  obtain ⟨g1, g2, g3, g4, ns, g5, g6, g7, g8⟩ := h
  have hg : mget d.files f.name = some (encR m ns f).2 := by
    rw [mget_perm (g8.trans ((erase_perm hi).map (encR m ns))) hd.nodup]
    show (if f.name = f.name then _ else _) = _
    rw [if_pos rfl]
  have hdp := drop_perm hd hm g5 g8 hi
  rw [dropR_at hi] at hdp ⊢
  unfold goneD
  rw [hg]
  exact ⟨g1, g2, g3, g4, nsDrop f.no ns m.opens, nsDrop_len _ _ _ g5, g6.sublist (nsDrop_sub _ _ _), fun n hn => g7 n ((nsDrop_sub _ _ _).subset hn), hdp⟩
theorem Rel.dropN {d : DiskT} {m : RefT} (h : Rel d m) (hd : Inv d) (hm : RInv m) (name : ByteArray) : Rel (goneD d name) (dropN m name) := by
  obtain ⟨ns, -, -, -, hp⟩ := h.files
  unfold Go.Proofs.Ytikbphafpmdpeaa.dropN
  rcases Rel.file hd hp name with ⟨h1, h2⟩ | ⟨i, f, h1, h2, rfl, h3⟩
  · rw [h1]
    unfold goneD
    rw [h2]
    exact h
  · rw [h1]
    exact h.drop hd hm h2
theorem Rel.remove {d : DiskT} {m : RefT} (h : Rel d m) (hd : Inv d) (hm : RInv m) (name : ByteArray) : (removeD d name).1 = (removeR m name).1 ∧ Rel (removeD d name).2 (removeR m name).2 := by
  obtain ⟨ns, -, -, -, hp⟩ := h.files
  unfold removeD removeR findD
  rw [h.off]
  by_cases hdn : m.down = true
  · rw [if_pos hdn, if_pos hdn]; exact ⟨rfl, h⟩
  · rw [if_neg hdn, if_neg hdn]
    rcases Rel.file hd hp name with ⟨h1, h2⟩ | ⟨i, f, h1, h2, rfl, h3⟩
    · rw [h1, h2]; exact ⟨rfl, h⟩
    · rw [h1, h3]
      simp only
      refine rel_steps h fun hs => hs.drop hd.stepped hm.step ?_
      rw [(stepR_files m).1]; exact h2
theorem Rel.sync {d : DiskT} {m : RefT} (h : Rel d m) (hd : Inv d) (hm : RInv m) (name : ByteArray) : (syncD d name).1 = (syncR m name).1 ∧ Rel (syncD d name).2 (syncR m name).2 := by
  obtain ⟨ns, -, -, -, hp⟩ := h.files
  unfold syncD syncR findD
  rw [h.off]
  by_cases hdn : m.down = true
  · rw [if_pos hdn, if_pos hdn]; exact ⟨rfl, h⟩
  · rw [if_neg hdn, if_neg hdn]
    rcases Rel.file hd hp name with ⟨h1, h2⟩ | ⟨i, f, h1, h2, rfl, h3⟩
    · rw [h1, h2]; exact ⟨rfl, h⟩
    · rw [h1, h3]
      simp only
      rw [h2]
      simp only
      refine rel_steps h fun hs => ?_
      obtain ⟨g1, g2, g3, g4, ks, g5, g6, g7, g8⟩ := hs
      obtain ⟨e1, e2, -⟩ := stepR_files m
      have hpg : pagesR m f = pagesR (stepR m).2 f := by unfold pagesR; rw [e2]
      have hd' : Inv (stepD d).2 := hd.stepped
      have hm' : RInv (stepR m).2 := hm.step
      rw [← e1] at h2
      rw [hpg]
      generalize (stepR m).2 = m' at *
      generalize (stepD d).2 = d' at *
      have hdp := drop_perm hd' hm' g5 g8 h2
      rw [dropR_at h2] at hdp ⊢
      refine ⟨g1, g2, g3, g4, nsDrop f.no ks m'.opens, nsDrop_len _ _ _ g5, g6.sublist (nsDrop_sub _ _ _), fun n hn => g7 n ((nsDrop_sub _ _ _).subset hn), ?_⟩
      refine (perm_set _ _ _).trans ((List.Perm.cons _ hdp).trans ?_)
      dsimp only
      rw [List.map_append]
      refine List.Perm.trans ?_ (List.perm_append_singleton _ _).symm
      have hn : ∀ x ∈ m'.opens.filter (fun x => decide (x.file ≠ f.no)), x.file ≠ f.no := fun x hx => by simpa using (List.mem_filter.1 hx).2
      show List.Perm (_ :: _) ((f.name, FileT.mk (layR f.no (pagesR m' f) (m'.opens.filter fun x => decide (x.file ≠ f.no))) (pagesR m' f) (ofNo f.no (nsDrop f.no ks m'.opens) (m'.opens.filter fun x => decide (x.file ≠ f.no)))) :: _)
      rw [layR_none _ _ _ hn, ofNo_none _ _ _ hn]
      exact List.Perm.refl _
theorem Rel.rename {d : DiskT} {m : RefT} (h : Rel d m) (hd : Inv d) (hm : RInv m) (src dst : ByteArray) : (renameD d src dst).1 = (renameR m src dst).1 ∧ Rel (renameD d src dst).2 (renameR m src dst).2 := by
  obtain ⟨ns, -, -, -, hp⟩ := h.files
  unfold renameD renameR findD
  rw [h.off]
  by_cases hdn : m.down = true
  · rw [if_pos hdn, if_pos hdn]; exact ⟨rfl, h⟩
  · rw [if_neg hdn, if_neg hdn]
    rcases Rel.file hd hp src with ⟨h1, h2⟩ | ⟨i, f, h1, h2, hnm, h3⟩
    · rw [h1, h2]; exact ⟨rfl, h⟩
    · rw [h1, h3]
      simp only
      split
      · exact ⟨rfl, h⟩
      · refine rel_steps h fun hs => ?_
        by_cases hsd : src = dst
        · rw [if_pos hsd, if_pos hsd]; exact hs
        · rw [if_neg hsd, if_neg hsd]
          have hd' : Inv (stepD d).2 := hd.stepped
          have hm' : RInv (stepR m).2 := hm.step
          have hr := hs.dropN hd' hm' dst
          have hg : mget (goneD (stepD d).2 dst).files src = some ⟨pagesR m f, f.settled, ofNo f.no ns m.opens⟩ := by rw [goneD_get hsd, (stepD_files d).1]; exact h3
          have hgn := goneD_none hd' dst
          have hd2 := hd'.gone dst
          have hm2 := hm'.dropN dst
          generalize Go.Proofs.Ytikbphafpmdpeaa.dropN (stepR m).2 dst = m' at *
          generalize goneD (stepD d).2 dst = d' at *
          obtain ⟨g1, g2, g3, g4, ks, g5, g6, g7, g8⟩ := hr
          refine ⟨g1, g2, g3, g4, ks, g5, g6, g7, ?_⟩
          rcases Rel.file hd2 g8 src with ⟨k1, k2⟩ | ⟨j, f', k1, k2, rfl, k3⟩
          · rw [k2] at hg; cases hg
          · rw [k3] at hg
            injection hg with hg
            rw [← hg]
            have hdd : mdel (mdel d'.files f'.name) dst = mdel d'.files f'.name := mdel_of_none (by rw [mget_del_other _ fun e => hsd e.symm]; exact hgn)
            refine (perm_set _ _ _).trans ?_
            rw [hdd]
            refine (List.Perm.cons _ (enc_del hd2 g8 k2)).trans ?_
            have hj : (findI m'.files f'.name).toNat = j := by unfold findI; rw [k1]; rfl
            rw [hj]
            show List.Perm _ ((m'.files.modify j fun f => { f with name := dst }).map _)
            refine List.Perm.trans ?_ ((modify_perm k2).map _).symm
            exact List.Perm.refl _
end Go.Proofs.Ytikbphafpmdpeaa

set_option linter.all false
namespace Go.Proofs.Ytikbphafpmdpeaa

/-- In a rising row as many are smaller than the one at a place as stand ahead of it. -/
theorem rank_rise : ∀ {ns : List Nat} {j n : Nat}, ns.Pairwise (· < ·) → ns[j]? = some n → (ns.filter fun x => decide (x < n)).length = j
  | [], _, _, _, h => by simp at h
  | a :: r, 0, n, hp, h => by
    simp at h
    subst h
    obtain ⟨h1, -⟩ := List.pairwise_cons.1 hp
    rw [List.filter_eq_nil_iff.2 fun x hx => ?_]
    · rfl
    · rcases List.mem_cons.1 hx with rfl | hx
      · simp
      · have := h1 x hx
        simp; omega
  | a :: r, j + 1, n, hp, h => by
    obtain ⟨h1, h2⟩ := List.pairwise_cons.1 hp
    have h3 : r[j]? = some n := by simpa using h
    have h4 := h1 n (List.mem_of_getElem? h3)
    rw [List.filter_cons_of_pos (by simpa using h4), List.length_cons, rank_rise h2 h3]
theorem ofNo_mem (no : Nat) : ∀ {ns : List Nat} {ws : List RWr} {w : WrT}, w ∈ ofNo no ns ws → w.no ∈ ns
  | [], _, _, h => by simp [ofNo] at h
  | _ :: _, [], _, h => by simp [ofNo] at h
  | n :: ns, x :: ws, w, h => by
    have h' : w ∈ (if x.file = no then (⟨n, x.page, x.text⟩ : WrT) :: ofNo no ns ws else ofNo no ns ws) := h
    split at h'
    · rcases List.mem_cons.1 h' with rfl | h'
      · exact List.mem_cons_self ..
      · exact List.mem_cons_of_mem _ (ofNo_mem no h')
    · exact List.mem_cons_of_mem _ (ofNo_mem no h')
theorem ofNo_at (no : Nat) : ∀ {ns : List Nat} {ws : List RWr} {j n : Nat} {x : RWr}, ns[j]? = some n → ws[j]? = some x → x.file = no → ∃ w ∈ ofNo no ns ws, w.no = n
  | [], _, _, _, _, h, _, _ => by simp at h
  | _ :: _, [], _, _, _, _, h, _ => by simp at h
  | a :: ns, y :: ws, 0, n, x, h1, h2, h3 => by
    simp at h1 h2
    subst h1 h2
    refine ⟨⟨a, y.page, y.text⟩, ?_, rfl⟩
    show _ ∈ (if y.file = no then _ else _)
    rw [if_pos h3]
    exact List.mem_cons_self ..
  | a :: ns, y :: ws, j + 1, n, x, h1, h2, h3 => by
    obtain ⟨w, hw, he⟩ := ofNo_at no (ns := ns) (ws := ws) (j := j) (by simpa using h1) (by simpa using h2) h3
    refine ⟨w, ?_, he⟩
    show _ ∈ (if y.file = no then _ else _)
    split
    · exact List.mem_cons_of_mem _ hw
    · exact hw
theorem opens_nos {d : DiskT} {m : RefT} {ns : List Nat} (hd : Inv d) (hm : RInv m) (hl : ns.length = m.opens.length) (hr : ns.Pairwise (· < ·)) (hp : d.files.Perm (m.files.map (encR m ns))) : ((opensD d).map WrT.no).Perm ns := by
  have hnd : ns.Nodup := hr.imp fun h => Nat.ne_of_lt h
  refine (List.perm_ext_iff_of_nodup hd.apart hnd).2 fun n => ⟨fun hn => ?_, fun hn => ?_⟩
  · obtain ⟨w, hw, rfl⟩ := List.mem_map.1 hn
    obtain ⟨p, hpm, hw⟩ := List.mem_flatMap.1 hw
    obtain ⟨f, hf, rfl⟩ := List.mem_map.1 (hp.mem_iff.1 hpm)
    exact ofNo_mem f.no hw
  · obtain ⟨j, hj⟩ := List.getElem?_of_mem hn
    have hjl : j < m.opens.length := by
      have := (List.getElem?_eq_some_iff.1 hj).1
      omega
    have hx := List.getElem?_eq_getElem hjl
    obtain ⟨f, hf, hfe⟩ := List.mem_map.1 (hm.place _ (List.getElem_mem hjl)).2
    obtain ⟨w, hw, hwn⟩ := ofNo_at f.no hj hx hfe.symm
    exact List.mem_map.2 ⟨w, List.mem_flatMap.2 ⟨encR m ns f, hp.mem_iff.2 (List.mem_map.2 ⟨f, hf, rfl⟩), hw⟩, hwn⟩
theorem rankW_nos {all : List WrT} {ns : List Nat} (h : (all.map WrT.no).Perm ns) (n : Nat) : rankW all n = (ns.filter fun x => decide (x < n)).length := by
  rw [← (h.filter _).length_eq, List.filter_map, List.length_map]
  rfl
theorem stay_of (no keep : Nat) (all : List WrT) : ∀ (ns : List Nat) (ws : List RWr) (k : Nat) (l : List PageT), ns.length = ws.length → (∀ j n, ns[j]? = some n → rankW all n = k + j) →
    laidP l ((ofNo no ns ws).filter fun w => bitB keep (rankW all w.no)) = layR no l (stayR keep k ws)
  | [], [], _, _, _, _ => rfl
  | [], _ :: _, _, _, h, _ => by simp at h
  | _ :: _, [], _, _, h, _ => by simp at h
  | n :: ns, x :: ws, k, l, h, hr => by
    have ih := fun l => stay_of no keep all ns ws (k + 1) l (by simpa using h) fun j n hj => by
      have := hr (j + 1) n (by simpa using hj)
      omega
    have h0 : rankW all n = k := hr 0 n rfl
    show laidP l (List.filter _ (if x.file = no then _ else _)) = layR no l (if bitB keep k = true then x :: stayR keep (k + 1) ws else stayR keep (k + 1) ws)
    by_cases e : x.file = no
    · rw [if_pos e]
      by_cases hb : bitB keep k = true
      · rw [if_pos hb, List.filter_cons_of_pos (by simpa [h0] using hb)]
        show laidP (layP l x.page x.text) _ = layR no (layW no l x) _
        unfold layW
        rw [if_pos e]
        exact ih _
      · rw [if_neg hb, List.filter_cons_of_neg (by simpa [h0] using hb)]
        exact ih _
    · rw [if_neg e, ih]
      split
      · show _ = layR no (layW no l x) _
        unfold layW
        rw [if_neg e]
      · rfl
theorem Rel.on {d : DiskT} {m : RefT} (h : Rel d m) (hd : Inv d) (hm : RInv m) : Rel (onD d) (onR m) := by
  have hoff := h.off
  unfold onD onR
  cases hdn : m.down with
  | false =>
    rw [hdn] at hoff
    rw [if_pos hoff, if_pos rfl]
    exact h
  | true =>
    rw [hdn] at hoff
    rw [if_neg (by rw [hoff]; simp), if_neg (by simp)]
    have hset := hd.off hoff
    obtain ⟨g1, g2, g3, g4, ns, g5, g6, g7, g8⟩ := h
    have hms : m.set = true := by
      cases hs : m.set with
      | true => rfl
      | false =>
        rw [hs, if_neg (by simp)] at g4
        rw [g4] at hset
        simp at hset
    rw [if_pos hms] at g4
    have hk : (d.set.map Prod.snd).getD 0 = m.keep := by rw [g4]; rfl
    rw [hk]
    have hno := opens_nos hd hm g5 g6 g8
    refine ⟨rfl, g2, g3, rfl, [], rfl, List.Pairwise.nil, fun _ hn => by simp at hn, ?_⟩
    refine (g8.map _).trans ?_
    rw [List.map_map]
    show List.Perm _ ((m.files.map _).map _)
    rw [List.map_map, map_congr_mem fun f hf => ?_]
    have hst := stay_of f.no m.keep (opensD d) ns m.opens 0 f.settled g5 fun j n hj => by
      rw [rankW_nos hno, rank_rise g6 hj, Nat.zero_add]
    show (f.name, FileT.mk (laidP f.settled ((ofNo f.no ns m.opens).filter fun w => bitB m.keep (rankW (opensD d) w.no))) (laidP f.settled ((ofNo f.no ns m.opens).filter fun w => bitB m.keep (rankW (opensD d) w.no))) []) = (f.name, FileT.mk (layR f.no f.settled (stayR m.keep 0 m.opens)) (layR f.no f.settled (stayR m.keep 0 m.opens)) [])
    rw [hst]
/-- Every call. -/
theorem Rel.play {d : DiskT} {m : RefT} (h : Rel d m) (hd : Inv d) (hm : RInv m) (x : OpT) : playB d m x = true ∧ Rel (playD d x) (playR m x) := by
  unfold playB playD playR
  have hk : x.kind % 11 < 11 := Nat.mod_lt _ (by omega)
  generalize x.kind % 11 = k at *
  match k, hk with
  | 0, _ => exact ⟨by simpa using (h.create hd hm x.name).1, (h.create hd hm x.name).2⟩
  | 1, _ => exact ⟨by simpa using (h.write hd hm x.name x.page (bytesO x)).1, (h.write hd hm x.name x.page (bytesO x)).2⟩
  | 2, _ => exact ⟨by simpa using (h.sync hd hm x.name).1, (h.sync hd hm x.name).2⟩
  | 3, _ => exact ⟨by simpa using (h.rename hd hm x.name x.dst).1, (h.rename hd hm x.name x.dst).2⟩
  | 4, _ => exact ⟨by simpa using (h.remove hd hm x.name).1, (h.remove hd hm x.name).2⟩
  | 5, _ => exact ⟨by rw [h.read hd]; simp, h⟩
  | 6, _ => exact ⟨by rw [h.len hd]; simp, h⟩
  | 7, _ => exact ⟨rfl, h.fail x.page x.keep⟩
  | 8, _ => exact ⟨rfl, h.on hd hm⟩
  | 9, _ => exact ⟨rfl, h⟩
  | 10, _ => exact ⟨rfl, h⟩
  | k + 11, hk => omega
end Go.Proofs.Ytikbphafpmdpeaa

set_option linter.all false
namespace Go.Proofs.Ytikbphafpmdpeaa
open Go.Sort Go.RowKit

def bLe (a b : ByteArray) : Prop := a.data.toList ≤ b.data.toList
def bLt (a b : ByteArray) : Prop := a.data.toList < b.data.toList
theorem byte_ext {a b : ByteArray} (h : a.data.toList = b.data.toList) : a = b := by
  cases a with | mk x => cases b with | mk y => exact congrArg ByteArray.mk (Array.toList_inj.1 h)
theorem bLe_antisymm {a b : ByteArray} (h1 : bLe a b) (h2 : bLe b a) : a = b := byte_ext (List.le_antisymm h1 h2)
theorem bLe_trans {a b c : ByteArray} (h1 : bLe a b) (h2 : bLe b c) : bLe a c := List.le_trans h1 h2
theorem bLt_le {a b : ByteArray} (h : bLt a b) : bLe a b := List.le_of_lt h
theorem bLt_not {a b : ByteArray} (h : ¬ bLt a b) : bLe b a := List.not_lt.1 h
/-- How a text's `a > b` is told. -/
def gtS (a b : ByteArray) : Bool := !(Op.bytesLess a.toList b.toList || a.toList == b.toList)
theorem gtS_t {a b : ByteArray} : gtS a b = true ↔ bLt b a := by
  unfold gtS bLt
  rw [bytesLess_eq, Go.ByteArray.toList_eq, Go.ByteArray.toList_eq]
  simp only [Bool.not_eq_true', Bool.or_eq_false_iff, decide_eq_false_iff_not, beq_eq_false_iff_ne, ne_eq]
  constructor
  · rintro ⟨h1, h2⟩
    rcases Classical.em (b.data.toList < a.data.toList) with h3 | h3
    · exact h3
    · exact absurd (List.le_antisymm (List.not_lt.1 h3) (List.not_lt.1 h1)) h2
  · intro h
    refine ⟨fun h1 => ?_, fun h1 => ?_⟩
    · exact List.lt_irrefl _ (List.lt_trans h h1)
    · rw [h1] at h; exact List.lt_irrefl _ h
/-- The place of a name, sought from a place down. -/
def placeN (l : List ByteArray) (x : ByteArray) : Nat → Nat
  | 0 => 0
  | k + 1 => match l[k]? with
    | none => k + 1
    | some y => if gtS y x = true then placeN l x k else k + 1
theorem placeN_stop {l : List ByteArray} {x y : ByteArray} {k : Nat} (hy : l[k]? = some y) (h : gtS y x = false) : placeN l x (k + 1) = k + 1 := by
  show (match l[k]? with | none => k + 1 | some y => if gtS y x = true then placeN l x k else k + 1) = k + 1
  rw [hy]
  simp [h]
theorem placeN_go {l : List ByteArray} {x y : ByteArray} {k : Nat} (hy : l[k]? = some y) (h : gtS y x = true) : placeN l x (k + 1) = placeN l x k := by
  show (match l[k]? with | none => k + 1 | some y => if gtS y x = true then placeN l x k else k + 1) = _
  rw [hy]
  simp [h]
theorem placeN_spec (l : List ByteArray) (x : ByteArray) : ∀ k, k ≤ l.length → placeN l x k ≤ k ∧ (∀ j y, placeN l x k ≤ j → j < k → l[j]? = some y → bLt x y) ∧ (∀ y j, placeN l x k = j + 1 → l[j]? = some y → bLe y x)
  | 0, _ => ⟨Nat.le_refl _, fun j y _ h => by omega, fun y j h => by simp [placeN] at h⟩
  | k + 1, hk => by
    obtain ⟨y, hy⟩ : ∃ y, l[k]? = some y := ⟨_, List.getElem?_eq_getElem (by omega)⟩
    cases hg : gtS y x with
    | true =>
      rw [placeN_go hy hg]
      obtain ⟨h1, h2, h3⟩ := placeN_spec l x k (by omega)
      refine ⟨by omega, fun j z hj hjk hz => ?_, h3⟩
      rcases Nat.lt_or_ge j k with h4 | h4
      · exact h2 j z hj h4 hz
      · obtain rfl : j = k := by omega
        rw [hy] at hz
        injection hz with hz
        rw [← hz]; exact gtS_t.1 hg
    | false =>
      rw [placeN_stop hy hg]
      refine ⟨Nat.le_refl _, fun j z hj hjk => by omega, fun z j hj hz => ?_⟩
      obtain rfl : k = j := by omega
      rw [hy] at hz
      injection hz with hz
      rw [← hz]
      exact bLt_not fun h => by rw [gtS_t.2 h] at hg; cases hg
def putN (l : List ByteArray) (x : ByteArray) : List ByteArray := l.take (placeN l x l.length) ++ x :: l.drop (placeN l x l.length)
theorem putN_perm (l : List ByteArray) (x : ByteArray) : (putN l x).Perm (x :: l) := by
  unfold putN
  refine List.perm_middle.trans ?_
  rw [List.take_append_drop]
theorem putN_sorted {l : List ByteArray} (h : l.Pairwise bLe) (x : ByteArray) : (putN l x).Pairwise bLe := by
  obtain ⟨h1, h2, h3⟩ := placeN_spec l x l.length (Nat.le_refl _)
  unfold putN
  generalize placeN l x l.length = k at *
  have a1 : ∀ y ∈ l.take k, bLe y x := fun y hy => by
    obtain ⟨j, hj, rfl⟩ := List.getElem_of_mem hy
    rw [List.length_take] at hj
    rw [List.getElem_take]
    cases k with
    | zero => omega
    | succ k =>
      have h4 := h3 _ k rfl (List.getElem?_eq_getElem (by omega))
      rcases Nat.lt_or_ge j k with h5 | h5
      · exact bLe_trans (List.pairwise_iff_getElem.1 h j k (by omega) (by omega) h5) h4
      · obtain rfl : j = k := by omega
        exact h4
  have a2 : ∀ y ∈ l.drop k, bLe x y := fun y hy => by
    obtain ⟨j, hj, rfl⟩ := List.getElem_of_mem hy
    rw [List.length_drop] at hj
    rw [List.getElem_drop]
    exact bLt_le (h2 (k + j) _ (by omega) (by omega) (List.getElem?_eq_getElem (by omega)))
  rw [List.pairwise_append]
  refine ⟨h.sublist (List.take_sublist _ _), List.pairwise_cons.2 ⟨a2, h.sublist (List.drop_sublist _ _)⟩, fun y hy z hz => ?_⟩
  rcases List.mem_cons.1 hz with rfl | hz
  · exact a1 y hy
  · exact bLe_trans (a1 y hy) (a2 z hz)
def putsN (l : List RFile) : List ByteArray := l.foldl (fun a f => putN a f.name) []
theorem putsN_snoc (l : List RFile) (f : RFile) : putsN (l ++ [f]) = putN (putsN l) f.name := by
  unfold putsN
  rw [List.foldl_append]; rfl
theorem putsN_all (l : List RFile) : ∀ a : List ByteArray, a.Pairwise bLe → (l.foldl (fun a f => putN a f.name) a).Pairwise bLe ∧ (l.foldl (fun a f => putN a f.name) a).Perm (l.map RFile.name ++ a) := by
  induction l with
  | nil => intro a h; exact ⟨h, List.Perm.refl _⟩
  | cons f l ih =>
    intro a h
    obtain ⟨h1, h2⟩ := ih (putN a f.name) (putN_sorted h f.name)
    refine ⟨h1, h2.trans ?_⟩
    refine ((putN_perm a f.name).append_left _).trans ?_
    exact List.perm_middle
theorem putsN_len (l : List RFile) : (putsN l).length = l.length := by
  have := (putsN_all l [] List.Pairwise.nil).2.length_eq
  simpa [putsN] using this
def namesR (m : RefT) : List ByteArray := if m.down = true then [] else putsN m.files
theorem skeys_sorted {α : Type} (l : List (ByteArray × α)) : (skeys l).Pairwise bLe := by
  have tr : ∀ a b c : List UInt8, leB a b = true → leB b c = true → leB a c = true := fun a b c h1 h2 => by simp only [leB, decide_eq_true_eq] at *; exact List.le_trans h1 h2
  have tot : ∀ a b : List UInt8, (leB a b || leB b a) = true := fun a b => by simp only [leB, Bool.or_eq_true, decide_eq_true_eq]; exact List.le_total a b
  unfold skeys
  refine List.pairwise_map.2 ((List.pairwise_mergeSort tr tot _).imp fun {a b} h => ?_)
  show a ≤ b
  simpa [leB] using h
theorem skeys_eq {α : Type} {l : List (ByteArray × α)} {ks : List ByteArray} (hp : ks.Perm (l.map (·.1))) (hs : ks.Pairwise bLe) : skeys l = ks :=
  List.Perm.eq_of_pairwise (le := bLe) (fun _ _ _ _ h1 h2 => bLe_antisymm h1 h2) (skeys_sorted l) hs ((skeys_perm l).trans hp.symm)
theorem Rel.names {d : DiskT} {m : RefT} (h : Rel d m) : namesD d = namesR m := by
  obtain ⟨ns, -, -, -, hp⟩ := h.files
  unfold namesD namesR
  rw [h.off]
  split
  · rfl
  · obtain ⟨h1, h2⟩ := putsN_all m.files [] List.Pairwise.nil
    refine skeys_eq ?_ h1
    rw [List.append_nil] at h2
    refine h2.trans ?_
    refine List.Perm.trans ?_ (hp.map Prod.fst).symm
    rw [List.map_map]
    exact List.Perm.refl _
end Go.Proofs.Ytikbphafpmdpeaa
