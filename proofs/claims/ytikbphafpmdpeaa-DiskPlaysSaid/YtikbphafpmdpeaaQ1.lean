/- The document's disk in plain Lean: what each call answers and leaves. · The document's disk in memory; its small readers. · The document's pages: a write laid; a file's pages. · The document's pages of a file. · The document's drop. -/
import Derived.Test.YtikbphafpmdpeaaDiskI
import Derived.Test.YtikbphafpmdpeaaK1
import Derived.Test.YtikbphafpmdpeaaStructs
import Derived.Test.YtikbphafpmdpeaaO5
set_option linter.all false
namespace Go.Proofs.Ytikbphafpmdpeaa

/-- An open write, of the file of a number. -/
structure RWr where
  file : Nat
  page : Nat
  text : PageT
structure RFile where
  no : Nat
  name : ByteArray
  settled : List PageT
structure RefT where
  files : List RFile
  opens : List RWr
  next : Nat
  quota : Nat
  count : Nat
  set : Bool
  inn : Nat
  keep : Nat
  down : Bool
def newR (quota : Int) : RefT := ⟨[], [], 0, min (max quota 0).toNat 65536, 0, false, 0, 0, false⟩
def layW (no : Nat) (l : List PageT) (x : RWr) : List PageT := if x.file = no then layP l x.page x.text else l
/-- What a file's open writes make of what is settled. -/
def layR (no : Nat) (l : List PageT) (ws : List RWr) : List PageT := ws.foldl (layW no) l
def pagesR (m : RefT) (f : RFile) : List PageT := layR f.no f.settled m.opens
def findR (fs : List RFile) (name : ByteArray) : Option Nat := fs.findIdx? fun f => decide (f.name = name)
def findI (fs : List RFile) (name : ByteArray) : Int := match findR fs name with | some i => i | none => -1
def dropR (m : RefT) (i : Nat) : RefT :=
  match m.files[i]? with
  | none => m
  | some f => { m with opens := m.opens.filter fun x => decide (x.file ≠ f.no), files := m.files.eraseIdx i }
def stepR (m : RefT) : Bool × RefT :=
  if m.set = true ∧ m.inn = 0 then (false, { m with down := true })
  else (true, { m with inn := if m.set = true then m.inn - 1 else m.inn, count := m.count + 1 })
def stepsR (m : RefT) (f : RefT → RefT) : Int × RefT := if (stepR m).1 = true then (0, f (stepR m).2) else (7, (stepR m).2)
def createR (m : RefT) (name : ByteArray) : Int × RefT :=
  if m.down = true then (7, m)
  else if namedB name = false then (2, m)
  else if (findR m.files name).isSome = true then (90, m)
  else if 256 ≤ m.files.length then (3, m)
  else stepsR m fun m => { m with files := m.files ++ [⟨m.next, name, []⟩], next := m.next + 1 }
def removeR (m : RefT) (name : ByteArray) : Int × RefT :=
  if m.down = true then (7, m)
  else match findR m.files name with
    | none => (91, m)
    | some i => stepsR m fun m => dropR m i
def dropN (m : RefT) (name : ByteArray) : RefT := match findR m.files name with | none => m | some k => dropR m k
def nameR (m : RefT) (i : Nat) (name : ByteArray) : RefT := { m with files := m.files.modify i fun f => { f with name := name } }
def renameR (m : RefT) (src dst : ByteArray) : Int × RefT :=
  if m.down = true then (7, m)
  else match findR m.files src with
    | none => (91, m)
    | some _ => if namedB dst = false then (2, m) else stepsR m fun m => if src = dst then m else nameR (dropN m dst) (findI (dropN m dst).files src).toNat dst
def usedR (m : RefT) : Nat := (m.files.map fun f => (pagesR m f).length).sum
def writeR (m : RefT) (name : ByteArray) (page : Int) (b : List UInt8) : Int × RefT :=
  if m.down = true then (7, m)
  else match findR m.files name with
    | none => (91, m)
    | some i => match m.files[i]? with
      | none => (91, m)
      | some f =>
        if 256 < b.length then (2, m)
        else if page < 0 ∨ ((pagesR m f).length : Int) < page then (92, m)
        else if page = (pagesR m f).length ∧ m.quota ≤ usedR m then (93, m)
        else stepsR m fun m => { m with opens := m.opens ++ [⟨f.no, page.toNat, padP b⟩] }
def syncR (m : RefT) (name : ByteArray) : Int × RefT :=
  if m.down = true then (7, m)
  else match findR m.files name with
    | none => (91, m)
    | some i => match m.files[i]? with
      | none => (91, m)
      | some f => stepsR m fun m => { dropR m i with files := (dropR m i).files ++ [{ f with settled := pagesR m f }] }
def lenR (m : RefT) (name : ByteArray) : Int × Nat :=
  if m.down = true then (7, 0)
  else match findR m.files name with
    | none => (91, 0)
    | some i => match m.files[i]? with
      | none => (91, 0)
      | some f => (0, (pagesR m f).length)
def readR (m : RefT) (name : ByteArray) (page : Int) : Int × Option PageT :=
  if m.down = true then (7, none)
  else match findR m.files name with
    | none => (91, none)
    | some i => match m.files[i]? with
      | none => (91, none)
      | some f => if page < 0 then (92, none) else match (pagesR m f)[page.toNat]? with | none => (92, none) | some p => (0, some p)
def failR (m : RefT) (n : Int) (keep : Nat) : RefT := if m.down = true then m else { m with set := true, inn := (max n 0).toNat, keep := keep }
/-- The writes that stay, from a place on. -/
def stayR (keep : Nat) : Nat → List RWr → List RWr
  | _, [] => []
  | n, x :: l => if bitB keep n = true then x :: stayR keep (n + 1) l else stayR keep (n + 1) l
def settleR (m : RefT) (f : RFile) : RFile := { f with settled := pagesR m f }
def onR (m : RefT) : RefT :=
  if m.down = false then m
  else { m with files := m.files.map (settleR { m with opens := stayR m.keep 0 m.opens }), opens := [], down := false, set := false }
/-- What holds of the document's disk at any time. -/
structure RInv (m : RefT) : Prop where
  files : m.files.length ≤ 256
  nos : (m.files.map RFile.no).Nodup
  lt : ∀ f ∈ m.files, f.no < m.next
  names : (m.files.map RFile.name).Nodup
  next : m.next ≤ m.count
  settled : ∀ f ∈ m.files, f.settled.length ≤ m.count
  place : ∀ x ∈ m.opens, x.page < m.count ∧ x.file ∈ m.files.map RFile.no
  opens : m.opens.length ≤ m.count
  quota : m.quota ≤ 65536
  inn : m.inn < 9223372036854775808
  keep : m.keep < 18446744073709551616
theorem newR_inv (q : Int) : RInv (newR q) := ⟨by simp [newR], by simp [newR], by simp [newR], by simp [newR], by simp [newR], by simp [newR], by simp [newR], by simp [newR], by show min _ 65536 ≤ 65536; omega, by simp [newR], by simp [newR]⟩
theorem layR_len {no n : Nat} : ∀ {ws : List RWr} {l : List PageT}, l.length ≤ n → (∀ x ∈ ws, x.page < n) → (layR no l ws).length ≤ n
  | [], l, h, _ => h
  | x :: ws, l, h, hw => by
    show (layR no (layW no l x) ws).length ≤ n
    refine layR_len ?_ fun y hy => hw y (List.mem_cons_of_mem _ hy)
    unfold layW
    split
    · rw [layP_len]
      have := hw x (List.mem_cons_self ..)
      omega
    · exact h
theorem pagesR_len {m : RefT} (h : RInv m) {f : RFile} (hf : f ∈ m.files) : (pagesR m f).length ≤ m.count := layR_len (h.settled f hf) fun x hx => (h.place x hx).1
theorem findR_some {fs : List RFile} {name : ByteArray} {i : Nat} (h : findR fs name = some i) : ∃ f, fs[i]? = some f ∧ f.name = name ∧ i < fs.length := by
  unfold findR at h
  obtain ⟨hi, h1, -⟩ := List.findIdx?_eq_some_iff_getElem.1 h
  exact ⟨fs[i], List.getElem?_eq_getElem hi, by simpa using h1, hi⟩
theorem findR_none {fs : List RFile} {name : ByteArray} (h : findR fs name = none) : ∀ f ∈ fs, f.name ≠ name := fun f hf e => by
  unfold findR at h
  have := (List.findIdx?_eq_none_iff.1 h) f hf
  simp [e] at this
theorem RInv.step {m : RefT} (h : RInv m) : RInv (stepR m).2 := by
  unfold stepR
  split
  · exact ⟨h.files, h.nos, h.lt, h.names, h.next, h.settled, h.place, h.opens, h.quota, h.inn, h.keep⟩
  · exact ⟨h.files, h.nos, h.lt, h.names, Nat.le_succ_of_le h.next, fun f hf => Nat.le_succ_of_le (h.settled f hf), fun x hx => ⟨Nat.lt_succ_of_lt (h.place x hx).1, (h.place x hx).2⟩, Nat.le_succ_of_le h.opens, h.quota, by
      show (if _ then _ else _) < _
      split
      · exact Nat.lt_of_le_of_lt (Nat.sub_le _ _) h.inn
      · exact h.inn, h.keep⟩
theorem stepR_files (m : RefT) : (stepR m).2.files = m.files ∧ (stepR m).2.opens = m.opens ∧ (stepR m).2.next = m.next ∧ (stepR m).2.quota = m.quota ∧ (stepR m).2.set = m.set ∧ (stepR m).2.keep = m.keep := by
  unfold stepR
  split <;> exact ⟨rfl, rfl, rfl, rfl, rfl, rfl⟩
theorem stepR_count (m : RefT) : (stepR m).2.count = if (stepR m).1 = true then m.count + 1 else m.count := by
  unfold stepR
  split <;> rfl
theorem RInv.drop {m : RefT} (h : RInv m) (i : Nat) : RInv (dropR m i) := by
  unfold dropR
  cases hf : m.files[i]? with
  | none => exact h
  | some f =>
    have hs := List.eraseIdx_sublist m.files i
    have hi : i < m.files.length := (List.getElem?_eq_some_iff.1 hf).1
    refine ⟨Nat.le_trans hs.length_le h.files, h.nos.sublist (hs.map _), fun g hg => h.lt g (hs.subset hg), h.names.sublist (hs.map _), h.next, fun g hg => h.settled g (hs.subset hg), fun x hx => ?_, Nat.le_trans (List.length_filter_le ..) h.opens, h.quota, h.inn, h.keep⟩
    obtain ⟨hx1, hx2⟩ := List.mem_filter.1 hx
    refine ⟨(h.place x hx1).1, ?_⟩
    obtain ⟨g, hg, hge⟩ := List.mem_map.1 (h.place x hx1).2
    refine List.mem_map.2 ⟨g, ?_, hge⟩
    obtain ⟨k, hk⟩ := List.getElem?_of_mem hg
    refine List.mem_eraseIdx_iff_getElem?.2 ⟨k, fun e => ?_, hk⟩
    subst e
    rw [hf] at hk
    injection hk with hk
    subst hk
    simp [hge] at hx2
theorem RInv.add {m : RefT} (h : RInv m) {f : RFile} (h1 : m.files.length < 256) (h2 : f.no ∉ m.files.map RFile.no) (h3 : f.no < m.next) (h4 : f.name ∉ m.files.map RFile.name) (h5 : f.settled.length ≤ m.count) : RInv { m with files := m.files ++ [f] } := by
  refine ⟨by simp; omega, ?_, ?_, ?_, h.next, ?_, fun x hx => ⟨(h.place x hx).1, by simpa using .inl (by simpa using (h.place x hx).2)⟩, h.opens, h.quota, h.inn, h.keep⟩
  · show ((m.files ++ [f]).map RFile.no).Nodup
    rw [List.map_append, List.nodup_append]
    exact ⟨h.nos, by simp, fun a ha b hb e => h2 (by simp at hb; rw [← hb, ← e]; exact ha)⟩
  · intro g hg
    rcases List.mem_append.1 hg with hg | hg
    · exact h.lt g hg
    · simp at hg; subst hg; exact h3
  · show ((m.files ++ [f]).map RFile.name).Nodup
    rw [List.map_append, List.nodup_append]
    exact ⟨h.names, by simp, fun a ha b hb e => h4 (by simp at hb; rw [← hb, ← e]; exact ha)⟩
  · intro g hg
    rcases List.mem_append.1 hg with hg | hg
    · exact h.settled g hg
    · simp at hg; subst hg; exact h5
theorem RInv.steps {m : RefT} {f : RefT → RefT} (h : RInv m) (hf : (stepR m).1 = true → RInv (f (stepR m).2)) : RInv (stepsR m f).2 := by
  unfold stepsR
  split
  · rename_i e; exact hf e
  · exact h.step
theorem RInv.create {m : RefT} (h : RInv m) (name : ByteArray) : RInv (createR m name).2 := by
  unfold createR
  split
  · exact h
  · split
    · exact h
    · split
      · exact h
      · rename_i hn
        split
        · exact h
        · rename_i hl
          refine h.steps fun hs => ?_
          have h1 := h.step
          obtain ⟨e1, e2, e3, e4, e5, e6⟩ := stepR_files m
          have hc := stepR_count m
          rw [if_pos hs] at hc
          have h3 : findR m.files name = none := by
            cases hq : findR m.files name with
            | none => rfl
            | some i => rw [hq] at hn; simp at hn
          have hno := findR_none h3
          refine (show RInv { (stepR m).2 with next := (stepR m).2.next + 1 } from ⟨h1.files, h1.nos, fun f hf => Nat.lt_succ_of_lt (h1.lt f hf), h1.names, by show (stepR m).2.next + 1 ≤ (stepR m).2.count; rw [e3, hc]; have := h.next; omega, h1.settled, h1.place, h1.opens, h1.quota, h1.inn, h1.keep⟩).add (f := ⟨(stepR m).2.next, name, []⟩) (by rw [e1]; omega) ?_ (Nat.lt_succ_self _) ?_ (Nat.zero_le _)
          · intro hi
            obtain ⟨g, hg, hge⟩ := List.mem_map.1 hi
            have := h1.lt g hg
            have hge2 : g.no = (stepR m).2.next := hge
            omega
          · intro hi
            obtain ⟨g, hg, hge⟩ := List.mem_map.1 hi
            rw [show ({ (stepR m).2 with next := (stepR m).2.next + 1 } : RefT).files = m.files from e1] at hg
            exact hno g hg hge
theorem RInv.remove {m : RefT} (h : RInv m) (name : ByteArray) : RInv (removeR m name).2 := by
  unfold removeR
  split
  · exact h
  · split
    · exact h
    · exact h.steps fun _ => h.step.drop _
theorem RInv.dropN {m : RefT} (h : RInv m) (name : ByteArray) : RInv (dropN m name) := by
  unfold Go.Proofs.Ytikbphafpmdpeaa.dropN
  split
  · exact h
  · exact h.drop _
theorem erase_names {fs : List RFile} (hn : (fs.map RFile.name).Nodup) {k : Nat} {f : RFile} (hk : fs[k]? = some f) : f.name ∉ (fs.eraseIdx k).map RFile.name := fun hi => by
  obtain ⟨g, hg, hge⟩ := List.mem_map.1 hi
  obtain ⟨j, hjk, hj⟩ := List.mem_eraseIdx_iff_getElem?.1 hg
  have hk1 := (List.getElem?_eq_some_iff.1 hk)
  have hj1 := (List.getElem?_eq_some_iff.1 hj)
  obtain ⟨hk2, hk3⟩ := hk1
  obtain ⟨hj2, hj3⟩ := hj1
  refine hjk ((List.getElem_inj hn (h₀ := by simpa using hj2) (h₁ := by simpa using hk2)).1 ?_)
  rw [List.getElem_map, List.getElem_map, hj3, hk3, hge]
theorem erase_nos {fs : List RFile} (hn : (fs.map RFile.no).Nodup) {k : Nat} {f : RFile} (hk : fs[k]? = some f) : f.no ∉ (fs.eraseIdx k).map RFile.no := fun hi => by
  obtain ⟨g, hg, hge⟩ := List.mem_map.1 hi
  obtain ⟨j, hjk, hj⟩ := List.mem_eraseIdx_iff_getElem?.1 hg
  obtain ⟨hk2, hk3⟩ := List.getElem?_eq_some_iff.1 hk
  obtain ⟨hj2, hj3⟩ := List.getElem?_eq_some_iff.1 hj
  refine hjk ((List.getElem_inj hn (h₀ := by simpa using hj2) (h₁ := by simpa using hk2)).1 ?_)
  rw [List.getElem_map, List.getElem_map, hj3, hk3, hge]
theorem dropN_no {m : RefT} (h : RInv m) (name : ByteArray) : ∀ f ∈ (dropN m name).files, f.name ≠ name := by
  unfold dropN
  cases hf : findR m.files name with
  | none => exact findR_none hf
  | some k =>
    obtain ⟨f, hk, rfl, hlt⟩ := findR_some hf
    intro g hg e
    refine erase_names h.names hk (List.mem_map.2 ⟨g, ?_, e⟩)
    have hg2 : g ∈ (dropR m k).files := hg
    unfold dropR at hg2
    rw [hk] at hg2
    exact hg2
theorem nodup_set {α : Type} {x : α} : ∀ {l : List α}, l.Nodup → x ∉ l → ∀ i, (l.set i x).Nodup
  | [], h, _, _ => by simp
  | y :: l, h, hx, 0 => by
    rw [List.set_cons_zero, List.nodup_cons]
    exact ⟨fun hi => hx (List.mem_cons_of_mem _ hi), (List.nodup_cons.1 h).2⟩
  | y :: l, h, hx, i + 1 => by
    rw [List.set_cons_succ, List.nodup_cons]
    obtain ⟨h1, h2⟩ := List.nodup_cons.1 h
    refine ⟨fun hi => ?_, nodup_set h2 (fun hi => hx (List.mem_cons_of_mem _ hi)) i⟩
    rcases List.mem_or_eq_of_mem_set hi with h3 | h3
    · exact h1 h3
    · subst h3; exact hx (List.mem_cons_self ..)
theorem RInv.nameR {m : RefT} (h : RInv m) (i : Nat) {name : ByteArray} (hn : ∀ f ∈ m.files, f.name ≠ name) : RInv (nameR m i name) := by
  have hno : ((m.files.modify i fun f => { f with name := name }).map RFile.no) = m.files.map RFile.no := by
    refine List.ext_getElem? fun j => ?_
    rw [List.getElem?_map, List.getElem?_map, List.getElem?_modify]
    cases m.files[j]? with
    | none => rfl
    | some g => by_cases e : i = j <;> simp [e]
  have hmem : ∀ f ∈ (m.files.modify i fun f => { f with name := name }), ∃ g ∈ m.files, f.no = g.no ∧ f.settled = g.settled := by
    intro f hf
    obtain ⟨j, hj⟩ := List.getElem?_of_mem hf
    rw [List.getElem?_modify] at hj
    cases hg : m.files[j]? with
    | none => rw [hg] at hj; cases hj
    | some g =>
      rw [hg] at hj
      refine ⟨g, List.mem_of_getElem? hg, ?_⟩
      injection hj with hj
      subst hj
      by_cases e : i = j <;> simp [e]
  refine ⟨by simpa [Go.Proofs.Ytikbphafpmdpeaa.nameR] using h.files, hno ▸ h.nos, fun f hf => ?_, ?_, h.next, fun f hf => ?_, fun x hx => ⟨(h.place x hx).1, hno ▸ (h.place x hx).2⟩, h.opens, h.quota, h.inn, h.keep⟩
  · obtain ⟨g, hg, e1, e2⟩ := hmem f hf
    rw [e1]; exact h.lt g hg
  · show ((m.files.modify i fun f => { f with name := name }).map RFile.name).Nodup
    have e : (m.files.modify i fun f => { f with name := name }).map RFile.name = (m.files.map RFile.name).set i name := by
      refine List.ext_getElem? fun j => ?_
      rw [List.getElem?_map, List.getElem?_modify, List.getElem?_set, List.getElem?_map]
      by_cases e : i = j
      · subst e
        by_cases hl : i < m.files.length
        · simp [List.getElem?_eq_getElem hl, hl]
        · simp [List.getElem?_eq_none (Nat.le_of_not_lt hl), hl]
      · simp [e]
    rw [e]
    exact nodup_set h.names (fun hi => by
      obtain ⟨g, hg, hge⟩ := List.mem_map.1 hi
      exact hn g hg hge) i
  · obtain ⟨g, hg, e1, e2⟩ := hmem f hf
    rw [e2]; exact h.settled g hg
theorem RInv.rename {m : RefT} (h : RInv m) (src dst : ByteArray) : RInv (renameR m src dst).2 := by
  unfold renameR
  split
  · exact h
  · split
    · exact h
    · split
      · exact h
      · refine h.steps fun _ => ?_
        split
        · exact h.step
        · exact (h.step.dropN dst).nameR _ (dropN_no h.step dst)
theorem RInv.write {m : RefT} (h : RInv m) (name : ByteArray) (page : Int) (b : List UInt8) : RInv (writeR m name page b).2 := by
  unfold writeR
  split
  · exact h
  · split
    · exact h
    · split
      · exact h
      · rename_i i hi f hf
        split
        · exact h
        · split
          · exact h
          · rename_i hp
            split
            · exact h
            · refine h.steps fun hs => ?_
              have h1 := h.step
              obtain ⟨e1, e2, e3, e4, e5, e6⟩ := stepR_files m
              have hc := stepR_count m
              rw [if_pos hs] at hc
              have hm := List.mem_of_getElem? hf
              have hl := pagesR_len h hm
              refine ⟨h1.files, h1.nos, h1.lt, h1.names, h1.next, h1.settled, ?_, ?_, h1.quota, h1.inn, h1.keep⟩
              · intro x hx
                rcases List.mem_append.1 hx with hx | hx
                · exact h1.place x hx
                · simp at hx
                  subst hx
                  refine ⟨?_, ?_⟩
                  · show page.toNat < _
                    rw [hc]; omega
                  · show f.no ∈ ((stepR m).2.files).map RFile.no
                    rw [e1]; exact List.mem_map.2 ⟨f, hm, rfl⟩
              · show ((stepR m).2.opens ++ _).length ≤ _
                rw [List.length_append, e2, hc]
                have := h.opens
                simp; omega
theorem RInv.sync {m : RefT} (h : RInv m) (name : ByteArray) : RInv (syncR m name).2 := by
  unfold syncR
  split
  · exact h
  · split
    · exact h
    · split
      · exact h
      · rename_i i hi x f hf
        refine h.steps fun hs => ?_
        have h1 := h.step
        obtain ⟨e1, e2, e3, e4, e5, e6⟩ := stepR_files m
        rw [← e1] at hf
        have hm := List.mem_of_getElem? hf
        have hl := pagesR_len h1 hm
        have hd := h1.drop i
        have hde : (dropR (stepR m).2 i).files = (stepR m).2.files.eraseIdx i ∧ (dropR (stepR m).2 i).count = (stepR m).2.count ∧ (dropR (stepR m).2 i).next = (stepR m).2.next := by unfold dropR; rw [hf]; exact ⟨rfl, rfl, rfl⟩
        have hi2 : i < (stepR m).2.files.length := (List.getElem?_eq_some_iff.1 hf).1
        refine hd.add (f := { f with settled := pagesR (stepR m).2 f }) ?_ ?_ ?_ ?_ ?_
        · rw [hde.1, List.length_eraseIdx_of_lt hi2]
          have := h1.files
          omega
        · rw [hde.1]; exact (show f.no ∉ _ from erase_nos h1.nos hf)
        · rw [hde.2.2]; exact h1.lt f hm
        · rw [hde.1]; exact (show f.name ∉ _ from erase_names h1.names hf)
        · rw [hde.2.1]; exact hl
theorem RInv.fail {m : RefT} (h : RInv m) {n : Int} {k : Nat} (hn : n < 9223372036854775808) (hk : k < 18446744073709551616) : RInv (failR m n k) := by
  unfold failR
  split
  · exact h
  · exact ⟨h.files, h.nos, h.lt, h.names, h.next, h.settled, h.place, h.opens, h.quota, by show (max n 0).toNat < _; omega, hk⟩
theorem stayR_mem {keep : Nat} : ∀ {l : List RWr} {n : Nat} {x : RWr}, x ∈ stayR keep n l → x ∈ l
  | [], _, _, h => by simp [stayR] at h
  | y :: l, n, x, h => by
    unfold stayR at h
    split at h
    · rcases List.mem_cons.1 h with rfl | h
      · exact List.mem_cons_self ..
      · exact List.mem_cons_of_mem _ (stayR_mem h)
    · exact List.mem_cons_of_mem _ (stayR_mem h)
theorem RInv.on {m : RefT} (h : RInv m) : RInv (onR m) := by
  unfold onR
  split
  · exact h
  · have e1 : (m.files.map (settleR { m with opens := stayR m.keep 0 m.opens })).map RFile.no = m.files.map RFile.no := by rw [List.map_map]; rfl
    have e2 : (m.files.map (settleR { m with opens := stayR m.keep 0 m.opens })).map RFile.name = m.files.map RFile.name := by rw [List.map_map]; rfl
    refine ⟨by simpa using h.files, e1 ▸ h.nos, fun f hf => ?_, e2 ▸ h.names, h.next, fun f hf => ?_, by simp, Nat.zero_le _, h.quota, h.inn, h.keep⟩
    · obtain ⟨g, hg, rfl⟩ := List.mem_map.1 hf
      exact h.lt g hg
    · obtain ⟨g, hg, rfl⟩ := List.mem_map.1 hf
      exact layR_len (h.settled g hg) fun x hx => (h.place x (stayR_mem hx)).1
end Go.Proofs.Ytikbphafpmdpeaa

set_option linter.all false
namespace Go.Proofs.Ytikbphafpmdpeaa
open Go.RowKit

def pgS (p : PageT) : Value := .string ⟨p.b.toArray⟩
def wrR (x : RWr) : List Value := [.int .i64 x.file, .int .i64 x.page, pgS x.text]
theorem slRFile : SlTyK Try.prog 60 96 (.agg #[.int .i64 0, .string ⟨#[]⟩, .slice none 0 0]) 3 48 := ⟨Try.underlying60, by kernel_rfl, rfl, by decide⟩
theorem slRWr : SlTyK Try.prog 61 99 (.agg #[.int .i64 0, .int .i64 0, .string ⟨#[]⟩]) 3 32 := ⟨Try.underlying61, by kernel_rfl, rfl, by decide⟩
/-- The cells of a row of files. -/
def FilesVs (w : World) : List RFile → List Value → Prop
  | [], vs => vs = []
  | f :: r, vs => ∃ v rest, vs = .int .i64 f.no :: .string f.name :: v :: rest ∧ Row w 0 9 v (f.settled.map pgS) ∧ FilesVs w r rest
/-- No row of strings is written to. -/
def StrKept (w w' : World) : Prop := ∀ (g : Nat) (cur : Array Value) (fr : Nat × Nat), w.heap[g]? = some (Obj.cells cur 9 fr) → w'.heap[g]? = w.heap[g]?
theorem StrKept.below {w w' : World} (h : Below w.heap.size w w') : StrKept w w' := fun g _ _ hg => h.block g (lt_of_block hg)
theorem StrKept.heap {w w' : World} (h : w'.heap = w.heap) : StrKept w w' := fun g _ _ _ => by rw [h]
theorem Row.strs {w w' : World} (hk : StrKept w w') {base : Nat} {v : Value} {xs : List Value} (h : Row w base 9 v xs) : Row w' base 9 v xs := by
  rcases h with h | ⟨g, off, cap, cur, fr, hv, hg, hh, rest⟩
  · exact .inl h
  · exact .inr ⟨g, off, cap, cur, fr, hv, hg, (hk g cur fr hh).trans hh, rest⟩
theorem FilesVs.len {w : World} : ∀ {l : List RFile} {vs : List Value}, FilesVs w l vs → vs.length = l.length * 3
  | [], vs, h => by
    have h' : vs = [] := h
    rw [h']; rfl
  | x :: r, vs, h => by
    obtain ⟨v, rest, rfl, -, hr⟩ := h
    have := FilesVs.len hr
    simp; omega
theorem Row.one {w : World} {base : Nat} {E : TypeId} {v : Value} {xs : List Value} (h : Row w base E v xs) : v.oneCell' = true := by
  rcases h with ⟨rfl, -⟩ | ⟨g, off, cap, cur, fr, rfl, -⟩ <;> rfl
theorem FilesVs.one {w : World} : ∀ {l : List RFile} {vs : List Value}, FilesVs w l vs → ∀ u ∈ vs, u.oneCell' = true
  | [], vs, h => by
    have h' : vs = [] := h
    rw [h']; intro u hu; cases hu
  | x :: r, vs, h => by
    obtain ⟨v, rest, rfl, ho, hr⟩ := h
    intro u hu
    rcases List.mem_cons.1 hu with rfl | hu
    · rfl
    · rcases List.mem_cons.1 hu with rfl | hu
      · rfl
      · rcases List.mem_cons.1 hu with rfl | hu
        · exact ho.one
        · exact FilesVs.one hr u hu
theorem FilesVs.kept {w w' : World} (hk : StrKept w w') : ∀ {l : List RFile} {vs : List Value}, FilesVs w l vs → FilesVs w' l vs
  | [], vs, h => h
  | x :: r, vs, h => by
    obtain ⟨v, rest, rfl, ho, hr⟩ := h
    exact ⟨v, rest, rfl, ho.strs hk, FilesVs.kept hk hr⟩
theorem FilesVs.at_ {w : World} : ∀ {l : List RFile} {vs : List Value}, FilesVs w l vs → ∀ (k : Nat) (hk : k < l.length), ∃ v, vs[k * 3]? = some (.int .i64 l[k].no) ∧ vs[k * 3 + 1]? = some (.string l[k].name) ∧ vs[k * 3 + 2]? = some v ∧ Row w 0 9 v (l[k].settled.map pgS)
  | [], vs, h => fun k hk => by simp at hk
  | x :: r, vs, h => fun k hk => by
    obtain ⟨v, rest, rfl, ho, hr⟩ := h
    cases k with
    | zero => exact ⟨v, rfl, rfl, rfl, ho⟩
    | succ k =>
      obtain ⟨v', h1, h2, h3, h4⟩ := FilesVs.at_ hr k (by simpa using hk)
      refine ⟨v', ?_, ?_, ?_, h4⟩
      · rw [show (k + 1) * 3 = k * 3 + 3 by omega]; exact h1
      · rw [show (k + 1) * 3 + 1 = k * 3 + 1 + 3 by omega]; exact h2
      · rw [show (k + 1) * 3 + 2 = k * 3 + 2 + 3 by omega]; exact h3
theorem FilesVs.append {w : World} : ∀ {l r : List RFile} {vs us : List Value}, FilesVs w l vs → FilesVs w r us → FilesVs w (l ++ r) (vs ++ us)
  | [], r, vs, us, h, h' => by
    have h0 : vs = [] := h
    rw [h0]; exact h'
  | x :: l, r, vs, us, h, h' => by
    obtain ⟨v, rest, rfl, ho, hr⟩ := h
    exact ⟨v, rest ++ us, rfl, ho, FilesVs.append hr h'⟩
theorem FilesVs.drop {w : World} : ∀ {l : List RFile} {vs : List Value}, FilesVs w l vs → ∀ k, FilesVs w (l.drop k) (vs.drop (k * 3))
  | l, vs, h, 0 => by simpa using h
  | [], vs, h, k + 1 => by
    have h0 : vs = [] := h
    rw [h0]; simp; exact rfl
  | x :: r, vs, h, k + 1 => by
    obtain ⟨v, rest, rfl, ho, hr⟩ := h
    have := FilesVs.drop hr k
    rw [show (k + 1) * 3 = k * 3 + 3 by omega]
    exact this
theorem FilesVs.take {w : World} : ∀ {l : List RFile} {vs : List Value}, FilesVs w l vs → ∀ k, FilesVs w (l.take k) (vs.take (k * 3))
  | l, vs, h, 0 => by simp; exact rfl
  | [], vs, h, k + 1 => by
    have h0 : vs = [] := h
    rw [h0]; simp; exact rfl
  | x :: r, vs, h, k + 1 => by
    obtain ⟨v, rest, rfl, ho, hr⟩ := h
    rw [show (k + 1) * 3 = k * 3 + 3 by omega]
    exact ⟨v, rest.take (k * 3), rfl, ho, FilesVs.take hr k⟩
theorem FilesVs.modName {w : World} (name : ByteArray) : ∀ {l : List RFile} {vs : List Value}, FilesVs w l vs → ∀ k, FilesVs w (l.modify k fun f => { f with name := name }) (vs.set (k * 3 + 1) (.string name))
  | [], vs, h, k => by
    have h0 : vs = [] := h
    rw [h0]; simp; exact rfl
  | x :: r, vs, h, 0 => by
    obtain ⟨v, rest, rfl, ho, hr⟩ := h
    exact ⟨v, rest, rfl, ho, hr⟩
  | x :: r, vs, h, k + 1 => by
    obtain ⟨v, rest, rfl, ho, hr⟩ := h
    rw [show (k + 1) * 3 + 1 = k * 3 + 1 + 3 by omega]
    exact ⟨v, rest.set (k * 3 + 1) (.string name), rfl, ho, FilesVs.modName name hr k⟩
theorem FilesVs.modSettled {w : World} {ps : List PageT} {u : Value} (hu : Row w 0 9 u (ps.map pgS)) : ∀ {l : List RFile} {vs : List Value}, FilesVs w l vs → ∀ k, FilesVs w (l.modify k fun f => { f with settled := ps }) (vs.set (k * 3 + 2) u)
  | [], vs, h, k => by
    have h0 : vs = [] := h
    rw [h0]; simp; exact rfl
  | x :: r, vs, h, 0 => by
    obtain ⟨v, rest, rfl, ho, hr⟩ := h
    exact ⟨u, rest, rfl, hu, hr⟩
  | x :: r, vs, h, k + 1 => by
    obtain ⟨v, rest, rfl, ho, hr⟩ := h
    rw [show (k + 1) * 3 + 2 = k * 3 + 2 + 3 by omega]
    exact ⟨v, rest.set (k * 3 + 2) u, rfl, ho, FilesVs.modSettled hu hr k⟩
def cellsR (vf vo : Value) (m : RefT) : Array Value := #[vf, vo, .int .i64 m.next, .int .i64 m.quota, .int .i64 m.count, .bool m.set, .int .i64 m.inn, .int .u64 m.keep, .bool m.down]
/-- The document's disk in block p. -/
structure RfAt (w : World) (p : Nat) (vf vo : Value) (vs : List Value) (m : RefT) : Prop where
  blk : w.heap[p]? = some (.cells (cellsR vf vo m) 63)
  of : w.ownsRow 0 96 3 vf m.files.length vs
  oo : w.ownsRow 0 99 3 vo m.opens.length (m.opens.flatMap wrR)
  fv : FilesVs w m.files vs
def fpR (p : Nat) (vf vo : Value) : List Nat := p :: (vf.ownBlock.toList ++ vo.ownBlock.toList)
theorem row_kind {w : World} {base : Nat} {E : TypeId} {k : Nat} {v : Value} {n : Nat} {xs : List Value} (h : w.ownsRow base E k v n xs) {g : Nat} (hg : v.ownBlock = some g) : ∃ cur, w.heap[g]? = some (.cells cur E) := by
  rcases h.2 with ⟨hv, -⟩ | ⟨g', cap, cur, hv, -, hh, -⟩
  · rw [hv] at hg; cases hg
  · rw [hv] at hg
    injection hg with hg
    have hg' : g' = g := hg
    subst hg'
    exact ⟨cur, hh⟩
section
variable {w : World} {p : Nat} {vf vo : Value} {vs : List Value} {m : RefT}
theorem RfAt.cell (h : RfAt w p vf vo vs m) :
    w.cell? ⟨p, 0, none⟩ = some vf ∧ w.cell? ⟨p, 1, none⟩ = some vo ∧ w.cell? ⟨p, 2, none⟩ = some (.int .i64 m.next) ∧ w.cell? ⟨p, 3, none⟩ = some (.int .i64 m.quota) ∧ w.cell? ⟨p, 4, none⟩ = some (.int .i64 m.count) ∧
    w.cell? ⟨p, 5, none⟩ = some (.bool m.set) ∧ w.cell? ⟨p, 6, none⟩ = some (.int .i64 m.inn) ∧ w.cell? ⟨p, 7, none⟩ = some (.int .u64 m.keep) ∧ w.cell? ⟨p, 8, none⟩ = some (.bool m.down) := by
  have h1 := h.blk
  refine ⟨?_, ?_, ?_, ?_, ?_, ?_, ?_, ?_, ?_⟩ <;> exact cell_of h1 rfl
theorem RfAt.free (h : RfAt w p vf vo vs m) (j : Nat) : w.frozen? ⟨p, j, none⟩ = false := free_of h.blk j
theorem RfAt.lt (h : RfAt w p vf vo vs m) : ∀ i ∈ fpR p vf vo, i < w.heap.size := by
  intro i hi
  simp only [fpR, List.mem_cons, List.mem_append] at hi
  rcases hi with rfl | hi | hi
  · exact lt_of_block h.blk
  · exact (World.ownsRow.lt h.of i (by simpa using hi)).2
  · exact (World.ownsRow.lt h.oo i (by simpa using hi)).2
theorem RfAt.not_str (h : RfAt w p vf vo vs m) : ∀ i ∈ fpR p vf vo, ∀ cur fr, w.heap[i]? ≠ some (.cells cur 9 fr) := by
  intro i hi cur fr he
  simp only [fpR, List.mem_cons, List.mem_append] at hi
  rcases hi with rfl | hi | hi
  · rw [h.blk] at he; cases he
  · obtain ⟨c, hc⟩ := row_kind h.of (by simpa using hi); rw [hc] at he; cases he
  · obtain ⟨c, hc⟩ := row_kind h.oo (by simpa using hi); rw [hc] at he; cases he
theorem RfAt.kept {w' : World} (h : RfAt w p vf vo vs m) (hb : ∀ i ∈ fpR p vf vo, w'.heap[i]? = w.heap[i]?) (hk : StrKept w w') : RfAt w' p vf vo vs m :=
  ⟨(hb p (by simp [fpR])).trans h.blk, ownsRow_block h.of fun g hg => hb g (by simp [fpR, hg]), ownsRow_block h.oo fun g hg => hb g (by simp [fpR, hg]), h.fv.kept hk⟩
theorem RfAt.below {w' : World} (h : RfAt w p vf vo vs m) (hb : Below w.heap.size w w') : RfAt w' p vf vo vs m := h.kept (fun i hi => hb.block i (h.lt i hi)) (.below hb)
theorem RfAt.heap {w' : World} (h : RfAt w p vf vo vs m) (hh : w'.heap = w.heap) : RfAt w' p vf vo vs m := h.kept (fun i _ => by rw [hh]) (.heap hh)
/-- Beside what is written to. -/
theorem RfAt.fr {w' : World} {F : List Nat} (h : RfAt w p vf vo vs m) (hf : Fr F w w') (hF : ∀ i ∈ fpR p vf vo, i ∉ F) (hs : ∀ i ∈ F, ∀ cur fr, w.heap[i]? ≠ some (.cells cur 9 fr)) : RfAt w' p vf vo vs m :=
  h.kept (fun i hi => hf.block i (h.lt i hi) (hF i hi)) fun g cur fr hg => hf.block g (lt_of_block hg) fun hi => hs g hi cur fr hg
theorem RfAt.ne_f (h : RfAt w p vf vo vs m) : vf.ownBlock ≠ some p := fun e => by
  obtain ⟨c, hc⟩ := row_kind h.of e
  rw [h.blk] at hc; cases hc
theorem RfAt.ne_o (h : RfAt w p vf vo vs m) : vo.ownBlock ≠ some p := fun e => by
  obtain ⟨c, hc⟩ := row_kind h.oo e
  rw [h.blk] at hc; cases hc
theorem RfAt.ne_fo (h : RfAt w p vf vo vs m) {g : Nat} (h1 : vf.ownBlock = some g) (h2 : vo.ownBlock = some g) : False := by
  obtain ⟨c, hc⟩ := row_kind h.of h1
  obtain ⟨c2, hc2⟩ := row_kind h.oo h2
  rw [hc] at hc2; cases hc2
theorem RfAt.files (h : RfAt w p vf vo vs m) : ∃ A c, vf = .slice A m.files.length c ∧ m.files.length ≤ c ∧ Cells w A vs := own_shape h.of
theorem RfAt.opens (h : RfAt w p vf vo vs m) : ∃ A c, vo = .slice A m.opens.length c ∧ m.opens.length ≤ c ∧ Cells w A (m.opens.flatMap wrR) := own_shape h.oo
/-- A number or a flag in its field. -/
theorem RfAt.field {m' : RefT} (h : RfAt w p vf vo vs m) (j : Nat) (u : Value) (hc : (cellsR vf vo m).setIfInBounds j u = cellsR vf vo m') (hf : m'.files = m.files) (ho : m'.opens = m.opens) :
    RfAt (w.setCell ⟨p, j, none⟩ u) p vf vo vs m' := by
  have hne : ∀ i, i ≠ p → (w.setCell ⟨p, j, none⟩ u).heap[i]? = w.heap[i]? := fun i hi => Below.heap_setCell w ⟨p, j, none⟩ u i hi
  refine ⟨?_, ?_, ?_, ?_⟩
  · rw [← hc]; exact setCell_heap u h.blk
  · rw [hf]; exact ownsRow_block h.of fun g hg => hne g fun e => h.ne_f (by rw [hg, e])
  · rw [ho]; exact ownsRow_block h.oo fun g hg => hne g fun e => h.ne_o (by rw [hg, e])
  · rw [hf]; exact h.fv.kept fun g cur fr hg => hne g fun e => by subst e; rw [h.blk] at hg; cases hg
/-- A row of files in its field. -/
theorem RfAt.set_files {w1 : World} {vf' : Value} {vs' : List Value} {fs : List RFile} (h : RfAt w p vf vo vs m) (hf : Fr vf.ownBlock.toList w w1) (ho : w1.ownsRow 0 96 3 vf' fs.length vs') (hv : FilesVs w1 fs vs') :
    RfAt (w1.setCell ⟨p, 0, none⟩ vf') p vf' vo vs' { m with files := fs } := by
  have hp : w1.heap[p]? = some (.cells (cellsR vf vo m) 63) := (hf.block p (lt_of_block h.blk) fun hi => h.ne_f (by simpa using hi)).trans h.blk
  have hne : ∀ i, i ≠ p → (w1.setCell ⟨p, 0, none⟩ vf').heap[i]? = w1.heap[i]? := fun i hi => Below.heap_setCell w1 ⟨p, 0, none⟩ vf' i hi
  refine ⟨(setCell_heap vf' hp).trans rfl, ?_, ?_, ?_⟩
  · exact ownsRow_block ho fun g hg => hne g fun e => by
      obtain ⟨c, hc⟩ := row_kind ho hg
      rw [e, hp] at hc; cases hc
  · exact ownsRow_block h.oo fun g hg => (hne g fun e => h.ne_o (by rw [hg, e])).trans (hf.block g (World.ownsRow.lt h.oo g hg).2 fun hi => h.ne_fo (by simpa using hi) hg)
  · exact hv.kept fun g cur fr hg => hne g fun e => by subst e; rw [hp] at hg; cases hg
/-- A row of writes in its field. -/
theorem RfAt.set_opens {w1 : World} {vo' : Value} {os : List RWr} (h : RfAt w p vf vo vs m) (hf : Fr vo.ownBlock.toList w w1) (ho : w1.ownsRow 0 99 3 vo' os.length (os.flatMap wrR)) :
    RfAt (w1.setCell ⟨p, 1, none⟩ vo') p vf vo' vs { m with opens := os } := by
  have hp : w1.heap[p]? = some (.cells (cellsR vf vo m) 63) := (hf.block p (lt_of_block h.blk) fun hi => h.ne_o (by simpa using hi)).trans h.blk
  have hne : ∀ i, i ≠ p → (w1.setCell ⟨p, 1, none⟩ vo').heap[i]? = w1.heap[i]? := fun i hi => Below.heap_setCell w1 ⟨p, 1, none⟩ vo' i hi
  refine ⟨(setCell_heap vo' hp).trans rfl, ?_, ?_, ?_⟩
  · exact ownsRow_block h.of fun g hg => (hne g fun e => h.ne_f (by rw [hg, e])).trans (hf.block g (World.ownsRow.lt h.of g hg).2 fun hi => h.ne_fo hg (by simpa using hi))
  · exact ownsRow_block ho fun g hg => hne g fun e => by
      obtain ⟨c, hc⟩ := row_kind ho hg
      rw [e, hp] at hc; cases hc
  · exact h.fv.kept fun g cur fr hg => (hne g fun e => by subst e; rw [h.blk] at hg; cases hg).trans (hf.block g (lt_of_block hg) fun hi => by
      obtain ⟨c, hc⟩ := row_kind h.oo (by simpa using hi)
      rw [hc] at hg; cases hg)
end
theorem rnamed_any (s : ByteArray) (w : World) : Calls Try.prog 58 #[.string s] w fun e w' => e = .returned (.bool (namedB s)) ∧ w = w' := by
  by_cases h1 : 1 ≤ s.size
  · by_cases h2 : s.size ≤ 100
    · have hb : namedB s = true := by unfold namedB; simp [h1, h2]
      rw [hb]
      go_enter Try.func58, Try.ntmps58
      go_wp2
      go_ret
      exact ⟨ret_bool (by first | (simp; omega) | simp), rfl⟩
    · have hb : namedB s = false := by unfold namedB; simp [h1, h2]
      rw [hb]
      go_enter Try.func58, Try.ntmps58
      go_wp2
      go_ret
      exact ⟨ret_bool (by first | (simp; omega) | simp), rfl⟩
  · have hb : namedB s = false := by unfold namedB; simp [h1]
    rw [hb]
    go_enter Try.func58, Try.ntmps58
    go_wp2
    go_ret
    exact ⟨ret_bool (by first | (simp; omega) | simp), rfl⟩
theorem next_add (ad : Addr) (i j : Nat) (hj : 0 < j) : (⟨(ad.add i).block, (ad.add i).off + j, none⟩ : Addr) = ad.add (i + j) := by
  unfold Addr.add
  by_cases h : i = 0
  · subst h
    rw [if_pos rfl, if_neg (by omega)]
    simp
  · rw [if_neg h, if_neg (by omega)]
    simp [Nat.add_assoc]
/-- A file's cells. -/
theorem file_look {w : World} {A : Option Addr} {fs : List RFile} {vs : List Value} (h : Cells w A vs) (hv : FilesVs w fs vs) {k : Nat} (hk : k < fs.length) : ∃ ad v, A = some ad ∧ w.cell? (ad.add (k * 3)) = some (.int .i64 fs[k].no) ∧
    w.cell? ⟨(ad.add (k * 3)).block, (ad.add (k * 3)).off + 1, none⟩ = some (.string fs[k].name) ∧ w.cell? ⟨(ad.add (k * 3)).block, (ad.add (k * 3)).off + 2, none⟩ = some v ∧ Row w 0 9 v (fs[k].settled.map pgS) := by
  obtain ⟨v, h1, h2, h3, h4⟩ := hv.at_ k hk
  obtain ⟨ad, rfl, hc⟩ := h (by rw [hv.len]; omega)
  exact ⟨ad, v, rfl, hc _ _ h1, by rw [next_add _ _ _ (by decide)]; exact hc _ _ h2, by rw [next_add _ _ _ (by decide)]; exact hc _ _ h3, h4⟩
/-- A write's cells. -/
theorem wr_look {w : World} {A : Option Addr} {l : List RWr} (h : Cells w A (l.flatMap wrR)) {k : Nat} (hk : k < l.length) : ∃ ad, A = some ad ∧ w.cell? (ad.add (k * 3)) = some (.int .i64 l[k].file) ∧
    w.cell? ⟨(ad.add (k * 3)).block, (ad.add (k * 3)).off + 1, none⟩ = some (.int .i64 l[k].page) ∧ w.cell? ⟨(ad.add (k * 3)).block, (ad.add (k * 3)).off + 2, none⟩ = some (pgS l[k].text) := by
  obtain ⟨ad, rfl, hc⟩ := h (by rw [flat_len (k := 3) (fun _ => rfl)]; omega)
  exact ⟨ad, rfl, hc _ _ (flat_at (k := 3) (f := wrR) (fun _ => rfl) l hk (j := 0) (by decide)), by rw [next_add _ _ _ (by decide)]; exact hc _ _ (flat_at (k := 3) (f := wrR) (fun _ => rfl) l hk (j := 1) (by decide)), by rw [next_add _ _ _ (by decide)]; exact hc _ _ (flat_at (k := 3) (f := wrR) (fun _ => rfl) l hk (j := 2) (by decide))⟩
set_option maxRecDepth 100000 in
set_option maxHeartbeats 2000000 in
theorem rfind_any {p : Nat} {vf vo : Value} {vs : List Value} {m : RefT} (name : ByteArray) {w : World} (h : RfAt w p vf vo vs m) (hl : m.files.length ≤ 1000) :
    Calls Try.prog 59 #[.pointer (some ⟨p, 0, none⟩), .string name] w fun e w' => e = .returned (.int .i64 (findI m.files name)) ∧ w = w' := by
  obtain ⟨e0, -⟩ := h.cell
  obtain ⟨Aa, ca, rfl, -, hca⟩ := h.files
  have HCA := Lib.hid hca
  have HV := Lib.hid h.fv
  obtain ⟨r, hr⟩ : ∃ r, findI m.files name = r := ⟨_, rfl⟩
  rw [hr]
  have hR : (∃ i, ∃ hi : i < m.files.length, m.files[i].name = name ∧ r = i ∧ ∀ j (hj : j < m.files.length), j < i → m.files[j].name ≠ name) ∨ (r = -1 ∧ ∀ j (hj : j < m.files.length), m.files[j].name ≠ name) := by
    unfold findI at hr
    cases hq : findR m.files name with
    | none => rw [hq] at hr; exact .inr ⟨hr.symm, fun j hj => findR_none hq _ (List.getElem_mem hj)⟩
    | some i =>
      rw [hq] at hr
      unfold findR at hq
      obtain ⟨hi, h1, h2⟩ := List.findIdx?_eq_some_iff_getElem.1 hq
      exact .inl ⟨i, hi, by simpa using h1, hr.symm, fun j hj hji => by simpa using h2 j hji⟩
  have HR := Lib.hid hR
  clear h hca hr hR
  go_enter Try.func59, Try.ntmps59
  go_wp2_with fail
  go_loop [5] (fun i => ∃ k : Nat, k ≤ m.files.length ∧ i = .int .i64 k ∧ ∀ j (hj : j < m.files.length), j < k → m.files[j].name ≠ name) (fun i => m.files.length - (intOf i).toNat)
  case atStart => exact ⟨0, Nat.zero_le _, rfl, fun j _ h => by omega⟩
  case round =>
    obtain ⟨k, hk, rfl, hall⟩ := hrel
    have HALL := Lib.hid hall
    clear hall
    by_cases hlt : k < m.files.length
    · obtain ⟨ad, v, rfl, -, c0, -⟩ := file_look HCA.out HV.out hlt
      by_cases hq : m.files[k].name = name
      · have hrk : r = k := by
          rcases HR.out with ⟨i, hi, h1, h2, h3⟩ | ⟨-, h2⟩
          · rcases Nat.lt_trichotomy i k with h4 | h4 | h4
            · exact absurd h1 (HALL.out i hi h4)
            · rw [h2, h4]
            · exact absurd hq (h3 k hlt h4)
          · exact absurd hq (h2 k hlt)
        subst hrk
        have he := tl_t hq
        obtain ⟨P, hP⟩ : ∃ P, m.files[k].name = P := ⟨_, rfl⟩
        rw [hP] at c0 he
        clear hq hP
        go_wp2_with fail
        go_ret
        exact ⟨rfl, rfl⟩
      · have he := tl_f hq
        have HQ := Lib.hid hq
        obtain ⟨P, hP⟩ : ∃ P, m.files[k].name = P := ⟨_, rfl⟩
        rw [hP] at c0 he
        clear hq hP
        go_wp2_with fail
        go_round
        case rel =>
          refine ⟨k + 1, by omega, by go_num, fun j hj hjk => ?_⟩
          rcases Nat.lt_or_ge j k with h | h
          · exact HALL.out j hj h
          · obtain rfl : j = k := by omega
            exact HQ.out
        case measure => simp [intOf]; omega
    · have hrk : r = -1 := by
        rcases HR.out with ⟨i, hi, h1, -⟩ | ⟨h1, -⟩
        · exact absurd h1 (HALL.out i hi (by omega))
        · exact h1
      subst hrk
      go_wp2_with fail
      go_ret
      exact ⟨rfl, rfl⟩
set_option maxHeartbeats 1000000 in
theorem rstep_any {p : Nat} {vf vo : Value} {vs : List Value} {m : RefT} {w : World} (h : RfAt w p vf vo vs m) (hc : m.count ≤ 3999999999) (hin : m.inn < 9223372036854775808) :
    Calls Try.prog 60 #[.pointer (some ⟨p, 0, none⟩)] w fun e w' => e = .returned (.bool (stepR m).1) ∧ RfAt w' p vf vo vs (stepR m).2 ∧ Fr [p] w w' := by
  obtain ⟨-, -, -, -, c4, c5, c6, -, c8⟩ := h.cell
  have f4 := h.free 4
  have f6 := h.free 6
  have f8 := h.free 8
  have H := Lib.hid h
  obtain ⟨sb, hsb⟩ : ∃ sb, m.set = sb := ⟨_, rfl⟩
  obtain ⟨inn, hinn⟩ : ∃ inn, m.inn = inn := ⟨_, rfl⟩
  obtain ⟨cnt, hcnt⟩ : ∃ cnt, m.count = cnt := ⟨_, rfl⟩
  obtain ⟨dn, hdn⟩ : ∃ dn, m.down = dn := ⟨_, rfl⟩
  have HS := Lib.hid hsb
  have HI := Lib.hid hinn
  have HC := Lib.hid hcnt
  rw [hsb] at c5
  rw [hinn] at c6 hin
  rw [hcnt] at c4 hc
  rw [hdn] at c8
  clear h hsb hinn hcnt hdn
  cases sb with
  | true =>
    by_cases hz : inn = 0
    · subst hz
      have hst : stepR m = (false, { m with down := true }) := by unfold stepR; rw [if_pos ⟨HS.out, HI.out⟩]
      rw [hst]
      go_enter Try.func60, Try.ntmps60
      go_wp2_with fail
      go_ret
      exact ⟨rfl, H.out.field 8 (.bool true) rfl rfl rfl, (Fr.refl [p] w).put p 8 _ (.inl (by simp))⟩
    · have hst : stepR m = (true, { m with inn := m.inn - 1, count := m.count + 1 }) := by unfold stepR; rw [if_neg (fun h => hz (HI.out ▸ h.2)), if_pos HS.out]
      rw [hst]
      have hz2 : ¬ ((inn : Int) = 0) := by omega
      clear hst
      go_enter Try.func60, Try.ntmps60
      go_wp2_with fail
      go_ret
      refine ⟨rfl, ?_, ((Fr.refl [p] w).put p 6 _ (.inl (by simp))).put p 4 _ (.inl (by simp))⟩
      have h1 := H.out.field (m' := { m with inn := m.inn - 1 }) 6 (.int .i64 ((inn : Int) - 1)) (by
        have e1 : ((inn : Int) - 1) = ((m.inn - 1 : Nat) : Int) := by rw [HI.out]; omega
        rw [e1]; rfl) rfl rfl
      exact h1.field 4 _ (by rw [← HC.out]; simp [cellsR]) rfl rfl
  | false =>
    have hst : stepR m = (true, { m with count := m.count + 1 }) := by unfold stepR; rw [if_neg (fun h => by rw [HS.out] at h; cases h.1), if_neg (by rw [HS.out]; simp)]
    rw [hst]
    go_enter Try.func60, Try.ntmps60
    go_wp2_with fail
    go_ret
    exact ⟨rfl, H.out.field 4 _ (by rw [← HC.out]; simp [cellsR]) rfl rfl, (Fr.refl [p] w).put p 4 _ (.inl (by simp))⟩
end Go.Proofs.Ytikbphafpmdpeaa

set_option linter.all false
namespace Go.Proofs.Ytikbphafpmdpeaa
open Go.RowKit

theorem slStr : SlTyK Try.prog 45 9 (.string ⟨#[]⟩) 1 16 := ⟨Try.underlying45, by kernel_rfl, rfl, by decide⟩
theorem pgS_one (l : List PageT) : ∀ u ∈ l.map pgS, u.oneCell' = true := by
  intro u hu
  obtain ⟨p, -, rfl⟩ := List.mem_map.1 hu
  rfl
theorem conv_bytes {w : World} {A : Option Addr} {l : List UInt8} (h : Cells w A (bv l)) (n c : Nat) (hn : l.length = n) : (convert 23 9 (.slice A n c)).run Try.prog w = .ok (.string ⟨l.toArray⟩) w := by
  subst hn
  exact conv_str h c 23 9 5 Try.underlying23 Try.underlying5 Try.underlying9
/-- So many noughts, as a string. -/
theorem make_zeros (w : World) (n : Nat) (hn : n ≤ 100000) : ∃ w1, (Instr.makeSlice 23 (.int .i64 (n : Int)) (.int .i64 (n : Int))).run Try.prog w = .ok (.slice (some ⟨w.heap.size, 0, none⟩) n n) w1 ∧
    (convert 23 9 (.slice (some ⟨w.heap.size, 0, none⟩) n n)).run Try.prog w1 = .ok (.string ⟨(List.replicate n (0 : UInt8)).toArray⟩) w1 ∧ Below w.heap.size w w1 := by
  obtain ⟨i0, hi, hz0, hz1, hz2⟩ := info_parts infoU8
  obtain ⟨w1, hmk, hown, hg⟩ := run_makeSlice_full (P := Try.prog) w w.heap.size 23 5 i0 (.int .u8 0) 1 Try.underlying23 hi hz0 hz1 .i64 .i64 n (by omega) (by rw [hz2]; omega) (by unfold maxLen; omega) (Nat.le_refl _)
  have hl : (madeCells (Value.int .u8 0).cells (n * 1)).toList = bv (List.replicate n 0) := by
    rw [Nat.mul_one, bv_rep]; exact toList_madeCells_one _ _
  rw [hl] at hown
  obtain ⟨A, c, hv, -, hc⟩ := own_shape hown
  injection hv with h1 h2 h3
  subst h1
  exact ⟨w1, hmk, conv_bytes hc n n (List.length_replicate ..), (Below.refl _ _).grown hg (Nat.le_refl _) (by intro k hk; cases hk)⟩
def lenV : Value → Nat
  | .slice _ n _ => n
  | _ => 0
/-- A row of strings of the call's own that holds pages. -/
def PagesP (W : World) (l : List PageT) (e : Ending) (w' : World) : Prop := ∃ v, e = .returned v ∧ Row w' W.heap.size 9 v (l.map pgS) ∧ Below W.heap.size W w'
set_option maxRecDepth 100000 in
set_option maxHeartbeats 4000000 in
theorem laid_any {l : List PageT} {v : Value} (x : RWr) {w : World} (hv : Row w 0 9 v (l.map pgS)) (hl : l.length ≤ 4000000000) (hp : x.page ≤ 4000000000) :
    Calls Try.prog 68 #[v, .agg #[.int .i64 x.file, .int .i64 x.page, pgS x.text]] w (PagesP w (layP l x.page x.text)) := by
  obtain ⟨fi, pg, tx⟩ := x
  obtain ⟨A, c, hsh, -, hcl⟩ := hv.shape
  rw [List.length_map] at hsh
  subst hsh
  obtain ⟨ts, hts⟩ : ∃ ts, pgS tx = .string ts := ⟨_, rfl⟩
  have HTS := Lib.hid hts
  have hb0 : Below w.heap.size w (w.alloc (.cells #[.int .i64 fi, .int .i64 pg, .string ts] 99)) := (Below.refl _ _).alloc (Nat.le_refl _) _
  have HB0 := Lib.hid hb0
  have hbox := Go.heap_alloc_new w (.cells #[.int .i64 fi, .int .i64 pg, .string ts] 99)
  have hsz : w.heap.size < (w.alloc (.cells #[.int .i64 fi, .int .i64 pg, .string ts] 99)).heap.size := by simp
  have HC := Lib.hid (Cells.below hcl hb0)
  have H1 := Lib.hid (pgS_one l)
  have HN := Lib.hid (show (l.map pgS).length = l.length * 1 by simp)
  simp only at hp
  rw [show pgS (RWr.text ⟨fi, pg, tx⟩) = .string ts from hts]
  clear hv hcl hb0 hts
  go_enter Try.func68, Try.ntmps68
  go_wp2_with (at_builtin; generalize w.alloc (.cells #[.int .i64 fi, .int .i64 pg, .string ts] 99) = w1 at hbox hsz HB0 HC ⊢; go_must (refine wpList_appk slStr rfl _ _ rfl w1.heap.size _ 0 [] rfl (World.ownsRow_nil w1 w1.heap.size 9 1) A l.length c (l.map pgS) rfl HN.out HC.out H1.out (by omega) (by omega) (Nat.le_refl _) ?_); intro v' w2 hown hg hb hat)
  rw [Nat.zero_add, List.nil_append] at hown
  have HBOX := Lib.hid hbox
  have HSZ := Lib.hid hsz
  have HOWN := Lib.hid hown
  have HB := Lib.hid hb
  clear hown hg hb hat HC HN hbox hsz
  go_loopw [5] (fun i wr => ∃ j : Nat, (j = 0 ∨ l.length + j ≤ pg + 1) ∧ wr.ownsRow w1.heap.size 9 1 i (l.length + j) ((l ++ List.replicate j zeroP).map pgS) ∧ Below w1.heap.size w1 wr) (fun i _ => pg + 1 - lenV i)
  case atStart => exact ⟨0, .inl rfl, by simpa using HOWN.out, HB.out⟩
  case round =>
    obtain ⟨j, hj, hown, hbr⟩ := hrel
    obtain ⟨A1, c1, hv1, -, hc1⟩ := own_shape hown
    subst hv1
    have cb : wr.cell? ⟨w.heap.size, 1, none⟩ = some (.int .i64 pg) := cell_of (j := 1) ((hbr.block _ HSZ.out).trans HBOX.out) rfl
    have ct : wr.cell? ⟨w.heap.size, 2, none⟩ = some (.string ts) := cell_of (j := 2) ((hbr.block _ HSZ.out).trans HBOX.out) rfl
    have HBR := Lib.hid hbr
    have HO := Lib.hid hown
    clear hbr hown
    by_cases hlt : l.length + j ≤ pg
    · obtain ⟨wz, hmk, hcv, hbz⟩ := make_zeros wr 256 (by decide)
      rw [show ((256 : Nat) : Int) = 256 from rfl] at hmk
      have hz : (.string ⟨(List.replicate 256 (0 : UInt8)).toArray⟩ : Value) = pgS zeroP := rfl
      obtain ⟨zs, hzs⟩ : ∃ zs, (⟨(List.replicate 256 (0 : UInt8)).toArray⟩ : ByteArray) = zs := ⟨_, rfl⟩
      rw [hzs] at hcv hz
      have HZ := Lib.hid hz
      have hb1 : Below wr.heap.size wr (wz.alloc (.cells #[.string zs] 9)) := hbz.alloc hbz.size _
      have HB1 := Lib.hid hb1
      have HO1 := Lib.hid (own_below HO.out hb1)
      have hcf := fresh_cells wz #[.string zs] 9
      have HCF := Lib.hid hcf
      have hs : w1.heap.size ≤ (wz.alloc (.cells #[.string zs] 9)).heap.size := Nat.le_trans HBR.out.size hb1.size
      have HS := Lib.hid hs
      have hlt2 : ((l.length + j : Nat) : Int) ≤ pg := by omega
      clear hz hzs hbz hb1 hcf hs
      go_wp2_with (at_builtin; go_must (refine wpList_appk slStr rfl _ _ rfl w1.heap.size _ (l.length + j) ((l ++ List.replicate j zeroP).map pgS) rfl HO1.out (some ⟨wz.heap.size, 0, none⟩) 1 1 [.string zs] rfl rfl HCF.out (by intro u hu; simp at hu; subst hu; rfl) (by omega) (by omega) HS.out ?_); intro v' w3 hown3 hg3 hb3 hat3)
      have HO3 := Lib.hid hown3
      have HB3 := Lib.hid ((HBR.out.trans (HB1.out.mono HBR.out.size)).trans hb3)
      clear hown3 hg3 hb3 hat3
      go_roundw
      case rel =>
        refine ⟨j + 1, .inr (by omega), ?_, HB3.out⟩
        have h4 := HO3.out
        rw [HZ.out, show l.length + j + 1 = l.length + (j + 1) by omega, show [pgS zeroP] = [zeroP].map pgS from rfl, ← List.map_append, List.append_assoc, ← List.replicate_succ'] at h4
        exact h4
      case measure =>
        obtain ⟨A3, c3, hv3, -, -⟩ := own_shape HO3.out
        rw [hv3]
        simp [lenV]; omega
    · have hlt2 : ¬ ((l.length + j : Nat) : Int) ≤ pg := by omega
      have hjj : j = pg + 1 - l.length := by omega
      have hlen : ((l ++ List.replicate j zeroP).map pgS).length = l.length + j := by simp
      have hrow : Row wr w1.heap.size 9 (.slice A1 (l.length + j) c1) ((l ++ List.replicate j zeroP).map pgS) := Row.of_own (by unfold Own1; rw [hlen]; exact HO.out)
      obtain ⟨ad, rfl, hxb, hge, hcl, hfz, hput⟩ := row_put hrow hlen (k := pg) (by omega) (.string ts)
      have HP := Lib.hid hput
      have HBF := Lib.hid (HBR.out.setCell hge (.string ts))
      have HJ := Lib.hid hjj
      generalize (((l ++ List.replicate j zeroP).map pgS)[pg]'(by omega)) = v0 at hcl
      clear hrow hput hlen hjj hge hc1 HO
      go_wp2_with fail
      go_ret
      refine ⟨_, rfl, ?_, HB0.out.trans (HBF.out.mono HB0.out.size)⟩
      have h4 := HP.out.base_le (base' := w.heap.size) (Nat.le_of_lt HSZ.out)
      rw [← HTS.out, ← List.map_set] at h4
      rw [← HTS.out, show layP l pg tx = (l ++ List.replicate j zeroP).set pg tx from by unfold layP; rw [HJ.out]]
      exact h4
end Go.Proofs.Ytikbphafpmdpeaa

set_option linter.all false
namespace Go.Proofs.Ytikbphafpmdpeaa
open Go.RowKit

/-- Sizes that no walk minds. -/
structure Small (m : RefT) : Prop where
  files : m.files.length ≤ 256
  settled : ∀ f ∈ m.files, f.settled.length ≤ 4000000000
  place : ∀ x ∈ m.opens, x.page < 4000000000
  opens : m.opens.length ≤ 4000000000
theorem RInv.small {m : RefT} (h : RInv m) (hc : m.count ≤ 4000000000) : Small m :=
  ⟨h.files, fun f hf => Nat.le_trans (h.settled f hf) hc, fun x hx => Nat.lt_of_lt_of_le (h.place x hx).1 hc, Nat.le_trans h.opens hc⟩
theorem Small.pages {m : RefT} (h : Small m) {f : RFile} (hf : f ∈ m.files) (k : Nat) : (layR f.no f.settled (m.opens.take k)).length ≤ 4000000000 := layR_len (h.settled f hf) fun x hx => h.place x (List.mem_of_mem_take hx)
theorem layR_snoc (no : Nat) (l : List PageT) (ws : List RWr) {j : Nat} (hj : j < ws.length) : layR no l (ws.take (j + 1)) = layW no (layR no l (ws.take j)) ws[j] := by
  unfold layR
  rw [List.take_add_one, List.getElem?_eq_getElem hj, List.foldl_append]
  rfl
/-- Pages that are read. -/
def ReadsP (W : World) (l : List PageT) (e : Ending) (w' : World) : Prop := ∃ v, e = .returned v ∧ Row w' 0 9 v (l.map pgS) ∧ Below W.heap.size W w'
theorem below_of_drewN {w w' : World} {q B : Nat} (h : Below (w.drewN q).heap.size (w.drewN q) w') (hB : B ≤ w.heap.size) : Below B w w' :=
  (show Below w.heap.size w w' from ⟨h.os, h.tape, h.output, h.size, h.block⟩).mono hB
set_option maxRecDepth 100000 in
set_option maxHeartbeats 4000000 in
theorem pages_any {p : Nat} {vf vo : Value} {vs : List Value} {m : RefT} {w : World} (h : RfAt w p vf vo vs m) (hs : Small m) {i : Nat} (hi : i < m.files.length) :
    Calls Try.prog 61 #[.pointer (some ⟨p, 0, none⟩), .int .i64 i] w (ReadsP w (pagesR m m.files[i])) := by
  obtain ⟨c0, c1, -⟩ := h.cell
  obtain ⟨Af, cf, rfl, -, hcf⟩ := h.files
  obtain ⟨Ao, co, rfl, -, hco⟩ := h.opens
  obtain ⟨ad, v, rfl, e0, -, e2, hrow⟩ := file_look hcf h.fv hi
  have H := Lib.hid h
  have HS := Lib.hid hs
  have HC0 := Lib.hid c0
  have HC1 := Lib.hid c1
  have HE0 := Lib.hid e0
  have HCO := Lib.hid hco
  have HROW := Lib.hid hrow
  have hlo := hs.opens
  have hlf := hs.files
  have HF := Lib.hid (List.getElem_mem hi)
  obtain ⟨A, c, hsh, -, -⟩ := hrow.shape
  rw [List.length_map] at hsh
  subst hsh
  clear h hs hcf hco hrow
  go_enter Try.func61, Try.ntmps61
  go_wp2_with fail
  go_loopw [5, 6] (fun u k wr => ∃ j : Nat, j ≤ m.opens.length ∧ k = .int .i64 j ∧ Row wr 0 9 u ((layR m.files[i].no m.files[i].settled (m.opens.take j)).map pgS) ∧ Below w.heap.size w wr) (fun _ k _ => m.opens.length - (intOf k).toNat)
  case atStart => exact ⟨0, Nat.zero_le _, rfl, HROW.out, Below.refl _ _⟩
  case round =>
    obtain ⟨j, hj, rfl, hrw, hbr⟩ := hrel
    obtain ⟨Au, cu, hu, -, -⟩ := hrw.shape
    rw [List.length_map] at hu
    subst hu
    have HB := Lib.hid hbr
    have HR := Lib.hid hrw
    have c0 := fun q => ((Fr.below (F := []) HB.out).drewN q).cellKept (by simp) HC0.out
    have c1 := fun q => ((Fr.below (F := []) HB.out).drewN q).cellKept (by simp) HC1.out
    have c0' : wr.cell? _ = some _ := (Fr.below (F := []) HB.out).cellKept (by simp) HC0.out
    have c1' : wr.cell? _ = some _ := (Fr.below (F := []) HB.out).cellKept (by simp) HC1.out
    clear hbr hrw
    by_cases hlt : j < m.opens.length
    · obtain ⟨ao, rfl, d0, d1, d2⟩ := wr_look HCO.out hlt
      have f0 := fun q => ((Fr.below (F := []) HB.out).drewN q).cellKept (by simp) HE0.out
      have g0 := fun q => ((Fr.below (F := []) HB.out).drewN q).cellKept (by simp) d0
      have g1 := fun q => ((Fr.below (F := []) HB.out).drewN q).cellKept (by simp) d1
      have g2 := fun q => ((Fr.below (F := []) HB.out).drewN q).cellKept (by simp) d2
      have hjl : ((j : Nat) : Int) < m.opens.length := by omega
      have g0' : wr.cell? _ = some _ := (Fr.below (F := []) HB.out).cellKept (by simp) d0
      have f0' : wr.cell? _ = some _ := (Fr.below (F := []) HB.out).cellKept (by simp) HE0.out
      clear d0 d1 d2
      have hst : layR m.files[i].no m.files[i].settled (m.opens.take (j + 1)) = layW m.files[i].no (layR m.files[i].no m.files[i].settled (m.opens.take j)) m.opens[j] := layR_snoc _ _ _ hlt
      have HST := Lib.hid hst
      have HLEN := Lib.hid (HS.out.pages HF.out j)
      have HPL := Lib.hid (HS.out.place _ (List.getElem_mem hlt))
      obtain ⟨ts, hts⟩ : ∃ ts, pgS m.opens[j].text = .string ts := ⟨_, rfl⟩
      simp only [hts] at g2
      have HTS := Lib.hid hts
      clear hst hts
      by_cases hq : m.opens[j].file = m.files[i].no
      · have hqi : ((m.opens[j].file : Nat) : Int) = m.files[i].no := by omega
        go_wp2_with fail
        go_quiet (fail)
        go_wp2_with fail
        have hl := fun q => laid_any ⟨m.files[i].no, m.opens[j].page, m.opens[j].text⟩ (HR.out.drewN q) HLEN.out (Nat.le_of_lt HPL.out)
        simp only [HTS.out] at hl
        refine (hl _).mono ?_
        rintro e w2 ⟨v2, rfl, hrow2, hb2⟩
        have HR2 := Lib.hid hrow2
        have HB2 := Lib.hid (HB.out.trans (below_of_drewN hb2 HB.out.size))
        clear hl hrow2 hb2
        go_wp2_with fail
        go_roundw
        case rel =>
          refine ⟨j + 1, hlt, by go_num, ?_, HB2.out⟩
          rw [HST.out]
          unfold layW
          rw [if_pos hq]
          exact HR2.out.base_le (Nat.zero_le _)
        case measure => simp [intOf]; omega
      · have hqi : ¬ ((m.opens[j].file : Nat) : Int) = m.files[i].no := by omega
        go_wp2_with fail
        go_quiet (fail)
        go_wp2_with fail
        go_roundw
        case rel =>
          refine ⟨j + 1, hlt, by go_num, ?_, HB.out.trans (((Fr.refl [] wr).drewN _).toBelow.mono HB.out.size)⟩
          have h4 := HR.out
          rw [show layR m.files[i].no m.files[i].settled (m.opens.take j) = layR m.files[i].no m.files[i].settled (m.opens.take (j + 1)) from by rw [HST.out]; unfold layW; rw [if_neg hq]] at h4
          have h5 := congrArg List.length (show layR m.files[i].no m.files[i].settled (m.opens.take (j + 1)) = layR m.files[i].no m.files[i].settled (m.opens.take j) from by rw [HST.out]; unfold layW; rw [if_neg hq])
          rw [h5] at h4
          exact h4.drewN _
        case measure => simp [intOf]; omega
    · have hjl : ¬ ((j : Nat) : Int) < m.opens.length := by omega
      have hje : j = m.opens.length := by omega
      go_wp2_with fail
      go_ret
      refine ⟨_, rfl, ?_, HB.out⟩
      have h4 := HR.out
      simp only [hje, List.take_length] at h4
      exact h4
end Go.Proofs.Ytikbphafpmdpeaa

set_option linter.all false
namespace Go.Proofs.Ytikbphafpmdpeaa
open Go.RowKit

/-- What a call leaves of the document's disk. -/
def RfP (w : World) (p : Nat) (vf vo : Value) (m' : RefT) (w' : World) : Prop :=
  ∃ vf' vo' vs', RfAt w' p vf' vo' vs' m' ∧ Fr (fpR p vf vo) w w' ∧ ∀ i ∈ fpR p vf' vo', i ∈ fpR p vf vo ∨ w.heap.size ≤ i
theorem RfP.here {w w' : World} {p : Nat} {vf vo : Value} {vs : List Value} {m' : RefT} (h : RfAt w' p vf vo vs m') (hf : Fr [p] w w') : RfP w p vf vo m' w' :=
  ⟨vf, vo, vs, h, hf.mono fun i hi _ => by simp at hi; subst hi; simp [fpR], fun i hi => .inl hi⟩
theorem RfP.trans {w w1 w2 : World} {p : Nat} {vf vo vf1 vo1 : Value} {m2 : RefT} (hf : Fr (fpR p vf vo) w w1) (hn : ∀ i ∈ fpR p vf1 vo1, i ∈ fpR p vf vo ∨ w.heap.size ≤ i) (h : RfP w1 p vf1 vo1 m2 w2) : RfP w p vf vo m2 w2 := by
  obtain ⟨vf', vo', vs', h1, h2, h3⟩ := h
  refine ⟨vf', vo', vs', h1, hf.trans h2 fun i hi hl => ?_, fun i hi => ?_⟩
  · rcases hn i hi with h4 | h4
    · exact h4
    · omega
  · rcases h3 i hi with h4 | h4
    · exact hn i h4
    · exact .inr (Nat.le_trans hf.size h4)
theorem wrs_one (l : List RWr) : ∀ u ∈ l.flatMap wrR, u.oneCell' = true := by
  intro u hu
  obtain ⟨x, -, hx⟩ := List.mem_flatMap.1 hu
  simp only [wrR, List.mem_cons, List.not_mem_nil, or_false] at hx
  rcases hx with rfl | rfl | rfl <;> rfl
theorem wrs_len (l : List RWr) : (l.flatMap wrR).length = l.length * 3 := flat_len (k := 3) (fun _ => rfl) l
def notNo (no : Nat) (x : RWr) : Bool := decide (x.file ≠ no)
theorem filter_snoc {α : Type} (q : α → Bool) (l : List α) {j : Nat} (hj : j < l.length) : (l.take (j + 1)).filter q = (l.take j).filter q ++ (if q l[j] = true then [l[j]] else []) := by
  rw [List.take_add_one, List.getElem?_eq_getElem hj, List.filter_append]
  congr 1
  by_cases h : q l[j] = true <;> simp [h]
theorem Cells.dropA {w : World} {ad : Addr} {xs : List Value} (h : Cells w (some ad) xs) (k : Nat) : Cells w (some (ad.add k)) (xs.drop k) := fun hn => by
  obtain ⟨ad', e, hc⟩ := h (by rw [List.length_drop] at hn; omega)
  injection e with e
  subst e
  refine ⟨_, rfl, fun j u hj => ?_⟩
  rw [List.getElem?_drop] at hj
  have h1 := hc _ _ hj
  have e2 : (ad.add k).add j = ad.add (k + j) := by
    unfold Addr.add
    by_cases hk : k = 0
    · subst hk; simp
    · by_cases hj0 : j = 0
      · subst hj0; simp [hk]
      · rw [if_neg hk, if_neg hj0, if_neg (by omega)]; simp [Nat.add_assoc]
  rw [e2]; exact h1
theorem drop_done {p : Nat} {vf vo vl v5 : Value} {vs : List Value} {m : RefT} {w wr w5 : World} {i no n : Nat} (h : RfAt w p vf vo vs m) (hi : i < m.files.length) (hno : m.files[i].no = no) (hb : Below w.heap.size w wr)
    (ho : wr.ownsRow w.heap.size 99 3 vl n ((m.opens.filter (notNo no)).flatMap wrR)) (hn : (m.opens.filter (notNo no)).length = n) (hb5 : Below wr.heap.size wr w5)
    (ho5 : w5.ownsRow wr.heap.size 96 3 v5 (i + (m.files.length - (i + 1))) (vs.take (i * 3) ++ vs.drop ((i + 1) * 3))) :
    RfP w p vf vo (dropR m i) ((w5.setCell ⟨p, 1, none⟩ vl).setCell ⟨p, 0, none⟩ v5) := by
  have hbb := hb.trans (hb5.mono hb.size)
  have h5 := h.below hbb
  subst hn
  have hol := own_below ho hb5
  have h6 := h5.set_opens (w1 := w5) (Fr.refl _ _) (own_to hol (Nat.zero_le _))
  have hp : p < wr.heap.size := Nat.lt_of_lt_of_le (lt_of_block h.blk) hb.size
  have ho6 : (w5.setCell ⟨p, 1, none⟩ vl).ownsRow wr.heap.size 96 3 v5 (i + (m.files.length - (i + 1))) (vs.take (i * 3) ++ vs.drop ((i + 1) * 3)) :=
    ownsRow_block ho5 fun g hg => Below.heap_setCell w5 ⟨p, 1, none⟩ vl g fun e => by
      have h1 := (World.ownsRow.lt ho5 g hg).1
      have e2 : g = p := e
      omega
  have hlen : i + (m.files.length - (i + 1)) = (m.files.take i ++ m.files.drop (i + 1)).length := by rw [List.length_append, List.length_take, List.length_drop]; omega
  rw [hlen] at ho6
  have h7 := h6.set_files (Fr.refl _ _) (own_to ho6 (Nat.zero_le _)) ((h6.fv.take i).append (h6.fv.drop (i + 1)))
  have he : dropR m i = { m with opens := m.opens.filter (notNo no), files := m.files.take i ++ m.files.drop (i + 1) } := by
    unfold dropR
    rw [List.getElem?_eq_getElem hi]
    simp only
    rw [hno, List.eraseIdx_eq_take_drop_succ]
    rfl
  rw [he]
  refine ⟨_, _, _, h7, ((Fr.below hbb).put p 1 _ (.inl (by simp [fpR]))).put p 0 _ (.inl (by simp [fpR])), fun g hg => ?_⟩
  simp only [fpR, List.mem_cons, List.mem_append] at hg
  rcases hg with rfl | hg | hg
  · exact .inl (by simp [fpR])
  · have h1 := (World.ownsRow.lt ho5 g (by simpa using hg)).1
    exact .inr (Nat.le_trans hb.size h1)
  · exact .inr (World.ownsRow.lt ho g (by simpa using hg)).1
set_option maxRecDepth 100000 in
set_option maxHeartbeats 8000000 in
theorem drop_any {p : Nat} {vf vo : Value} {vs : List Value} {m : RefT} {w : World} (h : RfAt w p vf vo vs m) (hs : Small m) {i : Nat} (hi : i < m.files.length) :
    Calls Try.prog 62 #[.pointer (some ⟨p, 0, none⟩), .int .i64 i] w fun e w' => e = .returned (.tuple #[]) ∧ RfP w p vf vo (dropR m i) w' := by
  obtain ⟨c0, c1, -⟩ := h.cell
  have hh := h
  obtain ⟨Af, cf, rfl, hcfl, hcf⟩ := h.files
  obtain ⟨Ao, co, rfl, -, hco⟩ := h.opens
  obtain ⟨ad, v, rfl, e0, -, -, -⟩ := file_look hcf h.fv hi
  obtain ⟨no, hno⟩ : ∃ no, m.files[i].no = no := ⟨_, rfl⟩
  rw [hno] at e0
  have HNO := Lib.hid hno
  have H := Lib.hid hh
  have HS := Lib.hid hs
  have HC0 := Lib.hid c0
  have HC1 := Lib.hid c1
  have HCO := Lib.hid hco
  have HCF := Lib.hid hcf
  have HCFL := Lib.hid hcfl
  have hlo := hs.opens
  have hlf := hs.files
  clear h hh hs hcf hco hno hcfl
  go_enter Try.func62, Try.ntmps62
  go_wp2_with fail
  go_loopw [5, 6] (fun u k wr => ∃ j : Nat, j ≤ m.opens.length ∧ k = .int .i64 j ∧ wr.ownsRow w.heap.size 99 3 u ((m.opens.take j).filter (notNo no)).length (((m.opens.take j).filter (notNo no)).flatMap wrR) ∧ Below w.heap.size w wr) (fun _ k _ => m.opens.length - (intOf k).toNat)
  case atStart => exact ⟨0, Nat.zero_le _, rfl, World.ownsRow_nil _ _ _ _, Below.refl _ _⟩
  case round =>
    obtain ⟨j, hj, rfl, hown, hbr⟩ := hrel
    obtain ⟨Au, cu, hu, -, -⟩ := own_shape hown
    subst hu
    have HB := Lib.hid hbr
    have HO := Lib.hid hown
    have d0 : wr.cell? _ = some _ := (Fr.below (F := []) HB.out).cellKept (by simp) HC0.out
    have d1 : wr.cell? _ = some _ := (Fr.below (F := []) HB.out).cellKept (by simp) HC1.out
    clear hbr hown
    by_cases hlt : j < m.opens.length
    · obtain ⟨ao, rfl, a0, a1, a2⟩ := wr_look HCO.out hlt
      have b0 : wr.cell? _ = some _ := (Fr.below (F := []) HB.out).cellKept (by simp) a0
      have b1 : wr.cell? _ = some _ := (Fr.below (F := []) HB.out).cellKept (by simp) a1
      have b2 : wr.cell? _ = some _ := (Fr.below (F := []) HB.out).cellKept (by simp) a2
      have hjl : ((j : Nat) : Int) < m.opens.length := by omega
      have hst := filter_snoc (notNo no) m.opens hlt
      have hlen : ((m.opens.take j).filter (notNo no)).length ≤ 4000000000 := Nat.le_trans (List.length_filter_le ..) (by rw [List.length_take]; omega)
      have HST := Lib.hid hst
      obtain ⟨ts, hts⟩ : ∃ ts, pgS m.opens[j].text = .string ts := ⟨_, rfl⟩
      rw [hts] at b2
      have HTS := Lib.hid hts
      clear hst hts a0 a1 a2
      by_cases hq : m.opens[j].file = no
      · have hqi : ((m.opens[j].file : Nat) : Int) = no := by omega
        have hqb : notNo no m.opens[j] = false := by simp [notNo, hq]
        have HQB := Lib.hid hqb
        clear hqb
        go_wp2_with fail
        go_roundw
        case rel =>
          refine ⟨j + 1, hlt, by go_num, ?_, HB.out⟩
          have h4 := HST.out
          rw [if_neg (by rw [HQB.out]; simp), List.append_nil] at h4
          rw [h4]
          exact HO.out
        case measure => simp [intOf]; omega
      · have hqi : ¬ ((m.opens[j].file : Nat) : Int) = no := by omega
        have hqb : notNo no m.opens[j] = true := by simp [notNo, hq]
        have HQB := Lib.hid hqb
        clear hqb
        obtain ⟨fl, hfl⟩ : ∃ fl : Int, ((m.opens[j].file : Nat) : Int) = fl := ⟨_, rfl⟩
        obtain ⟨pg, hpg⟩ : ∃ pg : Int, ((m.opens[j].page : Nat) : Int) = pg := ⟨_, rfl⟩
        rw [hfl] at b0 hqi
        rw [hpg] at b1
        have HFL := Lib.hid hfl
        have HPG := Lib.hid hpg
        obtain ⟨n, hn⟩ : ∃ n, ((m.opens.take j).filter (notNo no)).length = n := ⟨_, rfl⟩
        rw [hn] at hlen HO ⊢
        have HN := Lib.hid hn
        have hcn := fresh_cells wr #[.int .i64 fl, .int .i64 pg, .string ts] 99
        have HCN := Lib.hid hcn
        have hb1 : Below wr.heap.size wr (wr.alloc (.cells #[.int .i64 fl, .int .i64 pg, .string ts] 99)) := (Below.refl _ _).alloc (Nat.le_refl _) _
        have HB1 := Lib.hid hb1
        have HO1 := Lib.hid (own_below HO.out hb1)
        have HS1 := Lib.hid (Nat.le_trans HB.out.size hb1.size)
        have H1 : ∀ u ∈ [Value.int .i64 fl, .int .i64 pg, .string ts], u.oneCell' = true := by
          intro u hu
          simp only [List.mem_cons, List.not_mem_nil, or_false] at hu
          rcases hu with rfl | rfl | rfl <;> rfl
        have H1 := Lib.hid H1
        clear hfl hpg hn hcn hb1
        go_wp2_with (at_builtin; go_must (refine wpList_appk slRWr rfl _ _ rfl w.heap.size _ n _ rfl HO1.out (some ⟨wr.heap.size, 0, none⟩) 1 1 [.int .i64 fl, .int .i64 pg, .string ts] rfl rfl HCN.out H1.out (by omega) (by omega) HS1.out ?_); intro v3 w3 hown3 hg3 hb3 hat3)
        have HO3 := Lib.hid hown3
        have HB3 := Lib.hid ((HB.out.trans (HB1.out.mono HB.out.size)).trans hb3)
        clear hown3 hg3 hb3 hat3
        go_roundw
        case rel =>
          refine ⟨j + 1, hlt, by go_num, ?_, HB3.out⟩
          have h4 := HST.out
          rw [if_pos HQB.out] at h4
          have h5 := HO3.out
          rw [← HFL.out, ← HPG.out, ← HTS.out] at h5
          rw [h4, List.length_append, List.flatMap_append, HN.out]
          exact h5
        case measure => simp [intOf]; omega
    · have hjl : ¬ ((j : Nat) : Int) < m.opens.length := by omega
      have hje : j = m.opens.length := by omega
      have hown := HO.out
      obtain ⟨n, hn⟩ : ∃ n, ((m.opens.take j).filter (notNo no)).length = n := ⟨_, rfl⟩
      rw [hn] at hown HO ⊢
      simp only [hje, List.take_length] at hown hn
      have HN := Lib.hid hn
      have HO2 := Lib.hid hown
      have hic : i ≤ cf := by have := HCFL.out; omega
      have hic2 : i + 1 ≤ cf := by have := HCFL.out; omega
      have hil : i + 1 ≤ m.files.length := hi
      have hvl : vs.length = m.files.length * 3 := H.out.fv.len
      have HT1 := Lib.hid (show (vs.take (i * 3)).length = i * 3 by rw [List.length_take, hvl]; omega)
      have HT3 := Lib.hid (show (vs.drop ((i + 1) * 3)).length = (m.files.length - (i + 1)) * 3 by rw [List.length_drop, hvl]; omega)
      have HT2 := Lib.hid (fun u (hu : u ∈ vs.take (i * 3)) => H.out.fv.one u (List.mem_of_mem_take hu))
      have HT4 := Lib.hid (fun u (hu : u ∈ vs.drop ((i + 1) * 3)) => H.out.fv.one u (List.mem_of_mem_drop hu))
      have hcw : Cells wr (some ad) vs := Cells.below HCF.out HB.out
      have HCT := Lib.hid (hcw.take (i * 3))
      have HCD := Lib.hid (hcw.dropA ((i + 1) * 3))
      have HCE := Lib.hid (show cf = i + 1 → Cells wr (some ad) (vs.drop ((i + 1) * 3)) from fun e hn => by rw [HT3.out] at hn; have := HCFL.out; omega)
      have HN1 := Lib.hid (show (0 + i) * 48 ≤ 140737488355328 by omega)
      have HN2 := Lib.hid (show 0 + i ≤ 140737488355328 by omega)
      have HN3 := Lib.hid (show (i + (m.files.length - (i + 1))) * 48 ≤ 140737488355328 by omega)
      have HN4 := Lib.hid (show i + (m.files.length - (i + 1)) ≤ 140737488355328 by omega)
      have HIC := Lib.hid hje
      have tok1 : True := trivial
      have tok2 : True := trivial
      clear hown hn hje HO hvl hcw
      by_cases hcut : cf = i + 1
      · subst hcut
        have HCU := Lib.hid (HCE.out rfl)
        go_wp2_with (first
          | (at_builtin; have _t := tok1; go_must (refine wpList_appk slRFile rfl _ _ rfl wr.heap.size _ 0 [] rfl (World.ownsRow_nil wr wr.heap.size 96 3) _ _ _ (vs.take (i * 3)) rfl HT1.out HCT.out HT2.out HN1.out HN2.out (Nat.le_refl _) ?_); intro v4 w4 hown4 hg4 hb4 hat4; rw [Nat.zero_add, List.nil_append] at hown4; obtain ⟨A4, c4, hv4, -, -⟩ := own_shape hown4; subst hv4; have HO4 := Lib.hid hown4; have HB4 := Lib.hid hb4; have HS4 := Lib.hid hb4.size; have HCF4 := Lib.hid (Cells.below HCU.out hb4); have k0 := cell_below hb4 d0; clear tok1 _t hown4 hg4 hb4 hat4)
          | (at_builtin; have _t := tok2; go_must (refine wpList_appk slRFile rfl _ _ rfl wr.heap.size _ i (vs.take (i * 3)) rfl HO4.out _ _ _ (vs.drop ((i + 1) * 3)) rfl HT3.out HCF4.out HT4.out HN3.out HN4.out HS4.out ?_); intro v5 w5 hown5 hg5 hb5 hat5; obtain ⟨A5, c5, hv5, -, -⟩ := own_shape hown5; subst hv5; have HO5 := Lib.hid hown5; have HB5 := Lib.hid (HB4.out.trans hb5); have H5 := Lib.hid (H.out.below (HB.out.trans (HB5.out.mono HB.out.size))); have q0 := H5.out.cell.1; have q1 := H5.out.cell.2.1; have q2 := H5.out.free 0; have q3 := H5.out.free 1; clear tok2 _t hown5 hg5 hb5 hat5 k0))
        go_end0
        exact ⟨rfl, drop_done H.out hi HNO.out HB.out HO2.out HN.out HB5.out HO5.out⟩
      · have HCU := HCD
        go_wp2_with (first
          | (at_builtin; have _t := tok1; go_must (refine wpList_appk slRFile rfl _ _ rfl wr.heap.size _ 0 [] rfl (World.ownsRow_nil wr wr.heap.size 96 3) _ _ _ (vs.take (i * 3)) rfl HT1.out HCT.out HT2.out HN1.out HN2.out (Nat.le_refl _) ?_); intro v4 w4 hown4 hg4 hb4 hat4; rw [Nat.zero_add, List.nil_append] at hown4; obtain ⟨A4, c4, hv4, -, -⟩ := own_shape hown4; subst hv4; have HO4 := Lib.hid hown4; have HB4 := Lib.hid hb4; have HS4 := Lib.hid hb4.size; have HCF4 := Lib.hid (Cells.below HCU.out hb4); have k0 := cell_below hb4 d0; clear tok1 _t hown4 hg4 hb4 hat4)
          | (at_builtin; have _t := tok2; go_must (refine wpList_appk slRFile rfl _ _ rfl wr.heap.size _ i (vs.take (i * 3)) rfl HO4.out _ _ _ (vs.drop ((i + 1) * 3)) rfl HT3.out HCF4.out HT4.out HN3.out HN4.out HS4.out ?_); intro v5 w5 hown5 hg5 hb5 hat5; obtain ⟨A5, c5, hv5, -, -⟩ := own_shape hown5; subst hv5; have HO5 := Lib.hid hown5; have HB5 := Lib.hid (HB4.out.trans hb5); have H5 := Lib.hid (H.out.below (HB.out.trans (HB5.out.mono HB.out.size))); have q0 := H5.out.cell.1; have q1 := H5.out.cell.2.1; have q2 := H5.out.free 0; have q3 := H5.out.free 1; clear tok2 _t hown5 hg5 hb5 hat5 k0))
        go_end0
        exact ⟨rfl, drop_done H.out hi HNO.out HB.out HO2.out HN.out HB5.out HO5.out⟩
end Go.Proofs.Ytikbphafpmdpeaa
