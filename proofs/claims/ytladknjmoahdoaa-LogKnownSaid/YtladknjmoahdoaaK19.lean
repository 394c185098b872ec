/- On: what its first walk through the files leaves. -/
import Derived.Test.YtladknjmoahdoaaK18
set_option linter.all false
namespace Go.Proofs.Ytladknjmoahdoaa
open Go.RowKit

def resetF (f : FileT) : FileT := ⟨f.settled, f.settled, []⟩
/-- Some files, by their names, hold what was settled. -/
structure Part (d : DiskT) (ns : List ByteArray) (d1 : DiskT) : Prop where
  eq : d1 = { d with files := d1.files }
  keys : d1.files.map Prod.fst = d.files.map Prod.fst
  inn : ∀ k, k ∈ ns → mget d1.files k = (mget d.files k).map resetF
  out : ∀ k, k ∉ ns → mget d1.files k = mget d.files k
theorem Part.start (d : DiskT) : Part d [] d := ⟨rfl, rfl, fun k hk => absurd hk (by simp), fun _ _ => rfl⟩
theorem Part.step {d d1 : DiskT} {ns : List ByteArray} {k : ByteArray} {f : FileT} (h : Part d ns d1) (hk : mget d.files k = some f) : Part d (ns ++ [k]) { d1 with files := mset d1.files k (resetF f) } := by
  have hs : (mget d1.files k).isSome = true := by
    rcases Classical.em (k ∈ ns) with h1 | h1
    · rw [h.inn k h1, hk]; rfl
    · rw [h.out k h1, hk]; rfl
  refine ⟨by have := h.eq; rw [this], ?_, fun k' hk' => ?_, fun k' hk' => ?_⟩
  · show (mset d1.files k (resetF f)).map Prod.fst = _
    have := mset_keys d1.files k (resetF f)
    rw [if_pos hs] at this
    rw [← h.keys]
    exact this
  · show mget (mset d1.files k (resetF f)) k' = _
    by_cases e : k' = k
    · subst e
      rw [mget_mset_same, hk]; rfl
    · rw [mget_mset_other _ _ e]
      exact h.inn k' (by simpa [e] using hk')
  · show mget (mset d1.files k (resetF f)) k' = _
    have e : k' ≠ k := fun e => hk' (by simp [e])
    rw [mget_mset_other _ _ e]
    exact h.out k' (fun hi => hk' (by simp [hi]))
/-- Lists of entries with the same keys and the same look-ups are one. -/
theorem eq_of_get {α : Type} : ∀ {l r : List (ByteArray × α)}, (l.map Prod.fst).Nodup → l.map Prod.fst = r.map Prod.fst → (∀ k, mget l k = mget r k) → l = r
  | [], [], _, _, _ => rfl
  | [], _ :: _, _, h, _ => by cases h
  | _ :: _, [], _, h, _ => by cases h
  | (k, a) :: l, (k', b) :: r, hn, hk, hg => by
    simp only [List.map_cons, List.cons.injEq] at hk
    obtain ⟨rfl, hk⟩ := hk
    rw [List.map_cons, List.nodup_cons] at hn
    have h1 := hg k
    have e1 : mget ((k, a) :: l) k = some a := by show (if k = k then _ else _) = _; rw [if_pos rfl]
    have e2 : mget ((k, b) :: r) k = some b := by show (if k = k then _ else _) = _; rw [if_pos rfl]
    rw [e1, e2] at h1
    injection h1 with h1
    subst h1
    congr 1
    refine eq_of_get hn.2 hk fun q => ?_
    by_cases e : k = q
    · subst e
      rw [mget_none (l := l), mget_none (l := r)]
      · intro p hp e; exact hn.1 (by rw [hk, ← e]; exact List.mem_map.2 ⟨p, hp, rfl⟩)
      · intro p hp e; exact hn.1 (by rw [← e]; exact List.mem_map.2 ⟨p, hp, rfl⟩)
    · have h2 := hg q
      have e3 : ∀ (x : α) (t : List (ByteArray × α)), mget ((k, x) :: t) q = mget t q := fun x t => by show (if k = q then _ else _) = _; rw [if_neg e]
      rwa [e3, e3] at h2
theorem mget_map {α β : Type} (g : α → β) (l : List (ByteArray × α)) (k : ByteArray) : mget (l.map fun p => (p.1, g p.2)) k = (mget l k).map g := mget_menc g l k
theorem Part.done {d d1 : DiskT} {ns : List ByteArray} (h : Part d ns d1) (hn : (d.files.map Prod.fst).Nodup) (ha : ∀ k ∈ d.files.map Prod.fst, k ∈ ns) : d1 = { d with files := menc resetF d.files } := by
  rw [h.eq]
  congr 1
  refine eq_of_get (by rw [h.keys]; exact hn) (by rw [h.keys, menc_keys]) fun k => ?_
  rw [mget_menc]
  rcases Classical.em (k ∈ ns) with hk | hk
  · exact h.inn k hk
  · rw [h.out k hk]
    cases hg : mget d.files k with
    | none => rfl
    | some x => exact absurd (ha k (mget_isSome.1 (by rw [hg]; rfl))) hk
/-- The disk while On walks through its files: what stands beside it. -/
structure OnA (w1 : World) (p m : Nat) (sb : Option Nat) (es : List (ByteArray × FileM)) (O R N : Nat) (v : Value) (ol : List WrT) (oe : List (Int × Value)) (es1 : List (ByteArray × FileM)) (d1 : DiskT) (wr : World) : Prop where
  at_ : DiskAt wr p m sb es1 d1
  fr : Fr (O :: R :: fpD p m sb es) w1 wr
  new : NewFp N (fpD p m sb es) (fpD p m sb es1)
  own : wr.ownsRow N 77 258 v ol.length (wrsC ol)
  zv : ol.length = 0 → v = .slice none 0 0
  vap : ∀ g, v.ownBlock = some g → g ∉ fpD p m sb es1
  ofm : IMap wr O oe
  size : N ≤ wr.heap.size
  bls : menc FileM.bl es1 = menc FileM.bl es
section
variable {w1 wr wr' : World} {p m O R N : Nat} {sb : Option Nat} {es es1 : List (ByteArray × FileM)} {v : Value} {ol : List WrT} {oe : List (Int × Value)} {d1 : DiskT}
theorem OnA.far (h : OnA w1 p m sb es O R N v ol oe es1 d1 wr) (hO : ∀ i ∈ fpD p m sb es, i < O) (hR : O < R) (hN : R < N) : ∀ i ∈ fpD p m sb es1, i ≠ O ∧ i ≠ R := fun i hi => by
  rcases h.new i hi with h1 | h1
  · have := hO i h1; omega
  · omega
theorem OnA.vge (h : OnA w1 p m sb es O R N v ol oe es1 d1 wr) : ∀ g, v.ownBlock = some g → N ≤ g := fun g hg => (World.ownsRow.lt h.own g hg).1
theorem IMap.fr {F : List Nat} {w w' : World} {b : Nat} {l : List (Int × Value)} (h : IMap w b l) (hf : Fr F w w') (hb : b ∉ F) : IMap w' b l := h.block (hf.block b h.lt hb)
/-- What touches none of it. -/
theorem OnA.keep {F : List Nat} (h : OnA w1 p m sb es O R N v ol oe es1 d1 wr) (hf : Fr F wr wr') (hF : ∀ i ∈ F, i = R) (hO : ∀ i ∈ fpD p m sb es, i < O) (hR : O < R) (hN : R < N) : OnA w1 p m sb es O R N v ol oe es1 d1 wr' := by
  have hfar := h.far hO hR hN
  refine ⟨h.at_.fr hf fun i hi hiF => (hfar i hi).2 (hF i hiF), h.fr.trans hf fun i hi _ => by simp [hF i hi], h.new, own_fr h.own hf fun g hg hgF => ?_, h.zv, h.vap, h.ofm.fr hf fun hi => ?_, Nat.le_trans h.size hf.size, h.bls⟩
  · have := h.vge g hg; have := hF g hgF; omega
  · have := hF O hi; omega
/-- An open write more is gathered. -/
theorem OnA.push {v' : Value} {r : WrT} {oe' : List (Int × Value)} {wa : World} (h : OnA w1 p m sb es O R N v ol oe es1 d1 wr) (hO : ∀ i ∈ fpD p m sb es, i < O) (hR : O < R) (hN : R < N) (hW : w1.heap.size = N)
    (hg : wr.grownBy wa v.ownBlock) (ho : wa.ownsRow N 77 258 v' (ol.length + 1) (wrsC ol ++ wrL r)) (hat : OwnNext wr.heap.size v v') (hm : IMap wr' O oe') (hgm : wa.grownBy wr' (some O)) : OnA w1 p m sb es O R N v' (ol ++ [r]) oe' es1 d1 wr' := by
  have hfar := h.far hO hR hN
  have hfa : Fr v.ownBlock.toList wr wa := Fr.grown hg fun k hk _ => by rw [hk]; simp
  have hfm : Fr [O] wa wr' := Fr.grown hgm fun k hk _ => by injection hk with hk; simp [hk]
  have hf : Fr (O :: v.ownBlock.toList) wr wr' := (hfa.mono fun i hi _ => List.mem_cons_of_mem _ hi).trans hfm fun i hi _ => by simp at hi; simp [hi]
  have hne : ∀ g, v'.ownBlock = some g → g ≠ O := fun g hg e => by have := (World.ownsRow.lt ho g hg).1; omega
  refine ⟨h.at_.fr hf fun i hi hiF => ?_, h.fr.trans hf fun i hi hl => ?_, h.new, ?_, fun e => absurd e (by simp), fun g hg hi => ?_, hm, Nat.le_trans h.size hf.size, h.bls⟩
  · rcases List.mem_cons.1 hiF with e | e
    · exact (hfar i hi).1 e
    · exact h.vap i (by simpa using e) hi
  · rcases List.mem_cons.1 hi with e | e
    · simp [e]
    · have h1 := h.vge i (by simpa using e)
      omega
  · have e1 : wrsC (ol ++ [r]) = wrsC ol ++ wrL r := by simp [wrsC]
    rw [e1, List.length_append]
    exact own_fr ho hfm fun g hg hi => hne g hg (by simpa using hi)
  · rcases hat with e | ⟨g', e, hg'⟩
    · exact h.vap g (e.symm.trans hg) hi
    · rw [hg] at e
      injection e with e
      subst e
      have := h.at_.lt g hi
      omega
theorem push_range {wa : World} {rm rr : List (ByteArray × Value)} (h : OnA w1 p m sb es O R N v ol oe es1 d1 wr) (hO : ∀ i ∈ fpD p m sb es, i < O) (hR : O < R) (hN : R < N) (hg : wr.grownBy wa v.ownBlock) (hgm : wa.grownBy wr' (some O)) (hs : SRange wr m R rm rr) : SRange wr' m R rm rr := by
  have hfa : Fr v.ownBlock.toList wr wa := Fr.grown hg fun k hk _ => by rw [hk]; simp
  have hfm : Fr [O] wa wr' := Fr.grown hgm fun k hk _ => by injection hk with hk; simp [hk]
  have hf : Fr (O :: v.ownBlock.toList) wr wr' := (hfa.mono fun i hi _ => List.mem_cons_of_mem _ hi).trans hfm fun i hi _ => by simp at hi; simp [hi]
  have hm := hO m mem_m
  refine hs.kept (hf.block m hs.map.lt fun hi => ?_) (hf.block R hs.lt fun hi => ?_)
  · rcases List.mem_cons.1 hi with e | e
    · omega
    · have := h.vge m (by simpa using e); omega
  · rcases List.mem_cons.1 hi with e | e
    · omega
    · have := h.vge R (by simpa using e); omega
/-- A file's open writes are gone, and it holds what was settled. -/
theorem OnA.reset {wc : World} {k : ByteArray} {x : FileM} {vc : Value} (h : OnA w1 p m sb es O R N v ol oe es1 d1 wr) (hO : ∀ i ∈ fpD p m sb es, i < O) (hR : O < R) (hN : R < N) (hW : w1.heap.size = N) (hx : mget es1 k = some x) (hP : CopyP wr 75 256 x.f.settled.length (pagesC x.f.settled) vc wc) :
    OnA w1 p m sb es O R N v ol oe (mset es1 k ⟨x.bl, vc, x.vs, .slice none 0 0, resetF x.f⟩) { d1 with files := mset d1.files k (resetF x.f) } ((wc.setCell ⟨x.bl, 0, none⟩ vc).setCell ⟨x.bl, 2, none⟩ (.slice none 0 0)) := by
  have hfar := h.far hO hR hN
  have hb := hP.below
  have hfx := h.at_.files _ (mget_mem hx)
  dsimp only at hfx
  have hfw := hfx.fr (Fr.below (F := []) hb) (by simp)
  have hap := fp_parts hfx.apart
  have hxl := hfx.lt
  have hv1 : ∀ g, vc.ownBlock = some g → wr.heap.size ≤ g := fun g hg => (World.ownsRow.lt hP.own g hg).1
  have hf1 : Fr [x.bl] wc ((wc.setCell ⟨x.bl, 0, none⟩ vc).setCell ⟨x.bl, 2, none⟩ (.slice none 0 0)) := ((Fr.refl _ _).put x.bl 0 _ (.inl (by simp))).put x.bl 2 _ (.inl (by simp))
  have hf : Fr [x.bl] wr ((wc.setCell ⟨x.bl, 0, none⟩ vc).setCell ⟨x.bl, 2, none⟩ (.slice none 0 0)) := (Fr.below hb).and hf1
  have hblk := setCell_heap (j := 2) (.slice none 0 0) (setCell_heap (j := 0) vc hfw.blk)
  have hxb : x.bl ∈ fpD p m sb es1 := mem_file (mget_mem hx) (FileM.mem_fp.2 (.inl rfl))
  have hput := h.at_.put (x' := ⟨x.bl, vc, x.vs, .slice none 0 0, resetF x.f⟩) (d' := { d1 with files := mset d1.files k (resetF x.f) }) hx rfl
    ⟨hblk, own_to (own_fr hP.own hf1 fun g hg => by simpa using own_ne hP.own (by decide) hfw.blk g hg) (Nat.zero_le _), own_fr hfw.settled hf1 fun g hg => by simpa using own_ne hfw.settled (by decide) hfw.blk g hg, World.ownsRow_nil _ _ _ _, hP.nil, hfw.zs, fun _ => rfl,
      fp_nodup (fun g hg => own_ne hP.own (by decide) hfw.blk g hg) (fun g hg => (hap.2.1 g hg).1) (fun g hg => by cases hg) (fun g hg e => by have h1 := hv1 g hg; have h2 := hxl g (FileM.mem_fp.2 (.inr (.inr (.inl e)))); omega) (fun g _ e => by cases e) (fun g _ e => by cases e)⟩
    (fun i hi => by
      rcases FileM.mem_fp.1 hi with e | e | e | e
      · exact .inl (FileM.mem_fp.2 (.inl e))
      · exact .inr (hv1 i e)
      · exact .inl (FileM.mem_fp.2 (.inr (.inr (.inl e))))
      · cases e) hf (fun i hi => .inr (by simp at hi; subst hi; exact FileM.mem_fp.2 (.inl rfl))) (hf.kept (by simpa using h.at_.p_ne.2.2 _ (mget_mem hx) x.bl (FileM.mem_fp.2 (.inl rfl))) h.at_.blk) rfl rfl
  refine ⟨hput.at_, h.fr.trans hf fun i hi hl => ?_, h.new.trans hput.new h.size, own_fr h.own hf fun g hg hi => h.vap g hg (by simp at hi; rw [hi]; exact hxb), h.zv, fun g hg hi => ?_, h.ofm.fr hf fun hi => ?_, Nat.le_trans h.size hf.size, ?_⟩
  · have e : i = x.bl := by simpa using hi
    rcases h.new x.bl hxb with h1 | h1
    · rw [e]; simp [h1]
    · omega
  · rcases hput.new g hi with h1 | h1
    · exact h.vap g hg h1
    · have := (World.ownsRow.lt h.own g hg).2; omega
  · have e : O = x.bl := by simpa using hi
    exact (hfar x.bl hxb).1 e.symm
  · rw [← h.bls]
    have hnd := h.at_.map.nodup
    rw [menc_keys] at hnd
    refine eq_of_get (by rw [menc_keys]; exact mset_nodup hnd k _) ?_ fun q => ?_
    · rw [menc_keys, menc_keys]
      have := mset_keys es1 k (⟨x.bl, vc, x.vs, .slice none 0 0, resetF x.f⟩ : FileM)
      rw [if_pos (by rw [hx]; rfl)] at this
      exact this
    · rw [mget_menc, mget_menc]
      by_cases e : q = k
      · subst e; rw [mget_mset_same, hx]; rfl
      · rw [mget_mset_other _ _ e]
end
end Go.Proofs.Ytladknjmoahdoaa
