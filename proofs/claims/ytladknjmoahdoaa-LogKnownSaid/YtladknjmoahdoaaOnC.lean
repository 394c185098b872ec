/- On: what its last walk leaves, and the whole. -/
import Derived.Test.YtladknjmoahdoaaOn3
set_option linter.all false
namespace Go.Proofs.Ytladknjmoahdoaa
open Go.RowKit

def settleF (f : FileT) : FileT := ⟨f.now, f.now, f.opens⟩
/-- The disk while each file is settled: the files of dn are. -/
structure OnC (w5 : World) (p m R : Nat) (sb : Option Nat) (es2 : List (ByteArray × FileM)) (d2 : DiskT) (dn es3 : List (ByteArray × FileM)) (d3 : DiskT) (wr : World) : Prop where
  at_ : DiskAt wr p m sb es3 d3
  fr : Fr (R :: fpD p m sb es2) w5 wr
  new : NewFp w5.heap.size (fpD p m sb es2) (fpD p m sb es3)
  eq : d3 = { d2 with used := sumN (menc FileM.f dn), files := d3.files }
  keys : d3.files.map Prod.fst = d2.files.map Prod.fst
  inn : ∀ k, k ∈ dn.map Prod.fst → mget d3.files k = (mget d2.files k).map settleF
  out : ∀ k, k ∉ dn.map Prod.fst → mget d3.files k = mget d2.files k
  bls : menc FileM.bl es3 = menc FileM.bl es2
section
variable {w5 wr wc : World} {p m R : Nat} {sb : Option Nat} {es2 es3 dn : List (ByteArray × FileM)} {d2 d3 : DiskT}
theorem OnC.start (h : DiskAt w5 p m sb es2 { d2 with used := 0 }) : OnC w5 p m R sb es2 d2 [] es2 { d2 with used := 0 } w5 :=
  ⟨h, Fr.refl _ _, NewFp.refl _ _, rfl, rfl, fun k hk => absurd hk (by simp), fun _ _ => rfl, rfl⟩
theorem OnC.far (h : OnC w5 p m R sb es2 d2 dn es3 d3 wr) (hR : R < w5.heap.size) (hE : ∀ i ∈ fpD p m sb es2, i ≠ R) : ∀ i ∈ fpD p m sb es3, i ≠ R := fun i hi => by
  rcases h.new i hi with h1 | h1
  · exact hE i h1
  · omega
theorem OnC.next {F : List Nat} {wr' : World} (h : OnC w5 p m R sb es2 d2 dn es3 d3 wr) (hR : R < w5.heap.size) (hE : ∀ i ∈ fpD p m sb es2, i ≠ R) (hf : Fr F wr wr') (hF : ∀ i ∈ F, i = R) : OnC w5 p m R sb es2 d2 dn es3 d3 wr' :=
  ⟨h.at_.fr hf fun i hi hiF => h.far hR hE i hi (hF i hiF), h.fr.trans hf fun i hi _ => by simp [hF i hi], h.new, h.eq, h.keys, h.inn, h.out, h.bls⟩
/-- The file that is walked to, as it is now. -/
theorem OnC.file {k : ByteArray} {x : FileM} (h : OnC w5 p m R sb es2 d2 dn es3 d3 wr) (h2 : d2.files = menc FileM.f es2) (hx : mget es2 k = some x) (hk : k ∉ dn.map Prod.fst) : ∃ y, mget es3 k = some y ∧ y.bl = x.bl ∧ y.f = x.f := by
  have e1 := congrArg (fun l => mget l k) h.bls
  simp only [mget_menc, hx] at e1
  cases hg : mget es3 k with
  | none => rw [hg] at e1; cases e1
  | some y =>
    rw [hg] at e1
    have e2 := h.out k hk
    rw [h.at_.get, hg, h2, mget_menc, hx] at e2
    exact ⟨y, rfl, by simpa using e1, by simpa using e2⟩
theorem OnC.step {k : ByteArray} {x y : FileM} {vc : Value} (h : OnC w5 p m R sb es2 d2 dn es3 d3 wr) (h2 : d2.files = menc FileM.f es2) (hx : mget es2 k = some x) (hy : mget es3 k = some y) (hyf : y.f = x.f) (hP : CopyP wr 75 256 y.f.now.length (pagesC y.f.now) vc wc) :
    OnC w5 p m R sb es2 d2 (dn ++ [(k, x)]) (mset es3 k ⟨y.bl, y.vn, vc, y.vo, settleF y.f⟩) { d3 with used := d3.used + y.f.now.length, files := mset d3.files k (settleF y.f) } ((wc.setCell ⟨y.bl, 1, none⟩ vc).setCell ⟨p, 2, none⟩ (.int .i64 ((d3.used + y.f.now.length : Nat) : Int))) := by
  have hb := hP.below
  have hfx := h.at_.files _ (mget_mem hy)
  dsimp only at hfx
  have hfw := hfx.fr (Fr.below (F := []) hb) (by simp)
  have hap := fp_parts hfx.apart
  have hxl := hfx.lt
  have hv1 : ∀ g, vc.ownBlock = some g → wr.heap.size ≤ g := fun g hg => (World.ownsRow.lt hP.own g hg).1
  have hf1 : Fr [y.bl] wc (wc.setCell ⟨y.bl, 1, none⟩ vc) := (Fr.refl _ _).put y.bl 1 _ (.inl (by simp))
  have hf : Fr [y.bl] wr (wc.setCell ⟨y.bl, 1, none⟩ vc) := (Fr.below hb).and hf1
  have hblk := setCell_heap (j := 1) vc hfw.blk
  have hxb : y.bl ∈ fpD p m sb es3 := mem_file (mget_mem hy) (FileM.mem_fp.2 (.inl rfl))
  have hput := h.at_.put (x' := ⟨y.bl, y.vn, vc, y.vo, settleF y.f⟩) (d' := { d3 with files := mset d3.files k (settleF y.f) }) hy rfl
    ⟨hblk, own_fr hfw.now hf1 fun g hg => by simpa using own_ne hfw.now (by decide) hfw.blk g hg, own_to (own_fr hP.own hf1 fun g hg => by simpa using own_ne hP.own (by decide) hfw.blk g hg) (Nat.zero_le _), own_fr hfw.opens hf1 fun g hg => by simpa using own_ne hfw.opens (by decide) hfw.blk g hg, hfw.zn, hP.nil, hfw.zo,
      fp_nodup (fun g hg => (hap.1 g hg).1) (fun g hg => own_ne hP.own (by decide) hfw.blk g hg) (fun g hg => hap.2.2 g hg) (fun g hg e => by have h1 := hv1 g e; have h2 := hxl g (FileM.mem_fp.2 (.inr (.inl hg))); omega) (fun g hg => (hap.1 g hg).2.2) (fun g hg e => by have h1 := hv1 g hg; have h2 := hxl g (FileM.mem_fp.2 (.inr (.inr (.inr e)))); omega)⟩
    (fun i hi => by
      rcases FileM.mem_fp.1 hi with e | e | e | e
      · exact .inl (FileM.mem_fp.2 (.inl e))
      · exact .inl (FileM.mem_fp.2 (.inr (.inl e)))
      · exact .inr (hv1 i e)
      · exact .inl (FileM.mem_fp.2 (.inr (.inr (.inr e))))) hf (fun i hi => .inr (by simp at hi; subst hi; exact FileM.mem_fp.2 (.inl rfl))) (hf.kept (by simpa using h.at_.p_ne.2.2 _ (mget_mem hy) y.bl (FileM.mem_fp.2 (.inl rfl))) h.at_.blk) rfl rfl
  have hput2 := hput.head (j := 2) (hput.at_.setUsed (d3.used + y.f.now.length))
  have hg2 : mget d3.files k = some y.f := by rw [h.at_.get, hy]; rfl
  have hkk : mget d2.files k = some x.f := by rw [h2, mget_menc, hx]; rfl
  refine ⟨hput2.at_, h.fr.trans hput2.fr fun i hi hl => ?_, h.new.trans hput2.new h.fr.size, ?_, ?_, fun q hq => ?_, fun q hq => ?_, ?_⟩
  · rcases h.new i hi with h1 | h1
    · exact List.mem_cons_of_mem _ h1
    · omega
  · have h1 := h.eq
    have h3 : d3.used = sumN (menc FileM.f dn) := by rw [h1]
    have h4 : sumN (menc FileM.f (dn ++ [(k, x)])) = d3.used + y.f.now.length := by
      rw [h3, hyf]
      simp [sumN, menc]
    rw [h4]
    show ({ d3 with used := _, files := _ } : DiskT) = _
    rw [h1]
  · show (mset d3.files k _).map Prod.fst = _
    have := mset_keys d3.files k (settleF y.f)
    rw [if_pos (by rw [hg2]; rfl)] at this
    rw [← h.keys]
    exact this
  · show mget (mset d3.files k _) q = _
    by_cases e : q = k
    · subst e
      rw [mget_mset_same, hkk, hyf]; rfl
    · rw [mget_mset_other _ _ e]
      exact h.inn q (by simpa [e] using hq)
  · show mget (mset d3.files k _) q = _
    have e : q ≠ k := fun e => hq (by simp [e])
    rw [mget_mset_other _ _ e]
    exact h.out q (fun hi => hq (by simp [hi]))
  · rw [← h.bls]
    have hnd := h.at_.map.nodup
    rw [menc_keys] at hnd
    refine eq_of_get (by rw [menc_keys]; exact mset_nodup hnd k _) ?_ fun q => ?_
    · rw [menc_keys, menc_keys]
      have := mset_keys es3 k (⟨y.bl, y.vn, vc, y.vo, settleF y.f⟩ : FileM)
      rw [if_pos (by rw [hy]; rfl)] at this
      exact this
    · rw [mget_menc, mget_menc]
      by_cases e : q = k
      · subst e; rw [mget_mset_same, hy]; rfl
      · rw [mget_mset_other _ _ e]
theorem OnC.done (h : OnC w5 p m R sb es2 d2 dn es3 d3 wr) (h2 : d2.files = menc FileM.f es2) (hn : (d2.files.map Prod.fst).Nodup) (hp : es2.Perm dn) : d3 = { d2 with used := sumN d2.files, files := menc settleF d2.files } := by
  have e1 : sumN (menc FileM.f dn) = sumN d2.files := by rw [h2]; exact (sumN_perm (hp.map _)).symm
  rw [h.eq, e1]
  congr 1
  refine eq_of_get (by rw [h.keys]; exact hn) (by rw [h.keys, menc_keys]) fun k => ?_
  rw [mget_menc]
  rcases Classical.em (k ∈ dn.map Prod.fst) with hk | hk
  · exact h.inn k hk
  · rw [h.out k hk]
    cases hg : mget d2.files k with
    | none => rfl
    | some f =>
      refine absurd ((hp.map Prod.fst).mem_iff.1 ?_) hk
      have h3 := mget_isSome.1 (show (mget d2.files k).isSome = true by rw [hg]; rfl)
      rw [h2, menc_keys] at h3
      exact h3
end
/-- What happens beside the disk. -/
theorem OpL.beside {F : List Nat} {w w1 w2 : World} {p m : Nat} {sb sb1 : Option Nat} {es es1 : List (ByteArray × FileM)} {d1 : DiskT} (h : OpL w p m sb es d1 sb1 es1 w1) (hf : Fr F w1 w2) (hF : ∀ i ∈ F, w.heap.size ≤ i) (hn : ∀ i ∈ fpD p m sb1 es1, i ∉ F) : OpL w p m sb es d1 sb1 es1 w2 :=
  ⟨h.at_.fr hf hn, h.fr.trans hf fun i hi hl => by have := hF i hi; omega, h.new⟩
/-- The failure is gone. -/
theorem DiskAt.setNone {w : World} {p m b : Nat} {es : List (ByteArray × FileM)} {d : DiskT} (h : DiskAt w p m (some b) es d) : OpL w p m (some b) es { d with set := none } none es (w.setCell ⟨p, 5, none⟩ (.pointer none)) := by
  have hf : Fr [p] w (w.setCell ⟨p, 5, none⟩ (.pointer none)) := (Fr.refl _ _).put p 5 _ (.inl (by simp))
  obtain ⟨n1, -, n3⟩ := h.p_ne
  refine ⟨⟨setCell_heap _ h.blk, h.map.fr hf (by simpa using Ne.symm n1), fun e he => (h.files e he).fr hf fun g hg => by simpa using Ne.symm (n3 e he g hg), h.eq, trivial, ?_⟩, hf.mono fun g hg _ => by simp at hg; subst hg; exact mem_p, ?_⟩
  · have ha := h.apart
    unfold fpD at ha ⊢
    simp only [List.cons_append, List.nodup_cons, List.mem_cons, List.mem_append, not_or, Option.toList_some, Option.toList_none, List.nil_append, List.not_mem_nil] at ha ⊢
    exact ⟨⟨ha.1.1, ha.1.2.2⟩, ha.2.1.2, ha.2.2.2⟩
  · intro g hg
    simp only [fpD, List.cons_append, List.mem_cons, List.mem_append, Option.toList_some, Option.toList_none, List.nil_append, List.not_mem_nil, false_or] at hg ⊢
    rcases hg with e | e | e
    · exact .inl (.inl e)
    · exact .inl (.inr (.inl e))
    · exact .inl (.inr (.inr (.inr e)))
theorem OnA.op {w w1 wr : World} {p m O R N : Nat} {sb : Option Nat} {es es1 : List (ByteArray × FileM)} {v : Value} {ol : List WrT} {oe : List (Int × Value)} {d1 : DiskT} (h : OnA w1 p m sb es O R N v ol oe es1 d1 wr) (hb : Below w.heap.size w w1) (hO : w.heap.size ≤ O) (hR : w.heap.size ≤ R) (hN : w.heap.size ≤ N) : OpL w p m sb es d1 sb es1 wr := by
  refine ⟨h.at_, (Fr.below hb).trans h.fr fun i hi hl => ?_, fun i hi => ?_⟩
  · rcases List.mem_cons.1 hi with e | hi
    · omega
    rcases List.mem_cons.1 hi with e | hi
    · omega
    exact hi
  · rcases h.new i hi with h1 | h1
    · exact .inl h1
    · exact .inr (Nat.le_trans hN h1)
/-- The whole: what is on again. -/
theorem on_whole {d d2 : DiskT} {i0 kp n : Nat} (hi : Inv d) (ho : d.off = true) (hs : d.set = some (i0, kp)) (hk : d2.files.map Prod.fst = d.files.map Prod.fst) (hg : ∀ k, mget d2.files k = (mget d.files k).map (partF (opensD d) kp n)) (he : d2 = { d with files := d2.files }) (hn : ∀ r ∈ opensD d, rankW (opensD d) r.no < n) :
    ({ d2 with used := sumN d2.files, files := menc settleF d2.files, off := false, set := none } : DiskT) = onD d := by
  have h1 : d2.files = menc (partF (opensD d) kp n) d.files := eq_of_get (by rw [hk]; exact hi.nodup) (by rw [hk, menc_keys]) fun k => by rw [hg, mget_menc]
  have h2 : menc settleF d2.files = d.files.map fun p => (p.1, onF (opensD d) kp p.2) := by
    rw [h1, menc_menc]
    unfold menc
    refine List.map_congr_left fun p hp => ?_
    have h3 := mget_of_mem hi.nodup (show (p.1, p.2) ∈ d.files from hp)
    have h5 := partF_last (keep := kp) fun r hr => hn r (opens_mem h3 r hr)
    dsimp only at h5 ⊢
    rw [h5]
    rfl
  have h4 : sumN d2.files = sumN (menc settleF d2.files) := by simp [sumN, menc, settleF, Function.comp_def]
  unfold onD
  rw [if_neg (by rw [ho]; simp), hs]
  show _ = ({ d with files := d.files.map fun p => (p.1, onF (opensD d) kp p.2), used := sumN (d.files.map fun p => (p.1, onF (opensD d) kp p.2)), off := false, set := none } : DiskT)
  rw [h4, h2, he]
theorem OnC.op {w w5 wr : World} {p m R : Nat} {sb : Option Nat} {es es2 es3 dn : List (ByteArray × FileM)} {d2 d3 dz : DiskT} (h : OnC w5 p m R sb es2 d2 dn es3 d3 wr) (hO : OpL w p m sb es dz sb es2 w5) (hR : w.heap.size ≤ R) : OpL w p m sb es d3 sb es3 wr := by
  refine ⟨h.at_, hO.fr.trans h.fr fun i hi hl => ?_, hO.new.trans h.new hO.fr.size⟩
  rcases List.mem_cons.1 hi with e | hi
  · omega
  · rcases hO.new i hi with h1 | h1
    · exact h1
    · omega
theorem sumN_le (g : FileT → FileT) : ∀ l : List (ByteArray × FileT), (∀ p ∈ l, (g p.2).now.length ≤ p.2.now.length) → sumN (menc g l) ≤ sumN l
  | [], _ => Nat.le_refl _
  | a :: l, h => by
    have h1 := h a (List.mem_cons_self ..)
    have h2 := sumN_le g l fun p hp => h p (List.mem_cons_of_mem _ hp)
    have e : menc g (a :: l) = (a.1, g a.2) :: menc g l := rfl
    rw [e, sumN_cons, sumN_cons]
    exact Nat.add_le_add h1 h2
theorem OnB.sum {w3 wr : World} {p m kp i : Nat} {sb : Option Nat} {es es1 es2 : List (ByteArray × FileM)} {d d2 : DiskT} (h : OnB w3 p m sb es es1 d kp i es2 d2 wr) (hi : Inv d) : sumN d2.files ≤ 100000 := by
  have h1 : d2.files = menc (partF (opensD d) kp i) d.files := eq_of_get (by rw [h.keys]; exact hi.nodup) (by rw [h.keys, menc_keys]) fun k => by rw [h.get, mget_menc]
  have h2 := sumN_le (partF (opensD d) kp i) d.files fun p hp => by
    have h3 := laidP_sub (ws := p.2.opens) (vs := keptW (opensD d) kp i p.2) List.filter_sublist (l := p.2.settled) (m := p.2.settled) (Nat.le_refl _)
    rw [← (hi.files p hp).now] at h3
    exact h3
  rw [← h1, ← hi.sum] at h2
  have h5 := hi.within
  have h6 := hi.quota
  omega
/-- The open writes, gathered file by file and sorted. -/
theorem gathered {w : World} {p m : Nat} {sb : Option Nat} {es dn : List (ByteArray × FileM)} {d : DiskT} {ls : List WrT} {oe : List (Int × Value)} (h : DiskAt w p m sb es d) (hi : Inv d) (hp : es.Perm dn) (hof : OfP oe dn) (hl : ls.Perm (dn.flatMap fun e => e.2.f.opens)) (hs : ls.Pairwise (fun a b => a.no ≤ b.no)) :
    ls.Perm (opensD d) ∧ ls.Pairwise (fun a b => a.no < b.no) ∧ OfW d es ls oe := by
  have h1 : opensD d = es.flatMap fun e => e.2.f.opens := by
    unfold opensD
    rw [h.eq]
    unfold menc
    rw [List.flatMap_map]
  have h2 : ls.Perm (opensD d) := by rw [h1]; exact hl.trans (hp.symm.flatMap_right _)
  refine ⟨h2, ?_, fun r hr => ?_⟩
  · have h3 := (h2.map WrT.no).nodup_iff.2 hi.apart
    have h4 : ls.Pairwise (fun a b => a.no ≠ b.no) := List.Pairwise.of_map WrT.no (fun _ _ h => h) h3
    exact (hs.and h4).imp fun h => Nat.lt_of_le_of_ne h.1 h.2
  · obtain ⟨e, he, hre⟩ := List.mem_flatMap.1 (hl.mem_iff.1 hr)
    have hee : e ∈ es := hp.mem_iff.2 he
    have hnd := h.map.nodup
    rw [menc_keys] at hnd
    have hg := mget_of_mem hnd (show (e.1, e.2) ∈ es from hee)
    exact ⟨e.1, e.2.f, e.2, by rw [h.get, hg]; rfl, hre, hg, hof e he r hre⟩
end Go.Proofs.Ytladknjmoahdoaa
