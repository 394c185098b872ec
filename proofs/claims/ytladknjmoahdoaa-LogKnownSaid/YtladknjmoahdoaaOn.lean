/- On. -/
import Derived.Test.YtladknjmoahdoaaOn4
set_option linter.all false
namespace Go.Proofs.Ytladknjmoahdoaa
open Go.RowKit

set_option maxRecDepth 1000000 in
set_option maxHeartbeats 16000000 in
theorem on_any (p m : Nat) (sb : Option Nat) (es : List (ByteArray × FileM)) (d : DiskT) (w : World) (h : DiskAt w p m sb es d) (hi : Inv d) (hst : d.steps ≤ 4000000000) :
    Calls Try.prog 10 #[.pointer (some ⟨p, 0, none⟩)] w fun e w' => e = .returned (.tuple #[]) ∧ ∃ sb' es', OpL w p m sb es (onD d) sb' es' w' := by
  have hmm := @run_makeMap Try.prog
  obtain ⟨-, -, -, -, -, -, c6⟩ := h.cell
  rcases Bool.eq_false_or_eq_true d.off with ho | ho
  case inr =>
    have hr : onD d = d := by unfold onD; rw [if_pos ho]
    rw [hr]
    have HF := Lib.hid (OpL.here h)
    rw [ho] at c6
    clear h hi ho hr
    go_enter Try.func10, Try.ntmps10
    go_wp2_with fail
    refine bodyPost_ret (results_none rfl _ _ _) rfl ?_
    exact ⟨rfl, sb, es, HF.out⟩
  obtain ⟨⟨i0, kp⟩, hset⟩ := Option.isSome_iff_exists.1 (hi.off ho)
  obtain ⟨b, rfl⟩ : ∃ b, sb = some b := by
    have h1 := h.set
    rw [hset] at h1
    cases sb with
    | none => exact h1.elim
    | some b => exact ⟨b, rfl⟩
  have HH := Lib.hid h
  have HI := Lib.hid hi
  have HO := Lib.hid ho
  have HST := Lib.hid hset
  rw [ho] at c6
  have e0 := fun o => (h.alloc o).cell.1
  have eM := fun o => SMap.fr h.map (Fr.below (F := []) (one_below w o)) (by simp)
  have HIM := Lib.hid (IMap.made w)
  clear h hi ho hset
  go_enter Try.func10, Try.ntmps10
  go_wp2_with (at_range; refine wpList_srange _ rfl _ _ rfl 9 68 Try.underlying45 m _ rfl (eM _) ?_; intro w1 hrg hg hsz; go_frame)
  clear e0 eM c6
  have hsA : (w.alloc (.map #[] 0)).heap.size = w.heap.size + 1 := by simp
  rw [hsA] at hrg hsz ⊢
  have hb1 : Below w.heap.size w w1 := (one_below w (.map #[] 0)).trans ((Below.refl _ _).grown hg (by simp) (by intro k hk; cases hk))
  have HB1 := Lib.hid hb1
  rw [encF_bl] at hrg
  have HRG := Lib.hid hrg
  have HSZ := Lib.hid hsz
  have hd1 := HH.out.below hb1
  have hO : ∀ i ∈ fpD p m (some b) es, i < w.heap.size := HH.out.lt
  have HA0 := Lib.hid (show OnA w1 p m (some b) es w.heap.size (w.heap.size + 1) (w.heap.size + 1 + 1) (.slice none 0 0) [] [] es d w1 from
    ⟨hd1, Fr.refl _ _, NewFp.refl _ _, World.ownsRow_nil _ _ _ _, fun _ => rfl, (fun g hg => by cases hg), IMap.fr HIM.out (Fr.grown (F := []) hg (fun k hk _ => by cases hk)) (by simp), (by rw [hsz]; exact Nat.le_refl _), rfl⟩)
  have HOO := Lib.hid hO
  clear hrg hg hsz hb1 hd1 hO hsA
  refine on_first p m (some b) es d w w1 _ HH HI hst HSZ HOO HA0 HRG _ _ _ _ _ _ _ _ _ _ _ _ _ _ _ _ _ _ _ _ _ _ _ _ _ _ _ _ _ _ _ _ _ _ _ _ _ _ _ _ _ _ _ _ _ _ _ _ _ _ _ _ _ _ _ _ _ _ _ _ _ _ _ _ _ _ _ _ _ _ _ _ _ _ _ _ _ _ _ _ _ _ _ _ _ _ _ _ _ _ _ _ _ _ _ _ _ _ _ _ _ _ _ _ _ _ _ _ _ _ _ _ _ _ _ _ _ _ _ _ _ _ _ _ _ _ _ _ _ _ ?_
  intro u5 u7 u29 u30 u31 u32 u33 u34 u35 u36 u37 u38 u39 u40 u41 u42 u43 u44 u45 u46 u47 u48 u49 u50 u51 u52 u53 u54 u55 u56 u57 u58 u59 u60 v' dn es1 oe2 d1 wr hperm hA hof hpart
  have HPM := Lib.hid hperm
  have HA := Lib.hid hA
  have HOF := Lib.hid hof
  have hd1 : d1 = { d with files := menc resetF d.files } := hpart.done HI.out.nodup fun k hk => by
    rw [HH.out.eq, menc_keys] at hk
    exact (hperm.map Prod.fst).mem_iff.1 hk
  subst hd1
  obtain ⟨Av, cv, hv, -, -⟩ := own_shape hA.own
  obtain ⟨nv, hnv⟩ : ∃ nv, (dn.flatMap (fun e => e.2.f.opens)).length = nv := ⟨_, rfl⟩
  have hol : (dn.flatMap (fun e => e.2.f.opens)).Perm (opensD d) := by
    have h1 : opensD d = es.flatMap fun e => e.2.f.opens := by unfold opensD; rw [HH.out.eq]; unfold menc; rw [List.flatMap_map]
    rw [h1]
    exact hperm.symm.flatMap_right _
  have hnb : nv ≤ 4000000000 := by
    have h1 := HI.out.opens_len
    have h2 := HI.out.no
    have h3 := hol.length_eq
    omega
  have hno : ∀ x ∈ dn.flatMap (fun e => e.2.f.opens), x.no < 4611686018427387904 := fun x hx => by
    obtain ⟨q, hq, hx2⟩ := List.mem_flatMap.1 (hol.mem_iff.1 hx)
    have h1 := (HI.out.files q hq).lt x hx2
    have h2 := HI.out.no
    omega
  have hS := sort_writes (dn.flatMap (fun e => e.2.f.opens)) hno (w.heap.size + 1 + 1) nv v' wr (by rw [← hnv]; exact hA.own) hnv hnb (fun e => hA.zv (by rw [hnv]; exact e))
  rw [hnv] at hv
  subst hv
  have HS := Lib.hid hS
  have HNV := Lib.hid hnv
  clear hperm hA hof hpart hnv hol hno hS HA0 HRG
  go_wp2_with (go_at_call 34; refine HS.out.mono ?_; rintro e w3 ⟨rfl, ls, hlp, hls, hown, hfr⟩)
  obtain ⟨g1, g2, g3⟩ := gathered HH.out HI.out HPM.out HOF.out hlp hls
  have hge : ∀ i ∈ (Value.slice Av nv cv).ownBlock.toList, w.heap.size + 1 + 1 ≤ i ∧ i ∉ fpD p m (some b) es1 := fun i hi => by
    have h1 : (Value.slice Av nv cv).ownBlock = some i := by simpa using hi
    exact ⟨HA.out.vge i h1, HA.out.vap i h1⟩
  have hO1 := (HA.out.op HB1.out (Nat.le_refl _) (Nat.le_succ _) (Nat.le_succ_of_le (Nat.le_succ _))).beside hfr (fun i hi => by have := (hge i hi).1; omega) (fun i hi hF => (hge i hF).2 hi)
  have HO1 := Lib.hid hO1
  have HM3 := Lib.hid (IMap.fr HA.out.ofm hfr fun hi => by have := (hge _ hi).1; omega)
  have HL := Lib.hid (show ls.length = nv by rw [hlp.length_eq, HNV.out])
  have HG1 := Lib.hid g1
  have HG2 := Lib.hid g2
  have HG3 := Lib.hid g3
  have HOWN := Lib.hid hown
  have HVAP := Lib.hid HA.out.vap
  have HON := Lib.hid (show w.heap.size ∉ fpD p m (some b) es1 from fun hi => (HA.out.far HOO.out (Nat.lt_succ_self _) (Nat.lt_succ_self _) _ hi).1 rfl)
  have HD3 := Lib.hid hO1.at_
  clear hO1 hge g1 g2 g3 hlp hls hown hfr
  go_wp2_with fail
  refine on_second p m b i0 kp w.heap.size (w.heap.size + 1 + 1) nv cv Av es es1 d ls oe2 w3 _ HD3 HI HST (Lib.hid HA.out.bls) HG1 HG2 HL hnb HOWN HVAP HM3 HON HG3 _ _ _ _ _ _ _ _ _ _ _ _ _ _ _ _ _ _ _ _ _ _ _ _ _ _ _ _ _ _ _ _ _ _ _ _ _ _ _ _ _ _ _ _ _ _ _ _ _ _ _ _ _ _ _ _ _ _ _ _ _ _ _ _ _ _ _ _ _ _ _ _ _ _ _ _ _ _ _ _ _ _ _ _ _ _ _ _ _ _ _ _ _ _ _ _ _ _ _ _ _ _ _ _ _ _ _ _ _ _ _ _ _ _ _ _ _ _ _ _ _ _ _ _ _ _ _ _ _ ?_
  intro u8 u9 u67 u68 u69 u70 u71 u72 u73 u74 u75 u76 u77 u78 u79 u80 u81 u82 u83 u84 u85 u86 u87 u88 u89 u90 u91 u92 u93 es2 d2 w4 hB
  have HB := Lib.hid hB
  have hd4 := hB.op.at_
  obtain ⟨-, -, q2, -⟩ := hd4.cell
  have z2 := hd4.free 2
  have hu4 : DiskAt (w4.setCell ⟨p, 2, none⟩ (.int .i64 0)) p m (some b) es2 { d2 with used := 0 } := hd4.setUsed 0
  obtain ⟨q0, -⟩ := hu4.cell
  have HO4 := Lib.hid ((HO1.out.trans hB.op).head hu4)
  have HU4 := Lib.hid hu4
  have HM4 := Lib.hid hu4.map
  clear hB hd4 hu4
  go_wp2_with (at_range; refine wpList_srange _ rfl _ _ rfl 9 68 Try.underlying45 m _ rfl HM4.out ?_; intro w5 hrg hg hsz; go_frame)
  rw [encF_bl] at hrg
  have hb5 : Below (w4.setCell ⟨p, 2, none⟩ (.int .i64 0)).heap.size (w4.setCell ⟨p, 2, none⟩ (.int .i64 0)) w5 := (Below.refl _ _).grown hg (Nat.le_refl _) (by intro k hk; cases hk)
  have HD5 := Lib.hid (HU4.out.below hb5)
  have HO5 := Lib.hid (HO4.out.below hb5)
  have HR5 := Lib.hid (show (w4.setCell ⟨p, 2, none⟩ (.int .i64 0)).heap.size < w5.heap.size by rw [hsz]; exact Nat.lt_succ_self _)
  have HE5 := Lib.hid (show ∀ i ∈ fpD p m (some b) es2, i ≠ (w4.setCell ⟨p, 2, none⟩ (.int .i64 0)).heap.size from fun i hi => Nat.ne_of_lt (HU4.out.lt i hi))
  have HRG5 := Lib.hid hrg
  have HRW := Lib.hid HO4.out.fr.size
  clear hrg hg hsz hb5 q0 q2 z2
  generalize (w4.setCell ⟨p, 2, none⟩ (.int .i64 0)).heap.size = R at *
  refine on_last p m R (some b) es2 d2 w5 _ HD5 (Lib.hid HB.out.op.at_.eq) (Lib.hid (HB.out.sum HI.out)) HR5 HE5 HRG5 _ _ _ _ _ _ _ _ _ _ _ _ _ _ _ _ _ _ _ _ _ _ _ _ _ _ _ _ _ _ _ _ _ _ _ _ _ _ _ _ _ _ _ _ _ _ _ _ _ _ _ _ _ _ _ _ _ _ _ _ _ _ _ _ _ _ _ _ _ _ _ _ _ _ _ _ _ _ _ _ _ _ _ _ _ _ _ _ _ _ _ _ _ _ _ _ _ _ _ _ _ _ _ _ _ _ _ _ _ _ _ _ _ _ _ _ _ _ _ _ _ _ _ _ _ _ _ _ _ _ _ _ ?_
  intro u11 u104 u105 u106 u107 u108 u109 u110 u111 u112 u113 u114 u115 u116 u117 u118 u119 u120 u121 u122 u123 u124 u125 u126 u127 dn2 es3 d3 w6 hpm2 hC
  have hd3 := hC.done HB.out.op.at_.eq (by rw [HB.out.keys]; exact HI.out.nodup) hpm2
  subst hd3
  have hO6 := hC.op HO5.out HRW.out
  have HO6 := Lib.hid hO6
  have hd6 := hO6.at_
  obtain ⟨-, -, -, -, -, q5, q6⟩ := hd6.cell
  have z6 := hd6.free 6
  have hoff := hd6.setOff false
  have z5 := hoff.free 5
  obtain ⟨-, -, -, -, -, r5, -⟩ := hoff.cell
  have hO7 := (hO6.head hoff).trans hoff.setNone
  have hw := on_whole (n := nv) HI.out HO.out HST.out HB.out.keys HB.out.get HB.out.eq fun r hr => by
    obtain ⟨j, hj⟩ := List.getElem?_of_mem (HG1.out.mem_iff.2 hr)
    have h1 := rank_at HG2.out hj
    rw [rankW_perm HG1.out] at h1
    rw [h1, ← HL.out]
    exact (List.getElem?_eq_some_iff.1 hj).1
  have HF := Lib.hid (show OpL w p m (some b) es (onD d) none es3 _ by rw [← hw]; exact hO7)
  clear hO7 hw hoff hd6 hO6 hC hpm2
  go_wp2_with fail
  go_end0
  exact ⟨rfl, none, es3, HF.out⟩
end Go.Proofs.Ytladknjmoahdoaa
