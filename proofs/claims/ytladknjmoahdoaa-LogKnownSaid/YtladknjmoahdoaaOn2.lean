/- On: the open writes of one file are gathered. -/
import Derived.Test.YtladknjmoahdoaaOn0
set_option linter.all false
namespace Go.Proofs.Ytladknjmoahdoaa
open Go.RowKit

set_option maxRecDepth 1000000 in
set_option maxHeartbeats 16000000 in
theorem on_inner (p m : Nat) (sb : Option Nat) (es es1 dn tx : List (ByteArray × FileM)) (d d1 : DiskT) (w w1 w2 : World) (key : ByteArray) (x y : FileM) (ol : List WrT) (oe : List (Int × Value)) (Ao : Option Addr) (no co : Nat) (v : Value) (Q0 : Exit → Act → World → Prop)
    (HH : Hid (DiskAt w p m sb es d)) (HI : Hid (Inv d)) (hst : d.steps ≤ 4000000000) (HSZ : Hid (w1.heap.size = w.heap.size + 1 + 1)) (HOO : Hid (∀ i ∈ fpD p m sb es, i < w.heap.size))
    (HP : Hid (es.Perm (dn ++ (key, x) :: tx))) (HOL : Hid (ol = dn.flatMap (fun e => e.2.f.opens))) (HOF : Hid (OfP oe dn)) (HA2 : Hid (OnA w1 p m sb es w.heap.size (w.heap.size + 1) (w.heap.size + 1 + 1) v ol oe es1 d1 w2))
    (HRG3 : Hid (SRange w2 m (w.heap.size + 1) (menc encP (menc FileM.bl es)) (menc encP (menc FileM.bl tx)))) (HY : Hid (mget es1 key = some y)) (HYF : Hid (y.f = x.f)) (HAP : Hid (∀ e ∈ dn, ∀ r ∈ e.2.f.opens, ∀ r' ∈ x.f.opens, r.no ≠ r'.no))
    (HVO : Hid (y.vo = .slice Ao no co)) (HNO : Hid (y.f.opens.length = no)) (hnb : no ≤ 4000000000)
    (s0 s1 s4 s6 s7 s8 s9 s10 s11 s12 s13 s14 s15 s16 s17 s18 s19 s20 s21 s22 s23 s24 s25 s26 s27 s28 s29 s30 s31 s32 s33 s37 s38 s39 s40 s41 s42 s43 s44 s45 s46 s47 s48 s49 s50 s51 s52 s53 s54 s55 s56 s57 s58 s59 s60 s61 s62 s63 s64 s65 s66 s67 s68 s69 s70 s71 s72 s73 s74 s75 s76 s77 s78 s79 s80 s81 s82 s83 s84 s85 s86 s87 s88 s89 s90 s91 s92 s93 s94 s95 s96 s97 s98 s99 s100 s101 s102 s103 s104 s105 s106 s107 s108 s109 s110 s111 s112 s113 s114 s115 s116 s117 s118 s119 s120 s121 s122 s123 s124 s125 s126 s127 s128 s129 s130 s131 s132 s133 : Value)
    (hexit : ∀ (u7 u38 u39 u40 u41 u42 u43 u44 u45 u46 u47 u48 v' : Value) (oe2 : List (Int × Value)) (wr : World), OnA w1 p m sb es w.heap.size (w.heap.size + 1) (w.heap.size + 1 + 1) v' (ol ++ y.f.opens) oe2 es1 d1 wr → OfP oe2 dn → (∀ r ∈ y.f.opens, imget oe2 (r.no : Int) = some (encP y.bl)) → SRange wr m (w.heap.size + 1) (menc encP (menc FileM.bl es)) (menc encP (menc FileM.bl tx)) → Q0 (.exit 2) ⟨List.toArray (s0 :: s1 :: v' :: (.map (some w.heap.size)) :: s4 :: (.pointer (some ⟨y.bl, 0, none⟩)) :: s6 :: u7 :: s8 :: s9 :: s10 :: s11 :: s12 :: s13 :: s14 :: s15 :: s16 :: s17 :: s18 :: s19 :: s20 :: s21 :: s22 :: s23 :: s24 :: s25 :: s26 :: s27 :: s28 :: s29 :: s30 :: s31 :: s32 :: s33 :: (.slice Ao no co) :: (.int .i64 (no : Int)) :: (.int .i64 (no : Int)) :: (.bool false) :: u38 :: u39 :: u40 :: u41 :: u42 :: u43 :: u44 :: u45 :: u46 :: u47 :: u48 :: s49 :: s50 :: s51 :: s52 :: s53 :: s54 :: s55 :: s56 :: s57 :: s58 :: s59 :: s60 :: s61 :: s62 :: s63 :: s64 :: s65 :: s66 :: s67 :: s68 :: s69 :: s70 :: s71 :: s72 :: s73 :: s74 :: s75 :: s76 :: s77 :: s78 :: s79 :: s80 :: s81 :: s82 :: s83 :: s84 :: s85 :: s86 :: s87 :: s88 :: s89 :: s90 :: s91 :: s92 :: s93 :: s94 :: s95 :: s96 :: s97 :: s98 :: s99 :: s100 :: s101 :: s102 :: s103 :: s104 :: s105 :: s106 :: s107 :: s108 :: s109 :: s110 :: s111 :: s112 :: s113 :: s114 :: s115 :: s116 :: s117 :: s118 :: s119 :: s120 :: s121 :: s122 :: s123 :: s124 :: s125 :: s126 :: s127 :: s128 :: s129 :: s130 :: s131 :: s132 :: s133 :: []), []⟩ wr) :
    Code.wp Try.prog (Code.loop onInner) Q0 ⟨List.toArray (s0 :: s1 :: v :: (.map (some w.heap.size)) :: s4 :: (.pointer (some ⟨y.bl, 0, none⟩)) :: s6 :: s7 :: s8 :: s9 :: s10 :: s11 :: s12 :: s13 :: s14 :: s15 :: s16 :: s17 :: s18 :: s19 :: s20 :: s21 :: s22 :: s23 :: s24 :: s25 :: s26 :: s27 :: s28 :: s29 :: s30 :: s31 :: s32 :: s33 :: (.slice Ao no co) :: (.int .i64 (no : Int)) :: (.int .i64 0) :: s37 :: s38 :: s39 :: s40 :: s41 :: s42 :: s43 :: s44 :: s45 :: s46 :: s47 :: s48 :: s49 :: s50 :: s51 :: s52 :: s53 :: s54 :: s55 :: s56 :: s57 :: s58 :: s59 :: s60 :: s61 :: s62 :: s63 :: s64 :: s65 :: s66 :: s67 :: s68 :: s69 :: s70 :: s71 :: s72 :: s73 :: s74 :: s75 :: s76 :: s77 :: s78 :: s79 :: s80 :: s81 :: s82 :: s83 :: s84 :: s85 :: s86 :: s87 :: s88 :: s89 :: s90 :: s91 :: s92 :: s93 :: s94 :: s95 :: s96 :: s97 :: s98 :: s99 :: s100 :: s101 :: s102 :: s103 :: s104 :: s105 :: s106 :: s107 :: s108 :: s109 :: s110 :: s111 :: s112 :: s113 :: s114 :: s115 :: s116 :: s117 :: s118 :: s119 :: s120 :: s121 :: s122 :: s123 :: s124 :: s125 :: s126 :: s127 :: s128 :: s129 :: s130 :: s131 :: s132 :: s133 :: []), []⟩ w2 := by
  have hzw := zero_write
  conv => arg 2; arg 1; whnf
  go_loopw [36, 2] (fun i v wr2 => ∃ (j : Nat) (oe2 : List (Int × Value)), j ≤ no ∧ i = .int .i64 (j : Int) ∧ OnA w1 p m sb es w.heap.size (w.heap.size + 1) (w.heap.size + 1 + 1) v (ol ++ y.f.opens.take j) oe2 es1 d1 wr2 ∧ OfP oe2 dn ∧ (∀ r ∈ y.f.opens.take j, imget oe2 (r.no : Int) = some (encP y.bl)) ∧ SRange wr2 m (w.heap.size + 1) (menc encP (menc FileM.bl es)) (menc encP (menc FileM.bl tx))) (fun i _ _ => no - (intOf i).toNat)
  case atStart => exact ⟨0, oe, Nat.zero_le _, rfl, by simpa using HA2.out, HOF.out, by simp, HRG3.out⟩
  case round =>
    obtain ⟨j, oe2, hj, rfl, hA3, hof3, hcur, hrg4⟩ := hrel
    have HA3 := Lib.hid hA3
    have HOF3 := Lib.hid hof3
    have HCUR := Lib.hid hcur
    have HRG4 := Lib.hid hrg4
    obtain ⟨Av, cv, hv, -, -⟩ := own_shape hA3.own
    obtain ⟨nv, hnv⟩ : ∃ nv, (ol ++ y.f.opens.take j).length = nv := ⟨_, rfl⟩
    rw [hnv] at hv
    subst hv
    have HNV := Lib.hid hnv
    clear hA3 hof3 hcur hrg4 hnv
    by_cases hjn : j < no
    · have hjl : j < y.f.opens.length := by rw [HNO.out]; exact hjn
      obtain ⟨r, hr⟩ : ∃ r, y.f.opens[j] = r := ⟨_, rfl⟩
      have hfy := HA3.out.at_.files _ (mget_mem HY.out)
      dsimp only at hfy
      have hoy := hfy.opens
      rw [HNO.out, HVO.out] at hoy
      obtain ⟨g, c', hv2, -⟩ := own_nil hoy (by omega)
      injection hv2 with hAo _ hco
      subst hAo; subst hco
      have hrange := row_range (f := wrL) wrL_len hoy HNO.out hjn
      rw [hr] at hrange
      have HRANGE := Lib.hid (show wr.rangeAt g (j * 258) (wrC r).toList from hrange)
      have HBOX := Lib.hid (Go.heap_alloc_new wr (.cells (wrC r) 77))
      have hnv2 : nv ≤ 4000000000 := by
        have h1 := HNV.out
        have h2 : ((ol ++ y.f.opens.take j).length) ≤ (opensD d).length := by
          have h3 := (HP.out.map (fun q : ByteArray × FileM => (q.1, q.2.f))).flatMap_right (fun q : ByteArray × FileT => q.2.opens)
          have h4 := h3.length_eq
          have h5 : (opensD d) = (es.map (fun q : ByteArray × FileM => (q.1, q.2.f))).flatMap (fun q : ByteArray × FileT => q.2.opens) := by unfold opensD; rw [HH.out.eq]; rfl
          rw [h5, h4, HOL.out, List.map_append, List.map_cons, List.flatMap_append, List.flatMap_cons, List.length_append, List.length_append, List.length_append, List.length_take, List.flatMap_map, HYF.out]
          dsimp only
          omega
        have h6 := HI.out.opens_len
        have h7 := HI.out.no
        omega
      have B1 := Lib.hid (show (nv + 1) * 272 ≤ 140737488355328 by omega)
      have B2 := Lib.hid (show nv + 1 ≤ 140737488355328 by omega)
      have HOW := Lib.hid (show wr.ownsRow (w.heap.size + 1 + 1) 77 258 (.slice Av nv cv) nv (wrsC (ol ++ y.f.opens.take j)) by have h1 := HA3.out.own; rw [HNV.out] at h1; exact h1)
      have HR := Lib.hid hr
      have HJL := Lib.hid hjl
      have gI : ((j : Int) < (no : Int)) := by omega
      clear hrange hoy hfy hr hnv2
      obtain ⟨oj, hoj⟩ : ∃ oj, j * 258 = oj := ⟨_, rfl⟩
      rw [hoj] at HRANGE
      have HOJ := Lib.hid hoj
      clear hoj
      have tok1 : True := trivial
      go_wp2_with (first
        | (have _t := tok1; refine wpList_loadW rfl 77 _ rfl g oj (by rw [← HOJ.out]; rfl) (wrC r) HRANGE.out Try.underlying77 rfl (by rw [wrC_size]; exact write_size) ?_; clear tok1 _t; have tok2 : True := trivial)
        | (have _t := tok2; refine wpList_loadW rfl 77 _ rfl wr.heap.size 0 rfl (wrC r) (range_block HBOX.out) Try.underlying77 rfl (by rw [wrC_size]; exact write_size) ?_; clear tok2 _t; have tok3 : True := trivial)
        | (have _t := tok2; refine wpList_store_new rfl 77 _ _ rfl wr (wrC ⟨0, 0, zeroP⟩) 77 (wrC r) rfl rfl rfl (by rw [wrC_size]; exact write_size) (by rw [wrC_size, wrC_size]) (wrC_all r) ?_)
        | (have _t := tok3; refine wpList_slice1 slWrite rfl 0 _ rfl rfl (wrC r) rfl (wrC_size _) (by decide) ?_)
        | (at_builtin; refine wpList_appk slWrite rfl _ _ rfl (w.heap.size + 1 + 1) (.slice Av nv cv) nv (wrsC (ol ++ y.f.opens.take j)) rfl ((HOW.out.alloc _).alloc _) (some ⟨(wr.alloc (.cells (wrC r) 77)).heap.size, 0, none⟩) 1 1 (wrL r) rfl (wrL_len _) (fresh_cells _ (wrC r) _) (wrL_one r) B1.out B2.out (by have := HA3.out.size; simp; omega) ?_; intro v5 w5 ho5 hg5 hb5 hat5; obtain ⟨A5, c5, hv5, -, -⟩ := own_shape ho5; subst hv5; have hgw : wr.grownBy w5 (Value.slice Av nv cv).ownBlock := (World.grownBy_alloc wr _ _).trans ((World.grownBy_alloc _ _ _).trans hg5); have hbx5 : w5.heap[wr.heap.size]? = some (.cells (wrC r) 77) := ((hg5.block _ (by simp; omega) (fun e => by have := (World.ownsRow.lt HOW.out _ e.symm).2; omega)).trans (first_of_two wr _ _)); have cno : w5.cell? ⟨wr.heap.size, 0, none⟩ = some (.int .i64 r.no) := cell_of (j := 0) hbx5 (wrC_at r).1; have hO5 : IMap w5 w.heap.size oe2 := IMap.fr HA3.out.ofm (Fr.grown (F := (Value.slice Av nv cv).ownBlock.toList) hgw (fun k hk _ => by rw [hk]; simp)) (fun hi => by have := (World.ownsRow.lt HOW.out _ (by simpa using hi)).1; omega); have HG5 := Lib.hid hgw; have HO5 := Lib.hid ho5; have HAT5 := Lib.hid hat5; have HM5 := Lib.hid hO5; clear hgw ho5 hat5 hO5 hg5 hb5 hbx5)
        | (at_mapUpdate; refine wpList_iupd _ rfl _ _ _ 67 rfl 3 68 Try.underlying67 Try.underlying3 w.heap.size oe2 rfl HM5.out (r.no : Int) (encP y.bl) rfl rfl ?_; intro w6 hm6 hg6))
      have e1 : y.f.opens.take (j + 1) = y.f.opens.take j ++ [r] := by rw [← HR.out, List.take_append_getElem]
      have hfx : y.f.opens = x.f.opens := by rw [HYF.out]
      have hrx : r ∈ x.f.opens := by rw [← hfx, ← HR.out]; exact List.getElem_mem _
      go_roundw
      case measure => simp [intOf]; omega
      case rel =>
       refine ⟨j + 1, imset oe2 (r.no : Int) (encP y.bl), hjn, by go_num, ?_, ?_, ?_, push_range HA3.out HOO.out (Nat.lt_succ_self _) (Nat.lt_succ_self _) HG5.out hg6 HRG4.out⟩
       · rw [e1, ← List.append_assoc]
         exact HA3.out.push HOO.out (Nat.lt_succ_self _) (Nat.lt_succ_self _) HSZ.out HG5.out (by rw [HNV.out]; exact HO5.out) ((OwnNext.refl _ _).step HAT5.out (by simp; omega)) hm6 hg6
       · intro e he r2 hr2
         rw [imget_mset_other _ _ (fun h => HAP.out e he r2 hr2 r hrx (by omega))]
         exact HOF3.out e he r2 hr2
       · intro r2 hr2
         rw [e1] at hr2
         by_cases hq : (r2.no : Int) = (r.no : Int)
         · rw [hq, imget_mset_same]
         · rw [imget_mset_other _ _ hq]
           rcases List.mem_append.1 hr2 with h2 | h2
           · exact HCUR.out r2 h2
           · simp at h2; exact absurd (by rw [h2]) hq
    · have hje : j = no := by omega
      subst hje
      have gI : ¬ ((j : Int) < (j : Int)) := by omega
      have htk : y.f.opens.take j = y.f.opens := by rw [← HNO.out]; exact List.take_length
      have h1 := HA3.out
      rw [htk] at h1
      have h2 := HCUR.out
      rw [htk] at h2
      have HX := Lib.hid (And.intro h1 h2)
      clear htk h1 h2
      go_wp2_with fail
      exact hexit _ _ _ _ _ _ _ _ _ _ _ _ _ oe2 wr HX.out.1 HOF3.out HX.out.2 HRG4.out
end Go.Proofs.Ytladknjmoahdoaa
