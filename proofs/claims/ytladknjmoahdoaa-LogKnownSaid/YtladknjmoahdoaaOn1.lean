/- On: the walk through all files: what is settled is what they hold, and the open writes are gathered. -/
import Derived.Test.YtladknjmoahdoaaOn2
set_option linter.all false
namespace Go.Proofs.Ytladknjmoahdoaa
open Go.RowKit

set_option maxRecDepth 1000000 in
set_option maxHeartbeats 16000000 in
theorem on_first (p m : Nat) (sb : Option Nat) (es : List (ByteArray × FileM)) (d : DiskT) (w w1 : World) (Q0 : Exit → Act → World → Prop)
    (HH : Hid (DiskAt w p m sb es d)) (HI : Hid (Inv d)) (hst : d.steps ≤ 4000000000) (HSZ : Hid (w1.heap.size = w.heap.size + 1 + 1)) (HOO : Hid (∀ i ∈ fpD p m sb es, i < w.heap.size))
    (HA0 : Hid (OnA w1 p m sb es w.heap.size (w.heap.size + 1) (w.heap.size + 1 + 1) (.slice none 0 0) [] [] es d w1)) (HRG : Hid (SRange w1 m (w.heap.size + 1) (menc encP (menc FileM.bl es)) (menc encP (menc FileM.bl es))))
    (s1 s4 s5 s6 s7 s8 s9 s10 s11 s12 s13 s14 s15 s16 s17 s18 s19 s20 s21 s22 s23 s24 s25 s27 s28 s29 s30 s31 s32 s33 s34 s35 s36 s37 s38 s39 s40 s41 s42 s43 s44 s45 s46 s47 s48 s49 s50 s51 s52 s53 s54 s55 s56 s57 s58 s59 s60 s61 s62 s63 s64 s65 s66 s67 s68 s69 s70 s71 s72 s73 s74 s75 s76 s77 s78 s79 s80 s81 s82 s83 s84 s85 s86 s87 s88 s89 s90 s91 s92 s93 s94 s95 s96 s97 s98 s99 s100 s101 s102 s103 s104 s105 s106 s107 s108 s109 s110 s111 s112 s113 s114 s115 s116 s117 s118 s119 s120 s121 s122 s123 s124 s125 s126 s127 s128 s129 s130 s131 s132 s133 : Value)
    (hexit : ∀ (u5 u7 u29 u30 u31 u32 u33 u34 u35 u36 u37 u38 u39 u40 u41 u42 u43 u44 u45 u46 u47 u48 u49 u50 u51 u52 u53 u54 u55 u56 u57 u58 u59 u60 v' : Value) (dn es1 : List (ByteArray × FileM)) (oe2 : List (Int × Value)) (d1 : DiskT) (wr : World), es.Perm dn → OnA w1 p m sb es w.heap.size (w.heap.size + 1) (w.heap.size + 1 + 1) v' (dn.flatMap (fun e => e.2.f.opens)) oe2 es1 d1 wr → OfP oe2 dn → Part d (dn.map Prod.fst) d1 → Q0 (.exit 0) ⟨List.toArray ((.pointer (some ⟨p, 0, none⟩)) :: s1 :: v' :: (.map (some w.heap.size)) :: s4 :: u5 :: s6 :: u7 :: s8 :: s9 :: s10 :: s11 :: s12 :: s13 :: s14 :: s15 :: s16 :: s17 :: s18 :: s19 :: s20 :: s21 :: s22 :: s23 :: s24 :: s25 :: (.pointer (some ⟨w.heap.size + 1, 0, none⟩)) :: (.tuple #[.bool false]) :: (.bool false) :: u29 :: u30 :: u31 :: u32 :: u33 :: u34 :: u35 :: u36 :: u37 :: u38 :: u39 :: u40 :: u41 :: u42 :: u43 :: u44 :: u45 :: u46 :: u47 :: u48 :: u49 :: u50 :: u51 :: u52 :: u53 :: u54 :: u55 :: u56 :: u57 :: u58 :: u59 :: u60 :: s61 :: s62 :: s63 :: s64 :: s65 :: s66 :: s67 :: s68 :: s69 :: s70 :: s71 :: s72 :: s73 :: s74 :: s75 :: s76 :: s77 :: s78 :: s79 :: s80 :: s81 :: s82 :: s83 :: s84 :: s85 :: s86 :: s87 :: s88 :: s89 :: s90 :: s91 :: s92 :: s93 :: s94 :: s95 :: s96 :: s97 :: s98 :: s99 :: s100 :: s101 :: s102 :: s103 :: s104 :: s105 :: s106 :: s107 :: s108 :: s109 :: s110 :: s111 :: s112 :: s113 :: s114 :: s115 :: s116 :: s117 :: s118 :: s119 :: s120 :: s121 :: s122 :: s123 :: s124 :: s125 :: s126 :: s127 :: s128 :: s129 :: s130 :: s131 :: s132 :: s133 :: []), []⟩ wr) :
    Code.wp Try.prog (Code.loop (onLoop 0)) Q0 ⟨List.toArray ((.pointer (some ⟨p, 0, none⟩)) :: s1 :: (.slice none 0 0) :: (.map (some w.heap.size)) :: s4 :: s5 :: s6 :: s7 :: s8 :: s9 :: s10 :: s11 :: s12 :: s13 :: s14 :: s15 :: s16 :: s17 :: s18 :: s19 :: s20 :: s21 :: s22 :: s23 :: s24 :: s25 :: (.pointer (some ⟨w.heap.size + 1, 0, none⟩)) :: s27 :: s28 :: s29 :: s30 :: s31 :: s32 :: s33 :: s34 :: s35 :: s36 :: s37 :: s38 :: s39 :: s40 :: s41 :: s42 :: s43 :: s44 :: s45 :: s46 :: s47 :: s48 :: s49 :: s50 :: s51 :: s52 :: s53 :: s54 :: s55 :: s56 :: s57 :: s58 :: s59 :: s60 :: s61 :: s62 :: s63 :: s64 :: s65 :: s66 :: s67 :: s68 :: s69 :: s70 :: s71 :: s72 :: s73 :: s74 :: s75 :: s76 :: s77 :: s78 :: s79 :: s80 :: s81 :: s82 :: s83 :: s84 :: s85 :: s86 :: s87 :: s88 :: s89 :: s90 :: s91 :: s92 :: s93 :: s94 :: s95 :: s96 :: s97 :: s98 :: s99 :: s100 :: s101 :: s102 :: s103 :: s104 :: s105 :: s106 :: s107 :: s108 :: s109 :: s110 :: s111 :: s112 :: s113 :: s114 :: s115 :: s116 :: s117 :: s118 :: s119 :: s120 :: s121 :: s122 :: s123 :: s124 :: s125 :: s126 :: s127 :: s128 :: s129 :: s130 :: s131 :: s132 :: s133 :: []), []⟩ w1 := by
  have hmm := @run_makeMap Try.prog
  have hzw := zero_write
  conv => arg 2; arg 1; whnf
  go_loopg [2] es.length (fun k n wr => ∃ (dn td : List (ByteArray × FileM)) (ol : List WrT) (oe : List (Int × Value)) (es1 : List (ByteArray × FileM)) (d1 : DiskT), k = td.length ∧ es.Perm (dn ++ td) ∧ SRange wr m (w.heap.size + 1) (menc encP (menc FileM.bl es)) (menc encP (menc FileM.bl td)) ∧ OnA w1 p m sb es w.heap.size (w.heap.size + 1) (w.heap.size + 1 + 1) n ol oe es1 d1 wr ∧ Part d (dn.map Prod.fst) d1 ∧ ol = dn.flatMap (fun e => e.2.f.opens) ∧ OfP oe dn)
  case atStart =>
    exact ⟨[], es, [], [], es, d, rfl, by simp, HRG.out, HA0.out, Part.start d, rfl, fun e he => absurd he (by simp)⟩
  case round =>
    obtain ⟨dn, td, ol, oe, es1, d1, hk, hperm, hrg, hA, hpart, hol, hof⟩ := hrel
    have HKM := Lib.hid hk
    have HP := Lib.hid hperm
    have HRG2 := Lib.hid hrg
    have HA := Lib.hid hA
    have HPT := Lib.hid hpart
    have HOL := Lib.hid hol
    have HOF := Lib.hid hof
    clear hk hperm hrg hA hpart hol hof
    go_wp2_with (at_next; refine wpList_snext _ encP encP_inj rfl _ rfl m (w.heap.size + 1) _ (menc FileM.bl td) rfl HRG2.out ?_ ?_)
    · intro htd
      go_wp2_with fail
      have htd2 : td = [] := by
        cases td with
        | nil => rfl
        | cons a r => cases htd
      subst htd2
      have hpp := HP.out
      rw [List.append_nil] at hpp
      exact hexit _ _ _ _ _ _ _ _ _ _ _ _ _ _ _ _ _ _ _ _ _ _ _ _ _ _ _ _ _ _ _ _ _ _ _ dn es1 oe d1 wr hpp (by rw [← HOL.out]; exact HA.out) HOF.out HPT.out
    · intro key b td' w2 hp hrg2 hg2 hsz2 hen
      obtain ⟨x, tx, hpx, hxb, htx⟩ := next_file hp
      subst hxb htx
      have hpx2 := HP.out.trans (hpx.append_left dn)
      obtain ⟨hap, hkn⟩ := apart_files HI.out HH.out.eq hpx2
      have hxe : (key, x) ∈ es := hpx2.mem_iff.2 (List.mem_append_right _ (List.mem_cons_self ..))
      have hf2 : Fr [w.heap.size + 1] wr w2 := Fr.grown hg2 fun k hk _ => by injection hk with hk; simp [hk]
      have hA2 := HA.out.keep hf2 (fun i hi => by simpa using hi) HOO.out (Nat.lt_succ_self _) (Nat.lt_succ_self _)
      have hgx : mget es key = some x := mget_of_mem (by have := HH.out.map.nodup; rwa [menc_keys] at this) hxe
      have hgd : mget d.files key = some x.f := by rw [HH.out.get, hgx]; rfl
      have hy : ∃ y, mget es1 key = some y ∧ y.bl = x.bl ∧ y.f = x.f := by
        have e1 := congrArg (fun l => mget l key) HA.out.bls
        simp only [mget_menc, hgx] at e1
        cases hg : mget es1 key with
        | none => rw [hg] at e1; cases e1
        | some y =>
          rw [hg] at e1
          have e2 := HPT.out.out key hkn
          rw [HA.out.at_.get, hg, hgd] at e2
          exact ⟨y, rfl, by simpa using e1, by simpa using e2⟩
      obtain ⟨y, hy, hyb, hyf⟩ := hy
      rw [← hyb] at hen
      have hen' : (Instr.entry (.pointer (some ⟨w.heap.size + 1, 0, none⟩))).run Try.prog w2 = .ok (.tuple #[.string key, .pointer (some ⟨y.bl, 0, none⟩)]) w2 := hen
      have hfy := hA2.at_.files _ (mget_mem hy)
      dsimp only at hfy
      have HY := Lib.hid hy
      have HYB := Lib.hid hyb
      have HYF := Lib.hid hyf
      have HA2 := Lib.hid hA2
      have HRG3 := Lib.hid hrg2
      have HPX := Lib.hid hpx
      have HAP := Lib.hid hap
      have HGD := Lib.hid hgd
      have HKN := Lib.hid hkn
      have HFY := Lib.hid hfy
      obtain ⟨Ao, co, hvo, -, -⟩ := own_shape hfy.opens
      obtain ⟨no, hno⟩ : ∃ no, y.f.opens.length = no := ⟨_, rfl⟩
      obtain ⟨-, -, f2⟩ := hfy.cell
      rw [hno] at hvo
      rw [hvo] at f2
      have HVO := Lib.hid hvo
      have HNO := Lib.hid hno
      clear hen hp hrg2 hg2 hsz2 hpx hpx2 hap hkn hxe hf2 hA2 hgx hgd hy hyb hyf hfy hvo hno HRG2 HA
      go_wp2_with fail
      have hnb : no ≤ 4000000000 := by
        have h2 : x.f.opens.length = no := by rw [← HYF.out]; exact HNO.out
        have h4 := HI.out.no
        have h5 := HI.out.file_opens HGD.out
        omega
      refine on_inner p m sb es es1 dn tx d d1 w w1 w2 key x y ol oe Ao no co _ _ HH HI hst HSZ HOO (Lib.hid (HP.out.trans (HPX.out.append_left dn))) HOL HOF HA2 HRG3 HY HYF HAP HVO HNO hnb _ _ _ _ _ _ _ _ _ _ _ _ _ _ _ _ _ _ _ _ _ _ _ _ _ _ _ _ _ _ _ _ _ _ _ _ _ _ _ _ _ _ _ _ _ _ _ _ _ _ _ _ _ _ _ _ _ _ _ _ _ _ _ _ _ _ _ _ _ _ _ _ _ _ _ _ _ _ _ _ _ _ _ _ _ _ _ _ _ _ _ _ _ _ _ _ _ _ _ _ _ _ _ _ _ _ _ _ _ _ _ _ _ _ _ _ _ _ _ _ _ _ _ _ _ _ _ _ ?_
      intro u7 u38 u39 u40 u41 u42 u43 u44 u45 u46 u47 u48 v' oe2 wr hA3 hof3 hcur hrg4
      have HA3 := Lib.hid hA3
      have HOF3 := Lib.hid hof3
      have HCUR := Lib.hid hcur
      have HRG4 := Lib.hid hrg4
      clear hA3 hof3 hcur hrg4 hnb
      have hfy := HA3.out.at_.files _ (mget_mem HY.out)
      dsimp only at hfy
      have hn1 := HI.out.settled_le HGD.out
      have hn2 := HI.out.within
      have hn3 := HI.out.quota
      have hC := clone_pages y.f.settled y.vs wr (by rw [HYF.out]; omega) hfy.settled hfy.zs
      have HC := Lib.hid hC
      have HFY3 := Lib.hid hfy
      obtain ⟨-, f1, -⟩ := hfy.cell
      clear hn1 hn2 hn3 hC hfy
      go_wp2_with fail
      refine HC.out.mono ?_
      rintro e wc ⟨vc, rfl, hP⟩
      obtain ⟨Ac, cc, hvc, -, -⟩ := own_shape hP.own
      subst hvc
      have hfw := HFY3.out.fr (Fr.below (F := []) hP.below) (by simp)
      obtain ⟨k0, k1, k2⟩ := hfw.cell
      have z0 := hfw.free 0
      have z2 := hfw.free 2
      have hA4 := HA3.out.reset HOO.out (Nat.lt_succ_self _) (Nat.lt_succ_self _) HSZ.out HY.out hP
      have hrg5 : SRange ((wc.setCell ⟨y.bl, 0, none⟩ (.slice Ac y.f.settled.length cc)).setCell ⟨y.bl, 2, none⟩ (.slice none 0 0)) m (w.heap.size + 1) (menc encP (menc FileM.bl es)) (menc encP (menc FileM.bl tx)) := by
        have hf : Fr [y.bl] wr ((wc.setCell ⟨y.bl, 0, none⟩ (.slice Ac y.f.settled.length cc)).setCell ⟨y.bl, 2, none⟩ (.slice none 0 0)) := (((Fr.below hP.below).put y.bl 0 _ (.inl (by simp))).put y.bl 2 _ (.inl (by simp)))
        have hyb := HA3.out.far HOO.out (Nat.lt_succ_self _) (Nat.lt_succ_self _) y.bl (mem_file (mget_mem HY.out) (FileM.mem_fp.2 (.inl rfl)))
        refine HRG4.out.kept (hf.block m HRG4.out.map.lt fun hi => ?_) (hf.block _ HRG4.out.lt fun hi => ?_)
        · exact HA3.out.at_.m_ne.2 _ (mget_mem HY.out) m (by rw [List.mem_singleton.1 hi]; exact FileM.mem_fp.2 (.inl rfl)) rfl
        · exact hyb.2 (List.mem_singleton.1 hi).symm
      have HA4 := Lib.hid hA4
      have HRG5 := Lib.hid hrg5
      clear hA4 hrg5 hP hfw
      go_wp2_with fail
      go_roundg tx.length
      case measure => rw [HKM.out, HPX.out.length_eq]; exact Nat.lt_succ_self _
      case rel =>
        refine ⟨dn ++ [(key, x)], tx, ol ++ y.f.opens, oe2, mset es1 key ⟨y.bl, .slice Ac y.f.settled.length cc, y.vs, .slice none 0 0, resetF y.f⟩, { d1 with files := mset d1.files key (resetF y.f) }, rfl, ?_, HRG5.out, ?_, ?_, ?_, ?_⟩
        · rw [List.append_assoc]; exact HP.out.trans (HPX.out.append_left dn)
        · exact HA4.out
        · rw [HYF.out, List.map_append]
          exact HPT.out.step HGD.out
        · rw [HOL.out, List.flatMap_append, HYF.out]; simp
        · intro e he r2 hr2
          rcases List.mem_append.1 he with h1 | h1
          · exact HOF3.out e h1 r2 hr2
          · simp at h1
            subst h1
            have h2 := HCUR.out r2 (by rw [HYF.out]; exact hr2)
            rw [h2, HYB.out]
end Go.Proofs.Ytladknjmoahdoaa
