/- On: each file is settled, and its pages are counted. -/
import Derived.Test.YtladknjmoahdoaaOnC
set_option linter.all false
namespace Go.Proofs.Ytladknjmoahdoaa
open Go.RowKit

set_option maxRecDepth 1000000 in
set_option maxHeartbeats 16000000 in
theorem on_last (p m R : Nat) (sb : Option Nat) (es2 : List (ByteArray × FileM)) (d2 : DiskT) (w5 : World) (Q0 : Exit → Act → World → Prop)
    (HD : Hid (DiskAt w5 p m sb es2 { d2 with used := 0 })) (HE2 : Hid (d2.files = menc FileM.f es2)) (HLN : Hid (sumN d2.files ≤ 100000)) (HR : Hid (R < w5.heap.size)) (HE : Hid (∀ i ∈ fpD p m sb es2, i ≠ R)) (HRG : Hid (SRange w5 m R (menc encP (menc FileM.bl es2)) (menc encP (menc FileM.bl es2))))
    (s1 s2 s3 s4 s5 s6 s7 s8 s9 s10 s11 s12 s13 s14 s15 s16 s17 s18 s19 s20 s21 s22 s23 s24 s25 s26 s27 s28 s29 s30 s31 s32 s33 s34 s35 s36 s37 s38 s39 s40 s41 s42 s43 s44 s45 s46 s47 s48 s49 s50 s51 s52 s53 s54 s55 s56 s57 s58 s59 s60 s61 s62 s63 s64 s65 s66 s67 s68 s69 s70 s71 s72 s73 s74 s75 s76 s77 s78 s79 s80 s81 s82 s83 s84 s85 s86 s87 s88 s89 s90 s91 s92 s93 s94 s95 s96 s97 s98 s99 s100 s102 s103 s104 s105 s106 s107 s108 s109 s110 s111 s112 s113 s114 s115 s116 s117 s118 s119 s120 s121 s122 s123 s124 s125 s126 s127 s128 s129 s130 s131 s132 s133 : Value)
    (hexit : ∀ (u11 u104 u105 u106 u107 u108 u109 u110 u111 u112 u113 u114 u115 u116 u117 u118 u119 u120 u121 u122 u123 u124 u125 u126 u127 : Value) (dn es3 : List (ByteArray × FileM)) (d3 : DiskT) (wr : World), es2.Perm dn → OnC w5 p m R sb es2 d2 dn es3 d3 wr → Q0 (.exit 6) ⟨List.toArray ((.pointer (some ⟨p, 0, none⟩)) :: s1 :: s2 :: s3 :: s4 :: s5 :: s6 :: s7 :: s8 :: s9 :: s10 :: u11 :: s12 :: s13 :: s14 :: s15 :: s16 :: s17 :: s18 :: s19 :: s20 :: s21 :: s22 :: s23 :: s24 :: s25 :: s26 :: s27 :: s28 :: s29 :: s30 :: s31 :: s32 :: s33 :: s34 :: s35 :: s36 :: s37 :: s38 :: s39 :: s40 :: s41 :: s42 :: s43 :: s44 :: s45 :: s46 :: s47 :: s48 :: s49 :: s50 :: s51 :: s52 :: s53 :: s54 :: s55 :: s56 :: s57 :: s58 :: s59 :: s60 :: s61 :: s62 :: s63 :: s64 :: s65 :: s66 :: s67 :: s68 :: s69 :: s70 :: s71 :: s72 :: s73 :: s74 :: s75 :: s76 :: s77 :: s78 :: s79 :: s80 :: s81 :: s82 :: s83 :: s84 :: s85 :: s86 :: s87 :: s88 :: s89 :: s90 :: s91 :: s92 :: s93 :: s94 :: s95 :: s96 :: s97 :: s98 :: s99 :: s100 :: (.pointer (some ⟨R, 0, none⟩)) :: (.tuple #[.bool false]) :: (.bool false) :: u104 :: u105 :: u106 :: u107 :: u108 :: u109 :: u110 :: u111 :: u112 :: u113 :: u114 :: u115 :: u116 :: u117 :: u118 :: u119 :: u120 :: u121 :: u122 :: u123 :: u124 :: u125 :: u126 :: u127 :: s128 :: s129 :: s130 :: s131 :: s132 :: s133 :: []), []⟩ wr) :
    Code.wp Try.prog (Code.loop (onLoop 2)) Q0 ⟨List.toArray ((.pointer (some ⟨p, 0, none⟩)) :: s1 :: s2 :: s3 :: s4 :: s5 :: s6 :: s7 :: s8 :: s9 :: s10 :: s11 :: s12 :: s13 :: s14 :: s15 :: s16 :: s17 :: s18 :: s19 :: s20 :: s21 :: s22 :: s23 :: s24 :: s25 :: s26 :: s27 :: s28 :: s29 :: s30 :: s31 :: s32 :: s33 :: s34 :: s35 :: s36 :: s37 :: s38 :: s39 :: s40 :: s41 :: s42 :: s43 :: s44 :: s45 :: s46 :: s47 :: s48 :: s49 :: s50 :: s51 :: s52 :: s53 :: s54 :: s55 :: s56 :: s57 :: s58 :: s59 :: s60 :: s61 :: s62 :: s63 :: s64 :: s65 :: s66 :: s67 :: s68 :: s69 :: s70 :: s71 :: s72 :: s73 :: s74 :: s75 :: s76 :: s77 :: s78 :: s79 :: s80 :: s81 :: s82 :: s83 :: s84 :: s85 :: s86 :: s87 :: s88 :: s89 :: s90 :: s91 :: s92 :: s93 :: s94 :: s95 :: s96 :: s97 :: s98 :: s99 :: s100 :: (.pointer (some ⟨R, 0, none⟩)) :: s102 :: s103 :: s104 :: s105 :: s106 :: s107 :: s108 :: s109 :: s110 :: s111 :: s112 :: s113 :: s114 :: s115 :: s116 :: s117 :: s118 :: s119 :: s120 :: s121 :: s122 :: s123 :: s124 :: s125 :: s126 :: s127 :: s128 :: s129 :: s130 :: s131 :: s132 :: s133 :: []), []⟩ w5 := by
  conv => arg 2; arg 1; whnf
  go_loopg [11] es2.length (fun k n wr => ∃ (dn td es3 : List (ByteArray × FileM)) (d3 : DiskT), k = td.length ∧ es2.Perm (dn ++ td) ∧ SRange wr m R (menc encP (menc FileM.bl es2)) (menc encP (menc FileM.bl td)) ∧ OnC w5 p m R sb es2 d2 dn es3 d3 wr)
  case atStart =>
    exact ⟨[], es2, es2, _, rfl, by simp, HRG.out, OnC.start HD.out⟩
  case round =>
    obtain ⟨dn, td, es3, d3, hk, hperm, hrg, hA⟩ := hrel
    have HKM := Lib.hid hk
    have HP := Lib.hid hperm
    have HRG2 := Lib.hid hrg
    have HA := Lib.hid hA
    clear hk hperm hrg hA
    go_wp2_with (at_next; refine wpList_snext _ encP encP_inj rfl _ rfl m R _ (menc FileM.bl td) rfl HRG2.out ?_ ?_)
    · intro htd
      go_wp2_with fail
      have htd2 : td = [] := by
        cases td with
        | nil => rfl
        | cons a r => cases htd
      subst htd2
      have hpp := HP.out
      rw [List.append_nil] at hpp
      exact hexit _ _ _ _ _ _ _ _ _ _ _ _ _ _ _ _ _ _ _ _ _ _ _ _ _ dn es3 d3 wr hpp HA.out
    · intro key b td' w2 hp hrg2 hg2 hsz2 hen
      obtain ⟨x, tx, hpx, hxb, htx⟩ := next_file hp
      subst hxb htx
      have hpx2 := HP.out.trans (hpx.append_left dn)
      have hnd2 : (es2.map Prod.fst).Nodup := by have := HD.out.map.nodup; rwa [menc_keys] at this
      have hkn : key ∉ dn.map Prod.fst := fun hi => by
        have h1 := (hpx2.map Prod.fst).nodup_iff.1 hnd2
        rw [List.map_append, List.map_cons, List.nodup_append] at h1
        exact h1.2.2 key hi key (List.mem_cons_self ..) rfl
      have hxe : (key, x) ∈ es2 := hpx2.mem_iff.2 (List.mem_append_right _ (List.mem_cons_self ..))
      have hf2 : Fr [R] wr w2 := Fr.grown hg2 fun k hk _ => by injection hk with hk; simp [hk]
      have hA2 := HA.out.next HR.out HE.out hf2 (fun i hi => by simpa using hi)
      have hgx : mget es2 key = some x := mget_of_mem hnd2 hxe
      obtain ⟨y, hy, hyb, hyf⟩ := HA.out.file HE2.out hgx hkn
      rw [← hyb] at hen
      have hen' : (Instr.entry (.pointer (some ⟨R, 0, none⟩))).run Try.prog w2 = .ok (.tuple #[.string key, .pointer (some ⟨y.bl, 0, none⟩)]) w2 := hen
      have hfy := hA2.at_.files _ (mget_mem hy)
      dsimp only at hfy
      have hle : d3.used + y.f.now.length ≤ 100000 := by
        have h1 := hA2.eq
        have h3 : d3.used = sumN (menc FileM.f dn) := by rw [h1]
        have h4 := HLN.out
        have h5 : sumN (menc FileM.f es2) = sumN (menc FileM.f (dn ++ (key, x) :: tx)) := sumN_perm (hpx2.map _)
        rw [HE2.out, h5] at h4
        rw [h3, hyf]
        simp [sumN, menc] at h4 ⊢
        omega
      have hC := clone_pages y.f.now y.vn w2 (by omega) hfy.now hfy.zn
      obtain ⟨Ac0, cc0, hvn, -, -⟩ := own_shape hfy.now
      obtain ⟨n, hn⟩ : ∃ n, y.f.now.length = n := ⟨_, rfl⟩
      obtain ⟨f0, -, -⟩ := hfy.cell
      rw [hn] at hvn hle
      rw [hvn] at f0
      have HC := Lib.hid hC
      have HY := Lib.hid hy
      have HYB := Lib.hid hyb
      have HYF := Lib.hid hyf
      have HA2 := Lib.hid hA2
      have HRG3 := Lib.hid hrg2
      have HPX := Lib.hid hpx
      have HGX := Lib.hid hgx
      have HFY := Lib.hid hfy
      have HVN := Lib.hid hvn
      have HN := Lib.hid hn
      have HF2 := Lib.hid hf2
      clear hen hp hrg2 hg2 hsz2 hpx hpx2 hkn hxe hf2 hA2 hgx hy hyb hyf hfy hC hvn hn hnd2 HRG2 HA
      have hc1 := HC.out
      rw [HVN.out] at hc1
      have HC1 := Lib.hid hc1
      clear hc1
      go_wp2_with fail
      refine HC1.out.mono ?_
      rintro e wc ⟨vc, rfl, hP⟩
      obtain ⟨Ac, cc, hvc, -, -⟩ := own_shape hP.own
      subst hvc
      have hfw := HFY.out.fr (Fr.below (F := []) hP.below) (by simp)
      obtain ⟨k0, k1, k2⟩ := hfw.cell
      have z1 := hfw.free 1
      have hA4 := HA2.out.step HE2.out HGX.out HY.out HYF.out hP
      have hdw := HA2.out.at_.below hP.below
      obtain ⟨-, -, q2, -⟩ := hdw.cell
      have zp := hdw.free 2
      have hpy : p ≠ y.bl := HA2.out.at_.p_ne.2.2 _ (mget_mem HY.out) y.bl (FileM.mem_fp.2 (.inl rfl))
      have hmy : m ≠ y.bl := HA2.out.at_.m_ne.2 _ (mget_mem HY.out) y.bl (FileM.mem_fp.2 (.inl rfl))
      have hRy : y.bl ≠ R := HA2.out.far HR.out HE.out y.bl (mem_file (mget_mem HY.out) (FileM.mem_fp.2 (.inl rfl)))
      have hRp : p ≠ R := HE.out p mem_p
      have hRm : p ≠ m := HA2.out.at_.p_ne.1
      have hf5 : Fr [y.bl, p] w2 ((wc.setCell ⟨y.bl, 1, none⟩ (.slice Ac y.f.now.length cc)).setCell ⟨p, 2, none⟩ (.int .i64 ((d3.used + y.f.now.length : Nat) : Int))) := (((Fr.below hP.below).put y.bl 1 _ (.inl (by simp))).put p 2 _ (.inl (by simp)))
      have hrg5 : SRange ((wc.setCell ⟨y.bl, 1, none⟩ (.slice Ac y.f.now.length cc)).setCell ⟨p, 2, none⟩ (.int .i64 ((d3.used + y.f.now.length : Nat) : Int))) m R (menc encP (menc FileM.bl es2)) (menc encP (menc FileM.bl tx)) := by
        refine HRG3.out.kept (hf5.block m HRG3.out.map.lt fun hi => ?_) (hf5.block _ HRG3.out.lt fun hi => ?_)
        · simp at hi; omega
        · simp at hi; omega
      rw [HN.out] at hA4 hrg5 hP ⊢
      rw [Int.natCast_add] at hA4 hrg5
      have q2' : (wc.setCell ⟨y.bl, 1, none⟩ (.slice Ac n cc)).cell? ⟨p, 2, none⟩ = some (.int .i64 d3.used) := cell_put q2 (.inl hpy)
      have k0' : (wc.setCell ⟨y.bl, 1, none⟩ (.slice Ac n cc)).cell? ⟨y.bl, 0, none⟩ = some (.slice Ac0 n cc0) := cell_put (by rw [← HVN.out]; exact k0) (.inr Nat.zero_ne_one)
      have z1' : (wc.setCell ⟨y.bl, 1, none⟩ (.slice Ac n cc)).frozen? ⟨p, 2, none⟩ = false := free_of (((Fr.refl [y.bl] wc).put y.bl 1 (.slice Ac n cc) (.inl (by simp))).kept (by simpa using hpy) hdw.blk) 2
      have HA4 := Lib.hid (hA4.next HR.out HE.out ((Fr.refl [] _).drew) (fun i hi => by cases hi))
      have HRG5 := Lib.hid (show SRange ((wc.setCell ⟨y.bl, 1, none⟩ (.slice Ac n cc)).setCell ⟨p, 2, none⟩ (.int .i64 ((d3.used : Int) + n))).drew m R (menc encP (menc FileM.bl es2)) (menc encP (menc FileM.bl tx)) from hrg5.kept rfl rfl)
      have hw : IntKind.i64.wrap ((d3.used : Int) + n) = (d3.used : Int) + n := IntWalk.i64_in _ (by omega)
      clear hA4 hrg5 hP hfw hdw hf5 k0 k2 q2 f0 zp
      go_wp2_with fail
      go_region
      all_goals
        go_wp2_with fail
        go_roundg tx.length
        case measure => rw [HKM.out, HPX.out.length_eq]; exact Nat.lt_succ_self _
        case rel =>
          refine ⟨dn ++ [(key, x)], tx, _, _, rfl, ?_, HRG5.out, HA4.out⟩
          rw [List.append_assoc]; exact HP.out.trans (HPX.out.append_left dn)
end Go.Proofs.Ytladknjmoahdoaa
