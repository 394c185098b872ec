/- On: the open writes that stay are laid. -/
import Derived.Test.YtladknjmoahdoaaOnP
import Derived.Laws.Bits64b
set_option linter.all false
namespace Go.Proofs.Ytladknjmoahdoaa
open Go.RowKit

theorem bit_is {kp : Nat} (j : Nat) (hk : kp < 18446744073709551616) : (bits BinOp.and IntKind.u64 ((kp : Int) / 2 ^ (j % 64)) 1 == 1) = bitB kp j := by
  have e : ((kp : Int) / 2 ^ (j % 64)) = ((kp / 2 ^ (j % 64) : Nat) : Int) := by simp
  have h := bits_and_u64_nat (kp / 2 ^ (j % 64)) 1 (by have := Nat.div_le_self kp (2 ^ (j % 64)); omega) (by decide)
  have h' : bits BinOp.and IntKind.u64 ((kp / 2 ^ (j % 64) : Nat) : Int) 1 = (((kp / 2 ^ (j % 64)) &&& 1 : Nat) : Int) := h
  rw [e, h', Nat.and_one_is_mod]
  unfold bitB
  rw [Nat.shiftRight_eq_div_pow]
  by_cases hq : kp / 2 ^ (j % 64) % 2 = 1
  · rw [hq]; rfl
  · have h0 : kp / 2 ^ (j % 64) % 2 = 0 := by omega
    rw [h0]; rfl
/-- Whose each open write is. -/
def OfW (d : DiskT) (es : List (ByteArray × FileM)) (ls : List WrT) (oe : List (Int × Value)) : Prop :=
  ∀ r ∈ ls, ∃ k f x0, mget d.files k = some f ∧ r ∈ f.opens ∧ mget es k = some x0 ∧ imget oe (r.no : Int) = some (encP x0.bl)
set_option maxRecDepth 1000000 in
set_option maxHeartbeats 16000000 in
theorem on_second (p m b i0 kp O N nv cv : Nat) (Av : Option Addr) (es es1 : List (ByteArray × FileM)) (d : DiskT) (ls : List WrT) (oe : List (Int × Value)) (w3 : World) (Q0 : Exit → Act → World → Prop)
    (HD : Hid (DiskAt w3 p m (some b) es1 { d with files := menc resetF d.files })) (HI : Hid (Inv d)) (HST : Hid (d.set = some (i0, kp))) (HBL : Hid (menc FileM.bl es1 = menc FileM.bl es))
    (HP : Hid (ls.Perm (opensD d))) (HS : Hid (ls.Pairwise (fun a b => a.no < b.no))) (HL : Hid (ls.length = nv)) (hnb : nv ≤ 4000000000)
    (HV : Hid (w3.ownsRow N 77 258 (.slice Av nv cv) nv (wrsC ls))) (HVA : Hid (∀ g, (Value.slice Av nv cv).ownBlock = some g → g ∉ fpD p m (some b) es1)) (HM : Hid (IMap w3 O oe)) (HO : Hid (O ∉ fpD p m (some b) es1)) (HOF : Hid (OfW d es ls oe))
    (s1 s2 s4 s5 s6 s7 s8 s9 s10 s11 s12 s13 s14 s15 s16 s17 s18 s19 s20 s21 s22 s23 s24 s25 s26 s27 s28 s29 s30 s31 s32 s33 s34 s35 s36 s37 s38 s39 s40 s41 s42 s43 s44 s45 s46 s47 s48 s49 s50 s51 s52 s53 s54 s55 s56 s57 s58 s59 s60 s61 s62 s66 s67 s68 s69 s70 s71 s72 s73 s74 s75 s76 s77 s78 s79 s80 s81 s82 s83 s84 s85 s86 s87 s88 s89 s90 s91 s92 s93 s94 s95 s96 s97 s98 s99 s100 s101 s102 s103 s104 s105 s106 s107 s108 s109 s110 s111 s112 s113 s114 s115 s116 s117 s118 s119 s120 s121 s122 s123 s124 s125 s126 s127 s128 s129 s130 s131 s132 s133 : Value)
    (hexit : ∀ (u8 u9 u67 u68 u69 u70 u71 u72 u73 u74 u75 u76 u77 u78 u79 u80 u81 u82 u83 u84 u85 u86 u87 u88 u89 u90 u91 u92 u93 : Value) (es2 : List (ByteArray × FileM)) (d2 : DiskT) (wr : World), OnB w3 p m (some b) es es1 d kp nv es2 d2 wr → Q0 (.exit 4) ⟨List.toArray ((.pointer (some ⟨p, 0, none⟩)) :: s1 :: s2 :: (.map (some O)) :: s4 :: s5 :: s6 :: s7 :: u8 :: u9 :: s10 :: s11 :: s12 :: s13 :: s14 :: s15 :: s16 :: s17 :: s18 :: s19 :: s20 :: s21 :: s22 :: s23 :: s24 :: s25 :: s26 :: s27 :: s28 :: s29 :: s30 :: s31 :: s32 :: s33 :: s34 :: s35 :: s36 :: s37 :: s38 :: s39 :: s40 :: s41 :: s42 :: s43 :: s44 :: s45 :: s46 :: s47 :: s48 :: s49 :: s50 :: s51 :: s52 :: s53 :: s54 :: s55 :: s56 :: s57 :: s58 :: s59 :: s60 :: s61 :: s62 :: (.slice Av nv cv) :: (.int .i64 (nv : Int)) :: (.int .i64 (nv : Int)) :: (.bool false) :: u67 :: u68 :: u69 :: u70 :: u71 :: u72 :: u73 :: u74 :: u75 :: u76 :: u77 :: u78 :: u79 :: u80 :: u81 :: u82 :: u83 :: u84 :: u85 :: u86 :: u87 :: u88 :: u89 :: u90 :: u91 :: u92 :: u93 :: s94 :: s95 :: s96 :: s97 :: s98 :: s99 :: s100 :: s101 :: s102 :: s103 :: s104 :: s105 :: s106 :: s107 :: s108 :: s109 :: s110 :: s111 :: s112 :: s113 :: s114 :: s115 :: s116 :: s117 :: s118 :: s119 :: s120 :: s121 :: s122 :: s123 :: s124 :: s125 :: s126 :: s127 :: s128 :: s129 :: s130 :: s131 :: s132 :: s133 :: []), []⟩ wr) :
    Code.wp Try.prog (Code.loop (onLoop 1)) Q0 ⟨List.toArray ((.pointer (some ⟨p, 0, none⟩)) :: s1 :: s2 :: (.map (some O)) :: s4 :: s5 :: s6 :: s7 :: s8 :: s9 :: s10 :: s11 :: s12 :: s13 :: s14 :: s15 :: s16 :: s17 :: s18 :: s19 :: s20 :: s21 :: s22 :: s23 :: s24 :: s25 :: s26 :: s27 :: s28 :: s29 :: s30 :: s31 :: s32 :: s33 :: s34 :: s35 :: s36 :: s37 :: s38 :: s39 :: s40 :: s41 :: s42 :: s43 :: s44 :: s45 :: s46 :: s47 :: s48 :: s49 :: s50 :: s51 :: s52 :: s53 :: s54 :: s55 :: s56 :: s57 :: s58 :: s59 :: s60 :: s61 :: s62 :: (.slice Av nv cv) :: (.int .i64 (nv : Int)) :: (.int .i64 0) :: s66 :: s67 :: s68 :: s69 :: s70 :: s71 :: s72 :: s73 :: s74 :: s75 :: s76 :: s77 :: s78 :: s79 :: s80 :: s81 :: s82 :: s83 :: s84 :: s85 :: s86 :: s87 :: s88 :: s89 :: s90 :: s91 :: s92 :: s93 :: s94 :: s95 :: s96 :: s97 :: s98 :: s99 :: s100 :: s101 :: s102 :: s103 :: s104 :: s105 :: s106 :: s107 :: s108 :: s109 :: s110 :: s111 :: s112 :: s113 :: s114 :: s115 :: s116 :: s117 :: s118 :: s119 :: s120 :: s121 :: s122 :: s123 :: s124 :: s125 :: s126 :: s127 :: s128 :: s129 :: s130 :: s131 :: s132 :: s133 :: []), []⟩ w3 := by
  have hzw := zero_write
  conv => arg 2; arg 1; whnf
  go_loopw [65] (fun i wr => ∃ (j : Nat) (es2 : List (ByteArray × FileM)) (d2 : DiskT), j ≤ nv ∧ i = .int .i64 (j : Int) ∧ OnB w3 p m (some b) es es1 d kp j es2 d2 wr) (fun i _ => nv - (intOf i).toNat)
  case atStart => exact ⟨0, es1, _, Nat.zero_le _, rfl, OnB.start HD.out HBL.out⟩
  case round =>
    obtain ⟨j, es2, d2, hj, rfl, hA⟩ := hrel
    have HA := Lib.hid hA
    clear hA
    by_cases hjn : j < nv
    · have hjl : j < ls.length := by rw [HL.out]; exact hjn
      obtain ⟨r, hr⟩ : ∃ r, ls[j] = r := ⟨_, rfl⟩
      have hrow : wr.ownsRow N 77 258 (.slice Av nv cv) nv (wrsC ls) := own_fr HV.out HA.out.op.fr HVA.out
      obtain ⟨g, c', hv2, -⟩ := own_nil hrow (by omega)
      injection hv2 with hAo _ hco
      subst hAo; subst hco
      have hrange := row_range (f := wrL) wrL_len hrow HL.out hjn
      rw [hr] at hrange
      have HRANGE := Lib.hid (show wr.rangeAt g (j * 258) (wrC r).toList from hrange)
      have HBOX := Lib.hid (Go.heap_alloc_new wr (.cells (wrC r) 77))
      have hrj : ls[j]? = some r := by rw [List.getElem?_eq_getElem hjl, hr]
      have HR := Lib.hid hrj
      have HD2 := Lib.hid (HA.out.op.at_.alloc (.cells (wrC r) 77))
      have hset : d2.set = some (i0, kp) := by rw [HA.out.eq]; exact HST.out
      have e5 : (wr.alloc (.cells (wrC r) 77)).cell? ⟨p, 5, none⟩ = some (.pointer (some ⟨b, 0, none⟩)) := HD2.out.cell.2.2.2.2.2.1
      have s0 := HD2.out.set
      rw [hset] at s0
      have k1 := cell_of (j := 1) s0 rfl
      obtain ⟨c0, c1, -⟩ := (⟨cell_of (j := 0) HBOX.out (wrC_at r).1, cell_of (j := 1) HBOX.out (wrC_at r).2, trivial⟩ : _ ∧ _ ∧ True)
      have hkp := HI.out.set i0 kp HST.out
      have gI : ((j : Int) < (nv : Int)) := by omega
      clear hrange hrow hr hrj hset s0 hjl
      obtain ⟨oj, hoj⟩ : ∃ oj, j * 258 = oj := ⟨_, rfl⟩
      rw [hoj] at HRANGE
      have HOJ := Lib.hid hoj
      clear hoj
      have tok1 : True := trivial
      go_wp2_with (first
        | (have _t := tok1; refine wpList_loadW rfl 77 _ rfl g oj (by rw [← HOJ.out]; rfl) (wrC r) HRANGE.out Try.underlying77 rfl (by rw [wrC_size]; exact write_size) ?_; clear tok1 _t; have tok2 : True := trivial)
        | (have _t := tok2; refine wpList_store_new rfl 77 _ _ rfl wr (wrC ⟨0, 0, zeroP⟩) 77 (wrC r) rfl rfl rfl (by rw [wrC_size]; exact write_size) (by rw [wrC_size, wrC_size]) (wrC_all r) ?_; clear tok2 _t))
      rotate_left
      · rename_i hbt
        rw [bit_is _ hkp.2] at hbt
        go_roundw
        case measure => simp [intOf]; omega
        case rel => exact ⟨j + 1, es2, d2, hjn, by go_num, (HA.out.keep ((Below.refl _ _).alloc (Nat.le_refl _) _)).skip (by simpa using hbt)⟩
      · have hbt := ‹(bits BinOp.and IntKind.u64 _ 1 == 1) = true›
        rw [bit_is _ hkp.2] at hbt
        obtain ⟨k, f, x0, hkf, hrf, hx0, hmo⟩ := HOF.out r (List.mem_of_getElem? HR.out)
        have hx : ∃ x, mget es2 k = some x ∧ x.bl = x0.bl := by
          have e1 := congrArg (fun l => mget l k) HA.out.bls
          simp only [mget_menc, hx0] at e1
          cases hg : mget es2 k with
          | none => rw [hg] at e1; cases e1
          | some x => rw [hg] at e1; exact ⟨x, rfl, by simpa using e1⟩
        obtain ⟨x, hx, hxb⟩ := hx
        have hpl : r.place ≤ 65536 := by
          have h1 := place_lt f.opens f.settled r hrf
          rw [← (HI.out.ok hkf).now] at h1
          have h4 := HI.out.get_le hkf
          have h5 := HI.out.within
          have h6 := HI.out.quota
          omega
        have hpg := HA.out.pages HI.out hx
        have hb0 : Below wr.heap.size wr (wr.alloc (.cells (wrC r) 77)) := (Below.refl _ _).alloc (Nat.le_refl _) _
        have HAW := Lib.hid (HA.out.keep hb0)
        have HBW := Lib.hid hb0
        have hM := IMap.fr (IMap.fr HM.out HA.out.op.fr HO.out) (Fr.below (F := []) hb0) (by simp)
        have HPG : Hid (∀ j v, (pgL r.page)[j]? = some v → (wr.alloc (.cells (wrC r) 77)).cell? ⟨wr.heap.size, 2 + j, none⟩ = some v) := Lib.hid fun j v hj => cell_of (j := 2 + j) HBOX.out (by rw [← hj]; unfold wrC; rw [Array.getElem?_append_right (by simp)]; simp [pgC, pgL])
        have HX := Lib.hid hx
        have HXB := Lib.hid hxb
        have HKF := Lib.hid hkf
        have HRF := Lib.hid hrf
        have HBT := Lib.hid hbt
        generalize hwa : wr.alloc (.cells (wrC r) 77) = wa at *
        have hfx := HAW.out.op.at_.files _ (mget_mem hx)
        dsimp only at hfx
        have hlk := (IMap.fr hM (Fr.refl [] wa).drew (by simp)).look (z := .pointer none) Try.underlying67 Try.underlying3 (Try.zeroValue68 wa.drew) (r.no : Int) false
        rw [hmo] at hlk
        have hlk2 : (Instr.lookup 67 (.map (some O)) (.int .i64 (r.no : Int)) false).run Try.prog wa.drew = .ok (.pointer (some ⟨x.bl, 0, none⟩)) wa.drew := by rw [hxb]; exact hlk
        have HL := Lib.hid (lay_any x.bl x.vn x.vs x.vo x.f.now r.place r.page wa.drew (hfx.fr (Fr.refl [] wa).drew (by simp)).blk (hfx.fr (Fr.refl [] wa).drew (by simp)).now (by omega) (by omega))
        clear hx hxb hkf hrf hpl hpg hb0 hM hfx hlk hmo hx0 hbt HBOX e5 k1
        go_still_tail 10, (by kernel_rfl)
        refine wpStill_wide (op := ⟨some 91, _, _, _, _, _⟩) rfl 75 (.tmp 90) rfl wr.heap.size 2 rfl (pgC r.page) HPG.out Try.underlying75 rfl (by rw [pgC_size]; exact page_size) ?_
        repeat still_step
        refine wpStill_nil ?_
        change wpList _ _ _ _ _ wa.drew
        generalize hdr : wa.drew = wd at HL ⊢
        go_wp2_with (go_at_call 36; refine HL.out.mono ?_; rintro e w4 ⟨rfl, vn', hL4⟩)
        have hB : Below wr.heap.size wr wd := by rw [← hdr]; exact HBW.out.drew
        have hA2 := (HA.out.keep hB).lay HI.out HP.out HS.out HR.out HBT.out HKF.out HRF.out HX.out hL4
        have HA2 := Lib.hid hA2
        clear hA2 hL4 hB
        go_roundw
        case measure => simp [intOf]; omega
        case rel => exact ⟨j + 1, _, _, hjn, by go_num, HA2.out⟩
    · have hje : j = nv := by omega
      subst hje
      have gI : ¬ ((j : Int) < (j : Int)) := by omega
      go_wp2_with fail
      exact hexit _ _ _ _ _ _ _ _ _ _ _ _ _ _ _ _ _ _ _ _ _ _ _ _ _ _ _ _ _ es2 d2 wr HA.out
end Go.Proofs.Ytladknjmoahdoaa
