/- The sum of all coins; copies of the books. -/
import Derived.Test.YtmlcojhanimnpaaI1
import Derived.Deep.LoopGhost
import Derived.Deep.RegionWith
import Derived.Shelf.SlMaps.Clone
namespace Go.Proofs.Ytmlcojhanimnpaa
open Go.RowKit

theorem menc_len {α β : Type} (f : α → β) (l : List (ByteArray × α)) : (menc f l).length = l.length := by simp [menc]
theorem cons_perm_sum {α : Type} (f : α → Int) {td td' : List (ByteArray × α)} {k : ByteArray} {x : α} (h : td.Perm ((k, x) :: td')) : asum f td = f x + asum f td' := by
  rw [asum_perm f h, asum_cons]
theorem cons_perm_all {α : Type} {p : ByteArray × α → Prop} {td td' : List (ByteArray × α)} {k : ByteArray} {x : α} (h : td.Perm ((k, x) :: td')) (ha : ∀ q ∈ td, p q) : p (k, x) ∧ ∀ q ∈ td', p q :=
  ⟨ha _ (h.mem_iff.2 (List.mem_cons_self ..)), fun q hq => ha q (h.mem_iff.2 (List.mem_cons_of_mem _ hq))⟩

set_option maxHeartbeats 1000000 in
theorem total_any (c d : Nat) (s : Led) (w : World) (hI : ∀ p ∈ s.coins, 0 ≤ p.2) (hC : ∀ p ∈ s.chans, 0 ≤ p.2.cap) (ht : total s ≤ maxCoin) (hc : SMap w c (menc encI s.coins)) (hd : SMap w d (menc encC s.chans)) :
    Calls Try.prog 45 #[.agg #[.map (some c), .map (some d)]] w fun e w' => e = .returned (.int .i64 (total s)) ∧ Below w.heap.size w w' := by
  have hdl := hd.lt
  have hcl := hc.lt
  have hs0 : 0 ≤ asum id s.coins := asum_nonneg id _ hI
  have hs1 : 0 ≤ asum Chan.cap s.chans := asum_nonneg Chan.cap _ hC
  have hT : total s = asum id s.coins + asum Chan.cap s.chans := rfl
  have HT := Lib.hid hT; clear hT
  have HC := Lib.hid hc
  have HD := Lib.hid hd
  have HI := Lib.hid hI
  have HCC := Lib.hid hC
  have ht' : asum id s.coins + asum Chan.cap s.chans ≤ maxCoin := ht
  unfold maxCoin at ht'
  clear ht hc hd hI hC
  generalize hA : asum id s.coins = A at *
  generalize hB : asum Chan.cap s.chans = B at *
  have HA := Lib.hid hA
  have HB := Lib.hid hB
  clear hA hB
  go_enter Try.func45, Try.ntmps45
  go_wp2_with (at_range; refine wpList_srange _ rfl _ _ rfl 9 2 Try.underlying64 c _ rfl (HC.out.alloc _) ?_; intro w1 hrg hg hsz; go_frame)
  have hbx : Below w.heap.size w (w.alloc (.cells #[.map (some c), .map (some d)] 67)) := (Below.refl _ _).alloc (Nat.le_refl _) _
  have hbx0 : (w.alloc (.cells #[.map (some c), .map (some d)] 67)).heap[w.heap.size]? = some (.cells #[.map (some c), .map (some d)] 67) := Go.heap_alloc_new w _
  have hsz0 : (w.alloc (.cells #[.map (some c), .map (some d)] 67)).heap.size = w.heap.size + 1 := by simp
  generalize w.alloc (.cells #[.map (some c), .map (some d)] 67) = w0 at *
  have hb1 : Below w.heap.size w w1 := hbx.grown hg hbx.size (by intro k hk; cases hk)
  have hbk1 : w1.heap[w.heap.size]? = some (.cells #[.map (some c), .map (some d)] 67) := (hg.block _ (by omega) (by simp)).trans hbx0
  rw [hsz0] at hrg hsz ⊢
  clear hsz0
  have HRG := Lib.hid hrg
  have HB1 := Lib.hid hb1
  have HBK1 := Lib.hid hbk1
  clear hrg hg hbx hbx0 hb1 hbk1
  go_loopg [2] s.coins.length (fun k n wr => ∃ (td : List (ByteArray × Int)) (m : Int), k = td.length ∧ n = .int .i64 m ∧ m + asum id td = A ∧ 0 ≤ m ∧ (∀ p ∈ td, 0 ≤ p.2) ∧ SRange wr c (w.heap.size + 1) (menc encI s.coins) (menc encI td) ∧ Below w.heap.size w wr ∧ wr.heap[w.heap.size]? = some (.cells #[.map (some c), .map (some d)] 67))
  case atStart => exact ⟨s.coins, 0, rfl, rfl, by rw [HA.out]; omega, by omega, HI.out, HRG.out, HB1.out, HBK1.out⟩
  case round =>
    obtain ⟨td, m, hk, rfl, hsum, hm0, hall, hrg, hbr, hbk⟩ := hrel
    have HK := Lib.hid hk
    have HSUM := Lib.hid hsum
    have HALL := Lib.hid hall
    have HRG2 := Lib.hid hrg
    have HBR := Lib.hid hbr
    have HBK := Lib.hid hbk
    clear hk hsum hall hrg hbr hbk
    go_wp2_with (at_next; refine wpList_snext _ encI encI_inj rfl _ rfl c (w.heap.size + 1) _ td rfl HRG2.out ?_ ?_)
    · intro htd
      have hsum := HSUM.out
      rw [htd, asum_nil, Int.add_zero] at hsum
      have HSM := Lib.hid hsum
      have c1 : wr.cell? ⟨w.heap.size, 1, none⟩ = some (.map (some d)) := by have := HBK.out; simp [World.cell?, this]
      have hD2 := HD.out.block (HBR.out.block d hdl)
      have hrs := HBR.out.size
      clear htd hsum
      obtain ⟨wo, hwo⟩ : ∃ wo : World, wo = wr := ⟨_, rfl⟩
      subst hwo
      go_wp2_with (at_range; refine wpList_srange _ rfl _ _ rfl 9 87 Try.underlying65 d _ rfl hD2 ?_; intro w3 hrg hg hsz; go_frame)
      have hb3 : Below w.heap.size w w3 := HBR.out.grown hg hrs (by intro k hk; cases hk)
      have HRG3 := Lib.hid hrg
      have HB3 := Lib.hid hb3
      clear hrg hg hb3 c1 hD2
      generalize hr3 : wo.heap.size = r3 at *
      have hr3' : w.heap.size ≤ r3 := hrs
      clear hr3
      go_loopg [2] s.chans.length (fun k n wr => ∃ (td : List (ByteArray × Chan)) (m2 : Int), k = td.length ∧ n = .int .i64 m2 ∧ m2 + asum Chan.cap td = A + B ∧ 0 ≤ m2 ∧ (∀ p ∈ td, 0 ≤ p.2.cap) ∧ SRange wr d r3 (menc encC s.chans) (menc encC td) ∧ Below w.heap.size w wr)
      case atStart => exact ⟨s.chans, m, rfl, rfl, by rw [HB.out, HSM.out], hm0, HCC.out, HRG3.out, HB3.out⟩
      case round =>
        obtain ⟨td2, m2, hk2, rfl, hsum2, hm2, hall2, hrg2, hbr2⟩ := hrel
        have HK2 := Lib.hid hk2
        have HSUM2 := Lib.hid hsum2
        have HALL2 := Lib.hid hall2
        have HRG22 := Lib.hid hrg2
        have HBR2 := Lib.hid hbr2
        clear hk2 hsum2 hall2 hrg2 hbr2
        go_wp2_with (at_next; refine wpList_snext _ encC encC_inj rfl _ rfl d r3 _ td2 rfl HRG22.out ?_ ?_)
        · intro htd
          have hsum := HSUM2.out
          rw [htd, asum_nil, Int.add_zero] at hsum
          have HSM2 := Lib.hid hsum
          clear htd hsum
          go_wp2
          go_ret
          exact ⟨ret_int (by rw [HSM2.out, HT.out]), HBR2.out⟩
        · intro key x td' w4 hp hrg2 hg2 hsz2 hen
          have hen' : (Instr.entry (.pointer (some ⟨r3, 0, none⟩))).run Try.prog w4 = .ok (.tuple #[.string key, .agg #[.string x.name, .string x.a, .string x.b, .int .i64 x.cap, .int .i64 x.hasA, .int .i64 x.hasB]]) w4 := hen
          clear hen
          have hsm := cons_perm_sum Chan.cap hp
          obtain ⟨hx0, hall'⟩ := cons_perm_all hp HALL2.out
          have hx0' : 0 ≤ x.cap := hx0
          have hs' := asum_nonneg Chan.cap td' hall'
          have hsum' := HSUM2.out
          have hb1 : 0 ≤ m2 + x.cap := by omega
          have hb2 : m2 + x.cap ≤ 2100000000000000 := by omega
          have hlen : td2.length = td'.length + 1 := by rw [hp.length_eq]; rfl
          have HA2 := Lib.hid hall'
          have hs3 : m2 + x.cap + asum Chan.cap td' = A + B := by omega
          have HS3 := Lib.hid hs3
          have HLEN := Lib.hid hlen
          have HRG3' := Lib.hid hrg2
          have HB4 := Lib.hid (HBR2.out.grown hg2 HBR2.out.size (by intro k hk; injection hk with hk; omega))
          have hcl4 : (w4.alloc (.cells #[.string x.name, .string x.a, .string x.b, .int .i64 x.cap, .int .i64 x.hasA, .int .i64 x.hasB] 87)).heap[w4.heap.size]? = some (.cells #[.string x.name, .string x.a, .string x.b, .int .i64 x.cap, .int .i64 x.hasA, .int .i64 x.hasB] 87) := Go.heap_alloc_new w4 _
          clear hsm hx0 hall' hs' hsum' hs3 hlen hrg2 hg2 hsz2 hp hcl4
          go_wp2
          go_roundg td'.length
          case measure => rw [HK2.out, HLEN.out]; omega
          case rel =>
            refine ⟨td', _, rfl, rfl, HS3.out, by omega, HA2.out, ?_, ?_⟩
            · exact HRG3'.out.kept (Go.heap_alloc_old _ _ HRG3'.out.map.lt) (Go.heap_alloc_old _ _ HRG3'.out.lt)
            · exact HB4.out.alloc HB4.out.size _
    · intro key x td' w2 hp hrg2 hg2 hsz2 hen
      have hen' : (Instr.entry (.pointer (some ⟨w.heap.size + 1, 0, none⟩))).run Try.prog w2 = .ok (.tuple #[.string key, .int .i64 x]) w2 := hen
      clear hen
      have hsm := cons_perm_sum id hp
      obtain ⟨hx0, hall'⟩ := cons_perm_all hp HALL.out
      have hx0' : 0 ≤ x := hx0
      have hs' := asum_nonneg id td' hall'
      have hsum' := HSUM.out
      have hsm' : asum id td = x + asum id td' := hsm
      have hb1 : 0 ≤ m + x := by omega
      have hb2 : m + x ≤ 2100000000000000 := by omega
      have hlen : td.length = td'.length + 1 := by rw [hp.length_eq]; rfl
      have HA2 := Lib.hid hall'
      have hs3 : m + x + asum id td' = A := by omega
      have HS3 := Lib.hid hs3
      have HLEN := Lib.hid hlen
      have HRG3' := Lib.hid hrg2
      have HB4 := Lib.hid (HBR.out.grown hg2 HBR.out.size (by intro k hk; injection hk with hk; omega))
      have HBK4 := Lib.hid ((hg2.block _ (lt_of_block HBK.out) (by simp)).trans HBK.out)
      clear hsm hx0 hall' hs' hsum' hsm' hs3 hlen hrg2 hg2 hsz2 hp
      go_wp2
      go_roundg td'.length
      case measure => rw [HK.out, HLEN.out]; omega
      case rel => exact ⟨td', _, rfl, rfl, HS3.out, by omega, HA2.out, HRG3'.out, HB4.out, HBK4.out⟩
end Go.Proofs.Ytmlcojhanimnpaa
