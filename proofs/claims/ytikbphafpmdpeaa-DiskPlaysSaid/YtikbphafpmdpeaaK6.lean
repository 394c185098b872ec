/- What Rename and Sync do once their step happens. -/
import Derived.Test.YtikbphafpmdpeaaK5
set_option linter.all false
namespace Go.Proofs.Ytikbphafpmdpeaa
open Go.RowKit

def BoxF (w : World) (b bl : Nat) : Prop := w.heap[b]? = some (.cells #[.pointer (some ⟨bl, 0, none⟩)] 66)
def movedD (d : DiskT) (src dst : ByteArray) (f : FileT) : DiskT := { goneD d dst with files := mset (mdel (goneD d dst).files src) dst f }
set_option maxRecDepth 100000 in
set_option maxHeartbeats 4000000 in
theorem rename1_any (p m bs bt bd bf N : Nat) (sb : Option Nat) (es : List (ByteArray × FileM)) (d : DiskT) (src dst : ByteArray) (x : FileM) (w : World) (h : DiskAt w p m sb es d) (hi : Inv d) (hx : mget es src = some x)
    (hN : ∀ i ∈ fpD p m sb es, i < N) (b1 : N ≤ bs) (b2 : N ≤ bt) (b3 : N ≤ bd) (b4 : N ≤ bf) (hs : BoxS w bs src) (ht : BoxS w bt dst) (hd : BoxP w bd p) (hf : BoxF w bf x.bl) :
    Calls Try.prog 57 #[.pointer (some ⟨bs, 0, none⟩), .pointer (some ⟨bt, 0, none⟩), .pointer (some ⟨bd, 0, none⟩), .pointer (some ⟨bf, 0, none⟩)] w
      (UnitP fun w' => ∃ es', OpL w p m sb es (if src = dst then d else movedD d src dst x.f) sb es' w') := by
  have c0 : w.cell? ⟨bs, 0, none⟩ = some (.string src) := cell_of (j := 0) hs rfl
  have c1 : w.cell? ⟨bt, 0, none⟩ = some (.string dst) := cell_of (j := 0) ht rfl
  have c2 : w.cell? ⟨bd, 0, none⟩ = some (.pointer (some ⟨p, 0, none⟩)) := cell_of (j := 0) hd rfl
  by_cases he : src = dst
  · subst he
    rw [if_pos rfl]
    have HF := Lib.hid (show OpL w p m sb es d sb es w from ⟨h, Fr.refl _ _, NewFp.refl _ _⟩)
    clear h hi hx hN hs ht hd hf
    go_enter Try.func57, Try.ntmps57
    go_wp2_with fail
    go_end0
    exact ⟨rfl, _, HF.out⟩
  · have hq := tl_f he
    rw [if_neg he]
    have HE := Lib.hid he
    have HG := Lib.hid (gone_any p m sb es d dst w h hi)
    have HX := Lib.hid hx
    have HS := Lib.hid hs
    have HT := Lib.hid ht
    have HD := Lib.hid hd
    have HB := Lib.hid hf
    have HH := Lib.hid h
    have HN := Lib.hid hN
    clear he h hi hx hs ht hd hf hN
    go_enter Try.func57, Try.ntmps57
    go_wp2_with fail
    refine HG.out.mono ?_
    rintro e w1 ⟨rfl, hP⟩
    have hne : ∀ b, N ≤ b → b ∉ fpD p m sb es := fun b hb hi => by have := HN.out b hi; omega
    have hs1 : BoxS w1 bs src := hP.fr.kept (hne bs b1) HS.out
    have ht1 : BoxS w1 bt dst := hP.fr.kept (hne bt b2) HT.out
    have hd1 : BoxP w1 bd p := hP.fr.kept (hne bd b3) HD.out
    have hf1 : BoxF w1 bf x.bl := hP.fr.kept (hne bf b4) HB.out
    have e0 : w1.cell? ⟨bs, 0, none⟩ = some (.string src) := cell_of (j := 0) hs1 rfl
    have e2 : w1.cell? ⟨bd, 0, none⟩ = some (.pointer (some ⟨p, 0, none⟩)) := cell_of (j := 0) hd1 rfl
    have h1 := hP.at_
    obtain ⟨e4, -⟩ := h1.cell
    have hx1 : mget (mdel es dst) src = some x := by rw [mget_del_other _ HE.out]; exact HX.out
    have hfa := h1.files _ (mget_mem hx1)
    obtain ⟨w2, hdel, hm2, hg2⟩ := h1.drew.map.del Try.underlying56 Try.underlying9 src 0
    have hd2 := h1.drew.deleted src hm2 hg2
    have hmN : ∀ b, N ≤ b → b ≠ m := fun b hb e => hne b hb (by rw [e]; exact mem_m)
    have hk2 : ∀ {b : Nat} {o : Obj}, N ≤ b → w1.heap[b]? = some o → w2.heap[b]? = some o := fun hb hc => (hg2.block _ (lt_of_block hc) (fun e => by injection e with e; exact hmN _ hb e)).trans hc
    have d1 : w2.cell? ⟨bt, 0, none⟩ = some (.string dst) := cell_of (j := 0) (hk2 b2 ht1) rfl
    have d2 : w2.cell? ⟨bd, 0, none⟩ = some (.pointer (some ⟨p, 0, none⟩)) := cell_of (j := 0) (hk2 b3 hd1) rfl
    have d3 : w2.cell? ⟨bf, 0, none⟩ = some (.pointer (some ⟨x.bl, 0, none⟩)) := cell_of (j := 0) (hk2 b4 hf1) rfl
    obtain ⟨d4, -⟩ := hd2.cell
    obtain ⟨w3, hup, hm3, hg3⟩ := hd2.drew.map.upd Try.underlying56 Try.underlying9 dst (encF x)
    have hfin : ∃ es', OpL w p m sb es (movedD d src dst x.f) sb es' w3 := by
      have hn2 : mget (mdel (mdel es dst) src) dst = none := by
        rw [mget_del_other _ (Ne.symm HE.out)]
        have hnd := HH.out.map.nodup
        rw [menc_keys] at hnd
        exact mget_del_same hnd dst
      have p1 := perm_get hx1
      have p2 := perm_set (mdel (mdel es dst) src) dst x
      rw [mdel_of_none hn2] at p2
      have hf13 : Fr [m] w1 w3 := Fr.ofDrew <| (Fr.grown (F := [m]) (w := w1.drew) hg2 fun k hk _ => by injection hk with hk; simp [hk]).drew.and (Fr.grown (F := [m]) (w := w2.drew) hg3 fun k hk _ => by injection hk with hk; simp [hk])
      have hin : ∀ i ∈ fpF [(dst, x)], i ∈ fpF [(src, x)] ∨ w1.heap.size ≤ i := fun i hi => .inl (by simpa [fpF] using hi)
      have hxf : FileAt w3 x := hfa.fr hf13 fun i hi => by simpa using Ne.symm (h1.m_ne.2 _ (mget_mem hx1) i hi)
      have h3 : DiskAt w3 p m sb (mset (mdel (mdel es dst) src) dst x) (movedD d src dst x.f) := by
        refine h1.swap (old := [(src, x)]) (new := [(dst, x)]) p1 p2 (fun e he => by simp at he; subst he; exact hxf) (by simpa [fpF] using hfa.apart) hin hf13 (fun i hi => .inr (.inl (by simpa using hi))) (hf13.kept (by simpa using h1.p_ne.1) h1.blk) (by rw [← mset_menc]; exact hm3) ?_ rfl
        show mset (mdel (goneD d dst).files src) dst x.f = _
        rw [h1.eq, mdel_menc, ← mset_menc]
      exact ⟨_, h3, hP.fr.trans hf13 (fun i hi _ => by simp at hi; subst hi; exact mem_m), hP.new.trans (newFp_swap p1 p2 hin) hP.fr.size⟩
    have HF := Lib.hid hfin
    unfold encF at hup
    clear hfin hg3 hm3 hd2 hg2 hm2 hfa hx1 h1 hs1 ht1 hd1 hf1 hP hne hmN hk2
    go_wp2_with fail
    go_region
    go_wp2_with fail
    go_region
    go_wp2_with fail
    go_end0
    exact ⟨rfl, HF.out⟩
end Go.Proofs.Ytikbphafpmdpeaa
