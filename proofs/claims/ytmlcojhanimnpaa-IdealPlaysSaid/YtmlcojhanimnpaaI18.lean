/- Hold: plain steps, stores of a ledger's block, an append of a k-cell element as one step of a drawing region. -/
import Derived.Test.YtmlcojhanimnpaaI17
namespace Go.Proofs.Ytmlcojhanimnpaa
open Go.RowKit

theorem takeAll_cons (l : List (ByteArray × Chan)) (x : Leg) (r : List Leg) : takeAll l (x :: r) = if (take1 l x).1 = 0 then takeAll (take1 l x).2 r else ((take1 l x).1, l) := rfl
theorem takeAll_append (a b : List Leg) : ∀ (l : List (ByteArray × Chan)), (takeAll l a).1 = 0 → takeAll l (a ++ b) = takeAll (takeAll l a).2 b := by
  induction a with
  | nil => intro l _; rfl
  | cons x r ih =>
    intro l h
    rw [takeAll_cons] at h
    rw [List.cons_append, takeAll_cons, takeAll_cons]
    by_cases h1 : (take1 l x).1 = 0
    · rw [if_pos h1] at h
      rw [if_pos h1, if_pos h1]
      exact ih _ h
    · rw [if_neg h1] at h
      exact absurd h h1
theorem takeAll_step {l : List (ByteArray × Chan)} {legs : List Leg} {k : Nat} (hk : k < legs.length) (h : (takeAll l (legs.take k)).1 = 0) :
    ((take1 (takeAll l (legs.take k)).2 legs[k]).1 = 0 → (takeAll l (legs.take (k + 1))).1 = 0 ∧ (takeAll l (legs.take (k + 1))).2 = (take1 (takeAll l (legs.take k)).2 legs[k]).2) ∧
    ((take1 (takeAll l (legs.take k)).2 legs[k]).1 ≠ 0 → (takeAll l legs).1 = (take1 (takeAll l (legs.take k)).2 legs[k]).1) := by
  refine ⟨fun h1 => ?_, fun h1 => ?_⟩
  · rw [List.take_succ_eq_append_getElem hk, takeAll_append _ _ _ h, takeAll_cons, if_pos h1]
    exact ⟨rfl, rfl⟩
  · have e : legs = legs.take k ++ (legs[k] :: legs.drop (k + 1)) := by rw [← List.drop_eq_getElem_cons hk, List.take_append_drop]
    have e2 : takeAll l legs = takeAll l (legs.take k ++ (legs[k] :: legs.drop (k + 1))) := congrArg (takeAll l) e
    rw [e2, takeAll_append _ _ _ h, takeAll_cons, if_neg h1]
theorem take_bound {s : Led} (h : Inv s) {legs : List Leg} (h0 : (takeAll s.chans legs).1 = 0) {ch : ByteArray} {k : Chan} (hk : mget (takeAll s.chans legs).2 ch = some k) : k.hasA ≤ maxMoney ∧ k.hasB ≤ maxMoney := by
  obtain ⟨g1, g2, g3⟩ := takeAll_ok h.ch h0
  have ho := g1 _ _ hk
  have h1 := heldF_nonneg h ch
  have h2 := legSum_nonneg (fun y => y.ch == ch) legs fun y hy => (g3 y hy).lo
  obtain ⟨c', hc', hsh⟩ := Same.get (Eq.symm g2) hk
  have hcap := cap_le h hc'
  unfold Chan.shape at hsh
  simp only [Prod.mk.injEq] at hsh
  rw [hsh.2.2.2] at hcap
  have := ho.sum
  have := ho.a0
  have := ho.b0
  unfold maxCoin at hcap
  unfold maxMoney
  omega
/-- The stores of Hold into the ledger's block. -/
def held3 (w : World) (p c d : Nat) (n : Int) : World := ((w.setCell ⟨p, 0, none⟩ (.map (some c))).setCell ⟨p, 1, none⟩ (.map (some d))).setCell ⟨p, 3, none⟩ (.int .i64 n)
theorem held3_other (w : World) (p c d : Nat) (n : Int) (g : Nat) (hg : g ≠ p) : (held3 w p c d n).heap[g]? = w.heap[g]? := by
  unfold held3
  rw [Below.heap_setCell _ _ _ _ (by exact hg), Below.heap_setCell _ _ _ _ (by exact hg), Below.heap_setCell _ _ _ _ (by exact hg)]
theorem LedAt.held {w : World} {p c d c2 d2 : Nat} {v : Value} {vs : List Value} {s : Led} {C : List (ByteArray × Chan)} {n : Int} (h : LedAt w p c d v vs s) (hc : SMap w c2 (menc encI s.coins)) (hd : SMap w d2 (menc encC C)) (hne : c2 ≠ d2) (hcp : c2 ≠ p) (hdp : d2 ≠ p) :
    LedAt (held3 w p c2 d2 n) p c2 d2 v vs { s with chans := C, last := n } := by
  refine ⟨?_, hc.block (held3_other w p c2 d2 n c2 hcp), hd.block (held3_other w p c2 d2 n d2 hdp), hne, ownsRow_block h.own fun g hg => held3_other w p c2 d2 n g ?_, h.hv.kept fun g cur hg => held3_other w p c2 d2 n g ?_⟩
  · unfold held3
    rw [setCell_cells (setCell_cells (setCell_cells h.blk 0 _) 1 _) 3 _]
    rfl
  · rintro rfl
    rcases h.own.2 with ⟨hv, -⟩ | ⟨g', cap, cur, hv, -, hh, -⟩
    · rw [hv] at hg; cases hg
    · rw [hv] at hg
      injection hg with hg
      have hg' : g' = g := hg
      subst hg'
      rw [h.blk] at hh; cases hh
  · rintro rfl
    rw [h.blk] at hg; cases hg
theorem step_appk {P : Program} {w : World} {ops : Array Oper} {o : Oper} {a : Act} {K : Act → World → Prop} {Q : Exit → Act → World → Prop} {F : Prop} {T E : TypeId} {z : Value} {size bytes : Nat}
    (S : SlTyK P T E z size bytes) (hgd : o.guard = none) (s x : Operand)
    (ho : o.op = .call { callee := .builtin .append, args := #[s, x], argTypes := #[T, T] })
    (base : Nat) (v : Value) (n : Nat) (xs : List Value) (hs : a.eval s = v) (hown : w.ownsRow base E size v n xs)
    (A : Option Addr) (m c : Nat) (news : List Value) (hx : a.eval x = .slice A m c) (hl : news.length = m * size) (hnews : Cells w A news) (h1 : ∀ u ∈ news, u.oneCell' = true)
    (hlen : (n + m) * bytes ≤ 140737488355328) (h63 : n + m ≤ 140737488355328) (hbase : base ≤ w.heap.size)
    (h : ∀ v' w', w'.ownsRow base E size v' (n + m) (xs ++ news) → w.grownBy w' v.ownBlock → Below base w w' → (v'.ownBlock = v.ownBlock ∨ v'.ownBlock = some w.heap.size) → K (a.put o.dst v') w') :
    if Region.wanted o (yielded ops a.tmps) = true then Oper.wp P o a w K Q else F := by
  have hw : Region.wanted o (yielded ops a.tmps) = true := by simp [Region.wanted, hgd]
  rw [if_pos hw]
  obtain ⟨v', w', hr, h2, hg, hb, hat⟩ := run_appk S o.type hown A m c news hl hnews h1 hlen h63 hbase (fun _ => by cases A; exact .inl rfl; exact .inr ⟨_, rfl⟩)
  unfold Oper.wp execOp
  simp only [ho, resolve, invoke, builtin, Sem.run_bind, Sem.run_pure, Result.andThen_ok, List.map_toArray, List.map_cons, List.map_nil, hs, hx, hr]
  exact h v' w' h2 hg hb hat
def HoldP (w : World) (p c d : Nat) (v : Value) (r : Int × Int × Led) (e : Ending) (w' : World) : Prop :=
  e = .returned (.tuple #[.int .i64 r.1, .int .i64 r.2.1]) ∧ OpP w p c d v 0 r.2.2 (.returned (.int .i64 0)) w'
theorem HoldP.same {w w' : World} {p c d : Nat} {v : Value} {vs : List Value} {s : Led} {n err : Int} (h : LedAt w p c d v vs s) (hb : Below w.heap.size w w') : HoldP w p c d v (n, err, s) (.returned (.tuple #[.int .i64 n, .int .i64 err])) w' :=
  ⟨rfl, OpP.same h hb⟩
theorem held3_fr (w : World) (p c d : Nat) (n : Int) : Fr [p] w (held3 w p c d n) :=
  ⟨rfl, rfl, rfl, by unfold held3; simp [World.setCell], fun g _ hg => held3_other w p c d n g (by simpa using hg)⟩
theorem add_block (ad : Addr) (j : Nat) : (ad.add j).block = ad.block := by
  unfold Addr.add
  split <;> rfl
/-- Legs lie apart from a ledger's block. -/
theorem legs_apart {w : World} {p c d : Nat} {A2 : Option Addr} {cp : Nat} {vs : List Value} {s : Led} {A : Option Addr} {legs : List Leg} (h : LedAt w p c d (.slice A2 s.holds.length cp) vs s) (hA : LegsIn w A legs) (hne : 0 < legs.length) : ∀ ad, A = some ad → ad.block ≠ p := by
  intro ad he hp
  obtain ⟨ad', he', h0, -, -⟩ := hA.at_ hne
  rw [he] at he'
  injection he' with he'
  subst he'
  have hb : (ad.add (0 * 3)).block = p := (add_block ad _).trans hp
  generalize ad.add (0 * 3) = a at h0 hb
  obtain ⟨ab, ao, asp⟩ := a
  simp only at hb
  subst hb
  have h1 := h.blk
  simp only [World.cell?, h1] at h0
  cases asp with
  | some q => simp at h0
  | none =>
    match ao, h0 with
    | 0, h0 => simp at h0
    | 1, h0 => simp at h0
    | 2, h0 => simp at h0
    | 3, h0 => simp at h0
    | n + 4, h0 => simp at h0
theorem legs_held3 {w : World} {p c2 d2 : Nat} {n : Int} {A : Option Addr} {legs : List Leg} (hA : LegsIn w A legs) (hp : ∀ ad, A = some ad → ad.block ≠ p) : LegsIn (held3 w p c2 d2 n) A legs := fun hn0 => by
  obtain ⟨ad, he, hc⟩ := hA hn0
  refine ⟨ad, he, fun j u hj => ?_⟩
  rw [World.cell?_of_block (held3_other w p c2 d2 n (ad.add j).block (by rw [add_block]; exact hp ad he))]
  exact hc j u hj
theorem own_zero {w : World} {base : Nat} {E : TypeId} {k : Nat} {v : Value} {n : Nat} {xs : List Value} (h : w.ownsRow base E k v n xs) : w.ownsRow 0 E k v n xs := by
  refine ⟨h.1, ?_⟩
  rcases h.2 with h0 | ⟨g, cap, cur, hv, -, hr⟩
  · exact .inl h0
  · exact .inr ⟨g, cap, cur, hv, Nat.zero_le _, hr⟩
/-- What lies in another kind of block than a row of holds is not the row's block. -/
theorem own_kind {w : World} {v : Value} {n : Nat} {xs : List Value} (h : w.ownsRow 0 74 2 v n xs) {g : Nat} (hg : v.ownBlock = some g) : ∃ cur, w.heap[g]? = some (.cells cur 74 (0, 0)) := by
  rcases h.2 with ⟨hv, -⟩ | ⟨g', cap, cur, hv, -, hh, -⟩
  · rw [hv] at hg; cases hg
  · rw [hv] at hg
    injection hg with hg
    have hg' : g' = g := hg
    subst hg'
    exact ⟨cur, hh⟩
theorem hold_fin {w w5 w6 : World} {p c d c2 d2 : Nat} {v v0 : Value} {vs : List Value} {s : Led} {legs : List Leg} {id : Int} {A5 A6 : Option Addr} {c5 c6 n base : Nat} {o : Obj}
    (F0 : Fr (fp p c d v0) w w5) (L5 : LedAt w5 p c2 d2 v vs s) (hown5 : w5.ownsRow base 45 3 (.slice A5 legs.length c5) legs.length (legsC legs))
    (hown6 : w6.ownsRow 0 74 2 (.slice A6 n c6) n (vs ++ [.int .i64 id, .slice A5 legs.length c5])) (hg6 : (w5.alloc o).grownBy w6 v.ownBlock)
    (hat6 : (Value.slice A6 n c6).ownBlock = v.ownBlock ∨ (Value.slice A6 n c6).ownBlock = some (w5.alloc o).heap.size) (hn : n = s.holds.length + 1)
    (hc2 : w.heap.size ≤ c2) (hd2 : w.heap.size ≤ d2) (hv0 : ∀ g, v.ownBlock = some g → g ∈ fp p c d v0) :
    OpP w p c d v0 0 { s with holds := s.holds ++ [⟨id, legs⟩] } (.returned (.int .i64 0)) (w6.setCell ⟨p, 2, none⟩ (.slice A6 n c6)) := by
  have hold5 : ∀ g, g < w5.heap.size → v.ownBlock ≠ some g → w6.heap[g]? = w5.heap[g]? := fun g hg hne => (hg6.block g (by simp; omega) (fun e => hne e.symm)).trans (Go.heap_alloc_old w5 o hg)
  have hpv : v.ownBlock ≠ some p := fun e => by
    obtain ⟨cur, hh⟩ := own_kind L5.own e
    rw [L5.blk] at hh; cases hh
  have hcv : v.ownBlock ≠ some c2 := fun e => by
    obtain ⟨cur, hh⟩ := own_kind L5.own e
    obtain ⟨es, k, hb, -⟩ := L5.mc
    rw [hb] at hh; cases hh
  have hdv : v.ownBlock ≠ some d2 := fun e => by
    obtain ⟨cur, hh⟩ := own_kind L5.own e
    obtain ⟨es, k, hb, -⟩ := L5.md
    rw [hb] at hh; cases hh
  have hcp : c2 ≠ p := by
    rintro rfl
    obtain ⟨es, k, hb, -⟩ := L5.mc
    rw [L5.blk] at hb; cases hb
  have hdp : d2 ≠ p := by
    rintro rfl
    obtain ⟨es, k, hb, -⟩ := L5.md
    rw [L5.blk] at hb; cases hb
  have hlp : p < w5.heap.size := lt_of_block L5.blk
  have hp6 := (hold5 p hlp hpv).trans L5.blk
  have hoth : ∀ g, g ≠ p → (w6.setCell ⟨p, 2, none⟩ (.slice A6 n c6)).heap[g]? = w6.heap[g]? := fun g hg => Below.heap_setCell w6 _ _ g hg
  have hsz6 : w5.heap.size ≤ w6.heap.size := Nat.le_trans (by simp) hg6.size
  refine ⟨rfl, c2, d2, .slice A6 n c6, vs ++ [.int .i64 id, .slice A5 legs.length c5], ⟨(setCell_cells hp6 2 _).trans rfl, L5.mc.block ((hoth c2 hcp).trans (hold5 c2 L5.mc.lt hcv)), L5.md.block ((hoth d2 hdp).trans (hold5 d2 L5.md.lt hdv)), L5.ne, ?_, ?_⟩, ?_, ?_⟩
  · show World.ownsRow _ 0 _ 2 (.slice A6 n c6) (s.holds ++ [(⟨id, legs⟩ : HoldR)]).length _
    rw [List.length_append]
    show World.ownsRow _ 0 _ 2 (.slice A6 n c6) (s.holds.length + 1) _
    rw [← hn]
    refine ownsRow_block hown6 fun g hg => hoth g ?_
    rintro rfl
    obtain ⟨cur, hh⟩ := own_kind hown6 hg
    rw [hp6] at hh; cases hh
  · have hx : HoldVs w5 [⟨id, legs⟩] [.int .i64 id, .slice A5 legs.length c5] := ⟨A5, c5, [], rfl, own_zero hown5, rfl⟩
    have h1 : HoldVs w5 (s.holds ++ [⟨id, legs⟩]) (vs ++ [.int .i64 id, .slice A5 legs.length c5]) := L5.hv.append hx
    refine h1.kept fun g cur hg => ?_
    have hgp : g ≠ p := by
      rintro rfl
      rw [L5.blk] at hg; cases hg
    refine (hoth g hgp).trans (hold5 g (lt_of_block hg) fun e => ?_)
    obtain ⟨cur', hh⟩ := own_kind L5.own e
    rw [hg] at hh
    cases hh
  · have f1 : Fr v.ownBlock.toList w5 w6 := ⟨hg6.os, hg6.tape, hg6.output, hsz6, fun g hg hn => hold5 g hg (fun e => hn (by rw [e]; simp))⟩
    have f2 : Fr [p] w6 (w6.setCell ⟨p, 2, none⟩ (.slice A6 n c6)) := ⟨rfl, rfl, rfl, by simp [World.setCell], fun g _ hg => hoth g (by simpa using hg)⟩
    exact (F0.trans f1 fun i hi _ => hv0 i (by simpa using hi)).trans f2 fun i hi _ => by simp at hi; subst hi; simp [fp]
  · intro g hg
    simp only [fp, List.mem_cons] at hg
    rcases hg with rfl | rfl | rfl | hg
    · exact .inl (by simp [fp])
    · exact .inr hc2
    · exact .inr hd2
    · have hg' : (Value.slice A6 n c6).ownBlock = some g := by simpa using hg
      rcases hat6 with h | h
      · exact .inl (hv0 g (by rw [← h]; exact hg'))
      · rw [h] at hg'
        injection hg' with hg'
        have := F0.size
        exact .inr (by simp at hg'; omega)
theorem hold_keep {w5 w6 : World} {p c d : Nat} {v : Value} {vs : List Value} {s : Led} {o : Obj} (L5 : LedAt w5 p c d v vs s) (hg6 : (w5.alloc o).grownBy w6 v.ownBlock) :
    w6.cell? ⟨p, 2, none⟩ = some v ∧ w6.frozen? ⟨p, 2, none⟩ = false ∧ ∀ u, (w6.setCell ⟨p, 2, none⟩ u).cell? ⟨p, 3, none⟩ = some (.int .i64 s.last) := by
  have hpv : v.ownBlock ≠ some p := fun e => by
    obtain ⟨cur, hh⟩ := own_kind L5.own e
    rw [L5.blk] at hh; cases hh
  have hlp : p < w5.heap.size := lt_of_block L5.blk
  have hp6 := ((hg6.block p (by simp; omega) (fun e => hpv e.symm)).trans (Go.heap_alloc_old w5 o hlp)).trans L5.blk
  refine ⟨by simp [World.cell?, hp6], by simp [World.frozen?, hp6], fun u => ?_⟩
  have h2 := setCell_cells hp6 2 u
  simp [World.cell?, h2]
end Go.Proofs.Ytmlcojhanimnpaa
