/- The ledger of layer 30 in plain words: what each call answers and leaves, and what stays true of it. -/
import Derived.Test.YtmlcojhanimnpaaMaps
namespace Go.Proofs.Ytmlcojhanimnpaa

structure Chan where
  name : ByteArray
  a : ByteArray
  b : ByteArray
  cap : Int
  hasA : Int
  hasB : Int
structure Leg where
  ch : ByteArray
  src : ByteArray
  amt : Int
structure HoldR where
  id : Int
  legs : List Leg
structure Led where
  coins : List (ByteArray × Int)
  chans : List (ByteArray × Chan)
  holds : List HoldR
  last : Int

def maxCoin : Int := 2100000000000000
def maxMoney : Int := 2100000000000000000
def namedB (s : ByteArray) : Bool := decide (1 ≤ s.size) && decide (s.size ≤ 100)
def okCoin (n : Int) : Bool := decide (0 ≤ n) && decide (n ≤ maxCoin)
theorem perm_sum {l r : List Int} (h : l.Perm r) : l.sum = r.sum := by
  induction h with
  | nil => rfl
  | cons x _ ih => simp [ih]
  | swap x y l => simp; omega
  | trans _ _ a b => exact a.trans b
section sums
variable {α : Type}
def asum (f : α → Int) (l : List (ByteArray × α)) : Int := (l.map fun p => f p.2).sum
theorem asum_nil (f : α → Int) : asum f [] = 0 := rfl
theorem asum_cons (f : α → Int) (p : ByteArray × α) (l : List (ByteArray × α)) : asum f (p :: l) = f p.2 + asum f l := by simp [asum]
theorem asum_append (f : α → Int) (l r : List (ByteArray × α)) : asum f (l ++ r) = asum f l + asum f r := by simp [asum]
theorem asum_mset (f : α → Int) (l : List (ByteArray × α)) (k : ByteArray) (v : α) : asum f (mset l k v) = asum f l - ((mget l k).map f).getD 0 + f v := by
  induction l with
  | nil => simp [mset, mget, asum]
  | cons p r ih =>
    unfold mset mget
    by_cases h : p.1 = k
    · rw [if_pos h, if_pos h, asum_cons, asum_cons]; simp; omega
    · rw [if_neg h, if_neg h, asum_cons, asum_cons, ih]; omega
theorem asum_mdel (f : α → Int) (l : List (ByteArray × α)) (k : ByteArray) : asum f (mdel l k) = asum f l - ((mget l k).map f).getD 0 := by
  induction l with
  | nil => simp [mdel, mget, asum]
  | cons p r ih =>
    unfold mdel mget
    by_cases h : p.1 = k
    · rw [if_pos h, if_pos h, asum_cons]; simp; omega
    · rw [if_neg h, if_neg h, asum_cons, asum_cons, ih]; omega
theorem asum_perm (f : α → Int) {l r : List (ByteArray × α)} (h : l.Perm r) : asum f l = asum f r := by
  unfold asum
  exact perm_sum (h.map _)
theorem asum_nonneg (f : α → Int) (l : List (ByteArray × α)) (h : ∀ p ∈ l, 0 ≤ f p.2) : 0 ≤ asum f l := by
  induction l with
  | nil => simp [asum]
  | cons p r ih =>
    rw [asum_cons]
    have := h p (List.mem_cons_self ..)
    have := ih fun q hq => h q (List.mem_cons_of_mem _ hq)
    omega
theorem asum_ge (f : α → Int) (l : List (ByteArray × α)) (h : ∀ p ∈ l, 0 ≤ f p.2) {k : ByteArray} {v : α} (hk : mget l k = some v) : f v ≤ asum f l := by
  induction l with
  | nil => cases hk
  | cons p r ih =>
    have h0 := h p (List.mem_cons_self ..)
    have h1 := asum_nonneg f r fun q hq => h q (List.mem_cons_of_mem _ hq)
    rw [asum_cons]
    unfold mget at hk
    split at hk
    · injection hk with hk; subst hk; omega
    · have := ih (fun q hq => h q (List.mem_cons_of_mem _ hq)) hk; omega
theorem mset_mem {l : List (ByteArray × α)} {k : ByteArray} {v : α} {p : ByteArray × α} (h : p ∈ mset l k v) : p ∈ l ∨ p = (k, v) := by
  induction l with
  | nil => simp [mset] at h; exact .inr h
  | cons q r ih =>
    unfold mset at h
    split at h
    · rcases List.mem_cons.1 h with h | h
      · exact .inr h
      · exact .inl (List.mem_cons_of_mem _ h)
    · rcases List.mem_cons.1 h with h | h
      · exact .inl (by rw [h]; exact List.mem_cons_self ..)
      · exact (ih h).imp (List.mem_cons_of_mem _) id
theorem mset_length (l : List (ByteArray × α)) (k : ByteArray) (v : α) : (mset l k v).length = if (mget l k).isSome then l.length else l.length + 1 := by
  have h := congrArg List.length (mset_keys l k v)
  rw [List.length_map] at h
  rw [h]
  split <;> simp
theorem mset_isSome (l : List (ByteArray × α)) (k k' : ByteArray) (v : α) (h : (mget l k').isSome = true) : (mget (mset l k v) k').isSome = true := by
  by_cases e : k' = k
  · subst e; rw [mget_mset_same]; rfl
  · rw [mget_mset_other _ _ e]; exact h
end sums
def total (s : Led) : Int := asum id s.coins + asum Chan.cap s.chans

def mint (s : Led) (name : ByteArray) (n : Int) : Int × Led :=
  if namedB name = false then (2, s)
  else if (okCoin n && okCoin (total s + n)) = false then (40, s)
  else if (mget s.coins name).isNone = true ∧ 64 ≤ s.coins.length then (3, s)
  else (0, { s with coins := mset s.coins name ((mget s.coins name).getD 0 + n) })
def both (s : Led) (x y : ByteArray) : Bool := (mget s.coins x).isSome && (mget s.coins y).isSome
def payTo (s : Led) (src dst : ByteArray) (n c : Int) : List (ByteArray × Int) :=
  let l := mset s.coins src ((mget s.coins src).getD 0 - (n + c))
  mset l dst ((mget l dst).getD 0 + n)
def pay (s : Led) (src dst : ByteArray) (n c : Int) : Int × Led :=
  if both s src dst = false then (5, s)
  else if src = dst then (2, s)
  else if (okCoin n && okCoin c) = false then (40, s)
  else if (mget s.coins src).getD 0 < n + c then (170, s)
  else (0, { s with coins := payTo s src dst n c })
def openCh (s : Led) (name a b : ByteArray) (cap push c : Int) : Int × Led :=
  if namedB name = false ∨ a = b then (2, s)
  else if both s a b = false then (5, s)
  else if (mget s.chans name).isSome = true then (6, s)
  else if ¬ (1 ≤ cap ∧ cap ≤ maxCoin ∧ okCoin c = true ∧ 0 ≤ push ∧ push ≤ cap * 1000) then (40, s)
  else if 256 ≤ s.chans.length then (3, s)
  else if (mget s.coins a).getD 0 < cap + c then (170, s)
  else (0, { s with coins := mset s.coins a ((mget s.coins a).getD 0 - (cap + c)), chans := mset s.chans name ⟨name, a, b, cap, cap * 1000 - push, push⟩ })
/-- What a side has, and the channel when it has another amount. -/
def Chan.has (c : Chan) (x : ByteArray) : Option Int := if x = c.a then some c.hasA else if x = c.b then some c.hasB else none
def Chan.put (c : Chan) (x : ByteArray) (n : Int) : Chan := if x = c.a then { c with hasA := n } else { c with hasB := n }
def Chan.other (c : Chan) (x : ByteArray) : ByteArray := if x = c.a then c.b else c.a
def take1 (l : List (ByteArray × Chan)) (x : Leg) : Int × List (ByteArray × Chan) :=
  match mget l x.ch with
  | none => (5, l)
  | some c => match c.has x.src with
    | none => (5, l)
    | some n => if x.amt < 1 ∨ maxMoney < x.amt then (40, l) else if n < x.amt then (170, l) else (0, mset l x.ch (c.put x.src (n - x.amt)))
def takeAll : List (ByteArray × Chan) → List Leg → Int × List (ByteArray × Chan)
  | l, [] => (0, l)
  | l, x :: r => if (take1 l x).1 = 0 then takeAll (take1 l x).2 r else ((take1 l x).1, l)
def hold (s : Led) (legs : List Leg) : Int × Int × Led :=
  if legs.length = 0 ∨ 20 < legs.length then (0, 2, s)
  else if (takeAll s.chans legs).1 ≠ 0 then (0, (takeAll s.chans legs).1, s)
  else if 256 ≤ s.holds.length then (0, 3, s)
  else (s.last + 1, 0, { s with chans := (takeAll s.chans legs).2, holds := s.holds ++ [⟨s.last + 1, legs⟩], last := s.last + 1 })
/-- A leg's amount goes to its other side (settled) or back. -/
def give1 (settled : Bool) (l : List (ByteArray × Chan)) (x : Leg) : List (ByteArray × Chan) :=
  match mget l x.ch with
  | none => l
  | some c => mset l x.ch (c.put (if settled then c.other x.src else x.src) ((c.has (if settled then c.other x.src else x.src)).getD 0 + x.amt))
def giveAll (settled : Bool) (l : List (ByteArray × Chan)) (legs : List Leg) : List (ByteArray × Chan) := legs.foldl (give1 settled) l
def placeOf (l : List HoldR) (id : Int) : Option Nat := l.findIdx? fun h => h.id == id
def endH (settled : Bool) (s : Led) (id : Int) : Int × Led :=
  match placeOf s.holds id with
  | none => (5, s)
  | some i => (0, { s with chans := giveAll settled s.chans ((s.holds[i]?.map HoldR.legs).getD []), holds := s.holds.eraseIdx i })
def heldOn (s : Led) (name : ByteArray) : Bool := s.holds.any fun h => h.legs.any fun x => x.ch == name
def closeTo (s : Led) (c : Chan) (cost : Int) : List (ByteArray × Int) :=
  let l := mset s.coins c.a ((mget s.coins c.a).getD 0 + (c.hasA / 1000 - cost))
  mset l c.b ((mget l c.b).getD 0 + c.hasB / 1000)
def closeCh (s : Led) (name : ByteArray) (cost : Int) : Int × Led :=
  match mget s.chans name with
  | none => (5, s)
  | some c => if okCoin cost = false then (40, s) else if heldOn s name = true then (4, s) else if c.hasA < cost * 1000 then (170, s)
    else (0, { s with coins := closeTo s c cost, chans := mdel s.chans name })
def legSum (p : Leg → Bool) (l : List Leg) : Int := (l.map fun x => if p x then x.amt else 0).sum
def holdSum (p : Leg → Bool) (l : List HoldR) : Int := (l.map fun h => legSum p h.legs).sum
def worth (s : Led) (name : ByteArray) : Int := (mget s.coins name).getD 0 * 1000 + asum (fun c => (c.has name).getD 0) s.chans + holdSum (fun x => x.src == name) s.holds
end Go.Proofs.Ytmlcojhanimnpaa
