/- On: its loops, taken out of its code. -/
import Derived.Test.YtladknjmoahdoaaK19
set_option linter.all false
namespace Go.Proofs.Ytladknjmoahdoaa
open Go.RowKit

theorem wpList_iupd {P : Program} (w : World) {ops : Array Oper} {rest : List Oper} {o : Oper} {a : Act} {Q : Exit → Act → World → Prop} (hg : o.guard = none) (m x v : Operand) (t : TypeId) (hop : o.op = Op.mapUpdate t m x v) (k e : TypeId) (ht : P.underlying t = some (.map k e)) (hk : P.underlying k = some (.int .i64)) (b : Nat) (l : List (Int × Value))
    (hm : a.eval m = .map (some b)) (h : IMap w b l) (key : Int) (val : Value) (hx : a.eval x = .int .i64 key) (hv : a.eval v = val)
    (hK : ∀ w', IMap w' b (imset l key val) → w.grownBy w' (some b) → wpList P ops Q rest (a.put o.dst undef) w') :
    wpList P ops Q (o :: rest) a w := by
  refine wpList_plain hg fun K' hK' => ?_
  obtain ⟨w', hrun, r1, r2⟩ := h.upd ht hk key val
  unfold ikey at hrun
  unfold Oper.wp
  simp [execOp, hop, hm, hx, hv, hrun, Result.andThen]
  exact hK' _ _ (hK w' r1 r2)
theorem zero_write : ∀ w, (zeroValue 77).run Try.prog w = .ok (.agg (wrC ⟨0, 0, zeroP⟩)) w := (zero_of_info (n := 258) (by kernel_rfl)).1
/-- Whose a write is. -/
def OfP (oe : List (Int × Value)) (dn : List (ByteArray × FileM)) : Prop := ∀ e ∈ dn, ∀ r ∈ e.2.f.opens, imget oe (r.no : Int) = some (encP e.2.bl)
theorem wrC_all (x : WrT) : (wrC x).all (·.oneCell') = true := Array.all_eq_true_iff_forall_mem.2 fun v hv => wrL_one x v (by unfold wrL; simpa using hv)
theorem apart_files {d : DiskT} (hi : Inv d) {es dn tx : List (ByteArray × FileM)} {k : ByteArray} {x : FileM} (he : d.files = menc FileM.f es) (hp : es.Perm (dn ++ (k, x) :: tx)) : (∀ e ∈ dn, ∀ r ∈ e.2.f.opens, ∀ r' ∈ x.f.opens, r.no ≠ r'.no) ∧ k ∉ dn.map Prod.fst := by
  have h1 := hi.apart
  unfold opensD at h1
  rw [he] at h1
  have hp2 := ((hp.map (fun p : ByteArray × FileM => (p.1, p.2.f))).flatMap_right (fun p : ByteArray × FileT => p.2.opens)).map WrT.no
  have h2 := hp2.nodup_iff.1 h1
  rw [List.map_append, List.map_cons, List.flatMap_append, List.flatMap_cons, List.map_append, List.map_append, List.nodup_append] at h2
  refine ⟨fun e he r hr r' hr' e2 => h2.2.2 r.no (List.mem_map.2 ⟨r, List.mem_flatMap.2 ⟨_, List.mem_map.2 ⟨e, he, rfl⟩, hr⟩, rfl⟩) r'.no (List.mem_append_left _ (List.mem_map.2 ⟨r', hr', rfl⟩)) e2, fun hk => ?_⟩
  have h3 := hi.nodup
  rw [he, menc_keys] at h3
  have h4 := (hp.map Prod.fst).nodup_iff.1 h3
  rw [List.map_append, List.map_cons, List.nodup_append] at h4
  exact h4.2.2 k hk k (List.mem_cons_self ..) rfl
/-- The loops of a piece of code, one behind the other. -/
def loopsOf : Code → List Code
  | .loop c => [c]
  | .seq a b => loopsOf a ++ loopsOf b
  | .block _ c => loopsOf c
  | .scope c => loopsOf c
  | .cond _ a b => loopsOf a ++ loopsOf b
  | _ => []
noncomputable def onLoop (k : Nat) : Code := ((Try.f10.body.map loopsOf).getD []).getD k .skip
noncomputable def onInner : Code := (loopsOf (onLoop 0)).getD 0 .skip
end Go.Proofs.Ytladknjmoahdoaa
