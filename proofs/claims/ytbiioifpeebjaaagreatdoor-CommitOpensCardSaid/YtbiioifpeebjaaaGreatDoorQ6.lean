/- The document's reader of terms: a number. · The document's reader of terms: how many parts an op has, public keys, a cut in memory. · The document's reader of terms: which parts fit. · The document's reader of terms: no term, names, texts. · The document's reader of terms: parts. · The document's reader of terms: any term; right terms. -/
import Derived.Test.YtbiioifpeebjaaaGreatDoorQ2
import Derived.Test.YtbiioifpeebjaaaGreatDoorQ5
set_option linter.all false
namespace Go.Proofs.YtbiioifpeebjaaaGreatDoor
open Go.RowKit
def rnumV (at_:Nat):Option (Nat×Nat)->Value
 |some (v,k)=> .tuple #[.int .u64 v,.int .i64 ((at_+k+1:Nat):Int)]
 |none=> .tuple #[.int .u64 0,.int .i64 (-1)]
theorem scan_nil (c:UInt8) (n i:Nat):scan c n i []=none:=by unfold scan;rfl
theorem scan_end (c:UInt8) (n i:Nat) (x:UInt8) (r:List UInt8) (h:x=c) (hi:0<i):scan c n i (x::r)=some (n,i):=by
 unfold scan;rw[if_pos ⟨h,hi⟩]
theorem scan_bad (c:UInt8) (n i:Nat) (x:UInt8) (r:List UInt8) (h: ¬(x=c/\0<i)) (hb:dig x=false\/(n=0/\0<i)):scan c n i (x::r)=none:=by
 unfold scan;rw[if_neg h,if_pos hb]
theorem scan_big (c:UInt8) (n i:Nat) (x:UInt8) (r:List UInt8) (h: ¬(x=c/\0<i)) (hb: ¬(dig x=false\/(n=0/\0<i))) (hg:(9223372036854775807 - (x.toNat - 48)) / 10<n):scan c n i (x::r)=none:=by
 unfold scan;rw[if_neg h,if_neg hb,if_pos hg]
theorem scan_go (c:UInt8) (n i:Nat) (x:UInt8) (r:List UInt8) (h: ¬(x=c/\0<i)) (hb: ¬(dig x=false\/(n=0/\0<i))) (hg: ¬(9223372036854775807 - (x.toNat - 48)) / 10<n):scan c n i (x::r)=scan c (n*10+(x.toNat - 48)) (i+1) r:=by
 conv=>lhs;unfold scan
 rw[if_neg h,if_neg hb,if_neg hg]
theorem dig_no (x:UInt8) (h:x.toNat<48\/57<x.toNat):dig x=false:=by
 cases hd:dig x with
 |false=>rfl
 |true=>have:=dig_iff.1 hd;omega
end Go.Proofs.YtbiioifpeebjaaaGreatDoor
namespace Go.Proofs.YtbiioifpeebjaaaGreatDoor
open Go.RowKit
def arityV (c:UInt8):Int:=match arity c with
 |some n=>(n:Int)
 |none=> -1
def cutV (e d n f:Int) (ks:Value):Value:= .agg #[.int .i64 e,.int .i64 d,.int .u64 n,.int .i64 f,ks]
theorem put5_below {w:World} {o:Obj} (a b c d e:Value):Below w.heap.size w (put5 (w.alloc o) w.heap.size a b c d e):=
 Fr.toBelowOf ((Fr.below (F:=[w.heap.size]) ((Below.refl w.heap.size w).alloc (Nat.le_refl _) o)).trans (put5_fr _ _ _ _ _ _ _ (List.mem_singleton.2 rfl)) (fun i hi _=>hi)) (Nat.le_refl _) (fun i hi=>by simp at hi;omega)
end Go.Proofs.YtbiioifpeebjaaaGreatDoor
namespace Go.Proofs.YtbiioifpeebjaaaGreatDoor
open Go.RowKit
def ints (l:List Nat):List Value:=l.map fun(n:Nat)=> .int .i64 (n:Int)
theorem ints_at {w:World} {A:Option Addr} {l:List Nat} (h:Cells w A (ints l)) {k:Nat} (hk:k<l.length): ∃ad,A=some ad/\w.cell? (ad.add k)=some (.int .i64 (l.getD k 0:Nat)):=by
 obtain⟨ad,he,hc⟩:=h (by unfold ints;rw[List.length_map];omega);refine⟨ad,he,by rw[hc k (.int .i64 (l.getD k 0:Nat)) (by unfold ints;rw[List.getElem?_map,List.getD_eq_getElem?_getD,List.getElem?_eq_getElem hk];rfl)]⟩
end Go.Proofs.YtbiioifpeebjaaaGreatDoor
namespace Go.Proofs.YtbiioifpeebjaaaGreatDoor
open Go.RowKit
theorem put5_low (w:World) (g:Nat) (a b c d e:Value) {B:Nat} (hB:B<=w.heap.size) (hg:B<=g):Below B w (put5 w g a b c d e):=
 (put5_fr w g a b c d e (F:=[g]) (List.mem_singleton.2 rfl)).toBelowOf hB (fun i hi=>by simp at hi;omega)
def RReadP (s:ByteArray) (room at_:Nat) (w:World) (e:Ending) (w':World):Prop:=
 match rd s.data.toList room at_ with
 |some x=> ∃(N F:Int) (A:Option Addr) (cap:Nat),e= .returned (cutV x.fin x.deep N F (.slice A x.kids.length cap))/\(byte s.data.toList at_=110->N=x.num)/\(byte s.data.toList at_=116->F=x.text)/\Cells w' A (ints x.kids)/\Below w.heap.size w w'
 |none=> ∃(d n f:Int) (A:Option Addr) (l c:Nat),e= .returned (cutV (-1) d n f (.slice A l c))/\Below w.heap.size w w'
end Go.Proofs.YtbiioifpeebjaaaGreatDoor
namespace Go.Proofs.YtbiioifpeebjaaaGreatDoor
open Go.RowKit
theorem row_fr {F:List Nat} {w w':World} {base:Nat} {E:TypeId} {v:Value} {xs:List Value} (h:Row w base E v xs) (hf:Fr F w w') (hF: ∀g,v.ownBlock=some g->g∉F):Row w' base E v xs:=by
 rcases h with h|⟨g,off,cap,cur,fr,rfl,hb,hh,r⟩
 ·exact .inl h
 ·exact .inr ⟨g,off,cap,cur,fr,rfl,hb,(hf.block g (lt_of_block hh) (hF g rfl)).trans hh,r⟩
theorem row_cells {w:World} {base n c:Nat} {E:TypeId} {A:Option Addr} {xs:List Value} (h:Row w base E (.slice A n c) xs):Cells w A xs:=by
 obtain⟨A',c',hv,-,hc⟩:=Row.shape h;injection hv with h1 h2 h3;subst h1;exact hc
theorem slInt:SlTy Tryz.prog 52 3 (.int .i64 0) 8:=⟨Tryz.underlying52,by kernel_rfl,rfl⟩
end Go.Proofs.YtbiioifpeebjaaaGreatDoor
namespace Go.Proofs.YtbiioifpeebjaaaGreatDoor
open Go.RowKit
end Go.Proofs.YtbiioifpeebjaaaGreatDoor
