/- Words for memory that the walks of this seat share: a slice that reads as a list, a row of the call's own, and what an append leaves. · A slice of the call's own that may begin anywhere in its block: what it holds, what reslicing and appending do to it. · Slices of the call's own whose elements have several cells: what appending any readable slice leaves. -/
import Derived.WalkKit
import Derived.WalkSpells
import Derived.WalkLawsBesides
import Derived.Lib.Hide
import Derived.Maps.AppendAt
import Derived.Deep.AppendLies
import Derived.Deep.Draws
import Derived.Laws.BytesArg
import Derived.Laws.IdiomStrings
import Derived.ArgAppend
import Derived.Laws.IdiomCopy
set_option linter.all false
namespace Go.Proofs.YtbiioifpeebjaaaGreatDoor
theorem zH {p:Prop} (h:p):Go.RowKit.Hid p:=h
theorem zP {α:Type}:(∀(l:List α) (i:Nat) (a:α),l.toArray.setIfInBounds i a=(l.set i a).toArray)/\(∀(l:List α) (x a:α),(x::l).set 0 a=a::l)/\ ∀(l:List α) (x a:α) (n:Nat),(x::l).set (n+1) a=x::l.set n a:=⟨fun _ _ _=>List.setIfInBounds_toArray _ _ _,fun _ _ _=>rfl,fun _ _ _ _=>rfl⟩
abbrev zO0 (a0:Int) (a1:Int) (a2:Int) (a3:Int) (a4:Int) (a5:Int) (a6:Int) (a7:Int) (a8:Int):Obj:= .cells #[.int .i64 a0,.int .i64 a1,.int .i64 a2,.int .i64 a3,.int .i64 a4,.int .i64 a5,.int .i64 a6,.int .i64 a7,.int .i64 a8] 23
abbrev zO1 (a0:Int) (a1:Int) (a2:ByteArray) (a3:Option Addr)(a4 a5:Nat) (a6:Int):Obj:= .cells #[.int .u8 a0,.int .i64 a1,.string a2,.slice a3 a4 a5,.int .i64 a6] 134
abbrev zO2 (a0:Int) (a1:ByteArray) (a2:Int) (a3:Option Addr)(a4 a5:Nat):Obj:= .cells #[.int .u8 a0,.string a1,.int .i64 a2,.slice a3 a4 a5] 35
abbrev zO3 (a0:ByteArray) (a1:ByteArray) (a2:ByteArray) (a3:ByteArray) (a4:ByteArray):Obj:= .cells #[.string a0,.string a1,.string a2,.string a3,.string a4] 30
abbrev zO4 (a0:Bool) (a1:Int) (a2:Int) (a3:ByteArray) (a4:Int):Obj:= .cells #[.bool a0,.int .i64 a1,.int .i64 a2,.string a3,.int .i64 a4] 38
abbrev zO5 (a0:Int) (a1:Int) (a2:ByteArray) (a3:Int) (a4:Option Addr)(a5 a6:Nat) (a7:Int) (a8:ByteArray):Obj:= .cells #[.int .i64 a0,.int .u8 a1,.string a2,.int .i64 a3,.slice a4 a5 a6,.int .i64 a7,.string a8] 78
abbrev zO6 (a0:Option Addr)(a1 a2:Nat) (a3:Option Addr)(a4 a5:Nat) (a6:Int) (a7:Int):Obj:= .cells #[.slice a0 a1 a2,.slice a3 a4 a5,.int .i64 a6,.int .i64 a7] 51
abbrev zO7 (a0:Int) (a1:ByteArray) (a2:Int) (a3:Option Addr)(a4 a5:Nat) (a6:Int) (a7:ByteArray) (a8:Int) (a9:Option Addr)(a10 a11:Nat) (a12:Int) (a13:ByteArray) (a14:Int) (a15:Option Addr)(a16 a17:Nat):Obj:= .cells #[.int .u8 a0,.string a1,.int .i64 a2,.slice a3 a4 a5,.int .u8 a6,.string a7,.int .i64 a8,.slice a9 a10 a11,.int .u8 a12,.string a13,.int .i64 a14,.slice a15 a16 a17] 35
abbrev zO8 (a0:Int) (a1:Int) (a2:Int) (a3:Option Addr)(a4 a5:Nat):Obj:= .cells #[.int .i64 a0,.int .i64 a1,.int .i64 a2,.slice a3 a4 a5] 61
abbrev zO9 (a0:Int) (a1:ByteArray) (a2:Int) (a3:Option Addr)(a4 a5:Nat) (a6:Int) (a7:ByteArray) (a8:Int) (a9:Option Addr)(a10 a11:Nat):Obj:= .cells #[.int .u8 a0,.string a1,.int .i64 a2,.slice a3 a4 a5,.int .u8 a6,.string a7,.int .i64 a8,.slice a9 a10 a11] 35
abbrev zO10 (a0:ByteArray) (a1:Int):Obj:= .cells #[.string a0,.int .i64 a1] 56
abbrev zO11 (a0:Int) (a1:Int) (a2:ByteArray) (a3:Int) (a4:Option Addr)(a5 a6:Nat):Obj:= .cells #[.int .i64 a0,.int .u8 a1,.string a2,.int .i64 a3,.slice a4 a5 a6] 63
abbrev zO12 (a0:ByteArray) (a1:Int) (a2:Int):Obj:= .cells #[.string a0,.int .i64 a1,.int .i64 a2] 107
abbrev zO13 (a0:Int) (a1:Int) (a2:ByteArray) (a3:Option Addr)(a4 a5:Nat):Obj:= .cells #[.int .u8 a0,.int .i64 a1,.string a2,.slice a3 a4 a5] 132
abbrev zO14 (a0:Int) (a1:Int):Obj:= .cells #[.int .i64 a0,.int .i64 a1] 2
abbrev zO15 (a0:Int) (a1:Int):Obj:= .cells #[.int .u64 a0,.int .u64 a1] 90
abbrev zO16 (a0:Int) (a1:Int):Obj:= .cells #[.int .i64 a0,.int .i64 a1] 3
abbrev zO17 (a0:ByteArray):Obj:= .cells #[.string a0] 28
open Go.RowKit
def bv (l:List UInt8):List Value:=l.map fun b=> .int .u8 (b.toNat:Int)
theorem ret_int {k:IntKind} {a b:Int} (h:a=b):Ending.returned (.int k a)=Ending.returned (.int k b):=by rw[h]
theorem ret_bool {a b:Bool} (h:a=b):Ending.returned (.bool a)=Ending.returned (.bool b):=by rw[h]
theorem bv_length (l:List UInt8):(bv l).length=l.length:=by simp[bv]
theorem bv_append (a b:List UInt8):bv (a++b)=bv a++bv b:=by simp[bv]
theorem bv_snoc (l:List UInt8) (b:UInt8):bv (l++[b])=bv l++[.int .u8 (b.toNat:Int)]:=by simp[bv]
theorem bv_get (l:List UInt8) (k:Nat) (h:k<l.length):(bv l)[k]? =some (.int .u8 (l[k].toNat:Int)):=by simp[bv,h]
theorem bv_one (l:List UInt8): ∀u∈bv l,u.oneCell'=true:=by
 intro u hu;simp only[bv,List.mem_map]at hu;obtain⟨b,_,rfl⟩:=hu;rfl
def Cells (w:World) (A:Option Addr) (xs:List Value):Prop:=
 0<xs.length-> ∃ad,A=some ad/\ ∀j u,xs[j]? =some u->w.cell? (ad.add j)=some u
theorem cell_lt {w:World} {a:Addr} {v:Value} (h:w.cell? a=some v):a.block<w.heap.size:=by
 rcases Nat.lt_or_ge a.block w.heap.size with hl|hl
 ·exact hl
 ·simp[World.cell?,Array.getElem?_eq_none hl]at h
theorem cell_below {w w':World} {a:Addr} {v:Value} (hb:Below w.heap.size w w') (h:w.cell? a=some v):w'.cell? a=some v:=(hb.cell (cell_lt h)).trans h
theorem Cells.nil (w:World) (A:Option Addr):Cells w A []:=fun h=>absurd h (by simp)
theorem Cells.at_ {w:World} {A:Option Addr} {xs:List Value} (h:Cells w A xs) {k:Nat} (hk:k<xs.length): ∃ad,A=some ad/\w.cell? (ad.add k)=some xs[k]:=by
 obtain⟨ad,e,hc⟩:=h (by omega);exact⟨ad,e,hc k _ (List.getElem?_eq_getElem hk)⟩
theorem Cells.byte {w:World} {A:Option Addr} {l:List UInt8} (h:Cells w A (bv l)) {k:Nat} (hk:k<l.length): ∃ad,A=some ad/\w.cell? (ad.add k)=some (.int .u8 (l[k].toNat:Int)):=by
 obtain⟨ad,e,hc⟩:=h.at_ (k:=k) (by simpa [bv_length]using hk);exact⟨ad,e,by rw[hc];simp[bv]⟩
theorem Cells.keep {w w':World} {A:Option Addr} {xs:List Value} (h:Cells w A xs) (hk: ∀p v,w.cell? p=some v->w'.cell? p=some v):Cells w' A xs:=fun hn=>by
 obtain⟨ad,e,hc⟩:=h hn;exact⟨ad,e,fun j u hu=>hk _ _ (hc j u hu)⟩
theorem Cells.below {w w':World} {A:Option Addr} {xs:List Value} (h:Cells w A xs) (hb:Below w.heap.size w w'):Cells w' A xs:=h.keep fun _ _ hc=>cell_below hb hc
theorem Cells.drew {w:World} {A:Option Addr} {xs:List Value} (h:Cells w A xs):Cells w.drew A xs:=h
theorem Cells.drewN {w:World} {A:Option Addr} {xs:List Value} (h:Cells w A xs) (n:Nat):Cells (w.drewN n) A xs:=h
theorem Cells.alloc {w:World} {A:Option Addr} {xs:List Value} (h:Cells w A xs) (o:Obj):Cells (w.alloc o) A xs:=
 h.below ((Below.refl _ _).alloc (Nat.le_refl _) o)
theorem Cells.other {w w':World} {A:Option Addr} {xs:List Value} {B:Nat} {u:Value} {t:TypeId} {fr:Nat×Nat} (h:Cells w A xs) (hB:w.heap[B]? =some (.cells #[u] t fr)) (hne:u∉xs) (hg:w.grownBy w' (some B)):Cells w' A xs:=fun hn=>by
 obtain⟨ad,e,hc⟩:=h hn;refine⟨ad,e,fun j v hv=> ?_⟩;have hcell:=hc j v hv;have hlt:=cell_lt hcell;by_cases hb:(ad.add j).block=B
 ·exfalso;refine hne ?_;unfold World.cell? at hcell;rw[hb,hB]at hcell;simp only at hcell;split at hcell
  ·cases hcell
  ·have:(ad.add j).off=0:=by
    rcases Nat.eq_zero_or_pos (ad.add j).off with h0|h0
    ·exact h0
    ·rw[Array.getElem?_eq_none (by simp;omega)]at hcell;cases hcell
   rw[this]at hcell;simp at hcell;rw[hcell];exact List.mem_of_getElem? hv
 ·exact(World.cell?_of_block (hg.block _ hlt (by simpa using hb))).trans hcell
def Own1 (w:World) (base:Nat) (E:TypeId) (v:Value) (xs:List Value):Prop:=w.ownsRow base E 1 v xs.length xs
theorem Own1.nil (w:World) (base:Nat) (E:TypeId):Own1 w base E (.slice none 0 0) []:=World.ownsRow_nil _ _ _ _
theorem Own1.shape {w:World} {base:Nat} {E:TypeId} {v:Value} {xs:List Value} (h:Own1 w base E v xs):
 ∃A c,v= .slice A xs.length c/\xs.length<=c/\Cells w A xs:=by
 have hc:=h;rcases h.2 with⟨rfl,hn⟩|⟨g,cap,cur,rfl,_,_,hnc,_⟩
 ·exact⟨none,0,by rw[hn],by omega,fun h=>absurd h (by omega)⟩
 ·exact⟨_,cap,rfl,hnc,fun _=>⟨_,rfl,World.ownsRow.cells hc rfl⟩⟩
theorem Own1.alloc {w:World} {base:Nat} {E:TypeId} {v:Value} {xs:List Value} (h:Own1 w base E v xs) (o:Obj):Own1 (w.alloc o) base E v xs:=World.ownsRow.alloc h o
theorem Own1.drewN {w:World} {base:Nat} {E:TypeId} {v:Value} {xs:List Value} (h:Own1 w base E v xs) (n:Nat):Own1 (w.drewN n) base E v xs:=h
theorem below_drewN {B:Nat} {a w:World} (h:Below B a w) (n:Nat):Below B a (w.drewN n):=⟨h.os,h.tape,h.output,h.size,h.block⟩
theorem grown_of_below {w w':World} (h:Below w.heap.size w w') (row:Option Nat):w.grownBy w' row:=⟨h.os,h.tape,h.output,h.size,fun i hi _=>h.block i hi⟩
theorem Own1.grown {w w':World} {base:Nat} {E:TypeId} {v:Value} {xs:List Value} {row:Option Nat} (h:Own1 w base E v xs) (hg:w.grownBy w' row) (hne:v.ownBlock=none\/v.ownBlock≠row):Own1 w' base E v xs:=
 World.ownsRow.kept h hg hne
theorem only_drew {a w:World} {row:Option Nat} (h:a.grownBy w row):a.grownBy w.drew row:=⟨h.os,h.tape,h.output,h.size,h.block⟩
theorem only_drewN {a w:World} {row:Option Nat} (h:a.grownBy w row) (n:Nat):a.grownBy (w.drewN n) row:=⟨h.os,h.tape,h.output,h.size,h.block⟩
theorem only_alloc {a w:World} {row:Option Nat} (h:a.grownBy w row) (o:Obj):a.grownBy (w.alloc o) row:=
 ⟨h.os,h.tape,h.output,Nat.le_trans h.size (by simp),fun i hi hne=>(Below.heap_alloc w o i (Nat.lt_of_lt_of_le hi h.size)).trans (h.block i hi hne)⟩
theorem only_setCell {a w:World} {g:Nat} (h:a.grownBy w (some g)) {p:Addr} (hp:p.block=g\/a.heap.size<=p.block) (u:Value):a.grownBy (w.setCell p u) (some g):=
 ⟨h.os,h.tape,h.output,by simpa [World.setCell]using h.size,fun i hi hne=>(Below.heap_setCell w p u i (by
  rintro rfl;rcases hp with hp|hp
  ·exact hne (by rw[hp])
  ·omega)).trans (h.block i hi hne)⟩
theorem Own1.below {w w':World} {base:Nat} {E:TypeId} {v:Value} {xs:List Value} (h:Own1 w base E v xs) (hb:Below w.heap.size w w'):Own1 w' base E v xs:=
 h.grown (grown_of_below hb none) (by cases hv:v.ownBlock<;>simp)
theorem Own1.base_le {w:World} {base base':Nat} {E:TypeId} {v:Value} {xs:List Value} (h:Own1 w base E v xs) (hb:base'<=base):Own1 w base' E v xs:=by
 refine⟨h.1, ?_⟩;rcases h.2 with h|⟨g,cap,cur,rfl,hg,rest⟩
 ·exact .inl h
 ·exact .inr ⟨g,cap,cur,rfl,by omega,rest⟩
theorem conv_str {P:Program} {w:World} {A:Option Addr} {l:List UInt8} (h:Cells w A (bv l)) (c:Nat) (src dst e:TypeId) (hs:P.underlying src=some (.slice e)) (he:P.underlying e=some (.int .u8)) (hd:P.underlying dst=some .string):
 (convert src dst (.slice A l.length c)).run P w= .ok (.string ⟨l.toArray⟩) w:=by
 rcases A with _|ad
 ·have hl:l=[]:=by
   cases l with
   |nil=>rfl
   |cons b l=>obtain⟨ad,he,_⟩:=h (by simp[bv]);cases he
  subst hl;exact run_convert_bytes_nil w src e hs he _ _ dst hd
 ·refine run_convert_bytes_back w src dst e ad c l hs he hd fun j hj=> ?_
  obtain⟨ad',he,hc⟩:=h.byte hj;injection he with he;subst he;exact hc
structure SlTy (P:Program) (T E:TypeId) (z:Value) (bytes:Nat):Prop where
 ul:P.underlying T=some (.slice E)
 info:(P.info? E).map (fun i=>(i.zero,i.size,i.bytes))=some (some z,1,bytes)
 one:z.cells.size=1
theorem wpList_app {P:Program} {w:World} {ops:Array Oper} {rest:List Oper} {o:Oper} {a:Act} {Q:Exit->Act->World->Prop} {T E:TypeId} {z:Value} {bytes:Nat}
 (S:SlTy P T E z bytes) (hgd:o.guard=none) (s x:Operand)
 (ho:o.op= .call {callee:= .builtin .append,args:= #[s,x],argTypes:= #[T,T]})
 (base:Nat) (v:Value) (xs:List Value) (hs:a.eval s=v) (hown:Own1 w base E v xs)
 (ad:Addr) (m c:Nat) (news:List Value) (hx:a.eval x= .slice (some ad) m c) (hl:news.length=m) (hnews: ∀j u,news[j]? =some u->w.cell? (ad.add j)=some u) (h1: ∀u∈news,u.oneCell'=true)
 (hlen:(xs.length+m)*bytes<=140737488355328) (h63:xs.length+m<=140737488355328) (hbase:base<=w.heap.size)
 (h: ∀v' w',Own1 w' base E v' (xs++news)->w.grownBy w' v.ownBlock->(v'.ownBlock=v.ownBlock\/v'.ownBlock=some w.heap.size)->wpList P ops Q rest (a.put o.dst v') w'):
 wpList P ops Q (o::rest) a w:=by
 obtain⟨i,hi,hz0,hz1,hz2⟩:=info_parts S.info;refine wpList_append_own_at w hgd s x T ho base E i z 1 bytes S.ul hi hz0 hz1 hz2 S.one (by decide) v xs.length xs hs hown ad m c news hx (by omega) hnews h1 (by unfold maxLen;omega) hlen hbase ?_;intro v' w' h2 hg _ hat;refine h v' w' ?_ hg hat;unfold Own1;rw[List.length_append,hl];exact h2
theorem wpList_app1 {P:Program} {w:World} {ops:Array Oper} {rest:List Oper} {o:Oper} {a:Act} {Q:Exit->Act->World->Prop} {T E:TypeId} {z:Value} {bytes:Nat}
 (S:SlTy P T E z bytes) (hgd:o.guard=none) (s x:Operand)
 (ho:o.op= .call {callee:= .builtin .append,args:= #[s,x],argTypes:= #[T,T]})
 (base:Nat) (v:Value) (xs:List Value) (hs:a.eval s=v) (hown:Own1 w base E v xs)
 (y:Value) (hx:a.eval x= .slice (some ⟨w.heap.size,0,none⟩) 1 1) (h1:y.oneCell'=true)
 (hlen:(xs.length+1)*bytes<=140737488355328) (h63:xs.length+1<=140737488355328) (hbase:base<=w.heap.size) (hv: ∀k,v.ownBlock=some k->base<=k)
 (h: ∀v' w',Own1 w' base E v' (xs++[y])->w.grownBy w' v.ownBlock->Below base w w'->(v'.ownBlock=v.ownBlock\/v'.ownBlock=some (w.heap.size+1))->wpList P ops Q rest (a.put o.dst v') w'):
 wpList P ops Q (o::rest) a (w.alloc (.cells #[y] E)):=by
 refine wpList_app S hgd s x ho base v xs hs (hown.alloc _) ⟨w.heap.size,0,none⟩ 1 1 [y] hx rfl (cell_one_new _ _ _) (by simpa using h1) hlen h63 (by simp;omega) ?_;intro v' w' h2 hg hat;have hg':w.grownBy w' v.ownBlock:=(World.grownBy_alloc w _ _).trans hg;exact h v' w' h2 hg' ((Below.refl _ _).grown hg' hbase hv) (by simpa using hat)
theorem Own1.own_ge {w:World} {base:Nat} {E:TypeId} {v:Value} {xs:List Value} (h:Own1 w base E v xs): ∀k,v.ownBlock=some k->base<=k:=fun k hk=>(World.ownsRow.lt h k hk).1
theorem Own1.own_lt {w:World} {base:Nat} {E:TypeId} {v:Value} {xs:List Value} (h:Own1 w base E v xs): ∀k,v.ownBlock=some k->k<w.heap.size:=fun k hk=>(World.ownsRow.lt h k hk).2
theorem step_app1 {P:Program} {w:World} {ops:Array Oper} {o:Oper} {a:Act} {K:Act->World->Prop} {Q:Exit->Act->World->Prop} {F:Prop} {T E:TypeId} {z:Value} {bytes:Nat}
 (S:SlTy P T E z bytes) (hgd:o.guard=none) (s x:Operand)
 (ho:o.op= .call {callee:= .builtin .append,args:= #[s,x],argTypes:= #[T,T]})
 (base:Nat) (v:Value) (xs:List Value) (hs:a.eval s=v) (hown:Own1 w base E v xs)
 (y:Value) (ad:Addr) (c:Nat) (hx:a.eval x= .slice (some ad) 1 c) (hy:w.cell? ad=some y) (h1:y.oneCell'=true)
 (hlen:(xs.length+1)*bytes<=140737488355328) (h63:xs.length+1<=140737488355328) (hbase:base<=w.heap.size)
 (h: ∀v' w',Own1 w' base E v' (xs++[y])->w.grownBy w' v.ownBlock->Below base w w'->(v'.ownBlock=v.ownBlock\/v'.ownBlock=some w.heap.size)->K (a.put o.dst v') w'):
 if Region.wanted o (yielded ops a.tmps)=true then Oper.wp P o a w K Q else F:=by
 have hw:Region.wanted o (yielded ops a.tmps)=true:=by simp[Region.wanted,hgd]
 rw[if_pos hw];obtain⟨i,hi,hz0,hz1,hz2⟩:=info_parts S.info;obtain⟨v',w',hr,h2,hg,_,hat⟩:=run_append_own_at (P:=P) w base T o.type E i z 1 bytes S.ul hi hz0 hz1 hz2 S.one (by decide) v xs.length xs hown ad 1 c [y] rfl
  (fun j u hj=>by
   match j,hj with
   |0,hj=>
    have hj':some y=some u:=hj;rw[<-hj'];exact hy)
  (by simpa using h1) (by unfold maxLen;omega) hlen hbase
 unfold Oper.wp execOp;simp only[ho,resolve,invoke,builtin,Sem.run_bind,Sem.run_pure,Result.andThen_ok,List.map_toArray,List.map_cons,List.map_nil,hs,hx,hr];refine h v' w' ?_ hg ((Below.refl _ _).grown hg hbase (fun k hk=>(World.ownsRow.lt hown k hk).1)) hat;unfold Own1;rw[List.length_append];exact h2
end Go.Proofs.YtbiioifpeebjaaaGreatDoor
namespace Go.Proofs.YtbiioifpeebjaaaGreatDoor
open Go.RowKit
def Free (fr:Nat×Nat) (n:Nat):Prop:= ∀i,i<n-> ¬(fr.1<=i/\i<fr.2)
theorem Free.none (n:Nat):Free (0,0) n:=fun i _ h=>absurd h.2 (Nat.not_lt_zero i)
def Row (w:World) (base:Nat) (E:TypeId) (v:Value) (xs:List Value):Prop:=
 (v= .slice none 0 0/\xs=[])\/
 ∃g off cap cur fr,v= .slice (some ⟨g,off,none⟩) xs.length cap/\base<=g/\w.heap[g]? =some (.cells cur E fr)/\Free fr cur.size/\xs.length<=cap/\cap<=maxLen/\off+cap<=cur.size/\(cur.toList.drop off).take xs.length=xs
theorem Cells.take {w:World} {A:Option Addr} {xs:List Value} (h:Cells w A xs) (k:Nat):Cells w A (xs.take k):=fun hn=>by
 obtain⟨ad,e,hc⟩:=h (by rw[List.length_take]at hn;omega);refine⟨ad,e,fun j u hj=>hc j u ?_⟩;rw[List.getElem?_take]at hj;split at hj
 ·exact hj
 ·cases hj
theorem Row.nil (w:World) (base:Nat) (E:TypeId):Row w base E (.slice none 0 0) []:= .inl ⟨rfl,rfl⟩
theorem Row.of_own {w:World} {base:Nat} {E:TypeId} {v:Value} {xs:List Value} (h:Own1 w base E v xs):Row w base E v xs:=by
 rcases h.2 with⟨rfl,hn⟩|⟨g,cap,cur,rfl,hg,hh,hnc,hm,hs,ht⟩
 ·exact .inl ⟨rfl,List.eq_nil_of_length_eq_zero hn⟩
 ·exact .inr ⟨g,0,cap,cur,(0,0),rfl,hg,hh,Free.none _,hnc,hm,by omega,by simpa using ht⟩
theorem Row.cellAt {w:World} {base:Nat} {E:TypeId} {g off cap:Nat} {xs:List Value} (h:Row w base E (.slice (some ⟨g,off,none⟩) xs.length cap) xs) (j:Nat) (u:Value) (hj:xs[j]? =some u):w.cell? ⟨g,off+j,none⟩=some u:=by
 rcases h with⟨h,_⟩|⟨g',off',cap',cur,fr,he,_,hh,_,_,_,hc,ht⟩
 ·cases h
 ·injection he with he1 _ he2;injection he1 with he1;injection he1 with h1 h2 _;subst h1;subst h2;subst he2;rw[<-ht,List.getElem?_take]at hj;split at hj
  ·rw[List.getElem?_drop]at hj;simp only[World.cell?,hh];simpa using hj
  ·cases hj
theorem Row.shape {w:World} {base:Nat} {E:TypeId} {v:Value} {xs:List Value} (h:Row w base E v xs): ∃A c,v= .slice A xs.length c/\xs.length<=c/\Cells w A xs:=by
 have h0:=h;rcases h with⟨rfl,rfl⟩|⟨g,off,cap,cur,fr,rfl,_,hh,_,hnc,_,hc,ht⟩
 ·exact⟨none,0,rfl,by simp,Cells.nil _ _⟩
 ·refine⟨_,cap,rfl,hnc,fun _=>⟨_,rfl,fun j u hj=> ?_⟩⟩;have:=h0.cellAt j u hj;unfold Addr.add;split
  ·rename_i hz;subst hz;exact this
  ·exact this
theorem Row.alloc {w:World} {base:Nat} {E:TypeId} {v:Value} {xs:List Value} (h:Row w base E v xs) (o:Obj):Row (w.alloc o) base E v xs:=by
 rcases h with h|⟨g,off,cap,cur,fr,rfl,hb,hh,r⟩
 ·exact .inl h
 ·exact .inr ⟨g,off,cap,cur,fr,rfl,hb,(Below.heap_alloc w o g (lt_of_block hh)).trans hh,r⟩
theorem Row.grown {w w':World} {base:Nat} {E:TypeId} {v:Value} {xs:List Value} {row:Option Nat} (h:Row w base E v xs) (hg:w.grownBy w' row) (hne:v.ownBlock=none\/v.ownBlock≠row):Row w' base E v xs:=by
 rcases h with h|⟨g,off,cap,cur,fr,rfl,hb,hh,r⟩
 ·exact .inl h
 ·refine .inr ⟨g,off,cap,cur,fr,rfl,hb,(hg.block g (lt_of_block hh) ?_).trans hh,r⟩;rcases hne with h|h
  ·cases h
  ·exact h
theorem Row.below {w w':World} {base:Nat} {E:TypeId} {v:Value} {xs:List Value} (h:Row w base E v xs) (hb:Below w.heap.size w w'):Row w' base E v xs:=
 h.grown (grown_of_below hb none) (by cases v.ownBlock<;>simp)
theorem Row.drewN {w:World} {base:Nat} {E:TypeId} {v:Value} {xs:List Value} (h:Row w base E v xs) (n:Nat):Row (w.drewN n) base E v xs:=h
theorem Row.base_le {w:World} {base base':Nat} {E:TypeId} {v:Value} {xs:List Value} (h:Row w base E v xs) (hb:base'<=base):Row w base' E v xs:=by
 rcases h with h|⟨g,off,cap,cur,fr,rfl,hg,r⟩
 ·exact .inl h
 ·exact .inr ⟨g,off,cap,cur,fr,rfl,by omega,r⟩
theorem Row.own {w:World} {base:Nat} {E:TypeId} {v:Value} {xs:List Value} (h:Row w base E v xs): ∀k,v.ownBlock=some k->base<=k/\k<w.heap.size:=by
 intro k hk;rcases h with⟨rfl,_⟩|⟨g,off,cap,cur,fr,rfl,hg,hh,_⟩
 ·cases hk
 ·injection hk with hk;subst hk;exact⟨hg,lt_of_block hh⟩
theorem Row.drop {w:World} {base:Nat} {E:TypeId} {A:Option Addr} {n cap:Nat} {xs:List Value} (h:Row w base E (.slice A n cap) xs) {k:Nat} (hk:k<=n):
 Row w base E (.slice (if cap=k then A else A.map (·.add k)) (n - k) (cap - k)) (xs.drop k):=by
 rcases h with⟨h,rfl⟩|⟨g,off,cap',cur,fr,he,hg,hh,hfr,hnc,hm,hc,ht⟩
 ·injection h with h1 h2 h3;subst h1;subst h2;subst h3;have:k=0:=by omega
  subst this;exact .inl ⟨by simp,by simp⟩
 ·injection he with h1 h2 h3;subst h1;subst h2;subst h3;have hxs:(cur.toList.drop (off+k)).take (xs.length - k)=xs.drop k:=by
   have h':=congrArg (List.drop k) ht;rw[List.drop_take,List.drop_drop]at h';exact h'
  by_cases hck:cap=k
  ·subst hck;have hx:xs.drop cap=[]:=List.drop_of_length_le (by omega);rw[if_pos rfl,hx,show xs.length - cap=0 by omega,show cap - cap=0 by omega];exact .inr ⟨g,off,0,cur,fr,rfl,hg,hh,hfr,Nat.le_refl _,Nat.zero_le _,by omega,by simp⟩
  ·rw[if_neg hck];refine .inr ⟨g,off+k,cap - k,cur,fr, ?_,hg,hh,hfr,by rw[List.length_drop];omega,by omega,by omega,by rw[List.length_drop];exact hxs⟩;rw[List.length_drop];simp only[Option.map_some];congr 2;unfold Addr.add;split
   ·rename_i hz;subst hz;rfl
   ·rfl
theorem own_drop {A:Option Addr} {n c k j m d:Nat} (h:(Value.slice (if c=k then A else A.map (·.add k)) m d).ownBlock=some j):(Value.slice A n c).ownBlock=some j:=by
 split at h
 ·cases A with
  |none=>cases h
  |some ad=>exact h
 ·cases A with
  |none=>cases h
  |some ad=>
   simp only[Option.map_some,Value.ownBlock]at h⊢;rw[<-h];unfold Addr.add;split<;>rfl
theorem own_apart {w:World} {base:Nat} {E:TypeId} {v u:Value} {xs:List Value} (h:Row w base E u xs) (hv: ∀k,v.ownBlock=some k->k<base):v.ownBlock=none\/v.ownBlock≠u.ownBlock:=by
 cases hb:v.ownBlock with
 |none=>exact .inl rfl
 |some k=>
  refine .inr fun e=> ?_
  have h1:=hv k hb;have h2:=(h.own k e.symm).1;omega
theorem apart_symm {a b:Option Nat} (h:a=none\/a≠b):b=none\/b≠a:=by
 cases b with
 |none=>exact .inl rfl
 |some k=>
  rcases h with h|h
  ·exact .inr (by rw[h];simp)
  ·exact .inr (Ne.symm h)
theorem apart_new {w:World} {base:Nat} {E:TypeId} {u:Value} {xs:List Value} (h:Row w base E u xs) {a a':Option Nat} (ha:a=none\/a≠u.ownBlock) {k:Nat} (hk:w.heap.size<=k) (hat:a'=a\/a'=some k):a'=none\/a'≠u.ownBlock:=by
 rcases hat with e|e
 ·rw[e];exact ha
 ·refine .inr fun e2=> ?_
  have:=(h.own k (by rw[<-e2,e])).2;omega
theorem Row.take {w:World} {base:Nat} {E:TypeId} {A:Option Addr} {n cap:Nat} {xs:List Value} (h:Row w base E (.slice A n cap) xs) {k:Nat} (hk:k<=n):Row w base E (.slice A k cap) (xs.take k):=by
 rcases h with⟨h,rfl⟩|⟨g,off,cap',cur,fr,he,hg,hh,hfr,hnc,hm,hc,ht⟩
 ·injection h with h1 h2 h3;subst h1;subst h2;subst h3;have:k=0:=by omega
  subst this;exact .inl ⟨rfl,rfl⟩
 ·injection he with h1 h2 h3;subst h1;subst h2;subst h3;have hl:(xs.take k).length=k:=by rw[List.length_take];omega
  refine .inr ⟨g,off,cap,cur,fr,by rw[hl],hg,hh,hfr,by omega,hm,hc, ?_⟩;rw[hl];have:=congrArg (List.take k) ht;rw[List.take_take,Nat.min_eq_left hk]at this;exact this
theorem setCells_block {g:Nat} {E:TypeId} {fr:Nat×Nat}: ∀(vs:List Value) (o:Nat) (w:World) (cur:Array Value),w.heap[g]? =some (.cells cur E fr)->o+vs.length<=cur.size->
 ∃cur',(w.setCells g o vs).heap[g]? =some (.cells cur' E fr)/\cur'.size=cur.size/\cur'.toList=cur.toList.take o++vs++cur.toList.drop (o+vs.length)/\w.grownBy (w.setCells g o vs) (some g):=by
 intro vs
 induction vs with
 |nil=>intro o w cur h _;exact⟨cur,h,rfl,by simp,World.grownBy.refl w _⟩
 |cons v vs ih=>
  intro o w cur h hl;simp only[List.length_cons]at hl;have h1:(w.setCell ⟨g,o,none⟩ v).heap[g]? =some (.cells (cur.setIfInBounds o v) E fr):=by
   simp[World.setCell,Array.getElem?_modify,h]
  obtain⟨cur',h2,h3,h4,h5⟩:=ih (o+1) _ _ h1 (by simp;omega);refine⟨cur',h2,by simpa using h3, ?_,(only_setCell (World.grownBy.refl w (some g)) (.inl rfl) v).trans h5⟩;rw[h4];have hs:(cur.setIfInBounds o v).toList=cur.toList.take o++v::cur.toList.drop (o+1):=by
   rw[Array.toList_setIfInBounds,List.set_eq_take_append_cons_drop,if_pos (by simp;omega)]
  rw[hs];have hlo:(cur.toList.take o).length=o:=by rw[List.length_take];simp;omega
  rw[List.take_append,hlo,List.drop_append,hlo];have e1:(cur.toList.take o).take (o+1)=cur.toList.take o:=List.take_of_length_le (by omega);have e2:(cur.toList.take o).drop (o+1+vs.length)=[]:=List.drop_of_length_le (by omega);rw[e1,e2,show o+1 - o=1 by omega,show o+1+vs.length - o=vs.length+1 by omega];simp[List.drop_drop,Nat.add_assoc];congr 2;omega
theorem run_append_row {P:Program} {T E:TypeId} {z:Value} {bytes:Nat} (S:SlTy P T E z bytes) (ty:TypeId) {w:World} {base:Nat} {v:Value} {xs:List Value} (h:Row w base E v xs)
 (ad:Addr) (m c:Nat) (news:List Value) (hl:news.length=m) (hnews: ∀j u,news[j]? =some u->w.cell? (ad.add j)=some u) (h1: ∀u∈news,u.oneCell'=true)
 (hlen:(xs.length+m)*bytes<=140737488355328) (h63:xs.length+m<=140737488355328) (hbase:base<=w.heap.size):
 ∃v' w',(Builtin.append_ #[T,T] ty #[v,.slice (some ad) m c]).run P w= .ok v' w'/\Row w' base E v' (xs++news)/\w.grownBy w' v.ownBlock/\(v'.ownBlock=v.ownBlock\/v'.ownBlock=some w.heap.size):=by
 obtain⟨i,hi,hz0,hz1,hz2⟩:=info_parts S.info;rcases h with⟨rfl,rfl⟩|⟨g,off,cap,cur,fr,rfl,hg,hh,hfr,hnc,hm,hc,ht⟩
 ·obtain⟨v',w',hr,h2,hg,_,hat⟩:=run_append_own_at (P:=P) w base T ty E i z 1 bytes S.ul hi hz0 hz1 hz2 S.one (by decide) (.slice none 0 0) 0 [] (World.ownsRow_nil _ _ _ _) ad m c news (by omega) hnews h1
   (by unfold maxLen;simp at h63;omega) (by simpa using hlen) hbase
  refine⟨v',w',hr,Row.of_own ?_,hg,hat⟩;unfold Own1;rw[List.nil_append,hl];simpa using h2
 ·by_cases hroom:xs.length+m<=cap
  ·have hfit:off+xs.length+news.length<=cur.size:=by omega
   obtain⟨cur',hb,hsz,hlst,hgr⟩:=setCells_block news (off+xs.length) w cur hh hfit;have hr:=run_append_room_cells (P:=P) w T ty E i S.ul hi g off xs.length cap ad m c news (by rw[hz1];omega) hnews h1 hroom
    (fun j hj=>by rw[hz1,Nat.mul_one];simp[World.cell?,hh];omega) (fun j hj=>by
     have:=hfr (off+xs.length+j) (by omega);rw[hz1,Nat.mul_one];simp only[World.frozen?,hh];simpa using this)
   rw[hz1,Nat.mul_one]at hr;refine⟨_,_,hr,.inr ⟨g,off,cap,cur',fr,by rw[List.length_append,hl],hg,hb,by rw[hsz];exact hfr,by rw[List.length_append];omega,hm,by omega, ?_⟩,hgr,.inl rfl⟩;rw[hlst,List.length_append];have hlo:(cur.toList.take (off+xs.length)).length=off+xs.length:=by rw[List.length_take];simp;omega
   have e0:(cur.toList.take (off+xs.length)).drop off=xs:=by
    rw[List.drop_take,show off+xs.length - off=xs.length by omega];exact ht
   rw[List.append_assoc,List.drop_append,hlo,e0,show off - (off+xs.length)=0 by omega,List.drop_zero];rw[<-List.append_assoc];exact List.take_left' (by rw[List.length_append])
  ·have holds: ∀j u,xs[j]? =some u->w.cell? ((⟨g,off,none⟩:Addr).add j)=some u:=by
    intro j u hj;have:=Row.cellAt (w:=w) (base:=base) (E:=E) (.inr ⟨g,off,cap,cur,fr,rfl,hg,hh,hfr,hnc,hm,hc,ht⟩) j u hj;unfold Addr.add;split
    ·rename_i hz;subst hz;exact this
    ·exact this
   have hr:=run_append_grow (P:=P) w T ty E i z S.ul hi hz0 ⟨g,off,none⟩ xs.length cap xs (by rw[hz1];omega) holds ad m c news (by rw[hz1];omega) hnews (by omega) (by omega)
    (growslice_fits (by omega) (by rw[hz2];exact hlen))
   have hge:=grownCap_ge w (xs.length+m) cap E;have hcm:grownCap w (xs.length+m) cap E<=maxLen:=grownCap_le_maxLen w (xs.length+m) cap E (by unfold maxLen;omega);refine⟨_,_,hr,.inr ⟨w.heap.size,0,_,_,(0,0),by rw[List.length_append,hl],hbase,heap_alloc_new w.drew _,Free.none _,by rw[List.length_append,hl];exact hge,hcm, ?_, ?_⟩,⟨rfl,rfl,rfl,by simp,fun k hk _=>Below.heap_alloc w.drew _ k hk⟩,.inr rfl⟩
   ·simp only[Array.size_append,List.size_toArray,size_zeroCells,S.one];omega
   ·rw[List.drop_zero,List.length_append];simp only[Array.toList_append];exact List.take_left' (by rw[List.length_append])
theorem wpList_row {P:Program} {w:World} {ops:Array Oper} {rest:List Oper} {o:Oper} {a:Act} {Q:Exit->Act->World->Prop} {T E:TypeId} {z:Value} {bytes:Nat}
 (S:SlTy P T E z bytes) (hgd:o.guard=none) (s x:Operand)
 (ho:o.op= .call {callee:= .builtin .append,args:= #[s,x],argTypes:= #[T,T]})
 (base:Nat) (v:Value) (xs:List Value) (hs:a.eval s=v) (hrow:Row w base E v xs)
 (ad:Addr) (m c:Nat) (news:List Value) (hx:a.eval x= .slice (some ad) m c) (hl:news.length=m) (hnews: ∀j u,news[j]? =some u->w.cell? (ad.add j)=some u) (h1: ∀u∈news,u.oneCell'=true)
 (hlen:(xs.length+m)*bytes<=140737488355328) (h63:xs.length+m<=140737488355328) (hbase:base<=w.heap.size)
 (h: ∀v' w',Row w' base E v' (xs++news)->w.grownBy w' v.ownBlock->Below base w w'->(v'.ownBlock=v.ownBlock\/v'.ownBlock=some w.heap.size)->wpList P ops Q rest (a.put o.dst v') w'):
 wpList P ops Q (o::rest) a w:=by
 refine wpList_plain hgd fun K hK=> ?_
 obtain⟨v',w',hr,h2,hg,hat⟩:=run_append_row S o.type hrow ad m c news hl hnews h1 hlen h63 hbase;unfold Oper.wp execOp;simp only[ho,resolve,invoke,builtin,Sem.run_bind,Sem.run_pure,Result.andThen_ok,List.map_toArray,List.map_cons,List.map_nil,hs,hx,hr];exact hK _ _ (h v' w' h2 hg ((Below.refl _ _).grown hg hbase (fun k hk=>(hrow.own k hk).1)) hat)
theorem wpList_row1 {P:Program} {w:World} {ops:Array Oper} {rest:List Oper} {o:Oper} {a:Act} {Q:Exit->Act->World->Prop} {T E:TypeId} {z:Value} {bytes:Nat}
 (S:SlTy P T E z bytes) (hgd:o.guard=none) (s x:Operand)
 (ho:o.op= .call {callee:= .builtin .append,args:= #[s,x],argTypes:= #[T,T]})
 (base:Nat) (v:Value) (xs:List Value) (hs:a.eval s=v) (hrow:Row w base E v xs)
 (y:Value) (hx:a.eval x= .slice (some ⟨w.heap.size,0,none⟩) 1 1) (h1:y.oneCell'=true)
 (hlen:(xs.length+1)*bytes<=140737488355328) (h63:xs.length+1<=140737488355328) (hbase:base<=w.heap.size)
 (h: ∀v' w',Row w' base E v' (xs++[y])->w.grownBy w' v.ownBlock->Below base w w'->(v'.ownBlock=v.ownBlock\/v'.ownBlock=some (w.heap.size+1))->wpList P ops Q rest (a.put o.dst v') w'):
 wpList P ops Q (o::rest) a (w.alloc (.cells #[y] E)):=by
 refine wpList_row S hgd s x ho base v xs hs (hrow.alloc _) ⟨w.heap.size,0,none⟩ 1 1 [y] hx rfl (cell_one_new _ _ _) (by simpa using h1) hlen h63 (by simp;omega) ?_;intro v' w' h2 hg hb hat;exact h v' w' h2 ((World.grownBy_alloc w _ _).trans hg) (((Below.refl _ _).alloc hbase _).trans hb) (by simpa using hat)
theorem setCell_cells {w:World} {g:Nat} {cs:Array Value} {t:TypeId} {fr:Nat×Nat} (h:w.heap[g]? =some (.cells cs t fr)) (i:Nat) (u:Value):(w.setCell ⟨g,i,none⟩ u).heap[g]? =some (.cells (cs.setIfInBounds i u) t fr):=by
 simp[World.setCell,Array.getElem?_modify,h]
theorem row_put {w:World} {base:Nat} {E:TypeId} {A:Option Addr} {n c:Nat} {xs:List Value} (h:Row w base E (.slice A n c) xs) (hn:xs.length=n) {k:Nat} (hk:k<n) (u:Value):
 ∃ad,A=some ad/\n<=9223372036854775807/\base<=(ad.add k).block/\w.cell? (ad.add k)=some (xs[k]'(by omega))/\w.frozen? (ad.add k)=false/\Row (w.setCell (ad.add k) u) base E (.slice A n c) (xs.set k u):=by
 have h0:=h;rcases h with⟨hv,rfl⟩|⟨g,off,cap,cur,fr,hv,hge,hblk,hfr,hnc,hm,hc,ht⟩
 ·simp at hn;omega
 ·injection hv with ha hb hd;subst ha;subst hd;have e:(⟨g,off,none⟩:Addr).add k=⟨g,off+k,none⟩:=Go.WideShapes.add_plain ..;rw[hn]at ht hnc;refine⟨⟨g,off,none⟩,rfl,by unfold maxLen at hm;omega,by rw[e];exact hge, ?_, ?_, ?_⟩
  ·rw[e];subst hn;exact h0.cellAt k _ (List.getElem?_eq_getElem hk)
  ·rw[e];have hf:=hfr (off+k) (by omega);simp only[World.frozen?,hblk];simpa using hf
  ·rw[e];have hl:(xs.set k u).length=n:=by simp[hn]
   refine .inr ⟨g,off,c,_,fr,by rw[hl],hge,setCell_cells hblk (off+k) u,by simpa using hfr,by rw[hl];omega,hm,by simp;omega, ?_⟩;rw[hl,Array.toList_setIfInBounds,List.drop_set,if_neg (by omega),show off+k - off=k by omega,List.take_set,ht]
end Go.Proofs.YtbiioifpeebjaaaGreatDoor
namespace Go.Proofs.YtbiioifpeebjaaaGreatDoor
open Go.RowKit
structure SlTyK (P:Program) (T E:TypeId) (z:Value) (size bytes:Nat):Prop where
 ul:P.underlying T=some (.slice E)
 info:(P.info? E).map (fun i=>(i.zero,i.size,i.bytes))=some (some z,size,bytes)
 one:z.cells.size=size
 pos:0<size
theorem own_shape {w:World} {base:Nat} {E:TypeId} {k:Nat} {v:Value} {n:Nat} {xs:List Value} (h:w.ownsRow base E k v n xs): ∃A c,v= .slice A n c/\n<=c/\Cells w A xs:=by
 have hc:=h;rcases h.2 with⟨rfl,hn⟩|⟨g,cap,cur,rfl,_,_,hnc,_⟩
 ·subst hn;refine⟨none,0,rfl,Nat.le_refl _,fun h0=>absurd h0 ?_⟩;rw[h.1];omega
 ·exact⟨_,cap,rfl,hnc,fun _=>⟨_,rfl,World.ownsRow.cells hc rfl⟩⟩
theorem run_append_ownk_none {P:Program} {T E:TypeId} {z:Value} {size bytes:Nat} (S:SlTyK P T E z size bytes) (ty:TypeId) {w:World} {base:Nat} {v:Value} {n:Nat} {xs:List Value} (h:w.ownsRow base E size v n xs) (c:Nat):
 (Builtin.append_ #[T,T] ty #[v,.slice none 0 c]).run P w= .ok v w:=by
 obtain⟨i,hi,hz0,hz1,hz2⟩:=info_parts S.info;rcases h.2 with⟨rfl,rfl⟩|⟨g,cap,cur,rfl,hg,hh,hnc,hm,hs,ht⟩
 ·simp[Builtin.append_,run_underlying S.ul,sizeOf,typeInfo,hi,Builtin.lenOf,Builtin.firstCells]
 ·simp[Builtin.append_,run_underlying S.ul,sizeOf,typeInfo,hi,Builtin.lenOf,Builtin.firstCells,hnc,storeCells]
theorem run_appk {P:Program} {T E:TypeId} {z:Value} {size bytes:Nat} (S:SlTyK P T E z size bytes) (ty:TypeId) {w:World} {base:Nat} {v:Value} {n:Nat} {xs:List Value} (hown:w.ownsRow base E size v n xs)
 (A:Option Addr) (m c:Nat) (news:List Value) (hl:news.length=m*size) (hnews:Cells w A news) (h1: ∀u∈news,u.oneCell'=true)
 (hlen:(n+m)*bytes<=140737488355328) (h63:n+m<=140737488355328) (hbase:base<=w.heap.size) (hA:m=0->A=none\/ ∃ad,A=some ad):
 ∃v' w',(Builtin.append_ #[T,T] ty #[v,.slice A m c]).run P w= .ok v' w'/\w'.ownsRow base E size v' (n+m) (xs++news)/\w.grownBy w' v.ownBlock/\Below base w w'/\(v'.ownBlock=v.ownBlock\/v'.ownBlock=some w.heap.size):=by
 obtain⟨i,hi,hz0,hz1,hz2⟩:=info_parts S.info;rcases A with _|ad
 ·have hm:m=0:=by
   rcases Nat.eq_zero_or_pos m with h|h
   ·exact h
   ·have:0<news.length:=by rw[hl];exact Nat.mul_pos h S.pos
    obtain⟨ad,he,_⟩:=hnews this;cases he
  subst hm;have hn:news=[]:=List.eq_nil_of_length_eq_zero (by rw[hl,Nat.zero_mul]);subst hn;exact⟨v,w,run_append_ownk_none S ty hown c,by simpa using hown,World.grownBy.refl w _,Below.refl _ _,.inl rfl⟩
 ·have hcells: ∀j u,news[j]? =some u->w.cell? (ad.add j)=some u:=by
   intro j u hj;have hpos:0<news.length:=by
    have:=(List.getElem?_eq_some_iff.1 hj).1;omega
   obtain⟨ad',he,hc⟩:=hnews hpos;injection he with he;subst he;exact hc j u hj
  obtain⟨v',w',hr,h2,hg,_,hat⟩:=run_append_own_at (P:=P) w base T ty E i z size bytes S.ul hi hz0 hz1 hz2 S.one S.pos v n xs hown ad m c news hl hcells h1 (by unfold maxLen;omega) hlen hbase;exact⟨v',w',hr,h2,hg,(Below.refl _ _).grown hg hbase (fun k hk=>(World.ownsRow.lt hown k hk).1),hat⟩
theorem wpList_appk {P:Program} {w:World} {ops:Array Oper} {rest:List Oper} {o:Oper} {a:Act} {Q:Exit->Act->World->Prop} {T E:TypeId} {z:Value} {size bytes:Nat}
 (S:SlTyK P T E z size bytes) (hgd:o.guard=none) (s x:Operand)
 (ho:o.op= .call {callee:= .builtin .append,args:= #[s,x],argTypes:= #[T,T]})
 (base:Nat) (v:Value) (n:Nat) (xs:List Value) (hs:a.eval s=v) (hown:w.ownsRow base E size v n xs)
 (A:Option Addr) (m c:Nat) (news:List Value) (hx:a.eval x= .slice A m c) (hl:news.length=m*size) (hnews:Cells w A news) (h1: ∀u∈news,u.oneCell'=true)
 (hlen:(n+m)*bytes<=140737488355328) (h63:n+m<=140737488355328) (hbase:base<=w.heap.size)
 (h: ∀v' w',w'.ownsRow base E size v' (n+m) (xs++news)->w.grownBy w' v.ownBlock->Below base w w'->(v'.ownBlock=v.ownBlock\/v'.ownBlock=some w.heap.size)->wpList P ops Q rest (a.put o.dst v') w'):
 wpList P ops Q (o::rest) a w:=by
 refine wpList_plain hgd fun K hK=> ?_
 obtain⟨v',w',hr,h2,hg,hb,hat⟩:=run_appk S o.type hown A m c news hl hnews h1 hlen h63 hbase (fun _=>by cases A;exact .inl rfl;exact .inr ⟨_,rfl⟩);unfold Oper.wp execOp;simp only[ho,resolve,invoke,builtin,Sem.run_bind,Sem.run_pure,Result.andThen_ok,List.map_toArray,List.map_cons,List.map_nil,hs,hx,hr];exact hK _ _ (h v' w' h2 hg hb hat)
end Go.Proofs.YtbiioifpeebjaaaGreatDoor
