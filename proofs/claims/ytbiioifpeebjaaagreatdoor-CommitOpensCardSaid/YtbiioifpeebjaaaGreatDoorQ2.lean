/- The strings.Builder that a call makes: what its first call, WriteByte and WriteString leave. · WriteByte. · Frames; the reader of terms in memory; ParseInt. -/
import Derived.Test.YtbiioifpeebjaaaGreatDoorShelf
import Derived.Test.YtbiioifpeebjaaaGreatDoorQ0
import Derived.Lib.Builder
import Derived.Lib.AppendStr
import Derived.Test.YtbiioifpeebjaaaGreatDoorQ1
import Derived.WalkKit
import Derived.WalkSpells
import Derived.WalkLawsBesides
import Derived.Lib.Hide
import Derived.BigQuiet
import Derived.Deep.QuietTactic
import Derived.IntWalk
import Derived.Lib.AtoiErrMem
import Derived.Deep.RegionHeld3
import Derived.Deep.DeepMust
import Derived.StillTailTactics
set_option linter.all false
namespace Go.Proofs.YtbiioifpeebjaaaGreatDoor
open Go.RowKit
theorem sizeBuilder:(Tryz.prog.info? 112).map (·.size)=some 2:=by kernel_rfl
theorem liesBuilder:liesAt Tryz.prog Tryz.prog.depth 112 (2 / Tryz.prog.cellsOf 112) 0 112 1=true:=by kernel_rfl
theorem infoByte:(Tryz.prog.info? 5).map (fun i=>(i.zero,i.size,i.bytes))=some (some (.int .u8 0),1,1):=by kernel_rfl
set_option maxRecDepth 100000 in
set_option maxHeartbeats 1000000 in
theorem copyCheck_used (b:Nat) (w:World) (h0:w.cell? ⟨b,0,none⟩=some (.pointer (some ⟨b,0,none⟩))):
 Calls Tryz.prog 73 #[.pointer (some ⟨b,0,none⟩)] w fun e w'=>e= .returned (.tuple #[])/\w'=w:=by
 obtain⟨j,hj,_⟩:=Option.map_eq_some_iff.1 sizeBuilder;go_enter Tryz.func73,Tryz.ntmps73;go_wp2;rw[Lib.run_neq_ptr_same w _ Tryz.underlying109 hj];go_wp2;go_end0;exact⟨rfl,rfl⟩
set_option maxRecDepth 100000 in
set_option maxHeartbeats 1000000 in
theorem copyCheck_fresh (b:Nat) (w:World) (h0:w.cell? ⟨b,0,none⟩=some (.pointer none)) (hsh:w.shape? b=some (112,2)) (hfz:w.frozen? ⟨b,0,none⟩=false):
 Calls Tryz.prog 73 #[.pointer (some ⟨b,0,none⟩)] w fun e w'=>e= .returned (.tuple #[])/\w'=w.setCell ⟨b,0,none⟩ (.pointer (some ⟨b,0,none⟩)):=by
 obtain⟨j,hj,hjs⟩:=Option.map_eq_some_iff.1 sizeBuilder;go_enter Tryz.func73,Tryz.ntmps73;go_wp2;rw[Lib.run_to_unsafe w ⟨b,0,none⟩ Tryz.underlying109 Tryz.underlying152 hj (by rw[hjs];decide) hsh (Nat.zero_lt_succ 1)];simp only[Result.andThen];rw[Oper.upon_value];go_wp2;rw[run_callFunc_extern Tryz.func90 (by kernel_rfl) (by kernel_rfl) (by kernel_rfl) (e:=Extern.AbiNoEscape.same) (by kernel_rfl)];rw[Lib.run_noEscape];simp only[Result.andThen];rw[Oper.upon_value];go_wp2;rw[Lib.run_from_unsafe w ⟨b,0,none⟩ Tryz.underlying152 Tryz.underlying109 hj hsh liesBuilder];simp only[Result.andThen];rw[Oper.upon_value];go_wp2;go_end0;exact⟨rfl,rfl⟩
theorem copyCheck_any (B b:Nat) (bs:List Value) (w:World) (h:Lib.IsBuilder 112 5 B b bs w):
 Calls Tryz.prog 73 #[.pointer (some ⟨b,0,none⟩)] w fun e w'=>e= .returned (.tuple #[])/\(Lib.BuilderAt 112 5 B b (.pointer (some ⟨b,0,none⟩)) bs w'/\Below B w w'):=by
 rcases h with h|h
 ·refine(copyCheck_fresh b w h.cell0 h.shape h.frozen0).mono ?_;rintro e w' ⟨rfl,rfl⟩;exact⟨rfl,h.used _,(Below.refl B w).setCell (p:=⟨b,0,none⟩) h.1 _⟩
 ·refine(copyCheck_used b w h.cell0).mono ?_;rintro e w' ⟨rfl,rfl⟩;exact⟨rfl,h,Below.refl B _⟩
set_option maxRecDepth 100000 in
set_option maxHeartbeats 2000000 in
theorem writeString_any (B b:Nat) (bs:List Value) (s:ByteArray) (w:World) (h:Lib.IsBuilder 112 5 B b bs w) (hlen:bs.length+s.size<=140737488355328) (hBw:B<=w.heap.size):
 Calls Tryz.prog 51 #[.pointer (some ⟨b,0,none⟩),.string s] w fun e w'=>e= .returned (.tuple #[.int .i64 s.size,.nilIface])/\(Lib.BuilderAt 112 5 B b (.pointer (some ⟨b,0,none⟩)) (bs++Lib.strCells s) w'/\Below B w w'):=by
 obtain⟨i0,hi,hz0,hz1,hz2⟩:=info_parts infoByte;go_enter Tryz.func51,Tryz.ntmps51;go_wp2_with (go_at_call 73;refine(copyCheck_any B b bs _ h).mono ?_);rintro e w1 ⟨rfl,h1,hb1⟩;obtain⟨hB,v,hbk,hown,hne⟩:=h1;have c0:w1.cell? ⟨b,0,none⟩=some (.pointer (some ⟨b,0,none⟩)):=by rw[Lib.cell_of_heap hbk];rfl
 have c1:w1.cell? ⟨b,1,none⟩=some v:=by rw[Lib.cell_of_heap hbk];rfl
 go_wp2_with (at_builtin;refine Lib.wpList_append_own_string _ rfl _ _ 110 9 rfl B 5 i0 Tryz.underlying110 Tryz.underlying9 hi hz0 hz1 hz2 _ _ _ rfl hown s rfl ?c3 ?c4 ?c5 ?_)
 case c3=>unfold maxLen;omega
 case c4=>omega
 case c5=>have:=hb1.size;omega
 intro v' w2 hown' hgrow _;have hlt:b<w1.heap.size:=lt_of_block hbk;have hb2:w2.heap[b]? =some (.cells #[.pointer (some ⟨b,0,none⟩),v] 112 (0,0)):=by
  rw[hgrow.block b hlt (fun e=>hne e.symm)];exact hbk
 have d0:w2.cell? ⟨b,0,none⟩=some (.pointer (some ⟨b,0,none⟩)):=by rw[Lib.cell_of_heap hb2];rfl
 have d1:w2.cell? ⟨b,1,none⟩=some v:=by rw[Lib.cell_of_heap hb2];rfl
 have f1:w2.frozen? ⟨b,1,none⟩=false:=Lib.frozen_of_heap hb2 1;obtain⟨ao,n',cap,rfl⟩: ∃ao n' cap,v'= .slice ao n' cap:=by
  rcases hown'.2 with⟨hv,_⟩|⟨g,cap,cur,hv,_⟩
  ·exact⟨_,_,_,hv⟩
  ·exact⟨_,_,_,hv⟩
 go_wp2;go_ret2;refine⟨rfl, ?_, ?_⟩
 ·exact Lib.BuilderAt.put (T:=112) (e:=5) hB hb2 (bs':=bs++Lib.strCells s) (by simpa [Lib.strCells_length]using hown') (by decide)
 ·exact(hb1.grown hgrow (by have:=hb1.size;omega) (fun k hk=>(hown.lt k hk).1)).setCell (p:=⟨b,1,none⟩) hB _
end Go.Proofs.YtbiioifpeebjaaaGreatDoor
namespace Go.Proofs.YtbiioifpeebjaaaGreatDoor
open Go.RowKit
set_option maxRecDepth 100000 in
set_option maxHeartbeats 2000000 in
theorem writeByte_any (B b:Nat) (bs:List Value) (c:Int) (w:World) (h:Lib.IsBuilder 112 5 B b bs w) (hlen:bs.length+1<=140737488355328) (hBw:B<=w.heap.size):
 Calls Tryz.prog 83 #[.pointer (some ⟨b,0,none⟩),.int .u8 c] w fun e w'=>e= .returned .nilIface/\(Lib.BuilderAt 112 5 B b (.pointer (some ⟨b,0,none⟩)) (bs++[.int .u8 c]) w'/\Below B w w'):=by
 obtain⟨i0,hi,hz0,hz1,hz2⟩:=info_parts infoByte;go_enter Tryz.func83,Tryz.ntmps83;go_wp2_with (go_at_call 73;refine(copyCheck_any B b bs _ h).mono ?_);rintro e w1 ⟨rfl,h1,hb1⟩;obtain⟨hB,v,hbk,hown,hne⟩:=h1;have c0:w1.cell? ⟨b,0,none⟩=some (.pointer (some ⟨b,0,none⟩)):=by rw[Lib.cell_of_heap hbk];rfl
 have c1:w1.cell? ⟨b,1,none⟩=some v:=by rw[Lib.cell_of_heap hbk];rfl
 go_wp2_with (at_builtin;refine wpList_append_own _ rfl _ _ 110 rfl B 5 i0 _ 1 1 Tryz.underlying110 hi hz0 hz1 hz2 rfl (by decide) _ _ _ rfl (hown.alloc _) ⟨w1.heap.size,0,none⟩ 1 1 [.int .u8 c] rfl rfl (cell_one_new _ _ _) ?c2 ?c3 ?c4 ?c5 ?_)
 case c2=>intro u hu;simp at hu;subst hu;rfl
 case c3=>unfold maxLen;omega
 case c4=>omega
 case c5=>have:=hb1.size;simp;omega
 intro v' w2 hown' hgrow _;have hlt:b<w1.heap.size:=lt_of_block hbk;have hb2:w2.heap[b]? =some (.cells #[.pointer (some ⟨b,0,none⟩),v] 112 (0,0)):=by
  rw[hgrow.block b (by simp;omega) (fun e=>hne e.symm),Lib.alloc_old w1 _ b hlt];exact hbk
 have d0:w2.cell? ⟨b,0,none⟩=some (.pointer (some ⟨b,0,none⟩)):=by rw[Lib.cell_of_heap hb2];rfl
 have d1:w2.cell? ⟨b,1,none⟩=some v:=by rw[Lib.cell_of_heap hb2];rfl
 have f1:w2.frozen? ⟨b,1,none⟩=false:=Lib.frozen_of_heap hb2 1;obtain⟨g,cap,rfl⟩: ∃g cap,v'= .slice (some ⟨g,0,none⟩) (bs.length+1) cap:=by
  rcases hown'.2 with⟨_,h0⟩|⟨g,cap,cur,hv,_⟩
  ·omega
  ·exact⟨g,cap,hv⟩
 go_wp2;go_ret;refine⟨rfl, ?_, ?_⟩
 ·exact Lib.BuilderAt.put (T:=112) (e:=5) hB hb2 (bs':=bs++[.int .u8 c]) (by simpa using hown') (by decide)
 ·exact((hb1.alloc (by have:=hb1.size;omega) _).grown hgrow (by have:=hb1.size;simp;omega) (fun k hk=>(hown.lt k hk).1)).setCell (p:=⟨b,1,none⟩) hB _
end Go.Proofs.YtbiioifpeebjaaaGreatDoor
namespace Go.Proofs.YtbiioifpeebjaaaGreatDoor
open Go.RowKit
structure Fr (F:List Nat) (w w':World):Prop where
 os:w'.os=w.os
 tape:w'.tape=w.tape
 output:w'.output=w.output
 size:w.heap.size<=w'.heap.size
 block: ∀i,i<w.heap.size->i∉F->w'.heap[i]? =w.heap[i]?
theorem Fr.refl (F:List Nat) (w:World):Fr F w w:=⟨rfl,rfl,rfl,Nat.le_refl _,fun _ _ _=>rfl⟩
theorem Fr.below {F:List Nat} {w w':World} (h:Below w.heap.size w w'):Fr F w w':=⟨h.os,h.tape,h.output,h.size,fun i hi _=>h.block i hi⟩
theorem Fr.mono {F G:List Nat} {w w':World} (h:Fr F w w') (hs: ∀i∈F,i<w.heap.size->i∈G):Fr G w w':=⟨h.os,h.tape,h.output,h.size,fun i hi hn=>h.block i hi fun hf=>hn (hs i hf hi)⟩
theorem Fr.trans {F G:List Nat} {w w' w'':World} (h:Fr F w w') (h':Fr G w' w'') (hs: ∀i∈G,i<w.heap.size->i∈F):Fr F w w'':=
 ⟨h'.os.trans h.os,h'.tape.trans h.tape,h'.output.trans h.output,Nat.le_trans h.size h'.size,fun i hi hn=>(h'.block i (Nat.lt_of_lt_of_le hi h.size) fun hg=>hn (hs i hg hi)).trans (h.block i hi hn)⟩
theorem Fr.toBelowOf {F:List Nat} {B:Nat} {w w':World} (h:Fr F w w') (hB:B<=w.heap.size) (hF: ∀i∈F,B<=i):Below B w w':=⟨h.os,h.tape,h.output,h.size,fun i hi=>h.block i (Nat.lt_of_lt_of_le hi hB) fun hf=>absurd (hF i hf) (by omega)⟩
theorem Fr.put {F:List Nat} (w:World) (k g j:Nat) (u:Value) (hg:g∈F):Fr F w ((w.drewN k).setCell ⟨g,j,none⟩ u):=
 ⟨rfl,rfl,rfl,by simp[World.setCell],fun i _ hn=>Below.heap_setCell (w.drewN k) ⟨g,j,none⟩ u i (fun e=>hn (by rw[show i=g from e];exact hg))⟩
theorem Fr.drewN {F:List Nat} {w w':World} (h:Fr F w w') (k:Nat):Fr F w (w'.drewN k):=⟨h.os,h.tape,h.output,h.size,h.block⟩
theorem Fr.cellKept {F:List Nat} {w w':World} (h:Fr F w w') {a:Addr} (ha:a.block∉F) {v:Value} (hc:w.cell? a=some v):w'.cell? a=some v:=by
 have hl:=World.block_lt_of_cell? w _ hc;have hb:=h.block _ hl ha;unfold World.cell? at hc⊢;rw[hb];exact hc
theorem set_block {w:World} {b j:Nat} {cs:Array Value} {T:TypeId} {z:Nat×Nat} (u:Value) (h:w.heap[b]? =some (.cells cs T z)) (k:Nat):((w.drewN k).setCell ⟨b,j,none⟩ u).heap[b]? =some (.cells (cs.setIfInBounds j u) T z):=by
 have h':(w.drewN k).heap[b]? =some (.cells cs T z):=h;simp only[World.setCell,Array.getElem?_modify,if_true];rw[h'];rfl
def VarsOk (w:World):Prop:=(∃tp p,w.var? Tryz.prog "strconv.ErrSyntax" =some #[.iface tp p])/\ ∃tp p,w.var? Tryz.prog "strconv.ErrRange" =some #[.iface tp p]
theorem var_of {w:World} {n:String} {tp:TypeId} {p:Value} {g:Nat} (hg:Tryz.prog.globalNamed n=some g) (h:w.var? Tryz.prog n=some #[.iface tp p]): ∃T z,w.heap[g]? =some (.cells #[.iface tp p] T z):=by
 unfold World.var? at h;rw[hg]at h;simp only[Option.bind_some]at h;split at h
 ·rename_i cs T z hc;injection h with h;subst h;exact⟨_,_,hc⟩
 ·cases h
theorem var_mk {w:World} {n:String} {tp:TypeId} {p:Value} {g:Nat} {T:TypeId} {z:Nat×Nat} (hg:Tryz.prog.globalNamed n=some g) (h:w.heap[g]? =some (.cells #[.iface tp p] T z)):w.var? Tryz.prog n=some #[.iface tp p]:=by
 unfold World.var?;rw[hg];simp only[Option.bind_some,h]
theorem gSyntax:Tryz.prog.globalNamed "strconv.ErrSyntax" =some 6:=by kernel_rfl
theorem gRange:Tryz.prog.globalNamed "strconv.ErrRange" =some 7:=by kernel_rfl
theorem VarsOk.fr {F:List Nat} {w w':World} (h:VarsOk w) (hf:Fr F w w') (hF: ∀g∈F,∀v T z,w.heap[g]? ≠some (.cells #[v] T z)):VarsOk w':=by
 obtain⟨⟨tp,p,h1⟩,tq,q,h2⟩:=h;obtain⟨T,z,g1⟩:=var_of gSyntax h1;obtain⟨U,y,g2⟩:=var_of gRange h2;exact⟨⟨tp,p,var_mk gSyntax ((hf.block _ (lt_of_block g1) fun hi=>hF _ hi _ _ _ g1).trans g1)⟩,tq,q,var_mk gRange ((hf.block _ (lt_of_block g2) fun hi=>hF _ hi _ _ _ g2).trans g2)⟩
theorem VarsOk.below {w w':World} (h:VarsOk w) (hb:Below w.heap.size w w'):VarsOk w':=h.fr (Fr.below (F:=[]) hb) fun g hg=>by cases hg
def RdrAt (w:World) (b:Nat) (s:ByteArray) (at_:Nat):Prop:=w.heap[b]? =some (.cells #[.string s,.int .i64 at_] 156 (0,0))
theorem index_at {s:ByteArray} {i:Nat} (hi:i<s.size) (W:World):(Instr.index 9 (.string s) (.int .i64 i)).run Tryz.prog W= .ok (.int .u8 ((byte s.data.toList i).toNat:Int)) W:=by
 rw[run_index_string (P:=Tryz.prog) W 9 _ .i64 (i:Int) Tryz.underlying9];rw[dif_pos ⟨by omega,by omega⟩];unfold byte;rw[List.getD_eq_getElem?_getD,List.getElem?_eq_getElem (by simpa using hi)];simp;rfl
theorem RdrAt.cells {w:World} {b at_:Nat} {s:ByteArray} (h:RdrAt w b s at_):w.cell? ⟨b,0,none⟩=some (.string s)/\w.cell? ⟨b,1,none⟩=some (.int .i64 at_)/\ ∀j,w.frozen? ⟨b,j,none⟩=false:=by
 unfold RdrAt at h;refine⟨by simp[World.cell?,h],by simp[World.cell?,h],fun j=>by simp[World.frozen?,h]⟩
theorem RdrAt.notVar {w:World} {b at_:Nat} {s:ByteArray} (h:RdrAt w b s at_): ∀g∈[b],∀v T z,w.heap[g]? ≠some (.cells #[v] T z):=fun g hg v T z he=>by
 have:g=b:=by simpa using hg
 subst this;unfold RdrAt at h;rw[h]at he;injection he with he;injection he with h1;have:=congrArg Array.size h1;simp at this
theorem RdrAt.put {w:World} {b at_:Nat} {s:ByteArray} (h:RdrAt w b s at_) (k n:Nat):RdrAt ((w.drewN k).setCell ⟨b,1,none⟩ (.int .i64 n)) b s n:=by
 unfold RdrAt at h⊢;rw[set_block _ h k];rfl
theorem RdrAt.fr {F:List Nat} {w w':World} {b at_:Nat} {s:ByteArray} (h:RdrAt w b s at_) (hf:Fr F w w') (hb:b∉F):RdrAt w' b s at_:=(hf.block b (lt_of_block h) hb).trans h
theorem parse_ok (t:ByteArray) (ht:t.size<=1000000) (v:Int) (h:Lib.parseIntB 64 t.data.toList= .ok v) (w:World):Calls Tryz.prog 118 #[.string t,.int .i64 10,.int .i64 64] w fun e w'=>e= .returned (.tuple #[.int .i64 v,.nilIface])/\Below w.heap.size w w':=
 (Tryz.strconv_ParseInt_10_at64_ok t (by omega) v h w).mono fun e w' ⟨he,hw⟩=>⟨he,by
  rcases hw with rfl|⟨u,rfl⟩
  ·exact Below.refl _ _
  ·exact Lib.bytesWorld_below _ _ _⟩
theorem parse_bad (t:ByteArray) (ht:t.size<=1000000) (h: ∀v,Lib.parseIntB 64 t.data.toList≠ .ok v) (w:World) (hv:VarsOk w):Calls Tryz.prog 118 #[.string t,.int .i64 10,.int .i64 64] w fun e w'=> ∃n N,e= .returned (.tuple #[.int .i64 n,.iface 188 (.pointer (some ⟨N,0,none⟩))])/\Below w.heap.size w w':=by
 obtain⟨⟨tp,p,h1⟩,tq,q,h2⟩:=hv;cases hq:Lib.parseIntB 64 t.data.toList with
 |ok v=>exact absurd hq (h v)
 |range=>exact(Tryz.strconv_ParseInt_10_at64_range_var t (by omega) hq tq q w h2).mono fun e w' ⟨N,he,_,_,hb⟩=>⟨_,N,he,hb⟩
 |_=>exact(Tryz.strconv_ParseInt_10_at64_syntax_var t (by omega) hq tp p w h1).mono fun e w' ⟨N,he,_,_,hb⟩=>⟨_,N,he,hb⟩
end Go.Proofs.YtbiioifpeebjaaaGreatDoor
