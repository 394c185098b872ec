/- WriteByte, WriteString: blocks of other types stay. · A lock's text is written. -/
import Derived.Test.YtbiioifpeebjaaaGreatDoorShelfI
import Derived.Test.YtbiioifpeebjaaaGreatDoorQ2
import Derived.Test.YtbiioifpeebjaaaGreatDoorQ5
import Derived.Test.YtbiioifpeebjaaaGreatDoorQ10
import Derived.Test.YtbiioifpeebjaaaGreatDoorQ9
import Derived.Test.YtbiioifpeebjaaaGreatDoorQ1
import Derived.Lib.AppendIntMem
set_option linter.all false
namespace Go.Proofs.YtbiioifpeebjaaaGreatDoor
open Go.RowKit
def KeepB (w w':World):Prop:= ∀(i:Nat) (cs:Array Value) (T:TypeId) (z:Nat×Nat),T≠112->T≠5->w.heap[i]? =some (.cells cs T z)->w'.heap[i]? =some (.cells cs T z)
theorem KeepB.refl (w:World):KeepB w w:=fun _ _ _ _ _ _ h=>h
theorem KeepB.trans {w w1 w2:World} (h:KeepB w w1) (h':KeepB w1 w2):KeepB w w2:=fun i cs T z h1 h2 h3=>h' i cs T z h1 h2 (h i cs T z h1 h2 h3)
theorem KeepB.below {w w':World} (h:Below w.heap.size w w'):KeepB w w':=fun i cs T z _ _ h3=>(h.block i (lt_of_block h3)).trans h3
theorem KeepB.put {w:World} {b:Nat} {cs:Array Value} {z:Nat×Nat} (h:w.heap[b]? =some (.cells cs 112 z)) (j:Nat) (v:Value):KeepB w (w.setCell ⟨b,j,none⟩ v):=fun i cs' T z' h1 _ h3=>by
 have hne:i≠b:=fun e=>by
  subst e;rw[h]at h3;injection h3 with h3;injection h3 with _ h4;exact h1 h4.symm
 exact((Fr.put0 w b j v (F:=[b]) (List.mem_singleton.2 rfl)).block i (lt_of_block h3) (by simpa using hne)).trans h3
theorem KeepB.grown {w w':World} {base k n:Nat} {v:Value} {xs:List Value} (hg:w.grownBy w' v.ownBlock) (h:w.ownsRow base 5 k v n xs):KeepB w w':=fun i cs T z _ h2 h3=>by
 refine(hg.block i (lt_of_block h3) fun e=> ?_).trans h3;obtain⟨cur,hc⟩:=row_kind h e.symm;rw[hc]at h3;injection h3 with h3;injection h3 with _ h4;exact h2 h4.symm
theorem bld_below {T e:TypeId} {B b:Nat} {bs:List Value} {w w':World} (h:Lib.IsBuilder T e B b bs w) (hb:Below w.heap.size w w'):Lib.IsBuilder T e B b bs w':=by
 have one: ∀p,Lib.BuilderAt T e B b p bs w->Lib.BuilderAt T e B b p bs w':=fun p h=>by
  obtain⟨hB,v,hbk,hown,hne⟩:=h;exact⟨hB,v,(hb.block _ (lt_of_block hbk)).trans hbk,own_below hown hb,hne⟩
 exact h.imp (one _) (one _)
theorem copyCheck_k (B b:Nat) (bs:List Value) (w:World) (h:Lib.IsBuilder 112 5 B b bs w):
 Calls Tryz.prog 73 #[.pointer (some ⟨b,0,none⟩)] w fun e w'=>e= .returned (.tuple #[])/\(Lib.BuilderAt 112 5 B b (.pointer (some ⟨b,0,none⟩)) bs w'/\Below B w w')/\KeepB w w':=by
 rcases h with h|h
 ·refine(copyCheck_fresh b w h.cell0 h.shape h.frozen0).mono ?_;rintro e w' ⟨rfl,rfl⟩;refine⟨rfl,⟨h.used _,(Below.refl B w).setCell (p:=⟨b,0,none⟩) h.1 _⟩, ?_⟩;obtain⟨_,v,hbk,_,_⟩:=h;exact KeepB.put hbk 0 _
 ·refine(copyCheck_used b w h.cell0).mono ?_;rintro e w' ⟨rfl,rfl⟩;exact⟨rfl,⟨h,Below.refl B _⟩,KeepB.refl _⟩
set_option maxRecDepth 100000 in
set_option maxHeartbeats 2000000 in
theorem writeByte_k (B b:Nat) (bs:List Value) (c:Int) (w:World) (h:Lib.IsBuilder 112 5 B b bs w) (hlen:bs.length+1<=140737488355328) (hBw:B<=w.heap.size):
 Calls Tryz.prog 83 #[.pointer (some ⟨b,0,none⟩),.int .u8 c] w fun e w'=>e= .returned .nilIface/\(Lib.BuilderAt 112 5 B b (.pointer (some ⟨b,0,none⟩)) (bs++[.int .u8 c]) w'/\Below B w w')/\KeepB w w':=by
 obtain⟨i0,hi,hz0,hz1,hz2⟩:=info_parts infoByte;go_enter Tryz.func83,Tryz.ntmps83;go_wp2_with (go_at_call 73;refine(copyCheck_k B b bs _ h).mono ?_);rintro e w1 ⟨rfl,⟨h1,hb1⟩,hk1⟩;have HK1:=zH hk1;clear hk1;obtain⟨hB,v,hbk,hown,hne⟩:=h1;have c0:w1.cell? ⟨b,0,none⟩=some (.pointer (some ⟨b,0,none⟩)):=by rw[Lib.cell_of_heap hbk];rfl
 have c1:w1.cell? ⟨b,1,none⟩=some v:=by rw[Lib.cell_of_heap hbk];rfl
 go_wp2_with (at_builtin;refine wpList_append_own _ rfl _ _ 110 rfl B 5 i0 _ 1 1 Tryz.underlying110 hi hz0 hz1 hz2 rfl (by decide) _ _ _ rfl (hown.alloc _) ⟨w1.heap.size,0,none⟩ 1 1 [.int .u8 c] rfl rfl (cell_one_new _ _ _) ?c2 ?c3 ?c4 ?c5 ?_)
 case c2=>intro u hu;simp at hu;subst hu;rfl
 case c3=>unfold maxLen;omega
 case c4=>omega
 case c5=>have:=hb1.size;simp;omega
 intro v' w2 hown' hgrow _;have HK2:=zH (HK1.out.trans ((KeepB.below ((Below.refl _ _).alloc (Nat.le_refl _) _)).trans (KeepB.grown hgrow (hown.alloc _))));have hlt:b<w1.heap.size:=lt_of_block hbk;have hb2:w2.heap[b]? =some (.cells #[.pointer (some ⟨b,0,none⟩),v] 112 (0,0)):=by
  rw[hgrow.block b (by simp;omega) (fun e=>hne e.symm),Lib.alloc_old w1 _ b hlt];exact hbk
 have d0:w2.cell? ⟨b,0,none⟩=some (.pointer (some ⟨b,0,none⟩)):=by rw[Lib.cell_of_heap hb2];rfl
 have d1:w2.cell? ⟨b,1,none⟩=some v:=by rw[Lib.cell_of_heap hb2];rfl
 have f1:w2.frozen? ⟨b,1,none⟩=false:=Lib.frozen_of_heap hb2 1;obtain⟨g,cap,rfl⟩: ∃g cap,v'= .slice (some ⟨g,0,none⟩) (bs.length+1) cap:=by
  rcases hown'.2 with⟨_,h0⟩|⟨g,cap,cur,hv,_⟩
  ·omega
  ·exact⟨g,cap,hv⟩
 go_wp2;go_ret;refine⟨rfl,⟨?_, ?_⟩,HK2.out.trans (KeepB.put hb2 1 _)⟩
 ·exact Lib.BuilderAt.put (T:=112) (e:=5) hB hb2 (bs':=bs++[.int .u8 c]) (by simpa using hown') (by decide)
 ·exact((hb1.alloc (by have:=hb1.size;omega) _).grown hgrow (by have:=hb1.size;simp;omega) (fun k hk=>(hown.lt k hk).1)).setCell (p:=⟨b,1,none⟩) hB _
set_option maxRecDepth 100000 in
set_option maxHeartbeats 2000000 in
theorem writeString_k (B b:Nat) (bs:List Value) (s:ByteArray) (w:World) (h:Lib.IsBuilder 112 5 B b bs w) (hlen:bs.length+s.size<=140737488355328) (hBw:B<=w.heap.size):
 Calls Tryz.prog 51 #[.pointer (some ⟨b,0,none⟩),.string s] w fun e w'=>e= .returned (.tuple #[.int .i64 s.size,.nilIface])/\(Lib.BuilderAt 112 5 B b (.pointer (some ⟨b,0,none⟩)) (bs++Lib.strCells s) w'/\Below B w w')/\KeepB w w':=by
 obtain⟨i0,hi,hz0,hz1,hz2⟩:=info_parts infoByte;go_enter Tryz.func51,Tryz.ntmps51;go_wp2_with (go_at_call 73;refine(copyCheck_k B b bs _ h).mono ?_);rintro e w1 ⟨rfl,⟨h1,hb1⟩,hk1⟩;have HK1:=zH hk1;clear hk1;obtain⟨hB,v,hbk,hown,hne⟩:=h1;have c0:w1.cell? ⟨b,0,none⟩=some (.pointer (some ⟨b,0,none⟩)):=by rw[Lib.cell_of_heap hbk];rfl
 have c1:w1.cell? ⟨b,1,none⟩=some v:=by rw[Lib.cell_of_heap hbk];rfl
 go_wp2_with (at_builtin;refine Lib.wpList_append_own_string _ rfl _ _ 110 9 rfl B 5 i0 Tryz.underlying110 Tryz.underlying9 hi hz0 hz1 hz2 _ _ _ rfl hown s rfl ?c3 ?c4 ?c5 ?_)
 case c3=>unfold maxLen;omega
 case c4=>omega
 case c5=>have:=hb1.size;omega
 intro v' w2 hown' hgrow _;have HK2:=zH (HK1.out.trans (KeepB.grown hgrow hown));have hlt:b<w1.heap.size:=lt_of_block hbk;have hb2:w2.heap[b]? =some (.cells #[.pointer (some ⟨b,0,none⟩),v] 112 (0,0)):=by
  rw[hgrow.block b hlt (fun e=>hne e.symm)];exact hbk
 have d0:w2.cell? ⟨b,0,none⟩=some (.pointer (some ⟨b,0,none⟩)):=by rw[Lib.cell_of_heap hb2];rfl
 have d1:w2.cell? ⟨b,1,none⟩=some v:=by rw[Lib.cell_of_heap hb2];rfl
 have f1:w2.frozen? ⟨b,1,none⟩=false:=Lib.frozen_of_heap hb2 1;obtain⟨ao,n',cap,rfl⟩: ∃ao n' cap,v'= .slice ao n' cap:=by
  rcases hown'.2 with⟨hv,_⟩|⟨g,cap,cur,hv,_⟩
  ·exact⟨_,_,_,hv⟩
  ·exact⟨_,_,_,hv⟩
 go_wp2;go_ret2;refine⟨rfl,⟨?_, ?_⟩,HK2.out.trans (KeepB.put hb2 1 _)⟩
 ·exact Lib.BuilderAt.put (T:=112) (e:=5) hB hb2 (bs':=bs++Lib.strCells s) (by simpa [Lib.strCells_length]using hown') (by decide)
 ·exact(hb1.grown hgrow (by have:=hb1.size;omega) (fun k hk=>(hown.lt k hk).1)).setCell (p:=⟨b,1,none⟩) hB _
end Go.Proofs.YtbiioifpeebjaaaGreatDoor
namespace Go.Proofs.YtbiioifpeebjaaaGreatDoor
open Go.RowKit
def TabOk (w:World):Prop:=Lib.TabIs Tryz.prog w "internal/strconv.uint64pow10" .u64 Lib.pow10Tab
theorem var_below {w w':World} {nm:String} {cs:Array Value} (h:w.var? Tryz.prog nm=some cs) (hb:Below w.heap.size w w'):w'.var? Tryz.prog nm=some cs:=by
 unfold World.var? at h⊢;cases hg:Tryz.prog.globalNamed nm with
 |none=>rw[hg]at h;cases h
 |some g=>
  rw[hg]at h;simp only[Option.bind_some]at h⊢;split at h
  ·rename_i cs' T z hc;rw[(hb.block g (lt_of_block hc)).trans hc];exact h
  ·cases h
theorem TabOk.below {w w':World} (h:TabOk w) (hb:Below w.heap.size w w'):TabOk w':=var_below h hb
theorem itoa_any {n:Int} (h0:0<=n) (h1:n<=9223372036854775807) (w:World) (ht:TabOk w):Calls Tryz.prog 84 #[.int .i64 n] w fun e w'=>e= .returned (.string ⟨(Lib.itoa n).toArray⟩)/\Below w.heap.size w w':=by
 refine(Tryz.strconv_Itoa n (by omega) h1 w ht).mono ?_;rintro e w' ⟨rfl,k,os,rfl⟩;refine⟨rfl, ?_⟩;exact Lib.below_grow _ w (Nat.le_refl _) k os
theorem bs_cat {B b:Nat} {w:World} {bs:List UInt8} {s:ByteArray} (h:Lib.BuilderAt 112 5 B b (.pointer (some ⟨b,0,none⟩)) (bv bs++Lib.strCells s) w):Lib.IsBuilder 112 5 B b (bv (bs++s.data.toList)) w:= .inr (by rw[bv_append];exact h)
theorem bs_one {B b:Nat} {w:World} {bs:List UInt8} (c:UInt8) {x:Int} (hx:(c.toNat:Int)=x) (h:Lib.BuilderAt 112 5 B b (.pointer (some ⟨b,0,none⟩)) (bv bs++[.int .u8 x]) w):Lib.IsBuilder 112 5 B b (bv (bs++[c])) w:= .inr (by rw[bv_append];subst hx;exact h)
theorem bs_len {bs:List UInt8} {s:ByteArray} {M:Nat} (h:bs.length+s.size<=M):(bv bs).length+s.size<=M:=by rw[bv_length];exact h
theorem bs_len1 {bs:List UInt8} {M:Nat} (h:bs.length+1<=M):(bv bs).length+1<=M:=by rw[bv_length];exact h
theorem idx1 (W:World):(Instr.index 9 (.string ⟨#[32,115,112,97,111,38,124]⟩) (.int .u8 1)).run Tryz.prog W= .ok (.int .u8 115) W:=by
 rw[run_index_string (P:=Tryz.prog) W 9 _ .u8 1 Tryz.underlying9,dif_pos ⟨by decide,by decide⟩];rfl
theorem idx2 (W:World):(Instr.index 9 (.string ⟨#[32,115,112,97,111,38,124]⟩) (.int .u8 2)).run Tryz.prog W= .ok (.int .u8 112) W:=by
 rw[run_index_string (P:=Tryz.prog) W 9 _ .u8 2 Tryz.underlying9,dif_pos ⟨by decide,by decide⟩];rfl
theorem idx3 (W:World):(Instr.index 9 (.string ⟨#[32,115,112,97,111,38,124]⟩) (.int .u8 3)).run Tryz.prog W= .ok (.int .u8 97) W:=by
 rw[run_index_string (P:=Tryz.prog) W 9 _ .u8 3 Tryz.underlying9,dif_pos ⟨by decide,by decide⟩];rfl
theorem idx4 (W:World):(Instr.index 9 (.string ⟨#[32,115,112,97,111,38,124]⟩) (.int .u8 4)).run Tryz.prog W= .ok (.int .u8 111) W:=by
 rw[run_index_string (P:=Tryz.prog) W 9 _ .u8 4 Tryz.underlying9,dif_pos ⟨by decide,by decide⟩];rfl
theorem idx5 (W:World):(Instr.index 9 (.string ⟨#[32,115,112,97,111,38,124]⟩) (.int .u8 5)).run Tryz.prog W= .ok (.int .u8 38) W:=by
 rw[run_index_string (P:=Tryz.prog) W 9 _ .u8 5 Tryz.underlying9,dif_pos ⟨by decide,by decide⟩];rfl
theorem idx6 (W:World):(Instr.index 9 (.string ⟨#[32,115,112,97,111,38,124]⟩) (.int .u8 6)).run Tryz.prog W= .ok (.int .u8 124) W:=by
 rw[run_index_string (P:=Tryz.prog) W 9 _ .u8 6 Tryz.underlying9,dif_pos ⟨by decide,by decide⟩];rfl
set_option maxRecDepth 100000 in
set_option maxHeartbeats 8000000 in
theorem write1 (b:Nat) (bs:List UInt8) (t:ByteArray) (n:Int) (A:Option Addr) (cap:Nat) (v w:World) (hlen:bs.length+1000000<=140737488355328) (hsm:t.size<=900000) (ht:TabOk v) (h0:Below v.heap.size v w) (hbd:Lib.IsBuilder 112 5 v.heap.size b (bv bs) w):
 Calls Tryz.prog 68 #[.pointer (some ⟨b,0,none⟩),.agg #[.int .u8 1,.string t,.int .i64 n,.slice A 0 cap]] w fun e w'=>e= .returned (.tuple #[])/\Lib.IsBuilder 112 5 v.heap.size b (bv (bs++(115::t.data.toList))) w'/\Below v.heap.size v w':=by
 have hb0:Below w.heap.size w (w.alloc (zO2 1 t n A 0 cap)):=(Below.refl _ _).alloc (Nat.le_refl _) _;have HB0:=zH (h0.trans (hb0.mono h0.size));have HBD0:=zH (bld_below hbd hb0);have HXa:=zH (show(w.alloc (zO2 1 t n A 0 cap)).heap[w.heap.size]? =some (zO2 1 t n A 0 cap)from Go.heap_alloc_new w _);have HIX:=zH (fun(W:World)=>idx1 W);have HT:=zH ht;clear hb0 h0 hbd ht;go_enter Tryz.func68,Tryz.ntmps68;obtain⟨q0,q1,q2,q3⟩:=cN4 HXa.out;have ix:=HIX.out;go_wp2_with fail;clear ix;refine(writeByte_k v.heap.size b _ 115 _ HBD0.out (bs_len1 (by omega)) HB0.out.size).mono ?_;rintro e w1 ⟨rfl,⟨hbd,hbw⟩,hk⟩;have HB1:=zH (HB0.out.trans hbw);have HBD1:=zH (bs_one 115 (by decide) hbd);have HXw1:=zH (hk _ _ _ _ (by decide) (by decide) HXa.out);clear hbd hbw hk q0 q1 q2 q3;obtain⟨q0,q1,q2,q3⟩:=cN4 HXw1.out;go_wp2_with fail;refine(writeString_k v.heap.size b _ t _ HBD1.out (bs_len (by simp;omega)) HB1.out.size).mono ?_;rintro e w2 ⟨rfl,⟨hbd,hbw⟩,-⟩;have HBF:=zH (HB1.out.trans hbw);have FB:=zH (show Lib.IsBuilder 112 5 v.heap.size b (bv (bs++(115::t.data.toList))) w2 by
  have h:=bs_cat hbd;rw[List.append_assoc]at h;exact h)
 clear hbd hbw q0 q1 q2 q3;go_wp2_with fail;go_end0;exact⟨rfl,FB.out,HBF.out⟩
set_option maxRecDepth 100000 in
set_option maxHeartbeats 8000000 in
theorem write2 (b:Nat) (bs:List UInt8) (t:ByteArray) (n:Int) (A:Option Addr) (cap:Nat) (v w:World) (hlen:bs.length+1000000<=140737488355328) (hsm:t.size<=900000) (ht:TabOk v) (h0:Below v.heap.size v w) (hbd:Lib.IsBuilder 112 5 v.heap.size b (bv bs) w):
 Calls Tryz.prog 68 #[.pointer (some ⟨b,0,none⟩),.agg #[.int .u8 2,.string t,.int .i64 n,.slice A 0 cap]] w fun e w'=>e= .returned (.tuple #[])/\Lib.IsBuilder 112 5 v.heap.size b (bv (bs++(112::t.data.toList))) w'/\Below v.heap.size v w':=by
 have hb0:Below w.heap.size w (w.alloc (zO2 2 t n A 0 cap)):=(Below.refl _ _).alloc (Nat.le_refl _) _;have HB0:=zH (h0.trans (hb0.mono h0.size));have HBD0:=zH (bld_below hbd hb0);have HXa:=zH (show(w.alloc (zO2 2 t n A 0 cap)).heap[w.heap.size]? =some (zO2 2 t n A 0 cap)from Go.heap_alloc_new w _);have HIX:=zH (fun(W:World)=>idx2 W);have HT:=zH ht;clear hb0 h0 hbd ht;go_enter Tryz.func68,Tryz.ntmps68;obtain⟨q0,q1,q2,q3⟩:=cN4 HXa.out;have ix:=HIX.out;go_wp2_with fail;clear ix;refine(writeByte_k v.heap.size b _ 112 _ HBD0.out (bs_len1 (by omega)) HB0.out.size).mono ?_;rintro e w1 ⟨rfl,⟨hbd,hbw⟩,hk⟩;have HB1:=zH (HB0.out.trans hbw);have HBD1:=zH (bs_one 112 (by decide) hbd);have HXw1:=zH (hk _ _ _ _ (by decide) (by decide) HXa.out);clear hbd hbw hk q0 q1 q2 q3;obtain⟨q0,q1,q2,q3⟩:=cN4 HXw1.out;go_wp2_with fail;refine(writeString_k v.heap.size b _ t _ HBD1.out (bs_len (by simp;omega)) HB1.out.size).mono ?_;rintro e w2 ⟨rfl,⟨hbd,hbw⟩,-⟩;have HBF:=zH (HB1.out.trans hbw);have FB:=zH (show Lib.IsBuilder 112 5 v.heap.size b (bv (bs++(112::t.data.toList))) w2 by
  have h:=bs_cat hbd;rw[List.append_assoc]at h;exact h)
 clear hbd hbw q0 q1 q2 q3;go_wp2_with fail;go_end0;exact⟨rfl,FB.out,HBF.out⟩
set_option maxRecDepth 100000 in
set_option maxHeartbeats 8000000 in
theorem write3 (b:Nat) (bs:List UInt8) (t:ByteArray) (n:Int) (A:Option Addr) (cap:Nat) (v w:World) (hlen:bs.length+1000000<=140737488355328) (hsm:t.size<=900000) (ht:TabOk v) (h0:Below v.heap.size v w) (hbd:Lib.IsBuilder 112 5 v.heap.size b (bv bs) w) (hn0:0<=n) (hn1:n<1073741824):
 Calls Tryz.prog 68 #[.pointer (some ⟨b,0,none⟩),.agg #[.int .u8 3,.string t,.int .i64 n,.slice A 0 cap]] w fun e w'=>e= .returned (.tuple #[])/\Lib.IsBuilder 112 5 v.heap.size b (bv (bs++(97::(Lib.itoa n++[59])))) w'/\Below v.heap.size v w':=by
 have hil:=itoa_len hn0 (by omega);have hb0:Below w.heap.size w (w.alloc (zO2 3 t n A 0 cap)):=(Below.refl _ _).alloc (Nat.le_refl _) _;have HB0:=zH (h0.trans (hb0.mono h0.size));have HBD0:=zH (bld_below hbd hb0);have HXa:=zH (show(w.alloc (zO2 3 t n A 0 cap)).heap[w.heap.size]? =some (zO2 3 t n A 0 cap)from Go.heap_alloc_new w _);have HIX:=zH (fun(W:World)=>idx3 W);have HT:=zH ht;clear hb0 h0 hbd ht;go_enter Tryz.func68,Tryz.ntmps68;obtain⟨q0,q1,q2,q3⟩:=cN4 HXa.out;have ix:=HIX.out;go_wp2_with fail;clear ix;refine(writeByte_k v.heap.size b _ 97 _ HBD0.out (bs_len1 (by omega)) HB0.out.size).mono ?_;rintro e w1 ⟨rfl,⟨hbd,hbw⟩,hk⟩;have HB1:=zH (HB0.out.trans hbw);have HBD1:=zH (bs_one 97 (by decide) hbd);have HXw1:=zH (hk _ _ _ _ (by decide) (by decide) HXa.out);clear hbd hbw hk q0 q1 q2 q3;obtain⟨q0,q1,q2,q3⟩:=cN4 HXw1.out;have hit:=itoa_any hn0 (by omega) w1 (HT.out.below HB1.out);obtain⟨its,hits⟩: ∃its,(⟨(Lib.itoa n).toArray⟩:ByteArray)=its:=⟨_,rfl⟩;have hisz:its.size<=11:=by rw[<-hits];show(Lib.itoa n).toArray.size<=11;simpa using hil
 rw[hits]at hit;have HIT:=zH hit;have HITS:=zH hits;clear hit hits hil;go_wp2_with fail;refine HIT.out.mono ?_;rintro e w2 ⟨rfl,hb2⟩;have HB2:=zH (HB1.out.trans (hb2.mono HB1.out.size));have HBD2:=zH (bld_below HBD1.out hb2);clear hb2 q0 q1 q2 q3;go_wp2_with fail;have hsz:(its++(⟨#[59]⟩:ByteArray)).size=its.size+1:=by rw[ByteArray.size_append];rfl
 have hq:(bs++[(97:UInt8)]).length+(its++(⟨#[59]⟩:ByteArray)).size<=140737488355328:=by rw[hsz,List.length_append];simp only[List.length_cons,List.length_nil];omega
 have HQ:=zH (bs_len hq);clear hsz hq;refine(writeString_k v.heap.size b _ _ _ HBD2.out HQ.out HB2.out.size).mono ?_;rintro e w3 ⟨rfl,⟨hbd,hbw⟩,-⟩;have HBF:=zH (HB2.out.trans hbw);have FB:=zH (show Lib.IsBuilder 112 5 v.heap.size b (bv (bs++(97::(Lib.itoa n++[59])))) w3 by
  have h:=bs_cat hbd;rw[List.append_assoc,ByteArray.data_append,Array.toList_append,<-HITS.out]at h;simpa using h)
 clear hbd hbw;go_wp2_with fail;go_end0;exact⟨rfl,FB.out,HBF.out⟩
set_option maxRecDepth 100000 in
set_option maxHeartbeats 8000000 in
theorem write4 (b:Nat) (bs:List UInt8) (t:ByteArray) (n:Int) (A:Option Addr) (cap:Nat) (v w:World) (hlen:bs.length+1000000<=140737488355328) (hsm:t.size<=900000) (ht:TabOk v) (h0:Below v.heap.size v w) (hbd:Lib.IsBuilder 112 5 v.heap.size b (bv bs) w) (hn0:0<=n) (hn1:n<1073741824):
 Calls Tryz.prog 68 #[.pointer (some ⟨b,0,none⟩),.agg #[.int .u8 4,.string t,.int .i64 n,.slice A 0 cap]] w fun e w'=>e= .returned (.tuple #[])/\Lib.IsBuilder 112 5 v.heap.size b (bv (bs++(111::(Lib.itoa n++[59])))) w'/\Below v.heap.size v w':=by
 have hil:=itoa_len hn0 (by omega);have hb0:Below w.heap.size w (w.alloc (zO2 4 t n A 0 cap)):=(Below.refl _ _).alloc (Nat.le_refl _) _;have HB0:=zH (h0.trans (hb0.mono h0.size));have HBD0:=zH (bld_below hbd hb0);have HXa:=zH (show(w.alloc (zO2 4 t n A 0 cap)).heap[w.heap.size]? =some (zO2 4 t n A 0 cap)from Go.heap_alloc_new w _);have HIX:=zH (fun(W:World)=>idx4 W);have HT:=zH ht;clear hb0 h0 hbd ht;go_enter Tryz.func68,Tryz.ntmps68;obtain⟨q0,q1,q2,q3⟩:=cN4 HXa.out;have ix:=HIX.out;go_wp2_with fail;clear ix;refine(writeByte_k v.heap.size b _ 111 _ HBD0.out (bs_len1 (by omega)) HB0.out.size).mono ?_;rintro e w1 ⟨rfl,⟨hbd,hbw⟩,hk⟩;have HB1:=zH (HB0.out.trans hbw);have HBD1:=zH (bs_one 111 (by decide) hbd);have HXw1:=zH (hk _ _ _ _ (by decide) (by decide) HXa.out);clear hbd hbw hk q0 q1 q2 q3;obtain⟨q0,q1,q2,q3⟩:=cN4 HXw1.out;have hit:=itoa_any hn0 (by omega) w1 (HT.out.below HB1.out);obtain⟨its,hits⟩: ∃its,(⟨(Lib.itoa n).toArray⟩:ByteArray)=its:=⟨_,rfl⟩;have hisz:its.size<=11:=by rw[<-hits];show(Lib.itoa n).toArray.size<=11;simpa using hil
 rw[hits]at hit;have HIT:=zH hit;have HITS:=zH hits;clear hit hits hil;go_wp2_with fail;refine HIT.out.mono ?_;rintro e w2 ⟨rfl,hb2⟩;have HB2:=zH (HB1.out.trans (hb2.mono HB1.out.size));have HBD2:=zH (bld_below HBD1.out hb2);clear hb2 q0 q1 q2 q3;go_wp2_with fail;have hsz:(its++(⟨#[59]⟩:ByteArray)).size=its.size+1:=by rw[ByteArray.size_append];rfl
 have hq:(bs++[(111:UInt8)]).length+(its++(⟨#[59]⟩:ByteArray)).size<=140737488355328:=by rw[hsz,List.length_append];simp only[List.length_cons,List.length_nil];omega
 have HQ:=zH (bs_len hq);clear hsz hq;refine(writeString_k v.heap.size b _ _ _ HBD2.out HQ.out HB2.out.size).mono ?_;rintro e w3 ⟨rfl,⟨hbd,hbw⟩,-⟩;have HBF:=zH (HB2.out.trans hbw);have FB:=zH (show Lib.IsBuilder 112 5 v.heap.size b (bv (bs++(111::(Lib.itoa n++[59])))) w3 by
  have h:=bs_cat hbd;rw[List.append_assoc,ByteArray.data_append,Array.toList_append,<-HITS.out]at h;simpa using h)
 clear hbd hbw;go_wp2_with fail;go_end0;exact⟨rfl,FB.out,HBF.out⟩
set_option maxRecDepth 100000 in
set_option maxHeartbeats 8000000 in
theorem write5 (l:List LockT) (b:Nat) (bs:List UInt8) (t:ByteArray) (n:Int) (A:Option Addr) (cap:Nat) (v w:World) (hlen:bs.length+1000000+1000000*sizeTs l<=140737488355328) (hsm:t.size<=900000) (ht:TabOk v) (h0:Below v.heap.size v w) (hbd:Lib.IsBuilder 112 5 v.heap.size b (bv bs) w) (hl:l.length<=1000000) (xs:List Value) (hc:Cells v A xs) (hlk:LocksC v l xs)
 (hkk: ∀(i:Nat) (hi:i<l.length) (bs:List UInt8) (W:World) (cs:List Value),bs.length+1000000*sizeT l[i]<=140737488355328->LockC v l[i] cs->Below v.heap.size v W->Lib.IsBuilder 112 5 v.heap.size b (bv bs) W->Calls Tryz.prog 68 #[.pointer (some ⟨b,0,none⟩),.agg cs.toArray] W fun e w'=>e= .returned (.tuple #[])/\Lib.IsBuilder 112 5 v.heap.size b (bv (bs++textT l[i])) w'/\Below v.heap.size v w')
 (htl: ∀k,k<=l.length->(textTs (l.take k)).length<=1000000*sizeTs (l.take k)):
 Calls Tryz.prog 68 #[.pointer (some ⟨b,0,none⟩),.agg #[.int .u8 5,.string t,.int .i64 n,.slice A l.length cap]] w fun e w'=>e= .returned (.tuple #[])/\Lib.IsBuilder 112 5 v.heap.size b (bv (bs++(38::(Lib.itoa l.length++[58]++textTs l)))) w'/\Below v.heap.size v w':=by
 have hil:=itoa_len (n:=(l.length:Int)) (by omega) (by omega);have HC:=zH hc;have HL:=zH hlk;have HKK:=zH hkk;have HTL:=zH htl;clear hc hlk hkk htl;have hb0:Below w.heap.size w (w.alloc (zO2 5 t n A l.length cap)):=(Below.refl _ _).alloc (Nat.le_refl _) _;have HB0:=zH (h0.trans (hb0.mono h0.size));have HBD0:=zH (bld_below hbd hb0);have HXa:=zH (show(w.alloc (zO2 5 t n A l.length cap)).heap[w.heap.size]? =some (zO2 5 t n A l.length cap)from Go.heap_alloc_new w _);have HIX:=zH (fun(W:World)=>idx5 W);have HT:=zH ht;clear hb0 h0 hbd ht;go_enter Tryz.func68,Tryz.ntmps68;obtain⟨q0,q1,q2,q3⟩:=cN4 HXa.out;have ix:=HIX.out;go_wp2_with fail;clear ix;refine(writeByte_k v.heap.size b _ 38 _ HBD0.out (bs_len1 (by omega)) HB0.out.size).mono ?_;rintro e w1 ⟨rfl,⟨hbd,hbw⟩,hk⟩;have HB1:=zH (HB0.out.trans hbw);have HBD1:=zH (bs_one 38 (by decide) hbd);have HXw1:=zH (hk _ _ _ _ (by decide) (by decide) HXa.out);clear hbd hbw hk q0 q1 q2 q3;obtain⟨q0,q1,q2,q3⟩:=cN4 HXw1.out;have hit:=itoa_any (n:=(l.length:Int)) (by omega) (by omega) w1 (HT.out.below HB1.out);obtain⟨its,hits⟩: ∃its,(⟨(Lib.itoa (l.length:Int)).toArray⟩:ByteArray)=its:=⟨_,rfl⟩;have hisz:its.size<=11:=by rw[<-hits];show(Lib.itoa (l.length:Int)).toArray.size<=11;simpa using hil
 rw[hits]at hit;have HIT:=zH hit;have HITS:=zH hits;clear hit hits hil;go_wp2_with fail;refine HIT.out.mono ?_;rintro e w2 ⟨rfl,hb2⟩;have HB2:=zH (HB1.out.trans (hb2.mono HB1.out.size));have HBD2:=zH (bld_below HBD1.out hb2);have HXw2:=zH (KeepB.below hb2 _ _ _ _ (by decide) (by decide) HXw1.out);clear hb2 q0 q1 q2 q3;go_wp2_with fail;have hsz:(its++(⟨#[58]⟩:ByteArray)).size=its.size+1:=by rw[ByteArray.size_append];rfl
 have hq:(bs++[(38:UInt8)]).length+(its++(⟨#[58]⟩:ByteArray)).size<=140737488355328:=by rw[hsz,List.length_append];simp only[List.length_cons,List.length_nil];omega
 have HQ:=zH (bs_len hq);clear hsz hq;refine(writeString_k v.heap.size b _ _ _ HBD2.out HQ.out HB2.out.size).mono ?_;rintro e w3 ⟨rfl,⟨hbd,hbw⟩,hk⟩;have HB3:=zH (HB2.out.trans hbw);have HXw3:=zH (hk _ _ _ _ (by decide) (by decide) HXw2.out);have HBD3:=zH (show Lib.IsBuilder 112 5 v.heap.size b (bv (bs++(38::(Lib.itoa l.length++[58]++textTs (l.take 0))))) w3 by
  have h:=bs_cat hbd;rw[List.append_assoc,ByteArray.data_append,Array.toList_append,<-HITS.out]at h;rw[show textTs (l.take 0)=[] by simp[textTs],List.append_nil];simpa using h)
 have hpl:(Lib.itoa (l.length:Int)).length<=11:=itoa_len (by omega) (by omega);have HPL:=zH hpl;clear hbd hbw hk hpl;obtain⟨q0,q1,q2,q3⟩:=cN4 HXw3.out;go_wp2_with fail;clear q0 q1 q2 q3;go_loopw [23] (fun i wr=> ∃j:Nat,j<=l.length/\i= .int .i64 (j:Int)/\Lib.IsBuilder 112 5 v.heap.size b (bv (bs++(38::(Lib.itoa l.length++[58]++textTs (l.take j))))) wr/\Below v.heap.size v wr) (fun i _=>l.length - (intOf i).toNat)
 case atStart=>exact⟨0,Nat.zero_le _,rfl,HBD3.out,HB3.out⟩
 case round=>
  obtain⟨j,hj,rfl,hbj,hbr⟩:=hrel;have HBR:=zH hbr;have HBJ:=zH hbj;by_cases hlt:j<l.length
  ·obtain⟨ad,B,cp,rfl,d0,d1,d2,d3,hlk⟩:=lock_at HC.out HL.out hlt;replace d0:=cell_below hbr d0;replace d1:=cell_below hbr d1;replace d2:=cell_below hbr d2;replace d3:=cell_below hbr d3;have hbe:Below wr.heap.size wr (wr.alloc (zO2 l[j].kind l[j].term l[j].n B l[j].kids.length cp)):=(Below.refl _ _).alloc (Nat.le_refl _) _;have hsn:=textTs_snoc l j hlt;have hss:=sizeTs_snoc l j hlt;have hst:=sizeTs_take l (j+1);have htj:=HTL.out j hj;have hpl:=HPL.out;have hcall:=HKK.out j hlt (bs++(38::(Lib.itoa l.length++[58]++textTs (l.take j)))) _ _ (by simp only[List.length_append,List.length_cons,List.length_nil];omega) hlk (hbr.trans (hbe.mono hbr.size)) (bld_below hbj hbe);have HCALL:=zH hcall;have HSN:=zH hsn;clear hcall hsn hss hst htj hpl hbe hlk hbr hbj;go_wp2_with fail;refine HCALL.out.mono ?_;rintro e w4 ⟨rfl,hbd4,hb4⟩;have HBD4:=zH hbd4;have HB4:=zH hb4;clear hbd4 hb4;go_wp2_with fail;go_roundw
   case rel=>exact⟨j+1,by omega,by go_num,by
    have h:=HBD4.out;rw[HSN.out];simpa using h,HB4.out⟩
   case measure=>simp[intOf];omega
  ·have htk:l.take j=l:=List.take_of_length_le (by omega);rw[htk]at hbj;have FB:=zH hbj;have HBF:=zH hbr;clear hbj hbr HBJ;go_wp2_with fail;go_end0;exact⟨rfl,FB.out,HBF.out⟩
set_option maxRecDepth 100000 in
set_option maxHeartbeats 8000000 in
theorem write6 (l:List LockT) (b:Nat) (bs:List UInt8) (t:ByteArray) (n:Int) (A:Option Addr) (cap:Nat) (v w:World) (hlen:bs.length+1000000+1000000*sizeTs l<=140737488355328) (hsm:t.size<=900000) (ht:TabOk v) (h0:Below v.heap.size v w) (hbd:Lib.IsBuilder 112 5 v.heap.size b (bv bs) w) (hl:l.length<=1000000) (xs:List Value) (hc:Cells v A xs) (hlk:LocksC v l xs)
 (hkk: ∀(i:Nat) (hi:i<l.length) (bs:List UInt8) (W:World) (cs:List Value),bs.length+1000000*sizeT l[i]<=140737488355328->LockC v l[i] cs->Below v.heap.size v W->Lib.IsBuilder 112 5 v.heap.size b (bv bs) W->Calls Tryz.prog 68 #[.pointer (some ⟨b,0,none⟩),.agg cs.toArray] W fun e w'=>e= .returned (.tuple #[])/\Lib.IsBuilder 112 5 v.heap.size b (bv (bs++textT l[i])) w'/\Below v.heap.size v w')
 (htl: ∀k,k<=l.length->(textTs (l.take k)).length<=1000000*sizeTs (l.take k)):
 Calls Tryz.prog 68 #[.pointer (some ⟨b,0,none⟩),.agg #[.int .u8 6,.string t,.int .i64 n,.slice A l.length cap]] w fun e w'=>e= .returned (.tuple #[])/\Lib.IsBuilder 112 5 v.heap.size b (bv (bs++(124::(Lib.itoa l.length++[58]++textTs l)))) w'/\Below v.heap.size v w':=by
 have hil:=itoa_len (n:=(l.length:Int)) (by omega) (by omega);have HC:=zH hc;have HL:=zH hlk;have HKK:=zH hkk;have HTL:=zH htl;clear hc hlk hkk htl;have hb0:Below w.heap.size w (w.alloc (zO2 6 t n A l.length cap)):=(Below.refl _ _).alloc (Nat.le_refl _) _;have HB0:=zH (h0.trans (hb0.mono h0.size));have HBD0:=zH (bld_below hbd hb0);have HXa:=zH (show(w.alloc (zO2 6 t n A l.length cap)).heap[w.heap.size]? =some (zO2 6 t n A l.length cap)from Go.heap_alloc_new w _);have HIX:=zH (fun(W:World)=>idx6 W);have HT:=zH ht;clear hb0 h0 hbd ht;go_enter Tryz.func68,Tryz.ntmps68;obtain⟨q0,q1,q2,q3⟩:=cN4 HXa.out;have ix:=HIX.out;go_wp2_with fail;clear ix;refine(writeByte_k v.heap.size b _ 124 _ HBD0.out (bs_len1 (by omega)) HB0.out.size).mono ?_;rintro e w1 ⟨rfl,⟨hbd,hbw⟩,hk⟩;have HB1:=zH (HB0.out.trans hbw);have HBD1:=zH (bs_one 124 (by decide) hbd);have HXw1:=zH (hk _ _ _ _ (by decide) (by decide) HXa.out);clear hbd hbw hk q0 q1 q2 q3;obtain⟨q0,q1,q2,q3⟩:=cN4 HXw1.out;have hit:=itoa_any (n:=(l.length:Int)) (by omega) (by omega) w1 (HT.out.below HB1.out);obtain⟨its,hits⟩: ∃its,(⟨(Lib.itoa (l.length:Int)).toArray⟩:ByteArray)=its:=⟨_,rfl⟩;have hisz:its.size<=11:=by rw[<-hits];show(Lib.itoa (l.length:Int)).toArray.size<=11;simpa using hil
 rw[hits]at hit;have HIT:=zH hit;have HITS:=zH hits;clear hit hits hil;go_wp2_with fail;refine HIT.out.mono ?_;rintro e w2 ⟨rfl,hb2⟩;have HB2:=zH (HB1.out.trans (hb2.mono HB1.out.size));have HBD2:=zH (bld_below HBD1.out hb2);have HXw2:=zH (KeepB.below hb2 _ _ _ _ (by decide) (by decide) HXw1.out);clear hb2 q0 q1 q2 q3;go_wp2_with fail;have hsz:(its++(⟨#[58]⟩:ByteArray)).size=its.size+1:=by rw[ByteArray.size_append];rfl
 have hq:(bs++[(124:UInt8)]).length+(its++(⟨#[58]⟩:ByteArray)).size<=140737488355328:=by rw[hsz,List.length_append];simp only[List.length_cons,List.length_nil];omega
 have HQ:=zH (bs_len hq);clear hsz hq;refine(writeString_k v.heap.size b _ _ _ HBD2.out HQ.out HB2.out.size).mono ?_;rintro e w3 ⟨rfl,⟨hbd,hbw⟩,hk⟩;have HB3:=zH (HB2.out.trans hbw);have HXw3:=zH (hk _ _ _ _ (by decide) (by decide) HXw2.out);have HBD3:=zH (show Lib.IsBuilder 112 5 v.heap.size b (bv (bs++(124::(Lib.itoa l.length++[58]++textTs (l.take 0))))) w3 by
  have h:=bs_cat hbd;rw[List.append_assoc,ByteArray.data_append,Array.toList_append,<-HITS.out]at h;rw[show textTs (l.take 0)=[] by simp[textTs],List.append_nil];simpa using h)
 have hpl:(Lib.itoa (l.length:Int)).length<=11:=itoa_len (by omega) (by omega);have HPL:=zH hpl;clear hbd hbw hk hpl;obtain⟨q0,q1,q2,q3⟩:=cN4 HXw3.out;go_wp2_with fail;clear q0 q1 q2 q3;go_loopw [23] (fun i wr=> ∃j:Nat,j<=l.length/\i= .int .i64 (j:Int)/\Lib.IsBuilder 112 5 v.heap.size b (bv (bs++(124::(Lib.itoa l.length++[58]++textTs (l.take j))))) wr/\Below v.heap.size v wr) (fun i _=>l.length - (intOf i).toNat)
 case atStart=>exact⟨0,Nat.zero_le _,rfl,HBD3.out,HB3.out⟩
 case round=>
  obtain⟨j,hj,rfl,hbj,hbr⟩:=hrel;have HBR:=zH hbr;have HBJ:=zH hbj;by_cases hlt:j<l.length
  ·obtain⟨ad,B,cp,rfl,d0,d1,d2,d3,hlk⟩:=lock_at HC.out HL.out hlt;replace d0:=cell_below hbr d0;replace d1:=cell_below hbr d1;replace d2:=cell_below hbr d2;replace d3:=cell_below hbr d3;have hbe:Below wr.heap.size wr (wr.alloc (zO2 l[j].kind l[j].term l[j].n B l[j].kids.length cp)):=(Below.refl _ _).alloc (Nat.le_refl _) _;have hsn:=textTs_snoc l j hlt;have hss:=sizeTs_snoc l j hlt;have hst:=sizeTs_take l (j+1);have htj:=HTL.out j hj;have hpl:=HPL.out;have hcall:=HKK.out j hlt (bs++(124::(Lib.itoa l.length++[58]++textTs (l.take j)))) _ _ (by simp only[List.length_append,List.length_cons,List.length_nil];omega) hlk (hbr.trans (hbe.mono hbr.size)) (bld_below hbj hbe);have HCALL:=zH hcall;have HSN:=zH hsn;clear hcall hsn hss hst htj hpl hbe hlk hbr hbj;go_wp2_with fail;refine HCALL.out.mono ?_;rintro e w4 ⟨rfl,hbd4,hb4⟩;have HBD4:=zH hbd4;have HB4:=zH hb4;clear hbd4 hb4;go_wp2_with fail;go_roundw
   case rel=>exact⟨j+1,by omega,by go_num,by
    have h:=HBD4.out;rw[HSN.out];simpa using h,HB4.out⟩
   case measure=>simp[intOf];omega
  ·have htk:l.take j=l:=List.take_of_length_le (by omega);rw[htk]at hbj;have FB:=zH hbj;have HBF:=zH hbr;clear hbj hbr HBJ;go_wp2_with fail;go_end0;exact⟨rfl,FB.out,HBF.out⟩
theorem okT_cases {k:Int} {t:List UInt8} {n:Int} {m:Nat} (h:okT k t n m=true):(k=1/\m=0)\/(k=2/\m=0)\/(k=3/\m=0/\0<=n/\n<1073741824)\/(k=4/\m=0/\0<=n/\n<1073741824)\/((k=5\/k=6)/\m<=8):=by
 unfold okT at h;split at h
 ·rename_i hk;simp only[Bool.and_eq_true,decide_eq_true_eq]at h;exact .inl ⟨hk,h.1.2⟩
 ·split at h
  ·rename_i hk;simp only[Bool.and_eq_true,decide_eq_true_eq]at h;exact .inr (.inl ⟨hk,h.1.2⟩)
  ·split at h
   ·rename_i hk;simp only[Bool.and_eq_true,decide_eq_true_eq]at h;rcases hk with hk|hk
    ·exact .inr (.inr (.inl ⟨hk,h.1.1.2,h.1.2,h.2⟩))
    ·exact .inr (.inr (.inr (.inl ⟨hk,h.1.1.2,h.1.2,h.2⟩)))
   ·split at h
    ·rename_i hk;simp only[Bool.and_eq_true,decide_eq_true_eq]at h;exact .inr (.inr (.inr (.inr ⟨hk,h.2⟩)))
    ·cases h
mutual
theorem textT_len: ∀(x:LockT),rightT x=true->smallT x->(textT x).length<=1000000*sizeT x
 | .node k t n l,hr,hs=>by
  unfold rightT at hr;rw[Bool.and_eq_true]at hr;have hs':=smallT_parts hs;simp only[LockT.term,LockT.kids]at hs';have htl:t.data.toList.length<=900000:=hs'.1;have hkl:=textTs_len l hr.2 hs'.2.2;unfold textT sizeT;rcases okT_cases hr.1 with⟨rfl,h⟩|⟨rfl,h⟩|⟨rfl,h,h0,h1⟩|⟨rfl,h,h0,h1⟩|⟨hk,h⟩
  ·rw[if_pos rfl,List.length_cons];omega
  ·rw[if_neg (by decide),if_pos rfl,List.length_cons];omega
  ·rw[if_neg (by decide),if_neg (by decide),if_pos rfl,List.length_cons,List.length_append];have:=itoa_len h0 (show n<10000000000 by omega);simp only[List.length_cons,List.length_nil];omega
  ·rw[if_neg (by decide),if_neg (by decide),if_neg (by decide),if_pos rfl,List.length_cons,List.length_append];have:=itoa_len h0 (show n<10000000000 by omega);simp only[List.length_cons,List.length_nil];omega
  ·rw[if_neg (by omega),if_neg (by omega),if_neg (by omega),if_neg (by omega),List.length_cons,List.length_append,List.length_append];have:=itoa_len (n:=(l.length:Int)) (by omega) (by omega);simp only[List.length_cons,List.length_nil];omega
theorem textTs_len: ∀(l:List LockT),rightTs l=true->smallTs l->(textTs l).length<=1000000*sizeTs l
 |[],_,_=>by simp[textTs]
 |x::r,hr,hs=>by
  unfold rightTs at hr;unfold smallTs at hs;rw[Bool.and_eq_true]at hr;have h1:=textT_len x hr.1 hs.1;have h2:=textTs_len r hr.2 hs.2;unfold textTs sizeTs;rw[List.length_append];omega
end
theorem rightTs_take: ∀{l:List LockT},rightTs l=true-> ∀k,rightTs (l.take k)=true
 |[],h,k=>by simp[rightTs]
 |x::r,h,0=>by simp[rightTs]
 |x::r,h,k+1=>by
  unfold rightTs at h;rw[Bool.and_eq_true]at h;simp only[List.take_succ_cons,rightTs];rw[h.1,rightTs_take h.2 k];rfl
theorem smallTs_take: ∀{l:List LockT},smallTs l-> ∀k,smallTs (l.take k)
 |[],h,k=>by simp[smallTs]
 |x::r,h,0=>by simp[smallTs]
 |x::r,h,k+1=>by
  unfold smallTs at h;simp only[List.take_succ_cons,smallTs];exact⟨h.1,smallTs_take h.2 k⟩
theorem sub_nil {l:List LockT} (h:l.length=0):l=[]:=List.length_eq_zero_iff.1 h
theorem write_all: ∀(m:Nat) (x:LockT) (cs:List Value) (b:Nat) (bs:List UInt8) (v w:World),sizeT x<=m->smallT x->rightT x=true->bs.length+1000000*sizeT x<=140737488355328->LockC v x cs->TabOk v->Below v.heap.size v w->Lib.IsBuilder 112 5 v.heap.size b (bv bs) w->
 Calls Tryz.prog 68 #[.pointer (some ⟨b,0,none⟩),.agg cs.toArray] w fun e w'=>e= .returned (.tuple #[])/\Lib.IsBuilder 112 5 v.heap.size b (bv (bs++textT x)) w'/\Below v.heap.size v w'
 |0,x,_,_,_,_,_,hm,_,_,_,_,_,_,_=>absurd (sizeT_pos x) (by omega)
 |m+1,.node k t n l,cs,b,bs,v,w,hm,hs,hr,hlen,hc,ht,h0,hbd=>by
  unfold LockC at hc;obtain⟨A,cap,xs,rfl,h2,h3⟩:=hc;obtain⟨s1,s2,s3⟩:=smallT_parts hs;simp only[LockT.term,LockT.kids]at s1 s2 s3;have hr':=hr;unfold rightT at hr';rw[Bool.and_eq_true]at hr';have hz:sizeT (.node k t n l)=sizeTs l+1:=sizeT_kids _;rcases okT_cases hr'.1 with⟨rfl,h⟩|⟨rfl,h⟩|⟨rfl,h,n0,n1⟩|⟨rfl,h,n0,n1⟩|⟨hk,h⟩
  ·obtain rfl:=sub_nil h;exact write1 b bs t n A cap v w (by omega) s1 ht h0 hbd
  ·obtain rfl:=sub_nil h;exact write2 b bs t n A cap v w (by omega) s1 ht h0 hbd
  ·obtain rfl:=sub_nil h;exact write3 b bs t n A cap v w (by omega) s1 ht h0 hbd n0 n1
  ·obtain rfl:=sub_nil h;exact write4 b bs t n A cap v w (by omega) s1 ht h0 hbd n0 n1
  ·have hkk: ∀(i:Nat) (hi:i<l.length) (bs:List UInt8) (W:World) (cs:List Value),bs.length+1000000*sizeT l[i]<=140737488355328->LockC v l[i] cs->Below v.heap.size v W->Lib.IsBuilder 112 5 v.heap.size b (bv bs) W->_:=fun i hi bs W cs g0 g1 g2 g3=>
    write_all m l[i] cs b bs v W (by have:=sizeTs_at i hi;omega) (smallTs_at s3 i hi) (rightTs_at hr'.2 i hi) g0 g1 ht g2 g3
   have htl: ∀k,k<=l.length->(textTs (l.take k)).length<=1000000*sizeTs (l.take k):=fun k _=>textTs_len _ (rightTs_take hr'.2 k) (smallTs_take s3 k)
   rcases hk with rfl|rfl
   ·exact write5 l b bs t n A cap v w (by omega) s1 ht h0 hbd s2 xs h2 h3 hkk htl
   ·exact write6 l b bs t n A cap v w (by omega) s1 ht h0 hbd s2 xs h2 h3 hkk htl
set_option maxRecDepth 100000 in
set_option maxHeartbeats 8000000 in
theorem lwrite_any (x:LockT) (cs:List Value) (w:World) (hs:smallT x) (hc:LockC w x cs) (hv:VarsOk w) (ht:TabOk w):Calls Tryz.prog 44 #[.agg cs.toArray] w fun e w'=>e= .returned (.tuple #[.string (writeE x).1,.int .i64 (writeE x).2])/\Below w.heap.size w w':=by
 obtain⟨A,cap,xs,rfl,-,-⟩:=hc.shape;have hb:Below w.heap.size w (w.alloc (zO2 x.kind x.term x.n A x.kids.length cap)):=(Below.refl _ _).alloc (Nat.le_refl _) _;have HR:=zH (lright_any x _ _ hs (LockC.below hb _ _ hc) (hv.below hb));have HC:=zH hc;have HT:=zH ht;have HB:=zH hb;have hz:lockB x=true->rightT x=true/\sizeT x<=64:=fun h=>by
  unfold lockB at h;rw[Bool.and_eq_true,decide_eq_true_eq]at h;exact h
 have HZ:=zH hz;have HX:=zH (show(w.alloc (zO2 x.kind x.term x.n A x.kids.length cap)).heap[w.heap.size]? =some (zO2 x.kind x.term x.n A x.kids.length cap)from Go.heap_alloc_new w _);clear hb hc hv ht hz;obtain⟨R,hR⟩: ∃R,writeE x=R:=⟨_,rfl⟩;rw[hR];have HWE:=zH hR;clear hR;obtain⟨q0,q1,q2,q3⟩:=cN4 HX.out;go_enter Tryz.func44,Tryz.ntmps44;go_wp2_with fail;refine HR.out.mono ?_;rintro e w1 ⟨rfl,hb1⟩;have HB1:=zH (HB.out.trans (hb1.mono HB.out.size));replace q0:=cell_below hb1 q0;replace q1:=cell_below hb1 q1;replace q2:=cell_below hb1 q2;replace q3:=cell_below hb1 q3;clear hb1;cases hq:lockB x with
 |false=>
  have HE:=zH (show R=(⟨#[]⟩,110) by rw[<-HWE.out];unfold writeE;rw[hq];rfl);clear hq;go_wp2_with fail;go_ret2;rw[HE.out];exact⟨rfl,HB1.out⟩
 |true=>
  have HE:=zH (show R=(textB x,0) by rw[<-HWE.out];unfold writeE;rw[hq];rfl);obtain⟨hz1,hz2⟩:=HZ.out hq;have hba:Below w1.heap.size w1 (w1.alloc (.cells #[.pointer none,.slice none 0 0] 112)):=(Below.refl _ _).alloc (Nat.le_refl _) _;have x0:=cell_below hba q0;have x1:=cell_below hba q1;have x2:=cell_below hba q2;have x3:=cell_below hba q3;have hbd:Lib.IsBuilder 112 5 w1.heap.size w1.heap.size [] (w1.alloc (.cells #[.pointer none,.slice none 0 0] 112)):=Lib.fresh_isBuilder 112 5 w1;have hc1:=LockC.below HB1.out _ _ HC.out;have HWR:=zH (write_all (sizeT x) x _ w1.heap.size [] w1 _ (Nat.le_refl _) hs hz1 (by simp only[List.length_nil];omega) hc1 (HT.out.below HB1.out) hba hbd);have hlb:(textT x).length<=1000000*sizeT x:=textT_len x hz1 hs;clear hbd hc1 hba hq hz1;go_wp2_with fail;refine HWR.out.mono ?_;rintro e w2 ⟨rfl,hbd2,hb2⟩;have HB2:=zH hb2;have HBD2:=zH hbd2;clear hbd2 hb2;go_wp2_with fail;refine(Tryz.Builder_String_any w1.heap.size w1.heap.size _ _ HBD2.out HB2.out.size).mono ?_;rintro e w3 ⟨rfl,hb3⟩;have HB3:=zH (HB1.out.trans ((HB2.out.trans hb3).mono HB1.out.size));clear hb3;go_wp2_with fail;go_ret2;rw[HE.out];exact⟨rfl,HB3.out⟩
end Go.Proofs.YtbiioifpeebjaaaGreatDoor
