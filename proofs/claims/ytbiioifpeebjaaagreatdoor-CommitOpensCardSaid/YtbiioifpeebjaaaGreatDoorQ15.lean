/- A line put ahead of a row of lines. · A line put ahead of a row of lines: where there is room. · A line put ahead of a row of lines: where there is no room; ahead of none. -/
import Derived.Test.YtbiioifpeebjaaaGreatDoorQ11
import Derived.Laws.CopyRow
import Derived.Lib.Overlaps
import Derived.Lib.AppendZerosOnto
set_option linter.all false
namespace Go.Proofs.YtbiioifpeebjaaaGreatDoor
open Go.RowKit
theorem slLine:SlTyK Tryz.prog 75 78 (.agg #[.int .i64 0,.int .u8 0,.string ⟨#[]⟩,.int .i64 0,.slice none 0 0,.int .i64 0,.string ⟨#[]⟩]) 7 88:=⟨Tryz.underlying75,by kernel_rfl,rfl,by decide⟩
theorem run_copy_k {P:Program} (w:World) (dT sT ty elem:TypeId) (k g o dLen dCap:Nat) (a:Addr) (sLen sCap:Nat) (cur:Array Value) (t:TypeId) (cs:List Value)
 (hu:P.underlying dT=some (.slice elem)) (hs:(P.info? elem).map (·.size)=some k)
 (hg:w.heap[g]? =some (.cells cur t (0,0))) (hn:cs.length=Nat.min sLen dLen*k)
 (hsrc: ∀(j:Nat) (v:Value),cs[j]? =some v->w.cell? (a.add j)=some v) (hfit:o+cs.length<=cur.size) (h1: ∀v∈cs,v.oneCell'=true):
 (Builtin.copy_ #[dT,sT] ty #[.slice (some ⟨g,o,none⟩) dLen dCap,.slice (some a) sLen sCap]).run P w=
  .ok (goInt (Nat.min sLen dLen)) (w.setRow g (cur.toList.take o++cs++cur.toList.drop (o+cs.length)).toArray):=by
 have hl:=run_loadCells_list (P:=P) w a cs hsrc;have hst:=run_storeCells_at P g o t cs 0 cur w hg (by simpa using hfit) h1;cases hq:P.info? elem with
 |none=>simp[hq]at hs
 |some i=>
  have hi:i.size=k:=by simpa [hq]using hs
  simp[Builtin.copy_,run_underlying hu,Builtin.lenOf,Builtin.firstCells,sizeOf,typeInfo,hq,hi,<-hn,hl,hst]
theorem wpList_copy_run {P:Program} (w:World) {ops:Array Oper} {rest:List Oper} {o:Oper} {a:Act} {Q:Exit->Act->World->Prop} (hgd:o.guard=none) (d s:Operand) (t t':TypeId)
 (ho:o.op= .call {callee:= .builtin .copy,args:= #[d,s],argTypes:= #[t,t']}) (v u:Value) (hd:a.eval d=v) (hs:a.eval s=u) {v':Value} {w':World}
 (hr:(Builtin.copy_ #[t,t'] o.type #[v,u]).run P w= .ok v' w') (h:wpList P ops Q rest (a.put o.dst v') w'):wpList P ops Q (o::rest) a w:=by
 refine wpList_plain hgd fun K hK=> ?_
 unfold Oper.wp execOp;simp only[ho,resolve,invoke,builtin,Sem.run_bind,Sem.run_pure,Result.andThen_ok,List.map_toArray,List.map_cons,List.map_nil,hd,hs,hr];exact hK _ _ h
theorem wpList_app_run {P:Program} (w:World) {ops:Array Oper} {rest:List Oper} {o:Oper} {a:Act} {Q:Exit->Act->World->Prop} (hgd:o.guard=none) (d s:Operand) (t t':TypeId)
 (ho:o.op= .call {callee:= .builtin .append,args:= #[d,s],argTypes:= #[t,t']}) (v u:Value) (hd:a.eval d=v) (hs:a.eval s=u) {v':Value} {w':World}
 (hr:(Builtin.append_ #[t,t'] o.type #[v,u]).run P w= .ok v' w') (h:wpList P ops Q rest (a.put o.dst v') w'):wpList P ops Q (o::rest) a w:=by
 refine wpList_plain hgd fun K hK=> ?_
 unfold Oper.wp execOp;simp only[ho,resolve,invoke,builtin,Sem.run_bind,Sem.run_pure,Result.andThen_ok,List.map_toArray,List.map_cons,List.map_nil,hd,hs,hr];exact hK _ _ h
theorem step_copy_run {P:Program} {ops:Array Oper} {o:Oper} {a:Act} {w:World} {K:Act->World->Prop} {Q:Exit->Act->World->Prop} {E:Prop}
 (hg:o.guard=none) (d x:Operand) (dT sT:TypeId) (hop:o.op=Op.call {callee:=Callee.builtin Builtin.copy,args:= #[d,x],argTypes:= #[dT,sT]})
 (v u:Value) (hd:a.eval d=v) (hx:a.eval x=u) {v':Value} {w':World} (hr:(Builtin.copy_ #[dT,sT] o.type #[v,u]).run P w= .ok v' w') (hK:K (a.put o.dst v') w'):
 if Region.wanted o (yielded ops a.tmps)=true then Oper.wp P o a w K Q else E:=by
 have hw:Region.wanted o (yielded ops a.tmps)=true:=by simp[Region.wanted,hg]
 rw[if_pos hw];unfold Oper.wp;simp[execOp,hop,resolve,invoke,builtin,hd,hx,hr,Result.andThen];exact hK
theorem overlaps_line (w:World) (a b:Addr) (la ca lb cb:Nat) (hne:a.block≠b.block) {ca' cb':Array Value} {T:TypeId} (ha:w.heap[a.block]? =some (.cells ca' T (0,0))) (hb:w.heap[b.block]? =some (.cells cb' T (0,0))) (hk:cb'.size≠0):
 (callFunc 42 #[.slice (some a) la ca,.slice (some b) lb cb]).run Tryz.prog w= .ok (.value (.bool false)) w:=by
 rw[run_callFunc_extern Tryz.func42 (by kernel_rfl) (by kernel_rfl) (by kernel_rfl) (e:=Extern.SlicesOverlaps.overlaps #[75,75] #[4]) (by kernel_rfl)];rw[Lib.run_overlaps_apart w 75 4 78 Tryz.underlying75 7 lines_size a b la ca lb cb hne T T ca'.size cb'.size (by simp[World.shape?,ha]) (by simp[World.shape?,hb]) hk (by simp[World.frozen?,ha]) (by simp[World.frozen?,ha])];rfl
end Go.Proofs.YtbiioifpeebjaaaGreatDoor
namespace Go.Proofs.YtbiioifpeebjaaaGreatDoor
open Go.RowKit
theorem setRow_fr {w:World} {g:Nat} (ys:Array Value):Fr [g] w (w.setRow g ys):=⟨rfl,rfl,rfl,by simp[World.setRow],fun i hi hn=>by
 have:i≠g:=by simpa using hn
 simp[World.setRow,Array.getElem?_modify,Ne.symm this]⟩
set_option maxRecDepth 100000 in
set_option maxHeartbeats 8000000 in
theorem insert_shift (n c g vb:Nat) (cur:Array Value) (xs:List Value) (x:LineR) (w:World) (h1:1<=n) (hc:n+1<=c) (hcm:c<=maxLen) (hg:w.heap[g]? =some (.cells cur 78 (0,0))) (hcs:cur.size=c*7) (ht:cur.toList.take (n*7)=xs) (ho: ∀u∈xs,u.oneCell'=true)
 (hv:w.heap[vb]? =some (.cells x.enc.toArray 78 (0,0))) (hne:vb≠g):
 Calls Tryz.prog 31 #[.slice (some ⟨g,0,none⟩) n c,.int .i64 0,.slice (some ⟨vb,0,none⟩) 1 1] w fun e w'=>
  e= .returned (.slice (some ⟨g,0,none⟩) (n+1) c)/\w'.heap[g]? =some (.cells (x.enc++xs++cur.toList.drop (7+n*7)).toArray 78 (0,0))/\Fr [g] w w':=by
 have hc63:c<=9223372036854775807:=hcm;clear hcm;have hxl:xs.length=n*7:=by rw[<-ht,List.length_take,Array.length_toList,hcs];omega
 have hov: ∀lb cb,(callFunc 42 #[.slice (some ⟨vb,0,none⟩) 1 1,.slice (some ⟨g,7,none⟩) lb cb]).run Tryz.prog w= .ok (.value (.bool false)) w:=fun lb cb=>overlaps_line w ⟨vb,0,none⟩ ⟨g,7,none⟩ 1 1 lb cb hne hv hg (by omega)
 have hsz:(Tryz.prog.info? 78).map (·.size)=some 7:=by kernel_rfl
 obtain⟨W1,hW1⟩: ∃W1,W1=w.drew.setRow g (cur.toList.take 7++xs++cur.toList.drop (7+n*7)).toArray:=⟨_,rfl⟩;have hg1:W1.heap[g]? =some (.cells (cur.toList.take 7++xs++cur.toList.drop (7+n*7)).toArray 78 (0,0)):=by
  rw[hW1];exact setRow_heap w.drew g cur _ _ _ hg
 have hv1:W1.heap[vb]? =some (.cells x.enc.toArray 78 (0,0)):=by
  rw[hW1,(setRow_fr (w:=w.drew) _).block vb (lt_of_block (w:=w.drew) hv) (by simpa using hne)];exact hv
 have hcp1: ∀ty dc sc,(Builtin.copy_ #[75,75] ty #[.slice (some ⟨g,7,none⟩) n dc,.slice (some ⟨g,0,none⟩) (n+1) sc]).run Tryz.prog w.drew= .ok (goInt n) W1:=fun ty dc sc=>by
  rw[run_copy_k w.drew _ _ ty 78 7 g 7 n dc ⟨g,0,none⟩ (n+1) sc cur _ xs Tryz.underlying75 hsz hg (by rw[hxl];simp only[Nat.min_def];split<;>omega)
   (fun j v hj=>by
    rw[Addr.add_lit,Nat.zero_add];refine cell_of (w:=w.drew) hg ?_;rw[<-ht,List.getElem?_take]at hj;split at hj
    ·simpa using hj
    ·cases hj) (by rw[hxl,hcs];omega) ho,hW1,hxl]
  rw[show Nat.min (n+1) n=n by simp only[Nat.min_def];split<;>omega]
 have hcp2: ∀ty dc,(Builtin.copy_ #[75,75] ty #[.slice (some ⟨g,0,none⟩) (n+1) dc,.slice (some ⟨vb,0,none⟩) 1 1]).run Tryz.prog W1= .ok (goInt 1) (W1.setRow g (x.enc++xs++cur.toList.drop (7+n*7)).toArray):=fun ty dc=>by
  rw[run_copy_k W1 _ _ ty 78 7 g 0 (n+1) dc ⟨vb,0,none⟩ 1 1 _ _ x.enc Tryz.underlying75 hsz hg1 (by rw[LineR.enc_len];simp only[Nat.min_def];split<;>omega)
   (fun j v hj=>by
    rw[Addr.add_lit,Nat.zero_add];exact cell_of hv1 (by simpa using hj)) (by rw[LineR.enc_len];simp[hcs,hxl];omega) x.enc_one]
  rw[show Nat.min 1 (n+1)=1 by simp only[Nat.min_def];split<;>omega];have ht7:(cur.toList.take 7).length=7:=by rw[List.length_take,Array.length_toList,hcs];omega
  congr 3;simp only[List.take_zero,List.nil_append,Nat.zero_add,LineR.enc_len];rw[List.append_assoc,List.drop_left' ht7,List.append_assoc]
 have hW2:(W1.setRow g (x.enc++xs++cur.toList.drop (7+n*7)).toArray).heap[g]? =some (.cells (x.enc++xs++cur.toList.drop (7+n*7)).toArray 78 (0,0)):=setRow_heap _ g _ _ _ _ hg1;have hFr:Fr [g] w (W1.setRow g (x.enc++xs++cur.toList.drop (7+n*7)).toArray):=by
  have a1:Fr [g] w W1:=by
   rw[hW1];exact⟨rfl,rfl,rfl,by simp[World.setRow],(setRow_fr (w:=w.drew) _).block⟩
  exact a1.trans (setRow_fr _) (fun _ h _=>h)
 have HW2:=zH hW2;have HFr:=zH hFr;have HOV:=zH hov;have HC1:=zH hcp1;have HC2:=zH hcp2;generalize x.enc++xs++cur.toList.drop (7+n*7)=ys at*;clear hW2 hFr hov hcp1 hcp2 hv1 hg1 hW1 hsz hxl ho ht hcs hg hv;have hz1:((n:Int)==0)=false:=by simp;omega
 have hz2:((0:Int)==(n:Int))=false:=by simp;omega
 have hb0: ¬(c=0):=by omega
 have hb1: ¬(c=1):=by omega
 have hb2: ¬((c:Int)<(n:Int)+1):=by omega
 go_enter Tryz.func31,Tryz.ntmps31;go_wp2_with (simp only[HOV.out]);have hw1:IntKind.i64.wrap 1=1:=by decide
 have hb3:(1:Int)<=(n:Int)+1:=by omega
 have hb5:(0:Int)<=(n:Int)+1:=by omega
 have hb4:((1:Int)).toNat=1:=rfl;have hq1:=HC1.out 3 (c - 1) c;go_region;clear hq1;have hq2:=HC2.out 3 c;go_wp2_with fail;clear hq2;go_ret;exact⟨rfl,HW2.out,HFr.out⟩
end Go.Proofs.YtbiioifpeebjaaaGreatDoor
namespace Go.Proofs.YtbiioifpeebjaaaGreatDoor
open Go.RowKit
set_option maxRecDepth 100000 in
set_option maxHeartbeats 8000000 in
theorem insert_grow (n g vb:Nat) (cur:Array Value) (x:LineR) (w:World) (h1:1<=n) (hn:n<=1000000) (hg:w.heap[g]? =some (.cells cur 78 (0,0))) (hcs:cur.size=n*7) (ho: ∀u∈cur.toList,u.oneCell'=true)
 (hv:w.heap[vb]? =some (.cells x.enc.toArray 78 (0,0))):
 Calls Tryz.prog 31 #[.slice (some ⟨g,0,none⟩) n n,.int .i64 0,.slice (some ⟨vb,0,none⟩) 1 1] w fun e w'=>
  ∃C Z,e= .returned (.slice (some ⟨w.heap.size,0,none⟩) (n+1) C)/\n+1<=C/\C<=maxLen/\w'.heap[w.heap.size]? =some (.cells (x.enc++cur.toList++Z).toArray 78 (0,0))/\(x.enc++cur.toList++Z).length=C*7/\Below w.heap.size w w':=by
 have hsz:(Tryz.prog.info? 78).map (·.size)=some 7:=by kernel_rfl
 obtain⟨i,hi,hz0,hz1,hz2⟩:=info_parts slLine.info;have hgl:=lt_of_block hg;have hvl:=lt_of_block hv;obtain⟨C,hC⟩: ∃C,grownCap w (0+(n+1)) n 78=C:=⟨_,rfl⟩;have hC1:n+1<=C:=by rw[<-hC];have:=grownCap_ge w (0+(n+1)) n 78;omega
 have hC2:C<=maxLen:=by rw[<-hC];exact grownCap_le_maxLen w _ _ _ (by unfold maxLen;omega)
 have hold:(Builtin.firstCells i.size 0 (.slice (some ⟨g,0,none⟩) 0 n)).run Tryz.prog w.drew= .ok ([]:List Value).toArray w.drew:=by
  rw[hz1];simp[Builtin.firstCells];rfl
 have happ:=Lib.run_append_grow_zeros w 75 3 75 78 i _ .i64 .i64 Tryz.underlying75 Tryz.underlying3 hi hz0 (some ⟨g,0,none⟩) 0 n [] hold (n+1) (by omega) (by rw[hz1];decide) (by omega) (by omega) (by rw[hz2];omega) (growslice_fits (by omega) (by rw[hz2];omega));rw[hC]at happ;obtain⟨Z,hZ⟩: ∃Z:Array Value,([]:List Value).toArray++Builtin.zeroCells (Value.agg #[.int .i64 0,.int .u8 0,.string ⟨#[]⟩,.int .i64 0,.slice none 0 0,.int .i64 0,.string ⟨#[]⟩]).cells (n+1)++Builtin.zeroCells (Value.agg #[.int .i64 0,.int .u8 0,.string ⟨#[]⟩,.int .i64 0,.slice none 0 0,.int .i64 0,.string ⟨#[]⟩]).cells (C - (0+(n+1)))=Z:=⟨_,rfl⟩;rw[hZ]at happ;have hZs:Z.size=C*7:=by
  rw[<-hZ];simp only[Array.size_append,size_zeroCells,slLine.one];simp;omega
 clear hZ hold hC;obtain⟨W0,hW0⟩: ∃W0,W0=w.drew.alloc (.cells Z 78):=⟨_,rfl⟩;rw[<-hW0]at happ;have hB0:Below w.heap.size w W0:=by rw[hW0];exact((Below.refl w.heap.size w).drew).alloc (Nat.le_refl _) _
 have hG0:W0.heap[w.heap.size]? =some (.cells Z 78 (0,0)):=by rw[hW0];exact Go.heap_alloc_new w.drew _
 have hv0:=(hB0.block vb hvl).trans hv;have hg0:=(hB0.block g hgl).trans hg;obtain⟨W1,hW1⟩: ∃W1,W1=W0.setRow w.heap.size (x.enc++Z.toList.drop 7).toArray:=⟨_,rfl⟩;have hcp1: ∀ty dc,(Builtin.copy_ #[75,75] ty #[.slice (some ⟨w.heap.size,0,none⟩) (n+1) dc,.slice (some ⟨vb,0,none⟩) 1 1]).run Tryz.prog W0= .ok (goInt 1) W1:=fun ty dc=>by
  rw[run_copy_k W0 _ _ ty 78 7 w.heap.size 0 (n+1) dc ⟨vb,0,none⟩ 1 1 _ _ x.enc Tryz.underlying75 hsz hG0 (by rw[LineR.enc_len];simp only[Nat.min_def];split<;>omega)
   (fun j v hj=>by
    rw[Addr.add_lit,Nat.zero_add];exact cell_of hv0 (by simpa using hj)) (by rw[LineR.enc_len,hZs];omega) x.enc_one,hW1]
  rw[show Nat.min 1 (n+1)=1 by simp only[Nat.min_def];split<;>omega];simp only[List.take_zero,List.nil_append,Nat.zero_add,LineR.enc_len];rfl
 have hG1:W1.heap[w.heap.size]? =some (.cells (x.enc++Z.toList.drop 7).toArray 78 (0,0)):=by rw[hW1];exact setRow_heap _ _ _ _ _ _ hG0
 have hB1:Below w.heap.size w W1:=by
  rw[hW1];exact hB0.trans ((setRow_fr (w:=W0) (g:=w.heap.size) _).toBelowOf hB0.size (fun i hi=>by simp at hi;omega))
 have hg1:=(hB1.block g hgl).trans hg;have hxs:cur.toList.length=n*7:=by simpa using hcs
 have hcp2: ∀ty dc sc,(Builtin.copy_ #[75,75] ty #[.slice (some ⟨w.heap.size,7,none⟩) n dc,.slice (some ⟨g,0,none⟩) n sc]).run Tryz.prog W1.drew= .ok (goInt n) (W1.drew.setRow w.heap.size (x.enc++cur.toList++Z.toList.drop (7+n*7)).toArray):=fun ty dc sc=>by
  rw[run_copy_k W1.drew _ _ ty 78 7 w.heap.size 7 n dc ⟨g,0,none⟩ n sc _ _ cur.toList Tryz.underlying75 hsz hG1 (by rw[hxs];simp only[Nat.min_def];split<;>omega)
   (fun j v hj=>by
    rw[Addr.add_lit,Nat.zero_add];exact cell_of (w:=W1.drew) hg1 (by simpa using hj)) (by simp[LineR.enc_len,hZs,hcs];omega) ho]
  rw[show Nat.min n n=n by simp only[Nat.min_def];split<;>omega];congr 3;simp only[List.toList_toArray,hxs];rw[List.take_left' (LineR.enc_len x),List.drop_append,LineR.enc_len,List.drop_of_length_le (by rw[LineR.enc_len];omega),List.nil_append,List.drop_drop];congr 2;omega
 have hG2:(W1.drew.setRow w.heap.size (x.enc++cur.toList++Z.toList.drop (7+n*7)).toArray).heap[w.heap.size]? =some (.cells (x.enc++cur.toList++Z.toList.drop (7+n*7)).toArray 78 (0,0)):=setRow_heap W1.drew _ _ _ _ _ hG1;have hB2:Below w.heap.size w (W1.drew.setRow w.heap.size (x.enc++cur.toList++Z.toList.drop (7+n*7)).toArray):=
  hB1.drew.trans ((setRow_fr (w:=W1.drew) (g:=w.heap.size) _).toBelowOf hB1.size (fun i hi=>by simp at hi;omega))
 have hlen:(x.enc++cur.toList++Z.toList.drop (7+n*7)).length=C*7:=by
  simp[LineR.enc_len,hcs,hZs];omega
 have HF:=zH (And.intro hG2 (And.intro hlen hB2));rw[show((n+1:Nat):Int)=(n:Int)+1 by omega,Nat.zero_add]at happ;have HAPP:=zH happ;have HC1:=zH hcp1;have HC2:=zH hcp2;generalize W1.drew.setRow w.heap.size (x.enc++cur.toList++Z.toList.drop (7+n*7)).toArray=W2 at HC2 HF;clear hG2 hlen hB2 happ hcp1 hcp2 hxs hg1 hB1 hG1 hg0 hv0 hG0 hB0 hsz hi hz0 hz1 hz2 ho hcs hg hv hW0 hW1;have hz1:((n:Int)==0)=false:=by simp;omega
 have hz2:((0:Int)==(n:Int))=false:=by simp;omega
 have hb0: ¬(C=0):=by omega
 have hb1: ¬(C=1):=by omega
 have hn0: ¬(n=0):=by omega
 have hb2:(n:Int)<(n:Int)+1:=by omega
 have hq1:=HC1.out 3 C;have hw1:IntKind.i64.wrap 1=1:=by decide
 have hb3:(1:Int)<=(n:Int)+1:=by omega
 have hb5:(0:Int)<=(n:Int)+1:=by omega
 have hb6:(0:Int)<=(n:Int):=by omega
 have hb4:((1:Int)).toNat=1:=rfl;go_enter Tryz.func31,Tryz.ntmps31;go_wp2_with (at_builtin;refine wpList_app_run _ rfl _ _ 75 3 rfl _ _ rfl rfl HAPP.out ?_);clear hq1;have hq2:=HC2.out 3 (C - 1) n;go_region;clear hq2;go_wp2_with fail;go_ret;exact⟨C,_,rfl,hC1,hC2,HF.out⟩
set_option maxRecDepth 100000 in
set_option maxHeartbeats 8000000 in
theorem insert_nil (vb:Nat) (x:LineR) (w:World) (hv:w.heap[vb]? =some (.cells x.enc.toArray 78 (0,0))):
 Calls Tryz.prog 31 #[.slice none 0 0,.int .i64 0,.slice (some ⟨vb,0,none⟩) 1 1] w fun e w'=>
  ∃v',e= .returned v'/\w'.ownsRow w.heap.size 78 7 v' 1 x.enc/\Below w.heap.size w w':=by
 have h0:w.ownsRow w.heap.size 78 7 (.slice none 0 0) 0 []:=⟨rfl,.inl ⟨rfl,rfl⟩⟩;have hc:Cells w (some ⟨vb,0,none⟩) x.enc:=fun _=>⟨_,rfl,fun j u h=>by
  have:=cell_of hv (j:=j) (u:=u) (by simpa using h);rw[Addr.add_lit,Nat.zero_add];exact this⟩
 have HC:=zH hc;have H0:=zH h0;clear hv hc h0;go_enter Tryz.func31,Tryz.ntmps31;go_wp2_with (at_builtin;refine wpList_appk slLine rfl _ _ rfl w.heap.size _ 0 [] rfl H0.out (some ⟨vb,0,none⟩) 1 1 x.enc rfl rfl HC.out x.enc_one (by omega) (by omega) (Nat.le_refl _) ?_;intro v' w1 hown hgr hb hat);go_ret;exact⟨v',rfl,by simpa using hown,hb⟩
theorem insert_any (n base vb:Nat) (s:Value) (xs:List Value) (x:LineR) (w:World) (hn:n<=1000000) (hown:w.ownsRow base 78 7 s n xs) (hz:n=0->s= .slice none 0 0) (ho: ∀u∈xs,u.oneCell'=true) (hbw:base<=w.heap.size)
 (hv:w.heap[vb]? =some (.cells x.enc.toArray 78 (0,0))) (hne: ∀g,s.ownBlock=some g->vb≠g):
 Calls Tryz.prog 31 #[s,.int .i64 0,.slice (some ⟨vb,0,none⟩) 1 1] w fun e w'=>
  ∃v',e= .returned v'/\w'.ownsRow base 78 7 v' (n+1) (x.enc++xs)/\Below base w w'/\w.grownBy w' s.ownBlock:=by
 rcases Nat.eq_zero_or_pos n with h0|h1
 ·subst h0;obtain rfl:=hz rfl;have hx:xs=[]:=List.length_eq_zero_iff.1 (by simpa using hown.1);subst hx;refine(insert_nil vb x w hv).mono ?_;rintro e w' ⟨v',rfl,h2,hb⟩;refine⟨v',rfl, ?_,hb.mono hbw,⟨hb.os,hb.tape,hb.output,hb.size,fun k hk _=>hb.block k hk⟩⟩;refine⟨by simpa using h2.1, ?_⟩;rcases h2.2 with h|⟨g,cap,cur,a1,a2,a3⟩
  ·exact .inl h
  ·exact .inr ⟨g,cap,cur,a1,Nat.le_trans hbw a2,by simpa using a3⟩
 ·have hxl:=hown.1;rcases hown.2 with⟨-,hn0⟩|⟨g,cap,cur,rfl,hbg,hg,hnc,hm,hsz,ht⟩
  ·omega
  ·have hgl:=lt_of_block hg;have hng:=hne g rfl;by_cases hc:cap=n
   ·subst hc;have hcur:cur.toList=xs:=by
     rw[<-ht,List.take_of_length_le (by simp[hsz])]
    refine(insert_grow cap g vb cur x w h1 hn hg hsz (by rw[hcur];exact ho) hv).mono ?_;rintro e w' ⟨C,Z,rfl,c1,c2,hG,hL,hb⟩;rw[hcur]at hG hL;refine⟨_,rfl,⟨by rw[List.length_append,LineR.enc_len,hxl];omega,.inr ⟨w.heap.size,C,_,rfl,hbw,hG,c1,c2,by simpa using hL, ?_⟩⟩,hb.mono hbw,⟨hb.os,hb.tape,hb.output,hb.size,fun k hk _=>hb.block k hk⟩⟩;rw[List.toList_toArray,List.take_left' (by rw[List.length_append,LineR.enc_len,hxl];omega)]
   ·refine(insert_shift n cap g vb cur xs x w h1 (by omega) hm hg hsz ht ho hv hng).mono ?_;rintro e w' ⟨rfl,hG,hf⟩;refine⟨_,rfl,⟨by rw[List.length_append,LineR.enc_len,hxl];omega,.inr ⟨g,cap,_,rfl,hbg,hG,by omega,hm, ?_, ?_⟩⟩,hf.toBelowOf hbw (fun i hi=>by simp at hi;omega),⟨hf.os,hf.tape,hf.output,hf.size,fun k hk hkn=>hf.block k hk (fun h=>hkn (by rw[List.mem_singleton.1 h];rfl))⟩⟩
    ·have:n*7+7<=cap*7:=by omega
     simp[LineR.enc_len,hxl,hsz];omega
    ·rw[List.toList_toArray,List.take_left' (by rw[List.length_append,LineR.enc_len,hxl];omega)]
end Go.Proofs.YtbiioifpeebjaaaGreatDoor
