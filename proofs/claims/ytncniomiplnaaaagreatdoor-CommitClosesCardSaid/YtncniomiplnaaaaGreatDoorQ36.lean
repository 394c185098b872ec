/- Close: two outputs as lines. · Two transactions that are the same. · The document's Close: two outputs as lines. -/
import Derived.Test.YtncniomiplnaaaaGreatDoorQ35
import Derived.Test.YtncniomiplnaaaaGreatDoorQ17
import Derived.Test.YtncniomiplnaaaaGreatDoorQ15
import Derived.Test.YtncniomiplnaaaaGreatDoorQ19
import Derived.Test.YtncniomiplnaaaaGreatDoorQ31
import Derived.Test.YtncniomiplnaaaaGreatDoorQ25
import Derived.Lib.QuietBelow
import Derived.Test.YtncniomiplnaaaaGreatDoorQ20
set_option linter.all false
namespace Go.Proofs.YtncniomiplnaaaaGreatDoor
open Go.RowKit
set_option maxRecDepth 100000 in
set_option maxHeartbeats 4000000 in
theorem whole_nil (tx:ByteArray) (pn tag:Int) (A:Option Addr) (cap:Nat) (w:World):
 Calls Tryz.prog 43 #[.agg #[.string tx,.int .i64 pn],.slice A 0 cap,.int .i64 tag] w fun e w'=>e= .returned (.tuple #[.agg #[.slice none 0 0,.slice none 0 0,.int .i64 0,.int .i64 0],.slice none 0 0,.int .i64 180])/\Below w.heap.size w w':=by
 have hb0:Below w.heap.size w ((w.alloc (zO11 tx pn)).alloc (zO4 none 0 0 none 0 0 0 0)):=((Below.refl w.heap.size w).alloc (Nat.le_refl _) (zO11 tx pn)).alloc (by simp) (zO4 none 0 0 none 0 0 0 0);have HB:=zH hb0;have HTX:=zH (show TxBox ((w.alloc (zO11 tx pn)).alloc (zO4 none 0 0 none 0 0 0 0)) (w.heap.size+1) none 0 0 none 0 0 0 0 from allocs_at [(zO11 tx pn),(zO4 none 0 0 none 0 0 0 0)] w 1 _ rfl);clear hb0;go_enter Tryz.func43,Tryz.ntmps43;go_wp2_with fail;generalize ((w.alloc (zO11 tx pn)).alloc (zO4 none 0 0 none 0 0 0 0))=V at HB HTX⊢;obtain⟨z0,z1,z2,z3⟩:=HTX.out.cells;exact bodyPost_ret (v:= .tuple #[.agg #[.slice none 0 0,.slice none 0 0,.int .i64 0,.int .i64 0],.slice none 0 0,.int .i64 180]) (by simp[results,Tryz.results43,go_sem,z0,z1,z2,z3]) rfl ⟨rfl,HB.out⟩
open Go.RowKit Go.Sort
theorem eqPtD (d:Nat) (s:ByteArray) (p:Int) (w:World):(Op.equalIn (d+2) 35 (.agg #[.string s,.int .i64 p]) (.agg #[.string s,.int .i64 p])).run Tryz.prog w= .ok true w:=by
 have u1:=Tryz.underlying9;have u2:=Tryz.underlying3;have hS:Tryz.prog.underlying 35=some (.struct (Tryz.prog.fieldsOf 35)):=by kernel_rfl
 rw[run_equalIn_agg w (d+1) _ _ _ hS (by kernel_rfl)];simp only[Program.fieldsOf,Tryz.underlying35];go_simp
theorem eqInD (x:InT) (w:World):(Op.equalIn 10000 90 (.agg #[.string x.tx,.int .i64 x.pn,.int .i64 x.age]) (.agg #[.string x.tx,.int .i64 x.pn,.int .i64 x.age])).run Tryz.prog w= .ok true w:=by
 have u2:=Tryz.underlying3;have hS:Tryz.prog.underlying 90=some (.struct (Tryz.prog.fieldsOf 90)):=by kernel_rfl
 have hp:=fun w=>eqPtD 9997 x.tx x.pn w
 rw[run_equalIn_agg w 9999 _ _ _ hS (by kernel_rfl)];simp only[Program.fieldsOf,Tryz.underlying90];go_simp
theorem binIn (x:InT) (w:World):(binOp .neq 90 (.agg #[.string x.tx,.int .i64 x.pn,.int .i64 x.age]) (.agg #[.string x.tx,.int .i64 x.pn,.int .i64 x.age])).run Tryz.prog w= .ok (.bool false) w:=by
 have h:=eqInD x w;simp[binOp,Op.equal,Op.maxDepth,h,Result.andThen]
set_option maxRecDepth 100000 in
set_option maxHeartbeats 16000000 in
theorem sameTx_eq (t:TxT) (A1 B1 A2 B2:Option Addr) (ca1 cb1 ca2 cb2:Nat) (w:World) (hs: ∀o∈t.outs,smallT o.lock) (hl:t.ins.length<=1000000) (hl2:t.outs.length<=1000000) (h1:TxC w t A1 B1) (h2:TxC w t A2 B2):
 Calls Tryz.prog 18 #[.agg #[.slice A1 t.ins.length ca1,.slice B1 t.outs.length cb1,.int .i64 t.after,.int .i64 t.tag],.agg #[.slice A2 t.ins.length ca2,.slice B2 t.outs.length cb2,.int .i64 t.after,.int .i64 t.tag]] w fun e w'=>e= .returned (.bool true)/\Below w.heap.size w w':=by
 have hb0:Below w.heap.size w ((w.alloc (zO4 A1 t.ins.length ca1 B1 t.outs.length cb1 t.after t.tag)).alloc (zO4 A2 t.ins.length ca2 B2 t.outs.length cb2 t.after t.tag)):=((Below.refl w.heap.size w).alloc (Nat.le_refl _) (zO4 A1 t.ins.length ca1 B1 t.outs.length cb1 t.after t.tag)).alloc (by simp) (zO4 A2 t.ins.length ca2 B2 t.outs.length cb2 t.after t.tag);have HB:=zH hb0;have HX:=zH (show TxBox ((w.alloc (zO4 A1 t.ins.length ca1 B1 t.outs.length cb1 t.after t.tag)).alloc (zO4 A2 t.ins.length ca2 B2 t.outs.length cb2 t.after t.tag)) w.heap.size A1 t.ins.length ca1 B1 t.outs.length cb1 t.after t.tag from allocs_at [(zO4 A1 t.ins.length ca1 B1 t.outs.length cb1 t.after t.tag),(zO4 A2 t.ins.length ca2 B2 t.outs.length cb2 t.after t.tag)] w 0 _ rfl);have HY:=zH (show TxBox ((w.alloc (zO4 A1 t.ins.length ca1 B1 t.outs.length cb1 t.after t.tag)).alloc (zO4 A2 t.ins.length ca2 B2 t.outs.length cb2 t.after t.tag)) (w.heap.size+1) A2 t.ins.length ca2 B2 t.outs.length cb2 t.after t.tag from allocs_at [(zO4 A1 t.ins.length ca1 B1 t.outs.length cb1 t.after t.tag),(zO4 A2 t.ins.length ca2 B2 t.outs.length cb2 t.after t.tag)] w 1 _ rfl);have HC:=zH (h1.below hb0);have HD:=zH (h2.below hb0);have HS:=zH hs;have hwl:w.heap.size+1<((w.alloc (.cells #[.slice A1 t.ins.length ca1,.slice B1 t.outs.length cb1,.int .i64 t.after,.int .i64 t.tag] 45)).alloc (.cells #[.slice A2 t.ins.length ca2,.slice B2 t.outs.length cb2,.int .i64 t.after,.int .i64 t.tag] 45)).heap.size:=by simp
 clear hb0 h1 h2 hs;have e1:(t.after !=t.after)=false:=by simp
 have e2:(t.tag !=t.tag)=false:=by simp
 have e3:((t.ins.length:Int) !=(t.ins.length:Int))=false:=by simp
 have e4:((t.outs.length:Int) !=(t.outs.length:Int))=false:=by simp
 obtain⟨x0,x1,x2,x3⟩:=HX.out.cells;obtain⟨y0,y1,y2,y3⟩:=HY.out.cells;go_enter Tryz.func18,Tryz.ntmps18;go_wp2_with fail;generalize ((w.alloc (zO4 A1 t.ins.length ca1 B1 t.outs.length cb1 t.after t.tag)).alloc (zO4 A2 t.ins.length ca2 B2 t.outs.length cb2 t.after t.tag))=V at HB HX HY HC HD hwl x0 x1 x2 x3 y0 y1 y2 y3⊢;go_wp2_with fail;go_loopw [5] (fun i wr=> ∃k m:Nat,k<=t.ins.length/\i= .int .i64 (k:Int)/\wr=V.drewN m) (fun i _=>t.ins.length - (intOf i).toNat)
 case atStart=>exact⟨0,0,Nat.zero_le _,rfl,rfl⟩
 case round=>
  obtain⟨k,m,hk,rfl,rfl⟩:=hrel;by_cases hlt:k<t.ins.length
  ·obtain⟨ad,rfl,a0,a1,a2⟩:=in_at HC.out.1 hlt;obtain⟨bd,rfl,b0,b1,b2⟩:=in_at HD.out.1 hlt;obtain⟨x,hx⟩: ∃x,t.ins[k]=x:=⟨_,rfl⟩;rw[hx]at a0 a1 a2 b0 b1 b2;clear hx;go_upto_region 6 with fail;have hbp:=fun W=>binIn x W
   go_quiet (fail);clear hbp;go_wp2_with fail;go_roundw
   case rel=>exact⟨k+1,_,by omega,by go_num,rfl⟩
   case measure=>simp[intOf];omega
  ·have hkn:k=t.ins.length:=by omega
   subst hkn;clear hlt hk;go_wp2_with fail;go_loopw [6] (fun i wr=> ∃k:Nat,k<=t.outs.length/\i= .int .i64 (k:Int)/\Below V.heap.size V wr) (fun i _=>t.outs.length - (intOf i).toNat)
   case atStart=>exact⟨0,Nat.zero_le _,rfl,below_drewN (Below.refl _ _) _⟩
   case round=>
    obtain⟨k,hk,rfl,hbr⟩:=hrel;have HBR:=zH hbr;have hX:=HX.out.below hbr;have hY:=HY.out.below hbr;by_cases hlt:k<t.outs.length
    ·obtain⟨-,ys,hy1,hy2⟩:=HC.out.below hbr;obtain⟨-,zs,hz1,hz2⟩:=HD.out.below hbr;obtain⟨ad,P,cp,rfl,a0,a1,a2,a3,a4,hla⟩:=out_at hy1 hy2 hlt;obtain⟨bd,Q,cq,rfl,b0,b1,b2,b3,b4,hlb⟩:=out_at hz1 hz2 hlt;have hsm:=HS.out t.outs[k] (List.getElem_mem hlt);obtain⟨o,ho⟩: ∃o,t.outs[k]=o:=⟨_,rfl⟩;rw[ho]at a0 a1 a2 a3 a4 b0 b1 b2 b3 b4 hla hlb hsm;have e5:(o.value !=o.value)=false:=by simp
     have R:=fun{a:Addr} {v:Value} (h:wr.cell? a=some v) (dd:Nat) (os:Array Obj)=>(cell_regrown h dd os:(grow (redrawn wr dd) os).cell? a=some v)
     have xs1:=R hX.cells.2.1;have ys1:=R hY.cells.2.1;have ra0:=R a0;have ra1:=R a1;have ra2:=R a2;have ra3:=R a3;have ra4:=R a4;have rb0:=R b0;have rb1:=R b1;have rb2:=R b2;have rb3:=R b3;have rb4:=R b4;have HL:=zH (fun dd os=>sameLock_eq o.lock _ _ (grow (redrawn wr dd) os) hsm (LockC.below (below_regrown wr dd os) _ _ hla) (LockC.below (below_regrown wr dd os) _ _ hlb));clear ho hla hlb hsm hy1 hy2 hz1 hz2 R a0 a1 a2 a3 a4 b0 b1 b2 b3 b4 x0 x1 x2 x3 y0 y1 y2 y3;have hX1:=hX.cells.2.1;have hY1:=hY.cells.2.1;clear hX hY hbr;go_upto_region 11 with fail;refine wp_region_quiet_below (by kernel_rfl) (by kernel_rfl) ?_
     repeat (quiet_step (first
      |(go_at_call 20;exact Calls.regrown_of (HL.out _ _))))
     refine wpQuiet_nil ?_;intro _ hw';obtain⟨⟨nq,osq⟩,hw''⟩:=hw';subst hw'';have HBF:=zH (HBR.out.trans ((below_regrown wr nq osq).mono HBR.out.size));go_wp2_with fail;go_roundw
     case rel=>exact⟨k+1,by omega,by go_num,HBF.out⟩
     case measure=>simp[intOf];omega
    ·obtain⟨xx0,xx1,xx2,xx3⟩:=hX.cells;clear hX hY x0 x1 x2 x3 y0 y1 y2 y3 hbr;go_wp2_with fail;go_ret;exact⟨rfl,HB.out.trans (HBR.out.mono HB.out.size)⟩
open Go.RowKit
theorem rwhole_q (tx:ByteArray) (pn tag:Int) (ps:List (LineP×LineR)) (vL:Value) (base:Nat) (v w:World) (hn:ps.length<=1000) (hbv:Below v.heap.size v w) (hvb:v.heap.size<=base) (hown:w.ownsRow base 87 6 vL ps.length ((ps.map Prod.snd).flatMap encD)) (hps: ∀q∈ps,LineK v.heap.size w q) (hpt:ptOk ⟨tx,pn,0⟩) (htx:tx.size<=1125899906842624):
 Calls Tryz.prog 45 #[.agg #[.string tx,.int .i64 pn],vL,.int .i64 tag] w fun e w'=> ∃t ws,e= .returned (.tuple #[t,ws,.int .i64 (wholeE tx pn (ps.map (·.1)) tag).2.2])/\TxF v.heap.size w' (wholeE tx pn (ps.map (·.1)) tag).1 t/\IntsF w' (wholeE tx pn (ps.map (·.1)) tag).2.1 ws/\ ∃F:List Nat,(∀g∈F,base<=g)/\Fr F w w':=by
 obtain⟨A,c,rfl,-,hc⟩:=own_shape hown;rcases Nat.eq_zero_or_pos ps.length with h0|h1
 ·obtain rfl:ps=[]:=List.eq_nil_of_length_eq_zero h0;refine(rwhole_nil tx pn tag A c w).mono ?_;rintro e w' ⟨rfl,hb⟩;exact⟨_,_,rfl,TxF.zero _ _,IntsF.nil _,[],by simp,Fr.below hb⟩
 ·refine(rwhole_any tx pn tag ps A c v w hbv.size hn h1 hc hps hpt htx).mono ?_;rintro e w' ⟨t,ws,rfl,a1,a2,a3⟩;exact⟨t,ws,rfl,a1,a2,[],by simp,Fr.below a3⟩
end Go.Proofs.YtncniomiplnaaaaGreatDoor
