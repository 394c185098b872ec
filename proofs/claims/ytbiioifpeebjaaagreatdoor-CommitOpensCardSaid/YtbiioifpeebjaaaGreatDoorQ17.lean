/- Deals: the program says which are right. -/
import Derived.Test.YtbiioifpeebjaaaGreatDoorQ16
set_option linter.all false
namespace Go.Proofs.YtbiioifpeebjaaaGreatDoor
open Go.RowKit
theorem alloc_cells9 {w:World} {cs:Array Value} {T:TypeId} (i:Nat) (v:Value) (h:cs[i]? =some v):(w.alloc (.cells cs T)).cell? ⟨w.heap.size,i,none⟩=some v:=by
 have hh:(w.alloc (.cells cs T)).heap[w.heap.size]? =some (.cells cs T (0,0)):=Go.heap_alloc_new w _;simp only[World.cell?,hh];simpa using h
def dealV (d:DealR):Value:= .agg #[.int .i64 d.cap,.int .i64 d.push,.int .i64 d.dust,.int .i64 d.res,.int .i64 d.rate,.int .i64 d.delay,.int .i64 d.maxH,.int .i64 d.flight,.int .i64 d.minH]
theorem dealB_bad {d:DealR} (h:dealN d=false):dealE d=200:=by
 unfold dealE dealB;rw[h];rfl
theorem dealB_good {d:DealR} (h:dealN d=true):dealE d=if d.res+(costE d.rate 724).1<=d.cap - d.push then 0 else 200:=by
 unfold dealE dealB;rw[h,Bool.true_and,feeE0];by_cases h2:d.res+(costE d.rate 724).1<=d.cap - d.push
 ·rw[decide_eq_true h2,if_pos h2];rfl
 ·rw[decide_eq_false h2,if_neg h2];rfl
theorem inB_iff {n a b:Int}:btwB n a b=true↔a<=n/\n<=b:=by unfold btwB;rw[Bool.and_eq_true,decide_eq_true_eq,decide_eq_true_eq]
set_option maxRecDepth 100000 in
set_option maxHeartbeats 16000000 in
theorem right_deal (d:DealR) (w:World):Calls Tryz.prog 4 #[dealV d] w fun e w'=>e= .returned (.int .i64 (dealE d))/\Below w.heap.size w w':=by
 unfold dealV;have hb0:Below w.heap.size w (w.alloc (zB d)):=(Below.refl _ _).alloc (Nat.le_refl _) _;have p0:(w.alloc (zB d)).cell? ⟨w.heap.size,0,none⟩=some (.int .i64 d.cap):=alloc_cells9 0 _ rfl;have p1:(w.alloc (zB d)).cell? ⟨w.heap.size,1,none⟩=some (.int .i64 d.push):=alloc_cells9 1 _ rfl;have p2:(w.alloc (zB d)).cell? ⟨w.heap.size,2,none⟩=some (.int .i64 d.dust):=alloc_cells9 2 _ rfl;have p3:(w.alloc (zB d)).cell? ⟨w.heap.size,3,none⟩=some (.int .i64 d.res):=alloc_cells9 3 _ rfl;have p4:(w.alloc (zB d)).cell? ⟨w.heap.size,4,none⟩=some (.int .i64 d.rate):=alloc_cells9 4 _ rfl;have p5:(w.alloc (zB d)).cell? ⟨w.heap.size,5,none⟩=some (.int .i64 d.delay):=alloc_cells9 5 _ rfl;have p6:(w.alloc (zB d)).cell? ⟨w.heap.size,6,none⟩=some (.int .i64 d.maxH):=alloc_cells9 6 _ rfl;have p7:(w.alloc (zB d)).cell? ⟨w.heap.size,7,none⟩=some (.int .i64 d.flight):=alloc_cells9 7 _ rfl;have p8:(w.alloc (zB d)).cell? ⟨w.heap.size,8,none⟩=some (.int .i64 d.minH):=alloc_cells9 8 _ rfl;have hfe:=fee_any d.rate 0 (w.alloc (zB d));rw[feeE0]at hfe;have HF:=zH hfe;have HB:=zH hb0;have P:=zH (fun(W:World) (h:Below (w.alloc (zB d)).heap.size (w.alloc (zB d)) W)=>(⟨cell_below h p0,cell_below h p1,cell_below h p2,cell_below h p3,cell_below h p4,cell_below h p5,cell_below h p6,cell_below h p7,cell_below h p8⟩:W.cell? ⟨w.heap.size,0,none⟩=some (.int .i64 d.cap)/\W.cell? ⟨w.heap.size,1,none⟩=some (.int .i64 d.push)/\W.cell? ⟨w.heap.size,2,none⟩=some (.int .i64 d.dust)/\W.cell? ⟨w.heap.size,3,none⟩=some (.int .i64 d.res)/\W.cell? ⟨w.heap.size,4,none⟩=some (.int .i64 d.rate)/\W.cell? ⟨w.heap.size,5,none⟩=some (.int .i64 d.delay)/\W.cell? ⟨w.heap.size,6,none⟩=some (.int .i64 d.maxH)/\W.cell? ⟨w.heap.size,7,none⟩=some (.int .i64 d.flight)/\W.cell? ⟨w.heap.size,8,none⟩=some (.int .i64 d.minH)));have HW:=zH (fun n a b W=>within_any n a b W);have HDN:=zH (show dealN d=(btwB d.cap 1 2100000000000000&&btwB d.push 0 d.cap&&btwB d.dust 1 2100000000000000&&btwB d.res d.dust d.cap&&btwB d.rate 0 1000000&&btwB d.delay 1 10000&&btwB d.maxH 1 30&&btwB d.flight 1 2100000000000000000&&btwB d.minH 1 2100000000000000000)from rfl);clear hb0 hfe;obtain⟨x1,x2,hx⟩: ∃x1 x2,costE d.rate 724=(x1,x2):=⟨_,_,rfl⟩;have hx1:=costE_fst d.rate 724;have hx2:=costE_snd d.rate 724;have HCK:=zH (fun h=>cost_ok (r:=d.rate) (w:=724) h (by decide) (by decide));have HG:=zH (fun h=>dealB_good (d:=d) h);rw[hx]at HF hx1 hx2 HCK HG;simp only at HF hx1;have HCB:=zH hx2;clear hx hx2;cases ge:(x2==0)with
 |false=>
  have HN:=zH (show dealE d=200 from dealB_bad (by
   rw[HDN.out];cases hr:btwB d.rate 0 1000000 with
   |true=>have:=HCK.out hr;injection this with _ this;subst this;cases ge
   |false=>simp))
  go_enter Tryz.func4,Tryz.ntmps4;go_wp2_with fail;refine HF.out.mono ?_;rintro e w1 ⟨rfl,hb1⟩;obtain⟨s0,s1,s2,s3,s4,s5,s6,s7,s8⟩:=P.out w1 hb1;have HB1:=zH (HB.out.trans (hb1.mono HB.out.size));clear hb1 p0 p1 p2 p3 p4 p5 p6 p7 p8;go_wp2_with fail;go_ret;rw[HN.out];exact⟨rfl,HB1.out⟩
 |true=>
  go_enter Tryz.func4,Tryz.ntmps4;go_wp2_with fail;refine HF.out.mono ?_;rintro e w1 ⟨rfl,hb1⟩;obtain⟨s0,s1,s2,s3,s4,s5,s6,s7,s8⟩:=P.out w1 hb1;have HB1:=zH (HB.out.trans (hb1.mono HB.out.size));clear hb1 p0 p1 p2 p3 p4 p5 p6 p7 p8;go_wp2_with fail;refine(HW.out (d.cap) (1) (2100000000000000) _).mono ?_;rintro e w2 ⟨rfl,rfl⟩;cases q0:btwB (d.cap) (1) (2100000000000000)with
  |false=>
   have HN:=zH (show dealE d=200 from dealB_bad (by rw[HDN.out,q0];rfl));go_wp2_with fail;go_ret;rw[HN.out];exact⟨rfl,HB1.out⟩
  |true=>
   go_wp2_with fail;refine(HW.out (d.push) (0) (d.cap) _).mono ?_;rintro e w2 ⟨rfl,rfl⟩;cases q1:btwB (d.push) (0) (d.cap)with
   |false=>
    have HN:=zH (show dealE d=200 from dealB_bad (by rw[HDN.out,q0,q1];rfl));go_wp2_with fail;go_ret;rw[HN.out];exact⟨rfl,HB1.out⟩
   |true=>
    go_wp2_with fail;refine(HW.out (d.dust) (1) (2100000000000000) _).mono ?_;rintro e w2 ⟨rfl,rfl⟩;cases q2:btwB (d.dust) (1) (2100000000000000)with
    |false=>
     have HN:=zH (show dealE d=200 from dealB_bad (by rw[HDN.out,q0,q1,q2];rfl));go_wp2_with fail;go_ret;rw[HN.out];exact⟨rfl,HB1.out⟩
    |true=>
     go_wp2_with fail;refine(HW.out (d.res) (d.dust) (d.cap) _).mono ?_;rintro e w2 ⟨rfl,rfl⟩;cases q3:btwB (d.res) (d.dust) (d.cap)with
     |false=>
      have HN:=zH (show dealE d=200 from dealB_bad (by rw[HDN.out,q0,q1,q2,q3];rfl));go_wp2_with fail;go_ret;rw[HN.out];exact⟨rfl,HB1.out⟩
     |true=>
      go_wp2_with fail;refine(HW.out (d.rate) (0) (1000000) _).mono ?_;rintro e w2 ⟨rfl,rfl⟩;cases q4:btwB (d.rate) (0) (1000000)with
      |false=>
       have HN:=zH (show dealE d=200 from dealB_bad (by rw[HDN.out,q0,q1,q2,q3,q4];rfl));go_wp2_with fail;go_ret;rw[HN.out];exact⟨rfl,HB1.out⟩
      |true=>
       go_wp2_with fail;refine(HW.out (d.delay) (1) (10000) _).mono ?_;rintro e w2 ⟨rfl,rfl⟩;cases q5:btwB (d.delay) (1) (10000)with
       |false=>
        have HN:=zH (show dealE d=200 from dealB_bad (by rw[HDN.out,q0,q1,q2,q3,q4,q5];rfl));go_wp2_with fail;go_ret;rw[HN.out];exact⟨rfl,HB1.out⟩
       |true=>
        go_wp2_with fail;refine(HW.out (d.maxH) (1) (30) _).mono ?_;rintro e w2 ⟨rfl,rfl⟩;cases q6:btwB (d.maxH) (1) (30)with
        |false=>
         have HN:=zH (show dealE d=200 from dealB_bad (by rw[HDN.out,q0,q1,q2,q3,q4,q5,q6];rfl));go_wp2_with fail;go_ret;rw[HN.out];exact⟨rfl,HB1.out⟩
        |true=>
         go_wp2_with fail;refine(HW.out (d.flight) (1) (2100000000000000000) _).mono ?_;rintro e w2 ⟨rfl,rfl⟩;cases q7:btwB (d.flight) (1) (2100000000000000000)with
         |false=>
          have HN:=zH (show dealE d=200 from dealB_bad (by rw[HDN.out,q0,q1,q2,q3,q4,q5,q6,q7];rfl));go_wp2_with fail;go_ret;rw[HN.out];exact⟨rfl,HB1.out⟩
         |true=>
          go_wp2_with fail;refine(HW.out (d.minH) (1) (2100000000000000000) _).mono ?_;rintro e w2 ⟨rfl,rfl⟩;cases q8:btwB (d.minH) (1) (2100000000000000000)with
          |false=>
           have HN:=zH (show dealE d=200 from dealB_bad (by rw[HDN.out,q0,q1,q2,q3,q4,q5,q6,q7,q8];rfl));go_wp2_with fail;go_ret;rw[HN.out];exact⟨rfl,HB1.out⟩
          |true=>
           have HN:=zH (HG.out (by rw[HDN.out,q0,q1,q2,q3,q4,q5,q6,q7,q8];rfl));have b0:=inB_iff.1 q0;have b1:=inB_iff.1 q1;have b3:=inB_iff.1 q3;have b2:=inB_iff.1 q2
           try simp only at HN
           have w1':IntKind.i64.wrap (d.cap - d.push)=d.cap - d.push:=IntWalk.i64_in _ (by omega);have w2':IntKind.i64.wrap (d.res+x1)=d.res+x1:=IntWalk.i64_in _ (by omega);clear b0 b1 b2 b3;cases gf:decide (d.res+x1<=d.cap - d.push)with
           |true=>
            have HN:=zH (show dealE d=0 by rw[HN.out,if_pos (of_decide_eq_true gf)]);go_wp2_with fail;go_ret;rw[HN.out];exact⟨rfl,HB1.out⟩
           |false=>
            have HN:=zH (show dealE d=200 by rw[HN.out,if_neg (of_decide_eq_false gf)]);go_wp2_with fail;go_ret;rw[HN.out];exact⟨rfl,HB1.out⟩
end Go.Proofs.YtbiioifpeebjaaaGreatDoor
