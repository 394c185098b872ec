/- Numbers of 128 bits divided by 1000. · What a weight costs: the program's Cost. · What a weight costs, as the document says. · Fees, deals, payments that are left out: the program's and the document's. -/
import Derived.Test.YtbiioifpeebjaaaGreatDoorQ1
import Derived.Test.YtbiioifpeebjaaaGreatDoorShelfB
import Derived.Lib.EndianBits
import Derived.Lib.VarintBits
import Derived.Deep.DrawnRows
import Derived.Deep.CutBlock
import Derived.Deep.DeepCutAuto
import Derived.Lib.RabinKarpLaws
set_option linter.all false
namespace Go.Proofs.YtbiioifpeebjaaaGreatDoor
open Go.RowKit
set_option maxRecDepth 100000 in
theorem lz1000 (w:World):Calls Tryz.prog 81 #[.int .u64 1000] w fun e w'=>e= .returned (.int .i64 54)/\w'=w:=by
 have H:=Tryz.bits_Len64 1000 w (by decide) (by decide);rw[show(Lib.bitLen (1000:Int).toNat)=10 by decide]at H;have HL:=zH H;clear H;go_enter Tryz.func81,Tryz.ntmps81;go_wp2_with fail;refine HL.out.mono ?_;rintro e w1 ⟨rfl,rfl⟩;go_wp2_with fail;go_ret;exact⟨rfl,rfl⟩
theorem mask32 (x:Int) (h0:0<=x) (h1:x<18446744073709551616):bits .and .u64 x 4294967295=x%4294967296:=bits_mask .u64 64 (by decide) wraps_u64 32 (by decide) x h0 h1
theorem or54 (hi lo:Nat) (hhi:hi<1000) (hlo:lo<18446744073709551616):bits .or .u64 ((hi:Int)*18014398509481984) ((lo:Int) / 1024)=(hi:Int)*18014398509481984+(lo:Int) / 1024:=
 bits_join .u64 64 (by decide) wraps_u64 54 _ _ (by omega) (by show((hi:Int)*18014398509481984)%18014398509481984=0;omega) (by omega) (by omega) (by omega) (by omega)
theorem wrap_nat {n:Int} {m:Nat} (h:n=(m:Int)) (hm:m<18446744073709551616):IntKind.u64.wrap n=(m:Int):=by
 rw[IntKind.wrap_u64,h];exact Int.emod_eq_of_lt (by omega) (by omega)
theorem wrap_e4 (u q1 v1 u21:Nat) (h:u*4294967296+v1=q1*18014398509481984000+u21) (hb:u21<18446744073709551616):
 IntKind.u64.wrap ((((u*4294967296%18446744073709551616+v1)%18446744073709551616:Nat):Int) - ((q1*18014398509481984000%18446744073709551616:Nat):Int))=(u21:Int):=by
 rw[Nat.mod_add_mod,h];generalize q1*18014398509481984000=b;rw[IntKind.wrap_u64];omega
set_option maxRecDepth 100000 in
theorem e4_sum {u q1 r1 v1 u21:Nat} (h1:u=q1*4194304000+r1) (h2:r1*4294967296+v1=u21):u*4294967296+v1=q1*18014398509481984000+u21:=by
 subst h1;have e:(q1*4194304000+r1)*4294967296=q1*18014398509481984000+r1*4294967296:=by rw[Nat.add_mul,Nat.mul_assoc]
 rw[e,Nat.add_assoc,h2]
set_option maxHeartbeats 2000000 in
theorem div_facts (hi lo Q:Nat) (hhi:hi<1000) (hlo:lo<18446744073709551616) (hQ:(hi*18446744073709551616+lo) / 1000=Q):
 ∃u v v1 q1 p1 r1 x1 u21 e1 e2 e3 q0 p0 r0 x3 f1:Nat,
  (bits .or .u64 ((hi:Int)*18014398509481984) ((lo:Int) / 1024)=(u:Int))/\(IntKind.u64.wrap ((lo:Int)*18014398509481984)=(v:Int))/\((v:Int) / 4294967296=(v1:Int))/\(bits .and .u64 (v:Int) 4294967295=0)/\
  (IntKind.u64.wrap ((u:Int) / 4194304000)=(q1:Int))/\(IntKind.u64.wrap ((q1:Int)*4194304000)=(p1:Int))/\(IntKind.u64.wrap ((u:Int) - (p1:Int))=(r1:Int))/\(decide ((4294967296:Int)<=(q1:Int))=false)/\
  (IntKind.u64.wrap (4294967296*(r1:Int))=(x1:Int))/\(IntKind.u64.wrap ((x1:Int)+(v1:Int))=(u21:Int))/\(decide ((u21:Int)<0)=false)/\
  (IntKind.u64.wrap ((u:Int)*4294967296)=(e1:Int))/\(IntKind.u64.wrap ((e1:Int)+(v1:Int))=(e2:Int))/\(IntKind.u64.wrap ((q1:Int)*18014398509481984000)=(e3:Int))/\(IntKind.u64.wrap ((e2:Int) - (e3:Int))=(u21:Int))/\
  (IntKind.u64.wrap ((u21:Int) / 4194304000)=(q0:Int))/\(IntKind.u64.wrap ((q0:Int)*4194304000)=(p0:Int))/\(IntKind.u64.wrap ((u21:Int) - (p0:Int))=(r0:Int))/\(decide ((4294967296:Int)<=(q0:Int))=false)/\
  (IntKind.u64.wrap (4294967296*(r0:Int))=(x3:Int))/\(IntKind.u64.wrap (x3:Int)=(x3:Int))/\(decide ((x3:Int)<0)=false)/\(IntKind.u64.wrap ((q1:Int)*4294967296)=(f1:Int))/\(IntKind.u64.wrap ((f1:Int)+(q0:Int))=(Q:Int)):=by
 obtain⟨a1,a2,a3,a4,a5⟩:=div1000 hi lo hhi hlo;rw[hQ]at a5;obtain⟨u,hu⟩: ∃u,hi*18014398509481984+lo / 1024=u:=⟨_,rfl⟩;obtain⟨v1,hv1⟩: ∃v1,lo%1024*4194304=v1:=⟨_,rfl⟩;have ho:=or54 hi lo hhi hlo;have hv1b:v1<4294967296:=by omega
 have hwv:IntKind.u64.wrap ((lo:Int)*18014398509481984)=((lo%1024*18014398509481984:Nat):Int):=by rw[IntKind.wrap_u64];omega
 have hvv:((lo%1024*18014398509481984:Nat):Int) / 4294967296=(v1:Int):=by omega
 have hvm:bits .and .u64 ((lo%1024*18014398509481984:Nat):Int) 4294967295=0:=by rw[mask32 _ (by omega) (by omega)];omega
 have hou:bits .or .u64 ((hi:Int)*18014398509481984) ((lo:Int) / 1024)=(u:Int):=by rw[ho];omega
 rw[hu,hv1]at a3 a4 a5;rw[hu]at a1 a2;obtain⟨q1,hq1⟩: ∃q1,u / 4194304000=q1:=⟨_,rfl⟩;obtain⟨r1,hr1⟩: ∃r1,u%4194304000=r1:=⟨_,rfl⟩;have e1:u=q1*4194304000+r1:=by rw[<-hq1,<-hr1];exact(Nat.div_add_mod' u 4194304000).symm
 have r1b:r1<4194304000:=by rw[<-hr1];exact Nat.mod_lt _ (by decide)
 rw[hq1]at a2 a5;rw[hr1]at a3 a4 a5;obtain⟨u21,h21⟩: ∃u21,r1*4294967296+v1=u21:=⟨_,rfl⟩;rw[h21]at a3 a4 a5;obtain⟨q0,hq0⟩: ∃q0,u21 / 4194304000=q0:=⟨_,rfl⟩;obtain⟨r0,hr0⟩: ∃r0,u21%4194304000=r0:=⟨_,rfl⟩;have e2:u21=q0*4194304000+r0:=by rw[<-hq0,<-hr0];exact(Nat.div_add_mod' u21 4194304000).symm
 have r0b:r0<4194304000:=by rw[<-hr0];exact Nat.mod_lt _ (by decide)
 rw[hq0]at a4 a5;have d1:(u:Int) / 4194304000=(q1:Int):=by rw[<-hq1];omega
 have d2:(u21:Int) / 4194304000=(q0:Int):=by rw[<-hq0];omega
 clear hu hv1 ho hq1 hr1 hq0 hr0 hQ hhi hlo;refine⟨u,_,v1,q1,q1*4194304000,r1,r1*4294967296,u21,u*4294967296%18446744073709551616,(u*4294967296%18446744073709551616+v1)%18446744073709551616,q1*18014398509481984000%18446744073709551616,q0,q0*4194304000,r0,r0*4294967296,q1*4294967296,hou,hwv,hvv,hvm, ?_, ?_, ?_, ?_, ?_, ?_, ?_, ?_, ?_, ?_, ?_, ?_, ?_, ?_, ?_, ?_, ?_, ?_, ?_, ?_⟩
 ·rw[d1];exact wrap_nat rfl (by omega)
 ·exact wrap_nat (by omega) (by omega)
 ·exact wrap_nat (by omega) (by omega)
 ·exact decide_eq_false (by omega)
 ·exact wrap_nat (by omega) (by omega)
 ·exact wrap_nat (by omega) (by omega)
 ·exact decide_eq_false (by omega)
 ·rw[IntKind.wrap_u64];omega
 ·rw[IntKind.wrap_u64];omega
 ·rw[IntKind.wrap_u64];omega
 ·exact wrap_e4 u q1 v1 u21 (e4_sum e1 h21) (by omega)
 ·rw[d2];exact wrap_nat rfl (by omega)
 ·exact wrap_nat (by omega) (by omega)
 ·exact wrap_nat (by omega) (by omega)
 ·exact decide_eq_false (by omega)
 ·exact wrap_nat (by omega) (by omega)
 ·exact wrap_nat rfl (by omega)
 ·exact decide_eq_false (by omega)
 ·exact wrap_nat (by omega) (by omega)
 ·exact wrap_nat (by omega) (by omega)
set_option maxRecDepth 100000 in
set_option maxHeartbeats 4000000 in
theorem div64_any (hi lo:Nat) (hhi:hi<1000) (hlo:lo<18446744073709551616) (w:World):
 Calls Tryz.prog 65 #[.int .u64 (hi:Int),.int .u64 (lo:Int),.int .u64 1000] w fun e w'=>(∃r:Int,e= .returned (.tuple #[.int .u64 (((hi*18446744073709551616+lo) / 1000:Nat):Int),.int .u64 r]))/\ ∃m,w'=w.drewN m:=by
 obtain⟨Q,hQ⟩: ∃Q,(hi*18446744073709551616+lo) / 1000=Q:=⟨_,rfl⟩;rw[hQ];have HQ:=zH hQ;have g1:decide ((1000:Int)<=(hi:Int))=false:=decide_eq_false (by omega);by_cases h0:hi=0
 ·subst h0;have HQ:=zH (show lo / 1000=Q by rw[<-hQ];congr 1;omega);clear hQ;go_enter Tryz.func65,Tryz.ntmps65;go_upto_region 6 with fail;go_quiet (fail);go_wp2_with fail;have hw:=(wrap_nat (by rw[<-HQ.out];omega) (by rw[<-HQ.out];omega):IntKind.u64.wrap ((lo:Int) / 1000)=(Q:Int));exact bodyPost_ret (v:= .tuple #[.int .u64 (Q:Int),.int .u64 ((lo:Int).tmod 1000)]) (by first|(simp[results,Tryz.results65,go_sem,hw];done)|(simp[results,Tryz.results65,go_sem];exact⟨by rw[<-HQ.out];omega,(Int.tmod_eq_emod_of_nonneg (by omega)).symm⟩)) rfl ⟨⟨_,rfl⟩,_,rfl⟩
 ·have g0:((hi:Int)==0)=false:=beq_false_of_ne (by omega);have HZ:=zH (lz1000 w);have hA:bits .and .u64 18014398509481984000 4294967295=0:=by rw[mask32 _ (by decide) (by decide)];decide
  obtain⟨u,v,v1,q1,p1,r1,x1,u21,e1,e2,e3,q0,p0,r0,x3,f1,y1,y2,y3,y4,y5,y6,y7,y8,y9,y10,y11,y12,y13,y14,y15,y16,y17,y18,y19,y20,y21,y22,y23,y24⟩:=div_facts hi lo Q hhi hlo hQ;clear hQ;go_enter Tryz.func65,Tryz.ntmps65;go_wp2_with fail;refine HZ.out.mono ?_;rintro e w1 ⟨rfl,rfl⟩;go_wp2_with fail;go_loop [15,16] (fun a b=>a= .int .u64 (q1:Int)/\b= .int .u64 (r1:Int)) (fun _ _=>0)
  case atStart=>exact⟨rfl,rfl⟩
  case round=>
   obtain⟨rfl,rfl⟩:=hrel;go_wp2_with fail;go_loop [18,16] (fun a b=>a= .int .u64 (q0:Int)/\b= .int .u64 (r0:Int)) (fun _ _=>0)
   case atStart=>exact⟨rfl,rfl⟩
   case round=>
    obtain⟨rfl,rfl⟩:=hrel;go_wp2_with fail;exact bodyPost_ret (v:= .tuple #[.int .u64 (Q:Int),.int .u64 (IntKind.u64.wrap (IntKind.u64.wrap (IntKind.u64.wrap ((u21:Int)*4294967296)) - IntKind.u64.wrap ((q0:Int)*18014398509481984000)) / 18014398509481984)]) (by simp[results,Tryz.results65,go_sem]) rfl ⟨⟨_,rfl⟩,0,rfl⟩
end Go.Proofs.YtbiioifpeebjaaaGreatDoor
namespace Go.Proofs.YtbiioifpeebjaaaGreatDoor
open Go.RowKit
theorem below_drewM {B:Nat} {w w':World} (h:Below B w w') (n:Nat):Below B w (w'.drewN n):=⟨h.os,h.tape,h.output,h.size,h.block⟩
def coinB (n:Int):Bool:=decide (0<=n)&&decide (n<=2100000000000000)
set_option maxRecDepth 100000 in
theorem coins_any (n:Int) (w:World):Calls Tryz.prog 37 #[.int .i64 n] w fun e w'=>e= .returned (.bool (coinB n))/\w'=w:=by
 unfold coinB;by_cases h0:0<=n
 ·have g0:decide (0<=n)=true:=decide_eq_true h0;rw[g0,Bool.true_and];cases g1:decide (n<=2100000000000000)with
  |true=>
   go_enter Tryz.func37,Tryz.ntmps37;go_wp2_with fail;go_ret;exact⟨rfl,rfl⟩
  |false=>
   go_enter Tryz.func37,Tryz.ntmps37;go_wp2_with fail;go_ret;exact⟨rfl,rfl⟩
 ·have g0:decide (0<=n)=false:=decide_eq_false h0;rw[g0,Bool.false_and];go_enter Tryz.func37,Tryz.ntmps37;go_wp2_with fail;go_ret;exact⟨rfl,rfl⟩
set_option maxRecDepth 100000 in
set_option maxHeartbeats 4000000 in
theorem times_any (a b:Nat) (ha:a<9223372036854775808) (hb:b<9223372036854775808) (w:World):
 Calls Tryz.prog 38 #[.int .i64 (a:Int),.int .i64 (b:Int)] w fun e w'=>e= .returned (.agg #[.int .u64 ((a*b / 18446744073709551616:Nat):Int),.int .u64 ((a*b%18446744073709551616:Nat):Int)])/\Below w.heap.size w w':=by
 have hM:=fun W=>Tryz.bits_Mul64 a b (by omega) (by omega) W
 obtain⟨x,hx⟩: ∃x,a*b / 18446744073709551616=x:=⟨_,rfl⟩;obtain⟨y,hy⟩: ∃y,a*b%18446744073709551616=y:=⟨_,rfl⟩;rw[hx,hy]at hM⊢;have HM:=zH hM;clear hM hx hy;have g0:IntKind.u64.wrap (a:Int)=(a:Int):=wrap_nat rfl (by omega);have g1:IntKind.u64.wrap (b:Int)=(b:Int):=wrap_nat rfl (by omega);go_enter Tryz.func38,Tryz.ntmps38;go_wp2_with fail;refine(HM.out _).mono ?_;rintro e w1 ⟨rfl,rfl⟩;go_wp2_with fail;change bodyPost _ _ _ _ _ (w.alloc (zO15 (x:Int) (y:Int)));have hh:(w.alloc (zO15 (x:Int) (y:Int))).heap[w.heap.size]? =some (zO15 (x:Int) (y:Int)):=Go.heap_alloc_new w _;have hb:Below w.heap.size w (w.alloc (zO15 (x:Int) (y:Int))):=(Below.refl _ _).alloc (Nat.le_refl _) _;generalize w.alloc (zO15 (x:Int) (y:Int))=W at hh hb⊢;have r0:W.cell? ⟨w.heap.size,0,none⟩=some (.int .u64 (x:Int)):=by simp[World.cell?,hh]
 have r1:W.cell? ⟨w.heap.size,1,none⟩=some (.int .u64 (y:Int)):=by simp[World.cell?,hh]
 exact bodyPost_ret (v:= .agg #[.int .u64 (x:Int),.int .u64 (y:Int)]) (by simp[results,Tryz.results38,go_sem,r0,r1]) rfl ⟨rfl,hb⟩
set_option maxRecDepth 100000 in
set_option maxHeartbeats 4000000 in
theorem over_lt (hi lo:Nat) (h:hi<1000) (hlo:lo<18446744073709551616) (w:World):
 Calls Tryz.prog 39 #[.agg #[.int .u64 (hi:Int),.int .u64 (lo:Int)],.int .u64 1000] w fun e w'=>
  ∃q:Int,e= .returned (.tuple #[.int .i64 q,.bool (decide ((hi*18446744073709551616+lo) / 1000<9223372036854775808))])/\((hi*18446744073709551616+lo) / 1000<9223372036854775808->q=(((hi*18446744073709551616+lo) / 1000:Nat):Int))/\Below w.heap.size w w':=by
 have HB:=zH (show Below w.heap.size w (w.alloc (.cells #[.int .u64 (hi:Int),.int .u64 (lo:Int)] 88))from(Below.refl _ _).alloc (Nat.le_refl _) _);have HD:=zH (div64_any hi lo h hlo (w.alloc (.cells #[.int .u64 (hi:Int),.int .u64 (lo:Int)] 88)));have g1:decide ((1000:Int)<=(hi:Int))=false:=decide_eq_false (by omega);obtain⟨Q,hQ⟩: ∃Q,(hi*18446744073709551616+lo) / 1000=Q:=⟨_,rfl⟩;rw[hQ]at HD⊢;clear hQ;go_enter Tryz.func39,Tryz.ntmps39;go_wp2_with fail;refine HD.out.mono ?_;rintro e w1 ⟨⟨r,rfl⟩,m,rfl⟩;go_wp2_with fail;have g2:decide ((Q:Int)<9223372036854775808)=decide (Q<9223372036854775808):=by
  by_cases h:Q<9223372036854775808
  ·rw[decide_eq_true h,decide_eq_true (by omega)]
  ·rw[decide_eq_false h,decide_eq_false (by omega)]
 exact bodyPost_ret (v:= .tuple #[.int .i64 (IntKind.i64.wrap (Q:Int)),.bool (decide (Q<9223372036854775808))]) (by simp[results,Tryz.results39,go_sem,g2,IntWalk.i64_left]) rfl ⟨_,rfl,fun h=>IntWalk.i64_in _ (by omega),below_drewM HB.out _⟩
set_option maxRecDepth 100000 in
theorem over_ge (hi lo:Nat) (h: ¬hi<1000) (w:World):
 Calls Tryz.prog 39 #[.agg #[.int .u64 (hi:Int),.int .u64 (lo:Int)],.int .u64 1000] w fun e w'=>e= .returned (.tuple #[.int .i64 0,.bool false])/\Below w.heap.size w w':=by
 have HB:=zH (show Below w.heap.size w (w.alloc (.cells #[.int .u64 (hi:Int),.int .u64 (lo:Int)] 88))from(Below.refl _ _).alloc (Nat.le_refl _) _);have g1:decide ((1000:Int)<=(hi:Int))=true:=decide_eq_true (by omega);go_enter Tryz.func39,Tryz.ntmps39;go_wp2_with fail;exact bodyPost_ret (v:= .tuple #[.int .i64 0,.bool false]) (by simp[results,Tryz.results39,go_sem]) rfl ⟨rfl,HB.out⟩
theorem costE_bad {r w:Int} (h:coinB r=false\/coinB w=false):costE r w=(0,40):=by
 unfold costE;rw[if_neg];rintro⟨h1,h2,h3,h4,-⟩;unfold coinB at h;rw[decide_eq_true h1,decide_eq_true h2,decide_eq_true h3,decide_eq_true h4]at h;rcases h with h|h<;>cases h
set_option maxRecDepth 100000 in
set_option maxHeartbeats 4000000 in
theorem cost_any (r c:Int) (w:World):Calls Tryz.prog 28 #[.int .i64 r,.int .i64 c] w fun e w'=>e= .returned (.tuple #[.int .i64 (costE r c).1,.int .i64 (costE r c).2])/\Below w.heap.size w w':=by
 have HC1:=zH (coins_any r w);have HC2:=zH (coins_any c w);cases k1:coinB r with
 |false=>
  rw[k1]at HC1;rw[costE_bad (.inl k1)];go_enter Tryz.func28,Tryz.ntmps28;go_wp2_with fail;refine HC1.out.mono ?_;rintro e w1 ⟨rfl,rfl⟩;go_wp2_with fail;exact bodyPost_ret (v:= .tuple #[.int .i64 0,.int .i64 40]) (by simp[results,Tryz.results28,go_sem]) rfl ⟨rfl,Below.refl _ _⟩
 |true=>
  rw[k1]at HC1;cases k2:coinB c with
  |false=>
   rw[k2]at HC2;rw[costE_bad (.inr k2)];go_enter Tryz.func28,Tryz.ntmps28;go_wp2_with fail;refine HC1.out.mono ?_;rintro e w1 ⟨rfl,rfl⟩;go_wp2_with fail;refine HC2.out.mono ?_;rintro e w1 ⟨rfl,rfl⟩;go_wp2_with fail;exact bodyPost_ret (v:= .tuple #[.int .i64 0,.int .i64 40]) (by simp[results,Tryz.results28,go_sem]) rfl ⟨rfl,Below.refl _ _⟩
  |true=>
   rw[k2]at HC2;unfold coinB at k1 k2;rw[Bool.and_eq_true,decide_eq_true_eq,decide_eq_true_eq]at k1 k2;obtain⟨a,rfl⟩:=Int.eq_ofNat_of_zero_le k1.1;obtain⟨b,rfl⟩:=Int.eq_ofNat_of_zero_le k2.1;have ha:a<=2100000000000000:=by omega
   have hb:b<=2100000000000000:=by omega
   obtain⟨E,hE⟩: ∃E,costE (a:Int) (b:Int)=E:=⟨_,rfl⟩;have hE2:E=if a*b / 1000<=2100000000000000 then(((a*b / 1000:Nat):Int),0)else(0,40):=by
    rw[<-hE];unfold costE;have hm:(a:Int)*(b:Int)=((a*b:Nat):Int):=(Int.natCast_mul a b).symm;rw[hm];clear hE hm;generalize a*b=P;by_cases hq:P / 1000<=2100000000000000
    ·rw[if_pos hq,if_pos ⟨by omega,by omega,by omega,by omega,by omega⟩];rfl
    ·rw[if_neg hq,if_neg (fun h=>hq (by have:=h.2.2.2.2;omega))]
   have HT:=zH (times_any a b (by omega) (by omega) w);rw[hE];have HE:=zH hE2;obtain⟨P,hP⟩: ∃P,a*b=P:=⟨_,rfl⟩;rw[hP]at HT HE;obtain⟨hi,hhi⟩: ∃hi,P / 18446744073709551616=hi:=⟨_,rfl⟩;obtain⟨lo,hlo⟩: ∃lo,P%18446744073709551616=lo:=⟨_,rfl⟩;have hPd:P=hi*18446744073709551616+lo:=by rw[<-hhi,<-hlo];exact(Nat.div_add_mod' P _).symm
   have hlob:lo<18446744073709551616:=by rw[<-hlo];exact Nat.mod_lt _ (by decide)
   rw[hhi,hlo]at HT;clear hE hE2 hP hhi hlo k1 k2;have hf: ∀W:World,(Instr.field 90 (.agg #[.int .u64 (hi:Int),.int .u64 (lo:Int)]) 0).run Tryz.prog W= .ok (.agg #[.int .u64 (hi:Int),.int .u64 (lo:Int)]) W:=fun W=>by kernel_rfl
   by_cases h1000:hi<1000
   ·have HO:=zH (fun W=>over_lt hi lo h1000 hlob W);rw[<-hPd]at HO;obtain⟨Q,hQ⟩: ∃Q,P / 1000=Q:=⟨_,rfl⟩;rw[hQ]at HO HE;clear hPd hQ;by_cases hQ63:Q<9223372036854775808
    ·rw[decide_eq_true hQ63]at HO;have HC3:=zH (fun W=>coins_any (Q:Int) W);go_enter Tryz.func28,Tryz.ntmps28;go_wp2_with fail;refine HC1.out.mono ?_;rintro e w1 ⟨rfl,rfl⟩;go_wp2_with fail;refine HC2.out.mono ?_;rintro e w1 ⟨rfl,rfl⟩;go_wp2_with fail;refine HT.out.mono ?_;rintro e w2 ⟨rfl,hb2⟩;have HB2:=zH hb2;clear hb2;go_wp2_with fail;refine(HO.out w2).mono ?_;rintro e w3 ⟨q,rfl,hq,hb3⟩;have hqq:=hq hQ63;subst hqq;have HB3:=zH (HB2.out.trans (hb3.mono HB2.out.size));clear hb3 hq;go_wp2_with fail;refine(HC3.out w3).mono ?_;rintro e w4 ⟨rfl,rfl⟩;by_cases hQc:Q<=2100000000000000
     ·have g:coinB (Q:Int)=true:=by unfold coinB;rw[decide_eq_true (by omega),decide_eq_true (by omega)];rfl
      rw[g];go_wp2_with fail;exact bodyPost_ret (v:= .tuple #[.int .i64 (Q:Int),.int .i64 0]) (by simp[results,Tryz.results28,go_sem]) rfl ⟨by rw[HE.out,if_pos hQc],HB3.out⟩
     ·have g:coinB (Q:Int)=false:=by unfold coinB;rw[decide_eq_false (show¬(Q:Int)<=2100000000000000 by omega),Bool.and_false]
      rw[g];go_wp2_with fail;exact bodyPost_ret (v:= .tuple #[.int .i64 0,.int .i64 40]) (by simp[results,Tryz.results28,go_sem]) rfl ⟨by rw[HE.out,if_neg hQc],HB3.out⟩
    ·rw[decide_eq_false hQ63]at HO;go_enter Tryz.func28,Tryz.ntmps28;go_wp2_with fail;refine HC1.out.mono ?_;rintro e w1 ⟨rfl,rfl⟩;go_wp2_with fail;refine HC2.out.mono ?_;rintro e w1 ⟨rfl,rfl⟩;go_wp2_with fail;refine HT.out.mono ?_;rintro e w2 ⟨rfl,hb2⟩;have HB2:=zH hb2;clear hb2;go_wp2_with fail;refine(HO.out w2).mono ?_;rintro e w3 ⟨q,rfl,-,hb3⟩;have HB3:=zH (HB2.out.trans (hb3.mono HB2.out.size));clear hb3;go_wp2_with fail;exact bodyPost_ret (v:= .tuple #[.int .i64 0,.int .i64 40]) (by simp[results,Tryz.results28,go_sem]) rfl ⟨by rw[HE.out,if_neg (by omega)],HB3.out⟩
   ·have HO:=zH (fun W=>over_ge hi lo h1000 W);have hPb: ¬P / 1000<=2100000000000000:=by omega
    clear hPd;go_enter Tryz.func28,Tryz.ntmps28;go_wp2_with fail;refine HC1.out.mono ?_;rintro e w1 ⟨rfl,rfl⟩;go_wp2_with fail;refine HC2.out.mono ?_;rintro e w1 ⟨rfl,rfl⟩;go_wp2_with fail;refine HT.out.mono ?_;rintro e w2 ⟨rfl,hb2⟩;have HB2:=zH hb2;clear hb2;go_wp2_with fail;refine(HO.out w2).mono ?_;rintro e w3 ⟨rfl,hb3⟩;have HB3:=zH (HB2.out.trans (hb3.mono HB2.out.size));clear hb3;go_wp2_with fail;exact bodyPost_ret (v:= .tuple #[.int .i64 0,.int .i64 40]) (by simp[results,Tryz.results28,go_sem]) rfl ⟨by rw[HE.out,if_neg hPb],HB3.out⟩
end Go.Proofs.YtbiioifpeebjaaaGreatDoor
namespace Go.Proofs.YtbiioifpeebjaaaGreatDoor
open Go.RowKit
end Go.Proofs.YtbiioifpeebjaaaGreatDoor
namespace Go.Proofs.YtbiioifpeebjaaaGreatDoor
open Go.RowKit
set_option maxRecDepth 100000 in
set_option maxHeartbeats 2000000 in
theorem fee_any (r n:Int) (w:World):Calls Tryz.prog 14 #[.int .i64 r,.int .i64 n] w fun e w'=>e= .returned (.tuple #[.int .i64 (feeE r n).1,.int .i64 (feeE r n).2])/\Below w.heap.size w w':=by
 by_cases h:n<0\/60<n
 ·rw[show feeE r n=(0,2) by unfold feeE;rw[if_pos h]];by_cases h0:n<0
  ·have g0:decide (n<0)=true:=decide_eq_true h0;go_enter Tryz.func14,Tryz.ntmps14;go_wp2_with fail;exact bodyPost_ret (v:= .tuple #[.int .i64 0,.int .i64 2]) (by simp[results,Tryz.results14,go_sem]) rfl ⟨rfl,Below.refl _ _⟩
  ·have g0:decide (n<0)=false:=decide_eq_false h0;have g1:decide ((60:Int)<n)=true:=decide_eq_true (by omega);go_enter Tryz.func14,Tryz.ntmps14;go_wp2_with fail;exact bodyPost_ret (v:= .tuple #[.int .i64 0,.int .i64 2]) (by simp[results,Tryz.results14,go_sem]) rfl ⟨rfl,Below.refl _ _⟩
 ·rw[show feeE r n=costE r (724+172*n) by unfold feeE;rw[if_neg h]];have g0:decide (n<0)=false:=decide_eq_false (by omega);have g1:decide ((60:Int)<n)=false:=decide_eq_false (by omega);have HC:=zH (cost_any r (724+172*n) w);obtain⟨c,hc⟩: ∃c,724+172*n=c:=⟨_,rfl⟩;have g2:IntKind.i64.wrap (724+IntKind.i64.wrap (172*n))=c:=by rw[IntWalk.i64_in (172*n) (by omega),IntWalk.i64_in _ (by omega),hc]
  have g3:IntKind.i64.wrap (172*n)=172*n:=IntWalk.i64_in _ (by omega);have g4:IntKind.i64.wrap (724+172*n)=c:=by rw[IntWalk.i64_in _ (by omega),hc]
  rw[hc]at HC⊢;have HE:=zH hc;obtain⟨x,hx⟩: ∃x,costE r c=x:=⟨_,rfl⟩;rw[hx]at HC⊢;obtain⟨x1,x2⟩:=x;simp only at HC⊢;clear hc hx h;go_enter Tryz.func14,Tryz.ntmps14;go_wp2_with fail
  try rw[HE.out]
  refine HC.out.mono ?_;rintro e w1 ⟨rfl,hb⟩;have HBB:=zH hb;clear hb;go_wp2_with fail;exact bodyPost_ret (v:= .tuple #[.int .i64 x1,.int .i64 x2]) (by simp[results,Tryz.results14,go_sem]) rfl ⟨rfl,HBB.out⟩
set_option maxRecDepth 100000 in
theorem within_any (n a b:Int) (w:World):Calls Tryz.prog 15 #[.int .i64 n,.int .i64 a,.int .i64 b] w fun e w'=>e= .returned (.bool (btwB n a b))/\w'=w:=by
 unfold btwB;cases g0:decide (a<=n)with
 |true=>
  rw[Bool.true_and];cases g1:decide (n<=b)with
  |true=>
   go_enter Tryz.func15,Tryz.ntmps15;go_wp2_with fail;go_ret;exact⟨rfl,rfl⟩
  |false=>
   go_enter Tryz.func15,Tryz.ntmps15;go_wp2_with fail;go_ret;exact⟨rfl,rfl⟩
 |false=>
  rw[Bool.false_and];go_enter Tryz.func15,Tryz.ntmps15;go_wp2_with fail;go_ret;exact⟨rfl,rfl⟩
set_option maxRecDepth 100000 in
theorem mright_any (n:Int) (w:World):Calls Tryz.prog 66 #[.int .i64 n] w fun e w'=>e= .returned (.bool (btwB n 0 2100000000000000000))/\w'=w:=by
 unfold btwB;cases g0:decide (0<=n)with
 |true=>
  rw[Bool.true_and];cases g1:decide (n<=2100000000000000000)with
  |true=>
   go_enter Tryz.func66,Tryz.ntmps66;go_wp2_with fail;go_ret;exact⟨rfl,rfl⟩
  |false=>
   go_enter Tryz.func66,Tryz.ntmps66;go_wp2_with fail;go_ret;exact⟨rfl,rfl⟩
 |false=>
  rw[Bool.false_and];go_enter Tryz.func66,Tryz.ntmps66;go_wp2_with fail;go_ret;exact⟨rfl,rfl⟩
end Go.Proofs.YtbiioifpeebjaaaGreatDoor
