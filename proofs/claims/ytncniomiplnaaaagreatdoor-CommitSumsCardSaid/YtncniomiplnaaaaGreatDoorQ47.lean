/- The bound on a state; lists and payments compared. · A channel's state that came in, opened: its payments are cells. -/
import Derived.Test.YtncniomiplnaaaaGreatDoorQ44
import Derived.Test.YtncniomiplnaaaaGreatDoorQ25
import Derived.Test.YtncniomiplnaaaaGreatDoorQ19
import Derived.Test.YtncniomiplnaaaaGreatDoorQ34
set_option linter.all false
namespace Go.Proofs.YtncniomiplnaaaaGreatDoor
open Go.RowKit
def hashN (hs:List PayR):Nat:=(hs.map (·.hash.size)).sum
theorem hashN_snoc (hs:List PayR) (h:PayR):hashN (hs++[h])=hashN hs+h.hash.size:=by simp[hashN]
theorem hashN_mem: ∀(hs:List PayR) (h:PayR),h∈hs->h.hash.size<=hashN hs
 |x::r,h,hm=>by
  have e:hashN (x::r)=x.hash.size+hashN r:=by simp[hashN]
  rcases List.mem_cons.1 hm with rfl|hm
  ·omega
  ·have:=hashN_mem r h hm;omega
def largeB (k:KeysR) (hs:List PayR):Bool:=decide (80<hs.length)||decide (4000<keysN k+hashN (hs.take 100))
set_option maxRecDepth 100000 in
set_option maxHeartbeats 4000000 in
theorem large_any (k:KeysR) (n own other:Int) (hs:List PayR) (A:Option Addr) (cap:Nat) (w:World) (hk:keysN k<=1000000000000000) (hl:hs.length<=1125899906842624) (hh: ∀h∈hs,h.hash.size<=140737488355328) (hc:Cells w A (hs.flatMap payC)):
 Calls Tryz.prog 15 #[keysV k,.agg #[.int .i64 n,.int .i64 own,.int .i64 other,.slice A hs.length cap]] w fun e w'=>e= .returned (.bool (largeB k hs))/\Below w.heap.size w w':=by
 unfold keysV;have hb0:Below w.heap.size w ((w.alloc (zk k)).alloc (zO6 n own other A hs.length cap)):=((Below.refl w.heap.size w).alloc (Nat.le_refl _) (zk k)).alloc (by simp) (zO6 n own other A hs.length cap);have HB:=zH hb0;have hx0:=allocs_at [(zk k),(zO6 n own other A hs.length cap)] w 0 _ rfl;have hx1:=allocs_at [(zk k),(zO6 n own other A hs.length cap)] w 1 _ rfl;obtain⟨k0,k1,k2,k3,k4⟩:=cN5 hx0;have s3:((w.alloc (zk k)).alloc (zO6 n own other A hs.length cap)).cell? ⟨w.heap.size+1,3,none⟩=some (.slice A hs.length cap):=cell_of (j:=3) hx1 rfl;have HC:=zH (hc.below hb0);have HH:=zH hh;obtain⟨R,hR⟩: ∃R,largeB k hs=R:=⟨_,rfl⟩;rw[hR];have HR:=zH hR;have HK:=zH (show(keysN k:Int)=(k.rev.size:Int)+(k.later.size:Int)+(k.mine.size:Int)+(k.theirs.size:Int)+(k.pay.size:Int) by unfold keysN;push_cast;rfl);have hk2:=hk;unfold keysN at hk2;have e1:k.rev.size<=1000000000000000:=by omega
 have e2:k.rev.size+k.later.size<=1000000000000000:=by omega
 have e3:k.rev.size+k.later.size+k.mine.size<=1000000000000000:=by omega
 have e4:k.rev.size+k.later.size+k.mine.size+k.theirs.size<=1000000000000000:=by omega
 clear hR hb0 hx0 hx1 hc hh;go_enter Tryz.func15,Tryz.ntmps15;go_wp2_with fail;generalize ((w.alloc (zk k)).alloc (zO6 n own other A hs.length cap))=V at HB k0 k1 k2 k3 k4 s3 HC⊢;go_wp2_with fail;rw[<-HK.out];obtain⟨kn,hkn⟩: ∃kn,keysN k=kn:=⟨_,rfl⟩;have HKN:=zH hkn;rw[hkn]at hk⊢;clear hkn e1 e2 e3 e4 hk2;go_loopw [5,6] (fun vn vi wr=> ∃i:Nat,i<=hs.length/\i<=100/\vn= .int .i64 (((kn+hashN (hs.take i):Nat)):Int)/\vi= .int .i64 (i:Int)/\hashN (hs.take i)<=i*140737488355328/\wr=V) (fun _ vi _=>hs.length - (intOf vi).toNat)
 case atStart=>exact⟨0,Nat.zero_le _,Nat.zero_le _,by simp[hashN],rfl,by simp[hashN],rfl⟩
 case round=>
  obtain⟨i,hi,hi2,rfl,rfl,hle,rfl⟩:=hrel;by_cases hlt:i<hs.length
  ·by_cases h100:i<100
   ·obtain⟨ad,rfl,c0,c1,c2,c3,c4⟩:=pay_at HC.out hlt;have hhm:=HH.out hs[i] (List.getElem_mem hlt);have htk:hs.take (i+1)=hs.take i++[hs[i]]:=List.take_succ_eq_append_getElem hlt;obtain⟨h,hh⟩: ∃h,hs[i]=h:=⟨_,rfl⟩;rw[hh]at c3 hhm htk;have hsn:=hashN_snoc (hs.take i) h;rw[<-htk]at hsn;obtain⟨m0,hm0⟩: ∃m0,hashN (hs.take i)=m0:=⟨_,rfl⟩;rw[hm0]at hle hsn⊢;have HSN:=zH hsn;have hz:(i:Int)<100:=by omega
    have hb1:m0<=14073748835532800:=Nat.le_trans hle (Nat.le_trans (Nat.mul_le_mul_right _ hi2) (by decide));clear hh htk hsn hm0 c0 c1 c2 c4;go_wp2_with fail;go_roundw
    case rel=>exact⟨i+1,hlt,by omega,by rw[HSN.out];go_num,by go_num,by rw[HSN.out];omega,by trivial⟩
    case measure=>simp[intOf];omega
   ·have hz: ¬(i:Int)<100:=by omega
    have hz2:(80:Int)<(hs.length:Int):=by omega
    have HE:=zH (show R=true by rw[<-HR.out];unfold largeB;rw[decide_eq_true (by omega)];rfl);clear hle;go_wp2_with fail;go_ret;rw[HE.out];exact⟨rfl,HB.out⟩
  ·have hin:i=hs.length:=by omega
   subst hin;have ht:hs.take 100=hs:=List.take_of_length_le hi2;have ht2:hs.take hs.length=hs:=List.take_of_length_le (Nat.le_refl _);rw[ht2]at hle⊢;have HE:=zH (show R=(decide (80<hs.length)||decide (4000<kn+hashN hs)) by rw[<-HR.out];unfold largeB;rw[ht,HKN.out]);obtain⟨hn,hhn⟩: ∃hn,hashN hs=hn:=⟨_,rfl⟩;rw[hhn]at hle HE⊢;clear ht ht2 hhn hlt hi;by_cases h80:80<hs.length
   ·have hz2:(80:Int)<(hs.length:Int):=by omega
    have HE2:=zH (show R=true by rw[HE.out,decide_eq_true h80];rfl);go_wp2_with fail;go_ret;rw[HE2.out];exact⟨rfl,HB.out⟩
   ·have hz2: ¬(80:Int)<(hs.length:Int):=by omega
    by_cases h4:4000<kn+hn
    ·have hz3:(4000:Int)<(kn:Int)+(hn:Int):=by omega
     have HE2:=zH (show R=true by rw[HE.out,decide_eq_true h4,Bool.or_true]);go_wp2_with fail;go_ret;rw[HE2.out];exact⟨rfl,HB.out⟩
    ·have hz3: ¬(4000:Int)<(kn:Int)+(hn:Int):=by omega
     have HE2:=zH (show R=false by rw[HE.out,decide_eq_false h4,decide_eq_false h80];rfl);go_wp2_with fail;go_ret;rw[HE2.out];exact⟨rfl,HB.out⟩
theorem word_at {w:World} {A:Option Addr} {l:List Int} (hc:Cells w A (wordsV l)) {k:Nat} (hk:k<l.length): ∃ad:Addr,A=some ad/\w.cell? (ad.add k)=some (.int .i64 l[k]):=by
 obtain⟨ad,he,h⟩:=hc (by unfold wordsV;rw[List.length_map];omega);exact⟨ad,he,h k _ (by unfold wordsV;rw[List.getElem?_map,List.getElem?_eq_getElem hk];rfl)⟩
set_option maxRecDepth 100000 in
set_option maxHeartbeats 4000000 in
theorem same_any (l:List Int) (A B:Option Addr) (ca cb:Nat) (w:World) (hl:l.length<=1000000) (hA:Cells w A (wordsV l)) (hB:Cells w B (wordsV l)):
 Calls Tryz.prog 19 #[.slice A l.length ca,.slice B l.length cb] w fun e w'=>e= .returned (.bool true)/\Below w.heap.size w w':=by
 have HA:=zH hA;have HB:=zH hB;have e1:((l.length:Int) !=(l.length:Int))=false:=by simp
 clear hA hB;go_enter Tryz.func19,Tryz.ntmps19;go_wp2_with fail;go_loopw [5] (fun vi wr=> ∃i m:Nat,i<=l.length/\vi= .int .i64 (i:Int)/\wr=w.drewN m) (fun vi _=>l.length - (intOf vi).toNat)
 case atStart=>exact⟨0,0,Nat.zero_le _,rfl,rfl⟩
 case round=>
  obtain⟨i,m,hi,rfl,rfl⟩:=hrel;by_cases hlt:i<l.length
  ·obtain⟨ad,rfl,a0⟩:=word_at HA.out hlt;obtain⟨bd,rfl,b0⟩:=word_at HB.out hlt;obtain⟨x,hx⟩: ∃x,l[i]=x:=⟨_,rfl⟩;rw[hx]at a0 b0;have e2:(x !=x)=false:=by simp
   clear hx;go_upto_region 6 with fail;go_quiet (fail);go_wp2_with fail;go_roundw
   case rel=>exact⟨i+1,_,by omega,by go_num,rfl⟩
   case measure=>simp[intOf];omega
  ·go_wp2_with fail;go_ret;exact⟨rfl,below_drewN (Below.refl _ _) _⟩
theorem eqPay (h:PayR) (w:World):(Op.equalIn 10000 26 (.agg #[.bool h.mine,.int .i64 h.id,.int .i64 h.amt,.string h.hash,.int .i64 h.exp]) (.agg #[.bool h.mine,.int .i64 h.id,.int .i64 h.amt,.string h.hash,.int .i64 h.exp])).run Tryz.prog w= .ok true w:=by
 have u1:=Tryz.underlying4;have u2:=Tryz.underlying2;have u3:=Tryz.underlying24;have u4:=Tryz.underlying3;have hS:Tryz.prog.underlying 26=some (.struct (Tryz.prog.fieldsOf 26)):=by kernel_rfl
 rw[run_equalIn_agg w 9999 _ _ _ hS (by kernel_rfl)];simp only[Program.fieldsOf,Tryz.underlying26];go_simp
theorem binPay (h:PayR) (w:World):(binOp .neq 26 (.agg #[.bool h.mine,.int .i64 h.id,.int .i64 h.amt,.string h.hash,.int .i64 h.exp]) (.agg #[.bool h.mine,.int .i64 h.id,.int .i64 h.amt,.string h.hash,.int .i64 h.exp])).run Tryz.prog w= .ok (.bool false) w:=by
 have h1:=eqPay h w;simp[binOp,Op.equal,Op.maxDepth,h1,Result.andThen]
open Go.RowKit Go.ChangeShapes Go.WideShapes Go.Deep
theorem pay_chunks {W:World}: ∀{l:List PayR} {xs:List Value},Chunks (fun(x:PayR) cs=>cs=payC x) l xs->xs=l.flatMap payC
 |[],xs,h=>by unfold Chunks at h;exact h
 |x::r,xs,h=>by
  unfold Chunks at h;obtain⟨cs,rest,rfl,rfl,h3⟩:=h;rw[pay_chunks (W:=W) h3];rfl
section
variable {H:Type} {enc:TypeId×Value->H} {W:World} {base:Nat}
set_option maxRecDepth 100000 in
theorem trod_pay {fuel:Nat} {cs:List Value} {x:DataW H×List MemPlace} (h:DataW.trod enc Tryz.prog W 0 (fun _=>true) true fuel 26 cs=some x) (hB: ∀k∈x.1.weights Tryz.prog 26,k<=reachBytes): ∃i:PayR,cs=payC i/\i.hash.size<=reachBytes:=by
 obtain⟨xs,n,hfu,rfl,hl,hlen,hf⟩:=DataW.trod_struct Tryz.underlying26 h;have hc0:Tryz.prog.cellsOf 4=1:=by kernel_rfl
 have hc1:Tryz.prog.cellsOf 3=1:=by kernel_rfl
 have hc2:Tryz.prog.cellsOf 2=1:=by kernel_rfl
 have hc3:Tryz.prog.cellsOf 24=1:=by kernel_rfl
 rw[show Tryz.prog.cellsOf 26=5 by kernel_rfl]at hl;obtain⟨v0,v1,v2,v3,v4,rfl⟩:=list5 hl
 match xs,hlen with
 |[y0,y1,y2,y3,y4],_=>
  have t0:DataW.trod enc Tryz.prog W 0 (fun _=>true) true n 4 (([v0,v1,v2,v3,v4].drop 0).take (Tryz.prog.cellsOf 4))=some y0:=hf 0 _ rfl;have t1:DataW.trod enc Tryz.prog W 0 (fun _=>true) true n 2 (([v0,v1,v2,v3,v4].drop 1).take (Tryz.prog.cellsOf 2))=some y1:=hf 1 _ rfl;have t2:DataW.trod enc Tryz.prog W 0 (fun _=>true) true n 2 (([v0,v1,v2,v3,v4].drop 2).take (Tryz.prog.cellsOf 2))=some y2:=hf 2 _ rfl;have t3:DataW.trod enc Tryz.prog W 0 (fun _=>true) true n 24 (([v0,v1,v2,v3,v4].drop 3).take (Tryz.prog.cellsOf 24))=some y3:=hf 3 _ rfl;have t4:DataW.trod enc Tryz.prog W 0 (fun _=>true) true n 3 (([v0,v1,v2,v3,v4].drop 4).take (Tryz.prog.cellsOf 3))=some y4:=hf 4 _ rfl;simp only[hc0,hc1,hc2,hc3]at t0 t1 t2 t3 t4;obtain⟨s0,e0,q0⟩:=DataW.trod_bool Tryz.underlying4 t0;obtain⟨s1,e1,q1,-⟩:=DataW.trod_int Tryz.underlying2 t1;obtain⟨s2,e2,q2,-⟩:=DataW.trod_int Tryz.underlying2 t2;obtain⟨s3,e3,q3,-⟩:=DataW.trod_string Tryz.underlying24 t3;obtain⟨s4,e4,q4,-⟩:=DataW.trod_int Tryz.underlying3 t4;subst q0;subst q1;subst q2;subst q3;subst q4;simp[hc0,hc1,hc2,hc3]at e0 e1 e2 e3 e4;subst e0;subst e1;subst e2;subst e3;subst e4;have z3:=weight_agg (fs:=_) Tryz.underlying26 hB 3 _ _ rfl rfl;exact⟨⟨s0,s1,s2,s3,s4⟩,rfl,weight_string z3⟩
set_option maxRecDepth 100000 in
theorem open_state {v:Value} {d:DataW H} {p:List MemPlace} (hval:Value.okWide Tryz.prog W .any base 38 v) (h:DataW.Trod enc Tryz.prog W 0 (fun _=>true) true 38 v d p) (hB: ∀n∈d.weights Tryz.prog 38,n<=reachBytes):
 ∃(n own other:Int) (hs:List PayR) (A:Option Addr) (cap:Nat),v= .agg #[.int .i64 n,.int .i64 own,.int .i64 other,.slice A hs.length cap]/\Cells W A (hs.flatMap payC)/\(∀h∈hs,h.hash.size<=reachBytes)/\hs.length<=reachBytes:=by
 obtain⟨v0,v1,v2,v3,y0,y1,y2,y3,n,rfl,rfl,-,t0,t1,t2,t3⟩:=Go.Joins.open_agg4 Tryz.underlying38 (by kernel_rfl) (by kernel_rfl) hval h;obtain⟨n0,e0,-,-⟩:=DataW.trod_int Tryz.underlying2 t0;obtain⟨n1,e1,-,-⟩:=DataW.trod_int Tryz.underlying2 t1;obtain⟨n2,e2,-,-⟩:=DataW.trod_int Tryz.underlying2 t2;simp only[List.cons.injEq,and_true]at e0 e1 e2;subst e0;subst e1;subst e2;have w3:=weight_agg (fs:=_) Tryz.underlying38 hB 3 _ y3.1 rfl rfl;obtain⟨A,hs,ca,xs,hcs,g1,g2,g3,g4⟩:=open_rows (enc:=enc) (W:=W) Tryz.underlying36 (show Tryz.prog.cellsOf 26=5 by kernel_rfl) (show Tryz.prog.bytesOf 26=48 by kernel_rfl) (by decide) (fun(x:PayR) cs=>cs=payC x) (fun x=>x.hash.size<=reachBytes)
  (fun n _ cs y _ hy hw=>trod_pay hy hw) t3 w3
 simp only[List.cons.injEq,and_true]at hcs;subst hcs;rw[pay_chunks (W:=W) g2]at g1;exact⟨n0,n1,n2,hs,A,ca,rfl,g1,g3,g4⟩
end
end Go.Proofs.YtncniomiplnaaaaGreatDoor
