/- The document's reader of terms: a number. · The document's reader of terms: how many parts an op has, public keys, a cut in memory. · The document's reader of terms: which parts fit. · The document's reader of terms: no term, names, texts. · The document's reader of terms: parts. · The document's reader of terms: any term; right terms. -/
import Derived.Test.YtncniomiplnaaaaGreatDoorQ2
import Derived.Test.YtncniomiplnaaaaGreatDoorQ5
set_option linter.all false
namespace Go.Proofs.YtncniomiplnaaaaGreatDoor
open Go.RowKit
def rnumV (at_:Nat):Option (Nat×Nat)->Value
 |some (v,k)=> .tuple #[.int .u64 v,.int .i64 ((at_+k+1:Nat):Int)]
 |none=> .tuple #[.int .u64 0,.int .i64 (-1)]
theorem scan_nil (c:UInt8) (n i:Nat):scan c n i []=none:=by unfold scan;rfl
theorem scan_end (c:UInt8) (n i:Nat) (x:UInt8) (r:List UInt8) (h:x=c) (hi:0<i):scan c n i (x::r)=some (n,i):=by
 unfold scan;rw[if_pos ⟨h,hi⟩]
theorem scan_bad (c:UInt8) (n i:Nat) (x:UInt8) (r:List UInt8) (h: ¬(x=c/\0<i)) (hb:dig x=false\/(n=0/\0<i)):scan c n i (x::r)=none:=by
 unfold scan;rw[if_neg h,if_pos hb]
theorem scan_big (c:UInt8) (n i:Nat) (x:UInt8) (r:List UInt8) (h: ¬(x=c/\0<i)) (hb: ¬(dig x=false\/(n=0/\0<i))) (hg:(9223372036854775807 - (x.toNat - 48)) / 10<n):scan c n i (x::r)=none:=by
 unfold scan;rw[if_neg h,if_neg hb,if_pos hg]
theorem scan_go (c:UInt8) (n i:Nat) (x:UInt8) (r:List UInt8) (h: ¬(x=c/\0<i)) (hb: ¬(dig x=false\/(n=0/\0<i))) (hg: ¬(9223372036854775807 - (x.toNat - 48)) / 10<n):scan c n i (x::r)=scan c (n*10+(x.toNat - 48)) (i+1) r:=by
 conv=>lhs;unfold scan
 rw[if_neg h,if_neg hb,if_neg hg]
theorem dig_no (x:UInt8) (h:x.toNat<48\/57<x.toNat):dig x=false:=by
 cases hd:dig x with
 |false=>rfl
 |true=>have:=dig_iff.1 hd;omega
set_option maxRecDepth 100000 in
set_option maxHeartbeats 8000000 in
theorem rnum_any (s:ByteArray) (at_:Nat) (c:UInt8) (ci:Int) (hci:(c.toNat:Int)=ci) (w:World) (hat:at_<=s.size) (hs:s.size<=1000000) (hc:dig c=false):
 Calls Tryz.prog 128 #[.string s,.int .i64 at_,.int .u8 ci] w fun e w'=>e= .returned (rnumV at_ (numL c (s.data.toList.drop at_)))/\w'=w:=by
 rw[<-scan_num hc];obtain⟨R,hR⟩: ∃R,scan c 0 0 (s.data.toList.drop at_)=R:=⟨_,rfl⟩;rw[hR];have HR:=zH hR;clear hR;go_enter Tryz.func128,Tryz.ntmps128;go_wp2;go_loop [8,9] (fun n i=> ∃j v:Nat,at_<=j/\j<=s.size/\i= .int .i64 j/\n= .int .u64 v/\scan c v (j - at_) (s.data.toList.drop j)=R/\v<9223372036854775808/\(j=at_->v=0)) (fun _ i=>s.size - (intOf i).toNat)
 case atStart=>exact⟨at_,0,Nat.le_refl _,hat,rfl,rfl,by rw[Nat.sub_self];exact HR.out,by decide,fun _=>rfl⟩
 case round=>
  obtain⟨j,v,h1,h2,rfl,rfl,hrest,hv,h0⟩:=hrel;by_cases hlt:j<s.size
  ·have hix:=fun W=>index_at hlt W
   have hd:s.data.toList.drop j=byte s.data.toList j::s.data.toList.drop (j+1):=by
    unfold byte;rw[List.getD_eq_getElem?_getD,List.getElem?_eq_getElem (show j<s.data.toList.length from hlt)];exact List.drop_eq_getElem_cons hlt
   rw[hd]at hrest;obtain⟨y,hy⟩: ∃y,byte s.data.toList j=y:=⟨_,rfl⟩;rw[hy]at hrest;simp only[hy]at hix;obtain⟨x,hx⟩: ∃x:Int,(y.toNat:Int)=x:=⟨_,rfl⟩;simp only[hx]at hix;have hyc:y=c↔x=ci:=⟨fun e=>by rw[<-hx,<-hci,e],fun e=>UInt8.toNat_inj.1 (by omega)⟩;have HX:=zH hx;have HCI:=zH hci;have HY:=zH hyc;have HRE:=zH hrest;clear hd hy hrest hyc hx hci;have hx0:0<=x:=by have:=HX.out;omega
   have hx1:x<256:=by have:=HX.out;have:=y.toNat_lt;omega
   by_cases hxc:x=ci
   ·have g1:(x==ci)=true:=by rw[hxc];exact beq_self_eq_true _
    have HYC:=zH (HY.out.2 hxc);by_cases hj:at_<j
    ·have g2:decide ((at_:Int)<(j:Int))=true:=decide_eq_true (by omega);have hN:R=some (v,j - at_):=by rw[<-HRE.out];exact scan_end _ _ _ _ _ HYC.out (by omega)
     have HN:=zH hN;have he:at_+(j - at_)+1=j+1:=by omega
     have hE:rnumV at_ (some (v,j - at_))= .tuple #[.int .u64 v,.int .i64 ((j:Int)+1)]:=by
      show Value.tuple #[.int .u64 v,.int .i64 ((at_+(j - at_)+1:Nat):Int)]=_;rw[he];rfl
     have HE:=zH hE;clear hE;clear hN he hxc;go_wp2;go_ret2;rw[HN.out,HE.out];exact⟨rfl,rfl⟩
    ·have g2:decide ((at_:Int)<(j:Int))=false:=decide_eq_false (by omega);have hdf:dig y=false:=by rw[HYC.out];exact hc
     have hN:R=none:=by rw[<-HRE.out];exact scan_bad _ _ _ _ _ (fun h=>by omega) (.inl hdf)
     have HN:=zH hN;have hrange:x<48\/57<x:=by
      have hh:=HX.out;have hn: ¬(48<=y.toNat/\y.toNat<=57):=fun h=>by rw[dig_iff.2 h]at hdf;cases hdf
      omega
     clear hN hdf hxc;rcases hrange with h48|h57
     ·have g3:decide (x<48)=true:=decide_eq_true h48;go_wp2;go_ret2;rw[HN.out];exact⟨rfl,rfl⟩
     ·have g3:decide (x<48)=false:=decide_eq_false (by omega);have g4:decide ((57:Int)<x)=true:=decide_eq_true h57;go_wp2;go_ret2;rw[HN.out];exact⟨rfl,rfl⟩
   ·have g1:(x==ci)=false:=beq_false_of_ne hxc;have HYC:=zH (fun h=>hxc (HY.out.1 h));by_cases h48:x<48
    ·have g3:decide (x<48)=true:=decide_eq_true h48;have hN:R=none:=by rw[<-HRE.out];exact scan_bad _ _ _ _ _ (fun h=>HYC.out h.1) (.inl (dig_no _ (by have:=HX.out;omega)))
     have HN:=zH hN;clear hN;go_wp2;go_ret2;rw[HN.out];exact⟨rfl,rfl⟩
    have g3:decide (x<48)=false:=decide_eq_false h48;by_cases h57:57<x
    ·have g4:decide ((57:Int)<x)=true:=decide_eq_true h57;have hN:R=none:=by rw[<-HRE.out];exact scan_bad _ _ _ _ _ (fun h=>HYC.out h.1) (.inl (dig_no _ (by have:=HX.out;omega)))
     have HN:=zH hN;clear hN;go_wp2;go_ret2;rw[HN.out];exact⟨rfl,rfl⟩
    have g4:decide ((57:Int)<x)=false:=decide_eq_false h57;have HD:=zH (show dig y=true from dig_iff.2 (by have:=HX.out;omega));obtain⟨d,rfl⟩: ∃d:Nat,x=(d:Int)+48:=⟨(x - 48).toNat,by omega⟩;have hd9:d<=9:=by omega
    have HDD:=zH (show y.toNat - 48=d by have:=HX.out;omega);have hsub:IntKind.u8.wrap ((d:Int)+48 - 48)=(d:Int):=by rw[IntWalk.u8_in _ (by omega)];omega
    have hcv:IntKind.u64.wrap (d:Int)=(d:Int):=by rw[IntWalk.u64_in _ (by omega)]
    have hs63:IntKind.u64.wrap (9223372036854775807 - (d:Int))=9223372036854775807 - (d:Int):=by rw[IntWalk.u64_in _ (by omega)]
    obtain⟨q,hq⟩: ∃q:Nat,(9223372036854775807 - d) / 10=q:=⟨_,rfl⟩;have hqz:IntKind.u64.wrap (Int.tdiv (9223372036854775807 - (d:Int)) 10)=(q:Int):=by
     rw[Int.tdiv_eq_ediv_of_nonneg (by omega),IntWalk.u64_in _ (by omega)];omega
    have HQ:=zH hq;clear hq;by_cases hv0:v=0
    ·have g5:((v:Int)==0)=true:=by rw[hv0];rfl
     by_cases hj:at_<j
     ·have g2:decide ((at_:Int)<(j:Int))=true:=decide_eq_true (by omega);have HN:=zH (show R=none by rw[<-HRE.out];exact scan_bad _ _ _ _ _ (fun h=>HYC.out h.1) (.inr ⟨hv0,by omega⟩));go_wp2;go_ret2;rw[HN.out];exact⟨rfl,rfl⟩
     ·have g2:decide ((at_:Int)<(j:Int))=false:=decide_eq_false (by omega);have HZ:=zH (show¬(v=0/\at_<j)from fun h=>hj h.2);have hbig: ¬q<v:=by omega
      have g6:decide ((q:Int)<(v:Int))=false:=decide_eq_false (by omega);have HN:=zH (show R=scan c (v*10+d) (j+1 - at_) (s.data.toList.drop (j+1)) by rw[<-HRE.out,scan_go _ _ _ _ _ (fun h=>HYC.out h.1) (fun h=>h.elim (fun h=>by rw[HD.out]at h;cases h) (fun h=>HZ.out ⟨h.1,by omega⟩)) (by rw[HDD.out,HQ.out];exact hbig),HDD.out,show j - at_+1=j+1 - at_ by omega]);have hv1:v*10+d<9223372036854775808:=by have:=HQ.out;omega
      have hm:IntKind.u64.wrap ((v:Int)*10)=(v:Int)*10:=by rw[IntWalk.u64_in _ (by omega)]
      have ha:IntKind.u64.wrap ((v:Int)*10+(d:Int))=((v*10+d:Nat):Int):=by rw[IntWalk.u64_in _ (by omega)];omega
      clear h48 h57 hv;go_wp2;go_round
      case rel=>exact⟨j+1,v*10+d,by omega,by omega,by go_num,by first|rfl|(rw[ha])|go_num,HN.out.symm,hv1,fun h=>by omega⟩
      case measure=>simp[intOf];omega
    ·have g5:((v:Int)==0)=false:=beq_false_of_ne (by omega);have HZ:=zH (show¬(v=0/\at_<j)from fun h=>hv0 h.1);by_cases hbig:q<v
     ·have g6:decide ((q:Int)<(v:Int))=true:=decide_eq_true (by omega);have HN:=zH (show R=none by rw[<-HRE.out];exact scan_big _ _ _ _ _ (fun h=>HYC.out h.1) (fun h=>h.elim (fun h=>by rw[HD.out]at h;cases h) (fun h=>HZ.out ⟨h.1,by omega⟩)) (by rw[HDD.out,HQ.out];exact hbig));go_wp2;go_ret2;rw[HN.out];exact⟨rfl,rfl⟩
     ·have g6:decide ((q:Int)<(v:Int))=false:=decide_eq_false (by omega);have HN:=zH (show R=scan c (v*10+d) (j+1 - at_) (s.data.toList.drop (j+1)) by rw[<-HRE.out,scan_go _ _ _ _ _ (fun h=>HYC.out h.1) (fun h=>h.elim (fun h=>by rw[HD.out]at h;cases h) (fun h=>HZ.out ⟨h.1,by omega⟩)) (by rw[HDD.out,HQ.out];exact hbig),HDD.out,show j - at_+1=j+1 - at_ by omega]);have hv1:v*10+d<9223372036854775808:=by have:=HQ.out;omega
      have hm:IntKind.u64.wrap ((v:Int)*10)=(v:Int)*10:=by rw[IntWalk.u64_in _ (by omega)]
      have ha:IntKind.u64.wrap ((v:Int)*10+(d:Int))=((v*10+d:Nat):Int):=by rw[IntWalk.u64_in _ (by omega)];omega
      clear h48 h57 hv;go_wp2;go_round
      case rel=>exact⟨j+1,v*10+d,by omega,by omega,by go_num,by first|rfl|(rw[ha])|go_num,HN.out.symm,hv1,fun h=>by omega⟩
      case measure=>simp[intOf];omega
  ·have hN:R=none:=by rw[<-hrest,List.drop_eq_nil_of_le (by show s.size<=j;omega)];exact scan_nil _ _ _
   have HN:=zH hN;clear hN hrest;go_wp2;go_ret2;rw[HN.out];exact⟨rfl,rfl⟩
open Go.RowKit
def arityV (c:UInt8):Int:=match arity c with
 |some n=>(n:Int)
 |none=> -1
set_option maxRecDepth 100000 in
set_option maxHeartbeats 8000000 in
theorem parts_any (c:UInt8) (x:Int) (hx:(c.toNat:Int)=x) (w:World):Calls Tryz.prog 129 #[.int .u8 x] w fun e w'=>e= .returned (.int .i64 (arityV c))/\w'=w:=by
 by_cases h80:c=80
 ·subst h80;obtain rfl:(80:Int)=x:=hx;go_enter Tryz.func129,Tryz.ntmps129;go_wp2;go_ret;exact⟨rfl,rfl⟩
 have n80:(x==80)=false:=beq_false_of_ne fun h=>h80 (UInt8.toNat_inj.1 (by have:((80:UInt8).toNat:Int)=80:=rfl;omega))
 by_cases h72:c=72
 ·subst h72;obtain rfl:(72:Int)=x:=hx;go_enter Tryz.func129,Tryz.ntmps129;go_wp2;go_ret;exact⟨rfl,rfl⟩
 have n72:(x==72)=false:=beq_false_of_ne fun h=>h72 (UInt8.toNat_inj.1 (by have:((72:UInt8).toNat:Int)=72:=rfl;omega))
 by_cases h83:c=83
 ·subst h83;obtain rfl:(83:Int)=x:=hx;go_enter Tryz.func129,Tryz.ntmps129;go_wp2;go_ret;exact⟨rfl,rfl⟩
 have n83:(x==83)=false:=beq_false_of_ne fun h=>h83 (UInt8.toNat_inj.1 (by have:((83:UInt8).toNat:Int)=83:=rfl;omega))
 by_cases h66:c=66
 ·subst h66;obtain rfl:(66:Int)=x:=hx;go_enter Tryz.func129,Tryz.ntmps129;go_wp2;go_ret;exact⟨rfl,rfl⟩
 have n66:(x==66)=false:=beq_false_of_ne fun h=>h66 (UInt8.toNat_inj.1 (by have:((66:UInt8).toNat:Int)=66:=rfl;omega))
 by_cases h88:c=88
 ·subst h88;obtain rfl:(88:Int)=x:=hx;go_enter Tryz.func129,Tryz.ntmps129;go_wp2;go_ret;exact⟨rfl,rfl⟩
 have n88:(x==88)=false:=beq_false_of_ne fun h=>h88 (UInt8.toNat_inj.1 (by have:((88:UInt8).toNat:Int)=88:=rfl;omega))
 by_cases h68:c=68
 ·subst h68;obtain rfl:(68:Int)=x:=hx;go_enter Tryz.func129,Tryz.ntmps129;go_wp2;go_ret;exact⟨rfl,rfl⟩
 have n68:(x==68)=false:=beq_false_of_ne fun h=>h68 (UInt8.toNat_inj.1 (by have:((68:UInt8).toNat:Int)=68:=rfl;omega))
 by_cases h86:c=86
 ·subst h86;obtain rfl:(86:Int)=x:=hx;go_enter Tryz.func129,Tryz.ntmps129;go_wp2;go_ret;exact⟨rfl,rfl⟩
 have n86:(x==86)=false:=beq_false_of_ne fun h=>h86 (UInt8.toNat_inj.1 (by have:((86:UInt8).toNat:Int)=86:=rfl;omega))
 by_cases h87:c=87
 ·subst h87;obtain rfl:(87:Int)=x:=hx;go_enter Tryz.func129,Tryz.ntmps129;go_wp2;go_ret;exact⟨rfl,rfl⟩
 have n87:(x==87)=false:=beq_false_of_ne fun h=>h87 (UInt8.toNat_inj.1 (by have:((87:UInt8).toNat:Int)=87:=rfl;omega))
 by_cases h75:c=75
 ·subst h75;obtain rfl:(75:Int)=x:=hx;go_enter Tryz.func129,Tryz.ntmps129;go_wp2;go_ret;exact⟨rfl,rfl⟩
 have n75:(x==75)=false:=beq_false_of_ne fun h=>h75 (UInt8.toNat_inj.1 (by have:((75:UInt8).toNat:Int)=75:=rfl;omega))
 by_cases h76:c=76
 ·subst h76;obtain rfl:(76:Int)=x:=hx;go_enter Tryz.func129,Tryz.ntmps129;go_wp2;go_ret;exact⟨rfl,rfl⟩
 have n76:(x==76)=false:=beq_false_of_ne fun h=>h76 (UInt8.toNat_inj.1 (by have:((76:UInt8).toNat:Int)=76:=rfl;omega))
 have hA:arityV c= -1:=by unfold arityV arity;rw[if_neg (by simp[h80,h72]),if_neg (by simp[h83,h66,h88,h68,h86,h87,h75,h76])]
 have HA:=zH hA;clear hA hx h80 h72 h83 h66 h88 h68 h86 h87 h75 h76;go_enter Tryz.func129,Tryz.ntmps129;go_wp2;go_ret;rw[HA.out];exact⟨rfl,rfl⟩
set_option maxRecDepth 100000 in
set_option maxHeartbeats 4000000 in
theorem rpublic_any (c:UInt8) (x:Int) (hx:(c.toNat:Int)=x) (w:World):Calls Tryz.prog 136 #[.int .u8 x] w fun e w'=>e= .returned (.bool (isPub c))/\w'=w:=by
 have hp:=isPub_iff c;rw[hx]at hp;have HP:=zH hp;clear hx hp;by_cases h1:x=80
 ·subst h1;go_enter Tryz.func136,Tryz.ntmps136;go_wp2_with fail;go_ret;rw[HP.out];exact⟨by simp,rfl⟩
 ·have g1:(x==80)=false:=beq_false_of_ne h1;by_cases h2:x=87
  ·subst h2;go_enter Tryz.func136,Tryz.ntmps136;go_wp2_with fail;go_ret;rw[HP.out];exact⟨by simp,rfl⟩
  ·have g2:(x==87)=false:=beq_false_of_ne h2;go_enter Tryz.func136,Tryz.ntmps136;go_wp2_with fail;go_ret;rw[HP.out];exact⟨by by_cases h3:x=76<;>simp[h1,h2,h3],rfl⟩
def cutV (e d n f:Int) (ks:Value):Value:= .agg #[.int .i64 e,.int .i64 d,.int .u64 n,.int .i64 f,ks]
def CutAt (w:World) (b:Nat) (e d n f:Int) (ks:Value):Prop:=w.heap[b]? =some (.cells #[.int .i64 e,.int .i64 d,.int .u64 n,.int .i64 f,ks] 159 (0,0))
theorem CutAt.cells {w:World} {b:Nat} {e d n f:Int} {ks:Value} (h:CutAt w b e d n f ks):w.cell? ⟨b,0,none⟩=some (.int .i64 e)/\w.cell? ⟨b,1,none⟩=some (.int .i64 d)/\w.cell? ⟨b,2,none⟩=some (.int .u64 n)/\w.cell? ⟨b,3,none⟩=some (.int .i64 f)/\w.cell? ⟨b,4,none⟩=some ks/\ ∀j,w.frozen? ⟨b,j,none⟩=false:=by
 unfold CutAt at h;refine⟨by simp[World.cell?,h],by simp[World.cell?,h],by simp[World.cell?,h],by simp[World.cell?,h],by simp[World.cell?,h],fun j=>by simp[World.frozen?,h]⟩
theorem CutAt.fr {F:List Nat} {w w':World} {b:Nat} {e d n f:Int} {ks:Value} (h:CutAt w b e d n f ks) (hf:Fr F w w') (hb:b∉F):CutAt w' b e d n f ks:=(hf.block b (lt_of_block h) hb).trans h
set_option maxRecDepth 100000 in
set_option maxHeartbeats 4000000 in
theorem none_any (w:World):Calls Tryz.prog 127 #[] w fun e w'=>e= .returned (cutV (-1) 0 0 0 (.slice none 0 0))/\Below w.heap.size w w':=by
 go_enter Tryz.func127,Tryz.ntmps127;go_wp2_with fail;have hA:CutAt (w.alloc (zO9 (-1) 0 0 0 none 0 0)) w.heap.size (-1) 0 0 0 (.slice none 0 0):=Go.heap_alloc_new w _;have hF:Below w.heap.size w (w.alloc (zO9 (-1) 0 0 0 none 0 0)):=(Below.refl _ _).alloc (Nat.le_refl _) _;obtain⟨r0,r1,r2,r3,r4,-⟩:=hA.cells;exact bodyPost_ret (v:=cutV (-1) 0 0 0 (.slice none 0 0)) (by simp[results,Tryz.results127,go_sem,r0,r1,r2,r3,r4,cutV]) rfl ⟨rfl,hF⟩
open Go.RowKit
def ints (l:List Nat):List Value:=l.map fun(n:Nat)=> .int .i64 (n:Int)
theorem ints_at {w:World} {A:Option Addr} {l:List Nat} (h:Cells w A (ints l)) {k:Nat} (hk:k<l.length): ∃ad,A=some ad/\w.cell? (ad.add k)=some (.int .i64 (l.getD k 0:Nat)):=by
 obtain⟨ad,he,hc⟩:=h (by unfold ints;rw[List.length_map];omega);refine⟨ad,he,by rw[hc k (.int .i64 (l.getD k 0:Nat)) (by unfold ints;rw[List.getElem?_map,List.getD_eq_getElem?_getD,List.getElem?_eq_getElem hk];rfl)]⟩
set_option maxRecDepth 100000 in
set_option maxHeartbeats 8000000 in
theorem rfits_any (s:ByteArray) (c:UInt8) (at_:Nat) (ks:List Nat) (e d n f:Int) (A:Option Addr) (cap:Nat) (w:World) (hbc:byte s.data.toList at_=c) (hat:at_<s.size) (_hs:s.size<=1000000) (hn:ks.length<=100) (hA:Cells w A (ints ks))
 (hk: ∀i,i+1<ks.length->ks.getD i 0<ks.getD (i+1) 0/\ks.getD (i+1) 0<=s.size) (h1:c=80\/c=76->2<=ks.length) (h2:c=88\/c=87->3<=ks.length):
 Calls Tryz.prog 130 #[.string s,.int .i64 at_,cutV e d n f (.slice A ks.length cap)] w fun e w'=>e= .returned (.bool (fitsB s.data.toList c ks))/\Below w.heap.size w w':=by
 unfold cutV;obtain⟨op,hop⟩: ∃op:Int,(c.toNat:Int)=op:=⟨_,rfl⟩;have hix:=fun W=>index_at hat W
 rw[hbc]at hix;simp only[hop]at hix;have hbA:Below w.heap.size w (w.alloc (zO9 e d n f A ks.length cap)):=(Below.refl _ _).alloc (Nat.le_refl _) _;have HBA:=zH hbA;have q4:(w.alloc (zO9 e d n f A ks.length cap)).cell? ⟨w.heap.size,4,none⟩=some (.slice A ks.length cap):=alloc_cells 4 _ rfl;have hAW:=Cells.below hA hbA;have HAW:=zH hAW;have HK:=zH hk;have o80:=opb hop 80;have o88:=opb hop 88;have o87:=opb hop 87;have o76:=opb hop 76;rw[show(((80:UInt8).toNat:Nat):Int)=80 from rfl]at o80;rw[show(((88:UInt8).toNat:Nat):Int)=88 from rfl]at o88;rw[show(((87:UInt8).toNat:Nat):Int)=87 from rfl]at o87;rw[show(((76:UInt8).toNat:Nat):Int)=76 from rfl]at o76;clear hbA hAW hA hk;by_cases c80:c=80
 ·have:=h1 (.inl c80);have hR:fitsB s.data.toList c ks=(byte s.data.toList (ks.getD 0 0) !=86&&byte s.data.toList (ks.getD 0 0) !=75):=by unfold fitsB;rw[if_pos c80]
  have e80:=o80.1 c80;obtain⟨ad,rfl,k0⟩:=ints_at HAW.out (show 0<ks.length by omega);rw[show ad.add 0=ad by simp[Addr.add]]at k0;obtain⟨z1,z2⟩:=HK.out 0 (by omega);have hix0:=fun W=>index_at (show ks.getD 0 0<s.size by omega) W
  obtain⟨b0,hb0⟩: ∃b0,byte s.data.toList (ks.getD 0 0)=b0:=⟨_,rfl⟩;rw[hb0]at hix0 hR;obtain⟨p0,hp0⟩: ∃p0,ks.getD 0 0=p0:=⟨_,rfl⟩;rw[hp0]at k0 hix0;have HR:=zH hR;have h86:(b0=86)↔((b0.toNat:Int)=86):=opb rfl 86;have h75:(b0=75)↔((b0.toNat:Int)=75):=opb rfl 75;obtain⟨x,hx⟩: ∃x:Int,(b0.toNat:Int)=x:=⟨_,rfl⟩;rw[hx]at h86 h75;simp only[hx]at hix0;have hpos:(0:Int)<(ks.length:Int):=by omega
  clear hR o80 o88 o87 o76 hop h1 h2 hb0 hx hbc hp0 z1 z2;subst e80;by_cases g86:x=86
  ·have H86:=zH (h86.2 g86);subst g86;clear h86 h75;go_enter Tryz.func130,Tryz.ntmps130;go_wp2_with fail;go_ret;rw[HR.out,H86.out];exact⟨rfl,HBA.out⟩
  ·have e86:(x==86)=false:=beq_false_of_ne g86;have H86:=zH (fun h=>g86 (h86.1 h));by_cases g75:x=75
   ·have H75:=zH (h75.2 g75);subst g75;clear h86 h75 g86 e86;go_enter Tryz.func130,Tryz.ntmps130;go_wp2_with fail;go_ret;rw[HR.out,H75.out];exact⟨rfl,HBA.out⟩
   ·have e75:(x==75)=false:=beq_false_of_ne g75;have H75:=zH (fun h=>g75 (h75.1 h));clear h86 h75;go_enter Tryz.func130,Tryz.ntmps130;go_wp2_with fail;go_ret;rw[HR.out];exact⟨ret_bool (by rw[bne_iff_ne.2 g86,bne_iff_ne.2 g75,bne_iff_ne.2 H86.out,bne_iff_ne.2 H75.out]),HBA.out⟩
 have n80: ¬op=80:=fun h=>c80 (o80.2 h)
 by_cases c88:c=88
 ·have:=h2 (.inl c88);have hR:fitsB s.data.toList c ks=leT (sub s.data.toList (ks.getD 0 0) (ks.getD 1 0)) (sub s.data.toList (ks.getD 1 0) (ks.getD 2 0)):=by unfold fitsB;rw[if_neg c80,if_pos c88]
  have e88:=o88.1 c88;obtain⟨ad,rfl,k0⟩:=ints_at HAW.out (show 0<ks.length by omega);rw[show ad.add 0=ad by simp[Addr.add]]at k0;obtain⟨ad',he',k1⟩:=ints_at HAW.out (show 1<ks.length by omega);obtain rfl:=Option.some.inj he';rw[show ad.add 1=⟨ad.block,ad.off+1,none⟩from rfl]at k1;obtain⟨ad',he',k2⟩:=ints_at HAW.out (show 2<ks.length by omega);obtain rfl:=Option.some.inj he';rw[show ad.add 2=⟨ad.block,ad.off+2,none⟩from rfl]at k2;obtain⟨z1,z2⟩:=HK.out 0 (by omega);obtain⟨z3,z4⟩:=HK.out 1 (by omega);rw[show ks.getD (0+1) 0=ks.getD 1 0 from rfl]at z1 z2;rw[show ks.getD (1+1) 0=ks.getD 2 0 from rfl]at z3 z4;have hL0:=ext_list s (ks.getD 0 0) (ks.getD 1 0);have hL1:=ext_list s (ks.getD 1 0) (ks.getD 2 0);rw[<-hL0,<-hL1,<-Go.ByteArray.toList_eq (s.extract (ks.getD 0 0) (ks.getD 1 0)),<-Go.ByteArray.toList_eq (s.extract (ks.getD 1 0) (ks.getD 2 0))]at hR;obtain⟨p0,hp0⟩: ∃p0,ks.getD 0 0=p0:=⟨_,rfl⟩;obtain⟨p1,hp1⟩: ∃p1,ks.getD 1 0=p1:=⟨_,rfl⟩;obtain⟨p2,hp2⟩: ∃p2,ks.getD 2 0=p2:=⟨_,rfl⟩;rw[hp0]at k0 hR z1;rw[hp1]at k1 hR z1 z2 z3;rw[hp2]at k2 hR z3 z4;have HR:=zH hR;have b0:(0:Int)<(ks.length:Int):=by omega
  have b1:(1:Int)<(ks.length:Int):=by omega
  have b2:(2:Int)<(ks.length:Int):=by omega
  have y1:(p0:Int)<=(p1:Int):=by omega
  have y2:(p1:Int)<=(p2:Int):=by omega
  have y3:(p1:Int)<=(s.size:Int):=by omega
  have y4:(p2:Int)<=(s.size:Int):=by omega
  have y5:(0:Int)<=(p0:Int):=by omega
  have y6:(0:Int)<=(p1:Int):=by omega
  clear hR o80 o88 o87 o76 hop h1 h2 hbc hp0 hp1 hp2 z1 z2 z3 z4 hL0 hL1 n80;subst e88;go_enter Tryz.func130,Tryz.ntmps130;go_wp2_with fail;go_big_quiet (fail);go_wp2_with fail;go_ret;rw[HR.out];exact⟨rfl,below_drewN HBA.out _⟩
 have n88: ¬op=88:=fun h=>c88 (o88.2 h)
 by_cases c87:c=87
 ·have:=h2 (.inr c87);have hR:fitsB s.data.toList c ks=(isPub (byte s.data.toList (ks.getD 0 0))&&isPub (byte s.data.toList (ks.getD 1 0))):=by unfold fitsB;rw[if_neg c80,if_neg c88,if_pos c87]
  have e87:=o87.1 c87;obtain⟨ad,rfl,k0⟩:=ints_at HAW.out (show 0<ks.length by omega);rw[show ad.add 0=ad by simp[Addr.add]]at k0;obtain⟨ad',he',k1⟩:=ints_at HAW.out (show 1<ks.length by omega);obtain rfl:=Option.some.inj he';rw[show ad.add 1=⟨ad.block,ad.off+1,none⟩from rfl]at k1;obtain⟨z1,z2⟩:=HK.out 0 (by omega);obtain⟨z3,z4⟩:=HK.out 1 (by omega);rw[show ks.getD (0+1) 0=ks.getD 1 0 from rfl]at z1 z2;rw[show ks.getD (1+1) 0=ks.getD 2 0 from rfl]at z3 z4;have hix0:=fun W=>index_at (show ks.getD 0 0<s.size by omega) W
  have hix1:=fun W=>index_at (show ks.getD 1 0<s.size by omega) W
  have hP0:=fun W=>rpublic_any (byte s.data.toList (ks.getD 0 0)) _ rfl W
  have hP1:=fun W=>rpublic_any (byte s.data.toList (ks.getD 1 0)) _ rfl W
  obtain⟨b0,hb0⟩: ∃b0,byte s.data.toList (ks.getD 0 0)=b0:=⟨_,rfl⟩;obtain⟨b1,hb1⟩: ∃b1,byte s.data.toList (ks.getD 1 0)=b1:=⟨_,rfl⟩;rw[hb0]at hix0 hR hP0;rw[hb1]at hix1 hR hP1;obtain⟨p0,hp0⟩: ∃p0,ks.getD 0 0=p0:=⟨_,rfl⟩;obtain⟨p1,hp1⟩: ∃p1,ks.getD 1 0=p1:=⟨_,rfl⟩;rw[hp0]at k0 hix0;rw[hp1]at k1 hix1;have HR:=zH hR;have HP0:=zH hP0;have HP1:=zH hP1;have l0:(0:Int)<(ks.length:Int):=by omega
  have l1:(1:Int)<(ks.length:Int):=by omega
  clear hR o80 o88 o87 o76 hop h1 h2 hb0 hb1 hbc hp0 hp1 z1 z2 z3 z4 hP0 hP1 n80 n88;subst e87;go_enter Tryz.func130,Tryz.ntmps130;go_wp2_with fail;refine(HP0.out _).mono ?_;rintro e w1 ⟨rfl,rfl⟩;cases hq:isPub b0 with
  |false=>
   have HQ:=zH hq;clear hq;go_wp2_with fail;go_ret;rw[HR.out,HQ.out];exact⟨rfl,HBA.out⟩
  |true=>
   have HQ:=zH hq;clear hq;go_wp2_with fail;refine(HP1.out _).mono ?_;rintro e w1 ⟨rfl,rfl⟩;go_wp2_with fail;go_ret;rw[HR.out,HQ.out];exact⟨by simp,HBA.out⟩
 have n87: ¬op=87:=fun h=>c87 (o87.2 h)
 by_cases c76:c=76
 ·have:=h1 (.inr c76);have hR:fitsB s.data.toList c ks=isPub (byte s.data.toList (ks.getD 0 0)):=by unfold fitsB;rw[if_neg c80,if_neg c88,if_neg c87,if_pos c76]
  have e76:=o76.1 c76;obtain⟨ad,rfl,k0⟩:=ints_at HAW.out (show 0<ks.length by omega);rw[show ad.add 0=ad by simp[Addr.add]]at k0;obtain⟨z1,z2⟩:=HK.out 0 (by omega);have hix0:=fun W=>index_at (show ks.getD 0 0<s.size by omega) W
  have hP0:=fun W=>rpublic_any (byte s.data.toList (ks.getD 0 0)) _ rfl W
  obtain⟨b0,hb0⟩: ∃b0,byte s.data.toList (ks.getD 0 0)=b0:=⟨_,rfl⟩;rw[hb0]at hix0 hR hP0;obtain⟨p0,hp0⟩: ∃p0,ks.getD 0 0=p0:=⟨_,rfl⟩;rw[hp0]at k0 hix0;have HR:=zH hR;have HP0:=zH hP0;have l0:(0:Int)<(ks.length:Int):=by omega
  clear hR o80 o88 o87 o76 hop h1 h2 hb0 hbc hp0 z1 z2 hP0 n80 n88 n87;subst e76;go_enter Tryz.func130,Tryz.ntmps130;go_wp2_with fail;refine(HP0.out _).mono ?_;rintro e w1 ⟨rfl,rfl⟩;go_wp2_with fail;go_ret;rw[HR.out];exact⟨rfl,HBA.out⟩
 have n76: ¬op=76:=fun h=>c76 (o76.2 h)
 have hR:fitsB s.data.toList c ks=true:=by unfold fitsB;rw[if_neg c80,if_neg c88,if_neg c87,if_neg c76]
 have HR:=zH hR;clear hR o80 o88 o87 o76 hop h1 h2 q4;go_enter Tryz.func130,Tryz.ntmps130;go_wp2_with fail;go_ret;rw[HR.out];exact⟨rfl,HBA.out⟩
open Go.RowKit
theorem put5_low (w:World) (g:Nat) (a b c d e:Value) {B:Nat} (hB:B<=w.heap.size) (hg:B<=g):Below B w (put5 w g a b c d e):=
 (put5_fr w g a b c d e (F:=[g]) (List.mem_singleton.2 rfl)).toBelowOf hB (fun i hi=>by simp at hi;omega)
def RReadP (s:ByteArray) (room at_:Nat) (w:World) (e:Ending) (w':World):Prop:=
 match rd s.data.toList room at_ with
 |some x=> ∃(N F:Int) (A:Option Addr) (cap:Nat),e= .returned (cutV x.fin x.deep N F (.slice A x.kids.length cap))/\(byte s.data.toList at_=110->N=x.num)/\(byte s.data.toList at_=116->F=x.text)/\Cells w' A (ints x.kids)/\Below w.heap.size w w'
 |none=> ∃(d n f:Int) (A:Option Addr) (l c:Nat),e= .returned (cutV (-1) d n f (.slice A l c))/\Below w.heap.size w w'
set_option maxRecDepth 100000 in
set_option maxHeartbeats 8000000 in
theorem rread_end (s:ByteArray) (room at_:Nat) (w:World) (hn:rd s.data.toList room at_=none) (h:s.size<=at_\/room=0):
 Calls Tryz.prog 121 #[.string s,.int .i64 at_,.int .i64 room] w (RReadP s room at_ w):=by
 have HN:=zH hn;have HZ:=zH (show CutAt (w.alloc (zO9 0 0 0 0 none 0 0)) w.heap.size 0 0 0 0 (.slice none 0 0)from Go.heap_alloc_new w _);have HB:=zH (show Below w.heap.size w (w.alloc (zO9 0 0 0 0 none 0 0))from(Below.refl _ _).alloc (Nat.le_refl _) _);clear hn;by_cases h1:s.size<=at_
 ·have g1:decide ((s.size:Int)<=(at_:Int))=true:=decide_eq_true (by omega);go_enter Tryz.func121,Tryz.ntmps121;go_wp2_with fail;refine(none_any _).mono ?_;rintro e w2 ⟨rfl,hb2⟩;unfold cutV;have hz2:CutAt w2 w.heap.size 0 0 0 0 (.slice none 0 0):=(HZ.out).fr (Fr.below (F:=[]) hb2) (by simp);have hB2:=HB.out.trans (hb2.mono HB.out.size);obtain⟨z0,z1,z2,z3,z4,zf⟩:=hz2.cells;have HZ2:=zH hz2;have HB2:=zH hB2;clear hz2 hB2 hb2;go_wp2_with fail;have hA:=put5_at HZ2.out (.int .i64 (-1)) (.int .i64 0) (.int .u64 0) (.int .i64 0) (.slice none 0 0);have hF:=HB2.out.trans (put5_low w2 w.heap.size (.int .i64 (-1)) (.int .i64 0) (.int .u64 0) (.int .i64 0) (.slice none 0 0) HB2.out.size (Nat.le_refl _));change bodyPost _ _ _ _ _ (put5 w2 w.heap.size (.int .i64 (-1)) (.int .i64 0) (.int .u64 0) (.int .i64 0) (.slice none 0 0));generalize put5 w2 w.heap.size (.int .i64 (-1)) (.int .i64 0) (.int .u64 0) (.int .i64 0) (.slice none 0 0)=Wf at hA hF⊢;obtain⟨r0,r1,r2,r3,r4,-⟩:=CutAt.cells (show CutAt Wf w.heap.size (-1) 0 0 0 (.slice none 0 0)from hA);refine bodyPost_ret (v:=cutV (-1) 0 0 0 (.slice none 0 0)) (by simp[results,Tryz.results121,go_sem,r0,r1,r2,r3,r4,cutV]) rfl ?_;unfold RReadP;rw[HN.out];exact⟨0,0,0,none,0,0,rfl,hF⟩
 ·have g1:decide ((s.size:Int)<=(at_:Int))=false:=decide_eq_false (by omega);obtain rfl:room=0:=h.resolve_left h1;go_enter Tryz.func121,Tryz.ntmps121;go_wp2_with fail;refine(none_any _).mono ?_;rintro e w2 ⟨rfl,hb2⟩;unfold cutV;have hz2:CutAt w2 w.heap.size 0 0 0 0 (.slice none 0 0):=(HZ.out).fr (Fr.below (F:=[]) hb2) (by simp);have hB2:=HB.out.trans (hb2.mono HB.out.size);obtain⟨z0,z1,z2,z3,z4,zf⟩:=hz2.cells;have HZ2:=zH hz2;have HB2:=zH hB2;clear hz2 hB2 hb2;go_wp2_with fail;have hA:=put5_at HZ2.out (.int .i64 (-1)) (.int .i64 0) (.int .u64 0) (.int .i64 0) (.slice none 0 0);have hF:=HB2.out.trans (put5_low w2 w.heap.size (.int .i64 (-1)) (.int .i64 0) (.int .u64 0) (.int .i64 0) (.slice none 0 0) HB2.out.size (Nat.le_refl _));change bodyPost _ _ _ _ _ (put5 w2 w.heap.size (.int .i64 (-1)) (.int .i64 0) (.int .u64 0) (.int .i64 0) (.slice none 0 0));generalize put5 w2 w.heap.size (.int .i64 (-1)) (.int .i64 0) (.int .u64 0) (.int .i64 0) (.slice none 0 0)=Wf at hA hF⊢;obtain⟨r0,r1,r2,r3,r4,-⟩:=CutAt.cells (show CutAt Wf w.heap.size (-1) 0 0 0 (.slice none 0 0)from hA);refine bodyPost_ret (v:=cutV (-1) 0 0 0 (.slice none 0 0)) (by simp[results,Tryz.results121,go_sem,r0,r1,r2,r3,r4,cutV]) rfl ?_;unfold RReadP;rw[HN.out];exact⟨0,0,0,none,0,0,rfl,hF⟩
set_option maxRecDepth 100000 in
set_option maxHeartbeats 8000000 in
theorem rread_name (s:ByteArray) (room at_:Nat) (w:World) (hs:s.size<=1000000) (hat:at_<s.size) (hroom:room<=1000) (hbc:byte s.data.toList at_=110):
 Calls Tryz.prog 121 #[.string s,.int .i64 at_,.int .i64 ((room+1:Nat):Int)] w (RReadP s (room+1) at_ w):=by
 have hc:s.data.toList[at_]? =some 110:=by rw[<-hbc];unfold byte;rw[List.getD_eq_getElem?_getD,List.getElem?_eq_getElem (show at_<s.data.toList.length from hat)];rfl
 have hrd:=rd_rdF (room:=room) hc;unfold rdF at hrd;rw[if_pos rfl]at hrd;have HN:=zH (fun W=>rnum_any s (at_+1) 59 59 rfl W (by omega) hs rfl);obtain⟨R,hR⟩: ∃R,numL 59 (s.data.toList.drop (at_+1))=R:=⟨_,rfl⟩;rw[hR]at HN hrd;have HRD:=zH hrd;have HBC:=zH hbc;have hix:=fun W=>index_at hat W
 rw[hbc]at hix;have HZ:=zH (show CutAt (w.alloc (zO9 0 0 0 0 none 0 0)) w.heap.size 0 0 0 0 (.slice none 0 0)from Go.heap_alloc_new w _);have HB:=zH (show Below w.heap.size w (w.alloc (zO9 0 0 0 0 none 0 0))from(Below.refl _ _).alloc (Nat.le_refl _) _);have g1:decide ((s.size:Int)<=(at_:Int))=false:=decide_eq_false (by omega);have g2:(((room+1:Nat):Int)==0)=false:=beq_false_of_ne (by omega);obtain⟨rm,hrm⟩: ∃rm:Int,((room+1:Nat):Int)=rm:=⟨_,rfl⟩;rw[hrm]at g2⊢;clear hrd hbc hR hc hrm;cases R with
 |none=>
  go_enter Tryz.func121,Tryz.ntmps121;go_wp2_with fail;refine(HN.out _).mono ?_;rintro e w1 ⟨rfl,rfl⟩;unfold rnumV;go_wp2_with fail;have hA:CutAt (w.alloc (zO9 (-1) 1 0 0 none 0 0)) w.heap.size (-1) 1 0 0 (.slice none 0 0):=Go.heap_alloc_new w _;have hF:Below w.heap.size w (w.alloc (zO9 (-1) 1 0 0 none 0 0)):=(Below.refl _ _).alloc (Nat.le_refl _) _;obtain⟨r0,r1,r2,r3,r4,-⟩:=hA.cells;refine bodyPost_ret (v:=cutV (-1) 1 0 0 (.slice none 0 0)) (by simp[results,Tryz.results121,go_sem,r0,r1,r2,r3,r4,cutV]) rfl ?_;unfold RReadP;rw[HRD.out];exact⟨1,0,0,none,0,0,rfl,hF⟩
 |some y=>
  obtain⟨v,k⟩:=y;go_enter Tryz.func121,Tryz.ntmps121;go_wp2_with fail;refine(HN.out _).mono ?_;rintro e w1 ⟨rfl,rfl⟩;unfold rnumV;go_wp2_with fail;have hA:CutAt (w.alloc (zO9 ((at_:Int)+1+(k:Int)+1) 1 (v:Int) 0 none 0 0)) w.heap.size ((at_:Int)+1+(k:Int)+1) 1 (v:Int) 0 (.slice none 0 0):=Go.heap_alloc_new w _;have hF:Below w.heap.size w (w.alloc (zO9 ((at_:Int)+1+(k:Int)+1) 1 (v:Int) 0 none 0 0)):=(Below.refl _ _).alloc (Nat.le_refl _) _;obtain⟨r0,r1,r2,r3,r4,-⟩:=hA.cells;refine bodyPost_ret (v:=cutV ((at_:Int)+1+(k:Int)+1) 1 (v:Int) 0 (.slice none 0 0)) (by simp[results,Tryz.results121,go_sem,r0,r1,r2,r3,r4,cutV]) rfl ?_;unfold RReadP;rw[HRD.out];exact⟨v,0,none,0,rfl,fun _=>rfl,fun h=>by rw[HBC.out]at h;exact absurd h (by decide),Cells.nil _ _,hF⟩
set_option maxRecDepth 100000 in
set_option maxHeartbeats 8000000 in
theorem rread_text (s:ByteArray) (room at_:Nat) (w:World) (hs:s.size<=1000000) (hat:at_<s.size) (hroom:room<=1000) (hbc:byte s.data.toList at_=116):
 Calls Tryz.prog 121 #[.string s,.int .i64 at_,.int .i64 ((room+1:Nat):Int)] w (RReadP s (room+1) at_ w):=by
 have hc:s.data.toList[at_]? =some 116:=by rw[<-hbc];unfold byte;rw[List.getD_eq_getElem?_getD,List.getElem?_eq_getElem (show at_<s.data.toList.length from hat)];rfl
 have hrd:=rd_rdF (room:=room) hc;unfold rdF at hrd;rw[if_neg (by decide),if_pos rfl]at hrd;have HN:=zH (fun W=>rnum_any s (at_+1) 58 58 rfl W (by omega) hs rfl);have hsome:=fun v k=>numL_some (c:=58) (l:=s.data.toList.drop (at_+1)) (v:=v) (k:=k)
 have hlen:(s.data.toList.drop (at_+1)).length=s.size - (at_+1):=by rw[List.length_drop];rfl
 rw[hlen]at hsome;obtain⟨R,hR⟩: ∃R,numL 58 (s.data.toList.drop (at_+1))=R:=⟨_,rfl⟩;rw[hR]at HN hrd;simp only[hR]at hsome;have HRD:=zH hrd;have HBC:=zH hbc;have hix:=fun W=>index_at hat W
 rw[hbc]at hix;have HZ:=zH (show CutAt (w.alloc (zO9 0 0 0 0 none 0 0)) w.heap.size 0 0 0 0 (.slice none 0 0)from Go.heap_alloc_new w _);have HB:=zH (show Below w.heap.size w (w.alloc (zO9 0 0 0 0 none 0 0))from(Below.refl _ _).alloc (Nat.le_refl _) _);have g1:decide ((s.size:Int)<=(at_:Int))=false:=decide_eq_false (by omega);have g2:(((room+1:Nat):Int)==0)=false:=beq_false_of_ne (by omega);obtain⟨rm,hrm⟩: ∃rm:Int,((room+1:Nat):Int)=rm:=⟨_,rfl⟩;rw[hrm]at g2⊢;clear hrd hbc hR hc hrm hlen;cases R with
 |none=>
  have HN2:=HN;clear HN;have HN:=zH HRD.out;clear HRD hsome;go_enter Tryz.func121,Tryz.ntmps121;go_wp2_with fail;refine(HN2.out _).mono ?_;rintro e w1 ⟨rfl,rfl⟩;unfold rnumV;go_wp2_with fail;refine(none_any _).mono ?_;rintro e w2 ⟨rfl,hb2⟩;unfold cutV;have hz2:CutAt w2 w.heap.size 0 0 0 0 (.slice none 0 0):=(HZ.out).fr (Fr.below (F:=[]) hb2) (by simp);have hB2:=HB.out.trans (hb2.mono HB.out.size);obtain⟨z0,z1,z2,z3,z4,zf⟩:=hz2.cells;have HZ2:=zH hz2;have HB2:=zH hB2;clear hz2 hB2 hb2;go_wp2_with fail;have hA:=put5_at HZ2.out (.int .i64 (-1)) (.int .i64 0) (.int .u64 0) (.int .i64 0) (.slice none 0 0);have hF:=HB2.out.trans (put5_low w2 w.heap.size (.int .i64 (-1)) (.int .i64 0) (.int .u64 0) (.int .i64 0) (.slice none 0 0) HB2.out.size (Nat.le_refl _));change bodyPost _ _ _ _ _ (put5 w2 w.heap.size (.int .i64 (-1)) (.int .i64 0) (.int .u64 0) (.int .i64 0) (.slice none 0 0));generalize put5 w2 w.heap.size (.int .i64 (-1)) (.int .i64 0) (.int .u64 0) (.int .i64 0) (.slice none 0 0)=Wf at hA hF⊢;obtain⟨r0,r1,r2,r3,r4,-⟩:=CutAt.cells (show CutAt Wf w.heap.size (-1) 0 0 0 (.slice none 0 0)from hA);refine bodyPost_ret (v:=cutV (-1) 0 0 0 (.slice none 0 0)) (by simp[results,Tryz.results121,go_sem,r0,r1,r2,r3,r4,cutV]) rfl ?_;unfold RReadP;rw[HN.out];exact⟨0,0,0,none,0,0,rfl,hF⟩
 |some y=>
  obtain⟨v,k⟩:=y;obtain⟨hv,hk1,hk2⟩:=hsome v k rfl;clear hsome;have HN2:=HN;clear HN;have he1:(at_:Int)+1+(k:Int)+1<=(s.size:Int):=by omega
  have ge:decide ((at_:Int)+1+(k:Int)+1<0)=false:=decide_eq_false (by omega);by_cases h4:4096<v
  ·have HN:=zH (show rd s.data.toList (room+1) at_=none by rw[HRD.out];simp only;rw[if_neg (by omega)]);clear HRD;have g4:decide ((4096:Int)<(v:Int))=true:=decide_eq_true (by omega);go_enter Tryz.func121,Tryz.ntmps121;go_wp2_with fail;refine(HN2.out _).mono ?_;rintro e w1 ⟨rfl,rfl⟩;unfold rnumV;go_wp2_with fail;refine(none_any _).mono ?_;rintro e w2 ⟨rfl,hb2⟩;unfold cutV;have hz2:CutAt w2 w.heap.size 0 0 0 0 (.slice none 0 0):=(HZ.out).fr (Fr.below (F:=[]) hb2) (by simp);have hB2:=HB.out.trans (hb2.mono HB.out.size);obtain⟨z0,z1,z2,z3,z4,zf⟩:=hz2.cells;have HZ2:=zH hz2;have HB2:=zH hB2;clear hz2 hB2 hb2;go_wp2_with fail;have hA:=put5_at HZ2.out (.int .i64 (-1)) (.int .i64 0) (.int .u64 0) (.int .i64 0) (.slice none 0 0);have hF:=HB2.out.trans (put5_low w2 w.heap.size (.int .i64 (-1)) (.int .i64 0) (.int .u64 0) (.int .i64 0) (.slice none 0 0) HB2.out.size (Nat.le_refl _));change bodyPost _ _ _ _ _ (put5 w2 w.heap.size (.int .i64 (-1)) (.int .i64 0) (.int .u64 0) (.int .i64 0) (.slice none 0 0));generalize put5 w2 w.heap.size (.int .i64 (-1)) (.int .i64 0) (.int .u64 0) (.int .i64 0) (.slice none 0 0)=Wf at hA hF⊢;obtain⟨r0,r1,r2,r3,r4,-⟩:=CutAt.cells (show CutAt Wf w.heap.size (-1) 0 0 0 (.slice none 0 0)from hA);refine bodyPost_ret (v:=cutV (-1) 0 0 0 (.slice none 0 0)) (by simp[results,Tryz.results121,go_sem,r0,r1,r2,r3,r4,cutV]) rfl ?_;unfold RReadP;rw[HN.out];exact⟨0,0,0,none,0,0,rfl,hF⟩
  ·have g4:decide ((4096:Int)<(v:Int))=false:=decide_eq_false (by omega);by_cases h5:s.size<at_+1+k+1+v
   ·have HN:=zH (show rd s.data.toList (room+1) at_=none by rw[HRD.out];simp only;rw[if_neg (by have:s.data.toList.length=s.size:=rfl;omega)]);clear HRD;have g5:decide ((s.size:Int) - ((at_:Int)+1+(k:Int)+1)<(v:Int))=true:=decide_eq_true (by omega);go_enter Tryz.func121,Tryz.ntmps121;go_wp2_with fail;refine(HN2.out _).mono ?_;rintro e w1 ⟨rfl,rfl⟩;unfold rnumV;go_wp2_with fail;refine(none_any _).mono ?_;rintro e w2 ⟨rfl,hb2⟩;unfold cutV;have hz2:CutAt w2 w.heap.size 0 0 0 0 (.slice none 0 0):=(HZ.out).fr (Fr.below (F:=[]) hb2) (by simp);have hB2:=HB.out.trans (hb2.mono HB.out.size);obtain⟨z0,z1,z2,z3,z4,zf⟩:=hz2.cells;have HZ2:=zH hz2;have HB2:=zH hB2;clear hz2 hB2 hb2;go_wp2_with fail;have hA:=put5_at HZ2.out (.int .i64 (-1)) (.int .i64 0) (.int .u64 0) (.int .i64 0) (.slice none 0 0);have hF:=HB2.out.trans (put5_low w2 w.heap.size (.int .i64 (-1)) (.int .i64 0) (.int .u64 0) (.int .i64 0) (.slice none 0 0) HB2.out.size (Nat.le_refl _));change bodyPost _ _ _ _ _ (put5 w2 w.heap.size (.int .i64 (-1)) (.int .i64 0) (.int .u64 0) (.int .i64 0) (.slice none 0 0));generalize put5 w2 w.heap.size (.int .i64 (-1)) (.int .i64 0) (.int .u64 0) (.int .i64 0) (.slice none 0 0)=Wf at hA hF⊢;obtain⟨r0,r1,r2,r3,r4,-⟩:=CutAt.cells (show CutAt Wf w.heap.size (-1) 0 0 0 (.slice none 0 0)from hA);refine bodyPost_ret (v:=cutV (-1) 0 0 0 (.slice none 0 0)) (by simp[results,Tryz.results121,go_sem,r0,r1,r2,r3,r4,cutV]) rfl ?_;unfold RReadP;rw[HN.out];exact⟨0,0,0,none,0,0,rfl,hF⟩
   ·have HS:=zH (show rd s.data.toList (room+1) at_=some ⟨at_+1+k+1+v,1,0,at_+1+k+1,[]⟩ by rw[HRD.out];simp only;rw[if_pos (by have:s.data.toList.length=s.size:=rfl;omega)];rfl);clear HRD;have g5:decide ((s.size:Int) - ((at_:Int)+1+(k:Int)+1)<(v:Int))=false:=decide_eq_false (by omega);go_enter Tryz.func121,Tryz.ntmps121;go_wp2_with fail;refine(HN2.out _).mono ?_;rintro e w1 ⟨rfl,rfl⟩;unfold rnumV;go_wp2_with fail;have hA:CutAt (w.alloc (zO9 ((at_:Int)+1+(k:Int)+1+(v:Int)) 1 (v:Int) ((at_:Int)+1+(k:Int)+1) none 0 0)) w.heap.size ((at_:Int)+1+(k:Int)+1+(v:Int)) 1 (v:Int) ((at_:Int)+1+(k:Int)+1) (.slice none 0 0):=Go.heap_alloc_new w _;have hF:Below w.heap.size w (w.alloc (zO9 ((at_:Int)+1+(k:Int)+1+(v:Int)) 1 (v:Int) ((at_:Int)+1+(k:Int)+1) none 0 0)):=(Below.refl _ _).alloc (Nat.le_refl _) _;obtain⟨r0,r1,r2,r3,r4,-⟩:=hA.cells;refine bodyPost_ret (v:=cutV ((at_:Int)+1+(k:Int)+1+(v:Int)) 1 (v:Int) ((at_:Int)+1+(k:Int)+1) (.slice none 0 0)) (by simp[results,Tryz.results121,go_sem,r0,r1,r2,r3,r4,cutV]) rfl ?_;unfold RReadP;rw[HS.out];exact⟨v,_,none,0,rfl,fun h=>by rw[HBC.out]at h;exact absurd h (by decide),fun _=>rfl,Cells.nil _ _,hF⟩
open Go.RowKit
theorem row_fr {F:List Nat} {w w':World} {base:Nat} {E:TypeId} {v:Value} {xs:List Value} (h:Row w base E v xs) (hf:Fr F w w') (hF: ∀g,v.ownBlock=some g->g∉F):Row w' base E v xs:=by
 rcases h with h|⟨g,off,cap,cur,fr,rfl,hb,hh,r⟩
 ·exact .inl h
 ·exact .inr ⟨g,off,cap,cur,fr,rfl,hb,(hf.block g (lt_of_block hh) (hF g rfl)).trans hh,r⟩
theorem row_ne_cut {w:World} {base b:Nat} {E:TypeId} {v ks:Value} {xs:List Value} {e d n f:Int} (h:Row w base E v xs) (hE:E≠159) (hc:CutAt w b e d n f ks): ∀g,v.ownBlock=some g->g≠b:=fun g hg eq=>by
 rcases h with⟨rfl,-⟩|⟨g',off,cap,cur,fr,rfl,hb,hh,r⟩
 ·cases hg
 ·injection hg with hg;have hg':g'=g:=hg;subst hg';subst eq;unfold CutAt at hc;rw[hc]at hh;injection hh with hh;injection hh with h1 h2;exact hE h2.symm
theorem row_cells {w:World} {base n c:Nat} {E:TypeId} {A:Option Addr} {xs:List Value} (h:Row w base E (.slice A n c) xs):Cells w A xs:=by
 obtain⟨A',c',hv,-,hc⟩:=Row.shape h;injection hv with h1 h2 h3;subst h1;exact hc
theorem slInt:SlTy Tryz.prog 46 3 (.int .i64 0) 8:=⟨Tryz.underlying46,by kernel_rfl,rfl⟩
set_option maxRecDepth 100000 in
set_option maxHeartbeats 8000000 in
theorem rread_arity (s:ByteArray) (room at_:Nat) (c:UInt8) (n:Nat) (w:World) (hs:s.size<=1000000) (hat:at_<s.size) (hroom:room<=1000) (hbc:byte s.data.toList at_=c) (h110:c≠110) (h116:c≠116) (h84:c≠84) (har:arity c=some n)
 (HT: ∀(at_:Nat) (w:World),at_<=s.size->Calls Tryz.prog 121 #[.string s,.int .i64 at_,.int .i64 room] w (RReadP s room at_ w)):
 Calls Tryz.prog 121 #[.string s,.int .i64 at_,.int .i64 ((room+1:Nat):Int)] w (RReadP s (room+1) at_ w):=by
 have hc:s.data.toList[at_]? =some c:=by rw[<-hbc];unfold byte;rw[List.getD_eq_getElem?_getD,List.getElem?_eq_getElem (show at_<s.data.toList.length from hat)];rfl
 have hrd:=rd_rdF (room:=room) hc;have hkf:=fun x (h:rdF s.data.toList room at_ c=some x)=>rdF_kids h (show at_<s.data.toList.length from hat)
 obtain⟨nx,hnxe⟩: ∃nx,at_+1=nx:=⟨_,rfl⟩;obtain⟨R,hR⟩: ∃R,kidsL (rd s.data.toList room) n nx 1 [nx]=R:=⟨_,rfl⟩;have hrf:rdF s.data.toList room at_ c=cutOf R:=by
  unfold rdF head;rw[if_neg h110,if_neg h116,if_neg h84,har,<-hR,<-hnxe];rfl
 rw[hrf]at hrd;simp only[hrf]at hkf;have hn2:n<=2:=by
  unfold arity at har;split at har
  ·injection har with h;omega
  ·split at har
   ·injection har with h;omega
   ·cases har
 have hnx:nx<=s.size:=by omega
 have hw1:IntKind.i64.wrap ((at_:Int)+1)=(nx:Int):=by rw[IntWalk.i64_in _ (by omega)];omega
 have hw2:IntKind.i64.wrap (((room+1:Nat):Int) - 1)=(room:Int):=by rw[IntWalk.i64_in _ (by omega)];omega
 have hpa:=fun W=>parts_any c _ rfl W
 rw[show arityV c=(n:Int) by unfold arityV;rw[har]]at hpa;have hix:=fun W=>index_at hat W
 rw[hbc]at hix;obtain⟨ci,hci⟩: ∃ci:Int,(c.toNat:Int)=ci:=⟨_,rfl⟩;simp only[hci]at hix hpa;have g110:(ci==110)=false:=beq_false_of_ne fun h=>h110 ((opb hci 110).2 h)
 have g116:(ci==116)=false:=beq_false_of_ne fun h=>h116 ((opb hci 116).2 h)
 have g84:(ci==84)=false:=beq_false_of_ne fun h=>h84 ((opb hci 84).2 h)
 have HPA:=zH hpa;have HRD:=zH hrd;have HKF:=zH hkf;have HRR:=zH hR;have HBC:=zH hbc;have H110:=zH h110;have H116:=zH h116;have HTT:=zH HT;have g1:decide ((s.size:Int)<=(at_:Int))=false:=decide_eq_false (by omega);have g2:(((room+1:Nat):Int)==0)=false:=beq_false_of_ne (by omega);have g3:decide ((n:Int)<0)=false:=decide_eq_false (by omega);obtain⟨rm,hrm⟩: ∃rm:Int,((room+1:Nat):Int)=rm:=⟨_,rfl⟩;rw[hrm]at g2 hw2⊢;clear hpa hrd hkf hR hbc hrf HT hc hrm har hnxe hci h110 h116 h84;go_enter Tryz.func121,Tryz.ntmps121;go_wp2_with fail;refine(HPA.out _).mono ?_;rintro e w1 ⟨rfl,rfl⟩;go_wp2_with fail;have HZ0:=zH (show CutAt (((w.alloc (zO9 0 0 0 0 none 0 0)).alloc (zO16 (nx:Int))).alloc (zO9 0 1 0 0 (some ⟨w.heap.size+1,0,none⟩) 1 1)) w.heap.size 0 0 0 0 (.slice none 0 0)from CutAt.fr (CutAt.fr (show CutAt (w.alloc (zO9 0 0 0 0 none 0 0)) w.heap.size 0 0 0 0 (.slice none 0 0)from Go.heap_alloc_new w _) (Fr.below (F:=[]) ((Below.refl _ _).alloc (Nat.le_refl _) _)) (by simp)) (Fr.below (F:=[]) ((Below.refl _ _).alloc (Nat.le_refl _) _)) (by simp));have HC0:=zH (show CutAt (((w.alloc (zO9 0 0 0 0 none 0 0)).alloc (zO16 (nx:Int))).alloc (zO9 0 1 0 0 (some ⟨w.heap.size+1,0,none⟩) 1 1)) (w.heap.size+1+1) 0 1 0 0 (.slice (some ⟨w.heap.size+1,0,none⟩) 1 1)from by
  have h:=Go.heap_alloc_new ((w.alloc (zO9 0 0 0 0 none 0 0)).alloc (zO16 (nx:Int))) (zO9 0 1 0 0 (some ⟨w.heap.size+1,0,none⟩) 1 1);rw[show((w.alloc (zO9 0 0 0 0 none 0 0)).alloc (zO16 (nx:Int))).heap.size=w.heap.size+1+1 by simp]at h;exact h)
 have HB0:=zH (show Below w.heap.size w (((w.alloc (zO9 0 0 0 0 none 0 0)).alloc (zO16 (nx:Int))).alloc (zO9 0 1 0 0 (some ⟨w.heap.size+1,0,none⟩) 1 1))from(((Below.refl _ _).alloc (Nat.le_refl _) _).alloc (by simp) _).alloc (by simp;omega) _);have HR0:=zH (show Row (((w.alloc (zO9 0 0 0 0 none 0 0)).alloc (zO16 (nx:Int))).alloc (zO9 0 1 0 0 (some ⟨w.heap.size+1,0,none⟩) 1 1)) w.heap.size 3 (.slice (some ⟨w.heap.size+1,0,none⟩) 1 1) (ints [nx])from by
  have h:=Go.heap_alloc_new (w.alloc (zO9 0 0 0 0 none 0 0)) (zO16 (nx:Int));rw[show(w.alloc (zO9 0 0 0 0 none 0 0)).heap.size=w.heap.size+1 by simp]at h;have h2:Row ((w.alloc (zO9 0 0 0 0 none 0 0)).alloc (zO16 (nx:Int))) w.heap.size 3 (.slice (some ⟨w.heap.size+1,0,none⟩) 1 1) (ints [nx]):=Or.inr ⟨w.heap.size+1,0,1,#[.int .i64 (nx:Int)],(0,0),rfl,by omega,h,Free.none _,Nat.le_refl _,by decide,by simp,rfl⟩;exact h2.alloc _)
 go_loopw [12,16] (fun p i wr=> ∃(k nx' dp:Nat) (pre:List Nat) (v:Value),k<=n/\p= .int .i64 (nx':Int)/\i= .int .i64 (k:Int)/\kidsL (rd s.data.toList room) (n - k) nx' dp (pre++[nx'])=R/\pre.length=k/\nx'<=s.size/\dp<=1001/\CutAt wr w.heap.size 0 0 0 0 (.slice none 0 0)/\CutAt wr (w.heap.size+1+1) 0 dp 0 0 v/\Row wr w.heap.size 3 v (ints (pre++[nx']))/\Below w.heap.size w wr) (fun _ i _=>n - (intOf i).toNat)
 case atStart=>exact⟨0,nx,1,[],_,Nat.zero_le _,rfl,rfl,HRR.out,rfl,hnx,by omega,HZ0.out,HC0.out,HR0.out,HB0.out⟩
 case round=>
  obtain⟨k,nx',dp,pre,v,hk,rfl,rfl,hrest,hpre,hnx',hdp,hz,hcut,hrow,hbel⟩:=hrel;clear HZ0 HC0 HR0 HB0;have hksl:(pre++[nx']).length=k+1:=by rw[List.length_append,hpre];rfl
  obtain⟨Av,cv,hv,hcv,hcells⟩:=Row.shape hrow;rw[show(ints (pre++[nx'])).length=(pre++[nx']).length by simp[ints]]at hv hcv;subst hv;have HZr:=zH hz;have HCr:=zH hcut;have HRr:=zH hrow;have HBr:=zH hbel;have HCells:=zH hcells;by_cases hlt:k<n
  ·have hT:=HTT.out nx' wr hnx';obtain⟨m,hm⟩: ∃m,n - k=m+1:=⟨n - k - 1,by omega⟩;unfold RReadP at hT;cases hq:rd s.data.toList room nx' with
   |none=>
    have hRn:R=none:=by rw[<-hrest,hm];exact kidsL_stop hq
    have HN:=zH (show rd s.data.toList (room+1) at_=none by rw[HRD.out,hRn];rfl);rw[hq]at hT;simp only at hT;unfold cutV at hT;have HT1:=zH hT;clear hT hrest hz hcut hrow hbel hcells hq hm;go_wp2_with fail;refine HT1.out.mono ?_;rintro e w1 ⟨d',n',f',A',l',c',rfl,hb1⟩;have HZ9:=zH (show CutAt (w1.alloc (zO9 (-1) d' n' f' A' l' c')) w.heap.size 0 0 0 0 (.slice none 0 0)from(HZr.out.fr (Fr.below (F:=[]) hb1) (by simp)).fr (Fr.below (F:=[]) ((Below.refl _ _).alloc (Nat.le_refl _) _)) (by simp));have HB9:=zH (show Below w.heap.size w (w1.alloc (zO9 (-1) d' n' f' A' l' c'))from(HBr.out.trans (hb1.mono HBr.out.size)).alloc (Nat.le_trans HBr.out.size hb1.size) _);clear hb1;go_wp2_with fail;refine(none_any _).mono ?_;rintro e w2 ⟨rfl,hb2⟩;unfold cutV;have hz2:CutAt w2 w.heap.size 0 0 0 0 (.slice none 0 0):=(HZ9.out).fr (Fr.below (F:=[]) hb2) (by simp);have hB2:=HB9.out.trans (hb2.mono HB9.out.size);obtain⟨z0,z1,z2,z3,z4,zf⟩:=hz2.cells;have HZ2:=zH hz2;have HB2:=zH hB2;clear hz2 hB2 hb2;go_wp2_with fail;have hA:=put5_at HZ2.out (.int .i64 (-1)) (.int .i64 0) (.int .u64 0) (.int .i64 0) (.slice none 0 0);have hF:=HB2.out.trans (put5_low w2 w.heap.size (.int .i64 (-1)) (.int .i64 0) (.int .u64 0) (.int .i64 0) (.slice none 0 0) HB2.out.size (Nat.le_refl _));change bodyPost _ _ _ _ _ (put5 w2 w.heap.size (.int .i64 (-1)) (.int .i64 0) (.int .u64 0) (.int .i64 0) (.slice none 0 0));generalize put5 w2 w.heap.size (.int .i64 (-1)) (.int .i64 0) (.int .u64 0) (.int .i64 0) (.slice none 0 0)=Wf at hA hF⊢;obtain⟨r0,r1,r2,r3,r4,-⟩:=CutAt.cells (show CutAt Wf w.heap.size (-1) 0 0 0 (.slice none 0 0)from hA);refine bodyPost_ret (v:=cutV (-1) 0 0 0 (.slice none 0 0)) (by simp[results,Tryz.results121,go_sem,r0,r1,r2,r3,r4,cutV]) rfl ?_;unfold RReadP;rw[HN.out];exact⟨0,0,0,none,0,0,rfl,hF⟩
   |some x=>
    have hran:=rd_range _ _ hq;have hx1:(0:Int)<=(x.fin:Int):=by omega
    have hge:decide ((x.fin:Int)<0)=false:=decide_eq_false (by omega);have hxs:x.fin<=s.size:=hran.hi;have hxd:x.deep<=room:=hran.d2;have HRN:=zH (show kidsL (rd s.data.toList room) (n - (k+1)) x.fin (max dp (x.deep+1)) ((pre++[nx'])++[x.fin])=R by rw[<-hrest,show n - k=(n - (k+1))+1 by omega];exact(kidsL_next hq).symm);rw[hq]at hT;simp only at hT;unfold cutV at hT;have HT1:=zH hT;obtain⟨d1,hd1⟩: ∃d1:Nat,x.deep+1=d1:=⟨_,rfl⟩;have hdw:IntKind.i64.wrap ((x.deep:Int)+1)=(d1:Int):=by rw[IntWalk.i64_in _ (by omega)];omega
    obtain⟨mx,hmx⟩: ∃mx:Nat,max dp d1=mx:=⟨_,rfl⟩;have hmax:max (dp:Int) (d1:Int)=(mx:Int):=by omega
    rw[hd1,hmx]at HRN;have hmx1:mx<=1001:=by omega
    clear hT hrest hz hcut hrow hbel hcells hq hm hran hd1 hmx;go_wp2_with fail;refine HT1.out.mono ?_;rintro e w1 ⟨N,F,Ax,capx,rfl,-,-,-,hb1⟩;have hb2:Below w1.heap.size w1 (w1.alloc (zO9 (x.fin:Int) (x.deep:Int) N F Ax x.kids.length capx)):=(Below.refl _ _).alloc (Nat.le_refl _) _;have hcx:CutAt (w1.alloc (zO9 (x.fin:Int) (x.deep:Int) N F Ax x.kids.length capx)) w1.heap.size x.fin x.deep N F (.slice Ax x.kids.length capx):=Go.heap_alloc_new w1 _;have hc2:=(HCr.out.fr (Fr.below (F:=[]) hb1) (by simp)).fr (Fr.below (F:=[]) hb2) (by simp);have hz2:=(HZr.out.fr (Fr.below (F:=[]) hb1) (by simp)).fr (Fr.below (F:=[]) hb2) (by simp);have hr2:=Row.below (HRr.out.below hb1) hb2;have hB2:=(HBr.out.trans (hb1.mono HBr.out.size)).trans (hb2.mono (Nat.le_trans HBr.out.size hb1.size));have hne:w1.heap.size≠w.heap.size+1+1:=fun e=>by have:=lt_of_block (HCr.out.fr (Fr.below (F:=[]) hb1) (by simp));omega
    have hne2:w.heap.size+1+1≠w1.heap.size:=Ne.symm hne;obtain⟨c0,c1,c2,c3,c4,cf⟩:=hc2.cells;obtain⟨x0,x1,-,-,-,-⟩:=hcx.cells;have HC2:=zH hc2;have HX2:=zH hcx;have HZ2:=zH hz2;have HR2:=zH hr2;have HB2:=zH hB2;clear hc2 hz2 hr2 hB2 hcx hb2 hb1;have hlen:=hksl;have hput:Fr [w.heap.size+1+1] (w1.alloc (zO9 (x.fin:Int) (x.deep:Int) N F Ax x.kids.length capx)) ((w1.alloc (zO9 (x.fin:Int) (x.deep:Int) N F Ax x.kids.length capx)).setCell ⟨w.heap.size+1+1,1,none⟩ (.int .i64 (mx:Int))):=Fr.put0 _ _ 1 _ (by simp);have hz3:CutAt ((w1.alloc (zO9 (x.fin:Int) (x.deep:Int) N F Ax x.kids.length capx)).setCell ⟨w.heap.size+1+1,1,none⟩ (.int .i64 (mx:Int))) w.heap.size 0 0 0 0 (.slice none 0 0):=HZ2.out.fr hput (by simp;omega);have hc3:CutAt ((w1.alloc (zO9 (x.fin:Int) (x.deep:Int) N F Ax x.kids.length capx)).setCell ⟨w.heap.size+1+1,1,none⟩ (.int .i64 (mx:Int))) (w.heap.size+1+1) 0 mx 0 0 (.slice Av (pre++[nx']).length cv):=setCell_cells HC2.out 1 _;have hr3:=row_fr HR2.out hput (fun g hg=>by simpa using row_ne_cut HR2.out (by decide) HC2.out g hg);have hB3:=HB2.out.trans (hput.toBelowOf (B:=w.heap.size) HB2.out.size (fun i hi=>by simp at hi;omega));have HZ3:=zH hz3;have HC3:=zH hc3;have HR3:=zH hr3;have HB3:=zH hB3;rw[hksl]at HC3 HR3;clear hz3 hc3 hr3 hB3 hput hlen;have hsz3:((w1.alloc (.cells #[.int .i64 (x.fin:Int),.int .i64 (x.deep:Int),.int .u64 N,.int .i64 F,.slice Ax x.kids.length capx] 159)).setCell ⟨w.heap.size+1+1,1,none⟩ (.int .i64 (mx:Int))).heap.size=w1.heap.size+1:=by simp
    have hil:(ints (pre++[nx'])).length=k+1:=by rw[<-hksl];simp[ints]
    have hil2:(ints (pre++[nx'])++[Value.int .i64 (x.fin:Int)]).length=k+1+1:=by rw[List.length_append,hil];rfl
    go_wp2_with (
     at_builtin;go_loud (refine wpList_row1 slInt rfl (.tmp 131) (.tmp 133) rfl w.heap.size (.slice Av (k+1) cv) (ints (pre++[nx'])) (by rfl) HR3.out (.int .i64 (x.fin:Int)) (by rw[hsz3];rfl) (by rfl) (by rw[hil];omega) (by rw[hil];omega) HB3.out.size ?_);intro v6 w6 hr6 hg6 hb6 hat6;have hc6:CutAt w6 (w.heap.size+1+1) 0 mx 0 0 (.slice Av (k+1) cv):=grown_keep hg6 HC3.out (fun e=>row_ne_cut HR3.out (by decide) HC3.out _ e.symm rfl);have hz6:CutAt w6 w.heap.size 0 0 0 0 (.slice none 0 0):=grown_keep hg6 HZ3.out (fun e=>row_ne_cut HR3.out (by decide) HZ3.out _ e.symm rfl);have hB6:=HB3.out.trans hb6;obtain⟨A6,c6,rfl,-,-⟩:=Row.shape hr6;rw[hil2]at hr6⊢;obtain⟨e0,e1,e2,e3,e4,ef⟩:=hc6.cells;have HC6:=zH hc6;have HZ6:=zH hz6;have HR6:=zH hr6;have HB6:=zH hB6;clear hc6 hz6 hr6 hB6 hg6 hb6 hat6 c0 c1 c2 c3 c4 cf x0 x1)
    go_roundw
    case rel=>
     have hput:Fr [w.heap.size+1+1] w6 (w6.setCell ⟨w.heap.size+1+1,4,none⟩ (.slice A6 (k+1+1) c6)):=Fr.put0 _ _ 4 _ (by simp);refine⟨k+1,x.fin,mx,pre++[nx'],.slice A6 (k+1+1) c6,by omega,rfl,by go_num,HRN.out,hksl,hxs,hmx1,HZ6.out.fr hput (by simp;omega),setCell_cells HC6.out 4 _, ?_,HB6.out.trans (hput.toBelowOf (B:=w.heap.size) HB6.out.size (fun i hi=>by simp at hi;omega))⟩;have hro:=row_fr HR6.out hput (fun g hg=>by simpa using row_ne_cut HR6.out (by decide) HC6.out g hg);have hie:ints (pre++[nx']++[x.fin])=ints (pre++[nx'])++[Value.int .i64 (x.fin:Int)]:=by simp[ints]
     rw[hie];exact hro
    case measure=>simp[intOf];omega
  ·have hkn:k=n:=by omega
   subst hkn;rw[Nat.sub_self]at hrest;have hRs:R=some (nx',dp,pre++[nx']):=by rw[<-hrest];rfl
   obtain⟨-,-,-,-,-,kf,kf1,kf2⟩:=HKF.out ⟨nx',dp,0,0,pre++[nx']⟩ (by rw[hRs];rfl);have HRD2:=zH (show rd s.data.toList (room+1) at_=if fitsB s.data.toList c (pre++[nx'])then some ⟨nx',dp,0,0,pre++[nx']⟩else none by rw[HRD.out,hRs];rfl);have hput:Fr [w.heap.size+1+1] wr (wr.setCell ⟨w.heap.size+1+1,0,none⟩ (.int .i64 (nx':Int))):=Fr.put0 _ _ 0 _ (by simp);have hcs:CutAt (wr.setCell ⟨w.heap.size+1+1,0,none⟩ (.int .i64 (nx':Int))) (w.heap.size+1+1) nx' dp 0 0 (.slice Av (pre++[nx']).length cv):=setCell_cells hcut 0 _;have hzs:=hz.fr hput (by simp;omega);have hrs:=row_fr hrow hput (fun g hg=>by simpa using row_ne_cut hrow (by decide) hcut g hg);have hBs:=hbel.trans (hput.toBelowOf (B:=w.heap.size) hbel.size (fun i hi=>by simp at hi;omega));have HFI:=zH (rfits_any s c at_ (pre++[nx']) nx' dp 0 0 Av cv (wr.setCell ⟨w.heap.size+1+1,0,none⟩ (.int .i64 (nx':Int))) HBC.out hat hs (by rw[hksl];omega) (row_cells hrs) (fun i hi=>kf i (by show i<(pre++[nx']).length - 1;omega)) (fun h=>by have:=kf1 h;show 2<=(pre++[nx']).length;have h2:1<=(pre++[nx']).length - 1:=this;omega) (fun h=>by have:=kf2 h;show 3<=(pre++[nx']).length;have h2:2<=(pre++[nx']).length - 1:=this;omega));unfold cutV at HFI;have HCS:=zH hcs;have HZS:=zH hzs;have HRS:=zH hrs;have HBS:=zH hBs;rw[hksl]at HCS HRS HFI;obtain⟨c0,c1,c2,c3,c4,cf⟩:=hcut.cells;clear hput hcs hzs hrs hBs hrest hRs kf kf1 kf2 hz hcut hrow hbel hcells;go_wp2_with fail;refine HFI.out.mono ?_;rintro e w1 ⟨rfl,hb1⟩;have hc1:=HCS.out.fr (Fr.below (F:=[]) hb1) (by simp);have hz1:=HZS.out.fr (Fr.below (F:=[]) hb1) (by simp);have hr1:=HRS.out.below hb1;have hB1:=HBS.out.trans (hb1.mono HBS.out.size);clear c0 c1 c2 c3 c4 cf;obtain⟨c0,c1,c2,c3,c4,cf⟩:=hc1.cells;obtain⟨y0,y1,y2,y3,y4,yf⟩:=hz1.cells;have HZ9:=zH hz1;have HB9:=zH hB1;have HR9:=zH hr1;clear hc1 hz1 hr1 hB1 hb1;cases hfb:fitsB s.data.toList c (pre++[nx'])with
   |false=>
    have HN:=zH (show rd s.data.toList (room+1) at_=none by rw[HRD2.out,hfb];rfl);clear hfb y0 y1 y2 y3 y4 yf;go_wp2_with fail;refine(none_any _).mono ?_;rintro e w2 ⟨rfl,hb2⟩;unfold cutV;have hz2:CutAt w2 w.heap.size 0 0 0 0 (.slice none 0 0):=(HZ9.out).fr (Fr.below (F:=[]) hb2) (by simp);have hB2:=HB9.out.trans (hb2.mono HB9.out.size);obtain⟨z0,z1,z2,z3,z4,zf⟩:=hz2.cells;have HZ2:=zH hz2;have HB2:=zH hB2;clear hz2 hB2 hb2;go_wp2_with fail;have hA:=put5_at HZ2.out (.int .i64 (-1)) (.int .i64 0) (.int .u64 0) (.int .i64 0) (.slice none 0 0);have hF:=HB2.out.trans (put5_low w2 w.heap.size (.int .i64 (-1)) (.int .i64 0) (.int .u64 0) (.int .i64 0) (.slice none 0 0) HB2.out.size (Nat.le_refl _));change bodyPost _ _ _ _ _ (put5 w2 w.heap.size (.int .i64 (-1)) (.int .i64 0) (.int .u64 0) (.int .i64 0) (.slice none 0 0));generalize put5 w2 w.heap.size (.int .i64 (-1)) (.int .i64 0) (.int .u64 0) (.int .i64 0) (.slice none 0 0)=Wf at hA hF⊢;obtain⟨r0,r1,r2,r3,r4,-⟩:=CutAt.cells (show CutAt Wf w.heap.size (-1) 0 0 0 (.slice none 0 0)from hA);refine bodyPost_ret (v:=cutV (-1) 0 0 0 (.slice none 0 0)) (by simp[results,Tryz.results121,go_sem,r0,r1,r2,r3,r4,cutV]) rfl ?_;unfold RReadP;rw[HN.out];exact⟨0,0,0,none,0,0,rfl,hF⟩
   |true=>
    have HS:=zH (show rd s.data.toList (room+1) at_=some ⟨nx',dp,0,0,pre++[nx']⟩ by rw[HRD2.out,hfb];rfl);clear hfb;go_wp2_with fail;have hA:=put5_at HZ9.out (.int .i64 (nx':Int)) (.int .i64 (dp:Int)) (.int .u64 0) (.int .i64 0) (.slice Av (k+1) cv);have hF:=HB9.out.trans (put5_low w1 w.heap.size (.int .i64 (nx':Int)) (.int .i64 (dp:Int)) (.int .u64 0) (.int .i64 0) (.slice Av (k+1) cv) HB9.out.size (Nat.le_refl _));have hro:=row_fr HR9.out (put5_fr w1 w.heap.size (.int .i64 (nx':Int)) (.int .i64 (dp:Int)) (.int .u64 0) (.int .i64 0) (.slice Av (k+1) cv) (List.mem_singleton.2 rfl)) (fun g hg=>by simpa using row_ne_cut HR9.out (by decide) HZ9.out g hg);change bodyPost _ _ _ _ _ (put5 w1 w.heap.size (.int .i64 (nx':Int)) (.int .i64 (dp:Int)) (.int .u64 0) (.int .i64 0) (.slice Av (k+1) cv));generalize put5 w1 w.heap.size (.int .i64 (nx':Int)) (.int .i64 (dp:Int)) (.int .u64 0) (.int .i64 0) (.slice Av (k+1) cv)=Wf at hA hF hro⊢;obtain⟨r0,r1,r2,r3,r4,-⟩:=CutAt.cells (show CutAt Wf w.heap.size nx' dp 0 0 (.slice Av (k+1) cv)from hA);refine bodyPost_ret (v:=cutV nx' dp 0 0 (.slice Av (k+1) cv)) (by simp[results,Tryz.results121,go_sem,r0,r1,r2,r3,r4,cutV]) rfl ?_;unfold RReadP;rw[HS.out];exact⟨0,0,Av,cv,by show _=Ending.returned (cutV nx' dp 0 0 (.slice Av (pre++[nx']).length cv));rw[hksl],fun h=>absurd (HBC.out.symm.trans h) H110.out,fun h=>absurd (HBC.out.symm.trans h) H116.out,row_cells hro,hF⟩
set_option maxRecDepth 100000 in
set_option maxHeartbeats 8000000 in
theorem rread_bad (s:ByteArray) (room at_:Nat) (c:UInt8) (w:World) (hat:at_<s.size) (hs:s.size<=1000000) (hbc:byte s.data.toList at_=c) (h110:c≠110) (h116:c≠116) (h84:c≠84) (har:arity c=none):
 Calls Tryz.prog 121 #[.string s,.int .i64 at_,.int .i64 ((room+1:Nat):Int)] w (RReadP s (room+1) at_ w):=by
 have hc:s.data.toList[at_]? =some c:=by rw[<-hbc];unfold byte;rw[List.getD_eq_getElem?_getD,List.getElem?_eq_getElem (show at_<s.data.toList.length from hat)];rfl
 have hrd:=rd_rdF (room:=room) hc;have hrf:rdF s.data.toList room at_ c=none:=by
  unfold rdF head;rw[if_neg h110,if_neg h116,if_neg h84,har];rfl
 rw[hrf]at hrd;have HN:=zH (show rd s.data.toList (room+1) at_=none from hrd);have hpa:=fun W=>parts_any c _ rfl W
 rw[show arityV c= -1 by unfold arityV;rw[har]]at hpa;have hix:=fun W=>index_at hat W
 rw[hbc]at hix;obtain⟨ci,hci⟩: ∃ci:Int,(c.toNat:Int)=ci:=⟨_,rfl⟩;simp only[hci]at hix hpa;have g110:(ci==110)=false:=beq_false_of_ne fun h=>h110 ((opb hci 110).2 h)
 have g116:(ci==116)=false:=beq_false_of_ne fun h=>h116 ((opb hci 116).2 h)
 have g84:(ci==84)=false:=beq_false_of_ne fun h=>h84 ((opb hci 84).2 h)
 have HPA:=zH hpa;have HZ9:=zH (show CutAt (w.alloc (zO9 0 0 0 0 none 0 0)) w.heap.size 0 0 0 0 (.slice none 0 0)from Go.heap_alloc_new w _);have HB9:=zH (show Below w.heap.size w (w.alloc (zO9 0 0 0 0 none 0 0))from(Below.refl _ _).alloc (Nat.le_refl _) _);have g1:decide ((s.size:Int)<=(at_:Int))=false:=decide_eq_false (by omega);have g2:(((room+1:Nat):Int)==0)=false:=beq_false_of_ne (by omega);obtain⟨rm,hrm⟩: ∃rm:Int,((room+1:Nat):Int)=rm:=⟨_,rfl⟩;rw[hrm]at g2⊢;clear hpa hrd hbc hrf hc hrm har hci h110 h116 h84;go_enter Tryz.func121,Tryz.ntmps121;go_wp2_with fail;refine(HPA.out _).mono ?_;rintro e w1 ⟨rfl,rfl⟩;go_wp2_with fail;refine(none_any _).mono ?_;rintro e w2 ⟨rfl,hb2⟩;unfold cutV;have hz2:CutAt w2 w.heap.size 0 0 0 0 (.slice none 0 0):=(HZ9.out).fr (Fr.below (F:=[]) hb2) (by simp);have hB2:=HB9.out.trans (hb2.mono HB9.out.size);obtain⟨z0,z1,z2,z3,z4,zf⟩:=hz2.cells;have HZ2:=zH hz2;have HB2:=zH hB2;clear hz2 hB2 hb2;go_wp2_with fail;have hA:=put5_at HZ2.out (.int .i64 (-1)) (.int .i64 0) (.int .u64 0) (.int .i64 0) (.slice none 0 0);have hF:=HB2.out.trans (put5_low w2 w.heap.size (.int .i64 (-1)) (.int .i64 0) (.int .u64 0) (.int .i64 0) (.slice none 0 0) HB2.out.size (Nat.le_refl _));change bodyPost _ _ _ _ _ (put5 w2 w.heap.size (.int .i64 (-1)) (.int .i64 0) (.int .u64 0) (.int .i64 0) (.slice none 0 0));generalize put5 w2 w.heap.size (.int .i64 (-1)) (.int .i64 0) (.int .u64 0) (.int .i64 0) (.slice none 0 0)=Wf at hA hF⊢;obtain⟨r0,r1,r2,r3,r4,-⟩:=CutAt.cells (show CutAt Wf w.heap.size (-1) 0 0 0 (.slice none 0 0)from hA);refine bodyPost_ret (v:=cutV (-1) 0 0 0 (.slice none 0 0)) (by simp[results,Tryz.results121,go_sem,r0,r1,r2,r3,r4,cutV]) rfl ?_;unfold RReadP;rw[HN.out];exact⟨0,0,0,none,0,0,rfl,hF⟩
set_option maxRecDepth 100000 in
set_option maxHeartbeats 8000000 in
theorem rread_tuple (s:ByteArray) (room at_:Nat) (w:World) (hs:s.size<=1000000) (hat:at_<s.size) (hroom:room<=1000) (hbc:byte s.data.toList at_=84)
 (HT: ∀(at_:Nat) (w:World),at_<=s.size->Calls Tryz.prog 121 #[.string s,.int .i64 at_,.int .i64 room] w (RReadP s room at_ w)):
 Calls Tryz.prog 121 #[.string s,.int .i64 at_,.int .i64 ((room+1:Nat):Int)] w (RReadP s (room+1) at_ w):=by
 have hc:s.data.toList[at_]? =some 84:=by rw[<-hbc];unfold byte;rw[List.getD_eq_getElem?_getD,List.getElem?_eq_getElem (show at_<s.data.toList.length from hat)];rfl
 have hrd:=rd_rdF (room:=room) hc;have hkf:=fun x (h:rdF s.data.toList room at_ 84=some x)=>rdF_kids h (show at_<s.data.toList.length from hat)
 have hrf:rdF s.data.toList room at_ 84=match(match numL 58 (s.data.toList.drop (at_+1))with|none=>none|some (v,k)=>if v<=32 then some (v,at_+1+k+1)else none)with|none=>none|some (n,nx)=>cutOf (kidsL (rd s.data.toList room) n nx 1 [nx]):=by
  unfold rdF head;rw[if_neg (by decide),if_neg (by decide),if_pos rfl];rfl
 have hNM:=zH (fun W=>rnum_any s (at_+1) 58 58 rfl W (by omega) hs rfl);have hsome:=fun v k=>numL_some (c:=58) (l:=s.data.toList.drop (at_+1)) (v:=v) (k:=k)
 have hlen:(s.data.toList.drop (at_+1)).length=s.size - (at_+1):=by rw[List.length_drop];rfl
 rw[hlen]at hsome;obtain⟨NL,hNL⟩: ∃NL,numL 58 (s.data.toList.drop (at_+1))=NL:=⟨_,rfl⟩;rw[hNL]at hrf hNM;simp only[hNL]at hsome;obtain⟨a1,ha1⟩: ∃a1,at_+1=a1:=⟨_,rfl⟩;rw[ha1]at hNM hrf hsome;have hw1:IntKind.i64.wrap ((at_:Int)+1)=(a1:Int):=by rw[IntWalk.i64_in _ (by omega)];omega
 have hw2:IntKind.i64.wrap (((room+1:Nat):Int) - 1)=(room:Int):=by rw[IntWalk.i64_in _ (by omega)];omega
 have hpa:=fun W=>parts_any 84 _ rfl W
 rw[show arityV 84= -1 from rfl]at hpa;have hix:=fun W=>index_at hat W
 rw[hbc]at hix;have HPA:=zH hpa;have HTT:=zH HT;have g1:decide ((s.size:Int)<=(at_:Int))=false:=decide_eq_false (by omega);have g2:(((room+1:Nat):Int)==0)=false:=beq_false_of_ne (by omega);obtain⟨rm,hrm⟩: ∃rm:Int,((room+1:Nat):Int)=rm:=⟨_,rfl⟩;rw[hrm]at g2 hw2⊢;clear hpa HT hc hrm hNL hlen;have HZ9:=zH (show CutAt (w.alloc (zO9 0 0 0 0 none 0 0)) w.heap.size 0 0 0 0 (.slice none 0 0)from Go.heap_alloc_new w _);have HB9:=zH (show Below w.heap.size w (w.alloc (zO9 0 0 0 0 none 0 0))from(Below.refl _ _).alloc (Nat.le_refl _) _);cases NL with
 |none=>
  have HN:=zH (show rd s.data.toList (room+1) at_=none by rw[hrd,hrf]);clear hrd hrf hkf hsome hbc;go_enter Tryz.func121,Tryz.ntmps121;go_wp2_with fail;refine(HPA.out _).mono ?_;rintro e w1 ⟨rfl,rfl⟩;go_wp2_with fail;refine(hNM.out _).mono ?_;rintro e w1 ⟨rfl,rfl⟩;unfold rnumV;go_wp2_with fail;refine(none_any _).mono ?_;rintro e w2 ⟨rfl,hb2⟩;unfold cutV;have hz2:CutAt w2 w.heap.size 0 0 0 0 (.slice none 0 0):=(HZ9.out).fr (Fr.below (F:=[]) hb2) (by simp);have hB2:=HB9.out.trans (hb2.mono HB9.out.size);obtain⟨z0,z1,z2,z3,z4,zf⟩:=hz2.cells;have HZ2:=zH hz2;have HB2:=zH hB2;clear hz2 hB2 hb2;go_wp2_with fail;have hA:=put5_at HZ2.out (.int .i64 (-1)) (.int .i64 0) (.int .u64 0) (.int .i64 0) (.slice none 0 0);have hF:=HB2.out.trans (put5_low w2 w.heap.size (.int .i64 (-1)) (.int .i64 0) (.int .u64 0) (.int .i64 0) (.slice none 0 0) HB2.out.size (Nat.le_refl _));change bodyPost _ _ _ _ _ (put5 w2 w.heap.size (.int .i64 (-1)) (.int .i64 0) (.int .u64 0) (.int .i64 0) (.slice none 0 0));generalize put5 w2 w.heap.size (.int .i64 (-1)) (.int .i64 0) (.int .u64 0) (.int .i64 0) (.slice none 0 0)=Wf at hA hF⊢;obtain⟨r0,r1,r2,r3,r4,-⟩:=CutAt.cells (show CutAt Wf w.heap.size (-1) 0 0 0 (.slice none 0 0)from hA);refine bodyPost_ret (v:=cutV (-1) 0 0 0 (.slice none 0 0)) (by simp[results,Tryz.results121,go_sem,r0,r1,r2,r3,r4,cutV]) rfl ?_;unfold RReadP;rw[HN.out];exact⟨0,0,0,none,0,0,rfl,hF⟩
 |some y=>
  obtain⟨n,k⟩:=y;obtain⟨hv,hk1,hk2⟩:=hsome n k rfl;obtain⟨nx,hnxe⟩: ∃nx,a1+k+1=nx:=⟨_,rfl⟩;have hnx:nx<=s.size:=by omega
  have hNM2: ∀W,Calls Tryz.prog 128 #[.string s,.int .i64 (a1:Int),.int .u8 58] W fun e w'=>e= .returned (.tuple #[.int .u64 (n:Int),.int .i64 (nx:Int)])/\w'=W:=by
   rw[<-hnxe];exact hNM.out
  have HNM:=zH hNM2;have gx:decide ((nx:Int)<0)=false:=decide_eq_false (by omega);clear hNM hNM2 hsome;by_cases h32:32<n
  ·have HN:=zH (show rd s.data.toList (room+1) at_=none by rw[hrd,hrf];simp only;rw[if_neg (by omega)]);have g32:decide ((32:Int)<(n:Int))=true:=decide_eq_true (by omega);clear hrd hrf hkf hbc hk2 hnxe;go_enter Tryz.func121,Tryz.ntmps121;go_wp2_with fail;refine(HPA.out _).mono ?_;rintro e w1 ⟨rfl,rfl⟩;go_wp2_with fail;refine(HNM.out _).mono ?_;rintro e w1 ⟨rfl,rfl⟩;go_wp2_with fail;refine(none_any _).mono ?_;rintro e w2 ⟨rfl,hb2⟩;unfold cutV;have hz2:CutAt w2 w.heap.size 0 0 0 0 (.slice none 0 0):=(HZ9.out).fr (Fr.below (F:=[]) hb2) (by simp);have hB2:=HB9.out.trans (hb2.mono HB9.out.size);obtain⟨z0,z1,z2,z3,z4,zf⟩:=hz2.cells;have HZ2:=zH hz2;have HB2:=zH hB2;clear hz2 hB2 hb2;go_wp2_with fail;have hA:=put5_at HZ2.out (.int .i64 (-1)) (.int .i64 0) (.int .u64 0) (.int .i64 0) (.slice none 0 0);have hF:=HB2.out.trans (put5_low w2 w.heap.size (.int .i64 (-1)) (.int .i64 0) (.int .u64 0) (.int .i64 0) (.slice none 0 0) HB2.out.size (Nat.le_refl _));change bodyPost _ _ _ _ _ (put5 w2 w.heap.size (.int .i64 (-1)) (.int .i64 0) (.int .u64 0) (.int .i64 0) (.slice none 0 0));generalize put5 w2 w.heap.size (.int .i64 (-1)) (.int .i64 0) (.int .u64 0) (.int .i64 0) (.slice none 0 0)=Wf at hA hF⊢;obtain⟨r0,r1,r2,r3,r4,-⟩:=CutAt.cells (show CutAt Wf w.heap.size (-1) 0 0 0 (.slice none 0 0)from hA);refine bodyPost_ret (v:=cutV (-1) 0 0 0 (.slice none 0 0)) (by simp[results,Tryz.results121,go_sem,r0,r1,r2,r3,r4,cutV]) rfl ?_;unfold RReadP;rw[HN.out];exact⟨0,0,0,none,0,0,rfl,hF⟩
  ·have g32:decide ((32:Int)<(n:Int))=false:=decide_eq_false (by omega);have g3:decide ((n:Int)<0)=false:=decide_eq_false (by omega);simp only at hrf;rw[if_pos (by omega),show a1+k+1=nx from hnxe]at hrf;simp only at hrf;obtain⟨R,hR⟩: ∃R,kidsL (rd s.data.toList room) n nx 1 [nx]=R:=⟨_,rfl⟩;rw[hR]at hrf;rw[hrf]at hrd;simp only[hrf]at hkf;obtain⟨c,hc84⟩: ∃c:UInt8,c=84:=⟨_,rfl⟩;rw[<-hc84]at hrd hkf hbc;have H110:=zH (show c≠110 by rw[hc84];decide);have H116:=zH (show c≠116 by rw[hc84];decide);have hn32:n<=32:=by omega
   have HRD:=zH hrd;have HKF:=zH hkf;have HRR:=zH hR;have HBC:=zH hbc;clear hrd hkf hR hbc hrf hnxe hc84 hk2 HZ9 HB9;go_enter Tryz.func121,Tryz.ntmps121;go_wp2_with fail;refine(HPA.out _).mono ?_;rintro e w1 ⟨rfl,rfl⟩;go_wp2_with fail;refine(HNM.out _).mono ?_;rintro e w1 ⟨rfl,rfl⟩;go_wp2_with fail;have HZ0:=zH (show CutAt (((w.alloc (zO9 0 0 0 0 none 0 0)).alloc (zO16 (nx:Int))).alloc (zO9 0 1 0 0 (some ⟨w.heap.size+1,0,none⟩) 1 1)) w.heap.size 0 0 0 0 (.slice none 0 0)from CutAt.fr (CutAt.fr (show CutAt (w.alloc (zO9 0 0 0 0 none 0 0)) w.heap.size 0 0 0 0 (.slice none 0 0)from Go.heap_alloc_new w _) (Fr.below (F:=[]) ((Below.refl _ _).alloc (Nat.le_refl _) _)) (by simp)) (Fr.below (F:=[]) ((Below.refl _ _).alloc (Nat.le_refl _) _)) (by simp));have HC0:=zH (show CutAt (((w.alloc (zO9 0 0 0 0 none 0 0)).alloc (zO16 (nx:Int))).alloc (zO9 0 1 0 0 (some ⟨w.heap.size+1,0,none⟩) 1 1)) (w.heap.size+1+1) 0 1 0 0 (.slice (some ⟨w.heap.size+1,0,none⟩) 1 1)from by
    have h:=Go.heap_alloc_new ((w.alloc (zO9 0 0 0 0 none 0 0)).alloc (zO16 (nx:Int))) (zO9 0 1 0 0 (some ⟨w.heap.size+1,0,none⟩) 1 1);rw[show((w.alloc (zO9 0 0 0 0 none 0 0)).alloc (zO16 (nx:Int))).heap.size=w.heap.size+1+1 by simp]at h;exact h)
   have HB0:=zH (show Below w.heap.size w (((w.alloc (zO9 0 0 0 0 none 0 0)).alloc (zO16 (nx:Int))).alloc (zO9 0 1 0 0 (some ⟨w.heap.size+1,0,none⟩) 1 1))from(((Below.refl _ _).alloc (Nat.le_refl _) _).alloc (by simp) _).alloc (by simp;omega) _);have HR0:=zH (show Row (((w.alloc (zO9 0 0 0 0 none 0 0)).alloc (zO16 (nx:Int))).alloc (zO9 0 1 0 0 (some ⟨w.heap.size+1,0,none⟩) 1 1)) w.heap.size 3 (.slice (some ⟨w.heap.size+1,0,none⟩) 1 1) (ints [nx])from by
    have h:=Go.heap_alloc_new (w.alloc (zO9 0 0 0 0 none 0 0)) (zO16 (nx:Int));rw[show(w.alloc (zO9 0 0 0 0 none 0 0)).heap.size=w.heap.size+1 by simp]at h;have h2:Row ((w.alloc (zO9 0 0 0 0 none 0 0)).alloc (zO16 (nx:Int))) w.heap.size 3 (.slice (some ⟨w.heap.size+1,0,none⟩) 1 1) (ints [nx]):=Or.inr ⟨w.heap.size+1,0,1,#[.int .i64 (nx:Int)],(0,0),rfl,by omega,h,Free.none _,Nat.le_refl _,by decide,by simp,rfl⟩;exact h2.alloc _)
   go_loopw [12,16] (fun p i wr=> ∃(k nx' dp:Nat) (pre:List Nat) (v:Value),k<=n/\p= .int .i64 (nx':Int)/\i= .int .i64 (k:Int)/\kidsL (rd s.data.toList room) (n - k) nx' dp (pre++[nx'])=R/\pre.length=k/\nx'<=s.size/\dp<=1001/\CutAt wr w.heap.size 0 0 0 0 (.slice none 0 0)/\CutAt wr (w.heap.size+1+1) 0 dp 0 0 v/\Row wr w.heap.size 3 v (ints (pre++[nx']))/\Below w.heap.size w wr) (fun _ i _=>n - (intOf i).toNat)
   case atStart=>exact⟨0,nx,1,[],_,Nat.zero_le _,rfl,rfl,HRR.out,rfl,hnx,by omega,HZ0.out,HC0.out,HR0.out,HB0.out⟩
   case round=>
    obtain⟨k,nx',dp,pre,v,hk,rfl,rfl,hrest,hpre,hnx',hdp,hz,hcut,hrow,hbel⟩:=hrel;clear HZ0 HC0 HR0 HB0;have hksl:(pre++[nx']).length=k+1:=by rw[List.length_append,hpre];rfl
    obtain⟨Av,cv,hv,hcv,hcells⟩:=Row.shape hrow;rw[show(ints (pre++[nx'])).length=(pre++[nx']).length by simp[ints]]at hv hcv;subst hv;have HZr:=zH hz;have HCr:=zH hcut;have HRr:=zH hrow;have HBr:=zH hbel;have HCells:=zH hcells;by_cases hlt:k<n
    ·have hT:=HTT.out nx' wr hnx';obtain⟨m,hm⟩: ∃m,n - k=m+1:=⟨n - k - 1,by omega⟩;unfold RReadP at hT;cases hq:rd s.data.toList room nx' with
     |none=>
      have hRn:R=none:=by rw[<-hrest,hm];exact kidsL_stop hq
      have HN:=zH (show rd s.data.toList (room+1) at_=none by rw[HRD.out,hRn];rfl);rw[hq]at hT;simp only at hT;unfold cutV at hT;have HT1:=zH hT;clear hT hrest hz hcut hrow hbel hcells hq hm;go_wp2_with fail;refine HT1.out.mono ?_;rintro e w1 ⟨d',n',f',A',l',c',rfl,hb1⟩;have HZ9:=zH (show CutAt (w1.alloc (zO9 (-1) d' n' f' A' l' c')) w.heap.size 0 0 0 0 (.slice none 0 0)from(HZr.out.fr (Fr.below (F:=[]) hb1) (by simp)).fr (Fr.below (F:=[]) ((Below.refl _ _).alloc (Nat.le_refl _) _)) (by simp));have HB9:=zH (show Below w.heap.size w (w1.alloc (zO9 (-1) d' n' f' A' l' c'))from(HBr.out.trans (hb1.mono HBr.out.size)).alloc (Nat.le_trans HBr.out.size hb1.size) _);clear hb1;go_wp2_with fail;refine(none_any _).mono ?_;rintro e w2 ⟨rfl,hb2⟩;unfold cutV;have hz2:CutAt w2 w.heap.size 0 0 0 0 (.slice none 0 0):=(HZ9.out).fr (Fr.below (F:=[]) hb2) (by simp);have hB2:=HB9.out.trans (hb2.mono HB9.out.size);obtain⟨z0,z1,z2,z3,z4,zf⟩:=hz2.cells;have HZ2:=zH hz2;have HB2:=zH hB2;clear hz2 hB2 hb2;go_wp2_with fail;have hA:=put5_at HZ2.out (.int .i64 (-1)) (.int .i64 0) (.int .u64 0) (.int .i64 0) (.slice none 0 0);have hF:=HB2.out.trans (put5_low w2 w.heap.size (.int .i64 (-1)) (.int .i64 0) (.int .u64 0) (.int .i64 0) (.slice none 0 0) HB2.out.size (Nat.le_refl _));change bodyPost _ _ _ _ _ (put5 w2 w.heap.size (.int .i64 (-1)) (.int .i64 0) (.int .u64 0) (.int .i64 0) (.slice none 0 0));generalize put5 w2 w.heap.size (.int .i64 (-1)) (.int .i64 0) (.int .u64 0) (.int .i64 0) (.slice none 0 0)=Wf at hA hF⊢;obtain⟨r0,r1,r2,r3,r4,-⟩:=CutAt.cells (show CutAt Wf w.heap.size (-1) 0 0 0 (.slice none 0 0)from hA);refine bodyPost_ret (v:=cutV (-1) 0 0 0 (.slice none 0 0)) (by simp[results,Tryz.results121,go_sem,r0,r1,r2,r3,r4,cutV]) rfl ?_;unfold RReadP;rw[HN.out];exact⟨0,0,0,none,0,0,rfl,hF⟩
     |some x=>
      have hran:=rd_range _ _ hq;have hx1:(0:Int)<=(x.fin:Int):=by omega
      have hge:decide ((x.fin:Int)<0)=false:=decide_eq_false (by omega);have hxs:x.fin<=s.size:=hran.hi;have hxd:x.deep<=room:=hran.d2;have HRN:=zH (show kidsL (rd s.data.toList room) (n - (k+1)) x.fin (max dp (x.deep+1)) ((pre++[nx'])++[x.fin])=R by rw[<-hrest,show n - k=(n - (k+1))+1 by omega];exact(kidsL_next hq).symm);rw[hq]at hT;simp only at hT;unfold cutV at hT;have HT1:=zH hT;obtain⟨d1,hd1⟩: ∃d1:Nat,x.deep+1=d1:=⟨_,rfl⟩;have hdw:IntKind.i64.wrap ((x.deep:Int)+1)=(d1:Int):=by rw[IntWalk.i64_in _ (by omega)];omega
      obtain⟨mx,hmx⟩: ∃mx:Nat,max dp d1=mx:=⟨_,rfl⟩;have hmax:max (dp:Int) (d1:Int)=(mx:Int):=by omega
      rw[hd1,hmx]at HRN;have hmx1:mx<=1001:=by omega
      clear hT hrest hz hcut hrow hbel hcells hq hm hran hd1 hmx;go_wp2_with fail;refine HT1.out.mono ?_;rintro e w1 ⟨N,F,Ax,capx,rfl,-,-,-,hb1⟩;have hb2:Below w1.heap.size w1 (w1.alloc (zO9 (x.fin:Int) (x.deep:Int) N F Ax x.kids.length capx)):=(Below.refl _ _).alloc (Nat.le_refl _) _;have hcx:CutAt (w1.alloc (zO9 (x.fin:Int) (x.deep:Int) N F Ax x.kids.length capx)) w1.heap.size x.fin x.deep N F (.slice Ax x.kids.length capx):=Go.heap_alloc_new w1 _;have hc2:=(HCr.out.fr (Fr.below (F:=[]) hb1) (by simp)).fr (Fr.below (F:=[]) hb2) (by simp);have hz2:=(HZr.out.fr (Fr.below (F:=[]) hb1) (by simp)).fr (Fr.below (F:=[]) hb2) (by simp);have hr2:=Row.below (HRr.out.below hb1) hb2;have hB2:=(HBr.out.trans (hb1.mono HBr.out.size)).trans (hb2.mono (Nat.le_trans HBr.out.size hb1.size));have hne:w1.heap.size≠w.heap.size+1+1:=fun e=>by have:=lt_of_block (HCr.out.fr (Fr.below (F:=[]) hb1) (by simp));omega
      have hne2:w.heap.size+1+1≠w1.heap.size:=Ne.symm hne;obtain⟨c0,c1,c2,c3,c4,cf⟩:=hc2.cells;obtain⟨x0,x1,-,-,-,-⟩:=hcx.cells;have HC2:=zH hc2;have HX2:=zH hcx;have HZ2:=zH hz2;have HR2:=zH hr2;have HB2:=zH hB2;clear hc2 hz2 hr2 hB2 hcx hb2 hb1;have hlen:=hksl;have hput:Fr [w.heap.size+1+1] (w1.alloc (zO9 (x.fin:Int) (x.deep:Int) N F Ax x.kids.length capx)) ((w1.alloc (zO9 (x.fin:Int) (x.deep:Int) N F Ax x.kids.length capx)).setCell ⟨w.heap.size+1+1,1,none⟩ (.int .i64 (mx:Int))):=Fr.put0 _ _ 1 _ (by simp);have hz3:CutAt ((w1.alloc (zO9 (x.fin:Int) (x.deep:Int) N F Ax x.kids.length capx)).setCell ⟨w.heap.size+1+1,1,none⟩ (.int .i64 (mx:Int))) w.heap.size 0 0 0 0 (.slice none 0 0):=HZ2.out.fr hput (by simp;omega);have hc3:CutAt ((w1.alloc (zO9 (x.fin:Int) (x.deep:Int) N F Ax x.kids.length capx)).setCell ⟨w.heap.size+1+1,1,none⟩ (.int .i64 (mx:Int))) (w.heap.size+1+1) 0 mx 0 0 (.slice Av (pre++[nx']).length cv):=setCell_cells HC2.out 1 _;have hr3:=row_fr HR2.out hput (fun g hg=>by simpa using row_ne_cut HR2.out (by decide) HC2.out g hg);have hB3:=HB2.out.trans (hput.toBelowOf (B:=w.heap.size) HB2.out.size (fun i hi=>by simp at hi;omega));have HZ3:=zH hz3;have HC3:=zH hc3;have HR3:=zH hr3;have HB3:=zH hB3;rw[hksl]at HC3 HR3;clear hz3 hc3 hr3 hB3 hput hlen;have hsz3:((w1.alloc (.cells #[.int .i64 (x.fin:Int),.int .i64 (x.deep:Int),.int .u64 N,.int .i64 F,.slice Ax x.kids.length capx] 159)).setCell ⟨w.heap.size+1+1,1,none⟩ (.int .i64 (mx:Int))).heap.size=w1.heap.size+1:=by simp
      have hil:(ints (pre++[nx'])).length=k+1:=by rw[<-hksl];simp[ints]
      have hil2:(ints (pre++[nx'])++[Value.int .i64 (x.fin:Int)]).length=k+1+1:=by rw[List.length_append,hil];rfl
      go_wp2_with (
       at_builtin;go_loud (refine wpList_row1 slInt rfl (.tmp 131) (.tmp 133) rfl w.heap.size (.slice Av (k+1) cv) (ints (pre++[nx'])) (by rfl) HR3.out (.int .i64 (x.fin:Int)) (by rw[hsz3];rfl) (by rfl) (by rw[hil];omega) (by rw[hil];omega) HB3.out.size ?_);intro v6 w6 hr6 hg6 hb6 hat6;have hc6:CutAt w6 (w.heap.size+1+1) 0 mx 0 0 (.slice Av (k+1) cv):=grown_keep hg6 HC3.out (fun e=>row_ne_cut HR3.out (by decide) HC3.out _ e.symm rfl);have hz6:CutAt w6 w.heap.size 0 0 0 0 (.slice none 0 0):=grown_keep hg6 HZ3.out (fun e=>row_ne_cut HR3.out (by decide) HZ3.out _ e.symm rfl);have hB6:=HB3.out.trans hb6;obtain⟨A6,c6,rfl,-,-⟩:=Row.shape hr6;rw[hil2]at hr6⊢;obtain⟨e0,e1,e2,e3,e4,ef⟩:=hc6.cells;have HC6:=zH hc6;have HZ6:=zH hz6;have HR6:=zH hr6;have HB6:=zH hB6;clear hc6 hz6 hr6 hB6 hg6 hb6 hat6 c0 c1 c2 c3 c4 cf x0 x1)
      go_roundw
      case rel=>
       have hput:Fr [w.heap.size+1+1] w6 (w6.setCell ⟨w.heap.size+1+1,4,none⟩ (.slice A6 (k+1+1) c6)):=Fr.put0 _ _ 4 _ (by simp);refine⟨k+1,x.fin,mx,pre++[nx'],.slice A6 (k+1+1) c6,by omega,rfl,by go_num,HRN.out,hksl,hxs,hmx1,HZ6.out.fr hput (by simp;omega),setCell_cells HC6.out 4 _, ?_,HB6.out.trans (hput.toBelowOf (B:=w.heap.size) HB6.out.size (fun i hi=>by simp at hi;omega))⟩;have hro:=row_fr HR6.out hput (fun g hg=>by simpa using row_ne_cut HR6.out (by decide) HC6.out g hg);have hie:ints (pre++[nx']++[x.fin])=ints (pre++[nx'])++[Value.int .i64 (x.fin:Int)]:=by simp[ints]
       rw[hie];exact hro
      case measure=>simp[intOf];omega
    ·have hkn:k=n:=by omega
     subst hkn;rw[Nat.sub_self]at hrest;have hRs:R=some (nx',dp,pre++[nx']):=by rw[<-hrest];rfl
     obtain⟨-,-,-,-,-,kf,kf1,kf2⟩:=HKF.out ⟨nx',dp,0,0,pre++[nx']⟩ (by rw[hRs];rfl);have HRD2:=zH (show rd s.data.toList (room+1) at_=if fitsB s.data.toList c (pre++[nx'])then some ⟨nx',dp,0,0,pre++[nx']⟩else none by rw[HRD.out,hRs];rfl);have hput:Fr [w.heap.size+1+1] wr (wr.setCell ⟨w.heap.size+1+1,0,none⟩ (.int .i64 (nx':Int))):=Fr.put0 _ _ 0 _ (by simp);have hcs:CutAt (wr.setCell ⟨w.heap.size+1+1,0,none⟩ (.int .i64 (nx':Int))) (w.heap.size+1+1) nx' dp 0 0 (.slice Av (pre++[nx']).length cv):=setCell_cells hcut 0 _;have hzs:=hz.fr hput (by simp;omega);have hrs:=row_fr hrow hput (fun g hg=>by simpa using row_ne_cut hrow (by decide) hcut g hg);have hBs:=hbel.trans (hput.toBelowOf (B:=w.heap.size) hbel.size (fun i hi=>by simp at hi;omega));have HFI:=zH (rfits_any s c at_ (pre++[nx']) nx' dp 0 0 Av cv (wr.setCell ⟨w.heap.size+1+1,0,none⟩ (.int .i64 (nx':Int))) HBC.out hat hs (by rw[hksl];omega) (row_cells hrs) (fun i hi=>kf i (by show i<(pre++[nx']).length - 1;omega)) (fun h=>by have:=kf1 h;show 2<=(pre++[nx']).length;have h2:1<=(pre++[nx']).length - 1:=this;omega) (fun h=>by have:=kf2 h;show 3<=(pre++[nx']).length;have h2:2<=(pre++[nx']).length - 1:=this;omega));unfold cutV at HFI;have HCS:=zH hcs;have HZS:=zH hzs;have HRS:=zH hrs;have HBS:=zH hBs;rw[hksl]at HCS HRS HFI;obtain⟨c0,c1,c2,c3,c4,cf⟩:=hcut.cells;clear hput hcs hzs hrs hBs hrest hRs kf kf1 kf2 hz hcut hrow hbel hcells;go_wp2_with fail;refine HFI.out.mono ?_;rintro e w1 ⟨rfl,hb1⟩;have hc1:=HCS.out.fr (Fr.below (F:=[]) hb1) (by simp);have hz1:=HZS.out.fr (Fr.below (F:=[]) hb1) (by simp);have hr1:=HRS.out.below hb1;have hB1:=HBS.out.trans (hb1.mono HBS.out.size);clear c0 c1 c2 c3 c4 cf;obtain⟨c0,c1,c2,c3,c4,cf⟩:=hc1.cells;obtain⟨y0,y1,y2,y3,y4,yf⟩:=hz1.cells;have HZ9:=zH hz1;have HB9:=zH hB1;have HR9:=zH hr1;clear hc1 hz1 hr1 hB1 hb1;cases hfb:fitsB s.data.toList c (pre++[nx'])with
     |false=>
      have HN:=zH (show rd s.data.toList (room+1) at_=none by rw[HRD2.out,hfb];rfl);clear hfb y0 y1 y2 y3 y4 yf;go_wp2_with fail;refine(none_any _).mono ?_;rintro e w2 ⟨rfl,hb2⟩;unfold cutV;have hz2:CutAt w2 w.heap.size 0 0 0 0 (.slice none 0 0):=(HZ9.out).fr (Fr.below (F:=[]) hb2) (by simp);have hB2:=HB9.out.trans (hb2.mono HB9.out.size);obtain⟨z0,z1,z2,z3,z4,zf⟩:=hz2.cells;have HZ2:=zH hz2;have HB2:=zH hB2;clear hz2 hB2 hb2;go_wp2_with fail;have hA:=put5_at HZ2.out (.int .i64 (-1)) (.int .i64 0) (.int .u64 0) (.int .i64 0) (.slice none 0 0);have hF:=HB2.out.trans (put5_low w2 w.heap.size (.int .i64 (-1)) (.int .i64 0) (.int .u64 0) (.int .i64 0) (.slice none 0 0) HB2.out.size (Nat.le_refl _));change bodyPost _ _ _ _ _ (put5 w2 w.heap.size (.int .i64 (-1)) (.int .i64 0) (.int .u64 0) (.int .i64 0) (.slice none 0 0));generalize put5 w2 w.heap.size (.int .i64 (-1)) (.int .i64 0) (.int .u64 0) (.int .i64 0) (.slice none 0 0)=Wf at hA hF⊢;obtain⟨r0,r1,r2,r3,r4,-⟩:=CutAt.cells (show CutAt Wf w.heap.size (-1) 0 0 0 (.slice none 0 0)from hA);refine bodyPost_ret (v:=cutV (-1) 0 0 0 (.slice none 0 0)) (by simp[results,Tryz.results121,go_sem,r0,r1,r2,r3,r4,cutV]) rfl ?_;unfold RReadP;rw[HN.out];exact⟨0,0,0,none,0,0,rfl,hF⟩
     |true=>
      have HS:=zH (show rd s.data.toList (room+1) at_=some ⟨nx',dp,0,0,pre++[nx']⟩ by rw[HRD2.out,hfb];rfl);clear hfb;go_wp2_with fail;have hA:=put5_at HZ9.out (.int .i64 (nx':Int)) (.int .i64 (dp:Int)) (.int .u64 0) (.int .i64 0) (.slice Av (k+1) cv);have hF:=HB9.out.trans (put5_low w1 w.heap.size (.int .i64 (nx':Int)) (.int .i64 (dp:Int)) (.int .u64 0) (.int .i64 0) (.slice Av (k+1) cv) HB9.out.size (Nat.le_refl _));have hro:=row_fr HR9.out (put5_fr w1 w.heap.size (.int .i64 (nx':Int)) (.int .i64 (dp:Int)) (.int .u64 0) (.int .i64 0) (.slice Av (k+1) cv) (List.mem_singleton.2 rfl)) (fun g hg=>by simpa using row_ne_cut HR9.out (by decide) HZ9.out g hg);change bodyPost _ _ _ _ _ (put5 w1 w.heap.size (.int .i64 (nx':Int)) (.int .i64 (dp:Int)) (.int .u64 0) (.int .i64 0) (.slice Av (k+1) cv));generalize put5 w1 w.heap.size (.int .i64 (nx':Int)) (.int .i64 (dp:Int)) (.int .u64 0) (.int .i64 0) (.slice Av (k+1) cv)=Wf at hA hF hro⊢;obtain⟨r0,r1,r2,r3,r4,-⟩:=CutAt.cells (show CutAt Wf w.heap.size nx' dp 0 0 (.slice Av (k+1) cv)from hA);refine bodyPost_ret (v:=cutV nx' dp 0 0 (.slice Av (k+1) cv)) (by simp[results,Tryz.results121,go_sem,r0,r1,r2,r3,r4,cutV]) rfl ?_;unfold RReadP;rw[HS.out];exact⟨0,0,Av,cv,by show _=Ending.returned (cutV nx' dp 0 0 (.slice Av (pre++[nx']).length cv));rw[hksl],fun h=>absurd (HBC.out.symm.trans h) H110.out,fun h=>absurd (HBC.out.symm.trans h) H116.out,row_cells hro,hF⟩
open Go.RowKit
theorem rread_any (s:ByteArray) (hs:s.size<=1000000): ∀(room:Nat),room<=1000-> ∀(at_:Nat) (w:World),at_<=s.size->Calls Tryz.prog 121 #[.string s,.int .i64 at_,.int .i64 room] w (RReadP s room at_ w)
 |0,_,at_,w,hat=>rread_end s 0 at_ w rfl (.inr rfl)
 |room+1,hroom,at_,w,hat=>by
  rcases Nat.lt_or_eq_of_le hat with h|rfl
  ·have HT:=fun(a:Nat) (w:World) ha=>rread_any s hs room (by omega) a w ha
   obtain⟨c,hbc⟩: ∃c,byte s.data.toList at_=c:=⟨_,rfl⟩;by_cases h1:c=110
   ·subst h1;exact rread_name s room at_ w hs h (by omega) hbc
   by_cases h2:c=116
   ·subst h2;exact rread_text s room at_ w hs h (by omega) hbc
   by_cases h3:c=84
   ·subst h3;exact rread_tuple s room at_ w hs h (by omega) hbc HT
   cases har:arity c with
   |none=>exact rread_bad s room at_ c w h hs hbc h1 h2 h3 har
   |some n=>exact rread_arity s room at_ c n w hs h (by omega) hbc h1 h2 h3 har HT
  ·have hn:rd s.data.toList (room+1) s.size=none:=by
    unfold rd;rw[List.getElem?_eq_none (show s.data.toList.length<=s.size from Nat.le_of_eq rfl)]
   exact rread_end s (room+1) s.size w hn (.inl (Nat.le_refl _))
theorem field_end (e d n f:Int) (A:Option Addr) (l c:Nat) (W:World):(Instr.field 159 (.agg #[.int .i64 e,.int .i64 d,.int .u64 n,.int .i64 f,.slice A l c]) 0).run Tryz.prog W= .ok (.int .i64 e) W:=by kernel_rfl
set_option maxRecDepth 100000 in
set_option maxHeartbeats 8000000 in
theorem rright_any (s:ByteArray) (w:World) (hs:s.size<=1000000):Calls Tryz.prog 115 #[.string s] w fun e w'=>e= .returned (.bool (rightB s.data.toList))/\Below w.heap.size w w':=by
 have hlen:s.data.toList.length=s.size:=rfl;by_cases hl:s.size<=16384
 ·have g1:decide ((s.size:Int)<=16384)=true:=decide_eq_true (by omega);have hR:=rread_any s hs 64 (by omega) 0 w (Nat.zero_le _);unfold RReadP at hR;cases hq:rd s.data.toList 64 0 with
  |none=>
   have HN:=zH (show rightB s.data.toList=false by unfold rightB right;rw[hq];split<;>rfl);rw[hq]at hR;simp only at hR;unfold cutV at hR;have HR:=zH hR;have g2:((-1:Int)==(s.size:Int))=false:=beq_false_of_ne (by omega);clear hR hq;go_enter Tryz.func115,Tryz.ntmps115;go_wp2_with fail;refine HR.out.mono ?_;rintro e w1 ⟨d,n,f,A,l,c,rfl,hb⟩;have hfd:=fun W=>field_end (-1) d n f A l c W
   have HB:=zH hb;clear hb;go_wp2_with fail;go_ret;rw[HN.out];exact⟨rfl,HB.out⟩
  |some x=>
   have HN:=zH (show rightB s.data.toList=decide (x.fin=s.size) by
    unfold rightB right;rw[hq,if_pos (by omega)];simp only;by_cases h:x.fin=s.size
    ·rw[if_pos (by omega),decide_eq_true h];rfl
    ·rw[if_neg (by omega),decide_eq_false h];rfl)
   rw[hq]at hR;simp only at hR;unfold cutV at hR;have HR:=zH hR;have hd:((x.fin:Int)==(s.size:Int))=decide (x.fin=s.size):=by
    by_cases h:x.fin=s.size
    ·rw[decide_eq_true h,h];exact beq_self_eq_true _
    ·rw[decide_eq_false h];exact beq_false_of_ne (by omega)
   have HD:=zH hd;clear hR hq hd;go_enter Tryz.func115,Tryz.ntmps115;go_wp2_with fail;refine HR.out.mono ?_;rintro e w1 ⟨N,F,A,c,rfl,-,-,-,hb⟩;have hfd:=fun W=>field_end (x.fin:Int) (x.deep:Int) N F A x.kids.length c W
   have HB:=zH hb;clear hb;go_wp2_with fail;go_ret;rw[HN.out];exact⟨by rw[<-HD.out];rfl,HB.out⟩
 ·have g1:decide ((s.size:Int)<=16384)=false:=decide_eq_false (by omega);have HN:=zH (show rightB s.data.toList=false by unfold rightB right;rw[if_neg (by omega)];rfl);go_enter Tryz.func115,Tryz.ntmps115;go_wp2_with fail;go_ret;rw[HN.out];exact⟨rfl,Below.refl _ _⟩
end Go.Proofs.YtncniomiplnaaaaGreatDoor
