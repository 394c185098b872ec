/- The program's reader of terms: a number. -/
import Derived.Test.YtbiioifpeebjaaaGreatDoorQ2
set_option linter.all false
namespace Go.Proofs.YtbiioifpeebjaaaGreatDoor
open Go.RowKit
def NumP (R:Option (Nat×Nat)) (b:Nat) (s:ByteArray) (at_:Nat) (w:World) (e:Ending) (w':World):Prop:=
 match R with
 |some (v,k)=>e= .returned (.tuple #[.int .i64 v,.bool true])/\RdrAt w' b s (at_+k+1)/\Fr [b] w w'
 |none=> ∃n,e= .returned (.tuple #[.int .i64 n,.bool false])/\Fr [b] w w'
set_option maxRecDepth 100000 in
set_option maxHeartbeats 8000000 in
theorem num_any (b:Nat) (s:ByteArray) (at_:Nat) (c:Int) (w:World) (hr:RdrAt w b s at_) (hat:at_<=s.size) (hs:s.size<=1000000) (hv:VarsOk w):
 Calls Tryz.prog 111 #[.pointer (some ⟨b,0,none⟩),.int .u8 c] w (NumP (numL c.toNat.toUInt8 (s.data.toList.drop at_)) b s at_ w):=by
 obtain⟨e0,e1,ef⟩:=hr.cells;have HR:=zH hr;have HV:=zH hv;have HS:=zH (Tryz.strings_IndexByte (s.extract at_ s.size) c);rw[ext_to_end]at HS;obtain⟨i1,i2⟩:=numL_index (c:=c.toNat.toUInt8) (l:=s.data.toList.drop at_);have hlen:(s.data.toList.drop at_).length=s.size - at_:=by rw[List.length_drop];rfl
 rw[hlen]at i2;obtain⟨R,hR⟩: ∃R,numL c.toNat.toUInt8 (s.data.toList.drop at_)=R:=⟨_,rfl⟩;rw[hR]at i1 i2⊢;obtain⟨k0,hk0⟩: ∃k0,Lib.indexByte (s.data.toList.drop at_) c.toNat.toUInt8=k0:=⟨_,rfl⟩;rw[hk0]at i1 i2 HS;have I1:=zH i1;have I2:=zH i2;clear hr hv i1 i2 hR hk0 hlen;by_cases c1:k0<1
 ·have HN:=zH (I1.out c1);have g1:decide (k0<1)=true:=decide_eq_true c1;go_enter Tryz.func111,Tryz.ntmps111;go_wp2_with fail;go_quiet ((go_at_call 117;exact Calls.quiet_of_same (HS.out _)));go_wp2_with fail;go_big_quiet (fail);go_wp2_with fail;go_ret2;rw[HN.out];exact⟨_,rfl,((Fr.refl _ _).drewN _).drewN _⟩
 ·obtain⟨k,rfl⟩: ∃k:Nat,k0=k:=⟨k0.toNat,by omega⟩;obtain⟨j0,j1,j2,j3,j4,j5⟩:=I2.out k rfl (by omega);have hix:=fun W=>index_at (show at_<s.size by omega) W
  have hby:byte (s.data.toList.drop at_) 0=byte s.data.toList at_:=by unfold byte;rw[List.getD_eq_getElem?_getD,List.getD_eq_getElem?_getD,List.getElem?_drop,Nat.add_zero]
  rw[hby]at j2 j3 j4 j5;obtain⟨x,hx⟩: ∃x:Int,((byte s.data.toList at_).toNat:Int)=x:=⟨_,rfl⟩;simp only[hx]at hix;have K2:x=48->1<k->R=none:=fun h1 h2=>j2 (by omega) h2
  have K3:x<48->R=none:=fun h1=>j3 (by omega)
  have K4:57<x->R=none:=fun h1=>j4 (by omega)
  have K5:=fun h1 h2 (h3:48<=x) (h4:x<=57)=>j5 h1 h2 (by omega) (by omega)
  have HK5:=zH K5;clear K5 j2 j3 j4 j5 hby;have g1:decide ((k:Int)<1)=false:=decide_eq_false (by omega);by_cases c2:19<k
  ·have HN:=zH (j1 c2);have g2:decide ((19:Int)<(k:Int))=true:=decide_eq_true (by omega);clear hx K2 K3 K4 j1;go_enter Tryz.func111,Tryz.ntmps111;go_wp2_with fail;go_quiet ((go_at_call 117;exact Calls.quiet_of_same (HS.out _)));go_wp2_with fail;go_big_quiet (fail);go_wp2_with fail;go_ret2;rw[HN.out];exact⟨_,rfl,((Fr.refl _ _).drewN _).drewN _⟩
  ·have g2:decide ((19:Int)<(k:Int))=false:=decide_eq_false (by omega);by_cases c3:x=48
   ·by_cases c4:1<k
    ·have HN:=zH (K2 c3 c4);have g4:decide ((1:Int)<(k:Int))=true:=decide_eq_true (by omega);clear hx K2 K3 K4 j1;subst c3;go_enter Tryz.func111,Tryz.ntmps111;go_wp2_with fail;go_quiet ((go_at_call 117;exact Calls.quiet_of_same (HS.out _)));go_wp2_with fail;go_big_quiet (fail);go_wp2_with fail;go_ret2;rw[HN.out];exact⟨_,rfl,((Fr.refl _ _).drewN _).drewN _⟩
    ·have HK6:=zH (HK5.out (by omega) (by omega) (by omega) (by omega));have y0:(0:Int)<=(at_:Int):=by omega
     have y1:(at_:Int)<=((at_+k:Nat):Int):=by omega
     have y2:((at_+k:Nat):Int)<=(s.size:Int):=by omega
     have y3:(at_:Int)<=(at_:Int)+(k:Int):=by omega
     have y4:(at_:Int)+(k:Int)<=(s.size:Int):=by omega
     have hwr:IntKind.i64.wrap ((at_:Int)+(k:Int))=((at_+k:Nat):Int):=by rw[IntWalk.i64_in _ (by omega)];omega
     have hwr1:IntKind.i64.wrap ((k:Int)+1)=((k+1:Nat):Int):=by rw[IntWalk.i64_in _ (by omega)];omega
     have hwr2:IntKind.i64.wrap ((at_:Int)+((k+1:Nat):Int))=((at_+k+1:Nat):Int):=by rw[IntWalk.i64_in _ (by omega)];omega
     have g4:decide ((1:Int)<(k:Int))=false:=decide_eq_false (by omega);clear hx K2 K3 K4 j1 HK5;subst c3;cases R with
     |none=>
      have HP:=zH fun W hW=>parse_bad (s.extract at_ (at_+k)) (by rw[ext_size];omega) (by rw[ext_take];exact HK6.out.2.1 rfl) W hW
      clear HK6;go_enter Tryz.func111,Tryz.ntmps111;go_wp2_with fail;go_quiet ((go_at_call 117;exact Calls.quiet_of_same (HS.out _)));obtain⟨n1,rfl⟩: ∃n,n=nq:=⟨nq,rfl⟩;go_wp2_with fail;go_big_quiet (fail);go_wp2_with fail;have HRD:=zH (show RdrAt ((w.drewN n1).drewN nq) b s at_ from HR.out);have HFD:=zH (((Fr.refl [b] w).drewN n1).drewN nq);have HVD:=zH (show VarsOk ((w.drewN n1).drewN nq)from HV.out);clear e0 e1 ef;generalize (w.drewN n1).drewN nq=wd at HRD HFD HVD⊢;obtain⟨d0,d1,df⟩:=HRD.out.cells;go_region_held3 (fun w'=>w'.cell? ⟨b,0,none⟩=some (.string s)/\w'.cell? ⟨b,1,none⟩=some (.int .i64 at_))
       (first|exact⟨d0,d1⟩|exact⟨q0,q1⟩)
       (first|(go_at_call 118;refine(HP.out _ (show VarsOk wd.drew from HVD.out)).mono ?_;rintro e w2 ⟨m,N,rfl,hb2⟩;have q0:w2.cell? ⟨b,0,none⟩=some (.string s):=cell_below hb2 (show wd.drew.cell? ⟨b,0,none⟩=some (.string s)from d0);have q1:w2.cell? ⟨b,1,none⟩=some (.int .i64 at_):=cell_below hb2 (show wd.drew.cell? ⟨b,1,none⟩=some (.int .i64 at_)from d1)))
      all_goals
       have hb3:Below wd.heap.size wd w2:=⟨hb2.os,hb2.tape,hb2.output,hb2.size,hb2.block⟩;have hrd2:RdrAt w2 b s at_:=HRD.out.fr (Fr.below (F:=[]) hb3) (by simp);have f2:=hrd2.cells.2.2 1;have hfd:=HFD.out.trans (Fr.below (F:=[]) hb3) (fun i hi _=>by cases hi);have HRD2:=zH hrd2;have HFD2:=zH hfd;clear hb3 hrd2 hfd hb2 d0 d1 df;go_wp2_with fail;go_big_quiet (fail);go_wp2_with fail;go_ret2;exact⟨m,rfl,(HFD2.out.trans (Fr.put w2 0 b 1 _ (List.mem_singleton.2 rfl)) (fun i hi _=>hi)).drewN _⟩
     |some y=>
      obtain⟨v,k'⟩:=y;obtain rfl:=HK6.out.2.2 v k' rfl;have HP:=zH fun W=>parse_ok (s.extract at_ (at_+k')) (by rw[ext_size];omega) v (by rw[ext_take];exact HK6.out.1 v rfl) W
      clear HK6;go_enter Tryz.func111,Tryz.ntmps111;go_wp2_with fail;go_quiet ((go_at_call 117;exact Calls.quiet_of_same (HS.out _)));obtain⟨n1,rfl⟩: ∃n,n=nq:=⟨nq,rfl⟩;go_wp2_with fail;go_big_quiet (fail);go_wp2_with fail;have HRD:=zH (show RdrAt ((w.drewN n1).drewN nq) b s at_ from HR.out);have HFD:=zH (((Fr.refl [b] w).drewN n1).drewN nq);have HVD:=zH (show VarsOk ((w.drewN n1).drewN nq)from HV.out);clear e0 e1 ef;generalize (w.drewN n1).drewN nq=wd at HRD HFD HVD⊢;obtain⟨d0,d1,df⟩:=HRD.out.cells;go_region_held3 (fun w'=>w'.cell? ⟨b,0,none⟩=some (.string s)/\w'.cell? ⟨b,1,none⟩=some (.int .i64 at_))
       (first|exact⟨d0,d1⟩|exact⟨q0,q1⟩)
       (first|(go_at_call 118;refine(HP.out _).mono ?_;rintro e w2 ⟨rfl,hb2⟩;have q0:w2.cell? ⟨b,0,none⟩=some (.string s):=cell_below hb2 (show wd.drew.cell? ⟨b,0,none⟩=some (.string s)from d0);have q1:w2.cell? ⟨b,1,none⟩=some (.int .i64 at_):=cell_below hb2 (show wd.drew.cell? ⟨b,1,none⟩=some (.int .i64 at_)from d1)))
      all_goals
       have hb3:Below wd.heap.size wd w2:=⟨hb2.os,hb2.tape,hb2.output,hb2.size,hb2.block⟩;have hrd2:RdrAt w2 b s at_:=HRD.out.fr (Fr.below (F:=[]) hb3) (by simp);have f2:=hrd2.cells.2.2 1;have hfd:=HFD.out.trans (Fr.below (F:=[]) hb3) (fun i hi _=>by cases hi);have HRD2:=zH hrd2;have HFD2:=zH hfd;clear hb3 hrd2 hfd hb2 d0 d1 df;go_wp2_with fail;go_big_quiet (fail);go_wp2_with fail;go_ret2;exact⟨rfl,HRD2.out.put 0 (at_+k'+1),(HFD2.out.trans (Fr.put w2 0 b 1 _ (List.mem_singleton.2 rfl)) (fun i hi _=>hi)).drewN _⟩
   ·by_cases c5:x<48
    ·have HN:=zH (K3 c5);have g3:(x==48)=false:=beq_false_of_ne c3;have g5:decide (x<48)=true:=decide_eq_true c5;clear hx K2 K3 K4 j1 c3;go_enter Tryz.func111,Tryz.ntmps111;go_wp2_with fail;go_quiet ((go_at_call 117;exact Calls.quiet_of_same (HS.out _)));go_wp2_with fail;go_big_quiet (fail);go_wp2_with fail;go_ret2;rw[HN.out];exact⟨_,rfl,((Fr.refl _ _).drewN _).drewN _⟩
    ·by_cases c6:57<x
     ·have HN:=zH (K4 c6);have g3:(x==48)=false:=beq_false_of_ne c3;have g5:decide (x<48)=false:=decide_eq_false c5;have g6:decide ((57:Int)<x)=true:=decide_eq_true c6;clear hx K2 K3 K4 j1 c3;go_enter Tryz.func111,Tryz.ntmps111;go_wp2_with fail;go_quiet ((go_at_call 117;exact Calls.quiet_of_same (HS.out _)));go_wp2_with fail;go_big_quiet (fail);go_wp2_with fail;go_ret2;rw[HN.out];exact⟨_,rfl,((Fr.refl _ _).drewN _).drewN _⟩
     ·have HK6:=zH (HK5.out (by omega) (by omega) (by omega) (by omega));have y0:(0:Int)<=(at_:Int):=by omega
      have y1:(at_:Int)<=((at_+k:Nat):Int):=by omega
      have y2:((at_+k:Nat):Int)<=(s.size:Int):=by omega
      have y3:(at_:Int)<=(at_:Int)+(k:Int):=by omega
      have y4:(at_:Int)+(k:Int)<=(s.size:Int):=by omega
      have hwr:IntKind.i64.wrap ((at_:Int)+(k:Int))=((at_+k:Nat):Int):=by rw[IntWalk.i64_in _ (by omega)];omega
      have hwr1:IntKind.i64.wrap ((k:Int)+1)=((k+1:Nat):Int):=by rw[IntWalk.i64_in _ (by omega)];omega
      have hwr2:IntKind.i64.wrap ((at_:Int)+((k+1:Nat):Int))=((at_+k+1:Nat):Int):=by rw[IntWalk.i64_in _ (by omega)];omega
      have g3:(x==48)=false:=beq_false_of_ne c3;have g5:decide (x<48)=false:=decide_eq_false (by omega);have g6:decide ((57:Int)<x)=false:=decide_eq_false (by omega);clear hx K2 K3 K4 j1 HK5;cases R with
      |none=>
       have HP:=zH fun W hW=>parse_bad (s.extract at_ (at_+k)) (by rw[ext_size];omega) (by rw[ext_take];exact HK6.out.2.1 rfl) W hW
       clear HK6;go_enter Tryz.func111,Tryz.ntmps111;go_wp2_with fail;go_quiet ((go_at_call 117;exact Calls.quiet_of_same (HS.out _)));obtain⟨n1,rfl⟩: ∃n,n=nq:=⟨nq,rfl⟩;go_wp2_with fail;go_big_quiet (fail);go_wp2_with fail;have HRD:=zH (show RdrAt ((w.drewN n1).drewN nq) b s at_ from HR.out);have HFD:=zH (((Fr.refl [b] w).drewN n1).drewN nq);have HVD:=zH (show VarsOk ((w.drewN n1).drewN nq)from HV.out);clear e0 e1 ef;generalize (w.drewN n1).drewN nq=wd at HRD HFD HVD⊢;obtain⟨d0,d1,df⟩:=HRD.out.cells;go_region_held3 (fun w'=>w'.cell? ⟨b,0,none⟩=some (.string s)/\w'.cell? ⟨b,1,none⟩=some (.int .i64 at_))
        (first|exact⟨d0,d1⟩|exact⟨q0,q1⟩)
        (first|(go_at_call 118;refine(HP.out _ (show VarsOk wd.drew from HVD.out)).mono ?_;rintro e w2 ⟨m,N,rfl,hb2⟩;have q0:w2.cell? ⟨b,0,none⟩=some (.string s):=cell_below hb2 (show wd.drew.cell? ⟨b,0,none⟩=some (.string s)from d0);have q1:w2.cell? ⟨b,1,none⟩=some (.int .i64 at_):=cell_below hb2 (show wd.drew.cell? ⟨b,1,none⟩=some (.int .i64 at_)from d1)))
       all_goals
        have hb3:Below wd.heap.size wd w2:=⟨hb2.os,hb2.tape,hb2.output,hb2.size,hb2.block⟩;have hrd2:RdrAt w2 b s at_:=HRD.out.fr (Fr.below (F:=[]) hb3) (by simp);have f2:=hrd2.cells.2.2 1;have hfd:=HFD.out.trans (Fr.below (F:=[]) hb3) (fun i hi _=>by cases hi);have HRD2:=zH hrd2;have HFD2:=zH hfd;clear hb3 hrd2 hfd hb2 d0 d1 df;go_wp2_with fail;go_big_quiet (fail);go_wp2_with fail;go_ret2;exact⟨m,rfl,(HFD2.out.trans (Fr.put w2 0 b 1 _ (List.mem_singleton.2 rfl)) (fun i hi _=>hi)).drewN _⟩
      |some y=>
       obtain⟨v,k'⟩:=y;obtain rfl:=HK6.out.2.2 v k' rfl;have HP:=zH fun W=>parse_ok (s.extract at_ (at_+k')) (by rw[ext_size];omega) v (by rw[ext_take];exact HK6.out.1 v rfl) W
       clear HK6;go_enter Tryz.func111,Tryz.ntmps111;go_wp2_with fail;go_quiet ((go_at_call 117;exact Calls.quiet_of_same (HS.out _)));obtain⟨n1,rfl⟩: ∃n,n=nq:=⟨nq,rfl⟩;go_wp2_with fail;go_big_quiet (fail);go_wp2_with fail;have HRD:=zH (show RdrAt ((w.drewN n1).drewN nq) b s at_ from HR.out);have HFD:=zH (((Fr.refl [b] w).drewN n1).drewN nq);have HVD:=zH (show VarsOk ((w.drewN n1).drewN nq)from HV.out);clear e0 e1 ef;generalize (w.drewN n1).drewN nq=wd at HRD HFD HVD⊢;obtain⟨d0,d1,df⟩:=HRD.out.cells;go_region_held3 (fun w'=>w'.cell? ⟨b,0,none⟩=some (.string s)/\w'.cell? ⟨b,1,none⟩=some (.int .i64 at_))
        (first|exact⟨d0,d1⟩|exact⟨q0,q1⟩)
        (first|(go_at_call 118;refine(HP.out _).mono ?_;rintro e w2 ⟨rfl,hb2⟩;have q0:w2.cell? ⟨b,0,none⟩=some (.string s):=cell_below hb2 (show wd.drew.cell? ⟨b,0,none⟩=some (.string s)from d0);have q1:w2.cell? ⟨b,1,none⟩=some (.int .i64 at_):=cell_below hb2 (show wd.drew.cell? ⟨b,1,none⟩=some (.int .i64 at_)from d1)))
       all_goals
        have hb3:Below wd.heap.size wd w2:=⟨hb2.os,hb2.tape,hb2.output,hb2.size,hb2.block⟩;have hrd2:RdrAt w2 b s at_:=HRD.out.fr (Fr.below (F:=[]) hb3) (by simp);have f2:=hrd2.cells.2.2 1;have hfd:=HFD.out.trans (Fr.below (F:=[]) hb3) (fun i hi _=>by cases hi);have HRD2:=zH hrd2;have HFD2:=zH hfd;clear hb3 hrd2 hfd hb2 d0 d1 df;go_wp2_with fail;go_big_quiet (fail);go_wp2_with fail;go_ret2;exact⟨rfl,HRD2.out.put 0 (at_+k'+1),(HFD2.out.trans (Fr.put w2 0 b 1 _ (List.mem_singleton.2 rfl)) (fun i hi _=>hi)).drewN _⟩
end Go.Proofs.YtbiioifpeebjaaaGreatDoor
