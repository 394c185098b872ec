/- The bound on keys and digests. · SameLock at equal locks. · The locks' contracts in one form. -/
import Derived.Test.YtncniomiplnaaaaGreatDoorQ22
import Derived.Test.YtncniomiplnaaaaGreatDoorQ18
import Derived.Test.YtncniomiplnaaaaGreatDoorQ13
import Derived.StillTailTactics
import Derived.Test.YtncniomiplnaaaaGreatDoorQ23
import Derived.Test.YtncniomiplnaaaaGreatDoorQ24
import Derived.Test.YtncniomiplnaaaaGreatDoorQ19
set_option linter.all false
namespace Go.Proofs.YtncniomiplnaaaaGreatDoor
open Go.RowKit
def keysN (k:KeysR):Nat:=k.rev.size+k.later.size+k.mine.size+k.theirs.size+k.pay.size
open Go.RowKit
set_option maxRecDepth 100000 in
set_option maxHeartbeats 8000000 in
theorem same_step (k:Int) (t:ByteArray) (n:Int) (l:List LockT) (A B:Option Addr) (ca cb:Nat) (xs ys:List Value) (w:World) (hll:l.length<=1000000) (hcx:Cells w A xs) (hlx:LocksC w l xs) (hcy:Cells w B ys) (hly:LocksC w l ys)
 (HK: ∀(i:Nat) (hi:i<l.length) (W:World) (cs ds:List Value),LockC W l[i] cs->LockC W l[i] ds->Calls Tryz.prog 20 #[.agg cs.toArray,.agg ds.toArray] W fun e w'=>e= .returned (.bool true)/\Below W.heap.size W w'):
 Calls Tryz.prog 20 #[.agg #[.int .u8 k,.string t,.int .i64 n,.slice A l.length ca],.agg #[.int .u8 k,.string t,.int .i64 n,.slice B l.length cb]] w fun e w'=>e= .returned (.bool true)/\Below w.heap.size w w':=by
 have hbA:Below w.heap.size w (w.alloc (zO1 k t n A l.length ca)):=(Below.refl _ _).alloc (Nat.le_refl _) _;have hbB:Below (w.alloc (zO1 k t n A l.length ca)).heap.size (w.alloc (zO1 k t n A l.length ca)) ((w.alloc (zO1 k t n A l.length ca)).alloc (zO1 k t n B l.length cb)):=(Below.refl _ _).alloc (Nat.le_refl _) _;have p0:((w.alloc (zO1 k t n A l.length ca)).alloc (zO1 k t n B l.length cb)).cell? ⟨w.heap.size,0,none⟩=some (.int .u8 k):=cell_below hbB (alloc_cells 0 _ rfl);have p1:((w.alloc (zO1 k t n A l.length ca)).alloc (zO1 k t n B l.length cb)).cell? ⟨w.heap.size,1,none⟩=some (.string t):=cell_below hbB (alloc_cells 1 _ rfl);have p2:((w.alloc (zO1 k t n A l.length ca)).alloc (zO1 k t n B l.length cb)).cell? ⟨w.heap.size,2,none⟩=some (.int .i64 n):=cell_below hbB (alloc_cells 2 _ rfl);have p3:((w.alloc (zO1 k t n A l.length ca)).alloc (zO1 k t n B l.length cb)).cell? ⟨w.heap.size,3,none⟩=some (.slice A l.length ca):=cell_below hbB (alloc_cells 3 _ rfl);have hsz:(w.alloc (.cells #[.int .u8 k,.string t,.int .i64 n,.slice A l.length ca] 55)).heap.size=w.heap.size+1:=by simp
 have q0:((w.alloc (zO1 k t n A l.length ca)).alloc (zO1 k t n B l.length cb)).cell? ⟨w.heap.size+1,0,none⟩=some (.int .u8 k):=by rw[<-hsz];exact alloc_cells 0 _ rfl
 have q1:((w.alloc (zO1 k t n A l.length ca)).alloc (zO1 k t n B l.length cb)).cell? ⟨w.heap.size+1,1,none⟩=some (.string t):=by rw[<-hsz];exact alloc_cells 1 _ rfl
 have q2:((w.alloc (zO1 k t n A l.length ca)).alloc (zO1 k t n B l.length cb)).cell? ⟨w.heap.size+1,2,none⟩=some (.int .i64 n):=by rw[<-hsz];exact alloc_cells 2 _ rfl
 have q3:((w.alloc (zO1 k t n A l.length ca)).alloc (zO1 k t n B l.length cb)).cell? ⟨w.heap.size+1,3,none⟩=some (.slice B l.length cb):=by rw[<-hsz];exact alloc_cells 3 _ rfl
 have HB:=zH (hbA.trans (hbB.mono hbA.size));have P3:=zH p3;have Q3:=zH q3;have HKK:=zH HK;have HCX:=zH hcx;have HLX:=zH hlx;have HCY:=zH hcy;have HLY:=zH hly;clear HK hcx hlx hcy hly hbA hbB hsz;go_enter Tryz.func20,Tryz.ntmps20;go_wp2_with fail;go_loopw [5] (fun i wr=> ∃(j:Nat),j<=l.length/\i= .int .i64 (j:Int)/\Below ((w.alloc (zO1 k t n A l.length ca)).alloc (zO1 k t n B l.length cb)).heap.size ((w.alloc (zO1 k t n A l.length ca)).alloc (zO1 k t n B l.length cb)) wr) (fun i _=>l.length - (intOf i).toNat)
 case atStart=>exact⟨0,Nat.zero_le _,rfl,Below.refl _ _⟩
 case round=>
  obtain⟨j,hj,rfl,hbr⟩:=hrel;have c3:=cell_below hbr P3.out;have d3:=cell_below hbr Q3.out;have HBR:=zH (HB.out.trans (hbr.mono HB.out.size));have HBR2:=zH hbr;clear p0 p1 p2 p3 q0 q1 q2 q3;by_cases hlt:j<l.length
  ·have hbr0:=HBR.out;obtain⟨ad,C,cp,rfl,x0,x1,x2,x3,hlk⟩:=lock_at (Cells.below HCX.out hbr0) (LocksC.below hbr0 l xs HLX.out) hlt;obtain⟨bd,D,cq,rfl,y0,y1,y2,y3,hlm⟩:=lock_at (Cells.below HCY.out hbr0) (LocksC.below hbr0 l ys HLY.out) hlt;have hbd:Below wr.heap.size wr wr.drew:=(Below.refl _ _).drew;have HG:=zH (HKK.out j hlt wr.drew _ _ (LockC.below hbd _ _ hlk) (LockC.below hbd _ _ hlm));have HBD:=zH (HBR2.out.drew);clear hlk hlm hbr hbr0 hbd;go_upto_region 6 with fail;go_still_tail 10,(by kernel_rfl);change wpList _ _ _ _ _ wr.drew;generalize hdr:wr.drew=wd at HG HBD⊢;go_wp2_with (go_at_call 20;refine HG.out.mono ?_;rintro e w1 ⟨rfl,hb1⟩);have HB1:=zH (HBD.out.trans (hb1.mono HBD.out.size));clear hb1 hdr;go_wp2_with fail;go_roundw
   case rel=>exact⟨j+1,by omega,by go_num,HB1.out⟩
   case measure=>simp[intOf];omega
  ·have gj:decide ((j:Int)<(l.length:Int))=false:=decide_eq_false (by omega);clear hbr;go_wp2_with fail;go_ret;exact⟨rfl,HBR.out⟩
theorem same_all: ∀(m:Nat) (x:LockT) (cs ds:List Value) (w:World),sizeT x<=m->smallT x->LockC w x cs->LockC w x ds->Calls Tryz.prog 20 #[.agg cs.toArray,.agg ds.toArray] w fun e w'=>e= .returned (.bool true)/\Below w.heap.size w w'
 |0,x,_,_,_,hm,_,_,_=>absurd (sizeT_pos x) (by omega)
 |m+1,.node k t n l,cs,ds,w,hm,hs,hc,hd=>by
  unfold LockC at hc hd;obtain⟨A,ca,xs,rfl,h2,h3⟩:=hc;obtain⟨B,cb,ys,rfl,g2,g3⟩:=hd;obtain⟨s1,s2,s3⟩:=smallT_parts hs;exact same_step k t n l A B ca cb xs ys w s2 h2 h3 g2 g3 fun i hi W cs ds a b=>
   same_all m l[i] cs ds W (by have:=sizeTs_at i hi;have e:=sizeT_kids (.node k t n l);simp only[LockT.kids]at e;omega) (smallTs_at s3 i hi) a b
theorem sameLock_eq (x:LockT) (cs ds:List Value) (w:World) (hs:smallT x) (hc:LockC w x cs) (hd:LockC w x ds):Calls Tryz.prog 20 #[.agg cs.toArray,.agg ds.toArray] w fun e w'=>e= .returned (.bool true)/\Below w.heap.size w w':=
 same_all (sizeT x) x cs ds w (Nat.le_refl _) hs hc hd
open Go.RowKit
theorem lockV_out {f:FuncId} {args:Array Value} {w:World} {x:LockT} (h:Calls Tryz.prog f args w fun e w'=> ∃v,e= .returned v/\LockV w' x v/\Below w.heap.size w w'):Calls Tryz.prog f args w fun e w'=> ∃A c,e= .returned (.agg #[.int .u8 x.kind,.string x.term,.int .i64 x.n,.slice A x.kids.length c])/\LockH w' x [.int .u8 x.kind,.string x.term,.int .i64 x.n,.slice A x.kids.length c]/\Below w.heap.size w w':=by
 refine h.mono ?_;rintro e w' ⟨v,rfl,⟨A,c,rfl,hl⟩,hb⟩;exact⟨A,c,rfl,hl,hb⟩
theorem htlc_any (d:DealR) (k:KeysR) (h:PayR) (w:World):Calls Tryz.prog 27 #[dealV d,keysV k,htlcV h] w fun e w'=> ∃v,e= .returned v/\LockV w' (htlcL d.delay k h.mine h.hash h.exp) v/\Below w.heap.size w w':=by
 obtain⟨mine,hid,amt,hash,exp⟩:=h;cases mine with
 |true=>exact htlc_mine d k hid amt hash exp w
 |false=>exact htlc_their d k hid amt hash exp w
theorem rhtlc_any (d:DealR) (k:KeysR) (h:PayR) (w:World):Calls Tryz.prog 28 #[dealV d,keysV k,htlcV h] w fun e w'=> ∃v,e= .returned v/\LockV w' (htlcL d.delay k h.mine h.hash h.exp) v/\Below w.heap.size w w':=by
 obtain⟨mine,hid,amt,hash,exp⟩:=h;cases mine with
 |true=>exact rhtlc_mine d k hid amt hash exp w
 |false=>exact rhtlc_their d k hid amt hash exp w
theorem small_sig {t:ByteArray} (h:t.size<=900000):smallT (sigL t):=by
 unfold sigL smallT smallTs;exact⟨h,by simp,trivial⟩
theorem small_time (k:Int) (n:Int):smallT (.node k ⟨#[]⟩ n []):=by
 simp only[smallT,smallTs];exact⟨by decide,by simp,trivial⟩
theorem small_pre {t:ByteArray} (h:t.size<=900000):smallT (preL t):=by
 unfold preL smallT smallTs;exact⟨h,by simp,trivial⟩
theorem small_htlc (delay:Int) (k:KeysR) (mine:Bool) (hash:ByteArray) (exp:Int) (h1:k.rev.size<=900000) (h2:k.mine.size<=900000) (h3:k.theirs.size<=900000) (h4:hash.size<=900000):smallT (htlcL delay k mine hash exp):=by
 unfold htlcL anyL allL;cases mine with
 |true=>
  simp only[if_true,smallT,smallTs];exact⟨by decide,by simp,small_sig h1,⟨by decide,by simp,small_sig h3,small_pre h4,trivial⟩,⟨by decide,by simp,small_time 3 exp,small_time 4 delay,small_sig h2,trivial⟩,trivial⟩
 |false=>
  simp only[Bool.false_eq_true,if_false,smallT,smallTs];exact⟨by decide,by simp,small_sig h1,⟨by decide,by simp,small_time 4 delay,small_pre h4,small_sig h2,trivial⟩,⟨by decide,by simp,small_time 3 exp,small_sig h3,trivial⟩,trivial⟩
end Go.Proofs.YtncniomiplnaaaaGreatDoor
