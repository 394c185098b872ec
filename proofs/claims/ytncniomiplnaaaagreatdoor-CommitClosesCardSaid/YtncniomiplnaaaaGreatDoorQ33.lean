/- The document's digits. · The document's text of a lock. -/
import Derived.Test.YtncniomiplnaaaaGreatDoorQ12
import Derived.Test.YtncniomiplnaaaaGreatDoorQ6
import Derived.Test.YtncniomiplnaaaaGreatDoorQ31
set_option linter.all false
namespace Go.Proofs.YtncniomiplnaaaaGreatDoor
open Go.RowKit
def decB (n:Nat):ByteArray:=⟨(Lib.decDigits n).toArray⟩
theorem decB_size (n:Nat):(decB n).size=(Lib.decDigits n).length:=by
 show(Lib.decDigits n).toArray.size=_;simp
theorem decB_more {n:Nat} (h: ¬n<10):decB n=decB (n / 10)++⟨#[UInt8.ofNat (48+n%10)]⟩:=by
 have h1:(decB n).data.toList=(decB (n / 10)++(⟨#[UInt8.ofNat (48+n%10)]⟩:ByteArray)).data.toList:=by
  rw[ByteArray.data_append,Array.toList_append];simpa [decB]using dcd_more h
 exact ByteArray.ext (Array.ext' h1)
theorem decB_small {n:Nat} (h:n<10):decB n=⟨#[UInt8.ofNat (48+n%10)]⟩:=by
 unfold decB;rw[dcd_small h,Nat.mod_eq_of_lt h]
theorem dig_nat (n:Nat):((UInt8.ofNat (48+n%10)).toNat:Int)=48+(n:Int)%10:=by
 have h:(UInt8.ofNat (48+n%10)).toNat=48+n%10:=by
  rw[UInt8.toNat_ofNat'];have:=Nat.mod_lt n (show 0<10 by decide);omega
 rw[h];omega
theorem conv_one (op:UInt8) (w:World):(convert 125 9 (.slice (some ⟨w.heap.size,0,none⟩) 1 1)).run Tryz.prog (w.alloc (.cells #[.int .u8 (op.toNat:Int)] 5))= .ok (.string ⟨#[op]⟩) (w.alloc (.cells #[.int .u8 (op.toNat:Int)] 5)):=by
 have h:Cells (w.alloc (.cells #[.int .u8 (op.toNat:Int)] 5)) (some ⟨w.heap.size,0,none⟩) (bv [op]):=fun _=>⟨_,rfl,cell_one_new w _ _⟩
 exact conv_str (l:=[op]) h 1 _ _ 5 Tryz.underlying125 Tryz.underlying5 Tryz.underlying9
set_option maxRecDepth 100000 in
set_option maxHeartbeats 8000000 in
theorem rdigits_any (n:Nat) (hn:n<9223372036854775808): ∀(w:World),Calls Tryz.prog 114 #[.int .i64 n] w fun e w'=>e= .returned (.string (decB n))/\Below w.heap.size w w':=by
 induction n using Nat.strongRecOn with
 |_ n ih=>
  intro w;have hcv:=conv_one (UInt8.ofNat (48+n%10)) w;rw[dig_nat]at hcv;have HCV:=zH hcv;have hlen:(decB (n / 10)).size<=100:=by
   have h1:=decB_size (n / 10);rw[h1];exact Nat.le_trans (dcd_len 19 (n / 10) (by omega)) (by decide)
  have hsm:= @decB_small n;have hmo:= @decB_more n;obtain⟨d,hd⟩: ∃d,UInt8.ofNat (48+n%10)=d:=⟨_,rfl⟩;rw[hd]at hsm hmo HCV;have m1:Int.tmod (n:Int) 10=(n:Int)%10:=Int.tmod_eq_emod_of_nonneg (by omega);have m2:IntKind.i64.wrap (48+(n:Int)%10)=48+(n:Int)%10:=by rw[IntKind.wrap_i64];omega
  have m3:IntKind.u8.wrap (48+(n:Int)%10)=48+(n:Int)%10:=by rw[IntKind.wrap_u8];omega
  by_cases h:n<10
  ·have HD:=zH (hsm h);clear ih hcv hsm hmo hd;have g9:decide ((9:Int)<(n:Int))=false:=decide_eq_false (by omega);have hcv:=HCV.out;go_enter Tryz.func114,Tryz.ntmps114;go_wp2_with fail;go_ret;rw[HD.out];exact⟨rfl,(Below.refl _ _).alloc (Nat.le_refl _) _⟩
  ·have HD:=zH (hmo h);have hI:=fun W=>ih (n / 10) (by omega) (by omega) W
   have e10:((n / 10:Nat):Int)=(n:Int) / 10:=by omega
   simp only[e10]at hI;have HI:=zH hI;clear ih hcv hI e10 hsm hmo hd;have g9:decide ((9:Int)<(n:Int))=true:=decide_eq_true (by omega);have d1:Int.tdiv (n:Int) 10=(n:Int) / 10:=Int.tdiv_eq_ediv_of_nonneg (by omega);have d2:IntKind.i64.wrap ((n:Int) / 10)=(n:Int) / 10:=by rw[IntKind.wrap_i64];omega
   have hcv:=HCV.out;have zc: ¬(9223372036854775807<(decB (n / 10)).size+1):=by omega
   go_enter Tryz.func114,Tryz.ntmps114;go_wp2_with fail;refine(HI.out _).mono ?_;rintro e w1 ⟨rfl,hb1⟩;have HB1:=zH hb1;clear hb1;go_wp2_with fail;go_ret;rw[HD.out];exact⟨rfl,((Below.refl _ _).alloc (Nat.le_refl _) _).trans (HB1.out.mono (by simp))⟩
open Go.RowKit
theorem bytes_ext {a b:ByteArray} (h:a.data.toList=b.data.toList):a=b:=ByteArray.ext (Array.ext' h)
theorem decB_list (n:Nat):(decB n).data.toList=Lib.itoa (n:Int):=by rw[itoa_nat];simp[decB]
theorem rdig {n:Int} (h0:0<=n) (h1:n<10000000000): ∃d:ByteArray,d.data.toList=Lib.itoa n/\d.size<=11/\ ∀(w:World),Calls Tryz.prog 114 #[.int .i64 n] w fun e w'=>e= .returned (.string d)/\Below w.heap.size w w':=by
 obtain⟨m,rfl⟩:=Int.eq_ofNat_of_zero_le h0;refine⟨decB m,decB_list m, ?_,fun w=>rdigits_any m (by omega) w⟩;have h2:=itoa_len h0 h1;rw[<-decB_list,Array.length_toList]at h2;exact h2
theorem size_lenB (b:ByteArray):b.size=b.data.toList.length:=by rw[Array.length_toList];rfl
set_option maxRecDepth 100000 in
set_option maxHeartbeats 8000000 in
theorem rtext1 (t:ByteArray) (n:Int) (A:Option Addr) (cap:Nat) (w:World) (hsm:t.size<=900000):
 Calls Tryz.prog 104 #[.agg #[.int .u8 1,.string t,.int .i64 n,.slice A 0 cap]] w fun e w'=>e= .returned (.string (textB (.node 1 t n [])))/\Below w.heap.size w w':=by
 have HE:=zH (show textB (.node 1 t n [])=(⟨#[115]⟩:ByteArray)++t from bytes_ext (by rw[ByteArray.data_append,Array.toList_append];simp[textB,textT]));have zc: ¬(9223372036854775807<1+t.size):=by omega
 have hb0:Below w.heap.size w (w.alloc (zO1 1 t n A 0 cap)):=(Below.refl _ _).alloc (Nat.le_refl _) _;have HB0:=zH hb0;have HX:=zH (show(w.alloc (zO1 1 t n A 0 cap)).heap[w.heap.size]? =some (zO1 1 t n A 0 cap)from Go.heap_alloc_new w _);clear hb0;obtain⟨q0,q1,q2,q3⟩:=cN4 HX.out;go_enter Tryz.func104,Tryz.ntmps104;go_wp2_with fail;go_ret;rw[HE.out];exact⟨rfl,HB0.out⟩
set_option maxRecDepth 100000 in
set_option maxHeartbeats 8000000 in
theorem rtext2 (t:ByteArray) (n:Int) (A:Option Addr) (cap:Nat) (w:World) (hsm:t.size<=900000):
 Calls Tryz.prog 104 #[.agg #[.int .u8 2,.string t,.int .i64 n,.slice A 0 cap]] w fun e w'=>e= .returned (.string (textB (.node 2 t n [])))/\Below w.heap.size w w':=by
 have HE:=zH (show textB (.node 2 t n [])=(⟨#[112]⟩:ByteArray)++t from bytes_ext (by rw[ByteArray.data_append,Array.toList_append];simp[textB,textT]));have zc: ¬(9223372036854775807<1+t.size):=by omega
 have hb0:Below w.heap.size w (w.alloc (zO1 2 t n A 0 cap)):=(Below.refl _ _).alloc (Nat.le_refl _) _;have HB0:=zH hb0;have HX:=zH (show(w.alloc (zO1 2 t n A 0 cap)).heap[w.heap.size]? =some (zO1 2 t n A 0 cap)from Go.heap_alloc_new w _);clear hb0;obtain⟨q0,q1,q2,q3⟩:=cN4 HX.out;go_enter Tryz.func104,Tryz.ntmps104;go_wp2_with fail;go_ret;rw[HE.out];exact⟨rfl,HB0.out⟩
set_option maxRecDepth 100000 in
set_option maxHeartbeats 8000000 in
theorem rtext3 (t:ByteArray) (n:Int) (A:Option Addr) (cap:Nat) (w:World) (hsm:t.size<=900000) (hn0:0<=n) (hn1:n<1073741824):
 Calls Tryz.prog 104 #[.agg #[.int .u8 3,.string t,.int .i64 n,.slice A 0 cap]] w fun e w'=>e= .returned (.string (textB (.node 3 t n [])))/\Below w.heap.size w w':=by
 obtain⟨d,hd,hdz,hdc⟩:=rdig hn0 (show n<10000000000 by omega);have HE:=zH (show textB (.node 3 t n [])=(⟨#[97]⟩:ByteArray)++d++(⟨#[59]⟩:ByteArray)from bytes_ext (by rw[ByteArray.data_append,Array.toList_append,ByteArray.data_append,Array.toList_append,hd];simp[textB,textT]));have HD:=zH hdc;clear hd hdc;have zc: ¬(9223372036854775807<1+d.size):=by omega
 have zd: ¬(9223372036854775807<1+d.size+1):=by omega
 have hb0:Below w.heap.size w (w.alloc (zO1 3 t n A 0 cap)):=(Below.refl _ _).alloc (Nat.le_refl _) _;have HB0:=zH hb0;have HX:=zH (show(w.alloc (zO1 3 t n A 0 cap)).heap[w.heap.size]? =some (zO1 3 t n A 0 cap)from Go.heap_alloc_new w _);clear hb0;obtain⟨q0,q1,q2,q3⟩:=cN4 HX.out;go_enter Tryz.func104,Tryz.ntmps104;go_wp2_with fail;refine(HD.out _).mono ?_;rintro e w1 ⟨rfl,hb1⟩;have HB1:=zH (HB0.out.trans (hb1.mono HB0.out.size));clear hb1 q0 q1 q2 q3;go_wp2_with fail;go_ret;rw[HE.out];exact⟨rfl,HB1.out⟩
set_option maxRecDepth 100000 in
set_option maxHeartbeats 8000000 in
theorem rtext4 (t:ByteArray) (n:Int) (A:Option Addr) (cap:Nat) (w:World) (hsm:t.size<=900000) (hn0:0<=n) (hn1:n<1073741824):
 Calls Tryz.prog 104 #[.agg #[.int .u8 4,.string t,.int .i64 n,.slice A 0 cap]] w fun e w'=>e= .returned (.string (textB (.node 4 t n [])))/\Below w.heap.size w w':=by
 obtain⟨d,hd,hdz,hdc⟩:=rdig hn0 (show n<10000000000 by omega);have HE:=zH (show textB (.node 4 t n [])=(⟨#[111]⟩:ByteArray)++d++(⟨#[59]⟩:ByteArray)from bytes_ext (by rw[ByteArray.data_append,Array.toList_append,ByteArray.data_append,Array.toList_append,hd];simp[textB,textT]));have HD:=zH hdc;clear hd hdc;have zc: ¬(9223372036854775807<1+d.size):=by omega
 have zd: ¬(9223372036854775807<1+d.size+1):=by omega
 have hb0:Below w.heap.size w (w.alloc (zO1 4 t n A 0 cap)):=(Below.refl _ _).alloc (Nat.le_refl _) _;have HB0:=zH hb0;have HX:=zH (show(w.alloc (zO1 4 t n A 0 cap)).heap[w.heap.size]? =some (zO1 4 t n A 0 cap)from Go.heap_alloc_new w _);clear hb0;obtain⟨q0,q1,q2,q3⟩:=cN4 HX.out;go_enter Tryz.func104,Tryz.ntmps104;go_wp2_with fail;refine(HD.out _).mono ?_;rintro e w1 ⟨rfl,hb1⟩;have HB1:=zH (HB0.out.trans (hb1.mono HB0.out.size));clear hb1 q0 q1 q2 q3;go_wp2_with fail;go_ret;rw[HE.out];exact⟨rfl,HB1.out⟩
set_option maxRecDepth 100000 in
set_option maxHeartbeats 8000000 in
theorem rtext5 (l:List LockT) (t:ByteArray) (n:Int) (A:Option Addr) (cap:Nat) (w:World) (hsm:t.size<=900000) (hl:l.length<=8) (xs:List Value) (hc:Cells w A xs) (hlk:LocksC w l xs)
 (hkk: ∀(i:Nat) (hi:i<l.length) (W:World) (cs:List Value),LockC w l[i] cs->Below w.heap.size w W->Calls Tryz.prog 104 #[.agg cs.toArray] W fun e W'=>e= .returned (.string (textB l[i]))/\Below W.heap.size W W') (htl: ∀k,k<=l.length->(textTs (l.take k)).length<=1000000*64):
 Calls Tryz.prog 104 #[.agg #[.int .u8 5,.string t,.int .i64 n,.slice A l.length cap]] w fun e w'=>e= .returned (.string (textB (.node 5 t n l)))/\Below w.heap.size w w':=by
 obtain⟨d,hd,hdz,hdc⟩:=rdig (n:=(l.length:Int)) (by omega) (by omega);have HD:=zH hdc;have HC:=zH hc;have HL:=zH hlk;have HKK:=zH hkk;have HTL:=zH htl;have HP0:=zH (show(⟨#[38]⟩:ByteArray)++d++(⟨#[58]⟩:ByteArray)=⟨(38::(Lib.itoa l.length++[58]++textTs (l.take 0))).toArray⟩from bytes_ext (by rw[ByteArray.data_append,Array.toList_append,ByteArray.data_append,Array.toList_append,hd];simp[textTs]));have HFN:=zH (show textB (.node 5 t n l)=⟨(38::(Lib.itoa l.length++[58]++textTs (l.take l.length))).toArray⟩from bytes_ext (by rw[List.take_length];simp[textB,textT]));have HSZ:=zH (show∀j,j<=l.length->(⟨(38::(Lib.itoa l.length++[58]++textTs (l.take j))).toArray⟩:ByteArray).size<=64000020 from fun j hj=>by
  have h1:=htl j hj;have h2:=itoa_len (n:=(l.length:Int)) (by omega) (by omega);rw[size_lenB];simp only[List.length_append,List.length_cons,List.length_nil];omega)
 clear hd hdc hc hlk hkk htl;have zc: ¬(9223372036854775807<1+d.size):=by omega
 have zd: ¬(9223372036854775807<1+d.size+1):=by omega
 have hb0:Below w.heap.size w (w.alloc (zO1 5 t n A l.length cap)):=(Below.refl _ _).alloc (Nat.le_refl _) _;have HB0:=zH hb0;have HX:=zH (show(w.alloc (zO1 5 t n A l.length cap)).heap[w.heap.size]? =some (zO1 5 t n A l.length cap)from Go.heap_alloc_new w _);clear hb0;obtain⟨q0,q1,q2,q3⟩:=cN4 HX.out;go_enter Tryz.func104,Tryz.ntmps104;go_wp2_with fail;refine(HD.out _).mono ?_;rintro e w1 ⟨rfl,hb1⟩;have HB1:=zH hb1;replace q0:=cell_below hb1 q0;replace q3:=cell_below hb1 q3;clear hb1 q1 q2;go_wp2_with fail;obtain⟨s0,hs0⟩: ∃s,(⟨#[38]⟩:ByteArray)++d++(⟨#[58]⟩:ByteArray)=s:=⟨_,rfl⟩;rw[hs0];have HP1:=zH (hs0.symm.trans HP0.out);clear hs0;clear q0 q3 HX zc zd;go_loopw [3,4] (fun s i wr=> ∃j:Nat,j<=l.length/\i= .int .i64 (j:Int)/\s= .string ⟨(38::(Lib.itoa l.length++[58]++textTs (l.take j))).toArray⟩/\Below (w.alloc (zO1 5 t n A l.length cap)).heap.size (w.alloc (zO1 5 t n A l.length cap)) wr) (fun _ i _=>l.length - (intOf i).toNat)
 case atStart=>exact⟨0,Nat.zero_le _,rfl,by rw[HP1.out],HB1.out⟩
 case round=>
  obtain⟨j,hj,rfl,rfl,hbr⟩:=hrel;have HBR:=zH hbr;have q3:wr.cell? ⟨w.heap.size,3,none⟩=some (.slice A l.length cap):=cell_below hbr (cell_of (j:=3) (Go.heap_alloc_new w (zO1 5 t n A l.length cap)) rfl);have HW:=zH (HB0.out.trans (hbr.mono HB0.out.size));by_cases hlt:j<l.length
  ·obtain⟨ad,B,cp,rfl,d0,d1,d2,d3,hlk⟩:=lock_at HC.out HL.out hlt;replace d0:=cell_below HW.out d0;replace d1:=cell_below HW.out d1;replace d2:=cell_below HW.out d2;replace d3:=cell_below HW.out d3;have HCALL:=zH (fun W=>HKK.out j hlt W _ hlk);have hsz:=HSZ.out j (by omega);have hsz1:=HSZ.out (j+1) (by omega);have hsn:=textTs_snoc l j hlt;have hcat:(⟨(38::(Lib.itoa l.length++[58]++textTs (l.take j))).toArray⟩:ByteArray)++textB l[j]=⟨(38::(Lib.itoa l.length++[58]++textTs (l.take (j+1)))).toArray⟩:=bytes_ext (by rw[ByteArray.data_append,Array.toList_append,hsn];simp[textB]);have htj:(⟨(38::(Lib.itoa l.length++[58]++textTs (l.take j))).toArray⟩:ByteArray).size+(textB l[j]).size<=64000020:=by rw[<-ByteArray.size_append,hcat];exact hsz1
   obtain⟨sj,hsj⟩: ∃s,(⟨(38::(Lib.itoa l.length++[58]++textTs (l.take j))).toArray⟩:ByteArray)=s:=⟨_,rfl⟩;rw[hsj]at hcat htj hsz⊢;have HCAT:=zH hcat;have zc: ¬(9223372036854775807<sj.size+(textB l[j]).size):=by omega
   clear hlk hbr hsz1 hsn hcat htj hsj;go_wp2_with fail;refine(HCALL.out _ ?_).mono ?_
   ·exact HW.out
   rintro e w4 ⟨rfl,hb4⟩;have HB4:=zH (HBR.out.trans (hb4.mono HBR.out.size));clear hb4 d0 d1 d2 d3;go_wp2_with fail;go_roundw
   case rel=>exact⟨j+1,by omega,by go_num,by rw[HCAT.out],HB4.out⟩
   case measure=>simp[intOf];omega
  ·obtain rfl:j=l.length:=by omega
   have HBF:=zH HW.out;clear hbr;go_wp2_with fail;go_ret;rw[HFN.out];exact⟨rfl,HBF.out⟩
set_option maxRecDepth 100000 in
set_option maxHeartbeats 8000000 in
theorem rtext6 (l:List LockT) (t:ByteArray) (n:Int) (A:Option Addr) (cap:Nat) (w:World) (hsm:t.size<=900000) (hl:l.length<=8) (xs:List Value) (hc:Cells w A xs) (hlk:LocksC w l xs)
 (hkk: ∀(i:Nat) (hi:i<l.length) (W:World) (cs:List Value),LockC w l[i] cs->Below w.heap.size w W->Calls Tryz.prog 104 #[.agg cs.toArray] W fun e W'=>e= .returned (.string (textB l[i]))/\Below W.heap.size W W') (htl: ∀k,k<=l.length->(textTs (l.take k)).length<=1000000*64):
 Calls Tryz.prog 104 #[.agg #[.int .u8 6,.string t,.int .i64 n,.slice A l.length cap]] w fun e w'=>e= .returned (.string (textB (.node 6 t n l)))/\Below w.heap.size w w':=by
 obtain⟨d,hd,hdz,hdc⟩:=rdig (n:=(l.length:Int)) (by omega) (by omega);have HD:=zH hdc;have HC:=zH hc;have HL:=zH hlk;have HKK:=zH hkk;have HTL:=zH htl;have HP0:=zH (show(⟨#[124]⟩:ByteArray)++d++(⟨#[58]⟩:ByteArray)=⟨(124::(Lib.itoa l.length++[58]++textTs (l.take 0))).toArray⟩from bytes_ext (by rw[ByteArray.data_append,Array.toList_append,ByteArray.data_append,Array.toList_append,hd];simp[textTs]));have HFN:=zH (show textB (.node 6 t n l)=⟨(124::(Lib.itoa l.length++[58]++textTs (l.take l.length))).toArray⟩from bytes_ext (by rw[List.take_length];simp[textB,textT]));have HSZ:=zH (show∀j,j<=l.length->(⟨(124::(Lib.itoa l.length++[58]++textTs (l.take j))).toArray⟩:ByteArray).size<=64000020 from fun j hj=>by
  have h1:=htl j hj;have h2:=itoa_len (n:=(l.length:Int)) (by omega) (by omega);rw[size_lenB];simp only[List.length_append,List.length_cons,List.length_nil];omega)
 clear hd hdc hc hlk hkk htl;have zc: ¬(9223372036854775807<1+d.size):=by omega
 have zd: ¬(9223372036854775807<1+d.size+1):=by omega
 have hb0:Below w.heap.size w (w.alloc (zO1 6 t n A l.length cap)):=(Below.refl _ _).alloc (Nat.le_refl _) _;have HB0:=zH hb0;have HX:=zH (show(w.alloc (zO1 6 t n A l.length cap)).heap[w.heap.size]? =some (zO1 6 t n A l.length cap)from Go.heap_alloc_new w _);clear hb0;obtain⟨q0,q1,q2,q3⟩:=cN4 HX.out;go_enter Tryz.func104,Tryz.ntmps104;go_wp2_with fail;refine(HD.out _).mono ?_;rintro e w1 ⟨rfl,hb1⟩;have HB1:=zH hb1;replace q0:=cell_below hb1 q0;replace q3:=cell_below hb1 q3;clear hb1 q1 q2;go_wp2_with fail;obtain⟨s0,hs0⟩: ∃s,(⟨#[124]⟩:ByteArray)++d++(⟨#[58]⟩:ByteArray)=s:=⟨_,rfl⟩;rw[hs0];have HP1:=zH (hs0.symm.trans HP0.out);clear hs0;clear q0 q3 HX zc zd;go_loopw [3,4] (fun s i wr=> ∃j:Nat,j<=l.length/\i= .int .i64 (j:Int)/\s= .string ⟨(124::(Lib.itoa l.length++[58]++textTs (l.take j))).toArray⟩/\Below (w.alloc (zO1 6 t n A l.length cap)).heap.size (w.alloc (zO1 6 t n A l.length cap)) wr) (fun _ i _=>l.length - (intOf i).toNat)
 case atStart=>exact⟨0,Nat.zero_le _,rfl,by rw[HP1.out],HB1.out⟩
 case round=>
  obtain⟨j,hj,rfl,rfl,hbr⟩:=hrel;have HBR:=zH hbr;have q3:wr.cell? ⟨w.heap.size,3,none⟩=some (.slice A l.length cap):=cell_below hbr (cell_of (j:=3) (Go.heap_alloc_new w (zO1 6 t n A l.length cap)) rfl);have HW:=zH (HB0.out.trans (hbr.mono HB0.out.size));by_cases hlt:j<l.length
  ·obtain⟨ad,B,cp,rfl,d0,d1,d2,d3,hlk⟩:=lock_at HC.out HL.out hlt;replace d0:=cell_below HW.out d0;replace d1:=cell_below HW.out d1;replace d2:=cell_below HW.out d2;replace d3:=cell_below HW.out d3;have HCALL:=zH (fun W=>HKK.out j hlt W _ hlk);have hsz:=HSZ.out j (by omega);have hsz1:=HSZ.out (j+1) (by omega);have hsn:=textTs_snoc l j hlt;have hcat:(⟨(124::(Lib.itoa l.length++[58]++textTs (l.take j))).toArray⟩:ByteArray)++textB l[j]=⟨(124::(Lib.itoa l.length++[58]++textTs (l.take (j+1)))).toArray⟩:=bytes_ext (by rw[ByteArray.data_append,Array.toList_append,hsn];simp[textB]);have htj:(⟨(124::(Lib.itoa l.length++[58]++textTs (l.take j))).toArray⟩:ByteArray).size+(textB l[j]).size<=64000020:=by rw[<-ByteArray.size_append,hcat];exact hsz1
   obtain⟨sj,hsj⟩: ∃s,(⟨(124::(Lib.itoa l.length++[58]++textTs (l.take j))).toArray⟩:ByteArray)=s:=⟨_,rfl⟩;rw[hsj]at hcat htj hsz⊢;have HCAT:=zH hcat;have zc: ¬(9223372036854775807<sj.size+(textB l[j]).size):=by omega
   clear hlk hbr hsz1 hsn hcat htj hsj;go_wp2_with fail;refine(HCALL.out _ ?_).mono ?_
   ·exact HW.out
   rintro e w4 ⟨rfl,hb4⟩;have HB4:=zH (HBR.out.trans (hb4.mono HBR.out.size));clear hb4 d0 d1 d2 d3;go_wp2_with fail;go_roundw
   case rel=>exact⟨j+1,by omega,by go_num,by rw[HCAT.out],HB4.out⟩
   case measure=>simp[intOf];omega
  ·obtain rfl:j=l.length:=by omega
   have HBF:=zH HW.out;clear hbr;go_wp2_with fail;go_ret;rw[HFN.out];exact⟨rfl,HBF.out⟩
theorem rtext_all: ∀(m:Nat) (x:LockT) (cs:List Value) (w:World),sizeT x<=m->sizeT x<=64->smallT x->rightT x=true->LockC w x cs->
 Calls Tryz.prog 104 #[.agg cs.toArray] w fun e w'=>e= .returned (.string (textB x))/\Below w.heap.size w w'
 |0,x,_,_,hm,_,_,_,_=>absurd (sizeT_pos x) (by omega)
 |m+1,.node k t n l,cs,w,hm,h64,hs,hr,hc=>by
  unfold LockC at hc;obtain⟨A,cap,xs,rfl,h2,h3⟩:=hc;obtain⟨s1,s2,s3⟩:=smallT_parts hs;simp only[LockT.term,LockT.kids]at s1 s2 s3;have hr':=hr;unfold rightT at hr';rw[Bool.and_eq_true]at hr';have hz:sizeT (.node k t n l)=sizeTs l+1:=sizeT_kids _;rcases okT_cases hr'.1 with⟨rfl,h⟩|⟨rfl,h⟩|⟨rfl,h,n0,n1⟩|⟨rfl,h,n0,n1⟩|⟨hk,h⟩
  ·obtain rfl:=sub_nil h;exact rtext1 t n A cap w s1
  ·obtain rfl:=sub_nil h;exact rtext2 t n A cap w s1
  ·obtain rfl:=sub_nil h;exact rtext3 t n A cap w s1 n0 n1
  ·obtain rfl:=sub_nil h;exact rtext4 t n A cap w s1 n0 n1
  ·have hkk: ∀(i:Nat) (hi:i<l.length) (W:World) (cs:List Value),LockC w l[i] cs->Below w.heap.size w W->_:=fun i hi W cs g0 g1=>
    rtext_all m l[i] cs W (by have:=sizeTs_at i hi;omega) (by have:=sizeTs_at i hi;omega) (smallTs_at s3 i hi) (rightTs_at hr'.2 i hi) (LockC.below g1 _ _ g0)
   have htl: ∀k,k<=l.length->(textTs (l.take k)).length<=1000000*64:=fun k _=>Nat.le_trans (textTs_len _ (rightTs_take hr'.2 k) (smallTs_take s3 k)) (by have:=sizeTs_take l k;omega)
   rcases hk with rfl|rfl
   ·exact rtext5 l t n A cap w s1 h xs h2 h3 hkk htl
   ·exact rtext6 l t n A cap w s1 h xs h2 h3 hkk htl
set_option maxRecDepth 100000 in
set_option maxHeartbeats 8000000 in
theorem rwrite_any (x:LockT) (cs:List Value) (w:World) (hs:smallT x) (hc:LockC w x cs):Calls Tryz.prog 89 #[.agg cs.toArray] w fun e w'=>e= .returned (.tuple #[.string (writeE x).1,.int .i64 (writeE x).2])/\Below w.heap.size w w':=by
 obtain⟨A,cap,xs,rfl,-,-⟩:=hc.shape;have hb:Below w.heap.size w (w.alloc (zO1 x.kind x.term x.n A x.kids.length cap)):=(Below.refl _ _).alloc (Nat.le_refl _) _;have HR:=zH (rlockright_any x _ _ hs (LockC.below hb _ _ hc));have HC:=zH hc;have HB:=zH hb;have hz:lockB x=true->rightT x=true/\sizeT x<=64:=fun h=>by
  unfold lockB at h;rw[Bool.and_eq_true,decide_eq_true_eq]at h;exact h
 have HZ:=zH hz;have HX:=zH (show(w.alloc (zO1 x.kind x.term x.n A x.kids.length cap)).heap[w.heap.size]? =some (zO1 x.kind x.term x.n A x.kids.length cap)from Go.heap_alloc_new w _);clear hb hc hz;obtain⟨R,hR⟩: ∃R,writeE x=R:=⟨_,rfl⟩;rw[hR];have HWE:=zH hR;clear hR;obtain⟨q0,q1,q2,q3⟩:=cN4 HX.out;go_enter Tryz.func89,Tryz.ntmps89;go_wp2_with fail;refine HR.out.mono ?_;rintro e w1 ⟨rfl,hb1⟩;have HB1:=zH (HB.out.trans (hb1.mono HB.out.size));replace q0:=cell_below hb1 q0;replace q1:=cell_below hb1 q1;replace q2:=cell_below hb1 q2;replace q3:=cell_below hb1 q3;clear hb1;cases hq:lockB x with
 |false=>
  have HE:=zH (show R=(⟨#[]⟩,110) by rw[<-HWE.out];unfold writeE;rw[hq];rfl);clear hq;go_wp2_with fail;go_ret2;rw[HE.out];exact⟨rfl,HB1.out⟩
 |true=>
  have HE:=zH (show R=(textB x,0) by rw[<-HWE.out];unfold writeE;rw[hq];rfl);obtain⟨hz1,hz2⟩:=HZ.out hq;have HWR:=zH (rtext_all (sizeT x) x _ w1 (Nat.le_refl _) hz2 hs hz1 (LockC.below HB1.out _ _ HC.out));clear hq hz1;go_wp2_with fail;refine HWR.out.mono ?_;rintro e w2 ⟨rfl,hb2⟩;have HB2:=zH (HB1.out.trans (hb2.mono HB1.out.size));clear hb2;go_wp2_with fail;go_ret2;rw[HE.out];exact⟨rfl,HB2.out⟩
end Go.Proofs.YtncniomiplnaaaaGreatDoor
