/- What a transaction makes. · CommitSums, plain: what a built commitment's lines come to. -/
import Derived.Test.YtncniomiplnaaaaGreatDoorQ13
import Derived.Test.YtncniomiplnaaaaGreatDoorQ44
set_option linter.all false
namespace Go.Proofs.YtncniomiplnaaaaGreatDoor
open Go.RowKit
def totO:List OutT->Int
 |[]=>0
 |x::r=>x.value+totO r
theorem totO_app: ∀a b:List OutT,totO (a++b)=totO a+totO b
 |[],b=>by simp[totO]
 |x::r,b=>by
  show x.value+totO (r++b)=x.value+totO r+totO b;rw[totO_app r b];omega
theorem totO_nonneg: ∀{l:List OutT},(∀x∈l,0<=x.value)->0<=totO l
 |[],_=>by simp[totO]
 |x::r,h=>by
  have h1:=h x (List.mem_cons_self ..);have h2:=totO_nonneg (l:=r) fun y hy=>h y (List.mem_cons_of_mem _ hy)
  simp only[totO];omega
theorem totO_take {l:List OutT} (h: ∀x∈l,0<=x.value) (j:Nat):0<=totO (l.take j)/\totO (l.take j)<=totO l:=by
 have e:totO l=totO (l.take j)+totO (l.drop j):=by rw[<-totO_app,List.take_append_drop]
 have h1:=totO_nonneg (l:=l.take j) fun x hx=>h x (List.mem_of_mem_take hx)
 have h2:=totO_nonneg (l:=l.drop j) fun x hx=>h x (List.mem_of_mem_drop hx)
 omega
set_option maxRecDepth 100000 in
set_option maxHeartbeats 8000000 in
theorem total_any (ins:List InT) (outs:List OutT) (after tag:Int) (A B:Option Addr) (ca cb:Nat) (w:World) (hs:smallTx ⟨ins,outs,after,tag⟩) (hc:TxC w ⟨ins,outs,after,tag⟩ A B) (hv:VarsOk w) (hr:txB ⟨ins,outs,after,tag⟩=true) (hp: ∀x∈outs,0<=x.value) (ht:totO outs<=4000000000000000000) (hl:outs.length<=1000000):
 Calls Tryz.prog 31 #[.agg #[.slice A ins.length ca,.slice B outs.length cb,.int .i64 after,.int .i64 tag]] w fun e w'=>e= .returned (.int .i64 (totO outs))/\Below w.heap.size w w':=by
 have hb0:Below w.heap.size w (w.alloc (zO4 A ins.length ca B outs.length cb after tag)):=(Below.refl _ _).alloc (Nat.le_refl _) _;have hbx:TxBox (w.alloc (zO4 A ins.length ca B outs.length cb after tag)) w.heap.size A ins.length ca B outs.length cb after tag:=Go.heap_alloc_new w _;obtain⟨p0,p1,p2,p3⟩:=hbx.cells;have HB:=zH hb0;have HX:=zH hbx;have HC:=zH (hc.below hb0);have HR:=zH (txright_any ins outs after tag A B ca cb (w.alloc (zO4 A ins.length ca B outs.length cb after tag)) hs (hc.below hb0) (hv.below hb0));have HP:=zH (fun j=>totO_take hp j);have HT:=zH ht;have HTR:=zH hr;clear hb0 hbx hc hs hv hr ht hp;go_enter Tryz.func31,Tryz.ntmps31;go_wp2_with fail;generalize w.alloc (zO4 A ins.length ca B outs.length cb after tag)=V at HB HX HC HR p0 p1 p2 p3⊢;go_wp2_with fail;refine HR.out.mono ?_;rintro e w1 ⟨rfl,hb1⟩;rw[HTR.out];have HB1:=zH (HB.out.trans (hb1.mono HB.out.size));have HC1:=zH (HC.out.below hb1);obtain⟨q0,q1,q2,q3⟩:=(HX.out.below hb1).cells;clear p0 p1 p2 p3 hb1;go_wp2_with fail;go_loopw [12,3] (fun i a wr=> ∃j:Nat,j<=outs.length/\i= .int .i64 (j:Int)/\a= .int .i64 (totO (outs.take j))/\Below w1.heap.size w1 wr) (fun i _ _=>outs.length - (intOf i).toNat)
 case atStart=>exact⟨0,Nat.zero_le _,rfl,by rw[List.take_zero];rfl,Below.refl _ _⟩
 case round=>
  clear q0 q1 q2 q3;obtain⟨j,hj,rfl,rfl,hbr⟩:=hrel;by_cases hlt:j<outs.length
  ·obtain⟨-,ys,hy1,hy2⟩:=HC1.out.below hbr;obtain⟨bd,C,cp,rfl,o0,o1,o2,o3,o4,hlk⟩:=out_at hy1 hy2 hlt;have htake:outs.take (j+1)=outs.take j++[outs[j]]:=List.take_succ_eq_append_getElem hlt;have h1:=HP.out j;have h2:=HP.out (j+1);rw[htake,totO_app]at h2;have h3:=HT.out;have HK:=zH (show totO (outs.take (j+1))=totO (outs.take j)+outs[j].value by rw[htake,totO_app];simp[totO]);obtain⟨x,hx⟩: ∃x,outs[j]=x:=⟨_,rfl⟩;rw[hx]at o0 o1 o2 o3 o4 h2 HK;obtain⟨s,hs⟩: ∃s,totO (outs.take j)=s:=⟨_,rfl⟩;rw[hs]at h1 h2 HK⊢;have hw:IntKind.i64.wrap (s+x.value)=s+x.value:=by
    simp only[totO]at h2;rw[IntKind.wrap_i64];omega
   have hbn:Below wr.heap.size wr (wr.alloc (zO13 x.value x.lock.kind x.lock.term x.lock.n C x.lock.kids.length cp)):=(Below.refl _ _).alloc (Nat.le_refl _) _;have y0:(wr.alloc (zO13 x.value x.lock.kind x.lock.term x.lock.n C x.lock.kids.length cp)).cell? ⟨wr.heap.size,0,none⟩=some (.int .i64 x.value):=alloc_cells 0 _ rfl;have HBN:=zH (hbr.trans (hbn.mono hbr.size));clear hbn hlk hbr hy1 hy2 htake h1 h2 h3 hx hs;go_wp2_with fail;go_roundw
   case rel=>exact⟨j+1,hlt,by go_num,by rw[HK.out],HBN.out⟩
   case measure=>simp[intOf];omega
  ·obtain rfl:j=outs.length:=by omega
   go_wp2_with fail;go_ret;exact⟨by first|rfl|(rw[List.take_length];rfl),HB1.out.trans (hbr.mono HB1.out.size)⟩
open Go.RowKit
def fS (f:LineP->Int):List LineP->Int
 |[]=>0
 |x::r=>f x+fS f r
theorem fS_app (f:LineP->Int): ∀a b:List LineP,fS f (a++b)=fS f a+fS f b
 |[],b=>by simp[fS]
 |x::r,b=>by
  show f x+fS f (r++b)=f x+fS f r+fS f b;rw[fS_app f r b];omega
theorem fS_ins (lt:LineP->LineP->Bool) (f:LineP->Int) (x:LineP): ∀l:List LineP,fS f (insL lt x l)=f x+fS f l
 |[]=>by simp[insL,fS]
 |y::r=>by
  have ih:=fS_ins lt f x r;unfold insL;split
  ·simp[fS]
  ·simp only[fS];rw[ih];omega
theorem fS_fold (lt:LineP->LineP->Bool) (f:LineP->Int): ∀l p:List LineP,fS f (l.foldl (fun out x=>insL lt x out) p)=fS f l+fS f p
 |[],p=>by simp[fS]
 |x::r,p=>by
  rw[List.foldl_cons,fS_fold lt f r,fS_ins];simp only[fS];omega
theorem fS_ord (lt:LineP->LineP->Bool) (f:LineP->Int) (l:List LineP):fS f (ordL lt l)=fS f l:=by
 unfold ordL;rw[fS_fold];simp[fS]
theorem fS_zero {f:LineP->Int}: ∀{l:List LineP},(∀x∈l,f x=0)->fS f l=0
 |[],_=>rfl
 |x::r,h=>by
  have h1:=h x (List.mem_cons_self ..);have h2:=fS_zero (f:=f) (l:=r) fun y hy=>h y (List.mem_cons_of_mem _ hy)
  simp only[fS];omega
theorem fS_one {f:LineP->Int}: ∀{l:List LineP},(∀x∈l,f x=1)->fS f l=l.length
 |[],_=>rfl
 |x::r,h=>by
  have h1:=h x (List.mem_cons_self ..);have h2:=fS_one (f:=f) (l:=r) fun y hy=>h y (List.mem_cons_of_mem _ hy)
  simp only[fS,List.length_cons];omega
def vA (j:Int) (x:LineP):Int:=if x.what=j then x.v else 0
def cA (j:Int) (x:LineP):Int:=if x.what=j then 1 else 0
def cP (x:LineP):Int:=if 0<=x.what then 1 else 0
def LineOk (d:DealR) (hs:List PayR) (x:LineP):Prop:=0<=x.v/\(x.what= -1\/x.what= -2\/ ∃(j:Nat) (hj:j<hs.length),x.what=(j:Int)/\x.v=hs[j].amt / 1000/\trimB d hs[j].mine hs[j].amt=false)
theorem linesH_mem (d:DealR) (k:KeysR): ∀(hs:List PayR) (i:Nat) (x:LineP),x∈linesH d k i hs-> ∃(j:Nat) (hj:j<hs.length),x.what=((i+j:Nat):Int)/\x.v=hs[j].amt / 1000/\trimB d hs[j].mine hs[j].amt=false
 |[],_,x,h=>by simp[linesH]at h
 |h::r,i,x,hx=>by
  unfold linesH at hx;split at hx
  ·obtain⟨j,hj,a,b,c⟩:=linesH_mem d k r (i+1) x hx;exact⟨j+1,by simpa using hj,by rw[a];congr 1;omega,b,c⟩
  ·rename_i ht;rcases List.mem_cons.1 hx with rfl|hx
   ·exact⟨0,by simp,rfl,rfl,by simpa using ht⟩
   ·obtain⟨j,hj,a,b,c⟩:=linesH_mem d k r (i+1) x hx;exact⟨j+1,by simpa using hj,by rw[a];congr 1;omega,b,c⟩
def addA:List Int->Int
 |[]=>0
 |x::r=>x+addA r
theorem sumE_all: ∀(l:List Int) (n:Int),(sumE n l).2=0->(∀x∈l,0<=x/\x<=2100000000000000000)/\(sumE n l).1=n+addA l
 |[],n,_=>by simp[sumE,addA]
 |a::r,n,h=>by
  obtain⟨h1,h2⟩:=sum_ok h;obtain⟨h3,h4⟩:=sumE_all r (n+a) h2;have hb:=btwB_of h1;refine⟨fun x hx=> ?_, ?_⟩
  ·rcases List.mem_cons.1 hx with rfl|hx
   ·exact hb
   ·exact h3 x hx
  ·have e:sumE n (a::r)=sumE (n+a) r:=by
    have h':(if(btwB a 0 2100000000000000000&&decide (a<=2100000000000000000 - n))=true then sumE (n+a) r else((0,40):Int×Int)).2=0:=h;show(if(btwB a 0 2100000000000000000&&decide (a<=2100000000000000000 - n))=true then sumE (n+a) r else((0,40):Int×Int))=_;split at h'
    ·rename_i hc;rw[if_pos hc]
    ·cases h'
   rw[e,h4];simp only[addA];omega
theorem linesH_sum (d:DealR) (k:KeysR): ∀(hs:List PayR) (i:Nat),(∀h∈hs,0<=h.amt)->fS LineP.v (linesH d k i hs)*1000<=addA (hs.map (·.amt))/\0<=addA (hs.map (·.amt))
 |[],i,_=>by simp[linesH,fS,addA]
 |h::r,i,hh=>by
  have h1:=hh h (List.mem_cons_self ..);obtain⟨h2,h3⟩:=linesH_sum d k r (i+1) fun x hx=>hh x (List.mem_cons_of_mem _ hx)
  unfold linesH;rw[List.map_cons];simp only[addA];split
  ·omega
  ·simp only[fS,lineH];omega
def ownF (d:DealR) (x:Int):Int:=if d.dust<=x then x else 0
theorem base_facts (d:DealR) (k:KeysR) (m o:Int):fS cP (baseL d k m o)=0/\fS (cA (-1)) (baseL d k m o)<=1/\fS (cA (-2)) (baseL d k m o)<=1/\fS (vA (-1)) (baseL d k m o)=ownF d m/\fS (vA (-2)) (baseL d k m o)=ownF d o/\fS LineP.v (baseL d k m o)=ownF d m+ownF d o:=by
 unfold baseL ownF;split<;>split<;>simp[fS,cP,cA,vA]<;>omega
theorem hs_facts (d:DealR) (k:KeysR) (hs:List PayR):fS cP (linesH d k 0 hs)=(linesH d k 0 hs).length/\(∀j:Int,j<0->fS (cA j) (linesH d k 0 hs)=0/\fS (vA j) (linesH d k 0 hs)=0):=by
 refine⟨fS_one fun x hx=> ?_,fun j hj=>⟨fS_zero fun x hx=> ?_,fS_zero fun x hx=> ?_⟩⟩<;>obtain⟨q,hq,a,-,-⟩:=linesH_mem d k hs 0 x hx
 ·unfold cP;rw[if_pos (by omega)]
 ·unfold cA;rw[if_neg (by omega)]
 ·unfold vA;rw[if_neg (by omega)]
theorem up_v: ∀{S:List LineP},Up ltP S-> ∀i (hi:i+1<S.length),S[i].v<=S[i+1].v
 |[],_,i,hi=>by simp at hi
 |[x],_,i,hi=>by simp at hi
 |x::y::r,h,i,hi=>by
  have h2:=List.pairwise_cons.1 h;cases i with
  |zero=>
   have h3:=h2.1 y (List.mem_cons_self ..);unfold ltP at h3;rw[Bool.or_eq_false_iff]at h3;have:=of_decide_eq_false h3.1;show x.v<=y.v;omega
  |succ j=>exact up_v (S:=y::r) h2.2 j (by simpa using hi)
theorem sums_facts {tx:ByteArray} {pn:Int} {d:DealR} {opener:Bool} {n own other:Int} {hs:List PayR} {k:KeysR} {t:TxT} {ws:List Int} (W:Weak ltP) (h:buildE tx pn d opener n own other hs k=(t,ws,0)):
 ∃S:List LineP,t=txOf tx pn S n/\ws=S.map LineP.what/\txB t=true/\dealE d=0/\hs.length<=60/\S.length<=hs.length+2/\fS LineP.v S<=d.cap/\(∀x∈S,LineOk d hs x)/\fS cP S=(linesH d k 0 hs).length/\fS (cA (-1)) S<=1/\fS (cA (-2)) S<=1/\
  fS (vA (-1)) S=ownF d (ownA opener own (feeE d.rate ((linesH d k 0 hs).length:Int)).1)/\fS (vA (-2)) S=ownF d (otherA opener other (feeE d.rate ((linesH d k 0 hs).length:Int)).1)/\ ∀i (hi:i+1<S.length),S[i].v<=S[i+1].v:=by
 unfold buildE at h;split at h
 ·rename_i hd;split at h
  ·rename_i hb;unfold wholeE at h;split at h
   ·exact absurd (show(180:Int)=0 from congrArg (fun q=>q.2.2) h) (by decide)
   ·split at h
    ·rename_i ht;obtain⟨b1,b2,b3,b4,b5,b6,b7⟩:=bnd_ok hb;obtain⟨s1,s2⟩:=sumE_all _ _ b6;have hd1:=(deal_ok hd).2.2.1;obtain⟨-,hf,-⟩:=fee_ok hd (m:=(linesH d k 0 hs).length) (Nat.le_trans (linesH_len d k hs 0) b5);obtain⟨f,hfe⟩: ∃f,(feeE d.rate ((linesH d k 0 hs).length:Int)).1=f:=⟨_,rfl⟩;rw[hfe]at hf⊢;have ha: ∀x∈hs,0<=x.amt:=fun x hx=>(s1 x.amt (List.mem_cons_of_mem _ (List.mem_cons_of_mem _ (List.mem_map_of_mem hx)))).1
     obtain⟨c1,c2⟩:=linesH_sum d k hs 0 ha;obtain⟨g1,g2⟩:=hs_facts d k hs;obtain⟨e1,e2,e3,e4,e5,e6⟩:=base_facts d k (ownA opener own f) (otherA opener other f);have hL:allL2 d k opener own other hs=baseL d k (ownA opener own f) (otherA opener other f)++linesH d k 0 hs:=by unfold allL2;rw[hfe]
     have fS_all: ∀q:LineP->Int,fS q (ordL ltP (allL2 d k opener own other hs))=fS q (baseL d k (ownA opener own f) (otherA opener other f))+fS q (linesH d k 0 hs):=fun q=>by rw[fS_ord,hL,fS_app]
     simp only[Prod.mk.injEq]at h;obtain⟨rfl,rfl,-⟩:=h;rw[s2]at b7;simp only[addA]at b7;have hm:ownF d (ownA opener own f)*1000<=own/\ownF d (otherA opener other f)*1000<=other:=by
      unfold ownF ownA otherA;cases opener<;>constructor<;>split<;>(try simp)<;>omega
     refine⟨_,rfl,rfl,ht,hd,b5, ?_, ?_, ?_, ?_, ?_, ?_, ?_, ?_,up_v (ordL_up W _)⟩
     ·rw[ordL_len,hL,List.length_append];have h1:=linesH_len d k hs 0;have h2:(baseL d k (ownA opener own f) (otherA opener other f)).length<=2:=by unfold baseL;split<;>split<;>simp
      omega
     ·rw[fS_all,e6];omega
     ·intro x hx;rw[ordL_mem,hL]at hx;rcases List.mem_append.1 hx with hx|hx
      ·unfold baseL at hx;rcases List.mem_append.1 hx with hx|hx
       ·split at hx
        ·rw[List.mem_singleton.1 hx];exact⟨by show(0:Int)<=ownA opener own f;omega,.inl rfl⟩
        ·cases hx
       ·split at hx
        ·rw[List.mem_singleton.1 hx];exact⟨by show(0:Int)<=otherA opener other f;omega,.inr (.inl rfl)⟩
        ·cases hx
      ·obtain⟨j,hj,a,b,c⟩:=linesH_mem d k hs 0 x hx;have:=ha _ (List.getElem_mem hj);exact⟨by rw[b];omega,.inr (.inr ⟨j,hj,by rw[a];congr 1;omega,b,c⟩)⟩
     ·rw[fS_all,e1,g1];omega
     ·rw[fS_all,(g2 (-1) (by decide)).1];omega
     ·rw[fS_all,(g2 (-2) (by decide)).1];omega
     ·rw[fS_all,(g2 (-1) (by decide)).2,e4];omega
     ·rw[fS_all,(g2 (-2) (by decide)).2,e5];omega
    ·exact absurd (show(120:Int)=0 from congrArg (fun q=>q.2.2) h) (by decide)
  ·rename_i hb;exact absurd (congrArg (fun q=>q.2.2) h) hb
 ·rename_i hd;exact absurd (congrArg (fun q=>q.2.2) h) hd
end Go.Proofs.YtncniomiplnaaaaGreatDoor
