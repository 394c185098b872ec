/- Terms in plain Lean: numbers, the reading of a term, what fits. · Terms in plain Lean: the reading of a term; where its parts lie; a part stands for itself. · Terms in plain Lean: a part of a term, taken for itself, is a term. · Terms in plain Lean: right terms, their parts, public keys. · Locks in plain Lean: how many parts, which are right. · Ways to open a lock, in plain Lean. · When one has to go to the ledger; all secrets that may open something: in plain Lean. · The program's number: what its tests come to (plain). · Orders: a stable insertion, from the right as from the left; in plain Lean. · A lock's text, in plain Lean. · Transactions in plain Lean: which are right; how many parts they have. · Coins and their products, in plain Lean. · Deals, fees, payments that are left out; the locks of a commitment: in plain Lean. -/
import Derived.Lib.ParseIntB
import Derived.Lib.AtoiTie
import Derived.WalkKit
import Derived.Lib.Bytealg
import Derived.Sort.Defs
import Derived.Sort.Lot0
import Derived.Lib.ItoaNum
import Derived.Test.YtbiioifpeebjaaaGreatDoorQ0
set_option linter.all false
namespace Go.Proofs.YtbiioifpeebjaaaGreatDoor
def dig (c:UInt8):Bool:=decide (48<=c.toNat)&&decide (c.toNat<=57)
theorem dig_iff {c:UInt8}:dig c=true↔48<=c.toNat/\c.toNat<=57:=by unfold dig;simp
def val (acc:Nat) (l:List UInt8):Nat:=l.foldl (fun n c=>n*10+(c.toNat - 48)) acc
theorem val_cons (acc:Nat) (c:UInt8) (r:List UInt8):val acc (c::r)=val (acc*10+(c.toNat - 48)) r:=by unfold val;rw[List.foldl_cons]
theorem val_nil (acc:Nat):val acc []=acc:=rfl
theorem val_append (l r:List UInt8): ∀acc,val acc (l++r)=val (val acc l) r:=by
 induction l with
 |nil=>intro acc;rfl
 |cons c l ih=>intro acc;rw[List.cons_append,val_cons,val_cons];exact ih _
theorem val_mono (l:List UInt8): ∀acc,acc<=val acc l:=by
 induction l with
 |nil=>intro acc;exact Nat.le_refl _
 |cons c l ih=>intro acc;rw[val_cons];exact Nat.le_trans (by omega) (ih _)
theorem val_big: ∀(l:List UInt8) (acc:Nat),acc*10^l.length<=val acc l
 |[],acc=>by simp[val_nil]
 |c::l,acc=>by
  have h:=val_big l (acc*10+(c.toNat - 48));have e:acc*10^(c::l).length=acc*10*10^l.length:=by rw[List.length_cons,Nat.pow_succ];rw[Nat.mul_comm (10^l.length) 10,Nat.mul_assoc]
  rw[e,val_cons];exact Nat.le_trans (Nat.mul_le_mul_right _ (by omega)) h
theorem val_lt: ∀(l:List UInt8) (acc j:Nat),acc<10^j->l.all dig=true->val acc l<10^(j+l.length)
 |[],acc,j,h,_=>by simpa [val_nil]using h
 |c::l,acc,j,h,hd=>by
  rw[List.all_cons,Bool.and_eq_true,dig_iff]at hd;have h1:acc*10+(c.toNat - 48)<10^(j+1):=by rw[Nat.pow_succ];omega
  have:=val_lt l _ (j+1) h1 hd.2;rw[List.length_cons,show j+(l.length+1)=j+1+l.length by omega,val_cons];exact this
def numOk (ds:List UInt8):Bool:=decide (1<=ds.length)&&decide (ds.length<=19)&&ds.all dig&& !(decide (ds.head? =some 48)&&decide (1<ds.length))&&decide (val 0 ds<9223372036854775808)
def numL (c:UInt8) (l:List UInt8):Option (Nat×Nat):=
 match l.findIdx? (· ==c)with
 |none=>none
 |some k=>if numOk (l.take k)then some (val 0 (l.take k),k)else none
theorem numL_some {c:UInt8} {l:List UInt8} {v k:Nat} (h:numL c l=some (v,k)):v<9223372036854775808/\1<=k/\k<l.length:=by
 unfold numL at h;split at h
 ·cases h
 ·rename_i k' hk;rw[List.findIdx?_eq_some_iff_getElem]at hk;obtain⟨hlt,-,-⟩:=hk;split at h
  ·rename_i ho;injection h with h;injection h with h1 h2;subst h1;subst h2;unfold numOk at ho;simp only[Bool.and_eq_true,decide_eq_true_eq]at ho;obtain⟨⟨⟨⟨h1,-⟩,-⟩,-⟩,h2⟩:=ho;rw[List.length_take]at h1;omega
  ·cases h
theorem parseU (l:List UInt8): ∀(acc j:Nat),acc<10^j->j+l.length<=19->Lib.parseUintM (2^64 - 1) acc l=if l.all dig then .ok (val acc l)else Lib.NumEnd.ofOption none:=by
 induction l with
 |nil=>intro acc j _ _;simp[Lib.parseUintM,val_nil]
 |cons c l ih=>
  intro acc j ha hj;rw[List.length_cons]at hj;have hp:10^j<=10^18:=Nat.pow_le_pow_right (by decide) (by omega);have h18:(10:Nat)^18=1000000000000000000:=by decide
  unfold Lib.parseUintM;rw[List.all_cons];by_cases hc:48<=c.toNat/\c.toNat<=57
  ·rw[if_pos hc,if_neg (by omega),if_neg (by omega),ih _ (j+1) (by rw[Nat.pow_succ];omega) (by omega),dig_iff.2 hc,Bool.true_and,val_cons]
  ·rw[if_neg hc];have:dig c=false:=by cases h:dig c with
    |false=>rfl
    |true=>exact absurd (dig_iff.1 h) hc
   rw[this];rfl
theorem parseI {l:List UInt8} {c:UInt8} (hh:l.head? =some c) (hc:dig c=true) (hl:l.length<=19):
 Lib.parseIntB 64 l=if l.all dig then(if val 0 l<9223372036854775808 then .ok (val 0 l:Int)else .range)else Lib.NumEnd.ofOption none:=by
 cases l with
 |nil=>cases hh
 |cons x r=>
  have hx:x=c:=by simpa using hh
  subst hx;have hd:=dig_iff.1 hc;unfold Lib.parseIntB;simp only;rw[if_neg (by omega: ¬(x.toNat=43\/x.toNat=45))];unfold Lib.parseUintB;rw[if_neg (by simp),parseU _ 0 0 (by decide) (by omega)];by_cases ha:(x::r).all dig=true
  ·rw[if_pos ha,if_pos ha];simp only;by_cases hv:val 0 (x::r)<9223372036854775808
   ·rw[if_neg (by omega),if_neg (by omega),if_pos hv,if_neg (by omega)]
   ·rw[if_pos (by omega),if_neg hv]
  ·rw[if_neg ha,if_neg ha];rfl
def scan (c:UInt8):Nat->Nat->List UInt8->Option (Nat×Nat)
 |_,_,[]=>none
 |n,i,x::r=>
  if x=c/\0<i then some (n,i)
  else if dig x=false\/(n=0/\0<i)then none
  else if(9223372036854775807 - (x.toNat - 48)) / 10<n then none
  else scan c (n*10+(x.toNat - 48)) (i+1) r
theorem val_zero: ∀(l:List UInt8),l.all dig=true->val 0 l=0-> ∀x∈l,x=48
 |[],_,_,x,hx=>by cases hx
 |c::l,hd,h0,x,hx=>by
  rw[List.all_cons,Bool.and_eq_true]at hd;have h1:0*10+(c.toNat - 48)<=val 0 (c::l):=by rw[val_cons];exact val_mono l _
  have hc:=dig_iff.1 hd.1;have e:c.toNat=48:=by omega
  have ec:c=48:=UInt8.toNat_inj.1 e;rcases List.mem_cons.1 hx with rfl|hx
  ·exact ec
  ·have h2:val 0 l=0:=by
    rw[val_cons,e]at h0;simpa using h0
   exact val_zero l hd.2 h2 x hx
theorem numL_scan {c:UInt8} (hc:dig c=false): ∀(l pre:List UInt8),pre.all dig=true-> ¬(pre.head? =some 48/\1<pre.length)->val 0 pre<9223372036854775808->
 scan c (val 0 pre) pre.length l=numL c (pre++l):=by
 have hne: ∀pre:List UInt8,pre.all dig=true-> ∀x∈pre,(x==c)=false:=fun pre hp x hx=>by
  have h:=List.all_eq_true.1 hp x hx;have hxc:x≠c:=fun e=>by rw[e,hc]at h;cases h
  exact beq_false_of_ne hxc
 have hfi: ∀pre:List UInt8,pre.all dig=true-> ∀r,(pre++r).findIdx? (· ==c)=(r.findIdx? (· ==c)).map (· +pre.length):=fun pre hp r=>by
  rw[List.findIdx?_append];have:pre.findIdx? (· ==c)=none:=List.findIdx?_eq_none_iff.2 (hne pre hp);rw[this];cases r.findIdx? (· ==c)<;>simp
 intro l
 induction l with
 |nil=>
  intro pre hp hz hv;unfold scan numL;rw[hfi pre hp];simp
 |cons x r ih=>
  intro pre hp hz hv;unfold scan;by_cases hx:x=c
  ·subst hx;unfold numL;rw[hfi pre hp,List.findIdx?_cons];simp only[beq_self_eq_true,if_true,Option.map_some,Nat.zero_add];have ht:(pre++x::r).take pre.length=pre:=by simp
   rw[ht];by_cases h0:0<pre.length
   ·rw[if_pos ⟨trivial,h0⟩];have h19:pre.length<=19:=by
     cases pre with
     |nil=>simp
     |cons a p=>
      by_cases ha:a=48
      ·have: ¬1<(a::p).length:=fun h=>hz ⟨by rw[ha];rfl,h⟩
       omega
      ·have had:=dig_iff.1 (List.all_eq_true.1 hp a (List.mem_cons_self ..));have h49:49<=a.toNat:=by
        have:a.toNat≠48:=fun e=>ha (UInt8.toNat_inj.1 e)
        omega
       have hb:(0*10+(a.toNat - 48))*10^p.length<=val 0 (a::p):=by rw[val_cons];exact val_big p _
       have h1:10^p.length<=val 0 (a::p):=Nat.le_trans (Nat.le_mul_of_pos_left _ (by omega)) hb;have h2:10^p.length<10^19:=Nat.lt_of_le_of_lt h1 (Nat.lt_trans hv (by decide));have:=(Nat.pow_lt_pow_iff_right (by decide:1<10)).1 h2;rw[List.length_cons];omega
    have ho:numOk pre=true:=by
     unfold numOk;rw[hp,decide_eq_true (show 1<=pre.length from h0),decide_eq_true h19,decide_eq_true hv];simp only[Bool.true_and,Bool.and_true,Bool.not_eq_true',Bool.and_eq_false_iff,decide_eq_false_iff_not];by_cases hh:pre.head? =some 48
     ·exact .inr fun h=>hz ⟨hh,h⟩
     ·exact .inl hh
    rw[if_pos ho]
   ·rw[if_neg (fun h=>h0 h.2),if_pos (.inl hc)];have hp0:pre=[]:=List.length_eq_zero_iff.1 (by omega);subst hp0;rfl
  ·rw[if_neg (fun h=>hx h.1)];have hbad:(∀r',numOk (pre++x::r')=false)->numL c (pre++x::r)=none:=fun hb=>by
    unfold numL;rw[hfi pre hp,List.findIdx?_cons];have:(x==c)=false:=beq_false_of_ne hx;rw[this];cases hq:r.findIdx? (· ==c)with
    |none=>simp
    |some k=>
     simp only[Bool.false_eq_true,if_false,Option.map_some];have ht:(pre++x::r).take (k+1+pre.length)=pre++x::r.take k:=by
      rw[List.take_append];rw[List.take_of_length_le (by omega),show k+1+pre.length - pre.length=k+1 by omega,List.take_succ_cons]
     rw[ht,hb];rfl
   by_cases hd:dig x=false
   ·rw[if_pos (.inl hd),hbad];intro r';unfold numOk;simp[hd]
   ·have hd':dig x=true:=by simpa using hd
    have hdx:=dig_iff.1 hd';by_cases hz0:val 0 pre=0/\0<pre.length
    ·rw[if_pos (.inr hz0),hbad];intro r';have hh:pre.head? =some 48:=by
      cases pre with
      |nil=>simp at hz0
      |cons a p=>rw[val_zero _ hp hz0.1 a (List.mem_cons_self ..)];rfl
     unfold numOk;have h1:(pre++x::r').head? =some 48:=by
      cases pre with
      |nil=>simp at hz0
      |cons a p=>simpa using hh
     have h2:1<(pre++x::r').length:=by simp;omega
     rw[h1,decide_eq_true h2];simp
    ·rw[if_neg (fun h=>h.elim hd hz0)];by_cases hb:(9223372036854775807 - (x.toNat - 48)) / 10<val 0 pre
     ·rw[if_pos hb,hbad];intro r';have h1:val 0 (pre++x::r')=val (val 0 pre*10+(x.toNat - 48)) r':=by rw[val_append,val_cons]
      have h2:=val_mono r' (val 0 pre*10+(x.toNat - 48));have h3: ¬val 0 (pre++x::r')<9223372036854775808:=by rw[h1];omega
      unfold numOk;rw[decide_eq_false h3];simp
     ·rw[if_neg hb];have e1:val 0 (pre++[x])=val 0 pre*10+(x.toNat - 48):=by rw[val_append,val_cons,val_nil]
      have e2:(pre++[x]).length=pre.length+1:=by simp
      have:=ih (pre++[x]) (by rw[List.all_append,hp,List.all_cons,hd'];rfl) (fun h=>by
       rw[e2]at h;cases pre with
       |nil=>exact absurd h.2 (by simp)
       |cons a p=>
        have ha:a=48:=by simpa using h.1
        have hp1:p=[]:=by
         cases p with
         |nil=>rfl
         |cons b q=>exact absurd ⟨by rw[ha];rfl,by simp⟩ hz
        apply hz0;subst hp1;subst ha;exact⟨by decide,by simp⟩) (by rw[e1];omega)
      rw[e1,e2]at this;rw[this];simp
theorem scan_num {c:UInt8} (hc:dig c=false) (l:List UInt8):scan c 0 0 l=numL c l:=by
 have:=numL_scan hc l [] rfl (by simp) (by decide);simpa [val_nil]using this
end Go.Proofs.YtbiioifpeebjaaaGreatDoor
namespace Go.Proofs.YtbiioifpeebjaaaGreatDoor
structure Cut where
 fin:Nat
 deep:Nat
 num:Nat
 text:Nat
 kids:List Nat
def byte (s:List UInt8) (i:Nat):UInt8:=s.getD i 0
def sub (s:List UInt8) (a b:Nat):List UInt8:=(s.drop a).take (b - a)
def leT (a b:List UInt8):Bool:=Op.bytesLess a b||a==b
def isPub (c:UInt8):Bool:=c==80||c==87||c==76
def arity (c:UInt8):Option Nat:=
 if c=80\/c=72 then some 1
 else if c=83\/c=66\/c=88\/c=68\/c=86\/c=87\/c=75\/c=76 then some 2
 else none
def fitsB (s:List UInt8) (c:UInt8) (ks:List Nat):Bool:=
 if c=80 then byte s (ks.getD 0 0) !=86&&byte s (ks.getD 0 0) !=75
 else if c=88 then leT (sub s (ks.getD 0 0) (ks.getD 1 0)) (sub s (ks.getD 1 0) (ks.getD 2 0))
 else if c=87 then isPub (byte s (ks.getD 0 0))&&isPub (byte s (ks.getD 1 0))
 else if c=76 then isPub (byte s (ks.getD 0 0))
 else true
def kidsL (f:Nat->Option Cut):Nat->Nat->Nat->List Nat->Option (Nat×Nat×List Nat)
 |0,nx,dp,ks=>some (nx,dp,ks)
 |n+1,nx,dp,ks=>match f nx with
  |none=>none
  |some x=>kidsL f n x.fin (max dp (x.deep+1)) (ks++[x.fin])
def head (s:List UInt8) (c:UInt8) (at_:Nat):Option (Nat×Nat):=
 if c=84 then match numL 58 (s.drop (at_+1))with
  |none=>none
  |some (v,k)=>if v<=32 then some (v,at_+1+k+1)else none
 else(arity c).map fun n=>(n,at_+1)
def rd (s:List UInt8):Nat->Nat->Option Cut
 |0,_=>none
 |room+1,at_=>match s[at_]? with
  |none=>none
  |some c=>
   if c=110 then match numL 59 (s.drop (at_+1))with
    |none=>none
    |some (v,k)=>some ⟨at_+1+k+1,1,v,0,[]⟩
   else if c=116 then match numL 58 (s.drop (at_+1))with
    |none=>none
    |some (v,k)=>if v<=4096/\at_+1+k+1+v<=s.length then some ⟨at_+1+k+1+v,1,0,at_+1+k+1,[]⟩else none
   else match head s c at_ with
    |none=>none
    |some (n,nx)=>match kidsL (rd s room) n nx 1 [nx]with
     |none=>none
     |some (e,dp,ks)=>if fitsB s c ks then some ⟨e,dp,0,0,ks⟩else none
def rising:List Nat->Prop
 |[]=>True
 |[_]=>True
 |a::b::r=>a<b/\rising (b::r)
theorem rising_snoc: ∀(l:List Nat) (a b:Nat),rising (l++[a])->a<b->rising (l++[a]++[b])
 |[],_,_,_,h=>⟨h,trivial⟩
 |[_],_,_,h,hab=>⟨h.1,hab,trivial⟩
 |_::y::r,a,b,h,hab=>⟨h.1,rising_snoc (y::r) a b h.2 hab⟩
theorem head_range {s:List UInt8} {c:UInt8} {at_ n nx:Nat} (h:head s c at_=some (n,nx)) (ha:at_<s.length):at_<nx/\nx<=s.length/\n<=32:=by
 unfold head at h;split at h
 ·split at h
  ·cases h
  ·rename_i v k hk;obtain⟨-,h1,h2⟩:=numL_some hk;rw[List.length_drop]at h2;split at h
   ·injection h with h;injection h with h3 h4;omega
   ·cases h
 ·unfold arity at h;split at h
  ·simp only[Option.map_some,Option.some.injEq,Prod.mk.injEq]at h;omega
  ·split at h
   ·simp only[Option.map_some,Option.some.injEq,Prod.mk.injEq]at h;omega
   ·cases h
structure InRange (len room at_:Nat) (x:Cut):Prop where
 lo:at_<x.fin
 hi:x.fin<=len
 d1:1<=x.deep
 d2:x.deep<=room
 num:x.num<9223372036854775808
theorem kidsL_range {len room:Nat} {f:Nat->Option Cut} (hf: ∀a x,f a=some x->InRange len room a x): ∀(n nx dp:Nat) (pre:List Nat) {e d:Nat} {ks:List Nat},kidsL f n nx dp (pre++[nx])=some (e,d,ks)->nx<=len->rising (pre++[nx])->1<=dp->dp<=room+1->
 nx<=e/\e<=len/\1<=d/\d<=room+1/\rising ks/\ks.length=pre.length+1+n/\ks.getLast? =some e/\ ∀i,i<=pre.length->ks[i]? =(pre++[nx])[i]?
 |0,nx,dp,pre,e,d,ks,h,hl,hr,h1,h2=>by
  unfold kidsL at h;injection h with h;injection h with h3 h;injection h with h4 h5;subst h3;subst h4;subst h5;exact⟨Nat.le_refl _,hl,h1,h2,hr,by simp,by simp,fun i _=>rfl⟩
 |n+1,nx,dp,pre,e,d,ks,h,hl,hr,h1,h2=>by
  unfold kidsL at h;cases hx:f nx with
  |none=>rw[hx]at h;cases h
  |some x=>
   rw[hx]at h;simp only at h;have hin:=hf nx x hx;have:=kidsL_range hf n x.fin (max dp (x.deep+1)) (pre++[nx]) h hin.hi (rising_snoc pre nx x.fin hr hin.lo) (by omega) (by have:=hin.d2;omega);obtain⟨g1,g2,g3,g4,g5,g6,g7,g8⟩:=this;refine⟨by have:=hin.lo;omega,g2,g3,g4,g5,by rw[g6];simp;omega,g7,fun i hi=> ?_⟩;rw[g8 i (by simp;omega)];rw[List.getElem?_append_left (by simp;omega)]
theorem rd_range {s:List UInt8}: ∀(room at_:Nat) {x:Cut},rd s room at_=some x->InRange s.length room at_ x
 |0,at_,x,h=>by unfold rd at h;cases h
 |room+1,at_,x,h=>by
  unfold rd at h;cases hc:s[at_]? with
  |none=>rw[hc]at h;cases h
  |some c=>
   have ha:at_<s.length:=(List.getElem?_eq_some_iff.1 hc).1;rw[hc]at h;simp only at h;split at h
   ·split at h
    ·cases h
    ·rename_i v k hk;obtain⟨hv,h1,h2⟩:=numL_some hk;rw[List.length_drop]at h2;injection h with h;subst h;exact⟨by simp only;omega,by simp only;omega,Nat.le_refl _,by simp only;omega,hv⟩
   ·split at h
    ·split at h
     ·cases h
     ·rename_i v k hk;obtain⟨hv,h1,h2⟩:=numL_some hk;split at h
      ·rename_i h3;injection h with h;subst h;exact⟨by simp only;omega,h3.2,Nat.le_refl _,by simp only;omega,by show 0<9223372036854775808;decide⟩
      ·cases h
    ·split at h
     ·cases h
     ·rename_i n nx hh;have hr:=head_range hh ha;split at h
      ·cases h
      ·rename_i e dp ks hk;have hg:=kidsL_range (fun a y hy=>rd_range room a hy) n nx 1 [] hk hr.2.1 trivial (Nat.le_refl _) (by omega);split at h
       ·injection h with h;subst h;exact⟨by have:=hg.1;simp only;omega,hg.2.1,hg.2.2.1,hg.2.2.2.1,by show 0<9223372036854775808;decide⟩
       ·cases h
theorem kidsL_mono {f g:Nat->Option Cut} (hfg: ∀a x,f a=some x->g a=some x): ∀(n nx dp:Nat) (ks:List Nat) {r:Nat×Nat×List Nat},kidsL f n nx dp ks=some r->kidsL g n nx dp ks=some r
 |0,_,_,_,_,h=>h
 |n+1,nx,dp,ks,r,h=>by
  unfold kidsL at h⊢;cases hx:f nx with
  |none=>rw[hx]at h;cases h
  |some x=>
   rw[hx]at h;rw[hfg nx x hx];exact kidsL_mono hfg n _ _ _ h
end Go.Proofs.YtbiioifpeebjaaaGreatDoor
namespace Go.Proofs.YtbiioifpeebjaaaGreatDoor
theorem drop_mid (p m q:List UInt8) (i:Nat) (hi:i<=m.length):(p++m++q).drop (p.length+i)=m.drop i++q:=by
 rw[List.append_assoc,List.drop_append,List.drop_of_length_le (by omega),show p.length+i - p.length=i by omega,List.nil_append,List.drop_append,show i - m.length=0 by omega,List.drop_zero]
theorem get_mid (p m q:List UInt8) (i:Nat) (hi:i<m.length):(p++m++q)[p.length+i]? =m[i]? :=by
 rw[List.append_assoc,List.getElem?_append_right (by omega),show p.length+i - p.length=i by omega,List.getElem?_append_left hi]
theorem byte_mid (p m q:List UInt8) (i:Nat) (hi:i<m.length):byte (p++m++q) (p.length+i)=byte m i:=by
 unfold byte;rw[List.getD_eq_getElem?_getD,List.getD_eq_getElem?_getD,get_mid p m q i hi]
theorem sub_mid (p m q:List UInt8) (a b:Nat) (ha:a<=m.length) (hb:b<=m.length):sub (p++m++q) (p.length+a) (p.length+b)=sub m a b:=by
 unfold sub;rw[drop_mid p m q a ha,show p.length+b - (p.length+a)=b - a by omega,List.take_append,show b - a - (m.drop a).length=0 by rw[List.length_drop];omega];simp
theorem numL_mid {c:UInt8} (m q:List UInt8) {v k:Nat} (h:numL c (m++q)=some (v,k)) (hk:k<m.length):numL c m=some (v,k):=by
 unfold numL at h⊢;rw[List.findIdx?_append]at h;cases hm:m.findIdx? (· ==c)with
 |none=>
  rw[hm]at h;cases hq:q.findIdx? (· ==c)with
  |none=>rw[hq]at h;simp at h
  |some j=>
   rw[hq]at h;simp only[Option.map_some,Option.none_or]at h;split at h
   ·injection h with h;injection h with h1 h2;omega
   ·cases h
 |some j=>
  rw[hm]at h;have hj:=(List.findIdx?_eq_some_iff_getElem.1 hm).1;simp only[Option.some_or]at h;rw[List.take_append,show j - m.length=0 by omega,List.take_zero,List.append_nil]at h;exact h
theorem head_mid {p m q:List UInt8} {c:UInt8} {i n nx:Nat} (hi:i<m.length) (h:head (p++m++q) c (p.length+i)=some (n,nx)) (hx:nx<=p.length+m.length): ∃nx',nx=p.length+nx'/\head m c i=some (n,nx'):=by
 unfold head at h⊢;by_cases hc:c=84
 ·rw[if_pos hc]at h⊢;rw[show p.length+i+1=p.length+(i+1) by omega,drop_mid p m q (i+1) (by omega)]at h;split at h
  ·cases h
  ·rename_i v k hk;split at h
   ·rename_i hv;injection h with h;injection h with h1 h2;have:=numL_mid _ _ hk (by rw[List.length_drop];omega);rw[this];simp only;rw[if_pos hv];exact⟨i+1+k+1,by omega,by rw[h1]⟩
   ·cases h
 ·rw[if_neg hc]at h⊢;cases ha:arity c with
  |none=>rw[ha]at h;cases h
  |some n'=>
   rw[ha]at h;simp only[Option.map_some,Option.some.injEq,Prod.mk.injEq]at h;exact⟨i+1,by omega,by rw[Option.map_some,h.1]⟩
theorem getD_map (l:List Nat) (p j:Nat) (hj:j<l.length):(l.map (p+ ·)).getD j 0=p+l.getD j 0:=by
 rw[List.getD_eq_getElem?_getD,List.getD_eq_getElem?_getD,List.getElem?_map,List.getElem?_eq_getElem hj];rfl
theorem rising_le: ∀(l:List Nat) (e:Nat),rising l->l.getLast? =some e-> ∀j (hj:j<l.length),l[j]<=e/\(j+1<l.length->l[j]<e)
 |[],_,_,h,_,_=>by cases h
 |[a],e,_,h,j,hj=>by
  have:a=e:=by simpa using h
  have hj0:j=0:=by simpa using hj
  subst hj0;subst this;exact⟨Nat.le_refl _,fun h=>by simp at h⟩
 |a::b::r,e,hr,h,j,hj=>by
  have h':(b::r).getLast? =some e:=by simpa using h
  cases j with
  |zero=>
   have:=(rising_le (b::r) e hr.2 h' 0 (by simp)).1;have hab:=hr.1;have e0:(b::r)[0]=b:=rfl;rw[e0]at this;exact⟨by show a<=e;omega,fun _=>by show a<e;omega⟩
  |succ j=>
   have:=rising_le (b::r) e hr.2 h' j (by simpa using hj);exact⟨this.1,fun hl=>this.2 (by simpa using hl)⟩
theorem kidsL_mid {pl ml:Nat} {f g:Nat->Option Cut} (hlo: ∀a x,f a=some x->a<x.fin) (hfg: ∀i x,i<ml->f (pl+i)=some x->x.fin<=pl+ml-> ∃y,g i=some y/\x.fin=pl+y.fin/\x.deep=y.deep):
 ∀(n nx dp:Nat) (pre:List Nat) {e d:Nat} {ks:List Nat},kidsL f n (pl+nx) dp (pre.map (pl+ ·))=some (e,d,ks)->e<=pl+ml-> ∃e' ks',e=pl+e'/\ks=ks'.map (pl+ ·)/\kidsL g n nx dp pre=some (e',d,ks')
 |0,nx,dp,pre,e,d,ks,h,he=>by
  unfold kidsL at h⊢;injection h with h;injection h with h1 h;injection h with h2 h3;subst h1;subst h2;subst h3;exact⟨nx,pre,rfl,rfl,rfl⟩
 |n+1,nx,dp,pre,e,d,ks,h,he=>by
  unfold kidsL at h⊢;cases hx:f (pl+nx)with
  |none=>rw[hx]at h;cases h
  |some x=>
   rw[hx]at h;simp only at h;have hmon: ∀(n nx dp:Nat) (ks:List Nat) {e d:Nat} {ks':List Nat},kidsL f n nx dp ks=some (e,d,ks')->nx<=e:=by
    intro n
    induction n with
    |zero=>intro nx dp ks e d ks' h;unfold kidsL at h;injection h with h;injection h with h1 h;omega
    |succ n ih=>
     intro nx dp ks e d ks' h;unfold kidsL at h;cases hy:f nx with
     |none=>rw[hy]at h;cases h
     |some y=>
      rw[hy]at h;have:=ih _ _ _ h;have:=hlo nx y hy;omega
   have hxe:=hmon _ _ _ _ h;have hxl:=hlo _ _ hx;obtain⟨y,hy,h1,h2⟩:=hfg nx x (by omega) hx (by omega);rw[hy];simp only;rw[h1,h2]at h;have:=kidsL_mid hlo hfg n y.fin (max dp (y.deep+1)) (pre++[y.fin]) (by rw[List.map_append];exact h) he;exact this
theorem rd_mid {p m q:List UInt8}: ∀(room i:Nat) {x:Cut},i<m.length->rd (p++m++q) room (p.length+i)=some x->x.fin<=p.length+m.length-> ∀room',room<=room'-> ∃y,rd m room' i=some y/\x.fin=p.length+y.fin/\x.deep=y.deep
 |0,i,x,hi,h,_,_,_=>by unfold rd at h;cases h
 |room+1,i,x,hi,h,hx,0,hr=>by omega
 |room+1,i,x,hi,h,hx,room'+1,hr=>by
  unfold rd at h⊢;rw[get_mid p m q i hi]at h;cases hc:m[i]? with
  |none=>rw[hc]at h;cases h
  |some c=>
   rw[hc]at h;simp only at h⊢;by_cases h1:c=110
   ·rw[if_pos h1]at h⊢;rw[show p.length+i+1=p.length+(i+1) by omega,drop_mid p m q (i+1) (by omega)]at h;split at h
    ·cases h
    ·rename_i v k hk;injection h with h;subst h;simp only at hx;rw[numL_mid _ _ hk (by rw[List.length_drop];omega)];exact⟨_,rfl,by simp only;omega,rfl⟩
   rw[if_neg h1]at h⊢;by_cases h2:c=116
   ·rw[if_pos h2]at h⊢;rw[show p.length+i+1=p.length+(i+1) by omega,drop_mid p m q (i+1) (by omega)]at h;split at h
    ·cases h
    ·rename_i v k hk;split at h
     ·rename_i hv;injection h with h;subst h;simp only at hx;rw[numL_mid _ _ hk (by rw[List.length_drop];omega)];simp only;rw[if_pos (⟨hv.1,by omega⟩:v<=4096/\i+1+k+1+v<=m.length)];exact⟨_,rfl,by simp only;omega,rfl⟩
     ·cases h
   rw[if_neg h2]at h⊢;cases hh:head (p++m++q) c (p.length+i)with
   |none=>rw[hh]at h;cases h
   |some nn=>
    obtain⟨n,nx⟩:=nn;rw[hh]at h;simp only at h;have hal:p.length+i<(p++m++q).length:=by simp;omega
    cases hk:kidsL (rd (p++m++q) room) n nx 1 [nx]with
    |none=>rw[hk]at h;cases h
    |some r=>
     obtain⟨e,dp,ks⟩:=r;rw[hk]at h;simp only at h;have hran:=kidsL_range (fun a y hy=>rd_range room a hy) n nx 1 [] hk (head_range hh hal).2.1 trivial (Nat.le_refl _) (by omega);split at h
     ·rename_i hfit;injection h with h;subst h;simp only at hx;obtain⟨nx',rfl,hh'⟩:=head_mid hi hh (by have:=hran.1;omega);rw[hh'];simp only;obtain⟨e',ks',rfl,rfl,hk'⟩:=kidsL_mid (pl:=p.length) (ml:=m.length) (f:=rd (p++m++q) room) (g:=rd m room') (fun a y hy=>(rd_range room a hy).lo) (fun i y hi hy hy2=>rd_mid room i hi hy hy2 room' (by omega)) n nx' 1 [nx'] hk hx;rw[hk'];simp only;have hl':ks'.length=1+n:=by have:=hran.2.2.2.2.2.1;simpa using this
      have hlast:ks'.getLast? =some e':=by
       have:=hran.2.2.2.2.2.2.1;rw[List.getLast?_map]at this;cases hq:ks'.getLast? with
       |none=>rw[hq]at this;cases this
       |some z=>
        rw[hq]at this;simp only[Option.map_some,Option.some.injEq]at this;congr 1;omega
      have hris:rising ks':=by
       have:=hran.2.2.2.2.1;clear hk hk' hfit hl' hlast hran
       induction ks' with
       |nil=>trivial
       |cons a r ih=>
        cases r with
        |nil=>trivial
        |cons b r=>exact⟨by have h0:p.length+a<p.length+b:=this.1;omega,ih this.2⟩
      have hle:=rising_le ks' e' hris hlast;have hfit':fitsB m c ks'=true:=by
       have hge: ∀j,j<ks'.length->ks'.getD j 0<=m.length/\(j+1<ks'.length->ks'.getD j 0<m.length):=fun j hj=>by
        have:=hle j hj;rw[List.getD_eq_getElem?_getD,List.getElem?_eq_getElem hj];simp only[Option.getD_some];exact⟨by omega,fun h=>by have:=this.2 h;omega⟩
       have hn1:c=80->n=1:=fun e=>by subst e;rw[show head m 80 i=some (1,i+1)from rfl]at hh';injection hh' with h;injection h with h h';exact h.symm
       have hn2:c=88\/c=87\/c=76->n=2:=fun e=>by rcases e with rfl|rfl|rfl<;>(injection hh' with h;injection h with h h';exact h.symm)
       unfold fitsB at hfit⊢;by_cases k1:c=80
       ·have:=hn1 k1;rw[if_pos k1,getD_map _ _ _ (by omega),byte_mid p m q _ ((hge 0 (by omega)).2 (by omega))]at hfit;rw[if_pos k1];exact hfit
       rw[if_neg k1]at hfit⊢;by_cases k2:c=88
       ·have:=hn2 (.inl k2);rw[if_pos k2,getD_map _ _ _ (by omega),getD_map _ _ _ (by omega),getD_map _ _ _ (by omega),sub_mid p m q _ _ (hge 0 (by omega)).1 (hge 1 (by omega)).1,sub_mid p m q _ _ (hge 1 (by omega)).1 (hge 2 (by omega)).1]at hfit;rw[if_pos k2];exact hfit
       rw[if_neg k2]at hfit⊢;by_cases k3:c=87
       ·have:=hn2 (.inr (.inl k3));rw[if_pos k3,getD_map _ _ _ (by omega),getD_map _ _ _ (by omega),byte_mid p m q _ ((hge 0 (by omega)).2 (by omega)),byte_mid p m q _ ((hge 1 (by omega)).2 (by omega))]at hfit;rw[if_pos k3];exact hfit
       rw[if_neg k3]at hfit⊢;by_cases k4:c=76
       ·have:=hn2 (.inr (.inr k4));rw[if_pos k4,getD_map _ _ _ (by omega),byte_mid p m q _ ((hge 0 (by omega)).2 (by omega))]at hfit;rw[if_pos k4];exact hfit
       rw[if_neg k4]
      rw[if_pos hfit'];exact⟨_,rfl,rfl,rfl⟩
     ·cases h
end Go.Proofs.YtbiioifpeebjaaaGreatDoor
namespace Go.Proofs.YtbiioifpeebjaaaGreatDoor
def right (s:List UInt8):Option Cut:=if s.length<=16384 then(match rd s 64 0 with|none=>none|some x=>if x.fin=s.length then some x else none)else none
def rightB (s:List UInt8):Bool:=(right s).isSome
theorem right_some {s:List UInt8} {x:Cut} (h:right s=some x):s.length<=16384/\rd s 64 0=some x/\x.fin=s.length:=by
 unfold right at h;split at h
 ·rename_i hl;split at h
  ·cases h
  ·rename_i y hy;split at h
   ·rename_i hf;injection h with h;subst h;exact⟨hl,hy,hf⟩
   ·cases h
 ·cases h
theorem right_of {s:List UInt8} {x:Cut} (hl:s.length<=16384) (h:rd s 64 0=some x) (hf:x.fin=s.length):right s=some x:=by
 unfold right;rw[if_pos hl,h];simp only;rw[if_pos hf]
theorem right_pos {s:List UInt8} {x:Cut} (h:right s=some x):0<s.length:=by
 obtain⟨-,h1,h2⟩:=right_some h;have:=(rd_range _ _ h1).lo;omega
theorem kidsL_each {f:Nat->Option Cut}: ∀(n nx dp:Nat) (pre:List Nat) {e d:Nat} {ks:List Nat},kidsL f n nx dp (pre++[nx])=some (e,d,ks)->
 (∀i,i<=pre.length->ks[i]? =(pre++[nx])[i]?)/\ ∀i,pre.length<=i->i<pre.length+n-> ∃a y,ks[i]? =some a/\f a=some y/\ks[i+1]? =some y.fin
 |0,nx,dp,pre,e,d,ks,h=>by
  unfold kidsL at h;injection h with h;injection h with h3 h;injection h with h4 h5;subst h5;exact⟨fun i _=>rfl,fun i h1 h2=>by omega⟩
 |n+1,nx,dp,pre,e,d,ks,h=>by
  unfold kidsL at h;cases hx:f nx with
  |none=>rw[hx]at h;cases h
  |some x=>
   rw[hx]at h;simp only at h;obtain⟨g1,g2⟩:=kidsL_each n x.fin (max dp (x.deep+1)) (pre++[nx]) h;have hi0:ks[pre.length]? =some nx:=by
    rw[g1 pre.length (by simp),List.getElem?_append_left (by simp)];simp
   refine⟨fun i hi=> ?_,fun i h1 h2=> ?_⟩
   ·rw[g1 i (by simp;omega),List.getElem?_append_left (by simp;omega)]
   ·by_cases hi:i=pre.length
    ·subst hi;refine⟨nx,x,hi0,hx, ?_⟩;rw[g1 (pre.length+1) (by simp)];rw[List.getElem?_append_right (by simp)];simp
    ·exact g2 i (by simp;omega) (by simp;omega)
theorem sub_mid3 (s:List UInt8) {a b:Nat} (hab:a<=b) (hb:b<=s.length):s=s.take a++sub s a b++s.drop b/\(s.take a).length=a/\(sub s a b).length=b - a:=by
 refine⟨?_,by rw[List.length_take];omega,by unfold sub;rw[List.length_take,List.length_drop];omega⟩;unfold sub;have h1:(s.drop a).take (b - a)++s.drop b=s.drop a:=by
  rw[show s.drop b=(s.drop a).drop (b - a) by rw[List.drop_drop];congr 1;omega];exact List.take_append_drop _ _
 rw[List.append_assoc,h1,List.take_append_drop]
theorem rd_sub {s:List UInt8} {room a:Nat} {x:Cut} (h:rd s room a=some x) (hr:room<=64) (hl:s.length<=16384):rightB (sub s a x.fin)=true:=by
 have hx:=rd_range room a h;have hlo:=hx.lo;have hhi:=hx.hi;obtain⟨e,l1,l2⟩:=sub_mid3 s (Nat.le_of_lt hlo) hhi;have h':rd (s.take a++sub s a x.fin++s.drop x.fin) room ((s.take a).length+0)=some x:=by
  rw[<-e,l1];exact h
 obtain⟨y,h1,h2,-⟩:=rd_mid room 0 (by omega) h' (by omega) 64 hr;unfold rightB;rw[right_of (by omega) h1 (by omega)];rfl
theorem right_kids {s:List UInt8} {x:Cut} (h:right s=some x) (h1:byte s 0≠110) (h2:byte s 0≠116):
 ∃n nx,head s (byte s 0) 0=some (n,nx)/\x.kids.length=n+1/\x.num=0/\rising x.kids/\fitsB s (byte s 0) x.kids=true/\(∀i,i<n->0<x.kids.getD i 0/\x.kids.getD i 0<x.kids.getD (i+1) 0/\x.kids.getD (i+1) 0<=s.length/\rightB (sub s (x.kids.getD i 0) (x.kids.getD (i+1) 0))=true):=by
 have hpos:=right_pos h;obtain⟨hl,hr,hf⟩:=right_some h;have hb:s[0]? =some (byte s 0):=by
  unfold byte;rw[List.getD_eq_getElem?_getD,List.getElem?_eq_getElem hpos];rfl
 unfold rd at hr;rw[hb]at hr;simp only at hr;rw[if_neg h1,if_neg h2]at hr;split at hr
 ·cases hr
 ·rename_i n nx hh;split at hr
  ·cases hr
  ·rename_i e dp ks hk;split at hr
   ·rename_i hfit;injection hr with hr;subst hr;have hran:=head_range hh hpos;have hg:=kidsL_range (fun a y hy=>rd_range 63 a hy) n nx 1 [] hk hran.2.1 trivial (Nat.le_refl _) (by omega);have he:=kidsL_each n nx 1 [] hk;have hlen:ks.length=n+1:=by have:=hg.2.2.2.2.2.1;simpa [Nat.add_comm]using this
    refine⟨n,nx,hh,hlen,rfl,hg.2.2.2.2.1,hfit,fun i hi=> ?_⟩;obtain⟨a,y,e1,e2,e3⟩:=he.2 i (by simp) (by simpa using hi);have hy:=rd_range 63 a e2;have d1:ks.getD i 0=a:=by rw[List.getD_eq_getElem?_getD,e1];rfl
    have d2:ks.getD (i+1) 0=y.fin:=by rw[List.getD_eq_getElem?_getD,e3];rfl
    show 0<ks.getD i 0/\ks.getD i 0<ks.getD (i+1) 0/\ks.getD (i+1) 0<=s.length/\rightB (sub s (ks.getD i 0) (ks.getD (i+1) 0))=true;rw[d1,d2];refine⟨?_,hy.lo,hy.hi,rd_sub e2 (by decide) hl⟩;have h0:ks[0]? =some nx:=by have:=he.1 0 (Nat.le_refl _);simpa using this
    by_cases i0:i=0
    ·subst i0;rw[h0]at e1;injection e1 with e1;have:=hran.1;omega
    ·have hm: ∀(l:List Nat),rising l-> ∀(i:Nat) {u v:Nat},l[0]? =some u->l[i]? =some v->u<=v:=by
      intro l
      induction l with
      |nil=>intro _ i u v h;cases h
      |cons b r ih=>
       intro hr i u v hu hv;have hub:b=u:=by simpa using hu
       cases i with
       |zero=>
        have:b=v:=by simpa using hv
        omega
       |succ i=>
        cases r with
        |nil=>simp at hv
        |cons c r=>
         have:=ih hr.2 i (u:=c) rfl (by simpa using hv);have:=hr.1;omega
     have:=hm ks hg.2.2.2.2.1 i h0 e1;have:=hran.1;omega
   ·cases hr
def keyF:Nat->List UInt8->List UInt8
 |0,s=>80::s
 |n+1,s=>
  if byte s 0=86\/byte s 0=75 then
   match right s with
   |none=>80::s
   |some x=>
    if byte s 0=86 then 87::(keyF n (sub s (x.kids.getD 0 0) (x.kids.getD 1 0))++keyF n (sub s (x.kids.getD 1 0) (x.kids.getD 2 0)))
    else 76::(keyF n (sub s (x.kids.getD 0 0) (x.kids.getD 1 0))++sub s (x.kids.getD 1 0) (x.kids.getD 2 0))
  else 80::s
def keyT (s:List UInt8):List UInt8:=keyF s.length s
theorem keyF_len: ∀(n:Nat) (s:List UInt8),(keyF n s).length<=2*s.length+1
 |0,s=>by unfold keyF;simp;omega
 |n+1,s=>by
  unfold keyF;split
  ·rename_i hc;split
   ·simp;omega
   ·rename_i x hx;have hne:byte s 0≠110/\byte s 0≠116:=by rcases hc with h|h<;>rw[h]<;>decide
    obtain⟨m,nx,hh,hkl,-,-,-,hk⟩:=right_kids hx hne.1 hne.2;have hm:m=2:=by
     rcases hc with h|h<;>(rw[h]at hh;injection hh with hh;injection hh with hh _;exact hh.symm)
    subst hm;obtain⟨a1,a2,a3,-⟩:=hk 0 (by omega);obtain⟨b1,b2,b3,-⟩:=hk 1 (by omega);have l1:=(sub_mid3 s (Nat.le_of_lt a2) a3).2.2;have l2:=(sub_mid3 s (Nat.le_of_lt b2) b3).2.2;have i1:=keyF_len n (sub s (x.kids.getD 0 0) (x.kids.getD 1 0));have i2:=keyF_len n (sub s (x.kids.getD 1 0) (x.kids.getD 2 0));rw[l1]at i1;rw[l2]at i2;have e1:x.kids.getD (0+1) 0=x.kids.getD 1 0:=rfl;have e2:x.kids.getD (1+1) 0=x.kids.getD 2 0:=rfl;split
    ·simp only[List.length_cons,List.length_append];omega
    ·simp only[List.length_cons,List.length_append];rw[l2];omega
  ·simp;omega
end Go.Proofs.YtbiioifpeebjaaaGreatDoor
namespace Go.Proofs.YtbiioifpeebjaaaGreatDoor
def pubB (t:List UInt8):Bool:=rightB t&&isPub (byte t 0)
def hashB (t:List UInt8):Bool:=rightB t&&byte t 0==72
inductive LockT where
 |node (kind:Int) (term:ByteArray) (n:Int) (kids:List LockT)
def LockT.kind:LockT->Int| .node k _ _ _=>k
def LockT.term:LockT->ByteArray| .node _ t _ _=>t
def LockT.n:LockT->Int| .node _ _ n _=>n
def LockT.kids:LockT->List LockT| .node _ _ _ l=>l
def okT (k:Int) (t:List UInt8) (n:Int) (m:Nat):Bool:=
 if k=1 then decide (n=0)&&decide (m=0)&&pubB t
 else if k=2 then decide (n=0)&&decide (m=0)&&hashB t
 else if k=3\/k=4 then decide (t=[])&&decide (m=0)&&decide (0<=n)&&decide (n<1073741824)
 else if k=5\/k=6 then decide (t=[])&&decide (n=0)&&decide (0<m)&&decide (m<=8)
 else false
mutual
def sizeT:LockT->Nat
 | .node _ _ _ l=>sizeTs l+1
def sizeTs:List LockT->Nat
 |[]=>0
 |x::r=>sizeT x+sizeTs r
end
mutual
def rightT:LockT->Bool
 | .node k t n l=>okT k t.data.toList n l.length&&rightTs l
def rightTs:List LockT->Bool
 |[]=>true
 |x::r=>rightT x&&rightTs r
end
mutual
def partsT:LockT->Int->Int
 | .node k t n l,room=>if room - 1<0 then -1 else if okT k t.data.toList n l.length then partsTs l (room - 1)else -1
def partsTs:List LockT->Int->Int
 |[],room=>room
 |x::r,room=>if partsT x room<0 then -1 else partsTs r (partsT x room)
end
mutual
theorem partsT_eq: ∀(x:LockT) (room:Int),0<=room->partsT x room=if rightT x=true/\(sizeT x:Int)<=room then room - sizeT x else -1
 | .node k t n l,room,h=>by
  unfold partsT rightT sizeT;by_cases h0:room - 1<0
  ·rw[if_pos h0,if_neg (by omega)]
  ·rw[if_neg h0];by_cases hk:okT k t.data.toList n l.length=true
   ·rw[if_pos hk,partsTs_eq l (room - 1) (by omega),hk,Bool.true_and];by_cases hl:rightTs l=true/\(sizeTs l:Int)<=room - 1
    ·rw[if_pos hl,if_pos ⟨hl.1,by omega⟩];omega
    ·rw[if_neg hl,if_neg (fun h=>hl ⟨h.1,by omega⟩)]
   ·rw[if_neg hk,if_neg (fun h=>hk (by have:=h.1;rw[Bool.and_eq_true]at this;exact this.1))]
theorem partsTs_eq: ∀(l:List LockT) (room:Int),0<=room->partsTs l room=if rightTs l=true/\(sizeTs l:Int)<=room then room - sizeTs l else -1
 |[],room,h=>by
  unfold partsTs rightTs sizeTs;rw[if_pos ⟨rfl,h⟩];simp
 |x::r,room,h=>by
  unfold partsTs rightTs sizeTs;rw[partsT_eq x room h];by_cases hx:rightT x=true/\(sizeT x:Int)<=room
  ·rw[if_pos hx,if_neg (by omega),partsTs_eq r _ (by omega),hx.1,Bool.true_and];by_cases hr:rightTs r=true/\(sizeTs r:Int)<=room - sizeT x
   ·rw[if_pos hr,if_pos ⟨hr.1,by omega⟩];omega
   ·rw[if_neg hr,if_neg (fun h=>hr ⟨h.1,by omega⟩)]
  ·rw[if_neg hx,if_pos (by omega),if_neg (fun h=>hx ⟨by have:=h.1;rw[Bool.and_eq_true]at this;exact this.1,by omega⟩)]
end
theorem sizeT_pos: ∀x:LockT,1<=sizeT x
 | .node _ _ _ l=>by unfold sizeT;omega
def lockB (x:LockT):Bool:=rightT x&&decide (sizeT x<=64)
theorem lockB_parts (x:LockT):decide (0<=partsT x 64)=lockB x:=by
 rw[partsT_eq x 64 (by decide)];unfold lockB;by_cases h:rightT x=true/\(sizeT x:Int)<=64
 ·rw[if_pos h,h.1,decide_eq_true (by omega:0<=(64:Int) - sizeT x),decide_eq_true (by omega:sizeT x<=64)];rfl
 ·rw[if_neg h];cases hr:rightT x with
  |false=>rfl
  |true=>
   rw[decide_eq_false (fun h2=>h ⟨hr,by omega⟩: ¬sizeT x<=64)];rfl
mutual
def countT:LockT->Int->Int
 | .node _ _ _ l,top=>countTs l top 1
def countTs:List LockT->Int->Int->Int
 |[],_,n=>n
 |x::r,top,n=>if n<=top then countTs r top (n+countT x (top - n))else n
end
mutual
theorem countT_eq: ∀(x:LockT) (top:Int),(countT x top<=top↔(sizeT x:Int)<=top)/\((sizeT x:Int)<=top->countT x top=sizeT x)/\1<=countT x top/\countT x top<=sizeT x
 | .node k t n l,top=>by
  unfold countT sizeT;have:=countTs_eq l top 1 (by omega);omega
theorem countTs_eq: ∀(l:List LockT) (top n:Int),1<=n->(countTs l top n<=top↔n+(sizeTs l:Int)<=top)/\(n+(sizeTs l:Int)<=top->countTs l top n=n+sizeTs l)/\n<=countTs l top n/\countTs l top n<=n+sizeTs l
 |[],top,n,h=>by
  unfold countTs sizeTs;omega
 |x::r,top,n,h=>by
  unfold countTs sizeTs;have h1:=sizeT_pos x;by_cases hn:n<=top
  ·rw[if_pos hn];have h2:=countT_eq x (top - n);have h3:=countTs_eq r top (n+countT x (top - n)) (by omega);refine⟨⟨fun h=> ?_,fun h=> ?_⟩,fun h=> ?_, ?_, ?_⟩<;>omega
  ·rw[if_neg hn];omega
end
theorem lockB_count (x:LockT):(decide (countT x 64<=64)&&rightT x)=lockB x:=by
 unfold lockB;have h:=(countT_eq x 64).1;rw[Bool.and_comm];congr 1;by_cases hs:sizeT x<=64
 ·rw[decide_eq_true hs,decide_eq_true (h.2 (by omega))]
 ·rw[decide_eq_false hs,decide_eq_false (fun hc=>hs (by have:=h.1 hc;omega))]
end Go.Proofs.YtbiioifpeebjaaaGreatDoor
namespace Go.Proofs.YtbiioifpeebjaaaGreatDoor
def hashOf (x:List UInt8):Option (List UInt8):=if rightB x&&rightB (72::x)then some (72::x)else none
def pubOf (x:List UInt8):Option (List UInt8):=if rightB x&&rightB (keyT x)then some (keyT x)else none
def sigB (t:ByteArray) (k:ByteArray):Bool:=pubOf k.data.toList==some t.data.toList
def preB (t:ByteArray) (x:ByteArray):Bool:=hashOf x.data.toList==some t.data.toList
structure ClaimR where
 after:Int
 age:Int
 keys:List ByteArray
 pres:List ByteArray
def claim0:ClaimR:=⟨0,0,[],[]⟩
def joinL (a:List ByteArray):List ByteArray->List ByteArray
 |[]=>a
 |t::r=>joinL (if a.any (fun x=>x.data.toList==t.data.toList)then a else a++[t]) r
def joinC (b c:ClaimR):ClaimR:=⟨max (max 0 b.after) c.after,max (max 0 b.age) c.age,joinL b.keys c.keys,joinL b.pres c.pres⟩
def better (c o:ClaimR):Bool:=decide (c.age<o.age)||decide (c.age=o.age)&&decide (c.after<o.after)
mutual
def wayT (ks ps:List ByteArray):LockT->Option ClaimR
 | .node k t n l=>
  if k=1 then(ks.find? (sigB t)).map fun x=>⟨0,0,[x],[]⟩
  else if k=2 then(ps.find? (preB t)).map fun x=>⟨0,0,[],[x]⟩
  else if k=3 then some ⟨n,0,[],[]⟩
  else if k=4 then some ⟨0,n,[],[]⟩
  else if k=5 then allTs ks ps l claim0
  else anyTs ks ps l none
def allTs (ks ps:List ByteArray):List LockT->ClaimR->Option ClaimR
 |[],b=>some b
 |x::r,b=>match wayT ks ps x with
  |none=>none
  |some c=>allTs ks ps r (joinC b c)
def anyTs (ks ps:List ByteArray):List LockT->Option ClaimR->Option ClaimR
 |[],b=>b
 |x::r,b=>match wayT ks ps x with
  |none=>anyTs ks ps r b
  |some c=>match b with
   |none=>anyTs ks ps r (some c)
   |some o=>anyTs ks ps r (some (if better c o then c else o))
end
def ClaimR.ok (c:ClaimR):Prop:=0<=c.after/\c.after<1073741824/\0<=c.age/\c.age<1073741824
theorem ok0 (ks ps:List ByteArray):(⟨0,0,ks,ps⟩:ClaimR).ok:=by unfold ClaimR.ok;simp only;decide
theorem joinC_ok {b c:ClaimR} (hb:b.ok) (hc:c.ok):(joinC b c).ok:=by
 obtain⟨h1,h2,h3,h4⟩:=hb;obtain⟨g1,g2,g3,g4⟩:=hc;unfold joinC;refine⟨?_, ?_, ?_, ?_⟩<;>simp only<;>omega
theorem joinC_max {b c:ClaimR} (hb:b.ok):joinC b c=⟨max b.after c.after,max b.age c.age,joinL b.keys c.keys,joinL b.pres c.pres⟩:=by
 obtain⟨h1,-,h3,-⟩:=hb;unfold joinC;rw[Int.max_eq_right h1,Int.max_eq_right h3]
mutual
theorem wayT_ok (ks ps:List ByteArray): ∀(x:LockT) {c:ClaimR},rightT x=true->wayT ks ps x=some c->c.ok
 | .node k t n l,c,hr,h=>by
  unfold rightT at hr;rw[Bool.and_eq_true]at hr;obtain⟨hk,hl⟩:=hr;unfold wayT at h;by_cases h1:k=1
  ·rw[if_pos h1]at h;obtain⟨y,-,rfl⟩:=Option.map_eq_some_iff.1 h;exact ok0 _ _
  rw[if_neg h1]at h;by_cases h2:k=2
  ·rw[if_pos h2]at h;obtain⟨y,-,rfl⟩:=Option.map_eq_some_iff.1 h;exact ok0 _ _
  rw[if_neg h2]at h;unfold okT at hk;rw[if_neg h1,if_neg h2]at hk;by_cases h3:k=3
  ·rw[if_pos h3]at h;injection h with h;subst h;rw[if_pos (.inl h3)]at hk;simp only[Bool.and_eq_true,decide_eq_true_eq]at hk;exact⟨hk.1.2,hk.2,Int.le_refl _,by show(0:Int)<1073741824;decide⟩
  rw[if_neg h3]at h;by_cases h4:k=4
  ·rw[if_pos h4]at h;injection h with h;subst h;rw[if_pos (.inr h4)]at hk;simp only[Bool.and_eq_true,decide_eq_true_eq]at hk;exact⟨Int.le_refl _,by show(0:Int)<1073741824;decide,hk.1.2,hk.2⟩
  rw[if_neg h4]at h;by_cases h5:k=5
  ·rw[if_pos h5]at h;exact allTs_ok ks ps l hl (ok0 _ _) h
  ·rw[if_neg h5]at h;exact anyTs_ok ks ps l hl (fun c h=>by cases h) h
theorem allTs_ok (ks ps:List ByteArray): ∀(l:List LockT) {b c:ClaimR},rightTs l=true->b.ok->allTs ks ps l b=some c->c.ok
 |[],b,c,_,hb,h=>by
  unfold allTs at h;injection h with h;subst h;exact hb
 |x::r,b,c,hr,hb,h=>by
  unfold rightTs at hr;rw[Bool.and_eq_true]at hr;unfold allTs at h;cases hx:wayT ks ps x with
  |none=>rw[hx]at h;cases h
  |some d=>
   rw[hx]at h;exact allTs_ok ks ps r hr.2 (joinC_ok hb (wayT_ok ks ps x hr.1 hx)) h
theorem anyTs_ok (ks ps:List ByteArray): ∀(l:List LockT) {b:Option ClaimR} {c:ClaimR},rightTs l=true->(∀o,b=some o->o.ok)->anyTs ks ps l b=some c->c.ok
 |[],b,c,_,hb,h=>by
  unfold anyTs at h;exact hb c h
 |x::r,b,c,hr,hb,h=>by
  unfold rightTs at hr;rw[Bool.and_eq_true]at hr;unfold anyTs at h;cases hx:wayT ks ps x with
  |none=>rw[hx]at h;exact anyTs_ok ks ps r hr.2 hb h
  |some d=>
   have hd:=wayT_ok ks ps x hr.1 hx;rw[hx]at h;cases b with
   |none=>exact anyTs_ok ks ps r hr.2 (fun o ho=>by injection ho with ho;subst ho;exact hd) h
   |some o=>
    refine anyTs_ok ks ps r hr.2 (fun o' ho=> ?_) h;injection ho with ho;subst ho;split
    ·exact hd
    ·exact hb o rfl
end
end Go.Proofs.YtbiioifpeebjaaaGreatDoor
namespace Go.Proofs.YtbiioifpeebjaaaGreatDoor
structure HtlcR where
 mine:Bool
 id:Int
 amt:Int
 hash:ByteArray
 exp:Int
def blk (n:Int):Bool:=decide (0<=n)&&decide (n<1073741824)
theorem blk_iff {n:Int}:blk n=true↔0<=n/\n<1073741824:=by unfold blk;simp
def lateOne (ps:List ByteArray) (height margin:Int) (h:HtlcR):Bool:=
 blk h.exp&&(if h.mine then decide (h.exp+margin<=height)else decide (h.exp - margin<=height)&&ps.any (preB h.hash))
def lateB (hs:List HtlcR) (ps:List ByteArray) (height margin:Int):Bool:=blk height&&blk margin&&hs.any (lateOne ps height margin)
def madeE (s:List UInt8):Int×List UInt8:=if rightB s then(0,s)else(3,[])
def oneE (op:UInt8) (x:List UInt8):Int×List UInt8:=if rightB x then madeE (op::x)else(10,[])
def twoE (op:UInt8) (x y:List UInt8):Int×List UInt8:=if rightB x&&rightB y then madeE (op::(x++y))else(10,[])
def pubE (x:List UInt8):Int×List UInt8:=if rightB x then madeE (keyT x)else(10,[])
theorem hashOf_one (x:List UInt8):hashOf x=if(oneE 72 x).1=0 then some (oneE 72 x).2 else none:=by
 unfold hashOf oneE madeE;cases h1:rightB x with
 |false=>rfl
 |true=>
  cases h2:rightB (72::x)with
  |false=>rfl
  |true=>rfl
theorem pubOf_pub (x:List UInt8):pubOf x=if(pubE x).1=0 then some (pubE x).2 else none:=by
 unfold pubOf pubE madeE;cases h1:rightB x with
 |false=>rfl
 |true=>
  cases h2:rightB (keyT x)with
  |false=>rfl
  |true=>rfl
def digs:Nat->Nat->List UInt8
 |0,n=>[UInt8.ofNat (48+n%10)]
 |f+1,n=>if 9<n then digs f (n / 10)++[UInt8.ofNat (48+n%10)]else [UInt8.ofNat (48+n%10)]
def labelT (b:Nat):List UInt8:=if b<10 then [116,49,58,UInt8.ofNat (48+b)]else [116,50,58,49,UInt8.ofNat (48+b%10)]
def onE (i:Nat):Nat->List UInt8->Int×List UInt8
 |0,t=>(0,t)
 |b+1,t=>if i / 2^b%2=0 then onE i b t else if(twoE 68 t (labelT b)).1=0 then onE i b (twoE 68 t (labelT b)).2 else((twoE 68 t (labelT b)).1,[])
def secretE (t:List UInt8) (i:Int):Int×List UInt8:=if i<0\/1048575<i then(2,[])else if rightB t then onE i.toNat 20 t else(10,[])
def pointE (seed:List UInt8) (n:Int):Int×List UInt8:=
 if n<0\/1048575<n then(2,[])else if(secretE seed (1048575 - n)).1=0 then pubE (secretE seed (1048575 - n)).2 else((secretE seed (1048575 - n)).1,[])
def addE (r:Int×List (List UInt8)) (x:Int×List UInt8):Int×List (List UInt8):=if r.1=0 then(if x.1=0 then(0,r.2++[x.2])else(x.1,[]))else r
end Go.Proofs.YtbiioifpeebjaaaGreatDoor
namespace Go.Proofs.YtbiioifpeebjaaaGreatDoor
theorem ext_list (s:ByteArray) (a b:Nat):(s.extract a b).data.toList=sub s.data.toList a b:=by
 unfold sub;rw[ByteArray.data_extract,Array.toList_extract,List.extract_eq_take_drop]
theorem ext_to_end (s:ByteArray) (a:Nat):(s.extract a s.size).data.toList=s.data.toList.drop a:=by
 rw[ext_list];unfold sub;rw[List.take_of_length_le];rw[List.length_drop];exact Nat.le_of_eq rfl
theorem ext_take (s:ByteArray) (a k:Nat):(s.extract a (a+k)).data.toList=(s.data.toList.drop a).take k:=by
 rw[ext_list];unfold sub;rw[Nat.add_sub_cancel_left]
theorem ext_size (s:ByteArray) (a k:Nat):(s.extract a (a+k)).size=min (s.size - a) k:=by
 have h:=congrArg List.length (ext_take s a k);rw[List.length_take,List.length_drop]at h;have e1:(s.extract a (a+k)).data.toList.length=(s.extract a (a+k)).size:=rfl;have e2:s.data.toList.length=s.size:=rfl;rw[e1,e2]at h;omega
theorem index_find (l:List UInt8) (c:UInt8):Lib.indexByte l c=match l.findIdx? (· ==c)with|none=> -1|some k=>(k:Int):=by
 induction l with
 |nil=>rfl
 |cons x r ih=>
  unfold Lib.indexByte;rw[List.findIdx?_cons];cases hx:x==c with
  |true=>rfl
  |false=>
   simp only[Bool.false_eq_true,if_false];rw[ih];cases r.findIdx? (· ==c)with
   |none=>rfl
   |some k=>
    simp only[Option.map_some];have hne:(((k:Nat):Int)== -1)=false:=beq_false_of_ne (by omega);rw[hne];show(k:Int)+1=((k+1:Nat):Int);omega
theorem take_head {l:List UInt8} {k:Nat} (hk:1<=k) (hl:k<=l.length):(l.take k).head? =some (byte l 0)/\(l.take k).length=k:=by
 refine⟨?_,by rw[List.length_take];omega⟩;cases l with
 |nil=>simp at hl;omega
 |cons x r=>
  cases k with
  |zero=>omega
  |succ k=>rfl
theorem numL_index {c:UInt8} {l:List UInt8}:(Lib.indexByte l c<1->numL c l=none)/\ ∀k:Nat,Lib.indexByte l c=k->1<=k->k<l.length/\
 (19<k->numL c l=none)/\((byte l 0).toNat=48->1<k->numL c l=none)/\((byte l 0).toNat<48->numL c l=none)/\(57<(byte l 0).toNat->numL c l=none)/\
 (k<=19-> ¬((byte l 0).toNat=48/\1<k)->48<=(byte l 0).toNat->(byte l 0).toNat<=57->(∀v:Nat,numL c l=some (v,k)->Lib.parseIntB 64 (l.take k)= .ok v)/\(numL c l=none-> ∀u,Lib.parseIntB 64 (l.take k)≠ .ok u)/\ ∀v k',numL c l=some (v,k')->k'=k):=by
 rw[index_find];unfold numL;cases hf:l.findIdx? (· ==c)with
 |none=>
  exact⟨fun _=>rfl,fun k h hk=>by simp only at h;omega⟩
 |some j=>
  have hj:=(List.findIdx?_eq_some_iff_getElem.1 hf).1;simp only;refine⟨fun h=> ?_,fun k h hk=> ?_⟩
  ·have:j=0:=by omega
   subst this;rfl
  ·have hjk:j=k:=by omega
   subst hjk;obtain⟨hh,hlen⟩:=take_head hk (Nat.le_of_lt hj);have hno:numOk (l.take j)=false->(if numOk (l.take j)=true then some (val 0 (l.take j),j)else none)=none:=fun h=>by rw[h];rfl
   have hall: ∀(h:dig (byte l 0)=false),(l.take j).all dig=false:=fun h=>by
    cases hc:(l.take j).all dig with
    |false=>rfl
    |true=>
     have hm:byte l 0∈l.take j:=List.mem_of_mem_head? (by rw[hh];rfl);have:=List.all_eq_true.1 hc _ hm;rw[h]at this;cases this
   refine⟨hj,fun h=>hno ?_,fun h1 h2=>hno ?_,fun h=>hno ?_,fun h=>hno ?_,fun h1 h2 h3 h4=> ?_⟩
   ·unfold numOk;rw[hlen,decide_eq_false (by omega: ¬j<=19)];simp
   ·have h48:byte l 0=48:=UInt8.toNat_inj.1 h1;unfold numOk;rw[hlen,hh,h48,decide_eq_true h2];simp
   ·unfold numOk;rw[hall (by cases hd:dig (byte l 0)with
     |false=>rfl
     |true=>have:=dig_iff.1 hd;omega)]
    simp
   ·unfold numOk;rw[hall (by cases hd:dig (byte l 0)with
     |false=>rfl
     |true=>have:=dig_iff.1 hd;omega)]
    simp
   ·have hp:=parseI hh (dig_iff.2 ⟨h3,h4⟩) (by omega);have hok:numOk (l.take j)=((l.take j).all dig&&decide (val 0 (l.take j)<9223372036854775808)):=by
     unfold numOk;rw[hlen,decide_eq_true hk,decide_eq_true h1,hh];have:(decide (some (byte l 0)=some 48)&&decide (1<j))=false:=by
      by_cases hj1:1<j
      ·have: ¬(some (byte l 0)=some (48:UInt8)):=fun h=>h2 ⟨by injection h with h;rw[h];rfl,hj1⟩
       rw[decide_eq_false this];rfl
      ·rw[decide_eq_false hj1,Bool.and_false]
     rw[this];simp
    refine⟨fun v h=> ?_,fun h=> ?_,fun v k' h=> ?_⟩
    ·split at h
     ·rename_i ho;rw[hok,Bool.and_eq_true,decide_eq_true_eq]at ho;injection h with h;injection h with h5 h6;rw[hp,if_pos ho.1,if_pos ho.2,h5]
     ·cases h
    ·split at h
     ·cases h
     ·rename_i ho;rw[hok]at ho;rw[hp];by_cases ha:(l.take j).all dig=true
      ·rw[if_pos ha];by_cases hv:val 0 (l.take j)<9223372036854775808
       ·exact absurd (by rw[ha,decide_eq_true hv];rfl) ho
       ·rw[if_neg hv];exact fun u h=>by cases h
      ·rw[if_neg ha];exact fun u h=>by cases h
    ·split at h
     ·injection h with h;injection h with h5 h6;exact h6.symm
     ·cases h
end Go.Proofs.YtbiioifpeebjaaaGreatDoor
namespace Go.Proofs.YtbiioifpeebjaaaGreatDoor
open Go.Sort
def insRev {α:Type} (lt:α->α->Bool) (x:α):List α->List α
 |[]=>[x]
 |y::r=>if lt x y then y::insRev lt x r else x::y::r
def insL {α:Type} (lt:α->α->Bool) (x:α):List α->List α
 |[]=>[x]
 |y::r=>if lt x y then x::y::r else y::insL lt x r
def ordL {α:Type} (lt:α->α->Bool) (l:List α):List α:=l.foldl (fun out x=>insL lt x out) []
structure Weak {α:Type} (lt:α->α->Bool):Prop where
 asym: ∀x y,lt x y=true->lt y x=false
 neg: ∀x y z,lt x y=true->lt z y=false->lt x z=true
def Up {α:Type} (lt:α->α->Bool) (l:List α):Prop:=l.Pairwise fun a b=>lt b a=false
theorem insRev_end {α:Type} (lt:α->α->Bool) (x y:α) (h:lt x y=false): ∀s:List α,insRev lt x (s++[y])=insRev lt x s++[y]
 |[]=>by simp[insRev,h]
 |z::s=>by
  rw[List.cons_append];unfold insRev;by_cases hz:lt x z=true
  ·rw[if_pos hz,if_pos hz,insRev_end lt x y h s];rfl
  ·rw[if_neg hz,if_neg hz];rfl
theorem insRev_all {α:Type} (lt:α->α->Bool) (x:α): ∀s:List α,(∀z∈s,lt x z=true)->insRev lt x s=s++[x]
 |[],_=>rfl
 |z::s,h=>by
  unfold insRev;rw[if_pos (h z (by simp)),insRev_all lt x s (fun u hu=>h u (List.mem_cons_of_mem _ hu))];rfl
theorem insRev_eq {α:Type} {lt:α->α->Bool} (W:Weak lt) (x:α): ∀p:List α,Up lt p->(insRev lt x p.reverse).reverse=insL lt x p
 |[],_=>rfl
 |y::r,h=>by
  have h2:=List.pairwise_cons.1 h;unfold insL;rw[List.reverse_cons];by_cases hy:lt x y=true
  ·rw[if_pos hy,insRev_all lt x (r.reverse++[y]) (fun z hz=>by
    rcases List.mem_append.1 hz with hz|hz
    ·exact W.neg x y z hy (h2.1 z (List.mem_reverse.1 hz))
    ·rw[List.mem_singleton.1 hz];exact hy)]
   simp
  ·rw[if_neg hy,insRev_end lt x y (by simpa using hy),List.reverse_append,insRev_eq W x r h2.2];rfl
theorem insL_mem {α:Type} (lt:α->α->Bool) (x:α): ∀(p:List α) (z:α),z∈insL lt x p↔z=x\/z∈p
 |[],z=>by simp[insL]
 |y::r,z=>by
  unfold insL;by_cases hy:lt x y=true
  ·rw[if_pos hy];simp
  ·rw[if_neg hy,List.mem_cons,insL_mem lt x r z,List.mem_cons];constructor
   ·rintro(h|h|h)
    ·exact .inr (.inl h)
    ·exact .inl h
    ·exact .inr (.inr h)
   ·rintro(h|h|h)
    ·exact .inr (.inl h)
    ·exact .inl h
    ·exact .inr (.inr h)
theorem insL_len {α:Type} (lt:α->α->Bool) (x:α): ∀(p:List α),(insL lt x p).length=p.length+1
 |[]=>rfl
 |y::r=>by
  unfold insL;by_cases hy:lt x y=true
  ·rw[if_pos hy];simp
  ·rw[if_neg hy,List.length_cons,insL_len lt x r];simp
theorem insL_up {α:Type} {lt:α->α->Bool} (W:Weak lt) (x:α): ∀p:List α,Up lt p->Up lt (insL lt x p)
 |[],_=>List.pairwise_singleton _ _
 |y::r,h=>by
  have h2:=List.pairwise_cons.1 h;unfold insL;by_cases hy:lt x y=true
  ·rw[if_pos hy];refine List.pairwise_cons.2 ⟨fun z hz=> ?_,h⟩;rcases List.mem_cons.1 hz with hz|hz
   ·rw[hz];exact W.asym x y hy
   ·exact W.asym x z (W.neg x y z hy (h2.1 z hz))
  ·rw[if_neg hy];refine List.pairwise_cons.2 ⟨fun z hz=> ?_,insL_up W x r h2.2⟩;rcases(insL_mem lt x r z).1 hz with hz|hz
   ·rw[hz];simpa using hy
   ·exact h2.1 z hz
theorem foldl_up {α:Type} {lt:α->α->Bool} (W:Weak lt): ∀(l p:List α),Up lt p->Up lt (l.foldl (fun out x=>insL lt x out) p)/\l.foldl (fun out x=>(insRev lt x out.reverse).reverse) p=l.foldl (fun out x=>insL lt x out) p
 |[],p,h=>⟨h,rfl⟩
 |x::r,p,h=>by
  have:=foldl_up W r (insL lt x p) (insL_up W x p h);refine⟨this.1, ?_⟩;simp only[List.foldl_cons];rw[insRev_eq W x p h];exact this.2
theorem ordL_up {α:Type} {lt:α->α->Bool} (W:Weak lt) (l:List α):Up lt (ordL lt l):=(foldl_up W l [] List.Pairwise.nil).1
theorem foldl_mem {α:Type} (lt:α->α->Bool): ∀(l p:List α) (z:α),z∈l.foldl (fun out x=>insL lt x out) p↔z∈l\/z∈p
 |[],p,z=>by simp
 |x::r,p,z=>by
  rw[List.foldl_cons,foldl_mem lt r (insL lt x p) z,insL_mem,List.mem_cons];constructor
  ·rintro(h|h|h)
   ·exact .inl (.inr h)
   ·exact .inl (.inl h)
   ·exact .inr h
  ·rintro((h|h)|h)
   ·exact .inr (.inl h)
   ·exact .inl h
   ·exact .inr (.inr h)
theorem ordL_mem {α:Type} (lt:α->α->Bool) (l:List α) (z:α):z∈ordL lt l↔z∈l:=by
 unfold ordL;rw[foldl_mem];simp
theorem foldl_len {α:Type} (lt:α->α->Bool): ∀(l p:List α),(l.foldl (fun out x=>insL lt x out) p).length=l.length+p.length
 |[],p=>by simp
 |x::r,p=>by rw[List.foldl_cons,foldl_len lt r (insL lt x p),insL_len,List.length_cons];omega
theorem ordL_len {α:Type} (lt:α->α->Bool) (l:List α):(ordL lt l).length=l.length:=by
 unfold ordL;rw[foldl_len];simp
theorem swp_list {α:Type} [Inhabited α] (d:Array α) (q r:List α) (y x:α) (h:d.toList=q++y::x::r):(swp d (q.length+1) q.length).toList=q++x::y::r:=by
 have h1:d[q.length+1]! =x:=by
  rw[<-Array.getElem!_toList,h];simp
 have h0:d[q.length]! =y:=by
  rw[<-Array.getElem!_toList,h];simp
 unfold swp;rw[h0,h1];simp[h]
theorem insInner_list {α:Type} [Inhabited α] (lt:α->α->Bool) (q:List α) (x:α): ∀(s r:List α) (d:Array α),d.toList=q++s.reverse++x::r->(insInner lt q.length (q.length+s.length) d).toList=q++(insRev lt x s).reverse++r
 |[],r,d,h=>by
  rw[show insInner lt q.length (q.length+([]:List α).length) d=d from by
   simp only[List.length_nil,Nat.add_zero];cases hq:q.length with
   |zero=>rfl
   |succ k=>unfold insInner;rw[if_neg (by simp)]]
  rw[h];simp[insRev]
 |y::s,r,d,h=>by
  have hs:d.toList=(q++s.reverse)++y::x::r:=by rw[h];simp
  have hl:(q++s.reverse).length=q.length+s.length:=by simp
  have hg: ∀u:List α,d.toList=u++y::x::r->d[u.length+1]! =x/\d[u.length]! =y:=fun u hu=>by
   constructor
   ·rw[<-Array.getElem!_toList,hu];simp
   ·rw[<-Array.getElem!_toList,hu];simp
  have hx:d[q.length+s.length+1]! =x:=by rw[<-hl];exact(hg _ hs).1
  have hy:d[q.length+s.length]! =y:=by rw[<-hl];exact(hg _ hs).2
  have hw:=swp_list d (q++s.reverse) r y x hs;rw[hl]at hw;rw[List.length_cons,<-Nat.add_assoc];unfold insInner insRev;rw[hx,hy];by_cases hlt:lt x y=true
  ·rw[if_pos (by simp[hlt];omega),if_pos hlt,insInner_list lt q x s (y::r) _ (by rw[hw])];simp
  ·rw[if_neg (by simp[hlt]),if_neg hlt,hs];simp
theorem insOuter_list {α:Type} [Inhabited α] (lt:α->α->Bool) (q:List α): ∀(m p r:List α) (d:Array α),d.toList=q++p++m++r->(insOuter lt q.length (q.length+p.length+m.length) (q.length+p.length) d).toList=q++m.foldl (fun out x=>(insRev lt x out.reverse).reverse) p++r
 |[],p,r,d,h=>by
  rw[insOuter,if_neg (by simp),h];simp
 |x::m,p,r,d,h=>by
  rw[insOuter,if_pos (by simp)];have hi:=insInner_list lt q x p.reverse (m++r) d (by rw[h];simp);rw[List.length_reverse]at hi;have hl:((insRev lt x p.reverse).reverse).length=p.length+1:=by
   have: ∀s:List α,(insRev lt x s).length=s.length+1:=fun s=>by
    induction s with
    |nil=>rfl
    |cons y s ih=>unfold insRev;by_cases hy:lt x y=true<;>simp[hy,ih]
   simp[this]
  have:=insOuter_list lt q m (insRev lt x p.reverse).reverse r (insInner lt q.length (q.length+p.length) d) (by rw[hi];simp);rw[hl]at this;rw[List.length_cons,List.foldl_cons,show q.length+p.length+(m.length+1)=q.length+(p.length+1)+m.length by omega,show q.length+p.length+1=q.length+(p.length+1) by omega];exact this
theorem insertion_list {α:Type} [Inhabited α] {lt:α->α->Bool} (W:Weak lt) (q m r:List α) (d:Array α) (h:d.toList=q++m++r):(insertionSort lt d q.length (q.length+m.length)).toList=q++ordL lt m++r:=by
 unfold insertionSort;cases m with
 |nil=>
  rw[insOuter,if_neg (by simp),h];rfl
 |cons x m=>
  have h2:=insOuter_list lt q m [x] r d (by rw[h];simp);simp only[List.length_cons,List.length_nil]at h2;rw[List.length_cons,show q.length+(m.length+1)=q.length+(0+1)+m.length by omega,show q.length+1=q.length+(0+1) by omega,h2];unfold ordL;rw[List.foldl_cons,show insL lt x []=[x]from rfl,(foldl_up W m [x] (List.pairwise_singleton _ _)).2]
end Go.Proofs.YtbiioifpeebjaaaGreatDoor
namespace Go.Proofs.YtbiioifpeebjaaaGreatDoor
mutual
def textT:LockT->List UInt8
 | .node k t n l=>if k=1 then 115::t.data.toList else if k=2 then 112::t.data.toList else if k=3 then 97::(Lib.itoa n++[59])else if k=4 then 111::(Lib.itoa n++[59])else(if k=6 then 124 else 38)::(Lib.itoa l.length++[58]++textTs l)
def textTs:List LockT->List UInt8
 |[]=>[]
 |x::r=>textT x++textTs r
end
def textB (x:LockT):ByteArray:=⟨(textT x).toArray⟩
def writeE (x:LockT):ByteArray×Int:=if lockB x then(textB x,0)else(⟨#[]⟩,110)
theorem dcd_small {n:Nat} (h:n<10):Lib.decDigits n=[UInt8.ofNat (48+n)]:=by unfold Lib.decDigits;rw[dif_pos h]
theorem dcd_more {n:Nat} (h: ¬n<10):Lib.decDigits n=Lib.decDigits (n / 10)++[UInt8.ofNat (48+n%10)]:=by
 conv=>lhs;unfold Lib.decDigits
 rw[dif_neg h]
theorem dcd_len (k:Nat): ∀(n:Nat),n<10^k->(Lib.decDigits n).length<=k+1:=by
 induction k with
 |zero=>
  intro n h;obtain rfl:n=0:=by simpa using h
  rw[dcd_small (by decide)];simp
 |succ k ih=>
  intro n h;by_cases h1:n<10
  ·rw[dcd_small h1];simp
  ·rw[dcd_more h1,List.length_append];have:=ih (n / 10) (by rw[Nat.pow_succ]at h;omega);simp only[List.length_cons,List.length_nil];omega
theorem itoa_nat (n:Nat):Lib.itoa (n:Int)=Lib.decDigits n:=by
 unfold Lib.itoa;rw[if_neg (by omega)];rfl
theorem itoa_len {n:Int} (h0:0<=n) (h1:n<10000000000):(Lib.itoa n).length<=11:=by
 obtain⟨m,rfl⟩:=Int.eq_ofNat_of_zero_le h0;rw[itoa_nat];exact dcd_len 10 m (by omega)
theorem textTs_snoc: ∀(l:List LockT) (k:Nat) (hk:k<l.length),textTs (l.take (k+1))=textTs (l.take k)++textT l[k]
 |[],k,hk=>absurd hk (by simp)
 |x::r,0,_=>by simp[textTs]
 |x::r,k+1,hk=>by
  simp only[List.take_succ_cons,textTs,List.getElem_cons_succ];rw[textTs_snoc r k (by simpa using hk),List.append_assoc]
theorem sizeTs_snoc: ∀(l:List LockT) (k:Nat) (hk:k<l.length),sizeTs (l.take (k+1))=sizeTs (l.take k)+sizeT l[k]
 |[],k,hk=>absurd hk (by simp)
 |x::r,0,_=>by simp[sizeTs]
 |x::r,k+1,hk=>by
  simp only[List.take_succ_cons,sizeTs,List.getElem_cons_succ];rw[sizeTs_snoc r k (by simpa using hk),Nat.add_assoc]
theorem sizeTs_take: ∀(l:List LockT) (k:Nat),sizeTs (l.take k)<=sizeTs l
 |[],k=>by simp
 |x::r,0=>by simp[sizeTs]
 |x::r,k+1=>by
  simp only[List.take_succ_cons,sizeTs];have:=sizeTs_take r k;omega
theorem rightTs_at: ∀{l:List LockT},rightTs l=true-> ∀(k:Nat) (hk:k<l.length),rightT l[k]=true
 |[],_,k,hk=>absurd hk (by simp)
 |x::r,h,0,_=>by unfold rightTs at h;rw[Bool.and_eq_true]at h;exact h.1
 |x::r,h,k+1,hk=>by unfold rightTs at h;rw[Bool.and_eq_true]at h;exact rightTs_at h.2 k (by simpa using hk)
end Go.Proofs.YtbiioifpeebjaaaGreatDoor
namespace Go.Proofs.YtbiioifpeebjaaaGreatDoor
structure InT where
 tx:ByteArray
 pn:Int
 age:Int
structure OutT where
 value:Int
 lock:LockT
structure TxT where
 ins:List InT
 outs:List OutT
 after:Int
 tag:Int
def idByte (c:UInt8):Bool:=(decide (48<=c.toNat)&&decide (c.toNat<=57))||(decide (97<=c.toNat)&&decide (c.toNat<=102))
def idB (t:ByteArray):Bool:=t.data.toList.all idByte&&decide (t.size=64)
def inB (x:InT):Bool:=idB x.tx&&decide (0<=x.pn)&&decide (x.pn<64)&&decide (0<=x.age)&&decide (x.age<1073741824)
def ptEq (x y:InT):Bool:=x.tx.toList==y.tx.toList&&x.pn==y.pn
def insB:List InT->List InT->Bool
 |_,[]=>true
 |seen,x::r=>inB x&& !(seen.any (ptEq x))&&insB (seen++[x]) r
def maxCoin:Int:=2100000000000000
def outsB:Int->List OutT->Bool
 |_,[]=>true
 |left,x::r=>decide (1<=x.value)&&decide (x.value<=left)&&lockB x.lock&&outsB (left - x.value) r
def outsR:Int->List OutT->Bool
 |sum,[]=>decide (sum<=maxCoin)
 |sum,x::r=>decide (1<=x.value)&&decide (x.value<=maxCoin)&&lockB x.lock&&outsR (sum+x.value) r
theorem outsR_over: ∀(r:List OutT) (sum:Int),maxCoin<sum->outsR sum r=false
 |[],sum,h=>by unfold outsR;exact decide_eq_false (by omega)
 |x::r,sum,h=>by
  unfold outsR;by_cases h1:1<=x.value
  ·rw[outsR_over r (sum+x.value) (by omega),Bool.and_false]
  ·rw[decide_eq_false h1];rfl
theorem outs_eq: ∀(r:List OutT) (sum:Int),0<=sum->sum<=maxCoin->outsR sum r=outsB (maxCoin - sum) r
 |[],sum,_,h=>by unfold outsR outsB;exact decide_eq_true h
 |x::r,sum,h0,h=>by
  unfold outsR outsB;by_cases h1:1<=x.value
  ·by_cases h2:x.value<=maxCoin - sum
   ·rw[decide_eq_true h2,decide_eq_true (show x.value<=maxCoin by omega),outs_eq r (sum+x.value) (by omega) (by omega),show maxCoin - (sum+x.value)=maxCoin - sum - x.value by omega]
   ·rw[decide_eq_false h2,outsR_over r (sum+x.value) (by omega)];simp
  ·rw[decide_eq_false h1];rfl
def timeB (n:Int):Bool:=decide (0<=n)&&decide (n<1073741824)
def headB (t:TxT):Bool:=decide (t.ins.length<=64)&&decide (1<=t.outs.length)&&decide (t.outs.length<=64)&&timeB t.after&&decide (0<=t.tag)&&decide (t.tag<=4611686018427387904)
def txB (t:TxT):Bool:=headB t&&insB [] t.ins&&outsB maxCoin t.outs
theorem txB_ref (t:TxT):(headB t&&insB [] t.ins&&outsR 0 t.outs)=txB t:=by
 unfold txB;rw[outs_eq t.outs 0 (Int.le_refl _) (by unfold maxCoin;omega),Int.sub_zero]
theorem insB_next {seen:List InT} {x:InT} {r:List InT} (h1:inB x=true) (h2:seen.any (ptEq x)=false):insB seen (x::r)=insB (seen++[x]) r:=by
 conv=>lhs;unfold insB
 rw[h1,h2];rfl
theorem insB_bad {seen:List InT} {x:InT} {r:List InT} (h1:inB x=false):insB seen (x::r)=false:=by
 unfold insB;rw[h1];rfl
theorem insB_met {seen:List InT} {x:InT} {r:List InT} (h2:seen.any (ptEq x)=true):insB seen (x::r)=false:=by
 unfold insB;rw[h2];simp
theorem outsB_next {left:Int} {x:OutT} {r:List OutT} (h1:1<=x.value) (h2:x.value<=left) (h3:lockB x.lock=true):outsB left (x::r)=outsB (left - x.value) r:=by
 conv=>lhs;unfold outsB
 rw[decide_eq_true h1,decide_eq_true h2,h3];rfl
theorem outsR_next {left:Int} {x:OutT} {r:List OutT} (h1:1<=x.value) (h2:x.value<=maxCoin) (h3:lockB x.lock=true):outsR left (x::r)=outsR (left+x.value) r:=by
 conv=>lhs;unfold outsR
 rw[decide_eq_true h1,decide_eq_true h2,h3];rfl
mutual
def lsizeT:LockT->Int->Int
 | .node _ t _ l,top=>min (lsizeTs l top (1+(t.size:Int) / 64)) (top+1)
def lsizeTs:List LockT->Int->Int->Int
 |[],_,n=>n
 |x::r,top,n=>if n<=top then lsizeTs r top (n+lsizeT x top)else n
end
mutual
theorem lsizeT_ge: ∀(x:LockT) (top:Int),0<=top->1<=lsizeT x top/\lsizeT x top<=top+1
 | .node _ t _ l,top,h=>by
  unfold lsizeT;have:=lsizeTs_ge l top (1+(t.size:Int) / 64) h;omega
theorem lsizeTs_ge: ∀(l:List LockT) (top n:Int),0<=top->n<=lsizeTs l top n
 |[],top,n,_=>by unfold lsizeTs;omega
 |x::r,top,n,h=>by
  unfold lsizeTs;split
  ·have h1:=lsizeT_ge x top h;have h2:=lsizeTs_ge r top (n+lsizeT x top) h;omega
  ·omega
end
theorem lsizeTs_next {x:LockT} {r:List LockT} {top n:Int} (h:n<=top):lsizeTs (x::r) top n=lsizeTs r top (n+lsizeT x top):=by
 conv=>lhs;unfold lsizeTs
 rw[if_pos h]
theorem lsizeTs_stop {l:List LockT} {top n:Int} (h: ¬n<=top):lsizeTs l top n=n:=by
 cases l with
 |nil=>unfold lsizeTs;rfl
 |cons x r=>unfold lsizeTs;rw[if_neg h]
def insN:List InT->Int->Int->Int
 |[],_,n=>n
 |x::r,top,n=>if n<=top then insN r top (n+1+(x.tx.size:Int) / 64)else n
def outsN:List OutT->Int->Int->Int
 |[],_,n=>n
 |x::r,top,n=>if n<=top then outsN r top (n+lsizeT x.lock top)else n
def txN (t:TxT) (top:Int):Int:=min (outsN t.outs top (insN t.ins top 1)) (top+1)
theorem insN_next {x:InT} {r:List InT} {top n:Int} (h:n<=top):insN (x::r) top n=insN r top (n+1+(x.tx.size:Int) / 64):=by
 conv=>lhs;unfold insN
 rw[if_pos h]
theorem insN_stop {l:List InT} {top n:Int} (h: ¬n<=top):insN l top n=n:=by
 cases l with
 |nil=>rfl
 |cons x r=>unfold insN;rw[if_neg h]
theorem outsN_next {x:OutT} {r:List OutT} {top n:Int} (h:n<=top):outsN (x::r) top n=outsN r top (n+lsizeT x.lock top):=by
 conv=>lhs;unfold outsN
 rw[if_pos h]
theorem outsN_stop {l:List OutT} {top n:Int} (h: ¬n<=top):outsN l top n=n:=by
 cases l with
 |nil=>rfl
 |cons x r=>unfold outsN;rw[if_neg h]
theorem insN_ge: ∀(l:List InT) (top n:Int),n<=insN l top n
 |[],top,n=>by unfold insN;omega
 |x::r,top,n=>by
  unfold insN;split
  ·have h2:=insN_ge r top (n+1+(x.tx.size:Int) / 64);omega
  ·omega
theorem outsN_ge: ∀(l:List OutT) (top n:Int),0<=top->n<=outsN l top n
 |[],top,n,_=>by unfold outsN;omega
 |x::r,top,n,h=>by
  unfold outsN;split
  ·have h1:=lsizeT_ge x.lock top h;have h2:=outsN_ge r top (n+lsizeT x.lock top) h;omega
  ·omega
end Go.Proofs.YtbiioifpeebjaaaGreatDoor
namespace Go.Proofs.YtbiioifpeebjaaaGreatDoor
def maxCoinN:Nat:=2100000000000000
def maxMoneyN:Nat:=2100000000000000000
theorem div1000 (hi lo:Nat) (hhi:hi<1000) (hlo:lo<18446744073709551616):
 let un32:=hi*18014398509481984+lo / 1024
 let un1:=lo%1024*4194304
 let q1:=un32 / 4194304000
 let un21:=un32%4194304000*4294967296+un1
 let q0:=un21 / 4194304000
 un32<18014398509481984000/\q1<4294967296/\un21<18014398509481984000/\q0<4294967296/\q1*4294967296+q0=(hi*18446744073709551616+lo) / 1000:=by
 intro un32 un1 q1 un21 q0;have h1:un32=hi*18014398509481984+lo / 1024:=rfl;have h2:un1=lo%1024*4194304:=rfl;have h3:q1=un32 / 4194304000:=rfl;have h4:un21=un32%4194304000*4294967296+un1:=rfl;have h5:q0=un21 / 4194304000:=rfl
 clear_value un32 un1 q1 un21 q0
 have a1:un32<18014398509481984000:=by omega
 have a2:q1<4294967296:=by omega
 have a3:un21<18014398509481984000:=by omega
 have a4:q0<4294967296:=by omega
 refine⟨a1,a2,a3,a4, ?_⟩;have e1:un32=q1*4194304000+un32%4194304000:=by rw[h3];exact(Nat.div_add_mod' un32 4194304000).symm
 have e2:un21=q0*4194304000+un21%4194304000:=by rw[h5];exact(Nat.div_add_mod' un21 4194304000).symm
 omega
def costE (rate weight:Int):Int×Int:=
 if 0<=rate/\rate<=2100000000000000/\0<=weight/\weight<=2100000000000000/\rate*weight / 1000<=2100000000000000 then(rate*weight / 1000,0)else(0,40)
theorem share_step (a by_ q r u:Nat) (hby:0<by_) (h:a*u=q*by_+r):
 (a*(2*u)=(2*q+2*r / by_)*by_+2*r%by_/\2*r%by_<by_)/\
 (a*(2*u+1)=(2*q+2*r / by_+a / by_+(2*r%by_+a%by_) / by_)*by_+(2*r%by_+a%by_)%by_/\(2*r%by_+a%by_)%by_<by_):=by
 have d1:=Nat.div_add_mod (2*r) by_;have d2:=Nat.div_add_mod a by_;have d3:=Nat.div_add_mod (2*r%by_+a%by_) by_;have e0:a*(2*u)=2*(q*by_)+2*r:=by rw[show a*(2*u)=2*(a*u) by rw[Nat.mul_left_comm],h];omega
 refine⟨⟨?_,Nat.mod_lt _ hby⟩, ?_,Nat.mod_lt _ hby⟩
 ·rw[e0,Nat.add_mul,Nat.mul_assoc,Nat.mul_comm (2*r / by_) by_];omega
 ·rw[Nat.mul_add,e0,Nat.add_mul,Nat.add_mul,Nat.add_mul,Nat.mul_assoc,Nat.mul_comm (2*r / by_) by_,Nat.mul_comm (a / by_) by_,Nat.mul_comm ((2*r%by_+a%by_) / by_) by_,Nat.mul_one];omega
theorem quot_of {a b q r by_:Nat} (hby:0<by_) (h:a*b=q*by_+r) (hr:r<by_):a*b / by_=q:=by
 rw[h,Nat.mul_comm q by_,Nat.mul_add_div hby,Nat.div_eq_of_lt hr,Nat.add_zero]
theorem upper_step (b k:Nat):b / 2^k=2*(b / 2^(k+1))+b / 2^k%2:=by
 rw[Nat.pow_succ,<-Nat.div_div_eq_div_mul];omega
end Go.Proofs.YtbiioifpeebjaaaGreatDoor
namespace Go.Proofs.YtbiioifpeebjaaaGreatDoor
structure DealR where
 cap:Int
 push:Int
 dust:Int
 res:Int
 rate:Int
 delay:Int
 maxH:Int
 flight:Int
 minH:Int
def btwB (n a b:Int):Bool:=decide (a<=n)&&decide (n<=b)
def feeE (rate n:Int):Int×Int:=if n<0\/60<n then(0,2)else costE rate (724+172*n)
def dealN (d:DealR):Bool:=btwB d.cap 1 2100000000000000&&btwB d.push 0 d.cap&&btwB d.dust 1 2100000000000000&&btwB d.res d.dust d.cap&&btwB d.rate 0 1000000&&btwB d.delay 1 10000&&btwB d.maxH 1 30&&btwB d.flight 1 2100000000000000000&&btwB d.minH 1 2100000000000000000
def dealB (d:DealR):Bool:=dealN d&&decide (d.res+(feeE d.rate 0).1<=d.cap - d.push)
def dealE (d:DealR):Int:=if dealB d then 0 else 200
def trimB (d:DealR) (mine:Bool) (amt:Int):Bool:=
 !(decide ((costE d.rate (if mine then 663 else 703)).2=0))|| !(btwB amt 0 2100000000000000000)||decide (amt / 1000 - (costE d.rate (if mine then 663 else 703)).1<d.dust)
theorem costE_fst (r w:Int):0<=(costE r w).1/\(costE r w).1<=2100000000000000:=by
 unfold costE;split
 ·rename_i h;refine⟨Int.ediv_nonneg (Int.mul_nonneg h.1 h.2.2.1) (by decide),h.2.2.2.2⟩
 ·exact⟨by decide,by decide⟩
theorem costE_snd (r w:Int):(costE r w).2=0\/(costE r w)=(0,40):=by
 unfold costE;split
 ·exact .inl rfl
 ·exact .inr rfl
theorem feeE0 (r:Int):feeE r 0=costE r 724:=by
 unfold feeE;rw[if_neg (by decide)];rfl
theorem cost_ok {r w:Int} (h:btwB r 0 1000000=true) (h0:0<=w) (h1:w<=100000):costE r w=(r*w / 1000,0):=by
 unfold btwB at h;rw[Bool.and_eq_true,decide_eq_true_eq,decide_eq_true_eq]at h;unfold costE;rw[if_pos];have hm:r*w<=1000000*100000:=Int.mul_le_mul h.2 h1 h0 (by decide);refine⟨h.1,by omega,h0,by omega,by omega⟩
def sigL (t:ByteArray):LockT:= .node 1 t 0 []
def preL (t:ByteArray):LockT:= .node 2 t 0 []
def afterL (n:Int):LockT:= .node 3 ⟨#[]⟩ n []
def olderL (n:Int):LockT:= .node 4 ⟨#[]⟩ n []
def allL (l:List LockT):LockT:= .node 5 ⟨#[]⟩ 0 l
def anyL (l:List LockT):LockT:= .node 6 ⟨#[]⟩ 0 l
structure KeysR where
 rev:ByteArray
 later:ByteArray
 mine:ByteArray
 theirs:ByteArray
 pay:ByteArray
abbrev zB (d:DealR):Obj:=zO0 d.cap d.push d.dust d.res d.rate d.delay d.maxH d.flight d.minH
abbrev zk (k:KeysR):Obj:=zO3 k.rev k.later k.mine k.theirs k.pay
abbrev zv (w:World) (tx:ByteArray) (pn:Int) (d:DealR):World:=(w.alloc (zO10 tx pn)).alloc (zB d)
abbrev zu (w:World) (d:DealR) (k:KeysR):World:=(w.alloc (zB d)).alloc (zk k)
abbrev zw (w:World) (tx:ByteArray) (pn:Int) (d:DealR) (n own other:Int) (A:Option Addr) (l cap:Nat) (k:KeysR):World:=(((w.alloc (zO10 tx pn)).alloc (zB d)).alloc (zO8 n own other A l cap)).alloc (zk k)
def ownL (delay:Int) (k:KeysR):LockT:=anyL [sigL k.rev,allL [olderL delay,sigL k.later]]
def otherL (k:KeysR):LockT:=sigL k.pay
def htlcL (delay:Int) (k:KeysR) (mine:Bool) (hash:ByteArray) (exp:Int):LockT:=
 if mine then anyL [sigL k.rev,allL [sigL k.theirs,preL hash],allL [afterL exp,olderL delay,sigL k.mine]]
 else anyL [sigL k.rev,allL [olderL delay,preL hash,sigL k.mine],allL [afterL exp,sigL k.theirs]]
end Go.Proofs.YtbiioifpeebjaaaGreatDoor
