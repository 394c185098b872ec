/- The law: deals, fees, payments that are left out. · Arguments opened: weights, fields, rows of terms. · The frame of the six laws' rows: what every law whose calls only lay new blocks shares. · Arguments opened: a deal, a payment, keys. -/
import Derived.Test.YtbiioifpeebjaaaGreatDoorQ19
import Derived.Test.YtbiioifpeebjaaaGreatDoorQ18
import Derived.Test.YtbiioifpeebjaaaGreatDoorQ20
import Derived.Lib.QuietBelow
import Derived.Test.YtbiioifpeebjaaaGreatDoorQ4
import Derived.Deep.Slices
import Derived.Deep.Fields
import Derived.ChangeSame
import Derived.ChangeArms
import Derived.OpenShut
import Derived.SliceStrings
import Derived.Lib.SmallJoins
import Derived.Test.YtbiioifpeebjaaaGreatDoorQ0
import Derived.Test.YtbiioifpeebjaaaGreatDoorCards
import Derived.Test.YtbiioifpeebjaaaGreatDoorTie
import Derived.ProofKit
import Derived.Carry
import Derived.LaidMore
import Derived.Lay
import Derived.SevenTiedAt
import Derived.Stop.Joined
import Derived.Below
import Derived.ChangeMaps5
import Derived.SizedLaws
import Derived.Stop.LaidErr
import Derived.Stop.LaidTwo
import Derived.Lib.LaidTab
set_option linter.all false
namespace Go.Proofs.YtbiioifpeebjaaaGreatDoor
open Go.RowKit Go.Sort
end Go.Proofs.YtbiioifpeebjaaaGreatDoor
namespace Go.Proofs.YtbiioifpeebjaaaGreatDoor
open Go.RowKit Go.ChangeShapes Go.WideShapes Go.Deep
section
variable {H:Type} {enc:TypeId×Value->H} {P:Program} {w:World} {base:Nat} {spare:Nat->Bool} {held:Bool}
theorem open_slice_fields {t e:TypeId} {fs:Array Field} {fuel:Nat} {cs:List Value} {x:DataW H×List MemPlace} (ht:P.underlying t=some (.slice e)) (he:P.underlying e=some (.struct fs))
 (hone:oneCellFields P fs=true) (hC:P.cellsOf e=fs.size) (h:DataW.trod enc P w base spare held fuel t cs=some x):
 (cs=[.slice none 0 0]/\x=(.nil,[]))\/
 ∃(a:Addr) (len cap m:Nat) (D:Nat->DataW H) (Pl:Nat->List MemPlace),cs=[.slice (some a) len cap]/\base<=a.block/\len<=cap/\cap<=maxLen/\m=(if spare a.block then cap else len)/\
  x=(.slice ((List.range len).map D) ((List.range (m - len)).map fun j=>D (len+j)),MemPlace.row a (m*fs.size)++(List.range m).flatMap Pl)/\
  ∀i,i<m-> ∃(ys:List (DataW H×List MemPlace)) (n:Nat),D i= .agg (ys.map (·.1))/\Pl i=ys.flatMap (·.2)/\ys.length=fs.size/\
   ∀(j:Nat) (f:Field),fs[j]? =some f-> ∃(v:Value) (y:DataW H×List MemPlace),w.cell? (a.add (i*fs.size+j))=some v/\ys[j]? =some y/\DataW.trod enc P w base spare held n f.type [v]=some y:=by
 rcases open_slice ht h with h0|⟨a,len,cap,m,n,D,Pl,hcs,hb,hl,hm,hmm,hx,hi⟩
 ·exact .inl h0
 ·refine .inr ⟨a,len,cap,m,D,Pl,hcs,hb,hl,hm,hmm,by rw[hC]at hx;exact hx,fun i him=> ?_⟩;obtain⟨cs',hc,ht'⟩:=hi i him;rw[hC]at hc;obtain⟨ys,n',hn',hy,hlen,hyl,hf⟩:=DataW.trod_struct he ht';obtain⟨_,hcl,hat⟩:=World.cells?_some hc;simp only[Prod.mk.injEq]at hy;refine⟨ys,n',hy.1,hy.2,hyl,fun j f hj=> ?_⟩;obtain⟨ho,hk⟩:=hone_of hone j f hj;have hjl:j<fs.size:=(Array.getElem?_eq_some_iff.1 hj).1;have hcell:=hat j hjl;have hv:cs'[j]? =some (cs'[j]'(by omega)):=List.getElem?_eq_getElem (by omega);have h1:=hf j f hj;rw[ho,hk]at h1;have hone':(cs'.drop j).take 1=[cs'[j]'(by omega)]:=by
   rw[List.drop_eq_getElem_cons (by omega)];rfl
  rw[hone']at h1;have hys:ys[j]? =some (ys[j]'(by omega)):=List.getElem?_eq_getElem (by omega);refine⟨_,_, ?_,hys,h1.trans hys⟩;rw[<-Go.Deep.add_add,hcell,hv]
end
theorem list_of {α:Type} {n:Nat} {P:Nat->α->Prop} (h: ∀i,i<n-> ∃x,P i x): ∃l:List α,l.length=n/\ ∀i (hi:i<l.length),P i l[i]:=by
 induction n with
 |zero=>exact⟨[],rfl,fun i hi=>absurd hi (by simp)⟩
 |succ n ih=>
  obtain⟨l,hl,hp⟩:=ih fun i hi=>h i (by omega)
  obtain⟨x,hx⟩:=h n (by omega);refine⟨l++[x],by simp[hl],fun i hi=> ?_⟩;by_cases e:i<l.length
  ·rw[List.getElem_append_left e];exact hp i e
  ·have:i=n:=by simp at hi;omega
   subst this;rw[List.getElem_append_right (by omega)];simp[hl];exact hx
section
variable {H:Type} {P:Program} {B:Nat}
theorem weightsAll_le {e:TypeId}: ∀{l:List (DataW H)},(∀n∈DataW.weightsAll P e l,n<=B)-> ∀d∈l,∀n∈d.weights P e,n<=B
 |[],_,d,hd=>by cases hd
 |y::r,h,d,hd=>by
  intro n hn;rcases List.mem_cons.1 hd with rfl|hd
  ·exact h n (by unfold DataW.weightsAll;exact List.mem_append_left _ hn)
  ·exact weightsAll_le (l:=r) (fun m hm=>h m (by unfold DataW.weightsAll;exact List.mem_append_right _ hm)) d hd n hn
theorem weightsEach_le: ∀{ts:List TypeId} {l:List (DataW H)},(∀n∈DataW.weightsEach P ts l,n<=B)-> ∀(j:Nat) (t:TypeId) (d:DataW H),ts[j]? =some t->l[j]? =some d-> ∀n∈d.weights P t,n<=B
 |[],_,_,j,t,d,ht,_=>by simp at ht
 |_::_,[],_,j,t,d,_,hd=>by simp at hd
 |u::ts,y::r,h,0,t,d,ht,hd=>by
  intro n hn;have e1:u=t:=by simpa using ht
  have e2:y=d:=by simpa using hd
  subst e1;subst e2;exact h n (by unfold DataW.weightsEach;exact List.mem_append_left _ hn)
 |u::ts,y::r,h,j+1,t,d,ht,hd=>weightsEach_le (ts:=ts) (l:=r) (fun m hm=>h m (by unfold DataW.weightsEach;exact List.mem_append_right _ hm)) j t d (by simpa using ht) (by simpa using hd)
theorem weight_string {t:TypeId} {s:ByteArray} (h: ∀n∈(DataW.lit (.string s.data.toList):DataW H).weights P t,n<=B):s.size<=B:=by
 have:=h s.data.toList.length (by simp[DataW.weights]);simpa using this
theorem weight_slice {t e:TypeId} {k:Nat} {elems spare:List (DataW H)} (ht:P.underlying t=some (.slice e)) (hk:P.bytesOf e=k) (h: ∀n∈(DataW.slice elems spare).weights P t,n<=B):
 (elems.length+spare.length)*k<=B/\ ∀d∈elems,∀n∈d.weights P e,n<=B:=by
 unfold DataW.weights at h;rw[ht]at h;simp only at h;rw[hk]at h;exact⟨h _ (List.mem_cons_self ..),weightsAll_le fun n hn=>h n (List.mem_cons_of_mem _ (List.mem_append_left _ hn))⟩
theorem weight_agg {t:TypeId} {fs:Array Field} {parts:List (DataW H)} (ht:P.underlying t=some (.struct fs)) (h: ∀n∈(DataW.agg parts).weights P t,n<=B) (j:Nat) (f:Field) (d:DataW H) (hf:fs[j]? =some f) (hd:parts[j]? =some d):
 ∀n∈d.weights P f.type,n<=B:=by
 unfold DataW.weights at h;rw[ht]at h;exact weightsEach_le h j f.type d (by simp[hf]) hd
end
section
variable {H:Type} {enc:TypeId×Value->H} {W:World} {base:Nat}
set_option maxRecDepth 100000 in
theorem open_terms {v:Value} {d:DataW H} {p:List MemPlace} (hval:Value.okWide Tryz.prog W .any base 32 v) (h:DataW.Trod enc Tryz.prog W 0 (fun _=>true) true 32 v d p) (hB: ∀n∈d.weights Tryz.prog 32,n<=reachBytes):
 ∃A l c,v= .slice A l.length c/\Cells W A (strs l)/\l.length<=reachBytes/\ ∀y∈l,y.size<=reachBytes:=by
 obtain⟨A,len,cap,rfl⟩:=okWide_slice Tryz.underlying32 hval;obtain⟨fuel,hf⟩:=h;rcases open_slice1 Tryz.underlying32 (by kernel_rfl) hf with⟨hcs,-⟩|⟨a,len',cap',m,n,V,D,Pl,hcs,-,hl,hm,hmm,hx,hi⟩
 ·have hcs':[Value.slice A len cap]=[.slice none 0 0]:=hcs;simp only[List.cons.injEq,Value.slice.injEq,and_true]at hcs';obtain⟨rfl,rfl,rfl⟩:=hcs';exact⟨none,[],0,rfl,Cells.nil _ _,Nat.zero_le _,fun y hy=>by cases hy⟩
 ·have hcs':[Value.slice A len cap]=[.slice (some a) len' cap']:=hcs;simp only[List.cons.injEq,Value.slice.injEq,and_true]at hcs';obtain⟨rfl,rfl,rfl⟩:=hcs';simp only[if_true]at hmm;subst hmm;injection hx with hx1 hx2;subst hx1;obtain⟨hw,hwe⟩:=weight_slice Tryz.underlying32 (show Tryz.prog.bytesOf 28=16 by kernel_rfl) hB;have hex: ∀i,i<len-> ∃s:ByteArray,W.cell? (a.add i)=some (.string s)/\s.size<=reachBytes:=by
   intro i him;obtain⟨hc,ht⟩:=hi i (by omega);have hwi:=hwe (D i) (List.mem_map.2 ⟨i,List.mem_range.2 him,rfl⟩);obtain⟨s,e,hy,-⟩:=DataW.trod_string Tryz.underlying28 ht;simp only[List.cons.injEq,and_true]at e;rw[e]at hc;injection hy with hy1 hy2;rw[hy1]at hwi;exact⟨s,hc,weight_string hwi⟩
  obtain⟨l,hll,hp⟩:=list_of hex;subst hll;simp only[List.length_map,List.length_range]at hw;refine⟨some a,l,_,rfl,fun _=>⟨a,rfl,fun j u hj=> ?_⟩,by omega,fun y hy=> ?_⟩
  ·have hjl:j<l.length:=by have:=(List.getElem?_eq_some_iff.1 hj).1;simpa [strs]using this
   have hv:(strs l)[j]? =some (.string l[j]):=by unfold strs;rw[List.getElem?_map,List.getElem?_eq_getElem hjl];rfl
   rw[hv]at hj;injection hj with hj;subst hj;exact(hp j hjl).1
  ·obtain⟨k,hk,rfl⟩:=List.getElem_of_mem hy;exact(hp k hk).2
end
end Go.Proofs.YtbiioifpeebjaaaGreatDoor
namespace Go.Proofs.YtbiioifpeebjaaaGreatDoor
open Go.ChangeShapes Go.WideShapes Go.ChangeAt Go.RowKit Go.WideMaps Go.WideElems
theorem own:ownKnob Tryz.prog.godebug=none:=by kernel_rfl
theorem laidOut:laidOutB Tryz.prog=true:=by kernel_rfl
section
variable {H:Type} {enc:TypeId×Value->H}
def Readable (t:TypeId):Prop:=Tryz.prog.readableRec t=true/\t<Tryz.prog.types.size
theorem trodAll_stays {W W':World} {sp:Nat->Bool} (hb:Below W.heap.size W W') {ts:List TypeId} (hr: ∀t∈ts,Readable t): ∀{vs:List Value} {ds:List (DataW H)} {ps:List MemPlace},
 DataW.TrodAll enc Tryz.prog W 0 (fun _=>true) true ts vs ds ps->(∀p∈ps,p.block<W.heap.size)->(∀p∈ps,sp p.block=true)->DataW.TrodAll enc Tryz.prog W' 0 sp true ts vs ds ps:=by
 induction ts with
 |nil=>
  intro vs ds ps h _ _;obtain⟨rfl,rfl,rfl⟩:=trodAll_nil h;exact trodAll_mk0
 |cons t ts ih=>
  intro vs ds ps h hlt hs;obtain⟨v,vs',d,ds',p,q,rfl,rfl,rfl,h0,h1⟩:=trodAll_cons h;have h2:=hr t (List.mem_cons_self ..);exact trodAll_cons_mk (Trod_stays laidOut h2.1 h2.2 h0 (fun x hx=>hb.same (hlt x (List.mem_append_left _ hx))) (fun x hx=>hs x (List.mem_append_left _ hx)))
   (ih (fun u hu=>hr u (List.mem_cons_of_mem _ hu)) h1 (fun x hx=>hlt x (List.mem_append_right _ hx)) (fun x hx=>hs x (List.mem_append_right _ hx)))
set_option maxRecDepth 100000 in
theorem post_true {f:Func} {s:ChangeSpec} {W W':World} {args:Array Value} {ds:List (DataW H)} {before:List MemPlace}
 (hW:DataW.Whole enc Tryz.prog f.params.toList s.vars false W args.toList ds [] before) (hvs:s.vars=[]) (hf: ∀t∈f.params.toList,Readable t)
 (hr:f.resultTypes= #[4]) (hfn:s.fn H (ds++[])={results:=[.lit (.bool true)],args:=ds}) (hb:Below W.heap.size W W'):
 s.post enc Tryz.prog f false true false false W args (.bool true) W':=by
 have hW':=hW;obtain⟨p,q,hA,hV,rfl,hfz,hnd⟩:=hW;rw[hvs]at hV;obtain⟨-,rfl⟩:=trodVars_none hV;have hlt0: ∀x∈p++[],x.block<W.heap.size:=fun x hx=>hW'.lt x hx
 have hlt: ∀x∈p,x.block<W.heap.size:=fun x hx=>hlt0 x (List.mem_append_left _ hx)
 have hres: ∀(b:Nat) (sp:Nat->Bool) (hd:Bool),DataW.TrodAll enc Tryz.prog W' b sp hd f.resultTypes.toList ((Value.bool true).resultList f.resultTypes.size) (s.fn H (ds++[])).results []:=by
  intro b sp hd;rw[hfn,hr];exact trodAll_mk1 (shut_bool Tryz.underlying4 _)
 have hold: ∀x∈p,(fun b=>decide (b<W.heap.size)) x.block=true:=fun x hx=>by simpa using hlt x hx
 have hargs: ∀sp:Nat->Bool,(∀x∈p,sp x.block=true)->DataW.TrodAll enc Tryz.prog W' 0 sp true f.params.toList args.toList (s.fn H (ds++[])).args p:=by
  intro sp hsp;rw[hfn];exact trodAll_stays hb hf hA hlt hsp
 have hvars: ∀sp:Nat->Bool,DataW.TrodVars enc Tryz.prog W' sp s.vars (s.fn H (ds++[])).vars []:=by
  intro sp;rw[hvs,hfn];exact rfl
 refine⟨ds,[],p++[],[],p,[],hW',hres _ _ _,hargs _ hold,hvars _,World.keptBut_mono (fun x hx=>⟨hx, ?_⟩) (hb.frame (· ∈p++[])),fun _=> ?_⟩
 ·rw[List.mem_append]at hx;exact Or.inr hx
 ·refine⟨ok_one hr rfl (okWide_bool_mk Tryz.underlying4 _),_,_,([]++p)++[],⟨[]++p,[],trodAll_append (hargs _ (fun _ _=>rfl)) (hres _ _ _),hvars _,rfl, ?_, ?_⟩, ?_⟩
  ·intro b off hp;have hin:MemPlace.cell b off∈p++[]:=by simpa using hp
   rw[hb.frozen (hlt0 _ hin)];exact hfz b off hin
  ·intro ha;cases ha
  ·intro x hx _;simpa using hx
end
end Go.Proofs.YtbiioifpeebjaaaGreatDoor
namespace Go.Proofs.YtbiioifpeebjaaaGreatDoor
open Go.ChangeShapes Go.WideShapes Go.ChangeAt Go.RowKit Go.WideMaps Go.WideElems
theorem starErr: "*" ++ "errors.errorString" = "*errors.errorString" :=by decide
theorem rowErr (u:TypeId) (h:Tryz.prog.typeName? 3 u=some "*errors.errorString"):u=196:=
 typeName_ptr_named (nm:= "errors.errorString") (by rw[starErr];kernel_rfl) (by kernel_rfl) (by decide) u (by rw[starErr];exact h)
theorem gPow:Tryz.prog.globalNamed "internal/strconv.uint64pow10" =some 3:=by kernel_rfl
theorem laid_vars {W:World} {a b c:String×DataW Unit} (h:laidMet Tryz.prog (a::b::c::[("strconv.ErrRange",Rows.laid_strconv_ErrRange),("strconv.ErrSyntax",Rows.laid_strconv_ErrSyntax)]) W):VarsOk W:=by
 obtain⟨a0,a1,s0,s1,c0,c1,t0,t1,h0,h1,-⟩:=laid_sentinels2 (h.tail.tail.tail) gRange (by kernel_rfl) gSyntax (by kernel_rfl) Tryz.underlying114 rowErr Tryz.underlying196 Tryz.underlying198 rfl rfl Tryz.underlying9 (by kernel_rfl) (by kernel_rfl);exact⟨⟨_,_,h1⟩,_,_,h0⟩
theorem laid_tab {W:World} {a b:String×DataW Unit} {r:List (String×DataW Unit)} (h:laidMet Tryz.prog (a::b::("internal/strconv.uint64pow10",Rows.laid_internal_strconv_uint64pow10)::r) W):TabOk W:=by
 have e:(Rows.laid_internal_strconv_uint64pow10:DataW Unit)=Lib.tabData .u64 Lib.pow10Tab:=by kernel_rfl
 rw[e]at h;exact Lib.tabIs_of_head gPow (by kernel_rfl) Tryz.underlying173 Tryz.underlying86 (by kernel_rfl) (by kernel_rfl) h.tail.tail
theorem arrayN9 {α:Type} {cs:Array α} (h:cs.size=9): ∃c0 c1 c2 c3 c4 c5 c6 c7 c8,cs= #[c0,c1,c2,c3,c4,c5,c6,c7,c8]:=by
 obtain⟨l⟩:=cs
 match l,h with
 |[c0,c1,c2,c3,c4,c5,c6,c7,c8],_=>exact⟨c0,c1,c2,c3,c4,c5,c6,c7,c8,rfl⟩
theorem arrayN5 {α:Type} {cs:Array α} (h:cs.size=5): ∃c0 c1 c2 c3 c4,cs= #[c0,c1,c2,c3,c4]:=by
 obtain⟨l⟩:=cs
 match l,h with
 |[c0,c1,c2,c3,c4],_=>exact⟨c0,c1,c2,c3,c4,rfl⟩
section
variable {H:Type} {enc:TypeId×Value->H} {W:World} {base:Nat}
set_option maxRecDepth 100000 in
theorem open_deal {v:Value} {d:DataW H} {p:List MemPlace} (hval:Value.okWide Tryz.prog W .any base 23 v) (h:DataW.Trod enc Tryz.prog W 0 (fun _=>true) true 23 v d p) (hB: ∀n∈d.weights Tryz.prog 23,n<=reachBytes):
 ∃d:DealR,v=dealV d:=by
 obtain⟨cs,rfl,hsz⟩:=okWide_struct Tryz.underlying23 hval;obtain⟨c0,c1,c2,c3,c4,c5,c6,c7,c8,rfl⟩:=arrayN9 (hsz.trans (show Tryz.prog.cellsOf 23=9 by kernel_rfl));obtain⟨fuel,hf⟩:=h;obtain⟨xs,n,-,hx,hl,hlen,hfi⟩:=DataW.trod_struct Tryz.underlying23 hf;obtain⟨y0,y1,y2,y3,y4,y5,y6,y7,y8,rfl⟩: ∃y0 y1 y2 y3 y4 y5 y6 y7 y8,xs=[y0,y1,y2,y3,y4,y5,y6,y7,y8]:=by
  match xs,hlen with
  |[y0,y1,y2,y3,y4,y5,y6,y7,y8],_=>exact⟨_,_,_,_,_,_,_,_,_,rfl⟩
 have hc0:Tryz.prog.cellsOf 3=1:=by kernel_rfl
 have hc1:Tryz.prog.cellsOf 2=1:=by kernel_rfl
 have t0:=hfi 0 _ rfl;have t1:=hfi 1 _ rfl;have t2:=hfi 2 _ rfl;have t3:=hfi 3 _ rfl;have t4:=hfi 4 _ rfl;have t5:=hfi 5 _ rfl;have t6:=hfi 6 _ rfl;have t7:=hfi 7 _ rfl;have t8:=hfi 8 _ rfl;simp only[Value.cells,hc0,hc1]at t0 t1 t2 t3 t4 t5 t6 t7 t8;obtain⟨s0,e0,q0,-⟩:=DataW.trod_int Tryz.underlying2 t0;obtain⟨s1,e1,q1,-⟩:=DataW.trod_int Tryz.underlying2 t1;obtain⟨s2,e2,q2,-⟩:=DataW.trod_int Tryz.underlying2 t2;obtain⟨s3,e3,q3,-⟩:=DataW.trod_int Tryz.underlying2 t3;obtain⟨s4,e4,q4,-⟩:=DataW.trod_int Tryz.underlying2 t4;obtain⟨s5,e5,q5,-⟩:=DataW.trod_int Tryz.underlying3 t5;obtain⟨s6,e6,q6,-⟩:=DataW.trod_int Tryz.underlying3 t6;obtain⟨s7,e7,q7,-⟩:=DataW.trod_int Tryz.underlying2 t7;obtain⟨s8,e8,q8,-⟩:=DataW.trod_int Tryz.underlying2 t8;subst q0;subst q1;subst q2;subst q3;subst q4;subst q5;subst q6;subst q7;subst q8;simp[hc0,hc1]at e0 e1 e2 e3 e4 e5 e6 e7 e8;subst e0;subst e1;subst e2;subst e3;subst e4;subst e5;subst e6;subst e7;subst e8;exact⟨⟨s0,s1,s2,s3,s4,s5,s6,s7,s8⟩,rfl⟩
set_option maxRecDepth 100000 in
theorem open_pay {v:Value} {d:DataW H} {p:List MemPlace} (hval:Value.okWide Tryz.prog W .any base 38 v) (h:DataW.Trod enc Tryz.prog W 0 (fun _=>true) true 38 v d p) (hB: ∀n∈d.weights Tryz.prog 38,n<=reachBytes):
 ∃h:PayR,v=htlcV h/\h.hash.size<=reachBytes:=by
 obtain⟨cs,rfl,hsz⟩:=okWide_struct Tryz.underlying38 hval;obtain⟨c0,c1,c2,c3,c4,rfl⟩:=arrayN5 (hsz.trans (show Tryz.prog.cellsOf 38=5 by kernel_rfl));obtain⟨fuel,hf⟩:=h;obtain⟨xs,n,-,hx,hl,hlen,hfi⟩:=DataW.trod_struct Tryz.underlying38 hf;obtain⟨y0,y1,y2,y3,y4,rfl⟩: ∃y0 y1 y2 y3 y4,xs=[y0,y1,y2,y3,y4]:=by
  match xs,hlen with
  |[y0,y1,y2,y3,y4],_=>exact⟨_,_,_,_,_,rfl⟩
 have hc0:Tryz.prog.cellsOf 4=1:=by kernel_rfl
 have hc1:Tryz.prog.cellsOf 3=1:=by kernel_rfl
 have hc2:Tryz.prog.cellsOf 2=1:=by kernel_rfl
 have hc3:Tryz.prog.cellsOf 28=1:=by kernel_rfl
 have t0:=hfi 0 _ rfl;have t1:=hfi 1 _ rfl;have t2:=hfi 2 _ rfl;have t3:=hfi 3 _ rfl;have t4:=hfi 4 _ rfl;simp only[Value.cells,hc0,hc1,hc2,hc3]at t0 t1 t2 t3 t4;obtain⟨s0,e0,q0⟩:=DataW.trod_bool Tryz.underlying4 t0;obtain⟨s1,e1,q1,-⟩:=DataW.trod_int Tryz.underlying2 t1;obtain⟨s2,e2,q2,-⟩:=DataW.trod_int Tryz.underlying2 t2;obtain⟨s3,e3,q3,-⟩:=DataW.trod_string Tryz.underlying28 t3;obtain⟨s4,e4,q4,-⟩:=DataW.trod_int Tryz.underlying3 t4;subst q0;subst q1;subst q2;subst q3;subst q4;simp[hc0,hc1,hc2,hc3]at e0 e1 e2 e3 e4;subst e0;subst e1;subst e2;subst e3;subst e4;simp only[Prod.mk.injEq,List.map_cons,List.map_nil]at hx;obtain⟨hx1,-⟩:=hx;subst hx1;have z3:=weight_agg (fs:=_) Tryz.underlying38 hB 3 _ _ rfl rfl;exact⟨⟨s0,s1,s2,s3,s4⟩,rfl,weight_string z3⟩
set_option maxRecDepth 100000 in
theorem open_keys {v:Value} {d:DataW H} {p:List MemPlace} (hval:Value.okWide Tryz.prog W .any base 30 v) (h:DataW.Trod enc Tryz.prog W 0 (fun _=>true) true 30 v d p) (hB: ∀n∈d.weights Tryz.prog 30,n<=reachBytes):
 ∃k:KeysR,v=keysV k/\k.rev.size<=reachBytes/\k.later.size<=reachBytes/\k.mine.size<=reachBytes/\k.theirs.size<=reachBytes/\k.pay.size<=reachBytes:=by
 obtain⟨cs,rfl,hsz⟩:=okWide_struct Tryz.underlying30 hval;obtain⟨c0,c1,c2,c3,c4,rfl⟩:=arrayN5 (hsz.trans (show Tryz.prog.cellsOf 30=5 by kernel_rfl));obtain⟨fuel,hf⟩:=h;obtain⟨xs,n,-,hx,hl,hlen,hfi⟩:=DataW.trod_struct Tryz.underlying30 hf;obtain⟨y0,y1,y2,y3,y4,rfl⟩: ∃y0 y1 y2 y3 y4,xs=[y0,y1,y2,y3,y4]:=by
  match xs,hlen with
  |[y0,y1,y2,y3,y4],_=>exact⟨_,_,_,_,_,rfl⟩
 have hc0:Tryz.prog.cellsOf 28=1:=by kernel_rfl
 have t0:=hfi 0 _ rfl;have t1:=hfi 1 _ rfl;have t2:=hfi 2 _ rfl;have t3:=hfi 3 _ rfl;have t4:=hfi 4 _ rfl;simp only[Value.cells,hc0]at t0 t1 t2 t3 t4;obtain⟨s0,e0,q0,-⟩:=DataW.trod_string Tryz.underlying28 t0;obtain⟨s1,e1,q1,-⟩:=DataW.trod_string Tryz.underlying28 t1;obtain⟨s2,e2,q2,-⟩:=DataW.trod_string Tryz.underlying28 t2;obtain⟨s3,e3,q3,-⟩:=DataW.trod_string Tryz.underlying28 t3;obtain⟨s4,e4,q4,-⟩:=DataW.trod_string Tryz.underlying28 t4;subst q0;subst q1;subst q2;subst q3;subst q4;simp[hc0]at e0 e1 e2 e3 e4;subst e0;subst e1;subst e2;subst e3;subst e4;simp only[Prod.mk.injEq,List.map_cons,List.map_nil]at hx;obtain⟨hx1,-⟩:=hx;subst hx1;have z0:=weight_agg (fs:=_) Tryz.underlying30 hB 0 _ _ rfl rfl;have z1:=weight_agg (fs:=_) Tryz.underlying30 hB 1 _ _ rfl rfl;have z2:=weight_agg (fs:=_) Tryz.underlying30 hB 2 _ _ rfl rfl;have z3:=weight_agg (fs:=_) Tryz.underlying30 hB 3 _ _ rfl rfl;have z4:=weight_agg (fs:=_) Tryz.underlying30 hB 4 _ _ rfl rfl;exact⟨⟨s0,s1,s2,s3,s4⟩,rfl,weight_string z0,weight_string z1,weight_string z2,weight_string z3,weight_string z4⟩
end
end Go.Proofs.YtbiioifpeebjaaaGreatDoor
