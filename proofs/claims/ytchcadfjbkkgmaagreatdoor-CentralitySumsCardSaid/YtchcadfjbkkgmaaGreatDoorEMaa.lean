/- From 'the evaluator yields true on all data of the types' to the call in any world. Data of a type, taken apart. Lists of things of any type, each read as a value. Steps of the symbolic walk whose side conditions are tried by themselves. More on lists of things: appending, parts. -/
import Derived.Test.YtchcadfjbkkgmaaGreatDoorEEnt
import Derived.Test.YtchcadfjbkkgmaaGreatDoorEVa
import Derived.WalkKit
import Derived.ProofKit
import Derived.OpenShut
import Derived.ShutString
import Derived.ChangeOld
import Derived.Below
import Derived.Carry
set_option linter.unusedVariables false
set_option maxRecDepth 4000
namespace Go.Proofs.YtchcadfjbkkgmaaGreatDoor
namespace AI
section
open Go.RowKit Go.ChangeShapes Go.WideShapes Go.ChangeAt
variable {P:Program} {w:World} {H:Type} {enc:TypeId×Value→H}
def Like (P:Program) (t:TypeId) (a:AV):Prop:=∃d,like P d t a
def likes (P:Program):List TypeId→List AV→Prop
 |[],[]=>True
 |t::ts,a::as=>Like P t a∧likes P ts as
 |_,_=>False
theorem Uo {n:Nat} {e:TypeId} {r:Reach} {base:Nat} {t:TypeId} {v:Value} (ht:P.underlying t=some (.array n e)) (h:Value.okWide P w r base t v):∃cs,v=.agg cs∧cs.size=P.cellsOf t:=by
 unfold Value.okWide at h
 rw[ht]at h
 obtain⟨cs,h1,h2,_⟩:=h
 exact⟨cs,h1,h2⟩
theorem Aa8 {S:List TypeId} (hS:Ot P S=true) {t:TypeId} {v:Value} {base:Nat} {dd:DataW H} {p:List MemPlace} (ht0:S.contains t=true) (hv:Value.okWide P w .any base t v) (h:DataW.Trod enc P w 0 (fun _=>true) true t v dd p) (hwt:Fits P t dd):
 ∃a,Like P t a∧Rep w (fun b _=>b<w.heap.size) (fun _=>.nil) 0 a v:=by
 obtain⟨fuel,h⟩:=h
 obtain⟨as,h1,h2⟩:=Qi hS fuel t _ _ ht0 h hwt
 have ht:=KY hS ht0
 refine⟨pack P t as,⟨fuel,as,h1,rfl⟩,?_⟩
 have one:∀v:Value,v.cells=#[v]→(v.cells.toList=v.cells.toList→True)→Stand w as v.cells.toList→pack P t as=as.getD 0 .junk→Rep w (fun b _=>b<w.heap.size) (fun _=>.nil) 0 (pack P t as) v:=by
  intro v hc _ hs hp
  rw[hp]
  rw[hc]at hs
  obtain⟨hl,hs⟩:=hs
  obtain⟨c,rfl⟩:∃c,as=[c]:=List.length_eq_one_iff.1 (by simpa using hl)
  obtain⟨v',h3,h4,_⟩:=hs 0 c rfl
  simp at h3
  subst h3
  exact h4
 simp only[Mc]at ht
 cases hu:P.underlying t with
 |none=>rw[hu]at ht;cases ht
 |some k=>
  rw[hu]at ht
  cases k with
  |bool=>
   obtain⟨b,rfl⟩:=okWide_bool hu hv
   exact one _ rfl (fun _=>trivial) h2 (by unfold pack;rw[hu])
  |int k=>
   obtain⟨b,rfl⟩:=okWide_int hu hv
   exact one _ rfl (fun _=>trivial) h2 (by unfold pack;rw[hu])
  |string=>
   obtain⟨b,rfl⟩:=okWide_string hu hv
   exact one _ rfl (fun _=>trivial) h2 (by unfold pack;rw[hu])
  |slice e=>
   obtain⟨a,l,c,rfl⟩:=okWide_slice hu hv
   exact one _ rfl (fun _=>trivial) h2 (by unfold pack;rw[hu])
  |struct fs=>
   obtain⟨cs,rfl,hcs⟩:=okWide_struct hu hv
   have hp:pack P t as=.agg as:=by unfold pack;rw[hu]
   rw[hp]
   have hcells:(Value.agg cs).cells=cs:=rfl
   rw[hcells]at h2
   refine .agg as cs (by simpa using h2.1) (fun i c hi=>?_) (fun i c hi=>?_)
   ·obtain⟨v,_,_,h5,_⟩:=h2.2 i c hi
    exact h5
   ·obtain⟨v,h4,h5,_⟩:=h2.2 i c hi
    rw[Array.getD_eq_getD_getElem?,←Array.getElem?_toList,h4]
    exact h5
  |array n e=>
   obtain⟨cs,rfl,hcs⟩:=Uo hu hv
   have hp:pack P t as=.agg as:=by unfold pack;rw[hu]
   rw[hp]
   have hcells:(Value.agg cs).cells=cs:=rfl
   rw[hcells]at h2
   refine .agg as cs (by simpa using h2.1) (fun i c hi=>?_) (fun i c hi=>?_)
   ·obtain⟨v,_,_,h5,_⟩:=h2.2 i c hi
    exact h5
   ·obtain⟨v,h4,h5,_⟩:=h2.2 i c hi
    rw[Array.getD_eq_getD_getElem?,←Array.getElem?_toList,h4]
    exact h5
  |_=>cases ht
theorem RZ {S:List TypeId} (hS:Ot P S=true) {base:Nat}:∀{ts:List TypeId} {vs:List Value} {ds:List (DataW H)} {p:List MemPlace},(∀ t∈ts,S.contains t=true)→(∀ (j:Nat) t v,ts[j]?=some t→vs[j]?=some v→Value.okWide P w .any base t v)→
 DataW.TrodAll enc P w 0 (fun _=>true) true ts vs ds p→F7 P ts ds→
 ∃as,likes P ts as∧as.length=vs.length∧ds.length=ts.length∧∀(i:Nat) (a:AV),as[i]?=some a→∃v,vs[i]?=some v∧Rep w (fun b _=>b<w.heap.size) (fun _=>.nil) 0 a v
 |[],vs,ds,p,_,_,h,_=>by
  obtain⟨rfl,rfl,rfl⟩:=trodAll_nil h
  exact⟨[],trivial,rfl,rfl,fun i a h=>by simp at h⟩
 |t::ts,vs,ds,p,ht,hv,h,hwt=>by
  obtain⟨v,vs',dd,ds',p',q,rfl,rfl,rfl,h1,h2⟩:=trodAll_cons h
  obtain⟨a,k1,k2⟩:=Aa8 hS (ht t (by simp)) (hv 0 t v rfl rfl) h1 hwt.cons.1
  obtain⟨as,k3,k4,k5,k6⟩:=RZ hS (fun t h=>ht t (by simp[h])) (fun j t v h1 h2=>hv (j+1) t v (by simpa using h1) (by simpa using h2)) h2 hwt.cons.2
  refine⟨a::as,⟨k1,k3⟩,by simp[k4],by simp[k5],fun i a' hi=>?_⟩
  cases i with
  |zero=>simp at hi;subst hi;exact⟨v,rfl,k2⟩
  |succ i=>exact k6 i a' (by simpa using hi)
theorem MZ (hl:laidOutB P=true) {w':World} (hb:Below w.heap.size w w'):∀{ts:List TypeId} {vs:List Value} {ds:List (DataW H)} {p:List MemPlace},(∀ t∈ts,P.readableRec t=true∧t<P.types.size)→
 DataW.TrodAll enc P w 0 (fun _=>true) true ts vs ds p→DataW.TrodAll enc P w' 0 (fun b=>decide (b<w.heap.size)) true ts vs ds p
 |[],vs,ds,p,_,h=>by
  obtain⟨rfl,rfl,rfl⟩:=trodAll_nil h
  exact trodAll_mk0
 |t::ts,vs,ds,p,ht,h=>by
  obtain⟨v,vs',dd,ds',p',q,rfl,rfl,rfl,h1,h2⟩:=trodAll_cons h
  have k1:=h1
  have hlt:∀x∈p',x.block<w.heap.size:=by obtain⟨m,hm⟩:=k1;exact DataW.trod_lt m _ _ _ hm
  exact trodAll_cons_mk (Below.trod hl (ht t (by simp)).1 (ht t (by simp)).2 h1 hb hlt) (MZ hl hb (fun t h=>ht t (by simp[h])) h2)
theorem Aa9 {AP:Nat→Option Ht} (hs:∀n,Ak P (run AP n)) {f:Nat} (hf0:AcI P f) {fn:Func} (S:List TypeId) (hS:Ot P S=true) (s:ChangeSpec) (hvars:s.vars=[])
 (hfn:∀(ds:List (DataW H)),ds.length=fn.params.size→s.fn H ds={results:=[.lit (.bool true)],args:=ds}) {tb:TypeId} (hres:fn.resultTypes=#[tb]) (AiT:P.underlying tb=some .bool)
 (hl:laidOutB P=true) (AiU:∀t∈fn.params.toList,S.contains t=true) (hread:∀t∈fn.params.toList,P.readableRec t=true∧t<P.types.size)
 {base:Nat} {args:Array Value} {ds gs:List (DataW H)} {before:List MemPlace}
 (hval:∀(j:Nat) t v,fn.params[j]?=some t→args[j]?=some v→Value.okWide P w .any base t v)
 (hW:DataW.Whole enc P fn.params.toList s.vars false w args.toList ds gs before) (hfit:F7 P fn.params.toList ds)
 (Alb:∀as,likes P fn.params.toList as→D7 AP f as ⟨[],0⟩ fun out _=>out=.ok (.bool true)):
 Calls P f args w fun e w'=>∃v,e=.returned v∧s.post enc P fn false true false false w args v w':=by
 have hW0:=hW
 obtain⟨p,q,hA,hV,rfl,hfz,hnd⟩:=hW
 rw[hvars]at hV
 obtain⟨rfl,rfl⟩:=trodVars_none hV
 obtain⟨as,h1,h2,h3,h4⟩:=RZ hS (vs:=args.toList) AiU (fun j t v h1 h2=>hval j t v (by simpa using h1) (by simpa using h2)) hA hfit
 obtain⟨N,out,s',h5,rfl⟩:=Alb as h1
 have h6:=(hs N) f as ⟨[],0⟩ _ s' h5 w w.heap.size (fun b _=>b<w.heap.size) (fun _=>.nil) w args
  ⟨Below.refl _ _,Nat.le_refl _,fun o ob h=>by simp at h,fun o o' ob ob' g g' b e n e' n' h=>by simp at h,fun b i h=>h⟩
  ⟨by simpa using h2,fun i a hi=>by
   obtain⟨v,k1,k2⟩:=h4 i a hi
   exact⟨v,by simpa using k1,k2⟩⟩
 replace h6:=h6.resolve_right fun⟨x,hx,_⟩=>by rw[Ou hf0]at hx;cases hx
 refine Calls.mono h6.2 fun e w' ⟨Z',φ',hI,_,x,he,hx⟩=>?_
 subst he
 cases hx
 have bel:=hI.below
 have hf:=hfn ds (by rw[h3];simp)
 refine⟨_,rfl,ds,[],_,[],p,[],hW0,?_,?_,?_,bel.frame _,fun h=>by cases h⟩
 ·rw[List.append_nil,hf,hres]
  exact trodAll_mk1 (shut_bool AiT _)
 ·rw[List.append_nil,hf]
  exact MZ hl bel hread hA
 ·rw[hvars,List.append_nil,hf]
  exact rfl
end
section
open Go.RowKit
variable {P:Program}
theorem AbB {d:Nat} {t:TypeId} {k:IntKind} {cs:List AV} (hu:P.underlying t=some (.int k)) (h:Dc P d t cs):∃n,cs=[.int k n]∧(Lit.int k n).wf=true:=by
 cases d with
 |zero=>cases h
 |succ d=>simp only[Dc,hu]at h;exact h
theorem OW {d:Nat} {t:TypeId} {cs:List AV} (hu:P.underlying t=some .string) (h:Dc P d t cs):∃l,cs=[.str l]∧l.length≤maxLen:=by
 cases d with
 |zero=>cases h
 |succ d=>simp only[Dc,hu]at h;exact h
theorem LG {d:Nat} {t e:TypeId} {cs:List AV} (hu:P.underlying t=some (.slice e)) (h:Dc P d t cs):∃d',d=d'+1∧∃nn xs,cs=[.sl nn xs]∧(nn=false→xs=[])∧xs.length≤maxLen∧∀x∈xs,like P d' e x:=by
 cases d with
 |zero=>cases h
 |succ d=>
  refine⟨d,rfl,?_⟩
  simp only[Dc,hu]at h
  rcases h with rfl|⟨xs,rfl,h1,h2,_⟩
  ·exact⟨false,[],rfl,fun _=>rfl,Nat.zero_le _,fun x hx=>by simp at hx⟩
  ·exact⟨true,xs,rfl,(fun h=>(by cases h)),h1,h2⟩
theorem Gg {d:Nat} {t:TypeId} {fs:Array Field} {cs:List AV} (hu:P.underlying t=some (.struct fs)) (h:Dc P d t cs):∃d',d=d'+1∧cs.length=P.cellsOf t∧∀f∈fs.toList,Dc P d' f.type ((cs.drop f.offset).take (P.cellsOf f.type)):=by
 cases d with
 |zero=>cases h
 |succ d=>simp only[Dc,hu]at h;exact⟨d,rfl,h⟩
theorem G8 {d:Nat} {t:TypeId} {fs:Array Field} {a:AV} (hu:P.underlying t=some (.struct fs)) (h:like P d t a):∃cs,a=.agg cs∧Dc P d t cs:=by
 obtain⟨cs,h1,rfl⟩:=h
 exact⟨cs,by simp only[pack,hu],h1⟩
theorem Ql {d:Nat} {t:TypeId} {a:AV} (hu:P.underlying t=some .string) (h:like P d t a):∃l,a=.str l∧l.length≤maxLen:=by
 obtain⟨cs,h1,rfl⟩:=h
 obtain⟨n,rfl,h2⟩:=OW hu h1
 exact⟨n,by simp[pack,hu],h2⟩
theorem Zt {d:Nat} {t e:TypeId} {a:AV} (hu:P.underlying t=some (.slice e)) (h:like P d t a):∃d',d=d'+1∧∃nn xs,a=.sl nn xs∧(nn=false→xs=[])∧xs.length≤maxLen∧∀x∈xs,like P d' e x:=by
 obtain⟨cs,h1,rfl⟩:=h
 obtain⟨d',rfl,nn,xs,rfl,h2⟩:=LG hu h1
 exact⟨d',rfl,nn,xs,by simp[pack,hu],h2⟩
theorem NV {α:Type} {f:α→AV} {Q:α→Prop}:∀{xs:List AV},(∀ x∈xs,∃y,x=f y∧Q y)→∃ys:List α,xs=ys.map f∧∀y∈ys,Q y
 |[],_=>⟨[],rfl,fun y h=>by simp at h⟩
 |x::xs,h=>by
  obtain⟨y,rfl,hy⟩:=h _ (List.mem_cons_self ..)
  obtain⟨ys,rfl,hys⟩:=NV fun x hx=>h x (List.mem_cons_of_mem _ hx)
  exact⟨y::ys,rfl,fun z hz=>(List.mem_cons.1 hz).elim (fun e=>e▸hy) (hys z)⟩
theorem AcS {α:Type} {f:α→AV} {Q:α→Prop} {d:Nat} {t e:TypeId} {a:AV} (hu:P.underlying t=some (.slice e)) (he:∀d x,like P d e x→∃y,x=f y∧Q y) (h:like P d t a):
 ∃nn l,a=.sl nn (l.map f)∧(nn=false→l=[])∧l.length≤maxLen∧∀y∈l,Q y:=by
 obtain⟨d',rfl,nn,xs,rfl,h0,h1,h2⟩:=Zt hu h
 obtain⟨l,rfl,h3⟩:=NV (f:=f) (Q:=Q) fun x hx=>he d' x (h2 x hx)
 exact⟨nn,l,rfl,fun h=>by have:=h0 h;simpa using this,by simpa using h1,h3⟩
theorem AbC:maxLen<2 ^ 63:=by decide
end
section
variable {α:Type} {f:α→AV}
def vs (f:α→AV) (l:List α):List AV:=l.map f
@[simp] theorem lV (l:List α):(vs f l).length=l.length:=by simp[vs]
theorem nV {l:List α} {i:Nat} (h:i<l.length):nth (vs f l) i=some (f l[i]):=by simp[vs,Ar,h]
theorem nVN {l:List α} {i:Nat} (h:i<l.length):nth (vs f l) (Int.toNat (Nat.cast i))=some (f l[i]):=nV h
theorem nVz {l:List α} {z:Int} (i:Nat) (hz:z=i) (h:i<l.length):nth (vs f l) (Int.toNat z)=some (f l[i]):=by subst hz;exact nV h
theorem uV {l:List α}:sub (vs f l) 0 l.length=vs f l:=by unfold sub;exact List.take_of_length_le (by simp)
theorem uVS {l:List α} {x:α}:sub (vs f (l++[x])) 0 (l.length+1)=vs f (l++[x]):=by unfold sub;exact List.take_of_length_le (by simp)
theorem Aac {l:List α} {x:α}:(vs f l).take l.length++[f x]=vs f (l++[x]):=by simp[vs,List.take_of_length_le]
theorem nY0 {l:List UInt8} (h:0<l.length):nth l (Int.toNat 0)=some l[0]:=nY h
theorem U4 {n:Nat} {K:AV→Prop} (h:n<2^63) (hk:K (.int .i64 ((n / 50:Nat):Int))):Jh .i64 ((n:Int).tdiv 50) K:=by
 have e:(n:Int).tdiv 50=((n / 50:Nat):Int):=by
  rw[Int.tdiv_eq_ediv_of_nonneg (by omega)];rfl
 rw[e]
 exact CW (wrap_i64 (by omega) (by omega)) hk
theorem nR {l:List AV} {i:Nat} (h:i<l.length):nth l i=some l[i]:=by simp[Ar,h]
theorem nms {α:Type} {l:List α} {x:α} {i:Nat} (h:i<l.length) (hx:x∉l.take i) (hc:¬l[i]=x):x∉l.take (i+1):=by
 rw[List.take_succ_eq_append_getElem h,List.mem_append,List.mem_singleton]
 rintro(h1|h1)
 ·exact hx h1
 ·exact hc h1.symm
theorem Ah.YO {AP:Nat→Option Ht} {f:Nat} {args:List AV} {R:AV→Prop} (h:Ah AP f args R):∃v,R v∧Ah AP f args (· =v):=by
 obtain⟨v,h1,h2⟩:=h
 exact⟨v,h2,v,h1,rfl⟩
theorem Agf {z:Int} {K:AV→Prop} (n:Nat) (hz:z=n) (h:n<2^63) (hk:K (.int .u64 n)):Jh .u64 z K:=by
 subst hz
 refine CW ?_ hk
 simp[IntKind.wrap,IntKind.bits,IntKind.signed]
 omega
theorem Ai6 (n:Nat):((n:Int)).fdiv (2 ^ (min (Int.toNat 1) IntKind.u64.bits))=((n / 2:Nat):Int):=by
 rw[show (2:Int) ^ (min (Int.toNat 1) IntKind.u64.bits)=2 by rfl,Int.fdiv_eq_ediv_of_nonneg _ (by omega)]
 rfl
end
structure Sn (p:Prop):Prop where
 h:p
structure Sw (p:Prop):Prop where
 h:p
structure Sx (p:Prop):Prop where
 h:p
structure Sg (p:Prop):Prop where
 h:p
structure Sq (p:Prop):Prop where
 h:p
theorem kN {p t:Prop} (h:Sn p) (k:t):need p t:=⟨h.1,k⟩
theorem kW {z:Int} {K:AV→Prop} (h:Sw (-2^63≤z∧z<2^63)) (k:K (.int .i64 z)):Jh .i64 z K:=CW (wrap_i64 h.1.1 h.1.2) k
theorem kX {α:Type} {xs:List α} {i:Nat} {x:α} {K:α→Prop} (h:Sx (nth xs i=some x)) (k:K x):QJ xs i K:=⟨x,h.1,k⟩
theorem kG {α:Type} {o:Option α} {K:α→Prop} {x:α} (h:Sg (o=some x)) (k:K x):LX o K:=⟨x,h.1,k⟩
theorem kQ {α:Type} {a b:α} {K:α→Prop} (h:Sq (a=b)) (k:K b):eqK a K:=⟨b,h.1,k⟩
theorem sd {P:Prop} (h:P:=by first|((with_reducible apply Sn.mk);first|with_reducible rfl|omega|rfl|decide|trivial|exact⟨rfl,rfl,by omega,by omega⟩|exact⟨by omega,by omega,Sl (by omega)⟩|(refine ⟨rfl,rfl,?_⟩;first|((first|rw[lI]|rw[lS]|rw[lB]|rw[lV]);omega)|(simp;done)|(simp;omega))|(refine ⟨rfl,?_⟩;first|((first|rw[lI]|rw[lS]|rw[lB]|rw[lV]);omega)|(simp;done)|(simp;omega))|exact⟨by (try rw[lV]);omega,by(try rw[lV]);omega⟩)|((with_reducible apply Sw.mk);exact⟨by omega,by omega⟩)|((with_reducible apply Sx.mk);first|((with_reducible first|refine nIN ?_|refine nI ?_|refine nSN ?_|refine nS ?_|refine nBN ?_|refine nB ?_|refine nYN ?_|refine nY ?_|refine nY0 ?_|refine nVN ?_|refine nV ?_);first|omega|(simp;omega))|rfl)|((with_reducible apply Sg.mk);rfl)|((with_reducible apply Sq.mk);first|(with_reducible first|exact lI _|exact lS _|exact lB _|exact uI|exact uS|exact uIS|exact uSS|exact rIN _ _|exact rI _ _|exact tIN|exact tI|exact tBN|exact tB|exact uB|exact rBN _ _|exact lV _|exact uV|exact uVS)|rfl)):P:=h
inductive Kl (p:Prop):Prop→Prop
 |no (h:p→False):Kl p False
 |yes:Kl p p
structure Br (p q A B:Prop):Prop where
 mk::(l:p→A) (r:q→B)
inductive Stp:Prop→Prop→Prop
 |n {p t:Prop} (h:Sn p):Stp (need p t) t
 |w {z:Int} {K:AV→Prop} (h:Sw (-2^63≤z∧z<2^63)):Stp (Jh .i64 z K) (K (.int .i64 z))
 |x {α:Type} {xs:List α} {i:Nat} {x:α} {K:α→Prop} (h:Sx (nth xs i=some x)):Stp (QJ xs i K) (K x)
 |g {α:Type} {o:Option α} {x:α} {K:α→Prop} (h:Sg (o=some x)):Stp (LX o K) (K x)
 |q {α:Type} {a b:α} {K:α→Prop} (h:Sq (a=b)):Stp (eqK a K) (K b)
 |p {p p' q' A B:Prop} (h:Kl p p') (k:Kl (¬p) q'):Stp (Pm p A B) (Br p' q' A B)
theorem Kl.to {p q:Prop} (h:Kl p q):p→q:=fun hp=>by
 cases h with
 |no h=>exact h hp
 |yes=>exact hp
theorem Stp.go {G H:Prop} (h:Stp G H) (k:H):G:=by
 cases h with
 |n h=>exact kN h k
 |w h=>exact kW h k
 |x h=>exact kX h k
 |g h=>exact kG h k
 |q h=>exact kQ h k
 |p h h2=>exact⟨fun hp=>k.l (h.to hp),fun hp=>k.r (h2.to hp)⟩
theorem kl {p q:Prop} (h:Kl p q:=by first|exact Kl.no (by intro hc;(try rw[List.length_nil]at hc);first|omega|exact absurd rfl hc)|exact Kl.yes):Kl p q:=h
theorem kA {G H:Prop} (k:H) (h:Stp G H:=by first|((with_reducible first|apply Stp.n|apply Stp.w|apply Stp.x|apply Stp.g|apply Stp.q);exact sd)|((with_reducible apply Stp.p)<;>exact kl)):G:=h.go k
theorem kB {b:Bool} {A B:Prop} (k:Br (b=true) (b=false) A B):KL b A B:=Yg k.l k.r
section
variable {α:Type} {f:α→AV}
theorem AhK (l:List α) (a n:Nat):sub (vs f l) a n=vs f ((l.drop a).take n):=by simp[sub,vs,List.map_drop,List.map_take]
theorem Um {es g len:Nat} {nn cl:Bool} {l:List α} {x:α} {bytes:Nat} {K:Nat→Bool→Bool→List AV→Prop} (hf:∀x,(f x).cells.length=es) (hl:len=l.length) (hr:(l.length+1)*bytes≤2 ^ 46) (h:K (l.length+1) true cl (vs f (l++[x]))):
 VQ g g es es len nn cl true (vs f l) [f x] bytes K:=by
 subst hl
 refine⟨⟨rfl,rfl,by simp,by intro y hy;simp at hy;subst hy;exact hf x,Sl hr⟩,?_⟩
 have e1:(nn||!([f x]:List AV).isEmpty)=true:=by simp
 have e2:(cl&&true)=cl:=by simp
 rw[e1,e2,Aac]
 exact h
end
end AI
end Go.Proofs.YtchcadfjbkkgmaaGreatDoor
