/- From 'the evaluator yields true on all data of the types' to the call in any world. -/
import Derived.Test.YtgmgkkbpgndaaaaGreatDoorEnt
import Derived.Test.YtgmgkkbpgndaaaaGreatDoorVa
import Derived.WalkKit
import Derived.ProofKit
import Derived.OpenShut
import Derived.ShutString
import Derived.ChangeOld
import Derived.Below
import Derived.Carry
set_option linter.unusedVariables false
set_option maxRecDepth 4000
namespace Go.Proofs.YtgmgkkbpgndaaaaGreatDoor
namespace AI
open Go.RowKit Go.ChangeShapes Go.WideShapes Go.ChangeAt
variable {P:Program} {w:World} {H:Type} {enc:TypeId×Value→H}
def Like (P:Program) (t:TypeId) (a:AV):Prop:=∃d,like P d t a
def likes (P:Program):List TypeId→List AV→Prop
 |[],[]=>True
 |t::ts,a::as=>Like P t a∧likes P ts as
 |_,_=>False
theorem likes_length:∀{ts:List TypeId} {as:List AV},likes P ts as→as.length=ts.length
 |[],[],_=>rfl
 |t::ts,a::as,h=>by simp[likes_length h.2]
 |[],_::_,h=>by cases h
 |_::_,[],h=>by cases h
theorem okWide_array' {n:Nat} {e:TypeId} {r:Reach} {base:Nat} {t:TypeId} {v:Value} (ht:P.underlying t=some (.array n e)) (h:Value.okWide P w r base t v):∃cs,v=.agg cs∧cs.size=P.cellsOf t:=by
 unfold Value.okWide at h
 rw[ht]at h
 obtain⟨cs,h1,h2,_⟩:=h
 exact⟨cs,h1,h2⟩
theorem entry_one {S:List TypeId} (hS:closedS P S=true) {t:TypeId} {v:Value} {base:Nat} {dd:DataW H} {p:List MemPlace} (ht0:S.contains t=true) (hv:Value.okWide P w .any base t v) (h:DataW.Trod enc P w 0 (fun _=>true) true t v dd p) (hwt:Fits P t dd):
 ∃a,Like P t a∧Rep w (fun b _=>b<w.heap.size) (fun _=>.nil) 0 a v:=by
 obtain⟨fuel,h⟩:=h
 obtain⟨as,h1,h2⟩:=entry_cells hS fuel t _ _ ht0 h hwt
 have ht:=closedS_get hS ht0
 refine⟨pack P t as,⟨fuel,as,h1,rfl⟩,?_⟩
 have one:∀v:Value,v.cells=#[v]→(v.cells.toList=v.cells.toList→True)→Stand w as v.cells.toList→pack P t as=as.getD 0 .junk→Rep w (fun b _=>b<w.heap.size) (fun _=>.nil) 0 (pack P t as) v:=by
  intro v hc _ hs hp
  rw[hp]
  rw[hc]at hs
  obtain⟨hl,hs⟩:=hs
  obtain⟨c,rfl⟩:∃c,as=[c]:=List.length_eq_one_iff.1 (by simpa using hl)
  obtain⟨v',h3,h4,_⟩:=hs 0 c rfl
  simp at h3
  subst h3
  exact h4
 simp only[shapeOk]at ht
 cases hu:P.underlying t with
 |none=>rw[hu]at ht;cases ht
 |some k=>
  rw[hu]at ht
  cases k with
  |bool=>
   obtain⟨b,rfl⟩:=okWide_bool hu hv
   exact one _ rfl (fun _=>trivial) h2 (by unfold pack;rw[hu])
  |int k=>
   obtain⟨b,rfl⟩:=okWide_int hu hv
   exact one _ rfl (fun _=>trivial) h2 (by unfold pack;rw[hu])
  |string=>
   obtain⟨b,rfl⟩:=okWide_string hu hv
   exact one _ rfl (fun _=>trivial) h2 (by unfold pack;rw[hu])
  |slice e=>
   obtain⟨a,l,c,rfl⟩:=okWide_slice hu hv
   exact one _ rfl (fun _=>trivial) h2 (by unfold pack;rw[hu])
  |struct fs=>
   obtain⟨cs,rfl,hcs⟩:=okWide_struct hu hv
   have hp:pack P t as=.agg as:=by unfold pack;rw[hu]
   rw[hp]
   have hcells:(Value.agg cs).cells=cs:=rfl
   rw[hcells]at h2
   refine .agg as cs (by simpa using h2.1) (fun i c hi=>?_) (fun i c hi=>?_)
   ·obtain⟨v,_,_,h5,_⟩:=h2.2 i c hi
    exact h5
   ·obtain⟨v,h4,h5,_⟩:=h2.2 i c hi
    rw[Array.getD_eq_getD_getElem?,←Array.getElem?_toList,h4]
    exact h5
  |array n e=>
   obtain⟨cs,rfl,hcs⟩:=okWide_array' hu hv
   have hp:pack P t as=.agg as:=by unfold pack;rw[hu]
   rw[hp]
   have hcells:(Value.agg cs).cells=cs:=rfl
   rw[hcells]at h2
   refine .agg as cs (by simpa using h2.1) (fun i c hi=>?_) (fun i c hi=>?_)
   ·obtain⟨v,_,_,h5,_⟩:=h2.2 i c hi
    exact h5
   ·obtain⟨v,h4,h5,_⟩:=h2.2 i c hi
    rw[Array.getD_eq_getD_getElem?,←Array.getElem?_toList,h4]
    exact h5
  |_=>cases ht
theorem entry_args {S:List TypeId} (hS:closedS P S=true) {base:Nat}:∀{ts:List TypeId} {vs:List Value} {ds:List (DataW H)} {p:List MemPlace},(∀ t∈ts,S.contains t=true)→(∀ (j:Nat) t v,ts[j]?=some t→vs[j]?=some v→Value.okWide P w .any base t v)→
 DataW.TrodAll enc P w 0 (fun _=>true) true ts vs ds p→FitsE P ts ds→
 ∃as,likes P ts as∧as.length=vs.length∧ds.length=ts.length∧∀(i:Nat) (a:AV),as[i]?=some a→∃v,vs[i]?=some v∧Rep w (fun b _=>b<w.heap.size) (fun _=>.nil) 0 a v
 |[],vs,ds,p,_,_,h,_=>by
  obtain⟨rfl,rfl,rfl⟩:=trodAll_nil h
  exact⟨[],trivial,rfl,rfl,fun i a h=>by simp at h⟩
 |t::ts,vs,ds,p,ht,hv,h,hwt=>by
  obtain⟨v,vs',dd,ds',p',q,rfl,rfl,rfl,h1,h2⟩:=trodAll_cons h
  obtain⟨a,k1,k2⟩:=entry_one hS (ht t (by simp)) (hv 0 t v rfl rfl) h1 hwt.cons.1
  obtain⟨as,k3,k4,k5,k6⟩:=entry_args hS (fun t h=>ht t (by simp[h])) (fun j t v h1 h2=>hv (j+1) t v (by simpa using h1) (by simpa using h2)) h2 hwt.cons.2
  refine⟨a::as,⟨k1,k3⟩,by simp[k4],by simp[k5],fun i a' hi=>?_⟩
  cases i with
  |zero=>simp at hi;subst hi;exact⟨v,rfl,k2⟩
  |succ i=>exact k6 i a' (by simpa using hi)
theorem trodAll_stays (hl:laidOutB P=true) {w':World} (hb:Below w.heap.size w w'):∀{ts:List TypeId} {vs:List Value} {ds:List (DataW H)} {p:List MemPlace},(∀ t∈ts,P.readableRec t=true∧t<P.types.size)→
 DataW.TrodAll enc P w 0 (fun _=>true) true ts vs ds p→DataW.TrodAll enc P w' 0 (fun b=>decide (b<w.heap.size)) true ts vs ds p
 |[],vs,ds,p,_,h=>by
  obtain⟨rfl,rfl,rfl⟩:=trodAll_nil h
  exact trodAll_mk0
 |t::ts,vs,ds,p,ht,h=>by
  obtain⟨v,vs',dd,ds',p',q,rfl,rfl,rfl,h1,h2⟩:=trodAll_cons h
  have k1:=h1
  have hlt:∀x∈p',x.block<w.heap.size:=by obtain⟨m,hm⟩:=k1;exact DataW.trod_lt m _ _ _ hm
  exact trodAll_cons_mk (Below.trod hl (ht t (by simp)).1 (ht t (by simp)).2 h1 hb hlt) (trodAll_stays hl hb (fun t h=>ht t (by simp[h])) h2)
theorem law_calls {AP:Nat→Option AFn} (hs:∀n,CallSound P (run AP n)) {f:Nat} (hf0:FnOk P f) {fn:Func} (S:List TypeId) (hS:closedS P S=true) (s:ChangeSpec) (hvars:s.vars=[])
 (hfn:∀(ds:List (DataW H)),ds.length=fn.params.size→s.fn H ds={results:=[.lit (.bool true)],args:=ds}) {tb:TypeId} (hres:fn.resultTypes=#[tb]) (hbool:P.underlying tb=some .bool)
 (hl:laidOutB P=true) (htree:∀t∈fn.params.toList,S.contains t=true) (hread:∀t∈fn.params.toList,P.readableRec t=true∧t<P.types.size)
 {base:Nat} {args:Array Value} {ds gs:List (DataW H)} {before:List MemPlace}
 (hval:∀(j:Nat) t v,fn.params[j]?=some t→args[j]?=some v→Value.okWide P w .any base t v)
 (hW:DataW.Whole enc P fn.params.toList s.vars false w args.toList ds gs before) (hfit:FitsE P fn.params.toList ds)
 (hlaw:∀as,likes P fn.params.toList as→Calls1 AP f as ⟨[],0⟩ fun out _=>out=.ok (.bool true)):
 Calls P f args w fun e w'=>∃v,e=.returned v∧s.post enc P fn false true false false w args v w':=by
 have hW0:=hW
 obtain⟨p,q,hA,hV,rfl,hfz,hnd⟩:=hW
 rw[hvars]at hV
 obtain⟨rfl,rfl⟩:=trodVars_none hV
 obtain⟨as,h1,h2,h3,h4⟩:=entry_args hS (vs:=args.toList) htree (fun j t v h1 h2=>hval j t v (by simpa using h1) (by simpa using h2)) hA hfit
 obtain⟨N,out,s',h5,rfl⟩:=hlaw as h1
 have h6:=(hs N) f as ⟨[],0⟩ _ s' h5 w w.heap.size (fun b _=>b<w.heap.size) (fun _=>.nil) w args
  ⟨Below.refl _ _,Nat.le_refl _,fun o ob h=>by simp at h,fun o o' ob ob' g g' b e n e' n' h=>by simp at h,fun b i h=>h⟩
  ⟨by simpa using h2,fun i a hi=>by
   obtain⟨v,k1,k2⟩:=h4 i a hi
   exact⟨v,by simpa using k1,k2⟩⟩
 replace h6:=h6.resolve_right fun⟨x,hx,_⟩=>by rw[run_callFunc hf0]at hx;cases hx
 refine Calls.mono h6.2 fun e w' ⟨Z',φ',hI,_,x,he,hx⟩=>?_
 subst he
 cases hx
 have bel:=hI.below
 have hf:=hfn ds (by rw[h3];simp)
 refine⟨_,rfl,ds,[],_,[],p,[],hW0,?_,?_,?_,bel.frame _,fun h=>by cases h⟩
 ·rw[List.append_nil,hf,hres]
  exact trodAll_mk1 (shut_bool hbool _)
 ·rw[List.append_nil,hf]
  exact trodAll_stays hl bel hread hA
 ·rw[hvars,List.append_nil,hf]
  exact rfl
end AI
end Go.Proofs.YtgmgkkbpgndaaaaGreatDoor
