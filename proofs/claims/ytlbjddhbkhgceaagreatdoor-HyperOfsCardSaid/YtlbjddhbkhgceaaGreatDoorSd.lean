/- Soundness, fourteenth part: a region, in the order of the text and in whatever order is drawn. Soundness, fifteenth part: a region whose order is drawn. Soundness, sixteenth part: any order that is drawn; code; functions; the evaluator. -/
import Derived.Test.YtlbjddhbkhgceaaGreatDoorSc
namespace Go.Proofs.YtlbjddhbkhgceaaGreatDoor
namespace AI
open Go.RowKit
variable {P:Program} {B:Nat} {w w' w0:World} {Z Z':Cold} {φ φ':Phi} {ctr ctr':Nat} {s s':Sto}
theorem get_put (d:Option Nat) (v:AV) (env:Env) (t:Nat):(put d v env).get t=if d=some t then v else env.get t:=by
 cases d with
 |none=>simp[put]
 |some d=>
  simp only[put,Env.get,Option.some.injEq]
  by_cases h:d=t
  ·subst h;simp
  ·have:Nat.beq d t=false:=by
        cases hb:Nat.beq d t
        ·rfl
        ·exact absurd (Nat.eq_of_beq_eq_true hb) h
   simp[this,h]
theorem put_getD (a:Act) (d:Option Nat) (x:Value) (t:Nat) (h:∀k,d=some k→k<a.tmps.size):(a.put d x).tmps.getD t undef=if d=some t then x else a.tmps.getD t undef:=by
 cases d with
 |none=>simp[Act.put]
 |some d=>
  have hd:=h d rfl
  simp only[Act.put,Option.some.injEq]
  by_cases he:d=t
  ·subst he;simp[Array.getD_eq_getD_getElem?,hd]
  ·rw[if_neg he]
   simp[Array.getD_eq_getD_getElem?,Array.getElem?_setIfInBounds_ne he]
theorem size_put (a:Act) (d:Option Nat) (x:Value):(a.put d x).tmps.size=a.tmps.size∧(a.put d x).defers=a.defers:=by
 cases d<;>simp[Act.put]
theorem EnvRep.later {env:Env} {tmps:Array Value} (h:EnvRep w Z φ ctr env tmps) (hL:Later B w Z φ ctr w' Z' φ' ctr'):EnvRep w' Z' φ' ctr' env tmps:=fun t=>(h t).later hL
theorem EnvRep.put {env:Env} {a:Act} (h:EnvRep w Z φ ctr env a.tmps) {d:Option Nat} (hd:∀k,d=some k→k<a.tmps.size) {v:AV} {x:Value} (hr:Rep w Z φ ctr v x):EnvRep w Z φ ctr (AI.put d v env) (a.put d x).tmps:=by
 intro t
 rw[get_put,put_getD a d x t hd]
 split
 ·exact hr
 ·exact h t
theorem wanted_eq {ops:Array Oper} {n:Nat} {o:Oper} {g:Option (Nat×Bool)} (hg:compGuard ops n o.guard=some g) {env:Env} {a:Act} (hE:EnvRep w Z φ ctr env a.tmps) (hn:a.tmps.size=n) {b:Bool} (hw:AI.wanted g env=some b):
 Region.wanted o (yielded ops a.tmps)=b:=by
 unfold compGuard at hg
 split at hg
 ·rename_i hgd
  simp only[Option.some.injEq]at hg
  subst hg
  simp only[AI.wanted,Option.some.injEq]at hw
  simp[Region.wanted,hgd,←hw]
 ·rename_i j want hgd
  split at hg
  ·rename_i t ht
   split at hg
   ·rename_i htn
    simp only[Option.some.injEq]at hg
    subst hg
    have hr:=hE t
    have hget:a.tmps[t]?=some (a.tmps.getD t undef):=by
     have hlt:t<a.tmps.size:=hn.symm▸htn
     simp[Array.getD_eq_getD_getElem?,Array.getElem?_eq_getElem hlt]
    simp only[AI.wanted]at hw
    split at hw
    ·rename_i b' hb'
     simp only[Option.some.injEq]at hw
     rw[hb']at hr
     generalize hq:a.tmps.getD t undef=q at hr hget
     cases hr
     simp[Region.wanted,hgd,yielded,ht,hget,←hw]
    ·rename_i hb'
     simp only[Option.some.injEq]at hw
     rw[hb']at hr
     generalize hq:a.tmps.getD t undef=q at hr hget
     cases hr
     simp[Region.wanted,hgd,yielded,ht,hget,undef,←hw]
    ·cases hw
   ·cases hg
  ·cases hg
def ExitRep (w:World) (Z:Cold) (φ:Phi) (ctr:Nat):AExit→Exit→Prop
 | .normal,e=>e=.normal
 | .exit id,e=>e=.exit id
 | .ret,e=>e=.ret
 | .pan v,e=>∃x,e=.panic [{v:=x,recovered:=false}]∧Rep w Z φ ctr v x
def Post (w0:World) (B:Nat) (w:World) (Z:Cold) (φ:Phi) (ctr:Nat) (n:Nat) (ds:List Deferred) (e:AExit) (env':Env) (s':Sto) (Q:Exit→Act→World→Prop):Prop:=
 ∀e' a' w' Z' φ',ExitRep w' Z' φ' s'.ctr e e'→a'.tmps.size=n→a'.defers=ds→Inv w0 B s' Z' φ' w'→EnvRep w' Z' φ' s'.ctr env' a'.tmps→Later B w Z φ ctr w' Z' φ' s'.ctr→Q e' a' w'
theorem Post.later {n:Nat} {ds:List Deferred} {e:AExit} {env':Env} {Q:Exit→Act→World→Prop} (h:Post w0 B w Z φ ctr n ds e env' s' Q) (hL:Later B w Z φ ctr w' Z' φ' ctr'):Post w0 B w' Z' φ' ctr' n ds e env' s' Q:=
 fun e' a' w'' Z'' φ'' h1 h2 h3 h4 h5 h6=>h e' a' w'' Z'' φ'' h1 h2 h3 h4 h5 (hL.trans h6)
theorem compOps_get {ops:Array Oper} {n:Nat} {an:List (Nat×OAnn)}:∀{os:List Oper} {i:Nat} {aos:List AOper},compOps P ops n an os i=some aos→aos.length=os.length∧∀(k:Nat) (o:Oper),os[k]?=some o→∃ao,aos[k]?=some ao∧compOp P o (annOf an (i+k))=some ao.op∧compGuard ops n o.guard=some ao.guard∧ao.dst=o.dst∧(∀ d,o.dst=some d→d<n)
 |[],i,aos,h=>by
  simp only[compOps,Option.some.injEq]at h
  subst h
  exact⟨rfl,fun k o hk=>by simp at hk⟩
 |o::os,i,aos,h=>by
  simp only[compOps]at h
  split at h
  ·rename_i ao g r h1 h2 h3
   split at h
   ·rename_i hd
    simp only[Option.some.injEq]at h
    subst h
    obtain⟨hl,hr⟩:=compOps_get h3
    refine⟨by simp[hl],fun k o' hk=>?_⟩
    cases k with
    |zero=>
     simp only[List.getElem?_cons_zero,Option.some.injEq]at hk
     subst hk
     refine⟨_,rfl,h1,h2,rfl,fun d hd'=>?_⟩
     rw[hd']at hd
     simpa[dstOk]using hd
    |succ k=>
     obtain⟨ao',q1,q2⟩:=hr k o' (by simpa using hk)
     exact⟨ao',by simpa using q1,by rw[show i+(k+1)=i+1+k by omega];exact q2⟩
   ·cases h
  ·cases h
theorem wpOp_sound {C:CallF} (hC:CallSound P C) {ops:Array Oper} {n:Nat} {i:Nat} {o:Oper} (ho:ops[i]?=some o) {ann:Option OAnn} {ao:AOper} (h1:compOp P o ann=some ao.op) (h2:compGuard ops n o.guard=some ao.guard) (h3:ao.dst=o.dst) (h4:∀d,o.dst=some d→d<n)
 {a:Act} {env:Env} (hI:Inv w0 B s Z φ w) (hE:EnvRep w Z φ s.ctr env a.tmps) (hn:a.tmps.size=n) {K:Act→World→Prop} {Q:Exit→Act→World→Prop}
 (h:(AI.wanted ao.guard env=some false∧∀a',a'.tmps.size=n→a'.defers=a.defers→EnvRep w Z φ s.ctr (AI.put ao.dst .undef env) a'.tmps→K a' w)∨
   (AI.wanted ao.guard env=some true∧∃out s',evOp C ao.op env s=some (out,s')∧
        (∀ v,out=.ok v→∀a' x w' Z' φ',a'=a.put o.dst x→Rep w' Z' φ' s'.ctr v x→Inv w0 B s' Z' φ' w'→EnvRep w' Z' φ' s'.ctr (AI.put ao.dst v env) a'.tmps→Later B w Z φ s.ctr w' Z' φ' s'.ctr→K a' w')∧
        (∀ v,out=.pan v→Post w0 B w Z φ s.ctr n a.defers (.pan v) env s' Q))):
 wpOp P ops Q i K a w:=by
 unfold wpOp
 rw[ho]
 have hd:∀k,o.dst=some k→k<a.tmps.size:=fun k hk=>by rw[hn];exact h4 k hk
 rcases h with⟨hw,hK⟩|⟨hw,out,s',hev,hok,hpan⟩
 ·have:=wanted_eq h2 hE hn hw
  simp only[this,Bool.false_eq_true,if_false]
  obtain⟨z1,z2⟩:=size_put a o.dst undef
  exact hK _ (by rw[z1,hn]) z2 (by rw[h3];exact hE.put hd .undef)
 ·have:=wanted_eq h2 hE hn hw
  simp only[this,if_true]
  refine .inl (op_sound hC h1 hI hE hev (fun v hv x w' Z' φ' k1 k2 k3=>?_) (fun v hv x w' Z' φ' k1 k2 k3=>?_))
  ·exact hok v hv _ x w' Z' φ' rfl k2 k1 (by rw[h3];exact(hE.later k3).put hd k2) k3
  ·exact hpan v hv _ a w' Z' φ' ⟨x,rfl,k2⟩ hn rfl k1 (hE.later k3) k3
theorem ops_sound {C:CallF} (hC:CallSound P C) {ops:Array Oper} {n:Nat} {an:List (Nat×OAnn)} {Q:Exit→Act→World→Prop}:∀(os:List Oper) (i:Nat) (aos:List AOper) (env:Env) (s:Sto) (a:Act) (w:World) (Z:Cold) (φ:Phi) (e:AExit) (env':Env) (s':Sto),
 (∀ k,os[k]?=ops[i+k]?)→compOps P ops n an os i=some aos→evOps C aos env s=some (e,env',s')→Inv w0 B s Z φ w→EnvRep w Z φ s.ctr env a.tmps→a.tmps.size=n→Post w0 B w Z φ s.ctr n a.defers e env' s' Q→wpOps P ops Q (List.range' i os.length) a w
 |[],i,aos,env,s,a,w,Z,φ,e,env',s',hos,hc,hev,hI,hE,hn,hp=>by
  simp only[compOps,Option.some.injEq]at hc
  subst hc
  simp only[evOps,Option.some.injEq,Prod.mk.injEq]at hev
  obtain⟨rfl,rfl,rfl⟩:=hev
  exact hp .normal a w Z φ rfl hn rfl hI hE (Later.refl _ _ _ _ _)
 |o::os,i,aos,env,s,a,w,Z,φ,e,env',s',hos,hc,hev,hI,hE,hn,hp=>by
  have ho:ops[i]?=some o:=by have:=hos 0;simpa using this.symm
  have hos':∀k,os[k]?=ops[i+1+k]?:=fun k=>by
   have:=hos (k+1)
   rw[show i+1+k=i+(k+1) by omega]
   simpa using this
  simp only[compOps]at hc
  split at hc
  ·rename_i ao g r h1 h2 h3
   split at hc
   ·rename_i hd
    simp only[Option.some.injEq]at hc
    subst hc
    have h4:∀d,o.dst=some d→d<n:=fun d hd'=>by rw[hd']at hd;simpa[dstOk]using hd
    rw[List.length_cons,List.range'_succ,wpOps_cons]
    simp only[evOps]at hev
    refine wpOp_sound hC ho (ao:=⟨o.dst,ao,g⟩) h1 h2 rfl h4 hI hE hn ?_
    split at hev
    ·cases hev
    ·rename_i hw
     exact .inl ⟨hw,fun a' z1 z2 z3=>ops_sound hC os (i+1) r _ s a' w Z φ e env' s' hos' h3 hev hI z3 z1 (z2▸hp)⟩
    ·rename_i hw
     refine .inr ⟨hw,?_⟩
     split at hev
     ·rename_i v s1 hop
      refine⟨.ok v,s1,hop,fun v' hv a' x w' Z' φ' ha' hr hI' hE' hL=>?_,(fun v' hv=>by cases hv)⟩
      cases hv
      subst ha'
      obtain⟨z1,z2⟩:=size_put a o.dst x
      exact ops_sound hC os (i+1) r _ s1 _ w' Z' φ' e env' s' hos' h3 hev hI' hE' (z1.trans hn) (by rw[z2];exact hp.later hL)
     ·rename_i v s1 hop
      simp only[Option.some.injEq,Prod.mk.injEq]at hev
      obtain⟨rfl,rfl,rfl⟩:=hev
      refine⟨.pan v,s1,hop,(fun v' hv=>by cases hv),fun v' hv=>?_⟩
      cases hv
      exact hp
     ·cases hev
   ·cases hc
  ·cases hc
end AI
end Go.Proofs.YtlbjddhbkhgceaaGreatDoor
namespace Go.Proofs.YtlbjddhbkhgceaaGreatDoor
namespace AI
open Go.RowKit
variable {P:Program} {B:Nat} {w w' w0:World} {Z Z':Cold} {φ φ':Phi} {ctr ctr':Nat} {s s':Sto}
def befStep (acc:Array Nat) (o:Oper):Nat:=o.after.foldl (fun s e=>if Region.binds .any e then s ||| 2 ^ e.on ||| acc.getD e.on 0 else s) 0
theorem before_def (ops:Array Oper):Region.before ops=ops.foldl (init:=#[]) fun acc o=>acc.push (befStep acc o):=rfl
theorem fold_push:∀(l:List Oper) (acc:Array Nat),(∀ k,k<acc.size→(l.foldl (fun acc o=>acc.push (befStep acc o)) acc)[k]?=acc[k]?)∧
 ∀(k:Nat) (o:Oper),l[k]?=some o→∃A:Array Nat,(l.foldl (fun acc o=>acc.push (befStep acc o)) acc)[acc.size+k]?=some (befStep A o)∧A.size=acc.size+k∧∀q,q<A.size→A[q]?=(l.foldl (fun acc o=>acc.push (befStep acc o)) acc)[q]?
 |[],acc=>⟨fun _ _=>rfl,fun k o h=>by simp at h⟩
 |o::l,acc=>by
  obtain⟨h1,h2⟩:=fold_push l (acc.push (befStep acc o))
  simp only[List.foldl_cons]
  have hlow:∀k,k<acc.size→(l.foldl (fun acc o=>acc.push (befStep acc o)) (acc.push (befStep acc o)))[k]?=acc[k]?:=by
   intro k hk
   rw[h1 k (by simp;omega),Array.getElem?_push_lt hk]
   simp[hk]
  refine⟨hlow,fun k o' hk=>?_⟩
  cases k with
  |zero=>
   simp only[List.getElem?_cons_zero,Option.some.injEq]at hk
   subst hk
   refine⟨acc,?_,rfl,fun q hq=>(hlow q hq).symm⟩
   rw[Nat.add_zero,h1 _ (by simp)]
   simp
  |succ k=>
   obtain⟨A,a1,a2,a3⟩:=h2 k o' (by simpa using hk)
   refine⟨A,?_,?_,a3⟩
   ·simp only[Array.size_push]at a1
    rw[show acc.size+(k+1)=acc.size+1+k by omega];exact a1
   ·simp only[Array.size_push]at a2;omega
theorem fold_bits (acc:Array Nat) (i:Nat):∀(es:List Edge) (n:Nat),(es.foldl (fun s e=>if Region.binds .any e then s ||| 2 ^ e.on ||| acc.getD e.on 0 else s) n).testBit i=true→
 n.testBit i=true∨∃e∈es,Region.binds .any e=true∧(e.on=i∨(acc.getD e.on 0).testBit i=true)
 |[],n,h=>.inl h
 |e::es,n,h=>by
  simp only[List.foldl_cons]at h
  rcases fold_bits acc i es _ h with h1|⟨e',he',hb⟩
  ·by_cases hb:Region.binds .any e=true
   ·simp only[hb,if_true,Nat.testBit_or,Bool.or_eq_true,Nat.testBit_two_pow,decide_eq_true_eq]at h1
    rcases h1 with(h1|h1)|h1
    ·exact .inl h1
    ·exact .inr ⟨e,by simp,hb,.inl h1⟩
    ·exact .inr ⟨e,by simp,hb,.inr h1⟩
   ·simp only[hb]at h1
    exact .inl h1
  ·exact .inr ⟨e',by simp[he'],hb⟩
theorem before_bit {ops:Array Oper} (hfwd:∀(j:Nat) (o:Oper),ops[j]?=some o→∀e∈o.after,Region.binds .any e=true→e.on<j) {j:Nat} {o:Oper} (ho:ops[j]?=some o) {i:Nat} (h:((Region.before ops).getD j 0).testBit i=true):
 ∃e∈o.after,Region.binds .any e=true∧(e.on=i∨((Region.before ops).getD e.on 0).testBit i=true):=by
 rw[before_def,←Array.foldl_toList]at h ⊢
 obtain⟨_,h2⟩:=fold_push ops.toList #[]
 obtain⟨A,a1,a2,a3⟩:=h2 j o (by simpa using ho)
 simp only[List.size_toArray,List.length_nil,Nat.zero_add]at a1 a2
 have e1:(ops.toList.foldl (fun acc o=>acc.push (befStep acc o)) #[]).getD j 0=befStep A o:=by
  simp only[Array.getD_eq_getD_getElem?]
  rw[a1];rfl
 rw[e1]at h
 unfold befStep at h
 rw[← Array.foldl_toList]at h
 rcases fold_bits A i _ _ h with h0|⟨e,he,hb,hor⟩
 ·simp at h0
 ·have he':e∈o.after:=by simpa using he
  have hlt:=hfwd j o ho e he' hb
  refine⟨e,he',hb,hor.imp id fun hh=>?_⟩
  have:A.getD e.on 0=(ops.toList.foldl (fun acc o=>acc.push (befStep acc o)) #[]).getD e.on 0:=by
   simp only[Array.getD_eq_getD_getElem?]
   rw[a3 e.on (by omega)]
  rw[← this];exact hh
def Lst (listed:Array Bool) (i:Nat):Bool:=listed.getD i false
def Closed (ops:Array Oper) (L:Nat→Bool):Prop:=∀(j:Nat) (o:Oper),ops[j]?=some o→L j=true→∀e∈o.after,Region.binds .any e=true→L e.on=true
theorem closed_bit {ops:Array Oper} (hfwd:∀(j:Nat) (o:Oper),ops[j]?=some o→∀e∈o.after,Region.binds .any e=true→e.on<j) {L:Nat→Bool} (hL:Closed ops L) {i:Nat}:
 ∀(j:Nat) (o:Oper),ops[j]?=some o→(∀ e∈o.after,Region.binds .any e=true→L e.on=true)→((Region.before ops).getD j 0).testBit i=true→L i=true:=by
 intro j
 induction j using Nat.strongRecOn with
 |_ j ih=>
  intro o ho hd hb
  obtain⟨e,he,hbe,hor⟩:=before_bit hfwd ho hb
  have hle:=hd e he hbe
  rcases hor with rfl|hb'
  ·exact hle
  ·have hlt:=hfwd j o ho e he hbe
   have hj:j<ops.size:=(Array.getElem?_eq_some_iff.1 ho).1
   have ho':ops[e.on]?=some ops[e.on]:=Array.getElem?_eq_getElem (by omega)
   exact ih e.on hlt _ ho' (fun e' he' hb'=>hL e.on _ ho' hle e' he' hb') hb'
def cnt (L:Nat→Bool):Nat→Nat
 |0=>0
 |n+1=>cnt L n+(if L n then 1 else 0)
theorem cnt_le (L:Nat→Bool):∀n,cnt L n≤n
 |0=>Nat.le_refl _
 |n+1=>by have:=cnt_le L n;simp only[cnt];split<;>omega
theorem cnt_full {L:Nat→Bool}:∀{n:Nat},cnt L n=n→∀i,i<n→L i=true
 |0,_,i,h=>by omega
 |n+1,h,i,hi=>by
  have hle:=cnt_le L n
  simp only[cnt]at h
  split at h
  ·rename_i hl
   by_cases he:i=n
   ·subst he;exact hl
   ·exact cnt_full (n:=n) (by omega) i (by omega)
  ·omega
theorem cnt_add {L L':Nat→Bool} {i:Nat} (h0:L i=false) (h1:L' i=true) (h:∀k,k≠i→L' k=L k):∀n,cnt L' n=cnt L n+(if i<n then 1 else 0)
 |0=>by simp[cnt]
 |n+1=>by
  have ih:=cnt_add h0 h1 h n
  simp only[cnt,ih]
  by_cases he:n=i
  ·subst he;simp[h0,h1]
  ·rw[h n he]
   by_cases hlt:i<n
   ·simp[hlt,Nat.lt_succ_of_lt hlt];omega
   ·simp[hlt,show¬i<n+1 by omega]
theorem lst_set {listed:Array Bool} {i:Nat} (hi:i<listed.size) (k:Nat):Lst (listed.setIfInBounds i true) k=if k=i then true else Lst listed k:=by
 unfold Lst
 by_cases h:k=i
 ·subst h;simp[Array.getD_eq_getD_getElem?,hi]
 ·rw[if_neg h]
  simp[Array.getD_eq_getD_getElem?,Array.getElem?_setIfInBounds_ne (Ne.symm h)]
theorem ready_iff {ops:Array Oper} {listed:Array Bool} (hsz:listed.size=ops.size) {j:Nat}:j∈Region.ready .any ops listed↔∃o,ops[j]?=some o∧Lst listed j=false∧∀e∈o.after,Region.binds .any e=true→Lst listed e.on=true:=by
 unfold Region.ready
 simp only[List.mem_filter,List.mem_range,Bool.and_eq_true,Bool.not_eq_true']
 constructor
 ·rintro⟨hj,hl,ho⟩
  have hoj:ops[j]?=some ops[j]:=Array.getElem?_eq_getElem hj
  refine⟨_,hoj,?_,fun e he hb=>?_⟩
  ·have:j<listed.size:=by omega
   simp only[Array.getD_eq_getD_getElem?,Array.getElem?_eq_getElem this,Option.getD_some]at hl
   simp[Lst,Array.getD_eq_getD_getElem?,Array.getElem?_eq_getElem this,hl]
  ·rw[hoj]at ho
   simp only[Option.map_some,Option.getD_some,Array.all_eq_true_iff_forall_mem]at ho
   have:=ho e he
   simp only[hb,Bool.not_true,Bool.false_or]at this
   exact this
 ·rintro⟨o,ho,hl,he⟩
  have hj:j<ops.size:=(Array.getElem?_eq_some_iff.1 ho).1
  refine⟨hj,?_,?_⟩
  ·have:j<listed.size:=by omega
   simp only[Lst,Array.getD_eq_getD_getElem?,Array.getElem?_eq_getElem this,Option.getD_some]at hl
   simp[Array.getD_eq_getD_getElem?,Array.getElem?_eq_getElem this,hl]
  ·rw[ho]
   simp only[Option.map_some,Option.getD_some,Array.all_eq_true_iff_forall_mem]
   intro e hem
   by_cases hb:Region.binds .any e=true
   ·have:=he e hem hb
    simp only[Lst]at this
    simp[this]
   ·simp[hb]
def envL (L:Nat→Bool):List (Option Nat×AV)→Nat→Env→Env
 |[],_,env=>env
 |(d,v)::vs,i,env=>envL L vs (i+1) (if L i then put d v env else env)
def lastW {α:Type} (L:Nat→Bool) (t:Nat):List (Option Nat×α)→Nat→α→α
 |[],_,x=>x
 |(d,v)::vs,i,x=>lastW L t vs (i+1) (if L i=true∧d=some t then v else x)
theorem envL_get (L:Nat→Bool) (t:Nat):∀(vs:List (Option Nat×AV)) (i:Nat) (env:Env),(envL L vs i env).get t=lastW L t vs i (env.get t)
 |[],i,env=>rfl
 |(d,v)::vs,i,env=>by
  simp only[envL,lastW]
  rw[envL_get L t vs (i+1)]
  congr 1
  by_cases hL:L i=true
  ·simp only[hL,if_true,true_and,get_put]
  ·simp[hL]
theorem lastW_congr {α:Type} {L L':Nat→Bool} {t:Nat}:∀(vs:List (Option Nat×α)) (i:Nat) (x:α),(∀ k d v,vs[k]?=some (d,v)→d=some t→L (i+k)=L' (i+k))→lastW L t vs i x=lastW L' t vs i x
 |[],i,x,_=>rfl
 |(d,v)::vs,i,x,h=>by
  simp only[lastW]
  have h0:=h 0 d v rfl
  simp only[Nat.add_zero]at h0
  have e:(if L i=true∧d=some t then v else x)=(if L' i=true∧d=some t then v else x):=by
   by_cases hd:d=some t
   ·rw[h0 hd]
   ·simp[hd]
  rw[e]
  refine lastW_congr vs (i+1) _ fun k d' v' hk hd=>?_
  rw[show i+1+k=i+(k+1) by omega]
  exact h (k+1) d' v' (by simpa using hk) hd
theorem lastW_set {α:Type} {L:Nat→Bool} {t j:Nat} {v:α}:∀(vs:List (Option Nat×α)) (i:Nat) (x:α),vs[j]?=some (some t,v)→L (i+j)=true→(∀ k d v',vs[k]?=some (d,v')→d=some t→j<k→L (i+k)=false)→lastW L t vs i x=v:=by
 induction j with
 |zero=>
  intro vs i x hj hL hno
  cases vs with
  |nil=>simp at hj
  |cons p vs=>
   simp only[List.getElem?_cons_zero,Option.some.injEq]at hj
   subst hj
   simp only[Nat.add_zero]at hL
   simp only[lastW,hL,and_self,if_true]
   have none:∀(vs:List (Option Nat×α)) (i:Nat) (x:α),(∀ k d v',vs[k]?=some (d,v')→d=some t→L (i+k)=false)→lastW L t vs i x=x:=by
        intro vs
        induction vs with
        |nil=>intro i x _;rfl
        |cons p vs ih=>
         intro i x h
         obtain⟨d,v'⟩:=p
         simp only[lastW]
         have h0:=h 0 d v' rfl
         simp only[Nat.add_zero]at h0
         rw[if_neg (by rintro⟨a,b⟩;rw[h0 b]at a;cases a)]
         exact ih (i+1) x fun k d v' hk hd=>by rw[show i+1+k=i+(k+1) by omega];exact h (k+1) d v' (by simpa using hk) hd
   exact none vs (i+1) v fun k d v' hk hd=>by rw[show i+1+k=i+(k+1) by omega];exact hno (k+1) d v' (by simpa using hk) hd (by omega)
 |succ j ih=>
  intro vs i x hj hL hno
  cases vs with
  |nil=>simp at hj
  |cons p vs=>
   obtain⟨d,v'⟩:=p
   simp only[lastW]
   exact ih vs (i+1) _ (by simpa using hj) (by rw[show i+1+j=i+(j+1) by omega];exact hL) fun k d v' hk hd hlt=>by
        rw[show i+1+k=i+(k+1) by omega]
        exact hno (k+1) d v' (by simpa using hk) hd (by omega)
theorem envL_none {L:Nat→Bool}:∀(vs:List (Option Nat×AV)) (i:Nat) (env:Env),(∀ k,k<vs.length→L (i+k)=false)→envL L vs i env=env
 |[],i,env,_=>rfl
 |(d,v)::vs,i,env,h=>by
  have h0:=h 0 (by simp)
  simp only[Nat.add_zero]at h0
  simp only[envL,h0,Bool.false_eq_true,if_false]
  exact envL_none vs (i+1) env fun k hk=>by rw[show i+1+k=i+(k+1) by omega];exact h (k+1) (by simp;omega)
def trace (C:CallF) (s:Sto):List AOper→Env→Option (List (Option Nat×AV))
 |[],_=>some []
 |o::os,env=>match wanted o.guard env with
  |some false=>(trace C s os (put o.dst .undef env)).map ((o.dst,.undef)::·)
  |some true=>match evOp C o.op env s with
   |some (.ok v,_)=>(trace C s os (put o.dst v env)).map ((o.dst,v)::·)
   |_=>none
  |none=>none
theorem pure_same {C:CallF} {ao:AOp} {env:Env} {out:AOut} (hp:ao.pureOp=true) (hev:evOp C ao env s=some (out,s')):s'=s∧∃v,out=.ok v:=by
 have hpc:∀{m:Mode} {f:Nat} {args:List AV},(m==.pure||m==.borrow)=true→callMode C m f args s=some (out,s')→s'=s∧∃v,out=.ok v:=by
  intro m f args hm h
  cases m<;>simp at hm
  ·simp only[callMode]at h
   split at h
   ·simp only[Option.map_eq_some_iff,Prod.mk.injEq]at h
    obtain⟨r,_,h1,h2⟩:=h
    exact⟨h2.symm,r,h1.symm⟩
   ·cases h
  ·simp only[callMode]at h
   split at h
   ·split at h
    ·split at h
     ·simp only[Option.some.injEq,Prod.mk.injEq]at h
      exact⟨h.2.symm,_,h.1.symm⟩
     ·cases h
    ·cases h
   ·cases h
 cases ao<;>simp only[AOp.pureOp,Bool.false_eq_true]at hp
 case call m f args=>exact hpc hp (by simpa only[evOp]using hev)
 case callv m x args=>
  simp only[evOp]at hev
  split at hev
  ·exact hpc hp hev
  ·cases hev
 case lit own es z len parts=>
  simp only[Bool.not_eq_true']at hp
  subst hp
  simp only[evOp,Bool.false_eq_true,if_false]at hev
  (repeat' split at hev)<;>simp only[Option.some.injEq,Prod.mk.injEq,reduceCtorEq]at hev<;>exact⟨hev.2.symm,_,hev.1.symm⟩
 all_goals
  simp only[evOp,ok]at hev
  (repeat' split at hev)<;>first
    |(simp only[Option.some.injEq,Prod.mk.injEq]at hev;exact⟨hev.2.symm,_,hev.1.symm⟩)
    |(simp only[Option.map_eq_some_iff,Prod.mk.injEq]at hev;obtain⟨r,_,h1,h2⟩:=hev;exact⟨h2.symm,_,h1.symm⟩)
    |cases hev
theorem evOps_trace {C:CallF}:∀{hd:List AOper} {tl:List AOper} {env:Env} {r:AExit×Env×Sto},(hd.all fun o=>o.op.pureOp)=true→evOps C (hd++tl) env s=some r→
 ∃vs,trace C s hd env=some vs∧∀i,evOps C tl (envL (fun _=>true) vs i env) s=some r
 |[],tl,env,r,_,h=>⟨[],rfl,fun _=>h⟩
 |o::hd,tl,env,r,hp,h=>by
  simp only[List.all_cons,Bool.and_eq_true]at hp
  simp only[List.cons_append,evOps]at h
  split at h
  ·cases h
  ·rename_i hw
   obtain⟨vs,h1,h2⟩:=evOps_trace hp.2 h
   exact⟨(o.dst,.undef)::vs,by simp[trace,hw,h1],fun i=>by simp only[envL,if_true];exact h2 (i+1)⟩
  ·rename_i hw
   split at h
   ·rename_i v s1 hop
    rw[(pure_same hp.1 hop).1]at h
    obtain⟨vs,h1,h2⟩:=evOps_trace hp.2 h
    exact⟨(o.dst,v)::vs,by simp[trace,hw,hop,h1],fun i=>by simp only[envL,if_true];exact h2 (i+1)⟩
   ·rename_i v s1 hop
    obtain⟨_,v',hv'⟩:=pure_same hp.1 hop
    cases hv'
   ·cases h
theorem trace_get {C:CallF}:∀{hd:List AOper} {env:Env} {vs:List (Option Nat×AV)},trace C s hd env=some vs→vs.length=hd.length∧∀(k:Nat) (o:AOper),hd[k]?=some o→∃v,vs[k]?=some (o.dst,v)∧
 ∀i,(wanted o.guard (envL (fun q=>decide (q<i+k)) vs i env)=some false∧v=.undef)∨(wanted o.guard (envL (fun q=>decide (q<i+k)) vs i env)=some true∧∃s',evOp C o.op (envL (fun q=>decide (q<i+k)) vs i env) s=some (.ok v,s'))
 |[],env,vs,h=>by
  simp only[trace,Option.some.injEq]at h
  subst h
  exact⟨rfl,fun k o hk=>by simp at hk⟩
 |o::hd,env,vs,h=>by
  have step:∀v vs',trace C s hd (put o.dst v env)=some vs'→vs=(o.dst,v)::vs'→((wanted o.guard env=some false∧v=.undef)∨(wanted o.guard env=some true∧∃s',evOp C o.op env s=some (.ok v,s')))→
        vs.length=(o::hd).length∧∀(k:Nat) (o':AOper),(o::hd)[k]?=some o'→∃v,vs[k]?=some (o'.dst,v)∧
  ∀i,(wanted o'.guard (envL (fun q=>decide (q<i+k)) vs i env)=some false∧v=.undef)∨(wanted o'.guard (envL (fun q=>decide (q<i+k)) vs i env)=some true∧∃s',evOp C o'.op (envL (fun q=>decide (q<i+k)) vs i env) s=some (.ok v,s')):=by
   intro v vs' ht hvs hor
   obtain⟨hl,hg⟩:=trace_get ht
   subst hvs
   refine⟨by simp[hl],fun k o' hk=>?_⟩
   cases k with
   |zero=>
    simp only[List.getElem?_cons_zero,Option.some.injEq]at hk
    subst hk
    refine⟨v,rfl,fun i=>?_⟩
    have:envL (fun q=>decide (q<i+0)) ((o.dst,v)::vs') i env=env:=envL_none _ i env fun k _=>by simp
    rw[this]
    exact hor
   |succ k=>
    obtain⟨v',q1,q2⟩:=hg k o' (by simpa using hk)
    refine⟨v',by simpa using q1,fun i=>?_⟩
    have:=q2 (i+1)
    have e:envL (fun q=>decide (q<i+(k+1))) ((o.dst,v)::vs') i env=envL (fun q=>decide (q<i+1+k)) vs' (i+1) (put o.dst v env):=by
      simp only[envL]
      rw[if_pos (by simp)]
      congr 1
      funext q
      rw[show i+(k+1)=i+1+k by omega]
    rw[e]
    exact this
  simp only[trace]at h
  split at h
  ·rename_i hw
   simp only[Option.map_eq_some_iff]at h
   obtain⟨vs',ht,rfl⟩:=h
   exact step .undef vs' ht rfl (.inl ⟨hw,rfl⟩)
  ·rename_i hw
   split at h
   ·rename_i v s1 hop
    simp only[Option.map_eq_some_iff]at h
    obtain⟨vs',ht,rfl⟩:=h
    exact step v vs' ht rfl (.inr ⟨hw,s1,hop⟩)
   ·cases h
  ·cases h
end AI
end Go.Proofs.YtlbjddhbkhgceaaGreatDoor
namespace Go.Proofs.YtlbjddhbkhgceaaGreatDoor
namespace AI
open Go.RowKit
variable {P:Program} {B:Nat} {w w' w0:World} {Z Z':Cold} {φ φ':Phi} {ctr ctr':Nat} {s s':Sto}
theorem vals_congr {env env':Env}:∀{xs:List AO},(∀ x∈xs,x.val env=x.val env')→vals env xs=vals env' xs
 |[],_=>rfl
 |x::xs,h=>by simp only[vals];rw[h x (by simp),vals_congr fun y hy=>h y (by simp[hy])]
theorem vparts_congr {env env':Env}:∀{ps:List (Nat×Nat×AO)},(∀ x∈ps.map (fun (_,_,x)=>x),x.val env=x.val env')→vparts env ps=vparts env' ps
 |[],_=>rfl
 |(o,n,x)::ps,h=>by simp only[vparts];rw[h x (by simp),vparts_congr fun y hy=>h y (by simp only[List.map_cons,List.mem_cons];exact .inr hy)]
theorem vlit_congr {env env':Env}:∀{ps:List (Nat×AO)},(∀ x∈ps.map (fun (_,x)=>x),x.val env=x.val env')→vlit env ps=vlit env' ps
 |[],_=>rfl
 |(o,x)::ps,h=>by simp only[vlit];rw[h x (by simp),vlit_congr fun y hy=>h y (by simp only[List.map_cons,List.mem_cons];exact .inr hy)]
theorem bounds_congr {env env':Env} {n:Nat} {lo hi:Option AO} (h:∀x∈optL lo++optL hi,x.val env=x.val env'):bounds env n lo hi=bounds env' n lo hi:=by
 cases lo<;>cases hi<;>simp only[bounds]
 ·rw[h _ (by simp[optL])]
 ·rw[h _ (by simp[optL])]
 ·rename_i a b
  rw[h a (by simp[optL]),h b (by simp[optL])]
theorem ev_congr {C:CallF} {ao:AOp} {env env':Env} (h:∀x∈ao.aos,x.val env=x.val env'):evOp C ao env s=evOp C ao env' s:=by
 cases ao
 case build z ps=>simp only[evOp,vparts_congr (env:=env) (env':=env') (by simpa only[AOp.aos]using h)]
 case lit o es z n ps=>simp only[evOp,vlit_congr (env:=env) (env':=env') (by simpa only[AOp.aos]using h)]
 case slice es x lo hi=>
  have hx:=h x (by simp[AOp.aos])
  have hb:∀n,bounds env n lo hi=bounds env' n lo hi:=fun n=>bounds_congr fun y hy=>h y (by simp only[AOp.aos,List.mem_cons];exact .inr hy)
  simp only[evOp,hx,hb]
 case sslice x lo hi=>
  have hx:=h x (by simp[AOp.aos])
  have hb:∀n,bounds env n lo hi=bounds env' n lo hi:=fun n=>bounds_congr fun y hy=>h y (by simp only[AOp.aos,List.mem_cons];exact .inr hy)
  simp only[evOp,hx,hb]
 case mkfn f xs=>simp only[evOp,vals_congr (env:=env) (env':=env') (by simpa only[AOp.aos]using h)]
 case call m f xs=>simp only[evOp,vals_congr (env:=env) (env':=env') (by simpa only[AOp.aos]using h)]
 case callv m x xs=>
  have hx:=h x (by simp[AOp.aos])
  simp only[evOp,hx,vals_congr (env:=env) (env':=env') fun y hy=>h y (by simp only[AOp.aos,List.mem_cons];exact .inr hy)]
 all_goals
  simp only[AOp.aos,List.mem_cons,List.not_mem_nil,or_false,forall_eq_or_imp,forall_eq]at h
  simp only[evOp,h]
theorem val_of_slots {env env':Env} {x:AO} (h:∀t∈x.slots,env.get t=env'.get t):x.val env=x.val env':=by
 cases x with
 |tmp t=>exact h t (by simp[AO.slots])
 |cst v=>rfl
theorem wanted_congr {env env':Env} {g:Option (Nat×Bool)} (h:∀t b,g=some (t,b)→env.get t=env'.get t):wanted g env=wanted g env':=by
 cases g with
 |none=>rfl
 |some p=>obtain⟨t,b⟩:=p;simp only[wanted,h t b rfl]
structure DrawOk (ops:Array Oper) (aos:List AOper) (m:Nat):Prop where
 fwd:∀(j:Nat) (o:Oper),ops[j]?=some o→∀e∈o.after,Region.binds .any e=true→e.on<j
 tmp:∀(j:Nat) (ao:AOper),aos[j]?=some ao→j<ops.size→∀(i:Nat) (oi:Oper) (t:Nat),i≠j→ops[i]?=some oi→oi.dst=some t→t∈slotsOf ao→if i<j then((Region.before ops).getD j 0).testBit i=true else((Region.before ops).getD i 0).testBit j=true
 tail:∀j,j<ops.size→m≤j→∀i,i<j→((Region.before ops).getD j 0).testBit i=true
theorem drawOk_spec {ops:Array Oper} {aos:List AOper} {m:Nat} (h:drawOk ops aos m=true):DrawOk ops aos m:=by
 unfold drawOk at h
 simp only[List.all_eq_true,List.mem_range]at h
 refine⟨fun j o ho e he hb=>?_,fun j ao hao hj i oi t hij hoi hd ht=>?_,fun j hj hm i hi=>?_⟩
 ·have hj:=(Array.getElem?_eq_some_iff.1 ho).1
  have:=h j hj
  rw[ho]at this
  cases hao:aos[j]? with
  |none=>simp[hao]at this
  |some ao=>
   simp only[hao,Bool.and_eq_true,List.all_eq_true]at this
   have:=this.1.1 e (by simpa using he)
   simp only[hb,Bool.not_true,Bool.false_or,decide_eq_true_eq]at this
   exact this
 ·have ho:ops[j]?=some ops[j]:=Array.getElem?_eq_getElem hj
  have:=h j hj
  rw[ho,hao]at this
  simp only[Bool.and_eq_true,List.all_eq_true,List.mem_range]at this
  have:=this.1.2 i (Array.getElem?_eq_some_iff.1 hoi).1
  simp only[Bool.or_eq_true,beq_iff_eq,hij,false_or,hoi,Option.bind_some,hd,Bool.not_eq_true',List.contains_eq_mem,decide_eq_false_iff_not,ht,not_true_eq_false]at this
  split
  ·rename_i hlt;rw[if_pos hlt]at this;exact this
  ·rename_i hlt;rw[if_neg hlt]at this;exact this
 ·have ho:ops[j]?=some ops[j]:=Array.getElem?_eq_getElem hj
  have:=h j hj
  rw[ho]at this
  cases hao:aos[j]? with
  |none=>simp[hao]at this
  |some ao=>
   simp only[hao,Bool.and_eq_true,Bool.or_eq_true,decide_eq_true_eq,List.all_eq_true,List.mem_range]at this
   rcases this.2 with h1|h1
   ·omega
   ·exact h1 i hi
theorem tail_sound {C:CallF} (hC:CallSound P C) {ops:Array Oper} {n:Nat} {an:List (Nat×OAnn)} {aos:List AOper} (hcomp:compOps P ops n an ops.toList 0=some aos) {m:Nat} (hok:DrawOk ops aos m) {Q:Exit→Act→World→Prop} {e:AExit} {env':Env} {s':Sto}:
 ∀(fuel j:Nat) (listed:Array Bool) (env:Env) (s:Sto) (a:Act) (w:World) (Z:Cold) (φ:Phi),m≤j→j≤ops.size→ops.size≤j+fuel→listed.size=ops.size→(∀ i,i<ops.size→(Lst listed i=true↔i<j))→evOps C (aos.drop j) env s=some (e,env',s')→Inv w0 B s Z φ w→EnvRep w Z φ s.ctr env a.tmps→a.tmps.size=n→Post w0 B w Z φ s.ctr n a.defers e env' s' Q→
  wpAny P .any ops Q fuel listed a w:=by
 obtain⟨hlen,hget⟩:=compOps_get hcomp
 have hlen':aos.length=ops.size:=by simpa using hlen
 intro fuel
 induction fuel with
 |zero=>
  intro j listed env s a w Z φ hm hj hf hsz hL hev hI hE hn hp
  have hje:j=ops.size:=by omega
  subst hje
  have:aos.drop ops.size=[]:=by rw[List.drop_eq_nil_iff];omega
  rw[this]at hev
  simp only[evOps,Option.some.injEq,Prod.mk.injEq]at hev
  obtain⟨rfl,rfl,rfl⟩:=hev
  refine⟨?_,hp .normal a w Z φ rfl hn rfl hI hE (Later.refl _ _ _ _ _)⟩
  rw[List.eq_nil_iff_forall_not_mem]
  intro i hi
  obtain⟨o,ho,hl,_⟩:=(ready_iff hsz).1 hi
  have hlt:=(Array.getElem?_eq_some_iff.1 ho).1
  rw[(hL i hlt).2 hlt]at hl;cases hl
 |succ fuel ih=>
  intro j listed env s a w Z φ hm hj hf hsz hL hev hI hE hn hp
  by_cases hje:j=ops.size
  ·subst hje
   have:aos.drop ops.size=[]:=by rw[List.drop_eq_nil_iff];omega
   rw[this]at hev
   simp only[evOps,Option.some.injEq,Prod.mk.injEq]at hev
   obtain⟨rfl,rfl,rfl⟩:=hev
   refine⟨fun _=>hp .normal a w Z φ rfl hn rfl hI hE (Later.refl _ _ _ _ _),fun i hi=>?_⟩
   obtain⟨o,ho,hl,_⟩:=(ready_iff hsz).1 hi
   have hlt:=(Array.getElem?_eq_some_iff.1 ho).1
   rw[(hL i hlt).2 hlt]at hl;cases hl
  ·have hjlt:j<ops.size:=by omega
   have hoj:ops[j]?=some ops[j]:=Array.getElem?_eq_getElem hjlt
   refine⟨fun hr=>?_,fun i hi=>?_⟩
   ·exfalso
    have:j∈Region.ready .any ops listed:=by
     refine(ready_iff hsz).2 ⟨_,hoj,?_,fun e' he' hb=>?_⟩
     ·cases hl:Lst listed j
      ·rfl
      ·have:=(hL j hjlt).1 hl;omega
     ·have:=hok.fwd j _ hoj e' he' hb
      exact(hL _ (by omega)).2 this
    rw[hr]at this
    cases this
   ·obtain⟨o,ho,hl,hdep⟩:=(ready_iff hsz).1 hi
    have hilt:=(Array.getElem?_eq_some_iff.1 ho).1
    have hcl:Closed ops (Lst listed):=by
     intro k ok hk hlk e' he' hb
     have hkl:=(hL k (Array.getElem?_eq_some_iff.1 hk).1).1 hlk
     have:=hok.fwd k ok hk e' he' hb
     exact(hL _ (by omega)).2 (by omega)
    have hij:i=j:=by
     have hge:¬i<j:=fun h=>by rw[(hL i hilt).2 h]at hl;cases hl
     rcases Nat.lt_or_ge j i with h|h
     ·exfalso
      have hb:=hok.tail i hilt (by omega) j h
      have:=closed_bit hok.fwd hcl i o ho hdep hb
      have:=(hL j hjlt).1 this
      omega
     ·omega
    subst hij
    rw[hoj]at ho
    cases ho
    obtain⟨ao,hao,h1,h2,h3,h4⟩:=hget i _ (by rw[Array.getElem?_toList];exact hoj)
    have hdrop:aos.drop i=ao::aos.drop (i+1):=by
     rw[List.drop_eq_getElem_cons (by omega)]
     congr 1
     exact(List.getElem?_eq_some_iff.1 hao).2
    rw[hdrop]at hev
    simp only[evOps]at hev
    have hsz':(listed.setIfInBounds i true).size=ops.size:=by simpa using hsz
    have hL':∀k,k<ops.size→(Lst (listed.setIfInBounds i true) k=true↔k<i+1):=by
     intro k hk
     rw[lst_set (by omega)]
     by_cases he:k=i
     ·subst he;simp
     ·rw[if_neg he,hL k hk];omega
    refine wpOp_sound hC hoj h1 h2 h3 h4 hI hE hn ?_
    split at hev
    ·cases hev
    ·rename_i hw
     exact .inl ⟨hw,fun a' z1 z2 z3=>ih (i+1) _ _ s a' w Z φ (by omega) (by omega) (by omega) hsz' hL' hev hI z3 z1 (z2▸hp)⟩
    ·rename_i hw
     refine .inr ⟨hw,?_⟩
     split at hev
     ·rename_i v s1 hop
      refine⟨.ok v,s1,hop,fun v' hv a' x w' Z' φ' ha' hr hI' hE' hLt=>?_,(fun v' hv=>by cases hv)⟩
      cases hv
      subst ha'
      obtain⟨z1,z2⟩:=size_put a ops[i].dst x
      exact ih (i+1) _ _ s1 _ w' Z' φ' (by omega) (by omega) (by omega) hsz' hL' hev hI' hE' (z1.trans hn) (by rw[z2];exact hp.later hLt)
     ·rename_i v s1 hop
      simp only[Option.some.injEq,Prod.mk.injEq]at hev
      obtain⟨rfl,rfl,rfl⟩:=hev
      refine⟨.pan v,s1,hop,(fun v' hv=>by cases hv),fun v' hv=>?_⟩
      cases hv
      exact hp
     ·cases hev
theorem envL_congr {L L':Nat→Bool}:∀(vs:List (Option Nat×AV)) (i:Nat) (env:Env),(∀ k,k<vs.length→L (i+k)=L' (i+k))→envL L vs i env=envL L' vs i env
 |[],i,env,_=>rfl
 |(d,v)::vs,i,env,h=>by
  have h0:=h 0 (by simp)
  simp only[Nat.add_zero]at h0
  simp only[envL,h0]
  exact envL_congr vs (i+1) _ fun k hk=>by rw[show i+1+k=i+(k+1) by omega];exact h (k+1) (by simp;omega)
theorem head_sound {C:CallF} (hC:CallSound P C) {ops:Array Oper} {n:Nat} {an:List (Nat×OAnn)} {aos:List AOper} (hcomp:compOps P ops n an ops.toList 0=some aos) {m:Nat} (hok:DrawOk ops aos m) (hm:m≤ops.size) (hpure:pureHead m aos=true) {Q:Exit→Act→World→Prop}
 {e:AExit} {env env':Env} {s s':Sto} {vs:List (Option Nat×AV)} (htr:trace C s (aos.take m) env=some vs) (hev:evOps C (aos.drop m) (envL (fun _=>true) vs 0 env) s=some (e,env',s')):
 ∀(fuel:Nat) (listed:Array Bool) (a:Act) (w:World) (Z:Cold) (φ:Phi),ops.size≤cnt (Lst listed) ops.size+fuel→listed.size=ops.size→Closed ops (Lst listed)→(∀ i,Lst listed i=true→i<m)→Inv w0 B s Z φ w→EnvRep w Z φ s.ctr (envL (Lst listed) vs 0 env) a.tmps→a.tmps.size=n→Post w0 B w Z φ s.ctr n a.defers e env' s' Q→
  wpAny P .any ops Q fuel listed a w:=by
 obtain⟨hlen,hget⟩:=compOps_get hcomp
 have hlen':aos.length=ops.size:=by simpa using hlen
 obtain⟨hvl,hvs⟩:=trace_get htr
 have hvl':vs.length=m:=by rw[hvl];simp;omega
 intro fuel
 induction fuel with
 |zero=>
  intro listed a w Z φ hf hsz hcl hLm hI hE hn hp
  have hfull:=cnt_full (L:=Lst listed) (n:=ops.size) (by have:=cnt_le (Lst listed) ops.size;omega)
  have hmE:m=ops.size:=by
   rcases Nat.lt_or_ge m ops.size with h|h
   ·have:=hLm m (hfull m h);omega
   ·omega
  have hE':EnvRep w Z φ s.ctr (envL (fun _=>true) vs 0 env) a.tmps:=by
   rw[envL_congr (L':=Lst listed) vs 0 env fun k hk=>by rw[Nat.zero_add,hfull k (by omega)]]
   exact hE
  exact tail_sound hC hcomp hok 0 m listed _ s a w Z φ (Nat.le_refl _) hm (by omega) hsz (fun i hi=>⟨fun _=>by omega,fun _=>hfull i hi⟩) hev hI hE' hn hp
 |succ fuel ih=>
  intro listed a w Z φ hf hsz hcl hLm hI hE hn hp
  by_cases hall:∀i,i<m→Lst listed i=true
  ·have hE':EnvRep w Z φ s.ctr (envL (fun _=>true) vs 0 env) a.tmps:=by
        rw[envL_congr (L':=Lst listed) vs 0 env fun k hk=>by rw[Nat.zero_add,hall k (by omega)]]
        exact hE
   have hL:∀i,i<ops.size→(Lst listed i=true↔i<m):=fun i _=>⟨hLm i,hall i⟩
   have hc:cnt (Lst listed) ops.size≤m:=by
        have:∀k,cnt (Lst listed) k≤m:=by
         intro k
         have:∀k,k≤m→cnt (Lst listed) k≤k:=fun k _=>cnt_le _ k
         induction k with
         |zero=>simp[cnt]
         |succ k ihk=>
          by_cases hk:k<m
          ·exact Nat.le_trans (cnt_le _ _) hk
          ·have:Lst listed k=false:=by
            cases h:Lst listed k
            ·rfl
            ·exact absurd (hLm k h) hk
           simp only[cnt,this,Bool.false_eq_true,if_false,Nat.add_zero]
           exact ihk
        exact this _
   exact tail_sound hC hcomp hok (fuel+1) m listed _ s a w Z φ (Nat.le_refl _) hm (by omega) hsz hL hev hI hE' hn hp
  ·
   have hleast:∃j,j<m∧Lst listed j=false∧∀i,i<j→Lst listed i=true:=by
        have:∃j,j<m∧Lst listed j=false:=by
         rcases Classical.em (∃ j,j<m∧Lst listed j=false)with h|h
         ·exact h
         ·exfalso
          refine hall fun i hi=>?_
          cases hl:Lst listed i
          ·exact(h ⟨i,hi,hl⟩).elim
          ·rfl
        obtain⟨j,hj,hlj⟩:=this
        induction j using Nat.strongRecOn with
        |_ j ihj=>
         rcases Classical.em (∃ i,i<j∧Lst listed i=false)with⟨i,hi,hli⟩|h
         ·exact ihj i hi (by omega) hli
         ·refine⟨j,hj,hlj,fun i hi=>?_⟩
          cases hl:Lst listed i
          ·exact(h ⟨i,hi,hl⟩).elim
          ·rfl
   obtain⟨j0,hj0,hl0,hbelow⟩:=hleast
   refine⟨fun hr=>?_,fun i hi=>?_⟩
   ·exfalso
    have hoj:ops[j0]?=some ops[j0]:=Array.getElem?_eq_getElem (by omega)
    have:j0∈Region.ready .any ops listed:=(ready_iff hsz).2 ⟨_,hoj,hl0,fun e' he' hb=>hbelow _ (hok.fwd j0 _ hoj e' he' hb)⟩
    rw[hr]at this
    cases this
   ·obtain⟨o,ho,hl,hdep⟩:=(ready_iff hsz).1 hi
    have hilt:=(Array.getElem?_eq_some_iff.1 ho).1
    have bit:∀k,((Region.before ops).getD i 0).testBit k=true→Lst listed k=true:=fun k hb=>closed_bit hok.fwd hcl i o ho hdep hb
    have him:i<m:=by
     rcases Nat.lt_or_ge i m with h|h
     ·exact h
     ·exfalso
      have:=bit j0 (hok.tail i hilt h j0 (by omega))
      rw[hl0]at this;cases this
    obtain⟨ao,hao,h1,h2,h3,h4⟩:=hget i o (by simpa using ho)
    obtain⟨v,hv,hvw⟩:=hvs i ao (by rw[List.getElem?_take_of_lt him];exact hao)
    have hvw:=hvw 0
    simp only[Nat.zero_add]at hvw
    have same:∀t∈slotsOf ao,(envL (Lst listed) vs 0 env).get t=(envL (fun q=>decide (q<i)) vs 0 env).get t:=by
     intro t ht
     rw[envL_get,envL_get]
     refine lastW_congr vs 0 _ fun k d u hk hd=>?_
     rw[Nat.zero_add]
     have hkm:k<m:=by rw[← hvl'];exact(List.getElem?_eq_some_iff.1 hk).1
     have hok':ops[k]?=some ops[k]:=Array.getElem?_eq_getElem (by omega)
     obtain⟨aok,haok,_,_,hdk,_⟩:=hget k _ (by rw[Array.getElem?_toList];exact hok')
     obtain⟨vk,hvk,_⟩:=hvs k aok (by rw[List.getElem?_take_of_lt hkm];exact haok)
     rw[hk]at hvk
     simp only[Option.some.injEq,Prod.mk.injEq]at hvk
     have hdst:ops[k].dst=some t:=by rw[← hdk,←hvk.1,hd]
     by_cases hki:k=i
     ·subst hki;rw[hl];simp
     ·have:=hok.tmp i ao hao hilt k _ t hki hok' hdst ht
      split at this
      ·rename_i hlt
       rw[bit k this];simp[hlt]
      ·rename_i hlt
       have hnl:Lst listed k=false:=by
           cases hq:Lst listed k
           ·rfl
           ·have:=closed_bit hok.fwd hcl k _ hok' (fun e' he' hb=>hcl k _ hok' hq e' he' hb) this
            rw[hl]at this;cases this
       rw[hnl];simp[hlt]
    have hwc:wanted ao.guard (envL (Lst listed) vs 0 env)=wanted ao.guard (envL (fun q=>decide (q<i)) vs 0 env):=wanted_congr fun t b hg=>same t (by simp[slotsOf,hg])
    have hec:evOp C ao.op (envL (Lst listed) vs 0 env) s=evOp C ao.op (envL (fun q=>decide (q<i)) vs 0 env) s:=ev_congr fun x hx=>val_of_slots fun t ht=>same t (by simp only[slotsOf,List.mem_append,List.mem_flatMap];exact .inl (.inr ⟨x,hx,ht⟩))
    have hsz':(listed.setIfInBounds i true).size=ops.size:=by simpa using hsz
    have hset:∀k,Lst (listed.setIfInBounds i true) k=if k=i then true else Lst listed k:=lst_set (by omega)
    have hcl':Closed ops (Lst (listed.setIfInBounds i true)):=by
     intro k ok hk hlk e' he' hb
     rw[hset]at hlk ⊢
     by_cases hki:k=i
     ·subst hki
      rw[ho]at hk
      cases hk
      split
      ·rfl
      ·exact hdep e' he' hb
     ·rw[if_neg hki]at hlk
      split
      ·rfl
      ·exact hcl k ok hk hlk e' he' hb
    have hLm':∀k,Lst (listed.setIfInBounds i true) k=true→k<m:=by
     intro k hk
     rw[hset]at hk
     split at hk
     ·omega
     ·exact hLm k hk
    have hcnt:ops.size≤cnt (Lst (listed.setIfInBounds i true)) ops.size+fuel:=by
     rw[cnt_add (i:=i) hl (by rw[hset];simp) (fun k hk=>by rw[hset,if_neg hk])]
     simp[hilt];omega
    have frame:∀t,(AI.put ao.dst v (envL (Lst listed) vs 0 env)).get t=(envL (Lst (listed.setIfInBounds i true)) vs 0 env).get t:=by
     intro t
     rw[get_put,envL_get,envL_get]
     by_cases hd:ao.dst=some t
     ·rw[if_pos hd]
      refine(lastW_set (j:=i) vs 0 _ (by rw[hv,hd]) (by rw[Nat.zero_add,hset];simp) fun k d u hk hdk hlt=>?_).symm
      rw[Nat.zero_add,hset,if_neg (by omega)]
      have hkm:k<m:=by rw[← hvl'];exact(List.getElem?_eq_some_iff.1 hk).1
      have hok':ops[k]?=some ops[k]:=Array.getElem?_eq_getElem (by omega)
      obtain⟨aok,haok,_,_,hdk',_⟩:=hget k _ (by rw[Array.getElem?_toList];exact hok')
      obtain⟨vk,hvk,_⟩:=hvs k aok (by rw[List.getElem?_take_of_lt hkm];exact haok)
      rw[hk]at hvk
      simp only[Option.some.injEq,Prod.mk.injEq]at hvk
      have hdst:ops[k].dst=some t:=by rw[← hdk',←hvk.1,hdk]
      have:=hok.tmp i ao hao hilt k _ t (by omega) hok' hdst (by simp[slotsOf,hd])
      rw[if_neg (by omega)]at this
      cases hq:Lst listed k
      ·rfl
      ·have:=closed_bit hok.fwd hcl k _ hok' (fun e' he' hb=>hcl k _ hok' hq e' he' hb) this
       rw[hl]at this;cases this
     ·rw[if_neg hd]
      refine lastW_congr vs 0 _ fun k d u hk hdk=>?_
      rw[Nat.zero_add,hset]
      by_cases hki:k=i
      ·subst hki
       rw[hv]at hk
       simp only[Option.some.injEq,Prod.mk.injEq]at hk
       exact absurd (hk.1.trans hdk) hd
      ·rw[if_neg hki]
    have hEput:∀{w':World} {Z':Cold} {φ':Phi} {a':Act},EnvRep w' Z' φ' s.ctr (AI.put ao.dst v (envL (Lst listed) vs 0 env)) a'.tmps→EnvRep w' Z' φ' s.ctr (envL (Lst (listed.setIfInBounds i true)) vs 0 env) a'.tmps:=by
     intro w' Z' φ' a' h t
     rw[← frame t]
     exact h t
    refine wpOp_sound hC ho h1 h2 h3 h4 hI hE hn ?_
    rcases hvw with⟨hw,rfl⟩|⟨hw,s1,hop⟩
    ·exact .inl ⟨by rw[hwc];exact hw,fun a' z1 z2 z3=>ih _ a' w Z φ hcnt hsz' hcl' hLm' hI (hEput z3) z1 (z2▸hp)⟩
    ·have hpo:ao.op.pureOp=true:=by
      have:=hpure
      unfold pureHead at this
      rw[List.all_eq_true]at this
      exact this ao (List.mem_of_getElem? (by rw[List.getElem?_take_of_lt him];exact hao))
     have hs1:=(pure_same hpo hop).1
     subst hs1
     refine .inr ⟨by rw[hwc];exact hw,.ok v,s1,by rw[hec];exact hop,fun v' hv' a' x w' Z' φ' ha' hr hI' hE' hLt=>?_,(fun v' hv'=>by cases hv')⟩
     cases hv'
     subst ha'
     obtain⟨z1,z2⟩:=size_put a o.dst x
     exact ih _ _ w' Z' φ' hcnt hsz' hcl' hLm' hI' (hEput hE') (z1.trans hn) (by rw[z2];exact hp.later hLt)
end AI
end Go.Proofs.YtlbjddhbkhgceaaGreatDoor
