/- Soundness, fourteenth part: a region, in the order of the text and in whatever order is drawn. Soundness, fifteenth part: a region whose order is drawn. Soundness, sixteenth part: any order that is drawn; code; functions; the evaluator. -/
import Derived.Test.YthjeehjphekjmaaGreatDoorBSc
namespace Go.Proofs.YthjeehjphekjmaaGreatDoor
namespace AI
open Go.RowKit
variable {P:Program} {B:Nat} {w w' w0:World} {Z Z':BL} {φ φ':Es} {ctr BX:Nat} {s s':Ag}
theorem get_put (d:Option Nat) (v:AV) (env:Env) (t:Nat):(put d v env).get t=if d=some t then v else env.get t:=by
 cases d with
 |none=>simp[put]
 |some d=>
  simp only[put,Env.get,Option.some.injEq]
  by_cases h:d=t
  ·subst h;simp
  ·have:Nat.beq d t=false:=by
        cases hb:Nat.beq d t
        ·rfl
        ·exact absurd (Nat.eq_of_beq_eq_true hb) h
   simp[this,h]
theorem PK (a:Act) (d:Option Nat) (x:Value) (t:Nat) (h:∀k,d=some k→k<a.tmps.size):(a.put d x).tmps.getD t undef=if d=some t then x else a.tmps.getD t undef:=by
 cases d with
 |none=>simp[Act.put]
 |some d=>
  have hd:=h d rfl
  simp only[Act.put,Option.some.injEq]
  by_cases he:d=t
  ·subst he;simp[Array.getD_eq_getD_getElem?,hd]
  ·rw[if_neg he]
   simp[Array.getD_eq_getD_getElem?,Array.getElem?_setIfInBounds_ne he]
theorem size_put (a:Act) (d:Option Nat) (x:Value):(a.put d x).tmps.size=a.tmps.size∧(a.put d x).defers=a.defers:=by
 cases d<;>simp[Act.put]
theorem AB.later {env:Env} {tmps:Array Value} (h:AB w Z φ ctr env tmps) (hL:Later B w Z φ ctr w' Z' φ' BX):AB w' Z' φ' BX env tmps:=fun t=>(h t).later hL
theorem AB.put {env:Env} {a:Act} (h:AB w Z φ ctr env a.tmps) {d:Option Nat} (hd:∀k,d=some k→k<a.tmps.size) {v:AV} {x:Value} (hr:Rep w Z φ ctr v x):AB w Z φ ctr (AI.put d v env) (a.put d x).tmps:=by
 intro t
 rw[get_put,PK a d x t hd]
 split
 ·exact hr
 ·exact h t
theorem Q8 {ops:Array Oper} {n:Nat} {o:Oper} {g:Option (Nat×Bool)} (hg:GH ops n o.guard=some g) {env:Env} {a:Act} (hE:AB w Z φ ctr env a.tmps) (hn:a.tmps.size=n) {b:Bool} (hw:AI.wanted g env=some b):
 Region.wanted o (yielded ops a.tmps)=b:=by
 unfold GH at hg
 split at hg
 ·rename_i hgd
  simp only[Option.some.injEq]at hg
  subst hg
  simp only[AI.wanted,Option.some.injEq]at hw
  simp[Region.wanted,hgd,←hw]
 ·rename_i j want hgd
  split at hg
  ·rename_i t ht
   split at hg
   ·rename_i htn
    simp only[Option.some.injEq]at hg
    subst hg
    have hr:=hE t
    have hget:a.tmps[t]?=some (a.tmps.getD t undef):=by
     have hlt:t<a.tmps.size:=hn.symm▸htn
     simp[Array.getD_eq_getD_getElem?,Array.getElem?_eq_getElem hlt]
    simp only[AI.wanted]at hw
    split at hw
    ·rename_i b' hb'
     simp only[Option.some.injEq]at hw
     rw[hb']at hr
     generalize hq:a.tmps.getD t undef=q at hr hget
     cases hr
     simp[Region.wanted,hgd,yielded,ht,hget,←hw]
    ·rename_i hb'
     simp only[Option.some.injEq]at hw
     rw[hb']at hr
     generalize hq:a.tmps.getD t undef=q at hr hget
     cases hr
     simp[Region.wanted,hgd,yielded,ht,hget,undef,←hw]
    ·cases hw
   ·cases hg
  ·cases hg
def AaK (w:World) (Z:BL) (φ:Es) (ctr:Nat):Ak→Exit→Prop
 | .normal,e=>e=.normal
 | .exit id,e=>e=.exit id
 | .ret,e=>e=.ret
 | .D9 v,e=>∃x,e=.panic [{v:=x,recovered:=false}]∧Rep w Z φ ctr v x
def Post (w0:World) (B:Nat) (w:World) (Z:BL) (φ:Es) (ctr:Nat) (n:Nat) (ds:List Deferred) (e:Ak) (env':Env) (s':Ag) (Q:Exit→Act→World→Prop):Prop:=
 ∀e' a' w' Z' φ',AaK w' Z' φ' s'.ctr e e'→a'.tmps.size=n→a'.defers=ds→Inv w0 B s' Z' φ' w'→AB w' Z' φ' s'.ctr env' a'.tmps→Later B w Z φ ctr w' Z' φ' s'.ctr→Q e' a' w'
theorem Post.later {n:Nat} {ds:List Deferred} {e:Ak} {env':Env} {Q:Exit→Act→World→Prop} (h:Post w0 B w Z φ ctr n ds e env' s' Q) (hL:Later B w Z φ ctr w' Z' φ' BX):Post w0 B w' Z' φ' BX n ds e env' s' Q:=
 fun e' a' w'' TA WO h1 h2 h3 h4 h5 h6=>h e' a' w'' TA WO h1 h2 h3 h4 h5 (hL.trans h6)
theorem EX {ops:Array Oper} {n:Nat} {an:List (Nat×GZ)}:∀{os:List Oper} {i:Nat} {BQ:List AL},Dc P ops n an os i=some BQ→BQ.length=os.length∧∀(k:Nat) (o:Oper),os[k]?=some o→∃ao,BQ[k]?=some ao∧Nj P o (Wu an (i+k))=some ao.op∧GH ops n o.guard=some ao.guard∧ao.dst=o.dst∧(∀ d,o.dst=some d→d<n)
 |[],i,BQ,h=>by
  simp only[Dc,Option.some.injEq]at h
  subst h
  exact⟨rfl,fun k o hk=>by simp at hk⟩
 |o::os,i,BQ,h=>by
  simp only[Dc]at h
  split at h
  ·rename_i ao g r h1 h2 h3
   split at h
   ·rename_i hd
    simp only[Option.some.injEq]at h
    subst h
    obtain⟨hl,hr⟩:=EX h3
    refine⟨by simp[hl],fun k o' hk=>?_⟩
    cases k with
    |zero=>
     simp only[List.getElem?_cons_zero,Option.some.injEq]at hk
     subst hk
     refine⟨_,rfl,h1,h2,rfl,fun d hd'=>?_⟩
     rw[hd']at hd
     simpa[Wx]using hd
    |succ k=>
     obtain⟨ao',q1,q2⟩:=hr k o' (by simpa using hk)
     exact⟨ao',by simpa using q1,by rw[show i+(k+1)=i+1+k by omega];exact q2⟩
   ·cases h
  ·cases h
theorem ER {C:Aw} (hC:Ba P C) {ops:Array Oper} {n:Nat} {i:Nat} {o:Oper} (ho:ops[i]?=some o) {ann:Option GZ} {ao:AL} (h1:Nj P o ann=some ao.op) (h2:GH ops n o.guard=some ao.guard) (h3:ao.dst=o.dst) (h4:∀d,o.dst=some d→d<n)
 {a:Act} {env:Env} (hI:Inv w0 B s Z φ w) (hE:AB w Z φ s.ctr env a.tmps) (hn:a.tmps.size=n) {K:Act→World→Prop} {Q:Exit→Act→World→Prop}
 (h:(AI.wanted ao.guard env=some false∧∀a',a'.tmps.size=n→a'.defers=a.defers→AB w Z φ s.ctr (AI.put ao.dst .undef env) a'.tmps→K a' w)∨
   (AI.wanted ao.guard env=some true∧∃out s',Ah C ao.op env s=some (out,s')∧
        (∀ v,out=.ok v→∀a' x w' Z' φ',a'=a.put o.dst x→Rep w' Z' φ' s'.ctr v x→Inv w0 B s' Z' φ' w'→AB w' Z' φ' s'.ctr (AI.put ao.dst v env) a'.tmps→Later B w Z φ s.ctr w' Z' φ' s'.ctr→K a' w')∧
        (∀ v,out=.D9 v→Post w0 B w Z φ s.ctr n a.defers (.D9 v) env s' Q))):
 wpOp P ops Q i K a w:=by
 unfold wpOp
 rw[ho]
 have hd:∀k,o.dst=some k→k<a.tmps.size:=fun k hk=>by rw[hn];exact h4 k hk
 rcases h with⟨hw,hK⟩|⟨hw,out,s',hev,hok,VA⟩
 ·have:=Q8 h2 hE hn hw
  simp only[this,Bool.false_eq_true,if_false]
  obtain⟨z1,z2⟩:=size_put a o.dst undef
  exact hK _ (by rw[z1,hn]) z2 (by rw[h3];exact hE.put hd .undef)
 ·have:=Q8 h2 hE hn hw
  simp only[this,if_true]
  refine .inl (Y9 hC h1 hI hE hev (fun v hv x w' Z' φ' k1 k2 k3=>?_) (fun v hv x w' Z' φ' k1 k2 k3=>?_))
  ·exact hok v hv _ x w' Z' φ' rfl k2 k1 (by rw[h3];exact(hE.later k3).put hd k2) k3
  ·exact VA v hv _ a w' Z' φ' ⟨x,rfl,k2⟩ hn rfl k1 (hE.later k3) k3
theorem Nz {C:Aw} (hC:Ba P C) {ops:Array Oper} {n:Nat} {an:List (Nat×GZ)} {Q:Exit→Act→World→Prop}:∀(os:List Oper) (i:Nat) (BQ:List AL) (env:Env) (s:Ag) (a:Act) (w:World) (Z:BL) (φ:Es) (e:Ak) (env':Env) (s':Ag),
 (∀ k,os[k]?=ops[i+k]?)→Dc P ops n an os i=some BQ→Dn C BQ env s=some (e,env',s')→Inv w0 B s Z φ w→AB w Z φ s.ctr env a.tmps→a.tmps.size=n→Post w0 B w Z φ s.ctr n a.defers e env' s' Q→wpOps P ops Q (List.range' i os.length) a w
 |[],i,BQ,env,s,a,w,Z,φ,e,env',s',hos,hc,hev,hI,hE,hn,hp=>by
  simp only[Dc,Option.some.injEq]at hc
  subst hc
  simp only[Dn,Option.some.injEq,Prod.mk.injEq]at hev
  obtain⟨rfl,rfl,rfl⟩:=hev
  exact hp .normal a w Z φ rfl hn rfl hI hE (Later.refl _ _ _ _ _)
 |o::os,i,BQ,env,s,a,w,Z,φ,e,env',s',hos,hc,hev,hI,hE,hn,hp=>by
  have ho:ops[i]?=some o:=by have:=hos 0;simpa using this.symm
  have Za:∀k,os[k]?=ops[i+1+k]?:=fun k=>by
   have:=hos (k+1)
   rw[show i+1+k=i+(k+1) by omega]
   simpa using this
  simp only[Dc]at hc
  split at hc
  ·rename_i ao g r h1 h2 h3
   split at hc
   ·rename_i hd
    simp only[Option.some.injEq]at hc
    subst hc
    have h4:∀d,o.dst=some d→d<n:=fun d hd'=>by rw[hd']at hd;simpa[Wx]using hd
    rw[List.length_cons,List.range'_succ,wpOps_cons]
    simp only[Dn]at hev
    refine ER hC ho (ao:=⟨o.dst,ao,g⟩) h1 h2 rfl h4 hI hE hn ?_
    split at hev
    ·cases hev
    ·rename_i hw
     exact .inl ⟨hw,fun a' z1 z2 z3=>Nz hC os (i+1) r _ s a' w Z φ e env' s' Za h3 hev hI z3 z1 (z2▸hp)⟩
    ·rename_i hw
     refine .inr ⟨hw,?_⟩
     split at hev
     ·rename_i v s1 hop
      refine⟨.ok v,s1,hop,fun v' hv a' x w' Z' φ' ha' hr hI' hE' hL=>?_,(fun v' hv=>by cases hv)⟩
      cases hv
      subst ha'
      obtain⟨z1,z2⟩:=size_put a o.dst x
      exact Nz hC os (i+1) r _ s1 _ w' Z' φ' e env' s' Za h3 hev hI' hE' (z1.trans hn) (by rw[z2];exact hp.later hL)
     ·rename_i v s1 hop
      simp only[Option.some.injEq,Prod.mk.injEq]at hev
      obtain⟨rfl,rfl,rfl⟩:=hev
      refine⟨.D9 v,s1,hop,(fun v' hv=>by cases hv),fun v' hv=>?_⟩
      cases hv
      exact hp
     ·cases hev
   ·cases hc
  ·cases hc
end AI
end Go.Proofs.YthjeehjphekjmaaGreatDoor
namespace Go.Proofs.YthjeehjphekjmaaGreatDoor
namespace AI
open Go.RowKit
variable {P:Program} {B:Nat} {w w' w0:World} {Z Z':BL} {φ φ':Es} {ctr BX:Nat} {s s':Ag}
def EN (acc:Array Nat) (o:Oper):Nat:=o.after.foldl (fun s e=>if Region.binds .any e then s ||| 2 ^ e.on ||| acc.getD e.on 0 else s) 0
theorem VD (ops:Array Oper):Region.before ops=ops.foldl (init:=#[]) fun acc o=>acc.push (EN acc o):=rfl
theorem fold_push:∀(l:List Oper) (acc:Array Nat),(∀ k,k<acc.size→(l.foldl (fun acc o=>acc.push (EN acc o)) acc)[k]?=acc[k]?)∧
 ∀(k:Nat) (o:Oper),l[k]?=some o→∃A:Array Nat,(l.foldl (fun acc o=>acc.push (EN acc o)) acc)[acc.size+k]?=some (EN A o)∧A.size=acc.size+k∧∀q,q<A.size→A[q]?=(l.foldl (fun acc o=>acc.push (EN acc o)) acc)[q]?
 |[],acc=>⟨fun _ _=>rfl,fun k o h=>by simp at h⟩
 |o::l,acc=>by
  obtain⟨h1,h2⟩:=fold_push l (acc.push (EN acc o))
  simp only[List.foldl_cons]
  have hlow:∀k,k<acc.size→(l.foldl (fun acc o=>acc.push (EN acc o)) (acc.push (EN acc o)))[k]?=acc[k]?:=by
   intro k hk
   rw[h1 k (by simp;omega),Array.getElem?_push_lt hk]
   simp[hk]
  refine⟨hlow,fun k o' hk=>?_⟩
  cases k with
  |zero=>
   simp only[List.getElem?_cons_zero,Option.some.injEq]at hk
   subst hk
   refine⟨acc,?_,rfl,fun q hq=>(hlow q hq).symm⟩
   rw[Nat.add_zero,h1 _ (by simp)]
   simp
  |succ k=>
   obtain⟨A,a1,a2,a3⟩:=h2 k o' (by simpa using hk)
   refine⟨A,?_,?_,a3⟩
   ·simp only[Array.size_push]at a1
    rw[show acc.size+(k+1)=acc.size+1+k by omega];exact a1
   ·simp only[Array.size_push]at a2;omega
theorem Q9 (acc:Array Nat) (i:Nat):∀(es:List Edge) (n:Nat),(es.foldl (fun s e=>if Region.binds .any e then s ||| 2 ^ e.on ||| acc.getD e.on 0 else s) n).testBit i=true→
 n.testBit i=true∨∃e∈es,Region.binds .any e=true∧(e.on=i∨(acc.getD e.on 0).testBit i=true)
 |[],n,h=>.inl h
 |e::es,n,h=>by
  simp only[List.foldl_cons]at h
  rcases Q9 acc i es _ h with h1|⟨e',he',hb⟩
  ·by_cases hb:Region.binds .any e=true
   ·simp only[hb,if_true,Nat.testBit_or,Bool.or_eq_true,Nat.testBit_two_pow,decide_eq_true_eq]at h1
    rcases h1 with(h1|h1)|h1
    ·exact .inl h1
    ·exact .inr ⟨e,by simp,hb,.inl h1⟩
    ·exact .inr ⟨e,by simp,hb,.inr h1⟩
   ·simp only[hb]at h1
    exact .inl h1
  ·exact .inr ⟨e',by simp[he'],hb⟩
theorem VE {ops:Array Oper} (AaL:∀(j:Nat) (o:Oper),ops[j]?=some o→∀e∈o.after,Region.binds .any e=true→e.on<j) {j:Nat} {o:Oper} (ho:ops[j]?=some o) {i:Nat} (h:((Region.before ops).getD j 0).testBit i=true):
 ∃e∈o.after,Region.binds .any e=true∧(e.on=i∨((Region.before ops).getD e.on 0).testBit i=true):=by
 rw[VD,←Array.foldl_toList]at h ⊢
 obtain⟨_,h2⟩:=fold_push ops.toList #[]
 obtain⟨A,a1,a2,a3⟩:=h2 j o (by simpa using ho)
 simp only[List.size_toArray,List.length_nil,Nat.zero_add]at a1 a2
 have e1:(ops.toList.foldl (fun acc o=>acc.push (EN acc o)) #[]).getD j 0=EN A o:=by
  simp only[Array.getD_eq_getD_getElem?]
  rw[a1];rfl
 rw[e1]at h
 unfold EN at h
 rw[← Array.foldl_toList]at h
 rcases Q9 A i _ _ h with h0|⟨e,he,hb,hor⟩
 ·simp at h0
 ·have he':e∈o.after:=by simpa using he
  have hlt:=AaL j o ho e he' hb
  refine⟨e,he',hb,hor.imp id fun hh=>?_⟩
  have:A.getD e.on 0=(ops.toList.foldl (fun acc o=>acc.push (EN acc o)) #[]).getD e.on 0:=by
   simp only[Array.getD_eq_getD_getElem?]
   rw[a3 e.on (by omega)]
  rw[← this];exact hh
def BF (listed:Array Bool) (i:Nat):Bool:=listed.getD i false
def Closed (ops:Array Oper) (L:Nat→Bool):Prop:=∀(j:Nat) (o:Oper),ops[j]?=some o→L j=true→∀e∈o.after,Region.binds .any e=true→L e.on=true
theorem Ee {ops:Array Oper} (AaL:∀(j:Nat) (o:Oper),ops[j]?=some o→∀e∈o.after,Region.binds .any e=true→e.on<j) {L:Nat→Bool} (hL:Closed ops L) {i:Nat}:
 ∀(j:Nat) (o:Oper),ops[j]?=some o→(∀ e∈o.after,Region.binds .any e=true→L e.on=true)→((Region.before ops).getD j 0).testBit i=true→L i=true:=by
 intro j
 induction j using Nat.strongRecOn with
 |_ j ih=>
  intro o ho hd hb
  obtain⟨e,he,hbe,hor⟩:=VE AaL ho hb
  have hle:=hd e he hbe
  rcases hor with rfl|hb'
  ·exact hle
  ·have hlt:=AaL j o ho e he hbe
   have hj:j<ops.size:=(Array.getElem?_eq_some_iff.1 ho).1
   have ho':ops[e.on]?=some ops[e.on]:=Array.getElem?_eq_getElem (by omega)
   exact ih e.on hlt _ ho' (fun e' he' hb'=>hL e.on _ ho' hle e' he' hb') hb'
def cnt (L:Nat→Bool):Nat→Nat
 |0=>0
 |n+1=>cnt L n+(if L n then 1 else 0)
theorem cnt_le (L:Nat→Bool):∀n,cnt L n≤n
 |0=>Nat.le_refl _
 |n+1=>by have:=cnt_le L n;simp only[cnt];split<;>omega
theorem LM {L:Nat→Bool}:∀{n:Nat},cnt L n=n→∀i,i<n→L i=true
 |0,_,i,h=>by omega
 |n+1,h,i,hi=>by
  have hle:=cnt_le L n
  simp only[cnt]at h
  split at h
  ·rename_i hl
   by_cases he:i=n
   ·subst he;exact hl
   ·exact LM (n:=n) (by omega) i (by omega)
  ·omega
theorem OA {L L':Nat→Bool} {i:Nat} (h0:L i=false) (h1:L' i=true) (h:∀k,k≠i→L' k=L k):∀n,cnt L' n=cnt L n+(if i<n then 1 else 0)
 |0=>by simp[cnt]
 |n+1=>by
  have ih:=OA h0 h1 h n
  simp only[cnt,ih]
  by_cases he:n=i
  ·subst he;simp[h0,h1]
  ·rw[h n he]
   by_cases hlt:i<n
   ·simp[hlt,Nat.lt_succ_of_lt hlt];omega
   ·simp[hlt,show¬i<n+1 by omega]
theorem Oz {listed:Array Bool} {i:Nat} (hi:i<listed.size) (k:Nat):BF (listed.setIfInBounds i true) k=if k=i then true else BF listed k:=by
 unfold BF
 by_cases h:k=i
 ·subst h;simp[Array.getD_eq_getD_getElem?,hi]
 ·rw[if_neg h]
  simp[Array.getD_eq_getD_getElem?,Array.getElem?_setIfInBounds_ne (Ne.symm h)]
theorem Dt {ops:Array Oper} {listed:Array Bool} (hsz:listed.size=ops.size) {j:Nat}:j∈Region.ready .any ops listed↔∃o,ops[j]?=some o∧BF listed j=false∧∀e∈o.after,Region.binds .any e=true→BF listed e.on=true:=by
 unfold Region.ready
 simp only[List.mem_filter,List.mem_range,Bool.and_eq_true,Bool.not_eq_true']
 constructor
 ·rintro⟨hj,hl,ho⟩
  have hoj:ops[j]?=some ops[j]:=Array.getElem?_eq_getElem hj
  refine⟨_,hoj,?_,fun e he hb=>?_⟩
  ·have:j<listed.size:=by omega
   simp only[Array.getD_eq_getD_getElem?,Array.getElem?_eq_getElem this,Option.getD_some]at hl
   simp[BF,Array.getD_eq_getD_getElem?,Array.getElem?_eq_getElem this,hl]
  ·rw[hoj]at ho
   simp only[Option.map_some,Option.getD_some,Array.all_eq_true_iff_forall_mem]at ho
   have:=ho e he
   simp only[hb,Bool.not_true,Bool.false_or]at this
   exact this
 ·rintro⟨o,ho,hl,he⟩
  have hj:j<ops.size:=(Array.getElem?_eq_some_iff.1 ho).1
  refine⟨hj,?_,?_⟩
  ·have:j<listed.size:=by omega
   simp only[BF,Array.getD_eq_getD_getElem?,Array.getElem?_eq_getElem this,Option.getD_some]at hl
   simp[Array.getD_eq_getD_getElem?,Array.getElem?_eq_getElem this,hl]
  ·rw[ho]
   simp only[Option.map_some,Option.getD_some,Array.all_eq_true_iff_forall_mem]
   intro e hem
   by_cases hb:Region.binds .any e=true
   ·have:=he e hem hb
    simp only[BF]at this
    simp[this]
   ·simp[hb]
def Bg (L:Nat→Bool):List (Option Nat×AV)→Nat→Env→Env
 |[],_,env=>env
 |(d,v)::vs,i,env=>Bg L vs (i+1) (if L i then put d v env else env)
def Ir {α:Type} (L:Nat→Bool) (t:Nat):List (Option Nat×α)→Nat→α→α
 |[],_,x=>x
 |(d,v)::vs,i,x=>Ir L t vs (i+1) (if L i=true∧d=some t then v else x)
theorem Du (L:Nat→Bool) (t:Nat):∀(vs:List (Option Nat×AV)) (i:Nat) (env:Env),(Bg L vs i env).get t=Ir L t vs i (env.get t)
 |[],i,env=>rfl
 |(d,v)::vs,i,env=>by
  simp only[Bg,Ir]
  rw[Du L t vs (i+1)]
  congr 1
  by_cases hL:L i=true
  ·simp only[hL,if_true,true_and,get_put]
  ·simp[hL]
theorem CP {α:Type} {L L':Nat→Bool} {t:Nat}:∀(vs:List (Option Nat×α)) (i:Nat) (x:α),(∀ k d v,vs[k]?=some (d,v)→d=some t→L (i+k)=L' (i+k))→Ir L t vs i x=Ir L' t vs i x
 |[],i,x,_=>rfl
 |(d,v)::vs,i,x,h=>by
  simp only[Ir]
  have h0:=h 0 d v rfl
  simp only[Nat.add_zero]at h0
  have e:(if L i=true∧d=some t then v else x)=(if L' i=true∧d=some t then v else x):=by
   by_cases hd:d=some t
   ·rw[h0 hd]
   ·simp[hd]
  rw[e]
  refine CP vs (i+1) _ fun k d' v' hk hd=>?_
  rw[show i+1+k=i+(k+1) by omega]
  exact h (k+1) d' v' (by simpa using hk) hd
theorem J9 {α:Type} {L:Nat→Bool} {t j:Nat} {v:α}:∀(vs:List (Option Nat×α)) (i:Nat) (x:α),vs[j]?=some (some t,v)→L (i+j)=true→(∀ k d v',vs[k]?=some (d,v')→d=some t→j<k→L (i+k)=false)→Ir L t vs i x=v:=by
 induction j with
 |zero=>
  intro vs i x hj hL hno
  cases vs with
  |nil=>simp at hj
  |cons p vs=>
   simp only[List.getElem?_cons_zero,Option.some.injEq]at hj
   subst hj
   simp only[Nat.add_zero]at hL
   simp only[Ir,hL,and_self,if_true]
   have none:∀(vs:List (Option Nat×α)) (i:Nat) (x:α),(∀ k d v',vs[k]?=some (d,v')→d=some t→L (i+k)=false)→Ir L t vs i x=x:=by
        intro vs
        induction vs with
        |nil=>intro i x _;rfl
        |cons p vs ih=>
         intro i x h
         obtain⟨d,v'⟩:=p
         simp only[Ir]
         have h0:=h 0 d v' rfl
         simp only[Nat.add_zero]at h0
         rw[if_neg (by rintro⟨a,b⟩;rw[h0 b]at a;cases a)]
         exact ih (i+1) x fun k d v' hk hd=>by rw[show i+1+k=i+(k+1) by omega];exact h (k+1) d v' (by simpa using hk) hd
   exact none vs (i+1) v fun k d v' hk hd=>by rw[show i+1+k=i+(k+1) by omega];exact hno (k+1) d v' (by simpa using hk) hd (by omega)
 |succ j ih=>
  intro vs i x hj hL hno
  cases vs with
  |nil=>simp at hj
  |cons p vs=>
   obtain⟨d,v'⟩:=p
   simp only[Ir]
   exact ih vs (i+1) _ (by simpa using hj) (by rw[show i+1+j=i+(j+1) by omega];exact hL) fun k d v' hk hd hlt=>by
        rw[show i+1+k=i+(k+1) by omega]
        exact hno (k+1) d v' (by simpa using hk) hd (by omega)
theorem FQ {L:Nat→Bool}:∀(vs:List (Option Nat×AV)) (i:Nat) (env:Env),(∀ k,k<vs.length→L (i+k)=false)→Bg L vs i env=env
 |[],i,env,_=>rfl
 |(d,v)::vs,i,env,h=>by
  have h0:=h 0 (by simp)
  simp only[Nat.add_zero]at h0
  simp only[Bg,h0,Bool.false_eq_true,if_false]
  exact FQ vs (i+1) env fun k hk=>by rw[show i+1+k=i+(k+1) by omega];exact h (k+1) (by simp;omega)
def trace (C:Aw) (s:Ag):List AL→Env→Option (List (Option Nat×AV))
 |[],_=>some []
 |o::os,env=>match wanted o.guard env with
  |some false=>(trace C s os (put o.dst .undef env)).map ((o.dst,.undef)::·)
  |some true=>match Ah C o.op env s with
   |some (.ok v,_)=>(trace C s os (put o.dst v env)).map ((o.dst,v)::·)
   |_=>none
  |none=>none
theorem FU {C:Aw} {ao:BP} {env:Env} {out:AX} (hp:ao.EF=true) (hev:Ah C ao env s=some (out,s')):s'=s∧∃v,out=.ok v:=by
 have hpc:∀{m:Mode} {f:Nat} {args:List AV},(m==.pure||m==.borrow)=true→A8 C m f args s=some (out,s')→s'=s∧∃v,out=.ok v:=by
  intro m f args hm h
  cases m<;>simp at hm
  ·simp only[A8]at h
   split at h
   ·simp only[Option.map_eq_some_iff,Prod.mk.injEq]at h
    obtain⟨r,_,h1,h2⟩:=h
    exact⟨h2.symm,r,h1.symm⟩
   ·cases h
  ·simp only[A8]at h
   split at h
   ·split at h
    ·split at h
     ·simp only[Option.some.injEq,Prod.mk.injEq]at h
      exact⟨h.2.symm,_,h.1.symm⟩
     ·cases h
    ·cases h
   ·cases h
 cases ao<;>simp only[BP.EF,Bool.false_eq_true]at hp
 case call m f args=>exact hpc hp (by simpa only[Ah]using hev)
 case F9 m x args=>
  simp only[Ah]at hev
  split at hev
  ·exact hpc hp hev
  ·cases hev
 case lit own es z len parts=>
  simp only[Bool.not_eq_true']at hp
  subst hp
  simp only[Ah,Bool.false_eq_true,if_false]at hev
  (repeat' split at hev)<;>simp only[Option.some.injEq,Prod.mk.injEq,reduceCtorEq]at hev<;>exact⟨hev.2.symm,_,hev.1.symm⟩
 all_goals
  simp only[Ah,ok]at hev
  (repeat' split at hev)<;>first
    |(simp only[Option.some.injEq,Prod.mk.injEq]at hev;exact⟨hev.2.symm,_,hev.1.symm⟩)
    |(simp only[Option.map_eq_some_iff,Prod.mk.injEq]at hev;obtain⟨r,_,h1,h2⟩:=hev;exact⟨h2.symm,_,h1.symm⟩)
    |cases hev
theorem JG {C:Aw}:∀{hd:List AL} {tl:List AL} {env:Env} {r:Ak×Env×Ag},(hd.all fun o=>o.op.EF)=true→Dn C (hd++tl) env s=some r→
 ∃vs,trace C s hd env=some vs∧∀i,Dn C tl (Bg (fun _=>true) vs i env) s=some r
 |[],tl,env,r,_,h=>⟨[],rfl,fun _=>h⟩
 |o::hd,tl,env,r,hp,h=>by
  simp only[List.all_cons,Bool.and_eq_true]at hp
  simp only[List.cons_append,Dn]at h
  split at h
  ·cases h
  ·rename_i hw
   obtain⟨vs,h1,h2⟩:=JG hp.2 h
   exact⟨(o.dst,.undef)::vs,by simp[trace,hw,h1],fun i=>by simp only[Bg,if_true];exact h2 (i+1)⟩
  ·rename_i hw
   split at h
   ·rename_i v s1 hop
    rw[(FU hp.1 hop).1]at h
    obtain⟨vs,h1,h2⟩:=JG hp.2 h
    exact⟨(o.dst,v)::vs,by simp[trace,hw,hop,h1],fun i=>by simp only[Bg,if_true];exact h2 (i+1)⟩
   ·rename_i v s1 hop
    obtain⟨_,v',hv'⟩:=FU hp.1 hop
    cases hv'
   ·cases h
theorem Rf {C:Aw}:∀{hd:List AL} {env:Env} {vs:List (Option Nat×AV)},trace C s hd env=some vs→vs.length=hd.length∧∀(k:Nat) (o:AL),hd[k]?=some o→∃v,vs[k]?=some (o.dst,v)∧
 ∀i,(wanted o.guard (Bg (fun q=>decide (q<i+k)) vs i env)=some false∧v=.undef)∨(wanted o.guard (Bg (fun q=>decide (q<i+k)) vs i env)=some true∧∃s',Ah C o.op (Bg (fun q=>decide (q<i+k)) vs i env) s=some (.ok v,s'))
 |[],env,vs,h=>by
  simp only[trace,Option.some.injEq]at h
  subst h
  exact⟨rfl,fun k o hk=>by simp at hk⟩
 |o::hd,env,vs,h=>by
  have step:∀v vs',trace C s hd (put o.dst v env)=some vs'→vs=(o.dst,v)::vs'→((wanted o.guard env=some false∧v=.undef)∨(wanted o.guard env=some true∧∃s',Ah C o.op env s=some (.ok v,s')))→
        vs.length=(o::hd).length∧∀(k:Nat) (o':AL),(o::hd)[k]?=some o'→∃v,vs[k]?=some (o'.dst,v)∧
  ∀i,(wanted o'.guard (Bg (fun q=>decide (q<i+k)) vs i env)=some false∧v=.undef)∨(wanted o'.guard (Bg (fun q=>decide (q<i+k)) vs i env)=some true∧∃s',Ah C o'.op (Bg (fun q=>decide (q<i+k)) vs i env) s=some (.ok v,s')):=by
   intro v vs' ht hvs hor
   obtain⟨hl,hg⟩:=Rf ht
   subst hvs
   refine⟨by simp[hl],fun k o' hk=>?_⟩
   cases k with
   |zero=>
    simp only[List.getElem?_cons_zero,Option.some.injEq]at hk
    subst hk
    refine⟨v,rfl,fun i=>?_⟩
    have:Bg (fun q=>decide (q<i+0)) ((o.dst,v)::vs') i env=env:=FQ _ i env fun k _=>by simp
    rw[this]
    exact hor
   |succ k=>
    obtain⟨v',q1,q2⟩:=hg k o' (by simpa using hk)
    refine⟨v',by simpa using q1,fun i=>?_⟩
    have:=q2 (i+1)
    have e:Bg (fun q=>decide (q<i+(k+1))) ((o.dst,v)::vs') i env=Bg (fun q=>decide (q<i+1+k)) vs' (i+1) (put o.dst v env):=by
      simp only[Bg]
      rw[if_pos (by simp)]
      congr 1
      funext q
      rw[show i+(k+1)=i+1+k by omega]
    rw[e]
    exact this
  simp only[trace]at h
  split at h
  ·rename_i hw
   simp only[Option.map_eq_some_iff]at h
   obtain⟨vs',ht,rfl⟩:=h
   exact step .undef vs' ht rfl (.inl ⟨hw,rfl⟩)
  ·rename_i hw
   split at h
   ·rename_i v s1 hop
    simp only[Option.map_eq_some_iff]at h
    obtain⟨vs',ht,rfl⟩:=h
    exact step v vs' ht rfl (.inr ⟨hw,s1,hop⟩)
   ·cases h
  ·cases h
end AI
end Go.Proofs.YthjeehjphekjmaaGreatDoor
namespace Go.Proofs.YthjeehjphekjmaaGreatDoor
namespace AI
open Go.RowKit
variable {P:Program} {B:Nat} {w w' w0:World} {Z Z':BL} {φ φ':Es} {ctr BX:Nat} {s s':Ag}
theorem Jg {env env':Env}:∀{xs:List AO},(∀ x∈xs,x.val env=x.val env')→vals env xs=vals env' xs
 |[],_=>rfl
 |x::xs,h=>by simp only[vals];rw[h x (by simp),Jg fun y hy=>h y (by simp[hy])]
theorem Me {env env':Env}:∀{ps:List (Nat×Nat×AO)},(∀ x∈ps.map (fun (_,_,x)=>x),x.val env=x.val env')→Jb env ps=Jb env' ps
 |[],_=>rfl
 |(o,n,x)::ps,h=>by simp only[Jb];rw[h x (by simp),Me fun y hy=>h y (by simp only[List.map_cons,List.mem_cons];exact .inr hy)]
theorem PL {env env':Env}:∀{ps:List (Nat×AO)},(∀ x∈ps.map (fun (_,x)=>x),x.val env=x.val env')→Nv env ps=Nv env' ps
 |[],_=>rfl
 |(o,x)::ps,h=>by simp only[Nv];rw[h x (by simp),PL fun y hy=>h y (by simp only[List.map_cons,List.mem_cons];exact .inr hy)]
theorem MF {env env':Env} {n:Nat} {lo hi:Option AO} (h:∀x∈UE lo++UE hi,x.val env=x.val env'):bounds env n lo hi=bounds env' n lo hi:=by
 cases lo<;>cases hi<;>simp only[bounds]
 ·rw[h _ (by simp[UE])]
 ·rw[h _ (by simp[UE])]
 ·rename_i a b
  rw[h a (by simp[UE]),h b (by simp[UE])]
theorem O7 {C:Aw} {ao:BP} {env env':Env} (h:∀x∈ao.BQ,x.val env=x.val env'):Ah C ao env s=Ah C ao env' s:=by
 cases ao
 case build z ps=>simp only[Ah,Me (env:=env) (env':=env') (by simpa only[BP.BQ]using h)]
 case lit o es z n ps=>simp only[Ah,PL (env:=env) (env':=env') (by simpa only[BP.BQ]using h)]
 case slice es x lo hi=>
  have hx:=h x (by simp[BP.BQ])
  have hb:∀n,bounds env n lo hi=bounds env' n lo hi:=fun n=>MF fun y hy=>h y (by simp only[BP.BQ,List.mem_cons];exact .inr hy)
  simp only[Ah,hx,hb]
 case Jz x lo hi=>
  have hx:=h x (by simp[BP.BQ])
  have hb:∀n,bounds env n lo hi=bounds env' n lo hi:=fun n=>MF fun y hy=>h y (by simp only[BP.BQ,List.mem_cons];exact .inr hy)
  simp only[Ah,hx,hb]
 case Yd f xs=>simp only[Ah,Jg (env:=env) (env':=env') (by simpa only[BP.BQ]using h)]
 case call m f xs=>simp only[Ah,Jg (env:=env) (env':=env') (by simpa only[BP.BQ]using h)]
 case F9 m x xs=>
  have hx:=h x (by simp[BP.BQ])
  simp only[Ah,hx,Jg (env:=env) (env':=env') fun y hy=>h y (by simp only[BP.BQ,List.mem_cons];exact .inr hy)]
 all_goals
  simp only[BP.BQ,List.mem_cons,List.not_mem_nil,or_false,forall_eq_or_imp,forall_eq]at h
  simp only[Ah,h]
theorem IY {env env':Env} {x:AO} (h:∀t∈x.slots,env.get t=env'.get t):x.val env=x.val env':=by
 cases x with
 |tmp t=>exact h t (by simp[AO.slots])
 |cst v=>rfl
theorem IW {env env':Env} {g:Option (Nat×Bool)} (h:∀t b,g=some (t,b)→env.get t=env'.get t):wanted g env=wanted g env':=by
 cases g with
 |none=>rfl
 |some p=>obtain⟨t,b⟩:=p;simp only[wanted,h t b rfl]
structure O6 (ops:Array Oper) (BQ:List AL) (m:Nat):Prop where
 fwd:∀(j:Nat) (o:Oper),ops[j]?=some o→∀e∈o.after,Region.binds .any e=true→e.on<j
 tmp:∀(j:Nat) (ao:AL),BQ[j]?=some ao→j<ops.size→∀(i:Nat) (oi:Oper) (t:Nat),i≠j→ops[i]?=some oi→oi.dst=some t→t∈slotsOf ao→if i<j then((Region.before ops).getD j 0).testBit i=true else((Region.before ops).getD i 0).testBit j=true
 tail:∀j,j<ops.size→m≤j→∀i,i<j→((Region.before ops).getD j 0).testBit i=true
theorem NP {ops:Array Oper} {BQ:List AL} {m:Nat} (h:RN ops BQ m=true):O6 ops BQ m:=by
 unfold RN at h
 simp only[List.all_eq_true,List.mem_range]at h
 refine⟨fun j o ho e he hb=>?_,fun j ao hao hj i oi t hij hoi hd ht=>?_,fun j hj hm i hi=>?_⟩
 ·have hj:=(Array.getElem?_eq_some_iff.1 ho).1
  have:=h j hj
  rw[ho]at this
  cases hao:BQ[j]? with
  |none=>simp[hao]at this
  |some ao=>
   simp only[hao,Bool.and_eq_true,List.all_eq_true]at this
   have:=this.1.1 e (by simpa using he)
   simp only[hb,Bool.not_true,Bool.false_or,decide_eq_true_eq]at this
   exact this
 ·have ho:ops[j]?=some ops[j]:=Array.getElem?_eq_getElem hj
  have:=h j hj
  rw[ho,hao]at this
  simp only[Bool.and_eq_true,List.all_eq_true,List.mem_range]at this
  have:=this.1.2 i (Array.getElem?_eq_some_iff.1 hoi).1
  simp only[Bool.or_eq_true,beq_iff_eq,hij,false_or,hoi,Option.bind_some,hd,Bool.not_eq_true',List.contains_eq_mem,decide_eq_false_iff_not,ht,not_true_eq_false]at this
  split
  ·rename_i hlt;rw[if_pos hlt]at this;exact this
  ·rename_i hlt;rw[if_neg hlt]at this;exact this
 ·have ho:ops[j]?=some ops[j]:=Array.getElem?_eq_getElem hj
  have:=h j hj
  rw[ho]at this
  cases hao:BQ[j]? with
  |none=>simp[hao]at this
  |some ao=>
   simp only[hao,Bool.and_eq_true,Bool.or_eq_true,decide_eq_true_eq,List.all_eq_true,List.mem_range]at this
   rcases this.2 with h1|h1
   ·omega
   ·exact h1 i hi
theorem KR {C:Aw} (hC:Ba P C) {ops:Array Oper} {n:Nat} {an:List (Nat×GZ)} {BQ:List AL} (hcomp:Dc P ops n an ops.toList 0=some BQ) {m:Nat} (hok:O6 ops BQ m) {Q:Exit→Act→World→Prop} {e:Ak} {env':Env} {s':Ag}:
 ∀(fuel j:Nat) (listed:Array Bool) (env:Env) (s:Ag) (a:Act) (w:World) (Z:BL) (φ:Es),m≤j→j≤ops.size→ops.size≤j+fuel→listed.size=ops.size→(∀ i,i<ops.size→(BF listed i=true↔i<j))→Dn C (BQ.drop j) env s=some (e,env',s')→Inv w0 B s Z φ w→AB w Z φ s.ctr env a.tmps→a.tmps.size=n→Post w0 B w Z φ s.ctr n a.defers e env' s' Q→
  wpAny P .any ops Q fuel listed a w:=by
 obtain⟨hlen,hget⟩:=EX hcomp
 have hlen':BQ.length=ops.size:=by simpa using hlen
 intro fuel
 induction fuel with
 |zero=>
  intro j listed env s a w Z φ hm hj hf hsz hL hev hI hE hn hp
  have hje:j=ops.size:=by omega
  subst hje
  have:BQ.drop ops.size=[]:=by rw[List.drop_eq_nil_iff];omega
  rw[this]at hev
  simp only[Dn,Option.some.injEq,Prod.mk.injEq]at hev
  obtain⟨rfl,rfl,rfl⟩:=hev
  refine⟨?_,hp .normal a w Z φ rfl hn rfl hI hE (Later.refl _ _ _ _ _)⟩
  rw[List.eq_nil_iff_forall_not_mem]
  intro i hi
  obtain⟨o,ho,hl,_⟩:=(Dt hsz).1 hi
  have hlt:=(Array.getElem?_eq_some_iff.1 ho).1
  rw[(hL i hlt).2 hlt]at hl;cases hl
 |succ fuel ih=>
  intro j listed env s a w Z φ hm hj hf hsz hL hev hI hE hn hp
  by_cases hje:j=ops.size
  ·subst hje
   have:BQ.drop ops.size=[]:=by rw[List.drop_eq_nil_iff];omega
   rw[this]at hev
   simp only[Dn,Option.some.injEq,Prod.mk.injEq]at hev
   obtain⟨rfl,rfl,rfl⟩:=hev
   refine⟨fun _=>hp .normal a w Z φ rfl hn rfl hI hE (Later.refl _ _ _ _ _),fun i hi=>?_⟩
   obtain⟨o,ho,hl,_⟩:=(Dt hsz).1 hi
   have hlt:=(Array.getElem?_eq_some_iff.1 ho).1
   rw[(hL i hlt).2 hlt]at hl;cases hl
  ·have hjlt:j<ops.size:=by omega
   have hoj:ops[j]?=some ops[j]:=Array.getElem?_eq_getElem hjlt
   refine⟨fun hr=>?_,fun i hi=>?_⟩
   ·exfalso
    have:j∈Region.ready .any ops listed:=by
     refine(Dt hsz).2 ⟨_,hoj,?_,fun e' he' hb=>?_⟩
     ·cases hl:BF listed j
      ·rfl
      ·have:=(hL j hjlt).1 hl;omega
     ·have:=hok.fwd j _ hoj e' he' hb
      exact(hL _ (by omega)).2 this
    rw[hr]at this
    cases this
   ·obtain⟨o,ho,hl,Qv⟩:=(Dt hsz).1 hi
    have hilt:=(Array.getElem?_eq_some_iff.1 ho).1
    have hcl:Closed ops (BF listed):=by
     intro k ok hk hlk e' he' hb
     have hkl:=(hL k (Array.getElem?_eq_some_iff.1 hk).1).1 hlk
     have:=hok.fwd k ok hk e' he' hb
     exact(hL _ (by omega)).2 (by omega)
    have hij:i=j:=by
     have hge:¬i<j:=fun h=>by rw[(hL i hilt).2 h]at hl;cases hl
     rcases Nat.lt_or_ge j i with h|h
     ·exfalso
      have hb:=hok.tail i hilt (by omega) j h
      have:=Ee hok.fwd hcl i o ho Qv hb
      have:=(hL j hjlt).1 this
      omega
     ·omega
    subst hij
    rw[hoj]at ho
    cases ho
    obtain⟨ao,hao,h1,h2,h3,h4⟩:=hget i _ (by rw[Array.getElem?_toList];exact hoj)
    have hdrop:BQ.drop i=ao::BQ.drop (i+1):=by
     rw[List.drop_eq_getElem_cons (by omega)]
     congr 1
     exact(List.getElem?_eq_some_iff.1 hao).2
    rw[hdrop]at hev
    simp only[Dn]at hev
    have hsz':(listed.setIfInBounds i true).size=ops.size:=by simpa using hsz
    have hL':∀k,k<ops.size→(BF (listed.setIfInBounds i true) k=true↔k<i+1):=by
     intro k hk
     rw[Oz (by omega)]
     by_cases he:k=i
     ·subst he;simp
     ·rw[if_neg he,hL k hk];omega
    refine ER hC hoj h1 h2 h3 h4 hI hE hn ?_
    split at hev
    ·cases hev
    ·rename_i hw
     exact .inl ⟨hw,fun a' z1 z2 z3=>ih (i+1) _ _ s a' w Z φ (by omega) (by omega) (by omega) hsz' hL' hev hI z3 z1 (z2▸hp)⟩
    ·rename_i hw
     refine .inr ⟨hw,?_⟩
     split at hev
     ·rename_i v s1 hop
      refine⟨.ok v,s1,hop,fun v' hv a' x w' Z' φ' ha' hr hI' hE' JD=>?_,(fun v' hv=>by cases hv)⟩
      cases hv
      subst ha'
      obtain⟨z1,z2⟩:=size_put a ops[i].dst x
      exact ih (i+1) _ _ s1 _ w' Z' φ' (by omega) (by omega) (by omega) hsz' hL' hev hI' hE' (z1.trans hn) (by rw[z2];exact hp.later JD)
     ·rename_i v s1 hop
      simp only[Option.some.injEq,Prod.mk.injEq]at hev
      obtain⟨rfl,rfl,rfl⟩:=hev
      refine⟨.D9 v,s1,hop,(fun v' hv=>by cases hv),fun v' hv=>?_⟩
      cases hv
      exact hp
     ·cases hev
theorem G9 {L L':Nat→Bool}:∀(vs:List (Option Nat×AV)) (i:Nat) (env:Env),(∀ k,k<vs.length→L (i+k)=L' (i+k))→Bg L vs i env=Bg L' vs i env
 |[],i,env,_=>rfl
 |(d,v)::vs,i,env,h=>by
  have h0:=h 0 (by simp)
  simp only[Nat.add_zero]at h0
  simp only[Bg,h0]
  exact G9 vs (i+1) _ fun k hk=>by rw[show i+1+k=i+(k+1) by omega];exact h (k+1) (by simp;omega)
theorem Vk {C:Aw} (hC:Ba P C) {ops:Array Oper} {n:Nat} {an:List (Nat×GZ)} {BQ:List AL} (hcomp:Dc P ops n an ops.toList 0=some BQ) {m:Nat} (hok:O6 ops BQ m) (hm:m≤ops.size) (hpure:EI m BQ=true) {Q:Exit→Act→World→Prop}
 {e:Ak} {env env':Env} {s s':Ag} {vs:List (Option Nat×AV)} (htr:trace C s (BQ.take m) env=some vs) (hev:Dn C (BQ.drop m) (Bg (fun _=>true) vs 0 env) s=some (e,env',s')):
 ∀(fuel:Nat) (listed:Array Bool) (a:Act) (w:World) (Z:BL) (φ:Es),ops.size≤cnt (BF listed) ops.size+fuel→listed.size=ops.size→Closed ops (BF listed)→(∀ i,BF listed i=true→i<m)→Inv w0 B s Z φ w→AB w Z φ s.ctr (Bg (BF listed) vs 0 env) a.tmps→a.tmps.size=n→Post w0 B w Z φ s.ctr n a.defers e env' s' Q→
  wpAny P .any ops Q fuel listed a w:=by
 obtain⟨hlen,hget⟩:=EX hcomp
 have hlen':BQ.length=ops.size:=by simpa using hlen
 obtain⟨hvl,hvs⟩:=Rf htr
 have Xt:vs.length=m:=by rw[hvl];simp;omega
 intro fuel
 induction fuel with
 |zero=>
  intro listed a w Z φ hf hsz hcl Ua hI hE hn hp
  have hfull:=LM (L:=BF listed) (n:=ops.size) (by have:=cnt_le (BF listed) ops.size;omega)
  have hmE:m=ops.size:=by
   rcases Nat.lt_or_ge m ops.size with h|h
   ·have:=Ua m (hfull m h);omega
   ·omega
  have hE':AB w Z φ s.ctr (Bg (fun _=>true) vs 0 env) a.tmps:=by
   rw[G9 (L':=BF listed) vs 0 env fun k hk=>by rw[Nat.zero_add,hfull k (by omega)]]
   exact hE
  exact KR hC hcomp hok 0 m listed _ s a w Z φ (Nat.le_refl _) hm (by omega) hsz (fun i hi=>⟨fun _=>by omega,fun _=>hfull i hi⟩) hev hI hE' hn hp
 |succ fuel ih=>
  intro listed a w Z φ hf hsz hcl Ua hI hE hn hp
  by_cases hall:∀i,i<m→BF listed i=true
  ·have hE':AB w Z φ s.ctr (Bg (fun _=>true) vs 0 env) a.tmps:=by
        rw[G9 (L':=BF listed) vs 0 env fun k hk=>by rw[Nat.zero_add,hall k (by omega)]]
        exact hE
   have hL:∀i,i<ops.size→(BF listed i=true↔i<m):=fun i _=>⟨Ua i,hall i⟩
   have hc:cnt (BF listed) ops.size≤m:=by
        have:∀k,cnt (BF listed) k≤m:=by
         intro k
         have:∀k,k≤m→cnt (BF listed) k≤k:=fun k _=>cnt_le _ k
         induction k with
         |zero=>simp[cnt]
         |succ k ihk=>
          by_cases hk:k<m
          ·exact Nat.le_trans (cnt_le _ _) hk
          ·have:BF listed k=false:=by
            cases h:BF listed k
            ·rfl
            ·exact absurd (Ua k h) hk
           simp only[cnt,this,Bool.false_eq_true,if_false,Nat.add_zero]
           exact ihk
        exact this _
   exact KR hC hcomp hok (fuel+1) m listed _ s a w Z φ (Nat.le_refl _) hm (by omega) hsz hL hev hI hE' hn hp
  ·
   have Vg:∃j,j<m∧BF listed j=false∧∀i,i<j→BF listed i=true:=by
        have:∃j,j<m∧BF listed j=false:=by
         rcases Classical.em (∃ j,j<m∧BF listed j=false)with h|h
         ·exact h
         ·exfalso
          refine hall fun i hi=>?_
          cases hl:BF listed i
          ·exact(h ⟨i,hi,hl⟩).elim
          ·rfl
        obtain⟨j,hj,hlj⟩:=this
        induction j using Nat.strongRecOn with
        |_ j ihj=>
         rcases Classical.em (∃ i,i<j∧BF listed i=false)with⟨i,hi,hli⟩|h
         ·exact ihj i hi (by omega) hli
         ·refine⟨j,hj,hlj,fun i hi=>?_⟩
          cases hl:BF listed i
          ·exact(h ⟨i,hi,hl⟩).elim
          ·rfl
   obtain⟨j0,hj0,hl0,hbelow⟩:=Vg
   refine⟨fun hr=>?_,fun i hi=>?_⟩
   ·exfalso
    have hoj:ops[j0]?=some ops[j0]:=Array.getElem?_eq_getElem (by omega)
    have:j0∈Region.ready .any ops listed:=(Dt hsz).2 ⟨_,hoj,hl0,fun e' he' hb=>hbelow _ (hok.fwd j0 _ hoj e' he' hb)⟩
    rw[hr]at this
    cases this
   ·obtain⟨o,ho,hl,Qv⟩:=(Dt hsz).1 hi
    have hilt:=(Array.getElem?_eq_some_iff.1 ho).1
    have bit:∀k,((Region.before ops).getD i 0).testBit k=true→BF listed k=true:=fun k hb=>Ee hok.fwd hcl i o ho Qv hb
    have him:i<m:=by
     rcases Nat.lt_or_ge i m with h|h
     ·exact h
     ·exfalso
      have:=bit j0 (hok.tail i hilt h j0 (by omega))
      rw[hl0]at this;cases this
    obtain⟨ao,hao,h1,h2,h3,h4⟩:=hget i o (by simpa using ho)
    obtain⟨v,hv,hvw⟩:=hvs i ao (by rw[List.getElem?_take_of_lt him];exact hao)
    have hvw:=hvw 0
    simp only[Nat.zero_add]at hvw
    have same:∀t∈slotsOf ao,(Bg (BF listed) vs 0 env).get t=(Bg (fun q=>decide (q<i)) vs 0 env).get t:=by
     intro t ht
     rw[Du,Du]
     refine CP vs 0 _ fun k d u hk hd=>?_
     rw[Nat.zero_add]
     have hkm:k<m:=by rw[← Xt];exact(List.getElem?_eq_some_iff.1 hk).1
     have hok':ops[k]?=some ops[k]:=Array.getElem?_eq_getElem (by omega)
     obtain⟨aok,Yz,_,_,hdk,_⟩:=hget k _ (by rw[Array.getElem?_toList];exact hok')
     obtain⟨vk,hvk,_⟩:=hvs k aok (by rw[List.getElem?_take_of_lt hkm];exact Yz)
     rw[hk]at hvk
     simp only[Option.some.injEq,Prod.mk.injEq]at hvk
     have hdst:ops[k].dst=some t:=by rw[← hdk,←hvk.1,hd]
     by_cases hki:k=i
     ·subst hki;rw[hl];simp
     ·have:=hok.tmp i ao hao hilt k _ t hki hok' hdst ht
      split at this
      ·rename_i hlt
       rw[bit k this];simp[hlt]
      ·rename_i hlt
       have hnl:BF listed k=false:=by
           cases hq:BF listed k
           ·rfl
           ·have:=Ee hok.fwd hcl k _ hok' (fun e' he' hb=>hcl k _ hok' hq e' he' hb) this
            rw[hl]at this;cases this
       rw[hnl];simp[hlt]
    have hwc:wanted ao.guard (Bg (BF listed) vs 0 env)=wanted ao.guard (Bg (fun q=>decide (q<i)) vs 0 env):=IW fun t b hg=>same t (by simp[slotsOf,hg])
    have hec:Ah C ao.op (Bg (BF listed) vs 0 env) s=Ah C ao.op (Bg (fun q=>decide (q<i)) vs 0 env) s:=O7 fun x hx=>IY fun t ht=>same t (by simp only[slotsOf,List.mem_append,List.mem_flatMap];exact .inl (.inr ⟨x,hx,ht⟩))
    have hsz':(listed.setIfInBounds i true).size=ops.size:=by simpa using hsz
    have hset:∀k,BF (listed.setIfInBounds i true) k=if k=i then true else BF listed k:=Oz (by omega)
    have hcl':Closed ops (BF (listed.setIfInBounds i true)):=by
     intro k ok hk hlk e' he' hb
     rw[hset]at hlk ⊢
     by_cases hki:k=i
     ·subst hki
      rw[ho]at hk
      cases hk
      split
      ·rfl
      ·exact Qv e' he' hb
     ·rw[if_neg hki]at hlk
      split
      ·rfl
      ·exact hcl k ok hk hlk e' he' hb
    have RZ:∀k,BF (listed.setIfInBounds i true) k=true→k<m:=by
     intro k hk
     rw[hset]at hk
     split at hk
     ·omega
     ·exact Ua k hk
    have hcnt:ops.size≤cnt (BF (listed.setIfInBounds i true)) ops.size+fuel:=by
     rw[OA (i:=i) hl (by rw[hset];simp) (fun k hk=>by rw[hset,if_neg hk])]
     simp[hilt];omega
    have frame:∀t,(AI.put ao.dst v (Bg (BF listed) vs 0 env)).get t=(Bg (BF (listed.setIfInBounds i true)) vs 0 env).get t:=by
     intro t
     rw[get_put,Du,Du]
     by_cases hd:ao.dst=some t
     ·rw[if_pos hd]
      refine(J9 (j:=i) vs 0 _ (by rw[hv,hd]) (by rw[Nat.zero_add,hset];simp) fun k d u hk hdk hlt=>?_).symm
      rw[Nat.zero_add,hset,if_neg (by omega)]
      have hkm:k<m:=by rw[← Xt];exact(List.getElem?_eq_some_iff.1 hk).1
      have hok':ops[k]?=some ops[k]:=Array.getElem?_eq_getElem (by omega)
      obtain⟨aok,Yz,_,_,AcB,_⟩:=hget k _ (by rw[Array.getElem?_toList];exact hok')
      obtain⟨vk,hvk,_⟩:=hvs k aok (by rw[List.getElem?_take_of_lt hkm];exact Yz)
      rw[hk]at hvk
      simp only[Option.some.injEq,Prod.mk.injEq]at hvk
      have hdst:ops[k].dst=some t:=by rw[← AcB,←hvk.1,hdk]
      have:=hok.tmp i ao hao hilt k _ t (by omega) hok' hdst (by simp[slotsOf,hd])
      rw[if_neg (by omega)]at this
      cases hq:BF listed k
      ·rfl
      ·have:=Ee hok.fwd hcl k _ hok' (fun e' he' hb=>hcl k _ hok' hq e' he' hb) this
       rw[hl]at this;cases this
     ·rw[if_neg hd]
      refine CP vs 0 _ fun k d u hk hdk=>?_
      rw[Nat.zero_add,hset]
      by_cases hki:k=i
      ·subst hki
       rw[hv]at hk
       simp only[Option.some.injEq,Prod.mk.injEq]at hk
       exact absurd (hk.1.trans hdk) hd
      ·rw[if_neg hki]
    have Ue:∀{w':World} {Z':BL} {φ':Es} {a':Act},AB w' Z' φ' s.ctr (AI.put ao.dst v (Bg (BF listed) vs 0 env)) a'.tmps→AB w' Z' φ' s.ctr (Bg (BF (listed.setIfInBounds i true)) vs 0 env) a'.tmps:=by
     intro w' Z' φ' a' h t
     rw[← frame t]
     exact h t
    refine ER hC ho h1 h2 h3 h4 hI hE hn ?_
    rcases hvw with⟨hw,rfl⟩|⟨hw,s1,hop⟩
    ·exact .inl ⟨by rw[hwc];exact hw,fun a' z1 z2 z3=>ih _ a' w Z φ hcnt hsz' hcl' RZ hI (Ue z3) z1 (z2▸hp)⟩
    ·have hpo:ao.op.EF=true:=by
      have:=hpure
      unfold EI at this
      rw[List.all_eq_true]at this
      exact this ao (List.mem_of_getElem? (by rw[List.getElem?_take_of_lt him];exact hao))
     have hs1:=(FU hpo hop).1
     subst hs1
     refine .inr ⟨by rw[hwc];exact hw,.ok v,s1,by rw[hec];exact hop,fun v' hv' a' x w' Z' φ' ha' hr hI' hE' JD=>?_,(fun v' hv'=>by cases hv')⟩
     cases hv'
     subst ha'
     obtain⟨z1,z2⟩:=size_put a o.dst x
     exact ih _ _ w' Z' φ' hcnt hsz' hcl' RZ hI' (Ue hE') (z1.trans hn) (by rw[z2];exact hp.later JD)
end AI
end Go.Proofs.YthjeehjphekjmaaGreatDoor
