/- Soundness, fourteenth part: a region, in the order of the text and in whatever order is drawn. Soundness, fifteenth part: a region whose order is drawn. Soundness, sixteenth part: any order that is drawn; code; functions; the evaluator. -/
import Derived.Test.YtiimoiecghmebaaDoorFScE
namespace Go.Proofs.YtiimoiecghmebaaDoor
namespace AI
open Go.RowKit
variable {P:Program} {B:Nat} {w w' w0:World} {Z Z':Bh} {φ φ':D8} {ctr BX:Nat} {s s':Ag}
theorem get_put (d:Option Nat) (v:AV) (env:Env) (t:Nat):(put d v env).get t=if d=some t then v else env.get t:=by
 cases d with
 |none=>simp[put]
 |some d=>
  simp only[put,Env.get,Option.some.injEq]
  by_cases h:d=t
  ·subst h;simp
  ·have:Nat.beq d t=false:=by
        cases hb:Nat.beq d t
        ·rfl
        ·exact absurd (Nat.eq_of_beq_eq_true hb) h
   simp[this,h]
theorem Ir (a:Act) (d:Option Nat) (x:Value) (t:Nat) (h:∀k,d=some k→k<a.tmps.size):(a.put d x).tmps.getD t undef=if d=some t then x else a.tmps.getD t undef:=by
 cases d with
 |none=>simp[Act.put]
 |some d=>
  have hd:=h d rfl
  simp only[Act.put,Option.some.injEq]
  by_cases he:d=t
  ·subst he;simp[Array.getD_eq_getD_getElem?,hd]
  ·rw[if_neg he]
   simp[Array.getD_eq_getD_getElem?,Array.getElem?_setIfInBounds_ne he]
theorem size_put (a:Act) (d:Option Nat) (x:Value):(a.put d x).tmps.size=a.tmps.size∧(a.put d x).defers=a.defers:=by
 cases d<;>simp[Act.put]
theorem Ak.later {env:Env} {tmps:Array Value} (h:Ak w Z φ ctr env tmps) (hL:Later B w Z φ ctr w' Z' φ' BX):Ak w' Z' φ' BX env tmps:=fun t=>(h t).later hL
theorem Ak.put {env:Env} {a:Act} (h:Ak w Z φ ctr env a.tmps) {d:Option Nat} (hd:∀k,d=some k→k<a.tmps.size) {v:AV} {x:Value} (hr:Rep w Z φ ctr v x):Ak w Z φ ctr (AI.put d v env) (a.put d x).tmps:=by
 intro t
 rw[get_put,Ir a d x t hd]
 split
 ·exact hr
 ·exact h t
theorem UC {ops:Array Oper} {n:Nat} {o:Oper} {g:Option (Nat×Bool)} (hg:Ec ops n o.guard=some g) {env:Env} {a:Act} (hE:Ak w Z φ ctr env a.tmps) (hn:a.tmps.size=n) {b:Bool} (hw:AI.wanted g env=some b):
 Region.wanted o (yielded ops a.tmps)=b:=by
 unfold Ec at hg
 split at hg
 ·rename_i hgd
  simp only[Option.some.injEq]at hg
  subst hg
  simp only[AI.wanted,Option.some.injEq]at hw
  simp[Region.wanted,hgd,←hw]
 ·rename_i j want hgd
  split at hg
  ·rename_i t ht
   split at hg
   ·rename_i htn
    simp only[Option.some.injEq]at hg
    subst hg
    have hr:=hE t
    have hget:a.tmps[t]?=some (a.tmps.getD t undef):=by
     have hlt:t<a.tmps.size:=hn.symm▸htn
     simp[Array.getD_eq_getD_getElem?,Array.getElem?_eq_getElem hlt]
    simp only[AI.wanted]at hw
    split at hw
    ·rename_i b' hb'
     simp only[Option.some.injEq]at hw
     rw[hb']at hr
     generalize hq:a.tmps.getD t undef=q at hr hget
     cases hr
     simp[Region.wanted,hgd,yielded,ht,hget,←hw]
    ·rename_i hb'
     simp only[Option.some.injEq]at hw
     rw[hb']at hr
     generalize hq:a.tmps.getD t undef=q at hr hget
     cases hr
     simp[Region.wanted,hgd,yielded,ht,hget,undef,←hw]
    ·cases hw
   ·cases hg
  ·cases hg
def Aed (w:World) (Z:Bh) (φ:D8) (ctr:Nat):Az→Exit→Prop
 | .normal,e=>e=.normal
 | .exit id,e=>e=.exit id
 | .ret,e=>e=.ret
 | .Ee v,e=>∃x,e=.panic [{v:=x,recovered:=false}]∧Rep w Z φ ctr v x
def Post (w0:World) (B:Nat) (w:World) (Z:Bh) (φ:D8) (ctr:Nat) (n:Nat) (ds:List Deferred) (e:Az) (env':Env) (s':Ag) (Q:Exit→Act→World→Prop):Prop:=
 ∀e' a' w' Z' φ',Aed w' Z' φ' s'.ctr e e'→a'.tmps.size=n→a'.defers=ds→Inv w0 B s' Z' φ' w'→Ak w' Z' φ' s'.ctr env' a'.tmps→Later B w Z φ ctr w' Z' φ' s'.ctr→Q e' a' w'
theorem Post.later {n:Nat} {ds:List Deferred} {e:Az} {env':Env} {Q:Exit→Act→World→Prop} (h:Post w0 B w Z φ ctr n ds e env' s' Q) (hL:Later B w Z φ ctr w' Z' φ' BX):Post w0 B w' Z' φ' BX n ds e env' s' Q:=
 fun e' a' w'' WE Zr h1 h2 h3 h4 h5 h6=>h e' a' w'' WE Zr h1 h2 h3 h4 h5 (hL.trans h6)
theorem CU {ops:Array Oper} {n:Nat} {an:List (Nat×FZ)}:∀{os:List Oper} {i:Nat} {Bl:List Ap},Cc P ops n an os i=some Bl→Bl.length=os.length∧∀(k:Nat) (o:Oper),os[k]?=some o→∃ao,Bl[k]?=some ao∧Jd P o (Ru an (i+k))=some ao.op∧Ec ops n o.guard=some ao.guard∧ao.dst=o.dst∧(∀ d,o.dst=some d→d<n)
 |[],i,Bl,h=>by
  simp only[Cc,Option.some.injEq]at h
  subst h
  exact⟨rfl,fun k o hk=>by simp at hk⟩
 |o::os,i,Bl,h=>by
  simp only[Cc]at h
  split at h
  ·rename_i ao g r h1 h2 h3
   split at h
   ·rename_i hd
    simp only[Option.some.injEq]at h
    subst h
    obtain⟨hl,hr⟩:=CU h3
    refine⟨by simp[hl],fun k o' hk=>?_⟩
    cases k with
    |zero=>
     simp only[List.getElem?_cons_zero,Option.some.injEq]at hk
     subst hk
     refine⟨_,rfl,h1,h2,rfl,fun d hd'=>?_⟩
     rw[hd']at hd
     simpa[Zz]using hd
    |succ k=>
     obtain⟨ao',q1,q2⟩:=hr k o' (by simpa using hk)
     exact⟨ao',by simpa using q1,by rw[show i+(k+1)=i+1+k by omega];exact q2⟩
   ·cases h
  ·cases h
theorem Fj {C:Aq} (hC:Ar P C) {ops:Array Oper} {n:Nat} {i:Nat} {o:Oper} (ho:ops[i]?=some o) {ann:Option FZ} {ao:Ap} (h1:Jd P o ann=some ao.op) (h2:Ec ops n o.guard=some ao.guard) (h3:ao.dst=o.dst) (h4:∀d,o.dst=some d→d<n)
 {a:Act} {env:Env} (hI:Inv w0 B s Z φ w) (hE:Ak w Z φ s.ctr env a.tmps) (hn:a.tmps.size=n) {K:Act→World→Prop} {Q:Exit→Act→World→Prop}
 (h:(AI.wanted ao.guard env=some false∧∀a',a'.tmps.size=n→a'.defers=a.defers→Ak w Z φ s.ctr (AI.put ao.dst .undef env) a'.tmps→K a' w)∨
   (AI.wanted ao.guard env=some true∧∃out s',Ae C ao.op env s=some (out,s')∧
        (∀ v,out=.ok v→∀a' x w' Z' φ',a'=a.put o.dst x→Rep w' Z' φ' s'.ctr v x→Inv w0 B s' Z' φ' w'→Ak w' Z' φ' s'.ctr (AI.put ao.dst v env) a'.tmps→Later B w Z φ s.ctr w' Z' φ' s'.ctr→K a' w')∧
        (∀ v,out=.Ee v→Post w0 B w Z φ s.ctr n a.defers (.Ee v) env s' Q))):
 wpOp P ops Q i K a w:=by
 unfold wpOp
 rw[ho]
 have hd:∀k,o.dst=some k→k<a.tmps.size:=fun k hk=>by rw[hn];exact h4 k hk
 rcases h with⟨hw,hK⟩|⟨hw,out,s',hev,hok,YA⟩
 ·have:=UC h2 hE hn hw
  simp only[this,Bool.false_eq_true,if_false]
  obtain⟨z1,z2⟩:=size_put a o.dst undef
  exact hK _ (by rw[z1,hn]) z2 (by rw[h3];exact hE.put hd .undef)
 ·have:=UC h2 hE hn hw
  simp only[this,if_true]
  refine .inl (Ab5 hC h1 hI hE hev (fun v hv x w' Z' φ' k1 k2 k3=>?_) (fun v hv x w' Z' φ' k1 k2 k3=>?_))
  ·exact hok v hv _ x w' Z' φ' rfl k2 k1 (by rw[h3];exact(hE.later k3).put hd k2) k3
  ·exact YA v hv _ a w' Z' φ' ⟨x,rfl,k2⟩ hn rfl k1 (hE.later k3) k3
theorem PD {C:Aq} (hC:Ar P C) {ops:Array Oper} {n:Nat} {an:List (Nat×FZ)} {Q:Exit→Act→World→Prop}:∀(os:List Oper) (i:Nat) (Bl:List Ap) (env:Env) (s:Ag) (a:Act) (w:World) (Z:Bh) (φ:D8) (e:Az) (env':Env) (s':Ag),
 (∀ k,os[k]?=ops[i+k]?)→Cc P ops n an os i=some Bl→CX C Bl env s=some (e,env',s')→Inv w0 B s Z φ w→Ak w Z φ s.ctr env a.tmps→a.tmps.size=n→Post w0 B w Z φ s.ctr n a.defers e env' s' Q→wpOps P ops Q (List.range' i os.length) a w
 |[],i,Bl,env,s,a,w,Z,φ,e,env',s',hos,hc,hev,hI,hE,hn,hp=>by
  simp only[Cc,Option.some.injEq]at hc
  subst hc
  simp only[CX,Option.some.injEq,Prod.mk.injEq]at hev
  obtain⟨rfl,rfl,rfl⟩:=hev
  exact hp .normal a w Z φ rfl hn rfl hI hE (Later.refl _ _ _ _ _)
 |o::os,i,Bl,env,s,a,w,Z,φ,e,env',s',hos,hc,hev,hI,hE,hn,hp=>by
  have ho:ops[i]?=some o:=by have:=hos 0;simpa using this.symm
  have Ab6:∀k,os[k]?=ops[i+1+k]?:=fun k=>by
   have:=hos (k+1)
   rw[show i+1+k=i+(k+1) by omega]
   simpa using this
  simp only[Cc]at hc
  split at hc
  ·rename_i ao g r h1 h2 h3
   split at hc
   ·rename_i hd
    simp only[Option.some.injEq]at hc
    subst hc
    have h4:∀d,o.dst=some d→d<n:=fun d hd'=>by rw[hd']at hd;simpa[Zz]using hd
    rw[List.length_cons,List.range'_succ,wpOps_cons]
    simp only[CX]at hev
    refine Fj hC ho (ao:=⟨o.dst,ao,g⟩) h1 h2 rfl h4 hI hE hn ?_
    split at hev
    ·cases hev
    ·rename_i hw
     exact .inl ⟨hw,fun a' z1 z2 z3=>PD hC os (i+1) r _ s a' w Z φ e env' s' Ab6 h3 hev hI z3 z1 (z2▸hp)⟩
    ·rename_i hw
     refine .inr ⟨hw,?_⟩
     split at hev
     ·rename_i v s1 hop
      refine⟨.ok v,s1,hop,fun v' hv a' x w' Z' φ' ha' hr hI' hE' hL=>?_,(fun v' hv=>by cases hv)⟩
      cases hv
      subst ha'
      obtain⟨z1,z2⟩:=size_put a o.dst x
      exact PD hC os (i+1) r _ s1 _ w' Z' φ' e env' s' Ab6 h3 hev hI' hE' (z1.trans hn) (by rw[z2];exact hp.later hL)
     ·rename_i v s1 hop
      simp only[Option.some.injEq,Prod.mk.injEq]at hev
      obtain⟨rfl,rfl,rfl⟩:=hev
      refine⟨.Ee v,s1,hop,(fun v' hv=>by cases hv),fun v' hv=>?_⟩
      cases hv
      exact hp
     ·cases hev
   ·cases hc
  ·cases hc
end AI
end Go.Proofs.YtiimoiecghmebaaDoor
namespace Go.Proofs.YtiimoiecghmebaaDoor
namespace AI
open Go.RowKit
variable {P:Program} {B:Nat} {w w' w0:World} {Z Z':Bh} {φ φ':D8} {ctr BX:Nat} {s s':Ag}
def E8 (acc:Array Nat) (o:Oper):Nat:=o.after.foldl (fun s e=>if Region.binds .any e then s ||| 2 ^ e.on ||| acc.getD e.on 0 else s) 0
theorem YB (ops:Array Oper):Region.before ops=ops.foldl (init:=#[]) fun acc o=>acc.push (E8 acc o):=rfl
theorem fold_push:∀(l:List Oper) (acc:Array Nat),(∀ k,k<acc.size→(l.foldl (fun acc o=>acc.push (E8 acc o)) acc)[k]?=acc[k]?)∧
 ∀(k:Nat) (o:Oper),l[k]?=some o→∃A:Array Nat,(l.foldl (fun acc o=>acc.push (E8 acc o)) acc)[acc.size+k]?=some (E8 A o)∧A.size=acc.size+k∧∀q,q<A.size→A[q]?=(l.foldl (fun acc o=>acc.push (E8 acc o)) acc)[q]?
 |[],acc=>⟨fun _ _=>rfl,fun k o h=>by simp at h⟩
 |o::l,acc=>by
  obtain⟨h1,h2⟩:=fold_push l (acc.push (E8 acc o))
  simp only[List.foldl_cons]
  have hlow:∀k,k<acc.size→(l.foldl (fun acc o=>acc.push (E8 acc o)) (acc.push (E8 acc o)))[k]?=acc[k]?:=by
   intro k hk
   rw[h1 k (by simp;omega),Array.getElem?_push_lt hk]
   simp[hk]
  refine⟨hlow,fun k o' hk=>?_⟩
  cases k with
  |zero=>
   simp only[List.getElem?_cons_zero,Option.some.injEq]at hk
   subst hk
   refine⟨acc,?_,rfl,fun q hq=>(hlow q hq).symm⟩
   rw[Nat.add_zero,h1 _ (by simp)]
   simp
  |succ k=>
   obtain⟨A,a1,a2,a3⟩:=h2 k o' (by simpa using hk)
   refine⟨A,?_,?_,a3⟩
   ·simp only[Array.size_push]at a1
    rw[show acc.size+(k+1)=acc.size+1+k by omega];exact a1
   ·simp only[Array.size_push]at a2;omega
theorem UD (acc:Array Nat) (i:Nat):∀(es:List Edge) (n:Nat),(es.foldl (fun s e=>if Region.binds .any e then s ||| 2 ^ e.on ||| acc.getD e.on 0 else s) n).testBit i=true→
 n.testBit i=true∨∃e∈es,Region.binds .any e=true∧(e.on=i∨(acc.getD e.on 0).testBit i=true)
 |[],n,h=>.inl h
 |e::es,n,h=>by
  simp only[List.foldl_cons]at h
  rcases UD acc i es _ h with h1|⟨e',he',hb⟩
  ·by_cases hb:Region.binds .any e=true
   ·simp only[hb,if_true,Nat.testBit_or,Bool.or_eq_true,Nat.testBit_two_pow,decide_eq_true_eq]at h1
    rcases h1 with(h1|h1)|h1
    ·exact .inl h1
    ·exact .inr ⟨e,by simp,hb,.inl h1⟩
    ·exact .inr ⟨e,by simp,hb,.inr h1⟩
   ·simp only[hb]at h1
    exact .inl h1
  ·exact .inr ⟨e',by simp[he'],hb⟩
theorem YC {ops:Array Oper} (Aee:∀(j:Nat) (o:Oper),ops[j]?=some o→∀e∈o.after,Region.binds .any e=true→e.on<j) {j:Nat} {o:Oper} (ho:ops[j]?=some o) {i:Nat} (h:((Region.before ops).getD j 0).testBit i=true):
 ∃e∈o.after,Region.binds .any e=true∧(e.on=i∨((Region.before ops).getD e.on 0).testBit i=true):=by
 rw[YB,←Array.foldl_toList]at h ⊢
 obtain⟨_,h2⟩:=fold_push ops.toList #[]
 obtain⟨A,a1,a2,a3⟩:=h2 j o (by simpa using ho)
 simp only[List.size_toArray,List.length_nil,Nat.zero_add]at a1 a2
 have e1:(ops.toList.foldl (fun acc o=>acc.push (E8 acc o)) #[]).getD j 0=E8 A o:=by
  simp only[Array.getD_eq_getD_getElem?]
  rw[a1];rfl
 rw[e1]at h
 unfold E8 at h
 rw[← Array.foldl_toList]at h
 rcases UD A i _ _ h with h0|⟨e,he,hb,hor⟩
 ·simp at h0
 ·have he':e∈o.after:=by simpa using he
  have hlt:=Aee j o ho e he' hb
  refine⟨e,he',hb,hor.imp id fun hh=>?_⟩
  have:A.getD e.on 0=(ops.toList.foldl (fun acc o=>acc.push (E8 acc o)) #[]).getD e.on 0:=by
   simp only[Array.getD_eq_getD_getElem?]
   rw[a3 e.on (by omega)]
  rw[← this];exact hh
def AU (listed:Array Bool) (i:Nat):Bool:=listed.getD i false
def Closed (ops:Array Oper) (L:Nat→Bool):Prop:=∀(j:Nat) (o:Oper),ops[j]?=some o→L j=true→∀e∈o.after,Region.binds .any e=true→L e.on=true
theorem BU {ops:Array Oper} (Aee:∀(j:Nat) (o:Oper),ops[j]?=some o→∀e∈o.after,Region.binds .any e=true→e.on<j) {L:Nat→Bool} (hL:Closed ops L) {i:Nat}:
 ∀(j:Nat) (o:Oper),ops[j]?=some o→(∀ e∈o.after,Region.binds .any e=true→L e.on=true)→((Region.before ops).getD j 0).testBit i=true→L i=true:=by
 intro j
 induction j using Nat.strongRecOn with
 |_ j ih=>
  intro o ho hd hb
  obtain⟨e,he,hbe,hor⟩:=YC Aee ho hb
  have hle:=hd e he hbe
  rcases hor with rfl|hb'
  ·exact hle
  ·have hlt:=Aee j o ho e he hbe
   have hj:j<ops.size:=(Array.getElem?_eq_some_iff.1 ho).1
   have ho':ops[e.on]?=some ops[e.on]:=Array.getElem?_eq_getElem (by omega)
   exact ih e.on hlt _ ho' (fun e' he' hb'=>hL e.on _ ho' hle e' he' hb') hb'
def cnt (L:Nat→Bool):Nat→Nat
 |0=>0
 |n+1=>cnt L n+(if L n then 1 else 0)
theorem cnt_le (L:Nat→Bool):∀n,cnt L n≤n
 |0=>Nat.le_refl _
 |n+1=>by have:=cnt_le L n;simp only[cnt];split<;>omega
theorem N8 {L:Nat→Bool}:∀{n:Nat},cnt L n=n→∀i,i<n→L i=true
 |0,_,i,h=>by omega
 |n+1,h,i,hi=>by
  have hle:=cnt_le L n
  simp only[cnt]at h
  split at h
  ·rename_i hl
   by_cases he:i=n
   ·subst he;exact hl
   ·exact N8 (n:=n) (by omega) i (by omega)
  ·omega
theorem N9 {L L':Nat→Bool} {i:Nat} (h0:L i=false) (h1:L' i=true) (h:∀k,k≠i→L' k=L k):∀n,cnt L' n=cnt L n+(if i<n then 1 else 0)
 |0=>by simp[cnt]
 |n+1=>by
  have ih:=N9 h0 h1 h n
  simp only[cnt,ih]
  by_cases he:n=i
  ·subst he;simp[h0,h1]
  ·rw[h n he]
   by_cases hlt:i<n
   ·simp[hlt,Nat.lt_succ_of_lt hlt];omega
   ·simp[hlt,show¬i<n+1 by omega]
theorem Hu {listed:Array Bool} {i:Nat} (hi:i<listed.size) (k:Nat):AU (listed.setIfInBounds i true) k=if k=i then true else AU listed k:=by
 unfold AU
 by_cases h:k=i
 ·subst h;simp[Array.getD_eq_getD_getElem?,hi]
 ·rw[if_neg h]
  simp[Array.getD_eq_getD_getElem?,Array.getElem?_setIfInBounds_ne (Ne.symm h)]
theorem CG {ops:Array Oper} {listed:Array Bool} (hsz:listed.size=ops.size) {j:Nat}:j∈Region.ready .any ops listed↔∃o,ops[j]?=some o∧AU listed j=false∧∀e∈o.after,Region.binds .any e=true→AU listed e.on=true:=by
 unfold Region.ready
 simp only[List.mem_filter,List.mem_range,Bool.and_eq_true,Bool.not_eq_true']
 constructor
 ·rintro⟨hj,hl,ho⟩
  have hoj:ops[j]?=some ops[j]:=Array.getElem?_eq_getElem hj
  refine⟨_,hoj,?_,fun e he hb=>?_⟩
  ·have:j<listed.size:=by omega
   simp only[Array.getD_eq_getD_getElem?,Array.getElem?_eq_getElem this,Option.getD_some]at hl
   simp[AU,Array.getD_eq_getD_getElem?,Array.getElem?_eq_getElem this,hl]
  ·rw[hoj]at ho
   simp only[Option.map_some,Option.getD_some,Array.all_eq_true_iff_forall_mem]at ho
   have:=ho e he
   simp only[hb,Bool.not_true,Bool.false_or]at this
   exact this
 ·rintro⟨o,ho,hl,he⟩
  have hj:j<ops.size:=(Array.getElem?_eq_some_iff.1 ho).1
  refine⟨hj,?_,?_⟩
  ·have:j<listed.size:=by omega
   simp only[AU,Array.getD_eq_getD_getElem?,Array.getElem?_eq_getElem this,Option.getD_some]at hl
   simp[Array.getD_eq_getD_getElem?,Array.getElem?_eq_getElem this,hl]
  ·rw[ho]
   simp only[Option.map_some,Option.getD_some,Array.all_eq_true_iff_forall_mem]
   intro e hem
   by_cases hb:Region.binds .any e=true
   ·have:=he e hem hb
    simp only[AU]at this
    simp[this]
   ·simp[hb]
def AX (L:Nat→Bool):List (Option Nat×AV)→Nat→Env→Env
 |[],_,env=>env
 |(d,v)::vs,i,env=>AX L vs (i+1) (if L i then put d v env else env)
def Jk {α:Type} (L:Nat→Bool) (t:Nat):List (Option Nat×α)→Nat→α→α
 |[],_,x=>x
 |(d,v)::vs,i,x=>Jk L t vs (i+1) (if L i=true∧d=some t then v else x)
theorem CV (L:Nat→Bool) (t:Nat):∀(vs:List (Option Nat×AV)) (i:Nat) (env:Env),(AX L vs i env).get t=Jk L t vs i (env.get t)
 |[],i,env=>rfl
 |(d,v)::vs,i,env=>by
  simp only[AX,Jk]
  rw[CV L t vs (i+1)]
  congr 1
  by_cases hL:L i=true
  ·simp only[hL,if_true,true_and,get_put]
  ·simp[hL]
theorem BZ {α:Type} {L L':Nat→Bool} {t:Nat}:∀(vs:List (Option Nat×α)) (i:Nat) (x:α),(∀ k d v,vs[k]?=some (d,v)→d=some t→L (i+k)=L' (i+k))→Jk L t vs i x=Jk L' t vs i x
 |[],i,x,_=>rfl
 |(d,v)::vs,i,x,h=>by
  simp only[Jk]
  have h0:=h 0 d v rfl
  simp only[Nat.add_zero]at h0
  have e:(if L i=true∧d=some t then v else x)=(if L' i=true∧d=some t then v else x):=by
   by_cases hd:d=some t
   ·rw[h0 hd]
   ·simp[hd]
  rw[e]
  refine BZ vs (i+1) _ fun k d' v' hk hd=>?_
  rw[show i+1+k=i+(k+1) by omega]
  exact h (k+1) d' v' (by simpa using hk) hd
theorem Jl {α:Type} {L:Nat→Bool} {t j:Nat} {v:α}:∀(vs:List (Option Nat×α)) (i:Nat) (x:α),vs[j]?=some (some t,v)→L (i+j)=true→(∀ k d v',vs[k]?=some (d,v')→d=some t→j<k→L (i+k)=false)→Jk L t vs i x=v:=by
 induction j with
 |zero=>
  intro vs i x hj hL hno
  cases vs with
  |nil=>simp at hj
  |cons p vs=>
   simp only[List.getElem?_cons_zero,Option.some.injEq]at hj
   subst hj
   simp only[Nat.add_zero]at hL
   simp only[Jk,hL,and_self,if_true]
   have none:∀(vs:List (Option Nat×α)) (i:Nat) (x:α),(∀ k d v',vs[k]?=some (d,v')→d=some t→L (i+k)=false)→Jk L t vs i x=x:=by
        intro vs
        induction vs with
        |nil=>intro i x _;rfl
        |cons p vs ih=>
         intro i x h
         obtain⟨d,v'⟩:=p
         simp only[Jk]
         have h0:=h 0 d v' rfl
         simp only[Nat.add_zero]at h0
         rw[if_neg (by rintro⟨a,b⟩;rw[h0 b]at a;cases a)]
         exact ih (i+1) x fun k d v' hk hd=>by rw[show i+1+k=i+(k+1) by omega];exact h (k+1) d v' (by simpa using hk) hd
   exact none vs (i+1) v fun k d v' hk hd=>by rw[show i+1+k=i+(k+1) by omega];exact hno (k+1) d v' (by simpa using hk) hd (by omega)
 |succ j ih=>
  intro vs i x hj hL hno
  cases vs with
  |nil=>simp at hj
  |cons p vs=>
   obtain⟨d,v'⟩:=p
   simp only[Jk]
   exact ih vs (i+1) _ (by simpa using hj) (by rw[show i+1+j=i+(j+1) by omega];exact hL) fun k d v' hk hd hlt=>by
        rw[show i+1+k=i+(k+1) by omega]
        exact hno (k+1) d v' (by simpa using hk) hd (by omega)
theorem FH {L:Nat→Bool}:∀(vs:List (Option Nat×AV)) (i:Nat) (env:Env),(∀ k,k<vs.length→L (i+k)=false)→AX L vs i env=env
 |[],i,env,_=>rfl
 |(d,v)::vs,i,env,h=>by
  have h0:=h 0 (by simp)
  simp only[Nat.add_zero]at h0
  simp only[AX,h0,Bool.false_eq_true,if_false]
  exact FH vs (i+1) env fun k hk=>by rw[show i+1+k=i+(k+1) by omega];exact h (k+1) (by simp;omega)
def trace (C:Aq) (s:Ag):List Ap→Env→Option (List (Option Nat×AV))
 |[],_=>some []
 |o::os,env=>match wanted o.guard env with
  |some false=>(trace C s os (put o.dst .undef env)).map ((o.dst,.undef)::·)
  |some true=>match Ae C o.op env s with
   |some (.ok v,_)=>(trace C s os (put o.dst v env)).map ((o.dst,v)::·)
   |_=>none
  |none=>none
theorem Gq {C:Aq} {ao:BN} {env:Env} {out:AL} (hp:ao.EM=true) (hev:Ae C ao env s=some (out,s')):s'=s∧∃v,out=.ok v:=by
 have hpc:∀{m:Mode} {f:Nat} {args:List AV},(m==.pure||m==.borrow)=true→AZ C m f args s=some (out,s')→s'=s∧∃v,out=.ok v:=by
  intro m f args hm h
  cases m<;>simp at hm
  ·simp only[AZ]at h
   split at h
   ·simp only[Option.map_eq_some_iff,Prod.mk.injEq]at h
    obtain⟨r,_,h1,h2⟩:=h
    exact⟨h2.symm,r,h1.symm⟩
   ·cases h
  ·simp only[AZ]at h
   split at h
   ·split at h
    ·split at h
     ·simp only[Option.some.injEq,Prod.mk.injEq]at h
      exact⟨h.2.symm,_,h.1.symm⟩
     ·cases h
    ·cases h
   ·cases h
 cases ao<;>simp only[BN.EM,Bool.false_eq_true]at hp
 case call m f args=>exact hpc hp (by simpa only[Ae]using hev)
 case Gz m x args=>
  simp only[Ae]at hev
  split at hev
  ·exact hpc hp hev
  ·cases hev
 case lit own es z len parts=>
  simp only[Bool.not_eq_true']at hp
  subst hp
  simp only[Ae,Bool.false_eq_true,if_false]at hev
  (repeat' split at hev)<;>simp only[Option.some.injEq,Prod.mk.injEq,reduceCtorEq]at hev<;>exact⟨hev.2.symm,_,hev.1.symm⟩
 all_goals
  simp only[Ae,ok]at hev
  (repeat' split at hev)<;>first
    |(simp only[Option.some.injEq,Prod.mk.injEq]at hev;exact⟨hev.2.symm,_,hev.1.symm⟩)
    |(simp only[Option.map_eq_some_iff,Prod.mk.injEq]at hev;obtain⟨r,_,h1,h2⟩:=hev;exact⟨h2.symm,_,h1.symm⟩)
    |cases hev
theorem I4 {C:Aq}:∀{hd:List Ap} {tl:List Ap} {env:Env} {r:Az×Env×Ag},(hd.all fun o=>o.op.EM)=true→CX C (hd++tl) env s=some r→
 ∃vs,trace C s hd env=some vs∧∀i,CX C tl (AX (fun _=>true) vs i env) s=some r
 |[],tl,env,r,_,h=>⟨[],rfl,fun _=>h⟩
 |o::hd,tl,env,r,hp,h=>by
  simp only[List.all_cons,Bool.and_eq_true]at hp
  simp only[List.cons_append,CX]at h
  split at h
  ·cases h
  ·rename_i hw
   obtain⟨vs,h1,h2⟩:=I4 hp.2 h
   exact⟨(o.dst,.undef)::vs,by simp[trace,hw,h1],fun i=>by simp only[AX,if_true];exact h2 (i+1)⟩
  ·rename_i hw
   split at h
   ·rename_i v s1 hop
    rw[(Gq hp.1 hop).1]at h
    obtain⟨vs,h1,h2⟩:=I4 hp.2 h
    exact⟨(o.dst,v)::vs,by simp[trace,hw,hop,h1],fun i=>by simp only[AX,if_true];exact h2 (i+1)⟩
   ·rename_i v s1 hop
    obtain⟨_,v',hv'⟩:=Gq hp.1 hop
    cases hv'
   ·cases h
theorem UE {C:Aq}:∀{hd:List Ap} {env:Env} {vs:List (Option Nat×AV)},trace C s hd env=some vs→vs.length=hd.length∧∀(k:Nat) (o:Ap),hd[k]?=some o→∃v,vs[k]?=some (o.dst,v)∧
 ∀i,(wanted o.guard (AX (fun q=>decide (q<i+k)) vs i env)=some false∧v=.undef)∨(wanted o.guard (AX (fun q=>decide (q<i+k)) vs i env)=some true∧∃s',Ae C o.op (AX (fun q=>decide (q<i+k)) vs i env) s=some (.ok v,s'))
 |[],env,vs,h=>by
  simp only[trace,Option.some.injEq]at h
  subst h
  exact⟨rfl,fun k o hk=>by simp at hk⟩
 |o::hd,env,vs,h=>by
  have step:∀v vs',trace C s hd (put o.dst v env)=some vs'→vs=(o.dst,v)::vs'→((wanted o.guard env=some false∧v=.undef)∨(wanted o.guard env=some true∧∃s',Ae C o.op env s=some (.ok v,s')))→
        vs.length=(o::hd).length∧∀(k:Nat) (o':Ap),(o::hd)[k]?=some o'→∃v,vs[k]?=some (o'.dst,v)∧
  ∀i,(wanted o'.guard (AX (fun q=>decide (q<i+k)) vs i env)=some false∧v=.undef)∨(wanted o'.guard (AX (fun q=>decide (q<i+k)) vs i env)=some true∧∃s',Ae C o'.op (AX (fun q=>decide (q<i+k)) vs i env) s=some (.ok v,s')):=by
   intro v vs' ht hvs hor
   obtain⟨hl,hg⟩:=UE ht
   subst hvs
   refine⟨by simp[hl],fun k o' hk=>?_⟩
   cases k with
   |zero=>
    simp only[List.getElem?_cons_zero,Option.some.injEq]at hk
    subst hk
    refine⟨v,rfl,fun i=>?_⟩
    have:AX (fun q=>decide (q<i+0)) ((o.dst,v)::vs') i env=env:=FH _ i env fun k _=>by simp
    rw[this]
    exact hor
   |succ k=>
    obtain⟨v',q1,q2⟩:=hg k o' (by simpa using hk)
    refine⟨v',by simpa using q1,fun i=>?_⟩
    have:=q2 (i+1)
    have e:AX (fun q=>decide (q<i+(k+1))) ((o.dst,v)::vs') i env=AX (fun q=>decide (q<i+1+k)) vs' (i+1) (put o.dst v env):=by
      simp only[AX]
      rw[if_pos (by simp)]
      congr 1
      funext q
      rw[show i+(k+1)=i+1+k by omega]
    rw[e]
    exact this
  simp only[trace]at h
  split at h
  ·rename_i hw
   simp only[Option.map_eq_some_iff]at h
   obtain⟨vs',ht,rfl⟩:=h
   exact step .undef vs' ht rfl (.inl ⟨hw,rfl⟩)
  ·rename_i hw
   split at h
   ·rename_i v s1 hop
    simp only[Option.map_eq_some_iff]at h
    obtain⟨vs',ht,rfl⟩:=h
    exact step v vs' ht rfl (.inr ⟨hw,s1,hop⟩)
   ·cases h
  ·cases h
end AI
end Go.Proofs.YtiimoiecghmebaaDoor
namespace Go.Proofs.YtiimoiecghmebaaDoor
namespace AI
open Go.RowKit
variable {P:Program} {B:Nat} {w w' w0:World} {Z Z':Bh} {φ φ':D8} {ctr BX:Nat} {s s':Ag}
theorem JO {env env':Env}:∀{xs:List AO},(∀ x∈xs,x.val env=x.val env')→vals env xs=vals env' xs
 |[],_=>rfl
 |x::xs,h=>by simp only[vals];rw[h x (by simp),JO fun y hy=>h y (by simp[hy])]
theorem Oa {env env':Env}:∀{ps:List (Nat×Nat×AO)},(∀ x∈ps.map (fun (_,_,x)=>x),x.val env=x.val env')→JE env ps=JE env' ps
 |[],_=>rfl
 |(o,n,x)::ps,h=>by simp only[JE];rw[h x (by simp),Oa fun y hy=>h y (by simp only[List.map_cons,List.mem_cons];exact .inr hy)]
theorem RD {env env':Env}:∀{ps:List (Nat×AO)},(∀ x∈ps.map (fun (_,x)=>x),x.val env=x.val env')→Pn env ps=Pn env' ps
 |[],_=>rfl
 |(o,x)::ps,h=>by simp only[Pn];rw[h x (by simp),RD fun y hy=>h y (by simp only[List.map_cons,List.mem_cons];exact .inr hy)]
theorem Ob {env env':Env} {n:Nat} {lo hi:Option AO} (h:∀x∈WV lo++WV hi,x.val env=x.val env'):bounds env n lo hi=bounds env' n lo hi:=by
 cases lo<;>cases hi<;>simp only[bounds]
 ·rw[h _ (by simp[WV])]
 ·rw[h _ (by simp[WV])]
 ·rename_i a b
  rw[h a (by simp[WV]),h b (by simp[WV])]
theorem Oc {C:Aq} {ao:BN} {env env':Env} (h:∀x∈ao.Bl,x.val env=x.val env'):Ae C ao env s=Ae C ao env' s:=by
 cases ao
 case build z ps=>simp only[Ae,Oa (env:=env) (env':=env') (by simpa only[BN.Bl]using h)]
 case lit o es z n ps=>simp only[Ae,RD (env:=env) (env':=env') (by simpa only[BN.Bl]using h)]
 case slice es x lo hi=>
  have hx:=h x (by simp[BN.Bl])
  have hb:∀n,bounds env n lo hi=bounds env' n lo hi:=fun n=>Ob fun y hy=>h y (by simp only[BN.Bl,List.mem_cons];exact .inr hy)
  simp only[Ae,hx,hb]
 case KC x lo hi=>
  have hx:=h x (by simp[BN.Bl])
  have hb:∀n,bounds env n lo hi=bounds env' n lo hi:=fun n=>Ob fun y hy=>h y (by simp only[BN.Bl,List.mem_cons];exact .inr hy)
  simp only[Ae,hx,hb]
 case AbL f xs=>simp only[Ae,JO (env:=env) (env':=env') (by simpa only[BN.Bl]using h)]
 case call m f xs=>simp only[Ae,JO (env:=env) (env':=env') (by simpa only[BN.Bl]using h)]
 case Gz m x xs=>
  have hx:=h x (by simp[BN.Bl])
  simp only[Ae,hx,JO (env:=env) (env':=env') fun y hy=>h y (by simp only[BN.Bl,List.mem_cons];exact .inr hy)]
 all_goals
  simp only[BN.Bl,List.mem_cons,List.not_mem_nil,or_false,forall_eq_or_imp,forall_eq]at h
  simp only[Ae,h]
theorem Hw {env env':Env} {x:AO} (h:∀t∈x.slots,env.get t=env'.get t):x.val env=x.val env':=by
 cases x with
 |tmp t=>exact h t (by simp[AO.slots])
 |cst v=>rfl
theorem Hy {env env':Env} {g:Option (Nat×Bool)} (h:∀t b,g=some (t,b)→env.get t=env'.get t):wanted g env=wanted g env':=by
 cases g with
 |none=>rfl
 |some p=>obtain⟨t,b⟩:=p;simp only[wanted,h t b rfl]
structure Gs (ops:Array Oper) (Bl:List Ap) (m:Nat) (f:Nat:=ops.size):Prop where
 fwd:∀(j:Nat) (o:Oper),ops[j]?=some o→∀e∈o.after,Region.binds .any e=true→e.on<j
 tmp:∀(j:Nat) (ao:Ap),Bl[j]?=some ao→j<ops.size→∀(i:Nat) (oi:Oper) (t:Nat),i≠j→ops[i]?=some oi→oi.dst=some t→t∈slotsOf ao→if i<j then((Region.before ops).getD j 0).testBit i=true else((Region.before ops).getD i 0).testBit j=true
 tail:∀j,j<ops.size→m≤j→∀i,i<j→i≠f→((Region.before ops).getD j 0).testBit i=true
theorem P8 {ops:Array Oper} {Bl:List Ap} {m:Nat} (h:Vw ops Bl m=true):Gs ops Bl m:=by
 unfold Vw at h
 simp only[List.all_eq_true,List.mem_range]at h
 refine⟨fun j o ho e he hb=>?_,fun j ao hao hj i oi t hij hoi hd ht=>?_,fun j hj hm i hi _=>?_⟩
 ·have hj:=(Array.getElem?_eq_some_iff.1 ho).1
  have:=h j hj
  rw[ho]at this
  cases hao:Bl[j]? with
  |none=>simp[hao]at this
  |some ao=>
   simp only[hao,Bool.and_eq_true,List.all_eq_true]at this
   have:=this.1.1 e (by simpa using he)
   simp only[hb,Bool.not_true,Bool.false_or,decide_eq_true_eq]at this
   exact this
 ·have ho:ops[j]?=some ops[j]:=Array.getElem?_eq_getElem hj
  have:=h j hj
  rw[ho,hao]at this
  simp only[Bool.and_eq_true,List.all_eq_true,List.mem_range]at this
  have:=this.1.2 i (Array.getElem?_eq_some_iff.1 hoi).1
  simp only[Bool.or_eq_true,beq_iff_eq,hij,false_or,hoi,Option.bind_some,hd,Bool.not_eq_true',List.contains_eq_mem,decide_eq_false_iff_not,ht,not_true_eq_false]at this
  split
  ·rename_i hlt;rw[if_pos hlt]at this;exact this
  ·rename_i hlt;rw[if_neg hlt]at this;exact this
 ·have ho:ops[j]?=some ops[j]:=Array.getElem?_eq_getElem hj
  have:=h j hj
  rw[ho]at this
  cases hao:Bl[j]? with
  |none=>simp[hao]at this
  |some ao=>
   simp only[hao,Bool.and_eq_true,Bool.or_eq_true,decide_eq_true_eq,List.all_eq_true,List.mem_range]at this
   rcases this.2 with h1|h1
   ·omega
   ·exact h1 i hi
theorem Vx {ops:Array Oper} {Bl:List Ap} {m f:Nat} (h:Vy ops Bl m f=true):Gs ops Bl m f:=by
 unfold Vy at h
 simp only[List.all_eq_true,List.mem_range]at h
 refine⟨fun j o ho e he hb=>?_,fun j ao hao hj i oi t hij hoi hd ht=>?_,fun j hj hm i hi hif=>?_⟩
 ·have hj:=(Array.getElem?_eq_some_iff.1 ho).1
  have:=h j hj
  rw[ho]at this
  cases hao:Bl[j]? with
  |none=>simp[hao]at this
  |some ao=>
   simp only[hao,Bool.and_eq_true,List.all_eq_true]at this
   have:=this.1.1 e (by simpa using he)
   simp only[hb,Bool.not_true,Bool.false_or,decide_eq_true_eq]at this
   exact this
 ·have ho:ops[j]?=some ops[j]:=Array.getElem?_eq_getElem hj
  have:=h j hj
  rw[ho,hao]at this
  simp only[Bool.and_eq_true,List.all_eq_true,List.mem_range]at this
  have:=this.1.2 i (Array.getElem?_eq_some_iff.1 hoi).1
  simp only[Bool.or_eq_true,beq_iff_eq,hij,false_or,hoi,Option.bind_some,hd,Bool.not_eq_true',List.contains_eq_mem,decide_eq_false_iff_not,ht,not_true_eq_false]at this
  split
  ·rename_i hlt;rw[if_pos hlt]at this;exact this
  ·rename_i hlt;rw[if_neg hlt]at this;exact this
 ·have ho:ops[j]?=some ops[j]:=Array.getElem?_eq_getElem hj
  have:=h j hj
  rw[ho]at this
  cases hao:Bl[j]? with
  |none=>simp[hao]at this
  |some ao=>
   simp only[hao,Bool.and_eq_true,Bool.or_eq_true,decide_eq_true_eq,List.all_eq_true,List.mem_range,beq_iff_eq]at this
   rcases this.2 with h1|h1
   ·omega
   ·exact(h1 i hi).resolve_left hif
theorem P9 {C:Aq} (hC:Ar P C) {ops:Array Oper} {n:Nat} {an:List (Nat×FZ)} {Bl:List Ap} {m m':Nat} (hmm:m≤m') (hlen':Bl.length=ops.size) (hget:∀(k:Nat) (o:Oper),m'≤k→ops.toList[k]?=some o→∃ao,Bl[k]?=some ao∧Jd P o (Ru an (0+k))=some ao.op∧Ec ops n o.guard=some ao.guard∧ao.dst=o.dst∧(∀ d,o.dst=some d→d<n)) {f:Nat} (hok:Gs ops Bl m f) (hfm:f<m'∨ops.size≤f) {Q:Exit→Act→World→Prop} {e:Az} {env':Env} {s':Ag}:
 ∀(fuel j:Nat) (listed:Array Bool) (env:Env) (s:Ag) (a:Act) (w:World) (Z:Bh) (φ:D8),m'≤j→j≤ops.size→ops.size≤j+fuel→listed.size=ops.size→(∀ i,i<ops.size→(AU listed i=true↔i<j))→CX C (Bl.drop j) env s=some (e,env',s')→Inv w0 B s Z φ w→Ak w Z φ s.ctr env a.tmps→a.tmps.size=n→Post w0 B w Z φ s.ctr n a.defers e env' s' Q→
  wpAny P .any ops Q fuel listed a w:=by
 intro fuel
 induction fuel with
 |zero=>
  intro j listed env s a w Z φ hm hj hf hsz hL hev hI hE hn hp
  have hje:j=ops.size:=by omega
  subst hje
  have:Bl.drop ops.size=[]:=by rw[List.drop_eq_nil_iff];omega
  rw[this]at hev
  simp only[CX,Option.some.injEq,Prod.mk.injEq]at hev
  obtain⟨rfl,rfl,rfl⟩:=hev
  refine⟨?_,hp .normal a w Z φ rfl hn rfl hI hE (Later.refl _ _ _ _ _)⟩
  rw[List.eq_nil_iff_forall_not_mem]
  intro i hi
  obtain⟨o,ho,hl,_⟩:=(CG hsz).1 hi
  have hlt:=(Array.getElem?_eq_some_iff.1 ho).1
  rw[(hL i hlt).2 hlt]at hl;cases hl
 |succ fuel ih=>
  intro j listed env s a w Z φ hm hj hf hsz hL hev hI hE hn hp
  by_cases hje:j=ops.size
  ·subst hje
   have:Bl.drop ops.size=[]:=by rw[List.drop_eq_nil_iff];omega
   rw[this]at hev
   simp only[CX,Option.some.injEq,Prod.mk.injEq]at hev
   obtain⟨rfl,rfl,rfl⟩:=hev
   refine⟨fun _=>hp .normal a w Z φ rfl hn rfl hI hE (Later.refl _ _ _ _ _),fun i hi=>?_⟩
   obtain⟨o,ho,hl,_⟩:=(CG hsz).1 hi
   have hlt:=(Array.getElem?_eq_some_iff.1 ho).1
   rw[(hL i hlt).2 hlt]at hl;cases hl
  ·have hjlt:j<ops.size:=by omega
   have hoj:ops[j]?=some ops[j]:=Array.getElem?_eq_getElem hjlt
   refine⟨fun hr=>?_,fun i hi=>?_⟩
   ·exfalso
    have:j∈Region.ready .any ops listed:=by
     refine(CG hsz).2 ⟨_,hoj,?_,fun e' he' hb=>?_⟩
     ·cases hl:AU listed j
      ·rfl
      ·have:=(hL j hjlt).1 hl;omega
     ·have:=hok.fwd j _ hoj e' he' hb
      exact(hL _ (by omega)).2 this
    rw[hr]at this
    cases this
   ·obtain⟨o,ho,hl,Ku⟩:=(CG hsz).1 hi
    have hilt:=(Array.getElem?_eq_some_iff.1 ho).1
    have hcl:Closed ops (AU listed):=by
     intro k ok hk hlk e' he' hb
     have hkl:=(hL k (Array.getElem?_eq_some_iff.1 hk).1).1 hlk
     have:=hok.fwd k ok hk e' he' hb
     exact(hL _ (by omega)).2 (by omega)
    have hij:i=j:=by
     have hge:¬i<j:=fun h=>by rw[(hL i hilt).2 h]at hl;cases hl
     rcases Nat.lt_or_ge j i with h|h
     ·exfalso
      have hb:=hok.tail i hilt (by omega) j h (by omega)
      have:=BU hok.fwd hcl i o ho Ku hb
      have:=(hL j hjlt).1 this
      omega
     ·omega
    subst hij
    rw[hoj]at ho
    cases ho
    obtain⟨ao,hao,h1,h2,h3,h4⟩:=hget i _ hm (by rw[Array.getElem?_toList];exact hoj)
    have hdrop:Bl.drop i=ao::Bl.drop (i+1):=by
     rw[List.drop_eq_getElem_cons (by omega)]
     congr 1
     exact(List.getElem?_eq_some_iff.1 hao).2
    rw[hdrop]at hev
    simp only[CX]at hev
    have hsz':(listed.setIfInBounds i true).size=ops.size:=by simpa using hsz
    have hL':∀k,k<ops.size→(AU (listed.setIfInBounds i true) k=true↔k<i+1):=by
     intro k hk
     rw[Hu (by omega)]
     by_cases he:k=i
     ·subst he;simp
     ·rw[if_neg he,hL k hk];omega
    refine Fj hC hoj h1 h2 h3 h4 hI hE hn ?_
    split at hev
    ·cases hev
    ·rename_i hw
     exact .inl ⟨hw,fun a' z1 z2 z3=>ih (i+1) _ _ s a' w Z φ (by omega) (by omega) (by omega) hsz' hL' hev hI z3 z1 (z2▸hp)⟩
    ·rename_i hw
     refine .inr ⟨hw,?_⟩
     split at hev
     ·rename_i v s1 hop
      refine⟨.ok v,s1,hop,fun v' hv a' x w' Z' φ' ha' hr hI' hE' KI=>?_,(fun v' hv=>by cases hv)⟩
      cases hv
      subst ha'
      obtain⟨z1,z2⟩:=size_put a ops[i].dst x
      exact ih (i+1) _ _ s1 _ w' Z' φ' (by omega) (by omega) (by omega) hsz' hL' hev hI' hE' (z1.trans hn) (by rw[z2];exact hp.later KI)
     ·rename_i v s1 hop
      simp only[Option.some.injEq,Prod.mk.injEq]at hev
      obtain⟨rfl,rfl,rfl⟩:=hev
      refine⟨.Ee v,s1,hop,(fun v' hv=>by cases hv),fun v' hv=>?_⟩
      cases hv
      exact hp
     ·cases hev
theorem RF {C:Aq} (hC:Ar P C) {ops:Array Oper} {n:Nat} {an:List (Nat×FZ)} {Bl:List Ap} (hcomp:Cc P ops n an ops.toList 0=some Bl) {m:Nat} (hok:Gs ops Bl m) {Q:Exit→Act→World→Prop} {e:Az} {env':Env} {s':Ag}:
 ∀(fuel j:Nat) (listed:Array Bool) (env:Env) (s:Ag) (a:Act) (w:World) (Z:Bh) (φ:D8),m≤j→j≤ops.size→ops.size≤j+fuel→listed.size=ops.size→(∀ i,i<ops.size→(AU listed i=true↔i<j))→CX C (Bl.drop j) env s=some (e,env',s')→Inv w0 B s Z φ w→Ak w Z φ s.ctr env a.tmps→a.tmps.size=n→Post w0 B w Z φ s.ctr n a.defers e env' s' Q→
  wpAny P .any ops Q fuel listed a w:=
 P9 hC (Nat.le_refl _) (by simpa using(CU hcomp).1) (fun k o _ hk=>(CU hcomp).2 k o hk) hok (.inr (Nat.le_refl _))
theorem KJ {ops:Array Oper} {Bl:List Ap} {m f:Nat} (hok:Gs ops Bl m f) (hfm:f<m∨ops.size≤f) {Q:Exit→Act→World→Prop} {fuel j:Nat} {listed:Array Bool} {a:Act} {w:World} (hm:m≤j) (hjlt:j<ops.size) (hsz:listed.size=ops.size) (hL:∀i,i<ops.size→(AU listed i=true↔i<j))
 (h:(listed.setIfInBounds j true).size=ops.size→(∀ k,k<ops.size→(AU (listed.setIfInBounds j true) k=true↔k<j+1))→wpOp P ops Q j (wpAny P .any ops Q fuel (listed.setIfInBounds j true)) a w):wpAny P .any ops Q (fuel+1) listed a w:=by
 have hoj:ops[j]?=some ops[j]:=Array.getElem?_eq_getElem hjlt
 refine⟨fun hr=>?_,fun i hi=>?_⟩
 ·exfalso
  have:j∈Region.ready .any ops listed:=by
   refine(CG hsz).2 ⟨_,hoj,?_,fun e' he' hb=>?_⟩
   ·cases hl:AU listed j
    ·rfl
    ·have:=(hL j hjlt).1 hl;omega
   ·have:=hok.fwd j _ hoj e' he' hb
    exact(hL _ (by omega)).2 this
  rw[hr]at this
  cases this
 ·obtain⟨o,ho,hl,Ku⟩:=(CG hsz).1 hi
  have hilt:=(Array.getElem?_eq_some_iff.1 ho).1
  have hcl:Closed ops (AU listed):=by
   intro k ok hk hlk e' he' hb
   have hkl:=(hL k (Array.getElem?_eq_some_iff.1 hk).1).1 hlk
   have:=hok.fwd k ok hk e' he' hb
   exact(hL _ (by omega)).2 (by omega)
  have hij:i=j:=by
   have hge:¬i<j:=fun h=>by rw[(hL i hilt).2 h]at hl;cases hl
   rcases Nat.lt_or_ge j i with h|h
   ·exfalso
    have hb:=hok.tail i hilt (by omega) j h (by omega)
    have:=BU hok.fwd hcl i o ho Ku hb
    have:=(hL j hjlt).1 this
    omega
   ·omega
  subst hij
  refine h (by simpa using hsz) fun k hk=>?_
  rw[Hu (by omega)]
  by_cases he:k=i
  ·subst he;simp
  ·rw[if_neg he,hL k hk];omega
theorem Gt {L L':Nat→Bool}:∀(vs:List (Option Nat×AV)) (i:Nat) (env:Env),(∀ k,k<vs.length→L (i+k)=L' (i+k))→AX L vs i env=AX L' vs i env
 |[],i,env,_=>rfl
 |(d,v)::vs,i,env,h=>by
  have h0:=h 0 (by simp)
  simp only[Nat.add_zero]at h0
  simp only[AX,h0]
  exact Gt vs (i+1) _ fun k hk=>by rw[show i+1+k=i+(k+1) by omega];exact h (k+1) (by simp;omega)
theorem Xh {L:Nat→Bool} {m:Nat} (Ug:∀i,L i=true→i<m):∀k,cnt L k≤m:=by
 intro k
 induction k with
 |zero=>simp[cnt]
 |succ k ihk=>
  by_cases hk:k<m
  ·exact Nat.le_trans (cnt_le _ _) hk
  ·have:L k=false:=by
        cases h:L k
        ·rfl
        ·exact absurd (Ug k h) hk
   simp only[cnt,this,Bool.false_eq_true,if_false,Nat.add_zero]
   exact ihk
theorem Qa {C:Aq} (hC:Ar P C) {ops:Array Oper} {n:Nat} {an:List (Nat×FZ)} {Bl:List Ap} {m:Nat} (hlen':Bl.length=ops.size) (hget:∀(k:Nat) (o:Oper),k<m→ops.toList[k]?=some o→∃ao,Bl[k]?=some ao∧Jd P o (Ru an (0+k))=some ao.op∧Ec ops n o.guard=some ao.guard∧ao.dst=o.dst∧(∀ d,o.dst=some d→d<n))
 {f:Nat} (hok:Gs ops Bl m f) (hm:m≤ops.size) (hpure:DJ m Bl=true) {Q:Exit→Act→World→Prop}
 {e:Az} {env env':Env} {s s':Ag} {vs:List (Option Nat×AV)} (htr:trace C s (Bl.take m) env=some vs)
 (Akk:∀(fuel:Nat) (listed:Array Bool) (a:Act) (w:World) (Z:Bh) (φ:D8) (BD:Env) (v:AV) (ao:Ap),f<m→Bl[f]?=some ao→ops.size+1≤m+(fuel+1)→listed.size=ops.size→Closed ops (AU listed)→(∀ i,i<ops.size→(AU listed i=true↔i<m∧i≠f))→Inv w0 B s Z φ w→Ak w Z φ s.ctr BD a.tmps→a.tmps.size=n→Post w0 B w Z φ s.ctr n a.defers e env' s' Q→
   ((AI.wanted ao.guard BD=some false∧v=.undef)∨(AI.wanted ao.guard BD=some true∧∃s1,Ae C ao.op BD s=some (.ok v,s1)))→(∀ t,(AI.put ao.dst v BD).get t=(AX (fun _=>true) vs 0 env).get t)→wpAny P .any ops Q (fuel+1) listed a w)
 (htail:∀(fuel:Nat) (listed:Array Bool) (a:Act) (w:World) (Z:Bh) (φ:D8),ops.size≤m+fuel→listed.size=ops.size→(∀ i,i<ops.size→(AU listed i=true↔i<m))→Inv w0 B s Z φ w→Ak w Z φ s.ctr (AX (fun _=>true) vs 0 env) a.tmps→a.tmps.size=n→Post w0 B w Z φ s.ctr n a.defers e env' s' Q→wpAny P .any ops Q fuel listed a w):
 ∀(fuel:Nat) (listed:Array Bool) (a:Act) (w:World) (Z:Bh) (φ:D8),ops.size≤cnt (AU listed) ops.size+fuel→listed.size=ops.size→Closed ops (AU listed)→(∀ i,AU listed i=true→i<m)→Inv w0 B s Z φ w→Ak w Z φ s.ctr (AX (AU listed) vs 0 env) a.tmps→a.tmps.size=n→Post w0 B w Z φ s.ctr n a.defers e env' s' Q→
  wpAny P .any ops Q fuel listed a w:=by
 obtain⟨hvl,hvs⟩:=UE htr
 have Xi:vs.length=m:=by rw[hvl];simp;omega
 intro fuel
 induction fuel with
 |zero=>
  intro listed a w Z φ hf hsz hcl Ug hI hE hn hp
  have hfull:=N8 (L:=AU listed) (n:=ops.size) (by have:=cnt_le (AU listed) ops.size;omega)
  have hmE:m=ops.size:=by
   rcases Nat.lt_or_ge m ops.size with h|h
   ·have:=Ug m (hfull m h);omega
   ·omega
  have hE':Ak w Z φ s.ctr (AX (fun _=>true) vs 0 env) a.tmps:=by
   rw[Gt (L':=AU listed) vs 0 env fun k hk=>by rw[Nat.zero_add,hfull k (by omega)]]
   exact hE
  exact htail 0 listed a w Z φ (by omega) hsz (fun i hi=>⟨fun _=>by omega,fun _=>hfull i hi⟩) hI hE' hn hp
 |succ fuel ih=>
  intro listed a w Z φ hf hsz hcl Ug hI hE hn hp
  by_cases hall:∀i,i<m→AU listed i=true
  ·have hE':Ak w Z φ s.ctr (AX (fun _=>true) vs 0 env) a.tmps:=by
        rw[Gt (L':=AU listed) vs 0 env fun k hk=>by rw[Nat.zero_add,hall k (by omega)]]
        exact hE
   have hL:∀i,i<ops.size→(AU listed i=true↔i<m):=fun i _=>⟨Ug i,hall i⟩
   have hc:cnt (AU listed) ops.size≤m:=Xh Ug _
   exact htail (fuel+1) listed a w Z φ (by omega) hsz hL hI hE' hn hp
  ·by_cases hF:∀i,i<m→i≠f→AU listed i=true
   ·
        have hlf:f<m∧AU listed f=false:=by
         rcases Classical.em (f<m∧AU listed f=false)with h|h
         ·exact h
         ·exfalso
          refine hall fun i hi=>?_
          by_cases hif:i=f
          ·subst hif
           cases hl:AU listed i
           ·exact(h ⟨hi,hl⟩).elim
           ·rfl
          ·exact hF i hi hif
        obtain⟨i,hif⟩:∃i,i=f:=⟨f,rfl⟩
        rw[← hif]at hlf hF
        obtain⟨him,hl⟩:=hlf
        have hilt:i<ops.size:=by omega
        obtain⟨o,ho⟩:∃o,ops[i]?=some o:=⟨_,Array.getElem?_eq_getElem hilt⟩
        have Ku:∀e∈o.after,Region.binds .any e=true→AU listed e.on=true:=fun e' he' hb=>by
         have:=hok.fwd i o ho e' he' hb
         exact hF _ (by omega) (by omega)
        have bit:∀k,((Region.before ops).getD i 0).testBit k=true→AU listed k=true:=fun k hb=>BU hok.fwd hcl i o ho Ku hb
        obtain⟨ao,hao,h1,h2,h3,h4⟩:=hget i o him (by simpa using ho)
        obtain⟨v,hv,hvw⟩:=hvs i ao (by rw[List.getElem?_take_of_lt him];exact hao)
        have hvw:=hvw 0
        simp only[Nat.zero_add]at hvw
        have same:∀t∈slotsOf ao,(AX (AU listed) vs 0 env).get t=(AX (fun q=>decide (q<i)) vs 0 env).get t:=by
         intro t ht
         rw[CV,CV]
         refine BZ vs 0 _ fun k d u hk hd=>?_
         rw[Nat.zero_add]
         have hkm:k<m:=by rw[← Xi];exact(List.getElem?_eq_some_iff.1 hk).1
         have hok':ops[k]?=some ops[k]:=Array.getElem?_eq_getElem (by omega)
         obtain⟨aok,Vz,_,_,hdk,_⟩:=hget k _ hkm (by rw[Array.getElem?_toList];exact hok')
         obtain⟨vk,hvk,_⟩:=hvs k aok (by rw[List.getElem?_take_of_lt hkm];exact Vz)
         rw[hk]at hvk
         simp only[Option.some.injEq,Prod.mk.injEq]at hvk
         have hdst:ops[k].dst=some t:=by rw[← hdk,←hvk.1,hd]
         by_cases hki:k=i
         ·subst hki;rw[hl];simp
         ·have:=hok.tmp i ao hao hilt k _ t hki hok' hdst ht
          split at this
          ·rename_i hlt
           rw[bit k this];simp[hlt]
          ·rename_i hlt
           have hnl:AU listed k=false:=by
            cases hq:AU listed k
            ·rfl
            ·have:=BU hok.fwd hcl k _ hok' (fun e' he' hb=>hcl k _ hok' hq e' he' hb) this
             rw[hl]at this;cases this
           rw[hnl];simp[hlt]
        have hwc:wanted ao.guard (AX (AU listed) vs 0 env)=wanted ao.guard (AX (fun q=>decide (q<i)) vs 0 env):=Hy fun t b hg=>same t (by simp[slotsOf,hg])
        have hec:Ae C ao.op (AX (AU listed) vs 0 env) s=Ae C ao.op (AX (fun q=>decide (q<i)) vs 0 env) s:=Oc fun x hx=>Hw fun t ht=>same t (by simp only[slotsOf,List.mem_append,List.mem_flatMap];exact .inl (.inr ⟨x,hx,ht⟩))
        have hset:∀k,AU (listed.setIfInBounds i true) k=if k=i then true else AU listed k:=Hu (by omega)
        have frame:∀t,(AI.put ao.dst v (AX (AU listed) vs 0 env)).get t=(AX (AU (listed.setIfInBounds i true)) vs 0 env).get t:=by
         intro t
         rw[get_put,CV,CV]
         by_cases hd:ao.dst=some t
         ·rw[if_pos hd]
          refine(Jl (j:=i) vs 0 _ (by rw[hv,hd]) (by rw[Nat.zero_add,hset];simp) fun k d u hk hdk hlt=>?_).symm
          rw[Nat.zero_add,hset,if_neg (by omega)]
          have hkm:k<m:=by rw[← Xi];exact(List.getElem?_eq_some_iff.1 hk).1
          have hok':ops[k]?=some ops[k]:=Array.getElem?_eq_getElem (by omega)
          obtain⟨aok,Vz,_,_,Ab7,_⟩:=hget k _ hkm (by rw[Array.getElem?_toList];exact hok')
          obtain⟨vk,hvk,_⟩:=hvs k aok (by rw[List.getElem?_take_of_lt hkm];exact Vz)
          rw[hk]at hvk
          simp only[Option.some.injEq,Prod.mk.injEq]at hvk
          have hdst:ops[k].dst=some t:=by rw[← Ab7,←hvk.1,hdk]
          have:=hok.tmp i ao hao hilt k _ t (by omega) hok' hdst (by simp[slotsOf,hd])
          rw[if_neg (by omega)]at this
          cases hq:AU listed k
          ·rfl
          ·have:=BU hok.fwd hcl k _ hok' (fun e' he' hb=>hcl k _ hok' hq e' he' hb) this
           rw[hl]at this;cases this
         ·rw[if_neg hd]
          refine BZ vs 0 _ fun k d u hk hdk=>?_
          rw[Nat.zero_add,hset]
          by_cases hki:k=i
          ·subst hki
           rw[hv]at hk
           simp only[Option.some.injEq,Prod.mk.injEq]at hk
           exact absurd (hk.1.trans hdk) hd
          ·rw[if_neg hki]
        have hcnt:ops.size+1≤m+(fuel+1):=by
         have c1:=N9 (L':=AU (listed.setIfInBounds i true)) (i:=i) hl (by rw[hset];simp) (fun k hk=>by rw[hset,if_neg hk]) ops.size
         have c2:cnt (AU (listed.setIfInBounds i true)) ops.size≤m:=Xh (fun k hk=>by
          rw[hset]at hk
          split at hk
          ·omega
          ·exact Ug k hk) _
         rw[if_pos hilt]at c1
         omega
        refine Akk fuel listed a w Z φ _ v ao (by omega) (by rw[← hif];exact hao) hcnt hsz hcl (fun k hk=>?_) hI hE hn hp ?_ (fun t=>?_)
        ·refine⟨fun h=>⟨Ug k h,fun e=>?_⟩,fun⟨h,e⟩=>hF k h (by omega)⟩
         rw[e,←hif,hl]at h
         cases h
        ·rcases hvw with⟨hw,rfl⟩|⟨hw,s1,hop⟩
         ·exact .inl ⟨by rw[hwc];exact hw,rfl⟩
         ·exact .inr ⟨by rw[hwc];exact hw,s1,by rw[hec];exact hop⟩
        ·rw[frame t]
         congr 1
         refine Gt vs 0 env fun k hk=>?_
         rw[Nat.zero_add,hset]
         by_cases e:k=i
         ·rw[if_pos e]
         ·rw[if_neg e];exact hF k (by omega) e
   have YD:∃j,j<m∧AU listed j=false∧∀i,i<j→AU listed i=true:=by
        have:∃j,j<m∧AU listed j=false:=by
         rcases Classical.em (∃ j,j<m∧AU listed j=false)with h|h
         ·exact h
         ·exfalso
          refine hall fun i hi=>?_
          cases hl:AU listed i
          ·exact(h ⟨i,hi,hl⟩).elim
          ·rfl
        obtain⟨j,hj,hlj⟩:=this
        induction j using Nat.strongRecOn with
        |_ j ihj=>
         rcases Classical.em (∃ i,i<j∧AU listed i=false)with⟨i,hi,hli⟩|h
         ·exact ihj i hi (by omega) hli
         ·refine⟨j,hj,hlj,fun i hi=>?_⟩
          cases hl:AU listed i
          ·exact(h ⟨i,hi,hl⟩).elim
          ·rfl
   obtain⟨j0,hj0,hl0,hbelow⟩:=YD
   obtain⟨j1,hj1,Akm,hl1⟩:∃j,j<m∧j≠f∧AU listed j=false:=by
        rcases Classical.em (∃ j,j<m∧j≠f∧AU listed j=false)with h|h
        ·exact h
        ·exfalso
         refine hF fun i hi hif=>?_
         cases hl:AU listed i
         ·exact(h ⟨i,hi,hif,hl⟩).elim
         ·rfl
   refine⟨fun hr=>?_,fun i hi=>?_⟩
   ·exfalso
    have hoj:ops[j0]?=some ops[j0]:=Array.getElem?_eq_getElem (by omega)
    have:j0∈Region.ready .any ops listed:=(CG hsz).2 ⟨_,hoj,hl0,fun e' he' hb=>hbelow _ (hok.fwd j0 _ hoj e' he' hb)⟩
    rw[hr]at this
    cases this
   ·obtain⟨o,ho,hl,Ku⟩:=(CG hsz).1 hi
    have hilt:=(Array.getElem?_eq_some_iff.1 ho).1
    have bit:∀k,((Region.before ops).getD i 0).testBit k=true→AU listed k=true:=fun k hb=>BU hok.fwd hcl i o ho Ku hb
    have him:i<m:=by
     rcases Nat.lt_or_ge i m with h|h
     ·exact h
     ·exfalso
      have:=bit j1 (hok.tail i hilt h j1 (by omega) Akm)
      rw[hl1]at this;cases this
    obtain⟨ao,hao,h1,h2,h3,h4⟩:=hget i o him (by simpa using ho)
    obtain⟨v,hv,hvw⟩:=hvs i ao (by rw[List.getElem?_take_of_lt him];exact hao)
    have hvw:=hvw 0
    simp only[Nat.zero_add]at hvw
    have same:∀t∈slotsOf ao,(AX (AU listed) vs 0 env).get t=(AX (fun q=>decide (q<i)) vs 0 env).get t:=by
     intro t ht
     rw[CV,CV]
     refine BZ vs 0 _ fun k d u hk hd=>?_
     rw[Nat.zero_add]
     have hkm:k<m:=by rw[← Xi];exact(List.getElem?_eq_some_iff.1 hk).1
     have hok':ops[k]?=some ops[k]:=Array.getElem?_eq_getElem (by omega)
     obtain⟨aok,Vz,_,_,hdk,_⟩:=hget k _ hkm (by rw[Array.getElem?_toList];exact hok')
     obtain⟨vk,hvk,_⟩:=hvs k aok (by rw[List.getElem?_take_of_lt hkm];exact Vz)
     rw[hk]at hvk
     simp only[Option.some.injEq,Prod.mk.injEq]at hvk
     have hdst:ops[k].dst=some t:=by rw[← hdk,←hvk.1,hd]
     by_cases hki:k=i
     ·subst hki;rw[hl];simp
     ·have:=hok.tmp i ao hao hilt k _ t hki hok' hdst ht
      split at this
      ·rename_i hlt
       rw[bit k this];simp[hlt]
      ·rename_i hlt
       have hnl:AU listed k=false:=by
           cases hq:AU listed k
           ·rfl
           ·have:=BU hok.fwd hcl k _ hok' (fun e' he' hb=>hcl k _ hok' hq e' he' hb) this
            rw[hl]at this;cases this
       rw[hnl];simp[hlt]
    have hwc:wanted ao.guard (AX (AU listed) vs 0 env)=wanted ao.guard (AX (fun q=>decide (q<i)) vs 0 env):=Hy fun t b hg=>same t (by simp[slotsOf,hg])
    have hec:Ae C ao.op (AX (AU listed) vs 0 env) s=Ae C ao.op (AX (fun q=>decide (q<i)) vs 0 env) s:=Oc fun x hx=>Hw fun t ht=>same t (by simp only[slotsOf,List.mem_append,List.mem_flatMap];exact .inl (.inr ⟨x,hx,ht⟩))
    have hsz':(listed.setIfInBounds i true).size=ops.size:=by simpa using hsz
    have hset:∀k,AU (listed.setIfInBounds i true) k=if k=i then true else AU listed k:=Hu (by omega)
    have hcl':Closed ops (AU (listed.setIfInBounds i true)):=by
     intro k ok hk hlk e' he' hb
     rw[hset]at hlk ⊢
     by_cases hki:k=i
     ·subst hki
      rw[ho]at hk
      cases hk
      split
      ·rfl
      ·exact Ku e' he' hb
     ·rw[if_neg hki]at hlk
      split
      ·rfl
      ·exact hcl k ok hk hlk e' he' hb
    have VA:∀k,AU (listed.setIfInBounds i true) k=true→k<m:=by
     intro k hk
     rw[hset]at hk
     split at hk
     ·omega
     ·exact Ug k hk
    have hcnt:ops.size≤cnt (AU (listed.setIfInBounds i true)) ops.size+fuel:=by
     rw[N9 (i:=i) hl (by rw[hset];simp) (fun k hk=>by rw[hset,if_neg hk])]
     simp[hilt];omega
    have frame:∀t,(AI.put ao.dst v (AX (AU listed) vs 0 env)).get t=(AX (AU (listed.setIfInBounds i true)) vs 0 env).get t:=by
     intro t
     rw[get_put,CV,CV]
     by_cases hd:ao.dst=some t
     ·rw[if_pos hd]
      refine(Jl (j:=i) vs 0 _ (by rw[hv,hd]) (by rw[Nat.zero_add,hset];simp) fun k d u hk hdk hlt=>?_).symm
      rw[Nat.zero_add,hset,if_neg (by omega)]
      have hkm:k<m:=by rw[← Xi];exact(List.getElem?_eq_some_iff.1 hk).1
      have hok':ops[k]?=some ops[k]:=Array.getElem?_eq_getElem (by omega)
      obtain⟨aok,Vz,_,_,Ab7,_⟩:=hget k _ hkm (by rw[Array.getElem?_toList];exact hok')
      obtain⟨vk,hvk,_⟩:=hvs k aok (by rw[List.getElem?_take_of_lt hkm];exact Vz)
      rw[hk]at hvk
      simp only[Option.some.injEq,Prod.mk.injEq]at hvk
      have hdst:ops[k].dst=some t:=by rw[← Ab7,←hvk.1,hdk]
      have:=hok.tmp i ao hao hilt k _ t (by omega) hok' hdst (by simp[slotsOf,hd])
      rw[if_neg (by omega)]at this
      cases hq:AU listed k
      ·rfl
      ·have:=BU hok.fwd hcl k _ hok' (fun e' he' hb=>hcl k _ hok' hq e' he' hb) this
       rw[hl]at this;cases this
     ·rw[if_neg hd]
      refine BZ vs 0 _ fun k d u hk hdk=>?_
      rw[Nat.zero_add,hset]
      by_cases hki:k=i
      ·subst hki
       rw[hv]at hk
       simp only[Option.some.injEq,Prod.mk.injEq]at hk
       exact absurd (hk.1.trans hdk) hd
      ·rw[if_neg hki]
    have Xj:∀{w':World} {Z':Bh} {φ':D8} {a':Act},Ak w' Z' φ' s.ctr (AI.put ao.dst v (AX (AU listed) vs 0 env)) a'.tmps→Ak w' Z' φ' s.ctr (AX (AU (listed.setIfInBounds i true)) vs 0 env) a'.tmps:=by
     intro w' Z' φ' a' h t
     rw[← frame t]
     exact h t
    refine Fj hC ho h1 h2 h3 h4 hI hE hn ?_
    rcases hvw with⟨hw,rfl⟩|⟨hw,s1,hop⟩
    ·exact .inl ⟨by rw[hwc];exact hw,fun a' z1 z2 z3=>ih _ a' w Z φ hcnt hsz' hcl' VA hI (Xj z3) z1 (z2▸hp)⟩
    ·have hpo:ao.op.EM=true:=by
      have:=hpure
      unfold DJ at this
      rw[List.all_eq_true]at this
      exact this ao (List.mem_of_getElem? (by rw[List.getElem?_take_of_lt him];exact hao))
     have hs1:=(Gq hpo hop).1
     subst hs1
     refine .inr ⟨by rw[hwc];exact hw,.ok v,s1,by rw[hec];exact hop,fun v' hv' a' x w' Z' φ' ha' hr hI' hE' KI=>?_,(fun v' hv'=>by cases hv')⟩
     cases hv'
     subst ha'
     obtain⟨z1,z2⟩:=size_put a o.dst x
     exact ih _ _ w' Z' φ' hcnt hsz' hcl' VA hI' (Xj hE') (z1.trans hn) (by rw[z2];exact hp.later KI)
theorem YE {C:Aq} (hC:Ar P C) {ops:Array Oper} {n:Nat} {an:List (Nat×FZ)} {Bl:List Ap} (hcomp:Cc P ops n an ops.toList 0=some Bl) {m:Nat} (hok:Gs ops Bl m) (hm:m≤ops.size) (hpure:DJ m Bl=true) {Q:Exit→Act→World→Prop}
 {e:Az} {env env':Env} {s s':Ag} {vs:List (Option Nat×AV)} (htr:trace C s (Bl.take m) env=some vs) (hev:CX C (Bl.drop m) (AX (fun _=>true) vs 0 env) s=some (e,env',s')):
 ∀(fuel:Nat) (listed:Array Bool) (a:Act) (w:World) (Z:Bh) (φ:D8),ops.size≤cnt (AU listed) ops.size+fuel→listed.size=ops.size→Closed ops (AU listed)→(∀ i,AU listed i=true→i<m)→Inv w0 B s Z φ w→Ak w Z φ s.ctr (AX (AU listed) vs 0 env) a.tmps→a.tmps.size=n→Post w0 B w Z φ s.ctr n a.defers e env' s' Q→
  wpAny P .any ops Q fuel listed a w:=
 Qa hC (by simpa using(CU hcomp).1) (fun k o _ hk=>(CU hcomp).2 k o hk) hok hm hpure htr
  (fun _ _ _ _ _ _ _ _ _ h=>absurd h (by omega))
  fun fuel listed a w Z φ h1 h2 h3 h4 h5 h6 h7=>RF hC hcomp hok fuel m listed _ s a w Z φ (Nat.le_refl _) hm h1 h2 h3 hev h4 h5 h6 h7
theorem JQ {ops:Array Oper} {m:Nat} {t:TypeId} {d1 d2 tm tk tx:Nat} (h:RG ops m=some (t,d1,d2,tm,tk,tx)):∃o1 o2 o3 t',ops[m]?=some o1∧ops[m+1]?=some o2∧ops[m+2]?=some o3∧
 (o1.op=.mapEntry t (.tmp tm) (.tmp tk)∧o1.dst=some d1∧o1.guard=none)∧(o2.op=.extract (.tmp d1) 1∧o2.dst=some d2∧o2.guard=none)∧(o3.op=.entryStore t' (.tmp tm) (.tmp d2) (.tmp tx)∧o3.dst=none∧o3.guard=none)∧
 d1≠d2∧(tm≠d1∧tm≠d2)∧(tk≠d1∧tk≠d2)∧(tx≠d1∧tx≠d2)∧tm≠tx∧tk≠tx:=by
 unfold RG at h
 split at h
 ·rename_i o1 o2 o3 h1 h2 h3
  split at h
  ·rename_i e1 e2 e3 e4 e5 e6
   split at h
   ·rename_i f1 f2 f3
    split at h
    ·rename_i hc
     obtain⟨rfl,rfl,rfl,hc⟩:=hc
     simp only[Option.some.injEq,Prod.mk.injEq]at h
     obtain⟨rfl,rfl,rfl,rfl,rfl,rfl⟩:=h
     exact⟨o1,o2,o3,_,h1,h2,h3,⟨e1,e2,e3⟩,⟨e4,e5,e6⟩,⟨f1,f2,f3⟩,hc⟩
    ·cases h
   ·cases h
  ·cases h
 ·cases h
theorem Oe {ops:Array Oper} {m tx d1 d2 f ty:Nat} (h:QS ops m tx d1 d2=some (f,ty)):∃o,ops[f]?=some o∧o.op=.move (.tmp ty)∧o.guard=none∧o.dst=some tx∧ty≠d1∧ty≠d2∧f<m∧((Region.before ops).getD (m+2) 0).testBit f=true:=by
 unfold QS at h
 split at h
 ·rename_i f' hf
  split at h
  ·rename_i o ho
   split at h
   ·rename_i ty' h1 h2
    split at h
    ·rename_i hc
     simp only[Option.some.injEq,Prod.mk.injEq]at h
     obtain⟨rfl,rfl⟩:=h
     exact⟨o,ho,h1,h2,hc.1,hc.2.1,hc.2.2.1,hc.2.2.2.1,hc.2.2.2.2⟩
    ·cases h
   ·cases h
  ·cases h
 ·cases h
theorem Ic {ops:Array Oper} {o:Oper} {a:Act} (h:o.guard=none):Region.wanted o (yielded ops a.tmps)=true:=by unfold Region.wanted;rw[h]
theorem Xk {C:Aq} (hC:Ar P C) {ops:Array Oper} {n:Nat} {an:List (Nat×FZ)} {Bl hd tl:List Ap} {m f:Nat} {t kt el:TypeId} {d1 d2 tm tk tx:Nat} {l:IQ} {nz:Nat} {ze:AV}
 (hat:RG ops m=some (t,d1,d2,tm,tk,tx)) (hu:P.underlying t=some (.map kt el)) (hl:EJ P kt=some l) (hze:Et P el=some (nz,ze)) (hd2:d2<n)
 (YF:Bl=hd++(Iu l d1 d2 tm tk tx++tl)) (hhd:hd.length=m) (htl:Cc P ops n an (ops.toList.drop (m+3)) (m+3)=some tl) (hok:Gs ops Bl m f) (hfm:f<m) {Q:Exit→Act→World→Prop} {e:Az} {env env':Env} {s s':Ag}
 (hev:CX C (Bl.drop m) env s=some (e,env',s')) {ts:Array Value} {ds:List Deferred} {w:World} {Z:Bh} {φ:D8} (hI:Inv w0 B s Z φ w) (hE:Ak w Z φ s.ctr env ts) (hp:Post w0 B w Z φ s.ctr n ds e env' s' Q):
 ∃w1 xv nb,(Instr.mapEntry t (ts.getD tm undef) (ts.getD tk undef)).run P w=.ok (.tuple #[xv,.int .i64 nb]) w1∧
  (∀ (fuel:Nat) (listed:Array Bool) (a:Act),ops.size≤m+2+fuel→listed.size=ops.size→(∀ i,i<ops.size→(AU listed i=true↔i<m+2))→a.tmps.size=n→a.defers=ds→a.tmps.getD d2 undef=.int .i64 nb→(∀ x,x≠d1→x≠d2→a.tmps.getD x undef=ts.getD x undef)→wpAny P .any ops Q fuel listed a w1)∧
  (∀ (fuel:Nat) (listed:Array Bool) (a:Act),ops.size≤m+1+fuel→listed.size=ops.size→(∀ i,i<ops.size→(AU listed i=true↔i<m+1))→a.tmps.size=n→a.defers=ds→a.tmps.getD d1 undef=.tuple #[xv,.int .i64 nb]→(∀ x,x≠d1→x≠d2→a.tmps.getD x undef=ts.getD x undef)→wpAny P .any ops Q fuel listed a w1):=by
 obtain⟨o1,o2,o3,t',g1,g2,g3,⟨p1,p2,p3⟩,⟨q1,q2,q3⟩,⟨r1,r2,r3⟩,hne,⟨hm1,hm2⟩,⟨hk1,hk2⟩,⟨hx1,hx2⟩,hmx,hkx⟩:=JQ hat
 have hsize:m+2<ops.size:=(Array.getElem?_eq_some_iff.1 g3).1
 obtain⟨hlt,hgt⟩:=CU htl
 have hal:Bl.length=ops.size:=by
  rw[YF,List.length_append,List.length_append,hlt,hhd]
  simp[Iu]
  omega
 have hdrop:Bl.drop m=Iu l d1 d2 tm tk tx++tl:=by rw[YF,←hhd,List.drop_left]
 have Ab8:Bl.drop (m+3)=tl:=by
  rw[← List.drop_drop,hdrop]
  rfl
 have hget:∀(k:Nat) (o:Oper),m+3≤k→ops.toList[k]?=some o→∃ao,Bl[k]?=some ao∧Jd P o (Ru an (0+k))=some ao.op∧Ec ops n o.guard=some ao.guard∧ao.dst=o.dst∧(∀ d,o.dst=some d→d<n):=by
  intro k o hk ho
  obtain⟨ao,a1,a2,a3,a4,a5⟩:=hgt (k-(m+3)) o (by rw[List.getElem?_drop,show m+3+(k-(m+3))=k by omega];exact ho)
  refine⟨ao,?_,?_,a3,a4,a5⟩
  ·rw[← Ab8,List.getElem?_drop,show m+3+(k-(m+3))=k by omega]at a1
   exact a1
  ·rw[Nat.zero_add,show k=m+3+(k-(m+3)) by omega]
   exact a2
 obtain⟨Di,Ab9⟩:∃Di,AI.put (some d2) .junk (AI.put (some d1) .junk env)=Di:=⟨_,rfl⟩
 have hev2:(match Ae C (.mapset l (.tmp tm) (.tmp tk) (.tmp tx)) Di s with
  |some (.ok v,s1)=>CX C tl Di s1
  |some (.Ee v,s1)=>some (.Ee v,Di,s1)
  |none=>none)=some (e,env',s'):=by
  rw[hdrop]at hev
  rw[← Ab9]
  exact hev
 have Aca:∀x,x≠d1→x≠d2→Di.get x=env.get x:=fun x h1 h2=>by
  rw[← Ab9,get_put,if_neg (fun h=>h2 (Option.some.inj h).symm),get_put,if_neg (fun h=>h1 (Option.some.inj h).symm)]
 split at hev2
 case h_3=>cases hev2
 case h_2 v s1 hop=>
  obtain⟨v',hv'⟩:=CY rfl hop
  cases hv'
 case h_1 v s1 hop=>
 obtain⟨rfl,w1,xv,nb,w2,hrun1,hrun2,hI2,hL2⟩:=AaH hI hu hze hl (hE tm) (hE tk) (hE tx) (show (AO.tmp tm).val Di=_ from Aca tm hm1 hm2) (show (AO.tmp tk).val Di=_ from Aca tk hk1 hk2) (show (AO.tmp tx).val Di=_ from Aca tx hx1 hx2) hop
 have T2:∀(fuel:Nat) (listed:Array Bool) (a:Act),ops.size≤m+2+fuel→listed.size=ops.size→(∀ i,i<ops.size→(AU listed i=true↔i<m+2))→a.tmps.size=n→a.defers=ds→a.tmps.getD d2 undef=.int .i64 nb→(∀ x,x≠d1→x≠d2→a.tmps.getD x undef=ts.getD x undef)→wpAny P .any ops Q fuel listed a w1:=by
  intro fuel listed a hf hs2 hL2' hn hds h1 h2
  obtain⟨fu,rfl⟩:∃fu,fuel=fu+1:=⟨fuel-1,by omega⟩
  refine KJ hok (.inl hfm) (by omega) (by omega) hs2 hL2' fun hs3 hL3=>?_
  unfold wpOp
  rw[g3]
  simp only[Ic r3,if_true]
  refine .inl (JR (w':=w2) (by
   have e1:a.eval (.tmp d2)=.int .i64 nb:=h1
   have e2:a.eval (.tmp tm)=ts.getD tm undef:=h2 tm hm1 hm2
   have e3:a.eval (.tmp tx)=ts.getD tx undef:=h2 tx hx1 hx2
   have hr:(Instr.entryStore t' (a.eval (.tmp tm)) (a.eval (.tmp d2)) (a.eval (.tmp tx))).run P w1=.ok () w2:=by
        rw[e1,e2,e3]
        exact hrun2
   simp[execOp,r1,hr]) ?_)
  rw[r2]
  obtain⟨z5,z6⟩:=size_put a none undef
  have hE2:Ak w2 Z φ s1.ctr Di a.tmps:=by
   intro x
   have h3:=(hE.later hL2) x
   rw[← Ab9,get_put]
   by_cases k2:some d2=some x
   ·rw[if_pos k2];exact .junk _
   ·rw[if_neg k2,get_put]
    by_cases k3:some d1=some x
    ·rw[if_pos k3];exact .junk _
    ·rw[if_neg k3,h2 x (fun h=>k3 (by rw[h])) (fun h=>k2 (by rw[h]))]
     exact h3
  exact P9 hC (m:=m) (m':=m+3) (by omega) hal hget hok (.inl (by omega)) fu (m+3) _ Di s1 _ w2 Z φ (Nat.le_refl _) (by omega) (by omega) hs3 hL3 (by rw[Ab8];exact hev2) hI2 hE2 (z5.trans hn) (by rw[z6,hds];exact hp.later hL2)
 refine⟨w1,xv,nb,hrun1,T2,?_⟩
 intro fuel listed a hf hs1 hL1 hn hds h1 h2
 obtain⟨fu,rfl⟩:∃fu,fuel=fu+1:=⟨fuel-1,by omega⟩
 refine KJ hok (.inl hfm) (by omega) (by omega) hs1 hL1 fun hs2 hL2'=>?_
 unfold wpOp
 rw[g2]
 simp only[Ic q3,if_true]
 refine .inl (AQ (x:=.int .i64 nb) (w':=w1) (by
  have e1:a.eval (.tmp d1)=.tuple #[xv,.int .i64 nb]:=h1
  simp[execOp,q1,e1,Instr.extract]) ?_)
 rw[q2]
 obtain⟨z3,z4⟩:=size_put a (some d2) (.int .i64 nb)
 have t2:∀x,(a.put (some d2) (.int .i64 nb)).tmps.getD x undef=if some d2=some x then .int .i64 nb else a.tmps.getD x undef:=fun x=>Ir a (some d2) _ x (fun k hk=>by cases hk;omega)
 exact T2 fu _ _ (by omega) hs2 hL2' (z3.trans hn) (z4.trans hds) (by rw[t2,if_pos rfl]) fun x k1 k2=>by rw[t2,if_neg (fun h=>k2 (Option.some.inj h).symm)];exact h2 x k1 k2
theorem Xl {C:Aq} (hC:Ar P C) {ops:Array Oper} {n:Nat} {an:List (Nat×FZ)} {Bl hd tl:List Ap} {m f:Nat} {t kt el:TypeId} {d1 d2 tm tk tx:Nat} {l:IQ} {nz:Nat} {ze:AV}
 (hat:RG ops m=some (t,d1,d2,tm,tk,tx)) (hu:P.underlying t=some (.map kt el)) (hl:EJ P kt=some l) (hze:Et P el=some (nz,ze)) (hd1:d1<n) (hd2:d2<n)
 (YF:Bl=hd++(Iu l d1 d2 tm tk tx++tl)) (hhd:hd.length=m) (htl:Cc P ops n an (ops.toList.drop (m+3)) (m+3)=some tl) (hok:Gs ops Bl m f) (hfm:f<m) {Q:Exit→Act→World→Prop} {e:Az} {env env':Env} {s s':Ag}
 (hev:CX C (Bl.drop m) env s=some (e,env',s')) (fuel:Nat) (listed:Array Bool) (a:Act) (w:World) (Z:Bh) (φ:D8) (hf:ops.size≤m+fuel) (hsz:listed.size=ops.size) (hL:∀i,i<ops.size→(AU listed i=true↔i<m))
 (hI:Inv w0 B s Z φ w) (hE:Ak w Z φ s.ctr env a.tmps) (hn:a.tmps.size=n) (hp:Post w0 B w Z φ s.ctr n a.defers e env' s' Q):wpAny P .any ops Q fuel listed a w:=by
 obtain⟨w1,xv,nb,hrun1,T2,T1⟩:=Xk hC hat hu hl hze hd2 YF hhd htl hok hfm hev hI hE hp
 obtain⟨o1,o2,o3,t',g1,g2,g3,⟨p1,p2,p3⟩,_,_,hne,_⟩:=JQ hat
 have hsize:m+2<ops.size:=(Array.getElem?_eq_some_iff.1 g3).1
 obtain⟨fu,rfl⟩:∃fu,fuel=fu+1:=⟨fuel-1,by omega⟩
 refine KJ hok (.inl hfm) (Nat.le_refl _) (by omega) hsz hL fun hs1 hL1=>?_
 unfold wpOp
 rw[g1]
 simp only[Ic p3,if_true]
 refine .inl (AQ (x:=.tuple #[xv,.int .i64 nb]) (w':=w1) (by
  have hr:(Instr.mapEntry t (a.eval (.tmp tm)) (a.eval (.tmp tk))).run P w=.ok (.tuple #[xv,.int .i64 nb]) w1:=hrun1
  simp[execOp,p1,hr]) ?_)
 rw[p2]
 obtain⟨z1,z2⟩:=size_put a (some d1) (.tuple #[xv,.int .i64 nb])
 have t1:∀x,(a.put (some d1) (.tuple #[xv,.int .i64 nb])).tmps.getD x undef=if some d1=some x then .tuple #[xv,.int .i64 nb]else a.tmps.getD x undef:=fun x=>Ir a (some d1) _ x (fun k hk=>by cases hk;omega)
 exact T1 fu _ _ (by omega) hs1 hL1 (z1.trans hn) z2 (by rw[t1,if_pos rfl]) fun x k1 k2=>by rw[t1,if_neg (fun h=>k1 (Option.some.inj h).symm)]
theorem Nj {ops:Array Oper} {Bl:List Ap} {m f k:Nat} (hok:Gs ops Bl m f) (hfm:f<m) {Q:Exit→Act→World→Prop} {fuel:Nat} {listed:Array Bool} {a:Act} {w:World} (hjlt:m+k<ops.size) (hsz:listed.size=ops.size) (hcl:Closed ops (AU listed))
 (hL:∀i,i<ops.size→(AU listed i=true↔i<m+k∧i≠f))
 (h1:(listed.setIfInBounds f true).size=ops.size→(∀ i,i<ops.size→(AU (listed.setIfInBounds f true) i=true↔i<m+k))→wpOp P ops Q f (wpAny P .any ops Q fuel (listed.setIfInBounds f true)) a w)
 (h2:(((Region.before ops).getD (m+k) 0).testBit f=false)→(listed.setIfInBounds (m+k) true).size=ops.size→Closed ops (AU (listed.setIfInBounds (m+k) true))→(∀ i,i<ops.size→(AU (listed.setIfInBounds (m+k) true) i=true↔i<m+k+1∧i≠f))→wpOp P ops Q (m+k) (wpAny P .any ops Q fuel (listed.setIfInBounds (m+k) true)) a w):wpAny P .any ops Q (fuel+1) listed a w:=by
 have hlf:AU listed f=false:=by
  cases hl:AU listed f
  ·rfl
  ·have:=(hL f (by omega)).1 hl;omega
 refine⟨fun hr=>?_,fun i hi=>?_⟩
 ·exfalso
  have hof:ops[f]?=some ops[f]:=Array.getElem?_eq_getElem (by omega)
  have:f∈Region.ready .any ops listed:=by
   refine(CG hsz).2 ⟨_,hof,hlf,fun e' he' hb=>?_⟩
   have:=hok.fwd f _ hof e' he' hb
   exact(hL _ (by omega)).2 (by omega)
  rw[hr]at this
  cases this
 ·obtain⟨o,ho,hl,Ku⟩:=(CG hsz).1 hi
  have hilt:=(Array.getElem?_eq_some_iff.1 ho).1
  by_cases hif:i=f
  ·subst hif
   refine h1 (by simpa using hsz) fun q hq=>?_
   rw[Hu (by omega)]
   by_cases he:q=i
   ·subst he;simp;omega
   ·rw[if_neg he,hL q hq];omega
  ·have hge:m+k≤i:=by
        rcases Nat.lt_or_ge i (m+k)with h|h
        ·rw[(hL i hilt).2 ⟨h,hif⟩]at hl;cases hl
        ·exact h
   have hik:i=m+k:=by
        rcases Nat.lt_or_ge (m+k) i with h|h
        ·exfalso
         have key:∀(L:Nat→Bool),(∀ q,q<ops.size→q≠f→AU listed q=true→L q=true)→L f=true→(∀ q,q<ops.size→L q=true→q=f∨AU listed q=true)→((Region.before ops).getD i 0).testBit (m+k)=true→False:=by
          intro L l1 l2 l3 hb
          have hcl:Closed ops L:=by
           intro q oq hq hlq e' he' hb'
           have hql:=(Array.getElem?_eq_some_iff.1 hq).1
           have hlt:=hok.fwd q oq hq e' he' hb'
           by_cases hef:e'.on=f
           ·rw[hef];exact l2
           ·rcases l3 q hql hlq with h'|h'
            ·exact l1 _ (by omega) hef ((hL _ (by omega)).2 ⟨by omega,hef⟩)
            ·have:=(hL q hql).1 h'
             exact l1 _ (by omega) hef ((hL _ (by omega)).2 ⟨by omega,hef⟩)
          have:=BU hok.fwd hcl i o ho (fun e' he' hb'=>by
           have hlt:=hok.fwd i o ho e' he' hb'
           by_cases hef:e'.on=f
           ·rw[hef];exact l2
           ·exact l1 _ (by omega) hef (Ku e' he' hb')) hb
          rcases l3 _ hjlt this with h'|h'
          ·omega
          ·have:=(hL _ hjlt).1 h';omega
         exact key (fun q=>if q=f then true else AU listed q) (fun q _ hqf hq=>by simp only[if_neg hqf];exact hq) (if_pos rfl) (fun q _ hq=>by
          by_cases e:q=f
          ·exact .inl e
          ·simp only[if_neg e]at hq;exact .inr hq) (hok.tail i hilt (by omega) (m+k) h (by omega))
        ·omega
   subst hik
   refine h2 ?_ (by simpa using hsz) (fun q oq hq hlq e' he' hb'=>?_) fun q hq=>?_
   ·cases hb:((Region.before ops).getD (m+k) 0).testBit f
    ·rfl
    ·have:=BU hok.fwd hcl (m+k) o ho Ku hb
     rw[hlf]at this;cases this
   ·have hset:∀x,AU (listed.setIfInBounds (m+k) true) x=if x=m+k then true else AU listed x:=Hu (by omega)
    rw[hset]at hlq ⊢
    by_cases he:q=m+k
    ·subst he
     rw[ho]at hq
     cases hq
     split
     ·rfl
     ·exact Ku e' he' hb'
    ·rw[if_neg he]at hlq
     split
     ·rfl
     ·exact hcl q oq hq hlq e' he' hb'
   ·rw[Hu (by omega)]
    by_cases he:q=m+k
    ·subst he;simp;omega
    ·rw[if_neg he,hL q hq];omega
theorem Aeh {C:Aq} (hC:Ar P C) {ops:Array Oper} {n:Nat} {an:List (Nat×FZ)} {Bl hd tl:List Ap} {m f ty:Nat} {t kt el:TypeId} {d1 d2 tm tk tx:Nat} {l:IQ} {nz:Nat} {ze:AV}
 (hat:RG ops m=some (t,d1,d2,tm,tk,tx)) (hu:P.underlying t=some (.map kt el)) (hl:EJ P kt=some l) (hze:Et P el=some (nz,ze)) (hd1:d1<n) (hd2:d2<n) (hcp:QS ops m tx d1 d2=some (f,ty))
 (YF:Bl=hd++(Iu l d1 d2 tm tk tx++tl)) (hhd:hd.length=m) (htl:Cc P ops n an (ops.toList.drop (m+3)) (m+3)=some tl) (hok:Gs ops Bl m f) {Q:Exit→Act→World→Prop} {e:Az} {env BD env':Env} {s s':Ag}
 (hev:CX C (Bl.drop m) env s=some (e,env',s')) (htx:tx<n) (fuel:Nat) (listed:Array Bool) (a:Act) (w:World) (Z:Bh) (φ:D8) (hf:ops.size+1≤m+(fuel+1)) (hsz:listed.size=ops.size) (hcl:Closed ops (AU listed)) (hL:∀i,i<ops.size→(AU listed i=true↔i<m∧i≠f))
 (hI:Inv w0 B s Z φ w) (hE:Ak w Z φ s.ctr BD a.tmps) (hn:a.tmps.size=n) (hp:Post w0 B w Z φ s.ctr n a.defers e env' s' Q) (hfull:∀x,env.get x=if x=tx then BD.get ty else BD.get x):wpAny P .any ops Q (fuel+1) listed a w:=by
 obtain⟨oc,c1,c2,c3,c4,c5,c6,hfm,c8⟩:=Oe hcp
 obtain⟨o1,o2,o3,t',g1,g2,g3,⟨p1,p2,p3⟩,⟨q1,q2,q3⟩,_,hne,⟨hm1,hm2⟩,⟨hk1,hk2⟩,⟨hx1,hx2⟩,hmx,hkx⟩:=JQ hat
 have hsize:m+2<ops.size:=(Array.getElem?_eq_some_iff.1 g3).1
 obtain⟨vx,hvx⟩:∃vx,a.tmps.getD ty undef=vx:=⟨_,rfl⟩
 have cp:∀a':Act,a'.tmps.size=n→(∀ x,x≠d1→x≠d2→a'.tmps.getD x undef=a.tmps.getD x undef)→∀(K:Act→World→Prop) (w':World),K (a'.put (some tx) vx) w'→wpOp P ops Q f K a' w':=by
  intro a' hn' ha' K w' hK
  unfold wpOp
  rw[c1]
  simp only[Ic c3,if_true]
  refine .inl (AQ (x:=vx) (w':=w') (by
   have e1:a'.eval (.tmp ty)=vx:=(ha' ty c5 c6).trans hvx
   simp[execOp,c2,e1]) ?_)
  rw[c4]
  exact hK
 obtain⟨ts,hts⟩:∃ts,(a.put (some tx) vx).tmps=ts:=⟨_,rfl⟩
 have tF:∀x,ts.getD x undef=if some tx=some x then vx else a.tmps.getD x undef:=fun x=>by rw[← hts];exact Ir a (some tx) _ x (fun k hk=>by cases hk;omega)
 have hEF:Ak w Z φ s.ctr env ts:=by
  intro x
  rw[hfull,tF]
  by_cases h:x=tx
  ·subst h;rw[if_pos rfl,if_pos rfl,←hvx];exact hE ty
  ·rw[if_neg h,if_neg (fun e=>h (Option.some.inj e).symm)];exact hE x
 obtain⟨w1,xv,nb,hrun1,T2,T1⟩:=Xk (ts:=ts) (ds:=a.defers) hC hat hu hl hze hd2 YF hhd htl hok hfm hev hI hEF hp
 have YG:∀(a':Act) (d:Nat) (v:Value) (x:Nat),a'.tmps.size=n→d<n→(a'.put (some d) v).tmps.getD x undef=if some d=some x then v else a'.tmps.getD x undef:=fun a' d v x h1 h2=>Ir a' (some d) v x (fun k hk=>by cases hk;omega)
 have same:∀(a':Act),a'.tmps.size=n→(∀ x,x≠d1→x≠d2→a'.tmps.getD x undef=a.tmps.getD x undef)→∀x,x≠d1→x≠d2→(a'.put (some tx) vx).tmps.getD x undef=ts.getD x undef:=by
  intro a' hn' ha' x k1 k2
  rw[YG a' tx vx x hn' htx,tF]
  by_cases h:some tx=some x
  ·rw[if_pos h,if_pos h]
  ·rw[if_neg h,if_neg h];exact ha' x k1 k2
 obtain⟨f3,rfl⟩:∃f3,fuel=f3+1+1:=⟨fuel-2,by omega⟩
 refine Nj (k:=0) hok hfm (by omega) hsz hcl (by simpa using hL) (fun hs1 hL1=>cp a hn (fun _ _ _=>rfl) _ _ ?_) (fun _ hs1 Akn hL1=>?_)
 ·have:=size_put a (some tx) vx
  exact Xl hC hat hu hl hze hd1 hd2 YF hhd htl hok hfm hev _ _ _ w Z φ (by omega) hs1 (by simpa using hL1) hI (by rw[hts];exact hEF) (this.1.trans hn) (by rw[this.2];exact hp)
 unfold wpOp
 rw[Nat.add_zero,g1]
 simp only[Ic p3,if_true]
 refine .inl (AQ (x:=.tuple #[xv,.int .i64 nb]) (w':=w1) (by
  have e1:a.eval (.tmp tm)=ts.getD tm undef:=((tF tm).trans (if_neg fun e=>hmx (Option.some.inj e).symm)).symm
  have e2:a.eval (.tmp tk)=ts.getD tk undef:=((tF tk).trans (if_neg fun e=>hkx (Option.some.inj e).symm)).symm
  have hr:(Instr.mapEntry t (a.eval (.tmp tm)) (a.eval (.tmp tk))).run P w=.ok (.tuple #[xv,.int .i64 nb]) w1:=by rw[e1,e2];exact hrun1
  simp[execOp,p1,hr]) ?_)
 rw[p2]
 obtain⟨a1,ha1⟩:∃a1,a.put (some d1) (.tuple #[xv,.int .i64 nb])=a1:=⟨_,rfl⟩
 have z1:=size_put a (some d1) (.tuple #[xv,.int .i64 nb])
 have e1:a1.tmps.getD d1 undef=.tuple #[xv,.int .i64 nb]:=by rw[← ha1,YG a d1 _ d1 hn hd1,if_pos rfl]
 have s1:∀x,x≠d1→x≠d2→a1.tmps.getD x undef=a.tmps.getD x undef:=fun x k1 _=>by rw[← ha1,YG a d1 _ x hn hd1,if_neg (fun e=>k1 (Option.some.inj e).symm)]
 rw[ha1]at z1 ⊢
 have hn1:=z1.1.trans hn
 refine Nj (k:=1) hok hfm (by omega) hs1 Akn hL1 (fun hs2 hL2=>cp a1 hn1 s1 _ _ ?_) (fun _ hs2 Ako hL2=>?_)
 ·have z2:=size_put a1 (some tx) vx
  exact T1 _ _ _ (by omega) hs2 hL2 (z2.1.trans hn1) (z2.2.trans z1.2) (by rw[YG a1 tx vx d1 hn1 htx,if_neg (fun e=>hx1 (Option.some.inj e)),e1]) (same a1 hn1 s1)
 unfold wpOp
 rw[g2]
 simp only[Ic q3,if_true]
 refine .inl (AQ (x:=.int .i64 nb) (w':=w1) (by
  have e2:a1.eval (.tmp d1)=.tuple #[xv,.int .i64 nb]:=e1
  simp[execOp,q1,e2,Instr.extract]) ?_)
 rw[q2]
 obtain⟨a2,ha2⟩:∃a2,a1.put (some d2) (.int .i64 nb)=a2:=⟨_,rfl⟩
 have z2:=size_put a1 (some d2) (.int .i64 nb)
 have e3:a2.tmps.getD d2 undef=.int .i64 nb:=by rw[← ha2,YG a1 d2 _ d2 hn1 hd2,if_pos rfl]
 have s2:∀x,x≠d1→x≠d2→a2.tmps.getD x undef=a.tmps.getD x undef:=fun x k1 k2=>by rw[← ha2,YG a1 d2 _ x hn1 hd2,if_neg (fun e=>k2 (Option.some.inj e).symm)];exact s1 x k1 k2
 rw[ha2]at z2 ⊢
 have hn2:=z2.1.trans hn1
 refine Nj (k:=2) hok hfm (by omega) hs2 Ako hL2 (fun hs3 hL3=>cp a2 hn2 s2 _ _ ?_) (fun hb=>absurd c8 (by rw[hb];simp))
 have z3:=size_put a2 (some tx) vx
 exact T2 _ _ _ (by omega) hs3 hL3 (z3.1.trans hn2) (z3.2.trans (z2.2.trans z1.2)) (by rw[YG a2 tx vx d2 hn2 htx,if_neg (fun e=>hx2 (Option.some.inj e)),e3]) (same a2 hn2 s2)
end AI
end Go.Proofs.YtiimoiecghmebaaDoor
