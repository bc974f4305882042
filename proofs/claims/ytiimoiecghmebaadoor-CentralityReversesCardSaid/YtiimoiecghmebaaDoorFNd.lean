/- Texts whose way hangs on what is drawn: a range over a map that is never written again. -/
import Derived.Test.YtiimoiecghmebaaDoorFVa
import Derived.Laws.IdiomRangeMap
set_option linter.unusedVariables false
set_option linter.unusedSimpArgs false
namespace Go.Proofs.YtiimoiecghmebaaDoor
namespace AI
open Go.RowKit
variable {P:Program} {AP:Nat→Option Hf} {w0 w w':World} {B:Nat} {Z Z':Bh} {φ φ':D8} {s s':Ag} {n:Nat}
def AW (P:Program) (n:Nat) (c:Code) (env:Env) (s:Ag) (Q:Az→Env→Ag→Prop):Prop:=
 ∀(w0:World) (B:Nat) (Z:Bh) (φ:D8) (w:World) (a:Act) (K:Exit→Act→World→Prop),Inv w0 B s Z φ w→Ak w Z φ s.ctr env a.tmps→a.tmps.size=n→
  (∀ e env' s',Q e env' s'→Post w0 B w Z φ s.ctr n a.defers e env' s' K)→c.wp P K a w
theorem AW.mono {c:Code} {env:Env} {s:Ag} {Q Q':Az→Env→Ag→Prop} (h:AW P n c env s Q) (hq:∀e env s,Q e env s→Q' e env s):AW P n c env s Q':=
 fun w0 B Z φ w a K hI hE hn hp=>h w0 B Z φ w a K hI hE hn fun e env' s' k=>hp e env' s' (hq e env' s' k)
theorem AW.of_run (hS:∀N,Ar P (run AP N)) (hm:P.follows .mixedOrders=true) {an:List EP} {c:Code} {ac:AY} (hc:BH P n an c=some ac) {env:Env} {s:Ag} {Q:Az→Env→Ag→Prop} (h:Run AP ac env s Q):AW P n c env s Q:=by
 obtain⟨N,e,env',s',h1,h2⟩:=h.1
 exact fun w0 B Z φ w a K hI hE hn hp=>J9 (hS N) hm N c ac hc env s a w Z φ e env' s' K h1 hI hE hn (hp e env' s' h2)
theorem AW.commit {c:Code} {env:Env} {s:Ag} {Q:Az→Env→Ag→Prop} (L:List Nat) (h:AW P n c (AI.commit env L) s Q):AW P n c env s Q:=
 fun w0 B Z φ w a K hI hE hn hp=>h w0 B Z φ w a K hI (hE.commit L) hn hp
def AfR (P:Program) (n:Nat) (y:Code) (Q:Az→Env→Ag→Prop):Az→Env→Ag→Prop
 | .normal,env,s=>AW P n y env s Q
 |e,env,s=>Q e env s
theorem AW.seq {x y:Code} {env:Env} {s:Ag} {Q:Az→Env→Ag→Prop} (h:AW P n x env s (AfR P n y Q)):AW P n (.seq x y) env s Q:=by
 intro w0 B Z φ w a K hI hE hn hp
 refine wp_seq (h w0 B Z φ w a _ hI hE hn fun e env' s' hq=>?_)
 intro e' a' w' Z' φ' q1 q2 q3 q4 q5 q6
 cases e with
 |normal=>cases q1;exact hq w0 B Z' φ' w' a' K q4 q5 q2 fun e AdC s'' hq'=>by rw[q3];exact(hp e AdC s'' hq').later q6
 |exit id=>cases q1;exact hp _ _ _ hq _ a' w' Z' φ' rfl q2 q3 q4 q5 q6
 |ret=>cases q1;exact hp _ _ _ hq _ a' w' Z' φ' rfl q2 q3 q4 q5 q6
 |Ee v=>obtain⟨x,rfl,hx⟩:=q1;exact hp _ _ _ hq _ a' w' Z' φ' ⟨x,rfl,hx⟩ q2 q3 q4 q5 q6
def Aar (id:Nat) (Q:Az→Env→Ag→Prop):Az→Env→Ag→Prop
 | .exit j,env,s=>if j=id then Q .normal env s else Q (.exit j) env s
 |e,env,s=>Q e env s
theorem AW.block {id:Nat} {x:Code} {env:Env} {s:Ag} {Q:Az→Env→Ag→Prop} (h:AW P n x env s (Aar id Q)):AW P n (.block id x) env s Q:=by
 intro w0 B Z φ w a K hI hE hn hp
 refine wp_block (h w0 B Z φ w a _ hI hE hn fun e env' s' hq=>?_)
 intro e' a' w' Z' φ' q1 q2 q3 q4 q5 q6
 cases e with
 |normal=>cases q1;exact hp _ _ _ hq _ a' w' Z' φ' rfl q2 q3 q4 q5 q6
 |exit j=>
  cases q1
  simp only[Aar]at hq
  simp only[Exit.inBlock]
  split at hq
  ·rename_i hj
   rw[if_pos hj]
   exact hp _ _ _ hq _ a' w' Z' φ' rfl q2 q3 q4 q5 q6
  ·rename_i hj
   rw[if_neg hj]
   exact hp _ _ _ hq _ a' w' Z' φ' rfl q2 q3 q4 q5 q6
 |ret=>cases q1;exact hp _ _ _ hq _ a' w' Z' φ' rfl q2 q3 q4 q5 q6
 |Ee v=>obtain⟨x,rfl,hx⟩:=q1;exact hp _ _ _ hq _ a' w' Z' φ' ⟨x,rfl,hx⟩ q2 q3 q4 q5 q6
theorem AW.cond_true {c:Operand} {ao:AO} (ho:Ai c=some ao) {x y:Code} {env:Env} {s:Ag} {Q:Az→Env→Ag→Prop} (hv:ao.val env=.bool true) (h:AW P n x env s Q):AW P n (.cond c x y) env s Q:=by
 intro w0 B Z φ w a K hI hE hn hp
 have hr:=Aa hE ho
 rw[hv]at hr
 generalize hq:a.eval c=q at hr
 cases hr
 exact wp_cond_true hq (h w0 B Z φ w a K hI hE hn hp)
theorem AW.cond_false {c:Operand} {ao:AO} (ho:Ai c=some ao) {x y:Code} {env:Env} {s:Ag} {Q:Az→Env→Ag→Prop} (hv:ao.val env=.bool false) (h:AW P n y env s Q):AW P n (.cond c x y) env s Q:=by
 intro w0 B Z φ w a K hI hE hn hp
 have hr:=Aa hE ho
 rw[hv]at hr
 generalize hq:a.eval c=q at hr
 cases hr
 exact wp_cond_false hq (h w0 B Z φ w a K hI hE hn hp)
theorem AW.skip {env:Env} {s:Ag} {Q:Az→Env→Ag→Prop} (h:Q .normal env s):AW P n .skip env s Q:=
 fun w0 B Z φ w a K hI hE hn hp=>wp_skip (hp _ _ _ h .normal a w Z φ rfl hn rfl hI hE (Later.refl _ _ _ _ _))
theorem AW.exit {id:Nat} {env:Env} {s:Ag} {Q:Az→Env→Ag→Prop} (h:Q (.exit id) env s):AW P n (.exit id) env s Q:=
 fun w0 B Z φ w a K hI hE hn hp=>wp_exit (hp _ _ _ h (.exit id) a w Z φ rfl hn rfl hI hE (Later.refl _ _ _ _ _))
theorem AW.loop {x:Code} {Q:Az→Env→Ag→Prop} (I:Nat→Env→Ag→Prop) (step:∀m env s,I m env s→AW P n x env s fun e env' s'=>(e=.normal∧∃m',m'<m∧I m' env' s')∨(e≠.normal∧Q e env' s')) {m:Nat} {env:Env} {s:Ag} (h:I m env s):AW P n (.loop x) env s Q:=by
 intro w0 B Z φ w a K hI hE hn hp
 have key:∀(M m:Nat) (env:Env) (s:Ag) (a:Act) (w:World) (Z:Bh) (φ:D8),m<M→I m env s→Inv w0 B s Z φ w→Ak w Z φ s.ctr env a.tmps→a.tmps.size=n→(∀ e env' s',Q e env' s'→Post w0 B w Z φ s.ctr n a.defers e env' s' K)→Code.rounds P x K M a w:=by
  intro M
  induction M with
  |zero=>intro m env s a w Z φ hlt;omega
  |succ M ih=>
   intro m env s a w Z φ hlt hi hI hE hn hp
   rw[rounds_succ]
   refine step m env s hi w0 B Z φ w a _ hI hE hn fun e env' s' hq=>?_
   intro e' a' w' Z' φ' q1 q2 q3 q4 q5 q6
   rcases hq with⟨rfl,m',hm',hi'⟩|⟨hne,hq⟩
   ·cases q1
    exact ih m' env' s' a' w' Z' φ' (by omega) hi' q4 q5 q2 fun e AdC s'' hq'=>by rw[q3];exact(hp e AdC s'' hq').later q6
   ·have:=hp _ _ _ hq e' a' w' Z' φ' q1 q2 q3 q4 q5 q6
    cases e'<;>first|exact this|skip
    cases e<;>first|(exact absurd rfl hne)|(cases q1;done)|skip
    obtain⟨x,hx,_⟩:=q1;cases hx
 exact wp_loop_rounds (m+1) (key (m+1) m env s a w Z φ (by omega) h hI hE hn hp)
theorem O1 {C:Aq} (hC:Ar P C) {ops:Array Oper} {n:Nat} {an:List (Nat×FZ)} {Q:Exit→Act→World→Prop} {rest:List Nat}:∀(os:List Oper) (i:Nat) (Bl:List Ap) (env:Env) (s:Ag) (a:Act) (w:World) (Z:Bh) (φ:D8) (env':Env) (s':Ag),
 (∀ k o,os[k]?=some o→ops[i+k]?=some o)→Cc P ops n an os i=some Bl→CX C Bl env s=some (.normal,env',s')→Inv w0 B s Z φ w→Ak w Z φ s.ctr env a.tmps→a.tmps.size=n→
 (∀ a' w' Z' φ',a'.tmps.size=n→a'.defers=a.defers→Inv w0 B s' Z' φ' w'→Ak w' Z' φ' s'.ctr env' a'.tmps→Later B w Z φ s.ctr w' Z' φ' s'.ctr→wpOps P ops Q rest a' w')→wpOps P ops Q (List.range' i os.length++rest) a w
 |[],i,Bl,env,s,a,w,Z,φ,env',s',hos,hc,hev,hI,hE,hn,hp=>by
  simp only[Cc,Option.some.injEq]at hc
  subst hc
  simp only[CX,Option.some.injEq,Prod.mk.injEq]at hev
  obtain⟨_,rfl,rfl⟩:=hev
  exact hp a w Z φ hn rfl hI hE (Later.refl _ _ _ _ _)
 |o::os,i,Bl,env,s,a,w,Z,φ,env',s',hos,hc,hev,hI,hE,hn,hp=>by
  have ho:ops[i]?=some o:=by have:=hos 0 o rfl;simpa using this
  have Ab6:∀k o,os[k]?=some o→ops[i+1+k]?=some o:=fun k o h=>by
   have:=hos (k+1) o (by simpa using h)
   rw[show i+1+k=i+(k+1) by omega]
   exact this
  simp only[Cc]at hc
  split at hc
  ·rename_i ao g r h1 h2 h3
   split at hc
   ·rename_i hd
    simp only[Option.some.injEq]at hc
    subst hc
    have h4:∀d,o.dst=some d→d<n:=fun d hd'=>by rw[hd']at hd;simpa[Zz]using hd
    rw[List.length_cons,List.range'_succ,List.cons_append,wpOps_cons]
    simp only[CX]at hev
    refine Fj hC ho (ao:=⟨o.dst,ao,g⟩) h1 h2 rfl h4 hI hE hn ?_
    split at hev
    ·cases hev
    ·rename_i hw
     exact .inl ⟨hw,fun a' z1 z2 z3=>O1 hC os (i+1) r _ s a' w Z φ env' s' Ab6 h3 hev hI z3 z1 (z2▸hp)⟩
    ·rename_i hw
     refine .inr ⟨hw,?_⟩
     split at hev
     ·rename_i v s1 hop
      refine⟨.ok v,s1,hop,fun v' hv a' x w' Z' φ' ha' hr hI' hE' hL=>?_,(fun v' hv=>by cases hv)⟩
      cases hv
      subst ha'
      obtain⟨z1,z2⟩:=size_put a o.dst x
      exact O1 hC os (i+1) r _ s1 _ w' Z' φ' env' s' Ab6 h3 hev hI' hE' (z1.trans hn) fun a'' w'' WE Zr k1 k2 k3 k4 k5=>hp a'' w'' WE Zr k1 (k2.trans z2) k3 k4 (hL.trans k5)
     ·cases hev
     ·cases hev
   ·cases hc
  ·cases hc
theorem Ub {r:Nat} {a:Option Nat} {b:Nat} {c:Array Nat} {d:Nat} (h:w.heap[r]?=some (.mapIter a b c d)) (o:Go.Obj):(setObj r o).run P w=.ok () {w with heap:=w.heap.setIfInBounds r o}:=by
 simp[setObj,Sem.run,h]
theorem run_next_at (w:World) (ty:TypeId) (r bm since:Nat) (seen:Array Nat) (es:Array MapEntry) (clock:Nat) (hr:w.heap[r]?=some (.mapIter (some bm) since seen clock)) (hb:w.heap[bm]?=some (.map es clock)) (hold:∀x∈es.toList,x.born<since) (hsc:since≤clock):
 ((leftOf es seen).size=0∧(Instr.next (.pointer (some ⟨r,0,none⟩)) false ty).run P w=.ok (.tuple #[.bool false]) w)∨
 ∃e∈(leftOf es seen).toList,∃w1:World,(w1=w∨w1={w with drawn:=w.drawn+1})∧(Instr.next (.pointer (some ⟨r,0,none⟩)) false ty).run P w=.ok (.tuple #[.bool true,e.key,e.val]) {w1 with heap:=w1.heap.setIfInBounds r (.mapIter (some bm) since (seen.push e.born) clock)}:=by
 simp only[Instr.next,getObj,Sem.run_bind,Sem.run,hr,hb,Result.andThen,next_test_false seen es since clock hold hsc,Bool.false_eq_true,if_false]
 unfold leftOf
 have hmem:∀x∈(Array.filter (fun e=>!seen.contains e.born) es).toList,x.born<since:=fun x hx=>hold x (by simp at hx ⊢;exact hx.1)
 generalize Array.filter (fun e=>!seen.contains e.born) es=L at hmem ⊢
 have e1:L.filter (fun x=>decide (x.born<since))=L:=Array.filter_eq_self.2 (fun x hx=>by simpa using hmem x (by simpa using hx))
 have e2:L.filter (fun x=>decide (x.born≥since))=#[]:=by
  rw[Array.filter_eq_empty_iff]
  intro x hx
  have:=hmem x (by simpa using hx)
  simp
  omega
 simp only[e1,e2,Array.append_empty]
 by_cases h0:L.size=0
 ·left
  have:L=#[]:=Array.eq_empty_of_size_eq_zero h0
  subst this
  refine⟨rfl,?_⟩
  simp[choose,Sem.run,Question.forced]
 ·right
  have hne:L.isEmpty=false:=by simp[Array.isEmpty,h0]
  simp only[hne,Bool.false_eq_true,if_false,Array.empty_append,Array.size_map]
  have hch:∃(j:Nat) (w1:World),j<L.size∧(w1=w∨w1={w with drawn:=w.drawn+1})∧(choose (Question.mapNext L.size)).run P w=.ok j w1:=by
   by_cases hf:L.size≤1
   ·exact⟨0,w,by omega,.inl rfl,by simp[choose,Sem.run,Question.forced,hf]⟩
   ·exact⟨_,{w with drawn:=w.drawn+1},Nat.mod_lt _ (by omega),.inr rfl,by
     simp only[choose,Sem.run,Question.forced,decide_eq_true_eq,hf,if_false,Question.cut]
     rfl⟩
  obtain⟨j,w1,hj,hal,hrun⟩:=hch
  refine⟨L[j],by simp,w1,hal,?_⟩
  have hr1:w1.heap[r]?=some (.mapIter (some bm) since seen clock):=by rcases hal with rfl|rfl<;>exact hr
  simp only[hrun,Array.getElem?_map,Array.getElem?_eq_getElem hj,Option.map_some,Sem.run_bind,Ub hr1,Result.andThen]
  rfl
theorem run_entry_at (w:World) (r bm since:Nat) (seen:Array Nat) (es:Array MapEntry) (clock:Nat) (e:MapEntry) (hr:w.heap[r]?=some (.mapIter (some bm) since (seen.push e.born) clock)) (hb:w.heap[bm]?=some (.map es clock)) (he:e∈es.toList) (hn:(es.toList.map (·.born)).Nodup):
 (Instr.entry (.pointer (some ⟨r,0,none⟩))).run P w=.ok (.tuple #[e.key,e.val]) w:=by
 have hf:es.find? (·.born==e.born)=some e:=by rw[← Array.find?_toList];exact Go.find_born e es.toList hn he
 simp only[Instr.entry,getObj,Sem.run_bind,Sem.run,hr,hb,Result.andThen,Array.back?_push,bne_self_eq_false,Bool.false_eq_true,if_false,hf]
 rfl
theorem Inv.Ahj (hI:Inv w0 B s Z φ w) {o g:Nat} {x x':Go.Obj} (ho:s.σ[o]?=some (.raw g x)) {b e n:Nat} (hφ:φ g=.row b e n):
 Inv w0 B ⟨s.σ.set o (.raw g x'),s.ctr⟩ Z φ {w with heap:=w.heap.setIfInBounds b x'}∧Later B w Z φ s.ctr {w with heap:=w.heap.setIfInBounds b x'} Z φ s.ctr:=by
 obtain⟨k1,b',e',n',h3,hB,hb,hz⟩:=hI.objs o _ ho
 rw[hφ]at h3
 simp only[NQ.row.injEq]at h3
 obtain⟨rfl,_⟩:=h3
 have hblt:b<w.heap.size:=(Array.getElem?_eq_some_iff.1 hb).1
 have other:∀k,k≠b→(w.heap.setIfInBounds b x')[k]?=w.heap[k]?:=fun k hk=>Array.getElem?_setIfInBounds_ne (Ne.symm hk)
 have hbel:Below B w {w with heap:=w.heap.setIfInBounds b x'}:=⟨rfl,rfl,rfl,by simp,fun k hk=>other k (by omega)⟩
 have hL:Later B w Z φ s.ctr {w with heap:=w.heap.setIfInBounds b x'} Z φ s.ctr:=by
  refine⟨fun _ _ h=>.inl h,Nat.le_refl _,fun _ _ h=>h,fun b' i h=>?_,fun _ _=>rfl⟩
  exact other b' (by rintro rfl;exact hz i h)
 refine⟨hI.set ho hbel hL (fun b' i h=>by simpa using hI.live b' i h) (fun o' ob' g' b' e' n' hne ho' hg' hφ'=>⟨other b' ?_,fun i h=>h⟩) ?_ (fun g' b' e' n' hg' hφ'=>?_),hL⟩
 ·rintro rfl
  exact hne (hI.apart o' o ob' _ g' g _ _ _ _ _ ho' ho hg' rfl hφ' hφ)
 ·exact⟨k1,b,e,n,hφ,hB,by simp[hblt],hz⟩
 ·simp only[Obj.gen,Option.some.injEq]at hg'
  subst hg'
  rw[hφ]at hφ'
  simp only[NQ.row.injEq]at hφ'
  obtain⟨rfl,_⟩:=hφ'
  exact .inr ⟨g,e,n,rfl,hφ⟩
theorem JA {ops:Array Oper} {o:Oper} {i:Nat} (ho:ops[i]?=some o) (hg:o.guard=none) {Q:Exit→Act→World→Prop} {K:Act→World→Prop} {a:Act} (h:o.wp P a w K Q):wpOp P ops Q i K a w:=by
 unfold wpOp
 rw[ho]
 have:Region.wanted o (yielded ops a.tmps)=true:=by simp[Region.wanted,hg]
 simp only[this,if_true]
 exact .inl h
theorem BM {α:Type} {ops:Array α} {l:List α} (h:ops.toList=l) (i:Nat):ops[i]?=l[i]?:=by rw[← h,Array.getElem?_toList]
theorem Zk (n:Nat):List.range (n+1)=List.range' 0 n++[n]:=by rw[List.range_succ,List.range_eq_range']
theorem left_of {es:Array MapEntry} (hn:(es.toList.map (·.born)).Nodup) {seen:List Nat} (hs:∀i∈seen,i<es.size) {e:MapEntry} (he:e∈(leftOf es ((seen.map fun i=>((es[i]?).getD {key:=Go.undef,val:=Go.undef,born:=0}).born).toArray)).toList):
 ∃i,es[i]?=some e∧i∉seen:=by
 unfold leftOf at he
 rw[Array.toList_filter,List.mem_filter]at he
 obtain⟨h1,h2⟩:=he
 replace h1:=Array.mem_toList_iff.1 h1
 rw[List.contains_toArray]at h2
 replace h2:e.born∉seen.map fun i=>((es[i]?).getD {key:=Go.undef,val:=Go.undef,born:=0}).born:=fun hm=>by
  rw[List.contains_iff_mem.2 hm]at h2;cases h2
 obtain⟨i,hi,rfl⟩:=Array.getElem_of_mem h1
 refine⟨i,Array.getElem?_eq_getElem hi,fun hm=>h2 ?_⟩
 exact List.mem_map.2 ⟨i,hm,by rw[Array.getElem?_eq_getElem hi];rfl⟩
theorem Abz {es:Array MapEntry} (hn:(es.toList.map (·.born)).Nodup) {seen:List Nat} (hs:∀i∈seen,i<es.size) (h:(leftOf es ((seen.map fun i=>((es[i]?).getD {key:=Go.undef,val:=Go.undef,born:=0}).born).toArray)).size=0):∀i,i<es.size→i∈seen:=by
 intro i hi
 refine Classical.byContradiction fun hns=>?_
 have hm:es[i]∈leftOf es ((seen.map fun i=>((es[i]?).getD {key:=Go.undef,val:=Go.undef,born:=0}).born).toArray):=by
  unfold leftOf
  rw[Array.mem_filter]
  refine⟨Array.getElem_mem hi,?_⟩
  rw[List.contains_toArray,Bool.not_eq_true']
  rw[Bool.eq_false_iff]
  intro hm
  replace hm:=List.contains_iff_mem.1 hm
  obtain⟨j,hj,e⟩:=List.mem_map.1 hm
  have hj2:=hs j hj
  rw[Array.getElem?_eq_getElem hj2]at e
  simp only[Option.getD_some]at e
  have hji:j=i:=by
   have h1:(es.toList.map (·.born))[j]?=some (es[i].born):=by simp[hj2,e]
   have h2:(es.toList.map (·.born))[i]?=some (es[i].born):=by simp[hi]
   exact(List.getElem?_inj (by simpa using hj2) hn).1 (h1.trans h2.symm)
  exact hns (hji▸hj)
 rw[Array.eq_empty_of_size_eq_zero h]at hm
 simp at hm
abbrev Afc (id1 id2 out next more:Nat) (Wy ops2:Array Oper) (code:Code):Code:=.seq (.region id1 Wy false) (.seq (.cond (.tmp more) .skip (.exit out)) (.block next (.seq (.region id2 ops2 false) code)))
theorem AW.range (hS:∀N,Ar P (run AP N)) (hm:P.follows .mixedOrders=true) {an:List EP} {anA anB:List (Nat×FZ)} {id0 id1 id2 out next it nx more pair:Nat} {AdD Wy ops2:Array Oper} {XO Y1:List Oper} {oR oN oX oE:Oper} {code:Code} {AcU AcV:List Ap} {AdE:AY}
 {t kt et:TypeId} {xm:Operand} {am:AO}
 (h0:AdD.toList=XO++[oR]) (hA:Cc P AdD n anA XO 0=some AcU) (r1:oR.dst=some it) (r2:oR.op=.range t xm) (r3:oR.guard=none) (r4:P.underlying t=some (.map kt et)) (r5:Ai xm=some am) (hit:it<n)
 (h1:Wy.toList=[oN,oX]) (n1:oN.dst=some nx) (n2:oN.op=.next (.tmp it) false) (n3:oN.guard=none) (x1:oX.dst=some more) (x2:oX.op=.extract (.tmp nx) 0) (x3:oX.guard=none) (hnx:nx<n) (hmore:more<n) (hne:it≠nx∧it≠more∧nx≠more)
 (h2:ops2.toList=oE::Y1) (e1:oE.dst=some pair) (e2:oE.op=.entry (.tmp it)) (e3:oE.guard=none) (Ajh:pair<n) (hB:Cc P ops2 n anB Y1 1=some AcV) (hC:BH P n an code=some AdE)
 {env Ahk:Env} {s s0:Ag} {fz L:List Nat} (hfz:Fz fz env s=some (Ahk,s0)) {ents:List (AV×AV)} {J:Go.Obj→List Nat→Env→Ag→Prop} {Q:Az→Env→Ag→Prop}
 (pre:Ops AP AcU Ahk s0 fun e BD s1=>e=.normal∧am.val BD=.fmap ents∧∃oi gi,oi=s1.σ.length∧gi=s1.ctr∧
   (∀ x,J x [] (AI.commit ((it,.ref oi gi 0 0)::BD) L) (push s1 (.raw gi x)))∧
   (∀ x seen env s,J x seen env s→env.get it=.ref oi gi 0 0∧nth s.σ oi=some (.raw gi x))∧
   (∀ x x' seen i env s e,J x seen env s→nth ents i=some e→i∉seen→
        Ops AP AcV ((pair,.Dy [e.1,e.2])::(more,.bool true)::(nx,.junk)::env) ⟨s.σ.set oi (.raw gi x'),s.ctr⟩ fun e1 Di s2=>e1=.normal∧Run AP AdE Di s2 fun e3 Wj s3=>(e3=.normal∨e3=.exit next)∧J x' (seen++[i]) (AI.commit Wj L) s3)∧
   (∀ x seen env s,J x seen env s→seen.Perm (List.range ents.length)→Q .normal ((more,.bool false)::(nx,.junk)::env) s)):
 AW P n (.seq (.region id0 AdD false) (.block out (.loop (.seq (.region id1 Wy false) (.seq (.cond (.tmp more) .skip (.exit out)) (.block next (.seq (.region id2 ops2 false) code))))))) env s Q:=by
 intro w0 B Z φ w a K hI hE hn hp
 refine wp_seq ?_
 obtain⟨Z1,k1,k2,k3⟩:=DK hfz hI hE
 obtain⟨N,e0,BD,s1,hops,rfl,hv,oi,gi,hoi,hgi,J0,AlM,Aji,AlN⟩:=pre
 refine wp_region ?_
 have hsz:AdD.size=XO.length+1:=by rw[← Array.length_toList,h0];simp
 rw[hsz,Zk]
 have hat:∀k o,XO[k]?=some o→AdD[0+k]?=some o:=fun k o h=>by
  have hlt:k<XO.length:=(List.getElem?_eq_some_iff.1 h).1
  rw[Nat.zero_add,BM h0,List.getElem?_append_left hlt,h]
 refine O1 (hS N) XO 0 AcU Ahk s0 a w Z1 φ BD s1 hat hA hops k1 k2 hn fun a1 w1 Z2 φ2 q1 q2 q3 q4 q5=>?_
 rw[wpOps_cons]
 refine JA (o:=oR) (by rw[BM h0];simp) r3 ?_
 have hr:=Aa q4 r5
 rw[hv]at hr
 generalize hq:a1.eval xm=q at hr
 cases hr with
 |fmap _ b es clock f hz hb hst hsize hf hk hvv=>
 have hrun:=run_range_map (P:=P) w1 t kt et b es clock r4 hb
 refine AQ (x:=.pointer (some ⟨w1.heap.size,0,none⟩)) (w':=w1.alloc (.mapIter (some b) clock #[] clock)) (by simp[execOp,r2,hq,hrun]) ?_
 have hold:∀x∈es.toList,x.born<clock:=fun x hx=>hst.2 _ (List.mem_map.2 ⟨x,hx,rfl⟩)
 have hL1:Later B w1 Z2 φ2 s1.ctr (w1.alloc (.mapIter (some b) clock #[] clock)) Z2 (Bd φ2 s1.ctr (.row w1.heap.size 1 1)) (s1.ctr+1):=
  EC q3 (Dv w1 _) (fun _ _ h=>h) (fun _ _ h=>.inl h) (fun g hg=>ED φ2 _ hg) (by omega)
 have hI1:Inv w0 B (push s1 (.raw s1.ctr (.mapIter (some b) clock #[] clock))) Z2 (Bd φ2 s1.ctr (.row w1.heap.size 1 1)) (w1.alloc (.mapIter (some b) clock #[] clock)):=by
  refine q3.push (Dv w1 _) hL1 (fun _ _ h=>.inl h) (fun b i h=>by have:=q3.live b i h;simp;omega) ?_ rfl (fun b e n h=>?_)
  ·exact⟨by omega,w1.heap.size,1,1,Af _ _ _,q3.base,heap_alloc_new w1 _,fun i z=>Nat.lt_irrefl _ (q3.live _ i z)⟩
  ·rw[Af]at h
   simp only[NQ.row.injEq]at h
   omega
 have hE1:Ak (w1.alloc (.mapIter (some b) clock #[] clock)) Z2 (Bd φ2 s1.ctr (.row w1.heap.size 1 1)) (s1.ctr+1) ((it,.ref oi gi 0 0)::BD) (a1.put oR.dst (.pointer (some ⟨w1.heap.size,0,none⟩))).tmps:=by
  rw[r1]
  refine Ak.put (d:=some it) (q4.later hL1) (fun k hk=>by cases hk;omega) ?_
  rw[hoi,hgi]
  have:=Rep.ref (w:=w1.alloc (.mapIter (some b) clock #[] clock)) (Z:=Z2) (φ:=Bd φ2 s1.ctr (.row w1.heap.size 1 1)) (ctr:=s1.ctr+1) s1.σ.length s1.ctr 0 0 w1.heap.size 1 1 (by omega) (Af _ _ _)
  simpa using this
 obtain⟨z1,z2⟩:=size_put a1 oR.dst (.pointer (some ⟨w1.heap.size,0,none⟩))
 generalize ha2:a1.put oR.dst (.pointer (some ⟨w1.heap.size,0,none⟩))=a2 at hE1 z1 z2
 have hds:a2.defers=a.defers:=z2.trans q2
 have hn2:a2.tmps.size=n:=z1.trans q1
 have hL0:Later B w Z φ s.ctr (w1.alloc (.mapIter (some b) clock #[] clock)) Z2 (Bd φ2 s1.ctr (.row w1.heap.size 1 1)) (s1.ctr+1):=(k3.trans q5).trans hL1
 show(Code.block out _).wp P K a2 _
 refine wp_block (wp_loop_rounds (ents.length+1) ?_)
 have hbn:Z2 b 0:=hz
 have hL1':=hL1
 have hJ0:=J0 (.mapIter (some b) clock #[] clock)
 have Ajj:(Bd φ2 s1.ctr (.row w1.heap.size 1 1)) gi=.row w1.heap.size 1 1:=by rw[hgi];exact Af _ _ _
 have Ajk:gi<s1.ctr+1:=by omega
 have hb2:(w1.alloc (.mapIter (some b) clock #[] clock)).heap[b]?=some (.map es clock):=(hL1.cell b 0 hz).trans hb
 generalize w1.heap.size=r at*
 generalize w1.alloc (.mapIter (some b) clock #[] clock)=w2 at*
 generalize Bd φ2 s1.ctr (.row r 1 1)=φ3 at*
 have key:∀(M:Nat) (seen:List Nat) (env:Env) (s':Ag) (a':Act) (w':World) (Z':Bh) (φ':D8),seen.length+M=ents.length+1→seen.Nodup→(∀ i∈seen,i<ents.length)→
  J (.mapIter (some b) clock ((seen.map fun i=>((es[i]?).getD {key:=Go.undef,val:=Go.undef,born:=0}).born).toArray) clock) seen env s'→Inv w0 B s' Z' φ' w'→Ak w' Z' φ' s'.ctr env a'.tmps→a'.tmps.size=n→a'.defers=a.defers→
  Later B w2 Z2 φ3 (s1.ctr+1) w' Z' φ' s'.ctr→Code.rounds P (Afc id1 id2 out next more Wy ops2 code) (Exit.inBlock out K) M a' w':=by
  intro M
  induction M with
  |zero=>
   intro seen env s' a' w' Z' φ' hlen hnd hlt
   have:=(List.nodup_iff_pairwise_ne.1 hnd)
   have hle:seen.length≤ents.length:=by
        have h:=List.Nodup.length_le_of_subset (l₁:=seen) (l₂:=List.range ents.length) hnd fun i hi=>List.mem_range.2 (hlt i hi)
        simpa using h
   omega
  |succ M ih=>
   intro seen env s' a' w' Z' φ' hlen hnd hlt hJ hI' hE' hn' hds' KI
   rw[rounds_succ]
   obtain⟨gt,go⟩:=AlM _ _ _ _ hJ
   have Ahl:=hE' it
   rw[gt]at Ahl
   have Afd:φ' gi=.row r 1 1:=(KI.phi gi Ajk).trans Ajj
   obtain⟨ix,hix⟩:∃ix,a'.tmps.getD it undef=ix:=⟨_,rfl⟩
   rw[hix]at Ahl
   have hiv:ix=.pointer (some ⟨r,0,none⟩):=by
        cases Ahl with
        |ref _ _ _ _ b' es' size hg hφ'=>
         rw[Afd]at hφ'
         simp only[NQ.row.injEq]at hφ'
         obtain⟨rfl,_⟩:=hφ'
         simp
   subst hiv
   have hbw:w'.heap[b]?=some (.map es clock):=(KI.cell b 0 hbn).trans hb2
   rw[Aj]at go
   have hrw:w'.heap[r]?=some (.mapIter (some b) clock ((seen.map fun i=>((es[i]?).getD {key:=Go.undef,val:=Go.undef,born:=0}).born).toArray) clock):=by
        obtain⟨_,b',e',n',h3,_,h5,_⟩:=hI'.objs oi _ go
        rw[Afd]at h3
        simp only[NQ.row.injEq]at h3
        obtain⟨rfl,_⟩:=h3
        exact h5
   refine wp_seq (wp_region ?_)
   have hs1:Wy.size=2:=by rw[← Array.length_toList,h1];rfl
   rw[hs1,show List.range 2=[0,1] from rfl,wpOps_cons]
   refine JA (o:=oN) (by rw[BM h1];rfl) n3 ?_
   have hev:a'.eval (.tmp it)=.pointer (some ⟨r,0,none⟩):=hix
   have AfT:∀i∈seen,i<es.size:=fun i hi=>by rw[hsize];exact hlt i hi
   rcases run_next_at (P:=P) w' oN.type r b clock _ es clock hrw hbw hold (Nat.le_refl _)with⟨hl0,hnr⟩|⟨e,hem,w3,hw3,hnr⟩
   ·
        refine AQ (x:=.tuple #[.bool false]) (w':=w') (by simp[execOp,n2,hev,hnr]) ?_
        rw[wpOps_cons]
        refine JA (o:=oX) (by rw[BM h1];rfl) x3 ?_
        have hd1:∀k,oN.dst=some k→k<a'.tmps.size:=fun k hk=>by have hkk:=Option.some.inj (n1.symm.trans hk);rw[← hkk];exact Nat.lt_of_lt_of_le hnx (by omega)
        obtain⟨y1,y2⟩:=size_put a' oN.dst (.tuple #[.bool false])
        have hget:(a'.put oN.dst (.tuple #[.bool false])).tmps.getD nx undef=.tuple #[.bool false]:=by rw[Ir a' _ _ nx hd1,n1,if_pos rfl]
        have hex:(a'.put oN.dst (.tuple #[.bool false])).eval (.tmp nx)=.tuple #[.bool false]:=hget
        refine AQ (x:=.bool false) (w':=w') (by simp[execOp,x2,hex,Instr.extract]) ?_
        have hd2:∀k,oX.dst=some k→k<(a'.put oN.dst (.tuple #[.bool false])).tmps.size:=fun k hk=>by have hkk:=Option.some.inj (x1.symm.trans hk);rw[← hkk];exact Nat.lt_of_lt_of_le hmore (by omega)
        obtain⟨y3,y4⟩:=size_put (a'.put oN.dst (.tuple #[.bool false])) oX.dst (.bool false)
        have hE2:Ak w' Z' φ' s'.ctr ((more,.bool false)::(nx,.junk)::env) ((a'.put oN.dst (.tuple #[.bool false])).put oX.dst (.bool false)).tmps:=by
         have e1:Ak w' Z' φ' s'.ctr ((nx,.junk)::env) (a'.put oN.dst (.tuple #[.bool false])).tmps:=by
          have:=Ak.put hE' hd1 (v:=.junk) (x:=.tuple #[.bool false]) (.junk _)
          rw[n1]at this ⊢
          exact this
         have:=Ak.put e1 hd2 (v:=.bool false) (x:=.bool false) (.bool _)
         rw[x1]at this ⊢
         exact this
        generalize hA2:(a'.put oN.dst (.tuple #[.bool false])).put oX.dst (.bool false)=a3 at hE2 y3 y4
        show(Code.seq _ _).wp P _ a3 w'
        have hmv:a3.eval (.tmp more)=.bool false:=by
         have h:=hE2 more
         have hgm:Env.get ((more,AV.bool false)::(nx,.junk)::env) more=.bool false:=by simp[Env.get]
         rw[hgm]at h
         show a3.tmps.getD more undef=_
         generalize a3.tmps.getD more undef=q at h
         cases h;rfl
        refine wp_seq (wp_cond_false hmv (wp_exit ?_))
        show Exit.inBlock out K (.exit out) a3 w'
        simp only[Exit.inBlock,if_true]
        have hall:=Abz hst.1 AfT hl0
        have hperm:seen.Perm (List.range ents.length):=(List.perm_ext_iff_of_nodup hnd List.nodup_range).2 fun i=>⟨fun hi=>List.mem_range.2 (hlt i hi),fun hi=>hall i (by rw[hsize];exact List.mem_range.1 hi)⟩
        exact hp _ _ _ (AlN _ _ _ _ hJ hperm) .normal a3 w' Z' φ' rfl (by omega) (by rw[y4,y2,hds']) hI' hE2 (hL0.trans KI)
   ·
        obtain⟨i,hei,hins⟩:=left_of hst.1 AfT hem
        have hilt:i<es.size:=(Array.getElem?_eq_some_iff.1 hei).1
        have hil:i<ents.length:=by rw[← hsize];exact hilt
        have hpush:((seen.map fun i=>((es[i]?).getD {key:=Go.undef,val:=Go.undef,born:=0}).born).toArray).push e.born=(((seen++[i]).map fun i=>((es[i]?).getD {key:=Go.undef,val:=Go.undef,born:=0}).born).toArray):=by
         simp[hei]
        rw[hpush]at hnr
        obtain⟨hI3,hLd⟩:Inv w0 B s' Z' φ' w3∧Later B w' Z' φ' s'.ctr w3 Z' φ' s'.ctr:=by
         rcases hw3 with rfl|rfl
         ·exact⟨hI',Later.refl _ _ _ _ _⟩
         ·exact hI'.grow (Z':=Z') (Below.refl _ _).drew (fun _ _ h=>h) (fun _ _ h=>.inl h) (fun b i h=>hI'.live b i h)
        obtain⟨hI4,hL4⟩:=hI3.Ahj (x':=.mapIter (some b) clock (((seen++[i]).map fun i=>((es[i]?).getD {key:=Go.undef,val:=Go.undef,born:=0}).born).toArray) clock) go Afd
        generalize hx':Go.Obj.mapIter (some b) clock (((seen++[i]).map fun i=>((es[i]?).getD {key:=Go.undef,val:=Go.undef,born:=0}).born).toArray) clock=x' at*
        have hwr:({w3 with heap:=w3.heap.setIfInBounds r x'}:World).heap[r]?=some x':=by
         have hrl:r<w3.heap.size:=by
          have:w'.heap.size=w3.heap.size:=by rcases hw3 with rfl|rfl<;>rfl
          rw[← this];exact(Array.getElem?_eq_some_iff.1 hrw).1
         simp[hrl]
        generalize hw4:({w3 with heap:=w3.heap.setIfInBounds r x'}:World)=w4 at*
        have hL5:Later B w' Z' φ' s'.ctr w4 Z' φ' s'.ctr:=hLd.trans hL4
        have AlO:w4.heap[b]?=some (.map es clock):=(hL5.cell b 0 (KI.cold b 0 hbn)).trans hbw
        refine AQ (x:=.tuple #[.bool true,e.key,e.val]) (w':=w4) (by simp[execOp,n2,hev,hnr]) ?_
        rw[wpOps_cons]
        refine JA (o:=oX) (by rw[BM h1];rfl) x3 ?_
        have hd1:∀k,oN.dst=some k→k<a'.tmps.size:=fun k hk=>by have hkk:=Option.some.inj (n1.symm.trans hk);rw[← hkk];exact Nat.lt_of_lt_of_le hnx (by omega)
        obtain⟨y1,y2⟩:=size_put a' oN.dst (.tuple #[.bool true,e.key,e.val])
        have hget:(a'.put oN.dst (.tuple #[.bool true,e.key,e.val])).tmps.getD nx undef=.tuple #[.bool true,e.key,e.val]:=by rw[Ir a' _ _ nx hd1,n1,if_pos rfl]
        have hex:(a'.put oN.dst (.tuple #[.bool true,e.key,e.val])).eval (.tmp nx)=.tuple #[.bool true,e.key,e.val]:=hget
        refine AQ (x:=.bool true) (w':=w4) (by simp[execOp,x2,hex,Instr.extract]) ?_
        have hd2:∀k,oX.dst=some k→k<(a'.put oN.dst (.tuple #[.bool true,e.key,e.val])).tmps.size:=fun k hk=>by have hkk:=Option.some.inj (x1.symm.trans hk);rw[← hkk];exact Nat.lt_of_lt_of_le hmore (by omega)
        obtain⟨y3,y4⟩:=size_put (a'.put oN.dst (.tuple #[.bool true,e.key,e.val])) oX.dst (.bool true)
        have hE2:Ak w4 Z' φ' s'.ctr ((more,.bool true)::(nx,.junk)::env) ((a'.put oN.dst (.tuple #[.bool true,e.key,e.val])).put oX.dst (.bool true)).tmps:=by
         have e1:Ak w4 Z' φ' s'.ctr ((nx,.junk)::env) (a'.put oN.dst (.tuple #[.bool true,e.key,e.val])).tmps:=by
          have:=Ak.put (hE'.later hL5) hd1 (v:=.junk) (x:=.tuple #[.bool true,e.key,e.val]) (.junk _)
          rw[n1]at this ⊢
          exact this
         have:=Ak.put e1 hd2 (v:=.bool true) (x:=.bool true) (.bool _)
         rw[x1]at this ⊢
         exact this
        generalize hA2:(a'.put oN.dst (.tuple #[.bool true,e.key,e.val])).put oX.dst (.bool true)=a3 at hE2 y3 y4
        show(Code.seq _ _).wp P _ a3 w4
        have hmv:a3.eval (.tmp more)=.bool true:=by
         have h:=hE2 more
         have hgm:Env.get ((more,AV.bool true)::(nx,.junk)::env) more=.bool true:=by simp[Env.get]
         rw[hgm]at h
         show a3.tmps.getD more undef=_
         generalize a3.tmps.getD more undef=q at h
         cases h;rfl
        refine wp_seq (wp_cond_true hmv (wp_skip ?_))
        show(Code.block next _).wp P _ a3 w4
        refine wp_block (wp_seq (wp_region ?_))
        have hs2:ops2.size=Y1.length+1:=by rw[← Array.length_toList,h2];simp
        rw[hs2,List.range_eq_range',List.range'_succ,wpOps_cons]
        refine JA (o:=oE) (by rw[BM h2];rfl) e3 ?_
        have hit3:a3.eval (.tmp it)=.pointer (some ⟨r,0,none⟩):=by
         have h:=hE2 it
         have hgm:Env.get ((more,AV.bool true)::(nx,.junk)::env) it=.ref oi gi 0 0:=by
          have b1:Nat.beq more it=false:=by cases hb:Nat.beq more it with|false=>rfl|true=>exact absurd (Nat.eq_of_beq_eq_true hb).symm hne.2.1
          have b2:Nat.beq nx it=false:=by cases hb:Nat.beq nx it with|false=>rfl|true=>exact absurd (Nat.eq_of_beq_eq_true hb).symm hne.1
          simp only[Env.get,b1,b2,cond_false]
          exact gt
         rw[hgm]at h
         show a3.tmps.getD it undef=_
         generalize a3.tmps.getD it undef=q at h
         cases h with
         |ref _ _ _ _ b' es' size hg hφ'=>
          rw[Afd]at hφ'
          simp only[NQ.row.injEq]at hφ'
          obtain⟨rfl,_⟩:=hφ'
          simp
        have hent:=run_entry_at (P:=P) w4 r b clock ((seen.map fun i=>((es[i]?).getD {key:=Go.undef,val:=Go.undef,born:=0}).born).toArray) es clock e (by rw[hpush,hx'];exact hwr) AlO (by rw[Array.mem_toList_iff];exact Array.mem_of_getElem? hei) hst.1
        refine AQ (x:=.tuple #[e.key,e.val]) (w':=w4) (by simp[execOp,e2,hit3,hent]) ?_
        have hd3:∀k,oE.dst=some k→k<a3.tmps.size:=fun k hk=>by have hkk:=Option.some.inj (e1.symm.trans hk);rw[← hkk];exact Nat.lt_of_lt_of_le Ajh (by omega)
        obtain⟨y5,y6⟩:=size_put a3 oE.dst (.tuple #[e.key,e.val])
        obtain⟨en,hen⟩:∃en,ents[i]?=some en:=⟨_,List.getElem?_eq_getElem hil⟩
        obtain⟨f1,f2,f3,f4⟩:=hf i en hen
        rw[hei]at f1
        have hfe:f i=e:=(Option.some.inj f1).symm
        have hkr:Rep w4 Z' φ' s'.ctr en.1 e.key:=by
         have:=hk i en hen
         rw[hfe]at this
         exact(((this.later hL1').later KI).later hL5)
        have hvr:Rep w4 Z' φ' s'.ctr en.2 e.val:=by
         have:=hvv i en hen
         rw[hfe]at this
         exact(((this.later hL1').later KI).later hL5)
        have hE3:Ak w4 Z' φ' s'.ctr ((pair,.Dy [en.1,en.2])::(more,.bool true)::(nx,.junk)::env) (a3.put oE.dst (.tuple #[e.key,e.val])).tmps:=by
         have:=Ak.put hE2 hd3 (v:=.Dy [en.1,en.2]) (x:=.tuple #[e.key,e.val]) (.Dy _ _ rfl fun j c hj=>by
          rcases j with _|_|j
          ·simp only[List.getElem?_cons_zero,Option.some.injEq]at hj;subst hj;exact hkr
          ·simp at hj;subst hj;exact hvr
          ·simp at hj)
         rw[e1]at this ⊢
         exact this
        generalize hA4:a3.put oE.dst (.tuple #[e.key,e.val])=a4 at hE3 y5 y6
        obtain⟨N2,eB,Di,s2,Ajl,rfl,Ajm⟩:=Aji _ x' seen i env s' en hJ (by rw[Aj];exact hen) hins
        have AlP:∀k o,Y1[k]?=some o→ops2[0+1+k]?=some o:=fun k o h=>by
         rw[Nat.zero_add,BM h2,Nat.add_comm,List.getElem?_cons_succ,h]
        have:=O1 (hS N2) (rest:=[]) Y1 (0+1) AcV _ _ a4 w4 Z' φ' Di s2 AlP hB Ajl hI4 hE3 (by omega) (Q:=Exit.then (code.wp P (Exit.inBlock next (Exit.then (Code.rounds P (Afc id1 id2 out next more Wy ops2 code) (Exit.inBlock out K) M) (Exit.inBlock out K)))) (Exit.inBlock next (Exit.then (Code.rounds P (Afc id1 id2 out next more Wy ops2 code) (Exit.inBlock out K) M) (Exit.inBlock out K)))) fun a5 w5 Z5 φ5 p1 p2 p3 p4 p5=>?_
        ·simpa using this
        ·obtain⟨N3,e5,Wj,s3,hrun3,he5,hJ3⟩:=Ajm.1
         show code.wp P _ a5 w5
         refine J9 (hS N3) hm N3 code AdE hC Di s2 a5 w5 Z5 φ5 e5 Wj s3 _ hrun3 p3 p4 p1 fun e6 a6 w6 Z6 φ6 t1 t2 t3 t4 t5 t6=>?_
         have hdef:a6.defers=a.defers:=by rw[t3,p2,y6,y4,y2,hds']
         have fin:Code.rounds P (Afc id1 id2 out next more Wy ops2 code) (Exit.inBlock out K) M a6 w6:=by
          refine ih (seen++[i]) _ s3 a6 w6 Z6 φ6 (by simp;omega) ?_ ?_ (by rw[hx'];exact hJ3) t4 (t5.commit L) t2 hdef (((KI.trans hL5).trans p5).trans t6)
          ·exact List.nodup_append.2 ⟨hnd,by simp,fun x hx y hy=>by simp at hy;subst hy;rintro rfl;exact hins hx⟩
          ·intro j hj
           rcases List.mem_append.1 hj with hj|hj
           ·exact hlt j hj
           ·simp at hj;omega
         rcases he5 with rfl|rfl
         ·cases t1;exact fin
         ·cases t1
          show Exit.inBlock next _ (.exit next) a6 w6
          simp only[Exit.inBlock,if_true]
          exact fin
 refine key (ents.length+1) [] _ _ a2 w2 Z2 φ3 (by simp) List.nodup_nil (by simp) hJ0 (by rw[hgi];exact hI1) (hE1.commit L) hn2 hds (Later.refl _ _ _ _ _)
theorem XQ {f:Nat} {fn:Func} {b:Code} {rs:List Vh} {args:List AV} {R:AV→Prop} (hf:P.funcs[f]?=some fn) (hb:fn.body=some b) (hrs:F7 P fn.ntmps fn.results.toList=some rs) (hle:args.length≤fn.ntmps)
 (hA:AW P fn.ntmps b (params args 0) ⟨[],0⟩ fun e env s=>(e=.normal∨e=.ret)∧∃vs,Fh env s rs=some vs∧(EH vs).closed=true∧R (EH vs))
 {Z:Bh} {φ:D8} (hI:Inv w0 B ⟨[],0⟩ Z φ w) {vs:Array Value} (hargs:Dx w Z φ 0 args vs):
 Calls P f vs w fun e w'=>∃v,R v∧∃Z' φ',Inv w0 B ⟨[],0⟩ Z' φ' w'∧Later B w Z φ 0 w' Z' φ' 0∧MW w' Z' φ' 0 (.ok v) e:=by
 have hvs:vs.size=args.length:=hargs.1.symm
 have hsz:(vs++Array.replicate (fn.ntmps-vs.size) undef).size=fn.ntmps:=by simp;omega
 have hE:Ak w Z φ 0 (params args 0) (vs++Array.replicate (fn.ntmps-vs.size) undef):=by
  intro t
  rw[NH]
  split
  ·rename_i ht
   have hlt:t<args.length:=by omega
   obtain⟨v,h1,h2⟩:=hargs.2 t _ (List.getElem?_eq_getElem hlt)
   have hvt:t<vs.size:=by rw[← hargs.1];exact hlt
   have:(vs++Array.replicate (fn.ntmps-vs.size) undef).getD t undef=v:=by
        rw[Array.getD_eq_getD_getElem?,Array.getElem?_append_left hvt,h1];rfl
   rw[this]
   simpa[List.getElem?_eq_getElem hlt]using h2
  ·exact .junk _
 refine calls_of_wp hf hb (hA w0 B Z φ w _ _ hI hE hsz fun e env s hq=>?_)
 intro e' a' w' Z' φ' q1 q2 q3 q4 q5 q6
 obtain⟨he,rvs,hr,hcl,hR⟩:=hq
 obtain⟨xs,k1,k2,k3⟩:=NG (P:=P) q4 q5 hrs hr
 have hres:∃v,(results fn a'.tmps).run P w'=.ok v w'∧Rep w' Z' φ' s.ctr (EH rvs) v:=by
  have hrun:(results fn a'.tmps).run P w'=.ok (if h:xs.toArray.size=1 then xs.toArray[0]else .tuple xs.toArray) w':=by
   rw[results_read,Array.mapM_eq_mapM_toList]
   simp only[Sem.run_bind,Sem.run_map,k1,Result.andThen_ok,Sem.run_pure]
  refine⟨_,hrun,?_⟩
  by_cases h1:xs.length=1
  ·obtain⟨x,rfl⟩:∃x,xs=[x]:=List.length_eq_one_iff.1 h1
   obtain⟨v,rfl⟩:∃v,rvs=[v]:=List.length_eq_one_iff.1 (by omega)
   obtain⟨x',g1,g2⟩:=k3 0 v rfl
   simp only[List.getElem?_cons_zero,Option.some.injEq]at g1
   subst g1
   simpa[EH]using g2
  ·have ht:EH rvs=.Dy rvs:=by
        unfold EH
        split
        ·rename_i v;simp at k2;omega
        ·rfl
   rw[ht,dif_neg (by simpa using h1)]
   refine .Dy _ _ (by simp[k2]) fun i c hi=>?_
   obtain⟨x',g1,g2⟩:=k3 i c hi
   have:xs.toArray.getD i undef=x':=F8 (by simpa using g1)
   rw[this];exact g2
 obtain⟨v,hv1,hv2⟩:=hres
 have hI0:Inv w0 B ⟨[],0⟩ Z' φ' w':=⟨q4.below,q4.base,fun o ob h=>by simp at h,fun o o' ob ob' g g' b e n e' n' h=>by simp at h,q4.live⟩
 have hL0:Later B w Z φ 0 w' Z' φ' 0:=⟨q6.new,Nat.le_refl _,q6.cold,q6.cell,fun g hg=>absurd hg (Nat.not_lt_zero g)⟩
 have hR0:Rep w' Z' φ' 0 (EH rvs) v:=hv2.shift (fun b i z=>⟨z,rfl⟩) hcl
 have hfin:a'.defers=[]∧∃v,(results fn a'.tmps).run P w'=.ok v w'∧(∃ u,R u∧∃WE Zr,Inv w0 B ⟨[],0⟩ WE Zr w'∧Later B w Z φ 0 w' WE Zr 0∧MW w' WE Zr 0 (.ok u) (.returned v)):=
  ⟨q3,v,hv1,_,hR,Z',φ',hI0,hL0,v,rfl,hR0⟩
 rcases he with rfl|rfl
 ·cases q1;exact hfin
 ·cases q1;exact hfin
theorem WA {AP AP':Nat→Option Hf} (h:∀f a,AP f=some a→AP' f=some a):∀n,Eh (run AP n) (run AP' n)
 |0=>fun f args s r hr=>by simp[run]at hr
 |n+1=>fun f args s r hr=>by
  simp only[run]at hr ⊢
  cases hf:AP f with
  |none=>rw[hf]at hr;cases hr
  |some a=>
   rw[hf]at hr
   rw[h f a hf]
   cases a with
   |code fn=>
    simp only at hr ⊢
    split at hr
    ·rename_i hl
     rw[if_pos hl]
     exact X3 (WA h n) (Nat.le_refl n) hr
    ·cases hr
   |ext sp=>exact hr
   |dfr d=>
    simp only at hr ⊢
    split at hr
    ·rename_i hl
     rw[if_pos hl]
     exact X5 (WA h n) (Nat.le_refl n) hr
    ·cases hr
theorem Aw.up {AP AP':Nat→Option Hf} (h:∀f a,AP f=some a→AP' f=some a) {f:Nat} {args:List AV} {R:AV→Prop} (hp:Aw AP f args R):Aw AP' f args R:=by
 obtain⟨v,⟨N,h1⟩,h2⟩:=hp
 exact⟨v,⟨N,Jf (WA h N) h1⟩,h2⟩
theorem DC.up {AP AP':Nat→Option Hf} (h:∀f a,AP f=some a→AP' f=some a) {f:Nat} {args:List AV} {s:Ag} {K:AL→Ag→Prop} (hp:DC AP f args s K):DC AP' f args s K:=by
 obtain⟨N,out,s',h1,h2⟩:=hp
 exact⟨N,out,s',WA h N _ _ _ _ h1,h2⟩
theorem UZ {tab:List (Nat×Hf)} {k:Nat} {x:Hf} (h:Ad tab k=none):∀f a,Ad tab f=some a→Ad ((k,x)::tab) f=some a:=by
 intro f a hf
 simp only[Ad]
 cases hb:Nat.beq k f with
 |false=>exact hf
 |true=>rw[Nat.eq_of_beq_eq_true hb,hf]at h;cases h
theorem Bc {an:List EP} {x y:Code} {a b:AY} (h:BH P n an (.seq x y)=some (.seq a b)):BH P n an x=some a∧BH P n an y=some b:=by
 simp only[BH]at h
 split at h
 ·rename_i a' b' h1 h2
  simp only[Option.some.injEq,AY.seq.injEq]at h
  obtain⟨rfl,rfl⟩:=h
  exact⟨h1,h2⟩
 ·cases h
theorem SV {an:List EP} {f:Func} {a:FC} (h:MJ P an f=some a):∃b,f.body=some b∧BH P f.ntmps an b=some a.body∧F7 P f.ntmps f.results.toList=some a.results∧a.np≤f.ntmps:=by
 unfold MJ at h
 split at h
 ·rename_i b hb
  split at h
  ·rename_i c rs h1 h2
   split at h
   ·rename_i hnp
    simp only[Option.some.injEq]at h
    subst h
    exact⟨b,hb,h1,h2,hnp⟩
   ·cases h
  ·cases h
 ·cases h
end AI
end Go.Proofs.YtiimoiecghmebaaDoor
