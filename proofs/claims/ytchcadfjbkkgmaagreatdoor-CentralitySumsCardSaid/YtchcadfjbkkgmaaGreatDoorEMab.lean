/- The deferred closure of a step of an editor: it takes back what is raised. Soundness of a function that defers one closure, which takes back what is raised. A step of an editor, as an entry of the table: what stands ahead of the deferred closure and behind it. -/
import Derived.Test.YtchcadfjbkkgmaaGreatDoorChecked
import Derived.WalkKit
import Derived.Defers
import Derived.Recover
import Derived.Test.YtchcadfjbkkgmaaGreatDoorESe
set_option linter.unusedVariables false
set_option maxRecDepth 4000
namespace Go.Proofs.YtchcadfjbkkgmaaGreatDoor
namespace AI
section
open Go.RowKit
theorem stepIdle (x:Value) (w:World):CallsD Tryz.prog 152 #[x] .returning w fun e u' w'=>(∃ v,e=.returned v)∧u'=.returning∧w'=w:=by
 refine callsD_of_wpS Tryz.func152 rfl fun c₀ cs hu=>?_
 apply wpS_seq
 apply wpS_region
 simp[wpOpsS,go_sem,recoverD,hu,Tryz.ntmps152,Exit.thenS]
 apply wpS_seq
 apply wpS_region
 simp[wpOpsS,go_sem,Exit.thenS]
 refine wpS_cond (t:=false) (by simp[Act.eval,Array.replicate]) ?_
 simp only[Bool.false_eq_true,if_false]
 refine wpS_of_wp (wp_skip ?_)
 cases c₀
 simp_all [bodyPostS,results,Tryz.results152]
theorem Afa (v:Value) (w:World):(Instr.typeAssert (.iface 199 v) 20 199 true).run Tryz.prog w=.ok (.tuple #[v,.bool true]) w:=by kernel_rfl
set_option maxRecDepth 100000 in
set_option maxHeartbeats 1000000 in
theorem YX (p:Addr) (k:IntKind) (n:Int) (w:World) (old:Value) (hc:w.cell? p=some old) (hz:w.frozen? p=false):
 CallsD Tryz.prog 152 #[.pointer (some p)] (.panicking [{v:=.iface 199 (.int k n),recovered:=false}]) w fun e u' w''=>(∃ v,e=.returned v)∧u'=.panicking [{v:=.iface 199 (.int k n),recovered:=true}]∧w''=w.setCell p (.int k n):=by
 refine callsD_of_wpS Tryz.func152 rfl fun c₀ cs hu=>?_
 apply wpS_seq
 apply wpS_region
 simp[wpOpsS,go_sem,recoverD,hu,Tryz.ntmps152,Exit.thenS]
 apply wpS_seq
 apply wpS_region
 simp[wpOpsS,go_sem,Exit.thenS]
 refine wpS_cond (t:=true) (by simp[Act.eval,Array.replicate]) ?_
 simp only[if_true]
 apply wpS_seq
 apply wpS_seq
 apply wpS_region
 simp[wpOpsS,go_sem,Exit.thenS,Afa]
 apply wpS_seq
 apply wpS_region
 simp[wpOpsS,go_sem,Exit.thenS]
 refine wpS_cond (t:=true) (by simp[Act.eval,Array.replicate]) ?_
 simp only[if_true]
 apply wpS_seq
 apply wpS_region
 simp[wpOpsS,go_sem,Exit.thenS,hc,hz]
 refine wpS_of_wp (wp_ret ?_)
 cases c₀
 simp_all [bodyPostS,results,Tryz.results152,Exit.thenS]
theorem Abg (x:Value) (k:IntKind) (n:Int) (w w':World) (hx:∃p old,x=.pointer (some p)∧w.cell? p=some old∧w.frozen? p=false) (hst:(Instr.storeAt 34 x (.int k n)).run Tryz.prog w=.ok () w'):
 CallsD Tryz.prog 152 #[x] (.panicking [{v:=.iface 199 (.int k n),recovered:=false}]) w fun e u' w''=>(∃ v,e=.returned v)∧u'=.panicking [{v:=.iface 199 (.int k n),recovered:=true}]∧w''=w':=by
 obtain⟨p,old,rfl,hc,hz⟩:=hx
 have e:w'=w.setCell p (.int k n):=by
  simp[Instr.storeAt,go_sem,hc,hz]at hst
  exact hst.symm
 subst e
 exact YX p k n w old hc hz
end
section
open Go.RowKit
variable {P:Program} {w0 w:World} {B:Nat} {Z:Bv} {φ:DN} {s s':Ai}
structure Agj (P:Program) (f:Nat) (d:DFn) (fn:Func) (an:List ED) (b1 b2 bD b3:Code) (g:Nat) (t:TypeId):Prop where
 hf:P.funcs[f]?=some fn
 hname : (fn.name == "runtime.NumGoroutine") = false
 hb:fn.body=some (.seq b1 (.seq b2 (.seq bD b3)))
 hle:fn.params.size+fn.nfree≤fn.ntmps
 hnp:d.np=fn.params.size+fn.nfree
 h1:BI P fn.ntmps an b1=some d.Abi
 h2:BI P fn.ntmps an b2=some d.pre2
 h3:BI P fn.ntmps an b3=some d.post
 hrs:Es P fn.ntmps fn.results.toList=some d.results
 hc:Bd P t=some 1
 hD:∀(Q:Exit→Act→World→Prop) (a:Act) (w:World),a.tmps.size=fn.ntmps→
  (∀ a':Act,a'.tmps.size=fn.ntmps→a'.defers={target:=.fn (.func g) #[a.tmps.getD d.cell undef],args:=#[]}::a.defers→(∀ k,k≠d.tcl→a'.tmps.getD k undef=a.tmps.getD k undef)→Q .normal a' w)→bD.wp P Q a w
 hinv:∀(x:Value) (w:World),(invoke (.fn (.func g) #[x]) #[]).run P w=.ok (.enter g #[x]) w
 idle:∀(x:Value) (w:World),CallsD P g #[x] .returning w fun e u' w'=>(∃ v,e=.returned v)∧u'=.returning∧w'=w
 catch_:∀(x:Value) (k:IntKind) (n:Int) (w w':World),(∃ p old,x=.pointer (some p)∧w.cell? p=some old∧w.frozen? p=false)→(Instr.storeAt t x (.int k n)).run P w=.ok () w'→
  CallsD P g #[x] (.panicking [{v:=.iface d.tag (.int k n),recovered:=false}]) w fun e u' w''=>(∃ v,e=.returned v)∧u'=.panicking [{v:=.iface d.tag (.int k n),recovered:=true}]∧w''=w'
theorem Ac9 {C:Az} (hI:Inv w0 B s Z φ w) {a x:AV} {va:Value} (ha:Rep w Z φ s.ctr a va) {out:AV} {env:Env} {aa ax:AO} (h1:aa.val env=a) (h2:ax.val env=x) (hev:Ag C (.store 1 aa ax) env s=some (.ok out,s')):∃p old,va=.pointer (some p)∧w.cell? p=some old∧w.frozen? p=false:=by
 simp only[Ag,h1,h2]at hev
 split at hev
 ·rename_i o g i off
  split at hev
  ·rename_i g' es nn cl elems ho
   split at hev
   ·rename_i hg;subst hg
    split at hev
    ·rename_i y hy
     rw[Option.ite_none_right_eq_some]at hev
     obtain⟨hc,_⟩:=hev
     simp only[Bool.and_eq_true,beq_iff_eq,decide_eq_true_eq]at hc
     obtain⟨⟨hs,hl⟩,hfit⟩:=hc
     rw[Ar]at ho hy
     cases ha with
     |ref _ _ _ _ b e size hg hφ=>
      obtain⟨_,_,k3⟩:=hI.objs o _ ho
      rw[hφ]at k3
      obtain⟨_,he,_,_,_,cur,t',hcur,_,hH⟩:=k3
      subst he
      obtain⟨h1,h2⟩:=hH i y hy
      obtain⟨v,h3,_⟩:=h2 off _ (List.getElem?_eq_getElem (by omega))
      exact⟨_,v,rfl,by simp[World.cell?,hcur,h3],by simp[World.frozen?,hcur]⟩
    ·cases hev
   ·cases hev
  ·cases hev
 ·cases hev
theorem Y2 {fn:Func} {rs:List Ul} (hrs:Es P fn.ntmps fn.results.toList=some rs) {env:Env} {WW:List AV} {tmps:Array Value} (hI:Inv w0 B s Z φ w) (hE:Aq w Z φ s.ctr env tmps) (hr:Fb env s rs=some WW):
 ∃v,(results fn tmps).run P w=.ok v w∧Rep w Z φ s.ctr (DW WW) v:=by
 obtain⟨xs,k1,k2,k3⟩:=J4 (P:=P) hI hE hrs hr
 have hrun:(results fn tmps).run P w=.ok (if h:xs.toArray.size=1 then xs.toArray[0]else .tuple xs.toArray) w:=by
  rw[results_read,Array.mapM_eq_mapM_toList]
  simp only[Sem.run_bind,Sem.run_map,k1,Result.andThen_ok,Sem.run_pure]
 refine⟨_,hrun,?_⟩
 by_cases h1:xs.length=1
 ·obtain⟨x,rfl⟩:∃x,xs=[x]:=List.length_eq_one_iff.1 h1
  obtain⟨v,rfl⟩:∃v,WW=[v]:=List.length_eq_one_iff.1 (by omega)
  obtain⟨x',g1,g2⟩:=k3 0 v rfl
  simp only[List.getElem?_cons_zero,Option.some.injEq]at g1
  subst g1
  simpa[DW]using g2
 ·have ht:DW WW=.CP WW:=by
   unfold DW
   split
   ·rename_i v;simp at k2;omega
   ·rfl
  rw[ht,dif_neg (by simpa using h1)]
  refine .CP _ _ (by simp[k2]) fun i c hi=>?_
  obtain⟨x',g1,g2⟩:=k3 i c hi
  have:xs.toArray.getD i undef=x':=EU (by simpa using g1)
  rw[this];exact g2
theorem NK {fn:Func} {d:DFn} (hrs:Es P fn.ntmps fn.results.toList=some d.results) {env:Env} {tmps:Array Value} {out:AB} (hI:Inv w0 B s Z φ w) (hE:Aq w Z φ s.ctr env tmps) (hr:Y3 d env s=some (out,s')):
 s'=s∧∃v,(results fn tmps).run P w=.ok v w∧Hl w Z φ s.ctr out (.returned v):=by
 unfold Y3 at hr
 simp only[Option.map_eq_some_iff,Prod.mk.injEq]at hr
 obtain⟨WW,h1,rfl,rfl⟩:=hr
 obtain⟨v,h2,h3⟩:=Y2 hrs hI hE h1
 exact⟨rfl,v,h2,v,rfl,h3⟩
theorem Abj (hm:P.follows .mixedOrders=true) {f:Nat} {d:DFn} {fn:Func} {an:List ED} {b1 b2 bD b3:Code} {g:Nat} {t:TypeId} (h:Agj P f d fn an b1 b2 bD b3 g t):Ll P f d:=by
 obtain⟨hf,hname,hb,hle,hnp,h1,h2,h3,hrs,hc,hD,hinv,idle,catch_⟩:=h
 intro C N hC f' args s out s' hev
 replace hev:(if f'=f∧args.length=d.np then evD C N d args s else none)=some (out,s'):=hev
 split at hev
 case isFalse=>cases hev
 rename_i hfl
 obtain⟨rfl,hlen⟩:=hfl
 refine fun w0 B Z φ w vs hI hargs=>.inl ⟨⟨fn,hf,by rw[hb];rfl,hname⟩,?_⟩
 have hvs:vs.size=fn.params.size+fn.nfree:=by rw[← hargs.1,hlen,hnp]
 have hsz:(vs++Array.replicate (fn.ntmps-vs.size) undef).size=fn.ntmps:=by simp;omega
 have hE:Aq w Z φ s.ctr (params args 0) (vs++Array.replicate (fn.ntmps-vs.size) undef):=by
  intro t
  rw[J5]
  split
  ·rename_i ht
   have hlt:t<args.length:=by omega
   obtain⟨v,h1,h2⟩:=hargs.2 t _ (List.getElem?_eq_getElem hlt)
   have hvt:t<vs.size:=by rw[← hargs.1];exact hlt
   have:(vs++Array.replicate (fn.ntmps-vs.size) undef).getD t undef=v:=by
        rw[Array.getD_eq_getD_getElem?,Array.getElem?_append_left hvt,h1];rfl
   rw[this]
   simpa[List.getElem?_eq_getElem hlt]using h2
  ·exact .junk _
 refine calls_of_wp_defers hf hb (wp_seq ?_)
 obtain⟨R,hR⟩:∃R:Ending→World→Prop,R=fun e w'=>∃Z' φ',Inv w0 B s' Z' φ' w'∧Later B w Z φ s.ctr w' Z' φ' s'.ctr∧Hl w' Z' φ' s'.ctr out e:=⟨_,rfl⟩
 rw[← hR]
 have hRi:∀{e w' Z' φ'},Inv w0 B s' Z' φ' w'→Later B w Z φ s.ctr w' Z' φ' s'.ctr→Hl w' Z' φ' s'.ctr out e→R e w':=fun a b c=>by rw[hR];exact⟨_,_,a,b,c⟩
 clear hR
 unfold evD at hev
 cases hc1:EO C N (.seq d.Abi d.pre2) (params args 0) s with
 |none=>rw[hc1]at hev;cases hev
 |some x=>
  rw[hc1]at hev
  obtain⟨e1,BA,s1⟩:=x
  have fin1:∀e1' a1 w1 Z1 φ1,Aal w1 Z1 φ1 s1.ctr e1 e1'→a1.tmps.size=fn.ntmps→a1.defers=[]→Inv w0 B s1 Z1 φ1 w1→Aq w1 Z1 φ1 s1.ctr BA a1.tmps→Later B w Z φ s.ctr w1 Z1 φ1 s1.ctr→
        Exit.then ((Code.seq bD b3).wp P (bodyPostD P fn R)) (bodyPostD P fn R) e1' a1 w1:=by
   intro e1' a1 w1 Z1 φ1 q1 q2 q3 q4 q5 q6
   cases e1 with
   |exit id=>cases hev
   |ret=>
    cases q1
    obtain⟨rfl,v,r1,r2⟩:=NK hrs q4 q5 hev
    show Leaves P fn a1.tmps R a1.defers .returning w1
    rw[q3]
    exact⟨v,r1,hRi q4 q6 r2⟩
   |Ef v=>
    simp only[Option.some.injEq,Prod.mk.injEq]at hev
    obtain⟨rfl,rfl⟩:=hev
    obtain⟨x,rfl,hx⟩:=q1
    show Leaves P fn a1.tmps R a1.defers (.panicking _) w1
    rw[q3]
    exact hRi q4 q6 ⟨x,rfl,hx⟩
   |normal=>
    cases q1
    simp only at hev
    split at hev
    case h_2=>cases hev
    rename_i hj
    refine wp_seq (hD _ a1 w1 q2 fun a2 p2 p3 p4=>?_)
    have hE2:Aq w1 Z1 φ1 s1.ctr BA a2.tmps:=by
     intro k
     by_cases hk:k=d.tcl
     ·subst hk;rw[hj];exact .junk _
     ·rw[p4 k hk];exact q5 k
    rw[q3]at p3
    cases hc3:EO C N d.post BA s1 with
    |none=>rw[hc3]at hev;cases hev
    |some y=>
     rw[hc3]at hev
     obtain⟨e2,Dj,s2⟩:=y
     show b3.wp P _ a2 w1
     refine EH hC hm N b3 d.post h3 BA s1 a2 w1 Z1 φ1 e2 Dj s2 _ hc3 q4 hE2 p2 fun e2' a3 w2 Z2 φ2 k1 k2 k3 k4 k5 k6=>?_
     rw[p3]at k3
     have fin:Y3 d Dj s2=some (out,s')→Leaves P fn a3.tmps R a3.defers .returning w2:=by
      intro hr
      rw[k3]
      refine leaves_cons (by simp) (hinv _ _) ((idle _ _).mono ?_)
      rintro e u' w' ⟨⟨v0,rfl⟩,rfl,rfl⟩
      obtain⟨rfl,v,r1,r2⟩:=NK hrs k4 k5 hr
      exact⟨v,r1,hRi k4 (q6.trans k6) r2⟩
     cases e2 with
     |exit id=>cases hev
     |normal=>cases k1;exact fin hev
     |ret=>cases k1;exact fin hev
     |Ef v=>
      obtain⟨x,rfl,hx⟩:=k1
      simp only at hev
      unfold Sm at hev
      split at hev
      case h_2=>cases hev
      rename_i tt k n
      split at hev
      case isFalse=>cases hev
      rename_i htag
      subst htag
      split at hev
      case h_2=>cases hev
      rename_i u s3 ho
      have hx':x=.iface d.tag (.int k n):=by
           cases hx with
           |iface _ _ y hy=>cases hy;rfl
      subst hx'
      obtain⟨_,w3,m1,m2,m3⟩:=UW (P:=P) k4 hc ((q5 d.cell).later k6) (.int k n) rfl rfl ho
      show Leaves P fn a3.tmps R a3.defers (.panicking _) w2
      rw[k3]
      refine leaves_cons (by simp) (hinv _ _) ((catch_ _ _ _ _ _ (Ac9 k4 ((q5 d.cell).later k6) rfl rfl ho) m1).mono ?_)
      rintro e u' w' ⟨⟨v0,rfl⟩,rfl,rfl⟩
      obtain⟨rfl,v,r1,r2⟩:=NK hrs m2 (k5.later m3) hev
      show Leaves P fn a3.tmps R [] (settle _) _
      exact⟨v,r1,hRi m2 ((q6.trans k6).trans m3) r2⟩
  simp only[EO]at hc1
  split at hc1
  ·rename_i env' sm ha
   refine EH hC hm N b1 d.Abi h1 (params args 0) s _ w Z φ .normal env' sm _ ha hI hE hsz fun e1' a1 w1 Z1 φ1 q1 q2 q3 q4 q5 q6=>?_
   cases q1
   refine wp_seq ?_
   refine EH hC hm N b2 d.pre2 h2 env' sm a1 w1 Z1 φ1 e1 BA s1 _ hc1 q4 q5 q2 fun e2' a2 w2 Z2 φ2 k1 k2 k3 k4 k5 k6=>?_
   exact fin1 e2' a2 w2 Z2 φ2 k1 k2 (k3.trans q3) k4 k5 (q6.trans k6)
  ·rename_i r hne
   refine EH hC hm N b1 d.Abi h1 (params args 0) s _ w Z φ e1 BA s1 _ hc1 hI hE hsz fun e1' a1 w1 Z1 φ1 q1 q2 q3 q4 q5 q6=>?_
   have h:=fin1 e1' a1 w1 Z1 φ1 q1 q2 q3 q4 q5 q6
   cases e1 with
   |normal=>exact absurd hc1 (hne _ _)
   |exit id=>cases hev
   |ret=>cases q1;exact h
   |Ef v=>obtain⟨x,rfl,hx⟩:=q1;exact h
end
section
open Go.RowKit
def AfG:Code→Code
 | .seq a _=>a
 |c=>c
def XY:Code→Code
 | .seq _ b=>b
 |c=>c
def AdK (f:Func):Code:=match f.body with
 |some b=>b
 |none=>.skip
theorem stepD (Q:Exit→Act→World→Prop) (a:Act) (w:World) (hs:a.tmps.size=Tryz.f121.ntmps)
 (h:∀a':Act,a'.tmps.size=Tryz.f121.ntmps→a'.defers={target:=.fn (.func 152) #[a.tmps.getD 4 undef],args:=#[]}::a.defers→(∀ k,k≠11→a'.tmps.getD k undef=a.tmps.getD k undef)→Q .normal a' w):
 (AfG (XY (XY (AdK Tryz.f121)))).wp Tryz.prog Q a w:=by
 have hs':a.tmps.size=21:=hs
 have h11:11<a.tmps.size:=by omega
 obtain⟨tm,ds⟩:=a
 refine wp_region ?_
 simp[wpOps,go_sem,h11]
 refine .inl (.inl (h _ ?_ ?_ ?_))
 ·simpa using hs
 ·simp[Array.getD_eq_getD_getElem?]
 ·intro k hk
  simp only[Array.getD_eq_getD_getElem?]
  rw[Array.getElem?_setIfInBounds_ne (by omega)]
end
end AI
end Go.Proofs.YtchcadfjbkkgmaaGreatDoor
