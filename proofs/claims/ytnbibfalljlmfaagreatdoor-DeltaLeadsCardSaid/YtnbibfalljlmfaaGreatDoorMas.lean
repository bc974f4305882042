/- A step keeps what an editor asks. Walks through a function that defers a recovering closure. A step of an editor. Cloned lists as a caller's own. A graph copied, for an editor. -/
import Derived.Test.YtnbibfalljlmfaaGreatDoorMar
import Derived.Test.YtnbibfalljlmfaaGreatDoorVa
import Derived.Test.YtnbibfalljlmfaaGreatDoorMao
set_option linter.unusedVariables false
set_option maxRecDepth 4000
namespace Go.Proofs.YtnbibfalljlmfaaGreatDoor
namespace AI
section
variable {α κ:Type} {lt:κ→κ→Bool} {key:α→κ}
theorem len_ba (hs:STO lt) {k:κ}:∀{l:List α},(below lt key k l).length+(above lt key k l).length≤l.length
  |[]=>by simp[below,above]
  | a::l=>by
    have ih:=len_ba hs (k:=k) (l:=l)
    unfold below above at ih ⊢
    cases h1:lt (key a) k<;>cases h2:lt k (key a)
    · rw[List.filter_cons_of_neg (by simp[h1]),List.filter_cons_of_neg (by simp[h2])];simp;omega
    · rw[List.filter_cons_of_neg (by simp[h1]),List.filter_cons_of_pos (by simp[h2])];simp;omega
    · rw[List.filter_cons_of_pos (by simp[h1]),List.filter_cons_of_neg (by simp[h2])];simp;omega
    · have:=hs.tr _ _ _ h1 h2;rw[hs.irr]at this;cases this
theorem len_ba1 (hs:STO lt) {k:κ}:∀{l:List α},(∃ y∈l,key y=k)→(below lt key k l).length+(above lt key k l).length+1≤l.length
  |[],h=>by simp at h
  | a ::l,h=>by
    by_cases hk:key a=k
    · have ih:=len_ba hs (key:=key) (k:=k) (l:=l)
      unfold below above at ih ⊢
      have h1:lt (key a) k=false:=by rw[hk];exact hs.irr _
      have h2:lt k (key a)=false:=by rw[hk];exact hs.irr _
      rw[List.filter_cons_of_neg (by simp[h1]),List.filter_cons_of_neg (by simp[h2])];simp;omega
    · have hm:∃y∈l,key y=k:=by
        obtain⟨y,hy,e⟩:=h
        rcases List.mem_cons.1 hy with rfl|hy
        · exact absurd e hk
        · exact⟨y,hy,e⟩
      have ih:=len_ba1 hs hm
      unfold below above at ih ⊢
      cases h1:lt (key a) k<;>cases h2:lt k (key a)
      · rw[List.filter_cons_of_neg (by simp[h1]),List.filter_cons_of_neg (by simp[h2])];simp;omega
      · rw[List.filter_cons_of_neg (by simp[h1]),List.filter_cons_of_pos (by simp[h2])];simp;omega
      · rw[List.filter_cons_of_pos (by simp[h1]),List.filter_cons_of_neg (by simp[h2])];simp;omega
      · have:=hs.tr _ _ _ h1 h2;rw[hs.irr]at this;cases this
theorem Agz (hs:STO lt) {x:α} {l:List α}:(Tc lt key x l).length≤l.length+1:=by
  have:=len_ba hs (key:=key) (k:=key x) (l:=l)
  simp only[Tc,List.length_append,List.length_singleton];omega
theorem AtG (hs:STO lt) {x:α} {l:List α} (h:∃y∈l,key y=key x):(Tc lt key x l).length≤l.length:=by
  have:=len_ba1 hs (key:=key) (k:=key x) (l:=l) h
  simp only[Tc,List.length_append,List.length_singleton];omega
theorem Aee (hs:STO lt) {k:κ} {l:List α}:(AhH lt key k l).length≤l.length:=by
  have:=len_ba hs (key:=key) (k:=k) (l:=l)
  simp only[AhH,List.length_append];omega
end
structure AHn (n:GN):Prop where
  iL:Inc Op.bytesLess id n.labels
  lL:n.labels.length≤8
  iP:Inc Op.bytesLess GP.key n.props
  lP:n.props.length≤16
structure AHo (n:GE):Prop where
  iP:Inc Op.bytesLess GP.key n.props
  lP:n.props.length≤16
structure Ajy (g:GG):Prop where
  lN:g.nodes.length≤2000
  lE:g.edges.length≤4000
  iN:Inc ltI GN.id g.nodes
  iE:Inc ltI GE.id g.edges
  aN:∀n∈g.nodes,AHn n
  aE:∀n∈g.edges,AHo n
  bx:-2^62≤g.AeT∧g.AeT≤2^62
  by_:-2^62≤g.Afg∧g.Afg≤2^62
theorem Ajy.ask {nb eb:Bool} {N:List EN} {E:List EE} {x y:Int} (h:Ajy (gOf nb eb N E x y)):Ask N E x y where
  lN:=by have:=h.lN;simpa[gOf]using this
  lE:=by have:=h.lE;simpa[gOf]using this
  iN:=h.iN
  iE:=h.iE
  iL:=fun e he=>by have:=h.aN e.n (List.mem_map_of_mem he);exact⟨this.iL,this.lL⟩
  iP:=fun e he=>by have:=h.aN e.n (List.mem_map_of_mem he);exact⟨this.iP,this.lP⟩
  iQ:=fun e he=>by have:=h.aE e.e (List.mem_map_of_mem he);exact⟨this.iP,this.lP⟩
  bx:=h.bx
  by_:=h.by_
theorem Ajy.Ap7 {g:GG} (h:Ajy g) {n:GN} (hn:AHn n) (hm:∃m∈g.nodes,m.id=n.id):Ajy {g with nodes:=Tc ltI GN.id n g.nodes}:=
  { h with
    lN:=Nat.le_trans (AtG Hu hm) h.lN
    iN:=Agg Hu h.iN
    aN:=fun m hm=>by rcases Nk Hu hm with rfl|hm;exact hn;exact h.aN _ hm}
theorem Ajy.AxA {g:GG} (h:Ajy g) {n:GE} (hn:AHo n) (hm:∃m∈g.edges,m.id=n.id):Ajy {g with edges:=Tc ltI GE.id n g.edges}:=
  { h with
    lE:=Nat.le_trans (AtG Hu hm) h.lE
    iE:=Agg Hu h.iE
    aE:=fun m hm=>by rcases Nk Hu hm with rfl|hm;exact hn;exact h.aE _ hm}
theorem AA2 {α:Type} {p:α→Bool} {l:List α} {n:α} (h:l.find? p=some n):n∈l∧p n=true:=⟨List.mem_of_find?_eq_some h,List.find?_some h⟩
theorem Ajy.node {g:GG} (h:Ajy g) {c:GC} (hid:idG c.id):Ajy (AhO g c).2:=by
  unfold AhO
  split
  · split
    · exact h
    split
    · rename_i hl
      exact{h with
        lN:=by have:=Agz (key:=GN.id) Hu (x:=⟨c.id,false,[],false,[]⟩) (l:=g.nodes);show(Tc ltI GN.id _ g.nodes).length≤2000;omega
        iN:=Agg Hu h.iN
        aN:=fun m hm=>by
          rcases Nk Hu hm with rfl|hm
          · exact⟨List.Pairwise.nil,by simp,List.Pairwise.nil,by simp⟩
          · exact h.aN _ hm
        bx:=by have:=h.bx;have:=hid.2;have:=hid.1;show _≤(if c.id+1>g.AeT then c.id+1 else g.AeT)∧(if c.id+1>g.AeT then c.id+1 else g.AeT)≤_;split<;>omega}
    · exact h
  split
  · exact h
  rename_i n hf
  obtain⟨hn,hz⟩:=AA2 hf
  replace hz:=of_decide_eq_true hz
  have ha:=h.aN n hn
  split
  · split
    · exact h
    · exact{h with lN:=Nat.le_trans (Aee Hu) h.lN,iN:=AcN Hu h.iN,aN:=fun m hm=>h.aN m (SC hm)}
  split
  · split
    · exact h
    split
    · rename_i hl
      exact h.Ap7 ⟨Agg G7 ha.iL,Nat.le_trans (Agz G7) (by omega),ha.iP,ha.lP⟩ ⟨n,hn,rfl⟩
    · exact h
  split
  · split
    · exact h.Ap7 ⟨AcN G7 ha.iL,Nat.le_trans (Aee G7) ha.lL,ha.iP,ha.lP⟩ ⟨n,hn,rfl⟩
    · exact h
  split
  · exact h.Ap7 ⟨ha.iL,ha.lL,AcN G7 ha.iP,Nat.le_trans (Aee G7) ha.lP⟩ ⟨n,hn,rfl⟩
  split
  · rename_i hx
    refine h.Ap7 ⟨ha.iL,ha.lL,Agg G7 ha.iP,?_⟩ ⟨n,hn,rfl⟩
    rcases hx with hx|hx
    · exact Nat.le_trans (AtG G7 hx) ha.lP
    · exact Nat.le_trans (Agz G7) (by omega)
  · exact h
theorem Ajy.edge {g:GG} (h:Ajy g) {c:GC} (hid:idG c.id):Ajy (AmZ g c).2:=by
  unfold AmZ
  split
  · split
    · exact h
    split
    · split
      · rename_i hl
        exact{h with
          lE:=by have:=Agz (key:=GE.id) Hu (x:=⟨c.id,c.fr,c.to,c.name,false,[]⟩) (l:=g.edges);show(Tc ltI GE.id _ g.edges).length≤4000;omega
          iE:=Agg Hu h.iE
          aE:=fun m hm=>by
            rcases Nk Hu hm with rfl|hm
            · exact⟨List.Pairwise.nil,by simp⟩
            · exact h.aE _ hm
          by_:=by have:=h.by_;have:=hid.2;have:=hid.1;show _≤(if c.id+1>g.Afg then c.id+1 else g.Afg)∧(if c.id+1>g.Afg then c.id+1 else g.Afg)≤_;split<;>omega}
      · exact h
    · exact h
  split
  · exact h
  rename_i n hf
  obtain⟨hn,hz⟩:=AA2 hf
  have ha:=h.aE n hn
  split
  · exact{h with lE:=Nat.le_trans (Aee Hu) h.lE,iE:=AcN Hu h.iE,aE:=fun m hm=>h.aE m (SC hm)}
  split
  · exact h.AxA ⟨AcN G7 ha.iP,Nat.le_trans (Aee G7) ha.lP⟩ ⟨n,hn,rfl⟩
  split
  · rename_i hx
    refine h.AxA ⟨Agg G7 ha.iP,?_⟩ ⟨n,hn,rfl⟩
    rcases hx with hx|hx
    · exact Nat.le_trans (AtG G7 hx) ha.lP
    · exact Nat.le_trans (Agz G7) (by omega)
  · exact h
theorem Ajy.step {g:GG} (h:Ajy g) {c:GC}:Ajy (stepG g c).2:=by
  unfold stepG
  split
  · exact h
  rename_i hk
  have h0:=AX4 (Classical.not_not.1 hk)
  split
  · exact h.node h0.2.1
  · exact h.edge h0.2.1
section
variable {AP:Nat→Option AFn}
def vRet (D:DFn) (K:AX5→Sto→Prop) (env:Env) (s:Sto):Prop:=AXR (AV8 env s D.results) fun vs=>K (.ok (tupOf vs)) s
def vCatch (AP:Nat→Option AFn) (D:DFn) (K:AX5→Sto→Prop) (c v:AV) (env:Env) (s:Sto):Prop:=match v with
  | .iface t (.int k n)=>need (t=D.tag) (vOp AP (.store 1 (.cst c) (.cst (.int k n))) [] s fun out s'=>match out with
    | .ok _=>vRet D K env s'
    | .pan _=>False)
  |_=>False
def vPost (AP:Nat→Option AFn) (D:DFn) (K:AX5→Sto→Prop) (env0:Env) (e:Je) (env:Env) (s:Sto):Prop:=match e with
  | .normal=>vRet D K env s
  | .ret=>vRet D K env s
  | .pan v=>vCatch AP D K (env0.get D.cell) v env s
  | .exit _=>False
def vPre (AP:Nat→Option AFn) (D:DFn) (K:AX5→Sto→Prop) (e:Je) (env:Env) (s:Sto):Prop:=match e with
  | .ret=>vRet D K env s
  | .pan v=>K (.pan v) s
  | .normal=>match env.get D.tcl with
    | .junk=>vC AP D.post env s (vPost AP D K env)
    |_=>False
  | .exit _=>False
theorem vRet_out {D:DFn} {K:AX5→Sto→Prop} {env:Env} {s:Sto} (h:vRet D K env s):∃out s',retD D env s=some (out,s')∧K out s':=by
  obtain⟨vs,h1,h2⟩:=h
  exact⟨_,_,by simp only[retD,h1,Option.map_some],h2⟩
theorem vCatch_out {D:DFn} {K:AX5→Sto→Prop} {c v:AV} {env:Env} {s:Sto} (h:vCatch AP D K c v env s):∃N out s',catchD (run AP N) D c v env s=some (out,s')∧K out s':=by
  unfold vCatch at h
  split at h
  · obtain⟨rfl,h⟩:=h
    obtain⟨N,out,s1,h1,h2⟩:=vOp_sound h
    cases out with
    | ok u=>
      obtain⟨out,s',h3,h4⟩:=vRet_out h2
      exact⟨N,out,s',by simp only[catchD,if_true,h1];exact h3,h4⟩
    |pan u=>cases h2
  · cases h
theorem calls_dfr {f:Nat} {D:DFn} {args:List AV} {s:Sto} {K:AX5→Sto→Prop} (hf:AP f=some (.dfr D)) (hl:args.length=D.np) (h:vC AP (.seq D.pre1 D.pre2) (params args 0) s (vPre AP D K)):H6 AP f args s K:=by
  obtain⟨N,e,env,s1,h1,h2⟩:=vC_sound h
  cases e with
  | ret=>
    obtain⟨out,s',h3,h4⟩:=vRet_out h2
    exact⟨N+1,out,s',by simp only[run,hf,if_pos hl,evD,h1];exact h3,h4⟩
  |pan v=>exact⟨N+1,_,_,by simp only[run,hf,if_pos hl,evD,h1],h2⟩
  |exit id=>cases h2
  | normal=>
    simp only[vPre]at h2
    split at h2
    · rename_i hj
      obtain⟨M,e2,env2,s2,h3,h4⟩:=vC_sound h2
      have h1':=fun P=>evC_mono (le_call (AP:=AP) (Nat.le_max_left N P)) (Nat.le_max_left N P) h1
      cases e2 with
      | normal=>
        obtain⟨out,s',h5,h6⟩:=vRet_out h4
        have h3':=evC_mono (le_call (AP:=AP) (Nat.le_max_right N M)) (Nat.le_max_right N M) h3
        exact⟨max N M+1,out,s',by simp only[run,hf,if_pos hl,evD,h1' M,hj,h3'];exact h5,h6⟩
      | ret=>
        obtain⟨out,s',h5,h6⟩:=vRet_out h4
        have h3':=evC_mono (le_call (AP:=AP) (Nat.le_max_right N M)) (Nat.le_max_right N M) h3
        exact⟨max N M+1,out,s',by simp only[run,hf,if_pos hl,evD,h1' M,hj,h3'];exact h5,h6⟩
      | pan v=>
        obtain⟨P,out,s',h5,h6⟩:=vCatch_out h4
        have h3':=evC_mono (le_call (AP:=AP) (show M≤max N (max M P) by omega)) (show M≤max N (max M P) by omega) h3
        have h5':=catchD_mono (le_call (AP:=AP) (show P≤max N (max M P) by omega)) h5
        exact⟨max N (max M P)+1,out,s',by simp only[run,hf,if_pos hl,evD,h1' (max M P),hj,h3'];exact h5',h6⟩
      |exit id=>cases h4
    · cases h2
end
section
variable {σ:List Obj} {d gd:Nat} {vN vE:AV} {nb eb:Bool} {N:List EN} {E:List EE} {x y:Int} {ct:Nat} {K:AX5→Sto→Prop}
theorem Ed.notCell {σ:List Obj} {d gd:Nat} {vN vE:AV} {nb eb:Bool} {N:List EN} {E:List EE} {x y:Int} (h:Ed σ d gd vN vE nb eb N E x y) {o g:Nat} {c:Bool} {k:IntKind} {z:Int} (ho:nth σ o=some (.arr g 1 true c [.int k z])):∀q∈d::(vN.obj++(vE.obj++objsE N E)),q∉[o]:=by
  intro q hq hm
  obtain rfl:q=o:=by simpa using hm
  obtain⟨cn,hn1,_⟩:=h.hn
  obtain⟨ce,he1,_⟩:=h.he
  rcases List.mem_cons.1 hq with rfl|hq
  · have:=h.box;rw[ho]at this;simp at this
  rcases List.mem_append.1 hq with hq|hq
  · exact hn1.diff ho (by decide) hq
  rcases List.mem_append.1 hq with hq|hq
  · exact he1.diff ho (by decide) hq
  rcases List.mem_append.1 hq with hq|hq<;>obtain⟨e,he,hm⟩:=List.mem_flatMap.1 hq
  · rcases List.mem_append.1 hm with hm|hm
    · rcases(h.hN e he).1 with⟨_,_,h1|⟨o',g',es',h1,h2⟩⟩|⟨_,o',g',h1,h2⟩
      · rw[h1]at hm;simp[AV.obj]at hm
      · rw[h1]at hm;simp only[AV.obj,List.mem_singleton]at hm;subst hm;rw[ho]at h2;simp at h2
      · rw[h1]at hm;simp only[AV.obj,List.mem_singleton]at hm;subst hm;rw[ho]at h2
        simp only[Option.some.injEq,Obj.arr.injEq]at h2
        have:=h2.2.2.2.2
        cases hl:e.n.labels with
        |nil=>rw[hl]at this;simp[vs]at this
        |cons a l=>rw[hl]at this;simp[vs]at this
    · exact(h.hN e he).2.diff ho (by decide) hm
  · exact Hd.diff (h.hE e he) ho (by decide) hm
theorem EdG.cell {σ σ':List Obj} {d gd:Nat} {g:GG} (h:EdG σ d gd g) {o u:Nat} {c:Bool} {k:IntKind} {z:Int} (ho:nth σ o=some (.arr u 1 true c [.int k z])) (f:Fr σ σ' [o]):EdG σ' d gd g:=by
  obtain⟨vN,vE,nb,eb,N,E,x,y,hE,e⟩:=h
  exact⟨_,_,_,_,_,_,_,_,hE.fr f (hE.notCell ho),e⟩
theorem res4 {σ:List Obj} {o g c':Nat} {nn cl:Bool} {z:Int} (h:nth σ o=some (.arr g 1 nn cl [.int .i64 z])):AV8 [(4,.ref o g 0 0)] ⟨σ,c'⟩ AEb.results=some [.int .i64 z]:=by
  show(match ALw [(4,.ref o g 0 0)] ⟨σ,c'⟩ (.cell 4 none),AV8 [(4,.ref o g 0 0)] ⟨σ,c'⟩ []with
    |some v,some vs=>some (v::vs)
    |_,_=>none)=_
  have e:ALw [(4,.ref o g 0 0)] ⟨σ,c'⟩ (.cell 4 none)=some (.int .i64 z):=by
    simp[ALw,Env.get,h,nth,AV.cells,loadCells]
  rw[e]
  rfl
set_option maxHeartbeats 4000000 in
theorem stepW {c:GC} (h:Ed σ d gd vN vE nb eb N E x y) (hq:Ask N E x y) (hok:c.ok)
    (hR:∀σ' c',EdG σ' d gd (stepG (gOf nb eb N E x y) c).2→Fr σ σ' (d::(vN.obj++(vE.obj++objsE N E)))→K (.ok (.int .i64 (stepG (gOf nb eb N E x y) c).1)) ⟨σ',c'⟩):
    H6 (Dx tab) 41 [.ref d gd 0 0,c.av] ⟨σ,ct⟩ K:=by
  have hck:=chgCk hok
  have hlt:=h.all_lt
  have hdl:=nth_lt h.box
  have hv:c.v.ok:=hok.2.2.2.2.2
  have h0:=fun(h0:ckC c=0)=>AX4 h0
  obtain⟨op,z,fr,to,nm,v⟩:=c
  refine calls_dfr rfl rfl ?_
  show vC _ _ [(0,.ref d gd 0 0),(1,.agg [.int .i64 op,.int .i64 z,.int .i64 fr,.int .i64 to,.str nm,.int .i64 v.k,.int .i64 v.n,.int .i64 v.d,.str v.s,.sl v.nn v.l])] _ _
  conv=>whnf
  (conv=>whnf);repeat' (first|(refine snocG fun σ2 f2 h2 l2=>?_;have h12:=f2.get h1 (by simp);have hE2:=(h.fr0 f1).fr0 f2;have f02:=f1.trans f2;conv=>whnf)|(refine snocG fun σ1 f1 h1 l1=>?_;conv=>whnf)|(refine BM hck ?_;rintro _ rfl;conv=>whnf)|(rw [h12];conv=>whnf)|(rw [h2];conv=>whnf)|(refine setG h2 fun σ3 f3 h3 l3=>?_;conv=>whnf)|(rw [h3];conv=>whnf)|((with_reducible first|apply kN|apply kW|apply kX|apply kG|apply kQ);(· exact sd);conv=>whnf)|(refine DW.mk ?_ ?_<;>intro hc<;>(try rw[List.length_nil]at hc)<;>first|(exfalso;omega)|(exact absurd rfl hc)|conv=>whnf)|(refine CB ?_ ?_<;>intro hc<;>conv=>whnf))
  all_goals have hns:∀q∈d::(vN.obj++(vE.obj++objsE N E)),q<σ.length:=hlt
  all_goals have l1':σ1.length=σ.length+1:=l1
  · have hk:ckC (GC.mk op z fr to nm v)=0:=by assumption
    have h0':=h0 hk
    have hs:stepG (gOf nb eb N E x y) ⟨op,z,fr,to,nm,v⟩=AhO (gOf nb eb N E x y) ⟨op,z,fr,to,nm,v⟩:=by
      unfold stepG;rw[if_neg (fun h=>h hk),if_pos hc]
    refine nodesW hE2 hq ⟨h0'.1.1,hc⟩ h0'.2.1 hv (fun e he σ' c' f=>?_) (fun g' hg σ' c' hE' f=>?_)
    · have hz3:=f.get h2 (by simp)
      (conv=>whnf);repeat' (first|(rw [hz3];conv=>whnf)|(refine setG hz3 fun σ4 f4 h4 l4=>?_;conv=>whnf)|((with_reducible first|apply kN|apply kW|apply kX|apply kG|apply kQ);(· exact sd);conv=>whnf)|(refine DW.mk ?_ ?_<;>intro hc<;>(try rw[List.length_nil]at hc)<;>first|(exfalso;omega)|(exact absurd rfl hc)|conv=>whnf)|(refine CB ?_ ?_<;>intro hc<;>conv=>whnf))
      refine⟨_,res4 h4,?_⟩
      rw[hs,he]at hR
      have ff:Fr σ σ4 []:=(((f02.trans f).mono (by simp)).trans f4).mono (by simp;omega)
      exact hR _ _ ⟨_,_,_,_,_,_,_,_,h.fr0 ff,rfl⟩ (ff.mono (by simp))
    · have hz3:=f.get h2 (fun hm=>by have:=hns _ hm;dsimp only at this;omega)
      (conv=>whnf);repeat' (first|(rw [hz3];conv=>whnf)|(refine setG hz3 fun σ4 f4 h4 l4=>?_;conv=>whnf)|((with_reducible first|apply kN|apply kW|apply kX|apply kG|apply kQ);(· exact sd);conv=>whnf)|(refine DW.mk ?_ ?_<;>intro hc<;>(try rw[List.length_nil]at hc)<;>first|(exfalso;omega)|(exact absurd rfl hc)|conv=>whnf)|(refine CB ?_ ?_<;>intro hc<;>conv=>whnf))
      refine⟨_,res4 h4,?_⟩
      rw[hs,hg]at hR
      refine hR _ _ (hE'.cell hz3 f4) ((((f02.mono (F':=σ1.length::(d::(vN.obj++(vE.obj++objsE N E)))) (by simp)).trans (f.mono (by intro q hq;exact .inl (List.mem_cons_of_mem _ hq)))).trans (f4.mono (by simp))).mono fun q hq=>?_)
      rcases List.mem_cons.1 hq with rfl|hq
      · exact .inr (by omega)
      · exact .inl hq
  · have hk:ckC (GC.mk op z fr to nm v)=0:=by assumption
    have h0':=h0 hk
    have hs:stepG (gOf nb eb N E x y) ⟨op,z,fr,to,nm,v⟩=AmZ (gOf nb eb N E x y) ⟨op,z,fr,to,nm,v⟩:=by
      unfold stepG;rw[if_neg (fun h=>h hk),if_neg hc]
    refine edgesW hE2 hq ⟨show 6≤op by omega,h0'.1.2⟩ h0'.2.1 hv (fun e he σ' c' f=>?_) (fun g' hg σ' c' hE' f=>?_)
    · have hz3:=f.get h2 (by simp)
      (conv=>whnf);repeat' (first|(rw [hz3];conv=>whnf)|(refine setG hz3 fun σ4 f4 h4 l4=>?_;conv=>whnf)|((with_reducible first|apply kN|apply kW|apply kX|apply kG|apply kQ);(· exact sd);conv=>whnf)|(refine DW.mk ?_ ?_<;>intro hc<;>(try rw[List.length_nil]at hc)<;>first|(exfalso;omega)|(exact absurd rfl hc)|conv=>whnf)|(refine CB ?_ ?_<;>intro hc<;>conv=>whnf))
      refine⟨_,res4 h4,?_⟩
      rw[hs,he]at hR
      have ff:Fr σ σ4 []:=(((f02.trans f).mono (by simp)).trans f4).mono (by simp;omega)
      exact hR _ _ ⟨_,_,_,_,_,_,_,_,h.fr0 ff,rfl⟩ (ff.mono (by simp))
    · have hz3:=f.get h2 (fun hm=>by have:=hns _ hm;dsimp only at this;omega)
      (conv=>whnf);repeat' (first|(rw [hz3];conv=>whnf)|(refine setG hz3 fun σ4 f4 h4 l4=>?_;conv=>whnf)|((with_reducible first|apply kN|apply kW|apply kX|apply kG|apply kQ);(· exact sd);conv=>whnf)|(refine DW.mk ?_ ?_<;>intro hc<;>(try rw[List.length_nil]at hc)<;>first|(exfalso;omega)|(exact absurd rfl hc)|conv=>whnf)|(refine CB ?_ ?_<;>intro hc<;>conv=>whnf))
      refine⟨_,res4 h4,?_⟩
      rw[hs,hg]at hR
      refine hR _ _ (hE'.cell hz3 f4) ((((f02.mono (F':=σ1.length::(d::(vN.obj++(vE.obj++objsE N E)))) (by simp)).trans (f.mono (by intro q hq;exact .inl (List.mem_cons_of_mem _ hq)))).trans (f4.mono (by simp))).mono fun q hq=>?_)
      rcases List.mem_cons.1 hq with rfl|hq
      · exact .inr (by omega)
      · exact .inl hq
  · have hk:ckC (GC.mk op z fr to nm v)≠0:=by assumption
    refine⟨_,res4 h3,?_⟩
    have hs:stepG (gOf nb eb N E x y) ⟨op,z,fr,to,nm,v⟩=(ckC ⟨op,z,fr,to,nm,v⟩,gOf nb eb N E x y):=by
      unfold stepG;rw[if_pos hk]
    rw[hs]at hR
    have ff:Fr σ σ3 []:=((f02.mono (by simp)).trans f3).mono (by simp;omega)
    exact hR _ _ ⟨_,_,_,_,_,_,_,_,h.fr0 ff,rfl⟩ (ff.mono (by simp))
end
theorem appN {g es:Nat} {ys:List AV} {bytes:Nat} {K:Nat→Bool→Bool→List AV→Prop} (hs:AuA es ys) (hr:ys.length*bytes≤2 ^ 46) (h:K ys.length true true ys):
    Aya g g es es 0 true true true [] ys bytes K:=by
  refine⟨⟨rfl,rfl,by simp,hs,?_⟩,?_⟩
  · rw[Nat.zero_add];exact hr
  · rw[Nat.zero_add];exact h
theorem ownC {α:Type} {fv:α→AV} {AP:Nat→Option AFn} {f es:Nat} {l:List α} {nn:Bool} {s:Sto} {K:AV→Sto→Prop} (hn:nn=false→l=[]) (hcl:ACf [.sl nn (vs fv l)]=true)
    (h0:H6 AP f [.sl false []] ⟨[],0⟩ fun out _=>out=.ok (.sl false []))
    (h1:H6 AP f [.sl true (vs fv l)] ⟨[],0⟩ fun out s'=>∃o g,out=.ok (.own o g 0 l.length)∧nth s'.σ o=some (.arr g es true true (vs fv l)))
    (hk:∀σ' es',Fr s.σ σ' []→nth σ' s.σ.length=some (.arr s.ctr es' nn true (vs fv l))→(nn=true→es'=es)→σ'.length=s.σ.length+1→K (.own s.σ.length s.ctr 0 l.length) ⟨σ',s.ctr+1⟩):
    ∃N r s',AAN (run AP N) .own f [.sl nn (vs fv l)] s=some (.ok r,s')∧K r s':=by
  cases nn with
  | false=>
    obtain rfl:=hn rfl
    exact AwO hcl h0 (hk _ 1 ⟨by simp,fun o ho _=>nth_app ho⟩ nth_last (by simp) (by simp))
  | true=>
    refine AQG (elems:=vs fv l) (es:=es) hcl (by rw[lV];exact h1) ?_
    rw[lV]
    exact hk _ es ⟨by simp,fun o ho _=>nth_app ho⟩ nth_last (fun _=>rfl) (by simp)
theorem cloneS0:H6 (Dx tab) 82 [.sl false []] ⟨[],0⟩ fun out _=>out=.ok (.sl false []):=by
  refine FH rfl rfl ?_
  (conv=>whnf);repeat' (first|((with_reducible first|apply kN|apply kW|apply kX|apply kG|apply kQ);(· exact sd);conv=>whnf)|(refine DW.mk ?_ ?_<;>intro hc<;>(try rw[List.length_nil]at hc)<;>first|(exfalso;omega)|(exact absurd rfl hc)|conv=>whnf)  |(refine CB ?_ ?_<;>intro hc<;>conv=>whnf))
  rfl
theorem cloneS1 {l:List (List UInt8)} (hl:l.length≤5000):H6 (Dx tab) 82 [.sl true (vs .str l)] ⟨[],0⟩ fun out s'=>∃o g,out=.ok (.own o g 0 l.length)∧nth s'.σ o=some (.arr g 1 true true (vs .str l)):=by
  refine FH rfl rfl ?_
  (conv=>whnf);repeat' (first|((with_reducible first|apply kN|apply kW|apply kX|apply kG|apply kQ);(· exact sd);conv=>whnf)|(refine DW.mk ?_ ?_<;>intro hc<;>(try rw[List.length_nil]at hc)<;>first|(exfalso;omega)|(exact absurd rfl hc)|conv=>whnf)  |(refine CB ?_ ?_<;>intro hc<;>conv=>whnf))
  refine appN (Aem (f:=.str) (fun _=>rfl) l) (by rw[lV];omega) ?_
  rw[lV]
  (conv=>whnf);repeat' (first|((with_reducible first|apply kN|apply kW|apply kX|apply kG|apply kQ);(· exact sd);conv=>whnf)|(refine DW.mk ?_ ?_<;>intro hc<;>(try rw[List.length_nil]at hc)<;>first|(exfalso;omega)|(exact absurd rfl hc)|conv=>whnf)  |(refine CB ?_ ?_<;>intro hc<;>conv=>whnf))
  exact⟨_,_,rfl,rfl⟩
theorem cloneP0:H6 (Dx tab) 83 [.sl false []] ⟨[],0⟩ fun out _=>out=.ok (.sl false []):=by
  refine FH rfl rfl ?_
  (conv=>whnf);repeat' (first|((with_reducible first|apply kN|apply kW|apply kX|apply kG|apply kQ);(· exact sd);conv=>whnf)|(refine DW.mk ?_ ?_<;>intro hc<;>(try rw[List.length_nil]at hc)<;>first|(exfalso;omega)|(exact absurd rfl hc)|conv=>whnf)  |(refine CB ?_ ?_<;>intro hc<;>conv=>whnf))
  rfl
theorem cloneP1 {l:List GP} (hl:l.length≤5000):H6 (Dx tab) 83 [.sl true (vs GP.av l)] ⟨[],0⟩ fun out s'=>∃o g,out=.ok (.own o g 0 l.length)∧nth s'.σ o=some (.arr g 6 true true (vs GP.av l)):=by
  refine FH rfl rfl ?_
  (conv=>whnf);repeat' (first|((with_reducible first|apply kN|apply kW|apply kX|apply kG|apply kQ);(· exact sd);conv=>whnf)|(refine DW.mk ?_ ?_<;>intro hc<;>(try rw[List.length_nil]at hc)<;>first|(exfalso;omega)|(exact absurd rfl hc)|conv=>whnf)  |(refine CB ?_ ?_<;>intro hc<;>conv=>whnf))
  refine appN (Aem (f:=GP.av) (fun _=>rfl) l) (by rw[lV];omega) ?_
  rw[lV]
  (conv=>whnf);repeat' (first|((with_reducible first|apply kN|apply kW|apply kX|apply kG|apply kQ);(· exact sd);conv=>whnf)|(refine DW.mk ?_ ?_<;>intro hc<;>(try rw[List.length_nil]at hc)<;>first|(exfalso;omega)|(exact absurd rfl hc)|conv=>whnf)  |(refine CB ?_ ?_<;>intro hc<;>conv=>whnf))
  exact⟨_,_,rfl,rfl⟩
theorem cloneN0:H6 (Dx tab) 81 [.sl false []] ⟨[],0⟩ fun out _=>out=.ok (.sl false []):=by
  refine FH rfl rfl ?_
  (conv=>whnf);repeat' (first|((with_reducible first|apply kN|apply kW|apply kX|apply kG|apply kQ);(· exact sd);conv=>whnf)|(refine DW.mk ?_ ?_<;>intro hc<;>(try rw[List.length_nil]at hc)<;>first|(exfalso;omega)|(exact absurd rfl hc)|conv=>whnf)  |(refine CB ?_ ?_<;>intro hc<;>conv=>whnf))
  rfl
theorem cloneN1 {l:List GN} (hl:l.length≤5000):H6 (Dx tab) 81 [.sl true (vs GN.av l)] ⟨[],0⟩ fun out s'=>∃o g,out=.ok (.own o g 0 l.length)∧nth s'.σ o=some (.arr g 3 true true (vs GN.av l)):=by
  refine FH rfl rfl ?_
  (conv=>whnf);repeat' (first|((with_reducible first|apply kN|apply kW|apply kX|apply kG|apply kQ);(· exact sd);conv=>whnf)|(refine DW.mk ?_ ?_<;>intro hc<;>(try rw[List.length_nil]at hc)<;>first|(exfalso;omega)|(exact absurd rfl hc)|conv=>whnf)  |(refine CB ?_ ?_<;>intro hc<;>conv=>whnf))
  refine appN (Aem (f:=GN.av) (fun _=>rfl) l) (by rw[lV];omega) ?_
  rw[lV]
  (conv=>whnf);repeat' (first|((with_reducible first|apply kN|apply kW|apply kX|apply kG|apply kQ);(· exact sd);conv=>whnf)|(refine DW.mk ?_ ?_<;>intro hc<;>(try rw[List.length_nil]at hc)<;>first|(exfalso;omega)|(exact absurd rfl hc)|conv=>whnf)  |(refine CB ?_ ?_<;>intro hc<;>conv=>whnf))
  exact⟨_,_,rfl,rfl⟩
theorem cloneE0:H6 (Dx tab) 84 [.sl false []] ⟨[],0⟩ fun out _=>out=.ok (.sl false []):=by
  refine FH rfl rfl ?_
  (conv=>whnf);repeat' (first|((with_reducible first|apply kN|apply kW|apply kX|apply kG|apply kQ);(· exact sd);conv=>whnf)|(refine DW.mk ?_ ?_<;>intro hc<;>(try rw[List.length_nil]at hc)<;>first|(exfalso;omega)|(exact absurd rfl hc)|conv=>whnf)  |(refine CB ?_ ?_<;>intro hc<;>conv=>whnf))
  rfl
theorem cloneE1 {l:List GE} (hl:l.length≤5000):H6 (Dx tab) 84 [.sl true (vs GE.av l)] ⟨[],0⟩ fun out s'=>∃o g,out=.ok (.own o g 0 l.length)∧nth s'.σ o=some (.arr g 5 true true (vs GE.av l)):=by
  refine FH rfl rfl ?_
  (conv=>whnf);repeat' (first|((with_reducible first|apply kN|apply kW|apply kX|apply kG|apply kQ);(· exact sd);conv=>whnf)|(refine DW.mk ?_ ?_<;>intro hc<;>(try rw[List.length_nil]at hc)<;>first|(exfalso;omega)|(exact absurd rfl hc)|conv=>whnf)  |(refine CB ?_ ?_<;>intro hc<;>conv=>whnf))
  refine appN (Aem (f:=GE.av) (fun _=>rfl) l) (by rw[lV];omega) ?_
  rw[lV]
  (conv=>whnf);repeat' (first|((with_reducible first|apply kN|apply kW|apply kX|apply kG|apply kQ);(· exact sd);conv=>whnf)|(refine DW.mk ?_ ?_<;>intro hc<;>(try rw[List.length_nil]at hc)<;>first|(exfalso;omega)|(exact absurd rfl hc)|conv=>whnf)  |(refine CB ?_ ?_<;>intro hc<;>conv=>whnf))
  exact⟨_,_,rfl,rfl⟩
def enF (n:GN):EN:=⟨n,.sl n.ln (vs .str n.labels),.sl n.pn (vs GP.av n.props)⟩
def eeF (e:GE):EE:=⟨e,.sl e.pn (vs GP.av e.props)⟩
theorem set_mid {α β:Type} {L:List β} {l:List α} {f:α→β} {i:Nat} {x:β} (hL:L.length=i) (hi:i<l.length):(L++(l.drop i).map f).set i x=(L++[x])++(l.drop (i+1)).map f:=by
  subst hL
  rw[List.drop_eq_getElem_cons hi,List.map_cons,List.set_append_right _ _ (Nat.le_refl _),Nat.sub_self,List.set_cons_zero,List.append_assoc]
  rfl
theorem get_mid {α β:Type} {L:List β} {l:List α} {f:α→β} {i:Nat} {fv:β→AV} (hL:L.length=i) (hi:i<l.length):nth (vs fv (L++(l.drop i).map f)) i=some (fv (f l[i])):=by
  subst hL
  rw[List.drop_eq_getElem_cons hi,AVI,vs,List.getElem?_map,List.getElem?_append_right (Nat.le_refl _),Nat.sub_self]
  rfl
theorem set_vs {α:Type} {f:α→AV} {l:List α} {i:Nat} {a:α}:(vs f l).set i (f a)=vs f (l.set i a):=by simp[vs,List.map_set]
theorem hd_of {α:Type} {f:α→AV} {es es':Nat} {σ:List Obj} {p g:Nat} {nn:Bool} {l:List α} (h:nth σ p=some (.arr g es' nn true (vs f l))) (h1:nn=true→es'=es) (h2:nn=false→l=[]):Hd f es σ (.own p g 0 l.length) nn l true:=by
  cases nn with
  |false=>obtain rfl:=h2 rfl;exact .inl ⟨rfl,rfl,.inr ⟨_,_,_,rfl,h⟩⟩
  |true=>obtain rfl:=h1 rfl;exact .inr ⟨rfl,_,_,rfl,h⟩
theorem sameOwn' {o g i n:Nat}:sameRef (.own o g i n) (.own o g i n)=true:=by simp[sameRef]
section
variable {σ:List Obj} {ct:Nat}
set_option maxHeartbeats 4000000 in
theorem cpN {g:GG} {p1 p2 p3 u1 u2 u3 o u:Nat} {es:Nat} {Q:Je→Env→Sto→Prop} (hl:g.nodes.length≤2000) (hok:∀n∈g.nodes,n.ok∧n.labels.length≤8∧n.props.length≤16) (hnn:g.nn=false→g.nodes=[]) (hes:g.nn=true→es=3)
    (h3:nth σ p3=some (.arr u3 4 true false [.agg [.own o u 0 g.nodes.length,.sl g.en (vs GE.av g.edges),.int .i64 g.AeT,.int .i64 g.Afg]]))
    (ho:nth σ o=some (.arr u es g.nn true (vs GN.av g.nodes))) (h3o:p3≠o)
    (hQ:∀σ' c' c1 L tl,Fr σ σ' [o]→nth σ' o=some (.arr u es g.nn c1 (vs EN.av L))→L.map EN.n=g.nodes→(∀ e∈L,e.Ok σ')→(∀ q∈L.flatMap EN.objs,σ.length≤q)→(L.flatMap EN.objs).Nodup→(c1=true↔L=[])→Q (.exit 0) ([(1,.ref p1 u1 0 0),(2,.ref p2 u2 0 0),(3,.ref p3 u3 0 0),(14,.own o u 0 g.nodes.length),(15,.int .i64 g.nodes.length),(16,.int .i64 g.nodes.length)]++tl) ⟨σ',c'⟩):
    Run (Dx tab) (.loop l40_0_h l40_0_b) [(1,.ref p1 u1 0 0),(2,.ref p2 u2 0 0),(3,.ref p3 u3 0 0),(14,.own o u 0 g.nodes.length),(15,.int .i64 g.nodes.length),(16,.int .i64 0)] ⟨σ,ct⟩ Q:=by
  refine DK (fun m env s=>∃(i c':Nat) (σ':List Obj) (L:List EN) (c1:Bool),m=g.nodes.length-i∧i≤g.nodes.length∧env=[(1,.ref p1 u1 0 0),(2,.ref p2 u2 0 0),(3,.ref p3 u3 0 0),(14,.own o u 0 g.nodes.length),(15,.int .i64 g.nodes.length),(16,.int .i64 i)]∧s=⟨σ',c'⟩∧Fr σ σ' [o]∧nth σ' o=some (.arr u es g.nn c1 (vs EN.av (L++(g.nodes.drop i).map enF)))∧L.length=i∧L.map EN.n=g.nodes.take i∧(∀ e∈L,e.Ok σ')∧(∀ q∈L.flatMap EN.objs,σ.length≤q)∧(L.flatMap EN.objs).Nodup∧(c1=true↔L=[])) ?_ _ _ _ ⟨0,_,_,[],true,rfl,by omega,rfl,rfl,Fr.refl,?_,rfl,rfl,by simp,by simp,by simp,by simp⟩
  rotate_left
  · rw[ho,List.nil_append,List.drop_zero,vs,vs,List.map_map];rfl
  rintro _ _ _ ⟨i,c',σ',L,c1,rfl,hi,rfl,rfl,f0,ho0,hL,hm,hLok,hLn,hLd,hc1⟩
  refine⟨rfl,?_⟩
  by_cases hlt:i<g.nodes.length
  · have hnn':g.nn=true:=by
      cases hb:g.nn with
      |true=>rfl
      |false=>rw[hnn hb]at hlt;simp at hlt
    obtain rfl:=hes hnn'
    rw[hnn']at ho0
    have hmem:g.nodes[i]∈g.nodes:=List.getElem_mem hlt
    obtain⟨hno,hlb,hpp⟩:=hok _ hmem
    have h30:=f0.get h3 (by simpa using h3o)
    have g0:=get_mid (fv:=EN.av) (f:=enF) hL hlt
    have hol:=nth_lt ho0
    have hos:=nth_lt ho
    have hp3:=nth_lt h30
    obtain⟨n,hn⟩:∃n,n=g.nodes[i]:=⟨_,rfl⟩
    rw[← hn]at g0 hno hlb hpp
    have hln:=hno.2.2.1
    have hpn:=hno.2.2.2.2.2.1
    (conv=>whnf);repeat' (first|(refine need.mk sameOwn' ?_;conv=>whnf)|(refine snocG fun σ1 f1 h1 l1=>?_;have ho1:=f1.get ho0 (by simp);have h31:=f1.get h30 (by simp);conv=>whnf)|(rw [ho0];conv=>whnf)|(rw [h1];conv=>whnf)|(refine LX g0 ?_;conv=>whnf)|(refine LX (nth_set_self g0) ?_;conv=>whnf)|(refine setG h1 fun σ2 f2 h2 l2=>?_;have ho2:=f2.get ho1 (by simp;omega);have h32:=f2.get h31 (by simp;omega);conv=>whnf)|(rw [h2];conv=>whnf)|(rw [h32];conv=>whnf)|(rw [ho2];conv=>whnf)|(refine ownC hln rfl cloneS0 (cloneS1 (by omega)) fun σ3 e3 f3 a3 b3 l3=>?_;have ho3:=f3.get ho2 (by simp);have h33:=f3.get h32 (by simp);have h23:=f3.get h2 (by simp);conv=>whnf)|(rw [h33];conv=>whnf)|(rw [ho3];conv=>whnf)|(refine (forceB_iff _ _).2 ?_;conv=>whnf)|(refine setG ho3 fun σ4 f4 h4 l4=>?_;have h34:=f4.get h33 (by simpa using h3o);have h24:=f4.get h23 (by simp;omega);conv=>whnf)|(rw [h34];conv=>whnf)|(rw [h24];conv=>whnf)|(refine ownC hpn rfl cloneP0 (cloneP1 (by omega)) fun σ5 e5 f5 a5 b5 l5=>?_;have ho5:=f5.get h4 (by simp);have h35:=f5.get h34 (by simp);conv=>whnf)|(rw [h35];conv=>whnf)|(rw [ho5];conv=>whnf)|(refine setG ho5 fun σ6 f6 h6 l6=>?_;have h36:=f6.get h35 (by simpa using h3o);conv=>whnf)|(rw [h36];conv=>whnf)|((with_reducible first|apply kN|apply kW|apply kX|apply kG|apply kQ);(· exact sd);conv=>whnf)|(refine DW.mk ?_ ?_<;>intro hc<;>(try rw[List.length_nil]at hc)<;>first|(exfalso;omega)|(exact absurd rfl hc)|conv=>whnf)|(refine CB ?_ ?_<;>intro hc<;>conv=>whnf))
    all_goals first
      |(exfalso;omega)
      |skip
    all_goals
      dsimp only at l1 l2 l3 l4 l5 l6
      have f06:Fr σ' σ6 [o]:=((((((f1.mono (F':=[o,σ'.length]) (by simp)).trans (f2.mono (by simp))).trans (f3.mono (by simp))).trans (f4.mono (by simp))).trans (f5.mono (by simp))).trans (f6.mono (by simp))).mono (by simp)
      have k3:=f6.get (f5.get (f4.get a3 (by simp;omega)) (by simp)) (by simp;omega)
      have k5:=f6.get a5 (by simp;omega)
      have hlo:∀q∈L.flatMap EN.objs,q<σ'.length:=fun q hq=>by
        obtain⟨e,he,hq⟩:=List.mem_flatMap.1 hq
        exact(hLok e he).lt q hq
      refine again.mk ⟨_,by omega,i+1,_,σ6,L++[⟨n,.own σ2.length (c'+1) 0 n.labels.length,.own σ4.length (c'+1+1) 0 n.props.length⟩],false,rfl,by omega,rfl,rfl,f0.trans f06,?_,by simp[hL],?_,fun e he=>?_,fun q hq=>?_,?_,by simp⟩
      · rw[hnn',←set_mid hL hlt,←set_vs,h6,List.set_set];rfl
      · rw[List.map_append,hm,List.take_succ_eq_append_getElem hlt,hn];rfl
      · rcases List.mem_append.1 he with he|he
        · exact(hLok e he).keep fun q hq=>f06.eq q ((hLok e he).lt q hq) (by have:=hLn q (List.mem_flatMap.2 ⟨e,he,hq⟩);simp;omega)
        · obtain rfl:=List.mem_singleton.1 he
          exact⟨hd_of k3 b3 hln,hd_of k5 b5 hpn⟩
      · rw[List.flatMap_append]at hq
        rcases List.mem_append.1 hq with hq|hq
        · exact hLn q hq
        · have:=f0.len
          simp only[List.flatMap_cons,List.flatMap_nil,EN.objs,AV.obj,List.append_nil,List.mem_append,List.mem_singleton]at hq
          omega
      · rw[List.flatMap_append]
        refine List.nodup_append.2 ⟨hLd,?_,fun a ha b hb e=>?_⟩
        · simp[EN.objs,AV.obj];omega
        · have:=hlo a ha
          simp only[List.flatMap_cons,List.flatMap_nil,EN.objs,AV.obj,List.append_nil,List.mem_append,List.mem_singleton]at hb
          omega
  · obtain rfl:i=g.nodes.length:=by omega
    (conv=>whnf);repeat' (first  |((with_reducible first|apply kN|apply kW|apply kX|apply kG|apply kQ);(· exact sd);conv=>whnf)|(refine DW.mk ?_ ?_<;>intro hc<;>(try rw[List.length_nil]at hc)<;>first|(exfalso;omega)|(exact absurd rfl hc)|conv=>whnf)|(refine CB ?_ ?_<;>intro hc<;>conv=>whnf))
    all_goals first
      |exact hQ _ _ c1 L _ f0 (by rw[ho0];simp) (by rw[hm,List.take_length]) hLok hLn hLd hc1
      |(exfalso;omega)
      | (trace_state; fail "cpN2")
set_option maxHeartbeats 4000000 in
theorem cpE {g:GG} {oN uN nN p2 p3 u2 u3 o u:Nat} {es:Nat} {Q:Je→Env→Sto→Prop} (hl:g.edges.length≤4000) (hok:∀n∈g.edges,n.ok∧n.props.length≤16) (hnn:g.en=false→g.edges=[]) (hes:g.en=true→es=5)
    (h3:nth σ p3=some (.arr u3 4 true false [.agg [.own oN uN 0 nN,.own o u 0 g.edges.length,.int .i64 g.AeT,.int .i64 g.Afg]]))
    (ho:nth σ o=some (.arr u es g.en true (vs GE.av g.edges))) (h3o:p3≠o)
    (hQ:∀σ' c' c1 L tl,Fr σ σ' [o]→nth σ' o=some (.arr u es g.en c1 (vs EE.av L))→L.map EE.e=g.edges→(∀ e∈L,e.Ok σ')→(∀ q∈L.flatMap EE.objs,σ.length≤q)→(L.flatMap EE.objs).Nodup→(c1=true↔L=[])→Q (.exit 2) ([(2,.ref p2 u2 0 0),(3,.ref p3 u3 0 0),(43,.own o u 0 g.edges.length),(44,.int .i64 g.edges.length),(45,.int .i64 g.edges.length)]++tl) ⟨σ',c'⟩):
    Run (Dx tab) (.loop l40_1_h l40_1_b) [(2,.ref p2 u2 0 0),(3,.ref p3 u3 0 0),(43,.own o u 0 g.edges.length),(44,.int .i64 g.edges.length),(45,.int .i64 0)] ⟨σ,ct⟩ Q:=by
  refine DK (fun m env s=>∃(i c':Nat) (σ':List Obj) (L:List EE) (c1:Bool),m=g.edges.length-i∧i≤g.edges.length∧env=[(2,.ref p2 u2 0 0),(3,.ref p3 u3 0 0),(43,.own o u 0 g.edges.length),(44,.int .i64 g.edges.length),(45,.int .i64 i)]∧s=⟨σ',c'⟩∧Fr σ σ' [o]∧nth σ' o=some (.arr u es g.en c1 (vs EE.av (L++(g.edges.drop i).map eeF)))∧L.length=i∧L.map EE.e=g.edges.take i∧(∀ e∈L,e.Ok σ')∧(∀ q∈L.flatMap EE.objs,σ.length≤q)∧(L.flatMap EE.objs).Nodup∧(c1=true↔L=[])) ?_ _ _ _ ⟨0,_,_,[],true,rfl,by omega,rfl,rfl,Fr.refl,?_,rfl,rfl,by simp,by simp,by simp,by simp⟩
  rotate_left
  · rw[ho,List.nil_append,List.drop_zero,vs,vs,List.map_map];rfl
  rintro _ _ _ ⟨i,c',σ',L,c1,rfl,hi,rfl,rfl,f0,ho0,hL,hm,hLok,hLn,hLd,hc1⟩
  refine⟨rfl,?_⟩
  by_cases hlt:i<g.edges.length
  · have hnn':g.en=true:=by
      cases hb:g.en with
      |true=>rfl
      |false=>rw[hnn hb]at hlt;simp at hlt
    obtain rfl:=hes hnn'
    rw[hnn']at ho0
    have hmem:g.edges[i]∈g.edges:=List.getElem_mem hlt
    obtain⟨hno,hpp⟩:=hok _ hmem
    have h30:=f0.get h3 (by simpa using h3o)
    have g0:=get_mid (fv:=EE.av) (f:=eeF) hL hlt
    have hol:=nth_lt ho0
    have hos:=nth_lt ho
    have hp3:=nth_lt h30
    obtain⟨n,hn⟩:∃n,n=g.edges[i]:=⟨_,rfl⟩
    rw[← hn]at g0 hno hpp
    have hpn:=hno.2.2.2.2.2.1
    (conv=>whnf);repeat' (first|(refine need.mk sameOwn' ?_;conv=>whnf)|(refine snocG fun σ1 f1 h1 l1=>?_;have ho1:=f1.get ho0 (by simp);have h31:=f1.get h30 (by simp);conv=>whnf)|(rw [ho0];conv=>whnf)|(rw [h1];conv=>whnf)|(refine LX g0 ?_;conv=>whnf)|(refine LX (nth_set_self g0) ?_;conv=>whnf)|(refine setG h1 fun σ2 f2 h2 l2=>?_;have ho2:=f2.get ho1 (by simp;omega);have h32:=f2.get h31 (by simp;omega);conv=>whnf)|(rw [h2];conv=>whnf)|(rw [h32];conv=>whnf)|(rw [ho2];conv=>whnf)|(refine ownC hpn rfl cloneP0 (cloneP1 (by omega)) fun σ3 e3 f3 a3 b3 l3=>?_;have ho3:=f3.get ho2 (by simp);have h33:=f3.get h32 (by simp);have h23:=f3.get h2 (by simp);conv=>whnf)|(rw [h33];conv=>whnf)|(rw [ho3];conv=>whnf)|(refine (forceB_iff _ _).2 ?_;conv=>whnf)|(refine setG ho3 fun σ4 f4 h4 l4=>?_;have h34:=f4.get h33 (by simpa using h3o);have h24:=f4.get h23 (by simp;omega);conv=>whnf)|(rw [h34];conv=>whnf)|(rw [h24];conv=>whnf)|((with_reducible first|apply kN|apply kW|apply kX|apply kG|apply kQ);(· exact sd);conv=>whnf)|(refine DW.mk ?_ ?_<;>intro hc<;>(try rw[List.length_nil]at hc)<;>first|(exfalso;omega)|(exact absurd rfl hc)|conv=>whnf)|(refine CB ?_ ?_<;>intro hc<;>conv=>whnf))
    all_goals first
      |(exfalso;omega)
      |skip
    all_goals
      dsimp only at l1 l2 l3 l4
      have f06:Fr σ' σ4 [o]:=((((f1.mono (F':=[o,σ'.length]) (by simp)).trans (f2.mono (by simp))).trans (f3.mono (by simp))).trans (f4.mono (by simp))).mono (by simp)
      have k3:=f4.get a3 (by simp;omega)
      have hlo:∀q∈L.flatMap EE.objs,q<σ'.length:=fun q hq=>by
        obtain⟨e,he,hq⟩:=List.mem_flatMap.1 hq
        exact(hLok e he).lt q hq
      refine again.mk ⟨_,by omega,i+1,_,σ4,L++[⟨n,.own σ2.length (c'+1) 0 n.props.length⟩],false,rfl,by omega,rfl,rfl,f0.trans f06,?_,by simp[hL],?_,fun e he=>?_,fun q hq=>?_,?_,by simp⟩
      · rw[hnn',←set_mid hL hlt,←set_vs,h4];rfl
      · rw[List.map_append,hm,List.take_succ_eq_append_getElem hlt,hn];rfl
      · rcases List.mem_append.1 he with he|he
        · exact(hLok e he).keep fun q hq=>f06.eq q ((hLok e he).lt q hq) (by have:=hLn q (List.mem_flatMap.2 ⟨e,he,hq⟩);simp;omega)
        · obtain rfl:=List.mem_singleton.1 he
          exact hd_of k3 b3 hpn
      · rw[List.flatMap_append]at hq
        rcases List.mem_append.1 hq with hq|hq
        · exact hLn q hq
        · have:=f0.len
          simp only[List.flatMap_cons,List.flatMap_nil,EE.objs,AV.obj,List.append_nil,List.mem_singleton]at hq
          omega
      · rw[List.flatMap_append]
        refine List.nodup_append.2 ⟨hLd,?_,fun a ha b hb e=>?_⟩
        · simp[EE.objs,AV.obj]
        · have:=hlo a ha
          simp only[List.flatMap_cons,List.flatMap_nil,EE.objs,AV.obj,List.append_nil,List.mem_singleton]at hb
          omega
  · obtain rfl:i=g.edges.length:=by omega
    (conv=>whnf);repeat' (first  |((with_reducible first|apply kN|apply kW|apply kX|apply kG|apply kQ);(· exact sd);conv=>whnf)|(refine DW.mk ?_ ?_<;>intro hc<;>(try rw[List.length_nil]at hc)<;>first|(exfalso;omega)|(exact absurd rfl hc)|conv=>whnf)|(refine CB ?_ ?_<;>intro hc<;>conv=>whnf))
    all_goals first
      |exact hQ _ _ c1 L _ f0 (by rw[ho0];simp) (by rw[hm,List.take_length]) hLok hLn hLd hc1
      |(exfalso;omega)
      | (trace_state; fail "cpE2")
end
end AI
end Go.Proofs.YtnbibfalljlmfaaGreatDoor
