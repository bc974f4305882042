/- graph.Check: the first error of a graph. Small graphs, few strings. Properties looked up. Scripts between graphs: what they are, in plain lists. -/
import Derived.Test.YtnbibfalljlmfaaGreatDoorMak
import Derived.Test.YtnbibfalljlmfaaGreatDoorMaf
set_option linter.unusedVariables false
set_option maxRecDepth 4000
namespace Go.Proofs.YtnbibfalljlmfaaGreatDoor
namespace AI
def firstE (f:Nat→Int):Nat→Int
  |0=>0
  |n+1=>if firstE f n=0 then f n else firstE f n
theorem firstE_zero {f:Nat→Int}:∀{n:Nat},firstE f n=0↔∀k,k<n→f k=0
  |0=>by simp[firstE]
  | n + 1=>by
    unfold firstE
    split
    · rename_i h
      have:=firstE_zero.1 h
      refine⟨fun h0 k hk=>?_,fun h0=>h0 n (by omega)⟩
      rcases Nat.lt_or_ge k n with h1|h1
      · exact this k h1
      · obtain rfl:k=n:=by omega
        exact h0
    · rename_i h
      exact⟨fun h0=>absurd h0 h,fun h0=>absurd (firstE_zero.2 fun k hk=>h0 k (by omega)) h⟩
theorem firstE_at {f:Nat→Int} {i:Nat} (h:∀k,k<i→f k=0) (hi:f i≠0):∀{n:Nat},i<n→firstE f n=f i
  |0,hn=>absurd hn (by omega)
  | n +1,hn=>by
    unfold firstE
    rcases Nat.lt_or_ge i n with h1|h1
    · rw[firstE_at h hi h1,if_neg hi]
    · obtain rfl:i=n:=by omega
      rw[if_pos (firstE_zero.2 h)]
noncomputable def AAk (N:List GN) (nx:Int) (i:Nat):Int:=
  match N[i]? with
  |none=>0
  |some n=>if 0<i∧(∃ m,N[i-1]?=some m∧n.id≤m.id)then 26 else if n.id<1∨nx≤n.id then 1 else Ap6 n.labels n.props
noncomputable def AXb (N:List GN) (E:List GE) (nx:Int) (i:Nat):Int:=
  match E[i]? with
  |none=>0
  |some e=>if 0<i∧(∃ m,E[i-1]?=some m∧e.id≤m.id)then 26 else if e.id<1∨nx≤e.id then 1 else if¬(e.fr∈nids N∧e.to∈nids N)then 10 else if¬isName e.ty then 6 else Ap6 [] e.props
theorem node26 {N:List GN} {nx:Int} {i:Nat} (h:i<N.length) (h0:0<i) (h1:(N[i]).id≤(N[i-1]).id):AAk N nx i=26:=by
  unfold AAk;rw[List.getElem?_eq_getElem h];exact if_pos ⟨h0,_,List.getElem?_eq_getElem (by omega),h1⟩
theorem node_no {N:List GN} {i:Nat} (h:i<N.length) (h1:0<i→¬(N[i]).id≤(N[i-1]).id):¬(0<i∧∃m,N[i-1]?=some m∧(N[i]).id≤m.id):=by
  rintro⟨a,m,b,c⟩;rw[List.getElem?_eq_getElem (by omega)]at b;rw[← Option.some.inj b]at c;exact h1 a c
theorem node1 {N:List GN} {nx:Int} {i:Nat} (h:i<N.length) (h1:0<i→¬(N[i]).id≤(N[i-1]).id) (h2:(N[i]).id<1∨nx≤(N[i]).id):AAk N nx i=1:=by
  unfold AAk;rw[List.getElem?_eq_getElem h];dsimp only;rw[if_neg (node_no h h1),if_pos h2]
theorem AXa {N:List GN} {nx:Int} {i:Nat} (h:i<N.length) (h1:0<i→¬(N[i]).id≤(N[i-1]).id) (h2:¬((N[i]).id<1∨nx≤(N[i]).id)):AAk N nx i=Ap6 (N[i]).labels (N[i]).props:=by
  unfold AAk;rw[List.getElem?_eq_getElem h];dsimp only;rw[if_neg (node_no h h1),if_neg h2]
theorem Ayi {N:List GN} {nx:Int} {i:Nat} (h:i<N.length) (h0:AAk N nx i=0):(0<i→(N[i-1]).id<(N[i]).id)∧1≤(N[i]).id∧(N[i]).id<nx∧Ap6 (N[i]).labels (N[i]).props=0:=by
  by_cases h1:0<i∧(N[i]).id≤(N[i-1]).id
  · rw[node26 h h1.1 h1.2]at h0;omega
  have h1':0<i→¬(N[i]).id≤(N[i-1]).id:=fun a b=>h1 ⟨a,b⟩
  by_cases h2:(N[i]).id<1∨nx≤(N[i]).id
  · rw[node1 h h1' h2]at h0;omega
  rw[AXa h h1' h2]at h0
  exact⟨fun a=>by have:=h1' a;omega,by omega,by omega,h0⟩
theorem edge26 {N:List GN} {E:List GE} {nx:Int} {i:Nat} (h:i<E.length) (h0:0<i) (h1:(E[i]).id≤(E[i-1]).id):AXb N E nx i=26:=by
  unfold AXb;rw[List.getElem?_eq_getElem h];exact if_pos ⟨h0,_,List.getElem?_eq_getElem (by omega),h1⟩
theorem edge_no {E:List GE} {i:Nat} (h:i<E.length) (h1:0<i→¬(E[i]).id≤(E[i-1]).id):¬(0<i∧∃m,E[i-1]?=some m∧(E[i]).id≤m.id):=by
  rintro⟨a,m,b,c⟩;rw[List.getElem?_eq_getElem (by omega)]at b;rw[← Option.some.inj b]at c;exact h1 a c
theorem edge1 {N:List GN} {E:List GE} {nx:Int} {i:Nat} (h:i<E.length) (h1:0<i→¬(E[i]).id≤(E[i-1]).id) (h2:(E[i]).id<1∨nx≤(E[i]).id):AXb N E nx i=1:=by
  unfold AXb;rw[List.getElem?_eq_getElem h];dsimp only;rw[if_neg (edge_no h h1),if_pos h2]
theorem edge10 {N:List GN} {E:List GE} {nx:Int} {i:Nat} (h:i<E.length) (h1:0<i→¬(E[i]).id≤(E[i-1]).id) (h2:¬((E[i]).id<1∨nx≤(E[i]).id)) (h3:¬((E[i]).fr∈nids N∧(E[i]).to∈nids N)):AXb N E nx i=10:=by
  unfold AXb;rw[List.getElem?_eq_getElem h];dsimp only;rw[if_neg (edge_no h h1),if_neg h2,if_pos h3]
theorem edge6 {N:List GN} {E:List GE} {nx:Int} {i:Nat} (h:i<E.length) (h1:0<i→¬(E[i]).id≤(E[i-1]).id) (h2:¬((E[i]).id<1∨nx≤(E[i]).id)) (h3:(E[i]).fr∈nids N∧(E[i]).to∈nids N) (h4:¬isName (E[i]).ty):AXb N E nx i=6:=by
  unfold AXb;rw[List.getElem?_eq_getElem h];dsimp only;rw[if_neg (edge_no h h1),if_neg h2,if_neg (not_not_intro h3),if_pos h4]
theorem AXc {N:List GN} {E:List GE} {nx:Int} {i:Nat} (h:i<E.length) (h1:0<i→¬(E[i]).id≤(E[i-1]).id) (h2:¬((E[i]).id<1∨nx≤(E[i]).id)) (h3:(E[i]).fr∈nids N∧(E[i]).to∈nids N) (h4:isName (E[i]).ty):AXb N E nx i=Ap6 [] (E[i]).props:=by
  unfold AXb;rw[List.getElem?_eq_getElem h];dsimp only;rw[if_neg (edge_no h h1),if_neg h2,if_neg (not_not_intro h3),if_neg (not_not_intro h4)]
theorem AuL {N:List GN} {E:List GE} {nx:Int} {i:Nat} (h:i<E.length) (h0:AXb N E nx i=0):(0<i→(E[i-1]).id<(E[i]).id)∧1≤(E[i]).id∧(E[i]).id<nx∧(E[i]).fr∈nids N∧(E[i]).to∈nids N∧isName (E[i]).ty∧Ap6 [] (E[i]).props=0:=by
  by_cases h1:0<i∧(E[i]).id≤(E[i-1]).id
  · rw[edge26 h h1.1 h1.2]at h0;omega
  have h1':0<i→¬(E[i]).id≤(E[i-1]).id:=fun a b=>h1 ⟨a,b⟩
  by_cases h2:(E[i]).id<1∨nx≤(E[i]).id
  · rw[edge1 h h1' h2]at h0;omega
  by_cases h3:(E[i]).fr∈nids N∧(E[i]).to∈nids N
  case neg=>rw[edge10 h h1' h2 h3]at h0;omega
  by_cases h4:isName (E[i]).ty
  case neg=>rw[edge6 h h1' h2 h3 h4]at h0;omega
  rw[AXc h h1' h2 h3 h4]at h0
  exact⟨fun a=>by have:=h1' a;omega,by omega,by omega,h3.1,h3.2,h4,h0⟩
def fitsG (g:GG):Prop:=g.nodes.length≤2000∧g.edges.length≤4000
def AW9 (g:GG):Prop:=1≤g.AeT∧g.AeT≤1000001∧1≤g.Afg∧g.Afg≤1000001
instance (g:GG):Decidable (fitsG g):=by unfold fitsG;infer_instance
instance (g:GG):Decidable (AW9 g):=by unfold AW9;infer_instance
noncomputable def JA (g:GG):Int:=
  if¬fitsG g then 4 else if¬AW9 g then 1 else
    if firstE (AAk g.nodes g.AeT) g.nodes.length=0 then firstE (AXb g.nodes g.edges g.Afg) g.edges.length else firstE (AAk g.nodes g.AeT) g.nodes.length
theorem check4 {g:GG} (h:¬fitsG g):AV.int .i64 4=AV.int .i64 (JA g):=by unfold JA;rw[if_pos h]
theorem check1 {g:GG} (h:fitsG g) (h1:¬AW9 g):AV.int .i64 1=AV.int .i64 (JA g):=by unfold JA;rw[if_neg (not_not_intro h),if_pos h1]
theorem checkN {g:GG} (h:fitsG g) (h1:AW9 g) {i:Nat} (hi:i<g.nodes.length) (h2:∀k,k<i→AAk g.nodes g.AeT k=0) {r:Int} (h3:AAk g.nodes g.AeT i=r) (hr:r≠0):AV.int .i64 r=AV.int .i64 (JA g):=by
  subst h3
  unfold JA
  rw[if_neg (not_not_intro h),if_neg (not_not_intro h1),firstE_at h2 hr hi,if_neg hr]
theorem checkEd {g:GG} (h:fitsG g) (h1:AW9 g) (hn:∀k,k<g.nodes.length→AAk g.nodes g.AeT k=0) {i:Nat} (hi:i<g.edges.length) (h2:∀k,k<i→AXb g.nodes g.edges g.Afg k=0) {r:Int} (h3:AXb g.nodes g.edges g.Afg i=r) (hr:r≠0):AV.int .i64 r=AV.int .i64 (JA g):=by
  subst h3
  unfold JA
  rw[if_neg (not_not_intro h),if_neg (not_not_intro h1),if_pos (firstE_zero.2 hn),firstE_at h2 hr hi]
theorem AWj {g:GG} (h:fitsG g) (h1:AW9 g) (hn:∀k,k<g.nodes.length→AAk g.nodes g.AeT k=0) (h2:∀k,k<g.edges.length→AXb g.nodes g.edges g.Afg k=0):AV.int .i64 0=AV.int .i64 (JA g):=by
  unfold JA
  rw[if_neg (not_not_intro h),if_neg (not_not_intro h1),if_pos (firstE_zero.2 hn),firstE_zero.2 h2]
theorem incr_nodes {N:List GN} {nx:Int} (h:∀k,k<N.length→AAk N nx k=0):incr (nids N):=by
  intro j hj
  have hj':j+1<N.length:=by simpa using hj
  rw[nids_at (by omega),nids_at hj']
  exact(Ayi hj' (h _ hj')).1 (by omega)
theorem incr_edges {N:List GN} {E:List GE} {nx:Int} (h:∀k,k<E.length→AXb N E nx k=0):incr (eids E):=by
  intro j hj
  have hj':j+1<E.length:=by simpa using hj
  rw[eids_at (by omega),eids_at hj']
  exact(AuL hj' (h _ hj')).1 (by omega)
theorem AhM {g:GG} (h:JA g=0):fitsG g∧AW9 g∧(∀ k,k<g.nodes.length→AAk g.nodes g.AeT k=0)∧∀k,k<g.edges.length→AXb g.nodes g.edges g.Afg k=0:=by
  unfold JA at h
  by_cases h1:fitsG g
  case neg=>rw[if_pos h1]at h;omega
  by_cases h2:AW9 g
  case neg=>rw[if_neg (not_not_intro h1),if_pos h2]at h;omega
  rw[if_neg (not_not_intro h1),if_neg (not_not_intro h2)]at h
  split at h
  · rename_i h3
    exact⟨h1,h2,firstE_zero.1 h3,firstE_zero.1 h⟩
  · rename_i h3;exact absurd h h3
attribute [irreducible] AAk AXb JA firstE
theorem weigh {ps:List GP} {nn:Bool} (hl:Ln ps) (hp:∀p∈ps,p.ok) {left:Int} (h1:-9223372036854775808≤left) (h2:left≤2000):
    D8 (Dx tab) 66 [.sl nn (vs GP.av ps),.int .i64 left] (fun v=>∃r,v=.int .i64 r∧-9223372036854775808≤r∧r≤2000∧(0≤r→r+ps.length≤left∧∀p∈ps,p.key.length≤101000∧AcF 12 p.v.av)):=by
  unfold Ln at hl
  refine Lu rfl rfl ?_
  (conv=>whnf);repeat' (first|((with_reducible first|apply kN|apply kW|apply kX|apply kG|apply kQ);(· exact sd);conv=>whnf)|(refine DW.mk ?_ ?_<;>intro hc<;>(try rw[List.length_nil]at hc)<;>first|(exfalso;omega)|(exact absurd rfl hc)|conv=>whnf)  |(refine CB ?_ ?_<;>intro hc<;>conv=>whnf))
  refine DK (fun m env s=>∃(i:Nat) (cur:Int),m=ps.length-i∧env=[(0,.sl nn (vs GP.av ps)),(1,.int .i64 cur),(5,.int .i64 i)]∧s=⟨[],0⟩∧
    -9223372036854775808≤cur∧cur≤2000∧(0≤cur→cur+i≤left∧∀p∈ps.take i,p.key.length≤101000∧AcF 12 p.v.av)) ?_ _ _ _ ⟨0,_,rfl,rfl,rfl,by omega,by omega,fun h=>⟨by omega,by simp⟩⟩
  rintro _ _ _ ⟨i,cur,rfl,rfl,rfl,b1,b2,hx⟩
  refine⟨rfl,?_⟩
  have hat:∀(h:i<ps.length),(ps[i]).ok:=fun h=>hp _ (List.getElem_mem _)
  have hk:∀(h:i<ps.length),(ps[i]).key.length<2^63:=fun h=>(hat h).1
  (conv=>whnf);repeat' (first|((with_reducible first|apply kN|apply kW|apply kX|apply kG|apply kQ);(· exact sd);conv=>whnf)|(refine DW.mk ?_ ?_<;>intro hc<;>(try rw[List.length_nil]at hc)<;>first|(exfalso;omega)|(exact absurd rfl hc)|conv=>whnf)|(refine wrapQ (hk (by omega)) ?_;conv=>whnf)|(have hwr:=hk (by omega);apply ZH;(· exact wrap_i64 (by omega) (by omega));clear hwr;conv=>whnf)|(refine CB ?_ ?_<;>intro hc<;>conv=>whnf))
  · refine BM (wei 12 (by omega) (hat (by omega)).2 (by have:=hk (by omega);omega) (by omega)) ?_
    rintro _ ⟨r,rfl,r1,r2,r3⟩
    (conv=>whnf);repeat' (first|((with_reducible first|apply kN|apply kW|apply kX|apply kG|apply kQ);(· exact sd);conv=>whnf)|(refine DW.mk ?_ ?_<;>intro hc<;>(try rw[List.length_nil]at hc)<;>first|(exfalso;omega)|(exact absurd rfl hc)|conv=>whnf)  |(refine CB ?_ ?_<;>intro hc<;>conv=>whnf))
    exact again.mk ⟨_,by omega,i+1,r,rfl,rfl,rfl,by omega,by omega,fun h=>⟨by have:=hx (by omega);have:=r3 h;omega,AfD (by omega) (hx (by omega)).2 ⟨by have:=r3 h;omega,(r3 h).2⟩⟩⟩
  · exact⟨_,rfl,by omega,by omega,fun h=>absurd h (by omega)⟩
  · refine⟨_,rfl,by omega,by omega,fun h=>?_⟩
    obtain⟨x1,x2⟩:=hx h
    rw[TP hc]at x2
    exact⟨by omega,x2⟩
def SmP (ps:List GP):Prop:=ps.length≤2000∧∀p∈ps,p.key.length≤101000∧AcF 12 p.v.av
def SmN (n:GN):Prop:=n.labels.length≤2000∧(∀ s∈n.labels,s.length≤101000)∧SmP n.props
def SmE (e:GE):Prop:=e.ty.length≤101000∧SmP e.props
def SmG (g:GG) (n e:Int):Prop:=g.nodes.length≤n∧g.edges.length≤e∧(∀ n∈g.nodes,SmN n)∧∀e∈g.edges,SmE e
theorem small {g:GG} (hg:g.ok) {n e:Int}:D8 (Dx tab) 32 [g.av,.int .i64 n,.int .i64 e] (fun v=>∃b,v=.bool b∧(b=true→SmG g n e)):=by
  obtain⟨g1,g2,g3,g4,g5,g6,g7,g8⟩:=hg
  unfold Ln at g1 g4
  refine Lu rfl rfl ?_
  (conv=>whnf);repeat' (first|((with_reducible first|apply kN|apply kW|apply kX|apply kG|apply kQ);(· exact sd);conv=>whnf)|(refine DW.mk ?_ ?_<;>intro hc<;>(try rw[List.length_nil]at hc)<;>first|(exfalso;omega)|(exact absurd rfl hc)|conv=>whnf)  |(refine CB ?_ ?_<;>intro hc<;>conv=>whnf))
  · exact⟨_,rfl,fun h=>by cases h⟩
  · exact⟨_,rfl,fun h=>by cases h⟩
  refine DK (fun m env s=>∃(i c:Nat) (left:Int),m=g.nodes.length-i∧env=[(3,.ref 0 0 0 0),(7,.int .i64 left),(8,.int .i64 i)]∧s=⟨[.arr 0 4 true true [g.av]],c⟩∧-9223372036854775808≤left∧left≤2000∧(0≤left→∀n∈g.nodes.take i,SmN n)) ?_ _ _ _ ⟨0,1,2000,rfl,rfl,rfl,by omega,by omega,fun _=>by simp⟩
  rintro _ _ _ ⟨i,c,left,rfl,rfl,rfl,b1,b2,hx⟩
  refine⟨rfl,?_⟩
  have hat:∀h:i<g.nodes.length,(g.nodes[i]).ok:=fun h=>g3 _ (List.getElem_mem _)
  have hk:∀h:i<g.nodes.length,(g.nodes[i]).labels.length<2^63:=fun h=>(hat h).2.1
  (conv=>whnf);repeat' (first|((with_reducible first|apply kN|apply kW|apply kX|apply kG|apply kQ);(· exact sd);conv=>whnf)|(refine DW.mk ?_ ?_<;>intro hc<;>(try rw[List.length_nil]at hc)<;>first|(exfalso;omega)|(exact absurd rfl hc)|conv=>whnf)|(have hwr:=hk (by omega);apply ZH;(· exact wrap_i64 (by omega) (by omega));clear hwr;conv=>whnf)|(refine CB ?_ ?_<;>intro hc<;>conv=>whnf))
  rotate_left
  · have hN:0≤left→∀n∈g.nodes,SmN n:=fun h=>absurd h (by omega)
    refine DK (fun m env s=>∃(i c:Nat) (left:Int),m=g.edges.length-i∧env=[(3,.ref 0 0 0 0),(7,.int .i64 left),(11,.int .i64 i)]∧s=⟨[.arr 0 4 true true [g.av]],c⟩∧-9223372036854775808≤left∧left≤2000∧(0≤left→(∀ n∈g.nodes,SmN n)∧∀n∈g.edges.take i,SmE n)) ?_ _ _ _ ⟨0,_,left,rfl,rfl,rfl,by omega,by omega,fun h=>⟨hN h,by simp⟩⟩
    clear hN hx hat hk b1 b2 hc
    rintro _ _ _ ⟨i,c,left,rfl,rfl,rfl,b1,b2,hx⟩
    refine⟨rfl,?_⟩
    have hat:∀h:i<g.edges.length,(g.edges[i]).ok:=fun h=>g6 _ (List.getElem_mem _)
    have hk:∀h:i<g.edges.length,(g.edges[i]).ty.length<2^63:=fun h=>(hat h).2.2.2.1
    (conv=>whnf);repeat' (first|((with_reducible first|apply kN|apply kW|apply kX|apply kG|apply kQ);(· exact sd);conv=>whnf)|(refine DW.mk ?_ ?_<;>intro hc<;>(try rw[List.length_nil]at hc)<;>first|(exfalso;omega)|(exact absurd rfl hc)|conv=>whnf)|(refine wrapQ (hk (by omega)) ?_;conv=>whnf)|(have hwr:=hk (by omega);apply ZH;(· exact wrap_i64 (by omega) (by omega));clear hwr;conv=>whnf)|(refine CB ?_ ?_<;>intro hc<;>conv=>whnf))
    · refine BM (weigh (hat (by omega)).2.2.2.2.1 (hat (by omega)).2.2.2.2.2.2 (by have:=hk (by omega);omega) (by omega)) ?_
      rintro _ ⟨r,rfl,r1,r2,r3⟩
      (conv=>whnf);repeat' (first|((with_reducible first|apply kN|apply kW|apply kX|apply kG|apply kQ);(· exact sd);conv=>whnf)|(refine DW.mk ?_ ?_<;>intro hc<;>(try rw[List.length_nil]at hc)<;>first|(exfalso;omega)|(exact absurd rfl hc)|conv=>whnf)  |(refine CB ?_ ?_<;>intro hc<;>conv=>whnf))
      have hk1:=hk (by omega)
      exact again.mk ⟨_,by omega,i+1,_,r,rfl,rfl,rfl,by omega,by omega,fun h=>⟨(hx (by omega)).1,AfD (by omega) (hx (by omega)).2 ⟨by have:=r3 h;omega,by have:=r3 h;omega,(r3 h).2⟩⟩⟩
    all_goals first
      |exact⟨_,rfl,fun h=>absurd h Bool.false_ne_true⟩
      | (refine⟨_,rfl,fun h=>?_⟩
         rename_i hc1
         obtain⟨x1,x2⟩:=hx hc
         rw[TP hc1]at x2
         exact⟨by omega,by omega,x1,x2⟩)
  · have hN:0≤left→∀n∈g.nodes,SmN n:=by rw[TP hc]at hx;exact hx
    refine DK (fun m env s=>∃(i c:Nat) (left:Int),m=g.edges.length-i∧env=[(3,.ref 0 0 0 0),(7,.int .i64 left),(11,.int .i64 i)]∧s=⟨[.arr 0 4 true true [g.av]],c⟩∧-9223372036854775808≤left∧left≤2000∧(0≤left→(∀ n∈g.nodes,SmN n)∧∀n∈g.edges.take i,SmE n)) ?_ _ _ _ ⟨0,_,left,rfl,rfl,rfl,by omega,by omega,fun h=>⟨hN h,by simp⟩⟩
    clear hN hx hat hk b1 b2 hc
    rintro _ _ _ ⟨i,c,left,rfl,rfl,rfl,b1,b2,hx⟩
    refine⟨rfl,?_⟩
    have hat:∀h:i<g.edges.length,(g.edges[i]).ok:=fun h=>g6 _ (List.getElem_mem _)
    have hk:∀h:i<g.edges.length,(g.edges[i]).ty.length<2^63:=fun h=>(hat h).2.2.2.1
    (conv=>whnf);repeat' (first|((with_reducible first|apply kN|apply kW|apply kX|apply kG|apply kQ);(· exact sd);conv=>whnf)|(refine DW.mk ?_ ?_<;>intro hc<;>(try rw[List.length_nil]at hc)<;>first|(exfalso;omega)|(exact absurd rfl hc)|conv=>whnf)|(refine wrapQ (hk (by omega)) ?_;conv=>whnf)|(have hwr:=hk (by omega);apply ZH;(· exact wrap_i64 (by omega) (by omega));clear hwr;conv=>whnf)|(refine CB ?_ ?_<;>intro hc<;>conv=>whnf))
    · refine BM (weigh (hat (by omega)).2.2.2.2.1 (hat (by omega)).2.2.2.2.2.2 (by have:=hk (by omega);omega) (by omega)) ?_
      rintro _ ⟨r,rfl,r1,r2,r3⟩
      (conv=>whnf);repeat' (first|((with_reducible first|apply kN|apply kW|apply kX|apply kG|apply kQ);(· exact sd);conv=>whnf)|(refine DW.mk ?_ ?_<;>intro hc<;>(try rw[List.length_nil]at hc)<;>first|(exfalso;omega)|(exact absurd rfl hc)|conv=>whnf)  |(refine CB ?_ ?_<;>intro hc<;>conv=>whnf))
      have hk1:=hk (by omega)
      exact again.mk ⟨_,by omega,i+1,_,r,rfl,rfl,rfl,by omega,by omega,fun h=>⟨(hx (by omega)).1,AfD (by omega) (hx (by omega)).2 ⟨by have:=r3 h;omega,by have:=r3 h;omega,(r3 h).2⟩⟩⟩
    all_goals first
      |exact⟨_,rfl,fun h=>absurd h Bool.false_ne_true⟩
      | (refine⟨_,rfl,fun h=>?_⟩
         rename_i hc1
         obtain⟨x1,x2⟩:=hx hc
         rw[TP hc1]at x2
         exact⟨by omega,by omega,x1,x2⟩)
  refine BM (weigh (hat (by omega)).2.2.2.2.1 (hat (by omega)).2.2.2.2.2.2 (by have:=hk (by omega);omega) (by omega)) ?_
  rintro _ ⟨r,rfl,r1,r2,r3⟩
  (conv=>whnf);repeat' (first|((with_reducible first|apply kN|apply kW|apply kX|apply kG|apply kQ);(· exact sd);conv=>whnf)|(refine DW.mk ?_ ?_<;>intro hc<;>(try rw[List.length_nil]at hc)<;>first|(exfalso;omega)|(exact absurd rfl hc)|conv=>whnf)  |(refine CB ?_ ?_<;>intro hc<;>conv=>whnf))
  refine DK (fun m env s=>∃(j:Nat) (l2:Int),m=(g.nodes[i]).labels.length-j∧env=[(3,.ref 0 0 0 0),(7,.int .i64 l2),(8,.int .i64 i),(9,.ref 1 c 0 0),(10,.int .i64 j)]∧s=⟨[.arr 0 4 true true [g.av],.arr c 3 true true [(g.nodes[i]).av]],c+1⟩∧-9223372036854775808≤l2∧l2≤2000∧(0≤l2→0≤r∧∀s∈(g.nodes[i]).labels.take j,s.length≤101000)) ?_ _ _ _ ⟨0,r,rfl,rfl,rfl,by omega,by omega,fun h=>⟨h,by simp⟩⟩
  rintro _ _ _ ⟨j,l2,rfl,rfl,rfl,d1,d2,hy⟩
  refine⟨rfl,?_⟩
  have hlb:∀h:j<(g.nodes[i]).labels.length,((g.nodes[i]).labels[j]).length<2^63:=fun h=>(hat (by omega)).2.2.2.1 _ (List.getElem_mem _)
  have hk1:=hk (by omega)
  (conv=>whnf);repeat' (first|((with_reducible first|apply kN|apply kW|apply kX|apply kG|apply kQ);(· exact sd);conv=>whnf)|(refine DW.mk ?_ ?_<;>intro hc<;>(try rw[List.length_nil]at hc)<;>first|(exfalso;omega)|(exact absurd rfl hc)|conv=>whnf)|(refine wrapQ (hlb (by omega)) ?_;conv=>whnf)|(have hwr:=hlb (by omega);apply ZH;(· exact wrap_i64 (by omega) (by omega));clear hwr;conv=>whnf)|(refine CB ?_ ?_<;>intro hc<;>conv=>whnf))
  · have:=hlb (by omega)
    exact again.mk ⟨_,by omega,j+1,_,rfl,rfl,rfl,by omega,by omega,fun h=>⟨(hy (by omega)).1,AfD (by omega) (hy (by omega)).2 (by omega)⟩⟩
  · exact again.mk ⟨_,by omega,i+1,_,l2,rfl,rfl,rfl,by omega,by omega,fun h=>absurd h (by omega)⟩
  · refine again.mk ⟨_,by omega,i+1,_,l2,rfl,rfl,rfl,by omega,by omega,fun h=>?_⟩
    obtain⟨y1,y2⟩:=hy h
    rw[TP hc]at y2
    have:=r3 y1
    exact AfD (by omega) (hx (by omega)) ⟨by omega,y2,by omega,this.2⟩
def V0:GV:=⟨0,0,0,[],false,[]⟩
def isK (k:List UInt8) (p:GP):Bool:=decide (p.key=k)
def AgH (l:List GP) (k:List UInt8):AV:=match l.find? (isK k)with
  |some n=>n.v.av
  |none=>V0.av
theorem AG2 {l:List GP} {nn:Bool} (hl:l.length<2^63) {k:List UInt8}:D8 (Dx tab) 239 [.sl nn (vs GP.av l),.str k] (· =AgH l k):=by
  refine Lu rfl rfl ?_
  (conv=>whnf);repeat' (first|((with_reducible first|apply kN|apply kW|apply kX|apply kG|apply kQ);(· exact sd);conv=>whnf)|(refine DW.mk ?_ ?_<;>intro hc<;>(try rw[List.length_nil]at hc)<;>first|(exfalso;omega)|(exact absurd rfl hc)|conv=>whnf)  |(refine CB ?_ ?_<;>intro hc<;>conv=>whnf))
  refine DK (fun m env s=>∃i:Nat,m=l.length-i∧(∀ x∈l.take i,isK k x=false)∧env=[(0,.sl nn (vs GP.av l)),(1,.str k),(4,.ref 0 0 0 0),(5,.int .i64 i)]∧s=⟨[.arr 0 5 true true [.agg [.int .i64 0,.int .i64 0,.int .i64 0,.str [],.sl false []]]],1⟩) ?_ _ _ _ ⟨0,rfl,by simp,rfl,rfl⟩
  rintro _ _ _ ⟨i,rfl,hx,rfl,rfl⟩
  refine⟨rfl,?_⟩
  (conv=>whnf);repeat' (first|((with_reducible first|apply kN|apply kW|apply kX|apply kG|apply kQ);(· exact sd);conv=>whnf)|(refine DW.mk ?_ ?_<;>intro hc<;>(try rw[List.length_nil]at hc)<;>first|(exfalso;omega)|(exact absurd rfl hc)|conv=>whnf)  |(refine CB ?_ ?_<;>intro hc<;>conv=>whnf))
  · rw[AgH,Aca (by omega) hx (decide_eq_true hc)];rfl
  · exact again.mk ⟨_,by omega,i+1,rfl,Acd (by omega) hx (decide_eq_false hc),rfl,rfl⟩
  · rw[TP hc]at hx
    rw[AgH,Acb hx];rfl
theorem AQ2:D8 (Dx tab) 190 [] (· =V0.av):=by
  refine Lu rfl rfl ?_
  (conv=>whnf);repeat' (first|((with_reducible first|apply kN|apply kW|apply kX|apply kG|apply kQ);(· exact sd);conv=>whnf)|(refine DW.mk ?_ ?_<;>intro hc<;>(try rw[List.length_nil]at hc)<;>first|(exfalso;omega)|(exact absurd rfl hc)|conv=>whnf)  |(refine CB ?_ ?_<;>intro hc<;>conv=>whnf))
  rfl
theorem AG1 {l:List GP} {nn:Bool} (hl:l.length<2^63) (hg:∀p∈l,p.ok∧AcF 12 p.v.av) {k:List UInt8}:D8 (Dx tab) 138 [.sl nn (vs GP.av l),.str k] (· =AgH l k):=by
  refine Lu rfl rfl ?_
  (conv=>whnf);repeat' (first|((with_reducible first|apply kN|apply kW|apply kX|apply kG|apply kQ);(· exact sd);conv=>whnf)|(refine DW.mk ?_ ?_<;>intro hc<;>(try rw[List.length_nil]at hc)<;>first|(exfalso;omega)|(exact absurd rfl hc)|conv=>whnf)  |(refine CB ?_ ?_<;>intro hc<;>conv=>whnf))
  refine DK (fun m env s=>∃i c:Nat,m=l.length-i∧(∀ x∈l.take i,isK k x=false)∧env=[(1,.str k),(4,.ref 0 0 0 0),(7,.sl nn (vs GP.av l)),(8,.int .i64 l.length),(9,.int .i64 i)]∧s=⟨[.arr 0 5 true true [.agg [.int .i64 0,.int .i64 0,.int .i64 0,.str [],.sl false []]]],c⟩) ?_ _ _ _ ⟨0,_,rfl,by simp,by rw[← lV (f:=GP.av) l];rfl,rfl⟩
  rintro _ _ _ ⟨i,c,rfl,hx,rfl,rfl⟩
  refine⟨rfl,?_⟩
  have ho:∀h:i<l.length,(l[i]).v.ok∧AcF 12 (l[i]).v.av:=fun h=>⟨(hg _ (List.getElem_mem h)).1.2,(hg _ (List.getElem_mem h)).2⟩
  (conv=>whnf);repeat' (first|((with_reducible first|apply kN|apply kW|apply kX|apply kG|apply kQ);(· exact sd);conv=>whnf)|(refine DW.mk ?_ ?_<;>intro hc<;>(try rw[List.length_nil]at hc)<;>first|(exfalso;omega)|(exact absurd rfl hc)|conv=>whnf)|(refine BM (Aqe 12 (g:=l[i].v) (ho (by omega)).1 (ho (by omega)).2) ?_;rintro _ rfl;conv=>whnf)|(refine BM AQ2 ?_;rintro _ rfl;conv=>whnf)|(refine CB ?_ ?_<;>intro hc<;>conv=>whnf))
  · rw[AgH,Aca (by omega) hx (decide_eq_true hc)];rfl
  · exact again.mk ⟨_,by omega,i+1,_,rfl,Acd (by omega) hx (decide_eq_false hc),rfl,rfl⟩
  · rw[TP hc]at hx
    rw[AgH,Acb hx];rfl
theorem AQ3:V0.ok∧AcF 12 V0.av:=by
  have h0:V0.ok:=⟨⟨by decide,by decide⟩,⟨by decide,by decide⟩,⟨by decide,by decide⟩,by unfold Ln;decide,by unfold Ln;decide,fun _=>rfl,fun x hx=>by cases hx⟩
  exact⟨h0,V0,rfl,h0,by decide,by decide,fun x hx=>by cases hx⟩
theorem Axk {l:List GP} (hg:∀p∈l,p.ok∧AcF 12 p.v.av) (k:List UInt8):∃g:GV,AgH l k=g.av∧g.ok∧AcF 12 g.av:=by
  unfold AgH
  cases h:l.find? (isK k)with
  |none=>exact⟨V0,rfl,AQ3⟩
  |some p=>exact⟨p.v,rfl,(hg p (List.mem_of_find?_eq_some h)).1.2,(hg p (List.mem_of_find?_eq_some h)).2⟩
def Z0:GV:=⟨0,0,0,[],false,[]⟩
def mkC (op id:Int) (name:List UInt8):GC:=⟨op,id,0,0,name,Z0⟩
def AtO (k:List UInt8) (p:GP):Bool:=decide (p.key=k)
def OA (l:List GP) (k:List UInt8):GV:=match l.find? (AtO k)with
  |some q=>q.v
  |none=>Z0
def Lr (x y:GE):Bool:=decide (¬ (x.fr=y.fr∧x.to=y.to∧x.ty=y.ty))
def JQ (E:List GE) (x:GE):Bool:=match E.find? (isE x.id)with
  |none=>true
  |some y=>Lr x y
def Qx (N:List GN) (n:GN):Bool:=(N.find? (isN n.id)).isNone
def YI (a b:GG):List GC:=(a.edges.filter (JQ b.edges)).map (fun x=>mkC 7 x.id [])++(a.nodes.filter (Qx b.nodes)).map (fun n=>mkC 2 n.id [])
def Gf (op id:Int) (l m:List (List UInt8)):List GC:=(l.filter fun x=>decide (x∉m)).map (mkC op id)
noncomputable def valuesL (op id:Int) (a b:List GP):List GC:=(b.filter fun p=>decide (QK 12 (OA a p.key) p.v≠0)).map fun p=>⟨op,id,0,0,p.key,p.v⟩
def Vx (N:List GN) (n:GN):GN:=match N.find? (isN n.id)with
  |some m=>m
  |none=>N0
noncomputable def Aae (N:List GN) (n:GN):List GC:=Gf 4 n.id (Vx N n).labels n.labels++(Gf 5 n.id (keysOf (Vx N n).props) (keysOf n.props)++(Gf 3 n.id n.labels (Vx N n).labels++valuesL 5 n.id (Vx N n).props n.props))
noncomputable def AhK (a b:GG):List GC:=(b.nodes.filter (Qx a.nodes)).map (fun n=>mkC 1 n.id [])++b.nodes.flatMap (Aae a.nodes)
def AfN (E:List GE) (x:GE):List GP:=match E.find? (isE x.id)with
  |none=>[]
  |some y=>if Lr x y=true then[]else y.props
noncomputable def O8 (E:List GE) (x:GE):List GC:=Gf 8 x.id (keysOf (AfN E x)) (keysOf x.props)++valuesL 8 x.id (AfN E x) x.props
def newE (x:GE):GC:=⟨6,x.id,x.fr,x.to,x.ty,Z0⟩
noncomputable def Alh (a b:GG):List GC:=(b.edges.filter (JQ a.edges)).map newE++b.edges.flatMap (O8 a.edges)
noncomputable def O1 (a b:GG):List GC:=YI a b++(AhK a b++Alh a b)
def cl (b:Bool) (x:AV):AV:=bif b then .agg [x]else x
theorem Kv (c:GC):c.av.cells.length=10:=rfl
theorem ND {α β:Type} {p:α→Bool} {f:α→β} {l:List α} {i:Nat} (h:i<l.length):((l.take (i+1)).filter p).map f=((l.take i).filter p).map f++if p l[i]=true then[f l[i]]else[]:=by
  rw[LQ h,List.map_append]
  congr 1
  split<;>rfl
theorem Aml {α β:Type} {f:α→List β} {l:List α} {i:Nat} (h:i<l.length):(l.take (i+1)).flatMap f=(l.take i).flatMap f++f l[i]:=by
  rw[List.take_succ_eq_append_getElem h,List.flatMap_append];simp
structure PG (g:GG):Prop where
  ok:g.ok
  nn:g.nodes.length≤100
  en:g.edges.length≤100
  nodes:∀n∈g.nodes,n.ok∧n.labels.length≤8∧n.props.length≤16∧Ud n.props∧allPlain n.props
  edges:∀e∈g.edges,e.ok∧e.props.length≤16∧Ud e.props∧allPlain e.props
theorem AoI {L:List (List UInt8)} {P:List GP} (h:Ap6 L P=0):L.length≤8∧P.length≤16∧allPlain P:=by
  by_cases h1:8<L.length∨16<P.length
  · have:=AT7 h1;rw[h]at this;cases this
  by_cases h2:allNames L∧allNames (keysOf P)
  case neg=>have:=AT8 h1 h2;rw[h]at this;cases this
  by_cases h3:rises L∧rises (keysOf P)
  case neg=>have:=AQW h1 h2 h3;rw[h]at this;cases this
  by_cases h4:allPlain P
  case neg=>have:=AT9 h1 h2 h3 h4;rw[h]at this;cases this
  exact⟨by omega,by omega,h4⟩
theorem AcE {g:GG} (hg:g.ok) (hs:SmG g 24 30) (h:JA g=0):PG g:=by
  obtain⟨c1,c2,c3,c4⟩:=AhM h
  have hg':=hg
  obtain⟨g1,g2,g3,g4,g5,g6,g7,g8⟩:=hg'
  have s1:=hs.1
  have s2:=hs.2.1
  refine⟨hg,by omega,by omega,fun x hx=>?_,fun x hx=>?_⟩
  · obtain⟨s1,s2,s3⟩:=hs.2.2.1 x hx
    obtain⟨i,hi,e⟩:=List.mem_iff_getElem.1 hx
    have hp:=(Ayi hi (c3 i hi)).2.2.2
    rw[e]at hp
    obtain⟨p1,p2,p3⟩:=AoI hp
    exact⟨g3 x hx,p1,p2,⟨s3.1,fun p hp=>⟨(g3 x hx).2.2.2.2.2.2 p hp,(s3.2 p hp).2⟩⟩,p3⟩
  · obtain⟨s1,s3⟩:=hs.2.2.2 x hx
    obtain⟨i,hi,e⟩:=List.mem_iff_getElem.1 hx
    have hp:=(AuL hi (c4 i hi)).2.2.2.2.2.2
    rw[e]at hp
    obtain⟨p1,p2,p3⟩:=AoI hp
    exact⟨g6 x hx,p2,⟨s3.1,fun p hp=>⟨(g6 x hx).2.2.2.2.2.2 p hp,(s3.2 p hp).2⟩⟩,p3⟩
theorem AaI:∀{d:Nat} {v:GV},AcF d v.av→dep d v
  |0,_,h=>h.elim
  | d +1,v,h=>fun x hx=>by
    obtain⟨g,e,h1,_,_,h2⟩:=h
    have e2:v.l=g.l:=by
      have:=congrArg AdW e
      rw[Ax6,Ax6]at this
      rw[this]
    rw[e2]at hx
    have h3:=h2 x hx
    cases d with
    |zero=>exact h3.elim
    | succ d=>
      have h4:=h3
      obtain⟨g',e',k1,_⟩:=h4
      exact⟨g',e',k1,AaI (e'▸h3)⟩
def Ao1 (l:List GP) (i:Nat):List (List UInt8):=(keysOf l).take i++List.replicate (l.length-i) []
theorem AAv {l:List GP} {i:Nat} (h:i≤l.length):(Ao1 l i).length=l.length:=by unfold Ao1;simp;omega
theorem AyW {l:List GP} {i:Nat} (h:i<l.length):(Ao1 l i).set i l[i].key=Ao1 l (i+1):=by
  have h0:i<(keysOf l).length:=by simpa using h
  have h2:((keysOf l).take i).length=i:=by simp;omega
  unfold Ao1
  rw[List.set_append_right _ _ (by omega),h2,Nat.sub_self,show l.length-i=(l.length-(i+1))+1 by omega,List.replicate_succ,List.set_cons_zero,List.take_succ_eq_append_getElem h0,List.append_assoc]
  simp[keysOf]
theorem AAw {l:List GP}:Ao1 l l.length=keysOf l:=by unfold Ao1;rw[Nat.sub_self,List.replicate_zero,List.append_nil];exact List.take_of_length_le (by simp)
theorem AAx {l:List GP}:vs AV.str (Ao1 l 0)=List.replicate l.length (.str []):=by simp[Ao1,vs]
theorem Ayj:Z0.ok∧AcF 12 Z0.av:=by
  have h0:Z0.ok:=⟨⟨by decide,by decide⟩,⟨by decide,by decide⟩,⟨by decide,by decide⟩,by unfold Ln;decide,by unfold Ln;decide,fun _=>rfl,fun x hx=>by cases hx⟩
  exact⟨h0,Z0,rfl,h0,by decide,by decide,fun x hx=>by cases hx⟩
theorem Ali {l:List GP} (hg:∀p∈l,p.ok∧AcF 12 p.v.av) (k:List UInt8):(OA l k).ok∧AcF 12 (OA l k).av:=by
  unfold OA
  cases h:l.find? (AtO k)with
  |none=>exact Ayj
  |some q=>exact⟨(hg q (List.mem_of_find?_eq_some h)).1.2,(hg q (List.mem_of_find?_eq_some h)).2⟩
theorem AwZ {l:List GP} {k:List UInt8} (h:k∉keysOf l):OA l k=Z0:=by
  unfold OA
  cases e:l.find? (AtO k)with
  |none=>rfl
  |some q=>exact absurd (List.mem_map.2 ⟨q,List.mem_of_find?_eq_some e,of_decide_eq_true (show decide (q.key=k)=true from List.find?_some (p:=AtO k) e)⟩) h
theorem AB4 {v:GV} (h:AjD v):VV 8 v:=by
  obtain⟨h1,h2,h3⟩:=h
  refine .inl ⟨h2,?_⟩
  rcases h3 with⟨a,b,c⟩|⟨a,b,c⟩|⟨a,b,c⟩
  · exact .inr (.inl ⟨a,c,h1,b⟩)
  · exact .inr (.inr (.inl ⟨a,c,h1,b⟩))
  · exact .inr (.inr (.inr (.inr (.inl ⟨a,b,h1,c⟩))))
theorem Aw0 {v:GV} (h:AjD v):QK 12 Z0 v≠0:=by
  have h0:VV 8 Z0:=.inl ⟨rfl,.inl ⟨rfl,rfl,rfl,rfl⟩⟩
  have h1:Qr (YH Z0.k) (YH v.k)≠0:=by
    intro e
    rw[Ym]at e
    have e0:YH Z0.k=0:=rfl
    rw[e0]at e
    unfold YH at e
    rcases h.2.2 with⟨a,_⟩|⟨a,_⟩|⟨a,_⟩<;>rw[a]at e<;>revert e<;>decide
  unfold QK
  rw[if_pos h0,if_pos (AB4 h)]
  unfold Ajx
  rw[show NH (Qr (YH Z0.k) (YH v.k)) _=_ from if_neg h1]
  exact h1
end AI
end Go.Proofs.YtnbibfalljlmfaaGreatDoor
