/- Looking for a node among increasing ids. graph.Check: the first error of a graph. graph.Check, walked. The graph that is checked; small graphs. The entries of a graph: the program sorts them, the reference puts them in one by one. -/
import Derived.Test.YtnbibfalljlmfaaGreatDoorMbe
import Derived.Test.YtnbibfalljlmfaaGreatDoorMbb
set_option linter.unusedVariables false
set_option maxRecDepth 4000
namespace Go.Proofs.YtnbibfalljlmfaaGreatDoor
namespace AI
def incr (l:List Int):Prop:=∀j (h:j+1<l.length),l[j]<l[j+1]
noncomputable instance (l:List Int):Decidable (incr l):=Classical.propDecidable _
theorem incr_lt {l:List Int} (h:incr l) {i:Nat}:∀d (hd:i+d+1<l.length),l[i]<l[i+d+1]
  |0,hd=>h i hd
  |d+1,hd=>Int.lt_trans (incr_lt h d (by omega)) (h (i+d+1) hd)
theorem incr_mono {l:List Int} (h:incr l) {i j:Nat} (hij:i<j) (hj:j<l.length):l[i]<l[j]:=by
  obtain⟨d,rfl⟩:∃d,j=i+d+1:=⟨j-i-1,by omega⟩
  exact incr_lt h d hj
def nids (N:List GN):List Int:=N.map GN.id
def eids (E:List GE):List Int:=E.map GE.id
@[simp] theorem nids_len (N:List GN):(nids N).length=N.length:=by simp[nids]
@[simp] theorem eids_len (N:List GE):(eids N).length=N.length:=by simp[eids]
theorem nids_at {N:List GN} {i:Nat} (h:i<N.length):(nids N)[i]'(by simpa using h)=(N[i]).id:=by simp[nids]
theorem eids_at {N:List GE} {i:Nat} (h:i<N.length):(eids N)[i]'(by simpa using h)=(N[i]).id:=by simp[eids]
theorem nid_lt {N:List GN} (h:incr (nids N)) {i j:Nat} (hij:i<j) (hj:j<N.length):(N[i]).id<(N[j]).id:=by
  have:=incr_mono h hij (by simpa using hj)
  rwa [nids_at (by omega),nids_at hj]at this
theorem has1 {n:GN} {x:Int}:D8 (Dx tab) 134 [n.av,.int .i64 x] (· =.int .i64 (Qr n.id x)):=by
  refine Lu rfl rfl ?_
  (conv=>whnf);repeat' (first|((with_reducible first|apply kN|apply kW|apply kX|apply kG|apply kQ);(· exact sd);conv=>whnf)|(refine DW.mk ?_ ?_<;>intro hc<;>(try rw[List.length_nil]at hc)<;>first|(exfalso;omega)|(exact absurd rfl hc)|conv=>whnf)|(refine BM compare ?_;rintro _ rfl;conv=>whnf)|(refine CB ?_ ?_<;>intro hc<;>conv=>whnf))
  rfl
theorem bsearch {N:List GN} {nn:Bool} {x:Int} (hN:N.length<2^62) (hi:incr (nids N)):D8 (Dx tab) 133 [.sl nn (vs GN.av N),.int .i64 x,.fn 134 []] (fun v=>∃z b,v=.tup [.int .i64 z,.bool b]∧(b=true↔x∈nids N)):=by
  have fin:∀i:Nat,i≤N.length→(∀ k (h:k<N.length),k<i→(N[k]).id<x)→(∀ k (h:k<N.length),i≤k→x≤(N[k]).id)→(x∈nids N↔∃h:i<N.length,(N[i]).id=x):=by
    intro i h0 h1 h2
    constructor
    · intro h
      obtain⟨k,hk,e⟩:=List.getElem_of_mem h
      have hk':k<N.length:=by simpa using hk
      rw[nids_at hk']at e
      have a1:=h1 k hk'
      have:i≤k:=by
        rcases Nat.lt_or_ge k i with h|h
        · have:=a1 h;omega
        · exact h
      rcases Nat.lt_or_ge i k with h|h
      · have:=nid_lt hi h hk'
        have:=h2 i (by omega) (Nat.le_refl _)
        omega
      · obtain rfl:i=k:=by omega
        exact⟨hk',e⟩
    · rintro⟨h,e⟩
      rw[← e,←nids_at h]
      exact List.getElem_mem _
  refine Lu rfl rfl ?_
  (conv=>whnf);repeat' (first|((with_reducible first|apply kN|apply kW|apply kX|apply kG|apply kQ);(· exact sd);conv=>whnf)|(refine DW.mk ?_ ?_<;>intro hc<;>(try rw[List.length_nil]at hc)<;>first|(exfalso;omega)|(exact absurd rfl hc)|conv=>whnf)  |(refine CB ?_ ?_<;>intro hc<;>conv=>whnf))
  refine DK (fun m env s=>∃(i j:Nat),m=j-i∧i≤j∧j≤N.length∧env=[(0,.sl nn (vs GN.av N)),(1,.int .i64 x),(2,.fn 134 []),(8,.int .i64 N.length),(9,.int .i64 i),(10,.int .i64 j)]∧s=⟨[],0⟩∧
    (∀ k (h:k<N.length),k<i→(N[k]).id<x)∧(∀ k (h:k<N.length),j≤k→x≤(N[k]).id)) ?_ _ _ _ ⟨0,N.length,rfl,by omega,by omega,by simp,rfl,fun k _ h=>absurd h (by omega),fun k h1 h=>absurd h (by omega)⟩
  rintro _ _ _ ⟨i,j,rfl,hij,hj,rfl,rfl,h1,h2⟩
  refine⟨rfl,?_⟩
  (conv=>whnf);repeat' (first|(refine wrapU (i+j) (by omega) (by omega) ?_;conv=>whnf)|(apply KJ;(· exact shrE _);conv=>whnf)|(refine BM has1 ?_;rintro _ rfl;conv=>whnf)|((with_reducible first|apply kN|apply kW|apply kX|apply kG|apply kQ);(· exact sd);conv=>whnf)|(refine DW.mk ?_ ?_<;>intro hc<;>(try rw[List.length_nil]at hc)<;>first|(exfalso;omega)|(exact absurd rfl hc)|conv=>whnf)|(refine CB ?_ ?_<;>intro hc<;>conv=>whnf))
  · have hm:=AwJ.1 hc
    exact again.mk ⟨_,by omega,(i+j) / 2+1,j,rfl,by omega,hj,rfl,rfl,fun k hk hlt=>by
      rcases Nat.lt_or_ge k ((i+j) / 2)with h|h
      · exact Int.lt_trans (nid_lt hi h (by omega)) hm
      · obtain rfl:k=(i+j) / 2:=by omega
        exact hm,h2⟩
  · have hm:=mt AwJ.2 hc
    exact again.mk ⟨_,by omega,i,(i+j) / 2,rfl,by omega,by omega,rfl,rfl,h1,fun k hk hle=>by
      rcases Nat.lt_or_ge ((i+j) / 2) k with h|h
      · have:=nid_lt hi h hk;omega
      · obtain rfl:k=(i+j) / 2:=by omega
        omega⟩
  all_goals have hf:=fin i (by omega) h1 (fun k hk h=>h2 k hk (by omega))
  · exact⟨_,_,rfl,fun _=>hf.2 ⟨by omega,Ym.1 hc⟩,fun _=>rfl⟩
  · exact⟨_,_,rfl,fun h=>(Bool.noConfusion h),fun h=>absurd (Ym.2 (hf.1 h).2) hc⟩
  · exact⟨_,_,rfl,fun h=>(Bool.noConfusion h),fun h=>absurd (hf.1 h).1 (by omega)⟩
theorem hasP {N:List GN} {nn:Bool} {x:Int} (hN:N.length<2^62) (hi:incr (nids N)):D8 (Dx tab) 72 [.sl nn (vs GN.av N),.int .i64 x] (· =.bool (decide (x∈nids N))):=by
  refine Lu rfl rfl ?_
  (conv=>whnf);repeat' (first|((with_reducible first|apply kN|apply kW|apply kX|apply kG|apply kQ);(· exact sd);conv=>whnf)|(refine DW.mk ?_ ?_<;>intro hc<;>(try rw[List.length_nil]at hc)<;>first|(exfalso;omega)|(exact absurd rfl hc)|conv=>whnf)  |(refine CB ?_ ?_<;>intro hc<;>conv=>whnf))
  refine BM (bsearch hN hi) ?_
  rintro _ ⟨z,b,rfl,hb⟩
  (conv=>whnf);repeat' (first|((with_reducible first|apply kN|apply kW|apply kX|apply kG|apply kQ);(· exact sd);conv=>whnf)|(refine DW.mk ?_ ?_<;>intro hc<;>(try rw[List.length_nil]at hc)<;>first|(exfalso;omega)|(exact absurd rfl hc)|conv=>whnf)  |(refine CB ?_ ?_<;>intro hc<;>conv=>whnf))
  · exact Lp (hb.1 hc)
  · exact Hf fun h=>by rw[hb.2 h]at hc;cases hc
def firstE (f:Nat→Int):Nat→Int
  |0=>0
  |n+1=>if firstE f n=0 then f n else firstE f n
theorem firstE_zero {f:Nat→Int}:∀{n:Nat},firstE f n=0↔∀k,k<n→f k=0
  |0=>by simp[firstE]
  | n + 1=>by
    unfold firstE
    split
    · rename_i h
      have:=firstE_zero.1 h
      refine⟨fun h0 k hk=>?_,fun h0=>h0 n (by omega)⟩
      rcases Nat.lt_or_ge k n with h1|h1
      · exact this k h1
      · obtain rfl:k=n:=by omega
        exact h0
    · rename_i h
      exact⟨fun h0=>absurd h0 h,fun h0=>absurd (firstE_zero.2 fun k hk=>h0 k (by omega)) h⟩
theorem firstE_at {f:Nat→Int} {i:Nat} (h:∀k,k<i→f k=0) (hi:f i≠0):∀{n:Nat},i<n→firstE f n=f i
  |0,hn=>absurd hn (by omega)
  | n +1,hn=>by
    unfold firstE
    rcases Nat.lt_or_ge i n with h1|h1
    · rw[firstE_at h hi h1,if_neg hi]
    · obtain rfl:i=n:=by omega
      rw[if_pos (firstE_zero.2 h)]
noncomputable def AAk (N:List GN) (nx:Int) (i:Nat):Int:=
  match N[i]? with
  |none=>0
  |some n=>if 0<i∧(∃ m,N[i-1]?=some m∧n.id≤m.id)then 26 else if n.id<1∨nx≤n.id then 1 else Ap6 n.labels n.props
noncomputable def AXb (N:List GN) (E:List GE) (nx:Int) (i:Nat):Int:=
  match E[i]? with
  |none=>0
  |some e=>if 0<i∧(∃ m,E[i-1]?=some m∧e.id≤m.id)then 26 else if e.id<1∨nx≤e.id then 1 else if¬(e.fr∈nids N∧e.to∈nids N)then 10 else if¬isName e.ty then 6 else Ap6 [] e.props
theorem node26 {N:List GN} {nx:Int} {i:Nat} (h:i<N.length) (h0:0<i) (h1:(N[i]).id≤(N[i-1]).id):AAk N nx i=26:=by
  unfold AAk;rw[List.getElem?_eq_getElem h];exact if_pos ⟨h0,_,List.getElem?_eq_getElem (by omega),h1⟩
theorem node_no {N:List GN} {i:Nat} (h:i<N.length) (h1:0<i→¬(N[i]).id≤(N[i-1]).id):¬(0<i∧∃m,N[i-1]?=some m∧(N[i]).id≤m.id):=by
  rintro⟨a,m,b,c⟩;rw[List.getElem?_eq_getElem (by omega)]at b;rw[← Option.some.inj b]at c;exact h1 a c
theorem node1 {N:List GN} {nx:Int} {i:Nat} (h:i<N.length) (h1:0<i→¬(N[i]).id≤(N[i-1]).id) (h2:(N[i]).id<1∨nx≤(N[i]).id):AAk N nx i=1:=by
  unfold AAk;rw[List.getElem?_eq_getElem h];dsimp only;rw[if_neg (node_no h h1),if_pos h2]
theorem AXa {N:List GN} {nx:Int} {i:Nat} (h:i<N.length) (h1:0<i→¬(N[i]).id≤(N[i-1]).id) (h2:¬((N[i]).id<1∨nx≤(N[i]).id)):AAk N nx i=Ap6 (N[i]).labels (N[i]).props:=by
  unfold AAk;rw[List.getElem?_eq_getElem h];dsimp only;rw[if_neg (node_no h h1),if_neg h2]
theorem Ayi {N:List GN} {nx:Int} {i:Nat} (h:i<N.length) (h0:AAk N nx i=0):(0<i→(N[i-1]).id<(N[i]).id)∧1≤(N[i]).id∧(N[i]).id<nx∧Ap6 (N[i]).labels (N[i]).props=0:=by
  by_cases h1:0<i∧(N[i]).id≤(N[i-1]).id
  · rw[node26 h h1.1 h1.2]at h0;omega
  have h1':0<i→¬(N[i]).id≤(N[i-1]).id:=fun a b=>h1 ⟨a,b⟩
  by_cases h2:(N[i]).id<1∨nx≤(N[i]).id
  · rw[node1 h h1' h2]at h0;omega
  rw[AXa h h1' h2]at h0
  exact⟨fun a=>by have:=h1' a;omega,by omega,by omega,h0⟩
theorem edge26 {N:List GN} {E:List GE} {nx:Int} {i:Nat} (h:i<E.length) (h0:0<i) (h1:(E[i]).id≤(E[i-1]).id):AXb N E nx i=26:=by
  unfold AXb;rw[List.getElem?_eq_getElem h];exact if_pos ⟨h0,_,List.getElem?_eq_getElem (by omega),h1⟩
theorem edge_no {E:List GE} {i:Nat} (h:i<E.length) (h1:0<i→¬(E[i]).id≤(E[i-1]).id):¬(0<i∧∃m,E[i-1]?=some m∧(E[i]).id≤m.id):=by
  rintro⟨a,m,b,c⟩;rw[List.getElem?_eq_getElem (by omega)]at b;rw[← Option.some.inj b]at c;exact h1 a c
theorem edge1 {N:List GN} {E:List GE} {nx:Int} {i:Nat} (h:i<E.length) (h1:0<i→¬(E[i]).id≤(E[i-1]).id) (h2:(E[i]).id<1∨nx≤(E[i]).id):AXb N E nx i=1:=by
  unfold AXb;rw[List.getElem?_eq_getElem h];dsimp only;rw[if_neg (edge_no h h1),if_pos h2]
theorem edge10 {N:List GN} {E:List GE} {nx:Int} {i:Nat} (h:i<E.length) (h1:0<i→¬(E[i]).id≤(E[i-1]).id) (h2:¬((E[i]).id<1∨nx≤(E[i]).id)) (h3:¬((E[i]).fr∈nids N∧(E[i]).to∈nids N)):AXb N E nx i=10:=by
  unfold AXb;rw[List.getElem?_eq_getElem h];dsimp only;rw[if_neg (edge_no h h1),if_neg h2,if_pos h3]
theorem edge6 {N:List GN} {E:List GE} {nx:Int} {i:Nat} (h:i<E.length) (h1:0<i→¬(E[i]).id≤(E[i-1]).id) (h2:¬((E[i]).id<1∨nx≤(E[i]).id)) (h3:(E[i]).fr∈nids N∧(E[i]).to∈nids N) (h4:¬isName (E[i]).ty):AXb N E nx i=6:=by
  unfold AXb;rw[List.getElem?_eq_getElem h];dsimp only;rw[if_neg (edge_no h h1),if_neg h2,if_neg (not_not_intro h3),if_pos h4]
theorem AXc {N:List GN} {E:List GE} {nx:Int} {i:Nat} (h:i<E.length) (h1:0<i→¬(E[i]).id≤(E[i-1]).id) (h2:¬((E[i]).id<1∨nx≤(E[i]).id)) (h3:(E[i]).fr∈nids N∧(E[i]).to∈nids N) (h4:isName (E[i]).ty):AXb N E nx i=Ap6 [] (E[i]).props:=by
  unfold AXb;rw[List.getElem?_eq_getElem h];dsimp only;rw[if_neg (edge_no h h1),if_neg h2,if_neg (not_not_intro h3),if_neg (not_not_intro h4)]
theorem AuL {N:List GN} {E:List GE} {nx:Int} {i:Nat} (h:i<E.length) (h0:AXb N E nx i=0):(0<i→(E[i-1]).id<(E[i]).id)∧1≤(E[i]).id∧(E[i]).id<nx∧(E[i]).fr∈nids N∧(E[i]).to∈nids N∧isName (E[i]).ty∧Ap6 [] (E[i]).props=0:=by
  by_cases h1:0<i∧(E[i]).id≤(E[i-1]).id
  · rw[edge26 h h1.1 h1.2]at h0;omega
  have h1':0<i→¬(E[i]).id≤(E[i-1]).id:=fun a b=>h1 ⟨a,b⟩
  by_cases h2:(E[i]).id<1∨nx≤(E[i]).id
  · rw[edge1 h h1' h2]at h0;omega
  by_cases h3:(E[i]).fr∈nids N∧(E[i]).to∈nids N
  case neg=>rw[edge10 h h1' h2 h3]at h0;omega
  by_cases h4:isName (E[i]).ty
  case neg=>rw[edge6 h h1' h2 h3 h4]at h0;omega
  rw[AXc h h1' h2 h3 h4]at h0
  exact⟨fun a=>by have:=h1' a;omega,by omega,by omega,h3.1,h3.2,h4,h0⟩
def fitsG (g:GG):Prop:=g.nodes.length≤2000∧g.edges.length≤4000
def AW9 (g:GG):Prop:=1≤g.AeT∧g.AeT≤1000001∧1≤g.Afg∧g.Afg≤1000001
instance (g:GG):Decidable (fitsG g):=by unfold fitsG;infer_instance
instance (g:GG):Decidable (AW9 g):=by unfold AW9;infer_instance
noncomputable def JA (g:GG):Int:=
  if¬fitsG g then 4 else if¬AW9 g then 1 else
    if firstE (AAk g.nodes g.AeT) g.nodes.length=0 then firstE (AXb g.nodes g.edges g.Afg) g.edges.length else firstE (AAk g.nodes g.AeT) g.nodes.length
theorem check4 {g:GG} (h:¬fitsG g):AV.int .i64 4=AV.int .i64 (JA g):=by unfold JA;rw[if_pos h]
theorem check1 {g:GG} (h:fitsG g) (h1:¬AW9 g):AV.int .i64 1=AV.int .i64 (JA g):=by unfold JA;rw[if_neg (not_not_intro h),if_pos h1]
theorem checkN {g:GG} (h:fitsG g) (h1:AW9 g) {i:Nat} (hi:i<g.nodes.length) (h2:∀k,k<i→AAk g.nodes g.AeT k=0) {r:Int} (h3:AAk g.nodes g.AeT i=r) (hr:r≠0):AV.int .i64 r=AV.int .i64 (JA g):=by
  subst h3
  unfold JA
  rw[if_neg (not_not_intro h),if_neg (not_not_intro h1),firstE_at h2 hr hi,if_neg hr]
theorem checkEd {g:GG} (h:fitsG g) (h1:AW9 g) (hn:∀k,k<g.nodes.length→AAk g.nodes g.AeT k=0) {i:Nat} (hi:i<g.edges.length) (h2:∀k,k<i→AXb g.nodes g.edges g.Afg k=0) {r:Int} (h3:AXb g.nodes g.edges g.Afg i=r) (hr:r≠0):AV.int .i64 r=AV.int .i64 (JA g):=by
  subst h3
  unfold JA
  rw[if_neg (not_not_intro h),if_neg (not_not_intro h1),if_pos (firstE_zero.2 hn),firstE_at h2 hr hi]
theorem AWj {g:GG} (h:fitsG g) (h1:AW9 g) (hn:∀k,k<g.nodes.length→AAk g.nodes g.AeT k=0) (h2:∀k,k<g.edges.length→AXb g.nodes g.edges g.Afg k=0):AV.int .i64 0=AV.int .i64 (JA g):=by
  unfold JA
  rw[if_neg (not_not_intro h),if_neg (not_not_intro h1),if_pos (firstE_zero.2 hn),firstE_zero.2 h2]
theorem incr_nodes {N:List GN} {nx:Int} (h:∀k,k<N.length→AAk N nx k=0):incr (nids N):=by
  intro j hj
  have hj':j+1<N.length:=by simpa using hj
  rw[nids_at (by omega),nids_at hj']
  exact(Ayi hj' (h _ hj')).1 (by omega)
theorem incr_edges {N:List GN} {E:List GE} {nx:Int} (h:∀k,k<E.length→AXb N E nx k=0):incr (eids E):=by
  intro j hj
  have hj':j+1<E.length:=by simpa using hj
  rw[eids_at (by omega),eids_at hj']
  exact(AuL hj' (h _ hj')).1 (by omega)
theorem AhM {g:GG} (h:JA g=0):fitsG g∧AW9 g∧(∀ k,k<g.nodes.length→AAk g.nodes g.AeT k=0)∧∀k,k<g.edges.length→AXb g.nodes g.edges g.Afg k=0:=by
  unfold JA at h
  by_cases h1:fitsG g
  case neg=>rw[if_pos h1]at h;omega
  by_cases h2:AW9 g
  case neg=>rw[if_neg (not_not_intro h1),if_pos h2]at h;omega
  rw[if_neg (not_not_intro h1),if_neg (not_not_intro h2)]at h
  split at h
  · rename_i h3
    exact⟨h1,h2,firstE_zero.1 h3,firstE_zero.1 h⟩
  · rename_i h3;exact absurd h h3
attribute [irreducible] AAk AXb JA firstE
theorem all_lt_succ {f:Nat→Int} {i:Nat} (h:∀k,k<i→f k=0) (hi:f i=0):∀k,k<i+1→f k=0:=by
  intro k hk
  rcases Nat.lt_or_ge k i with h1|h1
  · exact h k h1
  · obtain rfl:k=i:=by omega
    exact hi
theorem partsN {n:GN} (h:n.ok):D8 (Dx tab) 71 [.sl n.ln (vs .str n.labels),.sl n.pn (vs GP.av n.props)] (· =.int .i64 (Ap6 n.labels n.props)):=
  AVQ h.2.1 h.2.2.2.1 h.2.2.2.2.1 h.2.2.2.2.2.2
theorem partsEd {n:GE} (h:n.ok):D8 (Dx tab) 71 [.sl false [],.sl n.pn (vs GP.av n.props)] (· =.int .i64 (Ap6 [] n.props)):=
  AVQ (L:=[]) (by decide) (by simp) h.2.2.2.2.1 h.2.2.2.2.2.2
theorem nodesL {g:GG} (hg:g.ok) (hf:fitsG g) (hnx:AW9 g) {c:Nat} {Q:Je→Env→Sto→Prop}
    (hret:∀r s,AV.int .i64 r=AV.int .i64 (JA g)→Q .ret [(2,.int .i64 r)] s)
    (hend:(∀ k,k<g.nodes.length→AAk g.nodes g.AeT k=0)→∀c i,Q (.exit 0) [(1,.ref 0 0 0 0),(38,.sl g.nn (vs GN.av g.nodes)),(39,.int .i64 g.nodes.length),(40,.int .i64 i),(41,.bool false)] ⟨[.arr 0 4 true true [g.av]],c⟩):
    Run (Dx tab) (.loop l36_0_h l36_0_b) [(1,.ref 0 0 0 0),(38,.sl g.nn (vs GN.av g.nodes)),(39,.int .i64 g.nodes.length),(40,.int .i64 0)] ⟨[.arr 0 4 true true [g.av]],c⟩ Q:=by
  obtain⟨g1,g2,g3,g4,g5,g6,g7,g8⟩:=hg
  unfold Ln at g1 g4
  have hf':g.nodes.length≤2000:=hf.1
  refine DK (fun m env s=>∃i:Nat,m=g.nodes.length-i∧env=[(1,.ref 0 0 0 0),(38,.sl g.nn (vs GN.av g.nodes)),(39,.int .i64 g.nodes.length),(40,.int .i64 i)]∧(∃ c,s=⟨[.arr 0 4 true true [g.av]],c⟩)∧∀k,k<i→AAk g.nodes g.AeT k=0) ?_ _ _ _ ⟨0,rfl,by simp,⟨_,rfl⟩,fun k h=>absurd h (by omega)⟩
  rintro _ _ _ ⟨i,rfl,rfl,⟨c,rfl⟩,hx⟩
  refine⟨rfl,?_⟩
  have hat:∀h:i<g.nodes.length,(g.nodes[i]).ok:=fun h=>g3 _ (List.getElem_mem _)
  (conv=>whnf);repeat' (first|(apply LX;(· exact nVz (i-1) (by omega) (by omega));conv=>whnf)|(refine BM (partsN (n:=g.nodes[i]) (hat (by omega))) ?_;rintro _ rfl;conv=>whnf)|(refine hret _ _ ?_)|(refine hend (fun k hk=>hx k (by omega)) _ _)|((with_reducible first|apply kN|apply kW|apply kX|apply kG|apply kQ);(· exact sd);conv=>whnf)|(refine DW.mk ?_ ?_<;>intro hc<;>(try rw[List.length_nil]at hc)<;>first|(exfalso;omega)|(exact absurd rfl hc)|conv=>whnf)|(refine CB ?_ ?_<;>intro hc<;>conv=>whnf))
  all_goals first
    |exact again.mk ⟨_,by omega,i+1,rfl,rfl,⟨_,rfl⟩,all_lt_succ hx ((AXa (by omega) (fun h=>by first|assumption|omega) (by omega)).trans hc)⟩
    |exact checkN hf hnx (by omega) hx (node26 (by omega) (by omega) (by assumption)) (by decide)
    |exact checkN hf hnx (by omega) hx (node1 (by omega) (fun h=>by first|assumption|omega) (by omega)) (by decide)
    |exact checkN hf hnx (by omega) hx (AXa (by omega) (fun h=>by first|assumption|omega) (by omega)) hc
set_option maxHeartbeats 1000000 in
theorem edgesL {g:GG} (hg:g.ok) (hf:fitsG g) (hnx:AW9 g) (hN:∀k,k<g.nodes.length→AAk g.nodes g.AeT k=0) {c:Nat} {Q:Je→Env→Sto→Prop}
    (hret:∀r s,AV.int .i64 r=AV.int .i64 (JA g)→Q .ret [(2,.int .i64 r)] s)
    (hend:(∀ k,k<g.edges.length→AXb g.nodes g.edges g.Afg k=0)→∀c i,Q (.exit 2) [(1,.ref 0 0 0 0),(79,.sl g.en (vs GE.av g.edges)),(80,.int .i64 g.edges.length),(81,.int .i64 i),(82,.bool false)] ⟨[.arr 0 4 true true [g.av]],c⟩):
    Run (Dx tab) (.loop l36_1_h l36_1_b) [(1,.ref 0 0 0 0),(79,.sl g.en (vs GE.av g.edges)),(80,.int .i64 g.edges.length),(81,.int .i64 0)] ⟨[.arr 0 4 true true [g.av]],c⟩ Q:=by
  obtain⟨g1,g2,g3,g4,g5,g6,g7,g8⟩:=hg
  unfold Ln at g1 g4
  have hf':g.edges.length≤4000:=hf.2
  have hI:=incr_nodes hN
  have hl:g.nodes.length<2^62:=by have:=hf.1;omega
  refine DK (fun m env s=>∃i:Nat,m=g.edges.length-i∧env=[(1,.ref 0 0 0 0),(79,.sl g.en (vs GE.av g.edges)),(80,.int .i64 g.edges.length),(81,.int .i64 i)]∧(∃ c,s=⟨[.arr 0 4 true true [g.av]],c⟩)∧∀k,k<i→AXb g.nodes g.edges g.Afg k=0) ?_ _ _ _ ⟨0,rfl,by simp,⟨_,rfl⟩,fun k h=>absurd h (by omega)⟩
  rintro _ _ _ ⟨i,rfl,rfl,⟨c,rfl⟩,hx⟩
  refine⟨rfl,?_⟩
  have hat:∀h:i<g.edges.length,(g.edges[i]).ok:=fun h=>g6 _ (List.getElem_mem _)
  (conv=>whnf);repeat' (first|(apply LX;(· exact nVz (i-1) (by omega) (by omega));conv=>whnf)|(refine KH (hasP hl hI) (fun hc=>?_) (fun hc=>?_)<;>conv=>whnf)|(refine KH (name1 (s:=(g.edges[i]).ty) (hat (by omega)).2.2.2.1) (fun hnm=>?_) (fun hnm=>?_)<;>conv=>whnf)|(refine BM (partsEd (n:=g.edges[i]) (hat (by omega))) ?_;rintro _ rfl;conv=>whnf)|(refine hret _ _ ?_)|(refine hend (fun k hk=>hx k (by omega)) _ _)|((with_reducible first|apply kN|apply kW|apply kX|apply kG|apply kQ);(· exact sd);conv=>whnf)|(refine DW.mk ?_ ?_<;>intro hc<;>(try rw[List.length_nil]at hc)<;>first|(exfalso;omega)|(exact absurd rfl hc)|conv=>whnf)|(refine CB ?_ ?_<;>intro hc<;>conv=>whnf))
  all_goals first
    |exact again.mk ⟨_,by omega,i+1,rfl,rfl,⟨_,rfl⟩,all_lt_succ hx ((AXc (by omega) (fun h=>by first|assumption|omega) (by omega) ⟨by assumption,by assumption⟩ hnm).trans hc)⟩
    |exact checkEd hf hnx hN (by omega) hx (edge26 (by omega) (by omega) (by assumption)) (by decide)
    |exact checkEd hf hnx hN (by omega) hx (edge1 (by omega) (fun h=>by first|assumption|omega) (by omega)) (by decide)
    |exact checkEd hf hnx hN (by omega) hx (edge10 (by omega) (fun h=>by first|assumption|omega) (by omega) (fun h=>by first|exact absurd h.1 (by assumption)|exact absurd h.2 (by assumption))) (by decide)
    |exact checkEd hf hnx hN (by omega) hx (edge6 (by omega) (fun h=>by first|assumption|omega) (by omega) ⟨by assumption,by assumption⟩ hnm) (by decide)
    |exact checkEd hf hnx hN (by omega) hx (AXc (by omega) (fun h=>by first|assumption|omega) (by omega) ⟨by assumption,by assumption⟩ hnm) hc
theorem AkV {g:GG} (hg:g.ok):D8 (Dx tab) 36 [g.av] (· =.int .i64 (JA g)):=by
  have hg0:=hg
  obtain⟨g1,g2,g3,g4,g5,g6,g7,g8⟩:=hg
  unfold Ln at g1 g4
  refine Lu rfl rfl ?_
  (conv=>whnf);repeat' (first|((with_reducible first|apply kN|apply kW|apply kX|apply kG|apply kQ);(· exact sd);conv=>whnf)|(refine DW.mk ?_ ?_<;>intro hc<;>(try rw[List.length_nil]at hc)<;>first|(exfalso;omega)|(exact absurd rfl hc)|conv=>whnf)  |(refine CB ?_ ?_<;>intro hc<;>conv=>whnf))
  all_goals first|exact check4 (by unfold fitsG;omega)|exact check1 (by unfold fitsG;omega) (by unfold AW9;omega)|skip
  have hf:fitsG g:=by unfold fitsG;omega
  have hnx:AW9 g:=by unfold AW9;omega
  refine nodesL hg0 hf hnx (fun r s h=>by(conv=>whnf);(apply Ez;(· rfl);conv=>whnf);(apply Ez;(· rfl);conv=>whnf);exact h) (fun hN c i=>?_)
  (conv=>whnf);repeat' (first|((with_reducible first|apply kN|apply kW|apply kX|apply kG|apply kQ);(· exact sd);conv=>whnf)|(refine DW.mk ?_ ?_<;>intro hc<;>(try rw[List.length_nil]at hc)<;>first|(exfalso;omega)|(exact absurd rfl hc)|conv=>whnf)  |(refine CB ?_ ?_<;>intro hc<;>conv=>whnf))
  refine edgesL hg0 hf hnx hN (fun r s h=>by(conv=>whnf);(apply Ez;(· rfl);conv=>whnf);(apply Ez;(· rfl);conv=>whnf);exact h) (fun hE c i=>?_)
  (conv=>whnf);repeat' (first|((with_reducible first|apply kN|apply kW|apply kX|apply kG|apply kQ);(· exact sd);conv=>whnf)|(refine DW.mk ?_ ?_<;>intro hc<;>(try rw[List.length_nil]at hc)<;>first|(exfalso;omega)|(exact absurd rfl hc)|conv=>whnf)  |(refine CB ?_ ?_<;>intro hc<;>conv=>whnf))
  exact AWj hf hnx hN hE
noncomputable def chk (g:GG):GG:=if JA g=0 then g else⟨false,[],false,[],0,0⟩
theorem AhI {g:GG} (hg:g.ok):D8 (Dx tab) 64 [g.av] (· =(chk g).av):=by
  have h:=AkV hg
  by_cases h0:JA g=0
  · have e:chk g=g:=if_pos h0
    rw[e]
    rw[h0]at h
    refine Lu rfl rfl ?_
    (conv=>whnf);repeat' (first|(refine BM h ?_;rintro _ rfl;conv=>whnf)|((with_reducible first|apply kN|apply kW|apply kX|apply kG|apply kQ);(· exact sd);conv=>whnf)|(refine DW.mk ?_ ?_<;>intro hc<;>(try rw[List.length_nil]at hc)<;>first|(exfalso;omega)|(exact absurd rfl hc)|conv=>whnf)|(refine CB ?_ ?_<;>intro hc<;>conv=>whnf))
    all_goals first | rfl | (exfalso; omega) | (trace_state; fail "checked1")
  · have e:chk g=⟨false,[],false,[],0,0⟩:=if_neg h0
    rw[e]
    refine Lu rfl rfl ?_
    (conv=>whnf);repeat' (first|(refine BM h ?_;rintro _ rfl;conv=>whnf)|((with_reducible first|apply kN|apply kW|apply kX|apply kG|apply kQ);(· exact sd);conv=>whnf)|(refine DW.mk ?_ ?_<;>intro hc<;>(try rw[List.length_nil]at hc)<;>first|(exfalso;omega)|(exact absurd rfl hc)|conv=>whnf)|(refine CB ?_ ?_<;>intro hc<;>conv=>whnf))
    all_goals first | rfl | (exfalso; omega) | (trace_state; fail "checked2")
theorem ABa {z:Int} {K:AV→Prop} (h:∀y,K (.int .i64 y)):ARy .i64 z K:=ZH rfl (h _)
theorem Axs {g:GG} (hg:g.ok):D8 (Dx tab) 25 [g.av] (fun v=>∃b,v=.bool b∧(b=true→g.nodes.length≤40∧g.edges.length≤80)):=by
  have hl:g.nodes.length<2^63:=hg.1
  have hl2:g.edges.length<2^63:=hg.2.2.2.1
  refine Lu rfl rfl ?_
  (conv=>whnf);repeat' (first  |((with_reducible first|apply kN|apply kW|apply kX|apply kG|apply kQ);(· exact sd);conv=>whnf)|(refine DW.mk ?_ ?_<;>intro hc<;>(try rw[List.length_nil]at hc)<;>first|(exfalso;omega)|(exact absurd rfl hc)|conv=>whnf)|(refine CB ?_ ?_<;>intro hc<;>conv=>whnf))
  refine DK (fun m env s=>∃(i c:Nat) (z:Int),m=g.nodes.length-i∧env=[(1,.ref 0 0 0 0),(3,.int .i64 z),(4,.int .i64 i)]∧s=⟨[.arr 0 4 true true [g.av]],c⟩) ?_ _ _ _ ⟨0,_,_,rfl,rfl,rfl⟩
  rintro _ _ _ ⟨i,c,z,rfl,rfl,rfl⟩
  refine⟨rfl,?_⟩
  by_cases hlt:i<g.nodes.length
  · (conv=>whnf);repeat' (first|(first|refine ZH (wrap_i64 (by omega) (by omega)) ?_|refine ABa (fun y=>?_);conv=>whnf)|((with_reducible first|apply kN|apply kW|apply kX|apply kG|apply kQ);(· exact sd);conv=>whnf)|(refine DW.mk ?_ ?_<;>intro hc<;>(try rw[List.length_nil]at hc)<;>first|(exfalso;omega)|(exact absurd rfl hc)|conv=>whnf)|(refine CB ?_ ?_<;>intro hc<;>conv=>whnf))
    all_goals first
      |exact again.mk ⟨_,by omega,i+1,_,_,rfl,rfl,rfl⟩
      | (trace_state; fail "small1")
  · (conv=>whnf);repeat' (first  |((with_reducible first|apply kN|apply kW|apply kX|apply kG|apply kQ);(· exact sd);conv=>whnf)|(refine DW.mk ?_ ?_<;>intro hc<;>(try rw[List.length_nil]at hc)<;>first|(exfalso;omega)|(exact absurd rfl hc)|conv=>whnf)|(refine CB ?_ ?_<;>intro hc<;>conv=>whnf))
    all_goals first
      |exact⟨_,rfl,fun h=>⟨by omega,by omega⟩⟩
      |exact⟨_,rfl,fun h=>Bool.noConfusion h⟩
      | (trace_state; fail "small2")
section
open Go.Sort
def mkT (lb:List UInt8) (id:Int) (p:GP):GT:=⟨lb,p.key,p.v,id⟩
def AcM (n:GN) (lb:List UInt8):List GT:=n.props.map (mkT lb n.id)
def Alj (n:GN):List GT:=n.labels.flatMap (AcM n)
def ents (N:List GN):List GT:=N.flatMap Alj
theorem AaJ {α β:Type} {f:α→List β} {l:List α} {i:Nat} (h:i<l.length):(l.take (i+1)).flatMap f=(l.take i).flatMap f++f l[i]:=by
  rw[List.take_succ_eq_append_getElem h,List.flatMap_append];simp
theorem AmA {α β:Type} {f:α→β} {l:List α} {i:Nat} (h:i<l.length):(l.take (i+1)).map f=(l.take i).map f++[f l[i]]:=by
  rw[List.take_succ_eq_append_getElem h,List.map_append];rfl
def Afr (n:GN):Prop:=n.labels.length≤8∧n.props.length≤16∧∀p∈n.props,AjD p.v
theorem Apf {g:GG} (h:JA g=0):∀n∈g.nodes,Afr n:=by
  intro n hn
  obtain⟨_,_,h1,_⟩:=AhM h
  obtain⟨k,hk,rfl⟩:=List.getElem_of_mem hn
  have h2:=h1 k hk
  unfold AAk at h2
  rw[List.getElem?_eq_getElem hk]at h2
  dsimp only at h2
  split at h2
  · omega
  · split at h2
    · omega
    · unfold Ap6 at h2
      split at h2
      · omega
      · rename_i h3
        split at h2
        · omega
        · split at h2
          · omega
          · split at h2
            · omega
            · rename_i h4
              refine⟨by omega,by omega,fun p hp=>?_⟩
              have h5:=Decidable.not_not.1 h4
              have h6:=h5 p hp
              exact h6
theorem AcG {g:GG}:∀n∈(chk g).nodes,Afr n:=by
  intro n hn
  unfold chk at hn
  split at hn
  · rename_i h;exact Apf h n hn
  · simp at hn
theorem AuP {g:GG} (hg:g.ok):(chk g).ok:=by
  unfold chk
  split
  · exact hg
  · exact⟨by simp[Ln],fun _=>rfl,by simp,by simp[Ln],fun _=>rfl,by simp,by unfold I64;dsimp only;omega,by unfold I64;dsimp only;omega⟩
theorem YK {n:GN} (h:Afr n):∀j,((n.labels.take j).flatMap (AcM n)).length≤j*16
  |0=>by simp
  | j +1=>by
    by_cases hj:j<n.labels.length
    · rw[AaJ hj,List.length_append]
      have:=YK h j
      have h2:=h.2.1
      simp only[AcM,List.length_map]
      omega
    · rw[List.take_of_length_le (by omega),←List.take_of_length_le (l:=n.labels) (i:=j) (by omega)]
      have:=YK h j
      omega
theorem Ani {n:GN} (h:Afr n):(Alj n).length≤128:=by
  have:=YK h n.labels.length
  rw[List.take_length]at this
  have h1:=h.1
  unfold Alj
  omega
theorem Sl {N:List GN} (h:∀n∈N,Afr n):∀i,(ents (N.take i)).length≤i*128
  |0=>by simp[ents]
  | i +1=>by
    by_cases hi:i<N.length
    · have:=Sl h i
      have h2:=Ani (h _ (List.getElem_mem hi))
      unfold ents at*
      rw[AaJ hi,List.length_append]
      omega
    · rw[List.take_of_length_le (by omega),←List.take_of_length_le (l:=N) (i:=i) (by omega)]
      have:=Sl h i
      omega
theorem Anj {A:List GT} (h:∀e∈A,e.ok∧AjD e.v):∃L:List GX,L.map GX.e=A:=by
  induction A with
  |nil=>exact⟨[],rfl⟩
  | cons a A ih=>
    obtain⟨L,rfl⟩:=ih fun e he=>h e (List.mem_cons_of_mem _ he)
    exact⟨⟨a,h a (List.mem_cons_self ..)⟩::L,rfl⟩
theorem Aph {L:List GX}:vs GX.av L=vs GT.av (L.map GX.e):=by
  unfold vs
  rw[List.map_map]
  rfl
theorem AhN {N:List GN} {e:GT}:e∈ents N↔∃n∈N,∃lb∈n.labels,∃p∈n.props,e=mkT lb n.id p:=by
  unfold ents Alj AcM
  simp only[List.mem_flatMap,List.mem_map]
  constructor
  · rintro⟨n,hn,lb,hlb,p,hp,rfl⟩;exact⟨n,hn,lb,hlb,p,hp,rfl⟩
  · rintro⟨n,hn,lb,hlb,p,hp,rfl⟩;exact⟨n,hn,lb,hlb,p,hp,rfl⟩
theorem AuQ {N:List GN} (hN:∀n∈N,n.ok) (ht:∀n∈N,Afr n):∀e∈ents N,e.ok∧AjD e.v:=by
  intro e he
  obtain⟨n,hn,lb,hlb,p,hp,rfl⟩:=AhN.1 he
  obtain⟨n1,n2,n3,n4,n5,n6,n7⟩:=hN n hn
  exact⟨⟨n4 lb hlb,(n7 p hp).1,(n7 p hp).2,n1⟩,(ht n hn).2.2 p hp⟩
def At8 (M:List GT) (v:AV):Prop:=∃b W,v=.sl b (vs GX.av W)∧(W.map GX.e).Perm M∧W.Pairwise (fun x y=>ltT y x=false)
set_option maxHeartbeats 4000000 in
theorem AuG {g:GG} (hg:g.ok) (hN:(chk g).nodes.length≤2000):D8 (Dx tab) 30 [g.av] (At8 (ents (chk g).nodes)):=by
  obtain⟨L,hL⟩:=Anj (AuQ (AuP hg).2.2.1 AcG)
  have hc:=AhI hg
  have ht:=AcG (g:=g)
  generalize chk g=h at*
  obtain⟨hn,N,hen,E,z1,z2⟩:=h
  dsimp only at hN hL ht ⊢
  refine Lu rfl rfl ?_
  (conv=>whnf);repeat' (first|(refine BM hc ?_;rintro _ rfl;conv=>whnf)|((with_reducible first|apply kN|apply kW|apply kX|apply kG|apply kQ);(· exact sd);conv=>whnf)|(refine DW.mk ?_ ?_<;>intro hc<;>(try rw[List.length_nil]at hc)<;>first|(exfalso;omega)|(exact absurd rfl hc)|conv=>whnf)|(refine CB ?_ ?_<;>intro hc<;>conv=>whnf))
  refine DK (fun z env s=>∃(i c ga n:Nat) (fa:Bool) (A:List GT),z=N.length-i∧i≤N.length∧A=ents (N.take i)∧n=A.length∧env=[(3,.own 1 ga 0 n),(12,.sl hn (vs GN.av N)),(13,.int .i64 N.length),(14,.int .i64 i)]∧s=⟨[.arr 0 4 true true [g.av],.arr ga 8 fa true (vs GT.av A)],c⟩) ?_ _ _ _ ⟨0,_,_,_,_,[],rfl,by omega,rfl,rfl,by first|rfl|(rw [← lV (f:=GN.av) N];rfl),rfl⟩
  rintro _ _ _ ⟨i,c,ga,n,fa,A,rfl,hi,hA,hnA,rfl,rfl⟩
  refine⟨rfl,?_⟩
  by_cases hlt:i<N.length
  · have htn:=ht N[i] (List.getElem_mem hlt)
    have hs:ents (N.take (i+1))=ents (N.take i)++Alj N[i]:=AaJ hlt
    have hb:=Sl ht i
    have hll:=htn.1
    have hpl:=htn.2.1
    rw[← hA]at hs hb
    clear hL
    (conv=>whnf);repeat' (first  |((with_reducible first|apply kN|apply kW|apply kX|apply kG|apply kQ);(· exact sd);conv=>whnf)|(refine DW.mk ?_ ?_<;>intro hc<;>(try rw[List.length_nil]at hc)<;>first|(exfalso;omega)|(exact absurd rfl hc)|conv=>whnf)|(refine CB ?_ ?_<;>intro hc<;>conv=>whnf))
    refine DK (fun z env s=>∃(j c2 ga n:Nat) (fa:Bool) (B:List GT),z=N[i].labels.length-j∧j≤N[i].labels.length∧B=A++(N[i].labels.take j).flatMap (AcM N[i])∧n=B.length∧env=[(3,.own 1 ga 0 n),(5,.ref 2 c 0 0),(12,.sl hn (vs GN.av N)),(13,.int .i64 N.length),(14,.int .i64 i),(19,.sl N[i].ln (vs .str N[i].labels)),(20,.int .i64 N[i].labels.length),(21,.int .i64 j)]∧s=⟨[.arr 0 4 true true [g.av],.arr ga 8 fa true (vs GT.av B),.arr c 3 true true [N[i].av]],c2⟩) ?_ _ _ _ ⟨0,_,_,_,_,A,rfl,by omega,by simp,hnA,by first|rfl|(rw [← lV (f:=AV.str) N[i].labels];rfl),rfl⟩
    rintro _ _ _ ⟨j,c2,gb,n2,fb,B,rfl,hj,hB,hn2,rfl,rfl⟩
    refine⟨rfl,?_⟩
    clear hnA
    by_cases hjl:j<N[i].labels.length
    · have hs2:=AaJ (f:=AcM N[i]) hjl
      have hb2:=YK htn j
      have hBl:B.length≤i*128+j*16:=by rw[hB,List.length_append];omega
      have hB2:B++AcM N[i] N[i].labels[j]=A++(N[i].labels.take (j+1)).flatMap (AcM N[i]):=by rw[hs2,hB,List.append_assoc]
      clear hs2 hb2
      (conv=>whnf);repeat' (first  |((with_reducible first|apply kN|apply kW|apply kX|apply kG|apply kQ);(· exact sd);conv=>whnf)|(refine DW.mk ?_ ?_<;>intro hc<;>(try rw[List.length_nil]at hc)<;>first|(exfalso;omega)|(exact absurd rfl hc)|conv=>whnf)|(refine CB ?_ ?_<;>intro hc<;>conv=>whnf))
      refine DK (fun z env s=>∃(k c3 ga n:Nat) (fa:Bool) (D:List GT),z=N[i].props.length-k∧k≤N[i].props.length∧D=B++(N[i].props.take k).map (mkT N[i].labels[j] N[i].id)∧n=D.length∧D.length=B.length+k∧env=[(3,.own 1 ga 0 n),(5,.ref 2 c 0 0),(7,.str N[i].labels[j]),(12,.sl hn (vs GN.av N)),(13,.int .i64 N.length),(14,.int .i64 i),(19,.sl N[i].ln (vs .str N[i].labels)),(20,.int .i64 N[i].labels.length),(21,.int .i64 j),(26,.sl N[i].pn (vs GP.av N[i].props)),(27,.int .i64 N[i].props.length),(28,.int .i64 k)]∧s=⟨[.arr 0 4 true true [g.av],.arr ga 8 fa true (vs GT.av D),.arr c 3 true true [N[i].av]],c3⟩) ?_ _ _ _ ⟨0,_,_,_,_,B,rfl,by omega,by simp,hn2,rfl,by first|rfl|(rw [← lV (f:=GP.av) N[i].props];rfl),rfl⟩
      rintro _ _ _ ⟨k,c3,gc,n3,fc,D,rfl,hk,hD,hn3,hDl,rfl,rfl⟩
      refine⟨rfl,?_⟩
      clear hn2
      by_cases hkl:k<N[i].props.length
      · have hs3:=AmA (f:=mkT N[i].labels[j] N[i].id) hkl
        have hD2:D++[mkT N[i].labels[j] N[i].id N[i].props[k]]=B++(N[i].props.take (k+1)).map (mkT N[i].labels[j] N[i].id):=by rw[hs3,hD,List.append_assoc]
        clear hs3
        (conv=>whnf);repeat' (first|(refine KI (f:=GT.av) (l:=D) (x:=mkT N[i].labels[j] N[i].id N[i].props[k]) Ayb hn3 (by omega) ?_;conv=>whnf)|((with_reducible first|apply kN|apply kW|apply kX|apply kG|apply kQ);(· exact sd);conv=>whnf)|(refine DW.mk ?_ ?_<;>intro hc<;>(try rw[List.length_nil]at hc)<;>first|(exfalso;omega)|(exact absurd rfl hc)|conv=>whnf)|(refine CB ?_ ?_<;>intro hc<;>conv=>whnf))
        all_goals first
          |exact again.mk ⟨_,by omega,k+1,_,_,_,_,D++[mkT N[i].labels[j] N[i].id N[i].props[k]],rfl,by omega,hD2,by simp,by simp;omega,rfl,rfl⟩
          |(exfalso;omega)
          | (trace_state; fail "build3")
      · have hwh:(N[i].props.take k).map (mkT N[i].labels[j] N[i].id)=AcM N[i] N[i].labels[j]:=by rw[List.take_of_length_le (by omega)];rfl
        rw[hwh]at hD
        rw[← hD]at hB2
        (conv=>whnf);repeat' (first  |((with_reducible first|apply kN|apply kW|apply kX|apply kG|apply kQ);(· exact sd);conv=>whnf)|(refine DW.mk ?_ ?_<;>intro hc<;>(try rw[List.length_nil]at hc)<;>first|(exfalso;omega)|(exact absurd rfl hc)|conv=>whnf)|(refine CB ?_ ?_<;>intro hc<;>conv=>whnf))
        all_goals first
          |exact again.mk ⟨_,by omega,j+1,_,_,_,_,D,rfl,by omega,hB2,hn3,rfl,rfl⟩
          |(exfalso;omega)
          | (trace_state; fail "build2")
    · have hwh:(N[i].labels.take j).flatMap (AcM N[i])=Alj N[i]:=by rw[List.take_of_length_le (by omega)];rfl
      rw[hwh,←hs]at hB
      (conv=>whnf);repeat' (first  |((with_reducible first|apply kN|apply kW|apply kX|apply kG|apply kQ);(· exact sd);conv=>whnf)|(refine DW.mk ?_ ?_<;>intro hc<;>(try rw[List.length_nil]at hc)<;>first|(exfalso;omega)|(exact absurd rfl hc)|conv=>whnf)|(refine CB ?_ ?_<;>intro hc<;>conv=>whnf))
      all_goals first
        |exact again.mk ⟨_,by omega,i+1,_,_,_,_,B,rfl,by omega,hB,hn2,rfl,rfl⟩
        |(exfalso;omega)
        | (trace_state; fail "build1")
  · rw[List.take_of_length_le (by omega)]at hA
    have e:vs GT.av A=vs GX.av L:=by rw[Aph,hL,hA]
    have hlen:A.length=L.length:=by rw[hA,←hL,List.length_map]
    have hb:=Sl ht N.length
    rw[List.take_length,←hA]at hb
    rw[e]
    (conv=>whnf);repeat' (first  |((with_reducible first|apply kN|apply kW|apply kX|apply kG|apply kQ);(· exact sd);conv=>whnf)|(refine DW.mk ?_ ?_<;>intro hc<;>(try rw[List.length_nil]at hc)<;>first|(exfalso;omega)|(exact absurd rfl hc)|conv=>whnf)|(refine CB ?_ ?_<;>intro hc<;>conv=>whnf))
    refine(AVF (L:=L) (by omega) (by omega)).mono ?_
    rintro _ _ ⟨c1,W,rfl,rfl,p1,p2⟩
    have hw:=p1.length_eq
    conv=>whnf
    apply Ez rfl
    (conv=>whnf);repeat' (first  |((with_reducible first|apply kN|apply kW|apply kX|apply kG|apply kQ);(· exact sd);conv=>whnf)|(refine DW.mk ?_ ?_<;>intro hc<;>(try rw[List.length_nil]at hc)<;>first|(exfalso;omega)|(exact absurd rfl hc)|conv=>whnf)|(refine CB ?_ ?_<;>intro hc<;>conv=>whnf))
    refine⟨fa,W,?_,by rw[← hL];exact p1.map _,p2⟩
    rw[show n=W.length by omega,QD];simp
end
end AI
end Go.Proofs.YtnbibfalljlmfaaGreatDoor
