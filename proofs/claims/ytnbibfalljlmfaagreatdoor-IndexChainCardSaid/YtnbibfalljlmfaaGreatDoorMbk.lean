/- What a change makes of a graph; an editor's functions make just that. A step keeps what an editor asks. Walks through a function that defers a recovering closure. A step of an editor. Cloned lists as a caller's own. -/
import Derived.Test.YtnbibfalljlmfaaGreatDoorMbh
import Derived.Test.YtnbibfalljlmfaaGreatDoorMbi
import Derived.Test.YtnbibfalljlmfaaGreatDoorMbj
import Derived.Test.YtnbibfalljlmfaaGreatDoorVa
set_option linter.unusedVariables false
set_option maxRecDepth 4000
namespace Go.Proofs.YtnbibfalljlmfaaGreatDoor
namespace AI
def AhO (g:GG) (c:GC):Int×GG:=
  if c.op=1 then
    if∃n∈g.nodes,n.id=c.id then(7,g)else if g.nodes.length<2000 then(0,{g with nn:=true,nodes:=Tc ltI GN.id ⟨c.id,false,[],false,[]⟩ g.nodes,AeT:=if c.id+1>g.AeT then c.id+1 else g.AeT})else(20,g)
  else match g.nodes.find? (fun n=>decide (n.id=c.id))with
    |none=>(10,g)
    | some n=>
      if c.op=2 then if∃e∈g.edges,e.fr=c.id∨e.to=c.id then(12,g)else(0,{g with nodes:=AhH ltI GN.id c.id g.nodes})
      else if c.op=3 then if c.name∈n.labels then(7,g)else if n.labels.length<8 then(0,{g with nodes:=Tc ltI GN.id {n with ln:=true,labels:=Tc Op.bytesLess id c.name n.labels} g.nodes})else(20,g)
      else if c.op=4 then if c.name∈n.labels then(0,{g with nodes:=Tc ltI GN.id {n with ln:=true,labels:=AhH Op.bytesLess id c.name n.labels} g.nodes})else(23,g)
      else if isNull c.v then(0,{g with nodes:=Tc ltI GN.id {n with props:=AhH Op.bytesLess GP.key c.name n.props} g.nodes})
      else if(∃ p∈n.props,GP.key p=c.name)∨n.props.length<16 then(0,{g with nodes:=Tc ltI GN.id {n with pn:=true,props:=Tc Op.bytesLess GP.key ⟨c.name,c.v⟩ n.props} g.nodes})else(20,g)
def AmZ (g:GG) (c:GC):Int×GG:=
  if c.op=6 then
    if∃n∈g.edges,n.id=c.id then(7,g)else if(∃ n∈g.nodes,n.id=c.fr)∧(∃ n∈g.nodes,n.id=c.to)then
      if g.edges.length<4000 then(0,{g with en:=true,edges:=Tc ltI GE.id ⟨c.id,c.fr,c.to,c.name,false,[]⟩ g.edges,Afg:=if c.id+1>g.Afg then c.id+1 else g.Afg})else(20,g)
    else(10,g)
  else match g.edges.find? (fun n=>decide (n.id=c.id))with
    |none=>(11,g)
    | some n=>
      if c.op=7 then(0,{g with edges:=AhH ltI GE.id c.id g.edges})
      else if isNull c.v then(0,{g with edges:=Tc ltI GE.id {n with props:=AhH Op.bytesLess GP.key c.name n.props} g.edges})
      else if(∃ p∈n.props,GP.key p=c.name)∨n.props.length<16 then(0,{g with edges:=Tc ltI GE.id {n with pn:=true,props:=Tc Op.bytesLess GP.key ⟨c.name,c.v⟩ n.props} g.edges})else(20,g)
def stepG (g:GG) (c:GC):Int×GG:=if ckC c≠0 then(ckC c,g)else if c.op≤5 then AhO g c else AmZ g c
theorem inc_find {α:Type} {key:α→Int} {z:Int}:∀{l:List α},Inc ltI key l→∀{n:α},n∈l→key n=z→l.find? (fun a=>decide (key a=z))=some n
  |[],_,_,h,_=>by simp at h
  | a ::l,hl,n,hn,e=>by
    have hl':=List.pairwise_cons.1 hl
    rcases List.mem_cons.1 hn with rfl|hm
    · rw[List.find?_cons,decide_eq_true e]
    · have:=hl'.1 n hm
      simp only[ltI,decide_eq_true_eq]at this
      rw[List.find?_cons,decide_eq_false (by omega)]
      exact inc_find hl'.2 hm e
theorem no_find {α:Type} {key:α→Int} {z:Int} {l:List α} (h:¬∃n∈l,key n=z):l.find? (fun a=>decide (key a=z))=none:=by
  rw[List.find?_eq_none]
  intro a ha e
  exact h ⟨a,ha,of_decide_eq_true e⟩
section
variable {σ:List Obj} {d gd:Nat} {vN vE:AV} {nb eb:Bool} {N:List EN} {E:List EE} {x y:Int} {ct:Nat} {K:AX5→Sto→Prop}
theorem exN {z:Int}:(∃ n∈N.map EN.n,n.id=z)↔∃n∈N,n.n.id=z:=
  ⟨fun ⟨n,hn,e⟩=>by obtain⟨m,hm,rfl⟩:=List.mem_map.1 hn;exact⟨m,hm,e⟩,fun⟨n,hn,e⟩=>⟨n.n,List.mem_map_of_mem hn,e⟩⟩
theorem exE {z:Int}:(∃ n∈E.map EE.e,n.id=z)↔∃n∈E,n.e.id=z:=
  ⟨fun ⟨n,hn,e⟩=>by obtain⟨m,hm,rfl⟩:=List.mem_map.1 hn;exact⟨m,hm,e⟩,fun⟨n,hn,e⟩=>⟨n.e,List.mem_map_of_mem hn,e⟩⟩
def EdG (σ:List Obj) (d gd:Nat) (g:GG):Prop:=∃vN vE nb eb N E x y,Ed σ d gd vN vE nb eb N E x y∧gOf nb eb N E x y=g
set_option maxHeartbeats 2000000 in
theorem nodesW {c:GC} (h:Ed σ d gd vN vE nb eb N E x y) (hq:Ask N E x y) (hop:1≤c.op∧c.op≤5) (hz:idG c.id) (hv:c.v.ok)
    (hP:∀e,(AhO (gOf nb eb N E x y) c)=(e,gOf nb eb N E x y)→∀σ' c',Fr σ σ' []→K (.pan (.iface 115 (.int .i64 e))) ⟨σ',c'⟩)
    (hR:∀g',AhO (gOf nb eb N E x y) c=(0,g')→∀σ' c',EdG σ' d gd g'→Fr σ σ' (d::(vN.obj++(vE.obj++objsE N E)))→K (.ok (.tup [])) ⟨σ',c'⟩):
    H6 (Dx tab) 87 [.ref d gd 0 0,c.av] ⟨σ,ct⟩ K:=by
  obtain⟨op,z,fr,to,nm,v⟩:=c
  dsimp only at hop hz hv
  by_cases h1:op=1
  · subst h1
    refine nodes1 h hq hz (fun hf σ' c' f=>hP 7 ?_ σ' c' f) (fun hf hl σ' c' f=>hP 20 ?_ σ' c' f) (fun hf hl σ' c' vN' N' he hN f=>hR _ ?_ σ' c' ⟨_,_,_,_,_,_,_,_,he,rfl⟩ f)
    · show AhO ⟨nb,N.map EN.n,eb,E.map EE.e,x,y⟩ _=(_,⟨_,_,_,_,_,_⟩);simp only[AhO,exN,if_true];rw[if_pos hf]
    · show AhO ⟨nb,N.map EN.n,eb,E.map EE.e,x,y⟩ _=(_,⟨_,_,_,_,_,_⟩);simp only[AhO,exN,if_true];rw[if_neg hf,if_neg (show ¬(N.map EN.n).length<2000 by rw[List.length_map];exact hl)]
    · show AhO ⟨nb,N.map EN.n,eb,E.map EE.e,x,y⟩ _=(_,⟨_,_,_,_,_,_⟩);simp only[AhO,exN,if_true,hN];rw[if_neg hf,if_pos (show (N.map EN.n).length<2000 by rw[List.length_map];exact hl)]
  by_cases hf:∃n∈N,n.n.id=z
  rotate_left
  · have e:=no_find (key:=GN.id) (by rw[exN];exact hf)
    refine nodesNo h hq hz (by omega) hf fun σ' c' f=>hP 10 ?_ σ' c' f
    show AhO ⟨nb,N.map EN.n,eb,E.map EE.e,x,y⟩ _=(_,⟨_,_,_,_,_,_⟩);simp only[AhO,if_neg h1,e]
  have fd:∀n∈N.map EN.n,n.id=z→(N.map EN.n).find? (fun n=>decide (n.id=z))=some n:=fun n hn e=>inc_find hq.iN hn e
  by_cases h2:op=2
  · subst h2
    obtain⟨n,hn,e⟩:=exN.2 hf
    refine nodes2 h hq hf (fun hx σ' c' f=>hP 12 ?_ σ' c' f) (fun hx σ' c' vN' N' he hN f=>hR _ ?_ σ' c' ⟨_,_,_,_,_,_,_,_,he,rfl⟩ f)
    · show AhO ⟨nb,N.map EN.n,eb,E.map EE.e,x,y⟩ _=(_,⟨_,_,_,_,_,_⟩);simp only[AhO,fd n hn e];rw[if_neg (by decide),if_pos trivial,if_pos hx]
    · show AhO ⟨nb,N.map EN.n,eb,E.map EE.e,x,y⟩ _=(_,⟨_,_,_,_,_,_⟩);simp only[AhO,fd n hn e,hN];rw[if_neg (by decide),if_pos trivial,if_neg hx]
  by_cases h3:op=3
  · subst h3
    refine nodes3 h hq hz hf (fun hx σ' c' f=>hP 7 ?_ σ' c' f) (fun hx σ' c' f=>hP 20 ?_ σ' c' f) (fun n hn e hx hl σ' c' N' he hN f=>hR _ ?_ σ' c' ⟨_,_,_,_,_,_,_,_,he,rfl⟩ f)
    · obtain⟨n,hn,e,hx⟩:=hx
      show AhO ⟨nb,N.map EN.n,eb,E.map EE.e,x,y⟩ _=(_,⟨_,_,_,_,_,_⟩);simp only[AhO,fd n hn e];rw[if_neg (by decide),if_neg (by decide),if_pos trivial,if_pos hx]
    · obtain⟨n,hn,e,hx,hl⟩:=hx
      show AhO ⟨nb,N.map EN.n,eb,E.map EE.e,x,y⟩ _=(_,⟨_,_,_,_,_,_⟩);simp only[AhO,fd n hn e];rw[if_neg (by decide),if_neg (by decide),if_pos trivial,if_neg hx,if_neg hl]
    · show AhO ⟨nb,N.map EN.n,eb,E.map EE.e,x,y⟩ _=(_,⟨_,_,_,_,_,_⟩);simp only[AhO,fd n hn e,hN];rw[if_neg (by decide),if_neg (by decide),if_pos trivial,if_neg hx,if_pos hl]
  by_cases h4:op=4
  · subst h4
    refine nodes4 h hq hz hf (fun hx σ' c' f=>hP 23 ?_ σ' c' f) (fun n hn e hx σ' c' N' he hN f=>hR _ ?_ σ' c' ⟨_,_,_,_,_,_,_,_,he,rfl⟩ f)
    · obtain⟨n,hn,e,hx⟩:=hx
      show AhO ⟨nb,N.map EN.n,eb,E.map EE.e,x,y⟩ _=(_,⟨_,_,_,_,_,_⟩);simp only[AhO,fd n hn e];rw[if_neg (by decide),if_neg (by decide),if_neg (by decide),if_pos trivial,if_neg hx]
    · show AhO ⟨nb,N.map EN.n,eb,E.map EE.e,x,y⟩ _=(_,⟨_,_,_,_,_,_⟩);simp only[AhO,fd n hn e,hN];rw[if_neg (by decide),if_neg (by decide),if_neg (by decide),if_pos trivial,if_pos hx]
  obtain rfl:op=5:=by omega
  refine nodes5 h hq hz hv hf (fun hx σ' c' f=>hP 20 ?_ σ' c' f) (fun n hn e hx σ' c' N' he hN f=>hR _ ?_ σ' c' ⟨_,_,_,_,_,_,_,_,he,rfl⟩ f) (fun n hn e hx hl σ' c' N' he hN f=>hR _ ?_ σ' c' ⟨_,_,_,_,_,_,_,_,he,rfl⟩ f)
  · obtain⟨n,hn,e,hx,hk,hl⟩:=hx
    show AhO ⟨nb,N.map EN.n,eb,E.map EE.e,x,y⟩ _=(_,⟨_,_,_,_,_,_⟩);simp only[AhO,fd n hn e];rw[if_neg (by decide),if_neg (by decide),if_neg (by decide),if_neg (by decide),if_neg hx,if_neg (fun h=>h.elim hk hl)]
  · show AhO ⟨nb,N.map EN.n,eb,E.map EE.e,x,y⟩ _=(_,⟨_,_,_,_,_,_⟩);simp only[AhO,fd n hn e,hN];rw[if_neg (by decide),if_neg (by decide),if_neg (by decide),if_neg (by decide),if_pos hx]
  · show AhO ⟨nb,N.map EN.n,eb,E.map EE.e,x,y⟩ _=(_,⟨_,_,_,_,_,_⟩);simp only[AhO,fd n hn e,hN];rw[if_neg (by decide),if_neg (by decide),if_neg (by decide),if_neg (by decide),if_neg hx,if_pos hl]
set_option maxHeartbeats 2000000 in
theorem edgesW {c:GC} (h:Ed σ d gd vN vE nb eb N E x y) (hq:Ask N E x y) (hop:6≤c.op∧c.op≤8) (hz:idG c.id) (hv:c.v.ok)
    (hP:∀e,(AmZ (gOf nb eb N E x y) c)=(e,gOf nb eb N E x y)→∀σ' c',Fr σ σ' []→K (.pan (.iface 115 (.int .i64 e))) ⟨σ',c'⟩)
    (hR:∀g',AmZ (gOf nb eb N E x y) c=(0,g')→∀σ' c',EdG σ' d gd g'→Fr σ σ' (d::(vN.obj++(vE.obj++objsE N E)))→K (.ok (.tup [])) ⟨σ',c'⟩):
    H6 (Dx tab) 88 [.ref d gd 0 0,c.av] ⟨σ,ct⟩ K:=by
  obtain⟨op,z,fr,to,nm,v⟩:=c
  dsimp only at hop hz hv
  by_cases h1:op=6
  · subst h1
    refine edges6 h hq hz (fun hf σ' c' f=>hP 7 ?_ σ' c' f) (fun hf hm σ' c' f=>hP 10 ?_ σ' c' f) (fun hf hm hl σ' c' f=>hP 20 ?_ σ' c' f) (fun hf hm hl σ' c' vN' N' he hN f=>hR _ ?_ σ' c' ⟨_,_,_,_,_,_,_,_,he,rfl⟩ f)
    · show AmZ ⟨nb,N.map EN.n,eb,E.map EE.e,x,y⟩ _=(_,⟨_,_,_,_,_,_⟩);simp only[AmZ,exN,exE,if_true];rw[if_pos hf]
    · show AmZ ⟨nb,N.map EN.n,eb,E.map EE.e,x,y⟩ _=(_,⟨_,_,_,_,_,_⟩);simp only[AmZ,exN,exE,if_true];rw[if_neg hf,if_neg hm]
    · show AmZ ⟨nb,N.map EN.n,eb,E.map EE.e,x,y⟩ _=(_,⟨_,_,_,_,_,_⟩);simp only[AmZ,exN,exE,if_true];rw[if_neg hf,if_pos hm,if_neg (show ¬(E.map EE.e).length<4000 by rw[List.length_map];exact hl)]
    · show AmZ ⟨nb,N.map EN.n,eb,E.map EE.e,x,y⟩ _=(_,⟨_,_,_,_,_,_⟩);simp only[AmZ,exN,exE,if_true,hN];rw[if_neg hf,if_pos hm,if_pos (show (E.map EE.e).length<4000 by rw[List.length_map];exact hl)]
  by_cases hf:∃n∈E,n.e.id=z
  rotate_left
  · have e:=no_find (key:=GE.id) (by rw[exE];exact hf)
    refine edgesNo h hq (by omega) hf fun σ' c' f=>hP 11 ?_ σ' c' f
    show AmZ ⟨nb,N.map EN.n,eb,E.map EE.e,x,y⟩ _=(_,⟨_,_,_,_,_,_⟩);simp only[AmZ,if_neg h1,e]
  have fd:∀n∈E.map EE.e,n.id=z→(E.map EE.e).find? (fun n=>decide (n.id=z))=some n:=fun n hn e=>inc_find hq.iE hn e
  by_cases h2:op=7
  · subst h2
    obtain⟨n,hn,e⟩:=exE.2 hf
    refine edges7 h hq hf (fun σ' c' vN' N' he hN f=>hR _ ?_ σ' c' ⟨_,_,_,_,_,_,_,_,he,rfl⟩ f)
    show AmZ ⟨nb,N.map EN.n,eb,E.map EE.e,x,y⟩ _=(_,⟨_,_,_,_,_,_⟩);simp only[AmZ,fd n hn e,hN];rw[if_neg (by decide),if_pos trivial]
  obtain rfl:op=8:=by omega
  refine edges8 h hq hv hf (fun hx σ' c' f=>hP 20 ?_ σ' c' f) (fun n hn e hx σ' c' N' he hN f=>hR _ ?_ σ' c' ⟨_,_,_,_,_,_,_,_,he,rfl⟩ f) (fun n hn e hx hl σ' c' N' he hN f=>hR _ ?_ σ' c' ⟨_,_,_,_,_,_,_,_,he,rfl⟩ f)
  · obtain⟨n,hn,e,hx,hk,hl⟩:=hx
    show AmZ ⟨nb,N.map EN.n,eb,E.map EE.e,x,y⟩ _=(_,⟨_,_,_,_,_,_⟩);simp only[AmZ,fd n hn e];rw[if_neg (by decide),if_neg (by decide),if_neg hx,if_neg (fun h=>h.elim hk hl)]
  · show AmZ ⟨nb,N.map EN.n,eb,E.map EE.e,x,y⟩ _=(_,⟨_,_,_,_,_,_⟩);simp only[AmZ,fd n hn e,hN];rw[if_neg (by decide),if_neg (by decide),if_pos hx]
  · show AmZ ⟨nb,N.map EN.n,eb,E.map EE.e,x,y⟩ _=(_,⟨_,_,_,_,_,_⟩);simp only[AmZ,fd n hn e,hN];rw[if_neg (by decide),if_neg (by decide),if_neg hx,if_pos hl]
end
section
variable {α κ:Type} {lt:κ→κ→Bool} {key:α→κ}
theorem len_ba (hs:STO lt) {k:κ}:∀{l:List α},(below lt key k l).length+(above lt key k l).length≤l.length
  |[]=>by simp[below,above]
  | a::l=>by
    have ih:=len_ba hs (k:=k) (l:=l)
    unfold below above at ih ⊢
    cases h1:lt (key a) k<;>cases h2:lt k (key a)
    · rw[List.filter_cons_of_neg (by simp[h1]),List.filter_cons_of_neg (by simp[h2])];simp;omega
    · rw[List.filter_cons_of_neg (by simp[h1]),List.filter_cons_of_pos (by simp[h2])];simp;omega
    · rw[List.filter_cons_of_pos (by simp[h1]),List.filter_cons_of_neg (by simp[h2])];simp;omega
    · have:=hs.tr _ _ _ h1 h2;rw[hs.irr]at this;cases this
theorem len_ba1 (hs:STO lt) {k:κ}:∀{l:List α},(∃ y∈l,key y=k)→(below lt key k l).length+(above lt key k l).length+1≤l.length
  |[],h=>by simp at h
  | a ::l,h=>by
    by_cases hk:key a=k
    · have ih:=len_ba hs (key:=key) (k:=k) (l:=l)
      unfold below above at ih ⊢
      have h1:lt (key a) k=false:=by rw[hk];exact hs.irr _
      have h2:lt k (key a)=false:=by rw[hk];exact hs.irr _
      rw[List.filter_cons_of_neg (by simp[h1]),List.filter_cons_of_neg (by simp[h2])];simp;omega
    · have hm:∃y∈l,key y=k:=by
        obtain⟨y,hy,e⟩:=h
        rcases List.mem_cons.1 hy with rfl|hy
        · exact absurd e hk
        · exact⟨y,hy,e⟩
      have ih:=len_ba1 hs hm
      unfold below above at ih ⊢
      cases h1:lt (key a) k<;>cases h2:lt k (key a)
      · rw[List.filter_cons_of_neg (by simp[h1]),List.filter_cons_of_neg (by simp[h2])];simp;omega
      · rw[List.filter_cons_of_neg (by simp[h1]),List.filter_cons_of_pos (by simp[h2])];simp;omega
      · rw[List.filter_cons_of_pos (by simp[h1]),List.filter_cons_of_neg (by simp[h2])];simp;omega
      · have:=hs.tr _ _ _ h1 h2;rw[hs.irr]at this;cases this
theorem Agz (hs:STO lt) {x:α} {l:List α}:(Tc lt key x l).length≤l.length+1:=by
  have:=len_ba hs (key:=key) (k:=key x) (l:=l)
  simp only[Tc,List.length_append,List.length_singleton];omega
theorem AtG (hs:STO lt) {x:α} {l:List α} (h:∃y∈l,key y=key x):(Tc lt key x l).length≤l.length:=by
  have:=len_ba1 hs (key:=key) (k:=key x) (l:=l) h
  simp only[Tc,List.length_append,List.length_singleton];omega
theorem Aee (hs:STO lt) {k:κ} {l:List α}:(AhH lt key k l).length≤l.length:=by
  have:=len_ba hs (key:=key) (k:=k) (l:=l)
  simp only[AhH,List.length_append];omega
end
structure AHn (n:GN):Prop where
  iL:Inc Op.bytesLess id n.labels
  lL:n.labels.length≤8
  iP:Inc Op.bytesLess GP.key n.props
  lP:n.props.length≤16
structure AHo (n:GE):Prop where
  iP:Inc Op.bytesLess GP.key n.props
  lP:n.props.length≤16
structure Ajy (g:GG):Prop where
  lN:g.nodes.length≤2000
  lE:g.edges.length≤4000
  iN:Inc ltI GN.id g.nodes
  iE:Inc ltI GE.id g.edges
  aN:∀n∈g.nodes,AHn n
  aE:∀n∈g.edges,AHo n
  bx:-2^62≤g.AeT∧g.AeT≤2^62
  by_:-2^62≤g.Afg∧g.Afg≤2^62
theorem Ajy.ask {nb eb:Bool} {N:List EN} {E:List EE} {x y:Int} (h:Ajy (gOf nb eb N E x y)):Ask N E x y where
  lN:=by have:=h.lN;simpa[gOf]using this
  lE:=by have:=h.lE;simpa[gOf]using this
  iN:=h.iN
  iE:=h.iE
  iL:=fun e he=>by have:=h.aN e.n (List.mem_map_of_mem he);exact⟨this.iL,this.lL⟩
  iP:=fun e he=>by have:=h.aN e.n (List.mem_map_of_mem he);exact⟨this.iP,this.lP⟩
  iQ:=fun e he=>by have:=h.aE e.e (List.mem_map_of_mem he);exact⟨this.iP,this.lP⟩
  bx:=h.bx
  by_:=h.by_
theorem Ajy.Ap7 {g:GG} (h:Ajy g) {n:GN} (hn:AHn n) (hm:∃m∈g.nodes,m.id=n.id):Ajy {g with nodes:=Tc ltI GN.id n g.nodes}:=
  { h with
    lN:=Nat.le_trans (AtG Hu hm) h.lN
    iN:=Agg Hu h.iN
    aN:=fun m hm=>by rcases Nk Hu hm with rfl|hm;exact hn;exact h.aN _ hm}
theorem Ajy.AxA {g:GG} (h:Ajy g) {n:GE} (hn:AHo n) (hm:∃m∈g.edges,m.id=n.id):Ajy {g with edges:=Tc ltI GE.id n g.edges}:=
  { h with
    lE:=Nat.le_trans (AtG Hu hm) h.lE
    iE:=Agg Hu h.iE
    aE:=fun m hm=>by rcases Nk Hu hm with rfl|hm;exact hn;exact h.aE _ hm}
theorem AA2 {α:Type} {p:α→Bool} {l:List α} {n:α} (h:l.find? p=some n):n∈l∧p n=true:=⟨List.mem_of_find?_eq_some h,List.find?_some h⟩
theorem Ajy.node {g:GG} (h:Ajy g) {c:GC} (hid:idG c.id):Ajy (AhO g c).2:=by
  unfold AhO
  split
  · split
    · exact h
    split
    · rename_i hl
      exact{h with
        lN:=by have:=Agz (key:=GN.id) Hu (x:=⟨c.id,false,[],false,[]⟩) (l:=g.nodes);show(Tc ltI GN.id _ g.nodes).length≤2000;omega
        iN:=Agg Hu h.iN
        aN:=fun m hm=>by
          rcases Nk Hu hm with rfl|hm
          · exact⟨List.Pairwise.nil,by simp,List.Pairwise.nil,by simp⟩
          · exact h.aN _ hm
        bx:=by have:=h.bx;have:=hid.2;have:=hid.1;show _≤(if c.id+1>g.AeT then c.id+1 else g.AeT)∧(if c.id+1>g.AeT then c.id+1 else g.AeT)≤_;split<;>omega}
    · exact h
  split
  · exact h
  rename_i n hf
  obtain⟨hn,hz⟩:=AA2 hf
  replace hz:=of_decide_eq_true hz
  have ha:=h.aN n hn
  split
  · split
    · exact h
    · exact{h with lN:=Nat.le_trans (Aee Hu) h.lN,iN:=AcN Hu h.iN,aN:=fun m hm=>h.aN m (SC hm)}
  split
  · split
    · exact h
    split
    · rename_i hl
      exact h.Ap7 ⟨Agg G7 ha.iL,Nat.le_trans (Agz G7) (by omega),ha.iP,ha.lP⟩ ⟨n,hn,rfl⟩
    · exact h
  split
  · split
    · exact h.Ap7 ⟨AcN G7 ha.iL,Nat.le_trans (Aee G7) ha.lL,ha.iP,ha.lP⟩ ⟨n,hn,rfl⟩
    · exact h
  split
  · exact h.Ap7 ⟨ha.iL,ha.lL,AcN G7 ha.iP,Nat.le_trans (Aee G7) ha.lP⟩ ⟨n,hn,rfl⟩
  split
  · rename_i hx
    refine h.Ap7 ⟨ha.iL,ha.lL,Agg G7 ha.iP,?_⟩ ⟨n,hn,rfl⟩
    rcases hx with hx|hx
    · exact Nat.le_trans (AtG G7 hx) ha.lP
    · exact Nat.le_trans (Agz G7) (by omega)
  · exact h
theorem Ajy.edge {g:GG} (h:Ajy g) {c:GC} (hid:idG c.id):Ajy (AmZ g c).2:=by
  unfold AmZ
  split
  · split
    · exact h
    split
    · split
      · rename_i hl
        exact{h with
          lE:=by have:=Agz (key:=GE.id) Hu (x:=⟨c.id,c.fr,c.to,c.name,false,[]⟩) (l:=g.edges);show(Tc ltI GE.id _ g.edges).length≤4000;omega
          iE:=Agg Hu h.iE
          aE:=fun m hm=>by
            rcases Nk Hu hm with rfl|hm
            · exact⟨List.Pairwise.nil,by simp⟩
            · exact h.aE _ hm
          by_:=by have:=h.by_;have:=hid.2;have:=hid.1;show _≤(if c.id+1>g.Afg then c.id+1 else g.Afg)∧(if c.id+1>g.Afg then c.id+1 else g.Afg)≤_;split<;>omega}
      · exact h
    · exact h
  split
  · exact h
  rename_i n hf
  obtain⟨hn,hz⟩:=AA2 hf
  have ha:=h.aE n hn
  split
  · exact{h with lE:=Nat.le_trans (Aee Hu) h.lE,iE:=AcN Hu h.iE,aE:=fun m hm=>h.aE m (SC hm)}
  split
  · exact h.AxA ⟨AcN G7 ha.iP,Nat.le_trans (Aee G7) ha.lP⟩ ⟨n,hn,rfl⟩
  split
  · rename_i hx
    refine h.AxA ⟨Agg G7 ha.iP,?_⟩ ⟨n,hn,rfl⟩
    rcases hx with hx|hx
    · exact Nat.le_trans (AtG G7 hx) ha.lP
    · exact Nat.le_trans (Agz G7) (by omega)
  · exact h
theorem Ajy.step {g:GG} (h:Ajy g) {c:GC}:Ajy (stepG g c).2:=by
  unfold stepG
  split
  · exact h
  rename_i hk
  have h0:=AX4 (Classical.not_not.1 hk)
  split
  · exact h.node h0.2.1
  · exact h.edge h0.2.1
section
variable {AP:Nat→Option AFn}
def vRet (D:DFn) (K:AX5→Sto→Prop) (env:Env) (s:Sto):Prop:=AXR (AV8 env s D.results) fun vs=>K (.ok (tupOf vs)) s
def vCatch (AP:Nat→Option AFn) (D:DFn) (K:AX5→Sto→Prop) (c v:AV) (env:Env) (s:Sto):Prop:=match v with
  | .iface t (.int k n)=>need (t=D.tag) (vOp AP (.store 1 (.cst c) (.cst (.int k n))) [] s fun out s'=>match out with
    | .ok _=>vRet D K env s'
    | .pan _=>False)
  |_=>False
def vPost (AP:Nat→Option AFn) (D:DFn) (K:AX5→Sto→Prop) (env0:Env) (e:Je) (env:Env) (s:Sto):Prop:=match e with
  | .normal=>vRet D K env s
  | .ret=>vRet D K env s
  | .pan v=>vCatch AP D K (env0.get D.cell) v env s
  | .exit _=>False
def vPre (AP:Nat→Option AFn) (D:DFn) (K:AX5→Sto→Prop) (e:Je) (env:Env) (s:Sto):Prop:=match e with
  | .ret=>vRet D K env s
  | .pan v=>K (.pan v) s
  | .normal=>match env.get D.tcl with
    | .junk=>vC AP D.post env s (vPost AP D K env)
    |_=>False
  | .exit _=>False
theorem vRet_out {D:DFn} {K:AX5→Sto→Prop} {env:Env} {s:Sto} (h:vRet D K env s):∃out s',retD D env s=some (out,s')∧K out s':=by
  obtain⟨vs,h1,h2⟩:=h
  exact⟨_,_,by simp only[retD,h1,Option.map_some],h2⟩
theorem vCatch_out {D:DFn} {K:AX5→Sto→Prop} {c v:AV} {env:Env} {s:Sto} (h:vCatch AP D K c v env s):∃N out s',catchD (run AP N) D c v env s=some (out,s')∧K out s':=by
  unfold vCatch at h
  split at h
  · obtain⟨rfl,h⟩:=h
    obtain⟨N,out,s1,h1,h2⟩:=vOp_sound h
    cases out with
    | ok u=>
      obtain⟨out,s',h3,h4⟩:=vRet_out h2
      exact⟨N,out,s',by simp only[catchD,if_true,h1];exact h3,h4⟩
    |pan u=>cases h2
  · cases h
theorem calls_dfr {f:Nat} {D:DFn} {args:List AV} {s:Sto} {K:AX5→Sto→Prop} (hf:AP f=some (.dfr D)) (hl:args.length=D.np) (h:vC AP (.seq D.pre1 D.pre2) (params args 0) s (vPre AP D K)):H6 AP f args s K:=by
  obtain⟨N,e,env,s1,h1,h2⟩:=vC_sound h
  cases e with
  | ret=>
    obtain⟨out,s',h3,h4⟩:=vRet_out h2
    exact⟨N+1,out,s',by simp only[run,hf,if_pos hl,evD,h1];exact h3,h4⟩
  |pan v=>exact⟨N+1,_,_,by simp only[run,hf,if_pos hl,evD,h1],h2⟩
  |exit id=>cases h2
  | normal=>
    simp only[vPre]at h2
    split at h2
    · rename_i hj
      obtain⟨M,e2,env2,s2,h3,h4⟩:=vC_sound h2
      have h1':=fun P=>evC_mono (le_call (AP:=AP) (Nat.le_max_left N P)) (Nat.le_max_left N P) h1
      cases e2 with
      | normal=>
        obtain⟨out,s',h5,h6⟩:=vRet_out h4
        have h3':=evC_mono (le_call (AP:=AP) (Nat.le_max_right N M)) (Nat.le_max_right N M) h3
        exact⟨max N M+1,out,s',by simp only[run,hf,if_pos hl,evD,h1' M,hj,h3'];exact h5,h6⟩
      | ret=>
        obtain⟨out,s',h5,h6⟩:=vRet_out h4
        have h3':=evC_mono (le_call (AP:=AP) (Nat.le_max_right N M)) (Nat.le_max_right N M) h3
        exact⟨max N M+1,out,s',by simp only[run,hf,if_pos hl,evD,h1' M,hj,h3'];exact h5,h6⟩
      | pan v=>
        obtain⟨P,out,s',h5,h6⟩:=vCatch_out h4
        have h3':=evC_mono (le_call (AP:=AP) (show M≤max N (max M P) by omega)) (show M≤max N (max M P) by omega) h3
        have h5':=catchD_mono (le_call (AP:=AP) (show P≤max N (max M P) by omega)) h5
        exact⟨max N (max M P)+1,out,s',by simp only[run,hf,if_pos hl,evD,h1' (max M P),hj,h3'];exact h5',h6⟩
      |exit id=>cases h4
    · cases h2
end
section
variable {σ:List Obj} {d gd:Nat} {vN vE:AV} {nb eb:Bool} {N:List EN} {E:List EE} {x y:Int} {ct:Nat} {K:AX5→Sto→Prop}
theorem Ed.notCell {σ:List Obj} {d gd:Nat} {vN vE:AV} {nb eb:Bool} {N:List EN} {E:List EE} {x y:Int} (h:Ed σ d gd vN vE nb eb N E x y) {o g:Nat} {c:Bool} {k:IntKind} {z:Int} (ho:nth σ o=some (.arr g 1 true c [.int k z])):∀q∈d::(vN.obj++(vE.obj++objsE N E)),q∉[o]:=by
  intro q hq hm
  obtain rfl:q=o:=by simpa using hm
  obtain⟨cn,hn1,_⟩:=h.hn
  obtain⟨ce,he1,_⟩:=h.he
  rcases List.mem_cons.1 hq with rfl|hq
  · have:=h.box;rw[ho]at this;simp at this
  rcases List.mem_append.1 hq with hq|hq
  · exact hn1.diff ho (by decide) hq
  rcases List.mem_append.1 hq with hq|hq
  · exact he1.diff ho (by decide) hq
  rcases List.mem_append.1 hq with hq|hq<;>obtain⟨e,he,hm⟩:=List.mem_flatMap.1 hq
  · rcases List.mem_append.1 hm with hm|hm
    · rcases(h.hN e he).1 with⟨_,_,h1|⟨o',g',es',h1,h2⟩⟩|⟨_,o',g',h1,h2⟩
      · rw[h1]at hm;simp[AV.obj]at hm
      · rw[h1]at hm;simp only[AV.obj,List.mem_singleton]at hm;subst hm;rw[ho]at h2;simp at h2
      · rw[h1]at hm;simp only[AV.obj,List.mem_singleton]at hm;subst hm;rw[ho]at h2
        simp only[Option.some.injEq,Obj.arr.injEq]at h2
        have:=h2.2.2.2.2
        cases hl:e.n.labels with
        |nil=>rw[hl]at this;simp[vs]at this
        |cons a l=>rw[hl]at this;simp[vs]at this
    · exact(h.hN e he).2.diff ho (by decide) hm
  · exact Hd.diff (h.hE e he) ho (by decide) hm
theorem EdG.cell {σ σ':List Obj} {d gd:Nat} {g:GG} (h:EdG σ d gd g) {o u:Nat} {c:Bool} {k:IntKind} {z:Int} (ho:nth σ o=some (.arr u 1 true c [.int k z])) (f:Fr σ σ' [o]):EdG σ' d gd g:=by
  obtain⟨vN,vE,nb,eb,N,E,x,y,hE,e⟩:=h
  exact⟨_,_,_,_,_,_,_,_,hE.fr f (hE.notCell ho),e⟩
theorem res4 {σ:List Obj} {o g c':Nat} {nn cl:Bool} {z:Int} (h:nth σ o=some (.arr g 1 nn cl [.int .i64 z])):AV8 [(4,.ref o g 0 0)] ⟨σ,c'⟩ AEb.results=some [.int .i64 z]:=by
  show(match ALw [(4,.ref o g 0 0)] ⟨σ,c'⟩ (.cell 4 none),AV8 [(4,.ref o g 0 0)] ⟨σ,c'⟩ []with
    |some v,some vs=>some (v::vs)
    |_,_=>none)=_
  have e:ALw [(4,.ref o g 0 0)] ⟨σ,c'⟩ (.cell 4 none)=some (.int .i64 z):=by
    simp[ALw,Env.get,h,nth,AV.cells,loadCells]
  rw[e]
  rfl
set_option maxHeartbeats 4000000 in
theorem stepW {c:GC} (h:Ed σ d gd vN vE nb eb N E x y) (hq:Ask N E x y) (hok:c.ok)
    (hR:∀σ' c',EdG σ' d gd (stepG (gOf nb eb N E x y) c).2→Fr σ σ' (d::(vN.obj++(vE.obj++objsE N E)))→K (.ok (.int .i64 (stepG (gOf nb eb N E x y) c).1)) ⟨σ',c'⟩):
    H6 (Dx tab) 41 [.ref d gd 0 0,c.av] ⟨σ,ct⟩ K:=by
  have hck:=chgCk hok
  have hlt:=h.all_lt
  have hdl:=nth_lt h.box
  have hv:c.v.ok:=hok.2.2.2.2.2
  have h0:=fun(h0:ckC c=0)=>AX4 h0
  obtain⟨op,z,fr,to,nm,v⟩:=c
  refine calls_dfr rfl rfl ?_
  show vC _ _ [(0,.ref d gd 0 0),(1,.agg [.int .i64 op,.int .i64 z,.int .i64 fr,.int .i64 to,.str nm,.int .i64 v.k,.int .i64 v.n,.int .i64 v.d,.str v.s,.sl v.nn v.l])] _ _
  conv=>whnf
  (conv=>whnf);repeat' (first|(refine snocG fun σ2 f2 h2 l2=>?_;have h12:=f2.get h1 (by simp);have hE2:=(h.fr0 f1).fr0 f2;have f02:=f1.trans f2;conv=>whnf)|(refine snocG fun σ1 f1 h1 l1=>?_;conv=>whnf)|(refine BM hck ?_;rintro _ rfl;conv=>whnf)|(rw [h12];conv=>whnf)|(rw [h2];conv=>whnf)|(refine setG h2 fun σ3 f3 h3 l3=>?_;conv=>whnf)|(rw [h3];conv=>whnf)|((with_reducible first|apply kN|apply kW|apply kX|apply kG|apply kQ);(· exact sd);conv=>whnf)|(refine DW.mk ?_ ?_<;>intro hc<;>(try rw[List.length_nil]at hc)<;>first|(exfalso;omega)|(exact absurd rfl hc)|conv=>whnf)|(refine CB ?_ ?_<;>intro hc<;>conv=>whnf))
  all_goals have hns:∀q∈d::(vN.obj++(vE.obj++objsE N E)),q<σ.length:=hlt
  all_goals have l1':σ1.length=σ.length+1:=l1
  · have hk:ckC (GC.mk op z fr to nm v)=0:=by assumption
    have h0':=h0 hk
    have hs:stepG (gOf nb eb N E x y) ⟨op,z,fr,to,nm,v⟩=AhO (gOf nb eb N E x y) ⟨op,z,fr,to,nm,v⟩:=by
      unfold stepG;rw[if_neg (fun h=>h hk),if_pos hc]
    refine nodesW hE2 hq ⟨h0'.1.1,hc⟩ h0'.2.1 hv (fun e he σ' c' f=>?_) (fun g' hg σ' c' hE' f=>?_)
    · have hz3:=f.get h2 (by simp)
      (conv=>whnf);repeat' (first|(rw [hz3];conv=>whnf)|(refine setG hz3 fun σ4 f4 h4 l4=>?_;conv=>whnf)|((with_reducible first|apply kN|apply kW|apply kX|apply kG|apply kQ);(· exact sd);conv=>whnf)|(refine DW.mk ?_ ?_<;>intro hc<;>(try rw[List.length_nil]at hc)<;>first|(exfalso;omega)|(exact absurd rfl hc)|conv=>whnf)|(refine CB ?_ ?_<;>intro hc<;>conv=>whnf))
      refine⟨_,res4 h4,?_⟩
      rw[hs,he]at hR
      have ff:Fr σ σ4 []:=(((f02.trans f).mono (by simp)).trans f4).mono (by simp;omega)
      exact hR _ _ ⟨_,_,_,_,_,_,_,_,h.fr0 ff,rfl⟩ (ff.mono (by simp))
    · have hz3:=f.get h2 (fun hm=>by have:=hns _ hm;dsimp only at this;omega)
      (conv=>whnf);repeat' (first|(rw [hz3];conv=>whnf)|(refine setG hz3 fun σ4 f4 h4 l4=>?_;conv=>whnf)|((with_reducible first|apply kN|apply kW|apply kX|apply kG|apply kQ);(· exact sd);conv=>whnf)|(refine DW.mk ?_ ?_<;>intro hc<;>(try rw[List.length_nil]at hc)<;>first|(exfalso;omega)|(exact absurd rfl hc)|conv=>whnf)|(refine CB ?_ ?_<;>intro hc<;>conv=>whnf))
      refine⟨_,res4 h4,?_⟩
      rw[hs,hg]at hR
      refine hR _ _ (hE'.cell hz3 f4) ((((f02.mono (F':=σ1.length::(d::(vN.obj++(vE.obj++objsE N E)))) (by simp)).trans (f.mono (by intro q hq;exact .inl (List.mem_cons_of_mem _ hq)))).trans (f4.mono (by simp))).mono fun q hq=>?_)
      rcases List.mem_cons.1 hq with rfl|hq
      · exact .inr (by omega)
      · exact .inl hq
  · have hk:ckC (GC.mk op z fr to nm v)=0:=by assumption
    have h0':=h0 hk
    have hs:stepG (gOf nb eb N E x y) ⟨op,z,fr,to,nm,v⟩=AmZ (gOf nb eb N E x y) ⟨op,z,fr,to,nm,v⟩:=by
      unfold stepG;rw[if_neg (fun h=>h hk),if_neg hc]
    refine edgesW hE2 hq ⟨show 6≤op by omega,h0'.1.2⟩ h0'.2.1 hv (fun e he σ' c' f=>?_) (fun g' hg σ' c' hE' f=>?_)
    · have hz3:=f.get h2 (by simp)
      (conv=>whnf);repeat' (first|(rw [hz3];conv=>whnf)|(refine setG hz3 fun σ4 f4 h4 l4=>?_;conv=>whnf)|((with_reducible first|apply kN|apply kW|apply kX|apply kG|apply kQ);(· exact sd);conv=>whnf)|(refine DW.mk ?_ ?_<;>intro hc<;>(try rw[List.length_nil]at hc)<;>first|(exfalso;omega)|(exact absurd rfl hc)|conv=>whnf)|(refine CB ?_ ?_<;>intro hc<;>conv=>whnf))
      refine⟨_,res4 h4,?_⟩
      rw[hs,he]at hR
      have ff:Fr σ σ4 []:=(((f02.trans f).mono (by simp)).trans f4).mono (by simp;omega)
      exact hR _ _ ⟨_,_,_,_,_,_,_,_,h.fr0 ff,rfl⟩ (ff.mono (by simp))
    · have hz3:=f.get h2 (fun hm=>by have:=hns _ hm;dsimp only at this;omega)
      (conv=>whnf);repeat' (first|(rw [hz3];conv=>whnf)|(refine setG hz3 fun σ4 f4 h4 l4=>?_;conv=>whnf)|((with_reducible first|apply kN|apply kW|apply kX|apply kG|apply kQ);(· exact sd);conv=>whnf)|(refine DW.mk ?_ ?_<;>intro hc<;>(try rw[List.length_nil]at hc)<;>first|(exfalso;omega)|(exact absurd rfl hc)|conv=>whnf)|(refine CB ?_ ?_<;>intro hc<;>conv=>whnf))
      refine⟨_,res4 h4,?_⟩
      rw[hs,hg]at hR
      refine hR _ _ (hE'.cell hz3 f4) ((((f02.mono (F':=σ1.length::(d::(vN.obj++(vE.obj++objsE N E)))) (by simp)).trans (f.mono (by intro q hq;exact .inl (List.mem_cons_of_mem _ hq)))).trans (f4.mono (by simp))).mono fun q hq=>?_)
      rcases List.mem_cons.1 hq with rfl|hq
      · exact .inr (by omega)
      · exact .inl hq
  · have hk:ckC (GC.mk op z fr to nm v)≠0:=by assumption
    refine⟨_,res4 h3,?_⟩
    have hs:stepG (gOf nb eb N E x y) ⟨op,z,fr,to,nm,v⟩=(ckC ⟨op,z,fr,to,nm,v⟩,gOf nb eb N E x y):=by
      unfold stepG;rw[if_pos hk]
    rw[hs]at hR
    have ff:Fr σ σ3 []:=((f02.mono (by simp)).trans f3).mono (by simp;omega)
    exact hR _ _ ⟨_,_,_,_,_,_,_,_,h.fr0 ff,rfl⟩ (ff.mono (by simp))
end
theorem appN {g es:Nat} {ys:List AV} {bytes:Nat} {K:Nat→Bool→Bool→List AV→Prop} (hs:AuA es ys) (hr:ys.length*bytes≤2 ^ 46) (h:K ys.length true true ys):
    Aya g g es es 0 true true true [] ys bytes K:=by
  refine⟨⟨rfl,rfl,by simp,hs,?_⟩,?_⟩
  · rw[Nat.zero_add];exact hr
  · rw[Nat.zero_add];exact h
theorem ownC {α:Type} {fv:α→AV} {AP:Nat→Option AFn} {f es:Nat} {l:List α} {nn:Bool} {s:Sto} {K:AV→Sto→Prop} (hn:nn=false→l=[]) (hcl:ACf [.sl nn (vs fv l)]=true)
    (h0:H6 AP f [.sl false []] ⟨[],0⟩ fun out _=>out=.ok (.sl false []))
    (h1:H6 AP f [.sl true (vs fv l)] ⟨[],0⟩ fun out s'=>∃o g,out=.ok (.own o g 0 l.length)∧nth s'.σ o=some (.arr g es true true (vs fv l)))
    (hk:∀σ' es',Fr s.σ σ' []→nth σ' s.σ.length=some (.arr s.ctr es' nn true (vs fv l))→(nn=true→es'=es)→σ'.length=s.σ.length+1→K (.own s.σ.length s.ctr 0 l.length) ⟨σ',s.ctr+1⟩):
    ∃N r s',AAN (run AP N) .own f [.sl nn (vs fv l)] s=some (.ok r,s')∧K r s':=by
  cases nn with
  | false=>
    obtain rfl:=hn rfl
    exact AwO hcl h0 (hk _ 1 ⟨by simp,fun o ho _=>nth_app ho⟩ nth_last (by simp) (by simp))
  | true=>
    refine AQG (elems:=vs fv l) (es:=es) hcl (by rw[lV];exact h1) ?_
    rw[lV]
    exact hk _ es ⟨by simp,fun o ho _=>nth_app ho⟩ nth_last (fun _=>rfl) (by simp)
theorem cloneS0:H6 (Dx tab) 82 [.sl false []] ⟨[],0⟩ fun out _=>out=.ok (.sl false []):=by
  refine FH rfl rfl ?_
  (conv=>whnf);repeat' (first|((with_reducible first|apply kN|apply kW|apply kX|apply kG|apply kQ);(· exact sd);conv=>whnf)|(refine DW.mk ?_ ?_<;>intro hc<;>(try rw[List.length_nil]at hc)<;>first|(exfalso;omega)|(exact absurd rfl hc)|conv=>whnf)  |(refine CB ?_ ?_<;>intro hc<;>conv=>whnf))
  rfl
theorem cloneS1 {l:List (List UInt8)} (hl:l.length≤5000):H6 (Dx tab) 82 [.sl true (vs .str l)] ⟨[],0⟩ fun out s'=>∃o g,out=.ok (.own o g 0 l.length)∧nth s'.σ o=some (.arr g 1 true true (vs .str l)):=by
  refine FH rfl rfl ?_
  (conv=>whnf);repeat' (first|((with_reducible first|apply kN|apply kW|apply kX|apply kG|apply kQ);(· exact sd);conv=>whnf)|(refine DW.mk ?_ ?_<;>intro hc<;>(try rw[List.length_nil]at hc)<;>first|(exfalso;omega)|(exact absurd rfl hc)|conv=>whnf)  |(refine CB ?_ ?_<;>intro hc<;>conv=>whnf))
  refine appN (Aem (f:=.str) (fun _=>rfl) l) (by rw[lV];omega) ?_
  rw[lV]
  (conv=>whnf);repeat' (first|((with_reducible first|apply kN|apply kW|apply kX|apply kG|apply kQ);(· exact sd);conv=>whnf)|(refine DW.mk ?_ ?_<;>intro hc<;>(try rw[List.length_nil]at hc)<;>first|(exfalso;omega)|(exact absurd rfl hc)|conv=>whnf)  |(refine CB ?_ ?_<;>intro hc<;>conv=>whnf))
  exact⟨_,_,rfl,rfl⟩
theorem cloneP0:H6 (Dx tab) 83 [.sl false []] ⟨[],0⟩ fun out _=>out=.ok (.sl false []):=by
  refine FH rfl rfl ?_
  (conv=>whnf);repeat' (first|((with_reducible first|apply kN|apply kW|apply kX|apply kG|apply kQ);(· exact sd);conv=>whnf)|(refine DW.mk ?_ ?_<;>intro hc<;>(try rw[List.length_nil]at hc)<;>first|(exfalso;omega)|(exact absurd rfl hc)|conv=>whnf)  |(refine CB ?_ ?_<;>intro hc<;>conv=>whnf))
  rfl
theorem cloneP1 {l:List GP} (hl:l.length≤5000):H6 (Dx tab) 83 [.sl true (vs GP.av l)] ⟨[],0⟩ fun out s'=>∃o g,out=.ok (.own o g 0 l.length)∧nth s'.σ o=some (.arr g 6 true true (vs GP.av l)):=by
  refine FH rfl rfl ?_
  (conv=>whnf);repeat' (first|((with_reducible first|apply kN|apply kW|apply kX|apply kG|apply kQ);(· exact sd);conv=>whnf)|(refine DW.mk ?_ ?_<;>intro hc<;>(try rw[List.length_nil]at hc)<;>first|(exfalso;omega)|(exact absurd rfl hc)|conv=>whnf)  |(refine CB ?_ ?_<;>intro hc<;>conv=>whnf))
  refine appN (Aem (f:=GP.av) (fun _=>rfl) l) (by rw[lV];omega) ?_
  rw[lV]
  (conv=>whnf);repeat' (first|((with_reducible first|apply kN|apply kW|apply kX|apply kG|apply kQ);(· exact sd);conv=>whnf)|(refine DW.mk ?_ ?_<;>intro hc<;>(try rw[List.length_nil]at hc)<;>first|(exfalso;omega)|(exact absurd rfl hc)|conv=>whnf)  |(refine CB ?_ ?_<;>intro hc<;>conv=>whnf))
  exact⟨_,_,rfl,rfl⟩
theorem cloneN0:H6 (Dx tab) 81 [.sl false []] ⟨[],0⟩ fun out _=>out=.ok (.sl false []):=by
  refine FH rfl rfl ?_
  (conv=>whnf);repeat' (first|((with_reducible first|apply kN|apply kW|apply kX|apply kG|apply kQ);(· exact sd);conv=>whnf)|(refine DW.mk ?_ ?_<;>intro hc<;>(try rw[List.length_nil]at hc)<;>first|(exfalso;omega)|(exact absurd rfl hc)|conv=>whnf)  |(refine CB ?_ ?_<;>intro hc<;>conv=>whnf))
  rfl
theorem cloneN1 {l:List GN} (hl:l.length≤5000):H6 (Dx tab) 81 [.sl true (vs GN.av l)] ⟨[],0⟩ fun out s'=>∃o g,out=.ok (.own o g 0 l.length)∧nth s'.σ o=some (.arr g 3 true true (vs GN.av l)):=by
  refine FH rfl rfl ?_
  (conv=>whnf);repeat' (first|((with_reducible first|apply kN|apply kW|apply kX|apply kG|apply kQ);(· exact sd);conv=>whnf)|(refine DW.mk ?_ ?_<;>intro hc<;>(try rw[List.length_nil]at hc)<;>first|(exfalso;omega)|(exact absurd rfl hc)|conv=>whnf)  |(refine CB ?_ ?_<;>intro hc<;>conv=>whnf))
  refine appN (Aem (f:=GN.av) (fun _=>rfl) l) (by rw[lV];omega) ?_
  rw[lV]
  (conv=>whnf);repeat' (first|((with_reducible first|apply kN|apply kW|apply kX|apply kG|apply kQ);(· exact sd);conv=>whnf)|(refine DW.mk ?_ ?_<;>intro hc<;>(try rw[List.length_nil]at hc)<;>first|(exfalso;omega)|(exact absurd rfl hc)|conv=>whnf)  |(refine CB ?_ ?_<;>intro hc<;>conv=>whnf))
  exact⟨_,_,rfl,rfl⟩
theorem cloneE0:H6 (Dx tab) 84 [.sl false []] ⟨[],0⟩ fun out _=>out=.ok (.sl false []):=by
  refine FH rfl rfl ?_
  (conv=>whnf);repeat' (first|((with_reducible first|apply kN|apply kW|apply kX|apply kG|apply kQ);(· exact sd);conv=>whnf)|(refine DW.mk ?_ ?_<;>intro hc<;>(try rw[List.length_nil]at hc)<;>first|(exfalso;omega)|(exact absurd rfl hc)|conv=>whnf)  |(refine CB ?_ ?_<;>intro hc<;>conv=>whnf))
  rfl
theorem cloneE1 {l:List GE} (hl:l.length≤5000):H6 (Dx tab) 84 [.sl true (vs GE.av l)] ⟨[],0⟩ fun out s'=>∃o g,out=.ok (.own o g 0 l.length)∧nth s'.σ o=some (.arr g 5 true true (vs GE.av l)):=by
  refine FH rfl rfl ?_
  (conv=>whnf);repeat' (first|((with_reducible first|apply kN|apply kW|apply kX|apply kG|apply kQ);(· exact sd);conv=>whnf)|(refine DW.mk ?_ ?_<;>intro hc<;>(try rw[List.length_nil]at hc)<;>first|(exfalso;omega)|(exact absurd rfl hc)|conv=>whnf)  |(refine CB ?_ ?_<;>intro hc<;>conv=>whnf))
  refine appN (Aem (f:=GE.av) (fun _=>rfl) l) (by rw[lV];omega) ?_
  rw[lV]
  (conv=>whnf);repeat' (first|((with_reducible first|apply kN|apply kW|apply kX|apply kG|apply kQ);(· exact sd);conv=>whnf)|(refine DW.mk ?_ ?_<;>intro hc<;>(try rw[List.length_nil]at hc)<;>first|(exfalso;omega)|(exact absurd rfl hc)|conv=>whnf)  |(refine CB ?_ ?_<;>intro hc<;>conv=>whnf))
  exact⟨_,_,rfl,rfl⟩
end AI
end Go.Proofs.YtnbibfalljlmfaaGreatDoor
