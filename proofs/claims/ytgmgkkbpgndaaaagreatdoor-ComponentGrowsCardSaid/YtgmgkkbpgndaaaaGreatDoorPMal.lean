/- What a change makes of a graph; an editor's functions make just that. A step keeps what an editor asks. Walks through a function that defers a recovering closure. A step of an editor. Cloned lists as a caller's own. A graph copied, for an editor. A graph copied, for an editor: the whole. change.ApplyAll, its loop. -/
import Derived.Test.YtgmgkkbpgndaaaaGreatDoorPMaj
import Derived.Test.YtgmgkkbpgndaaaaGreatDoorPMak
import Derived.Test.YtgmgkkbpgndaaaaGreatDoorPVa
set_option linter.unusedVariables false
set_option maxRecDepth 4000
namespace Go.Proofs.YtgmgkkbpgndaaaaGreatDoor
namespace AI
def AZ (g:GG) (c:GC):Int×GG:=
 if c.op=1 then
    if∃n∈g.nodes,n.id=c.id then(7,g)else if g.nodes.length<2000 then(0,{g with nn:=true,nodes:=AY BU GN.id ⟨c.id,false,[],false,[]⟩ g.nodes,Bl:=if c.id+1>g.Bl then c.id+1 else g.Bl})else(20,g)
 else match g.nodes.find? (fun n=>decide (n.id=c.id))with
    |none=>(10,g)
    |some n=>
     if c.op=2 then if∃e∈g.edges,e.fr=c.id∨e.to=c.id then(12,g)else(0,{g with nodes:=Cj BU GN.id c.id g.nodes})
     else if c.op=3 then if c.name∈n.labels then(7,g)else if n.labels.length<8 then(0,{g with nodes:=AY BU GN.id {n with ln:=true,labels:=AY Op.bytesLess id c.name n.labels} g.nodes})else(20,g)
     else if c.op=4 then if c.name∈n.labels then(0,{g with nodes:=AY BU GN.id {n with ln:=true,labels:=Cj Op.bytesLess id c.name n.labels} g.nodes})else(23,g)
     else if isNull c.v then(0,{g with nodes:=AY BU GN.id {n with props:=Cj Op.bytesLess GP.key c.name n.props} g.nodes})
     else if(∃ p∈n.props,GP.key p=c.name)∨n.props.length<16 then(0,{g with nodes:=AY BU GN.id {n with pn:=true,props:=AY Op.bytesLess GP.key ⟨c.name,c.v⟩ n.props} g.nodes})else(20,g)
def Bz (g:GG) (c:GC):Int×GG:=
 if c.op=6 then
    if∃n∈g.edges,n.id=c.id then(7,g)else if(∃ n∈g.nodes,n.id=c.fr)∧(∃ n∈g.nodes,n.id=c.to)then
     if g.edges.length<4000 then(0,{g with en:=true,edges:=AY BU GE.id ⟨c.id,c.fr,c.to,c.name,false,[]⟩ g.edges,Bq:=if c.id+1>g.Bq then c.id+1 else g.Bq})else(20,g)
    else(10,g)
 else match g.edges.find? (fun n=>decide (n.id=c.id))with
    |none=>(11,g)
    |some n=>
     if c.op=7 then(0,{g with edges:=Cj BU GE.id c.id g.edges})
     else if isNull c.v then(0,{g with edges:=AY BU GE.id {n with props:=Cj Op.bytesLess GP.key c.name n.props} g.edges})
     else if(∃ p∈n.props,GP.key p=c.name)∨n.props.length<16 then(0,{g with edges:=AY BU GE.id {n with pn:=true,props:=AY Op.bytesLess GP.key ⟨c.name,c.v⟩ n.props} g.edges})else(20,g)
def stepG (g:GG) (c:GC):Int×GG:=if Iq c≠0 then(Iq c,g)else if c.op≤5 then AZ g c else Bz g c
theorem SI {α:Type} {key:α→Int} {z:Int}:∀{l:List α},Inc BU key l→∀{n:α},n∈l→key n=z→l.find? (fun a=>decide (key a=z))=some n
 |[],_,_,h,_=>by simp at h
 |a::l,hl,n,hn,e=>by
  have hl':=List.pairwise_cons.1 hl
  rcases List.mem_cons.1 hn with rfl|hm
  ·rw[List.find?_cons,decide_eq_true e]
  ·have:=hl'.1 n hm
   simp only[BU,decide_eq_true_eq]at this
   rw[List.find?_cons,decide_eq_false (by omega)]
   exact SI hl'.2 hm e
theorem ZX {α:Type} {key:α→Int} {z:Int} {l:List α} (h:¬∃n∈l,key n=z):l.find? (fun a=>decide (key a=z))=none:=by
 rw[List.find?_eq_none]
 intro a ha e
 exact h ⟨a,ha,of_decide_eq_true e⟩
section
variable {σ:List Obj} {d gd:Nat} {vN vE:AV} {nb eb:Bool} {N:List EN} {E:List EE} {x y:Int} {ct:Nat} {K:AA→Ap→Prop}
theorem exN {z:Int}:(∃ n∈N.map EN.n,n.id=z)↔∃n∈N,n.n.id=z:=
 ⟨fun ⟨n,hn,e⟩=>by obtain⟨m,hm,rfl⟩:=List.mem_map.1 hn;exact⟨m,hm,e⟩,fun⟨n,hn,e⟩=>⟨n.n,List.mem_map_of_mem hn,e⟩⟩
theorem exE {z:Int}:(∃ n∈E.map EE.e,n.id=z)↔∃n∈E,n.e.id=z:=
 ⟨fun ⟨n,hn,e⟩=>by obtain⟨m,hm,rfl⟩:=List.mem_map.1 hn;exact⟨m,hm,e⟩,fun⟨n,hn,e⟩=>⟨n.e,List.mem_map_of_mem hn,e⟩⟩
def EdG (σ:List Obj) (d gd:Nat) (g:GG):Prop:=∃vN vE nb eb N E x y,Ed σ d gd vN vE nb eb N E x y∧Jk nb eb N E x y=g
set_option maxHeartbeats 2000000 in
theorem AgS {c:GC} (h:Ed σ d gd vN vE nb eb N E x y) (hq:Ask N E x y) (hop:1≤c.op∧c.op≤5) (hz:KI c.id) (hv:c.v.ok)
 (hP:∀e,(AZ (Jk nb eb N E x y) c)=(e,Jk nb eb N E x y)→∀σ' c',Fr σ σ' []→K (.Dp (.iface 138 (.int .i64 e))) ⟨σ',c'⟩)
 (hR:∀g',AZ (Jk nb eb N E x y) c=(0,g')→∀σ' c',EdG σ' d gd g'→Fr σ σ' (d::(vN.obj++(vE.obj++BG N E)))→K (.ok (.Cc [])) ⟨σ',c'⟩):
 AQ (Ad tab) 91 [.ref d gd 0 0,c.av] ⟨σ,ct⟩ K:=by
 obtain⟨op,z,fr,to,nm,v⟩:=c
 dsimp only at hop hz hv
 by_cases h1:op=1
 ·subst h1
  refine AgY h hq hz (fun hf σ' c' f=>hP 7 ?_ σ' c' f) (fun hf hl σ' c' f=>hP 20 ?_ σ' c' f) (fun hf hl σ' c' U2 N' he hN f=>hR _ ?_ σ' c' ⟨_,_,_,_,_,_,_,_,he,rfl⟩ f)
  ·show AZ ⟨nb,N.map EN.n,eb,E.map EE.e,x,y⟩ _=(_,⟨_,_,_,_,_,_⟩);simp only[AZ,exN,if_true];rw[if_pos hf]
  ·show AZ ⟨nb,N.map EN.n,eb,E.map EE.e,x,y⟩ _=(_,⟨_,_,_,_,_,_⟩);simp only[AZ,exN,if_true];rw[if_neg hf,if_neg (show ¬(N.map EN.n).length<2000 by rw[List.length_map];exact hl)]
  ·show AZ ⟨nb,N.map EN.n,eb,E.map EE.e,x,y⟩ _=(_,⟨_,_,_,_,_,_⟩);simp only[AZ,exN,if_true,hN];rw[if_neg hf,if_pos (show (N.map EN.n).length<2000 by rw[List.length_map];exact hl)]
 by_cases hf:∃n∈N,n.n.id=z
 rotate_left
 ·have e:=ZX (key:=GN.id) (by rw[exN];exact hf)
  refine Ad5 h hq hz (by omega) hf fun σ' c' f=>hP 10 ?_ σ' c' f
  show AZ ⟨nb,N.map EN.n,eb,E.map EE.e,x,y⟩ _=(_,⟨_,_,_,_,_,_⟩);simp only[AZ,if_neg h1,e]
 have fd:∀n∈N.map EN.n,n.id=z→(N.map EN.n).find? (fun n=>decide (n.id=z))=some n:=fun n hn e=>SI hq.iN hn e
 by_cases h2:op=2
 ·subst h2
  obtain⟨n,hn,e⟩:=exN.2 hf
  refine Af3 h hq hf (fun hx σ' c' f=>hP 12 ?_ σ' c' f) (fun hx σ' c' U2 N' he hN f=>hR _ ?_ σ' c' ⟨_,_,_,_,_,_,_,_,he,rfl⟩ f)
  ·show AZ ⟨nb,N.map EN.n,eb,E.map EE.e,x,y⟩ _=(_,⟨_,_,_,_,_,_⟩);simp only[AZ,fd n hn e];rw[if_neg (by decide),if_pos trivial,if_pos hx]
  ·show AZ ⟨nb,N.map EN.n,eb,E.map EE.e,x,y⟩ _=(_,⟨_,_,_,_,_,_⟩);simp only[AZ,fd n hn e,hN];rw[if_neg (by decide),if_pos trivial,if_neg hx]
 by_cases h3:op=3
 ·subst h3
  refine Agc h hq hz hf (fun hx σ' c' f=>hP 7 ?_ σ' c' f) (fun hx σ' c' f=>hP 20 ?_ σ' c' f) (fun n hn e hx hl σ' c' N' he hN f=>hR _ ?_ σ' c' ⟨_,_,_,_,_,_,_,_,he,rfl⟩ f)
  ·obtain⟨n,hn,e,hx⟩:=hx
   show AZ ⟨nb,N.map EN.n,eb,E.map EE.e,x,y⟩ _=(_,⟨_,_,_,_,_,_⟩);simp only[AZ,fd n hn e];rw[if_neg (by decide),if_neg (by decide),if_pos trivial,if_pos hx]
  ·obtain⟨n,hn,e,hx,hl⟩:=hx
   show AZ ⟨nb,N.map EN.n,eb,E.map EE.e,x,y⟩ _=(_,⟨_,_,_,_,_,_⟩);simp only[AZ,fd n hn e];rw[if_neg (by decide),if_neg (by decide),if_pos trivial,if_neg hx,if_neg hl]
  ·show AZ ⟨nb,N.map EN.n,eb,E.map EE.e,x,y⟩ _=(_,⟨_,_,_,_,_,_⟩);simp only[AZ,fd n hn e,hN];rw[if_neg (by decide),if_neg (by decide),if_pos trivial,if_neg hx,if_pos hl]
 by_cases h4:op=4
 ·subst h4
  refine Agy h hq hz hf (fun hx σ' c' f=>hP 23 ?_ σ' c' f) (fun n hn e hx σ' c' N' he hN f=>hR _ ?_ σ' c' ⟨_,_,_,_,_,_,_,_,he,rfl⟩ f)
  ·obtain⟨n,hn,e,hx⟩:=hx
   show AZ ⟨nb,N.map EN.n,eb,E.map EE.e,x,y⟩ _=(_,⟨_,_,_,_,_,_⟩);simp only[AZ,fd n hn e];rw[if_neg (by decide),if_neg (by decide),if_neg (by decide),if_pos trivial,if_neg hx]
  ·show AZ ⟨nb,N.map EN.n,eb,E.map EE.e,x,y⟩ _=(_,⟨_,_,_,_,_,_⟩);simp only[AZ,fd n hn e,hN];rw[if_neg (by decide),if_neg (by decide),if_neg (by decide),if_pos trivial,if_pos hx]
 obtain rfl:op=5:=by omega
 refine Agz h hq hz hv hf (fun hx σ' c' f=>hP 20 ?_ σ' c' f) (fun n hn e hx σ' c' N' he hN f=>hR _ ?_ σ' c' ⟨_,_,_,_,_,_,_,_,he,rfl⟩ f) (fun n hn e hx hl σ' c' N' he hN f=>hR _ ?_ σ' c' ⟨_,_,_,_,_,_,_,_,he,rfl⟩ f)
 ·obtain⟨n,hn,e,hx,hk,hl⟩:=hx
  show AZ ⟨nb,N.map EN.n,eb,E.map EE.e,x,y⟩ _=(_,⟨_,_,_,_,_,_⟩);simp only[AZ,fd n hn e];rw[if_neg (by decide),if_neg (by decide),if_neg (by decide),if_neg (by decide),if_neg hx,if_neg (fun h=>h.elim hk hl)]
 ·show AZ ⟨nb,N.map EN.n,eb,E.map EE.e,x,y⟩ _=(_,⟨_,_,_,_,_,_⟩);simp only[AZ,fd n hn e,hN];rw[if_neg (by decide),if_neg (by decide),if_neg (by decide),if_neg (by decide),if_pos hx]
 ·show AZ ⟨nb,N.map EN.n,eb,E.map EE.e,x,y⟩ _=(_,⟨_,_,_,_,_,_⟩);simp only[AZ,fd n hn e,hN];rw[if_neg (by decide),if_neg (by decide),if_neg (by decide),if_neg (by decide),if_neg hx,if_pos hl]
set_option maxHeartbeats 2000000 in
theorem AgT {c:GC} (h:Ed σ d gd vN vE nb eb N E x y) (hq:Ask N E x y) (hop:6≤c.op∧c.op≤8) (hz:KI c.id) (hv:c.v.ok)
 (hP:∀e,(Bz (Jk nb eb N E x y) c)=(e,Jk nb eb N E x y)→∀σ' c',Fr σ σ' []→K (.Dp (.iface 138 (.int .i64 e))) ⟨σ',c'⟩)
 (hR:∀g',Bz (Jk nb eb N E x y) c=(0,g')→∀σ' c',EdG σ' d gd g'→Fr σ σ' (d::(vN.obj++(vE.obj++BG N E)))→K (.ok (.Cc [])) ⟨σ',c'⟩):
 AQ (Ad tab) 92 [.ref d gd 0 0,c.av] ⟨σ,ct⟩ K:=by
 obtain⟨op,z,fr,to,nm,v⟩:=c
 dsimp only at hop hz hv
 by_cases h1:op=6
 ·subst h1
  refine AgZ h hq hz (fun hf σ' c' f=>hP 7 ?_ σ' c' f) (fun hf hm σ' c' f=>hP 10 ?_ σ' c' f) (fun hf hm hl σ' c' f=>hP 20 ?_ σ' c' f) (fun hf hm hl σ' c' U2 N' he hN f=>hR _ ?_ σ' c' ⟨_,_,_,_,_,_,_,_,he,rfl⟩ f)
  ·show Bz ⟨nb,N.map EN.n,eb,E.map EE.e,x,y⟩ _=(_,⟨_,_,_,_,_,_⟩);simp only[Bz,exN,exE,if_true];rw[if_pos hf]
  ·show Bz ⟨nb,N.map EN.n,eb,E.map EE.e,x,y⟩ _=(_,⟨_,_,_,_,_,_⟩);simp only[Bz,exN,exE,if_true];rw[if_neg hf,if_neg hm]
  ·show Bz ⟨nb,N.map EN.n,eb,E.map EE.e,x,y⟩ _=(_,⟨_,_,_,_,_,_⟩);simp only[Bz,exN,exE,if_true];rw[if_neg hf,if_pos hm,if_neg (show ¬(E.map EE.e).length<4000 by rw[List.length_map];exact hl)]
  ·show Bz ⟨nb,N.map EN.n,eb,E.map EE.e,x,y⟩ _=(_,⟨_,_,_,_,_,_⟩);simp only[Bz,exN,exE,if_true,hN];rw[if_neg hf,if_pos hm,if_pos (show (E.map EE.e).length<4000 by rw[List.length_map];exact hl)]
 by_cases hf:∃n∈E,n.e.id=z
 rotate_left
 ·have e:=ZX (key:=GE.id) (by rw[exE];exact hf)
  refine Aei h hq (by omega) hf fun σ' c' f=>hP 11 ?_ σ' c' f
  show Bz ⟨nb,N.map EN.n,eb,E.map EE.e,x,y⟩ _=(_,⟨_,_,_,_,_,_⟩);simp only[Bz,if_neg h1,e]
 have fd:∀n∈E.map EE.e,n.id=z→(E.map EE.e).find? (fun n=>decide (n.id=z))=some n:=fun n hn e=>SI hq.iE hn e
 by_cases h2:op=7
 ·subst h2
  obtain⟨n,hn,e⟩:=exE.2 hf
  refine Agq h hq hf (fun σ' c' U2 N' he hN f=>hR _ ?_ σ' c' ⟨_,_,_,_,_,_,_,_,he,rfl⟩ f)
  show Bz ⟨nb,N.map EN.n,eb,E.map EE.e,x,y⟩ _=(_,⟨_,_,_,_,_,_⟩);simp only[Bz,fd n hn e,hN];rw[if_neg (by decide),if_pos trivial]
 obtain rfl:op=8:=by omega
 refine AgW h hq hv hf (fun hx σ' c' f=>hP 20 ?_ σ' c' f) (fun n hn e hx σ' c' N' he hN f=>hR _ ?_ σ' c' ⟨_,_,_,_,_,_,_,_,he,rfl⟩ f) (fun n hn e hx hl σ' c' N' he hN f=>hR _ ?_ σ' c' ⟨_,_,_,_,_,_,_,_,he,rfl⟩ f)
 ·obtain⟨n,hn,e,hx,hk,hl⟩:=hx
  show Bz ⟨nb,N.map EN.n,eb,E.map EE.e,x,y⟩ _=(_,⟨_,_,_,_,_,_⟩);simp only[Bz,fd n hn e];rw[if_neg (by decide),if_neg (by decide),if_neg hx,if_neg (fun h=>h.elim hk hl)]
 ·show Bz ⟨nb,N.map EN.n,eb,E.map EE.e,x,y⟩ _=(_,⟨_,_,_,_,_,_⟩);simp only[Bz,fd n hn e,hN];rw[if_neg (by decide),if_neg (by decide),if_pos hx]
 ·show Bz ⟨nb,N.map EN.n,eb,E.map EE.e,x,y⟩ _=(_,⟨_,_,_,_,_,_⟩);simp only[Bz,fd n hn e,hN];rw[if_neg (by decide),if_neg (by decide),if_neg hx,if_pos hl]
end
section
variable {α κ:Type} {lt:κ→κ→Bool} {key:α→κ}
theorem UQ (hs:MH lt) {k:κ}:∀{l:List α},(below lt key k l).length+(above lt key k l).length≤l.length
 |[]=>by simp[below,above]
 |a::l=>by
  have ih:=UQ hs (k:=k) (l:=l)
  unfold below above at ih ⊢
  cases h1:lt (key a) k<;>cases h2:lt k (key a)
  ·rw[List.filter_cons_of_neg (by simp[h1]),List.filter_cons_of_neg (by simp[h2])];simp;omega
  ·rw[List.filter_cons_of_neg (by simp[h1]),List.filter_cons_of_pos (by simp[h2])];simp;omega
  ·rw[List.filter_cons_of_pos (by simp[h1]),List.filter_cons_of_neg (by simp[h2])];simp;omega
  ·have:=hs.tr _ _ _ h1 h2;rw[hs.LX]at this;cases this
theorem Zj (hs:MH lt) {k:κ}:∀{l:List α},(∃ y∈l,key y=k)→(below lt key k l).length+(above lt key k l).length+1≤l.length
 |[],h=>by simp at h
 |a::l,h=>by
  by_cases hk:key a=k
  ·have ih:=UQ hs (key:=key) (k:=k) (l:=l)
   unfold below above at ih ⊢
   have h1:lt (key a) k=false:=by rw[hk];exact hs.LX _
   have h2:lt k (key a)=false:=by rw[hk];exact hs.LX _
   rw[List.filter_cons_of_neg (by simp[h1]),List.filter_cons_of_neg (by simp[h2])];simp;omega
  ·have hm:∃y∈l,key y=k:=by
        obtain⟨y,hy,e⟩:=h
        rcases List.mem_cons.1 hy with rfl|hy
        ·exact absurd e hk
        ·exact⟨y,hy,e⟩
   have ih:=Zj hs hm
   unfold below above at ih ⊢
   cases h1:lt (key a) k<;>cases h2:lt k (key a)
   ·rw[List.filter_cons_of_neg (by simp[h1]),List.filter_cons_of_neg (by simp[h2])];simp;omega
   ·rw[List.filter_cons_of_neg (by simp[h1]),List.filter_cons_of_pos (by simp[h2])];simp;omega
   ·rw[List.filter_cons_of_pos (by simp[h1]),List.filter_cons_of_neg (by simp[h2])];simp;omega
   ·have:=hs.tr _ _ _ h1 h2;rw[hs.LX]at this;cases this
theorem Gq (hs:MH lt) {x:α} {l:List α}:(AY lt key x l).length≤l.length+1:=by
 have:=UQ hs (key:=key) (k:=key x) (l:=l)
 simp only[AY,List.length_append,List.length_singleton];omega
theorem IC (hs:MH lt) {x:α} {l:List α} (h:∃y∈l,key y=key x):(AY lt key x l).length≤l.length:=by
 have:=Zj hs (key:=key) (k:=key x) (l:=l) h
 simp only[AY,List.length_append,List.length_singleton];omega
theorem Em (hs:MH lt) {k:κ} {l:List α}:(Cj lt key k l).length≤l.length:=by
 have:=UQ hs (key:=key) (k:=k) (l:=l)
 simp only[Cj,List.length_append];omega
end
structure Zk (n:GN):Prop where
 iL:Inc Op.bytesLess id n.labels
 lL:n.labels.length≤8
 iP:Inc Op.bytesLess GP.key n.props
 lP:n.props.length≤16
structure AbA (n:GE):Prop where
 iP:Inc Op.bytesLess GP.key n.props
 lP:n.props.length≤16
structure FY (g:GG):Prop where
 lN:g.nodes.length≤2000
 lE:g.edges.length≤4000
 iN:Inc BU GN.id g.nodes
 iE:Inc BU GE.id g.edges
 aN:∀n∈g.nodes,Zk n
 aE:∀n∈g.edges,AbA n
 bx:-2^62≤g.Bl∧g.Bl≤2^62
 by_:-2^62≤g.Bq∧g.Bq≤2^62
theorem FY.ask {nb eb:Bool} {N:List EN} {E:List EE} {x y:Int} (h:FY (Jk nb eb N E x y)):Ask N E x y where
 lN:=by have:=h.lN;simpa[Jk]using this
 lE:=by have:=h.lE;simpa[Jk]using this
 iN:=h.iN
 iE:=h.iE
 iL:=fun e he=>by have:=h.aN e.n (List.mem_map_of_mem he);exact⟨this.iL,this.lL⟩
 iP:=fun e he=>by have:=h.aN e.n (List.mem_map_of_mem he);exact⟨this.iP,this.lP⟩
 iQ:=fun e he=>by have:=h.aE e.e (List.mem_map_of_mem he);exact⟨this.iP,this.lP⟩
 bx:=h.bx
 by_:=h.by_
theorem FY.LY {g:GG} (h:FY g) {n:GN} (hn:Zk n) (hm:∃m∈g.nodes,m.id=n.id):FY {g with nodes:=AY BU GN.id n g.nodes}:=
 {h with
  lN:=Nat.le_trans (IC Aj hm) h.lN
  iN:=EP Aj h.iN
  aN:=fun m hm=>by rcases Bc Aj hm with rfl|hm;exact hn;exact h.aN _ hm}
theorem FY.UR {g:GG} (h:FY g) {n:GE} (hn:AbA n) (hm:∃m∈g.edges,m.id=n.id):FY {g with edges:=AY BU GE.id n g.edges}:=
 {h with
  lE:=Nat.le_trans (IC Aj hm) h.lE
  iE:=EP Aj h.iE
  aE:=fun m hm=>by rcases Bc Aj hm with rfl|hm;exact hn;exact h.aE _ hm}
theorem Dx {α:Type} {p:α→Bool} {l:List α} {n:α} (h:l.find? p=some n):n∈l∧p n=true:=⟨List.mem_of_find?_eq_some h,List.find?_some h⟩
theorem FY.node {g:GG} (h:FY g) {c:GC} (hid:KI c.id):FY (AZ g c).2:=by
 unfold AZ
 split
 ·split
  ·exact h
  split
  ·rename_i hl
   exact{h with
        lN:=by have:=Gq (key:=GN.id) Aj (x:=⟨c.id,false,[],false,[]⟩) (l:=g.nodes);show(AY BU GN.id _ g.nodes).length≤2000;omega
        iN:=EP Aj h.iN
        aN:=fun m hm=>by
         rcases Bc Aj hm with rfl|hm
         ·exact⟨List.Pairwise.nil,by simp,List.Pairwise.nil,by simp⟩
         ·exact h.aN _ hm
        bx:=by have:=h.bx;have:=hid.2;have:=hid.1;show _≤(if c.id+1>g.Bl then c.id+1 else g.Bl)∧(if c.id+1>g.Bl then c.id+1 else g.Bl)≤_;split<;>omega}
  ·exact h
 split
 ·exact h
 rename_i n hf
 obtain⟨hn,hz⟩:=Dx hf
 replace hz:=of_decide_eq_true hz
 have ha:=h.aN n hn
 split
 ·split
  ·exact h
  ·exact{h with lN:=Nat.le_trans (Em Aj) h.lN,iN:=FI Aj h.iN,aN:=fun m hm=>h.aN m (BX hm)}
 split
 ·split
  ·exact h
  split
  ·rename_i hl
   exact h.LY ⟨EP Ah ha.iL,Nat.le_trans (Gq Ah) (by omega),ha.iP,ha.lP⟩ ⟨n,hn,rfl⟩
  ·exact h
 split
 ·split
  ·exact h.LY ⟨FI Ah ha.iL,Nat.le_trans (Em Ah) ha.lL,ha.iP,ha.lP⟩ ⟨n,hn,rfl⟩
  ·exact h
 split
 ·exact h.LY ⟨ha.iL,ha.lL,FI Ah ha.iP,Nat.le_trans (Em Ah) ha.lP⟩ ⟨n,hn,rfl⟩
 split
 ·rename_i hx
  refine h.LY ⟨ha.iL,ha.lL,EP Ah ha.iP,?_⟩ ⟨n,hn,rfl⟩
  rcases hx with hx|hx
  ·exact Nat.le_trans (IC Ah hx) ha.lP
  ·exact Nat.le_trans (Gq Ah) (by omega)
 ·exact h
theorem FY.edge {g:GG} (h:FY g) {c:GC} (hid:KI c.id):FY (Bz g c).2:=by
 unfold Bz
 split
 ·split
  ·exact h
  split
  ·split
   ·rename_i hl
    exact{h with
     lE:=by have:=Gq (key:=GE.id) Aj (x:=⟨c.id,c.fr,c.to,c.name,false,[]⟩) (l:=g.edges);show(AY BU GE.id _ g.edges).length≤4000;omega
     iE:=EP Aj h.iE
     aE:=fun m hm=>by
      rcases Bc Aj hm with rfl|hm
      ·exact⟨List.Pairwise.nil,by simp⟩
      ·exact h.aE _ hm
     by_:=by have:=h.by_;have:=hid.2;have:=hid.1;show _≤(if c.id+1>g.Bq then c.id+1 else g.Bq)∧(if c.id+1>g.Bq then c.id+1 else g.Bq)≤_;split<;>omega}
   ·exact h
  ·exact h
 split
 ·exact h
 rename_i n hf
 obtain⟨hn,hz⟩:=Dx hf
 have ha:=h.aE n hn
 split
 ·exact{h with lE:=Nat.le_trans (Em Aj) h.lE,iE:=FI Aj h.iE,aE:=fun m hm=>h.aE m (BX hm)}
 split
 ·exact h.UR ⟨FI Ah ha.iP,Nat.le_trans (Em Ah) ha.lP⟩ ⟨n,hn,rfl⟩
 split
 ·rename_i hx
  refine h.UR ⟨EP Ah ha.iP,?_⟩ ⟨n,hn,rfl⟩
  rcases hx with hx|hx
  ·exact Nat.le_trans (IC Ah hx) ha.lP
  ·exact Nat.le_trans (Gq Ah) (by omega)
 ·exact h
theorem FY.step {g:GG} (h:FY g) {c:GC}:FY (stepG g c).2:=by
 unfold stepG
 split
 ·exact h
 rename_i hk
 have h0:=Abz (Classical.not_not.1 hk)
 split
 ·exact h.node h0.2.1
 ·exact h.edge h0.2.1
section
variable {AP:Nat→Option H7}
def AcM (D:VI) (K:AA→Ap→Prop) (env:Env) (s:Ap):Prop:=Kv (Ej env s D.results) fun vs=>K (.ok (H9 vs)) s
def YI (AP:Nat→Option H7) (D:VI) (K:AA→Ap→Prop) (c v:AV) (env:Env) (s:Ap):Prop:=match v with
 | .iface t (.int k n)=>need (t=D.tag) (JD AP (.store 1 (.cst c) (.cst (.int k n))) [] s fun out s'=>match out with
   | .ok _=>AcM D K env s'
   | .Dp _=>False)
 |_=>False
def Aie (AP:Nat→Option H7) (D:VI) (K:AA→Ap→Prop) (AjX:Env) (e:Bd) (env:Env) (s:Ap):Prop:=match e with
 | .normal=>AcM D K env s
 | .ret=>AcM D K env s
 | .Dp v=>YI AP D K (AjX.get D.cell) v env s
 | .exit _=>False
def Aif (AP:Nat→Option H7) (D:VI) (K:AA→Ap→Prop) (e:Bd) (env:Env) (s:Ap):Prop:=match e with
 | .ret=>AcM D K env s
 | .Dp v=>K (.Dp v) s
 | .normal=>match env.get D.tcl with
   | .junk=>vC AP D.post env s (Aie AP D K env)
   |_=>False
 | .exit _=>False
theorem Oc {D:VI} {K:AA→Ap→Prop} {env:Env} {s:Ap} (h:AcM D K env s):∃out s',Vj D env s=some (out,s')∧K out s':=by
 obtain⟨vs,h1,h2⟩:=h
 exact⟨_,_,by simp only[Vj,h1,Option.map_some],h2⟩
theorem YJ {D:VI} {K:AA→Ap→Prop} {c v:AV} {env:Env} {s:Ap} (h:YI AP D K c v env s):∃N out s',Na (run AP N) D c v env s=some (out,s')∧K out s':=by
 unfold YI at h
 split at h
 ·obtain⟨rfl,h⟩:=h
  obtain⟨N,out,s1,h1,h2⟩:=GL h
  cases out with
  |ok u=>
   obtain⟨out,s',h3,h4⟩:=Oc h2
   exact⟨N,out,s',by simp only[Na,if_true,h1];exact h3,h4⟩
  |Dp u=>cases h2
 ·cases h
theorem AaO {f:Nat} {D:VI} {args:List AV} {s:Ap} {K:AA→Ap→Prop} (hf:AP f=some (.dfr D)) (hl:args.length=D.np) (h:vC AP (.seq D.YK D.pre2) (params args 0) s (Aif AP D K)):AQ AP f args s K:=by
 obtain⟨N,e,env,s1,h1,h2⟩:=Jm h
 cases e with
 |ret=>
  obtain⟨out,s',h3,h4⟩:=Oc h2
  exact⟨N+1,out,s',by simp only[run,hf,if_pos hl,evD,h1];exact h3,h4⟩
 |Dp v=>exact⟨N+1,_,_,by simp only[run,hf,if_pos hl,evD,h1],h2⟩
 |exit id=>cases h2
 |normal=>
  simp only[Aif]at h2
  split at h2
  ·rename_i hj
   obtain⟨M,e2,DJ,s2,h3,h4⟩:=Jm h2
   have h1':=fun P=>DV (BA (AP:=AP) (Nat.le_max_left N P)) (Nat.le_max_left N P) h1
   cases e2 with
   |normal=>
    obtain⟨out,s',h5,h6⟩:=Oc h4
    have h3':=DV (BA (AP:=AP) (Nat.le_max_right N M)) (Nat.le_max_right N M) h3
    exact⟨max N M+1,out,s',by simp only[run,hf,if_pos hl,evD,h1' M,hj,h3'];exact h5,h6⟩
   |ret=>
    obtain⟨out,s',h5,h6⟩:=Oc h4
    have h3':=DV (BA (AP:=AP) (Nat.le_max_right N M)) (Nat.le_max_right N M) h3
    exact⟨max N M+1,out,s',by simp only[run,hf,if_pos hl,evD,h1' M,hj,h3'];exact h5,h6⟩
   |Dp v=>
    obtain⟨P,out,s',h5,h6⟩:=YJ h4
    have h3':=DV (BA (AP:=AP) (show M≤max N (max M P) by omega)) (show M≤max N (max M P) by omega) h3
    have h5':=PW (BA (AP:=AP) (show P≤max N (max M P) by omega)) h5
    exact⟨max N (max M P)+1,out,s',by simp only[run,hf,if_pos hl,evD,h1' (max M P),hj,h3'];exact h5',h6⟩
   |exit id=>cases h4
  ·cases h2
end
section
variable {σ:List Obj} {d gd:Nat} {vN vE:AV} {nb eb:Bool} {N:List EN} {E:List EE} {x y:Int} {ct:Nat} {K:AA→Ap→Prop}
theorem Ed.AeN {σ:List Obj} {d gd:Nat} {vN vE:AV} {nb eb:Bool} {N:List EN} {E:List EE} {x y:Int} (h:Ed σ d gd vN vE nb eb N E x y) {o g:Nat} {c:Bool} {k:IntKind} {z:Int} (ho:nth σ o=some (.arr g 1 true c [.int k z])):∀q∈d::(vN.obj++(vE.obj++BG N E)),q∉[o]:=by
 intro q hq hm
 obtain rfl:q=o:=by simpa using hm
 obtain⟨cn,hn1,_⟩:=h.hn
 obtain⟨ce,he1,_⟩:=h.he
 rcases List.mem_cons.1 hq with rfl|hq
 ·have:=h.box;rw[ho]at this;simp at this
 rcases List.mem_append.1 hq with hq|hq
 ·exact hn1.diff ho (by decide) hq
 rcases List.mem_append.1 hq with hq|hq
 ·exact he1.diff ho (by decide) hq
 rcases List.mem_append.1 hq with hq|hq<;>obtain⟨e,he,hm⟩:=List.mem_flatMap.1 hq
 ·rcases List.mem_append.1 hm with hm|hm
  ·rcases(h.hN e he).1 with⟨_,_,h1|⟨o',g',es',h1,h2⟩⟩|⟨_,o',g',h1,h2⟩
   ·rw[h1]at hm;simp[AV.obj]at hm
   ·rw[h1]at hm;simp only[AV.obj,List.mem_singleton]at hm;subst hm;rw[ho]at h2;simp at h2
   ·rw[h1]at hm;simp only[AV.obj,List.mem_singleton]at hm;subst hm;rw[ho]at h2
    simp only[Option.some.injEq,Obj.arr.injEq]at h2
    have:=h2.2.2.2.2
    cases hl:e.n.labels with
    |nil=>rw[hl]at this;simp[vs]at this
    |cons a l=>rw[hl]at this;simp[vs]at this
  ·exact(h.hN e he).2.diff ho (by decide) hm
 ·exact Hd.diff (h.hE e he) ho (by decide) hm
theorem EdG.cell {σ σ':List Obj} {d gd:Nat} {g:GG} (h:EdG σ d gd g) {o u:Nat} {c:Bool} {k:IntKind} {z:Int} (ho:nth σ o=some (.arr u 1 true c [.int k z])) (f:Fr σ σ' [o]):EdG σ' d gd g:=by
 obtain⟨vN,vE,nb,eb,N,E,x,y,hE,e⟩:=h
 exact⟨_,_,_,_,_,_,_,_,hE.fr f (hE.AeN ho),e⟩
theorem Adl {σ:List Obj} {o g c':Nat} {nn cl:Bool} {z:Int} (h:nth σ o=some (.arr g 1 nn cl [.int .i64 z])):Ej [(4,.ref o g 0 0)] ⟨σ,c'⟩ Qy.results=some [.int .i64 z]:=by
 show(match Gz [(4,.ref o g 0 0)] ⟨σ,c'⟩ (.cell 4 none),Ej [(4,.ref o g 0 0)] ⟨σ,c'⟩ []with
  |some v,some vs=>some (v::vs)
  |_,_=>none)=_
 have e:Gz [(4,.ref o g 0 0)] ⟨σ,c'⟩ (.cell 4 none)=some (.int .i64 z):=by
  simp[Gz,Env.get,h,nth,AV.cells,loadCells]
 rw[e]
 rfl
set_option maxHeartbeats 4000000 in
theorem stepW {c:GC} (h:Ed σ d gd vN vE nb eb N E x y) (hq:Ask N E x y) (hok:c.ok)
 (hR:∀σ' c',EdG σ' d gd (stepG (Jk nb eb N E x y) c).2→Fr σ σ' (d::(vN.obj++(vE.obj++BG N E)))→K (.ok (.int .i64 (stepG (Jk nb eb N E x y) c).1)) ⟨σ',c'⟩):
 AQ (Ad tab) 59 [.ref d gd 0 0,c.av] ⟨σ,ct⟩ K:=by
 have hck:=AiB hok
 have hlt:=h.MZ
 have hdl:=BZ h.box
 have hv:c.v.ok:=hok.2.2.2.2.2
 have h0:=fun(h0:Iq c=0)=>Abz h0
 obtain⟨op,z,fr,to,nm,v⟩:=c
 refine AaO rfl rfl ?_
 show vC _ _ [(0,.ref d gd 0 0),(1,.agg [.int .i64 op,.int .i64 z,.int .i64 fr,.int .i64 to,.str nm,.int .i64 v.k,.int .i64 v.n,.int .i64 v.d,.str v.s,.sl v.nn v.l])] _ _
 conv=>whnf
 (conv=>whnf);repeat' (first|(refine Cb fun σ2 f2 h2 l2=>?_;have h12:=f2.get h1 (by simp);have hE2:=(h.LZ f1).LZ f2;have f02:=f1.trans f2;conv=>whnf)|(refine Cb fun σ1 f1 h1 l1=>?_;conv=>whnf)|(refine Aa hck ?_;rintro _ rfl;conv=>whnf)|(rw [h12];conv=>whnf)|(rw [h2];conv=>whnf)|(refine EG h2 fun σ3 f3 h3 l3=>?_;conv=>whnf)|(rw [h3];conv=>whnf)|(refine kA ?_;conv=>whnf)|(refine Br.mk (fun hc=>?_) fun hc=>?_<;>first|exact hc.elim|conv=>whnf)|(refine kB ?_))
 all_goals have hns:∀q∈d::(vN.obj++(vE.obj++BG N E)),q<σ.length:=hlt
 all_goals have l1':σ1.length=σ.length+1:=l1
 ·have hk:Iq (GC.mk op z fr to nm v)=0:=by assumption
  have h0':=h0 hk
  have hs:stepG (Jk nb eb N E x y) ⟨op,z,fr,to,nm,v⟩=AZ (Jk nb eb N E x y) ⟨op,z,fr,to,nm,v⟩:=by
   unfold stepG;rw[if_neg (fun h=>h hk),if_pos hc]
  refine AgS hE2 hq ⟨h0'.1.1,hc⟩ h0'.2.1 hv (fun e he σ' c' f=>?_) (fun g' hg σ' c' hE' f=>?_)
  ·have hz3:=f.get h2 (by simp)
   (conv=>whnf);repeat' (first|(rw [hz3];conv=>whnf)|(refine EG hz3 fun σ4 f4 h4 l4=>?_;conv=>whnf)|(refine kA ?_;conv=>whnf)|(refine Br.mk (fun hc=>?_) fun hc=>?_<;>first|exact hc.elim|conv=>whnf)|(refine kB ?_))
   refine⟨_,Adl h4,?_⟩
   rw[hs,he]at hR
   have ff:Fr σ σ4 []:=(((f02.trans f).mono (by simp)).trans f4).mono (by simp;omega)
   exact hR _ _ ⟨_,_,_,_,_,_,_,_,h.LZ ff,rfl⟩ (ff.mono (by simp))
  ·have hz3:=f.get h2 (fun hm=>by have:=hns _ hm;dsimp only at this;omega)
   (conv=>whnf);repeat' (first|(rw [hz3];conv=>whnf)|(refine EG hz3 fun σ4 f4 h4 l4=>?_;conv=>whnf)|(refine kA ?_;conv=>whnf)|(refine Br.mk (fun hc=>?_) fun hc=>?_<;>first|exact hc.elim|conv=>whnf)|(refine kB ?_))
   refine⟨_,Adl h4,?_⟩
   rw[hs,hg]at hR
   refine hR _ _ (hE'.cell hz3 f4) ((((f02.mono (F':=σ1.length::(d::(vN.obj++(vE.obj++BG N E)))) (by simp)).trans (f.mono (by intro q hq;exact .inl (List.mem_cons_of_mem _ hq)))).trans (f4.mono (by simp))).mono fun q hq=>?_)
   rcases List.mem_cons.1 hq with rfl|hq
   ·exact .inr (by omega)
   ·exact .inl hq
 ·have hk:Iq (GC.mk op z fr to nm v)=0:=by assumption
  have h0':=h0 hk
  have hs:stepG (Jk nb eb N E x y) ⟨op,z,fr,to,nm,v⟩=Bz (Jk nb eb N E x y) ⟨op,z,fr,to,nm,v⟩:=by
   unfold stepG;rw[if_neg (fun h=>h hk),if_neg hc]
  refine AgT hE2 hq ⟨show 6≤op by omega,h0'.1.2⟩ h0'.2.1 hv (fun e he σ' c' f=>?_) (fun g' hg σ' c' hE' f=>?_)
  ·have hz3:=f.get h2 (by simp)
   (conv=>whnf);repeat' (first|(rw [hz3];conv=>whnf)|(refine EG hz3 fun σ4 f4 h4 l4=>?_;conv=>whnf)|(refine kA ?_;conv=>whnf)|(refine Br.mk (fun hc=>?_) fun hc=>?_<;>first|exact hc.elim|conv=>whnf)|(refine kB ?_))
   refine⟨_,Adl h4,?_⟩
   rw[hs,he]at hR
   have ff:Fr σ σ4 []:=(((f02.trans f).mono (by simp)).trans f4).mono (by simp;omega)
   exact hR _ _ ⟨_,_,_,_,_,_,_,_,h.LZ ff,rfl⟩ (ff.mono (by simp))
  ·have hz3:=f.get h2 (fun hm=>by have:=hns _ hm;dsimp only at this;omega)
   (conv=>whnf);repeat' (first|(rw [hz3];conv=>whnf)|(refine EG hz3 fun σ4 f4 h4 l4=>?_;conv=>whnf)|(refine kA ?_;conv=>whnf)|(refine Br.mk (fun hc=>?_) fun hc=>?_<;>first|exact hc.elim|conv=>whnf)|(refine kB ?_))
   refine⟨_,Adl h4,?_⟩
   rw[hs,hg]at hR
   refine hR _ _ (hE'.cell hz3 f4) ((((f02.mono (F':=σ1.length::(d::(vN.obj++(vE.obj++BG N E)))) (by simp)).trans (f.mono (by intro q hq;exact .inl (List.mem_cons_of_mem _ hq)))).trans (f4.mono (by simp))).mono fun q hq=>?_)
   rcases List.mem_cons.1 hq with rfl|hq
   ·exact .inr (by omega)
   ·exact .inl hq
 ·have hk:Iq (GC.mk op z fr to nm v)≠0:=by assumption
  refine⟨_,Adl h3,?_⟩
  have hs:stepG (Jk nb eb N E x y) ⟨op,z,fr,to,nm,v⟩=(Iq ⟨op,z,fr,to,nm,v⟩,Jk nb eb N E x y):=by
   unfold stepG;rw[if_pos hk]
  rw[hs]at hR
  have ff:Fr σ σ3 []:=((f02.mono (by simp)).trans f3).mono (by simp;omega)
  exact hR _ _ ⟨_,_,_,_,_,_,_,_,h.LZ ff,rfl⟩ (ff.mono (by simp))
end
theorem AeG {g es:Nat} {ys:List AV} {bytes:Nat} {K:Nat→Bool→Bool→List AV→Prop} (hs:Bo es ys) (hr:ys.length*bytes≤2 ^ 46) (h:K ys.length true true ys):
 LU g g es es 0 true true true [] ys bytes K:=by
 refine⟨⟨rfl,rfl,by simp,hs,?_⟩,?_⟩
 ·rw[Nat.zero_add];exact Jr hr
 ·rw[Nat.zero_add];exact h
theorem Adk {α:Type} {fv:α→AV} {AP:Nat→Option H7} {f es:Nat} {l:List α} {nn:Bool} {s:Ap} {K:AV→Ap→Prop} (hn:nn=false→l=[]) (hcl:DI [.sl nn (vs fv l)]=true)
 (h0:AQ AP f [.sl false []] ⟨[],0⟩ fun out _=>out=.ok (.sl false []))
 (h1:AQ AP f [.sl true (vs fv l)] ⟨[],0⟩ fun out s'=>∃o g,out=.ok (.own o g 0 l.length)∧nth s'.σ o=some (.arr g es true true (vs fv l)))
 (hk:∀σ' es',Fr s.σ σ' []→nth σ' s.σ.length=some (.arr s.ctr es' nn true (vs fv l))→(nn=true→es'=es)→σ'.length=s.σ.length+1→K (.own s.σ.length s.ctr 0 l.length) ⟨σ',s.ctr+1⟩):
 ∃N r s',A8 (run AP N) .own f [.sl nn (vs fv l)] s=some (.ok r,s')∧K r s':=by
 cases nn with
 |false=>
  obtain rfl:=hn rfl
  exact QF hcl h0 (hk _ 1 ⟨by simp,fun o ho _=>Nu ho⟩ KG (by simp) (by simp))
 |true=>
  refine Aad (elems:=vs fv l) (es:=es) hcl (by rw[lV];exact h1) ?_
  rw[lV]
  exact hk _ es ⟨by simp,fun o ho _=>Nu ho⟩ KG (fun _=>rfl) (by simp)
theorem AeH:AQ (Ad tab) 87 [.sl false []] ⟨[],0⟩ fun out _=>out=.ok (.sl false []):=by
 refine Am rfl rfl ?_
 (conv=>whnf);repeat' (first|(refine kA ?_;conv=>whnf)|(refine Br.mk (fun hc=>?_) fun hc=>?_<;>first|exact hc.elim|conv=>whnf)  |(refine kB ?_))
 rfl
theorem AeI {l:List (List UInt8)} (hl:l.length≤5000):AQ (Ad tab) 87 [.sl true (vs .str l)] ⟨[],0⟩ fun out s'=>∃o g,out=.ok (.own o g 0 l.length)∧nth s'.σ o=some (.arr g 1 true true (vs .str l)):=by
 refine Am rfl rfl ?_
 (conv=>whnf);repeat' (first|(refine kA ?_;conv=>whnf)|(refine Br.mk (fun hc=>?_) fun hc=>?_<;>first|exact hc.elim|conv=>whnf)  |(refine kB ?_))
 refine AeG (F7 (f:=.str) (fun _=>rfl) l) (by rw[lV];omega) ?_
 rw[lV]
 (conv=>whnf);repeat' (first|(refine kA ?_;conv=>whnf)|(refine Br.mk (fun hc=>?_) fun hc=>?_<;>first|exact hc.elim|conv=>whnf)  |(refine kB ?_))
 exact⟨_,_,rfl,rfl⟩
theorem ZT:AQ (Ad tab) 88 [.sl false []] ⟨[],0⟩ fun out _=>out=.ok (.sl false []):=by
 refine Am rfl rfl ?_
 (conv=>whnf);repeat' (first|(refine kA ?_;conv=>whnf)|(refine Br.mk (fun hc=>?_) fun hc=>?_<;>first|exact hc.elim|conv=>whnf)  |(refine kB ?_))
 rfl
theorem ZU {l:List GP} (hl:l.length≤5000):AQ (Ad tab) 88 [.sl true (vs GP.av l)] ⟨[],0⟩ fun out s'=>∃o g,out=.ok (.own o g 0 l.length)∧nth s'.σ o=some (.arr g 6 true true (vs GP.av l)):=by
 refine Am rfl rfl ?_
 (conv=>whnf);repeat' (first|(refine kA ?_;conv=>whnf)|(refine Br.mk (fun hc=>?_) fun hc=>?_<;>first|exact hc.elim|conv=>whnf)  |(refine kB ?_))
 refine AeG (F7 (f:=GP.av) (fun _=>rfl) l) (by rw[lV];omega) ?_
 rw[lV]
 (conv=>whnf);repeat' (first|(refine kA ?_;conv=>whnf)|(refine Br.mk (fun hc=>?_) fun hc=>?_<;>first|exact hc.elim|conv=>whnf)  |(refine kB ?_))
 exact⟨_,_,rfl,rfl⟩
theorem AeJ:AQ (Ad tab) 86 [.sl false []] ⟨[],0⟩ fun out _=>out=.ok (.sl false []):=by
 refine Am rfl rfl ?_
 (conv=>whnf);repeat' (first|(refine kA ?_;conv=>whnf)|(refine Br.mk (fun hc=>?_) fun hc=>?_<;>first|exact hc.elim|conv=>whnf)  |(refine kB ?_))
 rfl
theorem AeK {l:List GN} (hl:l.length≤5000):AQ (Ad tab) 86 [.sl true (vs GN.av l)] ⟨[],0⟩ fun out s'=>∃o g,out=.ok (.own o g 0 l.length)∧nth s'.σ o=some (.arr g 3 true true (vs GN.av l)):=by
 refine Am rfl rfl ?_
 (conv=>whnf);repeat' (first|(refine kA ?_;conv=>whnf)|(refine Br.mk (fun hc=>?_) fun hc=>?_<;>first|exact hc.elim|conv=>whnf)  |(refine kB ?_))
 refine AeG (F7 (f:=GN.av) (fun _=>rfl) l) (by rw[lV];omega) ?_
 rw[lV]
 (conv=>whnf);repeat' (first|(refine kA ?_;conv=>whnf)|(refine Br.mk (fun hc=>?_) fun hc=>?_<;>first|exact hc.elim|conv=>whnf)  |(refine kB ?_))
 exact⟨_,_,rfl,rfl⟩
theorem AeL:AQ (Ad tab) 51 [.sl false []] ⟨[],0⟩ fun out _=>out=.ok (.sl false []):=by
 refine Am rfl rfl ?_
 (conv=>whnf);repeat' (first|(refine kA ?_;conv=>whnf)|(refine Br.mk (fun hc=>?_) fun hc=>?_<;>first|exact hc.elim|conv=>whnf)  |(refine kB ?_))
 rfl
theorem AeM {l:List GE} (hl:l.length≤5000):AQ (Ad tab) 51 [.sl true (vs GE.av l)] ⟨[],0⟩ fun out s'=>∃o g,out=.ok (.own o g 0 l.length)∧nth s'.σ o=some (.arr g 5 true true (vs GE.av l)):=by
 refine Am rfl rfl ?_
 (conv=>whnf);repeat' (first|(refine kA ?_;conv=>whnf)|(refine Br.mk (fun hc=>?_) fun hc=>?_<;>first|exact hc.elim|conv=>whnf)  |(refine kB ?_))
 refine AeG (F7 (f:=GE.av) (fun _=>rfl) l) (by rw[lV];omega) ?_
 rw[lV]
 (conv=>whnf);repeat' (first|(refine kA ?_;conv=>whnf)|(refine Br.mk (fun hc=>?_) fun hc=>?_<;>first|exact hc.elim|conv=>whnf)  |(refine kB ?_))
 exact⟨_,_,rfl,rfl⟩
def enF (n:GN):EN:=⟨n,.sl n.ln (vs .str n.labels),.sl n.pn (vs GP.av n.props)⟩
def eeF (e:GE):EE:=⟨e,.sl e.pn (vs GP.av e.props)⟩
theorem set_mid {α β:Type} {L:List β} {l:List α} {f:α→β} {i:Nat} {x:β} (hL:L.length=i) (hi:i<l.length):(L++(l.drop i).map f).set i x=(L++[x])++(l.drop (i+1)).map f:=by
 subst hL
 rw[List.drop_eq_getElem_cons hi,List.map_cons,List.set_append_right _ _ (Nat.le_refl _),Nat.sub_self,List.set_cons_zero,List.append_assoc]
 rfl
theorem ZW {α β:Type} {L:List β} {l:List α} {f:α→β} {i:Nat} {fv:β→AV} (hL:L.length=i) (hi:i<l.length):nth (vs fv (L++(l.drop i).map f)) i=some (fv (f l[i])):=by
 subst hL
 rw[List.drop_eq_getElem_cons hi,AX,vs,List.getElem?_map,List.getElem?_append_right (Nat.le_refl _),Nat.sub_self]
 rfl
theorem Adm {α:Type} {f:α→AV} {l:List α} {i:Nat} {a:α}:(vs f l).set i (f a)=vs f (l.set i a):=by simp[vs,List.map_set]
theorem Adn {α:Type} {f:α→AV} {es es':Nat} {σ:List Obj} {p g:Nat} {nn:Bool} {l:List α} (h:nth σ p=some (.arr g es' nn true (vs f l))) (h1:nn=true→es'=es) (h2:nn=false→l=[]):Hd f es σ (.own p g 0 l.length) nn l true:=by
 cases nn with
 |false=>obtain rfl:=h2 rfl;exact .inl ⟨rfl,rfl,.inr ⟨_,_,_,rfl,h⟩⟩
 |true=>obtain rfl:=h1 rfl;exact .inr ⟨rfl,_,_,rfl,h⟩
theorem XI {o g i n:Nat}:FQ (.own o g i n) (.own o g i n)=true:=by simp[FQ]
section
variable {σ:List Obj} {ct:Nat}
set_option maxHeartbeats 4000000 in
theorem cpN {g:GG} {p1 p2 p3 u1 u2 u3 o u:Nat} {es:Nat} {Q:Bd→Env→Ap→Prop} (hl:g.nodes.length≤2000) (hok:∀n∈g.nodes,n.ok∧n.labels.length≤8∧n.props.length≤16) (hnn:g.nn=false→g.nodes=[]) (hes:g.nn=true→es=3)
 (h3:nth σ p3=some (.arr u3 4 true false [.agg [.own o u 0 g.nodes.length,.sl g.en (vs GE.av g.edges),.int .i64 g.Bl,.int .i64 g.Bq]]))
 (ho:nth σ o=some (.arr u es g.nn true (vs GN.av g.nodes))) (h3o:p3≠o)
 (hQ:∀σ' c' c1 L tl,Fr σ σ' [o]→nth σ' o=some (.arr u es g.nn c1 (vs EN.av L))→L.map EN.n=g.nodes→(∀ e∈L,e.Ok σ')→(∀ q∈L.flatMap EN.objs,σ.length≤q)→(L.flatMap EN.objs).Nodup→(c1=true↔L=[])→Q (.exit 0) ([(1,.ref p1 u1 0 0),(2,.ref p2 u2 0 0),(3,.ref p3 u3 0 0),(14,.own o u 0 g.nodes.length),(15,.int .i64 g.nodes.length),(16,.int .i64 g.nodes.length)]++tl) ⟨σ',c'⟩):
 Run (Ad tab) (.loop l58_0_h l58_0_b) [(1,.ref p1 u1 0 0),(2,.ref p2 u2 0 0),(3,.ref p3 u3 0 0),(14,.own o u 0 g.nodes.length),(15,.int .i64 g.nodes.length),(16,.int .i64 0)] ⟨σ,ct⟩ Q:=by
 refine Ak (fun m env s=>∃(i c':Nat) (σ':List Obj) (L:List EN) (c1:Bool),m=g.nodes.length-i∧i≤g.nodes.length∧env=[(1,.ref p1 u1 0 0),(2,.ref p2 u2 0 0),(3,.ref p3 u3 0 0),(14,.own o u 0 g.nodes.length),(15,.int .i64 g.nodes.length),(16,.int .i64 i)]∧s=⟨σ',c'⟩∧Fr σ σ' [o]∧nth σ' o=some (.arr u es g.nn c1 (vs EN.av (L++(g.nodes.drop i).map enF)))∧L.length=i∧L.map EN.n=g.nodes.take i∧(∀ e∈L,e.Ok σ')∧(∀ q∈L.flatMap EN.objs,σ.length≤q)∧(L.flatMap EN.objs).Nodup∧(c1=true↔L=[])) ?_ _ _ _ ⟨0,_,_,[],true,rfl,by omega,rfl,rfl,Fr.refl,?_,rfl,rfl,by simp,by simp,by simp,by simp⟩
 rotate_left
 ·rw[ho,List.nil_append,List.drop_zero,vs,vs,List.map_map];rfl
 rintro _ _ _ ⟨i,c',σ',L,c1,rfl,hi,rfl,rfl,f0,ho0,hL,hm,Vx,hLn,hLd,hc1⟩
 refine⟨rfl,?_⟩
 by_cases hlt:i<g.nodes.length
 ·have Y0:g.nn=true:=by
   cases hb:g.nn with
   |true=>rfl
   |false=>rw[hnn hb]at hlt;simp at hlt
  obtain rfl:=hes Y0
  rw[Y0]at ho0
  have hmem:g.nodes[i]∈g.nodes:=List.getElem_mem hlt
  obtain⟨hno,hlb,hpp⟩:=hok _ hmem
  have h30:=f0.get h3 (by simpa using h3o)
  have g0:=ZW (fv:=EN.av) (f:=enF) hL hlt
  have hol:=BZ ho0
  have hos:=BZ ho
  have hp3:=BZ h30
  obtain⟨n,hn⟩:∃n,n=g.nodes[i]:=⟨_,rfl⟩
  rw[← hn]at g0 hno hlb hpp
  have hln:=hno.2.2.1
  have hpn:=hno.2.2.2.2.2.1
  (conv=>whnf);repeat' (first|(refine need.mk XI ?_;conv=>whnf)|(refine Cb fun σ1 f1 h1 l1=>?_;have ho1:=f1.get ho0 (by simp);have h31:=f1.get h30 (by simp);conv=>whnf)|(rw [ho0];conv=>whnf)|(rw [h1];conv=>whnf)|(refine Aq g0 ?_;conv=>whnf)|(refine Aq (Gp g0) ?_;conv=>whnf)|(refine EG h1 fun σ2 f2 h2 l2=>?_;have ho2:=f2.get ho1 (by simp;omega);have h32:=f2.get h31 (by simp;omega);conv=>whnf)|(rw [h2];conv=>whnf)|(rw [h32];conv=>whnf)|(rw [ho2];conv=>whnf)|(refine Adk hln rfl AeH (AeI (by omega)) fun σ3 e3 f3 a3 b3 l3=>?_;have ho3:=f3.get ho2 (by simp);have h33:=f3.get h32 (by simp);have h23:=f3.get h2 (by simp);conv=>whnf)|(rw [h33];conv=>whnf)|(rw [ho3];conv=>whnf)|(refine (Dl _ _).2 ?_;conv=>whnf)|(refine EG ho3 fun σ4 f4 h4 l4=>?_;have h34:=f4.get h33 (by simpa using h3o);have h24:=f4.get h23 (by simp;omega);conv=>whnf)|(rw [h34];conv=>whnf)|(rw [h24];conv=>whnf)|(refine Adk hpn rfl ZT (ZU (by omega)) fun σ5 e5 f5 a5 b5 l5=>?_;have ho5:=f5.get h4 (by simp);have h35:=f5.get h34 (by simp);conv=>whnf)|(rw [h35];conv=>whnf)|(rw [ho5];conv=>whnf)|(refine EG ho5 fun σ6 f6 h6 l6=>?_;have h36:=f6.get h35 (by simpa using h3o);conv=>whnf)|(rw [h36];conv=>whnf)|(refine kA ?_;conv=>whnf)|(refine Br.mk (fun hc=>?_) fun hc=>?_<;>first|exact hc.elim|conv=>whnf)|(refine kB ?_))
  all_goals first
   |(exfalso;omega)
   |skip
  all_goals
   dsimp only at l1 l2 l3 l4 l5 l6
   have f06:Fr σ' σ6 [o]:=((((((f1.mono (F':=[o,σ'.length]) (by simp)).trans (f2.mono (by simp))).trans (f3.mono (by simp))).trans (f4.mono (by simp))).trans (f5.mono (by simp))).trans (f6.mono (by simp))).mono (by simp)
   have k3:=f6.get (f5.get (f4.get a3 (by simp;omega)) (by simp)) (by simp;omega)
   have k5:=f6.get a5 (by simp;omega)
   have hlo:∀q∈L.flatMap EN.objs,q<σ'.length:=fun q hq=>by
        obtain⟨e,he,hq⟩:=List.mem_flatMap.1 hq
        exact(Vx e he).lt q hq
   refine again.mk ⟨_,by omega,i+1,_,σ6,L++[⟨n,.own σ2.length (c'+1) 0 n.labels.length,.own σ4.length (c'+1+1) 0 n.props.length⟩],false,rfl,by omega,rfl,rfl,f0.trans f06,?_,by simp[hL],?_,fun e he=>?_,fun q hq=>?_,?_,by simp⟩
   ·rw[Y0,←set_mid hL hlt,←Adm,h6,List.set_set];rfl
   ·rw[List.map_append,hm,List.take_succ_eq_append_getElem hlt,hn];rfl
   ·rcases List.mem_append.1 he with he|he
    ·exact(Vx e he).keep fun q hq=>f06.eq q ((Vx e he).lt q hq) (by have:=hLn q (List.mem_flatMap.2 ⟨e,he,hq⟩);simp;omega)
    ·obtain rfl:=List.mem_singleton.1 he
     exact⟨Adn k3 b3 hln,Adn k5 b5 hpn⟩
   ·rw[List.flatMap_append]at hq
    rcases List.mem_append.1 hq with hq|hq
    ·exact hLn q hq
    ·have:=f0.len
     simp only[List.flatMap_cons,List.flatMap_nil,EN.objs,AV.obj,List.append_nil,List.mem_append,List.mem_singleton]at hq
     omega
   ·rw[List.flatMap_append]
    refine List.nodup_append.2 ⟨hLd,?_,fun a ha b hb e=>?_⟩
    ·simp[EN.objs,AV.obj];omega
    ·have:=hlo a ha
     simp only[List.flatMap_cons,List.flatMap_nil,EN.objs,AV.obj,List.append_nil,List.mem_append,List.mem_singleton]at hb
     omega
 ·obtain rfl:i=g.nodes.length:=by omega
  (conv=>whnf);repeat' (first  |(refine kA ?_;conv=>whnf)|(refine Br.mk (fun hc=>?_) fun hc=>?_<;>first|exact hc.elim|conv=>whnf)|(refine kB ?_))
  all_goals first
   |exact hQ _ _ c1 L _ f0 (by rw[ho0];simp) (by rw[hm,List.take_length]) Vx hLn hLd hc1
   |(exfalso;omega)
set_option maxHeartbeats 4000000 in
theorem cpE {g:GG} {oN uN nN p2 p3 u2 u3 o u:Nat} {es:Nat} {Q:Bd→Env→Ap→Prop} (hl:g.edges.length≤4000) (hok:∀n∈g.edges,n.ok∧n.props.length≤16) (hnn:g.en=false→g.edges=[]) (hes:g.en=true→es=5)
 (h3:nth σ p3=some (.arr u3 4 true false [.agg [.own oN uN 0 nN,.own o u 0 g.edges.length,.int .i64 g.Bl,.int .i64 g.Bq]]))
 (ho:nth σ o=some (.arr u es g.en true (vs GE.av g.edges))) (h3o:p3≠o)
 (hQ:∀σ' c' c1 L tl,Fr σ σ' [o]→nth σ' o=some (.arr u es g.en c1 (vs EE.av L))→L.map EE.e=g.edges→(∀ e∈L,e.Ok σ')→(∀ q∈L.flatMap EE.objs,σ.length≤q)→(L.flatMap EE.objs).Nodup→(c1=true↔L=[])→Q (.exit 2) ([(2,.ref p2 u2 0 0),(3,.ref p3 u3 0 0),(43,.own o u 0 g.edges.length),(44,.int .i64 g.edges.length),(45,.int .i64 g.edges.length)]++tl) ⟨σ',c'⟩):
 Run (Ad tab) (.loop l58_1_h l58_1_b) [(2,.ref p2 u2 0 0),(3,.ref p3 u3 0 0),(43,.own o u 0 g.edges.length),(44,.int .i64 g.edges.length),(45,.int .i64 0)] ⟨σ,ct⟩ Q:=by
 refine Ak (fun m env s=>∃(i c':Nat) (σ':List Obj) (L:List EE) (c1:Bool),m=g.edges.length-i∧i≤g.edges.length∧env=[(2,.ref p2 u2 0 0),(3,.ref p3 u3 0 0),(43,.own o u 0 g.edges.length),(44,.int .i64 g.edges.length),(45,.int .i64 i)]∧s=⟨σ',c'⟩∧Fr σ σ' [o]∧nth σ' o=some (.arr u es g.en c1 (vs EE.av (L++(g.edges.drop i).map eeF)))∧L.length=i∧L.map EE.e=g.edges.take i∧(∀ e∈L,e.Ok σ')∧(∀ q∈L.flatMap EE.objs,σ.length≤q)∧(L.flatMap EE.objs).Nodup∧(c1=true↔L=[])) ?_ _ _ _ ⟨0,_,_,[],true,rfl,by omega,rfl,rfl,Fr.refl,?_,rfl,rfl,by simp,by simp,by simp,by simp⟩
 rotate_left
 ·rw[ho,List.nil_append,List.drop_zero,vs,vs,List.map_map];rfl
 rintro _ _ _ ⟨i,c',σ',L,c1,rfl,hi,rfl,rfl,f0,ho0,hL,hm,Vx,hLn,hLd,hc1⟩
 refine⟨rfl,?_⟩
 by_cases hlt:i<g.edges.length
 ·have Y0:g.en=true:=by
   cases hb:g.en with
   |true=>rfl
   |false=>rw[hnn hb]at hlt;simp at hlt
  obtain rfl:=hes Y0
  rw[Y0]at ho0
  have hmem:g.edges[i]∈g.edges:=List.getElem_mem hlt
  obtain⟨hno,hpp⟩:=hok _ hmem
  have h30:=f0.get h3 (by simpa using h3o)
  have g0:=ZW (fv:=EE.av) (f:=eeF) hL hlt
  have hol:=BZ ho0
  have hos:=BZ ho
  have hp3:=BZ h30
  obtain⟨n,hn⟩:∃n,n=g.edges[i]:=⟨_,rfl⟩
  rw[← hn]at g0 hno hpp
  have hpn:=hno.2.2.2.2.2.1
  (conv=>whnf);repeat' (first|(refine need.mk XI ?_;conv=>whnf)|(refine Cb fun σ1 f1 h1 l1=>?_;have ho1:=f1.get ho0 (by simp);have h31:=f1.get h30 (by simp);conv=>whnf)|(rw [ho0];conv=>whnf)|(rw [h1];conv=>whnf)|(refine Aq g0 ?_;conv=>whnf)|(refine Aq (Gp g0) ?_;conv=>whnf)|(refine EG h1 fun σ2 f2 h2 l2=>?_;have ho2:=f2.get ho1 (by simp;omega);have h32:=f2.get h31 (by simp;omega);conv=>whnf)|(rw [h2];conv=>whnf)|(rw [h32];conv=>whnf)|(rw [ho2];conv=>whnf)|(refine Adk hpn rfl ZT (ZU (by omega)) fun σ3 e3 f3 a3 b3 l3=>?_;have ho3:=f3.get ho2 (by simp);have h33:=f3.get h32 (by simp);have h23:=f3.get h2 (by simp);conv=>whnf)|(rw [h33];conv=>whnf)|(rw [ho3];conv=>whnf)|(refine (Dl _ _).2 ?_;conv=>whnf)|(refine EG ho3 fun σ4 f4 h4 l4=>?_;have h34:=f4.get h33 (by simpa using h3o);have h24:=f4.get h23 (by simp;omega);conv=>whnf)|(rw [h34];conv=>whnf)|(rw [h24];conv=>whnf)|(refine kA ?_;conv=>whnf)|(refine Br.mk (fun hc=>?_) fun hc=>?_<;>first|exact hc.elim|conv=>whnf)|(refine kB ?_))
  all_goals first
   |(exfalso;omega)
   |skip
  all_goals
   dsimp only at l1 l2 l3 l4
   have f06:Fr σ' σ4 [o]:=((((f1.mono (F':=[o,σ'.length]) (by simp)).trans (f2.mono (by simp))).trans (f3.mono (by simp))).trans (f4.mono (by simp))).mono (by simp)
   have k3:=f4.get a3 (by simp;omega)
   have hlo:∀q∈L.flatMap EE.objs,q<σ'.length:=fun q hq=>by
        obtain⟨e,he,hq⟩:=List.mem_flatMap.1 hq
        exact(Vx e he).lt q hq
   refine again.mk ⟨_,by omega,i+1,_,σ4,L++[⟨n,.own σ2.length (c'+1) 0 n.props.length⟩],false,rfl,by omega,rfl,rfl,f0.trans f06,?_,by simp[hL],?_,fun e he=>?_,fun q hq=>?_,?_,by simp⟩
   ·rw[Y0,←set_mid hL hlt,←Adm,h4];rfl
   ·rw[List.map_append,hm,List.take_succ_eq_append_getElem hlt,hn];rfl
   ·rcases List.mem_append.1 he with he|he
    ·exact(Vx e he).keep fun q hq=>f06.eq q ((Vx e he).lt q hq) (by have:=hLn q (List.mem_flatMap.2 ⟨e,he,hq⟩);simp;omega)
    ·obtain rfl:=List.mem_singleton.1 he
     exact Adn k3 b3 hpn
   ·rw[List.flatMap_append]at hq
    rcases List.mem_append.1 hq with hq|hq
    ·exact hLn q hq
    ·have:=f0.len
     simp only[List.flatMap_cons,List.flatMap_nil,EE.objs,AV.obj,List.append_nil,List.mem_singleton]at hq
     omega
   ·rw[List.flatMap_append]
    refine List.nodup_append.2 ⟨hLd,?_,fun a ha b hb e=>?_⟩
    ·simp[EE.objs,AV.obj]
    ·have:=hlo a ha
     simp only[List.flatMap_cons,List.flatMap_nil,EE.objs,AV.obj,List.append_nil,List.mem_singleton]at hb
     omega
 ·obtain rfl:i=g.edges.length:=by omega
  (conv=>whnf);repeat' (first  |(refine kA ?_;conv=>whnf)|(refine Br.mk (fun hc=>?_) fun hc=>?_<;>first|exact hc.elim|conv=>whnf)|(refine kB ?_))
  all_goals first
   |exact hQ _ _ c1 L _ f0 (by rw[ho0];simp) (by rw[hm,List.take_length]) Vx hLn hLd hc1
   |(exfalso;omega)
end
structure Cp (σ0 σ:List Obj) (vN vE:AV) (g:GG) (N:List EN) (E:List EE):Prop where
 hn:∃c,Hd EN.av 3 σ vN g.nn N c∧(c=true→∀e∈N,e.av.closed=true)
 he:∃c,Hd EE.av 5 σ vE g.en E c∧(c=true→∀e∈E,e.av.closed=true)
 hN:∀e∈N,e.Ok σ
 hE:∀e∈E,e.Ok σ
 nd:(vN.obj++(vE.obj++BG N E)).Nodup
 new:∀o∈vN.obj++(vE.obj++BG N E),σ0.length≤o
 mN:N.map EN.n=g.nodes
 mE:E.map EE.e=g.edges
 fr:Fr σ0 σ []
structure Few (g:GG):Prop where
 ok:g.ok
 lN:g.nodes.length≤2000
 lE:g.edges.length≤4000
 pN:∀n∈g.nodes,n.labels.length≤8∧n.props.length≤16
 pE:∀n∈g.edges,n.props.length≤16
theorem Afw {α:Type} {f:α→AV} {es es':Nat} {σ:List Obj} {p g:Nat} {nn c:Bool} {l:List α} (h:nth σ p=some (.arr g es' nn c (vs f l))) (h1:nn=true→es'=es) (h2:nn=false→l=[]) (h3:c=true↔l=[]):∃c,Hd f es σ (.own p g 0 l.length) nn l c∧(c=true→∀e∈l,(f e).closed=true):=by
 cases nn with
 |false=>
  obtain rfl:=h2 rfl
  obtain rfl:=h3.2 rfl
  exact⟨true,.inl ⟨rfl,rfl,.inr ⟨_,_,_,rfl,h⟩⟩,by simp⟩
 |true=>obtain rfl:=h1 rfl;exact⟨c,.inr ⟨rfl,_,_,rfl,h⟩,fun hc=>by rw[h3.1 hc];simp⟩
theorem Akn {σ:List Obj} {o g c' a1 a2 a3 b1 b2 b3:Nat} {nn cl:Bool} {x y:Int} (h:nth σ o=some (.arr g 4 nn cl [.agg [.own a1 a2 0 a3,.own b1 b2 0 b3,.int .i64 x,.int .i64 y]])):Ej [(2,.ref o g 0 0)] ⟨σ,c'⟩ [.cell 2 (some 4)]=some [.agg [.own a1 a2 0 a3,.own b1 b2 0 b3,.int .i64 x,.int .i64 y]]:=by
 show(match Gz [(2,.ref o g 0 0)] ⟨σ,c'⟩ (.cell 2 (some 4)),Ej [(2,.ref o g 0 0)] ⟨σ,c'⟩ []with
  |some v,some vs=>some (v::vs)
  |_,_=>none)=_
 have e:Gz [(2,.ref o g 0 0)] ⟨σ,c'⟩ (.cell 2 (some 4))=some (.agg [.own a1 a2 0 a3,.own b1 b2 0 b3,.int .i64 x,.int .i64 y]):=by
  simp[Gz,Env.get,h,nth,AV.cells,loadCells]
 rw[e]
 rfl
section
variable {σ:List Obj} {ct:Nat} {K:AA→Ap→Prop}
set_option maxHeartbeats 4000000 in
theorem AdI {g:GG} (hg:Few g) (hK:∀σ' c' oN uN nN oE uE nE N E,Cp σ σ' (.own oN uN 0 nN) (.own oE uE 0 nE) g N E→K (.ok (.agg [.own oN uN 0 nN,.own oE uE 0 nE,.int .i64 g.Bl,.int .i64 g.Bq])) ⟨σ',c'⟩):
 AQ (Ad tab) 58 [g.av] ⟨σ,ct⟩ K:=by
 obtain⟨g1,g2,g3,g4,g5,g6,g7,g8⟩:=hg.ok
 have hlN:=hg.lN
 have hlE:=hg.lE
 refine Am rfl rfl ?_
 show vC _ _ [(0,.agg [.sl g.nn (vs GN.av g.nodes),.sl g.en (vs GE.av g.edges),.int .i64 g.Bl,.int .i64 g.Bq])] _ _
 (conv=>whnf);repeat' (first|(refine Cb fun σ3 f3 h3 l3=>?_;have h13:=f3.get h12 (by simp);have h23:=f3.get h2 (by simp);conv=>whnf)|(refine Cb fun σ2 f2 h2 l2=>?_;have h12:=f2.get h1 (by simp);conv=>whnf)|(refine Cb fun σ1 f1 h1 l1=>?_;conv=>whnf)|(rw [h12];conv=>whnf)|(rw [h3];conv=>whnf)|(refine (Dl _ _).2 ?_;conv=>whnf)|(refine EG h3 fun σ4 f4 h4 l4=>?_;have h14:=f4.get h13 (by dsimp only at *;simp;omega);have h24:=f4.get h23 (by dsimp only at *;simp;omega);conv=>whnf)|(rw [h14];conv=>whnf)|(rw [h4];conv=>whnf)|(refine Adk g2 rfl AeJ (AeK (by omega)) fun σ5 e5 f5 a5 b5 l5=>?_;have h15:=f5.get h14 (by simp);have h25:=f5.get h24 (by simp);have h35:=f5.get h4 (by simp);conv=>whnf)|(rw [h35];conv=>whnf)|(refine EG h35 fun σ6 f6 h6 l6=>?_;have h16:=f6.get h15 (by dsimp only at *;simp;omega);have h26:=f6.get h25 (by dsimp only at *;simp;omega);have a6:=f6.get a5 (by dsimp only at *;simp;omega);conv=>whnf)|(rw [h6];conv=>whnf)|(refine kA ?_;conv=>whnf)|(refine Br.mk (fun hc=>?_) fun hc=>?_<;>first|exact hc.elim|conv=>whnf)|(refine kB ?_))
 dsimp only at l1 l2 l3 l4 l5 l6
 have hll:∀(M:List EN),M.map EN.n=g.nodes→M.length=g.nodes.length:=fun M h=>by rw[← h,List.length_map]
 have hle:∀(M:List EE),M.map EE.e=g.edges→M.length=g.edges.length:=fun M h=>by rw[← h,List.length_map]
 refine cpN (es:=e5) hlN (fun n hn=>⟨g3 n hn,hg.pN n hn⟩) g2 b5 h6 a6 (by dsimp only;omega) fun σ7 c7 d7 L tl f7 h7 m7 k7 n7 q7 r7=>?_
 have h17:=f7.get h16 (by simp;omega)
 have h27:=f7.get h26 (by simp;omega)
 have h37:=f7.get h6 (by simp;omega)
 (conv=>whnf);repeat' (first|(rw [h17];conv=>whnf)|(rw [h37];conv=>whnf)|(refine (Dl _ _).2 ?_;conv=>whnf)|(refine Adk g5 rfl AeL (AeM (by omega)) fun σ8 e8 f8 a8 b8 l8=>?_;have h18:=f8.get h17 (by simp);have h28:=f8.get h27 (by simp);have h38:=f8.get h37 (by simp);conv=>whnf)|(rw [h38];conv=>whnf)|(refine EG h38 fun σ9 f9 h9 l9=>?_;have h29:=f9.get h28 (by dsimp only at *;simp;omega);have a9:=f9.get a8 (by have:=f7.len;dsimp only at *;simp;omega);conv=>whnf)|(rw [h9];conv=>whnf)|(refine kA ?_;conv=>whnf)|(refine Br.mk (fun hc=>?_) fun hc=>?_<;>first|exact hc.elim|conv=>whnf)|(refine kB ?_))
 dsimp only at l8 l9
 have lf7:=f7.len
 refine cpE (es:=e8) hlE (fun n hn=>⟨g6 n hn,hg.pE n hn⟩) g5 b8 h9 a9 (by dsimp only;omega) fun σ10 c10 d10 M tl' f10 h10 m10 k10 n10 q10 r10=>?_
 have AiI:=f10.get h29 (by simp;omega)
 have Ako:=f10.get h9 (by simp;omega)
 (conv=>whnf);repeat' (first|(rw [Ako];conv=>whnf)|(refine (Dl _ _).2 ?_;conv=>whnf)|(rw [AiI];conv=>whnf)|(refine EG AiI fun σ11 f11 h11 l11=>?_;conv=>whnf)|(refine kA ?_;conv=>whnf)|(refine Br.mk (fun hc=>?_) fun hc=>?_<;>first|exact hc.elim|conv=>whnf)|(refine kB ?_))
 refine⟨_,Akn h11,?_⟩
 have lf10:=f10.len
 dsimp only at l11 lf10 lf7 n7 n10 k7 k10
 have k7':∀q∈L.flatMap EN.objs,q<σ7.length:=fun q hq=>by
  obtain⟨e,he,hm⟩:=List.mem_flatMap.1 hq
  exact(k7 e he).lt q hm
 have hN:=f11.get (f10.get (f9.get (f8.get h7 (by simp)) (by simp;omega)) (by simp;omega)) (by simp;omega)
 have hE:=f11.get h10 (by simp;omega)
 have eN:=hll _ m7
 have eE:=hle _ m10
 rw[← eN,←eE]
 refine hK σ11 _ _ _ _ _ _ _ L M ⟨Afw hN b5 (fun h=>?_) r7,Afw hE b8 (fun h=>?_) r10,fun e he=>(k7 e he).keep fun q hq=>?_,fun e he=>(k10 e he).keep fun q hq=>?_,?_,?_,m7,m10,?_⟩
 ·have:=g2 h;rw[this]at m7;simpa using m7
 ·have:=g5 h;rw[this]at m10;simpa using m10
 ·have hq1:=n7 q (List.mem_flatMap.2 ⟨e,he,hq⟩)
  have hq2:=(k7 e he).lt q hq
  exact(f11.eq q (show q<σ10.length by omega) (by simp;omega)).trans ((f10.eq q (show q<σ9.length by omega) (by simp;omega)).trans ((f9.eq q (show q<σ8.length by omega) (by simp;omega)).trans (f8.eq q hq2 (by simp))))
 ·have hq1:=n10 q (List.mem_flatMap.2 ⟨e,he,hq⟩)
  have hq2:=(k10 e he).lt q hq
  exact f11.eq q hq2 (by simp;omega)
 ·simp only[AV.obj,BG,List.singleton_append,List.nodup_cons,List.mem_cons,List.mem_append,not_or,List.nodup_append]
  refine⟨⟨by omega,fun h=>by have:=n7 _ h;omega,fun h=>by have:=n10 _ h;omega⟩,⟨fun h=>by have:=k7' _ h;omega,fun h=>by have:=n10 _ h;omega⟩,q7,q10,fun a ha b hb e=>?_⟩
  have:=k7' a ha
  have:=n10 b hb
  omega
 ·intro o ho
  simp only[AV.obj,BG,List.singleton_append,List.mem_cons,List.mem_append]at ho
  rcases ho with rfl|rfl|ho|ho
  ·omega
  ·omega
  ·have:=n7 o ho;omega
  ·have:=n10 o ho;omega
 ·have e4:Fr σ σ4 []:=(((f1.trans f2).trans f3).mono (F':=[σ2.length]) (by simp) |>.trans f4).mono (by simp;omega)
  have e6:Fr σ σ6 []:=((e4.trans f5).mono (F':=[σ2.length]) (by simp) |>.trans f6).mono (by simp;omega)
  have e7:Fr σ σ7 []:=(e6.mono (F':=[σ4.length]) (by simp) |>.trans f7).mono (by simp;omega)
  have e9:Fr σ σ9 []:=((e7.trans f8).mono (F':=[σ2.length]) (by simp) |>.trans f9).mono (by simp;omega)
  have e10:Fr σ σ10 []:=(e9.mono (F':=[σ7.length]) (by simp) |>.trans f10).mono (by simp;omega)
  exact(e10.mono (F':=[σ1.length]) (by simp) |>.trans f11).mono (by simp;omega)
end
def FD:GG:=⟨false,[],false,[],0,0⟩
def VZ:GG→List GC→Nat→GG×Nat×Int
 |g,[],i=>(g,i,0)
 |g,c::cs,i=>if(stepG g c).1≠0 then(FD,i,(stepG g c).1)else VZ (stepG g c).2 cs (i+1)
theorem Ed.Ze {σ:List Obj} {d gd:Nat} {vN vE:AV} {nb eb:Bool} {N:List EN} {E:List EE} {x y:Int} (h:Ed σ d gd vN vE nb eb N E x y) {o g:Nat} {c:Bool} {r:List AV} (ho:nth σ o=some (.arr g 4 true c [.agg (.sl false []::r)])):o∉d::(vN.obj++(vE.obj++BG N E)):=by
 intro hq
 obtain⟨cn,hn1,_⟩:=h.hn
 obtain⟨ce,he1,_⟩:=h.he
 rcases List.mem_cons.1 hq with rfl|hq
 ·have:=h.box;rw[ho]at this
  simp only[Option.some.injEq,Obj.arr.injEq,List.cons.injEq,AV.agg.injEq]at this
  exact h.oN this.2.2.2.2.1.1.symm
 rcases List.mem_append.1 hq with hq|hq
 ·exact hn1.diff ho (by decide) hq
 rcases List.mem_append.1 hq with hq|hq
 ·exact he1.diff ho (by decide) hq
 rcases List.mem_append.1 hq with hq|hq<;>obtain⟨e,he,hm⟩:=List.mem_flatMap.1 hq
 ·rcases List.mem_append.1 hm with hm|hm
  ·exact(h.hN e he).1.diff ho (by decide) hm
  ·exact(h.hN e he).2.diff ho (by decide) hm
 ·exact Hd.diff (h.hE e he) ho (by decide) hm
section
variable {σ:List Obj} {ct:Nat}
set_option maxHeartbeats 4000000 in
theorem AdJ {g:GG} {L:List GC} {nn:Bool} {d gd p4 u4:Nat} {Q:Bd→Env→Ap→Prop} (hL:L.length<2 ^ 62) (hok:∀c∈L,c.ok) (hg:EdG σ d gd g) (ha:FY g)
 (h4:nth σ p4=some (.arr u4 4 true true [.agg [.sl false [],.sl false [],.int .i64 0,.int .i64 0]]))
 (hE:∀σ' c' i e,VZ g L 0=(FD,i,e)→nth σ' p4=some (.arr u4 4 true true [.agg [.sl false [],.sl false [],.int .i64 0,.int .i64 0]])→Q .ret [(4,.ref p4 u4 0 0),(5,.int .i64 (i:Nat)),(6,.int .i64 e)] ⟨σ',c'⟩)
 (hQ:∀σ' c' h tl,VZ g L 0=(h,L.length,0)→EdG σ' d gd h→FY h→nth σ' p4=some (.arr u4 4 true true [.agg [.sl false [],.sl false [],.int .i64 0,.int .i64 0]])→Q (.exit 0) ([(1,.sl nn (vs GC.av L)),(4,.ref p4 u4 0 0),(8,.ref d gd 0 0),(21,.sl nn (vs GC.av L)),(22,.int .i64 L.length),(23,.int .i64 L.length)]++tl) ⟨σ',c'⟩):
 Run (Ad tab) (.loop l37_0_h l37_0_b) [(1,.sl nn (vs GC.av L)),(4,.ref p4 u4 0 0),(8,.ref d gd 0 0),(21,.sl nn (vs GC.av L)),(22,.int .i64 L.length),(23,.int .i64 0)] ⟨σ,ct⟩ Q:=by
 refine Ak (fun m env s=>∃(i c':Nat) (σ':List Obj) (h:GG),m=L.length-i∧i≤L.length∧env=[(1,.sl nn (vs GC.av L)),(4,.ref p4 u4 0 0),(8,.ref d gd 0 0),(21,.sl nn (vs GC.av L)),(22,.int .i64 L.length),(23,.int .i64 i)]∧s=⟨σ',c'⟩∧EdG σ' d gd h∧FY h∧VZ g L 0=VZ h (L.drop i) i∧nth σ' p4=some (.arr u4 4 true true [.agg [.sl false [],.sl false [],.int .i64 0,.int .i64 0]])) ?_ _ _ _ ⟨0,_,_,g,rfl,by omega,rfl,rfl,hg,ha,by rw[List.drop_zero],h4⟩
 rintro _ _ _ ⟨i,c',σ',h,rfl,hi,rfl,rfl,he,hh,hr,hp⟩
 refine⟨rfl,?_⟩
 by_cases hlt:i<L.length
 ·have AiE:=hok _ (List.getElem_mem hlt)
  have hnt:nth (vs GC.av L) (Int.toNat (i:Int))=some (L[i]).av:=nV hlt
  have JQ:nth (vs GC.av L) i=some (L[i]).av:=nV hlt
  rw[List.drop_eq_getElem_cons hlt,VZ]at hr
  obtain⟨c,hcc⟩:∃c,c=L[i]:=⟨_,rfl⟩
  rw[← hcc]at AiE hnt JQ hr
  obtain⟨vN,vE,nb,eb,N,E,x,y,hEd,hgo⟩:=he
  subst hgo
  have hq:=hh.ask
  have hpl:=BZ hp
  obtain⟨op,z,fr,to,nm,v⟩:=c
  (conv=>whnf);repeat' (first|(refine Cb fun σ1 f1 h1 l1=>?_;have hp1:=f1.get hp (by simp);have hE1:=hEd.LZ f1;conv=>whnf)|(refine Aq hnt ?_;conv=>whnf)|(refine Aq JQ ?_;conv=>whnf)|(rw [h1];conv=>whnf)|(refine EG h1 fun σ2 f2 h2 l2=>?_;have hp2:=f2.get hp1 (by simp;omega);conv=>whnf)|(rw [h2];conv=>whnf)|(refine kA ?_;conv=>whnf)|(refine Br.mk (fun hc=>?_) fun hc=>?_<;>first|exact hc.elim|conv=>whnf)|(refine kB ?_))
  all_goals first|(exfalso;omega)|skip
  have f02:Fr σ' σ2 []:=((f1.mono (F':=[σ'.length]) (by simp)).trans f2).mono (by simp)
  have hE2:=hEd.LZ f02
  refine stepW (c:=⟨op,z,fr,to,nm,v⟩) hE2 hq AiE fun σ3 c3 hE3 f3=>?_
  have hp3:=f3.get hp2 (hE2.Ze hp2)
  have hh':=hh.step (c:=⟨op,z,fr,to,nm,v⟩)
  generalize hsg:stepG (Jk nb eb N E x y) ⟨op,z,fr,to,nm,v⟩=sg at hr hE3 hh' ⊢
  obtain⟨e0,g0⟩:=sg
  dsimp only at hr hE3 hh' ⊢
  (conv=>whnf);repeat' (first|(rw [hp3];conv=>whnf)|(refine (Dl _ _).2 ?_;conv=>whnf)|(refine EG hp3 fun σ4 f4 h4' l4=>?_;conv=>whnf)|(refine kA ?_;conv=>whnf)|(refine Br.mk (fun hc=>?_) fun hc=>?_<;>first|exact hc.elim|conv=>whnf)|(refine kB ?_))
  all_goals first
   |exact hE σ4 _ i e0 (by rw[hr,if_pos (by omega)]) h4'
   |exact again.mk ⟨_,by omega,i+1,_,σ3,g0,rfl,by omega,rfl,rfl,hE3,hh',by rw[hr,if_neg (by omega)],hp3⟩
 ·obtain rfl:i=L.length:=by omega
  (conv=>whnf);repeat' (first  |(refine kA ?_;conv=>whnf)|(refine Br.mk (fun hc=>?_) fun hc=>?_<;>first|exact hc.elim|conv=>whnf)|(refine kB ?_))
  all_goals first
   |(exact hQ _ _ h _ (by rw[hr,List.drop_length];rfl) he hh hp)
   |(exfalso;omega)
end
end AI
end Go.Proofs.YtgmgkkbpgndaaaaGreatDoor
