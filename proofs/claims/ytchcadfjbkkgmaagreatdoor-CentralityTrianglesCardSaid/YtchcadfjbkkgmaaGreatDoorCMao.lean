/- What a change makes of a graph; an editor's functions make just that. A step keeps what an editor asks. Walks through a function that defers a recovering closure. A step of an editor. Cloned lists as a caller's own. -/
import Derived.Test.YtchcadfjbkkgmaaGreatDoorCMal
import Derived.Test.YtchcadfjbkkgmaaGreatDoorCMan
import Derived.Test.YtchcadfjbkkgmaaGreatDoorCVa
set_option linter.unusedVariables false
set_option maxRecDepth 4000
namespace Go.Proofs.YtchcadfjbkkgmaaGreatDoor
namespace AI
def Bc (g:GG) (c:GC):Int×GG:=
 if c.op=1 then
    if∃n∈g.nodes,n.id=c.id then(7,g)else if g.nodes.length<2000 then(0,{g with nn:=true,nodes:=Ba Cc GN.id ⟨c.id,false,[],false,[]⟩ g.nodes,BA:=if c.id+1>g.BA then c.id+1 else g.BA})else(20,g)
 else match g.nodes.find? (fun n=>decide (n.id=c.id))with
    |none=>(10,g)
    |some n=>
     if c.op=2 then if∃e∈g.edges,e.fr=c.id∨e.to=c.id then(12,g)else(0,{g with nodes:=CP Cc GN.id c.id g.nodes})
     else if c.op=3 then if c.name∈n.labels then(7,g)else if n.labels.length<8 then(0,{g with nodes:=Ba Cc GN.id {n with ln:=true,labels:=Ba Op.bytesLess id c.name n.labels} g.nodes})else(20,g)
     else if c.op=4 then if c.name∈n.labels then(0,{g with nodes:=Ba Cc GN.id {n with ln:=true,labels:=CP Op.bytesLess id c.name n.labels} g.nodes})else(23,g)
     else if isNull c.v then(0,{g with nodes:=Ba Cc GN.id {n with props:=CP Op.bytesLess GP.key c.name n.props} g.nodes})
     else if(∃ p∈n.props,GP.key p=c.name)∨n.props.length<16 then(0,{g with nodes:=Ba Cc GN.id {n with pn:=true,props:=Ba Op.bytesLess GP.key ⟨c.name,c.v⟩ n.props} g.nodes})else(20,g)
def Bz (g:GG) (c:GC):Int×GG:=
 if c.op=6 then
    if∃n∈g.edges,n.id=c.id then(7,g)else if(∃ n∈g.nodes,n.id=c.fr)∧(∃ n∈g.nodes,n.id=c.to)then
     if g.edges.length<4000 then(0,{g with en:=true,edges:=Ba Cc GE.id ⟨c.id,c.fr,c.to,c.name,false,[]⟩ g.edges,BJ:=if c.id+1>g.BJ then c.id+1 else g.BJ})else(20,g)
    else(10,g)
 else match g.edges.find? (fun n=>decide (n.id=c.id))with
    |none=>(11,g)
    |some n=>
     if c.op=7 then(0,{g with edges:=CP Cc GE.id c.id g.edges})
     else if isNull c.v then(0,{g with edges:=Ba Cc GE.id {n with props:=CP Op.bytesLess GP.key c.name n.props} g.edges})
     else if(∃ p∈n.props,GP.key p=c.name)∨n.props.length<16 then(0,{g with edges:=Ba Cc GE.id {n with pn:=true,props:=Ba Op.bytesLess GP.key ⟨c.name,c.v⟩ n.props} g.edges})else(20,g)
def stepG (g:GG) (c:GC):Int×GG:=if IC c≠0 then(IC c,g)else if c.op≤5 then Bc g c else Bz g c
theorem TY {α:Type} {key:α→Int} {z:Int}:∀{l:List α},Inc Cc key l→∀{n:α},n∈l→key n=z→l.find? (fun a=>decide (key a=z))=some n
 |[],_,_,h,_=>by simp at h
 |a::l,hl,n,hn,e=>by
  have hl':=List.pairwise_cons.1 hl
  rcases List.mem_cons.1 hn with rfl|hm
  ·rw[List.find?_cons,decide_eq_true e]
  ·have:=hl'.1 n hm
   simp only[Cc,decide_eq_true_eq]at this
   rw[List.find?_cons,decide_eq_false (by omega)]
   exact TY hl'.2 hm e
theorem Aby {α:Type} {key:α→Int} {z:Int} {l:List α} (h:¬∃n∈l,key n=z):l.find? (fun a=>decide (key a=z))=none:=by
 rw[List.find?_eq_none]
 intro a ha e
 exact h ⟨a,ha,of_decide_eq_true e⟩
section
variable {σ:List Obj} {d gd:Nat} {vN vE:AV} {nb eb:Bool} {N:List EN} {E:List EE} {x y:Int} {ct:Nat} {K:AX→Am→Prop}
theorem exN {z:Int}:(∃ n∈N.map EN.n,n.id=z)↔∃n∈N,n.n.id=z:=
 ⟨fun ⟨n,hn,e⟩=>by obtain⟨m,hm,rfl⟩:=List.mem_map.1 hn;exact⟨m,hm,e⟩,fun⟨n,hn,e⟩=>⟨n.n,List.mem_map_of_mem hn,e⟩⟩
theorem exE {z:Int}:(∃ n∈E.map EE.e,n.id=z)↔∃n∈E,n.e.id=z:=
 ⟨fun ⟨n,hn,e⟩=>by obtain⟨m,hm,rfl⟩:=List.mem_map.1 hn;exact⟨m,hm,e⟩,fun⟨n,hn,e⟩=>⟨n.e,List.mem_map_of_mem hn,e⟩⟩
def EdG (σ:List Obj) (d gd:Nat) (g:GG):Prop:=∃vN vE nb eb N E x y,Ed σ d gd vN vE nb eb N E x y∧J3 nb eb N E x y=g
set_option maxHeartbeats 2000000 in
theorem AjF {c:GC} (h:Ed σ d gd vN vE nb eb N E x y) (hq:Ask N E x y) (hop:1≤c.op∧c.op≤5) (hz:Md c.id) (hv:c.v.ok)
 (hP:∀e,(Bc (J3 nb eb N E x y) c)=(e,J3 nb eb N E x y)→∀σ' c',Fr σ σ' []→K (.DI (.iface 199 (.int .i64 e))) ⟨σ',c'⟩)
 (hR:∀g',Bc (J3 nb eb N E x y) c=(0,g')→∀σ' c',EdG σ' d gd g'→Fr σ σ' (d::(vN.obj++(vE.obj++BO N E)))→K (.ok (.Cb [])) ⟨σ',c'⟩):
 A8 (Ad tab) 153 [.ref d gd 0 0,c.av] ⟨σ,ct⟩ K:=by
 obtain⟨op,z,fr,to,nm,v⟩:=c
 dsimp only at hop hz hv
 by_cases h1:op=1
 ·subst h1
  refine AjG h hq hz (fun hf σ' c' f=>hP 7 ?_ σ' c' f) (fun hf hl σ' c' f=>hP 20 ?_ σ' c' f) (fun hf hl σ' c' Xd N' he hN f=>hR _ ?_ σ' c' ⟨_,_,_,_,_,_,_,_,he,rfl⟩ f)
  ·show Bc ⟨nb,N.map EN.n,eb,E.map EE.e,x,y⟩ _=(_,⟨_,_,_,_,_,_⟩);simp only[Bc,exN,if_true];rw[if_pos hf]
  ·show Bc ⟨nb,N.map EN.n,eb,E.map EE.e,x,y⟩ _=(_,⟨_,_,_,_,_,_⟩);simp only[Bc,exN,if_true];rw[if_neg hf,if_neg (show ¬(N.map EN.n).length<2000 by rw[List.length_map];exact hl)]
  ·show Bc ⟨nb,N.map EN.n,eb,E.map EE.e,x,y⟩ _=(_,⟨_,_,_,_,_,_⟩);simp only[Bc,exN,if_true,hN];rw[if_neg hf,if_pos (show (N.map EN.n).length<2000 by rw[List.length_map];exact hl)]
 by_cases hf:∃n∈N,n.n.id=z
 rotate_left
 ·have e:=Aby (key:=GN.id) (by rw[exN];exact hf)
  refine Ag6 h hq hz (by omega) hf fun σ' c' f=>hP 10 ?_ σ' c' f
  show Bc ⟨nb,N.map EN.n,eb,E.map EE.e,x,y⟩ _=(_,⟨_,_,_,_,_,_⟩);simp only[Bc,if_neg h1,e]
 have fd:∀n∈N.map EN.n,n.id=z→(N.map EN.n).find? (fun n=>decide (n.id=z))=some n:=fun n hn e=>TY hq.iN hn e
 by_cases h2:op=2
 ·subst h2
  obtain⟨n,hn,e⟩:=exN.2 hf
  refine AjH h hq hf (fun hx σ' c' f=>hP 12 ?_ σ' c' f) (fun hx σ' c' Xd N' he hN f=>hR _ ?_ σ' c' ⟨_,_,_,_,_,_,_,_,he,rfl⟩ f)
  ·show Bc ⟨nb,N.map EN.n,eb,E.map EE.e,x,y⟩ _=(_,⟨_,_,_,_,_,_⟩);simp only[Bc,fd n hn e];rw[if_neg (by decide),if_pos trivial,if_pos hx]
  ·show Bc ⟨nb,N.map EN.n,eb,E.map EE.e,x,y⟩ _=(_,⟨_,_,_,_,_,_⟩);simp only[Bc,fd n hn e,hN];rw[if_neg (by decide),if_pos trivial,if_neg hx]
 by_cases h3:op=3
 ·subst h3
  refine AjI h hq hz hf (fun hx σ' c' f=>hP 7 ?_ σ' c' f) (fun hx σ' c' f=>hP 20 ?_ σ' c' f) (fun n hn e hx hl σ' c' N' he hN f=>hR _ ?_ σ' c' ⟨_,_,_,_,_,_,_,_,he,rfl⟩ f)
  ·obtain⟨n,hn,e,hx⟩:=hx
   show Bc ⟨nb,N.map EN.n,eb,E.map EE.e,x,y⟩ _=(_,⟨_,_,_,_,_,_⟩);simp only[Bc,fd n hn e];rw[if_neg (by decide),if_neg (by decide),if_pos trivial,if_pos hx]
  ·obtain⟨n,hn,e,hx,hl⟩:=hx
   show Bc ⟨nb,N.map EN.n,eb,E.map EE.e,x,y⟩ _=(_,⟨_,_,_,_,_,_⟩);simp only[Bc,fd n hn e];rw[if_neg (by decide),if_neg (by decide),if_pos trivial,if_neg hx,if_neg hl]
  ·show Bc ⟨nb,N.map EN.n,eb,E.map EE.e,x,y⟩ _=(_,⟨_,_,_,_,_,_⟩);simp only[Bc,fd n hn e,hN];rw[if_neg (by decide),if_neg (by decide),if_pos trivial,if_neg hx,if_pos hl]
 by_cases h4:op=4
 ·subst h4
  refine AjJ h hq hz hf (fun hx σ' c' f=>hP 23 ?_ σ' c' f) (fun n hn e hx σ' c' N' he hN f=>hR _ ?_ σ' c' ⟨_,_,_,_,_,_,_,_,he,rfl⟩ f)
  ·obtain⟨n,hn,e,hx⟩:=hx
   show Bc ⟨nb,N.map EN.n,eb,E.map EE.e,x,y⟩ _=(_,⟨_,_,_,_,_,_⟩);simp only[Bc,fd n hn e];rw[if_neg (by decide),if_neg (by decide),if_neg (by decide),if_pos trivial,if_neg hx]
  ·show Bc ⟨nb,N.map EN.n,eb,E.map EE.e,x,y⟩ _=(_,⟨_,_,_,_,_,_⟩);simp only[Bc,fd n hn e,hN];rw[if_neg (by decide),if_neg (by decide),if_neg (by decide),if_pos trivial,if_pos hx]
 obtain rfl:op=5:=by omega
 refine AjK h hq hz hv hf (fun hx σ' c' f=>hP 20 ?_ σ' c' f) (fun n hn e hx σ' c' N' he hN f=>hR _ ?_ σ' c' ⟨_,_,_,_,_,_,_,_,he,rfl⟩ f) (fun n hn e hx hl σ' c' N' he hN f=>hR _ ?_ σ' c' ⟨_,_,_,_,_,_,_,_,he,rfl⟩ f)
 ·obtain⟨n,hn,e,hx,hk,hl⟩:=hx
  show Bc ⟨nb,N.map EN.n,eb,E.map EE.e,x,y⟩ _=(_,⟨_,_,_,_,_,_⟩);simp only[Bc,fd n hn e];rw[if_neg (by decide),if_neg (by decide),if_neg (by decide),if_neg (by decide),if_neg hx,if_neg (fun h=>h.elim hk hl)]
 ·show Bc ⟨nb,N.map EN.n,eb,E.map EE.e,x,y⟩ _=(_,⟨_,_,_,_,_,_⟩);simp only[Bc,fd n hn e,hN];rw[if_neg (by decide),if_neg (by decide),if_neg (by decide),if_neg (by decide),if_pos hx]
 ·show Bc ⟨nb,N.map EN.n,eb,E.map EE.e,x,y⟩ _=(_,⟨_,_,_,_,_,_⟩);simp only[Bc,fd n hn e,hN];rw[if_neg (by decide),if_neg (by decide),if_neg (by decide),if_neg (by decide),if_neg hx,if_pos hl]
set_option maxHeartbeats 2000000 in
theorem AjL {c:GC} (h:Ed σ d gd vN vE nb eb N E x y) (hq:Ask N E x y) (hop:6≤c.op∧c.op≤8) (hz:Md c.id) (hv:c.v.ok)
 (hP:∀e,(Bz (J3 nb eb N E x y) c)=(e,J3 nb eb N E x y)→∀σ' c',Fr σ σ' []→K (.DI (.iface 199 (.int .i64 e))) ⟨σ',c'⟩)
 (hR:∀g',Bz (J3 nb eb N E x y) c=(0,g')→∀σ' c',EdG σ' d gd g'→Fr σ σ' (d::(vN.obj++(vE.obj++BO N E)))→K (.ok (.Cb [])) ⟨σ',c'⟩):
 A8 (Ad tab) 154 [.ref d gd 0 0,c.av] ⟨σ,ct⟩ K:=by
 obtain⟨op,z,fr,to,nm,v⟩:=c
 dsimp only at hop hz hv
 by_cases h1:op=6
 ·subst h1
  refine AjM h hq hz (fun hf σ' c' f=>hP 7 ?_ σ' c' f) (fun hf hm σ' c' f=>hP 10 ?_ σ' c' f) (fun hf hm hl σ' c' f=>hP 20 ?_ σ' c' f) (fun hf hm hl σ' c' Xd N' he hN f=>hR _ ?_ σ' c' ⟨_,_,_,_,_,_,_,_,he,rfl⟩ f)
  ·show Bz ⟨nb,N.map EN.n,eb,E.map EE.e,x,y⟩ _=(_,⟨_,_,_,_,_,_⟩);simp only[Bz,exN,exE,if_true];rw[if_pos hf]
  ·show Bz ⟨nb,N.map EN.n,eb,E.map EE.e,x,y⟩ _=(_,⟨_,_,_,_,_,_⟩);simp only[Bz,exN,exE,if_true];rw[if_neg hf,if_neg hm]
  ·show Bz ⟨nb,N.map EN.n,eb,E.map EE.e,x,y⟩ _=(_,⟨_,_,_,_,_,_⟩);simp only[Bz,exN,exE,if_true];rw[if_neg hf,if_pos hm,if_neg (show ¬(E.map EE.e).length<4000 by rw[List.length_map];exact hl)]
  ·show Bz ⟨nb,N.map EN.n,eb,E.map EE.e,x,y⟩ _=(_,⟨_,_,_,_,_,_⟩);simp only[Bz,exN,exE,if_true,hN];rw[if_neg hf,if_pos hm,if_pos (show (E.map EE.e).length<4000 by rw[List.length_map];exact hl)]
 by_cases hf:∃n∈E,n.e.id=z
 rotate_left
 ·have e:=Aby (key:=GE.id) (by rw[exE];exact hf)
  refine Ag7 h hq (by omega) hf fun σ' c' f=>hP 11 ?_ σ' c' f
  show Bz ⟨nb,N.map EN.n,eb,E.map EE.e,x,y⟩ _=(_,⟨_,_,_,_,_,_⟩);simp only[Bz,if_neg h1,e]
 have fd:∀n∈E.map EE.e,n.id=z→(E.map EE.e).find? (fun n=>decide (n.id=z))=some n:=fun n hn e=>TY hq.iE hn e
 by_cases h2:op=7
 ·subst h2
  obtain⟨n,hn,e⟩:=exE.2 hf
  refine AjN h hq hf (fun σ' c' Xd N' he hN f=>hR _ ?_ σ' c' ⟨_,_,_,_,_,_,_,_,he,rfl⟩ f)
  show Bz ⟨nb,N.map EN.n,eb,E.map EE.e,x,y⟩ _=(_,⟨_,_,_,_,_,_⟩);simp only[Bz,fd n hn e,hN];rw[if_neg (by decide),if_pos trivial]
 obtain rfl:op=8:=by omega
 refine AjO h hq hv hf (fun hx σ' c' f=>hP 20 ?_ σ' c' f) (fun n hn e hx σ' c' N' he hN f=>hR _ ?_ σ' c' ⟨_,_,_,_,_,_,_,_,he,rfl⟩ f) (fun n hn e hx hl σ' c' N' he hN f=>hR _ ?_ σ' c' ⟨_,_,_,_,_,_,_,_,he,rfl⟩ f)
 ·obtain⟨n,hn,e,hx,hk,hl⟩:=hx
  show Bz ⟨nb,N.map EN.n,eb,E.map EE.e,x,y⟩ _=(_,⟨_,_,_,_,_,_⟩);simp only[Bz,fd n hn e];rw[if_neg (by decide),if_neg (by decide),if_neg hx,if_neg (fun h=>h.elim hk hl)]
 ·show Bz ⟨nb,N.map EN.n,eb,E.map EE.e,x,y⟩ _=(_,⟨_,_,_,_,_,_⟩);simp only[Bz,fd n hn e,hN];rw[if_neg (by decide),if_neg (by decide),if_pos hx]
 ·show Bz ⟨nb,N.map EN.n,eb,E.map EE.e,x,y⟩ _=(_,⟨_,_,_,_,_,_⟩);simp only[Bz,fd n hn e,hN];rw[if_neg (by decide),if_neg (by decide),if_neg hx,if_pos hl]
end
section
variable {α κ:Type} {lt:κ→κ→Bool} {key:α→κ}
theorem XG (hs:OM lt) {k:κ}:∀{l:List α},(below lt key k l).length+(above lt key k l).length≤l.length
 |[]=>by simp[below,above]
 |a::l=>by
  have ih:=XG hs (k:=k) (l:=l)
  unfold below above at ih ⊢
  cases h1:lt (key a) k<;>cases h2:lt k (key a)
  ·rw[List.filter_cons_of_neg (by simp[h1]),List.filter_cons_of_neg (by simp[h2])];simp;omega
  ·rw[List.filter_cons_of_neg (by simp[h1]),List.filter_cons_of_pos (by simp[h2])];simp;omega
  ·rw[List.filter_cons_of_pos (by simp[h1]),List.filter_cons_of_neg (by simp[h2])];simp;omega
  ·have:=hs.tr _ _ _ h1 h2;rw[hs.Og]at this;cases this
theorem Ab4 (hs:OM lt) {k:κ}:∀{l:List α},(∃ y∈l,key y=k)→(below lt key k l).length+(above lt key k l).length+1≤l.length
 |[],h=>by simp at h
 |a::l,h=>by
  by_cases hk:key a=k
  ·have ih:=XG hs (key:=key) (k:=k) (l:=l)
   unfold below above at ih ⊢
   have h1:lt (key a) k=false:=by rw[hk];exact hs.Og _
   have h2:lt k (key a)=false:=by rw[hk];exact hs.Og _
   rw[List.filter_cons_of_neg (by simp[h1]),List.filter_cons_of_neg (by simp[h2])];simp;omega
  ·have hm:∃y∈l,key y=k:=by
        obtain⟨y,hy,e⟩:=h
        rcases List.mem_cons.1 hy with rfl|hy
        ·exact absurd e hk
        ·exact⟨y,hy,e⟩
   have ih:=Ab4 hs hm
   unfold below above at ih ⊢
   cases h1:lt (key a) k<;>cases h2:lt k (key a)
   ·rw[List.filter_cons_of_neg (by simp[h1]),List.filter_cons_of_neg (by simp[h2])];simp;omega
   ·rw[List.filter_cons_of_neg (by simp[h1]),List.filter_cons_of_pos (by simp[h2])];simp;omega
   ·rw[List.filter_cons_of_pos (by simp[h1]),List.filter_cons_of_neg (by simp[h2])];simp;omega
   ·have:=hs.tr _ _ _ h1 h2;rw[hs.Og]at this;cases this
theorem F8 (hs:OM lt) {x:α} {l:List α}:(Ba lt key x l).length≤l.length+1:=by
 have:=XG hs (key:=key) (k:=key x) (l:=l)
 simp only[Ba,List.length_append,List.length_singleton];omega
theorem Jh (hs:OM lt) {x:α} {l:List α} (h:∃y∈l,key y=key x):(Ba lt key x l).length≤l.length:=by
 have:=Ab4 hs (key:=key) (k:=key x) (l:=l) h
 simp only[Ba,List.length_append,List.length_singleton];omega
theorem Ea (hs:OM lt) {k:κ} {l:List α}:(CP lt key k l).length≤l.length:=by
 have:=XG hs (key:=key) (k:=k) (l:=l)
 simp only[CP,List.length_append];omega
end
structure Ab5 (n:GN):Prop where
 iL:Inc Op.bytesLess id n.labels
 lL:n.labels.length≤8
 iP:Inc Op.bytesLess GP.key n.props
 lP:n.props.length≤16
structure AfH (n:GE):Prop where
 iP:Inc Op.bytesLess GP.key n.props
 lP:n.props.length≤16
structure Gu (g:GG):Prop where
 lN:g.nodes.length≤2000
 lE:g.edges.length≤4000
 iN:Inc Cc GN.id g.nodes
 iE:Inc Cc GE.id g.edges
 aN:∀n∈g.nodes,Ab5 n
 aE:∀n∈g.edges,AfH n
 bx:-2^62≤g.BA∧g.BA≤2^62
 by_:-2^62≤g.BJ∧g.BJ≤2^62
theorem Gu.ask {nb eb:Bool} {N:List EN} {E:List EE} {x y:Int} (h:Gu (J3 nb eb N E x y)):Ask N E x y where
 lN:=by have:=h.lN;simpa[J3]using this
 lE:=by have:=h.lE;simpa[J3]using this
 iN:=h.iN
 iE:=h.iE
 iL:=fun e he=>by have:=h.aN e.n (List.mem_map_of_mem he);exact⟨this.iL,this.lL⟩
 iP:=fun e he=>by have:=h.aN e.n (List.mem_map_of_mem he);exact⟨this.iP,this.lP⟩
 iQ:=fun e he=>by have:=h.aE e.e (List.mem_map_of_mem he);exact⟨this.iP,this.lP⟩
 bx:=h.bx
 by_:=h.by_
theorem Gu.Oj {g:GG} (h:Gu g) {n:GN} (hn:Ab5 n) (hm:∃m∈g.nodes,m.id=n.id):Gu {g with nodes:=Ba Cc GN.id n g.nodes}:=
 {h with
  lN:=Nat.le_trans (Jh Ag hm) h.lN
  iN:=FM Ag h.iN
  aN:=fun m hm=>by rcases Bg Ag hm with rfl|hm;exact hn;exact h.aN _ hm}
theorem Gu.Xb {g:GG} (h:Gu g) {n:GE} (hn:AfH n) (hm:∃m∈g.edges,m.id=n.id):Gu {g with edges:=Ba Cc GE.id n g.edges}:=
 {h with
  lE:=Nat.le_trans (Jh Ag hm) h.lE
  iE:=FM Ag h.iE
  aE:=fun m hm=>by rcases Bg Ag hm with rfl|hm;exact hn;exact h.aE _ hm}
theorem DX {α:Type} {p:α→Bool} {l:List α} {n:α} (h:l.find? p=some n):n∈l∧p n=true:=⟨List.mem_of_find?_eq_some h,List.find?_some h⟩
theorem Gu.node {g:GG} (h:Gu g) {c:GC} (hid:Md c.id):Gu (Bc g c).2:=by
 unfold Bc
 split
 ·split
  ·exact h
  split
  ·rename_i hl
   exact{h with
        lN:=by have:=F8 (key:=GN.id) Ag (x:=⟨c.id,false,[],false,[]⟩) (l:=g.nodes);show(Ba Cc GN.id _ g.nodes).length≤2000;omega
        iN:=FM Ag h.iN
        aN:=fun m hm=>by
         rcases Bg Ag hm with rfl|hm
         ·exact⟨List.Pairwise.nil,by simp,List.Pairwise.nil,by simp⟩
         ·exact h.aN _ hm
        bx:=by have:=h.bx;have:=hid.2;have:=hid.1;show _≤(if c.id+1>g.BA then c.id+1 else g.BA)∧(if c.id+1>g.BA then c.id+1 else g.BA)≤_;split<;>omega}
  ·exact h
 split
 ·exact h
 rename_i n hf
 obtain⟨hn,hz⟩:=DX hf
 replace hz:=of_decide_eq_true hz
 have ha:=h.aN n hn
 split
 ·split
  ·exact h
  ·exact{h with lN:=Nat.le_trans (Ea Ag) h.lN,iN:=Gn Ag h.iN,aN:=fun m hm=>h.aN m (Cj hm)}
 split
 ·split
  ·exact h
  split
  ·rename_i hl
   exact h.Oj ⟨FM Aq ha.iL,Nat.le_trans (F8 Aq) (by omega),ha.iP,ha.lP⟩ ⟨n,hn,rfl⟩
  ·exact h
 split
 ·split
  ·exact h.Oj ⟨Gn Aq ha.iL,Nat.le_trans (Ea Aq) ha.lL,ha.iP,ha.lP⟩ ⟨n,hn,rfl⟩
  ·exact h
 split
 ·exact h.Oj ⟨ha.iL,ha.lL,Gn Aq ha.iP,Nat.le_trans (Ea Aq) ha.lP⟩ ⟨n,hn,rfl⟩
 split
 ·rename_i hx
  refine h.Oj ⟨ha.iL,ha.lL,FM Aq ha.iP,?_⟩ ⟨n,hn,rfl⟩
  rcases hx with hx|hx
  ·exact Nat.le_trans (Jh Aq hx) ha.lP
  ·exact Nat.le_trans (F8 Aq) (by omega)
 ·exact h
theorem Gu.edge {g:GG} (h:Gu g) {c:GC} (hid:Md c.id):Gu (Bz g c).2:=by
 unfold Bz
 split
 ·split
  ·exact h
  split
  ·split
   ·rename_i hl
    exact{h with
     lE:=by have:=F8 (key:=GE.id) Ag (x:=⟨c.id,c.fr,c.to,c.name,false,[]⟩) (l:=g.edges);show(Ba Cc GE.id _ g.edges).length≤4000;omega
     iE:=FM Ag h.iE
     aE:=fun m hm=>by
      rcases Bg Ag hm with rfl|hm
      ·exact⟨List.Pairwise.nil,by simp⟩
      ·exact h.aE _ hm
     by_:=by have:=h.by_;have:=hid.2;have:=hid.1;show _≤(if c.id+1>g.BJ then c.id+1 else g.BJ)∧(if c.id+1>g.BJ then c.id+1 else g.BJ)≤_;split<;>omega}
   ·exact h
  ·exact h
 split
 ·exact h
 rename_i n hf
 obtain⟨hn,hz⟩:=DX hf
 have ha:=h.aE n hn
 split
 ·exact{h with lE:=Nat.le_trans (Ea Ag) h.lE,iE:=Gn Ag h.iE,aE:=fun m hm=>h.aE m (Cj hm)}
 split
 ·exact h.Xb ⟨Gn Aq ha.iP,Nat.le_trans (Ea Aq) ha.lP⟩ ⟨n,hn,rfl⟩
 split
 ·rename_i hx
  refine h.Xb ⟨FM Aq ha.iP,?_⟩ ⟨n,hn,rfl⟩
  rcases hx with hx|hx
  ·exact Nat.le_trans (Jh Aq hx) ha.lP
  ·exact Nat.le_trans (F8 Aq) (by omega)
 ·exact h
theorem Gu.step {g:GG} (h:Gu g) {c:GC}:Gu (stepG g c).2:=by
 unfold stepG
 split
 ·exact h
 rename_i hk
 have h0:=AeF (Classical.not_not.1 hk)
 split
 ·exact h.node h0.2.1
 ·exact h.edge h0.2.1
section
variable {AP:Nat→Option G9}
def Aft (D:X3) (K:AX→Am→Prop) (env:Env) (s:Am):Prop:=LX (D7 env s D.results) fun vs=>K (.ok (En vs)) s
def AaO (AP:Nat→Option G9) (D:X3) (K:AX→Am→Prop) (c v:AV) (env:Env) (s:Am):Prop:=match v with
 | .iface t (.int k n)=>need (t=D.tag) (KH AP (.store 1 (.cst c) (.cst (.int k n))) [] s fun out s'=>match out with
   | .ok _=>Aft D K env s'
   | .DI _=>False)
 |_=>False
def Amn (AP:Nat→Option G9) (D:X3) (K:AX→Am→Prop) (Afk:Env) (e:AZ) (env:Env) (s:Am):Prop:=match e with
 | .normal=>Aft D K env s
 | .ret=>Aft D K env s
 | .DI v=>AaO AP D K (Afk.get D.cell) v env s
 | .exit _=>False
def Amo (AP:Nat→Option G9) (D:X3) (K:AX→Am→Prop) (e:AZ) (env:Env) (s:Am):Prop:=match e with
 | .ret=>Aft D K env s
 | .DI v=>K (.DI v) s
 | .normal=>match env.get D.tcl with
   | .junk=>vC AP D.post env s (Amn AP D K env)
   |_=>False
 | .exit _=>False
theorem Qg {D:X3} {K:AX→Am→Prop} {env:Env} {s:Am} (h:Aft D K env s):∃out s',WZ D env s=some (out,s')∧K out s':=by
 obtain⟨vs,h1,h2⟩:=h
 exact⟨_,_,by simp only[WZ,h1,Option.map_some],h2⟩
theorem AaP {D:X3} {K:AX→Am→Prop} {c v:AV} {env:Env} {s:Am} (h:AaO AP D K c v env s):∃N out s',OJ (run AP N) D c v env s=some (out,s')∧K out s':=by
 unfold AaO at h
 split at h
 ·obtain⟨rfl,h⟩:=h
  obtain⟨N,out,s1,h1,h2⟩:=Ia h
  cases out with
  |ok u=>
   obtain⟨out,s',h3,h4⟩:=Qg h2
   exact⟨N,out,s',by simp only[OJ,if_true,h1];exact h3,h4⟩
  |DI u=>cases h2
 ·cases h
theorem Ac0 {f:Nat} {D:X3} {args:List AV} {s:Am} {K:AX→Am→Prop} (hf:AP f=some (.dfr D)) (hl:args.length=D.np) (h:vC AP (.seq D.Aab D.pre2) (params args 0) s (Amo AP D K)):A8 AP f args s K:=by
 obtain⟨N,e,env,s1,h1,h2⟩:=FW h
 cases e with
 |ret=>
  obtain⟨out,s',h3,h4⟩:=Qg h2
  exact⟨N+1,out,s',by simp only[run,hf,if_pos hl,evD,h1];exact h3,h4⟩
 |DI v=>exact⟨N+1,_,_,by simp only[run,hf,if_pos hl,evD,h1],h2⟩
 |exit id=>cases h2
 |normal=>
  simp only[Amo]at h2
  split at h2
  ·rename_i hj
   obtain⟨M,e2,Dx,s2,h3,h4⟩:=FW h2
   have h1':=fun P=>Di (Bv (AP:=AP) (Nat.le_max_left N P)) (Nat.le_max_left N P) h1
   cases e2 with
   |normal=>
    obtain⟨out,s',h5,h6⟩:=Qg h4
    have h3':=Di (Bv (AP:=AP) (Nat.le_max_right N M)) (Nat.le_max_right N M) h3
    exact⟨max N M+1,out,s',by simp only[run,hf,if_pos hl,evD,h1' M,hj,h3'];exact h5,h6⟩
   |ret=>
    obtain⟨out,s',h5,h6⟩:=Qg h4
    have h3':=Di (Bv (AP:=AP) (Nat.le_max_right N M)) (Nat.le_max_right N M) h3
    exact⟨max N M+1,out,s',by simp only[run,hf,if_pos hl,evD,h1' M,hj,h3'];exact h5,h6⟩
   |DI v=>
    obtain⟨P,out,s',h5,h6⟩:=AaP h4
    have h3':=Di (Bv (AP:=AP) (show M≤max N (max M P) by omega)) (show M≤max N (max M P) by omega) h3
    have h5':=RD (Bv (AP:=AP) (show P≤max N (max M P) by omega)) h5
    exact⟨max N (max M P)+1,out,s',by simp only[run,hf,if_pos hl,evD,h1' (max M P),hj,h3'];exact h5',h6⟩
   |exit id=>cases h4
  ·cases h2
end
section
variable {σ:List Obj} {d gd:Nat} {vN vE:AV} {nb eb:Bool} {N:List EN} {E:List EE} {x y:Int} {ct:Nat} {K:AX→Am→Prop}
theorem Ed.AhJ {σ:List Obj} {d gd:Nat} {vN vE:AV} {nb eb:Bool} {N:List EN} {E:List EE} {x y:Int} (h:Ed σ d gd vN vE nb eb N E x y) {o g:Nat} {c:Bool} {k:IntKind} {z:Int} (ho:nth σ o=some (.arr g 1 true c [.int k z])):∀q∈d::(vN.obj++(vE.obj++BO N E)),q∉[o]:=by
 intro q hq hm
 obtain rfl:q=o:=by simpa using hm
 obtain⟨cn,hn1,_⟩:=h.hn
 obtain⟨ce,he1,_⟩:=h.he
 rcases List.mem_cons.1 hq with rfl|hq
 ·have:=h.box;rw[ho]at this;simp at this
 rcases List.mem_append.1 hq with hq|hq
 ·exact hn1.diff ho (by decide) hq
 rcases List.mem_append.1 hq with hq|hq
 ·exact he1.diff ho (by decide) hq
 rcases List.mem_append.1 hq with hq|hq<;>obtain⟨e,he,hm⟩:=List.mem_flatMap.1 hq
 ·rcases List.mem_append.1 hm with hm|hm
  ·rcases(h.hN e he).1 with⟨_,_,h1|⟨o',g',es',h1,h2⟩⟩|⟨_,o',g',h1,h2⟩
   ·rw[h1]at hm;simp[AV.obj]at hm
   ·rw[h1]at hm;simp only[AV.obj,List.mem_singleton]at hm;subst hm;rw[ho]at h2;simp at h2
   ·rw[h1]at hm;simp only[AV.obj,List.mem_singleton]at hm;subst hm;rw[ho]at h2
    simp only[Option.some.injEq,Obj.arr.injEq]at h2
    have:=h2.2.2.2.2
    cases hl:e.n.labels with
    |nil=>rw[hl]at this;simp[vs]at this
    |cons a l=>rw[hl]at this;simp[vs]at this
  ·exact(h.hN e he).2.diff ho (by decide) hm
 ·exact Hd.diff (h.hE e he) ho (by decide) hm
theorem EdG.cell {σ σ':List Obj} {d gd:Nat} {g:GG} (h:EdG σ d gd g) {o u:Nat} {c:Bool} {k:IntKind} {z:Int} (ho:nth σ o=some (.arr u 1 true c [.int k z])) (f:Fr σ σ' [o]):EdG σ' d gd g:=by
 obtain⟨vN,vE,nb,eb,N,E,x,y,hE,e⟩:=h
 exact⟨_,_,_,_,_,_,_,_,hE.fr f (hE.AhJ ho),e⟩
theorem Afs {σ:List Obj} {o g c':Nat} {nn cl:Bool} {z:Int} (h:nth σ o=some (.arr g 1 nn cl [.int .i64 z])):D7 [(4,.ref o g 0 0)] ⟨σ,c'⟩ SL.results=some [.int .i64 z]:=by
 show(match H7 [(4,.ref o g 0 0)] ⟨σ,c'⟩ (.cell 4 none),D7 [(4,.ref o g 0 0)] ⟨σ,c'⟩ []with
  |some v,some vs=>some (v::vs)
  |_,_=>none)=_
 have e:H7 [(4,.ref o g 0 0)] ⟨σ,c'⟩ (.cell 4 none)=some (.int .i64 z):=by
  simp[H7,Env.get,h,nth,AV.cells,loadCells]
 rw[e]
 rfl
set_option maxHeartbeats 4000000 in
theorem stepW {c:GC} (h:Ed σ d gd vN vE nb eb N E x y) (hq:Ask N E x y) (hok:c.ok)
 (hR:∀σ' c',EdG σ' d gd (stepG (J3 nb eb N E x y) c).2→Fr σ σ' (d::(vN.obj++(vE.obj++BO N E)))→K (.ok (.int .i64 (stepG (J3 nb eb N E x y) c).1)) ⟨σ',c'⟩):
 A8 (Ad tab) 121 [.ref d gd 0 0,c.av] ⟨σ,ct⟩ K:=by
 have hck:=Amm hok
 have hlt:=h.OW
 have hdl:=BH h.box
 have hv:c.v.ok:=hok.2.2.2.2.2
 have h0:=fun(h0:IC c=0)=>AeF h0
 obtain⟨op,z,fr,to,nm,v⟩:=c
 refine Ac0 rfl rfl ?_
 show vC _ _ [(0,.ref d gd 0 0),(1,.agg [.int .i64 op,.int .i64 z,.int .i64 fr,.int .i64 to,.str nm,.int .i64 v.k,.int .i64 v.n,.int .i64 v.d,.str v.s,.sl v.nn v.l])] _ _
 conv=>whnf
 (conv=>whnf);repeat' (first|(refine CJ fun σ2 f2 h2 l2=>?_;have h12:=f2.get h1 (by simp);have hE2:=(h.Ol f1).Ol f2;have f02:=f1.trans f2;conv=>whnf)|(refine CJ fun σ1 f1 h1 l1=>?_;conv=>whnf)|(refine Aa hck ?_;rintro _ rfl;conv=>whnf)|(rw [h12];conv=>whnf)|(rw [h2];conv=>whnf)|(refine E8 h2 fun σ3 f3 h3 l3=>?_;conv=>whnf)|(rw [h3];conv=>whnf)|(refine kA ?_;conv=>whnf)|(refine Br.mk (fun hc=>?_) fun hc=>?_<;>first|exact hc.elim|conv=>whnf)|(refine kB ?_))
 all_goals have hns:∀q∈d::(vN.obj++(vE.obj++BO N E)),q<σ.length:=hlt
 all_goals have l1':σ1.length=σ.length+1:=l1
 ·have hk:IC (GC.mk op z fr to nm v)=0:=by assumption
  have h0':=h0 hk
  have hs:stepG (J3 nb eb N E x y) ⟨op,z,fr,to,nm,v⟩=Bc (J3 nb eb N E x y) ⟨op,z,fr,to,nm,v⟩:=by
   unfold stepG;rw[if_neg (fun h=>h hk),if_pos hc]
  refine AjF hE2 hq ⟨h0'.1.1,hc⟩ h0'.2.1 hv (fun e he σ' c' f=>?_) (fun g' hg σ' c' hE' f=>?_)
  ·have hz3:=f.get h2 (by simp)
   (conv=>whnf);repeat' (first|(rw [hz3];conv=>whnf)|(refine E8 hz3 fun σ4 f4 h4 l4=>?_;conv=>whnf)|(refine kA ?_;conv=>whnf)|(refine Br.mk (fun hc=>?_) fun hc=>?_<;>first|exact hc.elim|conv=>whnf)|(refine kB ?_))
   refine⟨_,Afs h4,?_⟩
   rw[hs,he]at hR
   have ff:Fr σ σ4 []:=(((f02.trans f).mono (by simp)).trans f4).mono (by simp;omega)
   exact hR _ _ ⟨_,_,_,_,_,_,_,_,h.Ol ff,rfl⟩ (ff.mono (by simp))
  ·have hz3:=f.get h2 (fun hm=>by have:=hns _ hm;dsimp only at this;omega)
   (conv=>whnf);repeat' (first|(rw [hz3];conv=>whnf)|(refine E8 hz3 fun σ4 f4 h4 l4=>?_;conv=>whnf)|(refine kA ?_;conv=>whnf)|(refine Br.mk (fun hc=>?_) fun hc=>?_<;>first|exact hc.elim|conv=>whnf)|(refine kB ?_))
   refine⟨_,Afs h4,?_⟩
   rw[hs,hg]at hR
   refine hR _ _ (hE'.cell hz3 f4) ((((f02.mono (F':=σ1.length::(d::(vN.obj++(vE.obj++BO N E)))) (by simp)).trans (f.mono (by intro q hq;exact .inl (List.mem_cons_of_mem _ hq)))).trans (f4.mono (by simp))).mono fun q hq=>?_)
   rcases List.mem_cons.1 hq with rfl|hq
   ·exact .inr (by omega)
   ·exact .inl hq
 ·have hk:IC (GC.mk op z fr to nm v)=0:=by assumption
  have h0':=h0 hk
  have hs:stepG (J3 nb eb N E x y) ⟨op,z,fr,to,nm,v⟩=Bz (J3 nb eb N E x y) ⟨op,z,fr,to,nm,v⟩:=by
   unfold stepG;rw[if_neg (fun h=>h hk),if_neg hc]
  refine AjL hE2 hq ⟨show 6≤op by omega,h0'.1.2⟩ h0'.2.1 hv (fun e he σ' c' f=>?_) (fun g' hg σ' c' hE' f=>?_)
  ·have hz3:=f.get h2 (by simp)
   (conv=>whnf);repeat' (first|(rw [hz3];conv=>whnf)|(refine E8 hz3 fun σ4 f4 h4 l4=>?_;conv=>whnf)|(refine kA ?_;conv=>whnf)|(refine Br.mk (fun hc=>?_) fun hc=>?_<;>first|exact hc.elim|conv=>whnf)|(refine kB ?_))
   refine⟨_,Afs h4,?_⟩
   rw[hs,he]at hR
   have ff:Fr σ σ4 []:=(((f02.trans f).mono (by simp)).trans f4).mono (by simp;omega)
   exact hR _ _ ⟨_,_,_,_,_,_,_,_,h.Ol ff,rfl⟩ (ff.mono (by simp))
  ·have hz3:=f.get h2 (fun hm=>by have:=hns _ hm;dsimp only at this;omega)
   (conv=>whnf);repeat' (first|(rw [hz3];conv=>whnf)|(refine E8 hz3 fun σ4 f4 h4 l4=>?_;conv=>whnf)|(refine kA ?_;conv=>whnf)|(refine Br.mk (fun hc=>?_) fun hc=>?_<;>first|exact hc.elim|conv=>whnf)|(refine kB ?_))
   refine⟨_,Afs h4,?_⟩
   rw[hs,hg]at hR
   refine hR _ _ (hE'.cell hz3 f4) ((((f02.mono (F':=σ1.length::(d::(vN.obj++(vE.obj++BO N E)))) (by simp)).trans (f.mono (by intro q hq;exact .inl (List.mem_cons_of_mem _ hq)))).trans (f4.mono (by simp))).mono fun q hq=>?_)
   rcases List.mem_cons.1 hq with rfl|hq
   ·exact .inr (by omega)
   ·exact .inl hq
 ·have hk:IC (GC.mk op z fr to nm v)≠0:=by assumption
  refine⟨_,Afs h3,?_⟩
  have hs:stepG (J3 nb eb N E x y) ⟨op,z,fr,to,nm,v⟩=(IC ⟨op,z,fr,to,nm,v⟩,J3 nb eb N E x y):=by
   unfold stepG;rw[if_pos hk]
  rw[hs]at hR
  have ff:Fr σ σ3 []:=((f02.mono (by simp)).trans f3).mono (by simp;omega)
  exact hR _ _ ⟨_,_,_,_,_,_,_,_,h.Ol ff,rfl⟩ (ff.mono (by simp))
end
theorem Aic {g es:Nat} {ys:List AV} {bytes:Nat} {K:Nat→Bool→Bool→List AV→Prop} (hs:Bo es ys) (hr:ys.length*bytes≤2 ^ 46) (h:K ys.length true true ys):
 KI g g es es 0 true true true [] ys bytes K:=by
 refine⟨⟨rfl,rfl,by simp,hs,?_⟩,?_⟩
 ·rw[Nat.zero_add];exact Jd hr
 ·rw[Nat.zero_add];exact h
theorem AeS {α:Type} {fv:α→AV} {AP:Nat→Option G9} {f es:Nat} {l:List α} {nn:Bool} {s:Am} {K:AV→Am→Prop} (hn:nn=false→l=[]) (hcl:DK [.sl nn (vs fv l)]=true)
 (h0:A8 AP f [.sl false []] ⟨[],0⟩ fun out _=>out=.ok (.sl false []))
 (h1:A8 AP f [.sl true (vs fv l)] ⟨[],0⟩ fun out s'=>∃o g,out=.ok (.own o g 0 l.length)∧nth s'.σ o=some (.arr g es true true (vs fv l)))
 (hk:∀σ' es',Fr s.σ σ' []→nth σ' s.σ.length=some (.arr s.ctr es' nn true (vs fv l))→(nn=true→es'=es)→σ'.length=s.σ.length+1→K (.own s.σ.length s.ctr 0 l.length) ⟨σ',s.ctr+1⟩):
 ∃N r s',Bf (run AP N) .own f [.sl nn (vs fv l)] s=some (.ok r,s')∧K r s':=by
 cases nn with
 |false=>
  obtain rfl:=hn rfl
  exact PD hcl h0 (hk _ 1 ⟨by simp,fun o ho _=>Qe ho⟩ Nk (by simp) (by simp))
 |true=>
  refine Aec (elems:=vs fv l) (es:=es) hcl (by rw[lV];exact h1) ?_
  rw[lV]
  exact hk _ es ⟨by simp,fun o ho _=>Qe ho⟩ Nk (fun _=>rfl) (by simp)
theorem Ahy:A8 (Ad tab) 148 [.sl false []] ⟨[],0⟩ fun out _=>out=.ok (.sl false []):=by
 refine Ar rfl rfl ?_
 (conv=>whnf);repeat' (first|(refine kA ?_;conv=>whnf)|(refine Br.mk (fun hc=>?_) fun hc=>?_<;>first|exact hc.elim|conv=>whnf)  |(refine kB ?_))
 rfl
theorem Ahz {l:List (List UInt8)} (hl:l.length≤5000):A8 (Ad tab) 148 [.sl true (vs .str l)] ⟨[],0⟩ fun out s'=>∃o g,out=.ok (.own o g 0 l.length)∧nth s'.σ o=some (.arr g 1 true true (vs .str l)):=by
 refine Ar rfl rfl ?_
 (conv=>whnf);repeat' (first|(refine kA ?_;conv=>whnf)|(refine Br.mk (fun hc=>?_) fun hc=>?_<;>first|exact hc.elim|conv=>whnf)  |(refine kB ?_))
 refine Aic (FB (f:=.str) (fun _=>rfl) l) (by rw[lV];omega) ?_
 rw[lV]
 (conv=>whnf);repeat' (first|(refine kA ?_;conv=>whnf)|(refine Br.mk (fun hc=>?_) fun hc=>?_<;>first|exact hc.elim|conv=>whnf)  |(refine kB ?_))
 exact⟨_,_,rfl,rfl⟩
theorem AbS:A8 (Ad tab) 149 [.sl false []] ⟨[],0⟩ fun out _=>out=.ok (.sl false []):=by
 refine Ar rfl rfl ?_
 (conv=>whnf);repeat' (first|(refine kA ?_;conv=>whnf)|(refine Br.mk (fun hc=>?_) fun hc=>?_<;>first|exact hc.elim|conv=>whnf)  |(refine kB ?_))
 rfl
theorem AbT {l:List GP} (hl:l.length≤5000):A8 (Ad tab) 149 [.sl true (vs GP.av l)] ⟨[],0⟩ fun out s'=>∃o g,out=.ok (.own o g 0 l.length)∧nth s'.σ o=some (.arr g 6 true true (vs GP.av l)):=by
 refine Ar rfl rfl ?_
 (conv=>whnf);repeat' (first|(refine kA ?_;conv=>whnf)|(refine Br.mk (fun hc=>?_) fun hc=>?_<;>first|exact hc.elim|conv=>whnf)  |(refine kB ?_))
 refine Aic (FB (f:=GP.av) (fun _=>rfl) l) (by rw[lV];omega) ?_
 rw[lV]
 (conv=>whnf);repeat' (first|(refine kA ?_;conv=>whnf)|(refine Br.mk (fun hc=>?_) fun hc=>?_<;>first|exact hc.elim|conv=>whnf)  |(refine kB ?_))
 exact⟨_,_,rfl,rfl⟩
theorem Ahf:A8 (Ad tab) 147 [.sl false []] ⟨[],0⟩ fun out _=>out=.ok (.sl false []):=by
 refine Ar rfl rfl ?_
 (conv=>whnf);repeat' (first|(refine kA ?_;conv=>whnf)|(refine Br.mk (fun hc=>?_) fun hc=>?_<;>first|exact hc.elim|conv=>whnf)  |(refine kB ?_))
 rfl
theorem Ahg {l:List GN} (hl:l.length≤5000):A8 (Ad tab) 147 [.sl true (vs GN.av l)] ⟨[],0⟩ fun out s'=>∃o g,out=.ok (.own o g 0 l.length)∧nth s'.σ o=some (.arr g 3 true true (vs GN.av l)):=by
 refine Ar rfl rfl ?_
 (conv=>whnf);repeat' (first|(refine kA ?_;conv=>whnf)|(refine Br.mk (fun hc=>?_) fun hc=>?_<;>first|exact hc.elim|conv=>whnf)  |(refine kB ?_))
 refine Aic (FB (f:=GN.av) (fun _=>rfl) l) (by rw[lV];omega) ?_
 rw[lV]
 (conv=>whnf);repeat' (first|(refine kA ?_;conv=>whnf)|(refine Br.mk (fun hc=>?_) fun hc=>?_<;>first|exact hc.elim|conv=>whnf)  |(refine kB ?_))
 exact⟨_,_,rfl,rfl⟩
theorem Ahh:A8 (Ad tab) 150 [.sl false []] ⟨[],0⟩ fun out _=>out=.ok (.sl false []):=by
 refine Ar rfl rfl ?_
 (conv=>whnf);repeat' (first|(refine kA ?_;conv=>whnf)|(refine Br.mk (fun hc=>?_) fun hc=>?_<;>first|exact hc.elim|conv=>whnf)  |(refine kB ?_))
 rfl
theorem Ahi {l:List GE} (hl:l.length≤5000):A8 (Ad tab) 150 [.sl true (vs GE.av l)] ⟨[],0⟩ fun out s'=>∃o g,out=.ok (.own o g 0 l.length)∧nth s'.σ o=some (.arr g 5 true true (vs GE.av l)):=by
 refine Ar rfl rfl ?_
 (conv=>whnf);repeat' (first|(refine kA ?_;conv=>whnf)|(refine Br.mk (fun hc=>?_) fun hc=>?_<;>first|exact hc.elim|conv=>whnf)  |(refine kB ?_))
 refine Aic (FB (f:=GE.av) (fun _=>rfl) l) (by rw[lV];omega) ?_
 rw[lV]
 (conv=>whnf);repeat' (first|(refine kA ?_;conv=>whnf)|(refine Br.mk (fun hc=>?_) fun hc=>?_<;>first|exact hc.elim|conv=>whnf)  |(refine kB ?_))
 exact⟨_,_,rfl,rfl⟩
end AI
end Go.Proofs.YtchcadfjbkkgmaaGreatDoor
