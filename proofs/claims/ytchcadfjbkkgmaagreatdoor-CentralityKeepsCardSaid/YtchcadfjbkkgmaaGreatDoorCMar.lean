/- Graphs up to the difference between no list and an empty one; a step does not see it. The reference's HasLabel. The reference: whether a node is used; a change of a node, exactly. The reference: changes of a node's labels and properties, exactly. The reference puts edges into a graph, exactly. -/
import Derived.Test.YtchcadfjbkkgmaaGreatDoorCMap
import Derived.Test.YtchcadfjbkkgmaaGreatDoorCMae
import Derived.Test.YtchcadfjbkkgmaaGreatDoorCMaq
import Derived.Test.YtchcadfjbkkgmaaGreatDoorCMaj
set_option linter.unusedVariables false
set_option maxRecDepth 4000
namespace Go.Proofs.YtchcadfjbkkgmaaGreatDoor
namespace AI
section
variable {α κ:Type} {lt:κ→κ→Bool} {key:α→κ} {f:α→α}
theorem Ac9 (hk:∀a,key (f a)=key a) {k:κ} {l:List α}:(below lt key k l).map f=below lt key k (l.map f):=by
 unfold below;rw[List.filter_map];congr 1;refine List.filter_congr fun x _=>?_;simp[hk]
theorem Ada (hk:∀a,key (f a)=key a) {k:κ} {l:List α}:(above lt key k l).map f=above lt key k (l.map f):=by
 unfold above;rw[List.filter_map];congr 1;refine List.filter_congr fun x _=>?_;simp[hk]
theorem Y3 (hk:∀a,key (f a)=key a) {x:α} {l:List α}:(Ba lt key x l).map f=Ba lt key (f x) (l.map f):=by
 unfold Ba;rw[List.map_append,List.map_append,Ac9 hk,Ada hk,hk];rfl
end
def Vk (n:GN):GN:=⟨n.id,true,n.labels,true,n.props⟩
def Xc (e:GE):GE:=⟨e.id,e.fr,e.to,e.ty,true,e.props⟩
def G5 (g:GG):GG:=⟨true,g.nodes.map Vk,true,g.edges.map Xc,g.BA,g.BJ⟩
theorem AhS (n:GN):GN.id (Vk n)=GN.id n:=rfl
theorem AhT (n:GE):GE.id (Xc n)=GE.id n:=rfl
def AaU (a b:Int×GG):Prop:=a.1=b.1∧G5 a.2=G5 b.2
theorem AaU.trans {a b c:Int×GG} (h:AaU a b) (k:AaU b c):AaU a c:=⟨h.1.trans k.1,h.2.trans k.2⟩
theorem AaU.symm {a b:Int×GG} (h:AaU a b):AaU b a:=⟨h.1.symm,h.2.symm⟩
theorem J5 {n:GN} {s:List UInt8} (hl:n.labels.length<2^63):Af (Ad tab) 128 [n.av,.str s] (· =.bool (decide (s∈n.labels))):=by
 refine Ac rfl rfl ?_
 (conv=>whnf);repeat' (first|(refine kA ?_;conv=>whnf)|(refine Br.mk (fun hc=>?_) fun hc=>?_<;>first|exact hc.elim|conv=>whnf)|(refine BX (Amh hl) (fun hc=>?_) (fun hc=>?_)<;>conv=>whnf)|(refine kB ?_))
 all_goals first|exact BD (by assumption)|exact AY (by assumption)
theorem VJ {e:GE}:Af (Ad tab) 86 [e.av,.sl false []] (· =.bool true):=by
 refine Ac rfl rfl ?_
 (conv=>whnf);repeat' (first  |(refine kA ?_;conv=>whnf)|(refine Br.mk (fun hc=>?_) fun hc=>?_<;>first|exact hc.elim|conv=>whnf)|(refine kB ?_))
 all_goals rfl
def atN (id:Int) (e:GE):Prop:=e.fr=id∨e.to=id
instance (id:Int) (e:GE):Decidable (atN id e):=by unfold atN;infer_instance
theorem Ajq {e:GE} {id:Int}:Af (Ad tab) 85 [e.av,.int .i64 id,.int .i64 3] (fun v=>∃a:AJ,v=.Cb [a.av,.bool (decide (atN id e))]):=by
 by_cases h:atN id e
 ·rw[decide_eq_true h]
  unfold atN at h
  refine Ac rfl rfl ?_
  (conv=>whnf);repeat' (first  |(refine kA ?_;conv=>whnf)|(refine Br.mk (fun hc=>?_) fun hc=>?_<;>first|exact hc.elim|conv=>whnf)|(refine kB ?_))
  all_goals first|exact⟨⟨_,_,_⟩,rfl⟩|(exfalso;omega)
 ·rw[decide_eq_false h]
  unfold atN at h
  refine Ac rfl rfl ?_
  (conv=>whnf);repeat' (first  |(refine kA ?_;conv=>whnf)|(refine Br.mk (fun hc=>?_) fun hc=>?_<;>first|exact hc.elim|conv=>whnf)|(refine kB ?_))
  all_goals first|exact⟨⟨_,_,_⟩,rfl⟩|(exfalso;omega)
theorem AgJ {α:Type} {P:α→Prop} {l:List α} {i:Nat} (h:i<l.length):(∃ e∈l.take (i+1),P e)↔(∃ e∈l.take i,P e)∨P l[i]:=by
 rw[List.take_succ_eq_append_getElem h]
 simp only[List.mem_append,List.mem_singleton]
 constructor
 ·rintro⟨e,h|rfl,hp⟩
  ·exact .inl ⟨e,h,hp⟩
  ·exact .inr hp
 ·rintro(⟨e,h,hp⟩|hp)
  ·exact⟨e,.inl h,hp⟩
  ·exact⟨_,.inr rfl,hp⟩
theorem Ajr {g:GG} (hg:g.ok) (hE:g.edges.length≤3000) {id:Int}:
 Af (Ad tab) 48 [g.av,.int .i64 id,.sl false [],.int .i64 3] (fun v=>∃nn W,v=.sl nn (vs AJ.av W)∧W.length≤3000∧(0<W.length↔∃e∈g.edges,atN id e)):=by
 refine Ac rfl rfl ?_
 (conv=>whnf);repeat' (first  |(refine kA ?_;conv=>whnf)|(refine Br.mk (fun hc=>?_) fun hc=>?_<;>first|exact hc.elim|conv=>whnf)|(refine kB ?_))
 refine Ap (fun m env s=>∃(i c go n:Nat) (nn:Bool) (W:List AJ),m=g.edges.length-i∧i≤g.edges.length∧n=W.length∧W.length≤i∧(0<W.length↔∃e∈g.edges.take i,atN id e)∧env=[(1,.int .i64 id),(2,.sl false []),(3,.int .i64 3),(4,.ref 0 0 0 0),(9,.own 1 go 0 n),(10,.int .i64 i)]∧s=⟨[.arr 0 4 true true [g.av],.arr go 3 nn true (vs AJ.av W)],c⟩) ?_ _ _ _ ⟨0,_,_,_,_,[],rfl,by omega,rfl,by simp,by simp,rfl,rfl⟩
 rintro _ _ _ ⟨i,c,go,n,nn,W,rfl,hi,hn,hW,hx,rfl,rfl⟩
 refine⟨rfl,?_⟩
 subst hn
 by_cases hlt:i<g.edges.length
 ·have hs:=AgJ (P:=atN id) hlt
  rw[← hx]at hs
  obtain⟨_,⟨a,rfl⟩,hst⟩:=(Ajq (e:=g.edges[i]) (id:=id)).JF
  by_cases ha:atN id g.edges[i]
  ·rw[decide_eq_true ha]at hst
   (conv=>whnf);repeat' (first|((first|refine Aa hst ?_|refine Aa VJ ?_);rintro _ rfl;conv=>whnf)|(refine Ij (x:=a) WS rfl (by omega) ?_;conv=>whnf)|(refine kA ?_;conv=>whnf)|(refine Br.mk (fun hc=>?_) fun hc=>?_<;>first|exact hc.elim|conv=>whnf)|(refine kB ?_))
   refine Alo (len:=W.length+1) (W:=W++[a]) (x:=a) (by simp) (by omega) (by omega) ?_
   intro t W' hW' ht'
   (conv=>whnf);repeat' (first|((with_reducible show eqK _ _);refine tV WS (x:=a) t ?_ (by omega);conv=>whnf)|(refine kA ?_;conv=>whnf)|(refine Br.mk (fun hc=>?_) fun hc=>?_<;>first|exact hc.elim|conv=>whnf)|(refine kB ?_))
   exact again.mk ⟨_,by omega,i+1,_,_,_,_,W'.set t a,rfl,by omega,by rw[List.length_set];omega,by rw[List.length_set];omega,by rw[hs,List.length_set,hW'];exact⟨fun _=>.inr ha,fun _=>by omega⟩,rfl,rfl⟩
  ·rw[decide_eq_false ha]at hst
   (conv=>whnf);repeat' (first|((first|refine Aa hst ?_|refine Aa VJ ?_);rintro _ rfl;conv=>whnf)|(refine Ij (x:=a) WS rfl (by omega) ?_;conv=>whnf)|(refine kA ?_;conv=>whnf)|(refine Br.mk (fun hc=>?_) fun hc=>?_<;>first|exact hc.elim|conv=>whnf)|(refine kB ?_))
   exact again.mk ⟨_,by omega,i+1,_,_,_,_,W,rfl,by omega,rfl,by omega,by rw[hs];exact⟨.inl,fun h=>h.elim (fun h=>h) (fun h=>absurd h ha)⟩,rfl,rfl⟩
 ·rw[List.take_of_length_le (by omega)]at hx
  (conv=>whnf);repeat' (first  |(refine kA ?_;conv=>whnf)|(refine Br.mk (fun hc=>?_) fun hc=>?_<;>first|exact hc.elim|conv=>whnf)|(refine kB ?_))
  exact⟨nn,W,rfl,by omega,hx⟩
theorem Alr {g:GG} (hg:g.ok) (hE:g.edges.length≤3000) {z:Int}:Af (Ad tab) 129 [g.av,.int .i64 z] (· =.bool (decide (∃ e∈g.edges,e.fr=z∨e.to=z))):=by
 obtain⟨_,⟨nn,W,rfl,hW,hx⟩,hS⟩:=(Ajr (g:=g) (id:=z) hg hE).JF
 refine Ac rfl rfl ?_
 (conv=>whnf);repeat' (first|(refine Aa hS ?_;rintro _ rfl;conv=>whnf)|(refine kA ?_;conv=>whnf)|(refine Br.mk (fun hc=>?_) fun hc=>?_<;>first|exact hc.elim|conv=>whnf)|(refine kB ?_))
 all_goals first|exact BD (hx.1 (by omega))|exact AY (fun h=>by have:=hx.2 h;omega)|(refine Ye ?_;rw[← show _↔_ from hx];omega)
def Dn (k:Int×GG) (w:AV):Prop:=∃h:GG,w=.Cb [h.av,.int .i64 k.1]∧(k.1=0→G5 h=G5 k.2∧h.ok)∧(k.1≠0→h=Gm)
theorem Dn.no {e:Int} {g:GG} {k:Int×GG} (hk:k=(e,g)) (he:e≠0):Dn k (.Cb [Gm.av,.int .i64 e]):=by
 subst hk
 exact⟨Gm,rfl,fun h=>absurd h he,fun _=>rfl⟩
theorem Dn.yes {g h:GG} {k:Int×GG} (hk:k=(0,g)) (he:G5 h=G5 g) (ho:h.ok):Dn k (.Cb [h.av,.int .i64 0]):=by
 subst hk
 exact⟨h,rfl,fun _=>⟨he,ho⟩,fun h=>absurd rfl h⟩
theorem Aef {α:Type} {f:α→AV} {L:List α} {σ:List Obj} {n o g es len:Nat} {nn:Bool} (h:nth σ o=some (.arr g es nn true (vs f L))) (hl:len=L.length):snap σ (n+1) (.own o g 0 len)=some (.sl nn (vs f L)):=by
 subst hl
 simp only[snap,h]
 rw[if_pos ⟨trivial,by rw[lV];omega⟩,if_pos trivial,ZP,List.drop_zero,List.take_length]
theorem WW {σ:List Obj} {n:Nat} {v a:AV} {vs b:List AV} (h1:snap σ n v=some a) (h2:Gf σ n vs=some b):Gf σ (n+1) (v::vs)=some (a::b):=by
 rw[Gf,h1,h2]
theorem Aeg {σ:List Obj} {N E:Int} {a b a' b':AV} (ha:∀n,snap σ (n+1) a=some a') (hb:∀n,snap σ (n+1) b=some b') {m:Nat}:
 snap σ (m+20) (.agg [a,b,.int .i64 N,.int .i64 E])=some (.agg [a',b',.int .i64 N,.int .i64 E]):=by
 have hi:∀{k:IntKind} {z:Int} {n:Nat},snap σ (n+1) (.int k z)=some (.int k z):=by intro k z n;simp only[snap]
 have:Gf σ (m+19) [a,b,.int .i64 N,.int .i64 E]=some [a',b',.int .i64 N,.int .i64 E]:=
  WW (n:=m+18) (ha _) (WW (n:=m+17) (hb _) (WW (n:=m+16) hi (WW (n:=m+15) hi (by rw[Gf]))))
 show snap σ (m+19+1) _=_
 simp only[snap,this,Option.map]
structure TB (g:GG):Prop where
 n:∀x∈g.nodes,x.id<g.BA
 e:∀x∈g.edges,x.id<g.BJ
set_option maxHeartbeats 2000000 in
theorem AgK {g:GG} {n:GN} {z fr to:Int} {nm:List UInt8} {v:GV} (hg:g.ok) (hN:g.nodes.length≤2900) (hE:g.edges.length≤2900) (ha:Gu g) (hnm:Ln nm) (hf:g.nodes.find? (fun n=>decide (n.id=z))=some n):
 Af (Ad tab) 94 [g.av,(⟨2,z,fr,to,nm,v⟩:GC).av,n.av] (Dn (Bc g ⟨2,z,fr,to,nm,v⟩)):=by
 have hn:=ha.aN n (DX hf).1
 have hlab:n.labels.length<2^63:=by have:=hn.lL;omega
 have hus:=Alr (z:=z) hg (by omega)
 have hG:Bc g ⟨2,z,fr,to,nm,v⟩=if∃e∈g.edges,e.fr=z∨e.to=z then(12,g)else(0,{g with nodes:=CP Cc GN.id z g.nodes}):=by
  unfold Bc;dsimp only;rw[if_neg (by decide),hf];rfl
 rw[hG]
 by_cases hu:∃e∈g.edges,e.fr=z∨e.to=z
 ·rw[decide_eq_true hu]at hus
  rw[if_pos hu]
  refine Ac rfl rfl ?_
  (conv=>whnf);repeat' (first|(refine BX (J5 (n:=n) (s:=nm) hlab) (fun hc=>?_) (fun hc=>?_)<;>conv=>whnf)|(refine Aa hus ?_;rintro _ rfl;conv=>whnf)|(refine kA ?_;conv=>whnf)|(refine Br.mk (fun hc=>?_) fun hc=>?_<;>first|exact hc.elim|conv=>whnf)|(refine kB ?_))
  all_goals exact Dn.no rfl (by decide)
 ·rw[decide_eq_false hu]at hus
  rw[if_neg hu,JC Ag ha.iN]
  refine Ac rfl rfl ?_
  (conv=>whnf);repeat' (first|(refine BX (J5 (n:=n) (s:=nm) hlab) (fun hc=>?_) (fun hc=>?_)<;>conv=>whnf)|(refine Aa hus ?_;rintro _ rfl;conv=>whnf)|(refine kA ?_;conv=>whnf)|(refine Br.mk (fun hc=>?_) fun hc=>?_<;>first|exact hc.elim|conv=>whnf)|(refine kB ?_))
  all_goals
   refine Ap (fun m env s=>∃(i c' go k:Nat) (f:Bool) (l:List GN),m=g.nodes.length-i∧i≤g.nodes.length∧k=l.length∧l.length≤i∧(f=false→l=[])∧l=(g.nodes.take i).filter (fun a=>decide (GN.id a≠z))∧env=[(3,.ref 0 0 0 0),(4,.ref 1 1 0 0),(6,.ref 3 3 0 0),(9,.own 4 go 0 k),(10,.int .i64 i)]∧s=⟨[.arr 0 4 true true [g.av],.arr 1 10 true true [(⟨2,z,fr,to,nm,v⟩:GC).av],.arr 2 3 true true [n.av],.arr 3 4 true true [.agg [.sl false [],.sl false [],.int .i64 0,.int .i64 0]],.arr go 3 f true (vs GN.av l)],c'⟩) ?_ _ _ _ ⟨0,_,_,0,_,[],rfl,by omega,rfl,by simp,fun _=>rfl,by simp,rfl,rfl⟩
   rintro _ _ _ ⟨i,c',go,k,f,l,rfl,hi,hk,hl,hff,hx,rfl,rfl⟩
   refine⟨rfl,?_⟩
   subst hk
   by_cases hlt:i<g.nodes.length
   ·have hs:=List.take_succ_eq_append_getElem hlt
    (conv=>whnf);repeat' (first|(refine Ij (x:=g.nodes[i]) TD rfl (by omega) ?_;conv=>whnf)|(refine kA ?_;conv=>whnf)|(refine Br.mk (fun hc=>?_) fun hc=>?_<;>first|exact hc.elim|conv=>whnf)|(refine kB ?_))
    all_goals first
     |exact again.mk ⟨_,by omega,i+1,_,_,_,_,l++[g.nodes[i]],rfl,by omega,by simp,by simp;omega,fun h=>Bool.noConfusion h,by rw[hs,List.filter_append,←hx,List.filter_cons_of_pos (by simp;omega),List.filter_nil],rfl,rfl⟩
     |exact again.mk ⟨_,by omega,i+1,_,_,_,_,l,rfl,by omega,rfl,by omega,hff,by rw[hs,List.filter_append,←hx,List.filter_cons_of_neg (by simp;omega),List.filter_nil,List.append_nil],rfl,rfl⟩
   ·rw[show i=g.nodes.length by omega,List.take_length]at hx
    (conv=>whnf);repeat' (first  |(refine kA ?_;conv=>whnf)|(refine Br.mk (fun hc=>?_) fun hc=>?_<;>first|exact hc.elim|conv=>whnf)|(refine kB ?_))
    refine AL (x:=GG.av ⟨f,l,g.en,g.edges,g.BA,g.BJ⟩) ?_ ?_
    ·exact Aeg (m:=999978) (a:=.own 4 go 0 l.length) (b:=.sl g.en (vs GE.av g.edges)) (N:=g.BA) (E:=g.BJ) (fun _=>Aef rfl rfl) (fun _=>rfl)
    (conv=>whnf);repeat' (first  |(refine kA ?_;conv=>whnf)|(refine Br.mk (fun hc=>?_) fun hc=>?_<;>first|exact hc.elim|conv=>whnf)|(refine kB ?_))
    subst hx
    exact Dn.yes (h:=⟨f,_,g.en,g.edges,g.BA,g.BJ⟩) rfl rfl ⟨by unfold Ln;dsimp only;omega,hff,fun x hx=>hg.2.2.1 x ((List.mem_filter.1 hx).1),hg.2.2.2⟩
theorem Acr {α κ:Type} {lt:κ→κ→Bool} {key:α→κ} (hs:OM lt) {k:κ}:∀{l:List α},(∀ y∈l,key y≠k)→(below lt key k l).length+(above lt key k l).length=l.length
 |[],_=>by simp[below,above]
 |a::l,h=>by
  have ih:=Acr hs (k:=k) (l:=l) fun y hy=>h y (by simp[hy])
  have hk:=h a (by simp)
  unfold below above at ih ⊢
  cases h1:lt (key a) k<;>cases h2:lt k (key a)
  ·exact absurd (hs.tot _ _ h1 h2) hk
  ·rw[List.filter_cons_of_neg (by simp[h1]),List.filter_cons_of_pos (by simp[h2])];simp;omega
  ·rw[List.filter_cons_of_pos (by simp[h1]),List.filter_cons_of_neg (by simp[h2])];simp;omega
  ·have:=hs.tr _ _ _ h1 h2;rw[hs.Og]at this;cases this
theorem Ai5 {key:List UInt8} {v:GV} {P:List GP} (hl:P.length≤16):(Ba Op.bytesLess GP.key ⟨key,v⟩ P).length≤16↔(∃ p∈P,GP.key p=key)∨P.length<16:=by
 constructor
 ·intro h
  by_cases hx:∃p∈P,GP.key p=key
  ·exact .inl hx
  ·have:=Acr (key:=GP.key) (k:=key) Aq (l:=P) fun y hy e=>hx ⟨y,hy,e⟩
   simp only[Ba,List.length_append,List.length_singleton]at h
   omega
 ·rintro(hx|hx)
  ·exact Nat.le_trans (Jh Aq hx) hl
  ·exact Nat.le_trans (F8 Aq) (by omega)
theorem Tv {g:GG} {k:Int×GG} {m m':GN} (hg:g.ok) (hN:g.nodes.length≤2900) (hx:TB g) (hm:∃n∈g.nodes,n.id=m.id) (ho:m.ok) (hk:k=(0,{g with nodes:=Ba Cc GN.id m' g.nodes})) (e:Vk m=Vk m'):
 Dn k (.Cb [GG.av ⟨true,Ba Cc GN.id m g.nodes,g.en,g.edges,(if m.id+1>g.BA then m.id+1 else g.BA),g.BJ⟩,.int .i64 0]):=by
 obtain⟨n,hn,en⟩:=hm
 have h1:¬m.id+1>g.BA:=by have:=hx.n n hn;omega
 rw[if_neg h1]
 refine Dn.yes hk ?_ (Td hg ho (Nv Ag (by omega)) (fun x hx=>Bg Ag hx) hg.2.2.2.2.2.2.1)
 unfold G5
 simp only[Y3 AhS,e]
theorem Zb {g:GG} {k:Int×GG} {m m':GE} (hg:g.ok) (hN:g.edges.length≤2900) (hx:TB g) (hm:∃n∈g.edges,n.id=m.id) (ho:m.ok) (hk:k=(0,{g with edges:=Ba Cc GE.id m' g.edges})) (e:Xc m=Xc m'):
 Dn k (.Cb [GG.av ⟨g.nn,g.nodes,true,Ba Cc GE.id m g.edges,g.BA,(if m.id+1>g.BJ then m.id+1 else g.BJ)⟩,.int .i64 0]):=by
 obtain⟨n,hn,en⟩:=hm
 have h1:¬m.id+1>g.BJ:=by have:=hx.e n hn;omega
 rw[if_neg h1]
 refine Dn.yes hk ?_ (Tf hg ho (Nv Ag (by omega)) (fun x hx=>Bg Ag hx) hg.2.2.2.2.2.2.2)
 unfold G5
 simp only[Y3 AhT,e]
section
variable {g:GG} {n:GN} {z fr to:Int} {nm:List UInt8} {v:GV}
set_option maxHeartbeats 2000000 in
theorem Ah2 (hg:g.ok) (hN:g.nodes.length≤2900) (ha:Gu g) (hx:TB g) (hz:Md z) (hnm:Ln nm) (hf:g.nodes.find? (fun n=>decide (n.id=z))=some n):
 Af (Ad tab) 94 [g.av,(⟨3,z,fr,to,nm,v⟩:GC).av,n.av] (Dn (Bc g ⟨3,z,fr,to,nm,v⟩)):=by
 obtain⟨hm,hid⟩:=DX hf
 have hid:=of_decide_eq_true hid
 have hn:=ha.aN n hm
 have hno:=hg.2.2.1 n hm
 have hlb:=J5 (n:=n) (s:=nm) (by have:=hn.lL;omega)
 have hG:Bc g ⟨3,z,fr,to,nm,v⟩=if nm∈n.labels then(7,g)else if n.labels.length<8 then(0,{g with nodes:=Ba Cc GN.id {n with ln:=true,labels:=Ba Op.bytesLess id nm n.labels} g.nodes})else(20,g):=by
  unfold Bc;dsimp only;rw[if_neg (by decide),hf];rfl
 rw[hG]
 have hz1:1≤n.id∧n.id≤1000000:=by unfold Md at hz;omega
 by_cases hc1:nm∈n.labels
 ·rw[if_pos hc1]
  rw[decide_eq_true hc1]at hlb
  refine Ac rfl rfl ?_
  show vC _ _ [(0,g.av),(1,.agg [.int .i64 3,.int .i64 z,.int .i64 fr,.int .i64 to,.str nm,.int .i64 v.k,.int .i64 v.n,.int .i64 v.d,.str v.s,.sl v.nn v.l]),(2,n.av)] _ _
  (conv=>whnf);repeat' (first|(refine Aa hlb ?_;rintro _ rfl;conv=>whnf)|(refine kA ?_;conv=>whnf)|(refine Br.mk (fun hc=>?_) fun hc=>?_<;>first|exact hc.elim|conv=>whnf)|(refine kB ?_))
  all_goals exact Dn.no rfl (by decide)
 rw[if_neg hc1]
 rw[decide_eq_false hc1]at hlb
 have hp:=AgS (l:=n.labels) (nn:=n.ln) (x:=nm) (by have:=hn.lL;omega) hn.iL hc1
 have hpn:=Zd (g:=g) (n:=⟨n.id,true,Ba Op.bytesLess id nm n.labels,n.pn,n.props⟩) hg (by omega) ha.iN hz1.1 hz1.2
 by_cases h5:n.labels.length<8
 ·rw[if_pos h5]
  refine Ac rfl rfl ?_
  show vC _ _ [(0,g.av),(1,.agg [.int .i64 3,.int .i64 z,.int .i64 fr,.int .i64 to,.str nm,.int .i64 v.k,.int .i64 v.n,.int .i64 v.d,.str v.s,.sl v.nn v.l]),(2,n.av)] _ _
  (conv=>whnf);repeat' (first|((first|refine Aa hlb ?_|refine Aa hp ?_|refine Aa hpn ?_);rintro _ rfl;conv=>whnf)|(refine kA ?_;conv=>whnf)|(refine Br.mk (fun hc=>?_) fun hc=>?_<;>first|exact hc.elim|conv=>whnf)|(refine kB ?_))
  all_goals first
   |(exfalso;omega)
   |exact Tv (m:=⟨n.id,true,Ba Op.bytesLess id nm n.labels,n.pn,n.props⟩) hg hN hx ⟨n,hm,rfl⟩ (XR hno hnm (Oa (by omega)) (fun h=>Bool.noConfusion h) (fun y hy=>Bg Aq hy)) rfl rfl
 ·rw[if_neg h5]
  refine Ac rfl rfl ?_
  show vC _ _ [(0,g.av),(1,.agg [.int .i64 3,.int .i64 z,.int .i64 fr,.int .i64 to,.str nm,.int .i64 v.k,.int .i64 v.n,.int .i64 v.d,.str v.s,.sl v.nn v.l]),(2,n.av)] _ _
  (conv=>whnf);repeat' (first|(refine Aa hlb ?_;rintro _ rfl;conv=>whnf)|(refine kA ?_;conv=>whnf)|(refine Br.mk (fun hc=>?_) fun hc=>?_<;>first|exact hc.elim|conv=>whnf)|(refine kB ?_))
  all_goals first
   |(exfalso;omega)
   |exact Dn.no rfl (by decide)
set_option maxHeartbeats 2000000 in
theorem Ah3 (hg:g.ok) (hN:g.nodes.length≤2900) (ha:Gu g) (hx:TB g) (hz:Md z) (hnm:Ln nm) (hf:g.nodes.find? (fun n=>decide (n.id=z))=some n):
 Af (Ad tab) 94 [g.av,(⟨4,z,fr,to,nm,v⟩:GC).av,n.av] (Dn (Bc g ⟨4,z,fr,to,nm,v⟩)):=by
 obtain⟨hm,hid⟩:=DX hf
 have hid:=of_decide_eq_true hid
 have hn:=ha.aN n hm
 have hno:=hg.2.2.1 n hm
 have hlb:=J5 (n:=n) (s:=nm) (by have:=hn.lL;omega)
 have hG:Bc g ⟨4,z,fr,to,nm,v⟩=if nm∈n.labels then(0,{g with nodes:=Ba Cc GN.id {n with ln:=true,labels:=CP Op.bytesLess id nm n.labels} g.nodes})else(23,g):=by
  unfold Bc;dsimp only;rw[if_neg (by decide),hf];rfl
 rw[hG]
 have hz1:1≤n.id∧n.id≤1000000:=by unfold Md at hz;omega
 by_cases hc1:nm∈n.labels
 ·rw[if_pos hc1]
  rw[decide_eq_true hc1]at hlb
  have hlL:=hn.lL
  obtain⟨_,⟨b,hb,rfl⟩,hw⟩:=(Aep (l:=n.labels) (nn:=n.ln) (x:=nm) (by omega) hn.iL).JF
  have hpn:=Zd (g:=g) (n:=⟨n.id,b,CP Op.bytesLess id nm n.labels,n.pn,n.props⟩) hg (by omega) ha.iN hz1.1 hz1.2
  refine Ac rfl rfl ?_
  show vC _ _ [(0,g.av),(1,.agg [.int .i64 4,.int .i64 z,.int .i64 fr,.int .i64 to,.str nm,.int .i64 v.k,.int .i64 v.n,.int .i64 v.d,.str v.s,.sl v.nn v.l]),(2,n.av)] _ _
  (conv=>whnf);repeat' (first|((first|refine Aa hlb ?_|refine Aa hw ?_|refine Aa hpn ?_);rintro _ rfl;conv=>whnf)|(refine kA ?_;conv=>whnf)|(refine Br.mk (fun hc=>?_) fun hc=>?_<;>first|exact hc.elim|conv=>whnf)|(refine kB ?_))
  all_goals first
   |exact Tv (m:=⟨n.id,b,CP Op.bytesLess id nm n.labels,n.pn,n.props⟩) hg hN hx ⟨n,hm,rfl⟩ (XR hno hnm (N9 (by omega)) hb (fun y hy=>.inr (Cj hy))) rfl rfl
 ·rw[if_neg hc1]
  rw[decide_eq_false hc1]at hlb
  refine Ac rfl rfl ?_
  show vC _ _ [(0,g.av),(1,.agg [.int .i64 4,.int .i64 z,.int .i64 fr,.int .i64 to,.str nm,.int .i64 v.k,.int .i64 v.n,.int .i64 v.d,.str v.s,.sl v.nn v.l]),(2,n.av)] _ _
  (conv=>whnf);repeat' (first|(refine Aa hlb ?_;rintro _ rfl;conv=>whnf)|(refine kA ?_;conv=>whnf)|(refine Br.mk (fun hc=>?_) fun hc=>?_<;>first|exact hc.elim|conv=>whnf)|(refine kB ?_))
  all_goals exact Dn.no rfl (by decide)
set_option maxHeartbeats 2000000 in
theorem Ah4 (hg:g.ok) (hN:g.nodes.length≤2900) (ha:Gu g) (hx:TB g) (hz:Md z) (hnm:Ln nm) (hv:v.ok) (hf:g.nodes.find? (fun n=>decide (n.id=z))=some n):
 Af (Ad tab) 94 [g.av,(⟨5,z,fr,to,nm,v⟩:GC).av,n.av] (Dn (Bc g ⟨5,z,fr,to,nm,v⟩)):=by
 obtain⟨hm,hid⟩:=DX hf
 have hid:=of_decide_eq_true hid
 have hn:=ha.aN n hm
 have hno:=hg.2.2.1 n hm
 obtain⟨_,⟨bl,rfl⟩,hlb⟩:=(Af.mono (R':=fun w=>∃b,w=.bool b) (J5 (n:=n) (s:=nm) (by have:=hn.lL;omega)) (fun w h=>⟨_,h⟩)).JF
 have hlP:=hn.lP
 have hG:Bc g ⟨5,z,fr,to,nm,v⟩=if isNull v then(0,{g with nodes:=Ba Cc GN.id {n with props:=CP Op.bytesLess GP.key nm n.props} g.nodes})else if(∃ p∈n.props,GP.key p=nm)∨n.props.length<16 then(0,{g with nodes:=Ba Cc GN.id {n with pn:=true,props:=Ba Op.bytesLess GP.key ⟨nm,v⟩ n.props} g.nodes})else(20,g):=by
  unfold Bc;dsimp only;rw[if_neg (by decide),hf];rfl
 rw[hG]
 have hz1:1≤n.id∧n.id≤1000000:=by unfold Md at hz;omega
 by_cases hc1:isNull v
 ·rw[if_pos hc1]
  obtain⟨_,⟨b,hb,rfl⟩,hw⟩:=(Za (P:=n.props) (nn:=n.pn) (key:=nm) (by omega) hn.iP hv hc1).JF
  have hle:(CP Op.bytesLess GP.key nm n.props).length≤16:=Nat.le_trans (Ea Aq) hlP
  rw[decide_eq_true hle]at hw
  have hpn:=Zd (g:=g) (n:=⟨n.id,n.ln,n.labels,b,CP Op.bytesLess GP.key nm n.props⟩) hg (by omega) ha.iN hz1.1 hz1.2
  refine Ac rfl rfl ?_
  show vC _ _ [(0,g.av),(1,.agg [.int .i64 5,.int .i64 z,.int .i64 fr,.int .i64 to,.str nm,.int .i64 v.k,.int .i64 v.n,.int .i64 v.d,.str v.s,.sl v.nn v.l]),(2,n.av)] _ _
  (conv=>whnf);repeat' (first|((first|refine Aa hlb ?_|refine Aa hw ?_|refine Aa hpn ?_);rintro _ rfl;conv=>whnf)|(refine kA ?_;conv=>whnf)|(refine Br.mk (fun hc=>?_) fun hc=>?_<;>first|exact hc.elim|conv=>whnf)|(refine kB ?_))
  all_goals first
   |exact Tv (m:=⟨n.id,n.ln,n.labels,b,CP Op.bytesLess GP.key nm n.props⟩) hg hN hx ⟨n,hm,rfl⟩ (XT (x:=⟨nm,v⟩) hno ⟨hnm,hv⟩ (N9 (by omega)) hb (fun y hy=>.inr (Cj hy))) rfl rfl
 ·rw[if_neg hc1]
  have hw:=X9 (P:=n.props) (nn:=n.pn) (key:=nm) (by omega) hn.iP hv hc1
  have h16:=Ai5 (key:=nm) (v:=v) hlP
  by_cases h5:(∃ p∈n.props,GP.key p=nm)∨n.props.length<16
  ·rw[if_pos h5]
   rw[decide_eq_true (h16.2 h5)]at hw
   have hpn:=Zd (g:=g) (n:=⟨n.id,n.ln,n.labels,true,Ba Op.bytesLess GP.key ⟨nm,v⟩ n.props⟩) hg (by omega) ha.iN hz1.1 hz1.2
   refine Ac rfl rfl ?_
   show vC _ _ [(0,g.av),(1,.agg [.int .i64 5,.int .i64 z,.int .i64 fr,.int .i64 to,.str nm,.int .i64 v.k,.int .i64 v.n,.int .i64 v.d,.str v.s,.sl v.nn v.l]),(2,n.av)] _ _
   (conv=>whnf);repeat' (first|((first|refine Aa hlb ?_|refine Aa hw ?_|refine Aa hpn ?_);rintro _ rfl;conv=>whnf)|(refine kA ?_;conv=>whnf)|(refine Br.mk (fun hc=>?_) fun hc=>?_<;>first|exact hc.elim|conv=>whnf)|(refine kB ?_))
   all_goals first
     |exact Tv (m:=⟨n.id,n.ln,n.labels,true,Ba Op.bytesLess GP.key ⟨nm,v⟩ n.props⟩) hg hN hx ⟨n,hm,rfl⟩ (XT (x:=⟨nm,v⟩) hno ⟨hnm,hv⟩ (Oa (by omega)) (fun h=>Bool.noConfusion h) (fun y hy=>Bg Aq hy)) rfl rfl
  ·rw[if_neg h5]
   rw[decide_eq_false (fun h=>h5 (h16.1 h))]at hw
   refine Ac rfl rfl ?_
   show vC _ _ [(0,g.av),(1,.agg [.int .i64 5,.int .i64 z,.int .i64 fr,.int .i64 to,.str nm,.int .i64 v.k,.int .i64 v.n,.int .i64 v.d,.str v.s,.sl v.nn v.l]),(2,n.av)] _ _
   (conv=>whnf);repeat' (first|((first|refine Aa hlb ?_|refine Aa hw ?_);rintro _ rfl;conv=>whnf)|(refine kA ?_;conv=>whnf)|(refine Br.mk (fun hc=>?_) fun hc=>?_<;>first|exact hc.elim|conv=>whnf)|(refine kB ?_))
   all_goals first
     |exact Dn.no rfl (by decide)
end
theorem Y8 {x y:GE} {L:List GE} (h:x.id<y.id):Ba Cc GE.id x (L++[y])=Ba Cc GE.id x L++[y]:=NI Ag (by simpa[Cc]using h)
theorem Y9 {x:GE} {L:List GE} (h:∀y∈L,y.id<x.id):Ba Cc GE.id x L=L++[x]:=L9 Ag fun y hy=>by simpa[Cc]using h y hy
theorem AhY {x y:GE} {L:List GE} (h:∀y∈L,y.id<x.id) (e:y.id=x.id):Ba Cc GE.id x (L++[y])=L++[x]:=QJ Ag (fun y hy=>by simpa[Cc]using h y hy) e
set_option maxHeartbeats 1000000 in
theorem AfI {g:GG} {n:GE} (hg:g.ok) (hN:g.edges.length≤3000) (hI:Inc Cc GE.id g.edges) (hi1:1≤n.id) (hi2:n.id≤1000000):Af (Ad tab) 92 [g.av,n.av] (· =GG.av ⟨g.nn,g.nodes,true,Ba Cc GE.id n g.edges,g.BA,(if n.id+1>g.BJ then n.id+1 else g.BJ)⟩):=by
 obtain⟨g1,g2,g3,g4,g5,g6,g7,g8⟩:=hg
 unfold I64 at g8
 refine Ac rfl rfl ?_
 (conv=>whnf);repeat' (first  |(refine kA ?_;conv=>whnf)|(refine Br.mk (fun hc=>?_) fun hc=>?_<;>first|exact hc.elim|conv=>whnf)|(refine kB ?_))
 refine Ap (fun m env s=>∃(i c go k:Nat) (b d:Bool) (l:List GE),m=g.edges.length-i∧i≤g.edges.length∧k=l.length∧l.length≤i+1∧(b=false→d=false)∧(d=false→l=g.edges.take i∧∀y∈g.edges.take i,y.id<n.id)∧(d=true→l=Ba Cc GE.id n (g.edges.take i)∧∀y∈g.edges.drop i,n.id<y.id)∧env=[(2,.ref 0 0 0 0),(3,.ref 1 1 0 0),(4,.ref 2 2 0 0),(5,.own 3 go 0 k),(6,.bool d),(7,.int .i64 i)]∧
  s=⟨[.arr 0 4 true true [g.av],.arr 1 5 true true [n.av],.arr 2 4 true true [.agg [.sl false [],.sl false [],.int .i64 0,.int .i64 0]],.arr go 5 b true (vs GE.av l)],c⟩) ?_ _ _ _ ⟨0,_,_,0,_,_,[],rfl,by omega,rfl,by simp,fun _=>rfl,fun _=>⟨rfl,by simp⟩,fun h=>Bool.noConfusion h,rfl,rfl⟩
 rintro _ _ _ ⟨i,c,go,k,b,d,l,rfl,hi,hk,hl,hb,hd,ht,rfl,rfl⟩
 refine⟨rfl,?_⟩
 subst hk
 by_cases hlt:i<g.edges.length
 ·have hda:∀x:Int,x≤(g.edges[i]).id→∀y∈g.edges.drop (i+1),x<y.id:=fun x hx=>U2 hI hlt hx
  have hs:=List.take_succ_eq_append_getElem hlt
  have htk:∀{P:GE→Prop},(∀ y∈g.edges.take i,P y)→P g.edges[i]→∀y∈g.edges.take (i+1),P y:=fun{P} h1 h2 y hy=>by
   rw[hs]at hy
   rcases List.mem_append.1 hy with hy|hy
   ·exact h1 y hy
   ·obtain rfl:=List.mem_singleton.1 hy;exact h2
  cases d
  ·obtain⟨rfl,hlo⟩:=hd rfl
   have hle:(g.edges.take i).length≤i:=by rw[List.length_take];omega
   (conv=>whnf);repeat' (first|(refine Ij (x:=n) cellsE (by simp) (by simp;omega) ?_;conv=>whnf)|(refine Ij (x:=g.edges[i]) cellsE (by simp) (by simp;omega) ?_;conv=>whnf)|(refine kA ?_;conv=>whnf)|(refine Br.mk (fun hc=>?_) fun hc=>?_<;>first|exact hc.elim|conv=>whnf)|(refine kB ?_))
   all_goals first
        |exact again.mk ⟨_,by omega,i+1,_,_,_,_,_,g.edges.take i++[n]++[g.edges[i]],rfl,by omega,by simp,by simp;omega,fun h=>Bool.noConfusion h,fun h=>Bool.noConfusion h,fun _=>⟨by rw[hs,Y8 (by omega),Y9 hlo],hda _ (by omega)⟩,rfl,rfl⟩
        |exact again.mk ⟨_,by omega,i+1,_,_,_,_,_,g.edges.take i++[n],rfl,by omega,by simp,by simp;omega,fun h=>Bool.noConfusion h,fun h=>Bool.noConfusion h,fun _=>⟨by rw[hs,AhY hlo (by omega)],hda _ (by omega)⟩,rfl,rfl⟩
        |exact again.mk ⟨_,by omega,i+1,_,_,_,_,_,g.edges.take i++[g.edges[i]],rfl,by omega,by rw[List.length_append,List.length_singleton],by rw[List.length_append,List.length_singleton];omega,fun _=>rfl,fun _=>⟨hs.symm,htk hlo (by omega)⟩,fun h=>Bool.noConfusion h,rfl,rfl⟩
        |(exfalso;omega)
  ·obtain⟨rfl,hhi⟩:=ht rfl
   have hgt:n.id<(g.edges[i]).id:=hhi _ (by rw[List.drop_eq_getElem_cons hlt];exact List.mem_cons_self)
   (conv=>whnf);repeat' (first|(refine Ij (x:=g.edges[i]) cellsE (by simp) (by simp;omega) ?_;conv=>whnf)|(refine kA ?_;conv=>whnf)|(refine Br.mk (fun hc=>?_) fun hc=>?_<;>first|exact hc.elim|conv=>whnf)|(refine kB ?_))
   all_goals first
        |exact again.mk ⟨_,by omega,i+1,_,_,_,_,_,Ba Cc GE.id n (g.edges.take i)++[g.edges[i]],rfl,by omega,by simp,by simp;omega,fun h=>Bool.noConfusion h,fun h=>Bool.noConfusion h,fun _=>⟨by rw[hs,Y8 hgt],hda _ (by omega)⟩,rfl,rfl⟩
        |(exfalso;omega)
 ·obtain rfl:i=g.edges.length:=by omega
  rw[List.take_length]at hd ht
  cases d
  ·obtain⟨rfl,hlo⟩:=hd rfl
   rw[Y9 hlo]
   (conv=>whnf);repeat' (first|(refine Ij (x:=n) cellsE (by simp) (by simp;omega) ?_;conv=>whnf)|(refine kA ?_;conv=>whnf)|(refine Br.mk (fun hc=>?_) fun hc=>?_<;>first|exact hc.elim|conv=>whnf)|(refine kB ?_))
   all_goals first|rfl|(exfalso;omega)
  ·obtain⟨rfl,_⟩:=ht rfl
   cases b
   ·exact absurd (hb rfl) Bool.noConfusion
   (conv=>whnf);repeat' (first  |(refine kA ?_;conv=>whnf)|(refine Br.mk (fun hc=>?_) fun hc=>?_<;>first|exact hc.elim|conv=>whnf)|(refine kB ?_))
   all_goals first|rfl|(exfalso;omega)
end AI
end Go.Proofs.YtchcadfjbkkgmaaGreatDoor
