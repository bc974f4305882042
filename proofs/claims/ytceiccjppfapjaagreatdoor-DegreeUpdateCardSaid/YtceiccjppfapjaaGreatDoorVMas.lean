/- A step keeps graphs in good form; their lengths: plain. The reference: whether a node is used; a change of a node, exactly. The reference: changes of a node's labels and properties, exactly. The reference puts edges into a graph, exactly. -/
import Derived.Test.YtceiccjppfapjaaGreatDoorVMaq
import Derived.Test.YtceiccjppfapjaaGreatDoorVDtS
import Derived.Test.YtceiccjppfapjaaGreatDoorVMam
import Derived.Test.YtceiccjppfapjaaGreatDoorVMar
import Derived.Test.YtceiccjppfapjaaGreatDoorVMad
import Derived.Test.YtceiccjppfapjaaGreatDoorVMal
set_option linter.unusedVariables false
set_option maxRecDepth 4000
namespace Go.Proofs.YtceiccjppfapjaaGreatDoor
namespace AI
theorem UK {g:GG} {m:GN} {L:List GN} (hg:g.ok) (hm:m.ok) (hL:Ln L) (h:∀x∈L,x=m∨x∈g.nodes) {z:Int} (hz:I64 z):(⟨true,L,g.en,g.edges,z,g.Bg⟩:GG).ok:=by
 obtain⟨g1,g2,g3,g4,g5,g6,g7,g8⟩:=hg
 refine⟨hL,fun h=>Bool.noConfusion h,fun x hx=>?_,g4,g5,g6,hz,g8⟩
 rcases h x hx with rfl|h
 ·exact hm
 ·exact g3 x h
theorem UL {g:GG} {m:GE} {L:List GE} (hg:g.ok) (hm:m.ok) (hL:Ln L) (h:∀x∈L,x=m∨x∈g.edges) {z:Int} (hz:I64 z):(⟨g.nn,g.nodes,true,L,g.Bl,z⟩:GG).ok:=by
 obtain⟨g1,g2,g3,g4,g5,g6,g7,g8⟩:=hg
 refine⟨g1,g2,g3,hL,fun h=>Bool.noConfusion h,fun x hx=>?_,g7,hz⟩
 rcases h x hx with rfl|h
 ·exact hm
 ·exact g6 x h
theorem Oy {α:Type} {lt:Int→Int→Bool} {key:α→Int} {x:α} {l:List α} (hs:NT lt) (h:l.length≤100000):Ln (AL lt key x l):=by
 have:=Eb (key:=key) hs (x:=x) (l:=l);unfold Ln;omega
theorem O1 {α:Type} {key:α→List UInt8} {x:α} {l:List α} (h:l.length≤100000):Ln (AL Op.bytesLess key x l):=by
 have:=Eb (key:=key) Ai (x:=x) (l:=l);unfold Ln;omega
theorem OZ {α:Type} {key:α→List UInt8} {x:List UInt8} {l:List α} (h:l.length≤100000):Ln (BR Op.bytesLess key x l):=by
 have:=Dp (key:=key) Ai (k:=x) (l:=l);unfold Ln;omega
theorem Zj {n:GN} {b:Bool} {L:List (List UInt8)} {x:List UInt8} (hn:n.ok) (hx:Ln x) (hL:Ln L) (hb:b=false→L=[]) (h:∀y∈L,y=x∨y∈n.labels):(⟨n.id,b,L,n.pn,n.props⟩:GN).ok:=by
 obtain⟨o1,o2,o3,o4,o5,o6,o7⟩:=hn
 refine⟨o1,hL,hb,fun s hs=>?_,o5,o6,o7⟩
 rcases h s hs with rfl|h
 ·exact hx
 ·exact o4 s h
theorem Zk {n:GN} {b:Bool} {L:List GP} {x:GP} (hn:n.ok) (hx:x.ok) (hL:Ln L) (hb:b=false→L=[]) (h:∀y∈L,y=x∨y∈n.props):(⟨n.id,n.ln,n.labels,b,L⟩:GN).ok:=by
 obtain⟨o1,o2,o3,o4,o5,o6,o7⟩:=hn
 refine⟨o1,o2,o3,o4,hL,hb,fun s hs=>?_⟩
 rcases h s hs with rfl|h
 ·exact hx
 ·exact o7 s h
theorem Zd {n:GE} {b:Bool} {L:List GP} {x:GP} (hn:n.ok) (hx:x.ok) (hL:Ln L) (hb:b=false→L=[]) (h:∀y∈L,y=x∨y∈n.props):(⟨n.id,n.fr,n.to,n.ty,b,L⟩:GE).ok:=by
 obtain⟨o1,o2,o3,o4,o5,o6,o7⟩:=hn
 refine⟨o1,o2,o3,o4,hL,hb,fun s hs=>?_⟩
 rcases h s hs with rfl|h
 ·exact hx
 ·exact o7 s h
theorem AdH {z:Int} (h:I64 z):(⟨z,false,[],false,[]⟩:GN).ok:=⟨h,by simp[Ln],fun _=>rfl,by simp,by simp[Ln],fun _=>rfl,by simp⟩
theorem AdI {z fr to:Int} {nm:List UInt8} (h:I64 z) (h1:I64 fr) (h2:I64 to) (h3:Ln nm):(⟨z,fr,to,nm,false,[]⟩:GE).ok:=⟨h,h1,h2,h3,by simp[Ln],fun _=>rfl,by simp⟩
theorem Vf (g:GG) (c:GC):(stepG g c).2.nodes.length≤g.nodes.length+1∧(stepG g c).2.edges.length≤g.edges.length+1:=by
 have h0:g.nodes.length≤g.nodes.length+1∧g.edges.length≤g.edges.length+1:=⟨by omega,by omega⟩
 have hp:∀x,(AL BP GN.id x g.nodes).length≤g.nodes.length+1∧g.edges.length≤g.edges.length+1:=fun x=>⟨Eb Ak,by omega⟩
 have hq:∀x,g.nodes.length≤g.nodes.length+1∧(AL BP GE.id x g.edges).length≤g.edges.length+1:=fun x=>⟨by omega,Eb Ak⟩
 unfold stepG
 split
 ·exact h0
 split
 ·unfold AQ
  repeat' split
  all_goals first|exact h0|exact hp _|exact⟨Nat.le_succ_of_le (Dp Ak),h0.2⟩
 ·unfold Bh
  repeat' split
  all_goals first|exact h0|exact hq _|exact⟨h0.1,Nat.le_succ_of_le (Dp Ak)⟩
theorem AkI {g:GG} (hg:g.ok) {z:Int} (hl:g.nodes.length≤100000):({g with nodes:=BR BP GN.id z g.nodes}:GG).ok:=by
 obtain⟨g1,g2,g3,g4,g5,g6,g7,g8⟩:=hg
 refine⟨?_,fun h=>?_,fun x hx=>g3 x (BX hx),g4,g5,g6,g7,g8⟩
 ·have:=Dp (key:=GN.id) Ak (k:=z) (l:=g.nodes);unfold Ln;dsimp only;omega
 ·rw[show g.nodes=[] from g2 h];rfl
theorem AkJ {g:GG} (hg:g.ok) {z:Int} (hl:g.edges.length≤100000):({g with edges:=BR BP GE.id z g.edges}:GG).ok:=by
 obtain⟨g1,g2,g3,g4,g5,g6,g7,g8⟩:=hg
 refine⟨g1,g2,g3,?_,fun h=>?_,fun x hx=>g6 x (BX hx),g7,g8⟩
 ·have:=Dp (key:=GE.id) Ak (k:=z) (l:=g.edges);unfold Ln;dsimp only;omega
 ·rw[show g.edges=[] from g5 h];rfl
theorem Zl {g:GG} {n m:GN} (hg:g.ok) (hl:g.nodes.length≤100000) (hn:n∈g.nodes) (hm:m.ok):({g with nodes:=AL BP GN.id m g.nodes}:GG).ok:=by
 have hb:g.nn=true:=by
  cases hb:g.nn with
  |true=>rfl
  |false=>have:=hg.2.1 hb;rw[this]at hn;cases hn
 have:=UK hg hm (Oy (key:=GN.id) Ak hl) (fun x hx=>Bf Ak hx) hg.2.2.2.2.2.2.1
 rw[← hb]at this
 exact this
theorem Aiz {g:GG} {n m:GE} (hg:g.ok) (hl:g.edges.length≤100000) (hn:n∈g.edges) (hm:m.ok):({g with edges:=AL BP GE.id m g.edges}:GG).ok:=by
 have hb:g.en=true:=by
  cases hb:g.en with
  |true=>rfl
  |false=>have:=hg.2.2.2.2.1 hb;rw[this]at hn;cases hn
 have:=UL hg hm (Oy (key:=GE.id) Ak hl) (fun x hx=>Bf Ak hx) hg.2.2.2.2.2.2.2
 rw[← hb]at this
 exact this
theorem Abc {a b:Int} (ha:Jg a) (hb:I64 b):I64 (if a+1>b then a+1 else b):=by unfold I64 Jg at *;split<;>omega
theorem AdX {g:GG} {c:GC} (hg:g.ok) (ha:DU g) (hc:c.ok):(stepG g c).2.ok:=by
 have lN:=ha.lN
 have lE:=ha.lE
 obtain⟨c1,c2,c3,c4,c5,c6⟩:=hc
 unfold stepG
 split
 ·exact hg
 rename_i hk
 have hid:=(Ad9 (Classical.not_not.1 hk)).2.1
 split
 ·unfold AQ
  split
  ·split
   ·exact hg
   split
   ·exact UK hg (AdH c2) (Oy Ak (by omega)) (fun x hx=>Bf Ak hx) (Abc hid hg.2.2.2.2.2.2.1)
   ·exact hg
  split
  ·exact hg
  rename_i n hf
  have hn:=List.mem_of_find?_eq_some hf
  have hno:=hg.2.2.1 n hn
  have hA:=ha.aN n hn
  have l1:=hA.lL
  have l2:=hA.lP
  split
  ·split
   ·exact hg
   ·exact AkI hg (by omega)
  split
  ·split
   ·exact hg
   split
   ·exact Zl hg (by omega) hn (Zj hno c5 (O1 (by omega)) (fun h=>Bool.noConfusion h) (fun y hy=>Bf Ai hy))
   ·exact hg
  split
  ·split
   ·exact Zl hg (by omega) hn (Zj hno c5 (OZ (by omega)) (fun h=>Bool.noConfusion h) (fun y hy=>.inr (BX hy)))
   ·exact hg
  split
  ·refine Zl hg (by omega) hn (Zk (x:=⟨c.name,c.v⟩) hno ⟨c5,c6⟩ (OZ (by omega)) (fun h=>?_) (fun y hy=>.inr (BX hy)))
   rw[show n.props=[] from hno.2.2.2.2.2.1 h];rfl
  split
  ·exact Zl hg (by omega) hn (Zk (x:=⟨c.name,c.v⟩) hno ⟨c5,c6⟩ (O1 (by omega)) (fun h=>Bool.noConfusion h) (fun y hy=>Bf Ai hy))
  ·exact hg
 ·unfold Bh
  split
  ·split
   ·exact hg
   split
   ·split
    ·exact UL hg (AdI c2 c3 c4 c5) (Oy Ak (by omega)) (fun x hx=>Bf Ak hx) (Abc hid hg.2.2.2.2.2.2.2)
    ·exact hg
   ·exact hg
  split
  ·exact hg
  rename_i n hf
  have hn:=List.mem_of_find?_eq_some hf
  have hno:=hg.2.2.2.2.2.1 n hn
  have hA:=ha.aE n hn
  have l2:=hA.lP
  split
  ·exact AkJ hg (by omega)
  split
  ·refine Aiz hg (by omega) hn (Zd (x:=⟨c.name,c.v⟩) hno ⟨c5,c6⟩ (OZ (by omega)) (fun h=>?_) (fun y hy=>.inr (BX hy)))
   rw[show n.props=[] from hno.2.2.2.2.2.1 h];rfl
  split
  ·exact Aiz hg (by omega) hn (Zd (x:=⟨c.name,c.v⟩) hno ⟨c5,c6⟩ (O1 (by omega)) (fun h=>Bool.noConfusion h) (fun y hy=>Bf Ai hy))
  ·exact hg
theorem Yt {e:GE}:Af (Ad tab) 309 [e.av,.sl false []] (· =.bool true):=by
 refine Ac rfl rfl ?_
 (conv=>whnf);repeat' (first  |(refine kA ?_;conv=>whnf)|(refine Br.mk (fun hc=>?_) fun hc=>?_<;>first|exact hc.elim|conv=>whnf)|(refine kB ?_))
 all_goals rfl
def atN (id:Int) (e:GE):Prop:=e.fr=id∨e.to=id
instance (id:Int) (e:GE):Decidable (atN id e):=by unfold atN;infer_instance
theorem AnX {e:GE} {id:Int}:Af (Ad tab) 308 [e.av,.int .i64 id,.int .i64 3] (fun v=>∃a:AJ,v=.BH [a.av,.bool (decide (atN id e))]):=by
 by_cases h:atN id e
 ·rw[decide_eq_true h]
  unfold atN at h
  refine Ac rfl rfl ?_
  (conv=>whnf);repeat' (first  |(refine kA ?_;conv=>whnf)|(refine Br.mk (fun hc=>?_) fun hc=>?_<;>first|exact hc.elim|conv=>whnf)|(refine kB ?_))
  all_goals first|exact⟨⟨_,_,_⟩,rfl⟩|(exfalso;omega)
 ·rw[decide_eq_false h]
  unfold atN at h
  refine Ac rfl rfl ?_
  (conv=>whnf);repeat' (first  |(refine kA ?_;conv=>whnf)|(refine Br.mk (fun hc=>?_) fun hc=>?_<;>first|exact hc.elim|conv=>whnf)|(refine kB ?_))
  all_goals first|exact⟨⟨_,_,_⟩,rfl⟩|(exfalso;omega)
theorem AkN {α:Type} {P:α→Prop} {l:List α} {i:Nat} (h:i<l.length):(∃ e∈l.take (i+1),P e)↔(∃ e∈l.take i,P e)∨P l[i]:=by
 rw[List.take_succ_eq_append_getElem h]
 simp only[List.mem_append,List.mem_singleton]
 constructor
 ·rintro⟨e,h|rfl,hp⟩
  ·exact .inl ⟨e,h,hp⟩
  ·exact .inr hp
 ·rintro(⟨e,h,hp⟩|hp)
  ·exact⟨e,.inl h,hp⟩
  ·exact⟨_,.inr rfl,hp⟩
theorem AnY {g:GG} (hg:g.ok) (hE:g.edges.length≤3000) {id:Int}:
 Af (Ad tab) 242 [g.av,.int .i64 id,.sl false [],.int .i64 3] (fun v=>∃nn W,v=.sl nn (vs AJ.av W)∧W.length≤3000∧(0<W.length↔∃e∈g.edges,atN id e)):=by
 refine Ac rfl rfl ?_
 (conv=>whnf);repeat' (first  |(refine kA ?_;conv=>whnf)|(refine Br.mk (fun hc=>?_) fun hc=>?_<;>first|exact hc.elim|conv=>whnf)|(refine kB ?_))
 refine Ae (fun m env s=>∃(i c go n:Nat) (nn:Bool) (W:List AJ),m=g.edges.length-i∧i≤g.edges.length∧n=W.length∧W.length≤i∧(0<W.length↔∃e∈g.edges.take i,atN id e)∧env=[(1,.int .i64 id),(2,.sl false []),(3,.int .i64 3),(4,.ref 0 0 0 0),(9,.own 1 go 0 n),(10,.int .i64 i)]∧s=⟨[.arr 0 4 true true [g.av],.arr go 3 nn true (vs AJ.av W)],c⟩) ?_ _ _ _ ⟨0,_,_,_,_,[],rfl,by omega,rfl,by simp,by simp,rfl,rfl⟩
 rintro _ _ _ ⟨i,c,go,n,nn,W,rfl,hi,hn,hW,hx,rfl,rfl⟩
 refine⟨rfl,?_⟩
 subst hn
 by_cases hlt:i<g.edges.length
 ·have hs:=AkN (P:=atN id) hlt
  rw[← hx]at hs
  obtain⟨_,⟨a,rfl⟩,hst⟩:=(AnX (e:=g.edges[i]) (id:=id)).J4
  by_cases ha:atN id g.edges[i]
  ·rw[decide_eq_true ha]at hst
   (conv=>whnf);repeat' (first|((first|refine Aa hst ?_|refine Aa Yt ?_);rintro _ rfl;conv=>whnf)|(refine Dc (x:=a) Zf rfl (by omega) ?_;conv=>whnf)|(refine kA ?_;conv=>whnf)|(refine Br.mk (fun hc=>?_) fun hc=>?_<;>first|exact hc.elim|conv=>whnf)|(refine kB ?_))
   refine Aqo (len:=W.length+1) (W:=W++[a]) (x:=a) (by simp) (by omega) (by omega) ?_
   intro t W' hW' ht'
   (conv=>whnf);repeat' (first|((with_reducible show eqK _ _);refine tV Zf (x:=a) t ?_ (by omega);conv=>whnf)|(refine kA ?_;conv=>whnf)|(refine Br.mk (fun hc=>?_) fun hc=>?_<;>first|exact hc.elim|conv=>whnf)|(refine kB ?_))
   exact again.mk ⟨_,by omega,i+1,_,_,_,_,W'.set t a,rfl,by omega,by rw[List.length_set];omega,by rw[List.length_set];omega,by rw[hs,List.length_set,hW'];exact⟨fun _=>.inr ha,fun _=>by omega⟩,rfl,rfl⟩
  ·rw[decide_eq_false ha]at hst
   (conv=>whnf);repeat' (first|((first|refine Aa hst ?_|refine Aa Yt ?_);rintro _ rfl;conv=>whnf)|(refine Dc (x:=a) Zf rfl (by omega) ?_;conv=>whnf)|(refine kA ?_;conv=>whnf)|(refine Br.mk (fun hc=>?_) fun hc=>?_<;>first|exact hc.elim|conv=>whnf)|(refine kB ?_))
   exact again.mk ⟨_,by omega,i+1,_,_,_,_,W,rfl,by omega,rfl,by omega,by rw[hs];exact⟨.inl,fun h=>h.elim (fun h=>h) (fun h=>absurd h ha)⟩,rfl,rfl⟩
 ·rw[List.take_of_length_le (by omega)]at hx
  (conv=>whnf);repeat' (first  |(refine kA ?_;conv=>whnf)|(refine Br.mk (fun hc=>?_) fun hc=>?_<;>first|exact hc.elim|conv=>whnf)|(refine kB ?_))
  exact⟨nn,W,rfl,by omega,hx⟩
theorem AqU {g:GG} (hg:g.ok) (hE:g.edges.length≤3000) {z:Int}:Af (Ad tab) 171 [g.av,.int .i64 z] (· =.bool (decide (∃ e∈g.edges,e.fr=z∨e.to=z))):=by
 obtain⟨_,⟨nn,W,rfl,hW,hx⟩,hS⟩:=(AnY (g:=g) (id:=z) hg hE).J4
 refine Ac rfl rfl ?_
 (conv=>whnf);repeat' (first|(refine Aa hS ?_;rintro _ rfl;conv=>whnf)|(refine kA ?_;conv=>whnf)|(refine Br.mk (fun hc=>?_) fun hc=>?_<;>first|exact hc.elim|conv=>whnf)|(refine kB ?_))
 all_goals first|exact Bc (hx.1 (by omega))|exact Am (fun h=>by have:=hx.2 h;omega)|(refine AaY ?_;rw[← show _↔_ from hx];omega)
def Du (k:Int×GG) (w:AV):Prop:=∃h:GG,w=.BH [h.av,.int .i64 k.1]∧(k.1=0→BM h=BM k.2∧h.ok)∧(k.1≠0→h=Fv)
theorem Du.no {e:Int} {g:GG} {k:Int×GG} (hk:k=(e,g)) (he:e≠0):Du k (.BH [Fv.av,.int .i64 e]):=by
 subst hk
 exact⟨Fv,rfl,fun h=>absurd h he,fun _=>rfl⟩
theorem Du.yes {g h:GG} {k:Int×GG} (hk:k=(0,g)) (he:BM h=BM g) (ho:h.ok):Du k (.BH [h.av,.int .i64 0]):=by
 subst hk
 exact⟨h,rfl,fun _=>⟨he,ho⟩,fun h=>absurd rfl h⟩
theorem AhF {α:Type} {f:α→AV} {L:List α} {σ:List Obj} {n o g es len:Nat} {nn:Bool} (h:nth σ o=some (.arr g es nn true (vs f L))) (hl:len=L.length):snap σ (n+1) (.own o g 0 len)=some (.sl nn (vs f L)):=by
 subst hl
 simp only[snap,h]
 rw[if_pos ⟨trivial,by rw[lV];omega⟩,if_pos trivial,Ji,List.drop_zero,List.take_length]
theorem Zo {σ:List Obj} {n:Nat} {v a:AV} {vs b:List AV} (h1:snap σ n v=some a) (h2:EP σ n vs=some b):EP σ (n+1) (v::vs)=some (a::b):=by
 rw[EP,h1,h2]
theorem AhE {σ:List Obj} {N E:Int} {a b a' b':AV} (ha:∀n,snap σ (n+1) a=some a') (hb:∀n,snap σ (n+1) b=some b') {m:Nat}:
 snap σ (m+20) (.agg [a,b,.int .i64 N,.int .i64 E])=some (.agg [a',b',.int .i64 N,.int .i64 E]):=by
 have hi:∀{k:IntKind} {z:Int} {n:Nat},snap σ (n+1) (.int k z)=some (.int k z):=by intro k z n;simp only[snap]
 have:EP σ (m+19) [a,b,.int .i64 N,.int .i64 E]=some [a',b',.int .i64 N,.int .i64 E]:=
  Zo (n:=m+18) (ha _) (Zo (n:=m+17) (hb _) (Zo (n:=m+16) hi (Zo (n:=m+15) hi (by rw[EP]))))
 show snap σ (m+19+1) _=_
 simp only[snap,this,Option.map]
structure RY (g:GG):Prop where
 n:∀x∈g.nodes,x.id<g.Bl
 e:∀x∈g.edges,x.id<g.Bg
set_option maxHeartbeats 2000000 in
theorem AjR {g:GG} {n:GN} {z fr to:Int} {nm:List UInt8} {v:GV} (hg:g.ok) (hN:g.nodes.length≤2900) (hE:g.edges.length≤2900) (ha:DU g) (hnm:Ln nm) (hf:g.nodes.find? (fun n=>decide (n.id=z))=some n):
 Af (Ad tab) 102 [g.av,(⟨2,z,fr,to,nm,v⟩:GC).av,n.av] (Du (AQ g ⟨2,z,fr,to,nm,v⟩)):=by
 have hn:=ha.aN n (Ea hf).1
 have hlab:n.labels.length<2^63:=by have:=hn.lL;omega
 have hus:=AqU (z:=z) hg (by omega)
 have hG:AQ g ⟨2,z,fr,to,nm,v⟩=if∃e∈g.edges,e.fr=z∨e.to=z then(12,g)else(0,{g with nodes:=BR BP GN.id z g.nodes}):=by
  unfold AQ;dsimp only;rw[if_neg (by decide),hf];rfl
 rw[hG]
 by_cases hu:∃e∈g.edges,e.fr=z∨e.to=z
 ·rw[decide_eq_true hu]at hus
  rw[if_pos hu]
  refine Ac rfl rfl ?_
  (conv=>whnf);repeat' (first|(refine Bo (IW (n:=n) (s:=nm) hlab) (fun hc=>?_) (fun hc=>?_)<;>conv=>whnf)|(refine Aa hus ?_;rintro _ rfl;conv=>whnf)|(refine kA ?_;conv=>whnf)|(refine Br.mk (fun hc=>?_) fun hc=>?_<;>first|exact hc.elim|conv=>whnf)|(refine kB ?_))
  all_goals exact Du.no rfl (by decide)
 ·rw[decide_eq_false hu]at hus
  rw[if_neg hu,NR Ak ha.iN]
  refine Ac rfl rfl ?_
  (conv=>whnf);repeat' (first|(refine Bo (IW (n:=n) (s:=nm) hlab) (fun hc=>?_) (fun hc=>?_)<;>conv=>whnf)|(refine Aa hus ?_;rintro _ rfl;conv=>whnf)|(refine kA ?_;conv=>whnf)|(refine Br.mk (fun hc=>?_) fun hc=>?_<;>first|exact hc.elim|conv=>whnf)|(refine kB ?_))
  all_goals
   refine Ae (fun m env s=>∃(i c' go k:Nat) (f:Bool) (l:List GN),m=g.nodes.length-i∧i≤g.nodes.length∧k=l.length∧l.length≤i∧(f=false→l=[])∧l=(g.nodes.take i).filter (fun a=>decide (GN.id a≠z))∧env=[(3,.ref 0 0 0 0),(4,.ref 1 1 0 0),(6,.ref 3 3 0 0),(9,.own 4 go 0 k),(10,.int .i64 i)]∧s=⟨[.arr 0 4 true true [g.av],.arr 1 10 true true [(⟨2,z,fr,to,nm,v⟩:GC).av],.arr 2 3 true true [n.av],.arr 3 4 true true [.agg [.sl false [],.sl false [],.int .i64 0,.int .i64 0]],.arr go 3 f true (vs GN.av l)],c'⟩) ?_ _ _ _ ⟨0,_,_,0,_,[],rfl,by omega,rfl,by simp,fun _=>rfl,by simp,rfl,rfl⟩
   rintro _ _ _ ⟨i,c',go,k,f,l,rfl,hi,hk,hl,hff,hx,rfl,rfl⟩
   refine⟨rfl,?_⟩
   subst hk
   by_cases hlt:i<g.nodes.length
   ·have hs:=List.take_succ_eq_append_getElem hlt
    (conv=>whnf);repeat' (first|(refine Dc (x:=g.nodes[i]) WJ rfl (by omega) ?_;conv=>whnf)|(refine kA ?_;conv=>whnf)|(refine Br.mk (fun hc=>?_) fun hc=>?_<;>first|exact hc.elim|conv=>whnf)|(refine kB ?_))
    all_goals first
     |exact again.mk ⟨_,by omega,i+1,_,_,_,_,l++[g.nodes[i]],rfl,by omega,by simp,by simp;omega,fun h=>Bool.noConfusion h,by rw[hs,List.filter_append,←hx,List.filter_cons_of_pos (by simp;omega),List.filter_nil],rfl,rfl⟩
     |exact again.mk ⟨_,by omega,i+1,_,_,_,_,l,rfl,by omega,rfl,by omega,hff,by rw[hs,List.filter_append,←hx,List.filter_cons_of_neg (by simp;omega),List.filter_nil,List.append_nil],rfl,rfl⟩
   ·rw[show i=g.nodes.length by omega,List.take_length]at hx
    (conv=>whnf);repeat' (first  |(refine kA ?_;conv=>whnf)|(refine Br.mk (fun hc=>?_) fun hc=>?_<;>first|exact hc.elim|conv=>whnf)|(refine kB ?_))
    refine Ag (x:=GG.av ⟨f,l,g.en,g.edges,g.Bl,g.Bg⟩) ?_ ?_
    ·exact AhE (m:=999978) (a:=.own 4 go 0 l.length) (b:=.sl g.en (vs GE.av g.edges)) (N:=g.Bl) (E:=g.Bg) (fun _=>AhF rfl rfl) (fun _=>rfl)
    (conv=>whnf);repeat' (first  |(refine kA ?_;conv=>whnf)|(refine Br.mk (fun hc=>?_) fun hc=>?_<;>first|exact hc.elim|conv=>whnf)|(refine kB ?_))
    subst hx
    exact Du.yes (h:=⟨f,_,g.en,g.edges,g.Bl,g.Bg⟩) rfl rfl ⟨by unfold Ln;dsimp only;omega,hff,fun x hx=>hg.2.2.1 x ((List.mem_filter.1 hx).1),hg.2.2.2⟩
theorem Ad6 {α κ:Type} {lt:κ→κ→Bool} {key:α→κ} (hs:NT lt) {k:κ}:∀{l:List α},(∀ y∈l,key y≠k)→(below lt key k l).length+(above lt key k l).length=l.length
 |[],_=>by simp[below,above]
 |a::l,h=>by
  have ih:=Ad6 hs (k:=k) (l:=l) fun y hy=>h y (by simp[hy])
  have hk:=h a (by simp)
  unfold below above at ih ⊢
  cases h1:lt (key a) k<;>cases h2:lt k (key a)
  ·exact absurd (hs.tot _ _ h1 h2) hk
  ·rw[List.filter_cons_of_neg (by simp[h1]),List.filter_cons_of_pos (by simp[h2])];simp;omega
  ·rw[List.filter_cons_of_pos (by simp[h1]),List.filter_cons_of_neg (by simp[h2])];simp;omega
  ·have:=hs.tr _ _ _ h1 h2;rw[hs.NG]at this;cases this
theorem Alv {key:List UInt8} {v:GV} {P:List GP} (hl:P.length≤16):(AL Op.bytesLess GP.key ⟨key,v⟩ P).length≤16↔(∃ p∈P,GP.key p=key)∨P.length<16:=by
 constructor
 ·intro h
  by_cases hx:∃p∈P,GP.key p=key
  ·exact .inl hx
  ·have:=Ad6 (key:=GP.key) (k:=key) Ai (l:=P) fun y hy e=>hx ⟨y,hy,e⟩
   simp only[AL,List.length_append,List.length_singleton]at h
   omega
 ·rintro(hx|hx)
  ·exact Nat.le_trans (Ic Ai hx) hl
  ·exact Nat.le_trans (Eb Ai) (by omega)
theorem UU {g:GG} {k:Int×GG} {m m':GN} (hg:g.ok) (hN:g.nodes.length≤2900) (hx:RY g) (hm:∃n∈g.nodes,n.id=m.id) (ho:m.ok) (hk:k=(0,{g with nodes:=AL BP GN.id m' g.nodes})) (e:ER m=ER m'):
 Du k (.BH [GG.av ⟨true,AL BP GN.id m g.nodes,g.en,g.edges,(if m.id+1>g.Bl then m.id+1 else g.Bl),g.Bg⟩,.int .i64 0]):=by
 obtain⟨n,hn,en⟩:=hm
 have h1:¬m.id+1>g.Bl:=by have:=hx.n n hn;omega
 rw[if_neg h1]
 refine Du.yes hk ?_ (UK hg ho (Oy Ak (by omega)) (fun x hx=>Bf Ak hx) hg.2.2.2.2.2.2.1)
 unfold BM
 simp only[Rt Rl,e]
theorem AaS {g:GG} {k:Int×GG} {m m':GE} (hg:g.ok) (hN:g.edges.length≤2900) (hx:RY g) (hm:∃n∈g.edges,n.id=m.id) (ho:m.ok) (hk:k=(0,{g with edges:=AL BP GE.id m' g.edges})) (e:GX m=GX m'):
 Du k (.BH [GG.av ⟨g.nn,g.nodes,true,AL BP GE.id m g.edges,g.Bl,(if m.id+1>g.Bg then m.id+1 else g.Bg)⟩,.int .i64 0]):=by
 obtain⟨n,hn,en⟩:=hm
 have h1:¬m.id+1>g.Bg:=by have:=hx.e n hn;omega
 rw[if_neg h1]
 refine Du.yes hk ?_ (UL hg ho (Oy Ak (by omega)) (fun x hx=>Bf Ak hx) hg.2.2.2.2.2.2.2)
 unfold BM
 simp only[Rt Rn,e]
section
variable {g:GG} {n:GN} {z fr to:Int} {nm:List UInt8} {v:GV}
set_option maxHeartbeats 2000000 in
theorem AjS (hg:g.ok) (hN:g.nodes.length≤2900) (ha:DU g) (hx:RY g) (hz:Jg z) (hnm:Ln nm) (hf:g.nodes.find? (fun n=>decide (n.id=z))=some n):
 Af (Ad tab) 102 [g.av,(⟨3,z,fr,to,nm,v⟩:GC).av,n.av] (Du (AQ g ⟨3,z,fr,to,nm,v⟩)):=by
 obtain⟨hm,hid⟩:=Ea hf
 have hid:=of_decide_eq_true hid
 have hn:=ha.aN n hm
 have hno:=hg.2.2.1 n hm
 have hlb:=IW (n:=n) (s:=nm) (by have:=hn.lL;omega)
 have hG:AQ g ⟨3,z,fr,to,nm,v⟩=if nm∈n.labels then(7,g)else if n.labels.length<8 then(0,{g with nodes:=AL BP GN.id {n with ln:=true,labels:=AL Op.bytesLess id nm n.labels} g.nodes})else(20,g):=by
  unfold AQ;dsimp only;rw[if_neg (by decide),hf];rfl
 rw[hG]
 have hz1:1≤n.id∧n.id≤1000000:=by unfold Jg at hz;omega
 by_cases hc1:nm∈n.labels
 ·rw[if_pos hc1]
  rw[decide_eq_true hc1]at hlb
  refine Ac rfl rfl ?_
  show vC _ _ [(0,g.av),(1,.agg [.int .i64 3,.int .i64 z,.int .i64 fr,.int .i64 to,.str nm,.int .i64 v.k,.int .i64 v.n,.int .i64 v.d,.str v.s,.sl v.nn v.l]),(2,n.av)] _ _
  (conv=>whnf);repeat' (first|(refine Aa hlb ?_;rintro _ rfl;conv=>whnf)|(refine kA ?_;conv=>whnf)|(refine Br.mk (fun hc=>?_) fun hc=>?_<;>first|exact hc.elim|conv=>whnf)|(refine kB ?_))
  all_goals exact Du.no rfl (by decide)
 rw[if_neg hc1]
 rw[decide_eq_false hc1]at hlb
 have hp:=AiY (l:=n.labels) (nn:=n.ln) (x:=nm) (by have:=hn.lL;omega) hn.iL hc1
 have hpn:=AaV (g:=g) (n:=⟨n.id,true,AL Op.bytesLess id nm n.labels,n.pn,n.props⟩) hg (by omega) ha.iN hz1.1 hz1.2
 by_cases h5:n.labels.length<8
 ·rw[if_pos h5]
  refine Ac rfl rfl ?_
  show vC _ _ [(0,g.av),(1,.agg [.int .i64 3,.int .i64 z,.int .i64 fr,.int .i64 to,.str nm,.int .i64 v.k,.int .i64 v.n,.int .i64 v.d,.str v.s,.sl v.nn v.l]),(2,n.av)] _ _
  (conv=>whnf);repeat' (first|((first|refine Aa hlb ?_|refine Aa hp ?_|refine Aa hpn ?_);rintro _ rfl;conv=>whnf)|(refine kA ?_;conv=>whnf)|(refine Br.mk (fun hc=>?_) fun hc=>?_<;>first|exact hc.elim|conv=>whnf)|(refine kB ?_))
  all_goals first
   |(exfalso;omega)
   |exact UU (m:=⟨n.id,true,AL Op.bytesLess id nm n.labels,n.pn,n.props⟩) hg hN hx ⟨n,hm,rfl⟩ (Zj hno hnm (O1 (by omega)) (fun h=>Bool.noConfusion h) (fun y hy=>Bf Ai hy)) rfl rfl
 ·rw[if_neg h5]
  refine Ac rfl rfl ?_
  show vC _ _ [(0,g.av),(1,.agg [.int .i64 3,.int .i64 z,.int .i64 fr,.int .i64 to,.str nm,.int .i64 v.k,.int .i64 v.n,.int .i64 v.d,.str v.s,.sl v.nn v.l]),(2,n.av)] _ _
  (conv=>whnf);repeat' (first|(refine Aa hlb ?_;rintro _ rfl;conv=>whnf)|(refine kA ?_;conv=>whnf)|(refine Br.mk (fun hc=>?_) fun hc=>?_<;>first|exact hc.elim|conv=>whnf)|(refine kB ?_))
  all_goals first
   |(exfalso;omega)
   |exact Du.no rfl (by decide)
set_option maxHeartbeats 2000000 in
theorem AjT (hg:g.ok) (hN:g.nodes.length≤2900) (ha:DU g) (hx:RY g) (hz:Jg z) (hnm:Ln nm) (hf:g.nodes.find? (fun n=>decide (n.id=z))=some n):
 Af (Ad tab) 102 [g.av,(⟨4,z,fr,to,nm,v⟩:GC).av,n.av] (Du (AQ g ⟨4,z,fr,to,nm,v⟩)):=by
 obtain⟨hm,hid⟩:=Ea hf
 have hid:=of_decide_eq_true hid
 have hn:=ha.aN n hm
 have hno:=hg.2.2.1 n hm
 have hlb:=IW (n:=n) (s:=nm) (by have:=hn.lL;omega)
 have hG:AQ g ⟨4,z,fr,to,nm,v⟩=if nm∈n.labels then(0,{g with nodes:=AL BP GN.id {n with ln:=true,labels:=BR Op.bytesLess id nm n.labels} g.nodes})else(23,g):=by
  unfold AQ;dsimp only;rw[if_neg (by decide),hf];rfl
 rw[hG]
 have hz1:1≤n.id∧n.id≤1000000:=by unfold Jg at hz;omega
 by_cases hc1:nm∈n.labels
 ·rw[if_pos hc1]
  rw[decide_eq_true hc1]at hlb
  have hlL:=hn.lL
  obtain⟨_,⟨b,hb,rfl⟩,hw⟩:=(AfQ (l:=n.labels) (nn:=n.ln) (x:=nm) (by omega) hn.iL).J4
  have hpn:=AaV (g:=g) (n:=⟨n.id,b,BR Op.bytesLess id nm n.labels,n.pn,n.props⟩) hg (by omega) ha.iN hz1.1 hz1.2
  refine Ac rfl rfl ?_
  show vC _ _ [(0,g.av),(1,.agg [.int .i64 4,.int .i64 z,.int .i64 fr,.int .i64 to,.str nm,.int .i64 v.k,.int .i64 v.n,.int .i64 v.d,.str v.s,.sl v.nn v.l]),(2,n.av)] _ _
  (conv=>whnf);repeat' (first|((first|refine Aa hlb ?_|refine Aa hw ?_|refine Aa hpn ?_);rintro _ rfl;conv=>whnf)|(refine kA ?_;conv=>whnf)|(refine Br.mk (fun hc=>?_) fun hc=>?_<;>first|exact hc.elim|conv=>whnf)|(refine kB ?_))
  all_goals first
   |exact UU (m:=⟨n.id,b,BR Op.bytesLess id nm n.labels,n.pn,n.props⟩) hg hN hx ⟨n,hm,rfl⟩ (Zj hno hnm (OZ (by omega)) hb (fun y hy=>.inr (BX hy))) rfl rfl
 ·rw[if_neg hc1]
  rw[decide_eq_false hc1]at hlb
  refine Ac rfl rfl ?_
  show vC _ _ [(0,g.av),(1,.agg [.int .i64 4,.int .i64 z,.int .i64 fr,.int .i64 to,.str nm,.int .i64 v.k,.int .i64 v.n,.int .i64 v.d,.str v.s,.sl v.nn v.l]),(2,n.av)] _ _
  (conv=>whnf);repeat' (first|(refine Aa hlb ?_;rintro _ rfl;conv=>whnf)|(refine kA ?_;conv=>whnf)|(refine Br.mk (fun hc=>?_) fun hc=>?_<;>first|exact hc.elim|conv=>whnf)|(refine kB ?_))
  all_goals exact Du.no rfl (by decide)
set_option maxHeartbeats 2000000 in
theorem AjU (hg:g.ok) (hN:g.nodes.length≤2900) (ha:DU g) (hx:RY g) (hz:Jg z) (hnm:Ln nm) (hv:v.ok) (hf:g.nodes.find? (fun n=>decide (n.id=z))=some n):
 Af (Ad tab) 102 [g.av,(⟨5,z,fr,to,nm,v⟩:GC).av,n.av] (Du (AQ g ⟨5,z,fr,to,nm,v⟩)):=by
 obtain⟨hm,hid⟩:=Ea hf
 have hid:=of_decide_eq_true hid
 have hn:=ha.aN n hm
 have hno:=hg.2.2.1 n hm
 obtain⟨_,⟨bl,rfl⟩,hlb⟩:=(Af.mono (R':=fun w=>∃b,w=.bool b) (IW (n:=n) (s:=nm) (by have:=hn.lL;omega)) (fun w h=>⟨_,h⟩)).J4
 have hlP:=hn.lP
 have hG:AQ g ⟨5,z,fr,to,nm,v⟩=if isNull v then(0,{g with nodes:=AL BP GN.id {n with props:=BR Op.bytesLess GP.key nm n.props} g.nodes})else if(∃ p∈n.props,GP.key p=nm)∨n.props.length<16 then(0,{g with nodes:=AL BP GN.id {n with pn:=true,props:=AL Op.bytesLess GP.key ⟨nm,v⟩ n.props} g.nodes})else(20,g):=by
  unfold AQ;dsimp only;rw[if_neg (by decide),hf];rfl
 rw[hG]
 have hz1:1≤n.id∧n.id≤1000000:=by unfold Jg at hz;omega
 by_cases hc1:isNull v
 ·rw[if_pos hc1]
  obtain⟨_,⟨b,hb,rfl⟩,hw⟩:=(Aaz (P:=n.props) (nn:=n.pn) (key:=nm) (by omega) hn.iP hv hc1).J4
  have hle:(BR Op.bytesLess GP.key nm n.props).length≤16:=Nat.le_trans (Dp Ai) hlP
  rw[decide_eq_true hle]at hw
  have hpn:=AaV (g:=g) (n:=⟨n.id,n.ln,n.labels,b,BR Op.bytesLess GP.key nm n.props⟩) hg (by omega) ha.iN hz1.1 hz1.2
  refine Ac rfl rfl ?_
  show vC _ _ [(0,g.av),(1,.agg [.int .i64 5,.int .i64 z,.int .i64 fr,.int .i64 to,.str nm,.int .i64 v.k,.int .i64 v.n,.int .i64 v.d,.str v.s,.sl v.nn v.l]),(2,n.av)] _ _
  (conv=>whnf);repeat' (first|((first|refine Aa hlb ?_|refine Aa hw ?_|refine Aa hpn ?_);rintro _ rfl;conv=>whnf)|(refine kA ?_;conv=>whnf)|(refine Br.mk (fun hc=>?_) fun hc=>?_<;>first|exact hc.elim|conv=>whnf)|(refine kB ?_))
  all_goals first
   |exact UU (m:=⟨n.id,n.ln,n.labels,b,BR Op.bytesLess GP.key nm n.props⟩) hg hN hx ⟨n,hm,rfl⟩ (Zk (x:=⟨nm,v⟩) hno ⟨hnm,hv⟩ (OZ (by omega)) hb (fun y hy=>.inr (BX hy))) rfl rfl
 ·rw[if_neg hc1]
  have hw:=AaT (P:=n.props) (nn:=n.pn) (key:=nm) (by omega) hn.iP hv hc1
  have h16:=Alv (key:=nm) (v:=v) hlP
  by_cases h5:(∃ p∈n.props,GP.key p=nm)∨n.props.length<16
  ·rw[if_pos h5]
   rw[decide_eq_true (h16.2 h5)]at hw
   have hpn:=AaV (g:=g) (n:=⟨n.id,n.ln,n.labels,true,AL Op.bytesLess GP.key ⟨nm,v⟩ n.props⟩) hg (by omega) ha.iN hz1.1 hz1.2
   refine Ac rfl rfl ?_
   show vC _ _ [(0,g.av),(1,.agg [.int .i64 5,.int .i64 z,.int .i64 fr,.int .i64 to,.str nm,.int .i64 v.k,.int .i64 v.n,.int .i64 v.d,.str v.s,.sl v.nn v.l]),(2,n.av)] _ _
   (conv=>whnf);repeat' (first|((first|refine Aa hlb ?_|refine Aa hw ?_|refine Aa hpn ?_);rintro _ rfl;conv=>whnf)|(refine kA ?_;conv=>whnf)|(refine Br.mk (fun hc=>?_) fun hc=>?_<;>first|exact hc.elim|conv=>whnf)|(refine kB ?_))
   all_goals first
     |exact UU (m:=⟨n.id,n.ln,n.labels,true,AL Op.bytesLess GP.key ⟨nm,v⟩ n.props⟩) hg hN hx ⟨n,hm,rfl⟩ (Zk (x:=⟨nm,v⟩) hno ⟨hnm,hv⟩ (O1 (by omega)) (fun h=>Bool.noConfusion h) (fun y hy=>Bf Ai hy)) rfl rfl
  ·rw[if_neg h5]
   rw[decide_eq_false (fun h=>h5 (h16.1 h))]at hw
   refine Ac rfl rfl ?_
   show vC _ _ [(0,g.av),(1,.agg [.int .i64 5,.int .i64 z,.int .i64 fr,.int .i64 to,.str nm,.int .i64 v.k,.int .i64 v.n,.int .i64 v.d,.str v.s,.sl v.nn v.l]),(2,n.av)] _ _
   (conv=>whnf);repeat' (first|((first|refine Aa hlb ?_|refine Aa hw ?_);rintro _ rfl;conv=>whnf)|(refine kA ?_;conv=>whnf)|(refine Br.mk (fun hc=>?_) fun hc=>?_<;>first|exact hc.elim|conv=>whnf)|(refine kB ?_))
   all_goals first
     |exact Du.no rfl (by decide)
end
theorem AaZ {x y:GE} {L:List GE} (h:x.id<y.id):AL BP GE.id x (L++[y])=AL BP GE.id x L++[y]:=O4 Ak (by simpa[BP]using h)
theorem Aa0 {x:GE} {L:List GE} (h:∀y∈L,y.id<x.id):AL BP GE.id x L=L++[x]:=La Ak fun y hy=>by simpa[BP]using h y hy
theorem Aj1 {x y:GE} {L:List GE} (h:∀y∈L,y.id<x.id) (e:y.id=x.id):AL BP GE.id x (L++[y])=L++[x]:=S9 Ak (fun y hy=>by simpa[BP]using h y hy) e
set_option maxHeartbeats 1000000 in
theorem AhD {g:GG} {n:GE} (hg:g.ok) (hN:g.edges.length≤3000) (hI:Inc BP GE.id g.edges) (hi1:1≤n.id) (hi2:n.id≤1000000):Af (Ad tab) 100 [g.av,n.av] (· =GG.av ⟨g.nn,g.nodes,true,AL BP GE.id n g.edges,g.Bl,(if n.id+1>g.Bg then n.id+1 else g.Bg)⟩):=by
 obtain⟨g1,g2,g3,g4,g5,g6,g7,g8⟩:=hg
 unfold I64 at g8
 refine Ac rfl rfl ?_
 (conv=>whnf);repeat' (first  |(refine kA ?_;conv=>whnf)|(refine Br.mk (fun hc=>?_) fun hc=>?_<;>first|exact hc.elim|conv=>whnf)|(refine kB ?_))
 refine Ae (fun m env s=>∃(i c go k:Nat) (b d:Bool) (l:List GE),m=g.edges.length-i∧i≤g.edges.length∧k=l.length∧l.length≤i+1∧(b=false→d=false)∧(d=false→l=g.edges.take i∧∀y∈g.edges.take i,y.id<n.id)∧(d=true→l=AL BP GE.id n (g.edges.take i)∧∀y∈g.edges.drop i,n.id<y.id)∧env=[(2,.ref 0 0 0 0),(3,.ref 1 1 0 0),(4,.ref 2 2 0 0),(5,.own 3 go 0 k),(6,.bool d),(7,.int .i64 i)]∧
  s=⟨[.arr 0 4 true true [g.av],.arr 1 5 true true [n.av],.arr 2 4 true true [.agg [.sl false [],.sl false [],.int .i64 0,.int .i64 0]],.arr go 5 b true (vs GE.av l)],c⟩) ?_ _ _ _ ⟨0,_,_,0,_,_,[],rfl,by omega,rfl,by simp,fun _=>rfl,fun _=>⟨rfl,by simp⟩,fun h=>Bool.noConfusion h,rfl,rfl⟩
 rintro _ _ _ ⟨i,c,go,k,b,d,l,rfl,hi,hk,hl,hb,hd,ht,rfl,rfl⟩
 refine⟨rfl,?_⟩
 subst hk
 by_cases hlt:i<g.edges.length
 ·have hda:∀x:Int,x≤(g.edges[i]).id→∀y∈g.edges.drop (i+1),x<y.id:=fun x hx=>WG hI hlt hx
  have hs:=List.take_succ_eq_append_getElem hlt
  have htk:∀{P:GE→Prop},(∀ y∈g.edges.take i,P y)→P g.edges[i]→∀y∈g.edges.take (i+1),P y:=fun{P} h1 h2 y hy=>by
   rw[hs]at hy
   rcases List.mem_append.1 hy with hy|hy
   ·exact h1 y hy
   ·obtain rfl:=List.mem_singleton.1 hy;exact h2
  cases d
  ·obtain⟨rfl,hlo⟩:=hd rfl
   have hle:(g.edges.take i).length≤i:=by rw[List.length_take];omega
   (conv=>whnf);repeat' (first|(refine Dc (x:=n) cellsE (by simp) (by simp;omega) ?_;conv=>whnf)|(refine Dc (x:=g.edges[i]) cellsE (by simp) (by simp;omega) ?_;conv=>whnf)|(refine kA ?_;conv=>whnf)|(refine Br.mk (fun hc=>?_) fun hc=>?_<;>first|exact hc.elim|conv=>whnf)|(refine kB ?_))
   all_goals first
        |exact again.mk ⟨_,by omega,i+1,_,_,_,_,_,g.edges.take i++[n]++[g.edges[i]],rfl,by omega,by simp,by simp;omega,fun h=>Bool.noConfusion h,fun h=>Bool.noConfusion h,fun _=>⟨by rw[hs,AaZ (by omega),Aa0 hlo],hda _ (by omega)⟩,rfl,rfl⟩
        |exact again.mk ⟨_,by omega,i+1,_,_,_,_,_,g.edges.take i++[n],rfl,by omega,by simp,by simp;omega,fun h=>Bool.noConfusion h,fun h=>Bool.noConfusion h,fun _=>⟨by rw[hs,Aj1 hlo (by omega)],hda _ (by omega)⟩,rfl,rfl⟩
        |exact again.mk ⟨_,by omega,i+1,_,_,_,_,_,g.edges.take i++[g.edges[i]],rfl,by omega,by rw[List.length_append,List.length_singleton],by rw[List.length_append,List.length_singleton];omega,fun _=>rfl,fun _=>⟨hs.symm,htk hlo (by omega)⟩,fun h=>Bool.noConfusion h,rfl,rfl⟩
        |(exfalso;omega)
  ·obtain⟨rfl,hhi⟩:=ht rfl
   have hgt:n.id<(g.edges[i]).id:=hhi _ (by rw[List.drop_eq_getElem_cons hlt];exact List.mem_cons_self)
   (conv=>whnf);repeat' (first|(refine Dc (x:=g.edges[i]) cellsE (by simp) (by simp;omega) ?_;conv=>whnf)|(refine kA ?_;conv=>whnf)|(refine Br.mk (fun hc=>?_) fun hc=>?_<;>first|exact hc.elim|conv=>whnf)|(refine kB ?_))
   all_goals first
        |exact again.mk ⟨_,by omega,i+1,_,_,_,_,_,AL BP GE.id n (g.edges.take i)++[g.edges[i]],rfl,by omega,by simp,by simp;omega,fun h=>Bool.noConfusion h,fun h=>Bool.noConfusion h,fun _=>⟨by rw[hs,AaZ hgt],hda _ (by omega)⟩,rfl,rfl⟩
        |(exfalso;omega)
 ·obtain rfl:i=g.edges.length:=by omega
  rw[List.take_length]at hd ht
  cases d
  ·obtain⟨rfl,hlo⟩:=hd rfl
   rw[Aa0 hlo]
   (conv=>whnf);repeat' (first|(refine Dc (x:=n) cellsE (by simp) (by simp;omega) ?_;conv=>whnf)|(refine kA ?_;conv=>whnf)|(refine Br.mk (fun hc=>?_) fun hc=>?_<;>first|exact hc.elim|conv=>whnf)|(refine kB ?_))
   all_goals first|rfl|(exfalso;omega)
  ·obtain⟨rfl,_⟩:=ht rfl
   cases b
   ·exact absurd (hb rfl) Bool.noConfusion
   (conv=>whnf);repeat' (first  |(refine kA ?_;conv=>whnf)|(refine Br.mk (fun hc=>?_) fun hc=>?_<;>first|exact hc.elim|conv=>whnf)|(refine kB ?_))
   all_goals first|rfl|(exfalso;omega)
end AI
end Go.Proofs.YtceiccjppfapjaaGreatDoor
