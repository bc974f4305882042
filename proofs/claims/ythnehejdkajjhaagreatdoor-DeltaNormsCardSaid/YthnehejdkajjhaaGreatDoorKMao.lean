/- Graphs up to the difference between no list and an empty one; a step does not see it. The reference's HasLabel. The reference: whether a node is used; a change of a node, exactly. The reference: changes of a node's labels and properties, exactly. The reference puts edges into a graph, exactly. -/
import Derived.Test.YthnehejdkajjhaaGreatDoorKMal
import Derived.Test.YthnehejdkajjhaaGreatDoorKMan
import Derived.Test.YthnehejdkajjhaaGreatDoorKMae
set_option linter.unusedVariables false
set_option maxRecDepth 4000
namespace Go.Proofs.YthnehejdkajjhaaGreatDoor
namespace AI
section
variable {α κ:Type} {lt:κ→κ→Bool} {key:α→κ} {f:α→α}
theorem Y7 (hk:∀a,key (f a)=key a) {k:κ} {l:List α}:(below lt key k l).map f=below lt key k (l.map f):=by
 unfold below;rw[List.filter_map];congr 1;refine List.filter_congr fun x _=>?_;simp[hk]
theorem Y8 (hk:∀a,key (f a)=key a) {k:κ} {l:List α}:(above lt key k l).map f=above lt key k (l.map f):=by
 unfold above;rw[List.filter_map];congr 1;refine List.filter_congr fun x _=>?_;simp[hk]
theorem Ru (hk:∀a,key (f a)=key a) {x:α} {l:List α}:(A8 lt key x l).map f=A8 lt key (f x) (l.map f):=by
 unfold A8;rw[List.map_append,List.map_append,Y7 hk,Y8 hk,hk];rfl
theorem Ab2 (hk:∀a,key (f a)=key a) {k:κ} {l:List α}:(Cc lt key k l).map f=Cc lt key k (l.map f):=by
 unfold Cc;rw[List.map_append,Y7 hk,Y8 hk]
end
def ET (n:GN):GN:=⟨n.id,true,n.labels,true,n.props⟩
def Gq (e:GE):GE:=⟨e.id,e.fr,e.to,e.ty,true,e.props⟩
def BL (g:GG):GG:=⟨true,g.nodes.map ET,true,g.edges.map Gq,g.BF,g.BA⟩
theorem YI (g:GG):BL (BL g)=BL g:=by
 unfold BL;simp only[List.map_map];rfl
theorem Rw (n:GN):GN.id (ET n)=GN.id n:=rfl
theorem Rx (n:GE):GE.id (Gq n)=GE.id n:=rfl
theorem ApG {N:List GN} {P:GN→Prop} (hP:∀n,P (ET n)↔P n):(∃ n∈N.map ET,P n)↔∃n∈N,P n:=
 ⟨fun ⟨n,hn,e⟩=>by obtain⟨m,hm,rfl⟩:=List.mem_map.1 hn;exact⟨m,hm,(hP m).1 e⟩,fun⟨n,hn,e⟩=>⟨ET n,List.mem_map_of_mem hn,(hP n).2 e⟩⟩
theorem As6 {N:List GE} {P:GE→Prop} (hP:∀n,P (Gq n)↔P n):(∃ n∈N.map Gq,P n)↔∃n∈N,P n:=
 ⟨fun ⟨n,hn,e⟩=>by obtain⟨m,hm,rfl⟩:=List.mem_map.1 hn;exact⟨m,hm,(hP m).1 e⟩,fun⟨n,hn,e⟩=>⟨Gq n,List.mem_map_of_mem hn,(hP n).2 e⟩⟩
theorem fdN {N:List GN} {z:Int}:(N.map ET).find? (fun n=>decide (n.id=z))=(N.find? fun n=>decide (n.id=z)).map ET:=by
 rw[List.find?_map];rfl
theorem fdE {N:List GE} {z:Int}:(N.map Gq).find? (fun n=>decide (n.id=z))=(N.find? fun n=>decide (n.id=z)).map Gq:=by
 rw[List.find?_map];rfl
def Uj (a b:Int×GG):Prop:=a.1=b.1∧BL a.2=BL b.2
theorem SV {g:GG} {m n:GN} {b b':Bool} (h:ET m=ET n) {z:Int}:BL {BL g with nn:=b,nodes:=A8 BX GN.id m (BL g).nodes,BF:=z}=BL {g with nn:=b',nodes:=A8 BX GN.id n g.nodes,BF:=z}:=by
 unfold BL
 simp only[Ru Rw,List.map_map,h]
 rfl
theorem Xu {g:GG} {m n:GE} {b b':Bool} (h:Gq m=Gq n) {z:Int}:BL {BL g with en:=b,edges:=A8 BX GE.id m (BL g).edges,BA:=z}=BL {g with en:=b',edges:=A8 BX GE.id n g.edges,BA:=z}:=by
 unfold BL
 simp only[Ru Rx,List.map_map,h]
 rfl
theorem Adn (g:GG) (c:GC):Uj (Ba (BL g) c) (Ba g c):=by
 have e0:BL (BL g)=BL g:=YI g
 have hl:(BL g).nodes.length=g.nodes.length:=List.length_map ..
 have hx:(∃ n∈(BL g).nodes,n.id=c.id)↔∃n∈g.nodes,n.id=c.id:=ApG fun n=>Iff.rfl
 have hy:(∃ e∈(BL g).edges,e.fr=c.id∨e.to=c.id)↔∃e∈g.edges,e.fr=c.id∨e.to=c.id:=As6 (P:=fun e=>e.fr=c.id∨e.to=c.id) fun n=>Iff.rfl
 have hf:(BL g).nodes.find? (fun n=>decide (n.id=c.id))=(g.nodes.find? fun n=>decide (n.id=c.id)).map ET:=fdN
 unfold Ba
 rw[hl,hf]
 simp only[hx,hy]
 by_cases h1:c.op=1
 ·rw[if_pos h1,if_pos h1]
  by_cases h2:∃n∈g.nodes,n.id=c.id
  ·rw[if_pos h2,if_pos h2];exact⟨rfl,e0⟩
  rw[if_neg h2,if_neg h2]
  by_cases h3:g.nodes.length<2000
  ·rw[if_pos h3,if_pos h3];exact⟨rfl,by apply SV;rfl⟩
  ·rw[if_neg h3,if_neg h3];exact⟨rfl,e0⟩
 rw[if_neg h1,if_neg h1]
 cases g.nodes.find? (fun n=>decide (n.id=c.id))with
 |none=>exact⟨rfl,e0⟩
 |some n=>
  show Uj (if c.op=2 then _ else _) (if c.op=2 then _ else _)
  by_cases h2:c.op=2
  ·rw[if_pos h2,if_pos h2]
   by_cases h3:∃e∈g.edges,e.fr=c.id∨e.to=c.id
   ·rw[if_pos h3,if_pos h3];exact⟨rfl,e0⟩
   rw[if_neg h3,if_neg h3]
   refine⟨rfl,?_⟩
   unfold BL
   simp only[Ab2 Rw,List.map_map]
   rfl
  rw[if_neg h2,if_neg h2]
  by_cases h3:c.op=3
  ·rw[if_pos h3,if_pos h3]
   by_cases h4:c.name∈n.labels
   ·rw[if_pos h4,if_pos (show c.name∈(ET n).labels from h4)];exact⟨rfl,e0⟩
   rw[if_neg h4,if_neg (show c.name∉(ET n).labels from h4)]
   by_cases h5:n.labels.length<8
   ·rw[if_pos h5,if_pos (show (ET n).labels.length<8 from h5)];exact⟨rfl,by apply SV;rfl⟩
   ·rw[if_neg h5,if_neg (show ¬(ET n).labels.length<8 from h5)];exact⟨rfl,e0⟩
  rw[if_neg h3,if_neg h3]
  by_cases h6:c.op=4
  ·rw[if_pos h6,if_pos h6]
   by_cases h4:c.name∈n.labels
   ·rw[if_pos h4,if_pos (show c.name∈(ET n).labels from h4)];exact⟨rfl,by apply SV;rfl⟩
   ·rw[if_neg h4,if_neg (show c.name∉(ET n).labels from h4)];exact⟨rfl,e0⟩
  rw[if_neg h6,if_neg h6]
  by_cases h7:isNull c.v
  ·rw[if_pos h7,if_pos h7];exact⟨rfl,by apply SV;rfl⟩
  rw[if_neg h7,if_neg h7]
  by_cases h8:(∃ p∈n.props,GP.key p=c.name)∨n.props.length<16
  ·rw[if_pos h8,if_pos (show (∃ p∈(ET n).props,GP.key p=c.name)∨(ET n).props.length<16 from h8)];exact⟨rfl,by apply SV;rfl⟩
  ·rw[if_neg h8,if_neg (show ¬((∃ p∈(ET n).props,GP.key p=c.name)∨(ET n).props.length<16) from h8)];exact⟨rfl,e0⟩
theorem Ado (g:GG) (c:GC):Uj (BD (BL g) c) (BD g c):=by
 have e0:BL (BL g)=BL g:=YI g
 have hl:(BL g).edges.length=g.edges.length:=List.length_map ..
 have hx:(∃ n∈(BL g).edges,n.id=c.id)↔∃n∈g.edges,n.id=c.id:=As6 fun n=>Iff.rfl
 have hy:(∃ n∈(BL g).nodes,n.id=c.fr)↔∃n∈g.nodes,n.id=c.fr:=ApG fun n=>Iff.rfl
 have hz:(∃ n∈(BL g).nodes,n.id=c.to)↔∃n∈g.nodes,n.id=c.to:=ApG fun n=>Iff.rfl
 have hf:(BL g).edges.find? (fun n=>decide (n.id=c.id))=(g.edges.find? fun n=>decide (n.id=c.id)).map Gq:=fdE
 unfold BD
 rw[hl,hf]
 simp only[hx,hy,hz]
 by_cases h1:c.op=6
 ·rw[if_pos h1,if_pos h1]
  by_cases h2:∃n∈g.edges,n.id=c.id
  ·rw[if_pos h2,if_pos h2];exact⟨rfl,e0⟩
  rw[if_neg h2,if_neg h2]
  by_cases h4:(∃ n∈g.nodes,n.id=c.fr)∧(∃ n∈g.nodes,n.id=c.to)
  ·rw[if_pos h4,if_pos h4]
   by_cases h3:g.edges.length<4000
   ·rw[if_pos h3,if_pos h3];exact⟨rfl,by apply Xu;rfl⟩
   ·rw[if_neg h3,if_neg h3];exact⟨rfl,e0⟩
  ·rw[if_neg h4,if_neg h4];exact⟨rfl,e0⟩
 rw[if_neg h1,if_neg h1]
 cases g.edges.find? (fun n=>decide (n.id=c.id))with
 |none=>exact⟨rfl,e0⟩
 |some n=>
  show Uj (if c.op=7 then _ else _) (if c.op=7 then _ else _)
  by_cases h2:c.op=7
  ·rw[if_pos h2,if_pos h2]
   refine⟨rfl,?_⟩
   unfold BL
   simp only[Ab2 Rx,List.map_map]
   rfl
  rw[if_neg h2,if_neg h2]
  by_cases h7:isNull c.v
  ·rw[if_pos h7,if_pos h7];exact⟨rfl,by apply Xu;rfl⟩
  rw[if_neg h7,if_neg h7]
  by_cases h8:(∃ p∈n.props,GP.key p=c.name)∨n.props.length<16
  ·rw[if_pos h8,if_pos (show (∃ p∈(Gq n).props,GP.key p=c.name)∨(Gq n).props.length<16 from h8)];exact⟨rfl,by apply Xu;rfl⟩
  ·rw[if_neg h8,if_neg (show ¬((∃ p∈(Gq n).props,GP.key p=c.name)∨(Gq n).props.length<16) from h8)];exact⟨rfl,e0⟩
theorem Y9 (g:GG) (c:GC):Uj (stepG (BL g) c) (stepG g c):=by
 unfold stepG
 by_cases h:Il c≠0
 ·rw[if_pos h,if_pos h];exact⟨rfl,YI g⟩
 rw[if_neg h,if_neg h]
 by_cases h5:c.op≤5
 ·rw[if_pos h5,if_pos h5];exact Adn g c
 ·rw[if_neg h5,if_neg h5];exact Ado g c
theorem Uj.trans {a b c:Int×GG} (h:Uj a b) (k:Uj b c):Uj a c:=⟨h.1.trans k.1,h.2.trans k.2⟩
theorem Uj.symm {a b:Int×GG} (h:Uj a b):Uj b a:=⟨h.1.symm,h.2.symm⟩
theorem Ti {g h:GG} (e:BL g=BL h) (c:GC):Uj (stepG g c) (stepG h c):=by
 have h1:=(Y9 g c).symm
 rw[e]at h1
 exact h1.trans (Y9 h c)
theorem Me {n:GN} {s:List UInt8} (hl:n.labels.length<2^63):Ag (Ac tab) 125 [n.av,.str s] (· =.bool (decide (s∈n.labels))):=by
 refine Ad rfl rfl ?_
 (conv=>whnf);repeat' (first|refine kA ?_;conv=>whnf|(apply Br.mk<;>intro hc<;>first|exact hc.elim|conv=>whnf)|(refine Bo (Avq hl) (fun hc=>?_) (fun hc=>?_)<;>conv=>whnf)|refine kB ?_)
 all_goals first|exact Bh (by assumption)|exact Ar (by assumption)
theorem YB {e:GE}:Ag (Ac tab) 248 [e.av,.sl false []] (· =.bool true):=by
 refine Ad rfl rfl ?_
 (conv=>whnf);repeat' (first  |refine kA ?_;conv=>whnf|(apply Br.mk<;>intro hc<;>first|exact hc.elim|conv=>whnf)|refine kB ?_)
 all_goals rfl
def atN (id:Int) (e:GE):Prop:=e.fr=id∨e.to=id
instance (id:Int) (e:GE):Decidable (atN id e):=by unfold atN;infer_instance
theorem AoC {e:GE} {id:Int}:Ag (Ac tab) 247 [e.av,.int .i64 id,.int .i64 3] (fun v=>∃a:AJ,v=.BG [a.av,.bool (decide (atN id e))]):=by
 by_cases h:atN id e
 ·rw[decide_eq_true h]
  unfold atN at h
  refine Ad rfl rfl ?_
  (conv=>whnf);repeat' (first  |refine kA ?_;conv=>whnf|(apply Br.mk<;>intro hc<;>first|exact hc.elim|conv=>whnf)|refine kB ?_)
  all_goals first|exact⟨⟨_,_,_⟩,rfl⟩|(exfalso;omega)
 ·rw[decide_eq_false h]
  unfold atN at h
  refine Ad rfl rfl ?_
  (conv=>whnf);repeat' (first  |refine kA ?_;conv=>whnf|(apply Br.mk<;>intro hc<;>first|exact hc.elim|conv=>whnf)|refine kB ?_)
  all_goals first|exact⟨⟨_,_,_⟩,rfl⟩|(exfalso;omega)
theorem AkY {α:Type} {P:α→Prop} {l:List α} {i:Nat} (h:i<l.length):(∃ e∈l.take (i+1),P e)↔(∃ e∈l.take i,P e)∨P l[i]:=by
 rw[List.take_succ_eq_append_getElem h]
 simp only[List.mem_append,List.mem_singleton]
 constructor
 ·rintro⟨e,h|rfl,hp⟩
  ·exact .inl ⟨e,h,hp⟩
  ·exact .inr hp
 ·rintro(⟨e,h,hp⟩|hp)
  ·exact⟨e,.inl h,hp⟩
  ·exact⟨_,.inr rfl,hp⟩
theorem AoD {g:GG} (hg:g.ok) (hE:g.edges.length≤3000) {id:Int}:
 Ag (Ac tab) 189 [g.av,.int .i64 id,.sl false [],.int .i64 3] (fun v=>∃nn W,v=.sl nn (vs AJ.av W)∧W.length≤3000∧(0<W.length↔∃e∈g.edges,atN id e)):=by
 refine Ad rfl rfl ?_
 (conv=>whnf);repeat' (first  |refine kA ?_;conv=>whnf|(apply Br.mk<;>intro hc<;>first|exact hc.elim|conv=>whnf)|refine kB ?_)
 refine Af (fun m env s=>∃(i c go n:Nat) (nn:Bool) (W:List AJ),m=g.edges.length-i∧i≤g.edges.length∧n=W.length∧W.length≤i∧(0<W.length↔∃e∈g.edges.take i,atN id e)∧env=[(1,.int .i64 id),(2,.sl false []),(3,.int .i64 3),(4,.ref 0 0 0 0),(9,.own 1 go 0 n),(10,.int .i64 i)]∧s=⟨[.arr 0 4 true true [g.av],.arr go 3 nn true (vs AJ.av W)],c⟩) ?_ _ _ _ ⟨0,_,_,_,_,[],rfl,by omega,rfl,by simp,by simp,rfl,rfl⟩
 rintro _ _ _ ⟨i,c,go,n,nn,W,rfl,hi,hn,hW,hx,rfl,rfl⟩
 refine⟨rfl,?_⟩
 subst hn
 by_cases hlt:i<g.edges.length
 ·have hs:=AkY (P:=atN id) hlt
  rw[← hx]at hs
  obtain⟨_,⟨a,rfl⟩,hst⟩:=(AoC (e:=g.edges[i]) (id:=id)).IJ
  by_cases ha:atN id g.edges[i]
  ·rw[decide_eq_true ha]at hst
   (conv=>whnf);repeat' (first|((first|refine Aa hst ?_|refine Aa YB ?_);rintro _ rfl;conv=>whnf)|(refine Dt (x:=a) ZP rfl (by omega) ?_;conv=>whnf)|refine kA ?_;conv=>whnf|(apply Br.mk<;>intro hc<;>first|exact hc.elim|conv=>whnf)|refine kB ?_)
   refine Arw (len:=W.length+1) (W:=W++[a]) (x:=a) (by simp) (by omega) (by omega) ?_
   intro t W' hW' ht'
   (conv=>whnf);repeat' (first|((with_reducible show eqK _ _);refine tV ZP (x:=a) t ?_ (by omega);conv=>whnf)|refine kA ?_;conv=>whnf|(apply Br.mk<;>intro hc<;>first|exact hc.elim|conv=>whnf)|refine kB ?_)
   exact again.mk ⟨_,by omega,i+1,_,_,_,_,W'.set t a,rfl,by omega,by rw[List.length_set];omega,by rw[List.length_set];omega,by rw[hs,List.length_set,hW'];exact⟨fun _=>.inr ha,fun _=>by omega⟩,rfl,rfl⟩
  ·rw[decide_eq_false ha]at hst
   (conv=>whnf);repeat' (first|((first|refine Aa hst ?_|refine Aa YB ?_);rintro _ rfl;conv=>whnf)|(refine Dt (x:=a) ZP rfl (by omega) ?_;conv=>whnf)|refine kA ?_;conv=>whnf|(apply Br.mk<;>intro hc<;>first|exact hc.elim|conv=>whnf)|refine kB ?_)
   exact again.mk ⟨_,by omega,i+1,_,_,_,_,W,rfl,by omega,rfl,by omega,by rw[hs];exact⟨.inl,fun h=>h.elim (fun h=>h) (fun h=>absurd h ha)⟩,rfl,rfl⟩
 ·rw[List.take_of_length_le (by omega)]at hx
  (conv=>whnf);repeat' (first  |refine kA ?_;conv=>whnf|(apply Br.mk<;>intro hc<;>first|exact hc.elim|conv=>whnf)|refine kB ?_)
  exact⟨nn,W,rfl,by omega,hx⟩
theorem Arx {g:GG} (hg:g.ok) (hE:g.edges.length≤3000) {z:Int}:Ag (Ac tab) 126 [g.av,.int .i64 z] (· =.bool (decide (∃ e∈g.edges,e.fr=z∨e.to=z))):=by
 obtain⟨_,⟨nn,W,rfl,hW,hx⟩,hS⟩:=(AoD (g:=g) (id:=z) hg hE).IJ
 refine Ad rfl rfl ?_
 (conv=>whnf);repeat' (first|(refine Aa hS ?_;rintro _ rfl;conv=>whnf)|refine kA ?_;conv=>whnf|(apply Br.mk<;>intro hc<;>first|exact hc.elim|conv=>whnf)|refine kB ?_)
 all_goals first|exact Bh (hx.1 (by omega))|exact Ar (fun h=>by have:=hx.2 h;omega)|(refine Abw ?_;rw[← show _↔_ from hx];omega)
def DF (k:Int×GG) (w:AV):Prop:=∃h:GG,w=.BG [h.av,.int .i64 k.1]∧(k.1=0→BL h=BL k.2∧h.ok)∧(k.1≠0→h=EP)
theorem DF.no {e:Int} {g:GG} {k:Int×GG} (hk:k=(e,g)) (he:e≠0):DF k (.BG [EP.av,.int .i64 e]):=by
 subst hk
 exact⟨EP,rfl,fun h=>absurd h he,fun _=>rfl⟩
theorem DF.yes {g h:GG} {k:Int×GG} (hk:k=(0,g)) (he:BL h=BL g) (ho:h.ok):DF k (.BG [h.av,.int .i64 0]):=by
 subst hk
 exact⟨h,rfl,fun _=>⟨he,ho⟩,fun h=>absurd rfl h⟩
theorem AhJ {α:Type} {f:α→AV} {L:List α} {σ:List Obj} {n o g es len:Nat} {nn:Bool} (h:nth σ o=some (.arr g es nn true (vs f L))) (hl:len=L.length):snap σ (n+1) (.own o g 0 len)=some (.sl nn (vs f L)):=by
 subst hl
 simp only[snap,h]
 rw[if_pos ⟨trivial,by rw[lV];omega⟩,if_pos trivial,Ik,List.drop_zero,List.take_length]
theorem ZQ {σ:List Obj} {n:Nat} {v a:AV} {vs b:List AV} (h1:snap σ n v=some a) (h2:EW σ n vs=some b):EW σ (n+1) (v::vs)=some (a::b):=by
 rw[EW,h1,h2]
theorem AhK {σ:List Obj} {N E:Int} {a b a' b':AV} (ha:∀n,snap σ (n+1) a=some a') (hb:∀n,snap σ (n+1) b=some b') {m:Nat}:
 snap σ (m+20) (.agg [a,b,.int .i64 N,.int .i64 E])=some (.agg [a',b',.int .i64 N,.int .i64 E]):=by
 have hi:∀{k:IntKind} {z:Int} {n:Nat},snap σ (n+1) (.int k z)=some (.int k z):=by intro k z n;simp only[snap]
 have:EW σ (m+19) [a,b,.int .i64 N,.int .i64 E]=some [a',b',.int .i64 N,.int .i64 E]:=
  ZQ (n:=m+18) (ha _) (ZQ (n:=m+17) (hb _) (ZQ (n:=m+16) hi (ZQ (n:=m+15) hi (by rw[EW]))))
 show snap σ (m+19+1) _=_
 simp only[snap,this,Option.map]
structure Tf (g:GG):Prop where
 n:∀x∈g.nodes,x.id<g.BF
 e:∀x∈g.edges,x.id<g.BA
set_option maxHeartbeats 2000000 in
theorem AkZ {g:GG} {n:GN} {z fr to:Int} {nm:List UInt8} {v:GV} (hg:g.ok) (hN:g.nodes.length≤2900) (hE:g.edges.length≤2900) (ha:Ef g) (hnm:Ln nm) (hf:g.nodes.find? (fun n=>decide (n.id=z))=some n):
 Ag (Ac tab) 75 [g.av,(⟨2,z,fr,to,nm,v⟩:GC).av,n.av] (DF (Ba g ⟨2,z,fr,to,nm,v⟩)):=by
 have hn:=ha.aN n (Et hf).1
 have hlab:n.labels.length<2^63:=by have:=hn.lL;omega
 have hus:=Arx (z:=z) hg (by omega)
 have hG:Ba g ⟨2,z,fr,to,nm,v⟩=if∃e∈g.edges,e.fr=z∨e.to=z then(12,g)else(0,{g with nodes:=Cc BX GN.id z g.nodes}):=by
  unfold Ba;dsimp only;rw[if_neg (by decide),hf];rfl
 rw[hG]
 by_cases hu:∃e∈g.edges,e.fr=z∨e.to=z
 ·rw[decide_eq_true hu]at hus
  rw[if_pos hu]
  refine Ad rfl rfl ?_
  (conv=>whnf);repeat' (first|(refine Bo (Me (n:=n) (s:=nm) hlab) (fun hc=>?_) (fun hc=>?_)<;>conv=>whnf)|(refine Aa hus ?_;rintro _ rfl;conv=>whnf)|refine kA ?_;conv=>whnf|(apply Br.mk<;>intro hc<;>first|exact hc.elim|conv=>whnf)|refine kB ?_)
  all_goals exact DF.no rfl (by decide)
 ·rw[decide_eq_false hu]at hus
  rw[if_neg hu,OL Ak ha.iN]
  refine Ad rfl rfl ?_
  (conv=>whnf);repeat' (first|(refine Bo (Me (n:=n) (s:=nm) hlab) (fun hc=>?_) (fun hc=>?_)<;>conv=>whnf)|(refine Aa hus ?_;rintro _ rfl;conv=>whnf)|refine kA ?_;conv=>whnf|(apply Br.mk<;>intro hc<;>first|exact hc.elim|conv=>whnf)|refine kB ?_)
  all_goals
   refine Af (fun m env s=>∃(i c' go k:Nat) (f:Bool) (l:List GN),m=g.nodes.length-i∧i≤g.nodes.length∧k=l.length∧l.length≤i∧(f=false→l=[])∧l=(g.nodes.take i).filter (fun a=>decide (GN.id a≠z))∧env=[(3,.ref 0 0 0 0),(4,.ref 1 1 0 0),(6,.ref 3 3 0 0),(9,.own 4 go 0 k),(10,.int .i64 i)]∧s=⟨[.arr 0 4 true true [g.av],.arr 1 10 true true [(⟨2,z,fr,to,nm,v⟩:GC).av],.arr 2 3 true true [n.av],.arr 3 4 true true [.agg [.sl false [],.sl false [],.int .i64 0,.int .i64 0]],.arr go 3 f true (vs GN.av l)],c'⟩) ?_ _ _ _ ⟨0,_,_,0,_,[],rfl,by omega,rfl,by simp,fun _=>rfl,by simp,rfl,rfl⟩
   rintro _ _ _ ⟨i,c',go,k,f,l,rfl,hi,hk,hl,hff,hx,rfl,rfl⟩
   refine⟨rfl,?_⟩
   subst hk
   by_cases hlt:i<g.nodes.length
   ·have hs:=List.take_succ_eq_append_getElem hlt
    (conv=>whnf);repeat' (first|(refine Dt (x:=g.nodes[i]) Xe rfl (by omega) ?_;conv=>whnf)|refine kA ?_;conv=>whnf|(apply Br.mk<;>intro hc<;>first|exact hc.elim|conv=>whnf)|refine kB ?_)
    all_goals first
     |exact again.mk ⟨_,by omega,i+1,_,_,_,_,l++[g.nodes[i]],rfl,by omega,by simp,by simp;omega,fun h=>Bool.noConfusion h,by rw[hs,List.filter_append,←hx,List.filter_cons_of_pos (by simp;omega),List.filter_nil],rfl,rfl⟩
     |exact again.mk ⟨_,by omega,i+1,_,_,_,_,l,rfl,by omega,rfl,by omega,hff,by rw[hs,List.filter_append,←hx,List.filter_cons_of_neg (by simp;omega),List.filter_nil,List.append_nil],rfl,rfl⟩
   ·rw[show i=g.nodes.length by omega,List.take_length]at hx
    (conv=>whnf);repeat' (first  |refine kA ?_;conv=>whnf|(apply Br.mk<;>intro hc<;>first|exact hc.elim|conv=>whnf)|refine kB ?_)
    refine Ae (x:=GG.av ⟨f,l,g.en,g.edges,g.BF,g.BA⟩) ?_ ?_
    ·exact AhK (m:=999978) (a:=.own 4 go 0 l.length) (b:=.sl g.en (vs GE.av g.edges)) (N:=g.BF) (E:=g.BA) (fun _=>AhJ rfl rfl) (fun _=>rfl)
    (conv=>whnf);repeat' (first  |refine kA ?_;conv=>whnf|(apply Br.mk<;>intro hc<;>first|exact hc.elim|conv=>whnf)|refine kB ?_)
    subst hx
    exact DF.yes (h:=⟨f,_,g.en,g.edges,g.BF,g.BA⟩) rfl rfl ⟨by unfold Ln;dsimp only;omega,hff,fun x hx=>hg.2.2.1 x ((List.mem_filter.1 hx).1),hg.2.2.2⟩
theorem AdT {α κ:Type} {lt:κ→κ→Bool} {key:α→κ} (hs:Ov lt) {k:κ}:∀{l:List α},(∀ y∈l,key y≠k)→(below lt key k l).length+(above lt key k l).length=l.length
 |[],_=>by simp[below,above]
 |a::l,h=>by
  have ih:=AdT hs (k:=k) (l:=l) fun y hy=>h y (by simp[hy])
  have hk:=h a (by simp)
  unfold below above at ih ⊢
  cases h1:lt (key a) k<;>cases h2:lt k (key a)
  ·exact absurd (hs.tot _ _ h1 h2) hk
  ·rw[List.filter_cons_of_neg (by simp[h1]),List.filter_cons_of_pos (by simp[h2])];simp;omega
  ·rw[List.filter_cons_of_pos (by simp[h1]),List.filter_cons_of_neg (by simp[h2])];simp;omega
  ·have:=hs.tr _ _ _ h1 h2;rw[hs.Oc]at this;cases this
theorem AmG {key:List UInt8} {v:GV} {P:List GP} (hl:P.length≤16):(A8 Op.bytesLess GP.key ⟨key,v⟩ P).length≤16↔(∃ p∈P,GP.key p=key)∨P.length<16:=by
 constructor
 ·intro h
  by_cases hx:∃p∈P,GP.key p=key
  ·exact .inl hx
  ·have:=AdT (key:=GP.key) (k:=key) Ai (l:=P) fun y hy e=>hx ⟨y,hy,e⟩
   simp only[A8,List.length_append,List.length_singleton]at h
   omega
 ·rintro(hx|hx)
  ·exact Nat.le_trans (Io Ai hx) hl
  ·exact Nat.le_trans (EC Ai) (by omega)
theorem Vj {g:GG} {k:Int×GG} {m m':GN} (hg:g.ok) (hN:g.nodes.length≤2900) (hx:Tf g) (hm:∃n∈g.nodes,n.id=m.id) (ho:m.ok) (hk:k=(0,{g with nodes:=A8 BX GN.id m' g.nodes})) (e:ET m=ET m'):
 DF k (.BG [GG.av ⟨true,A8 BX GN.id m g.nodes,g.en,g.edges,(if m.id+1>g.BF then m.id+1 else g.BF),g.BA⟩,.int .i64 0]):=by
 obtain⟨n,hn,en⟩:=hm
 have h1:¬m.id+1>g.BF:=by have:=hx.n n hn;omega
 rw[if_neg h1]
 refine DF.yes hk ?_ (Vk hg ho (OE Ak (by omega)) (fun x hx=>Bq Ak hx) hg.2.2.2.2.2.2.1)
 unfold BL
 simp only[Ru Rw,e]
theorem Aa8 {g:GG} {k:Int×GG} {m m':GE} (hg:g.ok) (hN:g.edges.length≤2900) (hx:Tf g) (hm:∃n∈g.edges,n.id=m.id) (ho:m.ok) (hk:k=(0,{g with edges:=A8 BX GE.id m' g.edges})) (e:Gq m=Gq m'):
 DF k (.BG [GG.av ⟨g.nn,g.nodes,true,A8 BX GE.id m g.edges,g.BF,(if m.id+1>g.BA then m.id+1 else g.BA)⟩,.int .i64 0]):=by
 obtain⟨n,hn,en⟩:=hm
 have h1:¬m.id+1>g.BA:=by have:=hx.e n hn;omega
 rw[if_neg h1]
 refine DF.yes hk ?_ (Vl hg ho (OE Ak (by omega)) (fun x hx=>Bq Ak hx) hg.2.2.2.2.2.2.2)
 unfold BL
 simp only[Ru Rx,e]
section
variable {g:GG} {n:GN} {z fr to:Int} {nm:List UInt8} {v:GV}
set_option maxHeartbeats 2000000 in
theorem Aky (hg:g.ok) (hN:g.nodes.length≤2900) (ha:Ef g) (hx:Tf g) (hz:Jw z) (hnm:Ln nm) (hf:g.nodes.find? (fun n=>decide (n.id=z))=some n):
 Ag (Ac tab) 75 [g.av,(⟨3,z,fr,to,nm,v⟩:GC).av,n.av] (DF (Ba g ⟨3,z,fr,to,nm,v⟩)):=by
 obtain⟨hm,hid⟩:=Et hf
 have hid:=of_decide_eq_true hid
 have hn:=ha.aN n hm
 have hno:=hg.2.2.1 n hm
 have hlb:=Me (n:=n) (s:=nm) (by have:=hn.lL;omega)
 have hG:Ba g ⟨3,z,fr,to,nm,v⟩=if nm∈n.labels then(7,g)else if n.labels.length<8 then(0,{g with nodes:=A8 BX GN.id {n with ln:=true,labels:=A8 Op.bytesLess id nm n.labels} g.nodes})else(20,g):=by
  unfold Ba;dsimp only;rw[if_neg (by decide),hf];rfl
 rw[hG]
 have hz1:1≤n.id∧n.id≤1000000:=by unfold Jw at hz;omega
 by_cases hc1:nm∈n.labels
 ·rw[if_pos hc1]
  rw[decide_eq_true hc1]at hlb
  refine Ad rfl rfl ?_
  show vC _ _ [(0,g.av),(1,.agg [.int .i64 3,.int .i64 z,.int .i64 fr,.int .i64 to,.str nm,.int .i64 v.k,.int .i64 v.n,.int .i64 v.d,.str v.s,.sl v.nn v.l]),(2,n.av)] _ _
  (conv=>whnf);repeat' (first|(refine Aa hlb ?_;rintro _ rfl;conv=>whnf)|refine kA ?_;conv=>whnf|(apply Br.mk<;>intro hc<;>first|exact hc.elim|conv=>whnf)|refine kB ?_)
  all_goals exact DF.no rfl (by decide)
 rw[if_neg hc1]
 rw[decide_eq_false hc1]at hlb
 have hp:=Akz (l:=n.labels) (nn:=n.ln) (x:=nm) (by have:=hn.lL;omega) hn.iL hc1
 have hpn:=Aa9 (g:=g) (n:=⟨n.id,true,A8 Op.bytesLess id nm n.labels,n.pn,n.props⟩) hg (by omega) ha.iN hz1.1 hz1.2
 by_cases h5:n.labels.length<8
 ·rw[if_pos h5]
  refine Ad rfl rfl ?_
  show vC _ _ [(0,g.av),(1,.agg [.int .i64 3,.int .i64 z,.int .i64 fr,.int .i64 to,.str nm,.int .i64 v.k,.int .i64 v.n,.int .i64 v.d,.str v.s,.sl v.nn v.l]),(2,n.av)] _ _
  (conv=>whnf);repeat' (first|((first|refine Aa hlb ?_|refine Aa hp ?_|refine Aa hpn ?_);rintro _ rfl;conv=>whnf)|refine kA ?_;conv=>whnf|(apply Br.mk<;>intro hc<;>first|exact hc.elim|conv=>whnf)|refine kB ?_)
  all_goals first
   |(exfalso;omega)
   |exact Vj (m:=⟨n.id,true,A8 Op.bytesLess id nm n.labels,n.pn,n.props⟩) hg hN hx ⟨n,hm,rfl⟩ (Zy hno hnm (PG (by omega)) (fun h=>Bool.noConfusion h) (fun y hy=>Bq Ai hy)) rfl rfl
 ·rw[if_neg h5]
  refine Ad rfl rfl ?_
  show vC _ _ [(0,g.av),(1,.agg [.int .i64 3,.int .i64 z,.int .i64 fr,.int .i64 to,.str nm,.int .i64 v.k,.int .i64 v.n,.int .i64 v.d,.str v.s,.sl v.nn v.l]),(2,n.av)] _ _
  (conv=>whnf);repeat' (first|(refine Aa hlb ?_;rintro _ rfl;conv=>whnf)|refine kA ?_;conv=>whnf|(apply Br.mk<;>intro hc<;>first|exact hc.elim|conv=>whnf)|refine kB ?_)
  all_goals first
   |(exfalso;omega)
   |exact DF.no rfl (by decide)
set_option maxHeartbeats 2000000 in
theorem AkA (hg:g.ok) (hN:g.nodes.length≤2900) (ha:Ef g) (hx:Tf g) (hz:Jw z) (hnm:Ln nm) (hf:g.nodes.find? (fun n=>decide (n.id=z))=some n):
 Ag (Ac tab) 75 [g.av,(⟨4,z,fr,to,nm,v⟩:GC).av,n.av] (DF (Ba g ⟨4,z,fr,to,nm,v⟩)):=by
 obtain⟨hm,hid⟩:=Et hf
 have hid:=of_decide_eq_true hid
 have hn:=ha.aN n hm
 have hno:=hg.2.2.1 n hm
 have hlb:=Me (n:=n) (s:=nm) (by have:=hn.lL;omega)
 have hG:Ba g ⟨4,z,fr,to,nm,v⟩=if nm∈n.labels then(0,{g with nodes:=A8 BX GN.id {n with ln:=true,labels:=Cc Op.bytesLess id nm n.labels} g.nodes})else(23,g):=by
  unfold Ba;dsimp only;rw[if_neg (by decide),hf];rfl
 rw[hG]
 have hz1:1≤n.id∧n.id≤1000000:=by unfold Jw at hz;omega
 by_cases hc1:nm∈n.labels
 ·rw[if_pos hc1]
  rw[decide_eq_true hc1]at hlb
  have hlL:=hn.lL
  obtain⟨_,⟨b,hb,rfl⟩,hw⟩:=(Ag2 (l:=n.labels) (nn:=n.ln) (x:=nm) (by omega) hn.iL).IJ
  have hpn:=Aa9 (g:=g) (n:=⟨n.id,b,Cc Op.bytesLess id nm n.labels,n.pn,n.props⟩) hg (by omega) ha.iN hz1.1 hz1.2
  refine Ad rfl rfl ?_
  show vC _ _ [(0,g.av),(1,.agg [.int .i64 4,.int .i64 z,.int .i64 fr,.int .i64 to,.str nm,.int .i64 v.k,.int .i64 v.n,.int .i64 v.d,.str v.s,.sl v.nn v.l]),(2,n.av)] _ _
  (conv=>whnf);repeat' (first|((first|refine Aa hlb ?_|refine Aa hw ?_|refine Aa hpn ?_);rintro _ rfl;conv=>whnf)|refine kA ?_;conv=>whnf|(apply Br.mk<;>intro hc<;>first|exact hc.elim|conv=>whnf)|refine kB ?_)
  all_goals first
   |exact Vj (m:=⟨n.id,b,Cc Op.bytesLess id nm n.labels,n.pn,n.props⟩) hg hN hx ⟨n,hm,rfl⟩ (Zy hno hnm (PI (by omega)) hb (fun y hy=>.inr (Ce hy))) rfl rfl
 ·rw[if_neg hc1]
  rw[decide_eq_false hc1]at hlb
  refine Ad rfl rfl ?_
  show vC _ _ [(0,g.av),(1,.agg [.int .i64 4,.int .i64 z,.int .i64 fr,.int .i64 to,.str nm,.int .i64 v.k,.int .i64 v.n,.int .i64 v.d,.str v.s,.sl v.nn v.l]),(2,n.av)] _ _
  (conv=>whnf);repeat' (first|(refine Aa hlb ?_;rintro _ rfl;conv=>whnf)|refine kA ?_;conv=>whnf|(apply Br.mk<;>intro hc<;>first|exact hc.elim|conv=>whnf)|refine kB ?_)
  all_goals exact DF.no rfl (by decide)
set_option maxHeartbeats 2000000 in
theorem AkB (hg:g.ok) (hN:g.nodes.length≤2900) (ha:Ef g) (hx:Tf g) (hz:Jw z) (hnm:Ln nm) (hv:v.ok) (hf:g.nodes.find? (fun n=>decide (n.id=z))=some n):
 Ag (Ac tab) 75 [g.av,(⟨5,z,fr,to,nm,v⟩:GC).av,n.av] (DF (Ba g ⟨5,z,fr,to,nm,v⟩)):=by
 obtain⟨hm,hid⟩:=Et hf
 have hid:=of_decide_eq_true hid
 have hn:=ha.aN n hm
 have hno:=hg.2.2.1 n hm
 obtain⟨_,⟨bl,rfl⟩,hlb⟩:=(Ag.mono (R':=fun w=>∃b,w=.bool b) (Me (n:=n) (s:=nm) (by have:=hn.lL;omega)) (fun w h=>⟨_,h⟩)).IJ
 have hlP:=hn.lP
 have hG:Ba g ⟨5,z,fr,to,nm,v⟩=if isNull v then(0,{g with nodes:=A8 BX GN.id {n with props:=Cc Op.bytesLess GP.key nm n.props} g.nodes})else if(∃ p∈n.props,GP.key p=nm)∨n.props.length<16 then(0,{g with nodes:=A8 BX GN.id {n with pn:=true,props:=A8 Op.bytesLess GP.key ⟨nm,v⟩ n.props} g.nodes})else(20,g):=by
  unfold Ba;dsimp only;rw[if_neg (by decide),hf];rfl
 rw[hG]
 have hz1:1≤n.id∧n.id≤1000000:=by unfold Jw at hz;omega
 by_cases hc1:isNull v
 ·rw[if_pos hc1]
  obtain⟨_,⟨b,hb,rfl⟩,hw⟩:=(Aba (P:=n.props) (nn:=n.pn) (key:=nm) (by omega) hn.iP hv hc1).IJ
  have hle:(Cc Op.bytesLess GP.key nm n.props).length≤16:=Nat.le_trans (Dz Ai) hlP
  rw[decide_eq_true hle]at hw
  have hpn:=Aa9 (g:=g) (n:=⟨n.id,n.ln,n.labels,b,Cc Op.bytesLess GP.key nm n.props⟩) hg (by omega) ha.iN hz1.1 hz1.2
  refine Ad rfl rfl ?_
  show vC _ _ [(0,g.av),(1,.agg [.int .i64 5,.int .i64 z,.int .i64 fr,.int .i64 to,.str nm,.int .i64 v.k,.int .i64 v.n,.int .i64 v.d,.str v.s,.sl v.nn v.l]),(2,n.av)] _ _
  (conv=>whnf);repeat' (first|((first|refine Aa hlb ?_|refine Aa hw ?_|refine Aa hpn ?_);rintro _ rfl;conv=>whnf)|refine kA ?_;conv=>whnf|(apply Br.mk<;>intro hc<;>first|exact hc.elim|conv=>whnf)|refine kB ?_)
  all_goals first
   |exact Vj (m:=⟨n.id,n.ln,n.labels,b,Cc Op.bytesLess GP.key nm n.props⟩) hg hN hx ⟨n,hm,rfl⟩ (Zz (x:=⟨nm,v⟩) hno ⟨hnm,hv⟩ (PI (by omega)) hb (fun y hy=>.inr (Ce hy))) rfl rfl
 ·rw[if_neg hc1]
  have hw:=Abb (P:=n.props) (nn:=n.pn) (key:=nm) (by omega) hn.iP hv hc1
  have h16:=AmG (key:=nm) (v:=v) hlP
  by_cases h5:(∃ p∈n.props,GP.key p=nm)∨n.props.length<16
  ·rw[if_pos h5]
   rw[decide_eq_true (h16.2 h5)]at hw
   have hpn:=Aa9 (g:=g) (n:=⟨n.id,n.ln,n.labels,true,A8 Op.bytesLess GP.key ⟨nm,v⟩ n.props⟩) hg (by omega) ha.iN hz1.1 hz1.2
   refine Ad rfl rfl ?_
   show vC _ _ [(0,g.av),(1,.agg [.int .i64 5,.int .i64 z,.int .i64 fr,.int .i64 to,.str nm,.int .i64 v.k,.int .i64 v.n,.int .i64 v.d,.str v.s,.sl v.nn v.l]),(2,n.av)] _ _
   (conv=>whnf);repeat' (first|((first|refine Aa hlb ?_|refine Aa hw ?_|refine Aa hpn ?_);rintro _ rfl;conv=>whnf)|refine kA ?_;conv=>whnf|(apply Br.mk<;>intro hc<;>first|exact hc.elim|conv=>whnf)|refine kB ?_)
   all_goals first
     |exact Vj (m:=⟨n.id,n.ln,n.labels,true,A8 Op.bytesLess GP.key ⟨nm,v⟩ n.props⟩) hg hN hx ⟨n,hm,rfl⟩ (Zz (x:=⟨nm,v⟩) hno ⟨hnm,hv⟩ (PG (by omega)) (fun h=>Bool.noConfusion h) (fun y hy=>Bq Ai hy)) rfl rfl
  ·rw[if_neg h5]
   rw[decide_eq_false (fun h=>h5 (h16.1 h))]at hw
   refine Ad rfl rfl ?_
   show vC _ _ [(0,g.av),(1,.agg [.int .i64 5,.int .i64 z,.int .i64 fr,.int .i64 to,.str nm,.int .i64 v.k,.int .i64 v.n,.int .i64 v.d,.str v.s,.sl v.nn v.l]),(2,n.av)] _ _
   (conv=>whnf);repeat' (first|((first|refine Aa hlb ?_|refine Aa hw ?_);rintro _ rfl;conv=>whnf)|refine kA ?_;conv=>whnf|(apply Br.mk<;>intro hc<;>first|exact hc.elim|conv=>whnf)|refine kB ?_)
   all_goals first
     |exact DF.no rfl (by decide)
end
theorem Aaw {x y:GE} {L:List GE} (h:x.id<y.id):A8 BX GE.id x (L++[y])=A8 BX GE.id x L++[y]:=Pq Ak (by simpa[BX]using h)
theorem Aax {x:GE} {L:List GE} (h:∀y∈L,y.id<x.id):A8 BX GE.id x L=L++[x]:=LW Ak fun y hy=>by simpa[BX]using h y hy
theorem Aj0 {x y:GE} {L:List GE} (h:∀y∈L,y.id<x.id) (e:y.id=x.id):A8 BX GE.id x (L++[y])=L++[x]:=Tj Ak (fun y hy=>by simpa[BX]using h y hy) e
set_option maxHeartbeats 1000000 in
theorem Ags {g:GG} {n:GE} (hg:g.ok) (hN:g.edges.length≤3000) (hI:Inc BX GE.id g.edges) (hi1:1≤n.id) (hi2:n.id≤1000000):Ag (Ac tab) 73 [g.av,n.av] (· =GG.av ⟨g.nn,g.nodes,true,A8 BX GE.id n g.edges,g.BF,(if n.id+1>g.BA then n.id+1 else g.BA)⟩):=by
 obtain⟨g1,g2,g3,g4,g5,g6,g7,g8⟩:=hg
 unfold I64 at g8
 refine Ad rfl rfl ?_
 (conv=>whnf);repeat' (first  |refine kA ?_;conv=>whnf|(apply Br.mk<;>intro hc<;>first|exact hc.elim|conv=>whnf)|refine kB ?_)
 refine Af (fun m env s=>∃(i c go k:Nat) (b d:Bool) (l:List GE),m=g.edges.length-i∧i≤g.edges.length∧k=l.length∧l.length≤i+1∧(b=false→d=false)∧(d=false→l=g.edges.take i∧∀y∈g.edges.take i,y.id<n.id)∧(d=true→l=A8 BX GE.id n (g.edges.take i)∧∀y∈g.edges.drop i,n.id<y.id)∧env=[(2,.ref 0 0 0 0),(3,.ref 1 1 0 0),(4,.ref 2 2 0 0),(5,.own 3 go 0 k),(6,.bool d),(7,.int .i64 i)]∧
  s=⟨[.arr 0 4 true true [g.av],.arr 1 5 true true [n.av],.arr 2 4 true true [.agg [.sl false [],.sl false [],.int .i64 0,.int .i64 0]],.arr go 5 b true (vs GE.av l)],c⟩) ?_ _ _ _ ⟨0,_,_,0,_,_,[],rfl,by omega,rfl,by simp,fun _=>rfl,fun _=>⟨rfl,by simp⟩,fun h=>Bool.noConfusion h,rfl,rfl⟩
 rintro _ _ _ ⟨i,c,go,k,b,d,l,rfl,hi,hk,hl,hb,hd,ht,rfl,rfl⟩
 refine⟨rfl,?_⟩
 subst hk
 by_cases hlt:i<g.edges.length
 ·have hda:∀x:Int,x≤(g.edges[i]).id→∀y∈g.edges.drop (i+1),x<y.id:=fun x hx=>VQ hI hlt hx
  have hs:=List.take_succ_eq_append_getElem hlt
  have htk:∀{P:GE→Prop},(∀ y∈g.edges.take i,P y)→P g.edges[i]→∀y∈g.edges.take (i+1),P y:=fun{P} h1 h2 y hy=>by
   rw[hs]at hy
   rcases List.mem_append.1 hy with hy|hy
   ·exact h1 y hy
   ·obtain rfl:=List.mem_singleton.1 hy;exact h2
  cases d
  ·obtain⟨rfl,hlo⟩:=hd rfl
   have hle:(g.edges.take i).length≤i:=by rw[List.length_take];omega
   (conv=>whnf);repeat' (first|(refine Dt (x:=n) cellsE (by simp) (by simp;omega) ?_;conv=>whnf)|(refine Dt (x:=g.edges[i]) cellsE (by simp) (by simp;omega) ?_;conv=>whnf)|refine kA ?_;conv=>whnf|(apply Br.mk<;>intro hc<;>first|exact hc.elim|conv=>whnf)|refine kB ?_)
   all_goals first
        |exact again.mk ⟨_,by omega,i+1,_,_,_,_,_,g.edges.take i++[n]++[g.edges[i]],rfl,by omega,by simp,by simp;omega,fun h=>Bool.noConfusion h,fun h=>Bool.noConfusion h,fun _=>⟨by rw[hs,Aaw (by omega),Aax hlo],hda _ (by omega)⟩,rfl,rfl⟩
        |exact again.mk ⟨_,by omega,i+1,_,_,_,_,_,g.edges.take i++[n],rfl,by omega,by simp,by simp;omega,fun h=>Bool.noConfusion h,fun h=>Bool.noConfusion h,fun _=>⟨by rw[hs,Aj0 hlo (by omega)],hda _ (by omega)⟩,rfl,rfl⟩
        |exact again.mk ⟨_,by omega,i+1,_,_,_,_,_,g.edges.take i++[g.edges[i]],rfl,by omega,by rw[List.length_append,List.length_singleton],by rw[List.length_append,List.length_singleton];omega,fun _=>rfl,fun _=>⟨hs.symm,htk hlo (by omega)⟩,fun h=>Bool.noConfusion h,rfl,rfl⟩
        |(exfalso;omega)
  ·obtain⟨rfl,hhi⟩:=ht rfl
   have hgt:n.id<(g.edges[i]).id:=hhi _ (by rw[List.drop_eq_getElem_cons hlt];exact List.mem_cons_self)
   (conv=>whnf);repeat' (first|(refine Dt (x:=g.edges[i]) cellsE (by simp) (by simp;omega) ?_;conv=>whnf)|refine kA ?_;conv=>whnf|(apply Br.mk<;>intro hc<;>first|exact hc.elim|conv=>whnf)|refine kB ?_)
   all_goals first
        |exact again.mk ⟨_,by omega,i+1,_,_,_,_,_,A8 BX GE.id n (g.edges.take i)++[g.edges[i]],rfl,by omega,by simp,by simp;omega,fun h=>Bool.noConfusion h,fun h=>Bool.noConfusion h,fun _=>⟨by rw[hs,Aaw hgt],hda _ (by omega)⟩,rfl,rfl⟩
        |(exfalso;omega)
 ·obtain rfl:i=g.edges.length:=by omega
  rw[List.take_length]at hd ht
  cases d
  ·obtain⟨rfl,hlo⟩:=hd rfl
   rw[Aax hlo]
   (conv=>whnf);repeat' (first|(refine Dt (x:=n) cellsE (by simp) (by simp;omega) ?_;conv=>whnf)|refine kA ?_;conv=>whnf|(apply Br.mk<;>intro hc<;>first|exact hc.elim|conv=>whnf)|refine kB ?_)
   all_goals first|rfl|(exfalso;omega)
  ·obtain⟨rfl,_⟩:=ht rfl
   cases b
   ·exact absurd (hb rfl) Bool.noConfusion
   (conv=>whnf);repeat' (first  |refine kA ?_;conv=>whnf|(apply Br.mk<;>intro hc<;>first|exact hc.elim|conv=>whnf)|refine kB ?_)
   all_goals first|rfl|(exfalso;omega)
end AI
end Go.Proofs.YthnehejdkajjhaaGreatDoor
