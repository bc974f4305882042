/- Looking up a key in properties: slices.BinarySearchFunc, on memory that stays. Looking up a key in strings: slices.BinarySearch, on memory that stays. Walks through what an editor calls: must, node, edge. Setting a property of a node or an edge that an editor edits. change.Check. What becomes of an edited graph when its store changes. An editor's change of a node. An editor's change of a node: labels. An editor's change of a node: labels taken away, properties set. An editor's change of an edge: looking it up; taking one away. An editor's change of an edge: a property set. An editor's change of an edge: one more. An editor's change of a node: taken away. An editor's change of a node: taken away. What a change makes of a graph; an editor's functions make just that. A step keeps what an editor asks. Walks through a function that defers a recovering closure. A step of an editor. Cloned lists as a caller's own. A graph copied, for an editor. A graph copied, for an editor: the whole. change.ApplyAll, its loop. A checked graph is one that an editor may edit; change.ApplyAll. Changes in a row; the changes of one node by a script: plain. What a check finds, said in one; a step keeps graphs valid: plain. A step keeps graphs in good form; their lengths: plain. The reference's Steps answers. One more at the end of a list that is put into: what a reference's loop does, step by step. The reference puts nodes into a graph, exactly. The reference: lists of labels with one more, one less. The reference's null, lists of properties and labels. The reference sets a property, exactly. Taking out, at the end of a list. The reference takes a property away (set to null), exactly. The reference: lists of labels with one more, one less, exactly. Graphs up to the difference between no list and an empty one; a step does not see it. The reference's HasLabel. The reference: whether a node is used; a change of a node, exactly. The reference: changes of a node's labels and properties, exactly. The reference puts edges into a graph, exactly. The reference's Check of a change. The reference: a change of an edge, a step, exactly. change.Apply. The reference's Apply and ApplyAll are the program's, but for flags. -/
import Derived.Test.YtchcadfjbkkgmaaGreatDoorEMaj
import Derived.Test.YtchcadfjbkkgmaaGreatDoorEMaf
import Derived.Test.YtchcadfjbkkgmaaGreatDoorEMae
import Derived.Test.YtchcadfjbkkgmaaGreatDoorEMan
import Derived.Test.YtchcadfjbkkgmaaGreatDoorEMag
import Derived.Test.YtchcadfjbkkgmaaGreatDoorEVa
set_option linter.unusedVariables false
set_option maxRecDepth 4000
namespace Go.Proofs.YtchcadfjbkkgmaaGreatDoor
namespace AI
theorem Ez:Xt Op.bytesLess where
 irr:=fun x=>by rw[Rn];simp
 tr:=fun x y z h1 h2=>by rw[Rn]at *;simp only[decide_eq_true_eq]at *;exact List.lt_trans h1 h2
 tot:=fun x y h1 h2=>AhX h1 h2
theorem AhR {g:GG} {x:Int} (hl:g.nodes.length<2^62) (hi:Inc H7 GN.id g.nodes):Ah (Ac tab) 167 [.CB g.av.cells,.int .i64 x] (fun v=>∃(i:Nat) (b:Bool),v=.CP [.int .i64 i,.bool b]∧AtK H7 GN.id x g.nodes i∧(b=true↔∃y∈g.nodes,GN.id y=x)):=by
 refine Ae rfl rfl ?_
 (conv=>whnf);repeat' (first|(refine Aa (bsN hl hi) ?_;rintro _ ⟨i,b,rfl,h1,h2⟩;conv=>whnf)|(refine kA ?_;conv=>whnf)|(refine Br.mk (fun hc=>?_) fun hc=>?_<;>first|exact hc.elim|conv=>whnf)|(refine kB ?_))
 all_goals exact⟨i,_,rfl,h1,by rw[hc]at h2;exact h2⟩
structure Fr (σ σ':List Obj) (F:List Nat):Prop where
 len:σ.length≤σ'.length
 eq:∀o,o<σ.length→o∉F→nth σ' o=nth σ o
theorem Fr.refl {σ:List Obj} {F:List Nat}:Fr σ σ F:=⟨Nat.le_refl _,fun _ _ _=>rfl⟩
theorem Fr.trans {σ σ1 σ2:List Obj} {F:List Nat} (h:Fr σ σ1 F) (k:Fr σ1 σ2 F):Fr σ σ2 F:=
 ⟨Nat.le_trans h.len k.len,fun o ho hf=>(k.eq o (Nat.lt_of_lt_of_le ho h.len) hf).trans (h.eq o ho hf)⟩
theorem Fr.mono {σ σ':List Obj} {F F':List Nat} (h:Fr σ σ' F) (hf:∀o∈F,o∈F'∨σ.length≤o):Fr σ σ' F':=
 ⟨h.len,fun o ho hn=>h.eq o ho fun hm=>(hf o hm).elim hn fun h=>by omega⟩
theorem Fr.get {σ σ':List Obj} {F:List Nat} {o:Nat} {x:Obj} (h:Fr σ σ' F) (hx:nth σ o=some x) (hf:o∉F):nth σ' o=some x:=(h.eq o (BR hx) hf).trans hx
def nmd (op:Int):Prop:=op=3∨op=4∨op=5∨op=6∨op=8
instance (op:Int):Decidable (nmd op):=by unfold nmd;infer_instance
def vlu (op:Int):Prop:=op=5∨op=8
instance (op:Int):Decidable (vlu op):=by unfold vlu;infer_instance
def idG (z:Int):Prop:=1≤z∧z≤1000000
instance (z:Int):Decidable (idG z):=by unfold idG;infer_instance
def AfE (c:GC):Prop:=¬(1≤c.op∧c.op≤8)∨¬idG c.id∨(¬ nmd c.op∧c.name≠[])∨(¬ vlu c.op∧¬isNull c.v)∨(c.op=6∧(¬ idG c.fr∨¬idG c.to))∨(c.op≠6∧(c.fr≠0∨c.to≠0))
instance (c:GC):Decidable (AfE c):=by unfold AfE;infer_instance
def ckC (c:GC):Int:=if AfE c then 1 else if nmd c.op∧¬isName c.name then 6 else if vlu c.op∧¬isNull c.v∧¬Ey c.v then 8 else 0
theorem Alo {c:GC} (h:ckC c=0):(1≤c.op∧c.op≤8)∧idG c.id∧(nmd c.op→isName c.name)∧(c.op=6→idG c.fr∧idG c.to)∧(vlu c.op→isNull c.v∨Ey c.v):=by
 unfold ckC at h
 split at h
 ·cases h
 rename_i h1
 split at h
 ·cases h
 rename_i h2
 split at h
 ·cases h
 rename_i h3
 simp only[AfE,not_or,Classical.not_not,not_and]at h1 h2 h3
 refine⟨by omega,h1.2.1,fun hn=>h2 hn,fun h6=>?_,fun hv=>?_⟩
 ·have:=h1.2.2.2.2.1 h6;exact this
 ·by_cases hn:isNull c.v
  ·exact .inl hn
  ·exact .inr (h3 hv hn)
theorem Hd.diff {α:Type} {f:α→AV} {es:Nat} {σ:List Obj} {v:AV} {b c:Bool} {l:List α} (h:Hd f es σ v b l c) {o g es':Nat} {c':Bool} {xs:List AV} (ho:nth σ o=some (.arr g es' true c' xs)) (hne:es'≠es):o∉v.obj:=by
 intro hm
 obtain⟨g1,e1,nn,c1,x1,h1,h2⟩:=h.obj hm
 rw[ho]at h1
 simp only[Option.some.injEq,Obj.arr.injEq]at h1
 obtain⟨_,rfl,rfl,_,_⟩:=h1
 exact hne (h2 rfl)
theorem Hd.nodup {α:Type} {f:α→AV} {es:Nat} {σ:List Obj} {v:AV} {b c:Bool} {l:List α} (h:Hd f es σ v b l c):v.obj.Nodup:=by
 rcases h with⟨_,_,rfl|⟨o',g,es',rfl,h⟩⟩|⟨_,o',g,rfl,h⟩<;>simp[AV.obj]
theorem EN.Ok.lt {σ:List Obj} {e:EN} (h:e.Ok σ):∀o∈e.objs,o<σ.length:=fun o ho=>by
 rcases List.mem_append.1 ho with ho|ho
 ·exact h.1.lt o ho
 ·exact h.2.lt o ho
theorem EE.Ok.lt {σ:List Obj} {e:EE} (h:e.Ok σ):∀o∈e.objs,o<σ.length:=fun o ho=>Hd.lt h o ho
theorem EN.Ok.keep {σ σ':List Obj} {e:EN} (h:e.Ok σ) (hk:∀o∈e.objs,nth σ' o=nth σ o):e.Ok σ':=
 ⟨h.1.keep fun o ho=>hk o (List.mem_append_left _ ho),h.2.keep fun o ho=>hk o (List.mem_append_right _ ho)⟩
theorem EE.Ok.keep {σ σ':List Obj} {e:EE} (h:e.Ok σ) (hk:∀o∈e.objs,nth σ' o=nth σ o):e.Ok σ':=Hd.keep h hk
section
variable {σ σ':List Obj} {d gd:Nat} {vN vE:AV} {nb eb:Bool} {N:List EN} {E:List EE} {x y:Int}
theorem YS {α:Type} {f:α→List Nat} {l:List α} {i:Nat} (hi:i<l.length):l.flatMap f=(l.take i).flatMap f++(f l[i]++(l.drop (i+1)).flatMap f):=by
 have e:l.take i++l[i]::l.drop (i+1)=l:=by rw[← List.drop_eq_getElem_cons hi,List.take_append_drop]
 rw[← List.flatMap_cons,←List.flatMap_append,e]
theorem YT {N:List EN} {E:List EE} {i:Nat} (hi:i<N.length):Je N E=(N.take i).flatMap EN.objs++(N[i]).objs++((N.drop (i+1)).flatMap EN.objs++E.flatMap EE.objs):=by
 rw[Je,YS hi]
 simp only[List.append_assoc]
theorem UN {N:List EN} {E:List EE} {e:EN} (he:e∈N) {o:Nat} (ho:o∈e.objs):o∈Je N E:=List.mem_append_left _ (List.mem_flatMap.2 ⟨e,he,ho⟩)
theorem Abc {N:List EN} {E:List EE} {e:EE} (he:e∈E) {o:Nat} (ho:o∈e.objs):o∈Je N E:=List.mem_append_right _ (List.mem_flatMap.2 ⟨e,he,ho⟩)
theorem Ed.fr (h:Ed σ d gd vN vE nb eb N E x y) {F:List Nat} (hF:Fr σ σ' F) (ho:∀o∈d::(vN.obj++(vE.obj++Je N E)),o∉F):Ed σ' d gd vN vE nb eb N E x y:=by
 obtain⟨cn,hn1,hn2⟩:=h.hn
 obtain⟨ce,he1,he2⟩:=h.he
 exact⟨hF.get h.box (ho _ (by simp)),⟨cn,hn1.keep fun o hm=>hF.eq o (hn1.lt o hm) (ho o (by simp[hm])),hn2⟩,⟨ce,he1.keep fun o hm=>hF.eq o (he1.lt o hm) (ho o (by simp[hm])),he2⟩,
  fun e he=>(h.hN e he).keep fun o hm=>hF.eq o ((h.hN e he).lt o hm) (ho o (by simp[UN (E:=E) he hm])),
  fun e he=>(h.hE e he).keep fun o hm=>hF.eq o ((h.hE e he).lt o hm) (ho o (by simp[Abc (N:=N) he hm])),h.nd,h.oN,h.oE⟩
theorem Ed.nodes (h:Ed σ d gd vN vE nb eb N E x y) {F:List Nat} (hF:Fr σ σ' F) (hFE:∀o∈F,o∉vE.obj∧o∉E.flatMap EE.objs) {vN':AV} {nb':Bool} {N':List EN} {x':Int} {c':Bool}
 (hb:nth σ' d=some (.arr gd 4 true false [.agg [vN',vE,.int .i64 x',.int .i64 y]]))
 (hn:Hd EN.av 3 σ' vN' nb' N' c') (hc:c'=true→∀e∈N',e.av.closed=true) (hm:∀e∈N',e.Ok σ') (hnd:(d::(vN'.obj++(vE.obj++Je N' E))).Nodup) (hv:vN'≠.sl false []):Ed σ' d gd vN' vE nb' eb N' E x' y:=by
 obtain⟨ce,he1,he2⟩:=h.he
 exact⟨hb,⟨c',hn,hc⟩,⟨ce,he1.keep fun o hm=>hF.eq o (he1.lt o hm) (fun hf=>(hFE o hf).1 hm),he2⟩,hm,
  fun e he=>(h.hE e he).keep fun o hm=>hF.eq o ((h.hE e he).lt o hm) (fun hf=>(hFE o hf).2 (List.mem_flatMap.2 ⟨e,he,hm⟩)),hnd,hv,h.oE⟩
theorem Ed.edges (h:Ed σ d gd vN vE nb eb N E x y) {F:List Nat} (hF:Fr σ σ' F) (hFE:∀o∈F,o∉vN.obj∧o∉N.flatMap EN.objs) {vE':AV} {eb':Bool} {E':List EE} {y':Int} {c':Bool}
 (hb:nth σ' d=some (.arr gd 4 true false [.agg [vN,vE',.int .i64 x,.int .i64 y']]))
 (hn:Hd EE.av 5 σ' vE' eb' E' c') (hc:c'=true→∀e∈E',e.av.closed=true) (hm:∀e∈E',e.Ok σ') (hnd:(d::(vN.obj++(vE'.obj++Je N E'))).Nodup) (hv:vE'≠.sl false []):Ed σ' d gd vN vE' nb eb' N E' x y':=by
 obtain⟨cn,he1,he2⟩:=h.hn
 exact⟨hb,⟨cn,he1.keep fun o hm=>hF.eq o (he1.lt o hm) (fun hf=>(hFE o hf).1 hm),he2⟩,⟨c',hn,hc⟩,
  fun e he=>(h.hN e he).keep fun o hm=>hF.eq o ((h.hN e he).lt o hm) (fun hf=>(hFE o hf).2 (List.mem_flatMap.2 ⟨e,he,hm⟩)),hm,hnd,h.oN,hv⟩
theorem Ed.NG (h:Ed σ d gd vN vE nb eb N E x y) {i:Nat} (hi:i<N.length):∀o,o∈vN.obj∨o∈(N[i]).objs→o≠d∧o∉vE.obj∧o∉E.flatMap EE.objs∧(o∈vN.obj→o∉Je N E)∧(o∈(N[i]).objs→o∉vN.obj∧∀j (hj:j<N.length),j≠i→o∉(N[j]).objs):=by
 have hnd:=h.nd
 have hsp:=YT (E:=E) hi
 rw[List.nodup_cons,List.nodup_append,List.nodup_append]at hnd
 obtain⟨h1,h2,⟨h3,h4,h5⟩,h6⟩:=hnd
 have hmem:∀o∈(N[i]).objs,o∈Je N E:=fun o ho=>UN (List.getElem_mem hi) ho
 intro o ho
 refine⟨?_,?_,?_,?_,?_⟩
 ·rintro rfl
  rcases ho with ho|ho
  ·exact h1 (by simp[ho])
  ·exact h1 (by simp[hmem _ ho])
 ·intro hm
  rcases ho with ho|ho
  ·exact h6 o ho o (by simp[hm]) rfl
  ·exact h5 o hm o (hmem _ ho) rfl
 ·intro hm
  rcases ho with ho|ho
  ·exact h6 o ho o (by simp[Je];exact .inr (.inr (by simpa using hm))) rfl
  ·rw[hsp,List.nodup_append]at h4
   exact h4.2.2 o (List.mem_append_right _ ho) o (List.mem_append_right _ hm) rfl
 ·exact fun hv hm=>h6 o hv o (by simp[hm]) rfl
 ·intro hoi
  refine⟨fun hv=>h6 o hv o (by simp[hmem _ hoi]) rfl,fun j hj hji hm=>?_⟩
  rw[hsp,List.nodup_append,List.nodup_append]at h4
  obtain⟨⟨_,_,k1⟩,_,k2⟩:=h4
  rcases Nat.lt_or_ge j i with hlt|hge
  ·exact k1 o (List.mem_flatMap.2 ⟨N[j],List.mem_take_iff_getElem.2 ⟨j,by omega,rfl⟩,hm⟩) o hoi rfl
  ·exact k2 o (List.mem_append_right _ hoi) o (List.mem_append_left _ (List.mem_flatMap.2 ⟨N[j],List.mem_drop_iff_getElem.2 ⟨j-(i+1),by omega,by congr 1;omega⟩,hm⟩)) rfl
end
structure Ask (N:List EN) (E:List EE) (x y:Int):Prop where
 lN:N.length≤2000
 lE:E.length≤4000
 iN:Inc H7 GN.id (N.map EN.n)
 iE:Inc H7 GE.id (E.map EE.e)
 iL:∀e∈N,Inc Op.bytesLess id e.n.labels∧e.n.labels.length≤8
 iP:∀e∈N,Inc Op.bytesLess GP.key e.n.props∧e.n.props.length≤16
 iQ:∀e∈E,Inc Op.bytesLess GP.key e.e.props∧e.e.props.length≤16
 bx:-2^62≤x∧x≤2^62
 by_:-2^62≤y∧y≤2^62
section
variable {σ:List Obj} {d gd:Nat} {vN vE:AV} {nb eb:Bool} {N:List EN} {E:List EE} {x y:Int} {ct:Nat} {K:AB→Ai→Prop}
theorem AeT {nb eb:Bool} {z:Int} (hq:Ask N E x y) (hf:∃n∈N,n.n.id=z):∃i,AtK H7 GN.id z (N.map EN.n) i∧Ah (Ac tab) 167 [.CB (gOf nb eb N E x y).av.cells,.int .i64 z] (· =.CP [.int .i64 (i:Nat),.bool true]):=by
 obtain⟨_,⟨i,b,rfl,h1,h2⟩,hd⟩:=(AhR (g:=gOf nb eb N E x y) (x:=z) (by have:=hq.lN;simp[gOf];omega) hq.iN).YO
 obtain⟨n,hn,e⟩:=hf
 rw[h2.2 ⟨n.n,by simp only[gOf,List.mem_map];exact⟨n,hn,rfl⟩,e⟩]at hd
 exact⟨i,h1,hd⟩
end
section
variable {σ:List Obj} {d gd:Nat} {vN vE:AV} {nb eb:Bool} {N:List EN} {E:List EE} {x y:Int} {ct:Nat} {K:AB→Ai→Prop}
theorem Ed.at (h:Ed σ d gd vN vE nb eb N E x y) (hq:Ask N E x y) {z:Int} (hf:∃n∈N,n.n.id=z):nb=true∧∃o g c i,∃hi:i<N.length,vN=.own o g 0 N.length∧nth σ o=some (.arr g 3 true c (vs EN.av N))∧(c=true→∀e∈N,e.av.closed=true)∧(N[i]).n.id=z∧AtK H7 GN.id z (N.map EN.n) i∧
 Ah (Ac tab) 167 [.CB (gOf nb eb N E x y).av.cells,.int .i64 z] (· =.CP [.int .i64 (i:Nat),.bool true]):=by
 obtain⟨i,q1,hbt⟩:=AeT (nb:=nb) (eb:=eb) hq hf
 obtain⟨n,hn,e⟩:=hf
 obtain⟨hil,hid,_⟩:=q1.found Bq hq.iN ⟨n.n,List.mem_map_of_mem hn,e⟩
 rw[List.length_map]at hil
 obtain⟨cn,hn1,hn2⟩:=h.hn
 rcases hn1 with⟨_,rfl,_⟩|⟨rfl,o,g,rfl,ho⟩
 ·simp at hil
 ·exact⟨rfl,o,g,cn,i,hil,rfl,ho,hn2,by simpa using hid,q1,hbt⟩
end
section
variable {σ σ1 σ2 σ3:List Obj} {d gd:Nat} {vN vE:AV} {nb eb:Bool} {N:List EN} {E:List EE} {x y:Int} {ct:Nat} {K:AB→Ai→Prop}
end
section
variable {σ σ1 σ2 σ3:List Obj} {d gd:Nat} {vN vE:AV} {nb eb:Bool} {N:List EN} {E:List EE} {x y:Int} {ct:Nat} {K:AB→Ai→Prop}
end
section
variable {σ σ1 σ2 σ3:List Obj} {d gd:Nat} {vN vE:AV} {nb eb:Bool} {N:List EN} {E:List EE} {x y:Int} {ct:Nat} {K:AB→Ai→Prop}
end
section
variable {σ:List Obj} {d gd:Nat} {vN vE:AV} {nb eb:Bool} {N:List EN} {E:List EE} {x y:Int} {ct:Nat} {K:AB→Ai→Prop}
end
section
variable {σ:List Obj} {d gd:Nat} {vN vE:AV} {nb eb:Bool} {N:List EN} {E:List EE} {x y:Int} {ct:Nat} {K:AB→Ai→Prop}
end
section
variable {σ:List Obj} {d gd:Nat} {vN vE:AV} {nb eb:Bool} {N:List EN} {E:List EE} {x y:Int} {ct:Nat} {K:AB→Ai→Prop}
end
def RV (g:GG) (c:GC):Int×GG:=
 if c.op=1 then
    if∃n∈g.nodes,n.id=c.id then(7,g)else if g.nodes.length<2000 then(0,{g with nn:=true,nodes:=EC H7 GN.id ⟨c.id,false,[],false,[]⟩ g.nodes,Dn:=if c.id+1>g.Dn then c.id+1 else g.Dn})else(20,g)
 else match g.nodes.find? (fun n=>decide (n.id=c.id))with
    |none=>(10,g)
    |some n=>
     if c.op=2 then if∃e∈g.edges,e.fr=c.id∨e.to=c.id then(12,g)else(0,{g with nodes:=RX H7 GN.id c.id g.nodes})
     else if c.op=3 then if c.name∈n.labels then(7,g)else if n.labels.length<8 then(0,{g with nodes:=EC H7 GN.id {n with ln:=true,labels:=EC Op.bytesLess id c.name n.labels} g.nodes})else(20,g)
     else if c.op=4 then if c.name∈n.labels then(0,{g with nodes:=EC H7 GN.id {n with ln:=true,labels:=RX Op.bytesLess id c.name n.labels} g.nodes})else(23,g)
     else if isNull c.v then(0,{g with nodes:=EC H7 GN.id {n with props:=RX Op.bytesLess GP.key c.name n.props} g.nodes})
     else if(∃ p∈n.props,GP.key p=c.name)∨n.props.length<16 then(0,{g with nodes:=EC H7 GN.id {n with pn:=true,props:=EC Op.bytesLess GP.key ⟨c.name,c.v⟩ n.props} g.nodes})else(20,g)
def RY (g:GG) (c:GC):Int×GG:=
 if c.op=6 then
    if∃n∈g.edges,n.id=c.id then(7,g)else if(∃ n∈g.nodes,n.id=c.fr)∧(∃ n∈g.nodes,n.id=c.to)then
     if g.edges.length<4000 then(0,{g with en:=true,edges:=EC H7 GE.id ⟨c.id,c.fr,c.to,c.name,false,[]⟩ g.edges,DJ:=if c.id+1>g.DJ then c.id+1 else g.DJ})else(20,g)
    else(10,g)
 else match g.edges.find? (fun n=>decide (n.id=c.id))with
    |none=>(11,g)
    |some n=>
     if c.op=7 then(0,{g with edges:=RX H7 GE.id c.id g.edges})
     else if isNull c.v then(0,{g with edges:=EC H7 GE.id {n with props:=RX Op.bytesLess GP.key c.name n.props} g.edges})
     else if(∃ p∈n.props,GP.key p=c.name)∨n.props.length<16 then(0,{g with edges:=EC H7 GE.id {n with pn:=true,props:=EC Op.bytesLess GP.key ⟨c.name,c.v⟩ n.props} g.edges})else(20,g)
def stepG (g:GG) (c:GC):Int×GG:=if ckC c≠0 then(ckC c,g)else if c.op≤5 then RV g c else RY g c
section
variable {σ:List Obj} {d gd:Nat} {vN vE:AV} {nb eb:Bool} {N:List EN} {E:List EE} {x y:Int} {ct:Nat} {K:AB→Ai→Prop}
def EdG (σ:List Obj) (d gd:Nat) (g:GG):Prop:=∃vN vE nb eb N E x y,Ed σ d gd vN vE nb eb N E x y∧gOf nb eb N E x y=g
end
section
variable {α κ:Type} {lt:κ→κ→Bool} {key:α→κ}
theorem VT (hs:Xt lt) {k:κ}:∀{l:List α},(below lt key k l).length+(above lt key k l).length≤l.length
 |[]=>by simp[below,above]
 |a::l=>by
  have ih:=VT hs (k:=k) (l:=l)
  unfold below above at ih ⊢
  cases h1:lt (key a) k<;>cases h2:lt k (key a)
  ·rw[List.filter_cons_of_neg (by simp[h1]),List.filter_cons_of_neg (by simp[h2])];simp;omega
  ·rw[List.filter_cons_of_neg (by simp[h1]),List.filter_cons_of_pos (by simp[h2])];simp;omega
  ·rw[List.filter_cons_of_pos (by simp[h1]),List.filter_cons_of_neg (by simp[h2])];simp;omega
  ·have:=hs.tr _ _ _ h1 h2;rw[hs.irr]at this;cases this
theorem Aah (hs:Xt lt) {k:κ}:∀{l:List α},(∃ y∈l,key y=k)→(below lt key k l).length+(above lt key k l).length+1≤l.length
 |[],h=>by simp at h
 |a::l,h=>by
  by_cases hk:key a=k
  ·have ih:=VT hs (key:=key) (k:=k) (l:=l)
   unfold below above at ih ⊢
   have h1:lt (key a) k=false:=by rw[hk];exact hs.irr _
   have h2:lt k (key a)=false:=by rw[hk];exact hs.irr _
   rw[List.filter_cons_of_neg (by simp[h1]),List.filter_cons_of_neg (by simp[h2])];simp;omega
  ·have hm:∃y∈l,key y=k:=by
        obtain⟨y,hy,e⟩:=h
        rcases List.mem_cons.1 hy with rfl|hy
        ·exact absurd e hk
        ·exact⟨y,hy,e⟩
   have ih:=Aah hs hm
   unfold below above at ih ⊢
   cases h1:lt (key a) k<;>cases h2:lt k (key a)
   ·rw[List.filter_cons_of_neg (by simp[h1]),List.filter_cons_of_neg (by simp[h2])];simp;omega
   ·rw[List.filter_cons_of_neg (by simp[h1]),List.filter_cons_of_pos (by simp[h2])];simp;omega
   ·rw[List.filter_cons_of_pos (by simp[h1]),List.filter_cons_of_neg (by simp[h2])];simp;omega
   ·have:=hs.tr _ _ _ h1 h2;rw[hs.irr]at this;cases this
theorem Oz (hs:Xt lt) {x:α} {l:List α}:(EC lt key x l).length≤l.length+1:=by
 have:=VT hs (key:=key) (k:=key x) (l:=l)
 simp only[EC,List.length_append,List.length_singleton];omega
theorem OA (hs:Xt lt) {x:α} {l:List α} (h:∃y∈l,key y=key x):(EC lt key x l).length≤l.length:=by
 have:=Aah hs (key:=key) (k:=key x) (l:=l) h
 simp only[EC,List.length_append,List.length_singleton];omega
theorem OB (hs:Xt lt) {k:κ} {l:List α}:(RX lt key k l).length≤l.length:=by
 have:=VT hs (key:=key) (k:=k) (l:=l)
 simp only[RX,List.length_append];omega
end
structure Aai (n:GN):Prop where
 iL:Inc Op.bytesLess id n.labels
 lL:n.labels.length≤8
 iP:Inc Op.bytesLess GP.key n.props
 lP:n.props.length≤16
structure AcZ (n:GE):Prop where
 iP:Inc Op.bytesLess GP.key n.props
 lP:n.props.length≤16
structure JZ (g:GG):Prop where
 lN:g.nodes.length≤2000
 lE:g.edges.length≤4000
 iN:Inc H7 GN.id g.nodes
 iE:Inc H7 GE.id g.edges
 aN:∀n∈g.nodes,Aai n
 aE:∀n∈g.edges,AcZ n
 bx:-2^62≤g.Dn∧g.Dn≤2^62
 by_:-2^62≤g.DJ∧g.DJ≤2^62
theorem JZ.ask {nb eb:Bool} {N:List EN} {E:List EE} {x y:Int} (h:JZ (gOf nb eb N E x y)):Ask N E x y where
 lN:=by have:=h.lN;simpa[gOf]using this
 lE:=by have:=h.lE;simpa[gOf]using this
 iN:=h.iN
 iE:=h.iE
 iL:=fun e he=>by have:=h.aN e.n (List.mem_map_of_mem he);exact⟨this.iL,this.lL⟩
 iP:=fun e he=>by have:=h.aN e.n (List.mem_map_of_mem he);exact⟨this.iP,this.lP⟩
 iQ:=fun e he=>by have:=h.aE e.e (List.mem_map_of_mem he);exact⟨this.iP,this.lP⟩
 bx:=h.bx
 by_:=h.by_
theorem JZ.QK {g:GG} (h:JZ g) {n:GN} (hn:Aai n) (hm:∃m∈g.nodes,m.id=n.id):JZ {g with nodes:=EC H7 GN.id n g.nodes}:=
 {h with
  lN:=Nat.le_trans (OA Bq hm) h.lN
  iN:=G6 Bq h.iN
  aN:=fun m hm=>by rcases DK Bq hm with rfl|hm;exact hn;exact h.aN _ hm}
theorem JZ.YV {g:GG} (h:JZ g) {n:GE} (hn:AcZ n) (hm:∃m∈g.edges,m.id=n.id):JZ {g with edges:=EC H7 GE.id n g.edges}:=
 {h with
  lE:=Nat.le_trans (OA Bq hm) h.lE
  iE:=G6 Bq h.iE
  aE:=fun m hm=>by rcases DK Bq hm with rfl|hm;exact hn;exact h.aE _ hm}
theorem OC {α:Type} {p:α→Bool} {l:List α} {n:α} (h:l.find? p=some n):n∈l∧p n=true:=⟨List.mem_of_find?_eq_some h,List.find?_some h⟩
theorem JZ.node {g:GG} (h:JZ g) {c:GC} (hid:idG c.id):JZ (RV g c).2:=by
 unfold RV
 split
 ·split
  ·exact h
  split
  ·rename_i hl
   exact{h with
        lN:=by have:=Oz (key:=GN.id) Bq (x:=⟨c.id,false,[],false,[]⟩) (l:=g.nodes);show(EC H7 GN.id _ g.nodes).length≤2000;omega
        iN:=G6 Bq h.iN
        aN:=fun m hm=>by
         rcases DK Bq hm with rfl|hm
         ·exact⟨List.Pairwise.nil,by simp,List.Pairwise.nil,by simp⟩
         ·exact h.aN _ hm
        bx:=by have:=h.bx;have:=hid.2;have:=hid.1;show _≤(if c.id+1>g.Dn then c.id+1 else g.Dn)∧(if c.id+1>g.Dn then c.id+1 else g.Dn)≤_;split<;>omega}
  ·exact h
 split
 ·exact h
 rename_i n hf
 obtain⟨hn,hz⟩:=OC hf
 replace hz:=of_decide_eq_true hz
 have ha:=h.aN n hn
 split
 ·split
  ·exact h
  ·exact{h with lN:=Nat.le_trans (OB Bq) h.lN,iN:=Lj Bq h.iN,aN:=fun m hm=>h.aN m (OD hm)}
 split
 ·split
  ·exact h
  split
  ·rename_i hl
   exact h.QK ⟨G6 Ez ha.iL,Nat.le_trans (Oz Ez) (by omega),ha.iP,ha.lP⟩ ⟨n,hn,rfl⟩
  ·exact h
 split
 ·split
  ·exact h.QK ⟨Lj Ez ha.iL,Nat.le_trans (OB Ez) ha.lL,ha.iP,ha.lP⟩ ⟨n,hn,rfl⟩
  ·exact h
 split
 ·exact h.QK ⟨ha.iL,ha.lL,Lj Ez ha.iP,Nat.le_trans (OB Ez) ha.lP⟩ ⟨n,hn,rfl⟩
 split
 ·rename_i hx
  refine h.QK ⟨ha.iL,ha.lL,G6 Ez ha.iP,?_⟩ ⟨n,hn,rfl⟩
  rcases hx with hx|hx
  ·exact Nat.le_trans (OA Ez hx) ha.lP
  ·exact Nat.le_trans (Oz Ez) (by omega)
 ·exact h
theorem JZ.edge {g:GG} (h:JZ g) {c:GC} (hid:idG c.id):JZ (RY g c).2:=by
 unfold RY
 split
 ·split
  ·exact h
  split
  ·split
   ·rename_i hl
    exact{h with
     lE:=by have:=Oz (key:=GE.id) Bq (x:=⟨c.id,c.fr,c.to,c.name,false,[]⟩) (l:=g.edges);show(EC H7 GE.id _ g.edges).length≤4000;omega
     iE:=G6 Bq h.iE
     aE:=fun m hm=>by
      rcases DK Bq hm with rfl|hm
      ·exact⟨List.Pairwise.nil,by simp⟩
      ·exact h.aE _ hm
     by_:=by have:=h.by_;have:=hid.2;have:=hid.1;show _≤(if c.id+1>g.DJ then c.id+1 else g.DJ)∧(if c.id+1>g.DJ then c.id+1 else g.DJ)≤_;split<;>omega}
   ·exact h
  ·exact h
 split
 ·exact h
 rename_i n hf
 obtain⟨hn,hz⟩:=OC hf
 have ha:=h.aE n hn
 split
 ·exact{h with lE:=Nat.le_trans (OB Bq) h.lE,iE:=Lj Bq h.iE,aE:=fun m hm=>h.aE m (OD hm)}
 split
 ·exact h.YV ⟨Lj Ez ha.iP,Nat.le_trans (OB Ez) ha.lP⟩ ⟨n,hn,rfl⟩
 split
 ·rename_i hx
  refine h.YV ⟨G6 Ez ha.iP,?_⟩ ⟨n,hn,rfl⟩
  rcases hx with hx|hx
  ·exact Nat.le_trans (OA Ez hx) ha.lP
  ·exact Nat.le_trans (Oz Ez) (by omega)
 ·exact h
theorem JZ.step {g:GG} (h:JZ g) {c:GC}:JZ (stepG g c).2:=by
 unfold stepG
 split
 ·exact h
 rename_i hk
 have h0:=Alo (Classical.not_not.1 hk)
 split
 ·exact h.node h0.2.1
 ·exact h.edge h0.2.1
section
variable {AP:Nat→Option Ht}
end
section
variable {σ:List Obj} {d gd:Nat} {vN vE:AV} {nb eb:Bool} {N:List EN} {E:List EE} {x y:Int} {ct:Nat} {K:AB→Ai→Prop}
theorem Ed.Afc {σ:List Obj} {d gd:Nat} {vN vE:AV} {nb eb:Bool} {N:List EN} {E:List EE} {x y:Int} (h:Ed σ d gd vN vE nb eb N E x y) {o g:Nat} {c:Bool} {k:IntKind} {z:Int} (ho:nth σ o=some (.arr g 1 true c [.int k z])):∀q∈d::(vN.obj++(vE.obj++Je N E)),q∉[o]:=by
 intro q hq hm
 obtain rfl:q=o:=by simpa using hm
 obtain⟨cn,hn1,_⟩:=h.hn
 obtain⟨ce,he1,_⟩:=h.he
 rcases List.mem_cons.1 hq with rfl|hq
 ·have:=h.box;rw[ho]at this;simp at this
 rcases List.mem_append.1 hq with hq|hq
 ·exact hn1.diff ho (by decide) hq
 rcases List.mem_append.1 hq with hq|hq
 ·exact he1.diff ho (by decide) hq
 rcases List.mem_append.1 hq with hq|hq<;>obtain⟨e,he,hm⟩:=List.mem_flatMap.1 hq
 ·rcases List.mem_append.1 hm with hm|hm
  ·rcases(h.hN e he).1 with⟨_,_,h1|⟨o',g',es',h1,h2⟩⟩|⟨_,o',g',h1,h2⟩
   ·rw[h1]at hm;simp[AV.obj]at hm
   ·rw[h1]at hm;simp only[AV.obj,List.mem_singleton]at hm;subst hm;rw[ho]at h2;simp at h2
   ·rw[h1]at hm;simp only[AV.obj,List.mem_singleton]at hm;subst hm;rw[ho]at h2
    simp only[Option.some.injEq,Obj.arr.injEq]at h2
    have:=h2.2.2.2.2
    cases hl:e.n.labels with
    |nil=>rw[hl]at this;simp[vs]at this
    |cons a l=>rw[hl]at this;simp[vs]at this
  ·exact(h.hN e he).2.diff ho (by decide) hm
 ·exact Hd.diff (h.hE e he) ho (by decide) hm
theorem EdG.cell {σ σ':List Obj} {d gd:Nat} {g:GG} (h:EdG σ d gd g) {o u:Nat} {c:Bool} {k:IntKind} {z:Int} (ho:nth σ o=some (.arr u 1 true c [.int k z])) (f:Fr σ σ' [o]):EdG σ' d gd g:=by
 obtain⟨vN,vE,nb,eb,N,E,x,y,hE,e⟩:=h
 exact⟨_,_,_,_,_,_,_,_,hE.fr f (hE.Afc ho),e⟩
end
section
variable {σ:List Obj} {ct:Nat}
end
structure Cp (σ0 σ:List Obj) (vN vE:AV) (g:GG) (N:List EN) (E:List EE):Prop where
 hn:∃c,Hd EN.av 3 σ vN g.nn N c∧(c=true→∀e∈N,e.av.closed=true)
 he:∃c,Hd EE.av 5 σ vE g.en E c∧(c=true→∀e∈E,e.av.closed=true)
 hN:∀e∈N,e.Ok σ
 hE:∀e∈E,e.Ok σ
 nd:(vN.obj++(vE.obj++Je N E)).Nodup
 new:∀o∈vN.obj++(vE.obj++Je N E),σ0.length≤o
 mN:N.map EN.n=g.nodes
 mE:E.map EE.e=g.edges
 fr:Fr σ0 σ []
section
variable {σ:List Obj} {ct:Nat} {K:AB→Ai→Prop}
end
def AdJ:GG:=⟨false,[],false,[],0,0⟩
section
variable {σ:List Obj} {ct:Nat}
end
theorem Cp.ed {σ0 σ σ':List Obj} {oN uN nN oE uE nE gd:Nat} {g:GG} {N:List EN} {E:List EE} (h:Cp σ0 σ (.own oN uN 0 nN) (.own oE uE 0 nE) g N E) (hf:Fr σ σ' []) (hb:nth σ' σ.length=some (.arr gd 4 true false [.agg [.own oN uN 0 nN,.own oE uE 0 nE,.int .i64 g.Dn,.int .i64 g.DJ]])):EdG σ' σ.length gd g:=by
 obtain⟨cn,hn1,hn2⟩:=h.hn
 obtain⟨ce,he1,he2⟩:=h.he
 refine⟨_,_,g.nn,g.en,N,E,g.Dn,g.DJ,⟨hb,⟨cn,hn1.keep fun o ho=>hf.eq o (hn1.lt o ho) (by simp),hn2⟩,⟨ce,he1.keep fun o ho=>hf.eq o (he1.lt o ho) (by simp),he2⟩,
  fun e he=>(h.hN e he).keep fun o ho=>hf.eq o ((h.hN e he).lt o ho) (by simp),fun e he=>(h.hE e he).keep fun o ho=>hf.eq o ((h.hE e he).lt o ho) (by simp),
  List.nodup_cons.2 ⟨fun hm=>?_,h.nd⟩,by simp,by simp⟩,?_⟩
 ·have hlt:σ.length<σ.length:=by
   rcases List.mem_append.1 hm with hm|hm
   ·exact hn1.lt _ hm
   rcases List.mem_append.1 hm with hm|hm
   ·exact he1.lt _ hm
   rcases List.mem_append.1 hm with hm|hm<;>obtain⟨e,he,hm⟩:=List.mem_flatMap.1 hm
   ·exact(h.hN e he).lt _ hm
   ·exact(h.hE e he).lt _ hm
  omega
 ·obtain⟨a,b,c,d,e,f⟩:=g
  have h1:=h.mN
  have h2:=h.mE
  simp only[gOf]at*
  rw[h1,h2]
theorem Rd.CP {σ:List Obj} {D:Nat} {xs ys:List AV} (h:Ob σ D xs ys):Rd σ (D+1) (.CP xs) (.CP ys):=fun m hm=>by
 obtain⟨m,rfl⟩:∃m',m=m'+1:=⟨m-1,by omega⟩
 simp only[snap,h m (by omega),Option.map_some]
theorem Rd.sl {σ:List Obj} {b:Bool} {xs:List AV}:Rd σ 1 (.sl b xs) (.sl b xs):=fun m hm=>by
 obtain⟨m,rfl⟩:∃m',m=m'+1:=⟨m-1,by omega⟩
 rfl
structure VN (n:GN):Prop where
 id:idG n.id
 nl:allNames n.labels
 nk:allNames (keysOf n.props)
 pl:allPlain n.props
 a:Aai n
structure VE (n:GE):Prop where
 id:idG n.id
 ty:isName n.ty
 nk:allNames (keysOf n.props)
 pl:allPlain n.props
 a:AcZ n
structure VG (g:GG):Prop where
 ask:JZ g
 n:∀n∈g.nodes,VN n
 e:∀n∈g.edges,VE n
 ends:∀e∈g.edges,(∃ n∈g.nodes,n.id=e.fr)∧∃n∈g.nodes,n.id=e.to
section
variable {g:GG} {c:GC}
end
structure AtN (h:GG) (z:Int) (m:GN) (f:Int→Option GN) (E:List GE):Prop where
 ask:JZ h
 here:lk GN.id h.nodes z=some m
 rest:∀y,y≠z→lk GN.id h.nodes y=f y
 ed:h.edges=E
theorem AtN.put {h:GG} {z:Int} {m m':GN} {f:Int→Option GN} {E:List GE} (a:AtN h z m f E) (hid:m'.id=z) (hn:Aai m'):AtN {h with nodes:=EC H7 GN.id m' h.nodes} z m' f E where
 ask:=a.ask.QK hn ⟨m,(AaL a.here).1,by rw[hid];exact(AaL a.here).2⟩
 here:=by show lk GN.id (EC H7 GN.id m' h.nodes) z=_;rw[Ad4 Bq a.ask.iN,if_pos hid.symm]
 rest:=fun y hy=>by show lk GN.id (EC H7 GN.id m' h.nodes) y=_;rw[Ad4 Bq a.ask.iN,if_neg (by rw[hid];exact hy)];exact a.rest y hy
 ed:=a.ed
theorem AtN.id {h:GG} {z:Int} {m:GN} {f:Int→Option GN} {E:List GE} (a:AtN h z m f E):m.id=z:=(AaL a.here).2
section
variable {z:Int} {f:Int→Option GN} {E:List GE}
end
structure Chk (g:GG):Prop where
 vg:VG g
 nx:Gq g
 n:∀n∈g.nodes,n.id<g.Dn
 e:∀n∈g.edges,n.id<g.DJ
theorem Chk.QK {g:GG} (h:Chk g) {m:GN} (hm:VN m) (hx:∃n∈g.nodes,n.id=m.id):Chk {g with nodes:=EC H7 GN.id m g.nodes}:=by
 obtain⟨n0,hn0,e0⟩:=hx
 refine⟨⟨h.vg.ask.QK hm.a ⟨n0,hn0,e0⟩,fun n hn=>?_,h.vg.e,fun e he=>?_⟩,h.nx,fun n hn=>?_,h.e⟩
 ·rcases DK Bq hn with rfl|hn
  ·exact hm
  ·exact h.vg.n n hn
 ·have hk:∀z,(∃ n∈g.nodes,n.id=z)→∃n∈EC H7 GN.id m g.nodes,n.id=z:=fun z ⟨n,hn,e⟩=>by
   by_cases q:z=m.id
   ·exact⟨m,(Rl Bq).2 (.inl rfl),q.symm⟩
   ·exact⟨n,(Rl Bq).2 (.inr ⟨hn,by rw[show GN.id n=z from e];exact q⟩),e⟩
  exact⟨hk _ (h.vg.ends e he).1,hk _ (h.vg.ends e he).2⟩
 ·rcases DK Bq hn with rfl|hn
  ·have:=h.n n0 hn0;rw[e0]at this;exact this
  ·exact h.n n hn
theorem Chk.YV {g:GG} (h:Chk g) {m n0:GE} (hm:VE m) (hn0:n0∈g.edges) (e0:n0.id=m.id) (e1:n0.fr=m.fr) (e2:n0.to=m.to):Chk {g with edges:=EC H7 GE.id m g.edges}:=by
 refine⟨⟨h.vg.ask.YV hm.a ⟨n0,hn0,e0⟩,h.vg.n,fun n hn=>?_,fun e he=>?_⟩,h.nx,h.n,fun n hn=>?_⟩
 ·rcases DK Bq hn with rfl|hn
  ·exact hm
  ·exact h.vg.e n hn
 ·rcases DK Bq he with rfl|he
  ·rw[← e1,←e2];exact h.vg.ends n0 hn0
  ·exact h.vg.ends e he
 ·rcases DK Bq hn with rfl|hn
  ·have:=h.e n0 hn0;rw[e0]at this;exact this
  ·exact h.e n hn
structure AJ where
 fr:Int
 to:Int
 ed:Int
def AJ.av (a:AJ):AV:=.agg [.int .i64 a.fr,.int .i64 a.to,.int .i64 a.ed]
section
variable {α κ:Type} {lt:κ→κ→Bool} {key:α→κ}
end
section
variable {α κ:Type} {lt:κ→κ→Bool} {key:α→κ}
end
section
variable {α κ:Type} {lt:κ→κ→Bool} {key:α→κ} {f:α→α}
end
def AlQ (n:GN):GN:=⟨n.id,true,n.labels,true,n.props⟩
def AlR (e:GE):GE:=⟨e.id,e.fr,e.to,e.ty,true,e.props⟩
def AbI (g:GG):GG:=⟨true,g.nodes.map AlQ,true,g.edges.map AlR,g.Dn,g.DJ⟩
def Zw (a b:Int×GG):Prop:=a.1=b.1∧AbI a.2=AbI b.2
theorem Zw.trans {a b c:Int×GG} (h:Zw a b) (k:Zw b c):Zw a c:=⟨h.1.trans k.1,h.2.trans k.2⟩
theorem Zw.symm {a b:Int×GG} (h:Zw a b):Zw b a:=⟨h.1.symm,h.2.symm⟩
def atN (id:Int) (e:GE):Prop:=e.fr=id∨e.to=id
instance (id:Int) (e:GE):Decidable (atN id e):=by unfold atN;infer_instance
def AaV (k:Int×GG) (w:AV):Prop:=∃h:GG,w=.CP [h.av,.int .i64 k.1]∧(k.1=0→AbI h=AbI k.2∧h.ok)∧(k.1≠0→h=AdJ)
theorem AaV.no {e:Int} {g:GG} {k:Int×GG} (hk:k=(e,g)) (he:e≠0):AaV k (.CP [AdJ.av,.int .i64 e]):=by
 subst hk
 exact⟨AdJ,rfl,fun h=>absurd h he,fun _=>rfl⟩
theorem AaV.yes {g h:GG} {k:Int×GG} (hk:k=(0,g)) (he:AbI h=AbI g) (ho:h.ok):AaV k (.CP [h.av,.int .i64 0]):=by
 subst hk
 exact⟨h,rfl,fun _=>⟨he,ho⟩,fun h=>absurd rfl h⟩
structure ZQ (g:GG):Prop where
 n:∀x∈g.nodes,x.id<g.Dn
 e:∀x∈g.edges,x.id<g.DJ
section
variable {g:GG} {n:GN} {z fr to:Int} {nm:List UInt8} {v:GV}
end
section
variable {g:GG} {n:GE} {z fr to:Int} {nm:List UInt8} {v:GV}
end
theorem ZQ.QK {g:GG} (h:ZQ g) {n:GN} (hm:∃m∈g.nodes,m.id=n.id):ZQ {g with nodes:=EC H7 GN.id n g.nodes}:=
 ⟨fun x hx=>by
  rcases DK Bq hx with rfl|hx
  ·obtain⟨m,hm,e⟩:=hm;have:=h.n m hm;rw[e]at this;exact this
  ·exact h.n x hx,h.e⟩
theorem ZQ.YV {g:GG} (h:ZQ g) {n:GE} (hm:∃m∈g.edges,m.id=n.id):ZQ {g with edges:=EC H7 GE.id n g.edges}:=
 ⟨h.n,fun x hx=>by
  rcases DK Bq hx with rfl|hx
  ·obtain⟨m,hm,e⟩:=hm;have:=h.e m hm;rw[e]at this;exact this
  ·exact h.e x hx⟩
theorem max_lt {a b c:Int} (h:a<b):a<(if c>b then c else b):=by split<;>omega
theorem Aeu {a b c:Int} (h:a<c):a<(if c>b then c else b):=by split<;>omega
theorem ZQ.node {g:GG} (h:ZQ g) {c:GC}:ZQ (RV g c).2:=by
 unfold RV
 split
 ·split
  ·exact h
  split
  ·refine⟨fun x hx=>?_,h.e⟩
   rcases DK Bq hx with rfl|hx
   ·exact Aeu (by show c.id<c.id+1;omega)
   ·exact max_lt (h.n x hx)
  ·exact h
 split
 ·exact h
 rename_i n hf
 obtain⟨hn,hz⟩:=OC hf
 split
 ·split
  ·exact h
  ·exact⟨fun x hx=>h.n x (OD hx),h.e⟩
 split
 ·split
  ·exact h
  split
  ·exact h.QK ⟨n,hn,rfl⟩
  ·exact h
 split
 ·split
  ·exact h.QK ⟨n,hn,rfl⟩
  ·exact h
 split
 ·exact h.QK ⟨n,hn,rfl⟩
 split
 ·exact h.QK ⟨n,hn,rfl⟩
 ·exact h
theorem ZQ.edge {g:GG} (h:ZQ g) {c:GC}:ZQ (RY g c).2:=by
 unfold RY
 split
 ·split
  ·exact h
  split
  ·split
   ·refine⟨h.n,fun x hx=>?_⟩
    rcases DK Bq hx with rfl|hx
    ·exact Aeu (by show c.id<c.id+1;omega)
    ·exact max_lt (h.e x hx)
   ·exact h
  ·exact h
 split
 ·exact h
 rename_i n hf
 obtain⟨hn,hz⟩:=OC hf
 split
 ·exact⟨h.n,fun x hx=>h.e x (OD hx)⟩
 split
 ·exact h.YV ⟨n,hn,rfl⟩
 split
 ·exact h.YV ⟨n,hn,rfl⟩
 ·exact h
theorem ZQ.step {g:GG} (h:ZQ g) {c:GC}:ZQ (stepG g c).2:=by
 unfold stepG
 split
 ·exact h
 split
 ·exact h.node
 ·exact h.edge
end AI
end Go.Proofs.YtchcadfjbkkgmaaGreatDoor
