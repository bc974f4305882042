/- Changes in a row; the changes of one node by a script: plain. The changes of one edge by a script: plain. A script between two graphs leads from the first to the second: plain. A script between two valid graphs leads from the first to the second, and is empty exactly if they are alike: plain. Scripts hold fine values; lists of lists. Values of graphs that changes lead to; the changes of a script as arguments: plain. -/
import Derived.Test.YthnehejdkajjhaaGreatDoorKDlA
import Derived.Test.YthnehejdkajjhaaGreatDoorKMah
import Derived.Test.YthnehejdkajjhaaGreatDoorKMal
set_option linter.unusedVariables false
set_option maxRecDepth 4000
namespace Go.Proofs.YthnehejdkajjhaaGreatDoor
namespace AI
noncomputable def FT:GG→List GC→Option GG
 |g,[]=>some g
 |g,c::cs=>if(stepG g c).1=0 then FT (stepG g c).2 cs else none
theorem Hg {g h k:GG} {c:GC} {L:List GC} (h1:stepG g c=(0,h)) (h2:FT h L=some k):FT g (c::L)=some k:=by
 rw[FT,h1,if_pos rfl];exact h2
theorem Hq {A B:List GC}:∀{g h k:GG},FT g A=some h→FT h B=some k→FT g (A++B)=some k:=by
 induction A with
 |nil=>intro g h k h1 h2;cases h1;exact h2
 |cons c A ih=>
  intro g h k h1 h2
  rw[FT]at h1
  split at h1
  ·rename_i h0
   rw[List.cons_append,FT,if_pos h0];exact ih h1 h2
  ·cases h1
theorem Alz {L:List GC}:∀{g h:GG} {i:Nat},FT g L=some h→Jl g L i=(h,i+L.length,0):=by
 induction L with
 |nil=>intro g h i e;cases e;rfl
 |cons c L ih=>
  intro g h i e
  rw[FT]at e
  split at e
  ·rename_i h0
   rw[Jl,if_neg (fun k=>k h0),ih e,List.length_cons]
   congr 2;omega
  ·cases e
structure VN (n:GN):Prop where
 id:Jw n.id
 nl:allNames n.labels
 nk:allNames (keysOf n.props)
 pl:allPlain n.props
 a:YE n
structure VE (n:GE):Prop where
 id:Jw n.id
 ty:isName n.ty
 nk:allNames (keysOf n.props)
 pl:allPlain n.props
 a:YF n
structure VG (g:GG):Prop where
 ask:Ef g
 n:∀n∈g.nodes,VN n
 e:∀n∈g.edges,VE n
 ends:∀e∈g.edges,(∃ n∈g.nodes,n.id=e.fr)∧∃n∈g.nodes,n.id=e.to
theorem Aqj {g:GG} (h:AZ g=0):VG g:=by
 have ha:=Td h
 obtain⟨hf,hn,hN,hE⟩:=LU h
 refine⟨ha,fun n hm=>?_,fun n hm=>?_,fun n hm=>?_⟩
 ·have hA:=ha.aN n hm
  obtain⟨i,hi,rfl⟩:=List.getElem_of_mem hm
  have h2:=KP hi (hN i hi)
  obtain⟨a1,a2,a3,a4,a5,a6,a7⟩:=Sv h2.2.2.2
  exact⟨⟨h2.2.1,by have:=hn.2.1;have:=h2.2.2.1;omega⟩,a5,a6,a7,hA⟩
 ·have hA:=ha.aE n hm
  obtain⟨i,hi,rfl⟩:=List.getElem_of_mem hm
  have h2:=MZ hi (hE i hi)
  obtain⟨a1,a2,a3,a4,a5,a6,a7⟩:=Sv h2.2.2.2.2.2.2
  exact⟨⟨h2.2.1,by have:=hn.2.2.2;have:=h2.2.2.1;omega⟩,h2.2.2.2.2.2.1,a6,a7,hA⟩
 ·obtain⟨i,hi,rfl⟩:=List.getElem_of_mem hm
  have h2:=MZ hi (hE i hi)
  exact⟨List.mem_map.1 h2.2.2.2.1,List.mem_map.1 h2.2.2.2.2.1⟩
theorem ck0 {c:GC} (h1:¬G7 c) (h2:Oi c.op→isName c.name) (h3:Un c.op→isNull c.v∨DW c.v):Il c=0:=by
 unfold Il
 rw[if_neg h1,if_neg (fun h=>h.2 (h2 h.1)),if_neg (fun h=>(h3 h.1).elim h.2.1 h.2.2)]
theorem Le:isNull Z0:=⟨rfl,rfl,rfl,rfl,rfl⟩
theorem AeA {op z:Int} {x:List UInt8} (hop:op=3∨op=4∨op=5∨op=8) (hz:Jw z) (hx:isName x):Il (DU op z x)=0:=by
 refine ck0 ?_ (fun _=>hx) (fun _=>.inl Le)
 rintro(h|h|h|h|h|h)
 ·exact h (show 1≤op∧op≤8 by omega)
 ·exact h hz
 ·exact h.1 (show Oi op by unfold Oi;omega)
 ·exact h.2 Le
 ·have:op=6:=h.1
  omega
 ·exact h.2.elim (fun k=>k rfl) (fun k=>k rfl)
theorem AsP {op z:Int} {p:GP} (hop:op=5∨op=8) (hz:Jw z) (hx:isName p.key) (hv:DW p.v):Il ⟨op,z,0,0,p.key,p.v⟩=0:=by
 refine ck0 ?_ (fun _=>hx) (fun _=>.inr hv)
 rintro(h|h|h|h|h|h)
 ·exact h (show 1≤op∧op≤8 by omega)
 ·exact h hz
 ·exact h.1 (show Oi op by unfold Oi;omega)
 ·exact h.1 (show Un op by unfold Un;omega)
 ·have:op=6:=h.1
  omega
 ·exact h.2.elim (fun k=>k rfl) (fun k=>k rfl)
theorem Ahz {op z:Int} (hop:op=1∨op=2∨op=7) (hz:Jw z):Il (DU op z [])=0:=by
 refine ck0 ?_ (fun h=>?_) (fun _=>.inl Le)
 ·rintro(h|h|h|h|h|h)
  ·exact h (show 1≤op∧op≤8 by omega)
  ·exact h hz
  ·exact h.2 rfl
  ·exact h.2 Le
  ·have:op=6:=h.1
   omega
  ·exact h.2.elim (fun k=>k rfl) (fun k=>k rfl)
 ·have h:Oi op:=h
  unfold Oi at h
  omega
section
variable {g:GG} {c:GC}
theorem nG2 {n:GN} (h:c.op=2) (hf:lk GN.id g.nodes c.id=some n) (hx:¬∃e∈g.edges,e.fr=c.id∨e.to=c.id):Ba g c=(0,{g with nodes:=Cc BX GN.id c.id g.nodes}):=by
 unfold lk at hf;unfold Ba;rw[if_neg (by omega),hf];show(if c.op=2 then _ else _)=_;rw[if_pos h,if_neg hx]
theorem nG3 {n:GN} (h:c.op=3) (hf:lk GN.id g.nodes c.id=some n) (hx:c.name∉n.labels) (hl:n.labels.length<8):Ba g c=(0,{g with nodes:=A8 BX GN.id {n with ln:=true,labels:=A8 Op.bytesLess id c.name n.labels} g.nodes}):=by
 unfold lk at hf;unfold Ba;rw[if_neg (by omega),hf];show(if c.op=2 then _ else _)=_;rw[if_neg (by omega),if_pos h,if_neg hx,if_pos hl]
theorem nG4 {n:GN} (h:c.op=4) (hf:lk GN.id g.nodes c.id=some n) (hx:c.name∈n.labels):Ba g c=(0,{g with nodes:=A8 BX GN.id {n with ln:=true,labels:=Cc Op.bytesLess id c.name n.labels} g.nodes}):=by
 unfold lk at hf;unfold Ba;rw[if_neg (by omega),hf];show(if c.op=2 then _ else _)=_;rw[if_neg (by omega),if_neg (by omega),if_pos h,if_pos hx]
theorem Avw {n:GN} (h:c.op=5) (hf:lk GN.id g.nodes c.id=some n) (hx:isNull c.v):Ba g c=(0,{g with nodes:=A8 BX GN.id {n with props:=Cc Op.bytesLess GP.key c.name n.props} g.nodes}):=by
 unfold lk at hf;unfold Ba;rw[if_neg (by omega),hf];show(if c.op=2 then _ else _)=_;rw[if_neg (by omega),if_neg (by omega),if_neg (by omega),if_pos hx]
theorem nG5 {n:GN} (h:c.op=5) (hf:lk GN.id g.nodes c.id=some n) (hx:¬isNull c.v) (hl:(∃ p∈n.props,GP.key p=c.name)∨n.props.length<16):Ba g c=(0,{g with nodes:=A8 BX GN.id {n with pn:=true,props:=A8 Op.bytesLess GP.key ⟨c.name,c.v⟩ n.props} g.nodes}):=by
 unfold lk at hf;unfold Ba;rw[if_neg (by omega),hf];show(if c.op=2 then _ else _)=_;rw[if_neg (by omega),if_neg (by omega),if_neg (by omega),if_neg hx,if_pos hl]
theorem nG1 (h:c.op=1) (hx:¬∃n∈g.nodes,n.id=c.id) (hl:g.nodes.length<2000):Ba g c=(0,{g with nn:=true,nodes:=A8 BX GN.id ⟨c.id,false,[],false,[]⟩ g.nodes,BF:=if c.id+1>g.BF then c.id+1 else g.BF}):=by unfold Ba;rw[if_pos h,if_neg hx,if_pos hl]
theorem eG6 (h:c.op=6) (hx:¬∃n∈g.edges,n.id=c.id) (hn:(∃ n∈g.nodes,n.id=c.fr)∧(∃ n∈g.nodes,n.id=c.to)) (hl:g.edges.length<4000):BD g c=(0,{g with en:=true,edges:=A8 BX GE.id ⟨c.id,c.fr,c.to,c.name,false,[]⟩ g.edges,BA:=if c.id+1>g.BA then c.id+1 else g.BA}):=by unfold BD;rw[if_pos h,if_neg hx,if_pos hn,if_pos hl]
theorem eG7 {n:GE} (h:c.op=7) (hf:lk GE.id g.edges c.id=some n):BD g c=(0,{g with edges:=Cc BX GE.id c.id g.edges}):=by
 unfold lk at hf;unfold BD;rw[if_neg (by omega),hf];show(if c.op=7 then _ else _)=_;rw[if_pos h]
theorem Avx {n:GE} (h:c.op=8) (hf:lk GE.id g.edges c.id=some n) (hx:isNull c.v):BD g c=(0,{g with edges:=A8 BX GE.id {n with props:=Cc Op.bytesLess GP.key c.name n.props} g.edges}):=by
 unfold lk at hf;unfold BD;rw[if_neg (by omega),hf];show(if c.op=7 then _ else _)=_;rw[if_neg (by omega),if_pos hx]
theorem eG8 {n:GE} (h:c.op=8) (hf:lk GE.id g.edges c.id=some n) (hx:¬isNull c.v) (hl:(∃ p∈n.props,GP.key p=c.name)∨n.props.length<16):BD g c=(0,{g with edges:=A8 BX GE.id {n with pn:=true,props:=A8 Op.bytesLess GP.key ⟨c.name,c.v⟩ n.props} g.edges}):=by
 unfold lk at hf;unfold BD;rw[if_neg (by omega),hf];show(if c.op=7 then _ else _)=_;rw[if_neg (by omega),if_neg hx,if_pos hl]
end
theorem AeB {v:GV} (h:DW v):¬isNull v:=fun h2=>by
 have:=h2.1
 rcases h.2.2 with⟨a,_⟩|⟨a,_⟩|⟨a,_⟩<;>omega
theorem TY {h:GG} {c:GC} (h0:Il c=0) (h5:c.op≤5):stepG h c=Ba h c:=by unfold stepG;rw[if_neg (fun k=>k h0),if_pos h5]
theorem ZM {h:GG} {c:GC} (h0:Il c=0) (h5:¬c.op≤5):stepG h c=BD h c:=by unfold stepG;rw[if_neg (fun k=>k h0),if_neg h5]
structure AtN (h:GG) (z:Int) (m:GN) (f:Int→Option GN) (E:List GE):Prop where
 ask:Ef h
 here:lk GN.id h.nodes z=some m
 rest:∀y,y≠z→lk GN.id h.nodes y=f y
 ed:h.edges=E
theorem AtN.put {h:GG} {z:Int} {m m':GN} {f:Int→Option GN} {E:List GE} (a:AtN h z m f E) (hid:m'.id=z) (hn:YE m'):AtN {h with nodes:=A8 BX GN.id m' h.nodes} z m' f E where
 ask:=a.ask.Lu hn ⟨m,(EF a.here).1,by rw[hid];exact(EF a.here).2⟩
 here:=by show lk GN.id (A8 BX GN.id m' h.nodes) z=_;rw[OU Ak a.ask.iN,if_pos hid.symm]
 rest:=fun y hy=>by show lk GN.id (A8 BX GN.id m' h.nodes) y=_;rw[OU Ak a.ask.iN,if_neg (by rw[hid];exact hy)];exact a.rest y hy
 ed:=a.ed
theorem AtN.id {h:GG} {z:Int} {m:GN} {f:Int→Option GN} {E:List GE} (a:AtN h z m f E):m.id=z:=(EF a.here).2
theorem AtN.na {h:GG} {z:Int} {m:GN} {f:Int→Option GN} {E:List GE} (a:AtN h z m f E):YE m:=a.ask.aN m (EF a.here).1
section
variable {z:Int} {f:Int→Option GN} {E:List GE}
theorem Aiy (hz:Jw z):∀{D:List (List UInt8)} {h:GG} {m:GN},D.Nodup→(∀ x∈D,x∈m.labels)→(∀ x∈D,isName x)→AtN h z m f E→
 ∃h' m',FT h (D.map (DU 4 z))=some h'∧AtN h' z m' f E∧m'.props=m.props∧∀y,y∈m'.labels↔y∈m.labels∧y∉D
 |[],h,m,_,_,_,a=>⟨h,m,rfl,a,rfl,fun y=>by simp⟩
 |x::D,h,m,hD,hx,hn,a=>by
  have hD':=List.nodup_cons.1 hD
  have hn0:=a.na
  have h1:stepG h (DU 4 z x)=(0,{h with nodes:=A8 BX GN.id {m with ln:=true,labels:=Cc Op.bytesLess _root_.id x m.labels} h.nodes}):=by
   rw[TY (AeA (by omega) hz (hn x (by simp))) (show (4:Int)≤5 by decide)]
   exact nG4 (c:=DU 4 z x) rfl a.here (hx x (by simp))
  have a1:=a.put (m':={m with ln:=true,labels:=Cc Op.bytesLess _root_.id x m.labels}) a.id ⟨EJ Ai hn0.iL,Nat.le_trans (Dz Ai) hn0.lL,hn0.iP,hn0.lP⟩
  obtain⟨h',m',r,a',e,hm⟩:=Aiy hz (D:=D) hD'.2 (fun y hy=>(Na Ai).2 ⟨hx y (by simp[hy]),fun e=>hD'.1 (by cases e;exact hy)⟩) (fun y hy=>hn y (by simp[hy])) a1
  refine⟨h',m',Hg h1 r,a',e,fun y=>?_⟩
  rw[hm,Na Ai,List.mem_cons]
  constructor
  ·rintro⟨⟨q1,q2⟩,q3⟩;exact⟨q1,fun q=>q.elim q2 q3⟩
  ·rintro⟨q1,q2⟩;exact⟨⟨q1,fun q=>q2 (.inl q)⟩,fun q=>q2 (.inr q)⟩
theorem Aiz (hz:Jw z) {W:List (List UInt8)} (hW:W.length≤8):∀{D:List (List UInt8)} {h:GG} {m:GN},D.Nodup→(∀ x∈D,x∉m.labels)→(∀ x∈D,x∈W)→(∀ x∈m.labels,x∈W)→(∀ x∈D,isName x)→AtN h z m f E→
 ∃h' m',FT h (D.map (DU 3 z))=some h'∧AtN h' z m' f E∧m'.props=m.props∧∀y,y∈m'.labels↔y∈m.labels∨y∈D
 |[],h,m,_,_,_,_,_,a=>⟨h,m,rfl,a,rfl,fun y=>by simp⟩
 |x::D,h,m,hD,hx,hxW,hmW,hn,a=>by
  have hD':=List.nodup_cons.1 hD
  have hn0:=a.na
  have hlen:m.labels.length<8:=by
   have h2:m.labels.length<W.length:=AeC (NT Ai (by have:=EI hn0.iL;simpa using this)) hmW (hxW x (by simp)) (hx x (by simp))
   omega
  have h1:stepG h (DU 3 z x)=(0,{h with nodes:=A8 BX GN.id {m with ln:=true,labels:=A8 Op.bytesLess _root_.id x m.labels} h.nodes}):=by
   rw[TY (AeA (by omega) hz (hn x (by simp))) (show (3:Int)≤5 by decide)]
   exact nG3 (c:=DU 3 z x) rfl a.here (hx x (by simp)) hlen
  have a1:=a.put (m':={m with ln:=true,labels:=A8 Op.bytesLess _root_.id x m.labels}) a.id ⟨EK Ai hn0.iL,Nat.le_trans (EC Ai) (by omega),hn0.iP,hn0.lP⟩
  have hmem:∀y,y∈A8 Op.bytesLess _root_.id x m.labels↔y=x∨y∈m.labels:=fun y=>by
   rw[KT Ai]
   constructor
   ·rintro(h|h)
    ·exact .inl h
    ·exact .inr h.1
   ·rintro(h|h)
    ·exact .inl h
    ·exact .inr ⟨h,fun e=>hx x (by simp) (by cases e;exact h)⟩
  obtain⟨h',m',r,a',e,hm⟩:=Aiz hz hW (D:=D) hD'.2 (fun y hy hq=>by
        rcases(hmem y).1 hq with rfl|hq
        ·exact hD'.1 hy
        ·exact hx y (by simp[hy]) hq) (fun y hy=>hxW y (by simp[hy])) (fun y hy=>by
        rcases(hmem y).1 hy with rfl|hy
        ·exact hxW _ (by simp)
        ·exact hmW y hy) (fun y hy=>hn y (by simp[hy])) a1
  refine⟨h',m',Hg h1 r,a',e,fun y=>?_⟩
  rw[hm,hmem,List.mem_cons]
  constructor
  ·rintro((q|q)|q)
   ·exact .inr (.inl q)
   ·exact .inl q
   ·exact .inr (.inr q)
  ·rintro(q|q|q)
   ·exact .inl (.inr q)
   ·exact .inl (.inl q)
   ·exact .inr q
theorem AiA (hz:Jw z):∀{D:List (List UInt8)} {h:GG} {m:GN},(∀ x∈D,isName x)→AtN h z m f E→
 ∃h' m',FT h (D.map (DU 5 z))=some h'∧AtN h' z m' f E∧m'.labels=m.labels∧∀k,lk GP.key m'.props k=if k∈D then none else lk GP.key m.props k
 |[],h,m,_,a=>⟨h,m,rfl,a,rfl,fun y=>by simp⟩
 |x::D,h,m,hn,a=>by
  have hn0:=a.na
  have h1:stepG h (DU 5 z x)=(0,{h with nodes:=A8 BX GN.id {m with props:=Cc Op.bytesLess GP.key x m.props} h.nodes}):=by
   rw[TY (AeA (by omega) hz (hn x (by simp))) (show (5:Int)≤5 by decide)]
   exact Avw (c:=DU 5 z x) rfl a.here Le
  have a1:=a.put (m':={m with props:=Cc Op.bytesLess GP.key x m.props}) a.id ⟨hn0.iL,hn0.lL,EJ Ai hn0.iP,Nat.le_trans (Dz Ai) hn0.lP⟩
  obtain⟨h',m',r,a',e,hm⟩:=AiA hz (D:=D) (fun y hy=>hn y (by simp[hy])) a1
  refine⟨h',m',Hg h1 r,a',e,fun k=>?_⟩
  rw[hm]
  show(if k∈D then none else lk GP.key (Cc Op.bytesLess GP.key x m.props) k)=_
  rw[ZN Ai hn0.iP]
  by_cases q:k∈D
  ·rw[if_pos q,if_pos (by simp[q])]
  ·rw[if_neg q]
   by_cases q2:k=x
   ·rw[if_pos q2,if_pos (by simp[q2])]
   ·rw[if_neg q2,if_neg (by simp[q,q2])]
theorem AiB (hz:Jw z) {W:List (List UInt8)} (hW:W.length≤16):∀{D:List GP} {h:GG} {m:GN},(keysOf D).Nodup→(∀ p∈D,p.key∈W∧isName p.key∧DW p.v)→(∀ p∈m.props,p.key∈W)→AtN h z m f E→
 ∃h' m',FT h (D.map fun p=>⟨5,z,0,0,p.key,p.v⟩)=some h'∧AtN h' z m' f E∧m'.labels=m.labels∧∀k,lk GP.key m'.props k=(lk GP.key D k).or (lk GP.key m.props k)
 |[],h,m,_,_,_,a=>⟨h,m,rfl,a,rfl,fun y=>rfl⟩
 |p::D,h,m,hD,hp,hmW,a=>by
  have hD':=List.nodup_cons.1 hD
  have hn0:=a.na
  obtain⟨p1,p2,p3⟩:=hp p (by simp)
  have hfit:(∃ q∈m.props,GP.key q=p.key)∨m.props.length<16:=by
   by_cases hq:∃q∈m.props,GP.key q=p.key
   ·exact .inl hq
   ·have h2:(m.props.map GP.key).length<W.length:=AeC (NT Ai (EI hn0.iP)) (fun y hy=>by
       obtain⟨q,hq,rfl⟩:=List.mem_map.1 hy;exact hmW q hq) p1 (fun hy=>hq (by obtain⟨q,hq,e⟩:=List.mem_map.1 hy;exact⟨q,hq,e⟩))
    rw[List.length_map]at h2
    exact .inr (by omega)
  have h1:stepG h ⟨5,z,0,0,p.key,p.v⟩=(0,{h with nodes:=A8 BX GN.id {m with pn:=true,props:=A8 Op.bytesLess GP.key p m.props} h.nodes}):=by
   rw[TY (AsP (by omega) hz p2 p3) (show (5:Int)≤5 by decide)]
   exact nG5 (c:=⟨5,z,0,0,p.key,p.v⟩) rfl a.here (AeB p3) hfit
  have a1:=a.put (m':={m with pn:=true,props:=A8 Op.bytesLess GP.key p m.props}) a.id ⟨hn0.iL,hn0.lL,EK Ai hn0.iP,by
        rcases hfit with hx|hx
        ·exact Nat.le_trans (Io Ai hx) hn0.lP
        ·exact Nat.le_trans (EC Ai) (by omega)⟩
  obtain⟨h',m',r,a',e,hm⟩:=AiB hz hW (D:=D) hD'.2 (fun q hq=>hp q (by simp[hq])) (fun q hq=>by
        rcases(KT Ai).1 hq with rfl|hq
        ·exact p1
        ·exact hmW q hq.1) a1
  refine⟨h',m',Hg h1 r,a',e,fun k=>?_⟩
  rw[hm]
  show(lk GP.key D k).or (lk GP.key (A8 Op.bytesLess GP.key p m.props) k)=_
  rw[OU Ai hn0.iP]
  have e3:lk GP.key (p::D) k=if p.key=k then some p else lk GP.key D k:=by
   unfold lk
   rw[List.find?_cons]
   by_cases q:p.key=k
   ·rw[decide_eq_true q,if_pos q]
   ·rw[decide_eq_false q,if_neg q]
  rw[e3]
  by_cases q:p.key=k
  ·have e4:lk GP.key D k=none:=KE.2 fun y hy e=>hD'.1 (by rw[q,←e];exact List.mem_map_of_mem hy)
   rw[if_pos q,if_pos q.symm,e4];rfl
  ·rw[if_neg q,if_neg (fun e=>q e.symm)]
end
theorem Am4 {P Q was:List GP} (hP:Inc Op.bytesLess GP.key P) (hQ:Inc Op.bytesLess GP.key Q) (hpl:allPlain Q)
 (h:∀k,lk GP.key P k=(lk GP.key (Q.filter fun p=>decide (EL 12 (DX was p.key) p.v≠0)) k).or (if k∈keysOf was∧k∉keysOf Q then none else lk GP.key was k)):QI SP P Q:=by
 have hD:Inc Op.bytesLess GP.key (Q.filter fun p=>decide (EL 12 (DX was p.key) p.v≠0)):=hQ.filter _
 have hval:∀b∈Q,∃a∈P,a.key=b.key∧SP a b:=by
  intro b hb
  have hk:=h b.key
  by_cases hc:EL 12 (DX was b.key) b.v≠0
  ·have e1:lk GP.key (Q.filter fun p=>decide (EL 12 (DX was p.key) p.v≠0)) b.key=some b:=Di Ai hD (List.mem_filter.2 ⟨hb,decide_eq_true hc⟩) rfl
   rw[e1]at hk
   obtain⟨h1,h2⟩:=EF hk
   exact⟨b,h1,rfl,rfl,by have:=(PU 12).anti b.v b.v;omega⟩
  ·have hc:EL 12 (DX was b.key) b.v=0:=Classical.not_not.1 hc
   have e1:lk GP.key (Q.filter fun p=>decide (EL 12 (DX was p.key) p.v≠0)) b.key=none:=KE.2 fun y hy e=>by
        obtain⟨y1,y2⟩:=List.mem_filter.1 hy
        have:=Di Ai hQ y1 e
        rw[Di Ai hQ hb rfl]at this
        cases this
        exact(of_decide_eq_true y2) hc
   rw[e1,if_neg (fun h=>h.2 (List.mem_map_of_mem hb))]at hk
   have hk:lk GP.key P b.key=lk GP.key was b.key:=hk
   cases hw:lk GP.key was b.key with
   |none=>
    have:DX was b.key=Z0:=Aa2 fun hm=>by
     obtain⟨q,hq,e⟩:=List.mem_map.1 hm
     exact KE.1 hw q hq e
    rw[this]at hc
    exact absurd hc (Aa3 (hpl b hb))
   |some q=>
    rw[hw]at hk
    obtain⟨h1,h2⟩:=EF hk
    have:DX was b.key=q.v:=by unfold DX;rw[show was.find? (Zx b.key)=some q from hw]
    rw[this]at hc
    exact⟨q,h1,h2,h2,hc⟩
 refine Ac0 Ai hP hQ (fun a ha=>?_) (fun b hb=>?_)
 ·have hk:=h a.key
  rw[Di Ai hP ha rfl]at hk
  cases hd:lk GP.key (Q.filter fun p=>decide (EL 12 (DX was p.key) p.v≠0)) a.key with
  |some b=>
   rw[hd]at hk
   cases hk
   exact⟨a,(List.mem_filter.1 (EF hd).1).1,rfl,rfl,by have:=(PU 12).anti a.v a.v;omega⟩
  |none=>
   rw[hd]at hk
   have hk:some a=if a.key∈keysOf was∧a.key∉keysOf Q then none else lk GP.key was a.key:=hk
   split at hk
   ·cases hk
   rename_i hn
   have hw:=(EF hk.symm).1
   have hq:a.key∈keysOf Q:=Classical.not_not.1 fun h=>hn ⟨List.mem_map_of_mem hw,h⟩
   obtain⟨b,hb,e⟩:=List.mem_map.1 hq
   obtain⟨a',ha',e',hs⟩:=hval b hb
   have:a'=a:=by
        have h1:=Di Ai hP ha' rfl
        rw[e',e,Di Ai hP ha rfl]at h1
        cases h1;rfl
   subst this
   exact⟨b,hb,e'.symm,hs⟩
 ·obtain⟨a,ha,e,_⟩:=hval b hb
  exact⟨a,ha,e⟩
theorem AhE {h:GG} {z:Int} {m n w:GN} {f:Int→Option GN} {E:List GE} {N:List GN} (a:AtN h z m f E) (hn:VN n) (e:n.id=z) (hw:Fg N n=w) (h1:m.labels=w.labels) (h2:m.props=w.props) (hw1:allNames w.labels) (hw2:allNames (keysOf w.props)):
 ∃h' m',FT h (H9 N n)=some h'∧AtN h' z m' f E∧SN m' n:=by
 subst e
 unfold H9 AQ valuesL
 rw[hw,←h1,←h2]
 have hz:=hn.id
 have hnd:∀{l:List (List UInt8)},Inc Op.bytesLess _root_.id l→l.Nodup:=fun h=>NT Ai (by have:=EI h;simpa using this)
 have hm:=a.na
 obtain⟨k1,m1,r1,a1,e1,q1⟩:=Aiy hz (D:=m.labels.filter fun x=>decide (x∉n.labels)) ((hnd hm.iL).filter _) (fun x hx=>(List.mem_filter.1 hx).1) (fun x hx=>hw1 x (by rw[← h1];exact(List.mem_filter.1 hx).1)) a
 obtain⟨k2,m2,r2,a2,e2,q2⟩:=AiA hz (D:=(keysOf m.props).filter fun x=>decide (x∉keysOf n.props)) (fun x hx=>hw2 x (by rw[← h2];exact(List.mem_filter.1 hx).1)) a1
 have hl2:∀y,y∈m2.labels↔y∈m.labels∧y∈n.labels:=fun y=>by
  rw[e2,q1,List.mem_filter]
  constructor
  ·rintro⟨h,k⟩;exact⟨h,Classical.not_not.1 fun q=>k ⟨h,decide_eq_true q⟩⟩
  ·rintro⟨h,k⟩;exact⟨h,fun q=>of_decide_eq_true q.2 k⟩
 obtain⟨k3,m3,r3,a3,e3,q3⟩:=Aiz hz hn.a.lL (D:=n.labels.filter fun x=>decide (x∉m.labels)) ((hnd hn.a.iL).filter _) (fun x hx hq=>of_decide_eq_true (List.mem_filter.1 hx).2 ((hl2 x).1 hq).1) (fun x hx=>(List.mem_filter.1 hx).1) (fun x hx=>((hl2 x).1 hx).2) (fun x hx=>hn.nl x (List.mem_filter.1 hx).1) a2
 have hp2:∀k,lk GP.key m2.props k=if k∈keysOf m.props∧k∉keysOf n.props then none else lk GP.key m.props k:=fun k=>by
  rw[q2,e1]
  by_cases q:k∈keysOf m.props∧k∉keysOf n.props
  ·rw[if_pos q,if_pos (List.mem_filter.2 ⟨q.1,decide_eq_true q.2⟩)]
  ·rw[if_neg q,if_neg fun h=>q ⟨(List.mem_filter.1 h).1,of_decide_eq_true (List.mem_filter.1 h).2⟩]
 have hnk:(keysOf n.props).Nodup:=NT Ai (EI hn.a.iP)
 obtain⟨k4,m4,r4,a4,e4,q4⟩:=AiB hz (W:=keysOf n.props) (by unfold keysOf;rw[List.length_map];exact hn.a.lP) (D:=n.props.filter fun p=>decide (EL 12 (DX m.props p.key) p.v≠0)) (List.Nodup.sublist (List.filter_sublist.map _) hnk) (fun p hp=>by
  have hp:=(List.mem_filter.1 hp).1
  exact⟨List.mem_map_of_mem hp,hn.nk _ (List.mem_map_of_mem hp),hn.pl p hp⟩) (fun p hp=>by
  rw[e3]at hp
  have h3:=hp2 p.key
  rw[Di Ai a2.na.iP hp rfl]at h3
  split at h3
  ·cases h3
  rename_i hq
  have hpm:=(EF h3.symm).1
  exact Classical.not_not.1 fun h=>hq ⟨List.mem_map_of_mem hpm,h⟩) a3
 refine⟨k4,m4,Hq r1 (Hq r2 (Hq r3 r4)),a4,a4.id,?_,?_⟩
 ·refine Ac1 Ai (by have:=EI a4.na.iL;simpa using this) (by have:=EI hn.a.iL;simpa using this) fun y=>?_
  rw[e4,q3,hl2,List.mem_filter]
  constructor
  ·rintro(h|h)
   ·exact h.2
   ·exact h.1
  ·intro h
   by_cases q:y∈m.labels
   ·exact .inl ⟨q,h⟩
   ·exact .inr ⟨h,decide_eq_true q⟩
 ·refine Am4 (was:=m.props) a4.na.iP hn.a.iP hn.pl fun k=>?_
  rw[q4,e3,hp2]
structure AtE (h:GG) (z:Int) (m:GE) (f:Int→Option GE) (N:List GN):Prop where
 ask:Ef h
 here:lk GE.id h.edges z=some m
 rest:∀y,y≠z→lk GE.id h.edges y=f y
 nd:h.nodes=N
theorem AtE.put {h:GG} {z:Int} {m m':GE} {f:Int→Option GE} {N:List GN} (a:AtE h z m f N) (hid:m'.id=z) (hn:YF m'):AtE {h with edges:=A8 BX GE.id m' h.edges} z m' f N where
 ask:=a.ask.Tn hn ⟨m,(EF a.here).1,by rw[hid];exact(EF a.here).2⟩
 here:=by show lk GE.id (A8 BX GE.id m' h.edges) z=_;rw[OU Ak a.ask.iE,if_pos hid.symm]
 rest:=fun y hy=>by show lk GE.id (A8 BX GE.id m' h.edges) y=_;rw[OU Ak a.ask.iE,if_neg (by rw[hid];exact hy)];exact a.rest y hy
 nd:=a.nd
theorem AtE.id {h:GG} {z:Int} {m:GE} {f:Int→Option GE} {N:List GN} (a:AtE h z m f N):m.id=z:=(EF a.here).2
theorem AtE.na {h:GG} {z:Int} {m:GE} {f:Int→Option GE} {N:List GN} (a:AtE h z m f N):YF m:=a.ask.aE m (EF a.here).1
section
variable {z:Int} {f:Int→Option GE} {N:List GN}
theorem AjB (hz:Jw z):∀{D:List (List UInt8)} {h:GG} {m:GE},(∀ x∈D,isName x)→AtE h z m f N→
 ∃h' m',FT h (D.map (DU 8 z))=some h'∧AtE h' z m' f N∧(m'.fr=m.fr∧m'.to=m.to∧m'.ty=m.ty)∧∀k,lk GP.key m'.props k=if k∈D then none else lk GP.key m.props k
 |[],h,m,_,a=>⟨h,m,rfl,a,⟨rfl,rfl,rfl⟩,fun y=>by simp⟩
 |x::D,h,m,hn,a=>by
  have hn0:=a.na
  have h1:stepG h (DU 8 z x)=(0,{h with edges:=A8 BX GE.id {m with props:=Cc Op.bytesLess GP.key x m.props} h.edges}):=by
   rw[ZM (AeA (by omega) hz (hn x (by simp))) (show ¬(8:Int)≤5 by decide)]
   exact Avx (c:=DU 8 z x) rfl a.here Le
  have a1:=a.put (m':={m with props:=Cc Op.bytesLess GP.key x m.props}) a.id ⟨EJ Ai hn0.iP,Nat.le_trans (Dz Ai) hn0.lP⟩
  obtain⟨h',m',r,a',e,hm⟩:=AjB hz (D:=D) (fun y hy=>hn y (by simp[hy])) a1
  refine⟨h',m',Hg h1 r,a',e,fun k=>?_⟩
  rw[hm]
  show(if k∈D then none else lk GP.key (Cc Op.bytesLess GP.key x m.props) k)=_
  rw[ZN Ai hn0.iP]
  by_cases q:k∈D
  ·rw[if_pos q,if_pos (by simp[q])]
  ·rw[if_neg q]
   by_cases q2:k=x
   ·rw[if_pos q2,if_pos (by simp[q2])]
   ·rw[if_neg q2,if_neg (by simp[q,q2])]
theorem AjC (hz:Jw z) {W:List (List UInt8)} (hW:W.length≤16):∀{D:List GP} {h:GG} {m:GE},(keysOf D).Nodup→(∀ p∈D,p.key∈W∧isName p.key∧DW p.v)→(∀ p∈m.props,p.key∈W)→AtE h z m f N→
 ∃h' m',FT h (D.map fun p=>⟨8,z,0,0,p.key,p.v⟩)=some h'∧AtE h' z m' f N∧(m'.fr=m.fr∧m'.to=m.to∧m'.ty=m.ty)∧∀k,lk GP.key m'.props k=(lk GP.key D k).or (lk GP.key m.props k)
 |[],h,m,_,_,_,a=>⟨h,m,rfl,a,⟨rfl,rfl,rfl⟩,fun y=>rfl⟩
 |p::D,h,m,hD,hp,hmW,a=>by
  have hD':=List.nodup_cons.1 hD
  have hn0:=a.na
  obtain⟨p1,p2,p3⟩:=hp p (by simp)
  have hfit:(∃ q∈m.props,GP.key q=p.key)∨m.props.length<16:=by
   by_cases hq:∃q∈m.props,GP.key q=p.key
   ·exact .inl hq
   ·have h2:(m.props.map GP.key).length<W.length:=AeC (NT Ai (EI hn0.iP)) (fun y hy=>by
       obtain⟨q,hq,rfl⟩:=List.mem_map.1 hy;exact hmW q hq) p1 (fun hy=>hq (by obtain⟨q,hq,e⟩:=List.mem_map.1 hy;exact⟨q,hq,e⟩))
    rw[List.length_map]at h2
    exact .inr (by omega)
  have h1:stepG h ⟨8,z,0,0,p.key,p.v⟩=(0,{h with edges:=A8 BX GE.id {m with pn:=true,props:=A8 Op.bytesLess GP.key p m.props} h.edges}):=by
   rw[ZM (AsP (by omega) hz p2 p3) (show ¬(8:Int)≤5 by decide)]
   exact eG8 (c:=⟨8,z,0,0,p.key,p.v⟩) rfl a.here (AeB p3) hfit
  have a1:=a.put (m':={m with pn:=true,props:=A8 Op.bytesLess GP.key p m.props}) a.id ⟨EK Ai hn0.iP,by
        rcases hfit with hx|hx
        ·exact Nat.le_trans (Io Ai hx) hn0.lP
        ·exact Nat.le_trans (EC Ai) (by omega)⟩
  obtain⟨h',m',r,a',e,hm⟩:=AjC hz hW (D:=D) hD'.2 (fun q hq=>hp q (by simp[hq])) (fun q hq=>by
        rcases(KT Ai).1 hq with rfl|hq
        ·exact p1
        ·exact hmW q hq.1) a1
  refine⟨h',m',Hg h1 r,a',e,fun k=>?_⟩
  rw[hm]
  show(lk GP.key D k).or (lk GP.key (A8 Op.bytesLess GP.key p m.props) k)=_
  rw[OU Ai hn0.iP]
  have e3:lk GP.key (p::D) k=if p.key=k then some p else lk GP.key D k:=by
   unfold lk
   rw[List.find?_cons]
   by_cases q:p.key=k
   ·rw[decide_eq_true q,if_pos q]
   ·rw[decide_eq_false q,if_neg q]
  rw[e3]
  by_cases q:p.key=k
  ·have e4:lk GP.key D k=none:=KE.2 fun y hy e=>hD'.1 (by rw[q,←e];exact List.mem_map_of_mem hy)
   rw[if_pos q,if_pos q.symm,e4];rfl
  ·rw[if_neg q,if_neg (fun e=>q e.symm)]
end
theorem AhF {h:GG} {z:Int} {m n:GE} {f:Int→Option GE} {N:List GN} {E:List GE} {w:List GP} (a:AtE h z m f N) (hn:VE n) (e:n.id=z) (hw:KO E n=w) (h1:m.fr=n.fr∧m.to=n.to∧m.ty=n.ty) (h2:m.props=w) (hw2:allNames (keysOf w)):
 ∃h' m',FT h (D8 E n)=some h'∧AtE h' z m' f N∧SE m' n:=by
 subst e
 unfold D8 AQ valuesL
 rw[hw,←h2]
 have hz:=hn.id
 obtain⟨k2,m2,r2,a2,e2,q2⟩:=AjB hz (D:=(keysOf m.props).filter fun x=>decide (x∉keysOf n.props)) (fun x hx=>hw2 x (by rw[← h2];exact(List.mem_filter.1 hx).1)) a
 have hp2:∀k,lk GP.key m2.props k=if k∈keysOf m.props∧k∉keysOf n.props then none else lk GP.key m.props k:=fun k=>by
  rw[q2]
  by_cases q:k∈keysOf m.props∧k∉keysOf n.props
  ·rw[if_pos q,if_pos (List.mem_filter.2 ⟨q.1,decide_eq_true q.2⟩)]
  ·rw[if_neg q,if_neg fun h=>q ⟨(List.mem_filter.1 h).1,of_decide_eq_true (List.mem_filter.1 h).2⟩]
 have hnk:(keysOf n.props).Nodup:=NT Ai (EI hn.a.iP)
 obtain⟨k4,m4,r4,a4,e4,q4⟩:=AjC hz (W:=keysOf n.props) (by unfold keysOf;rw[List.length_map];exact hn.a.lP) (D:=n.props.filter fun p=>decide (EL 12 (DX m.props p.key) p.v≠0)) (List.Nodup.sublist (List.filter_sublist.map _) hnk) (fun p hp=>by
  have hp:=(List.mem_filter.1 hp).1
  exact⟨List.mem_map_of_mem hp,hn.nk _ (List.mem_map_of_mem hp),hn.pl p hp⟩) (fun p hp=>by
  have h3:=hp2 p.key
  rw[Di Ai a2.na.iP hp rfl]at h3
  split at h3
  ·cases h3
  rename_i hq
  have hpm:=(EF h3.symm).1
  exact Classical.not_not.1 fun h=>hq ⟨List.mem_map_of_mem hpm,h⟩) a2
 refine⟨k4,m4,Hq r2 r4,a4,a4.id,by rw[e4.1,e2.1,h1.1],by rw[e4.2.1,e2.2.1,h1.2.1],by rw[e4.2.2,e2.2.2,h1.2.2],?_⟩
 exact Am4 (was:=m.props) a4.na.iP hn.a.iP hn.pl fun k=>by rw[q4,hp2]
section
variable {κ α:Type}
theorem Afx {l:List GN} {z:Int} (h:lk GN.id l z=none):¬∃n∈l,n.id=z:=fun⟨n,hn,e⟩=>KE.1 h n hn e
theorem AcQ {l:List GE} {z:Int} (h:lk GE.id l z=none):¬∃n∈l,n.id=z:=fun⟨n,hn,e⟩=>KE.1 h n hn e
end
theorem Ahy:∀{D:List Int} {h:GG},Ef h→(∀ z∈D,Jw z)→D.Nodup→(∀ z∈D,∃x∈h.edges,x.id=z)→
 ∃h',FT h (D.map fun z=>DU 7 z [])=some h'∧Ef h'∧h'.nodes=h.nodes∧h'.edges.length≤h.edges.length∧∀y,lk GE.id h'.edges y=if y∈D then none else lk GE.id h.edges y
 |[],h,a,_,_,_=>⟨h,rfl,a,rfl,Nat.le_refl _,fun y=>by simp⟩
 |z::D,h,a,hz,hD,hx=>by
  have hD':=List.nodup_cons.1 hD
  obtain⟨x,hxm,hxi⟩:=hx z (by simp)
  have h1:stepG h (DU 7 z [])=(0,{h with edges:=Cc BX GE.id z h.edges}):=by
   rw[ZM (Ahz (by omega) (hz z (by simp))) (show ¬(7:Int)≤5 by decide)]
   exact eG7 (c:=DU 7 z []) rfl (Di Ak a.iE hxm hxi)
  have a1:=a.step (c:=DU 7 z [])
  rw[h1]at a1
  obtain⟨h',r,a',e1,el,e2⟩:=Ahy (D:=D) a1 (fun y hy=>hz y (by simp[hy])) hD'.2 (fun y hy=>by
   obtain⟨x,hx,e⟩:=hx y (by simp[hy])
   exact⟨x,(Na Ak).2 ⟨hx,fun e2=>hD'.1 (by rw[← e2,e];exact hy)⟩,e⟩)
  refine⟨h',Hg h1 r,a',e1,Nat.le_trans el (Dz Ak),fun y=>?_⟩
  rw[e2]
  show(if y∈D then none else lk GE.id (Cc BX GE.id z h.edges) y)=_
  rw[ZN Ak a.iE]
  by_cases q:y∈D
  ·rw[if_pos q,if_pos (by simp[q])]
  ·rw[if_neg q]
   by_cases q2:y=z
   ·rw[if_pos q2,if_pos (by simp[q2])]
   ·rw[if_neg q2,if_neg (by simp[q,q2])]
theorem AhA:∀{D:List Int} {h:GG},Ef h→(∀ z∈D,Jw z)→D.Nodup→(∀ z∈D,∃x∈h.nodes,x.id=z)→(∀ e∈h.edges,e.fr∉D∧e.to∉D)→
 ∃h',FT h (D.map fun z=>DU 2 z [])=some h'∧Ef h'∧h'.edges=h.edges∧h'.nodes.length≤h.nodes.length∧∀y,lk GN.id h'.nodes y=if y∈D then none else lk GN.id h.nodes y
 |[],h,a,_,_,_,_=>⟨h,rfl,a,rfl,Nat.le_refl _,fun y=>by simp⟩
 |z::D,h,a,hz,hD,hx,he=>by
  have hD':=List.nodup_cons.1 hD
  obtain⟨x,hxm,hxi⟩:=hx z (by simp)
  have h1:stepG h (DU 2 z [])=(0,{h with nodes:=Cc BX GN.id z h.nodes}):=by
   rw[TY (Ahz (by omega) (hz z (by simp))) (show (2:Int)≤5 by decide)]
   refine nG2 (c:=DU 2 z []) rfl (Di Ak a.iN hxm hxi) ?_
   rintro⟨e,hm,h|h⟩
   ·exact(he e hm).1 (by rw[show e.fr=z from h];simp)
   ·exact(he e hm).2 (by rw[show e.to=z from h];simp)
  have a1:=a.step (c:=DU 2 z [])
  rw[h1]at a1
  obtain⟨h',r,a',e1,el,e2⟩:=AhA (D:=D) a1 (fun y hy=>hz y (by simp[hy])) hD'.2 (fun y hy=>by
   obtain⟨x,hx,e⟩:=hx y (by simp[hy])
   exact⟨x,(Na Ak).2 ⟨hx,fun e2=>hD'.1 (by rw[← e2,e];exact hy)⟩,e⟩) (fun e hm=>⟨fun q=>(he e hm).1 (by simp[q]),fun q=>(he e hm).2 (by simp[q])⟩)
  refine⟨h',Hg h1 r,a',e1,Nat.le_trans el (Dz Ak),fun y=>?_⟩
  rw[e2]
  show(if y∈D then none else lk GN.id (Cc BX GN.id z h.nodes) y)=_
  rw[ZN Ak a.iN]
  by_cases q:y∈D
  ·rw[if_pos q,if_pos (by simp[q])]
  ·rw[if_neg q]
   by_cases q2:y=z
   ·rw[if_pos q2,if_pos (by simp[q2])]
   ·rw[if_neg q2,if_neg (by simp[q,q2])]
theorem AhB:∀{D:List Int} {h:GG},Ef h→(∀ z∈D,Jw z)→D.Nodup→(∀ z∈D,lk GN.id h.nodes z=none)→h.nodes.length+D.length≤2000→
 ∃h',FT h (D.map fun z=>DU 1 z [])=some h'∧Ef h'∧h'.edges=h.edges∧∀y,lk GN.id h'.nodes y=if y∈D then some ⟨y,false,[],false,[]⟩else lk GN.id h.nodes y
 |[],h,a,_,_,_,_=>⟨h,rfl,a,rfl,fun y=>by simp⟩
 |z::D,h,a,hz,hD,hx,hl=>by
  have hD':=List.nodup_cons.1 hD
  rw[List.length_cons]at hl
  have h1:stepG h (DU 1 z [])=(0,{h with nn:=true,nodes:=A8 BX GN.id ⟨z,false,[],false,[]⟩ h.nodes,BF:=if z+1>h.BF then z+1 else h.BF}):=by
   rw[TY (Ahz (by omega) (hz z (by simp))) (show (1:Int)≤5 by decide)]
   exact nG1 (c:=DU 1 z []) rfl (Afx (hx z (by simp))) (by omega)
  have a1:=a.step (c:=DU 1 z [])
  rw[h1]at a1
  have hlk:∀y,lk GN.id (A8 BX GN.id ⟨z,false,[],false,[]⟩ h.nodes) y=if y=z then some ⟨z,false,[],false,[]⟩else lk GN.id h.nodes y:=fun y=>OU Ak a.iN
  obtain⟨h',r,a',e1,e2⟩:=AhB (D:=D) a1 (fun y hy=>hz y (by simp[hy])) hD'.2 (fun y hy=>by
   show lk GN.id (A8 BX GN.id ⟨z,false,[],false,[]⟩ h.nodes) y=none
   rw[hlk,if_neg (fun e=>hD'.1 (by rw[← e];exact hy))]
   exact hx y (by simp[hy])) (by
   have:=EC (key:=GN.id) Ak (x:=⟨z,false,[],false,[]⟩) (l:=h.nodes)
   show(A8 BX GN.id ⟨z,false,[],false,[]⟩ h.nodes).length+D.length≤2000
   omega)
  refine⟨h',Hg h1 r,a',e1,fun y=>?_⟩
  rw[e2]
  show(if y∈D then _ else lk GN.id (A8 BX GN.id ⟨z,false,[],false,[]⟩ h.nodes) y)=_
  rw[hlk]
  by_cases q:y∈D
  ·rw[if_pos q,if_pos (by simp[q])]
  ·rw[if_neg q]
   by_cases q2:y=z
   ·rw[if_pos q2,if_pos (by simp[q2]),q2]
   ·rw[if_neg q2,if_neg (by simp[q,q2])]
def NJ (x:GE):GE:=⟨x.id,x.fr,x.to,x.ty,false,[]⟩
theorem AhC:∀{D:List GE} {h:GG},Ef h→(∀ x∈D,Jw x.id∧Jw x.fr∧Jw x.to∧isName x.ty∧(∃ n∈h.nodes,n.id=x.fr)∧∃n∈h.nodes,n.id=x.to)→(D.map GE.id).Nodup→(∀ x∈D,lk GE.id h.edges x.id=none)→h.edges.length+D.length≤4000→
 ∃h',FT h (D.map newE)=some h'∧Ef h'∧h'.nodes=h.nodes∧∀y,lk GE.id h'.edges y=((lk GE.id D y).map NJ).or (lk GE.id h.edges y)
 |[],h,a,_,_,_,_=>⟨h,rfl,a,rfl,fun y=>rfl⟩
 |x::D,h,a,hz,hD,hx,hl=>by
  have hD':=List.nodup_cons.1 hD
  rw[List.length_cons]at hl
  obtain⟨z1,z2,z3,z4,z5,z6⟩:=hz x (by simp)
  have hck:Il (newE x)=0:=by
   refine ck0 ?_ (fun _=>z4) (fun _=>.inl Le)
   rintro(h|h|h|h|h|h)
   ·exact h (show (1:Int)≤6∧(6:Int)≤8 by decide)
   ·exact h z1
   ·exact h.1 (show Oi 6 by unfold Oi;omega)
   ·exact h.2 Le
   ·exact h.2.elim (fun k=>k z2) (fun k=>k z3)
   ·exact h.1 rfl
  have h1:stepG h (newE x)=(0,{h with en:=true,edges:=A8 BX GE.id (NJ x) h.edges,BA:=if x.id+1>h.BA then x.id+1 else h.BA}):=by
   rw[ZM hck (show ¬(6:Int)≤5 by decide)]
   exact eG6 (c:=newE x) rfl (AcQ (hx x (by simp))) ⟨z5,z6⟩ (by omega)
  have a1:=a.step (c:=newE x)
  rw[h1]at a1
  have hlk:∀y,lk GE.id (A8 BX GE.id (NJ x) h.edges) y=if y=x.id then some (NJ x)else lk GE.id h.edges y:=fun y=>OU Ak a.iE
  obtain⟨h',r,a',e1,e2⟩:=AhC (D:=D) a1 (fun y hy=>hz y (by simp[hy])) hD'.2 (fun y hy=>by
   show lk GE.id (A8 BX GE.id (NJ x) h.edges) y.id=none
   rw[hlk,if_neg (fun e=>hD'.1 (by rw[← e];exact List.mem_map_of_mem hy))]
   exact hx y (by simp[hy])) (by
   have:=EC (key:=GE.id) Ak (x:=NJ x) (l:=h.edges)
   show(A8 BX GE.id (NJ x) h.edges).length+D.length≤4000
   omega)
  refine⟨h',Hg h1 r,a',e1,fun y=>?_⟩
  rw[e2]
  show((lk GE.id D y).map NJ).or (lk GE.id (A8 BX GE.id (NJ x) h.edges) y)=_
  rw[hlk]
  have e3:lk GE.id (x::D) y=if x.id=y then some x else lk GE.id D y:=by
   unfold lk
   rw[List.find?_cons]
   by_cases q:x.id=y
   ·rw[decide_eq_true q,if_pos q]
   ·rw[decide_eq_false q,if_neg q]
  rw[e3]
  by_cases q:x.id=y
  ·have e4:lk GE.id D y=none:=KE.2 fun w hw e=>hD'.1 (by rw[q,←e];exact List.mem_map_of_mem hw)
   rw[if_pos q,if_pos q.symm,e4];rfl
  ·rw[if_neg q,if_neg (fun e=>q e.symm)]
theorem AhD {N:List GN} (hN:∀n∈N,VN n) (hI:Inc BX GN.id N):∀{B:List GN} {h:GG},Ef h→(∀ n∈B,VN n)→(B.map GN.id).Nodup→(∀ n∈B,∃m,lk GN.id h.nodes n.id=some m∧m.labels=(Fg N n).labels∧m.props=(Fg N n).props)→
 ∃h',FT h (B.flatMap (H9 N))=some h'∧Ef h'∧h'.edges=h.edges∧(∀ n∈B,∃m,lk GN.id h'.nodes n.id=some m∧SN m n)∧∀y,y∉B.map GN.id→lk GN.id h'.nodes y=lk GN.id h.nodes y
 |[],h,a,_,_,_=>⟨h,rfl,a,rfl,fun _ h=>by simp at h,fun y _=>rfl⟩
 |n::B,h,a,hv,hD,hm=>by
  have hD':=List.nodup_cons.1 hD
  obtain⟨m,m1,m2,m3⟩:=hm n (by simp)
  have hw:allNames (Fg N n).labels∧allNames (keysOf (Fg N n).props):=by
   unfold Fg
   cases hc:N.find? (X9 n.id)with
   |none=>exact⟨fun s hs=>(by cases hs),fun s hs=>by cases hs⟩
   |some w=>exact⟨(hN w (List.mem_of_find?_eq_some hc)).nl,(hN w (List.mem_of_find?_eq_some hc)).nk⟩
  obtain⟨h1,mm,r1,a1,s1⟩:=AhE (f:=lk GN.id h.nodes) (E:=h.edges) (N:=N) ⟨a,m1,fun _ _=>rfl,rfl⟩ (hv n (by simp)) rfl rfl m2 m3 hw.1 hw.2
  obtain⟨h',r,a',e1,e2,e3⟩:=AhD hN hI (B:=B) a1.ask (fun y hy=>hv y (by simp[hy])) hD'.2 (fun y hy=>by
   obtain⟨w,w1,w2,w3⟩:=hm y (by simp[hy])
   refine⟨w,?_,w2,w3⟩
   rw[a1.rest _ fun e=>hD'.1 (by rw[← e];exact List.mem_map_of_mem hy)]
   exact w1)
  refine⟨h',by rw[List.flatMap_cons];exact Hq r1 r,a',e1.trans a1.ed,fun y hy=>?_,fun y hy=>?_⟩
  ·rcases List.mem_cons.1 hy with rfl|hy
   ·exact⟨mm,by rw[e3 _ hD'.1];exact a1.here,s1⟩
   ·exact e2 y hy
  ·rw[List.map_cons,List.mem_cons]at hy
   rw[e3 y fun q=>hy (.inr q)]
   exact a1.rest y fun q=>hy (.inl q)
theorem Aec {E:List GE} (hE:∀n∈E,VE n):∀{B:List GE} {h:GG},Ef h→(∀ n∈B,VE n)→(B.map GE.id).Nodup→(∀ n∈B,∃m,lk GE.id h.edges n.id=some m∧(m.fr=n.fr∧m.to=n.to∧m.ty=n.ty)∧m.props=KO E n)→
 ∃h',FT h (B.flatMap (D8 E))=some h'∧Ef h'∧h'.nodes=h.nodes∧(∀ n∈B,∃m,lk GE.id h'.edges n.id=some m∧SE m n)∧∀y,y∉B.map GE.id→lk GE.id h'.edges y=lk GE.id h.edges y
 |[],h,a,_,_,_=>⟨h,rfl,a,rfl,fun _ h=>by simp at h,fun y _=>rfl⟩
 |n::B,h,a,hv,hD,hm=>by
  have hD':=List.nodup_cons.1 hD
  obtain⟨m,m1,m2,m3⟩:=hm n (by simp)
  have hw:allNames (keysOf (KO E n)):=by
   unfold KO
   cases hc:E.find? (XI n.id)with
   |none=>exact fun s hs=>by cases hs
   |some w=>
    show allNames (keysOf (if Ci n w=true then[]else w.props))
    split
    ·exact fun s hs=>by cases hs
    ·exact(hE w (List.mem_of_find?_eq_some hc)).nk
  obtain⟨h1,mm,r1,a1,s1⟩:=AhF (f:=lk GE.id h.edges) (N:=h.nodes) (E:=E) ⟨a,m1,fun _ _=>rfl,rfl⟩ (hv n (by simp)) rfl rfl m2 m3 hw
  obtain⟨h',r,a',e1,e2,e3⟩:=Aec hE (B:=B) a1.ask (fun y hy=>hv y (by simp[hy])) hD'.2 (fun y hy=>by
   obtain⟨w,w1,w2,w3⟩:=hm y (by simp[hy])
   refine⟨w,?_,w2,w3⟩
   rw[a1.rest _ fun e=>hD'.1 (by rw[← e];exact List.mem_map_of_mem hy)]
   exact w1)
  refine⟨h',by rw[List.flatMap_cons];exact Hq r1 r,a',e1.trans a1.nd,fun y hy=>?_,fun y hy=>?_⟩
  ·rcases List.mem_cons.1 hy with rfl|hy
   ·exact⟨mm,by rw[e3 _ hD'.1];exact a1.here,s1⟩
   ·exact e2 y hy
  ·rw[List.map_cons,List.mem_cons]at hy
   rw[e3 y fun q=>hy (.inr q)]
   exact a1.rest y fun q=>hy (.inl q)
theorem Aaf {α:Type} {key:α→Int} {l:List α} (h:Inc BX key l) (p:α→Bool):((l.filter p).map key).Nodup:=List.Nodup.sublist (List.filter_sublist.map _) (NT Ak (EI h))
theorem Am5 {N:List GN} {n:GN}:Ej N n=true↔lk GN.id N n.id=none:=by
 unfold Ej
 rw[Option.isNone_iff_eq_none]
 rfl
theorem SC {E:List GE} {x:GE} (h:lk GE.id E x.id=none):BZ E x=true:=by
 unfold BZ
 rw[show E.find? (XI x.id)=none from h]
theorem Ic {E:List GE} {x y:GE} (h:lk GE.id E x.id=some y):BZ E x=Ci x y:=by
 unfold BZ
 rw[show E.find? (XI x.id)=some y from h]
theorem YT {x y:GE}:Ci x y=Ci y x:=by
 unfold Ci
 congr 1
 apply propext
 constructor<;>(intro h k;exact h ⟨k.1.symm,k.2.1.symm,k.2.2.symm⟩)
theorem AbN {x y:GE} (h:Ci x y=false):x.fr=y.fr∧x.to=y.to∧x.ty=y.ty:=Classical.not_not.1 (of_decide_eq_false h)
theorem leads {a b:GG} (ha:VG a) (hb:VG b) (hN:a.nodes.length+b.nodes.length≤2000) (hE:a.edges.length+b.edges.length≤4000):
 ∃h,FT a (DT a b)=some h∧Ef h∧SG h b:=by
 have iaN:=ha.ask.iN
 have iaE:=ha.ask.iE
 have ibN:=hb.ask.iN
 have ibE:=hb.ask.iE
 obtain⟨D1,hD1⟩:∃D1,D1=(a.edges.filter (BZ b.edges)).map GE.id:=⟨_,rfl⟩
 have mD1:∀z,z∈D1↔∃x∈a.edges,BZ b.edges x=true∧x.id=z:=fun z=>by
  rw[hD1];simp only[List.mem_map,List.mem_filter]
  constructor
  ·rintro⟨x,⟨h1,h2⟩,h3⟩;exact⟨x,h1,h2,h3⟩
  ·rintro⟨x,h1,h2,h3⟩;exact⟨x,⟨h1,h2⟩,h3⟩
 obtain⟨h1,r1,k1,n1,l1,e1⟩:=Ahy (D:=D1) ha.ask (fun z hz=>by obtain⟨x,hx,_,rfl⟩:=(mD1 z).1 hz;exact(ha.e x hx).id) (by rw[hD1];exact Aaf iaE _) (fun z hz=>by obtain⟨x,hx,_,e⟩:=(mD1 z).1 hz;exact⟨x,hx,e⟩)
 obtain⟨D2,hD2⟩:∃D2,D2=(a.nodes.filter (Ej b.nodes)).map GN.id:=⟨_,rfl⟩
 have mD2:∀z,z∈D2↔(∃ x∈a.nodes,x.id=z)∧lk GN.id b.nodes z=none:=fun z=>by
  rw[hD2];simp only[List.mem_map,List.mem_filter,Am5]
  constructor
  ·rintro⟨x,⟨h1,h2⟩,rfl⟩;exact⟨⟨x,h1,rfl⟩,h2⟩
  ·rintro⟨⟨x,h1,rfl⟩,h2⟩;exact⟨x,⟨h1,h2⟩,rfl⟩
 have keep:∀e∈h1.edges,e∈a.edges∧∃y∈b.edges,y.id=e.id∧y.fr=e.fr∧y.to=e.to:=fun e he=>by
  have hl:=Di Ak k1.iE he rfl
  rw[e1]at hl
  split at hl
  ·cases hl
  rename_i hn
  have hm:=(EF hl).1
  refine⟨hm,?_⟩
  cases hq:lk GE.id b.edges e.id with
  |none=>exact absurd ((mD1 _).2 ⟨e,hm,SC hq,rfl⟩) hn
  |some y=>
   have hmv:Ci e y=false:=by
        cases hv:Ci e y with
        |false=>rfl
        |true=>exact absurd ((mD1 _).2 ⟨e,hm,by rw[Ic hq,hv],rfl⟩) hn
   have:=AbN hmv
   exact⟨y,(EF hq).1,(EF hq).2,this.1.symm,this.2.1.symm⟩
 obtain⟨h2,r2,k2,n2,l2,e2⟩:=AhA (D:=D2) k1 (fun z hz=>by obtain⟨⟨x,hx,rfl⟩,_⟩:=(mD2 z).1 hz;exact(ha.n x hx).id) (by rw[hD2];exact Aaf iaN _) (fun z hz=>by rw[n1];exact((mD2 z).1 hz).1) (fun e he=>by
  obtain⟨_,y,hy,_,f1,f2⟩:=keep e he
  obtain⟨⟨p,hp,q1⟩,⟨r,hr,q2⟩⟩:=hb.ends y hy
  constructor
  ·intro h
   have:=KE.1 ((mD2 _).1 h).2 p hp
   exact this (by rw[q1,f1])
  ·intro h
   have:=KE.1 ((mD2 _).1 h).2 r hr
   exact this (by rw[q2,f2]))
 rw[n1]at e2 l2
 obtain⟨D3,hD3⟩:∃D3,D3=(b.nodes.filter (Ej a.nodes)).map GN.id:=⟨_,rfl⟩
 have mD3:∀z,z∈D3↔(∃ x∈b.nodes,x.id=z)∧lk GN.id a.nodes z=none:=fun z=>by
  rw[hD3];simp only[List.mem_map,List.mem_filter,Am5]
  constructor
  ·rintro⟨x,⟨h1,h2⟩,rfl⟩;exact⟨⟨x,h1,rfl⟩,h2⟩
  ·rintro⟨⟨x,h1,rfl⟩,h2⟩;exact⟨x,⟨h1,h2⟩,rfl⟩
 have lD3:D3.length≤b.nodes.length:=by rw[hD3,List.length_map];exact List.length_filter_le _ _
 obtain⟨h3,r3,k3,n3,e3⟩:=AhB (D:=D3) k2 (fun z hz=>by obtain⟨⟨x,hx,rfl⟩,_⟩:=(mD3 z).1 hz;exact(hb.n x hx).id) (by rw[hD3];exact Aaf ibN _) (fun z hz=>by
  rw[e2];split
  ·rfl
  ·exact((mD3 z).1 hz).2) (by omega)
 obtain⟨h4,r4,k4,n4,e4,o4⟩:=AhD (N:=a.nodes) ha.n iaN (B:=b.nodes) k3 hb.n (NT Ak (EI ibN)) (fun n hn=>by
  rw[e3]
  unfold Fg
  cases hq:a.nodes.find? (X9 n.id)with
  |none=>
   rw[if_pos ((mD3 _).2 ⟨⟨n,hn,rfl⟩,hq⟩)]
   exact⟨_,rfl,rfl,rfl⟩
  |some w=>
   have hq:lk GN.id a.nodes n.id=some w:=hq
   rw[if_neg (fun h=>by have:=((mD3 _).1 h).2;rw[hq]at this;cases this),e2,if_neg (fun h=>by have:=((mD2 _).1 h).2;rw[Di Ak ibN hn rfl]at this;cases this),hq]
   exact⟨w,rfl,rfl,rfl⟩)
 have g4:∀y,y∉b.nodes.map GN.id→lk GN.id h4.nodes y=none:=fun y hy=>by
  rw[o4 y hy,e3,if_neg (fun h=>hy (by obtain⟨⟨x,hx,e⟩,_⟩:=(mD3 _).1 h;rw[← e];exact List.mem_map_of_mem hx)),e2]
  split
  ·rfl
  rename_i h
  refine KE.2 fun x hx e=>h ((mD2 _).2 ⟨⟨x,hx,e⟩,KE.2 fun w hw e2=>hy (by rw[← e2];exact List.mem_map_of_mem hw)⟩)
 have E4:h4.edges=h1.edges:=by rw[n4,n3,n2]
 have L4:∀y,lk GE.id h4.edges y=if y∈D1 then none else lk GE.id a.edges y:=fun y=>by rw[E4];exact e1 y
 obtain⟨h5,r5,k5,n5,e5⟩:=AhC (D:=b.edges.filter (BZ a.edges)) k4 (fun x hx=>by
  have hx:=(List.mem_filter.1 hx).1
  have hv:=hb.e x hx
  obtain⟨⟨p,hp,q1⟩,⟨r,hr,q2⟩⟩:=hb.ends x hx
  refine⟨hv.id,by rw[← q1];exact(hb.n p hp).id,by rw[← q2];exact(hb.n r hr).id,hv.ty,?_,?_⟩
  ·obtain⟨m,m1,_⟩:=e4 p hp;exact⟨m,(EF m1).1,by rw[(EF m1).2,q1]⟩
  ·obtain⟨m,m1,_⟩:=e4 r hr;exact⟨m,(EF m1).1,by rw[(EF m1).2,q2]⟩) (Aaf ibE _) (fun x hx=>by
  obtain⟨hx,hg⟩:=List.mem_filter.1 hx
  rw[L4]
  split
  ·rfl
  rename_i hn
  cases hq:lk GE.id a.edges x.id with
  |none=>rfl
  |some y=>
   rw[Ic hq]at hg
   exact absurd ((mD1 _).2 ⟨y,(EF hq).1,by rw[Ic (y:=x) (by rw[(EF hq).2];exact Di Ak ibE hx rfl),YT];exact hg,(EF hq).2⟩) hn) (by
  have:=List.length_filter_le (BZ a.edges) b.edges
  rw[E4];omega)
 obtain⟨h6,r6,k6,n6,e6,o6⟩:=Aec (E:=a.edges) ha.e (B:=b.edges) k5 hb.e (NT Ak (EI ibE)) (fun n hn=>by
  rw[e5]
  have hF:Inc BX GE.id (b.edges.filter (BZ a.edges)):=ibE.filter _
  unfold KO
  cases hq:a.edges.find? (XI n.id)with
  |none=>
   have hq:lk GE.id a.edges n.id=none:=hq
   rw[Di Ak hF (List.mem_filter.2 ⟨hn,SC hq⟩) rfl]
   exact⟨_,rfl,⟨rfl,rfl,rfl⟩,rfl⟩
  |some y=>
   have hq:lk GE.id a.edges n.id=some y:=hq
   show∃m:GE,_∧_∧m.props=if Ci n y=true then[]else y.props
   by_cases hm:Ci n y=true
   ·rw[Di Ak hF (List.mem_filter.2 ⟨hn,by rw[Ic hq];exact hm⟩) rfl,if_pos hm]
    exact⟨_,rfl,⟨rfl,rfl,rfl⟩,rfl⟩
   ·rw[if_neg hm]
    have hm:=Bool.not_eq_true _▸hm
    have h0:lk GE.id (b.edges.filter (BZ a.edges)) n.id=none:=KE.2 fun w hw e=>by
        obtain⟨w1,w2⟩:=List.mem_filter.1 hw
        have:=Di Ak ibE w1 e
        rw[Di Ak ibE hn rfl]at this
        cases this
        rw[Ic hq,hm]at w2;cases w2
    have hyn:n.id∉D1:=fun h=>by
        obtain⟨x,x1,x2,x3⟩:=(mD1 _).1 h
        have:=Di Ak iaE x1 x3
        rw[hq]at this
        cases this
        rw[Ic (y:=n) (by rw[x3];exact Di Ak ibE hn rfl),YT,hm]at x2;cases x2
    rw[h0,L4,if_neg hyn,hq]
    have:=AbN hm
    exact⟨y,rfl,⟨this.1.symm,this.2.1.symm,this.2.2.symm⟩,rfl⟩)
 have AlL:DT a b=(D1.map (fun z=>DU 7 z [])++D2.map (fun z=>DU 2 z []))++((D3.map (fun z=>DU 1 z [])++b.nodes.flatMap (H9 a.nodes))++((b.edges.filter (BZ a.edges)).map newE++b.edges.flatMap (D8 a.edges))):=by
  unfold DT H8 P7 Ro
  rw[hD1,hD2,hD3,List.map_map,List.map_map,List.map_map]
  rfl
 refine⟨h6,?_,k6,?_,?_⟩
 ·rw[AlL]
  exact Hq (Hq r1 r2) (Hq (Hq r3 r4) (Hq r5 r6))
 ·rw[n6,n5]
  refine Ac0 Ak k4.iN ibN (fun m hm=>?_) (fun n hn=>?_)
  ·have h0:=Di Ak k4.iN hm rfl
   by_cases hq:m.id∈b.nodes.map GN.id
   ·obtain⟨n,hn,e⟩:=List.mem_map.1 hq
    obtain⟨m',m1,m2⟩:=e4 n hn
    rw[e,h0]at m1
    cases m1
    exact⟨n,hn,e,m2⟩
   ·rw[g4 _ hq]at h0;cases h0
  ·obtain⟨m,m1,_⟩:=e4 n hn
   exact⟨m,(EF m1).1,(EF m1).2⟩
 ·refine Ac0 Ak k6.iE ibE (fun m hm=>?_) (fun n hn=>?_)
  ·have h0:=Di Ak k6.iE hm rfl
   by_cases hq:m.id∈b.edges.map GE.id
   ·obtain⟨n,hn,e⟩:=List.mem_map.1 hq
    obtain⟨m',m1,m2⟩:=e6 n hn
    rw[e,h0]at m1
    cases m1
    exact⟨n,hn,e,m2⟩
   ·have h5n:lk GE.id (b.edges.filter (BZ a.edges)) m.id=none:=KE.2 fun w hw e=>hq (by rw[← e];exact List.mem_map_of_mem (List.mem_filter.1 hw).1)
    rw[o6 _ hq,e5,h5n,L4]at h0
    have h0:(if m.id∈D1 then none else lk GE.id a.edges m.id)=some m:=h0
    split at h0
    ·cases h0
    rename_i hn1
    have hnb:lk GE.id b.edges m.id=none:=KE.2 fun w hw e=>hq (by rw[← e];exact List.mem_map_of_mem hw)
    exact absurd ((mD1 _).2 ⟨m,(EF h0).1,SC hnb,rfl⟩) hn1
  ·obtain⟨m,m1,_⟩:=e6 n hn
   exact⟨m,(EF m1).1,(EF m1).2⟩
theorem AeN {op id fr to:Int} {k:List UInt8}:Ld (GC.mk op id fr to k Z0).v:=AdQ
theorem NZ {op id:Int} {l m:List (List UInt8)}:∀c∈AQ op id l m,Ld c.v:=fun c hc=>by
 obtain⟨x,_,rfl⟩:=List.mem_map.1 hc
 exact AeN
theorem UO {op id:Int} {a b:List GP} (h:IK b):∀c∈valuesL op id a b,Ld c.v:=fun c hc=>by
 obtain⟨x,hx,rfl⟩:=List.mem_map.1 hc
 have:=h.2 x (List.mem_filter.1 hx).1
 exact⟨this.1.2,this.2⟩
theorem Js {a b:GG} (hb:CX b):∀c∈DT a b,Ld c.v:=fun c hc=>by
 rcases List.mem_append.1 hc with h|h
 ·rcases List.mem_append.1 h with h|h<;>(obtain ⟨x,_,rfl⟩:=List.mem_map.1 h;exact AeN)
 ·rcases List.mem_append.1 h with h|h
  ·rcases List.mem_append.1 h with h|h
   ·obtain⟨x,_,rfl⟩:=List.mem_map.1 h;exact AeN
   ·obtain⟨n,hn,h⟩:=List.mem_flatMap.1 h
    have hg:=(hb.nodes n hn).2.2.2.1
    rcases List.mem_append.1 h with h|h
    ·exact NZ c h
    ·rcases List.mem_append.1 h with h|h
     ·exact NZ c h
     ·rcases List.mem_append.1 h with h|h
      ·exact NZ c h
      ·exact UO hg c h
  ·rcases List.mem_append.1 h with h|h
   ·obtain⟨x,_,rfl⟩:=List.mem_map.1 h;exact AeN
   ·obtain⟨n,hn,h⟩:=List.mem_flatMap.1 h
    rcases List.mem_append.1 h with h|h
    ·exact NZ c h
    ·exact UO (hb.edges n hn).2.2.1 c h
theorem Aeb {α β:Type} {f:α→List β} {l:List α} {k:Nat} (h:∀x∈l,(f x).length≤k):(l.flatMap f).length≤k*l.length:=by
 induction l with
 |nil=>simp
 |cons a l ih=>
  have h1:=h a (by simp)
  have h2:=ih fun x hx=>h x (by simp[hx])
  rw[List.flatMap_cons,List.length_append,List.length_cons,Nat.mul_add]
  omega
def QH (Q:GV→Prop) (g:GG):Prop:=(∀ n∈g.nodes,∀p∈n.props,Q p.v)∧∀e∈g.edges,∀p∈e.props,Q p.v
theorem QH.Lu {Q:GV→Prop} {g:GG} (h:QH Q g) {n:GN} (hn:∀p∈n.props,Q p.v):QH Q {g with nodes:=A8 BX GN.id n g.nodes}:=
 ⟨fun m hm=>by
  rcases Bq Ak hm with rfl|hm
  ·exact hn
  ·exact h.1 m hm,h.2⟩
theorem QH.Tn {Q:GV→Prop} {g:GG} (h:QH Q g) {n:GE} (hn:∀p∈n.props,Q p.v):QH Q {g with edges:=A8 BX GE.id n g.edges}:=
 ⟨h.1,fun m hm=>by
  rcases Bq Ak hm with rfl|hm
  ·exact hn
  ·exact h.2 m hm⟩
theorem QH.step {Q:GV→Prop} {g:GG} {c:GC} (h:QH Q g) (hc:Q c.v):QH Q (stepG g c).2:=by
 unfold stepG
 split
 ·exact h
 split
 ·unfold Ba
  split
  ·split
   ·exact h
   split
   ·refine⟨fun m hm=>?_,h.2⟩
    rcases Bq Ak hm with rfl|hm
    ·intro p hp;cases hp
    ·exact h.1 m hm
   ·exact h
  split
  ·exact h
  rename_i n hf
  have hn:=h.1 n (List.mem_of_find?_eq_some hf)
  split
  ·split
   ·exact h
   ·exact⟨fun m hm=>h.1 m (Ce hm),h.2⟩
  split
  ·split
   ·exact h
   split
   ·exact h.Lu hn
   ·exact h
  split
  ·split
   ·exact h.Lu hn
   ·exact h
  split
  ·exact h.Lu fun p hp=>hn p (Ce hp)
  split
  ·refine h.Lu fun p hp=>?_
   rcases Bq Ai hp with rfl|hp
   ·exact hc
   ·exact hn p hp
  ·exact h
 ·unfold BD
  split
  ·split
   ·exact h
   split
   ·split
    ·refine⟨h.1,fun m hm=>?_⟩
     rcases Bq Ak hm with rfl|hm
     ·intro p hp;cases hp
     ·exact h.2 m hm
    ·exact h
   ·exact h
  split
  ·exact h
  rename_i n hf
  have hn:=h.2 n (List.mem_of_find?_eq_some hf)
  split
  ·exact⟨h.1,fun m hm=>h.2 m (Ce hm)⟩
  split
  ·exact h.Tn fun p hp=>hn p (Ce hp)
  split
  ·refine h.Tn fun p hp=>?_
   rcases Bq Ai hp with rfl|hp
   ·exact hc
   ·exact hn p hp
  ·exact h
theorem QH.run {Q:GV→Prop} {L:List GC}:∀{g h:GG},QH Q g→(∀ c∈L,Q c.v)→FT g L=some h→QH Q h:=by
 induction L with
 |nil=>intro g h k _ e;cases e;exact k
 |cons c L ih=>
  intro g h k hc e
  rw[FT]at e
  split at e
  ·exact ih (k.step (hc c (by simp))) (fun x hx=>hc x (by simp[hx])) e
  ·cases e
theorem AcD {g:GG} (h:RX g):QH Ld g:=⟨fun n hn=>(h.2.2.1 n hn).2.2,fun e he=>(h.2.2.2 e he).2⟩
theorem PS {op z:Int} {l m:List (List UInt8)}:(AQ op z l m).length≤l.length:=by
 unfold AQ;rw[List.length_map];exact List.length_filter_le _ _
theorem Xd {op z:Int} {a b:List GP}:(valuesL op z a b).length≤b.length:=by
 unfold valuesL;rw[List.length_map];exact List.length_filter_le _ _
theorem ND {a b:GG} (ha:VG a) (hb:VG b):(DT a b).length<2^62:=by
 have h1:=ha.ask.lN
 have h2:=ha.ask.lE
 have h3:=hb.ask.lN
 have h4:=hb.ask.lE
 have f1:=List.length_filter_le (BZ b.edges) a.edges
 have f2:=List.length_filter_le (Ej b.nodes) a.nodes
 have f3:=List.length_filter_le (Ej a.nodes) b.nodes
 have f4:=List.length_filter_le (BZ a.edges) b.edges
 have kl:∀P:List GP,(keysOf P).length=P.length:=fun P=>by unfold keysOf;rw[List.length_map]
 have f5:(b.nodes.flatMap (H9 a.nodes)).length≤48*b.nodes.length:=Aeb fun n hn=>by
  have hn:=(hb.n n hn).a
  have hw:(Fg a.nodes n).labels.length≤8∧(Fg a.nodes n).props.length≤16:=by
   unfold Fg
   cases hq:a.nodes.find? (X9 n.id)with
   |none=>exact⟨by simp[N0],by simp[N0]⟩
   |some w=>exact⟨(ha.n w (List.mem_of_find?_eq_some hq)).a.lL,(ha.n w (List.mem_of_find?_eq_some hq)).a.lP⟩
  have g1:=PS (op:=4) (z:=n.id) (l:=(Fg a.nodes n).labels) (m:=n.labels)
  have g2:=PS (op:=5) (z:=n.id) (l:=keysOf (Fg a.nodes n).props) (m:=keysOf n.props)
  have g3:=PS (op:=3) (z:=n.id) (l:=n.labels) (m:=(Fg a.nodes n).labels)
  have g4:=Xd (op:=5) (z:=n.id) (a:=(Fg a.nodes n).props) (b:=n.props)
  rw[kl]at g2
  have:=hn.lL
  have:=hn.lP
  unfold H9
  simp only[List.length_append]
  omega
 have f6:(b.edges.flatMap (D8 a.edges)).length≤32*b.edges.length:=Aeb fun n hn=>by
  have hn:=(hb.e n hn).a
  have hw:(KO a.edges n).length≤16:=by
   unfold KO
   cases hq:a.edges.find? (XI n.id)with
   |none=>simp
   |some w=>
    show(if Ci n w=true then[]else w.props).length≤16
    split
    ·simp
    ·exact(ha.e w (List.mem_of_find?_eq_some hq)).a.lP
  have g2:=PS (op:=8) (z:=n.id) (l:=keysOf (KO a.edges n)) (m:=keysOf n.props)
  have g4:=Xd (op:=8) (z:=n.id) (a:=KO a.edges n) (b:=n.props)
  rw[kl]at g2
  have:=hn.lP
  unfold D8
  simp only[List.length_append]
  omega
 unfold DT H8 P7 Ro
 simp only[List.length_append,List.length_map]
 omega
end AI
end Go.Proofs.YthnehejdkajjhaaGreatDoor
