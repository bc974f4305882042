/- Changes in a row; the changes of one node by a script: plain. The changes of one edge by a script: plain. A script between two graphs leads from the first to the second: plain. What a check finds, said in one; a step keeps graphs valid: plain. Strings in a list. Strings in a list: the reference. The reference's HasLabel. HasLabel. The arguments of the laws about migrations, taken apart: rules, migrations. The properties of a node of a valid graph; what a migration changes at a node. -/
import Derived.Test.YtjijnamhalgamaaGreatDoorTDlA
import Derived.Test.YtjijnamhalgamaaGreatDoorTMah
import Derived.Test.YtjijnamhalgamaaGreatDoorTMal
import Derived.Test.YtjijnamhalgamaaGreatDoorTMad
import Derived.Test.YtjijnamhalgamaaGreatDoorTMag
set_option linter.unusedVariables false
set_option maxRecDepth 4000
namespace Go.Proofs.YtjijnamhalgamaaGreatDoor
namespace AI
noncomputable def AcL:GG→List GC→Option GG
 |g,[]=>some g
 |g,c::cs=>if(stepG g c).1=0 then AcL (stepG g c).2 cs else none
theorem AcE {g h k:GG} {c:GC} {L:List GC} (h1:stepG g c=(0,h)) (h2:AcL h L=some k):AcL g (c::L)=some k:=by
 rw[AcL,h1,if_pos rfl];exact h2
theorem AfP {A B:List GC}:∀{g h k:GG},AcL g A=some h→AcL h B=some k→AcL g (A++B)=some k:=by
 induction A with
 |nil=>intro g h k h1 h2;cases h1;exact h2
 |cons c A ih=>
  intro g h k h1 h2
  rw[AcL]at h1
  split at h1
  ·rename_i h0
   rw[List.cons_append,AcL,if_pos h0];exact ih h1 h2
  ·cases h1
theorem run_all {L:List GC}:∀{g h:GG} {i:Nat},AcL g L=some h→RX g L i=(h,i+L.length,0):=by
 induction L with
 |nil=>intro g h i e;cases e;rfl
 |cons c L ih=>
  intro g h i e
  rw[AcL]at e
  split at e
  ·rename_i h0
   rw[RX,if_neg (fun k=>k h0),ih e,List.length_cons]
   congr 2;omega
  ·cases e
structure VN (n:GN):Prop where
 id:UG n.id
 nl:Aak n.labels
 nk:Aak (keysOf n.props)
 pl:Abc n.props
 a:X4 n
structure VE (n:GE):Prop where
 id:UG n.id
 ty:AaA n.ty
 nk:Aak (keysOf n.props)
 pl:Abc n.props
 a:Ad7 n
structure VG (g:GG):Prop where
 ask:IZ g
 n:∀n∈g.nodes,VN n
 e:∀n∈g.edges,VE n
 ends:∀e∈g.edges,(∃ n∈g.nodes,n.id=e.fr)∧∃n∈g.nodes,n.id=e.to
theorem Amx {g:GG} (h:AZ g=0):VG g:=by
 have ha:=ZL h
 obtain⟨hf,hn,hN,hE⟩:=TG h
 refine⟨ha,fun n hm=>?_,fun n hm=>?_,fun n hm=>?_⟩
 ·have hA:=ha.aN n hm
  obtain⟨i,hi,rfl⟩:=List.getElem_of_mem hm
  have h2:=Py hi (hN i hi)
  obtain⟨a1,a2,a3,a4,a5,a6,a7⟩:=PV h2.2.2.2
  exact⟨⟨h2.2.1,by have:=hn.2.1;have:=h2.2.2.1;omega⟩,a5,a6,a7,hA⟩
 ·have hA:=ha.aE n hm
  obtain⟨i,hi,rfl⟩:=List.getElem_of_mem hm
  have h2:=Pz hi (hE i hi)
  obtain⟨a1,a2,a3,a4,a5,a6,a7⟩:=PV h2.2.2.2.2.2.2
  exact⟨⟨h2.2.1,by have:=hn.2.2.2;have:=h2.2.2.1;omega⟩,h2.2.2.2.2.2.1,a6,a7,hA⟩
 ·obtain⟨i,hi,rfl⟩:=List.getElem_of_mem hm
  have h2:=Pz hi (hE i hi)
  exact⟨List.mem_map.1 h2.2.2.2.1,List.mem_map.1 h2.2.2.2.2.1⟩
theorem ck0 {c:GC} (h1:¬Aen c) (h2:nmd c.op→AaA c.name) (h3:vlu c.op→AaO c.v∨Dx c.v):ckC c=0:=by
 unfold ckC
 rw[if_neg h1,if_neg (fun h=>h.2 (h2 h.1)),if_neg (fun h=>(h3 h.1).elim h.2.1 h.2.2)]
theorem Acz:AaO Z0:=⟨rfl,rfl,rfl,rfl,rfl⟩
theorem ck_nm {op z:Int} {x:List UInt8} (hop:op=3∨op=4∨op=5∨op=8) (hz:UG z) (hx:AaA x):ckC (mkC op z x)=0:=by
 refine ck0 ?_ (fun _=>hx) (fun _=>.inl Acz)
 rintro(h|h|h|h|h|h)
 ·exact h (show 1≤op∧op≤8 by omega)
 ·exact h hz
 ·exact h.1 (show nmd op by unfold nmd;omega)
 ·exact h.2 Acz
 ·have:op=6:=h.1
  omega
 ·exact h.2.elim (fun k=>k rfl) (fun k=>k rfl)
theorem ck_v {op z:Int} {p:GP} (hop:op=5∨op=8) (hz:UG z) (hx:AaA p.key) (hv:Dx p.v):ckC ⟨op,z,0,0,p.key,p.v⟩=0:=by
 refine ck0 ?_ (fun _=>hx) (fun _=>.inr hv)
 rintro(h|h|h|h|h|h)
 ·exact h (show 1≤op∧op≤8 by omega)
 ·exact h hz
 ·exact h.1 (show nmd op by unfold nmd;omega)
 ·exact h.1 (show vlu op by unfold vlu;omega)
 ·have:op=6:=h.1
  omega
 ·exact h.2.elim (fun k=>k rfl) (fun k=>k rfl)
theorem ck_id {op z:Int} (hop:op=1∨op=2∨op=7) (hz:UG z):ckC (mkC op z [])=0:=by
 refine ck0 ?_ (fun h=>?_) (fun _=>.inl Acz)
 ·rintro(h|h|h|h|h|h)
  ·exact h (show 1≤op∧op≤8 by omega)
  ·exact h hz
  ·exact h.2 rfl
  ·exact h.2 Acz
  ·have:op=6:=h.1
   omega
  ·exact h.2.elim (fun k=>k rfl) (fun k=>k rfl)
 ·have h:nmd op:=h
  unfold nmd at h
  omega
section
variable {g:GG} {c:GC}
theorem nG3 {n:GN} (h:c.op=3) (hf:lk GN.id g.nodes c.id=some n) (hx:c.name∉n.labels) (hl:n.labels.length<8):BM g c=(0,{g with nodes:=BZ DY GN.id {n with ln:=true,labels:=BZ Op.bytesLess id c.name n.labels} g.nodes}):=by
 unfold lk at hf;unfold BM;rw[if_neg (by omega),hf];show(if c.op=2 then _ else _)=_;rw[if_neg (by omega),if_pos h,if_neg hx,if_pos hl]
theorem nG4 {n:GN} (h:c.op=4) (hf:lk GN.id g.nodes c.id=some n) (hx:c.name∈n.labels):BM g c=(0,{g with nodes:=BZ DY GN.id {n with ln:=true,labels:=Gg Op.bytesLess id c.name n.labels} g.nodes}):=by
 unfold lk at hf;unfold BM;rw[if_neg (by omega),hf];show(if c.op=2 then _ else _)=_;rw[if_neg (by omega),if_neg (by omega),if_pos h,if_pos hx]
theorem nG5n {n:GN} (h:c.op=5) (hf:lk GN.id g.nodes c.id=some n) (hx:AaO c.v):BM g c=(0,{g with nodes:=BZ DY GN.id {n with props:=Gg Op.bytesLess GP.key c.name n.props} g.nodes}):=by
 unfold lk at hf;unfold BM;rw[if_neg (by omega),hf];show(if c.op=2 then _ else _)=_;rw[if_neg (by omega),if_neg (by omega),if_neg (by omega),if_pos hx]
theorem nG5 {n:GN} (h:c.op=5) (hf:lk GN.id g.nodes c.id=some n) (hx:¬AaO c.v) (hl:(∃ p∈n.props,GP.key p=c.name)∨n.props.length<16):BM g c=(0,{g with nodes:=BZ DY GN.id {n with pn:=true,props:=BZ Op.bytesLess GP.key ⟨c.name,c.v⟩ n.props} g.nodes}):=by
 unfold lk at hf;unfold BM;rw[if_neg (by omega),hf];show(if c.op=2 then _ else _)=_;rw[if_neg (by omega),if_neg (by omega),if_neg (by omega),if_neg hx,if_pos hl]
theorem eG6 (h:c.op=6) (hx:¬∃n∈g.edges,n.id=c.id) (hn:(∃ n∈g.nodes,n.id=c.fr)∧(∃ n∈g.nodes,n.id=c.to)) (hl:g.edges.length<4000):Di g c=(0,{g with en:=true,edges:=BZ DY GE.id ⟨c.id,c.fr,c.to,c.name,false,[]⟩ g.edges,DC:=if c.id+1>g.DC then c.id+1 else g.DC}):=by unfold Di;rw[if_pos h,if_neg hx,if_pos hn,if_pos hl]
theorem eG7 {n:GE} (h:c.op=7) (hf:lk GE.id g.edges c.id=some n):Di g c=(0,{g with edges:=Gg DY GE.id c.id g.edges}):=by
 unfold lk at hf;unfold Di;rw[if_neg (by omega),hf];show(if c.op=7 then _ else _)=_;rw[if_pos h]
theorem eG8 {n:GE} (h:c.op=8) (hf:lk GE.id g.edges c.id=some n) (hx:¬AaO c.v) (hl:(∃ p∈n.props,GP.key p=c.name)∨n.props.length<16):Di g c=(0,{g with edges:=BZ DY GE.id {n with pn:=true,props:=BZ Op.bytesLess GP.key ⟨c.name,c.v⟩ n.props} g.edges}):=by
 unfold lk at hf;unfold Di;rw[if_neg (by omega),hf];show(if c.op=7 then _ else _)=_;rw[if_neg (by omega),if_neg hx,if_pos hl]
end
theorem AlA {v:GV} (h:Dx v):¬AaO v:=fun h2=>by
 have:=h2.1
 rcases h.2.2 with⟨a,_⟩|⟨a,_⟩|⟨a,_⟩<;>omega
theorem AlF {h:GG} {c:GC} (h0:ckC c=0) (h5:c.op≤5):stepG h c=BM h c:=by unfold stepG;rw[if_neg (fun k=>k h0),if_pos h5]
theorem step_e {h:GG} {c:GC} (h0:ckC c=0) (h5:¬c.op≤5):stepG h c=Di h c:=by unfold stepG;rw[if_neg (fun k=>k h0),if_neg h5]
structure AtN (h:GG) (z:Int) (m:GN) (f:Int→Option GN) (E:List GE):Prop where
 ask:IZ h
 here:lk GN.id h.nodes z=some m
 rest:∀y,y≠z→lk GN.id h.nodes y=f y
 ed:h.edges=E
theorem AtN.put {h:GG} {z:Int} {m m':GN} {f:Int→Option GN} {E:List GE} (a:AtN h z m f E) (hid:m'.id=z) (hn:X4 m'):AtN {h with nodes:=BZ DY GN.id m' h.nodes} z m' f E where
 ask:=a.ask.TI hn ⟨m,(XK a.here).1,by rw[hid];exact(XK a.here).2⟩
 here:=by show lk GN.id (BZ DY GN.id m' h.nodes) z=_;rw[Adu Aw a.ask.iN,if_pos hid.symm]
 rest:=fun y hy=>by show lk GN.id (BZ DY GN.id m' h.nodes) y=_;rw[Adu Aw a.ask.iN,if_neg (by rw[hid];exact hy)];exact a.rest y hy
 ed:=a.ed
theorem AtN.id {h:GG} {z:Int} {m:GN} {f:Int→Option GN} {E:List GE} (a:AtN h z m f E):m.id=z:=(XK a.here).2
theorem AtN.na {h:GG} {z:Int} {m:GN} {f:Int→Option GN} {E:List GE} (a:AtN h z m f E):X4 m:=a.ask.aN m (XK a.here).1
section
variable {z:Int} {f:Int→Option GN} {E:List GE}
theorem run_ld (hz:UG z):∀{D:List (List UInt8)} {h:GG} {m:GN},D.Nodup→(∀ x∈D,x∈m.labels)→(∀ x∈D,AaA x)→AtN h z m f E→
 ∃h' m',AcL h (D.map (mkC 4 z))=some h'∧AtN h' z m' f E∧m'.props=m.props∧∀y,y∈m'.labels↔y∈m.labels∧y∉D
 |[],h,m,_,_,_,a=>⟨h,m,rfl,a,rfl,fun y=>by simp⟩
 |x::D,h,m,hD,hx,hn,a=>by
  have hD':=List.nodup_cons.1 hD
  have hn0:=a.na
  have h1:stepG h (mkC 4 z x)=(0,{h with nodes:=BZ DY GN.id {m with ln:=true,labels:=Gg Op.bytesLess _root_.id x m.labels} h.nodes}):=by
   rw[AlF (ck_nm (by omega) hz (hn x (by simp))) (show (4:Int)≤5 by decide)]
   exact nG4 (c:=mkC 4 z x) rfl a.here (hx x (by simp))
  have a1:=a.put (m':={m with ln:=true,labels:=Gg Op.bytesLess _root_.id x m.labels}) a.id ⟨FZ AA hn0.iL,Nat.le_trans (FH AA) hn0.lL,hn0.iP,hn0.lP⟩
  obtain⟨h',m',r,a',e,hm⟩:=run_ld hz (D:=D) hD'.2 (fun y hy=>(Agr AA).2 ⟨hx y (by simp[hy]),fun e=>hD'.1 (by cases e;exact hy)⟩) (fun y hy=>hn y (by simp[hy])) a1
  refine⟨h',m',AcE h1 r,a',e,fun y=>?_⟩
  rw[hm,Agr AA,List.mem_cons]
  constructor
  ·rintro⟨⟨q1,q2⟩,q3⟩;exact⟨q1,fun q=>q.elim q2 q3⟩
  ·rintro⟨q1,q2⟩;exact⟨⟨q1,fun q=>q2 (.inl q)⟩,fun q=>q2 (.inr q)⟩
theorem run_la (hz:UG z) {W:List (List UInt8)} (hW:W.length≤8):∀{D:List (List UInt8)} {h:GG} {m:GN},D.Nodup→(∀ x∈D,x∉m.labels)→(∀ x∈D,x∈W)→(∀ x∈m.labels,x∈W)→(∀ x∈D,AaA x)→AtN h z m f E→
 ∃h' m',AcL h (D.map (mkC 3 z))=some h'∧AtN h' z m' f E∧m'.props=m.props∧∀y,y∈m'.labels↔y∈m.labels∨y∈D
 |[],h,m,_,_,_,_,_,a=>⟨h,m,rfl,a,rfl,fun y=>by simp⟩
 |x::D,h,m,hD,hx,hxW,hmW,hn,a=>by
  have hD':=List.nodup_cons.1 hD
  have hn0:=a.na
  have hlen:m.labels.length<8:=by
   have h2:m.labels.length<W.length:=nd_lt (AiH AA (by have:=Adv hn0.iL;simpa using this)) hmW (hxW x (by simp)) (hx x (by simp))
   omega
  have h1:stepG h (mkC 3 z x)=(0,{h with nodes:=BZ DY GN.id {m with ln:=true,labels:=BZ Op.bytesLess _root_.id x m.labels} h.nodes}):=by
   rw[AlF (ck_nm (by omega) hz (hn x (by simp))) (show (3:Int)≤5 by decide)]
   exact nG3 (c:=mkC 3 z x) rfl a.here (hx x (by simp)) hlen
  have a1:=a.put (m':={m with ln:=true,labels:=BZ Op.bytesLess _root_.id x m.labels}) a.id ⟨Fe AA hn0.iL,Nat.le_trans (Ia AA) (by omega),hn0.iP,hn0.lP⟩
  have hmem:∀y,y∈BZ Op.bytesLess _root_.id x m.labels↔y=x∨y∈m.labels:=fun y=>by
   rw[Po AA]
   constructor
   ·rintro(h|h)
    ·exact .inl h
    ·exact .inr h.1
   ·rintro(h|h)
    ·exact .inl h
    ·exact .inr ⟨h,fun e=>hx x (by simp) (by cases e;exact h)⟩
  obtain⟨h',m',r,a',e,hm⟩:=run_la hz hW (D:=D) hD'.2 (fun y hy hq=>by
        rcases(hmem y).1 hq with rfl|hq
        ·exact hD'.1 hy
        ·exact hx y (by simp[hy]) hq) (fun y hy=>hxW y (by simp[hy])) (fun y hy=>by
        rcases(hmem y).1 hy with rfl|hy
        ·exact hxW _ (by simp)
        ·exact hmW y hy) (fun y hy=>hn y (by simp[hy])) a1
  refine⟨h',m',AcE h1 r,a',e,fun y=>?_⟩
  rw[hm,hmem,List.mem_cons]
  constructor
  ·rintro((q|q)|q)
   ·exact .inr (.inl q)
   ·exact .inl q
   ·exact .inr (.inr q)
  ·rintro(q|q|q)
   ·exact .inl (.inr q)
   ·exact .inl (.inl q)
   ·exact .inr q
theorem run_pd (hz:UG z):∀{D:List (List UInt8)} {h:GG} {m:GN},(∀ x∈D,AaA x)→AtN h z m f E→
 ∃h' m',AcL h (D.map (mkC 5 z))=some h'∧AtN h' z m' f E∧m'.labels=m.labels∧∀k,lk GP.key m'.props k=if k∈D then none else lk GP.key m.props k
 |[],h,m,_,a=>⟨h,m,rfl,a,rfl,fun y=>by simp⟩
 |x::D,h,m,hn,a=>by
  have hn0:=a.na
  have h1:stepG h (mkC 5 z x)=(0,{h with nodes:=BZ DY GN.id {m with props:=Gg Op.bytesLess GP.key x m.props} h.nodes}):=by
   rw[AlF (ck_nm (by omega) hz (hn x (by simp))) (show (5:Int)≤5 by decide)]
   exact nG5n (c:=mkC 5 z x) rfl a.here Acz
  have a1:=a.put (m':={m with props:=Gg Op.bytesLess GP.key x m.props}) a.id ⟨hn0.iL,hn0.lL,FZ AA hn0.iP,Nat.le_trans (FH AA) hn0.lP⟩
  obtain⟨h',m',r,a',e,hm⟩:=run_pd hz (D:=D) (fun y hy=>hn y (by simp[hy])) a1
  refine⟨h',m',AcE h1 r,a',e,fun k=>?_⟩
  rw[hm]
  show(if k∈D then none else lk GP.key (Gg Op.bytesLess GP.key x m.props) k)=_
  rw[AlE AA hn0.iP]
  by_cases q:k∈D
  ·rw[if_pos q,if_pos (by simp[q])]
  ·rw[if_neg q]
   by_cases q2:k=x
   ·rw[if_pos q2,if_pos (by simp[q2])]
   ·rw[if_neg q2,if_neg (by simp[q,q2])]
theorem run_ps (hz:UG z) {W:List (List UInt8)} (hW:W.length≤16):∀{D:List GP} {h:GG} {m:GN},(keysOf D).Nodup→(∀ p∈D,p.key∈W∧AaA p.key∧Dx p.v)→(∀ p∈m.props,p.key∈W)→AtN h z m f E→
 ∃h' m',AcL h (D.map fun p=>⟨5,z,0,0,p.key,p.v⟩)=some h'∧AtN h' z m' f E∧m'.labels=m.labels∧∀k,lk GP.key m'.props k=(lk GP.key D k).or (lk GP.key m.props k)
 |[],h,m,_,_,_,a=>⟨h,m,rfl,a,rfl,fun y=>rfl⟩
 |p::D,h,m,hD,hp,hmW,a=>by
  have hD':=List.nodup_cons.1 hD
  have hn0:=a.na
  obtain⟨p1,p2,p3⟩:=hp p (by simp)
  have hfit:(∃ q∈m.props,GP.key q=p.key)∨m.props.length<16:=by
   by_cases hq:∃q∈m.props,GP.key q=p.key
   ·exact .inl hq
   ·have h2:(m.props.map GP.key).length<W.length:=nd_lt (AiH AA (Adv hn0.iP)) (fun y hy=>by
       obtain⟨q,hq,rfl⟩:=List.mem_map.1 hy;exact hmW q hq) p1 (fun hy=>hq (by obtain⟨q,hq,e⟩:=List.mem_map.1 hy;exact⟨q,hq,e⟩))
    rw[List.length_map]at h2
    exact .inr (by omega)
  have h1:stepG h ⟨5,z,0,0,p.key,p.v⟩=(0,{h with nodes:=BZ DY GN.id {m with pn:=true,props:=BZ Op.bytesLess GP.key p m.props} h.nodes}):=by
   rw[AlF (ck_v (by omega) hz p2 p3) (show (5:Int)≤5 by decide)]
   exact nG5 (c:=⟨5,z,0,0,p.key,p.v⟩) rfl a.here (AlA p3) hfit
  have a1:=a.put (m':={m with pn:=true,props:=BZ Op.bytesLess GP.key p m.props}) a.id ⟨hn0.iL,hn0.lL,Fe AA hn0.iP,by
        rcases hfit with hx|hx
        ·exact Nat.le_trans (Ku AA hx) hn0.lP
        ·exact Nat.le_trans (Ia AA) (by omega)⟩
  obtain⟨h',m',r,a',e,hm⟩:=run_ps hz hW (D:=D) hD'.2 (fun q hq=>hp q (by simp[hq])) (fun q hq=>by
        rcases(Po AA).1 hq with rfl|hq
        ·exact p1
        ·exact hmW q hq.1) a1
  refine⟨h',m',AcE h1 r,a',e,fun k=>?_⟩
  rw[hm]
  show(lk GP.key D k).or (lk GP.key (BZ Op.bytesLess GP.key p m.props) k)=_
  rw[Adu AA hn0.iP]
  have e3:lk GP.key (p::D) k=if p.key=k then some p else lk GP.key D k:=by
   unfold lk
   rw[List.find?_cons]
   by_cases q:p.key=k
   ·rw[decide_eq_true q,if_pos q]
   ·rw[decide_eq_false q,if_neg q]
  rw[e3]
  by_cases q:p.key=k
  ·have e4:lk GP.key D k=none:=AjV.2 fun y hy e=>hD'.1 (by rw[q,←e];exact List.mem_map_of_mem hy)
   rw[if_pos q,if_pos q.symm,e4];rfl
  ·rw[if_neg q,if_neg (fun e=>q e.symm)]
end
structure AtE (h:GG) (z:Int) (m:GE) (f:Int→Option GE) (N:List GN):Prop where
 ask:IZ h
 here:lk GE.id h.edges z=some m
 rest:∀y,y≠z→lk GE.id h.edges y=f y
 nd:h.nodes=N
theorem AtE.put {h:GG} {z:Int} {m m':GE} {f:Int→Option GE} {N:List GN} (a:AtE h z m f N) (hid:m'.id=z) (hn:Ad7 m'):AtE {h with edges:=BZ DY GE.id m' h.edges} z m' f N where
 ask:=a.ask.AbR hn ⟨m,(XK a.here).1,by rw[hid];exact(XK a.here).2⟩
 here:=by show lk GE.id (BZ DY GE.id m' h.edges) z=_;rw[Adu Aw a.ask.iE,if_pos hid.symm]
 rest:=fun y hy=>by show lk GE.id (BZ DY GE.id m' h.edges) y=_;rw[Adu Aw a.ask.iE,if_neg (by rw[hid];exact hy)];exact a.rest y hy
 nd:=a.nd
theorem AtE.id {h:GG} {z:Int} {m:GE} {f:Int→Option GE} {N:List GN} (a:AtE h z m f N):m.id=z:=(XK a.here).2
theorem AtE.na {h:GG} {z:Int} {m:GE} {f:Int→Option GE} {N:List GN} (a:AtE h z m f N):Ad7 m:=a.ask.aE m (XK a.here).1
section
variable {z:Int} {f:Int→Option GE} {N:List GN}
theorem run_es (hz:UG z) {W:List (List UInt8)} (hW:W.length≤16):∀{D:List GP} {h:GG} {m:GE},(keysOf D).Nodup→(∀ p∈D,p.key∈W∧AaA p.key∧Dx p.v)→(∀ p∈m.props,p.key∈W)→AtE h z m f N→
 ∃h' m',AcL h (D.map fun p=>⟨8,z,0,0,p.key,p.v⟩)=some h'∧AtE h' z m' f N∧(m'.fr=m.fr∧m'.to=m.to∧m'.ty=m.ty)∧∀k,lk GP.key m'.props k=(lk GP.key D k).or (lk GP.key m.props k)
 |[],h,m,_,_,_,a=>⟨h,m,rfl,a,⟨rfl,rfl,rfl⟩,fun y=>rfl⟩
 |p::D,h,m,hD,hp,hmW,a=>by
  have hD':=List.nodup_cons.1 hD
  have hn0:=a.na
  obtain⟨p1,p2,p3⟩:=hp p (by simp)
  have hfit:(∃ q∈m.props,GP.key q=p.key)∨m.props.length<16:=by
   by_cases hq:∃q∈m.props,GP.key q=p.key
   ·exact .inl hq
   ·have h2:(m.props.map GP.key).length<W.length:=nd_lt (AiH AA (Adv hn0.iP)) (fun y hy=>by
       obtain⟨q,hq,rfl⟩:=List.mem_map.1 hy;exact hmW q hq) p1 (fun hy=>hq (by obtain⟨q,hq,e⟩:=List.mem_map.1 hy;exact⟨q,hq,e⟩))
    rw[List.length_map]at h2
    exact .inr (by omega)
  have h1:stepG h ⟨8,z,0,0,p.key,p.v⟩=(0,{h with edges:=BZ DY GE.id {m with pn:=true,props:=BZ Op.bytesLess GP.key p m.props} h.edges}):=by
   rw[step_e (ck_v (by omega) hz p2 p3) (show ¬(8:Int)≤5 by decide)]
   exact eG8 (c:=⟨8,z,0,0,p.key,p.v⟩) rfl a.here (AlA p3) hfit
  have a1:=a.put (m':={m with pn:=true,props:=BZ Op.bytesLess GP.key p m.props}) a.id ⟨Fe AA hn0.iP,by
        rcases hfit with hx|hx
        ·exact Nat.le_trans (Ku AA hx) hn0.lP
        ·exact Nat.le_trans (Ia AA) (by omega)⟩
  obtain⟨h',m',r,a',e,hm⟩:=run_es hz hW (D:=D) hD'.2 (fun q hq=>hp q (by simp[hq])) (fun q hq=>by
        rcases(Po AA).1 hq with rfl|hq
        ·exact p1
        ·exact hmW q hq.1) a1
  refine⟨h',m',AcE h1 r,a',e,fun k=>?_⟩
  rw[hm]
  show(lk GP.key D k).or (lk GP.key (BZ Op.bytesLess GP.key p m.props) k)=_
  rw[Adu AA hn0.iP]
  have e3:lk GP.key (p::D) k=if p.key=k then some p else lk GP.key D k:=by
   unfold lk
   rw[List.find?_cons]
   by_cases q:p.key=k
   ·rw[decide_eq_true q,if_pos q]
   ·rw[decide_eq_false q,if_neg q]
  rw[e3]
  by_cases q:p.key=k
  ·have e4:lk GP.key D k=none:=AjV.2 fun y hy e=>hD'.1 (by rw[q,←e];exact List.mem_map_of_mem hy)
   rw[if_pos q,if_pos q.symm,e4];rfl
  ·rw[if_neg q,if_neg (fun e=>q e.symm)]
end
section
variable {κ α:Type}
theorem not_ex_lkE {l:List GE} {z:Int} (h:lk GE.id l z=none):¬∃n∈l,n.id=z:=fun⟨n,hn,e⟩=>AjV.1 h n hn e
end
theorem run_de:∀{D:List Int} {h:GG},IZ h→(∀ z∈D,UG z)→D.Nodup→(∀ z∈D,∃x∈h.edges,x.id=z)→
 ∃h',AcL h (D.map fun z=>mkC 7 z [])=some h'∧IZ h'∧h'.nodes=h.nodes∧h'.edges.length≤h.edges.length∧∀y,lk GE.id h'.edges y=if y∈D then none else lk GE.id h.edges y
 |[],h,a,_,_,_=>⟨h,rfl,a,rfl,Nat.le_refl _,fun y=>by simp⟩
 |z::D,h,a,hz,hD,hx=>by
  have hD':=List.nodup_cons.1 hD
  obtain⟨x,hxm,hxi⟩:=hx z (by simp)
  have h1:stepG h (mkC 7 z [])=(0,{h with edges:=Gg DY GE.id z h.edges}):=by
   rw[step_e (ck_id (by omega) (hz z (by simp))) (show ¬(7:Int)≤5 by decide)]
   exact eG7 (c:=mkC 7 z []) rfl (Wp Aw a.iE hxm hxi)
  have a1:=a.step (c:=mkC 7 z [])
  rw[h1]at a1
  obtain⟨h',r,a',e1,el,e2⟩:=run_de (D:=D) a1 (fun y hy=>hz y (by simp[hy])) hD'.2 (fun y hy=>by
   obtain⟨x,hx,e⟩:=hx y (by simp[hy])
   exact⟨x,(Agr Aw).2 ⟨hx,fun e2=>hD'.1 (by rw[← e2,e];exact hy)⟩,e⟩)
  refine⟨h',AcE h1 r,a',e1,Nat.le_trans el (FH Aw),fun y=>?_⟩
  rw[e2]
  show(if y∈D then none else lk GE.id (Gg DY GE.id z h.edges) y)=_
  rw[AlE Aw a.iE]
  by_cases q:y∈D
  ·rw[if_pos q,if_pos (by simp[q])]
  ·rw[if_neg q]
   by_cases q2:y=z
   ·rw[if_pos q2,if_pos (by simp[q2])]
   ·rw[if_neg q2,if_neg (by simp[q,q2])]
def Acy (x:GE):GE:=⟨x.id,x.fr,x.to,x.ty,false,[]⟩
theorem run_ae:∀{D:List GE} {h:GG},IZ h→(∀ x∈D,UG x.id∧UG x.fr∧UG x.to∧AaA x.ty∧(∃ n∈h.nodes,n.id=x.fr)∧∃n∈h.nodes,n.id=x.to)→(D.map GE.id).Nodup→(∀ x∈D,lk GE.id h.edges x.id=none)→h.edges.length+D.length≤4000→
 ∃h',AcL h (D.map newE)=some h'∧IZ h'∧h'.nodes=h.nodes∧∀y,lk GE.id h'.edges y=((lk GE.id D y).map Acy).or (lk GE.id h.edges y)
 |[],h,a,_,_,_,_=>⟨h,rfl,a,rfl,fun y=>rfl⟩
 |x::D,h,a,hz,hD,hx,hl=>by
  have hD':=List.nodup_cons.1 hD
  rw[List.length_cons]at hl
  obtain⟨z1,z2,z3,z4,z5,z6⟩:=hz x (by simp)
  have hck:ckC (newE x)=0:=by
   refine ck0 ?_ (fun _=>z4) (fun _=>.inl Acz)
   rintro(h|h|h|h|h|h)
   ·exact h (show (1:Int)≤6∧(6:Int)≤8 by decide)
   ·exact h z1
   ·exact h.1 (show nmd 6 by unfold nmd;omega)
   ·exact h.2 Acz
   ·exact h.2.elim (fun k=>k z2) (fun k=>k z3)
   ·exact h.1 rfl
  have h1:stepG h (newE x)=(0,{h with en:=true,edges:=BZ DY GE.id (Acy x) h.edges,DC:=if x.id+1>h.DC then x.id+1 else h.DC}):=by
   rw[step_e hck (show ¬(6:Int)≤5 by decide)]
   exact eG6 (c:=newE x) rfl (not_ex_lkE (hx x (by simp))) ⟨z5,z6⟩ (by omega)
  have a1:=a.step (c:=newE x)
  rw[h1]at a1
  have hlk:∀y,lk GE.id (BZ DY GE.id (Acy x) h.edges) y=if y=x.id then some (Acy x)else lk GE.id h.edges y:=fun y=>Adu Aw a.iE
  obtain⟨h',r,a',e1,e2⟩:=run_ae (D:=D) a1 (fun y hy=>hz y (by simp[hy])) hD'.2 (fun y hy=>by
   show lk GE.id (BZ DY GE.id (Acy x) h.edges) y.id=none
   rw[hlk,if_neg (fun e=>hD'.1 (by rw[← e];exact List.mem_map_of_mem hy))]
   exact hx y (by simp[hy])) (by
   have:=Ia (key:=GE.id) Aw (x:=Acy x) (l:=h.edges)
   show(BZ DY GE.id (Acy x) h.edges).length+D.length≤4000
   omega)
  refine⟨h',AcE h1 r,a',e1,fun y=>?_⟩
  rw[e2]
  show((lk GE.id D y).map Acy).or (lk GE.id (BZ DY GE.id (Acy x) h.edges) y)=_
  rw[hlk]
  have e3:lk GE.id (x::D) y=if x.id=y then some x else lk GE.id D y:=by
   unfold lk
   rw[List.find?_cons]
   by_cases q:x.id=y
   ·rw[decide_eq_true q,if_pos q]
   ·rw[decide_eq_false q,if_neg q]
  rw[e3]
  by_cases q:x.id=y
  ·have e4:lk GE.id D y=none:=AjV.2 fun w hw e=>hD'.1 (by rw[q,←e];exact List.mem_map_of_mem hw)
   rw[if_pos q,if_pos q.symm,e4];rfl
  ·rw[if_neg q,if_neg (fun e=>q e.symm)]
theorem XR {l:List (List UInt8)} (h:Inc Op.bytesLess id l):rises l:=fun j hj=>by
 have:=h.get (show j<j+1 by omega) hj
 simp only[id]at this
 rw[Bool.or_eq_false_iff]
 constructor
 ·cases hb:Op.bytesLess l[j+1] l[j]with
  |false=>rfl
  |true=>have:=AA.tr _ _ _ this hb;rw[AA.irr]at this;cases this
 ·rw[beq_eq_false_iff_ne]
  intro e
  rw[e,AA.irr]at this;cases this
theorem Zq {P:List GP} (h:Inc Op.bytesLess GP.key P):rises (keysOf P):=XR (by have:=Adv h;unfold Inc;exact this)
theorem XT {L:List (List UInt8)} {P:List GP} (h1:L.length≤8) (h2:P.length≤16) (h3:Aak L) (h4:Aak (keysOf P)) (h5:Inc Op.bytesLess id L) (h6:Inc Op.bytesLess GP.key P) (h7:Abc P):Dw L P=0:=by
 unfold Dw
 rw[if_neg (by omega),if_neg (fun h=>h ⟨h3,h4⟩),if_neg (fun h=>h ⟨XR h5,Zq h6⟩),if_neg (fun h=>h h7)]
structure YU (g:GG):Prop where
 vg:VG g
 nx:Hg g
 n:∀n∈g.nodes,n.id<g.Df
 e:∀n∈g.edges,n.id<g.DC
theorem AcS {g:GG} (h:AZ g=0):YU g:=by
 have hv:=Amx h
 obtain⟨hf,hn,hN,hE⟩:=TG h
 refine⟨hv,hn,fun n hm=>?_,fun n hm=>?_⟩
 ·obtain⟨i,hi,rfl⟩:=List.getElem_of_mem hm
  exact(Py hi (hN i hi)).2.2.1
 ·obtain⟨i,hi,rfl⟩:=List.getElem_of_mem hm
  exact(Pz hi (hE i hi)).2.2.1
theorem AjX {g:GG} (h:YU g):AZ g=0:=by
 have a:=h.vg.ask
 have hn:∀k,k<g.nodes.length→Fg g.nodes g.Df k=0:=fun k hk=>by
  have hm:=List.getElem_mem hk
  have v:=h.vg.n _ hm
  rw[XU hk (fun h0 h1=>by have:=a.iN.get (show k-1<k by omega) hk;simp only[DY,decide_eq_true_eq]at this;omega) (by have:=v.id.1;have:=h.n _ hm;omega)]
  exact XT v.a.lL v.a.lP v.nl v.nk v.a.iL v.a.iP v.pl
 have he:∀k,k<g.edges.length→FM g.nodes g.edges g.DC k=0:=fun k hk=>by
  have hm:=List.getElem_mem hk
  have v:=h.vg.e _ hm
  obtain⟨⟨p,hp,e1⟩,⟨q,hq,e2⟩⟩:=h.vg.ends _ hm
  rw[XV hk (fun h0 h1=>by have:=a.iE.get (show k-1<k by omega) hk;simp only[DY,decide_eq_true_eq]at this;omega) (by have:=v.id.1;have:=h.e _ hm;omega) ⟨List.mem_map.2 ⟨p,hp,e1⟩,List.mem_map.2 ⟨q,hq,e2⟩⟩ v.ty]
  exact XT (by simp) v.a.lP (fun s hs=>by cases hs) v.nk List.Pairwise.nil v.a.iP v.pl
 have:=Zr ⟨a.lN,a.lE⟩ h.nx hn he
 simp only[AV.int.injEq,true_and]at this
 exact this.symm
theorem YU.TI {g:GG} (h:YU g) {m:GN} (hm:VN m) (hx:∃n∈g.nodes,n.id=m.id):YU {g with nodes:=BZ DY GN.id m g.nodes}:=by
 obtain⟨n0,hn0,e0⟩:=hx
 refine⟨⟨h.vg.ask.TI hm.a ⟨n0,hn0,e0⟩,fun n hn=>?_,h.vg.e,fun e he=>?_⟩,h.nx,fun n hn=>?_,h.e⟩
 ·rcases BL Aw hn with rfl|hn
  ·exact hm
  ·exact h.vg.n n hn
 ·have hk:∀z,(∃ n∈g.nodes,n.id=z)→∃n∈BZ DY GN.id m g.nodes,n.id=z:=fun z ⟨n,hn,e⟩=>by
   by_cases q:z=m.id
   ·exact⟨m,(Po Aw).2 (.inl rfl),q.symm⟩
   ·exact⟨n,(Po Aw).2 (.inr ⟨hn,by rw[show GN.id n=z from e];exact q⟩),e⟩
  exact⟨hk _ (h.vg.ends e he).1,hk _ (h.vg.ends e he).2⟩
 ·rcases BL Aw hn with rfl|hn
  ·have:=h.n n0 hn0;rw[e0]at this;exact this
  ·exact h.n n hn
theorem YU.AbR {g:GG} (h:YU g) {m n0:GE} (hm:VE m) (hn0:n0∈g.edges) (e0:n0.id=m.id) (e1:n0.fr=m.fr) (e2:n0.to=m.to):YU {g with edges:=BZ DY GE.id m g.edges}:=by
 refine⟨⟨h.vg.ask.AbR hm.a ⟨n0,hn0,e0⟩,h.vg.n,fun n hn=>?_,fun e he=>?_⟩,h.nx,h.n,fun n hn=>?_⟩
 ·rcases BL Aw hn with rfl|hn
  ·exact hm
  ·exact h.vg.e n hn
 ·rcases BL Aw he with rfl|he
  ·rw[← e1,←e2];exact h.vg.ends n0 hn0
  ·exact h.vg.ends e he
 ·rcases BL Aw hn with rfl|hn
  ·have:=h.e n0 hn0;rw[e0]at this;exact this
  ·exact h.e n hn
theorem AbS {x:List UInt8} {l:List (List UInt8)} (hx:AaA x) (hl:Aak l):Aak (BZ Op.bytesLess id x l):=fun s hs=>by
 rcases BL AA hs with rfl|hs
 ·exact hx
 ·exact hl s hs
theorem XW {x:GP} {l:List GP} (hx:AaA x.key) (hl:Aak (keysOf l)):Aak (keysOf (BZ Op.bytesLess GP.key x l)):=fun s hs=>by
 obtain⟨p,hp,rfl⟩:=List.mem_map.1 hs
 rcases BL AA hp with rfl|hp
 ·exact hx
 ·exact hl _ (List.mem_map_of_mem hp)
theorem XY {x:List UInt8} {l:List GP} (hl:Aak (keysOf l)):Aak (keysOf (Gg Op.bytesLess GP.key x l)):=fun s hs=>by
 obtain⟨p,hp,rfl⟩:=List.mem_map.1 hs
 exact hl _ (List.mem_map_of_mem (CZ hp))
theorem Vf {x:GP} {l:List GP} (hx:Dx x.v) (hl:Abc l):Abc (BZ Op.bytesLess GP.key x l):=fun p hp=>by
 rcases BL AA hp with rfl|hp
 ·exact hx
 ·exact hl p hp
theorem XZ {a b:Int} (ha:UG a) (hb:1≤b∧b≤1000001):1≤(if a+1>b then a+1 else b)∧(if a+1>b then a+1 else b)≤1000001:=by unfold UG at ha;split<;>omega
theorem Aiv {a b c:Int} (h:a<b):a<(if c>b then c else b):=by split<;>omega
theorem Ad1 {a b c:Int} (h:a<c):a<(if c>b then c else b):=by split<;>omega
theorem AcU {g:GG} {c:GC} (h:YU g):YU (stepG g c).2:=by
 have ha:=h.vg.ask
 have hstep:=ha.step (c:=c)
 unfold stepG at hstep ⊢
 split
 ·exact h
 rename_i hk
 rw[if_neg hk]at hstep
 obtain⟨hop,hid,hnm,h6,hvl⟩:=AgD (Classical.not_not.1 hk)
 split
 ·rename_i h5
  rw[if_pos h5]at hstep
  unfold BM at hstep ⊢
  split
  ·rename_i h1
   rw[if_pos h1]at hstep
   split
   ·exact h
   rename_i hx
   rw[if_neg hx]at hstep
   split
   ·rename_i hl
    rw[if_pos hl]at hstep
    have hb:VN ⟨c.id,false,[],false,[]⟩:=⟨hid,fun s hs=>(by cases hs),fun s hs=>(by cases hs),fun s hs=>(by cases hs),⟨List.Pairwise.nil,by simp,List.Pairwise.nil,by simp⟩⟩
    refine⟨⟨hstep,fun n hn=>?_,h.vg.e,fun e he=>?_⟩,?_,fun n hn=>?_,h.e⟩
    ·rcases BL Aw hn with rfl|hn
     ·exact hb
     ·exact h.vg.n n hn
    ·have hkp:∀z,(∃ n∈g.nodes,n.id=z)→∃n∈BZ DY GN.id ⟨c.id,false,[],false,[]⟩ g.nodes,n.id=z:=fun z ⟨n,hn,e⟩=>⟨n,(Po Aw).2 (.inr ⟨hn,fun q=>hx ⟨n,hn,q⟩⟩),e⟩
     exact⟨hkp _ (h.vg.ends e he).1,hkp _ (h.vg.ends e he).2⟩
    ·have:=XZ hid ⟨h.nx.1,h.nx.2.1⟩
     exact⟨this.1,this.2,h.nx.2.2⟩
    ·rcases BL Aw hn with rfl|hn
     ·exact Ad1 (by show c.id<c.id+1;omega)
     ·exact Aiv (h.n n hn)
   ·exact h
  rename_i hop1
  split
  ·exact h
  rename_i n hf
  obtain⟨hn,hz⟩:=PD hf
  have hz:=of_decide_eq_true hz
  have hv:=h.vg.n n hn
  rw[if_neg hop1,hf]at hstep
  split
  ·split
   ·exact h
   rename_i hu
   refine⟨⟨?_,fun n hn=>h.vg.n n (CZ hn),h.vg.e,fun e he=>?_⟩,h.nx,fun n hn=>h.n n (CZ hn),h.e⟩
   ·exact{ha with lN:=Nat.le_trans (FH Aw) ha.lN,iN:=FZ Aw ha.iN,aN:=fun m hm=>ha.aN m (CZ hm)}
   ·have hkp:∀z,z≠c.id→(∃ n∈g.nodes,n.id=z)→∃n∈Gg DY GN.id c.id g.nodes,n.id=z:=fun z q ⟨n,hn,e⟩=>⟨n,(Agr Aw).2 ⟨hn,by rw[show GN.id n=z from e];exact q⟩,e⟩
    exact⟨hkp _ (fun q=>hu ⟨e,he,.inl q⟩) (h.vg.ends e he).1,hkp _ (fun q=>hu ⟨e,he,.inr q⟩) (h.vg.ends e he).2⟩
  split
  ·rename_i h3
   split
   ·exact h
   split
   ·exact h.TI ⟨hv.id,AbS (hnm (.inl h3)) hv.nl,hv.nk,hv.pl,⟨Fe AA hv.a.iL,Nat.le_trans (Ia AA) (by omega),hv.a.iP,hv.a.lP⟩⟩ ⟨n,hn,rfl⟩
   ·exact h
  split
  ·split
   ·exact h.TI ⟨hv.id,fun s hs=>hv.nl s (CZ hs),hv.nk,hv.pl,⟨FZ AA hv.a.iL,Nat.le_trans (FH AA) hv.a.lL,hv.a.iP,hv.a.lP⟩⟩ ⟨n,hn,rfl⟩
   ·exact h
  split
  ·exact h.TI ⟨hv.id,hv.nl,XY hv.nk,fun p hp=>hv.pl p (CZ hp),⟨hv.a.iL,hv.a.lL,FZ AA hv.a.iP,Nat.le_trans (FH AA) hv.a.lP⟩⟩ ⟨n,hn,rfl⟩
  split
  ·rename_i h2 h3 h4 hnn hx
   have h5:c.op=5:=by omega
   refine h.TI ⟨hv.id,hv.nl,XW (hnm (by unfold nmd;omega)) hv.nk,Vf ((hvl (.inl h5)).resolve_left hnn) hv.pl,⟨hv.a.iL,hv.a.lL,Fe AA hv.a.iP,?_⟩⟩ ⟨n,hn,rfl⟩
   rcases hx with hx|hx
   ·exact Nat.le_trans (Ku AA hx) hv.a.lP
   ·exact Nat.le_trans (Ia AA) (by omega)
  ·exact h
 ·rename_i h5
  rw[if_neg h5]at hstep
  unfold Di at hstep ⊢
  split
  ·rename_i h6'
   rw[if_pos h6']at hstep
   split
   ·exact h
   rename_i hx
   rw[if_neg hx]at hstep
   split
   ·rename_i NR
    rw[if_pos NR]at hstep
    split
    ·rename_i hl
     rw[if_pos hl]at hstep
     have hb:VE ⟨c.id,c.fr,c.to,c.name,false,[]⟩:=⟨hid,hnm (by unfold nmd;omega),fun s hs=>(by cases hs),fun s hs=>(by cases hs),⟨List.Pairwise.nil,by simp⟩⟩
     refine⟨⟨hstep,h.vg.n,fun n hn=>?_,fun e he=>?_⟩,?_,h.n,fun n hn=>?_⟩
     ·rcases BL Aw hn with rfl|hn
      ·exact hb
      ·exact h.vg.e n hn
     ·rcases BL Aw he with rfl|he
      ·exact NR
      ·exact h.vg.ends e he
     ·have:=XZ hid h.nx.2.2
      exact⟨h.nx.1,h.nx.2.1,this.1,this.2⟩
     ·rcases BL Aw hn with rfl|hn
      ·exact Ad1 (by show c.id<c.id+1;omega)
      ·exact Aiv (h.e n hn)
    ·exact h
   ·exact h
  rename_i hop1
  split
  ·exact h
  rename_i n hf
  obtain⟨hn,hz⟩:=PD hf
  have hv:=h.vg.e n hn
  split
  ·exact⟨⟨{ha with lE:=Nat.le_trans (FH Aw) ha.lE,iE:=FZ Aw ha.iE,aE:=fun m hm=>ha.aE m (CZ hm)},h.vg.n,fun m hm=>h.vg.e m (CZ hm),fun e he=>h.vg.ends e (CZ he)⟩,h.nx,h.n,fun m hm=>h.e m (CZ hm)⟩
  split
  ·exact h.AbR ⟨hv.id,hv.ty,XY hv.nk,fun p hp=>hv.pl p (CZ hp),⟨FZ AA hv.a.iP,Nat.le_trans (FH AA) hv.a.lP⟩⟩ hn rfl rfl rfl
  split
  ·rename_i h7 hnn hx
   have h8:c.op=8:=by omega
   refine h.AbR ⟨hv.id,hv.ty,XW (hnm (by unfold nmd;omega)) hv.nk,Vf ((hvl (.inr h8)).resolve_left hnn) hv.pl,⟨Fe AA hv.a.iP,?_⟩⟩ hn rfl rfl rfl
   rcases hx with hx|hx
   ·exact Nat.le_trans (Ku AA hx) hv.a.lP
   ·exact Nat.le_trans (Ia AA) (by omega)
  ·exact h
theorem AoU {l:List (List UInt8)} {x:List UInt8} {nn:Bool} (hl:l.length<2^63):Ae (Ad tab) 173 [.sl nn (vs .str l),.str x] (fun v=>∃z,v=.int .i64 z∧(0≤z↔x∈l)):=by
 refine Ac rfl rfl ?_
 (conv=>whnf);repeat' (first|((first|refine kA ?_|(apply Br.mk<;>intro hc))<;>first|exact hc.elim|conv=>whnf)|refine kB ?_)
 refine Ag (fun m env s=>∃i:Nat,m=l.length-i∧env=[(0,.sl nn (vs .str l)),(1,.str x),(7,.int .i64 l.length),(8,.int .i64 i)]∧s=⟨[],0⟩∧x∉l.take i) ?_ _ _ _ ⟨0,rfl,by simp,rfl,by simp⟩
 rintro _ _ _ ⟨i,rfl,rfl,rfl,hx⟩
 refine⟨rfl,?_⟩
 (conv=>whnf);repeat' (first|((first|refine kA ?_|(apply Br.mk<;>intro hc))<;>first|exact hc.elim|conv=>whnf)|refine kB ?_)
 ·subst hc;exact⟨_,rfl,by simp⟩
 ·exact again.mk ⟨_,by omega,i+1,rfl,rfl,rfl,nms (by omega) hx (fun h=>hc h.symm)⟩
 ·rw[BN hc]at hx;exact⟨_,rfl,by simp[hx]⟩
theorem AeC {l:List (List UInt8)} {x:List UInt8} {nn:Bool} (hl:l.length<2^63):Ae (Ad tab) 105 [.sl nn (vs .str l),.str x] (· =.bool (decide (x∈l))):=by
 refine Ac rfl rfl ?_
 (conv=>whnf);repeat' (first|((first|refine kA ?_|(apply Br.mk<;>intro hc))<;>first|exact hc.elim|conv=>whnf)|refine kB ?_)
 refine Aa (AoU hl) ?_
 rintro _ ⟨z,rfl,hz⟩
 (conv=>whnf);repeat' (first|((first|refine kA ?_|(apply Br.mk<;>intro hc))<;>first|exact hc.elim|conv=>whnf)|refine kB ?_)
 ·exact Bd (hz.1 hc)
 ·exact Au (mt hz.2 hc)
theorem AoI {l:List (List UInt8)} {x:List UInt8} {nn:Bool} (hl:l.length<2^63):Ae (Ad tab) 89 [.sl nn (vs .str l),.str x] (· =.bool (decide (x∈l))):=by
 refine Ac rfl rfl ?_
 (conv=>whnf);repeat' (first|((first|refine kA ?_|(apply Br.mk<;>intro hc))<;>first|exact hc.elim|conv=>whnf)|refine kB ?_)
 refine Ag (fun m env s=>∃i:Nat,m=l.length-i∧env=[(0,.sl nn (vs .str l)),(1,.str x),(5,.int .i64 i)]∧s=⟨[],0⟩∧x∉l.take i) ?_ _ _ _ ⟨0,rfl,rfl,rfl,by simp⟩
 rintro _ _ _ ⟨i,rfl,rfl,rfl,hx⟩
 refine⟨rfl,?_⟩
 (conv=>whnf);repeat' (first|((first|refine kA ?_|(apply Br.mk<;>intro hc))<;>first|exact hc.elim|conv=>whnf)|refine kB ?_)
 ·subst hc;exact Bd (by simp)
 ·exact again.mk ⟨_,by omega,i+1,rfl,rfl,rfl,nms (by omega) hx hc⟩
 ·rw[BN hc]at hx;exact Au hx
theorem Nk {n:GN} {s:List UInt8} (hl:n.labels.length<2^63):Ae (Ad tab) 42 [n.av,.str s] (· =.bool (decide (s∈n.labels))):=by
 refine Ac rfl rfl ?_
 (conv=>whnf);repeat' (first|((first|refine kA ?_|(apply Br.mk<;>intro hc)|refine Aq (AoI hl) (fun hc=>?_) (fun hc=>?_))<;>first|exact hc.elim|conv=>whnf)|refine kB ?_)
 all_goals first|exact Bd ‹_› |exact Au ‹_›
theorem I8 {n:GN} {s:List UInt8} (hl:n.labels.length<2^63):Ae (Ad tab) 110 [n.av,.str s] (· =.bool (decide (s∈n.labels))):=by
 refine Ac rfl rfl ?_
 (conv=>whnf);repeat' (first|((first|refine kA ?_|(apply Br.mk<;>intro hc)|refine Aq (AeC hl) (fun hc=>?_) (fun hc=>?_))<;>first|exact hc.elim|conv=>whnf)|refine kB ?_)
 all_goals first|exact Bd ‹_› |exact Au ‹_›
structure GR where
 k:Int
 n:Int
 name:List UInt8
 key:List UInt8
 fr:List UInt8
 to:List UInt8
def GR.av (r:GR):AV:=.agg [.int .i64 r.k,.int .i64 r.n,.str r.name,.str r.key,.str r.fr,.str r.to]
def GR.ok (r:GR):Prop:=I64 r.k∧I64 r.n∧Ln r.name∧Ln r.key∧Ln r.fr∧Ln r.to
structure GM where
 k:Int
 label:List UInt8
 fr:List UInt8
 to:List UInt8
 v:GV
 r:GR
def GM.av (m:GM):AV:=.agg [.int .i64 m.k,.str m.label,.str m.fr,.str m.to,.int .i64 m.v.k,.int .i64 m.v.n,.int .i64 m.v.d,.str m.v.s,.sl m.v.nn m.v.l,.int .i64 m.r.k,.int .i64 m.r.n,.str m.r.name,.str m.r.key,.str m.r.fr,.str m.r.to]
def GM.ok (m:GM):Prop:=I64 m.k∧Ln m.label∧Ln m.fr∧Ln m.to∧m.v.ok∧m.r.ok
theorem AeU:Tryz.prog.cellsOf 44=6:=by kernel_rfl
theorem Yq:Tryz.prog.cellsOf 46=15:=by kernel_rfl
theorem G7 {l:List AV} {n:Nat} (h:l.length=n+1):∃a r,l=a::r∧r.length=n:=by
 cases l with
 |nil=>simp at h
 |cons a r=>exact⟨a,r,rfl,by simpa using h⟩
theorem Ue {d:Nat} {cs:List AV} (h:Dl Tryz.prog d 44 cs):∃r:GR,cs=[.int .i64 r.k,.int .i64 r.n,.str r.name,.str r.key,.str r.fr,.str r.to]∧r.ok:=by
 obtain⟨d',rfl,g1,g2⟩:=Ez Tryz.underlying44 h
 rw[AeU]at g1
 obtain⟨a,b,c,e,f,g,rfl⟩:=Aj8 g1
 clear g1
 simp only[List.forall_mem_cons]at g2
 obtain⟨f1,f2,f3,f4,f5,f6,_⟩:=g2
 simp only[Vk,MI,List.drop_zero,List.drop_succ_cons,List.take_succ_cons,List.take_zero]at f1 f2 f3 f4 f5 f6
 obtain⟨k,e1,h1⟩:=F9 f1
 obtain⟨n,e2,h2⟩:=F9 f2
 obtain⟨s3,e3,h3⟩:=Ic f3
 obtain⟨s4,e4,h4⟩:=Ic f4
 obtain⟨s5,e5,h5⟩:=Ic f5
 obtain⟨s6,e6,h6⟩:=Ic f6
 cases e1;cases e2;cases e3;cases e4;cases e5;cases e6
 exact⟨⟨k,n,s3,s4,s5,s6⟩,rfl,h1,h2,h3,h4,h5,h6⟩
theorem TB {a:AV} (h:Like Tryz.prog 46 a):∃m:GM,a=m.av∧m.ok:=by
 obtain⟨d,h⟩:=h
 obtain⟨cs,rfl,h0⟩:=Fq Tryz.underlying46 h
 obtain⟨d',rfl,g1,g2⟩:=Ez Tryz.underlying46 h0
 rw[Yq]at g1
 obtain⟨a1,r1,rfl,q1⟩:=G7 g1
 obtain⟨a2,r2,rfl,q2⟩:=G7 q1
 obtain⟨a3,r3,rfl,q3⟩:=G7 q2
 obtain⟨a4,r4,rfl,q4⟩:=G7 q3
 obtain⟨a5,r5,rfl,q5⟩:=G7 q4
 obtain⟨a6,r6,rfl,q6⟩:=G7 q5
 obtain⟨a7,r7,rfl,q7⟩:=G7 q6
 obtain⟨a8,r8,rfl,q8⟩:=G7 q7
 obtain⟨a9,r9,rfl,q9⟩:=G7 q8
 obtain⟨b1,b2,b3,b4,b5,b6,rfl⟩:=Aj8 q9
 clear g1 q1 q2 q3 q4 q5 q6 q7 q8 q9
 simp only[List.forall_mem_cons]at g2
 obtain⟨f1,f2,f3,f4,f5,f6,_⟩:=g2
 simp only[Vk,MI,WH,AeU,List.drop_zero,List.drop_succ_cons,List.take_succ_cons,List.take_zero]at f1 f2 f3 f4 f5 f6
 obtain⟨k,e1,h1⟩:=F9 f1
 obtain⟨s2,e2,h2⟩:=Ic f2
 obtain⟨s3,e3,h3⟩:=Ic f3
 obtain⟨s4,e4,h4⟩:=Ic f4
 obtain⟨v,e5,h5⟩:=MJ f5
 obtain⟨r,e6,h6⟩:=Ue f6
 cases e1;cases e2;cases e3;cases e4;cases e5;cases e6
 exact⟨⟨k,s2,s3,s4,v,r⟩,rfl,h1,h2,h3,h4,h5,h6⟩
def AiF (l:List GP):Prop:=∀p∈l,Dx p.v
def AcA (l:List GP) (k:List UInt8):Prop:=∃p∈l,p.key=k
instance (l:List GP) (k:List UInt8):Decidable (AcA l k):=by unfold AcA;infer_instance
def ET (l:List GP) (k:List UInt8):GV:=match l.find? (isK k)with
 |some p=>p.v
 |none=>V0
theorem Vg (l:List GP) (k:List UInt8):Yo l k=(ET l k).av:=by
 unfold Yo ET;cases l.find? (isK k)<;>rfl
theorem Akv {v:GV} (h:Dx v):v.k≠0:=by have:=QD h;unfold IG at this;omega
theorem Akw {l:List GP} (h:AiF l) (k:List UInt8):(ET l k).k=0↔¬AcA l k:=by
 unfold ET AcA
 cases hf:l.find? (isK k)with
 |none=>
  refine⟨fun _=>?_,fun _=>rfl⟩
  rintro⟨p,hp,rfl⟩
  have:=List.find?_eq_none.1 hf p hp
  simp[isK]at this
 |some p=>
  have h1:=List.mem_of_find?_eq_some hf
  have h2:=List.find?_some hf
  refine⟨fun h0=>absurd h0 (Akv (h p h1)),fun h0=>absurd ⟨p,h1,of_decide_eq_true h2⟩ h0⟩
def NT (l:List GP):Prop:=AiG l∧AiF l
theorem NT.len {l:List GP} (h:NT l):l.length<2^63:=by have:=h.1.1;omega
theorem AaK {l:List GP} {nn:Bool} (h:NT l) {k:List UInt8}:Ae (Ad tab) 111 [.sl nn (vs GP.av l),.str k] (· =.bool (decide (AcA l k))):=by
 have hp:=Aiw (nn:=nn) h.len h.1.2 (k:=k)
 rw[Vg]at hp
 have hk:=Akw h.2 k
 refine Ac rfl rfl ?_
 (conv=>whnf);repeat' (first|((first|apply kE hp|refine kA ?_|(apply Br.mk<;>intro hc))<;>first|exact hc.elim|conv=>whnf)|refine kB ?_)
 all_goals first|exact Bd (by grind)|exact Au (by grind)
def Uz (op id:Int) (k:List UInt8) (v:GV):GC:=⟨op,id,0,0,k,v⟩
def CW (n:GN) (m:GM):List GC:=
 if m.k=1 then if m.fr∈n.labels then[Uz 4 n.id m.fr V0,Uz 3 n.id m.to V0]else[]
 else if¬m.label∈n.labels then[]
 else if m.k=3 then if AcA n.props m.fr then[Uz 5 n.id m.fr V0,Uz 5 n.id m.to (ET n.props m.fr)]else[]
 else if m.k=4 then if AcA n.props m.fr then[Uz 5 n.id m.fr V0]else[]
 else if m.k=5 then if AcA n.props m.to then[]else[Uz 5 n.id m.to m.v]
 else[]
def FI (e:GE) (m:GM):List GC:=
 if m.k=2∧e.ty=m.fr then⟨7,e.id,0,0,[],V0⟩::⟨6,e.id,e.fr,e.to,m.to,V0⟩::e.props.map fun p=>Uz 8 e.id p.key p.v else[]
theorem AgE {n:GN} {m:GM} (h:m.k=1) (h1:m.fr∈n.labels):CW n m=[Uz 4 n.id m.fr V0,Uz 3 n.id m.to V0]:=by simp[CW,h,h1]
theorem Ad3 {n:GN} {m:GM} (h:m.k=1) (h1:m.fr∉n.labels):CW n m=[]:=by simp[CW,h,h1]
theorem AgF {n:GN} {m:GM} (h:m.k≠1) (h1:m.label∉n.labels):CW n m=[]:=by simp[CW,h,h1]
theorem AgG {n:GN} {m:GM} (h:m.k=3) (h1:m.label∈n.labels) (h2:AcA n.props m.fr):CW n m=[Uz 5 n.id m.fr V0,Uz 5 n.id m.to (ET n.props m.fr)]:=by simp[CW,h,h1,h2]
theorem Ad4 {n:GN} {m:GM} (h:m.k=3) (h2:¬AcA n.props m.fr):CW n m=[]:=by simp[CW,h,h2]
theorem AgH {n:GN} {m:GM} (h:m.k=4) (h1:m.label∈n.labels) (h2:AcA n.props m.fr):CW n m=[Uz 5 n.id m.fr V0]:=by simp[CW,h,h1,h2]
theorem Ad5 {n:GN} {m:GM} (h:m.k=4) (h2:¬AcA n.props m.fr):CW n m=[]:=by simp[CW,h,h2]
theorem AgI {n:GN} {m:GM} (h:m.k=5) (h1:m.label∈n.labels) (h2:¬AcA n.props m.to):CW n m=[Uz 5 n.id m.to m.v]:=by simp[CW,h,h1,h2]
theorem Ad6 {n:GN} {m:GM} (h:m.k=5) (h2:AcA n.props m.to):CW n m=[]:=by simp[CW,h,h2]
theorem AaL {n:GN} {m:GM} (h:m.k≠1) (h3:m.k≠3) (h4:m.k≠4) (h5:m.k≠5):CW n m=[]:=by simp[CW,h,h3,h4,h5]
theorem Vu (n:GN) (m:GM):(CW n m).length≤2:=by unfold CW;grind
theorem AgJ {e:GE} {m:GM} (h:m.k=2) (h1:e.ty=m.fr):FI e m=⟨7,e.id,0,0,[],V0⟩::⟨6,e.id,e.fr,e.to,m.to,V0⟩::e.props.map fun p=>Uz 8 e.id p.key p.v:=by simp[FI,h,h1]
theorem Aa5 {e:GE} {m:GM} (h:¬(m.k=2∧e.ty=m.fr)):FI e m=[]:=by simp[FI,h]
theorem Vw (e:GE) (m:GM):(FI e m).length≤e.props.length+2:=by unfold FI;split<;>simp
theorem Uc {m:GM} (h:m.k≠1) (h3:m.k≠3) (h4:m.k≠4) (h5:m.k≠5) (N:List GN):N.flatMap (CW · m)=[]:=by
 rw[List.flatMap_eq_nil_iff];intro n _;exact AaL h h3 h4 h5
theorem Ud {m:GM} (h:m.k≠2) (E:List GE):E.flatMap (FI · m)=[]:=by
 rw[List.flatMap_eq_nil_iff];intro n _;exact Aa5 fun h0=>h h0.1
theorem Aa6 {α β:Type} {f:α→List β} {l:List α} {i:Nat} (h:i<l.length):(l.take (i+1)).flatMap f=(l.take i).flatMap f++f l[i]:=by
 rw[List.take_succ_eq_append_getElem h,List.flatMap_append];simp
end AI
end Go.Proofs.YtjijnamhalgamaaGreatDoor
