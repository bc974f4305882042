/- Changes in a row; the changes of one node by a script: plain. -/
import Derived.Test.YtnbibfalljlmfaaGreatDoorDlA
import Derived.Test.YtnbibfalljlmfaaGreatDoorDeS
import Derived.Test.YtnbibfalljlmfaaGreatDoorMat
set_option linter.unusedVariables false
set_option maxRecDepth 4000
namespace Go.Proofs.YtnbibfalljlmfaaGreatDoor
namespace AI
noncomputable def AaK:GG→List GC→Option GG
  |g,[]=>some g
  |g,c::cs=>if(stepG g c).1=0 then AaK (stepG g c).2 cs else none
theorem YJ {g h k:GG} {c:GC} {L:List GC} (h1:stepG g c=(0,h)) (h2:AaK h L=some k):AaK g (c::L)=some k:=by
  rw[AaK,h1,if_pos rfl];exact h2
theorem AaF {A B:List GC}:∀{g h k:GG},AaK g A=some h→AaK h B=some k→AaK g (A++B)=some k:=by
  induction A with
  |nil=>intro g h k h1 h2;cases h1;exact h2
  | cons c A ih=>
    intro g h k h1 h2
    rw[AaK]at h1
    split at h1
    · rename_i h0
      rw[List.cons_append,AaK,if_pos h0];exact ih h1 h2
    · cases h1
theorem AEd {L:List GC}:∀{g h:GG} {i:Nat},AaK g L=some h→AWf g L i=(h,i+L.length,0):=by
  induction L with
  |nil=>intro g h i e;cases e;rfl
  | cons c L ih=>
    intro g h i e
    rw[AaK]at e
    split at e
    · rename_i h0
      rw[AWf,if_neg (fun k=>k h0),ih e,List.length_cons]
      congr 2;omega
    · cases e
structure VN (n:GN):Prop where
  id:idG n.id
  nl:allNames n.labels
  nk:allNames (keysOf n.props)
  pl:allPlain n.props
  a:AHn n
structure VE (n:GE):Prop where
  id:idG n.id
  ty:isName n.ty
  nk:allNames (keysOf n.props)
  pl:allPlain n.props
  a:AHo n
structure VG (g:GG):Prop where
  ask:Ajy g
  n:∀n∈g.nodes,VN n
  e:∀n∈g.edges,VE n
  ends:∀e∈g.edges,(∃ n∈g.nodes,n.id=e.fr)∧∃n∈g.nodes,n.id=e.to
theorem AAU {g:GG} (h:JA g=0):VG g:=by
  have ha:=ALm h
  obtain⟨hf,hn,hN,hE⟩:=AhM h
  refine⟨ha,fun n hm=>?_,fun n hm=>?_,fun n hm=>?_⟩
  · have hA:=ha.aN n hm
    obtain⟨i,hi,rfl⟩:=List.getElem_of_mem hm
    have h2:=Ayi hi (hN i hi)
    obtain⟨a1,a2,a3,a4,a5,a6,a7⟩:=AAV h2.2.2.2
    exact⟨⟨h2.2.1,by have:=hn.2.1;have:=h2.2.2.1;omega⟩,a5,a6,a7,hA⟩
  · have hA:=ha.aE n hm
    obtain⟨i,hi,rfl⟩:=List.getElem_of_mem hm
    have h2:=AuL hi (hE i hi)
    obtain⟨a1,a2,a3,a4,a5,a6,a7⟩:=AAV h2.2.2.2.2.2.2
    exact⟨⟨h2.2.1,by have:=hn.2.2.2;have:=h2.2.2.1;omega⟩,h2.2.2.2.2.2.1,a6,a7,hA⟩
  · obtain⟨i,hi,rfl⟩:=List.getElem_of_mem hm
    have h2:=AuL hi (hE i hi)
    exact⟨List.mem_map.1 h2.2.2.2.1,List.mem_map.1 h2.2.2.2.2.1⟩
theorem ck0 {c:GC} (h1:¬AB3 c) (h2:nmd c.op→isName c.name) (h3:vlu c.op→isNull c.v∨AjD c.v):ckC c=0:=by
  unfold ckC
  rw[if_neg h1,if_neg (fun h=>h.2 (h2 h.1)),if_neg (fun h=>(h3 h.1).elim h.2.1 h.2.2)]
theorem Ae8:isNull Z0:=⟨rfl,rfl,rfl,rfl,rfl⟩
theorem AyB {op z:Int} {x:List UInt8} (hop:op=3∨op=4∨op=5∨op=8) (hz:idG z) (hx:isName x):ckC (mkC op z x)=0:=by
  refine ck0 ?_ (fun _=>hx) (fun _=>.inl Ae8)
  rintro(h|h|h|h|h|h)
  · exact h (show 1≤op∧op≤8 by omega)
  · exact h hz
  · exact h.1 (show nmd op by unfold nmd;omega)
  · exact h.2 Ae8
  · have:op=6:=h.1
    omega
  · exact h.2.elim (fun k=>k rfl) (fun k=>k rfl)
theorem ARJ {op z:Int} {p:GP} (hop:op=5∨op=8) (hz:idG z) (hx:isName p.key) (hv:AjD p.v):ckC ⟨op,z,0,0,p.key,p.v⟩=0:=by
  refine ck0 ?_ (fun _=>hx) (fun _=>.inr hv)
  rintro(h|h|h|h|h|h)
  · exact h (show 1≤op∧op≤8 by omega)
  · exact h hz
  · exact h.1 (show nmd op by unfold nmd;omega)
  · exact h.1 (show vlu op by unfold vlu;omega)
  · have:op=6:=h.1
    omega
  · exact h.2.elim (fun k=>k rfl) (fun k=>k rfl)
theorem AAo {op z:Int} (hop:op=1∨op=2∨op=7) (hz:idG z):ckC (mkC op z [])=0:=by
  refine ck0 ?_ (fun h=>?_) (fun _=>.inl Ae8)
  · rintro(h|h|h|h|h|h)
    · exact h (show 1≤op∧op≤8 by omega)
    · exact h hz
    · exact h.2 rfl
    · exact h.2 Ae8
    · have:op=6:=h.1
      omega
    · exact h.2.elim (fun k=>k rfl) (fun k=>k rfl)
  · have h:nmd op:=h
    unfold nmd at h
    omega
section
variable {g:GG} {c:GC}
theorem nG2 {n:GN} (h:c.op=2) (hf:lk GN.id g.nodes c.id=some n) (hx:¬∃e∈g.edges,e.fr=c.id∨e.to=c.id):AhO g c=(0,{g with nodes:=AhH ltI GN.id c.id g.nodes}):=by
  unfold lk at hf;unfold AhO;rw[if_neg (by omega),hf];show(if c.op=2 then _ else _)=_;rw[if_pos h,if_neg hx]
theorem nG3 {n:GN} (h:c.op=3) (hf:lk GN.id g.nodes c.id=some n) (hx:c.name∉n.labels) (hl:n.labels.length<8):AhO g c=(0,{g with nodes:=Tc ltI GN.id {n with ln:=true,labels:=Tc Op.bytesLess id c.name n.labels} g.nodes}):=by
  unfold lk at hf;unfold AhO;rw[if_neg (by omega),hf];show(if c.op=2 then _ else _)=_;rw[if_neg (by omega),if_pos h,if_neg hx,if_pos hl]
theorem nG4 {n:GN} (h:c.op=4) (hf:lk GN.id g.nodes c.id=some n) (hx:c.name∈n.labels):AhO g c=(0,{g with nodes:=Tc ltI GN.id {n with ln:=true,labels:=AhH Op.bytesLess id c.name n.labels} g.nodes}):=by
  unfold lk at hf;unfold AhO;rw[if_neg (by omega),hf];show(if c.op=2 then _ else _)=_;rw[if_neg (by omega),if_neg (by omega),if_pos h,if_pos hx]
theorem nG5n {n:GN} (h:c.op=5) (hf:lk GN.id g.nodes c.id=some n) (hx:isNull c.v):AhO g c=(0,{g with nodes:=Tc ltI GN.id {n with props:=AhH Op.bytesLess GP.key c.name n.props} g.nodes}):=by
  unfold lk at hf;unfold AhO;rw[if_neg (by omega),hf];show(if c.op=2 then _ else _)=_;rw[if_neg (by omega),if_neg (by omega),if_neg (by omega),if_pos hx]
theorem nG5 {n:GN} (h:c.op=5) (hf:lk GN.id g.nodes c.id=some n) (hx:¬isNull c.v) (hl:(∃ p∈n.props,GP.key p=c.name)∨n.props.length<16):AhO g c=(0,{g with nodes:=Tc ltI GN.id {n with pn:=true,props:=Tc Op.bytesLess GP.key ⟨c.name,c.v⟩ n.props} g.nodes}):=by
  unfold lk at hf;unfold AhO;rw[if_neg (by omega),hf];show(if c.op=2 then _ else _)=_;rw[if_neg (by omega),if_neg (by omega),if_neg (by omega),if_neg hx,if_pos hl]
theorem nG1 (h:c.op=1) (hx:¬∃n∈g.nodes,n.id=c.id) (hl:g.nodes.length<2000):AhO g c=(0,{g with nn:=true,nodes:=Tc ltI GN.id ⟨c.id,false,[],false,[]⟩ g.nodes,AeT:=if c.id+1>g.AeT then c.id+1 else g.AeT}):=by unfold AhO;rw[if_pos h,if_neg hx,if_pos hl]
theorem eG6 (h:c.op=6) (hx:¬∃n∈g.edges,n.id=c.id) (hn:(∃ n∈g.nodes,n.id=c.fr)∧(∃ n∈g.nodes,n.id=c.to)) (hl:g.edges.length<4000):AmZ g c=(0,{g with en:=true,edges:=Tc ltI GE.id ⟨c.id,c.fr,c.to,c.name,false,[]⟩ g.edges,Afg:=if c.id+1>g.Afg then c.id+1 else g.Afg}):=by unfold AmZ;rw[if_pos h,if_neg hx,if_pos hn,if_pos hl]
theorem eG7 {n:GE} (h:c.op=7) (hf:lk GE.id g.edges c.id=some n):AmZ g c=(0,{g with edges:=AhH ltI GE.id c.id g.edges}):=by
  unfold lk at hf;unfold AmZ;rw[if_neg (by omega),hf];show(if c.op=7 then _ else _)=_;rw[if_pos h]
theorem eG8n {n:GE} (h:c.op=8) (hf:lk GE.id g.edges c.id=some n) (hx:isNull c.v):AmZ g c=(0,{g with edges:=Tc ltI GE.id {n with props:=AhH Op.bytesLess GP.key c.name n.props} g.edges}):=by
  unfold lk at hf;unfold AmZ;rw[if_neg (by omega),hf];show(if c.op=7 then _ else _)=_;rw[if_neg (by omega),if_pos hx]
theorem eG8 {n:GE} (h:c.op=8) (hf:lk GE.id g.edges c.id=some n) (hx:¬isNull c.v) (hl:(∃ p∈n.props,GP.key p=c.name)∨n.props.length<16):AmZ g c=(0,{g with edges:=Tc ltI GE.id {n with pn:=true,props:=Tc Op.bytesLess GP.key ⟨c.name,c.v⟩ n.props} g.edges}):=by
  unfold lk at hf;unfold AmZ;rw[if_neg (by omega),hf];show(if c.op=7 then _ else _)=_;rw[if_neg (by omega),if_neg hx,if_pos hl]
end
theorem AyC {v:GV} (h:AjD v):¬isNull v:=fun h2=>by
  have:=h2.1
  rcases h.2.2 with⟨a,_⟩|⟨a,_⟩|⟨a,_⟩<;>omega
theorem Anh {h:GG} {c:GC} (h0:ckC c=0) (h5:c.op≤5):stepG h c=AhO h c:=by unfold stepG;rw[if_neg (fun k=>k h0),if_pos h5]
theorem AuJ {h:GG} {c:GC} (h0:ckC c=0) (h5:¬c.op≤5):stepG h c=AmZ h c:=by unfold stepG;rw[if_neg (fun k=>k h0),if_neg h5]
structure AtN (h:GG) (z:Int) (m:GN) (f:Int→Option GN) (E:List GE):Prop where
  ask:Ajy h
  here:lk GN.id h.nodes z=some m
  rest:∀y,y≠z→lk GN.id h.nodes y=f y
  ed:h.edges=E
theorem AtN.put {h:GG} {z:Int} {m m':GN} {f:Int→Option GN} {E:List GE} (a:AtN h z m f E) (hid:m'.id=z) (hn:AHn m'):AtN {h with nodes:=Tc ltI GN.id m' h.nodes} z m' f E where
  ask:=a.ask.Ap7 hn ⟨m,(QC a.here).1,by rw[hid];exact(QC a.here).2⟩
  here:=by show lk GN.id (Tc ltI GN.id m' h.nodes) z=_;rw[AhP Hu a.ask.iN,if_pos hid.symm]
  rest:=fun y hy=>by show lk GN.id (Tc ltI GN.id m' h.nodes) y=_;rw[AhP Hu a.ask.iN,if_neg (by rw[hid];exact hy)];exact a.rest y hy
  ed:=a.ed
theorem AtN.id {h:GG} {z:Int} {m:GN} {f:Int→Option GN} {E:List GE} (a:AtN h z m f E):m.id=z:=(QC a.here).2
theorem AtN.na {h:GG} {z:Int} {m:GN} {f:Int→Option GN} {E:List GE} (a:AtN h z m f E):AHn m:=a.ask.aN m (QC a.here).1
section
variable {z:Int} {f:Int→Option GN} {E:List GE}
theorem AAW (hz:idG z):∀{D:List (List UInt8)} {h:GG} {m:GN},D.Nodup→(∀ x∈D,x∈m.labels)→(∀ x∈D,isName x)→AtN h z m f E→
    ∃h' m',AaK h (D.map (mkC 4 z))=some h'∧AtN h' z m' f E∧m'.props=m.props∧∀y,y∈m'.labels↔y∈m.labels∧y∉D
  |[],h,m,_,_,_,a=>⟨h,m,rfl,a,rfl,fun y=>by simp⟩
  | x ::D,h,m,hD,hx,hn,a=>by
    have hD':=List.nodup_cons.1 hD
    have hn0:=a.na
    have h1:stepG h (mkC 4 z x)=(0,{h with nodes:=Tc ltI GN.id {m with ln:=true,labels:=AhH Op.bytesLess _root_.id x m.labels} h.nodes}):=by
      rw[Anh (AyB (by omega) hz (hn x (by simp))) (show (4:Int)≤5 by decide)]
      exact nG4 (c:=mkC 4 z x) rfl a.here (hx x (by simp))
    have a1:=a.put (m':={m with ln:=true,labels:=AhH Op.bytesLess _root_.id x m.labels}) a.id ⟨AcN G7 hn0.iL,Nat.le_trans (Aee G7) hn0.lL,hn0.iP,hn0.lP⟩
    obtain⟨h',m',r,a',e,hm⟩:=AAW hz (D:=D) hD'.2 (fun y hy=>(Agy G7).2 ⟨hx y (by simp[hy]),fun e=>hD'.1 (by cases e;exact hy)⟩) (fun y hy=>hn y (by simp[hy])) a1
    refine⟨h',m',YJ h1 r,a',e,fun y=>?_⟩
    rw[hm,Agy G7,List.mem_cons]
    constructor
    · rintro⟨⟨q1,q2⟩,q3⟩;exact⟨q1,fun q=>q.elim q2 q3⟩
    · rintro⟨q1,q2⟩;exact⟨⟨q1,fun q=>q2 (.inl q)⟩,fun q=>q2 (.inr q)⟩
theorem AAX (hz:idG z) {W:List (List UInt8)} (hW:W.length≤8):∀{D:List (List UInt8)} {h:GG} {m:GN},D.Nodup→(∀ x∈D,x∉m.labels)→(∀ x∈D,x∈W)→(∀ x∈m.labels,x∈W)→(∀ x∈D,isName x)→AtN h z m f E→
    ∃h' m',AaK h (D.map (mkC 3 z))=some h'∧AtN h' z m' f E∧m'.props=m.props∧∀y,y∈m'.labels↔y∈m.labels∨y∈D
  |[],h,m,_,_,_,_,_,a=>⟨h,m,rfl,a,rfl,fun y=>by simp⟩
  | x ::D,h,m,hD,hx,hxW,hmW,hn,a=>by
    have hD':=List.nodup_cons.1 hD
    have hn0:=a.na
    have hlen:m.labels.length<8:=by
      have h2:m.labels.length<W.length:=AyD (AgA G7 (by have:=SY hn0.iL;simpa using this)) hmW (hxW x (by simp)) (hx x (by simp))
      omega
    have h1:stepG h (mkC 3 z x)=(0,{h with nodes:=Tc ltI GN.id {m with ln:=true,labels:=Tc Op.bytesLess _root_.id x m.labels} h.nodes}):=by
      rw[Anh (AyB (by omega) hz (hn x (by simp))) (show (3:Int)≤5 by decide)]
      exact nG3 (c:=mkC 3 z x) rfl a.here (hx x (by simp)) hlen
    have a1:=a.put (m':={m with ln:=true,labels:=Tc Op.bytesLess _root_.id x m.labels}) a.id ⟨Agg G7 hn0.iL,Nat.le_trans (Agz G7) (by omega),hn0.iP,hn0.lP⟩
    have hmem:∀y,y∈Tc Op.bytesLess _root_.id x m.labels↔y=x∨y∈m.labels:=fun y=>by
      rw[Aax G7]
      constructor
      · rintro(h|h)
        · exact .inl h
        · exact .inr h.1
      · rintro(h|h)
        · exact .inl h
        · exact .inr ⟨h,fun e=>hx x (by simp) (by cases e;exact h)⟩
    obtain⟨h',m',r,a',e,hm⟩:=AAX hz hW (D:=D) hD'.2 (fun y hy hq=>by
        rcases(hmem y).1 hq with rfl|hq
        · exact hD'.1 hy
        · exact hx y (by simp[hy]) hq) (fun y hy=>hxW y (by simp[hy])) (fun y hy=>by
        rcases(hmem y).1 hy with rfl|hy
        · exact hxW _ (by simp)
        · exact hmW y hy) (fun y hy=>hn y (by simp[hy])) a1
    refine⟨h',m',YJ h1 r,a',e,fun y=>?_⟩
    rw[hm,hmem,List.mem_cons]
    constructor
    · rintro((q|q)|q)
      · exact .inr (.inl q)
      · exact .inl q
      · exact .inr (.inr q)
    · rintro(q|q|q)
      · exact .inl (.inr q)
      · exact .inl (.inl q)
      · exact .inr q
theorem AAY (hz:idG z):∀{D:List (List UInt8)} {h:GG} {m:GN},(∀ x∈D,isName x)→AtN h z m f E→
    ∃h' m',AaK h (D.map (mkC 5 z))=some h'∧AtN h' z m' f E∧m'.labels=m.labels∧∀k,lk GP.key m'.props k=if k∈D then none else lk GP.key m.props k
  |[],h,m,_,a=>⟨h,m,rfl,a,rfl,fun y=>by simp⟩
  | x ::D,h,m,hn,a=>by
    have hn0:=a.na
    have h1:stepG h (mkC 5 z x)=(0,{h with nodes:=Tc ltI GN.id {m with props:=AhH Op.bytesLess GP.key x m.props} h.nodes}):=by
      rw[Anh (AyB (by omega) hz (hn x (by simp))) (show (5:Int)≤5 by decide)]
      exact nG5n (c:=mkC 5 z x) rfl a.here Ae8
    have a1:=a.put (m':={m with props:=AhH Op.bytesLess GP.key x m.props}) a.id ⟨hn0.iL,hn0.lL,AcN G7 hn0.iP,Nat.le_trans (Aee G7) hn0.lP⟩
    obtain⟨h',m',r,a',e,hm⟩:=AAY hz (D:=D) (fun y hy=>hn y (by simp[hy])) a1
    refine⟨h',m',YJ h1 r,a',e,fun k=>?_⟩
    rw[hm]
    show(if k∈D then none else lk GP.key (AhH Op.bytesLess GP.key x m.props) k)=_
    rw[AuK G7 hn0.iP]
    by_cases q:k∈D
    · rw[if_pos q,if_pos (by simp[q])]
    · rw[if_neg q]
      by_cases q2:k=x
      · rw[if_pos q2,if_pos (by simp[q2])]
      · rw[if_neg q2,if_neg (by simp[q,q2])]
theorem AAZ (hz:idG z) {W:List (List UInt8)} (hW:W.length≤16):∀{D:List GP} {h:GG} {m:GN},(keysOf D).Nodup→(∀ p∈D,p.key∈W∧isName p.key∧AjD p.v)→(∀ p∈m.props,p.key∈W)→AtN h z m f E→
    ∃h' m',AaK h (D.map fun p=>⟨5,z,0,0,p.key,p.v⟩)=some h'∧AtN h' z m' f E∧m'.labels=m.labels∧∀k,lk GP.key m'.props k=(lk GP.key D k).or (lk GP.key m.props k)
  |[],h,m,_,_,_,a=>⟨h,m,rfl,a,rfl,fun y=>rfl⟩
  | p :: D, h,m,hD,hp,hmW,a=>by
    have hD':=List.nodup_cons.1 hD
    have hn0:=a.na
    obtain⟨p1,p2,p3⟩:=hp p (by simp)
    have hfit:(∃ q∈m.props,GP.key q=p.key)∨m.props.length<16:=by
      by_cases hq:∃q∈m.props,GP.key q=p.key
      · exact .inl hq
      · have h2:(m.props.map GP.key).length<W.length:=AyD (AgA G7 (SY hn0.iP)) (fun y hy=>by
            obtain⟨q,hq,rfl⟩:=List.mem_map.1 hy;exact hmW q hq) p1 (fun hy=>hq (by obtain⟨q,hq,e⟩:=List.mem_map.1 hy;exact⟨q,hq,e⟩))
        rw[List.length_map]at h2
        exact .inr (by omega)
    have h1:stepG h ⟨5,z,0,0,p.key,p.v⟩=(0,{h with nodes:=Tc ltI GN.id {m with pn:=true,props:=Tc Op.bytesLess GP.key p m.props} h.nodes}):=by
      rw[Anh (ARJ (by omega) hz p2 p3) (show (5:Int)≤5 by decide)]
      exact nG5 (c:=⟨5,z,0,0,p.key,p.v⟩) rfl a.here (AyC p3) hfit
    have a1:=a.put (m':={m with pn:=true,props:=Tc Op.bytesLess GP.key p m.props}) a.id ⟨hn0.iL,hn0.lL,Agg G7 hn0.iP,by
        rcases hfit with hx|hx
        · exact Nat.le_trans (AtG G7 hx) hn0.lP
        · exact Nat.le_trans (Agz G7) (by omega)⟩
    obtain⟨h',m',r,a',e,hm⟩:=AAZ hz hW (D:=D) hD'.2 (fun q hq=>hp q (by simp[hq])) (fun q hq=>by
        rcases(Aax G7).1 hq with rfl|hq
        · exact p1
        · exact hmW q hq.1) a1
    refine⟨h',m',YJ h1 r,a',e,fun k=>?_⟩
    rw[hm]
    show(lk GP.key D k).or (lk GP.key (Tc Op.bytesLess GP.key p m.props) k)=_
    rw[AhP G7 hn0.iP]
    have e3:lk GP.key (p::D) k=if p.key=k then some p else lk GP.key D k:=by
      unfold lk
      rw[List.find?_cons]
      by_cases q:p.key=k
      · rw[decide_eq_true q,if_pos q]
      · rw[decide_eq_false q,if_neg q]
    rw[e3]
    by_cases q:p.key=k
    · have e4:lk GP.key D k=none:=Aez.2 fun y hy e=>hD'.1 (by rw[q,←e];exact List.mem_map_of_mem hy)
      rw[if_pos q,if_pos q.symm,e4];rfl
    · rw[if_neg q,if_neg (fun e=>q e.symm)]
end
theorem AHp {P Q was:List GP} (hP:Inc Op.bytesLess GP.key P) (hQ:Inc Op.bytesLess GP.key Q) (hpl:allPlain Q)
    (h:∀k,lk GP.key P k=(lk GP.key (Q.filter fun p=>decide (QK 12 (OA was p.key) p.v≠0)) k).or (if k∈keysOf was∧k∉keysOf Q then none else lk GP.key was k)):AeL SP P Q:=by
  have hD:Inc Op.bytesLess GP.key (Q.filter fun p=>decide (QK 12 (OA was p.key) p.v≠0)):=hQ.filter _
  have hval:∀b∈Q,∃a∈P,a.key=b.key∧SP a b:=by
    intro b hb
    have hk:=h b.key
    by_cases hc:QK 12 (OA was b.key) b.v≠0
    · have e1:lk GP.key (Q.filter fun p=>decide (QK 12 (OA was p.key) p.v≠0)) b.key=some b:=JD G7 hD (List.mem_filter.2 ⟨hb,decide_eq_true hc⟩) rfl
      rw[e1]at hk
      obtain⟨h1,h2⟩:=QC hk
      exact⟨b,h1,rfl,rfl,by have:=(Ao5 12).anti b.v b.v;omega⟩
    · have hc:QK 12 (OA was b.key) b.v=0:=Classical.not_not.1 hc
      have e1:lk GP.key (Q.filter fun p=>decide (QK 12 (OA was p.key) p.v≠0)) b.key=none:=Aez.2 fun y hy e=>by
        obtain⟨y1,y2⟩:=List.mem_filter.1 hy
        have:=JD G7 hQ y1 e
        rw[JD G7 hQ hb rfl]at this
        cases this
        exact(of_decide_eq_true y2) hc
      rw[e1,if_neg (fun h=>h.2 (List.mem_map_of_mem hb))]at hk
      have hk:lk GP.key P b.key=lk GP.key was b.key:=hk
      cases hw:lk GP.key was b.key with
      | none=>
        have:OA was b.key=Z0:=AwZ fun hm=>by
          obtain⟨q,hq,e⟩:=List.mem_map.1 hm
          exact Aez.1 hw q hq e
        rw[this]at hc
        exact absurd hc (Aw0 (hpl b hb))
      | some q=>
        rw[hw]at hk
        obtain⟨h1,h2⟩:=QC hk
        have:OA was b.key=q.v:=by unfold OA;rw[show was.find? (AtO b.key)=some q from hw]
        rw[this]at hc
        exact⟨q,h1,h2,h2,hc⟩
  refine AxB G7 hP hQ (fun a ha=>?_) (fun b hb=>?_)
  · have hk:=h a.key
    rw[JD G7 hP ha rfl]at hk
    cases hd:lk GP.key (Q.filter fun p=>decide (QK 12 (OA was p.key) p.v≠0)) a.key with
    | some b=>
      rw[hd]at hk
      cases hk
      exact⟨a,(List.mem_filter.1 (QC hd).1).1,rfl,rfl,by have:=(Ao5 12).anti a.v a.v;omega⟩
    | none=>
      rw[hd]at hk
      have hk:some a=if a.key∈keysOf was∧a.key∉keysOf Q then none else lk GP.key was a.key:=hk
      split at hk
      · cases hk
      rename_i hn
      have hw:=(QC hk.symm).1
      have hq:a.key∈keysOf Q:=Classical.not_not.1 fun h=>hn ⟨List.mem_map_of_mem hw,h⟩
      obtain⟨b,hb,e⟩:=List.mem_map.1 hq
      obtain⟨a',ha',e',hs⟩:=hval b hb
      have:a'=a:=by
        have h1:=JD G7 hP ha' rfl
        rw[e',e,JD G7 hP ha rfl]at h1
        cases h1;rfl
      subst this
      exact⟨b,hb,e'.symm,hs⟩
  · obtain⟨a,ha,e,_⟩:=hval b hb
    exact⟨a,ha,e⟩
theorem AAt {h:GG} {z:Int} {m n w:GN} {f:Int→Option GN} {E:List GE} {N:List GN} (a:AtN h z m f E) (hn:VN n) (e:n.id=z) (hw:Vx N n=w) (h1:m.labels=w.labels) (h2:m.props=w.props) (hw1:allNames w.labels) (hw2:allNames (keysOf w.props)):
    ∃h' m',AaK h (Aae N n)=some h'∧AtN h' z m' f E∧SN m' n:=by
  subst e
  unfold Aae Gf valuesL
  rw[hw,←h1,←h2]
  have hz:=hn.id
  have hnd:∀{l:List (List UInt8)},Inc Op.bytesLess _root_.id l→l.Nodup:=fun h=>AgA G7 (by have:=SY h;simpa using this)
  have hm:=a.na
  obtain⟨k1,m1,r1,a1,e1,q1⟩:=AAW hz (D:=m.labels.filter fun x=>decide (x∉n.labels)) ((hnd hm.iL).filter _) (fun x hx=>(List.mem_filter.1 hx).1) (fun x hx=>hw1 x (by rw[← h1];exact(List.mem_filter.1 hx).1)) a
  obtain⟨k2,m2,r2,a2,e2,q2⟩:=AAY hz (D:=(keysOf m.props).filter fun x=>decide (x∉keysOf n.props)) (fun x hx=>hw2 x (by rw[← h2];exact(List.mem_filter.1 hx).1)) a1
  have hl2:∀y,y∈m2.labels↔y∈m.labels∧y∈n.labels:=fun y=>by
    rw[e2,q1,List.mem_filter]
    constructor
    · rintro⟨h,k⟩;exact⟨h,Classical.not_not.1 fun q=>k ⟨h,decide_eq_true q⟩⟩
    · rintro⟨h,k⟩;exact⟨h,fun q=>of_decide_eq_true q.2 k⟩
  obtain⟨k3,m3,r3,a3,e3,q3⟩:=AAX hz hn.a.lL (D:=n.labels.filter fun x=>decide (x∉m.labels)) ((hnd hn.a.iL).filter _) (fun x hx hq=>of_decide_eq_true (List.mem_filter.1 hx).2 ((hl2 x).1 hq).1) (fun x hx=>(List.mem_filter.1 hx).1) (fun x hx=>((hl2 x).1 hx).2) (fun x hx=>hn.nl x (List.mem_filter.1 hx).1) a2
  have hp2:∀k,lk GP.key m2.props k=if k∈keysOf m.props∧k∉keysOf n.props then none else lk GP.key m.props k:=fun k=>by
    rw[q2,e1]
    by_cases q:k∈keysOf m.props∧k∉keysOf n.props
    · rw[if_pos q,if_pos (List.mem_filter.2 ⟨q.1,decide_eq_true q.2⟩)]
    · rw[if_neg q,if_neg fun h=>q ⟨(List.mem_filter.1 h).1,of_decide_eq_true (List.mem_filter.1 h).2⟩]
  have hnk:(keysOf n.props).Nodup:=AgA G7 (SY hn.a.iP)
  obtain⟨k4,m4,r4,a4,e4,q4⟩:=AAZ hz (W:=keysOf n.props) (by unfold keysOf;rw[List.length_map];exact hn.a.lP) (D:=n.props.filter fun p=>decide (QK 12 (OA m.props p.key) p.v≠0)) (List.Nodup.sublist (List.filter_sublist.map _) hnk) (fun p hp=>by
      have hp:=(List.mem_filter.1 hp).1
      exact⟨List.mem_map_of_mem hp,hn.nk _ (List.mem_map_of_mem hp),hn.pl p hp⟩) (fun p hp=>by
      rw[e3]at hp
      have h3:=hp2 p.key
      rw[JD G7 a2.na.iP hp rfl]at h3
      split at h3
      · cases h3
      rename_i hq
      have hpm:=(QC h3.symm).1
      exact Classical.not_not.1 fun h=>hq ⟨List.mem_map_of_mem hpm,h⟩) a3
  refine⟨k4,m4,AaF r1 (AaF r2 (AaF r3 r4)),a4,a4.id,?_,?_⟩
  · refine AxL G7 (by have:=SY a4.na.iL;simpa using this) (by have:=SY hn.a.iL;simpa using this) fun y=>?_
    rw[e4,q3,hl2,List.mem_filter]
    constructor
    · rintro(h|h)
      · exact h.2
      · exact h.1
    · intro h
      by_cases q:y∈m.labels
      · exact .inl ⟨q,h⟩
      · exact .inr ⟨h,decide_eq_true q⟩
  · refine AHp (was:=m.props) a4.na.iP hn.a.iP hn.pl fun k=>?_
    rw[q4,e3,hp2]
end AI
end Go.Proofs.YtnbibfalljlmfaaGreatDoor
