/- What a check finds, said in one; a step keeps graphs valid: plain. A step keeps graphs in good form; their lengths: plain. The reference's Steps answers. One more at the end of a list that is put into: what a reference's loop does, step by step. The reference puts nodes into a graph, exactly. The reference: lists of labels with one more, one less. The reference's null, lists of properties and labels. The reference sets a property, exactly. Taking out, at the end of a list. The reference takes a property away (set to null), exactly. The reference: lists of labels with one more, one less, exactly. -/
import Derived.Test.YtchcadfjbkkgmaaGreatDoorCMap
import Derived.Test.YtchcadfjbkkgmaaGreatDoorCMao
import Derived.Test.YtchcadfjbkkgmaaGreatDoorCMaj
import Derived.Test.YtchcadfjbkkgmaaGreatDoorCMae
import Derived.Test.YtchcadfjbkkgmaaGreatDoorCMak
import Derived.Test.YtchcadfjbkkgmaaGreatDoorCMal
set_option linter.unusedVariables false
set_option maxRecDepth 4000
namespace Go.Proofs.YtchcadfjbkkgmaaGreatDoor
namespace AI
theorem Yi {l:List (List UInt8)} (h:Inc Op.bytesLess id l):rises l:=fun j hj=>by
 have:=h.get (show j<j+1 by omega) hj
 simp only[id]at this
 rw[Bool.or_eq_false_iff]
 constructor
 ·cases hb:Op.bytesLess l[j+1] l[j]with
  |false=>rfl
  |true=>have:=Aq.tr _ _ _ this hb;rw[Aq.Og]at this;cases this
 ·rw[beq_eq_false_iff_ne]
  intro e
  rw[e,Aq.Og]at this;cases this
theorem Aah {P:List GP} (h:Inc Op.bytesLess GP.key P):rises (keysOf P):=Yi (by have:=AeB h;unfold Inc;exact this)
theorem Yj {L:List (List UInt8)} {P:List GP} (h1:L.length≤8) (h2:P.length≤16) (h3:allNames L) (h4:allNames (keysOf P)) (h5:Inc Op.bytesLess id L) (h6:Inc Op.bytesLess GP.key P) (h7:allPlain P):DU L P=0:=by
 unfold DU
 rw[if_neg (by omega),if_neg (fun h=>h ⟨h3,h4⟩),if_neg (fun h=>h ⟨Yi h5,Aah h6⟩),if_neg (fun h=>h h7)]
structure Chk (g:GG):Prop where
 vg:VG g
 nx:GH g
 n:∀n∈g.nodes,n.id<g.BA
 e:∀n∈g.edges,n.id<g.BJ
theorem AeC {g:GG} (h:AB g=0):Chk g:=by
 have hv:=AlH h
 obtain⟨hf,hn,hN,hE⟩:=Jg h
 refine⟨hv,hn,fun n hm=>?_,fun n hm=>?_⟩
 ·obtain⟨i,hi,rfl⟩:=List.getElem_of_mem hm
  exact(KO hi (hN i hi)).2.2.1
 ·obtain⟨i,hi,rfl⟩:=List.getElem_of_mem hm
  exact(JG hi (hE i hi)).2.2.1
theorem AjE {g:GG} (h:Chk g):AB g=0:=by
 have a:=h.vg.ask
 have hn:∀k,k<g.nodes.length→Ef g.nodes g.BA k=0:=fun k hk=>by
  have hm:=List.getElem_mem hk
  have v:=h.vg.n _ hm
  rw[Yk hk (fun h0 h1=>by have:=a.iN.get (show k-1<k by omega) hk;simp only[Cc,decide_eq_true_eq]at this;omega) (by have:=v.id.1;have:=h.n _ hm;omega)]
  exact Yj v.a.lL v.a.lP v.nl v.nk v.a.iL v.a.iP v.pl
 have he:∀k,k<g.edges.length→Eo g.nodes g.edges g.BJ k=0:=fun k hk=>by
  have hm:=List.getElem_mem hk
  have v:=h.vg.e _ hm
  obtain⟨⟨p,hp,e1⟩,⟨q,hq,e2⟩⟩:=h.vg.ends _ hm
  rw[Yl hk (fun h0 h1=>by have:=a.iE.get (show k-1<k by omega) hk;simp only[Cc,decide_eq_true_eq]at this;omega) (by have:=v.id.1;have:=h.e _ hm;omega) ⟨List.mem_map.2 ⟨p,hp,e1⟩,List.mem_map.2 ⟨q,hq,e2⟩⟩ v.ty]
  exact Yj (by simp) v.a.lP (fun s hs=>by cases hs) v.nk List.Pairwise.nil v.a.iP v.pl
 have:=Aai ⟨a.lN,a.lE⟩ h.nx hn he
 simp only[AV.int.injEq,true_and]at this
 exact this.symm
theorem Chk.Oj {g:GG} (h:Chk g) {m:GN} (hm:VN m) (hx:∃n∈g.nodes,n.id=m.id):Chk {g with nodes:=Ba Cc GN.id m g.nodes}:=by
 obtain⟨n0,hn0,e0⟩:=hx
 refine⟨⟨h.vg.ask.Oj hm.a ⟨n0,hn0,e0⟩,fun n hn=>?_,h.vg.e,fun e he=>?_⟩,h.nx,fun n hn=>?_,h.e⟩
 ·rcases Bg Ag hn with rfl|hn
  ·exact hm
  ·exact h.vg.n n hn
 ·have hk:∀z,(∃ n∈g.nodes,n.id=z)→∃n∈Ba Cc GN.id m g.nodes,n.id=z:=fun z ⟨n,hn,e⟩=>by
   by_cases q:z=m.id
   ·exact⟨m,(Hf Ag).2 (.inl rfl),q.symm⟩
   ·exact⟨n,(Hf Ag).2 (.inr ⟨hn,by rw[show GN.id n=z from e];exact q⟩),e⟩
  exact⟨hk _ (h.vg.ends e he).1,hk _ (h.vg.ends e he).2⟩
 ·rcases Bg Ag hn with rfl|hn
  ·have:=h.n n0 hn0;rw[e0]at this;exact this
  ·exact h.n n hn
theorem Chk.Xb {g:GG} (h:Chk g) {m n0:GE} (hm:VE m) (hn0:n0∈g.edges) (e0:n0.id=m.id) (e1:n0.fr=m.fr) (e2:n0.to=m.to):Chk {g with edges:=Ba Cc GE.id m g.edges}:=by
 refine⟨⟨h.vg.ask.Xb hm.a ⟨n0,hn0,e0⟩,h.vg.n,fun n hn=>?_,fun e he=>?_⟩,h.nx,h.n,fun n hn=>?_⟩
 ·rcases Bg Ag hn with rfl|hn
  ·exact hm
  ·exact h.vg.e n hn
 ·rcases Bg Ag he with rfl|he
  ·rw[← e1,←e2];exact h.vg.ends n0 hn0
  ·exact h.vg.ends e he
 ·rcases Bg Ag hn with rfl|hn
  ·have:=h.e n0 hn0;rw[e0]at this;exact this
  ·exact h.e n hn
theorem AcF {x:List UInt8} {l:List (List UInt8)} (hx:isName x) (hl:allNames l):allNames (Ba Op.bytesLess id x l):=fun s hs=>by
 rcases Bg Aq hs with rfl|hs
 ·exact hx
 ·exact hl s hs
theorem Ym {x:GP} {l:List GP} (hx:isName x.key) (hl:allNames (keysOf l)):allNames (keysOf (Ba Op.bytesLess GP.key x l)):=fun s hs=>by
 obtain⟨p,hp,rfl⟩:=List.mem_map.1 hs
 rcases Bg Aq hp with rfl|hp
 ·exact hx
 ·exact hl _ (List.mem_map_of_mem hp)
theorem Yn {x:List UInt8} {l:List GP} (hl:allNames (keysOf l)):allNames (keysOf (CP Op.bytesLess GP.key x l)):=fun s hs=>by
 obtain⟨p,hp,rfl⟩:=List.mem_map.1 hs
 exact hl _ (List.mem_map_of_mem (Cj hp))
theorem VR {x:GP} {l:List GP} (hx:D9 x.v) (hl:allPlain l):allPlain (Ba Op.bytesLess GP.key x l):=fun p hp=>by
 rcases Bg Aq hp with rfl|hp
 ·exact hx
 ·exact hl p hp
theorem Yo {a b:Int} (ha:Md a) (hb:1≤b∧b≤1000001):1≤(if a+1>b then a+1 else b)∧(if a+1>b then a+1 else b)≤1000001:=by unfold Md at ha;split<;>omega
theorem AiF {a b c:Int} (h:a<b):a<(if c>b then c else b):=by split<;>omega
theorem AeD {a b c:Int} (h:a<c):a<(if c>b then c else b):=by split<;>omega
theorem AeE {g:GG} {c:GC} (h:Chk g):Chk (stepG g c).2:=by
 have ha:=h.vg.ask
 have hstep:=ha.step (c:=c)
 unfold stepG at hstep ⊢
 split
 ·exact h
 rename_i hk
 rw[if_neg hk]at hstep
 obtain⟨hop,hid,hnm,h6,hvl⟩:=AeF (Classical.not_not.1 hk)
 split
 ·rename_i h5
  rw[if_pos h5]at hstep
  unfold Bc at hstep ⊢
  split
  ·rename_i h1
   rw[if_pos h1]at hstep
   split
   ·exact h
   rename_i hx
   rw[if_neg hx]at hstep
   split
   ·rename_i hl
    rw[if_pos hl]at hstep
    have hb:VN ⟨c.id,false,[],false,[]⟩:=⟨hid,fun s hs=>(by cases hs),fun s hs=>(by cases hs),fun s hs=>(by cases hs),⟨List.Pairwise.nil,by simp,List.Pairwise.nil,by simp⟩⟩
    refine⟨⟨hstep,fun n hn=>?_,h.vg.e,fun e he=>?_⟩,?_,fun n hn=>?_,h.e⟩
    ·rcases Bg Ag hn with rfl|hn
     ·exact hb
     ·exact h.vg.n n hn
    ·have hkp:∀z,(∃ n∈g.nodes,n.id=z)→∃n∈Ba Cc GN.id ⟨c.id,false,[],false,[]⟩ g.nodes,n.id=z:=fun z ⟨n,hn,e⟩=>⟨n,(Hf Ag).2 (.inr ⟨hn,fun q=>hx ⟨n,hn,q⟩⟩),e⟩
     exact⟨hkp _ (h.vg.ends e he).1,hkp _ (h.vg.ends e he).2⟩
    ·have:=Yo hid ⟨h.nx.1,h.nx.2.1⟩
     exact⟨this.1,this.2,h.nx.2.2⟩
    ·rcases Bg Ag hn with rfl|hn
     ·exact AeD (by show c.id<c.id+1;omega)
     ·exact AiF (h.n n hn)
   ·exact h
  rename_i hop1
  split
  ·exact h
  rename_i n hf
  obtain⟨hn,hz⟩:=DX hf
  have hz:=of_decide_eq_true hz
  have hv:=h.vg.n n hn
  rw[if_neg hop1,hf]at hstep
  split
  ·split
   ·exact h
   rename_i hu
   refine⟨⟨?_,fun n hn=>h.vg.n n (Cj hn),h.vg.e,fun e he=>?_⟩,h.nx,fun n hn=>h.n n (Cj hn),h.e⟩
   ·exact{ha with lN:=Nat.le_trans (Ea Ag) ha.lN,iN:=Gn Ag ha.iN,aN:=fun m hm=>ha.aN m (Cj hm)}
   ·have hkp:∀z,z≠c.id→(∃ n∈g.nodes,n.id=z)→∃n∈CP Cc GN.id c.id g.nodes,n.id=z:=fun z q ⟨n,hn,e⟩=>⟨n,(Ag4 Ag).2 ⟨hn,by rw[show GN.id n=z from e];exact q⟩,e⟩
    exact⟨hkp _ (fun q=>hu ⟨e,he,.inl q⟩) (h.vg.ends e he).1,hkp _ (fun q=>hu ⟨e,he,.inr q⟩) (h.vg.ends e he).2⟩
  split
  ·rename_i h3
   split
   ·exact h
   split
   ·exact h.Oj ⟨hv.id,AcF (hnm (.inl h3)) hv.nl,hv.nk,hv.pl,⟨FM Aq hv.a.iL,Nat.le_trans (F8 Aq) (by omega),hv.a.iP,hv.a.lP⟩⟩ ⟨n,hn,rfl⟩
   ·exact h
  split
  ·split
   ·exact h.Oj ⟨hv.id,fun s hs=>hv.nl s (Cj hs),hv.nk,hv.pl,⟨Gn Aq hv.a.iL,Nat.le_trans (Ea Aq) hv.a.lL,hv.a.iP,hv.a.lP⟩⟩ ⟨n,hn,rfl⟩
   ·exact h
  split
  ·exact h.Oj ⟨hv.id,hv.nl,Yn hv.nk,fun p hp=>hv.pl p (Cj hp),⟨hv.a.iL,hv.a.lL,Gn Aq hv.a.iP,Nat.le_trans (Ea Aq) hv.a.lP⟩⟩ ⟨n,hn,rfl⟩
  split
  ·rename_i h2 h3 h4 hnn hx
   have h5:c.op=5:=by omega
   refine h.Oj ⟨hv.id,hv.nl,Ym (hnm (by unfold Ri;omega)) hv.nk,VR ((hvl (.inl h5)).resolve_left hnn) hv.pl,⟨hv.a.iL,hv.a.lL,FM Aq hv.a.iP,?_⟩⟩ ⟨n,hn,rfl⟩
   rcases hx with hx|hx
   ·exact Nat.le_trans (Jh Aq hx) hv.a.lP
   ·exact Nat.le_trans (F8 Aq) (by omega)
  ·exact h
 ·rename_i h5
  rw[if_neg h5]at hstep
  unfold Bz at hstep ⊢
  split
  ·rename_i h6'
   rw[if_pos h6']at hstep
   split
   ·exact h
   rename_i hx
   rw[if_neg hx]at hstep
   split
   ·rename_i Abx
    rw[if_pos Abx]at hstep
    split
    ·rename_i hl
     rw[if_pos hl]at hstep
     have hb:VE ⟨c.id,c.fr,c.to,c.name,false,[]⟩:=⟨hid,hnm (by unfold Ri;omega),fun s hs=>(by cases hs),fun s hs=>(by cases hs),⟨List.Pairwise.nil,by simp⟩⟩
     refine⟨⟨hstep,h.vg.n,fun n hn=>?_,fun e he=>?_⟩,?_,h.n,fun n hn=>?_⟩
     ·rcases Bg Ag hn with rfl|hn
      ·exact hb
      ·exact h.vg.e n hn
     ·rcases Bg Ag he with rfl|he
      ·exact Abx
      ·exact h.vg.ends e he
     ·have:=Yo hid h.nx.2.2
      exact⟨h.nx.1,h.nx.2.1,this.1,this.2⟩
     ·rcases Bg Ag hn with rfl|hn
      ·exact AeD (by show c.id<c.id+1;omega)
      ·exact AiF (h.e n hn)
    ·exact h
   ·exact h
  rename_i hop1
  split
  ·exact h
  rename_i n hf
  obtain⟨hn,hz⟩:=DX hf
  have hv:=h.vg.e n hn
  split
  ·exact⟨⟨{ha with lE:=Nat.le_trans (Ea Ag) ha.lE,iE:=Gn Ag ha.iE,aE:=fun m hm=>ha.aE m (Cj hm)},h.vg.n,fun m hm=>h.vg.e m (Cj hm),fun e he=>h.vg.ends e (Cj he)⟩,h.nx,h.n,fun m hm=>h.e m (Cj hm)⟩
  split
  ·exact h.Xb ⟨hv.id,hv.ty,Yn hv.nk,fun p hp=>hv.pl p (Cj hp),⟨Gn Aq hv.a.iP,Nat.le_trans (Ea Aq) hv.a.lP⟩⟩ hn rfl rfl rfl
  split
  ·rename_i h7 hnn hx
   have h8:c.op=8:=by omega
   refine h.Xb ⟨hv.id,hv.ty,Ym (hnm (by unfold Ri;omega)) hv.nk,VR ((hvl (.inr h8)).resolve_left hnn) hv.pl,⟨FM Aq hv.a.iP,?_⟩⟩ hn rfl rfl rfl
   rcases hx with hx|hx
   ·exact Nat.le_trans (Jh Aq hx) hv.a.lP
   ·exact Nat.le_trans (F8 Aq) (by omega)
  ·exact h
theorem Td {g:GG} {m:GN} {L:List GN} (hg:g.ok) (hm:m.ok) (hL:Ln L) (h:∀x∈L,x=m∨x∈g.nodes) {z:Int} (hz:I64 z):(⟨true,L,g.en,g.edges,z,g.BJ⟩:GG).ok:=by
 obtain⟨g1,g2,g3,g4,g5,g6,g7,g8⟩:=hg
 refine⟨hL,fun h=>Bool.noConfusion h,fun x hx=>?_,g4,g5,g6,hz,g8⟩
 rcases h x hx with rfl|h
 ·exact hm
 ·exact g3 x h
theorem Tf {g:GG} {m:GE} {L:List GE} (hg:g.ok) (hm:m.ok) (hL:Ln L) (h:∀x∈L,x=m∨x∈g.edges) {z:Int} (hz:I64 z):(⟨g.nn,g.nodes,true,L,g.BA,z⟩:GG).ok:=by
 obtain⟨g1,g2,g3,g4,g5,g6,g7,g8⟩:=hg
 refine⟨g1,g2,g3,hL,fun h=>Bool.noConfusion h,fun x hx=>?_,g7,hz⟩
 rcases h x hx with rfl|h
 ·exact hm
 ·exact g6 x h
theorem Nv {α:Type} {lt:Int→Int→Bool} {key:α→Int} {x:α} {l:List α} (hs:OM lt) (h:l.length≤100000):Ln (Ba lt key x l):=by
 have:=F8 (key:=key) hs (x:=x) (l:=l);unfold Ln;omega
theorem Oa {α:Type} {key:α→List UInt8} {x:α} {l:List α} (h:l.length≤100000):Ln (Ba Op.bytesLess key x l):=by
 have:=F8 (key:=key) Aq (x:=x) (l:=l);unfold Ln;omega
theorem N9 {α:Type} {key:α→List UInt8} {x:List UInt8} {l:List α} (h:l.length≤100000):Ln (CP Op.bytesLess key x l):=by
 have:=Ea (key:=key) Aq (k:=x) (l:=l);unfold Ln;omega
theorem XR {n:GN} {b:Bool} {L:List (List UInt8)} {x:List UInt8} (hn:n.ok) (hx:Ln x) (hL:Ln L) (hb:b=false→L=[]) (h:∀y∈L,y=x∨y∈n.labels):(⟨n.id,b,L,n.pn,n.props⟩:GN).ok:=by
 obtain⟨o1,o2,o3,o4,o5,o6,o7⟩:=hn
 refine⟨o1,hL,hb,fun s hs=>?_,o5,o6,o7⟩
 rcases h s hs with rfl|h
 ·exact hx
 ·exact o4 s h
theorem XT {n:GN} {b:Bool} {L:List GP} {x:GP} (hn:n.ok) (hx:x.ok) (hL:Ln L) (hb:b=false→L=[]) (h:∀y∈L,y=x∨y∈n.props):(⟨n.id,n.ln,n.labels,b,L⟩:GN).ok:=by
 obtain⟨o1,o2,o3,o4,o5,o6,o7⟩:=hn
 refine⟨o1,o2,o3,o4,hL,hb,fun s hs=>?_⟩
 rcases h s hs with rfl|h
 ·exact hx
 ·exact o7 s h
theorem XI {n:GE} {b:Bool} {L:List GP} {x:GP} (hn:n.ok) (hx:x.ok) (hL:Ln L) (hb:b=false→L=[]) (h:∀y∈L,y=x∨y∈n.props):(⟨n.id,n.fr,n.to,n.ty,b,L⟩:GE).ok:=by
 obtain⟨o1,o2,o3,o4,o5,o6,o7⟩:=hn
 refine⟨o1,o2,o3,o4,hL,hb,fun s hs=>?_⟩
 rcases h s hs with rfl|h
 ·exact hx
 ·exact o7 s h
theorem Ab6 {z:Int} (h:I64 z):(⟨z,false,[],false,[]⟩:GN).ok:=⟨h,by simp[Ln],fun _=>rfl,by simp,by simp[Ln],fun _=>rfl,by simp⟩
theorem Ab7 {z fr to:Int} {nm:List UInt8} (h:I64 z) (h1:I64 fr) (h2:I64 to) (h3:Ln nm):(⟨z,fr,to,nm,false,[]⟩:GE).ok:=⟨h,h1,h2,h3,by simp[Ln],fun _=>rfl,by simp⟩
theorem Aeo (g:GG) (c:GC):(stepG g c).2.nodes.length≤g.nodes.length+1∧(stepG g c).2.edges.length≤g.edges.length+1:=by
 have h0:g.nodes.length≤g.nodes.length+1∧g.edges.length≤g.edges.length+1:=⟨by omega,by omega⟩
 have hp:∀x,(Ba Cc GN.id x g.nodes).length≤g.nodes.length+1∧g.edges.length≤g.edges.length+1:=fun x=>⟨F8 Ag,by omega⟩
 have hq:∀x,g.nodes.length≤g.nodes.length+1∧(Ba Cc GE.id x g.edges).length≤g.edges.length+1:=fun x=>⟨by omega,F8 Ag⟩
 unfold stepG
 split
 ·exact h0
 split
 ·unfold Bc
  repeat' split
  all_goals first|exact h0|exact hp _|exact⟨Nat.le_succ_of_le (Ea Ag),h0.2⟩
 ·unfold Bz
  repeat' split
  all_goals first|exact h0|exact hq _|exact⟨h0.1,Nat.le_succ_of_le (Ea Ag)⟩
theorem Aii {g:GG} (hg:g.ok) {z:Int} (hl:g.nodes.length≤100000):({g with nodes:=CP Cc GN.id z g.nodes}:GG).ok:=by
 obtain⟨g1,g2,g3,g4,g5,g6,g7,g8⟩:=hg
 refine⟨?_,fun h=>?_,fun x hx=>g3 x (Cj hx),g4,g5,g6,g7,g8⟩
 ·have:=Ea (key:=GN.id) Ag (k:=z) (l:=g.nodes);unfold Ln;dsimp only;omega
 ·rw[show g.nodes=[] from g2 h];rfl
theorem Aij {g:GG} (hg:g.ok) {z:Int} (hl:g.edges.length≤100000):({g with edges:=CP Cc GE.id z g.edges}:GG).ok:=by
 obtain⟨g1,g2,g3,g4,g5,g6,g7,g8⟩:=hg
 refine⟨g1,g2,g3,?_,fun h=>?_,fun x hx=>g6 x (Cj hx),g7,g8⟩
 ·have:=Ea (key:=GE.id) Ag (k:=z) (l:=g.edges);unfold Ln;dsimp only;omega
 ·rw[show g.edges=[] from g5 h];rfl
theorem XU {g:GG} {n m:GN} (hg:g.ok) (hl:g.nodes.length≤100000) (hn:n∈g.nodes) (hm:m.ok):({g with nodes:=Ba Cc GN.id m g.nodes}:GG).ok:=by
 have hb:g.nn=true:=by
  cases hb:g.nn with
  |true=>rfl
  |false=>have:=hg.2.1 hb;rw[this]at hn;cases hn
 have:=Td hg hm (Nv (key:=GN.id) Ag hl) (fun x hx=>Bg Ag hx) hg.2.2.2.2.2.2.1
 rw[← hb]at this
 exact this
theorem Agb {g:GG} {n m:GE} (hg:g.ok) (hl:g.edges.length≤100000) (hn:n∈g.edges) (hm:m.ok):({g with edges:=Ba Cc GE.id m g.edges}:GG).ok:=by
 have hb:g.en=true:=by
  cases hb:g.en with
  |true=>rfl
  |false=>have:=hg.2.2.2.2.1 hb;rw[this]at hn;cases hn
 have:=Tf hg hm (Nv (key:=GE.id) Ag hl) (fun x hx=>Bg Ag hx) hg.2.2.2.2.2.2.2
 rw[← hb]at this
 exact this
theorem Zw {a b:Int} (ha:Md a) (hb:I64 b):I64 (if a+1>b then a+1 else b):=by unfold I64 Md at *;split<;>omega
theorem AgR {g:GG} {c:GC} (hg:g.ok) (ha:Gu g) (hc:c.ok):(stepG g c).2.ok:=by
 have lN:=ha.lN
 have lE:=ha.lE
 obtain⟨c1,c2,c3,c4,c5,c6⟩:=hc
 unfold stepG
 split
 ·exact hg
 rename_i hk
 have hid:=(AeF (Classical.not_not.1 hk)).2.1
 split
 ·unfold Bc
  split
  ·split
   ·exact hg
   split
   ·exact Td hg (Ab6 c2) (Nv Ag (by omega)) (fun x hx=>Bg Ag hx) (Zw hid hg.2.2.2.2.2.2.1)
   ·exact hg
  split
  ·exact hg
  rename_i n hf
  have hn:=List.mem_of_find?_eq_some hf
  have hno:=hg.2.2.1 n hn
  have hA:=ha.aN n hn
  have l1:=hA.lL
  have l2:=hA.lP
  split
  ·split
   ·exact hg
   ·exact Aii hg (by omega)
  split
  ·split
   ·exact hg
   split
   ·exact XU hg (by omega) hn (XR hno c5 (Oa (by omega)) (fun h=>Bool.noConfusion h) (fun y hy=>Bg Aq hy))
   ·exact hg
  split
  ·split
   ·exact XU hg (by omega) hn (XR hno c5 (N9 (by omega)) (fun h=>Bool.noConfusion h) (fun y hy=>.inr (Cj hy)))
   ·exact hg
  split
  ·refine XU hg (by omega) hn (XT (x:=⟨c.name,c.v⟩) hno ⟨c5,c6⟩ (N9 (by omega)) (fun h=>?_) (fun y hy=>.inr (Cj hy)))
   rw[show n.props=[] from hno.2.2.2.2.2.1 h];rfl
  split
  ·exact XU hg (by omega) hn (XT (x:=⟨c.name,c.v⟩) hno ⟨c5,c6⟩ (Oa (by omega)) (fun h=>Bool.noConfusion h) (fun y hy=>Bg Aq hy))
  ·exact hg
 ·unfold Bz
  split
  ·split
   ·exact hg
   split
   ·split
    ·exact Tf hg (Ab7 c2 c3 c4 c5) (Nv Ag (by omega)) (fun x hx=>Bg Ag hx) (Zw hid hg.2.2.2.2.2.2.2)
    ·exact hg
   ·exact hg
  split
  ·exact hg
  rename_i n hf
  have hn:=List.mem_of_find?_eq_some hf
  have hno:=hg.2.2.2.2.2.1 n hn
  have hA:=ha.aE n hn
  have l2:=hA.lP
  split
  ·exact Aij hg (by omega)
  split
  ·refine Agb hg (by omega) hn (XI (x:=⟨c.name,c.v⟩) hno ⟨c5,c6⟩ (N9 (by omega)) (fun h=>?_) (fun y hy=>.inr (Cj hy)))
   rw[show n.props=[] from hno.2.2.2.2.2.1 h];rfl
  split
  ·exact Agb hg (by omega) hn (XI (x:=⟨c.name,c.v⟩) hno ⟨c5,c6⟩ (Oa (by omega)) (fun h=>Bool.noConfusion h) (fun y hy=>Bg Aq hy))
  ·exact hg
structure AJ where
 fr:Int
 to:Int
 ed:Int
def AJ.av (a:AJ):AV:=.agg [.int .i64 a.fr,.int .i64 a.to,.int .i64 a.ed]
theorem WS:∀a:AJ,a.av.cells.length=3:=fun _=>rfl
theorem Alo {g:GG} {len c go gx:Nat} {nn:Bool} {W:List AJ} {x:AJ} {id dir ii:Int} (hl:len=W.length) (h0:0<len) (hs:len<2^61) {Q:AZ→Env→Am→Prop}
 (hQ:∀(t:Nat) (W':List AJ),W'.length=len→t<len→Q (.exit 2) [(1,.int .i64 id),(2,.sl false []),(3,.int .i64 dir),(4,.ref 0 0 0 0),(9,.own 1 go 0 len),(10,.int .i64 ii),(11,.ref 2 gx 0 0),(13,.int .i64 t),(84,.bool false)] ⟨[.arr 0 4 true true [g.av],.arr go 3 nn true (vs AJ.av W'),.arr gx 3 true true [x.av]],c⟩):
 Run (Ad tab) (.loop l48_0_h l48_0_b) [(1,.int .i64 id),(2,.sl false []),(3,.int .i64 dir),(4,.ref 0 0 0 0),(9,.own 1 go 0 len),(10,.int .i64 ii),(11,.ref 2 gx 0 0),(13,.int .i64 (len-1:Nat))] ⟨[.arr 0 4 true true [g.av],.arr go 3 nn true (vs AJ.av W),.arr gx 3 true true [x.av]],c⟩ Q:=by
 refine Ap (fun m env s=>∃(t:Nat) (W:List AJ),m=t∧t<len∧W.length=len∧env=[(1,.int .i64 id),(2,.sl false []),(3,.int .i64 dir),(4,.ref 0 0 0 0),(9,.own 1 go 0 len),(10,.int .i64 ii),(11,.ref 2 gx 0 0),(13,.int .i64 t)]∧s=⟨[.arr 0 4 true true [g.av],.arr go 3 nn true (vs AJ.av W),.arr gx 3 true true [x.av]],c⟩) ?_ _ _ _ ⟨len-1,W,rfl,by omega,hl.symm,rfl,rfl⟩
 clear hl
 rintro m _ _ ⟨t,W,hm,ht,hW,rfl,rfl⟩
 subst m
 refine⟨rfl,?_⟩
 by_cases h:0<t
 ·(conv=>whnf);repeat' (first|(apply Ah;(· exact nVz (t-1) (by omega) (by omega));conv=>whnf)|((with_reducible show eqK _ _);refine tV WS (x:=W[t-1]) t ?_ (by omega);conv=>whnf)|(refine kA ?_;conv=>whnf)|(refine Br.mk (fun hc=>?_) fun hc=>?_<;>first|exact hc.elim|conv=>whnf)|(refine kB ?_))
  all_goals first
   |(refine again.mk ⟨t-1,by omega,t-1,W.set t W[t-1],rfl,by omega,by rw[List.length_set];exact hW,?_,rfl⟩;rw[show ((t-1:Nat):Int)=(t:Int)-1 by omega];done)
   |(refine again.mk ⟨t-1,by omega,t-1,W.set t W[t-1],rfl,by omega,by rw[List.length_set];exact hW,?_,rfl⟩;rw[show ((t-1:Nat):Int)=(t:Int)-1 by omega];rfl)
   |exact hQ _ _ hW ht
 ·(conv=>whnf);repeat' (first  |(refine kA ?_;conv=>whnf)|(refine Br.mk (fun hc=>?_) fun hc=>?_<;>first|exact hc.elim|conv=>whnf)|(refine kB ?_))
  exact hQ _ _ hW ht
section
variable {α κ:Type} {lt:κ→κ→Bool} {key:α→κ}
theorem NI {x y:α} {L:List α} (hs:OM lt) (h:lt (key x) (key y)=true):Ba lt key x (L++[y])=Ba lt key x L++[y]:=by
 have h1:lt (key y) (key x)=false:=by
  cases hb:lt (key y) (key x)with
  |false=>rfl
  |true=>have:=hs.tr _ _ _ h hb;rw[hs.Og]at this;cases this
 simp only[Ba,below,above,List.filter_append,List.filter_cons,List.filter_nil,h,h1,if_true,List.append_assoc]
 rfl
theorem L9 {x:α} {L:List α} (hs:OM lt) (h:∀y∈L,lt (key y) (key x)=true):Ba lt key x L=L++[x]:=by
 have e1:below lt key (key x) L=L:=filter_all h
 have e2:above lt key (key x) L=[]:=filter_none fun y hy=>by
  cases hb:lt (key x) (key y)with
  |false=>rfl
  |true=>have:=hs.tr _ _ _ hb (h y hy);rw[hs.Og]at this;cases this
 rw[Ba,e1,e2,List.append_nil]
theorem QJ {x y:α} {L:List α} (hs:OM lt) (h:∀y∈L,lt (key y) (key x)=true) (e:key y=key x):Ba lt key x (L++[y])=L++[x]:=by
 have h1:lt (key y) (key x)=false:=by rw[e];exact hs.Og _
 have h2:lt (key x) (key y)=false:=by rw[e];exact hs.Og _
 rw[← L9 hs h]
 simp[Ba,below,above,List.filter_append,h1,h2]
end
theorem U2 {α:Type} {key:α→Int} {l:List α} {i:Nat} {x:Int} (h:Inc Cc key l) (hi:i<l.length) (hx:x≤key l[i]):∀y∈l.drop (i+1),x<key y:=by
 intro y hy
 obtain⟨j,hj,rfl⟩:=List.mem_drop_iff_getElem.1 hy
 have:=h.get (show i<i+1+j by omega) (by omega)
 simp only[Cc,decide_eq_true_eq]at this
 omega
theorem ZH {x y:GN} {L:List GN} (h:x.id<y.id):Ba Cc GN.id x (L++[y])=Ba Cc GN.id x L++[y]:=NI Ag (by simpa[Cc]using h)
theorem ZI {x:GN} {L:List GN} (h:∀y∈L,y.id<x.id):Ba Cc GN.id x L=L++[x]:=L9 Ag fun y hy=>by simpa[Cc]using h y hy
theorem Ait {x y:GN} {L:List GN} (h:∀y∈L,y.id<x.id) (e:y.id=x.id):Ba Cc GN.id x (L++[y])=L++[x]:=QJ Ag (fun y hy=>by simpa[Cc]using h y hy) e
set_option maxHeartbeats 1000000 in
theorem Zd {g:GG} {n:GN} (hg:g.ok) (hN:g.nodes.length≤3000) (hI:Inc Cc GN.id g.nodes) (hi1:1≤n.id) (hi2:n.id≤1000000):Af (Ad tab) 91 [g.av,n.av] (· =GG.av ⟨true,Ba Cc GN.id n g.nodes,g.en,g.edges,(if n.id+1>g.BA then n.id+1 else g.BA),g.BJ⟩):=by
 obtain⟨g1,g2,g3,g4,g5,g6,g7,g8⟩:=hg
 unfold I64 at g7
 refine Ac rfl rfl ?_
 (conv=>whnf);repeat' (first  |(refine kA ?_;conv=>whnf)|(refine Br.mk (fun hc=>?_) fun hc=>?_<;>first|exact hc.elim|conv=>whnf)|(refine kB ?_))
 refine Ap (fun m env s=>∃(i c go k:Nat) (b d:Bool) (l:List GN),m=g.nodes.length-i∧i≤g.nodes.length∧k=l.length∧l.length≤i+1∧(b=false→d=false)∧(d=false→l=g.nodes.take i∧∀y∈g.nodes.take i,y.id<n.id)∧(d=true→l=Ba Cc GN.id n (g.nodes.take i)∧∀y∈g.nodes.drop i,n.id<y.id)∧env=[(2,.ref 0 0 0 0),(3,.ref 1 1 0 0),(4,.ref 2 2 0 0),(5,.own 3 go 0 k),(6,.bool d),(7,.int .i64 i)]∧
  s=⟨[.arr 0 4 true true [g.av],.arr 1 3 true true [n.av],.arr 2 4 true true [.agg [.sl false [],.sl false [],.int .i64 0,.int .i64 0]],.arr go 3 b true (vs GN.av l)],c⟩) ?_ _ _ _ ⟨0,_,_,0,_,_,[],rfl,by omega,rfl,by simp,fun _=>rfl,fun _=>⟨rfl,by simp⟩,fun h=>Bool.noConfusion h,rfl,rfl⟩
 rintro _ _ _ ⟨i,c,go,k,b,d,l,rfl,hi,hk,hl,hb,hd,ht,rfl,rfl⟩
 refine⟨rfl,?_⟩
 subst hk
 by_cases hlt:i<g.nodes.length
 ·have hda:∀x:Int,x≤(g.nodes[i]).id→∀y∈g.nodes.drop (i+1),x<y.id:=fun x hx=>U2 hI hlt hx
  have hs:=List.take_succ_eq_append_getElem hlt
  have htk:∀{P:GN→Prop},(∀ y∈g.nodes.take i,P y)→P g.nodes[i]→∀y∈g.nodes.take (i+1),P y:=fun{P} h1 h2 y hy=>by
   rw[hs]at hy
   rcases List.mem_append.1 hy with hy|hy
   ·exact h1 y hy
   ·obtain rfl:=List.mem_singleton.1 hy;exact h2
  cases d
  ·obtain⟨rfl,hlo⟩:=hd rfl
   have hle:(g.nodes.take i).length≤i:=by rw[List.length_take];omega
   (conv=>whnf);repeat' (first|(refine Ij (x:=n) TD (by simp) (by simp;omega) ?_;conv=>whnf)|(refine Ij (x:=g.nodes[i]) TD (by simp) (by simp;omega) ?_;conv=>whnf)|(refine kA ?_;conv=>whnf)|(refine Br.mk (fun hc=>?_) fun hc=>?_<;>first|exact hc.elim|conv=>whnf)|(refine kB ?_))
   all_goals first
        |exact again.mk ⟨_,by omega,i+1,_,_,_,_,_,g.nodes.take i++[n]++[g.nodes[i]],rfl,by omega,by simp,by simp;omega,fun h=>Bool.noConfusion h,fun h=>Bool.noConfusion h,fun _=>⟨by rw[hs,ZH (by omega),ZI hlo],hda _ (by omega)⟩,rfl,rfl⟩
        |exact again.mk ⟨_,by omega,i+1,_,_,_,_,_,g.nodes.take i++[n],rfl,by omega,by simp,by simp;omega,fun h=>Bool.noConfusion h,fun h=>Bool.noConfusion h,fun _=>⟨by rw[hs,Ait hlo (by omega)],hda _ (by omega)⟩,rfl,rfl⟩
        |exact again.mk ⟨_,by omega,i+1,_,_,_,_,_,g.nodes.take i++[g.nodes[i]],rfl,by omega,by rw[List.length_append,List.length_singleton],by rw[List.length_append,List.length_singleton];omega,fun _=>rfl,fun _=>⟨hs.symm,htk hlo (by omega)⟩,fun h=>Bool.noConfusion h,rfl,rfl⟩
        |(exfalso;omega)
  ·obtain⟨rfl,hhi⟩:=ht rfl
   have hgt:n.id<(g.nodes[i]).id:=hhi _ (by rw[List.drop_eq_getElem_cons hlt];exact List.mem_cons_self)
   (conv=>whnf);repeat' (first|(refine Ij (x:=g.nodes[i]) TD (by simp) (by simp;omega) ?_;conv=>whnf)|(refine kA ?_;conv=>whnf)|(refine Br.mk (fun hc=>?_) fun hc=>?_<;>first|exact hc.elim|conv=>whnf)|(refine kB ?_))
   all_goals first
        |exact again.mk ⟨_,by omega,i+1,_,_,_,_,_,Ba Cc GN.id n (g.nodes.take i)++[g.nodes[i]],rfl,by omega,by simp,by simp;omega,fun h=>Bool.noConfusion h,fun h=>Bool.noConfusion h,fun _=>⟨by rw[hs,ZH hgt],hda _ (by omega)⟩,rfl,rfl⟩
        |(exfalso;omega)
 ·obtain rfl:i=g.nodes.length:=by omega
  rw[List.take_length]at hd ht
  cases d
  ·obtain⟨rfl,hlo⟩:=hd rfl
   rw[ZI hlo]
   (conv=>whnf);repeat' (first|(refine Ij (x:=n) TD (by simp) (by simp;omega) ?_;conv=>whnf)|(refine kA ?_;conv=>whnf)|(refine Br.mk (fun hc=>?_) fun hc=>?_<;>first|exact hc.elim|conv=>whnf)|(refine kB ?_))
   all_goals first|rfl|(exfalso;omega)
  ·obtain⟨rfl,_⟩:=ht rfl
   cases b
   ·exact absurd (hb rfl) Bool.noConfusion
   (conv=>whnf);repeat' (first  |(refine kA ?_;conv=>whnf)|(refine Br.mk (fun hc=>?_) fun hc=>?_<;>first|exact hc.elim|conv=>whnf)|(refine kB ?_))
   all_goals first|rfl|(exfalso;omega)
theorem An0 {α:Type} {f:α→AV} {es g len:Nat} {nn cl:Bool} {l l':List α} {ys:List AV} {bytes:Nat} {K:Nat→Bool→Bool→List AV→Prop} (he:ys=vs f l') (hf:∀x,(f x).cells.length=es) (hl:len=l.length) (hr:(l.length+l'.length)*bytes≤2 ^ 46) (hn:nn=false→l=[]) (h:∀b,(b=false→l++l'=[])→K (l.length+l'.length) b cl (vs f (l++l'))):
 KI g g es es len nn cl true (vs f l) ys bytes K:=by
 subst hl he
 refine⟨⟨rfl,rfl,by simp,FB hf l',by rw[lV];exact Jd hr⟩,?_⟩
 rw[lV,Bool.and_true,List.take_of_length_le (by simp)]
 have:=h (nn||!(vs f l').isEmpty) (fun hb=>by
  simp[vs]at hb
  rw[hn hb.1,hb.2];rfl)
 simpa[vs]using this
theorem AgT {α:Type} {A B:List α}:List.take (A.length+B.length) (List.drop 0 (A++B))=A++B:=by
 rw[List.drop_zero,List.take_of_length_le (Nat.le_of_eq List.length_append)]
theorem Aaf (x:List UInt8):(AV.str x).cells.length=1:=rfl
theorem Ye {p q:Prop} [Decidable p] [Decidable q] (h:p↔q):AV.bool (decide p)=AV.bool (decide q):=by
 by_cases hp:p
 ·rw[decide_eq_true hp,decide_eq_true (h.1 hp)]
 ·rw[decide_eq_false hp,decide_eq_false (mt h.2 hp)]
theorem AdU {g:GV} (hg:g.ok):Af (Ad tab) 126 [g.av] (· =.bool (decide (isNull g))):=by
 refine Ac rfl rfl ?_
 (conv=>whnf);repeat' (first|(refine Aa (AgV hg) ?_;rintro _ ⟨z,rfl,hz⟩;conv=>whnf)|(refine kA ?_;conv=>whnf)|(refine Br.mk (fun hc=>?_) fun hc=>?_<;>first|exact hc.elim|conv=>whnf)|(refine kB ?_))
 all_goals first|exact BD (hz.1 hc)|exact AY (mt hz.2 hc)|exact Ye hz
set_option maxHeartbeats 1000000 in
theorem X9 {P:List GP} {nn:Bool} {key:List UInt8} {v:GV} (hP:P.length≤100000) (hI:Inc Op.bytesLess GP.key P) (hv:v.ok) (hn:¬isNull v):Af (Ad tab) 127 [.sl nn (vs GP.av P),.str key,v.av] (· =.Cb [.sl true (vs GP.av (Ba Op.bytesLess GP.key ⟨key,v⟩ P)),.bool (decide ((Ba Op.bytesLess GP.key ⟨key,v⟩ P).length≤16))]):=by
 have h0:Af (Ad tab) 126 [v.av] (· =.bool false):=by have:=AdU hv;rw[decide_eq_false hn]at this;exact this
 refine Ac rfl rfl ?_
 (conv=>whnf);repeat' (first  |(refine kA ?_;conv=>whnf)|(refine Br.mk (fun hc=>?_) fun hc=>?_<;>first|exact hc.elim|conv=>whnf)|(refine kB ?_))
 refine Ap (fun m env s=>∃(i c go k:Nat) (b d:Bool) (r:List GP),m=P.length-i∧i≤P.length∧k=r.length∧r.length≤i+1∧(b=false→d=false)∧(d=false→r=P.take i∧∀y∈P.take i,Op.bytesLess y.key key=true)∧(d=true→r=Ba Op.bytesLess GP.key ⟨key,v⟩ (P.take i)∧∀y∈P.drop i,Op.bytesLess key y.key=true)∧env=[(0,.sl nn (vs GP.av P)),(1,.str key),(5,.ref 0 0 0 0),(8,.own 1 go 0 k),(9,.bool d),(10,.int .i64 i)]∧
  s=⟨[.arr 0 5 true true [v.av],.arr go 6 b true (vs GP.av r)],c⟩) ?_ _ _ _ ⟨0,_,_,0,_,_,[],rfl,by omega,rfl,by simp,fun _=>rfl,fun _=>⟨rfl,by simp⟩,fun h=>Bool.noConfusion h,rfl,rfl⟩
 rintro _ _ _ ⟨i,c,go,k,b,d,r,rfl,hi,hk,hl,hb,hd,ht,rfl,rfl⟩
 refine⟨rfl,?_⟩
 subst hk
 by_cases hlt:i<P.length
 ·have hs:=List.take_succ_eq_append_getElem hlt
  have hab:∀y∈P.drop (i+1),Op.bytesLess (P[i]).key y.key=true:=fun y hy=>by
   obtain⟨j,hj,rfl⟩:=List.mem_drop_iff_getElem.1 hy
   exact hI.get (show i<i+1+j by omega) (by omega)
  have htk:∀{R:GP→Prop},(∀ y∈P.take i,R y)→R P[i]→∀y∈P.take (i+1),R y:=fun{R} h1 h2 y hy=>by
   rw[hs]at hy
   rcases List.mem_append.1 hy with hy|hy
   ·exact h1 y hy
   ·obtain rfl:=List.mem_singleton.1 hy;exact h2
  cases d
  ·obtain⟨rfl,hlo⟩:=hd rfl
   (conv=>whnf);repeat' (first|(refine Aa h0 ?_;rintro _ rfl;conv=>whnf)|(refine Ij (x:=(⟨key,v⟩:GP)) QI (by simp) (by simp;omega) ?_;conv=>whnf)|(refine Ij (x:=P[i]) QI (by simp) (by simp;omega) ?_;conv=>whnf)|(refine kA ?_;conv=>whnf)|(refine Br.mk (fun hc=>?_) fun hc=>?_<;>first|exact hc.elim|conv=>whnf)|(refine kB ?_))
   all_goals first
        |(exfalso;have e1:Op.bytesLess (P[i]).key key=true:=by assumption
          rw[hc,Aq.Og]at e1;cases e1)
        |(have hgt:Op.bytesLess key (P[i]).key=true:=by
           cases hx:Op.bytesLess key (P[i]).key with
           |true=>rfl
           |false=>exact absurd (Aq.tot _ _ (by assumption) hx) hc
          exact again.mk ⟨_,by omega,i+1,_,_,_,_,_,P.take i++[⟨key,v⟩]++[P[i]],rfl,by omega,by simp,by rw[List.length_append,List.length_append,List.length_singleton,List.length_singleton,List.length_take];omega,fun h=>Bool.noConfusion h,fun h=>Bool.noConfusion h,fun _=>⟨by rw[hs,NI Aq hgt,L9 Aq hlo],fun y hy=>Aq.tr _ _ _ hgt (hab y hy)⟩,rfl,rfl⟩)
        |exact again.mk ⟨_,by omega,i+1,_,_,_,_,_,P.take i++[⟨key,v⟩],rfl,by omega,by simp,by rw[List.length_append,List.length_singleton,List.length_take];omega,fun h=>Bool.noConfusion h,fun h=>Bool.noConfusion h,fun _=>⟨by rw[hs,QJ Aq hlo hc],fun y hy=>by have:=hab y hy;rw[hc]at this;exact this⟩,rfl,rfl⟩
        |exact again.mk ⟨_,by omega,i+1,_,_,_,_,_,P.take i++[P[i]],rfl,by omega,by rw[List.length_append,List.length_singleton],by rw[List.length_append,List.length_singleton,List.length_take];omega,fun _=>rfl,fun _=>⟨hs.symm,htk hlo (by assumption)⟩,fun h=>Bool.noConfusion h,rfl,rfl⟩
  ·obtain⟨rfl,hhi⟩:=ht rfl
   have hgt:Op.bytesLess key (P[i]).key=true:=hhi _ (by rw[List.drop_eq_getElem_cons hlt];exact List.mem_cons_self)
   (conv=>whnf);repeat' (first|(refine Ij (x:=P[i]) QI (by simp) (by simp;omega) ?_;conv=>whnf)|(refine kA ?_;conv=>whnf)|(refine Br.mk (fun hc=>?_) fun hc=>?_<;>first|exact hc.elim|conv=>whnf)|(refine kB ?_))
   all_goals first
        |(exfalso;rw[hc,Aq.Og]at hgt;cases hgt)
        |exact again.mk ⟨_,by omega,i+1,_,_,_,_,_,Ba Op.bytesLess GP.key ⟨key,v⟩ (P.take i)++[P[i]],rfl,by omega,by simp,by simp;omega,fun h=>Bool.noConfusion h,fun h=>Bool.noConfusion h,fun _=>⟨by rw[hs,NI Aq hgt],fun y hy=>Aq.tr _ _ _ hgt (hab y hy)⟩,rfl,rfl⟩
 ·obtain rfl:i=P.length:=by omega
  rw[List.take_length]at hd ht
  cases d
  ·obtain⟨rfl,hlo⟩:=hd rfl
   rw[L9 Aq (x:=(⟨key,v⟩:GP)) hlo]
   (conv=>whnf);repeat' (first|(refine Aa h0 ?_;rintro _ rfl;conv=>whnf)|(refine Ij (x:=(⟨key,v⟩:GP)) QI (by simp) (by simp;omega) ?_;conv=>whnf)|(refine kA ?_;conv=>whnf)|(refine Br.mk (fun hc=>?_) fun hc=>?_<;>first|exact hc.elim|conv=>whnf)|(refine kB ?_))
   all_goals first|(exfalso;omega)|(refine congrArg (fun z=>AV.Cb [AV.sl true _,AV.bool z]) ?_;symm;first|exact decide_eq_true (by rw[List.length_append,List.length_singleton];omega)|exact decide_eq_false (by rw[List.length_append,List.length_singleton];omega))
  ·obtain⟨rfl,_⟩:=ht rfl
   cases b
   ·exact absurd (hb rfl) Bool.noConfusion
   (conv=>whnf);repeat' (first  |(refine kA ?_;conv=>whnf)|(refine Br.mk (fun hc=>?_) fun hc=>?_<;>first|exact hc.elim|conv=>whnf)|(refine kB ?_))
   all_goals first|(exfalso;omega)|exact congrArg (fun z=>AV.Cb [AV.sl true (vs GP.av (Ba Op.bytesLess GP.key ⟨key,v⟩ P)),AV.bool z]) (by first|rfl|(simp;omega))
section
variable {α κ:Type} {lt:κ→κ→Bool} {key:α→κ}
theorem VX {k:κ} {y:α} {L:List α} (hs:OM lt) (h:lt k (key y)=true):CP lt key k (L++[y])=CP lt key k L++[y]:=by
 have h1:lt (key y) k=false:=by
  cases hb:lt (key y) k with
  |false=>rfl
  |true=>have:=hs.tr _ _ _ h hb;rw[hs.Og]at this;cases this
 simp[CP,below,above,List.filter_append,h,h1]
theorem Ug {k:κ} {L:List α} (hs:OM lt) (h:∀y∈L,lt (key y) k=true):CP lt key k L=L:=by
 have e1:below lt key k L=L:=filter_all h
 have e2:above lt key k L=[]:=filter_none fun y hy=>by
  cases hb:lt k (key y)with
  |false=>rfl
  |true=>have:=hs.tr _ _ _ hb (h y hy);rw[hs.Og]at this;cases this
 rw[CP,e1,e2,List.append_nil]
theorem AcK {k:κ} {y:α} {L:List α} (hs:OM lt) (h:∀y∈L,lt (key y) k=true) (e:key y=k):CP lt key k (L++[y])=L:=by
 have h1:lt (key y) k=false:=by rw[e];exact hs.Og _
 have h2:lt k (key y)=false:=by rw[e];exact hs.Og _
 have:=Ug hs h
 simp only[CP,below,above]at this
 simp[CP,below,above,List.filter_append,h1,h2,this]
end
set_option maxHeartbeats 1000000 in
theorem Za {P:List GP} {nn:Bool} {key:List UInt8} {v:GV} (hP:P.length≤100000) (hI:Inc Op.bytesLess GP.key P) (hv:v.ok) (hn:isNull v):Af (Ad tab) 127 [.sl nn (vs GP.av P),.str key,v.av] (fun w=>∃b,(b=false→CP Op.bytesLess GP.key key P=[])∧w=.Cb [.sl b (vs GP.av (CP Op.bytesLess GP.key key P)),.bool (decide ((CP Op.bytesLess GP.key key P).length≤16))]):=by
 have h0:Af (Ad tab) 126 [v.av] (· =.bool true):=by have:=AdU hv;rw[decide_eq_true hn]at this;exact this
 refine Ac rfl rfl ?_
 (conv=>whnf);repeat' (first  |(refine kA ?_;conv=>whnf)|(refine Br.mk (fun hc=>?_) fun hc=>?_<;>first|exact hc.elim|conv=>whnf)|(refine kB ?_))
 refine Ap (fun m env s=>∃(i c go k:Nat) (b d:Bool) (r:List GP),m=P.length-i∧i≤P.length∧k=r.length∧r.length≤i+1∧(b=false→r=[])∧(d=false→r=P.take i∧∀y∈P.take i,Op.bytesLess y.key key=true)∧(d=true→r=CP Op.bytesLess GP.key key (P.take i)∧∀y∈P.drop i,Op.bytesLess key y.key=true)∧env=[(0,.sl nn (vs GP.av P)),(1,.str key),(5,.ref 0 0 0 0),(8,.own 1 go 0 k),(9,.bool d),(10,.int .i64 i)]∧
  s=⟨[.arr 0 5 true true [v.av],.arr go 6 b true (vs GP.av r)],c⟩) ?_ _ _ _ ⟨0,_,_,0,_,_,[],rfl,by omega,rfl,by simp,fun _=>rfl,fun _=>⟨rfl,by simp⟩,fun h=>Bool.noConfusion h,rfl,rfl⟩
 rintro _ _ _ ⟨i,c,go,k,b,d,r,rfl,hi,hk,hl,hb,hd,ht,rfl,rfl⟩
 refine⟨rfl,?_⟩
 subst hk
 by_cases hlt:i<P.length
 ·have hs:=List.take_succ_eq_append_getElem hlt
  have hab:∀y∈P.drop (i+1),Op.bytesLess (P[i]).key y.key=true:=fun y hy=>by
   obtain⟨j,hj,rfl⟩:=List.mem_drop_iff_getElem.1 hy
   exact hI.get (show i<i+1+j by omega) (by omega)
  have htk:∀{R:GP→Prop},(∀ y∈P.take i,R y)→R P[i]→∀y∈P.take (i+1),R y:=fun{R} h1 h2 y hy=>by
   rw[hs]at hy
   rcases List.mem_append.1 hy with hy|hy
   ·exact h1 y hy
   ·obtain rfl:=List.mem_singleton.1 hy;exact h2
  cases d
  ·obtain⟨rfl,hlo⟩:=hd rfl
   (conv=>whnf);repeat' (first|(refine Aa h0 ?_;rintro _ rfl;conv=>whnf)|(refine Ij (x:=P[i]) QI (by simp) (by simp;omega) ?_;conv=>whnf)|(refine kA ?_;conv=>whnf)|(refine Br.mk (fun hc=>?_) fun hc=>?_<;>first|exact hc.elim|conv=>whnf)|(refine kB ?_))
   all_goals first
        |(exfalso;have e1:Op.bytesLess (P[i]).key key=true:=by assumption
          rw[hc,Aq.Og]at e1;cases e1)
        |(have hgt:Op.bytesLess key (P[i]).key=true:=by
           cases hx:Op.bytesLess key (P[i]).key with
           |true=>rfl
           |false=>exact absurd (Aq.tot _ _ (by assumption) hx) hc
          exact again.mk ⟨_,by omega,i+1,_,_,_,_,_,P.take i++[P[i]],rfl,by omega,by rw[List.length_append,List.length_singleton],by rw[List.length_append,List.length_singleton,List.length_take];omega,fun h=>Bool.noConfusion h,fun h=>Bool.noConfusion h,fun _=>⟨by rw[hs,VX Aq hgt,Ug Aq hlo],fun y hy=>Aq.tr _ _ _ hgt (hab y hy)⟩,rfl,rfl⟩)
        |exact again.mk ⟨_,by omega,i+1,_,_,_,_,_,P.take i,rfl,by omega,rfl,by rw[List.length_take];omega,hb,fun h=>Bool.noConfusion h,fun _=>⟨by rw[hs,AcK Aq hlo hc],fun y hy=>by have:=hab y hy;rw[hc]at this;exact this⟩,rfl,rfl⟩
        |exact again.mk ⟨_,by omega,i+1,_,_,_,_,_,P.take i++[P[i]],rfl,by omega,by rw[List.length_append,List.length_singleton],by rw[List.length_append,List.length_singleton,List.length_take];omega,fun h=>Bool.noConfusion h,fun _=>⟨hs.symm,htk hlo (by assumption)⟩,fun h=>Bool.noConfusion h,rfl,rfl⟩
  ·obtain⟨rfl,hhi⟩:=ht rfl
   have hgt:Op.bytesLess key (P[i]).key=true:=hhi _ (by rw[List.drop_eq_getElem_cons hlt];exact List.mem_cons_self)
   (conv=>whnf);repeat' (first|(refine Ij (x:=P[i]) QI (by simp) (by simp;omega) ?_;conv=>whnf)|(refine kA ?_;conv=>whnf)|(refine Br.mk (fun hc=>?_) fun hc=>?_<;>first|exact hc.elim|conv=>whnf)|(refine kB ?_))
   all_goals first
        |(exfalso;rw[hc,Aq.Og]at hgt;cases hgt)
        |exact again.mk ⟨_,by omega,i+1,_,_,_,_,_,CP Op.bytesLess GP.key key (P.take i)++[P[i]],rfl,by omega,by simp,by simp;omega,fun h=>Bool.noConfusion h,fun h=>Bool.noConfusion h,fun _=>⟨by rw[hs,VX Aq hgt],fun y hy=>Aq.tr _ _ _ hgt (hab y hy)⟩,rfl,rfl⟩
 ·obtain rfl:i=P.length:=by omega
  rw[List.take_length]at hd ht
  cases d
  ·obtain⟨rfl,hlo⟩:=hd rfl
   rw[Ug Aq hlo]
   (conv=>whnf);repeat' (first|(refine Aa h0 ?_;rintro _ rfl;conv=>whnf)|(refine kA ?_;conv=>whnf)|(refine Br.mk (fun hc=>?_) fun hc=>?_<;>first|exact hc.elim|conv=>whnf)|(refine kB ?_))
   all_goals first|(exfalso;omega)|(refine ⟨b,hb,congrArg (fun z=>AV.Cb [AV.sl b _,AV.bool z]) ?_⟩;symm;first|exact decide_eq_true (by omega)|exact decide_eq_false (by omega))
  ·obtain⟨rfl,_⟩:=ht rfl
   (conv=>whnf);repeat' (first  |(refine kA ?_;conv=>whnf)|(refine Br.mk (fun hc=>?_) fun hc=>?_<;>first|exact hc.elim|conv=>whnf)|(refine kB ?_))
   all_goals first|(exfalso;omega)|(refine ⟨b,hb,congrArg (fun z=>AV.Cb [AV.sl b _,AV.bool z]) ?_⟩;symm;first|exact decide_eq_true (by omega)|exact decide_eq_false (by omega))
theorem Aep {l:List (List UInt8)} {nn:Bool} {x:List UInt8} (hl:l.length≤100000) (hI:Inc Op.bytesLess id l):Af (Ad tab) 131 [.sl nn (vs .str l),.str x] (fun v=>∃b,(b=false→CP Op.bytesLess id x l=[])∧v=.sl b (vs .str (CP Op.bytesLess id x l))):=by
 rw[JC Aq hI]
 refine Ac rfl rfl ?_
 (conv=>whnf);repeat' (first  |(refine kA ?_;conv=>whnf)|(refine Br.mk (fun hc=>?_) fun hc=>?_<;>first|exact hc.elim|conv=>whnf)|(refine kB ?_))
 refine Ap (fun m env s=>∃(i c go k:Nat) (b:Bool) (r:List (List UInt8)),m=l.length-i∧i≤l.length∧k=r.length∧r.length≤i∧(b=false→r=[])∧r=(l.take i).filter (fun a=>decide (id a≠x))∧env=[(0,.sl nn (vs .str l)),(1,.str x),(5,.own 0 go 0 k),(6,.int .i64 i)]∧s=⟨[.arr go 1 b true (vs .str r)],c⟩) ?_ _ _ _ ⟨0,_,_,0,_,[],rfl,by omega,rfl,by simp,fun _=>rfl,by simp,rfl,rfl⟩
 rintro _ _ _ ⟨i,c,go,k,b,r,rfl,hi,hk,hr,hb,hx,rfl,rfl⟩
 refine⟨rfl,?_⟩
 by_cases hlt:i<l.length
 ·have hs:=List.take_succ_eq_append_getElem hlt
  (conv=>whnf);repeat' (first|(refine Ij (x:=l[i]) (fun _=>rfl) hk (by omega) ?_;conv=>whnf)|(refine kA ?_;conv=>whnf)|(refine Br.mk (fun hc=>?_) fun hc=>?_<;>first|exact hc.elim|conv=>whnf)|(refine kB ?_))
  ·exact again.mk ⟨_,by omega,i+1,_,_,_,_,r,rfl,by omega,hk,by omega,hb,by rw[hs,List.filter_append,←hx,List.filter_cons_of_neg (by simpa using hc),List.filter_nil,List.append_nil],rfl,rfl⟩
  ·exact again.mk ⟨_,by omega,i+1,_,_,_,_,r++[l[i]],rfl,by omega,by simp,by simp;omega,fun h=>Bool.noConfusion h,by rw[hs,List.filter_append,←hx,List.filter_cons_of_pos (by simpa using hc),List.filter_nil],rfl,rfl⟩
 ·subst hk
  rw[List.take_of_length_le (by omega)]at hx
  (conv=>whnf);repeat' (first  |(refine kA ?_;conv=>whnf)|(refine Br.mk (fun hc=>?_) fun hc=>?_<;>first|exact hc.elim|conv=>whnf)|(refine kB ?_))
  subst hx
  exact⟨b,hb,by first|rfl|(rw [uV])⟩
theorem AgS {l:List (List UInt8)} {nn:Bool} {x:List UInt8} (hl:l.length≤100000) (hI:Inc Op.bytesLess id l) (hx:x∉l):Af (Ad tab) 130 [.sl nn (vs .str l),.str x] (· =.sl true (vs .str (Ba Op.bytesLess id x l))):=by
 have hfin:∀i,i≤l.length→(∀ j (h:j<l.length),j<i→Op.bytesLess l[j] x=true)→(∀ h:i<l.length,Op.bytesLess l[i] x=false)→l.take i++[x]++l.drop i=Ba Op.bytesLess id x l:=by
  intro i hi hlo hhi
  refine AtK.ins Aq ⟨hi,hlo,fun j hj hij=>?_⟩ (fun y hy e=>hx (by cases e;exact hy))
  rcases Nat.lt_or_ge i j with h1|h1
  ·have h2:=hI.get h1 hj
   cases h3:Op.bytesLess (id l[j]) (id x)with
   |false=>rfl
   |true=>have:=Aq.tr _ _ _ h2 h3;have h4:=hhi (by omega);exact absurd this (by rw[show Op.bytesLess (id l[i]) (id x)=false from h4];exact Bool.noConfusion)
  ·obtain rfl:i=j:=by omega
   exact hhi hj
 refine Ac rfl rfl ?_
 (conv=>whnf);repeat' (first  |(refine kA ?_;conv=>whnf)|(refine Br.mk (fun hc=>?_) fun hc=>?_<;>first|exact hc.elim|conv=>whnf)|(refine kB ?_))
 refine Ap (fun m env s=>∃(i c go:Nat) (b:Bool),m=l.length-i∧i≤l.length∧(∀ j (h:j<l.length),j<i→Op.bytesLess l[j] x=true)∧env=[(0,.sl nn (vs .str l)),(1,.str x),(5,.own 0 go 0 0),(6,.int .i64 i)]∧s=⟨[.arr go 1 b true (vs .str [])],c⟩) ?_ _ _ _ ⟨0,_,_,_,rfl,by omega,fun j _ h=>absurd h (by omega),rfl,rfl⟩
 rintro _ _ _ ⟨i,c,go,b,rfl,hi,hlo,rfl,rfl⟩
 refine⟨rfl,?_⟩
 have h1:=hfin i hi hlo
 have hne:∀h:i<l.length,l[i]≠x:=fun h e=>hx (by rw[← e];exact List.getElem_mem h)
 (conv=>whnf);repeat' (first|((with_reducible show need _ _);refine need.mk ⟨by (try rw[lV]);omega,by(try rw[lV]);omega⟩ ?_;conv=>whnf)|((with_reducible show need _ _);refine need.mk (FB Aaf _) ?_;conv=>whnf)|((with_reducible show eqK _ _);apply CB;(· exact ZP _ _ _);conv=>whnf)|(refine An0 rfl Aaf (by first|rfl|(simp;done)|(simp;omega)) (by simp;omega) (by first|assumption|exact fun _=>rfl|exact fun h=>Bool.noConfusion h) ?_;intro b1 hb1;conv=>whnf)|(refine Ij (x:=x) Aaf (by first|rfl|(simp;done)|(simp;omega)) (by simp;omega) ?_;conv=>whnf)|(refine kA ?_;conv=>whnf)|(refine Br.mk (fun hc=>?_) fun hc=>?_<;>first|exact hc.elim|conv=>whnf)|(refine kB ?_))
 all_goals first
  |exact again.mk ⟨_,by omega,i+1,_,_,_,rfl,by omega,fun j h hj=>by
        by_cases e:j=i
        ·subst e;assumption
        ·exact hlo j h (by omega),rfl,rfl⟩
  |(exfalso;exact hne (by omega) (by assumption))
  |(cases b1
    ·exact absurd (hb1 rfl) (by simp)
    ·rw[AgT]
     refine congrArg (fun z=>AV.sl true (vs .str z)) ?_
     rw[← h1 (fun h=>by first|assumption|(exfalso;omega))]
     simp[List.take_of_length_le])
end AI
end Go.Proofs.YtchcadfjbkkgmaaGreatDoor
