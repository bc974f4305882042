/- What a check finds, said in one; a step keeps graphs valid: plain. Migrations one after the other, as plain functions. Slices within reach; clones of values, properties, strings; looking up a node of any graph. Copies: of any values, of properties, of a graph (evolve.copied). -/
import Derived.Test.YtjijnamhalgamaaGreatDoorSMat
import Derived.Test.YtjijnamhalgamaaGreatDoorSMaj
import Derived.Test.YtjijnamhalgamaaGreatDoorSMam
import Derived.Test.YtjijnamhalgamaaGreatDoorSMao
import Derived.Test.YtjijnamhalgamaaGreatDoorSMas
import Derived.Test.YtjijnamhalgamaaGreatDoorSMad
import Derived.Test.YtjijnamhalgamaaGreatDoorBMaa
import Derived.Test.YtjijnamhalgamaaGreatDoorSMae
set_option linter.unusedVariables false
set_option maxRecDepth 4000
namespace Go.Proofs.YtjijnamhalgamaaGreatDoor
namespace AI
theorem XR {l:List (List UInt8)} (h:Inc Op.bytesLess id l):rises l:=fun j hj=>by
 have:=h.get (show j<j+1 by omega) hj
 simp only[id]at this
 rw[Bool.or_eq_false_iff]
 constructor
 ·cases hb:Op.bytesLess l[j+1] l[j]with
  |false=>rfl
  |true=>have:=AA.tr _ _ _ this hb;rw[AA.irr]at this;cases this
 ·rw[beq_eq_false_iff_ne]
  intro e
  rw[e,AA.irr]at this;cases this
theorem Zq {P:List GP} (h:Inc Op.bytesLess GP.key P):rises (keysOf P):=XR (by have:=Adv h;unfold Inc;exact this)
theorem XT {L:List (List UInt8)} {P:List GP} (h1:L.length≤8) (h2:P.length≤16) (h3:allNames L) (h4:allNames (keysOf P)) (h5:Inc Op.bytesLess id L) (h6:Inc Op.bytesLess GP.key P) (h7:allPlain P):Dw L P=0:=by
 unfold Dw
 rw[if_neg (by omega),if_neg (fun h=>h ⟨h3,h4⟩),if_neg (fun h=>h ⟨XR h5,Zq h6⟩),if_neg (fun h=>h h7)]
structure YU (g:GG):Prop where
 vg:VG g
 nx:Hg g
 n:∀n∈g.nodes,n.id<g.Df
 e:∀n∈g.edges,n.id<g.DC
theorem AcS {g:GG} (h:AZ g=0):YU g:=by
 have hv:=Amx h
 obtain⟨hf,hn,hN,hE⟩:=TG h
 refine⟨hv,hn,fun n hm=>?_,fun n hm=>?_⟩
 ·obtain⟨i,hi,rfl⟩:=List.getElem_of_mem hm
  exact(Py hi (hN i hi)).2.2.1
 ·obtain⟨i,hi,rfl⟩:=List.getElem_of_mem hm
  exact(Pz hi (hE i hi)).2.2.1
theorem AjX {g:GG} (h:YU g):AZ g=0:=by
 have a:=h.vg.ask
 have hn:∀k,k<g.nodes.length→Fg g.nodes g.Df k=0:=fun k hk=>by
  have hm:=List.getElem_mem hk
  have v:=h.vg.n _ hm
  rw[XU hk (fun h0 h1=>by have:=a.iN.get (show k-1<k by omega) hk;simp only[DY,decide_eq_true_eq]at this;omega) (by have:=v.id.1;have:=h.n _ hm;omega)]
  exact XT v.a.lL v.a.lP v.nl v.nk v.a.iL v.a.iP v.pl
 have he:∀k,k<g.edges.length→FM g.nodes g.edges g.DC k=0:=fun k hk=>by
  have hm:=List.getElem_mem hk
  have v:=h.vg.e _ hm
  obtain⟨⟨p,hp,e1⟩,⟨q,hq,e2⟩⟩:=h.vg.ends _ hm
  rw[XV hk (fun h0 h1=>by have:=a.iE.get (show k-1<k by omega) hk;simp only[DY,decide_eq_true_eq]at this;omega) (by have:=v.id.1;have:=h.e _ hm;omega) ⟨List.mem_map.2 ⟨p,hp,e1⟩,List.mem_map.2 ⟨q,hq,e2⟩⟩ v.ty]
  exact XT (by simp) v.a.lP (fun s hs=>by cases hs) v.nk List.Pairwise.nil v.a.iP v.pl
 have:=Zr ⟨a.lN,a.lE⟩ h.nx hn he
 simp only[AV.int.injEq,true_and]at this
 exact this.symm
theorem YU.TI {g:GG} (h:YU g) {m:GN} (hm:VN m) (hx:∃n∈g.nodes,n.id=m.id):YU {g with nodes:=BZ DY GN.id m g.nodes}:=by
 obtain⟨n0,hn0,e0⟩:=hx
 refine⟨⟨h.vg.ask.TI hm.a ⟨n0,hn0,e0⟩,fun n hn=>?_,h.vg.e,fun e he=>?_⟩,h.nx,fun n hn=>?_,h.e⟩
 ·rcases BL Aw hn with rfl|hn
  ·exact hm
  ·exact h.vg.n n hn
 ·have hk:∀z,(∃ n∈g.nodes,n.id=z)→∃n∈BZ DY GN.id m g.nodes,n.id=z:=fun z ⟨n,hn,e⟩=>by
   by_cases q:z=m.id
   ·exact⟨m,(Po Aw).2 (.inl rfl),q.symm⟩
   ·exact⟨n,(Po Aw).2 (.inr ⟨hn,by rw[show GN.id n=z from e];exact q⟩),e⟩
  exact⟨hk _ (h.vg.ends e he).1,hk _ (h.vg.ends e he).2⟩
 ·rcases BL Aw hn with rfl|hn
  ·have:=h.n n0 hn0;rw[e0]at this;exact this
  ·exact h.n n hn
theorem YU.AbR {g:GG} (h:YU g) {m n0:GE} (hm:VE m) (hn0:n0∈g.edges) (e0:n0.id=m.id) (e1:n0.fr=m.fr) (e2:n0.to=m.to):YU {g with edges:=BZ DY GE.id m g.edges}:=by
 refine⟨⟨h.vg.ask.AbR hm.a ⟨n0,hn0,e0⟩,h.vg.n,fun n hn=>?_,fun e he=>?_⟩,h.nx,h.n,fun n hn=>?_⟩
 ·rcases BL Aw hn with rfl|hn
  ·exact hm
  ·exact h.vg.e n hn
 ·rcases BL Aw he with rfl|he
  ·rw[← e1,←e2];exact h.vg.ends n0 hn0
  ·exact h.vg.ends e he
 ·rcases BL Aw hn with rfl|hn
  ·have:=h.e n0 hn0;rw[e0]at this;exact this
  ·exact h.e n hn
theorem AbS {x:List UInt8} {l:List (List UInt8)} (hx:isName x) (hl:allNames l):allNames (BZ Op.bytesLess id x l):=fun s hs=>by
 rcases BL AA hs with rfl|hs
 ·exact hx
 ·exact hl s hs
theorem XW {x:GP} {l:List GP} (hx:isName x.key) (hl:allNames (keysOf l)):allNames (keysOf (BZ Op.bytesLess GP.key x l)):=fun s hs=>by
 obtain⟨p,hp,rfl⟩:=List.mem_map.1 hs
 rcases BL AA hp with rfl|hp
 ·exact hx
 ·exact hl _ (List.mem_map_of_mem hp)
theorem XY {x:List UInt8} {l:List GP} (hl:allNames (keysOf l)):allNames (keysOf (Gg Op.bytesLess GP.key x l)):=fun s hs=>by
 obtain⟨p,hp,rfl⟩:=List.mem_map.1 hs
 exact hl _ (List.mem_map_of_mem (CZ hp))
theorem Vf {x:GP} {l:List GP} (hx:Dx x.v) (hl:allPlain l):allPlain (BZ Op.bytesLess GP.key x l):=fun p hp=>by
 rcases BL AA hp with rfl|hp
 ·exact hx
 ·exact hl p hp
theorem XZ {a b:Int} (ha:UG a) (hb:1≤b∧b≤1000001):1≤(if a+1>b then a+1 else b)∧(if a+1>b then a+1 else b)≤1000001:=by unfold UG at ha;split<;>omega
theorem Aiv {a b c:Int} (h:a<b):a<(if c>b then c else b):=by split<;>omega
theorem Ad1 {a b c:Int} (h:a<c):a<(if c>b then c else b):=by split<;>omega
theorem AcU {g:GG} {c:GC} (h:YU g):YU (stepG g c).2:=by
 have ha:=h.vg.ask
 have hstep:=ha.step (c:=c)
 unfold stepG at hstep ⊢
 split
 ·exact h
 rename_i hk
 rw[if_neg hk]at hstep
 obtain⟨hop,hid,hnm,h6,hvl⟩:=AgD (Classical.not_not.1 hk)
 split
 ·rename_i h5
  rw[if_pos h5]at hstep
  unfold BM at hstep ⊢
  split
  ·rename_i h1
   rw[if_pos h1]at hstep
   split
   ·exact h
   rename_i hx
   rw[if_neg hx]at hstep
   split
   ·rename_i hl
    rw[if_pos hl]at hstep
    have hb:VN ⟨c.id,false,[],false,[]⟩:=⟨hid,fun s hs=>(by cases hs),fun s hs=>(by cases hs),fun s hs=>(by cases hs),⟨List.Pairwise.nil,by simp,List.Pairwise.nil,by simp⟩⟩
    refine⟨⟨hstep,fun n hn=>?_,h.vg.e,fun e he=>?_⟩,?_,fun n hn=>?_,h.e⟩
    ·rcases BL Aw hn with rfl|hn
     ·exact hb
     ·exact h.vg.n n hn
    ·have hkp:∀z,(∃ n∈g.nodes,n.id=z)→∃n∈BZ DY GN.id ⟨c.id,false,[],false,[]⟩ g.nodes,n.id=z:=fun z ⟨n,hn,e⟩=>⟨n,(Po Aw).2 (.inr ⟨hn,fun q=>hx ⟨n,hn,q⟩⟩),e⟩
     exact⟨hkp _ (h.vg.ends e he).1,hkp _ (h.vg.ends e he).2⟩
    ·have:=XZ hid ⟨h.nx.1,h.nx.2.1⟩
     exact⟨this.1,this.2,h.nx.2.2⟩
    ·rcases BL Aw hn with rfl|hn
     ·exact Ad1 (by show c.id<c.id+1;omega)
     ·exact Aiv (h.n n hn)
   ·exact h
  rename_i hop1
  split
  ·exact h
  rename_i n hf
  obtain⟨hn,hz⟩:=PD hf
  have hz:=of_decide_eq_true hz
  have hv:=h.vg.n n hn
  rw[if_neg hop1,hf]at hstep
  split
  ·split
   ·exact h
   rename_i hu
   refine⟨⟨?_,fun n hn=>h.vg.n n (CZ hn),h.vg.e,fun e he=>?_⟩,h.nx,fun n hn=>h.n n (CZ hn),h.e⟩
   ·exact{ha with lN:=Nat.le_trans (FH Aw) ha.lN,iN:=FZ Aw ha.iN,aN:=fun m hm=>ha.aN m (CZ hm)}
   ·have hkp:∀z,z≠c.id→(∃ n∈g.nodes,n.id=z)→∃n∈Gg DY GN.id c.id g.nodes,n.id=z:=fun z q ⟨n,hn,e⟩=>⟨n,(Agr Aw).2 ⟨hn,by rw[show GN.id n=z from e];exact q⟩,e⟩
    exact⟨hkp _ (fun q=>hu ⟨e,he,.inl q⟩) (h.vg.ends e he).1,hkp _ (fun q=>hu ⟨e,he,.inr q⟩) (h.vg.ends e he).2⟩
  split
  ·rename_i h3
   split
   ·exact h
   split
   ·exact h.TI ⟨hv.id,AbS (hnm (.inl h3)) hv.nl,hv.nk,hv.pl,⟨Fe AA hv.a.iL,Nat.le_trans (Ia AA) (by omega),hv.a.iP,hv.a.lP⟩⟩ ⟨n,hn,rfl⟩
   ·exact h
  split
  ·split
   ·exact h.TI ⟨hv.id,fun s hs=>hv.nl s (CZ hs),hv.nk,hv.pl,⟨FZ AA hv.a.iL,Nat.le_trans (FH AA) hv.a.lL,hv.a.iP,hv.a.lP⟩⟩ ⟨n,hn,rfl⟩
   ·exact h
  split
  ·exact h.TI ⟨hv.id,hv.nl,XY hv.nk,fun p hp=>hv.pl p (CZ hp),⟨hv.a.iL,hv.a.lL,FZ AA hv.a.iP,Nat.le_trans (FH AA) hv.a.lP⟩⟩ ⟨n,hn,rfl⟩
  split
  ·rename_i h2 h3 h4 hnn hx
   have h5:c.op=5:=by omega
   refine h.TI ⟨hv.id,hv.nl,XW (hnm (by unfold nmd;omega)) hv.nk,Vf ((hvl (.inl h5)).resolve_left hnn) hv.pl,⟨hv.a.iL,hv.a.lL,Fe AA hv.a.iP,?_⟩⟩ ⟨n,hn,rfl⟩
   rcases hx with hx|hx
   ·exact Nat.le_trans (Ku AA hx) hv.a.lP
   ·exact Nat.le_trans (Ia AA) (by omega)
  ·exact h
 ·rename_i h5
  rw[if_neg h5]at hstep
  unfold Di at hstep ⊢
  split
  ·rename_i h6'
   rw[if_pos h6']at hstep
   split
   ·exact h
   rename_i hx
   rw[if_neg hx]at hstep
   split
   ·rename_i NR
    rw[if_pos NR]at hstep
    split
    ·rename_i hl
     rw[if_pos hl]at hstep
     have hb:VE ⟨c.id,c.fr,c.to,c.name,false,[]⟩:=⟨hid,hnm (by unfold nmd;omega),fun s hs=>(by cases hs),fun s hs=>(by cases hs),⟨List.Pairwise.nil,by simp⟩⟩
     refine⟨⟨hstep,h.vg.n,fun n hn=>?_,fun e he=>?_⟩,?_,h.n,fun n hn=>?_⟩
     ·rcases BL Aw hn with rfl|hn
      ·exact hb
      ·exact h.vg.e n hn
     ·rcases BL Aw he with rfl|he
      ·exact NR
      ·exact h.vg.ends e he
     ·have:=XZ hid h.nx.2.2
      exact⟨h.nx.1,h.nx.2.1,this.1,this.2⟩
     ·rcases BL Aw hn with rfl|hn
      ·exact Ad1 (by show c.id<c.id+1;omega)
      ·exact Aiv (h.e n hn)
    ·exact h
   ·exact h
  rename_i hop1
  split
  ·exact h
  rename_i n hf
  obtain⟨hn,hz⟩:=PD hf
  have hv:=h.vg.e n hn
  split
  ·exact⟨⟨{ha with lE:=Nat.le_trans (FH Aw) ha.lE,iE:=FZ Aw ha.iE,aE:=fun m hm=>ha.aE m (CZ hm)},h.vg.n,fun m hm=>h.vg.e m (CZ hm),fun e he=>h.vg.ends e (CZ he)⟩,h.nx,h.n,fun m hm=>h.e m (CZ hm)⟩
  split
  ·exact h.AbR ⟨hv.id,hv.ty,XY hv.nk,fun p hp=>hv.pl p (CZ hp),⟨FZ AA hv.a.iP,Nat.le_trans (FH AA) hv.a.lP⟩⟩ hn rfl rfl rfl
  split
  ·rename_i h7 hnn hx
   have h8:c.op=8:=by omega
   refine h.AbR ⟨hv.id,hv.ty,XW (hnm (by unfold nmd;omega)) hv.nk,Vf ((hvl (.inr h8)).resolve_left hnn) hv.pl,⟨Fe AA hv.a.iP,?_⟩⟩ hn rfl rfl rfl
   rcases hx with hx|hx
   ·exact Nat.le_trans (Ku AA hx) hv.a.lP
   ·exact Nat.le_trans (Ia AA) (by omega)
  ·exact h
theorem OY:ED.ok:=⟨by simp[Ln,ED],fun _=>rfl,by simp[ED],by simp[Ln,ED],fun _=>rfl,by simp[ED],by unfold I64 ED;dsimp only;omega,by unfold I64 ED;dsimp only;omega⟩
theorem LV {s:List UInt8} {m:GM} (hs:Ln s) (hm:m.ok):Ln (CS s m):=by
 unfold CS;split
 ·exact hm.2.2.2.1
 ·exact hs
theorem Af3 {r:GR} {m:GM} (hr:r.ok) (hm:m.ok):(D9 r m).ok:=by
 obtain⟨h1,h2,h3,h4,h5,h6⟩:=hr
 unfold D9
 split
 ·split
  ·exact⟨h1,h2,LV h3 hm,h4,h5,h6⟩
  ·split
   ·exact⟨h1,h2,h3,h4,LV h5 hm,LV h6 hm⟩
   ·exact⟨h1,h2,h3,h4,h5,h6⟩
 ·split
  ·split
   ·exact⟨h1,h2,h3,h4,h5,h6⟩
   ·exact⟨h1,h2,LV h3 hm,h4,h5,h6⟩
  ·split
   ·split
    ·exact⟨h1,h2,h3,LV h4 hm,h5,h6⟩
    ·exact⟨h1,h2,h3,h4,h5,h6⟩
   ·exact⟨h1,h2,h3,h4,h5,h6⟩
theorem Af4 {s:List GR} {m:GM} (hs:∀r∈s,r.ok) (hm:m.ok) {y:GR} (h:LH s m y):y.ok:=by
 unfold LH at h
 split at h
 ·rcases h with h|rfl
  ·exact hs _ h
  ·exact hm.2.2.2.2.2
 ·split at h
  ·exact hs _ h.1
  ·obtain⟨r,hr,_,rfl⟩:=AcM.1 h
   exact Af3 (hs r hr) hm
def isW (s:List GR) (m:GM) (W:List GR):Prop:=W.Pairwise (fun x y=>BX x y=true)∧W.length<2^61∧∀y,y∈W↔LH s m y
noncomputable def Jh (s:List GR) (m:GM):List GR:=by
 classical exact if h:∃W,isW s m W then Classical.choose h else[]
theorem V3 {s:List GR} {m:GM} {W:List GR} (h:isW s m W):Jh s m=W:=by
 have hx:∃W,isW s m W:=⟨W,h⟩
 unfold Jh
 rw[dif_pos hx]
 have k:=Classical.choose_spec hx
 exact NS Es k.1 h.1 fun y=>(k.2.2 y).trans (h.2.2 y).symm
theorem AcN {s:List GR} {m:GM} {y:GR} (h:y∈Jh s m):LH s m y:=by
 unfold Jh at h
 split at h
 ·rename_i hx
  exact((Classical.choose_spec hx).2.2 y).1 h
 ·cases h
theorem Aan {s:List GR} {m:GM} (hs:∀r∈s,r.ok) (hm:m.ok):∀r∈Jh s m,r.ok:=fun r hr=>Af4 hs hm (AcN hr)
theorem Xo {s:List GR} {m:GM}:(Jh s m).length<2^61:=by
 unfold Jh
 split
 ·rename_i hx
  exact(Classical.choose_spec hx).2.1
 ·simp
theorem Ajl {l:List GR} {nn:Bool} {m:GM} (hnn:nn=false→l=[]) (hl:l.length<2^61) (hok:∀r∈l,r.ok) (hm:m.ok):Ae (Ad tab) 24 [.sl nn (vs GR.av l),m.av]
 (fun v=>∃b,v=.BD [.sl b (vs GR.av (if IK l m=0 then Jh l m else[])),.int .i64 (IK l m)]∧(b=false→(if IK l m=0 then Jh l m else[])=[])):=by
 obtain⟨v,⟨h1,h2⟩,p⟩:=(AcO hnn hl hok hm).KI
 refine p.mono ?_
 rintro _ rfl
 by_cases h0:IK l m=0
 ·obtain⟨b,W,rfl,s1,l1,m1⟩:=h1.2 h0
  have e:=V3 (s:=l) (m:=m) ⟨s1,l1,m1⟩
  rw[if_pos h0,e,h0]
  exact⟨b,rfl,fun hb=>by
   have:=h2 b _ _ rfl hb
   cases W with
   |nil=>rfl
   |cons x T=>simp[vs]at this⟩
 ·rw[if_neg h0,h1.1 h0]
  exact⟨false,rfl,fun _=>rfl⟩
theorem Oi:V0.ok:=by unfold GV.ok V0 I64 Ln;dsimp only;refine⟨by omega,by omega,by omega,by simp,by simp,fun _=>rfl,by simp⟩
theorem Af5 {P:List GP} (h:∀p∈P,p.ok) {k:List UInt8}:(ET P k).ok:=by
 unfold ET
 cases hf:P.find? (isK k)with
 |none=>exact Oi
 |some p=>exact(h p (List.mem_of_find?_eq_some hf)).2
theorem Oj {op z:Int} {k:List UInt8} {v:GV} (h1:I64 op) (h2:I64 z) (h3:Ln k) (h4:v.ok):(Uz op z k v).ok:=⟨h1,h2,by unfold I64 Uz;dsimp only;omega,by unfold I64 Uz;dsimp only;omega,h3,h4⟩
theorem RU {n:Int} (h:0≤n∧n≤10):I64 n:=by unfold I64;omega
theorem AcP {n:GN} {m:GM} (hn:n.ok) (hm:m.ok):∀c∈CW n m,c.ok:=by
 obtain⟨n1,n2,n3,n4,n5,n6,n7⟩:=hn
 obtain⟨m1,m2,m3,m4,m5,m6⟩:=hm
 unfold CW
 intro c hc
 split at hc
 ·split at hc
  ·simp only[List.mem_cons,List.not_mem_nil,or_false]at hc
   rcases hc with rfl|rfl
   ·exact Oj (RU (by omega)) n1 m3 Oi
   ·exact Oj (RU (by omega)) n1 m4 Oi
  ·cases hc
 split at hc
 ·cases hc
 split at hc
 ·split at hc
  ·simp only[List.mem_cons,List.not_mem_nil,or_false]at hc
   rcases hc with rfl|rfl
   ·exact Oj (RU (by omega)) n1 m3 Oi
   ·exact Oj (RU (by omega)) n1 m4 (Af5 n7)
  ·cases hc
 split at hc
 ·split at hc
  ·simp only[List.mem_cons,List.not_mem_nil,or_false]at hc
   subst hc
   exact Oj (RU (by omega)) n1 m3 Oi
  ·cases hc
 split at hc
 ·split at hc
  ·cases hc
  ·simp only[List.mem_cons,List.not_mem_nil,or_false]at hc
   subst hc
   exact Oj (RU (by omega)) n1 m4 m5
 ·cases hc
theorem AcQ {e:GE} {m:GM} (he:e.ok) (hm:m.ok):∀c∈FI e m,c.ok:=by
 obtain⟨n1,n2,n3,n4,n5,n6,n7⟩:=he
 obtain⟨m1,m2,m3,m4,m5,m6⟩:=hm
 unfold FI
 intro c hc
 split at hc
 ·simp only[List.mem_cons,List.mem_map]at hc
  rcases hc with rfl|rfl|⟨p,hp,rfl⟩
  ·exact⟨RU (n:=7) (by omega),n1,RU (n:=0) (by omega),RU (n:=0) (by omega),by simp[Ln],Oi⟩
  ·exact⟨RU (n:=6) (by omega),n1,n2,n3,m4,Oi⟩
  ·exact Oj (RU (by omega)) n1 (n7 p hp).1 (n7 p hp).2
 ·cases hc
theorem Rq {g:GG} {m:GM} (hg:g.ok) (hm:m.ok):∀c∈(Gw g m).1,c.ok:=by
 have h0:∀c∈([]:List GC),c.ok:=fun c hc=>by cases hc
 unfold Gw
 split;· exact h0
 split;· exact h0
 split;· exact h0
 intro c hc
 unfold UA at hc
 rcases List.mem_append.1 hc with hc|hc
 ·obtain⟨n,hn,hc⟩:=List.mem_flatMap.1 hc
  exact AcP (hg.2.2.1 n hn) hm c hc
 ·obtain⟨n,hn,hc⟩:=List.mem_flatMap.1 hc
  exact AcQ (hg.2.2.2.2.2.1 n hn) hm c hc
theorem Abt {v:GV} (hv:v.ok) (h:Dx v):Gx 12 v.av:=by
 refine⟨v,rfl,hv,?_,by have:=h.2.1;omega,fun x hx=>?_⟩
 ·by_cases hk:v.k=4
  ·have:=(YT h hk).2.1;omega
  ·rw[AcR h hk];simp
 ·rw[List.eq_nil_of_length_eq_zero h.2.1]at hx;cases hx
theorem RV {g:GG} (hg:g.ok) (h:AZ g=0):Fair g:=by
 have hc:=AcS h
 have ha:=hc.vg.ask
 have hp:∀{P:List GP},P.length≤16→(∀ p∈P,p.ok)→allPlain P→NT P:=fun h1 h2 h3=>⟨⟨by omega,fun p hp=>⟨h2 p hp,Abt (h2 p hp).2 (h3 p hp)⟩⟩,h3⟩
 refine⟨hg,ha.lN,ha.lE,fun n hn=>?_,fun e he=>?_⟩
 ·have v:=hc.vg.n n hn
  exact⟨by have:=v.a.lL;omega,hp v.a.lP (hg.2.2.1 n hn).2.2.2.2.2.2 v.pl⟩
 ·have v:=hc.vg.e e he
  exact hp v.a.lP (hg.2.2.2.2.2.1 e he).2.2.2.2.2.2 v.pl
theorem Xp {g:GG} (hg:g.ok) (h:AZ g=0):Look g:=by
 obtain⟨_,h1,h2,h3,h4⟩:=RV hg h
 refine⟨by omega,by omega,fun n hn=>?_,fun n hn=>?_,fun e he=>?_⟩
 ·have:=h3 n hn
  exact⟨by have:=this.1;omega,by have:=this.2.1.1;omega,(hg.2.2.1 n hn).2.2.2.2.2.2⟩
 ·have:=h3 n hn
  exact⟨this.1,(hg.2.2.1 n hn).2.2.1,(hg.2.2.1 n hn).2.2.2.2.2.1,this.2.1⟩
 ·have:=(h4 e he).1.1;omega
theorem AcT {L:List GC}:∀{g:GG} {i:Nat},YU g→g.ok→(∀ c∈L,c.ok)→(RX g L i).1.ok∧((RX g L i).2.2=0→YU (RX g L i).1):=by
 induction L with
 |nil=>intro g i h ho _;exact⟨ho,fun _=>h⟩
 |cons c L ih=>
  intro g i h ho hc
  rw[RX]
  split
  ·exact⟨OY,fun k=>absurd k (by assumption)⟩
  ·exact ih (AcU h) (Af6 ho h.vg.ask (hc c (by simp))) fun x hx=>hc x (by simp[hx])
theorem JL {g:GG} {L:List GC} (ho:g.ok) (hc:∀c∈L,c.ok):(Bq g L).1.ok∧((Bq g L).2.2=0→YU (Bq g L).1):=by
 unfold Bq
 split
 ·exact⟨OY,fun k=>absurd k (by assumption)⟩
 ·rename_i h
  exact AcT (AcS (Classical.not_not.1 h)) ho hc
structure StE where
 e:Int
 g:GG
 s:List GR
noncomputable def stepM (g:GG) (s:List GR) (m:GM):StE:=
 if(Gw g m).2≠0 then⟨(Gw g m).2,ED,[]⟩
 else if(Bq g (Gw g m).1).2.2≠0 then⟨(Bq g (Gw g m).1).2.2,ED,[]⟩
 else if IK s m≠0 then⟨IK s m,ED,[]⟩
 else if Ea (Jh s m) (Bq g (Gw g m).1).1≠0 then⟨Ea (Jh s m) (Bq g (Gw g m).1).1,ED,[]⟩
 else⟨0,(Bq g (Gw g m).1).1,Jh s m⟩
structure RE where
 g:GG
 s:List GR
 n:Nat
 e:Int
noncomputable def Fz:GG→List GR→List GM→Nat→RE
 |g,s,[],i=>⟨g,s,i,0⟩
 |g,s,m::l,i=>if(stepM g s m).e≠0 then⟨ED,[],i,(stepM g s m).e⟩else Fz (stepM g s m).g (stepM g s m).s l (i+1)
structure OkE (g:GG) (s:List GR):Prop where
 gk:g.ok
 sk:∀r∈s,r.ok
 lk:s.length<2^61
theorem OkE.step {g:GG} {s:List GR} {m:GM} (h:OkE g s) (hm:m.ok):OkE (stepM g s m).g (stepM g s m).s:=by
 have hz:OkE ED []:=⟨OY,fun r hr=>(by cases hr),by simp⟩
 unfold stepM
 split;· exact hz
 split;· exact hz
 split;· exact hz
 split;· exact hz
 exact⟨(JL h.gk (Rq h.gk hm)).1,Aan h.sk hm,Xo⟩
theorem Abv {g:GG} {s:List GR} {m:GM} (h:OkE g s) (hm:m.ok) (h0:(stepM g s m).e=0):YU (stepM g s m).g:=by
 unfold stepM at h0 ⊢
 split at h0;· contradiction
 split at h0;· contradiction
 split at h0;· contradiction
 split at h0;· contradiction
 rename_i h1 h2 h3 h4
 rw[if_neg h1,if_neg h2,if_neg h3,if_neg h4]
 exact(JL h.gk (Rq h.gk hm)).2 (Classical.not_not.1 h2)
theorem Af7:∀{l:List GM} {g:GG} {s:List GR} {i:Nat},OkE g s→(∀ m∈l,m.ok)→OkE (Fz g s l i).g (Fz g s l i).s:=by
 intro l
 induction l with
 |nil=>intro g s i h _;exact h
 |cons m l ih=>
  intro g s i h hm
  rw[Fz]
  split
  ·exact⟨OY,fun r hr=>(by cases hr),by simp⟩
  ·exact ih (h.step (hm m (by simp))) fun x hx=>hm x (by simp[hx])
theorem Ajm:∀{l:List GM} {g:GG} {s:List GR} {i:Nat},i≤(Fz g s l i).n∧(Fz g s l i).n≤i+l.length∧((Fz g s l i).e=0→(Fz g s l i).n=i+l.length)∧((Fz g s l i).e≠0→(Fz g s l i).n<i+l.length):=by
 intro l
 induction l with
 |nil=>intro g s i;exact⟨Nat.le_refl _,Nat.le_refl _,fun _=>rfl,fun h=>absurd rfl h⟩
 |cons m l ih=>
  intro g s i
  rw[Fz]
  split
  ·exact⟨Nat.le_refl _,Nat.le_add_right _ _,fun h=>absurd h (by assumption),fun _=>by simp⟩
  ·obtain⟨a,b,c,d⟩:=ih (g:=(stepM g s m).g) (s:=(stepM g s m).s) (i:=i+1)
   simp only[List.length_cons]
   exact⟨by omega,by omega,fun h=>by rw[c h];omega,fun h=>by have:=d h;omega⟩
theorem AcV:∀{l:List GM} {g:GG} {s:List GR} {i:Nat},(Fz g s l i).e≠0→(Fz g s l i).g=ED∧(Fz g s l i).s=[]:=by
 intro l
 induction l with
 |nil=>intro g s i h;exact absurd rfl h
 |cons m l ih=>
  intro g s i h
  rw[Fz]at h ⊢
  split
  ·exact⟨rfl,rfl⟩
  ·rename_i h1
   rw[if_neg h1]at h
   exact ih h
theorem AcW:∀{l:List GM} {g:GG} {s:List GR} {i:Nat},OkE g s→(∀ m∈l,m.ok)→(Fz g s l i).e=0→l≠[]→YU (Fz g s l i).g:=by
 intro l
 induction l with
 |nil=>intro g s i _ _ _ h;exact absurd rfl h
 |cons m l ih=>
  intro g s i ho hm h _
  rw[Fz]at h ⊢
  by_cases h1:(stepM g s m).e≠0
  ·rw[if_pos h1]at h;exact absurd h h1
  ·rw[if_neg h1]at h ⊢
   cases l with
   |nil=>exact Abv ho (hm m (by simp)) (Classical.not_not.1 h1)
   |cons x l=>exact ih (ho.step (hm m (by simp))) (fun y hy=>hm y (by simp[hy])) h (by simp)
theorem Gt {g es:Nat} {ys:List AV} {bytes:Nat} {K:Nat→Bool→Bool→List AV→Prop} (hs:Bc es ys) (hr:ys.length*bytes≤2 ^ 47) (h:K ys.length true true ys):
 IW g g es es 0 true true true [] ys bytes K:=by
 refine⟨⟨rfl,rfl,by simp,hs,?_⟩,?_⟩
 ·rw[Nat.zero_add];exact hr
 ·rw[Nat.zero_add];exact h
theorem Ae7:Ar (Ad tab) 240 [.sl false []] ⟨[],0⟩ fun out _=>out=.ok (.sl false []):=by
 refine Ai rfl rfl ?_
 (conv=>whnf);repeat' (first|((first|refine kA ?_|(apply Br.mk<;>intro hc))<;>first|exact hc.elim|conv=>whnf)|refine kB ?_)
 rfl
theorem AhD {l:List AV} (hs:Bc 5 l) (hl:l.length*64≤2 ^ 47):Ar (Ad tab) 240 [.sl true l] ⟨[],0⟩ fun out s'=>∃o g,out=.ok (.own o g 0 l.length)∧nth s'.σ o=some (.arr g 5 true true l):=by
 refine Ai rfl rfl ?_
 (conv=>whnf);repeat' (first|((first|refine kA ?_|(apply Br.mk<;>intro hc))<;>first|exact hc.elim|conv=>whnf)|refine kB ?_)
 refine Gt hs hl ?_
 (conv=>whnf);repeat' (first|((first|refine kA ?_|(apply Br.mk<;>intro hc))<;>first|exact hc.elim|conv=>whnf)|refine kB ?_)
 exact⟨_,_,rfl,rfl⟩
theorem NC {l:List AV} {z:Nat} {x:AV} (h:nth l z=some x):l.set z x=l:=by
 rw[AU]at h
 obtain⟨hz,rfl⟩:=List.getElem?_eq_some_iff.1 h
 exact List.set_getElem_self hz
theorem Qa (l:List AV):sub l 0 l.length=l:=by unfold sub;exact List.take_of_length_le (by simp)
theorem AhE {l:List (List UInt8)} {nn:Bool} (hl:l.length*16≤2 ^ 47) (hn:nn=false→l=[]):Ae (Ad tab) 65 [.sl nn (vs .str l)] (· =.sl nn (vs .str l)):=by
 cases nn with
 |false=>
  obtain rfl:=hn rfl
  refine Ac rfl rfl ?_
  (conv=>whnf);repeat' (first|((first|refine kA ?_|(apply Br.mk<;>intro hc))<;>first|exact hc.elim|conv=>whnf)|refine kB ?_)
  rfl
 |true=>
  refine Ac rfl rfl ?_
  (conv=>whnf);repeat' (first|((first|refine kA ?_|(apply Br.mk<;>intro hc))<;>first|exact hc.elim|conv=>whnf)|refine kB ?_)
  refine Gt (Cj (f:=.str) (fun _=>rfl) l) (by rw[lV];omega) ?_
  (conv=>whnf);repeat' (first|((first|refine kA ?_|(apply Br.mk<;>intro hc))<;>first|exact hc.elim|conv=>whnf)|refine kB ?_)
  rw[lV,uV]
theorem Ae8:Ar (Ad tab) 124 [.sl false []] ⟨[],0⟩ fun out _=>out=.ok (.sl false []):=by
 refine Ai rfl rfl ?_
 (conv=>whnf);repeat' (first|((first|refine kA ?_|(apply Br.mk<;>intro hc))<;>first|exact hc.elim|conv=>whnf)|refine kB ?_)
 rfl
theorem AhF {l:List GP} (hl:l.length*80≤2 ^ 47):Ar (Ad tab) 124 [.sl true (vs GP.av l)] ⟨[],0⟩ fun out s'=>∃o g,out=.ok (.own o g 0 (vs GP.av l).length)∧nth s'.σ o=some (.arr g 6 true true (vs GP.av l)):=by
 refine Ai rfl rfl ?_
 (conv=>whnf);repeat' (first|((first|refine kA ?_|(apply Br.mk<;>intro hc))<;>first|exact hc.elim|conv=>whnf)|refine kB ?_)
 refine Gt (Cj (f:=GP.av) (fun _=>rfl) l) (by rw[lV];omega) ?_
 (conv=>whnf);repeat' (first|((first|refine kA ?_|(apply Br.mk<;>intro hc))<;>first|exact hc.elim|conv=>whnf)|refine kB ?_)
 exact⟨_,_,rfl,rfl⟩
theorem Ak0:Ae (Ad tab) 210 [.sl false []] (· =.sl false []):=by
 refine Ac rfl rfl ?_
 (conv=>whnf);repeat' (first|((first|refine kA ?_|(apply Br.mk<;>intro hc))<;>first|exact hc.elim|conv=>whnf)|refine kB ?_)
 refine FW rfl Ae7 ?_
 (conv=>whnf);repeat' (first|((first|refine kA ?_|(apply Br.mk<;>intro hc))<;>first|exact hc.elim|conv=>whnf)|refine kB ?_)
 refine DR ?_ rfl
 (conv=>whnf);repeat' (first|((first|refine kA ?_|(apply Br.mk<;>intro hc))<;>first|exact hc.elim|conv=>whnf)|refine kB ?_)
 rfl
theorem Z9 {d:Nat} {l:List AV} (h:∀x∈l,Gx d x):Bc 5 l:=by
 intro x hx
 obtain⟨g,rfl,_⟩:=Ny (h x hx)
 rfl
theorem AhM:∀(d:Nat) {l:List AV} {nn:Bool},(nn=false→l=[])→l.length≤2000→(∀ x∈l,Gx d x)→Ae (Ad tab) 210 [.sl nn l] (· =.sl nn l):=by
 intro d
 induction d using Nat.strongRecOn with
 |ind d ih=>
  intro l nn hn hl h
  cases nn with
  |false=>obtain rfl:=hn rfl;exact Ak0
  |true=>
   refine Ac rfl rfl ?_
   (conv=>whnf);repeat' (first|((first|refine kA ?_|(apply Br.mk<;>intro hc))<;>first|exact hc.elim|conv=>whnf)|refine kB ?_)
   refine RY rfl (AhD (Z9 h) (by omega)) ?_
   (conv=>whnf);repeat' (first|((first|refine kA ?_|(apply Br.mk<;>intro hc))<;>first|exact hc.elim|conv=>whnf)|refine kB ?_)
   refine Ag (fun m env st=>∃(i c:Nat),m=l.length-i∧env=[(3,.own 0 0 0 l.length),(8,.int .i64 l.length),(9,.int .i64 i)]∧st=⟨[.arr 0 5 true true l],c⟩) ?_ _ _ _ ⟨0,_,rfl,rfl,rfl⟩
   rintro _ _ _ ⟨i,c,rfl,rfl,rfl⟩
   refine⟨rfl,?_⟩
   by_cases hlt:i<l.length
   ·obtain⟨u,e,hu,hu2,d',rfl,hu3⟩:=Ny (h _ (List.getElem_mem hlt))
    have p:=ih d' (by omega) (l:=u.l) (nn:=u.nn) hu.2.2.2.2.2.1 hu2 hu3
    have hnn:nth l (Int.toNat (Nat.cast i))=some (.agg [.int .i64 u.k,.int .i64 u.n,.int .i64 u.d,.str u.s,.sl u.nn u.l]):=by
        show _=some u.av
        rw[← e];exact nRN hlt
    (conv=>whnf);repeat' (first|((first|(apply Af;(· exact hnn))|refine kE p ?_|(apply Cb;(· exact NC hnn))|refine kA ?_|(apply Br.mk<;>intro hc))<;>first|exact hc.elim|conv=>whnf)|refine kB ?_)
    all_goals first
        |(exfalso;omega)
        |exact again.mk ⟨_,by omega,i+1,_,rfl,rfl,rfl⟩
   ·(conv=>whnf);repeat' (first|((first|refine kA ?_|(apply Br.mk<;>intro hc))<;>first|exact hc.elim|conv=>whnf)|refine kB ?_)
    all_goals first
        |(exfalso;omega)
        |exact congrArg (AV.sl true) (Qa _)
theorem AhN {l:List AV} {nn:Bool} (h:Ae (Ad tab) 210 [.sl nn l] (· =.sl nn l)):Ae (Ad tab) 130 [.sl nn l] (· =.agg [.int .i64 8,.int .i64 0,.int .i64 0,.str [],.sl nn l]):=by
 refine Ac rfl rfl ?_
 (conv=>whnf);repeat' (first|((first|refine kE h ?_|refine kA ?_|(apply Br.mk<;>intro hc))<;>first|exact hc.elim|conv=>whnf)|refine kB ?_)
 all_goals first|rfl
def Ut (P:List GP):Prop:=P.length≤2000∧∀p∈P,p.ok∧Gx 12 p.v.av
theorem Ak1 {v:GV} (hv:v.ok) (h:Gx 12 v.av):Ae (Ad tab) 130 [.sl v.nn v.l] (· =.agg [.int .i64 8,.int .i64 0,.int .i64 0,.str [],.sl v.nn v.l]):=by
 obtain⟨g,e,h1,h2,d',e2,h3⟩:=Ny h
 have el:g.l=v.l:=by injection e with e;simp only[List.cons.injEq,AV.sl.injEq]at e;exact e.2.2.2.2.1.2.symm
 rw[el]at h2 h3
 exact AhN (AhM d' hv.2.2.2.2.2.1 h2 h3)
theorem Afo {P:List GP} {nn:Bool} (hn:nn=false→P=[]) (h:Ut P):Ae (Ad tab) 66 [.sl nn (vs GP.av P)] (· =.sl nn (vs GP.av P)):=by
 cases nn with
 |false=>
  obtain rfl:=hn rfl
  refine Ac rfl rfl ?_
  (conv=>whnf);repeat' (first|((first|refine kA ?_|(apply Br.mk<;>intro hc))<;>first|exact hc.elim|conv=>whnf)|refine kB ?_)
  refine FW rfl Ae8 ?_
  (conv=>whnf);repeat' (first|((first|refine kA ?_|(apply Br.mk<;>intro hc))<;>first|exact hc.elim|conv=>whnf)|refine kB ?_)
  refine DR ?_ rfl
  (conv=>whnf);repeat' (first|((first|refine kA ?_|(apply Br.mk<;>intro hc))<;>first|exact hc.elim|conv=>whnf)|refine kB ?_)
  rfl
 |true=>
  have hl:=h.1
  refine Ac rfl rfl ?_
  (conv=>whnf);repeat' (first|((first|refine kA ?_|(apply Br.mk<;>intro hc))<;>first|exact hc.elim|conv=>whnf)|refine kB ?_)
  refine RY rfl (AhF (l:=P) (by omega)) ?_
  (conv=>whnf);repeat' (first|((first|refine kA ?_|(apply Br.mk<;>intro hc))<;>first|exact hc.elim|conv=>whnf)|refine kB ?_)
  refine Ag (fun m env st=>∃i c:Nat,m=P.length-i∧env=[(0,.own 0 0 0 (vs GP.av P).length),(7,.int .i64 (vs GP.av P).length),(8,.int .i64 i)]∧st=⟨[.arr 0 6 true true (vs GP.av P)],c⟩) ?_ _ _ _ ⟨0,_,rfl,rfl,rfl⟩
  rintro _ _ _ ⟨i,c,rfl,rfl,rfl⟩
  refine⟨rfl,?_⟩
  have hll:(vs GP.av P).length=P.length:=lV _
  by_cases hlt:i<P.length
  ·obtain⟨h1,h2⟩:=h.2 _ (List.getElem_mem hlt)
   have p:=Ak1 h1.2 h2
   (conv=>whnf);repeat' (first|((first|refine kE p ?_|(apply Cb;(· exact NC (x:=(P[i]).av) (nVN (by omega))))|refine kA ?_|(apply Br.mk<;>intro hc))<;>first|exact hc.elim|conv=>whnf)|refine kB ?_)
   all_goals first
        |(exfalso;omega)
        |exact again.mk ⟨_,by omega,i+1,_,rfl,rfl,rfl⟩
  ·(conv=>whnf);repeat' (first|((first|refine kA ?_|(apply Br.mk<;>intro hc))<;>first|exact hc.elim|conv=>whnf)|refine kB ?_)
   all_goals first
        |(exfalso;omega)
        |exact congrArg (AV.sl true) (Qa _)
theorem YC:Ar (Ad tab) 63 [.sl false []] ⟨[],0⟩ fun out _=>out=.ok (.sl false []):=by
 refine Ai rfl rfl ?_
 (conv=>whnf);repeat' (first|((first|refine kA ?_|(apply Br.mk<;>intro hc))<;>first|exact hc.elim|conv=>whnf)|refine kB ?_)
 rfl
theorem Abi {l:List GN} (hl:l.length≤4000):Ar (Ad tab) 63 [.sl true (vs GN.av l)] ⟨[],0⟩ fun out s'=>∃o g,out=.ok (.own o g 0 (vs GN.av l).length)∧nth s'.σ o=some (.arr g 3 true true (vs GN.av l)):=by
 refine Ai rfl rfl ?_
 (conv=>whnf);repeat' (first|((first|refine kA ?_|(apply Br.mk<;>intro hc))<;>first|exact hc.elim|conv=>whnf)|refine kB ?_)
 refine Gt (Cj (f:=GN.av) (fun _=>rfl) l) (by rw[lV];omega) ?_
 (conv=>whnf);repeat' (first|((first|refine kA ?_|(apply Br.mk<;>intro hc))<;>first|exact hc.elim|conv=>whnf)|refine kB ?_)
 exact⟨_,_,rfl,rfl⟩
theorem YD:Ar (Ad tab) 64 [.sl false []] ⟨[],0⟩ fun out _=>out=.ok (.sl false []):=by
 refine Ai rfl rfl ?_
 (conv=>whnf);repeat' (first|((first|refine kA ?_|(apply Br.mk<;>intro hc))<;>first|exact hc.elim|conv=>whnf)|refine kB ?_)
 rfl
theorem Abj {l:List GE} (hl:l.length≤4000):Ar (Ad tab) 64 [.sl true (vs GE.av l)] ⟨[],0⟩ fun out s'=>∃o g,out=.ok (.own o g 0 (vs GE.av l).length)∧nth s'.σ o=some (.arr g 5 true true (vs GE.av l)):=by
 refine Ai rfl rfl ?_
 (conv=>whnf);repeat' (first|((first|refine kA ?_|(apply Br.mk<;>intro hc))<;>first|exact hc.elim|conv=>whnf)|refine kB ?_)
 refine Gt (Cj (f:=GE.av) (fun _=>rfl) l) (by rw[lV];omega) ?_
 (conv=>whnf);repeat' (first|((first|refine kA ?_|(apply Br.mk<;>intro hc))<;>first|exact hc.elim|conv=>whnf)|refine kB ?_)
 exact⟨_,_,rfl,rfl⟩
structure Zn (g:GG):Prop where
 nn:g.nodes.length≤4000
 en:g.edges.length≤4000
 nodes:∀n∈g.nodes,n.ok∧n.labels.length≤100000∧Ut n.props
 edges:∀e∈g.edges,e.ok∧Ut e.props
section
variable {N:List GN} {E:List GE} {x y:Int} {gN gE:Nat} {vN vE:AV}
theorem Anl (hl:N.length≤4000) (h:∀n∈N,n.ok∧n.labels.length≤100000∧Ut n.props) {bE:AV} {YM:Obj} {c0:Nat} {Q:AQ→Env→Am→Prop}
 (hQ:∀c tl,Q (.exit 0) ([(1,.ref 0 0 0 0),(2,.ref 1 1 0 0),(15,.int .i64 (vs GN.av N).length),(16,.int .i64 N.length)]++tl) ⟨[.arr 0 4 true false [.agg [.own 2 2 0 (vs GN.av N).length,bE,.int .i64 x,.int .i64 y]],.arr 1 4 true true [.agg [.sl false [],.sl false [],.int .i64 0,.int .i64 0]],.arr 2 3 true true (vs GN.av N),YM],c⟩):
 Run (Ad tab) (.loop l29_0_h l29_0_b) [(1,.ref 0 0 0 0),(2,.ref 1 1 0 0),(15,.int .i64 (vs GN.av N).length),(16,.int .i64 0)] ⟨[.arr 0 4 true false [.agg [.own 2 2 0 (vs GN.av N).length,bE,.int .i64 x,.int .i64 y]],.arr 1 4 true true [.agg [.sl false [],.sl false [],.int .i64 0,.int .i64 0]],.arr 2 3 true true (vs GN.av N),YM],c0⟩ Q:=by
 have hlN:(vs GN.av N).length=N.length:=lV _
 refine Ag (fun m env st=>∃i c:Nat,m=N.length-i∧i≤N.length∧env=[(1,.ref 0 0 0 0),(2,.ref 1 1 0 0),(15,.int .i64 (vs GN.av N).length),(16,.int .i64 i)]∧st=⟨[.arr 0 4 true false [.agg [.own 2 2 0 (vs GN.av N).length,bE,.int .i64 x,.int .i64 y]],.arr 1 4 true true [.agg [.sl false [],.sl false [],.int .i64 0,.int .i64 0]],.arr 2 3 true true (vs GN.av N),YM],c⟩) ?_ _ _ _ ⟨0,_,rfl,by omega,rfl,rfl⟩
 rintro _ _ _ ⟨i,c,rfl,hi,rfl,rfl⟩
 refine⟨rfl,?_⟩
 by_cases hlt:i<N.length
 ·obtain⟨h1,h2,h3⟩:=h _ (List.getElem_mem hlt)
  have p1:=AhE (l:=(N[i]).labels) (nn:=(N[i]).ln) (by omega) h1.2.2.1
  have p2:=Afo (P:=(N[i]).props) (nn:=(N[i]).pn) h1.2.2.2.2.2.1 h3
  (conv=>whnf);repeat' (first|((first|refine kE p1 ?_|refine kE p2 ?_|(apply Cb;(· exact NC (x:=(N[i]).av) (nVN (by omega))))|refine kA ?_|(apply Br.mk<;>intro hc))<;>first|exact hc.elim|conv=>whnf)|refine kB ?_)
  all_goals first
   |(exfalso;omega)
   |exact again.mk ⟨_,by omega,i+1,_,rfl,by omega,rfl,rfl⟩
 ·obtain rfl:i=N.length:=by omega
  (conv=>whnf);repeat' (first|((first|refine kA ?_|(apply Br.mk<;>intro hc))<;>first|exact hc.elim|conv=>whnf)|refine kB ?_)
  all_goals first
   |(exfalso;omega)
   |exact hQ _ _
theorem Anm (hl:E.length≤4000) (h:∀e∈E,e.ok∧Ut e.props) {bN:AV} {N9:Obj} {c0:Nat} {Q:AQ→Env→Am→Prop}
 (hQ:∀c tl,Q (.exit 2) ([(1,.ref 0 0 0 0),(2,.ref 1 1 0 0),(46,.int .i64 (vs GE.av E).length),(47,.int .i64 E.length)]++tl) ⟨[.arr 0 4 true false [.agg [bN,.own 3 3 0 (vs GE.av E).length,.int .i64 x,.int .i64 y]],.arr 1 4 true true [.agg [.sl false [],.sl false [],.int .i64 0,.int .i64 0]],N9,.arr 3 5 true true (vs GE.av E)],c⟩):
 Run (Ad tab) (.loop l29_1_h l29_1_b) [(1,.ref 0 0 0 0),(2,.ref 1 1 0 0),(46,.int .i64 (vs GE.av E).length),(47,.int .i64 0)] ⟨[.arr 0 4 true false [.agg [bN,.own 3 3 0 (vs GE.av E).length,.int .i64 x,.int .i64 y]],.arr 1 4 true true [.agg [.sl false [],.sl false [],.int .i64 0,.int .i64 0]],N9,.arr 3 5 true true (vs GE.av E)],c0⟩ Q:=by
 have hlE:(vs GE.av E).length=E.length:=lV _
 refine Ag (fun m env st=>∃i c:Nat,m=E.length-i∧i≤E.length∧env=[(1,.ref 0 0 0 0),(2,.ref 1 1 0 0),(46,.int .i64 (vs GE.av E).length),(47,.int .i64 i)]∧st=⟨[.arr 0 4 true false [.agg [bN,.own 3 3 0 (vs GE.av E).length,.int .i64 x,.int .i64 y]],.arr 1 4 true true [.agg [.sl false [],.sl false [],.int .i64 0,.int .i64 0]],N9,.arr 3 5 true true (vs GE.av E)],c⟩) ?_ _ _ _ ⟨0,_,rfl,by omega,rfl,rfl⟩
 rintro _ _ _ ⟨i,c,rfl,hi,rfl,rfl⟩
 refine⟨rfl,?_⟩
 by_cases hlt:i<E.length
 ·obtain⟨h1,h3⟩:=h _ (List.getElem_mem hlt)
  have p2:=Afo (P:=(E[i]).props) (nn:=(E[i]).pn) h1.2.2.2.2.2.1 h3
  (conv=>whnf);repeat' (first|((first|refine kE p2 ?_|(apply Cb;(· exact NC (x:=(E[i]).av) (nVN (by omega))))|refine kA ?_|(apply Br.mk<;>intro hc))<;>first|exact hc.elim|conv=>whnf)|refine kB ?_)
  all_goals first
   |(exfalso;omega)
   |exact again.mk ⟨_,by omega,i+1,_,rfl,by omega,rfl,rfl⟩
 ·obtain rfl:i=E.length:=by omega
  (conv=>whnf);repeat' (first|((first|refine kA ?_|(apply Br.mk<;>intro hc))<;>first|exact hc.elim|conv=>whnf)|refine kB ?_)
  all_goals first
   |(exfalso;omega)
   |exact hQ _ _
end
set_option maxHeartbeats 4000000 in
theorem AhO {g:GG} (hg:g.ok) (h:Zn g):Ae (Ad tab) 29 [g.av] (· =g.av):=by
 obtain⟨nn,N,en,E,x,y⟩:=g
 have hN:=h.nn
 have hE:=h.en
 have hnn:=hg.2.1
 have hen:=hg.2.2.2.2.1
 dsimp only at hN hE hnn hen
 have hlN:(vs GN.av N).length=N.length:=lV _
 have hlE:(vs GE.av E).length=E.length:=lV _
 cases nn with
 |false=>
  obtain rfl:=hnn rfl
  cases en with
  |false=>
   obtain rfl:=hen rfl
   refine Ac rfl rfl ?_
   (conv=>whnf);repeat' (first|((first|refine kA ?_|(apply Br.mk<;>intro hc))<;>first|exact hc.elim|conv=>whnf)|refine kB ?_)
   refine FW rfl YC ?_
   (conv=>whnf);repeat' (first|((first|refine kA ?_|(apply Br.mk<;>intro hc))<;>first|exact hc.elim|conv=>whnf)|refine kB ?_)
   refine FW rfl YD ?_
   (conv=>whnf);repeat' (first|((first|refine kA ?_|(apply Br.mk<;>intro hc))<;>first|exact hc.elim|conv=>whnf)|refine kB ?_)
   refine DR ?_ rfl
   (conv=>whnf);repeat' (first|((first|refine kA ?_|(apply Br.mk<;>intro hc))<;>first|exact hc.elim|conv=>whnf)|refine kB ?_)
   refine DR ?_ rfl
   (conv=>whnf);repeat' (first|((first|refine kA ?_|(apply Br.mk<;>intro hc))<;>first|exact hc.elim|conv=>whnf)|refine kB ?_)
   all_goals first|rfl
  |true=>
   refine Ac rfl rfl ?_
   (conv=>whnf);repeat' (first|((first|refine kA ?_|(apply Br.mk<;>intro hc))<;>first|exact hc.elim|conv=>whnf)|refine kB ?_)
   refine FW rfl YC ?_
   (conv=>whnf);repeat' (first|((first|refine kA ?_|(apply Br.mk<;>intro hc))<;>first|exact hc.elim|conv=>whnf)|refine kB ?_)
   refine RY rfl (Abj (l:=E) (by omega)) ?_
   (conv=>whnf);repeat' (first|((first|refine kA ?_|(apply Br.mk<;>intro hc))<;>first|exact hc.elim|conv=>whnf)|refine kB ?_)
   refine DR ?_ rfl
   (conv=>whnf);repeat' (first|((first|refine kA ?_|(apply Br.mk<;>intro hc))<;>first|exact hc.elim|conv=>whnf)|refine kB ?_)
   refine Anm (by omega) h.edges fun c tl=>?_
   (conv=>whnf);repeat' (first|((first|refine kA ?_|(apply Br.mk<;>intro hc))<;>first|exact hc.elim|conv=>whnf)|refine kB ?_)
   all_goals first|(simp only[Qa];rfl)
 |true=>
  cases en with
  |false=>
   obtain rfl:=hen rfl
   refine Ac rfl rfl ?_
   (conv=>whnf);repeat' (first|((first|refine kA ?_|(apply Br.mk<;>intro hc))<;>first|exact hc.elim|conv=>whnf)|refine kB ?_)
   refine RY rfl (Abi (l:=N) (by omega)) ?_
   (conv=>whnf);repeat' (first|((first|refine kA ?_|(apply Br.mk<;>intro hc))<;>first|exact hc.elim|conv=>whnf)|refine kB ?_)
   refine FW rfl YD ?_
   (conv=>whnf);repeat' (first|((first|refine kA ?_|(apply Br.mk<;>intro hc))<;>first|exact hc.elim|conv=>whnf)|refine kB ?_)
   refine Anl (by omega) h.nodes fun c tl=>?_
   (conv=>whnf);repeat' (first|((first|refine kA ?_|(apply Br.mk<;>intro hc))<;>first|exact hc.elim|conv=>whnf)|refine kB ?_)
   refine DR ?_ rfl
   (conv=>whnf);repeat' (first|((first|refine kA ?_|(apply Br.mk<;>intro hc))<;>first|exact hc.elim|conv=>whnf)|refine kB ?_)
   all_goals first|(simp only[Qa];rfl)
  |true=>
   refine Ac rfl rfl ?_
   (conv=>whnf);repeat' (first|((first|refine kA ?_|(apply Br.mk<;>intro hc))<;>first|exact hc.elim|conv=>whnf)|refine kB ?_)
   refine RY rfl (Abi (l:=N) (by omega)) ?_
   (conv=>whnf);repeat' (first|((first|refine kA ?_|(apply Br.mk<;>intro hc))<;>first|exact hc.elim|conv=>whnf)|refine kB ?_)
   refine RY rfl (Abj (l:=E) (by omega)) ?_
   (conv=>whnf);repeat' (first|((first|refine kA ?_|(apply Br.mk<;>intro hc))<;>first|exact hc.elim|conv=>whnf)|refine kB ?_)
   refine Anl (by omega) h.nodes fun c tl=>?_
   (conv=>whnf);repeat' (first|((first|refine kA ?_|(apply Br.mk<;>intro hc))<;>first|exact hc.elim|conv=>whnf)|refine kB ?_)
   refine Anm (by omega) h.edges fun c tl=>?_
   (conv=>whnf);repeat' (first|((first|refine kA ?_|(apply Br.mk<;>intro hc))<;>first|exact hc.elim|conv=>whnf)|refine kB ?_)
   all_goals first|(simp only[Qa];rfl)
end AI
end Go.Proofs.YtjijnamhalgamaaGreatDoor
