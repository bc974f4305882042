/- The reference: a change of an edge, a step, exactly. -/
import Derived.Test.YthnehejdkajjhaaGreatDoorKMao
import Derived.Test.YthnehejdkajjhaaGreatDoorKRcA
import Derived.Test.YthnehejdkajjhaaGreatDoorKMae
set_option linter.unusedVariables false
set_option maxRecDepth 4000
namespace Go.Proofs.YthnehejdkajjhaaGreatDoor
namespace AI
section
variable {g:GG} {n:GE} {z fr to:Int} {nm:List UInt8} {v:GV}
set_option maxHeartbeats 2000000 in
theorem Alf (hg:g.ok) (hN:g.edges.length≤2900) (ha:Ef g) (hx:Tf g) (hz:Jw z) (hnm:Ln nm) (hv:v.ok) (hf:g.edges.find? (fun n=>decide (n.id=z))=some n):
 Ag (Ac tab) 74 [g.av,(⟨8,z,fr,to,nm,v⟩:GC).av,n.av] (DF (BD g ⟨8,z,fr,to,nm,v⟩)):=by
 obtain⟨hm,hid⟩:=Et hf
 have hid:=of_decide_eq_true hid
 have hn:=ha.aE n hm
 have hno:=hg.2.2.2.2.2.1 n hm
 have hlP:=hn.lP
 have hG:BD g ⟨8,z,fr,to,nm,v⟩=if isNull v then(0,{g with edges:=A8 BX GE.id {n with props:=Cc Op.bytesLess GP.key nm n.props} g.edges})else if(∃ p∈n.props,GP.key p=nm)∨n.props.length<16 then(0,{g with edges:=A8 BX GE.id {n with pn:=true,props:=A8 Op.bytesLess GP.key ⟨nm,v⟩ n.props} g.edges})else(20,g):=by
  unfold BD;dsimp only;rw[if_neg (by decide),hf];rfl
 rw[hG]
 have hz1:1≤n.id∧n.id≤1000000:=by unfold Jw at hz;omega
 by_cases hc1:isNull v
 ·rw[if_pos hc1]
  obtain⟨_,⟨b,hb,rfl⟩,hw⟩:=(Aba (P:=n.props) (nn:=n.pn) (key:=nm) (by omega) hn.iP hv hc1).IJ
  have hle:(Cc Op.bytesLess GP.key nm n.props).length≤16:=Nat.le_trans (Dz Ai) hlP
  rw[decide_eq_true hle]at hw
  have hpn:=Ags (g:=g) (n:=⟨n.id,n.fr,n.to,n.ty,b,Cc Op.bytesLess GP.key nm n.props⟩) hg (by omega) ha.iE hz1.1 hz1.2
  refine Ad rfl rfl ?_
  show vC _ _ [(0,g.av),(1,.agg [.int .i64 8,.int .i64 z,.int .i64 fr,.int .i64 to,.str nm,.int .i64 v.k,.int .i64 v.n,.int .i64 v.d,.str v.s,.sl v.nn v.l]),(2,n.av)] _ _
  (conv=>whnf);repeat' (first|((first|refine Aa hw ?_|refine Aa hpn ?_);rintro _ rfl;conv=>whnf)|refine kA ?_;conv=>whnf|(apply Br.mk<;>intro hc<;>first|exact hc.elim|conv=>whnf)|refine kB ?_)
  all_goals first
   |exact Aa8 (m:=⟨n.id,n.fr,n.to,n.ty,b,Cc Op.bytesLess GP.key nm n.props⟩) hg hN hx ⟨n,hm,rfl⟩ (ZY (x:=⟨nm,v⟩) hno ⟨hnm,hv⟩ (PI (by omega)) hb (fun y hy=>.inr (Ce hy))) rfl rfl
 ·rw[if_neg hc1]
  have hw:=Abb (P:=n.props) (nn:=n.pn) (key:=nm) (by omega) hn.iP hv hc1
  have h16:=AmG (key:=nm) (v:=v) hlP
  by_cases h5:(∃ p∈n.props,GP.key p=nm)∨n.props.length<16
  ·rw[if_pos h5]
   rw[decide_eq_true (h16.2 h5)]at hw
   have hpn:=Ags (g:=g) (n:=⟨n.id,n.fr,n.to,n.ty,true,A8 Op.bytesLess GP.key ⟨nm,v⟩ n.props⟩) hg (by omega) ha.iE hz1.1 hz1.2
   refine Ad rfl rfl ?_
   show vC _ _ [(0,g.av),(1,.agg [.int .i64 8,.int .i64 z,.int .i64 fr,.int .i64 to,.str nm,.int .i64 v.k,.int .i64 v.n,.int .i64 v.d,.str v.s,.sl v.nn v.l]),(2,n.av)] _ _
   (conv=>whnf);repeat' (first|((first|refine Aa hw ?_|refine Aa hpn ?_);rintro _ rfl;conv=>whnf)|refine kA ?_;conv=>whnf|(apply Br.mk<;>intro hc<;>first|exact hc.elim|conv=>whnf)|refine kB ?_)
   all_goals first
     |exact Aa8 (m:=⟨n.id,n.fr,n.to,n.ty,true,A8 Op.bytesLess GP.key ⟨nm,v⟩ n.props⟩) hg hN hx ⟨n,hm,rfl⟩ (ZY (x:=⟨nm,v⟩) hno ⟨hnm,hv⟩ (PG (by omega)) (fun h=>Bool.noConfusion h) (fun y hy=>Bq Ai hy)) rfl rfl
  ·rw[if_neg h5]
   rw[decide_eq_false (fun h=>h5 (h16.1 h))]at hw
   refine Ad rfl rfl ?_
   show vC _ _ [(0,g.av),(1,.agg [.int .i64 8,.int .i64 z,.int .i64 fr,.int .i64 to,.str nm,.int .i64 v.k,.int .i64 v.n,.int .i64 v.d,.str v.s,.sl v.nn v.l]),(2,n.av)] _ _
   (conv=>whnf);repeat' (first|(refine Aa hw ?_;rintro _ rfl;conv=>whnf)|refine kA ?_;conv=>whnf|(apply Br.mk<;>intro hc<;>first|exact hc.elim|conv=>whnf)|refine kB ?_)
   all_goals first
     |exact DF.no rfl (by decide)
set_option maxHeartbeats 2000000 in
theorem Alg (hg:g.ok) (hE:g.edges.length≤2900) (ha:Ef g) (hf:g.edges.find? (fun n=>decide (n.id=z))=some n):
 Ag (Ac tab) 74 [g.av,(⟨7,z,fr,to,nm,v⟩:GC).av,n.av] (DF (BD g ⟨7,z,fr,to,nm,v⟩)):=by
 have hG:BD g ⟨7,z,fr,to,nm,v⟩=(0,{g with edges:=Cc BX GE.id z g.edges}):=by
  unfold BD;dsimp only;rw[if_neg (by decide),hf];rfl
 rw[hG,OL Ak ha.iE]
 refine Ad rfl rfl ?_
 show vC _ _ [(0,g.av),(1,.agg [.int .i64 7,.int .i64 z,.int .i64 fr,.int .i64 to,.str nm,.int .i64 v.k,.int .i64 v.n,.int .i64 v.d,.str v.s,.sl v.nn v.l]),(2,n.av)] _ _
 (conv=>whnf);repeat' (first  |refine kA ?_;conv=>whnf|(apply Br.mk<;>intro hc<;>first|exact hc.elim|conv=>whnf)|refine kB ?_)
 refine Af (fun m env s=>∃(i c' go k:Nat) (f:Bool) (l:List GE),m=g.edges.length-i∧i≤g.edges.length∧k=l.length∧l.length≤i∧(f=false→l=[])∧l=(g.edges.take i).filter (fun a=>decide (GE.id a≠z))∧env=[(3,.ref 0 0 0 0),(4,.ref 1 1 0 0),(6,.ref 3 3 0 0),(10,.own 4 go 0 k),(11,.int .i64 i)]∧s=⟨[.arr 0 4 true true [g.av],.arr 1 10 true true [(⟨7,z,fr,to,nm,v⟩:GC).av],.arr 2 5 true true [n.av],.arr 3 4 true true [.agg [.sl false [],.sl false [],.int .i64 0,.int .i64 0]],.arr go 5 f true (vs GE.av l)],c'⟩) ?_ _ _ _ ⟨0,_,_,0,_,[],rfl,by omega,rfl,by simp,fun _=>rfl,by simp,rfl,rfl⟩
 rintro _ _ _ ⟨i,c',go,k,f,l,rfl,hi,hk,hl,hff,hx,rfl,rfl⟩
 refine⟨rfl,?_⟩
 subst hk
 by_cases hlt:i<g.edges.length
 ·have hs:=List.take_succ_eq_append_getElem hlt
  (conv=>whnf);repeat' (first|(refine Dt (x:=g.edges[i]) cellsE rfl (by omega) ?_;conv=>whnf)|refine kA ?_;conv=>whnf|(apply Br.mk<;>intro hc<;>first|exact hc.elim|conv=>whnf)|refine kB ?_)
  all_goals first
   |exact again.mk ⟨_,by omega,i+1,_,_,_,_,l++[g.edges[i]],rfl,by omega,by simp,by simp;omega,fun h=>Bool.noConfusion h,by rw[hs,List.filter_append,←hx,List.filter_cons_of_pos (by simp;omega),List.filter_nil],rfl,rfl⟩
   |exact again.mk ⟨_,by omega,i+1,_,_,_,_,l,rfl,by omega,rfl,by omega,hff,by rw[hs,List.filter_append,←hx,List.filter_cons_of_neg (by simp;omega),List.filter_nil,List.append_nil],rfl,rfl⟩
 ·rw[show i=g.edges.length by omega,List.take_length]at hx
  (conv=>whnf);repeat' (first  |refine kA ?_;conv=>whnf|(apply Br.mk<;>intro hc<;>first|exact hc.elim|conv=>whnf)|refine kB ?_)
  refine Ae (x:=GG.av ⟨g.nn,g.nodes,f,l,g.BF,g.BA⟩) ?_ ?_
  ·exact AhK (m:=999978) (a:=.sl g.nn (vs GN.av g.nodes)) (b:=.own 4 go 0 l.length) (N:=g.BF) (E:=g.BA) (fun _=>rfl) (fun _=>AhJ rfl rfl)
  (conv=>whnf);repeat' (first  |refine kA ?_;conv=>whnf|(apply Br.mk<;>intro hc<;>first|exact hc.elim|conv=>whnf)|refine kB ?_)
  subst hx
  obtain⟨g1,g2,g3,g4,g5,g6,g7,g8⟩:=hg
  exact DF.yes (h:=⟨g.nn,g.nodes,f,_,g.BF,g.BA⟩) rfl rfl ⟨g1,g2,g3,by unfold Ln;dsimp only;omega,hff,fun x hx=>g6 x ((List.mem_filter.1 hx).1),g7,g8⟩
end
theorem AbA {α:Type} {p:α→Bool} {l:List α} (h:l.find? p=none):¬∃n∈l,p n=true:=by
 rw[List.find?_eq_none]at h
 rintro⟨n,hn,e⟩
 exact h n hn e
theorem Ql (l:List GN) (z:Int):(∃ n,l.find? (fun n=>decide (n.id=z))=some n∧Jj l z=.BG [n.av,.bool true]∧∃n∈l,n.id=z)∨(l.find? (fun n=>decide (n.id=z))=none∧Jj l z=.BG [N0.av,.bool false]∧¬∃n∈l,n.id=z):=by
 unfold Jj X9
 cases h:l.find? (fun n=>decide (n.id=z))with
 |none=>exact .inr ⟨rfl,rfl,fun⟨n,hn,e⟩=>AbA h ⟨n,hn,decide_eq_true e⟩⟩
 |some n=>exact .inl ⟨n,rfl,rfl,n,(Et h).1,of_decide_eq_true (Et h).2⟩
theorem UC (l:List GE) (z:Int):(∃ n,l.find? (fun n=>decide (n.id=z))=some n∧JE l z=.BG [n.av,.bool true]∧∃n∈l,n.id=z)∨(l.find? (fun n=>decide (n.id=z))=none∧JE l z=.BG [E0.av,.bool false]∧¬∃n∈l,n.id=z):=by
 unfold JE XI
 cases h:l.find? (fun n=>decide (n.id=z))with
 |none=>exact .inr ⟨rfl,rfl,fun⟨n,hn,e⟩=>AbA h ⟨n,hn,decide_eq_true e⟩⟩
 |some n=>exact .inl ⟨n,rfl,rfl,n,(Et h).1,of_decide_eq_true (Et h).2⟩
theorem no1 {g:GG} {c:GC} (h:c.op=1) (hx:∃n∈g.nodes,n.id=c.id):Ba g c=(7,g):=by unfold Ba;rw[if_pos h,if_pos hx]
theorem Avm {g:GG} {c:GC} (h:c.op=1) (hx:¬∃n∈g.nodes,n.id=c.id) (hl:¬g.nodes.length<2000):Ba g c=(20,g):=by unfold Ba;rw[if_pos h,if_neg hx,if_neg hl]
theorem Avn {g:GG} {c:GC} (h:c.op=1) (hx:¬∃n∈g.nodes,n.id=c.id) (hl:g.nodes.length<2000):Ba g c=(0,{g with nn:=true,nodes:=A8 BX GN.id ⟨c.id,false,[],false,[]⟩ g.nodes,BF:=if c.id+1>g.BF then c.id+1 else g.BF}):=by unfold Ba;rw[if_pos h,if_neg hx,if_pos hl]
theorem Alh {g:GG} {c:GC} (h:c.op≠1) (hx:g.nodes.find? (fun n=>decide (n.id=c.id))=none):Ba g c=(10,g):=by unfold Ba;rw[if_neg h,hx]
theorem no6 {g:GG} {c:GC} (h:c.op=6) (hx:∃n∈g.edges,n.id=c.id):BD g c=(7,g):=by unfold BD;rw[if_pos h,if_pos hx]
theorem ArT {g:GG} {c:GC} (h:c.op=6) (hx:¬∃n∈g.edges,n.id=c.id) (hn:¬((∃ n∈g.nodes,n.id=c.fr)∧(∃ n∈g.nodes,n.id=c.to))):BD g c=(10,g):=by unfold BD;rw[if_pos h,if_neg hx,if_neg hn]
theorem Avo {g:GG} {c:GC} (h:c.op=6) (hx:¬∃n∈g.edges,n.id=c.id) (hn:(∃ n∈g.nodes,n.id=c.fr)∧(∃ n∈g.nodes,n.id=c.to)) (hl:g.edges.length<4000):BD g c=(0,{g with en:=true,edges:=A8 BX GE.id ⟨c.id,c.fr,c.to,c.name,false,[]⟩ g.edges,BA:=if c.id+1>g.BA then c.id+1 else g.BA}):=by unfold BD;rw[if_pos h,if_neg hx,if_pos hn,if_pos hl]
theorem ArU {g:GG} {c:GC} (h:c.op≠6) (hx:g.edges.find? (fun n=>decide (n.id=c.id))=none):BD g c=(11,g):=by unfold BD;rw[if_neg h,hx]
set_option maxHeartbeats 8000000 in
theorem Amg {g:GG} {c:GC} (hg:g.ok) (hN:g.nodes.length≤2900) (hE:g.edges.length≤2900) (ha:Ef g) (hx:Tf g) (hc:c.ok):
 Ag (Ac tab) 34 [g.av,c.av] (DF (stepG g c)):=by
 have hck:=Anq hc
 by_cases h0:Il c=0
 rotate_left
 ·have hG:stepG g c=(Il c,g):=by unfold stepG;rw[if_pos h0]
  rw[hG]
  generalize Il c=e at hck h0 ⊢
  refine Ad rfl rfl ?_
  (conv=>whnf);repeat' (first|(refine Aa hck ?_;rintro _ rfl;conv=>whnf)|refine kA ?_;conv=>whnf|(apply Br.mk<;>intro hc<;>first|exact hc.elim|conv=>whnf)|refine kB ?_)
  all_goals first|exact DF.no rfl h0|(exfalso;omega)
 rw[h0]at hck
 obtain⟨hop,hid,_,h6,_⟩:=Ae1 h0
 obtain⟨c1,c2,c3,c4,c5,c6⟩:=hc
 have hG:stepG g c=if c.op≤5 then Ba g c else BD g c:=by unfold stepG;rw[if_neg (fun k=>k h0)]
 rw[hG]
 clear hG h0
 have hn:=AdD (g:=g) (id:=c.id) (by omega)
 have he:=Amd (g:=g) (id:=c.id) (by omega)
 have hf:=AdD (g:=g) (id:=c.fr) (by omega)
 have ht:=AdD (g:=g) (id:=c.to) (by omega)
 obtain⟨op,z,fr,to,nm,v⟩:=c
 dsimp only at hop hid h6 hn he hf ht c1 c2 c3 c4 c5 c6 ⊢
 have hz1:1≤z∧z≤1000000:=hid
 have hpn:=Aa9 (g:=g) (n:=⟨z,false,[],false,[]⟩) hg (by omega) ha.iN hz1.1 hz1.2
 have hpe:=Ags (g:=g) (n:=⟨z,fr,to,nm,false,[]⟩) hg (by omega) ha.iE hz1.1 hz1.2
 have hg7:=hg.2.2.2.2.2.2.1
 have hg8:=hg.2.2.2.2.2.2.2
 have hI7:I64 (if z+1>g.BF then z+1 else g.BF):=by unfold I64 at *;split<;>omega
 have hI8:I64 (if z+1>g.BA then z+1 else g.BA):=by unfold I64 at *;split<;>omega
 have hd:op=1∨op=2∨op=3∨op=4∨op=5∨op=6∨op=7∨op=8:=by omega
 rcases hd with rfl|rfl|rfl|rfl|rfl|rfl|rfl|rfl
 ·rw[if_pos (by decide)]
  obtain⟨_,⟨e,be,rfl⟩,he⟩:=(Ag.mono (R':=fun w=>∃(e:GE) (b:Bool),w=.BG [e.av,.bool b]) he (fun w h=>by rcases UC g.edges z with⟨e,_,ee,_⟩|⟨_,ee,_⟩<;>rw[ee]at h<;>exact⟨_,_,h⟩)).IJ
  rcases Ql g.nodes z with⟨n,fn,en,xn⟩|⟨fn,en,xn⟩<;>rw[en]at hn
  ·refine Ad rfl rfl ?_
   show vC _ _ [(0,g.av),(1,.agg [.int .i64 1,.int .i64 z,.int .i64 fr,.int .i64 to,.str nm,.int .i64 v.k,.int .i64 v.n,.int .i64 v.d,.str v.s,.sl v.nn v.l])] _ _
   (conv=>whnf);repeat' (first|((first|refine Aa hck ?_|refine Aa hn ?_|refine Aa he ?_);rintro _ rfl;conv=>whnf)|refine kA ?_;conv=>whnf|(apply Br.mk<;>intro hc<;>first|exact hc.elim|conv=>whnf)|refine kB ?_)
   all_goals first|exact DF.no (no1 rfl xn) (by decide)|(exfalso;omega)
  ·refine Ad rfl rfl ?_
   show vC _ _ [(0,g.av),(1,.agg [.int .i64 1,.int .i64 z,.int .i64 fr,.int .i64 to,.str nm,.int .i64 v.k,.int .i64 v.n,.int .i64 v.d,.str v.s,.sl v.nn v.l])] _ _
   (conv=>whnf);repeat' (first|((first|refine Aa hck ?_|refine Aa hn ?_|refine Aa he ?_|refine Aa hpn ?_);rintro _ rfl;conv=>whnf)|refine kA ?_;conv=>whnf|(apply Br.mk<;>intro hc<;>first|exact hc.elim|conv=>whnf)|refine kB ?_)
   all_goals first
     |exact DF.no (Avm rfl xn (by omega)) (by decide)
     |exact DF.yes (h:=⟨true,_,g.en,g.edges,_,g.BA⟩) (Avn rfl xn (by omega)) rfl (Vk hg (Aeo c2) (OE Ak (by omega)) (fun x hx=>Bq Ak hx) hI7)
     |(exfalso;omega)
 ·rw[if_pos (by decide)]
  obtain⟨_,⟨e,be,rfl⟩,he⟩:=(Ag.mono (R':=fun w=>∃(e:GE) (b:Bool),w=.BG [e.av,.bool b]) he (fun w h=>by rcases UC g.edges z with⟨e,_,ee,_⟩|⟨_,ee,_⟩<;>rw[ee]at h<;>exact⟨_,_,h⟩)).IJ
  rcases Ql g.nodes z with⟨n,fn,en,xn⟩|⟨fn,en,xn⟩<;>rw[en]at hn
  ·refine Ad rfl rfl ?_
   show vC _ _ [(0,g.av),(1,.agg [.int .i64 2,.int .i64 z,.int .i64 fr,.int .i64 to,.str nm,.int .i64 v.k,.int .i64 v.n,.int .i64 v.d,.str v.s,.sl v.nn v.l])] _ _
   (conv=>whnf);repeat' (first|((first|refine Aa hck ?_|refine Aa hn ?_|refine Aa he ?_);rintro _ rfl;conv=>whnf)|(refine Aa (AkZ hg hN hE ha c5 fn) ?_;rintro _ ⟨h,rfl,q1,q2⟩;conv=>whnf)|refine kA ?_;conv=>whnf|(apply Br.mk<;>intro hc<;>first|exact hc.elim|conv=>whnf)|refine kB ?_)
   all_goals first|exact⟨h,rfl,q1,q2⟩
  ·refine Ad rfl rfl ?_
   show vC _ _ [(0,g.av),(1,.agg [.int .i64 2,.int .i64 z,.int .i64 fr,.int .i64 to,.str nm,.int .i64 v.k,.int .i64 v.n,.int .i64 v.d,.str v.s,.sl v.nn v.l])] _ _
   (conv=>whnf);repeat' (first|((first|refine Aa hck ?_|refine Aa hn ?_|refine Aa he ?_);rintro _ rfl;conv=>whnf)|refine kA ?_;conv=>whnf|(apply Br.mk<;>intro hc<;>first|exact hc.elim|conv=>whnf)|refine kB ?_)
   all_goals first|exact DF.no (Alh (show (2:Int)≠1 by decide) fn) (by decide)
 ·rw[if_pos (by decide)]
  obtain⟨_,⟨e,be,rfl⟩,he⟩:=(Ag.mono (R':=fun w=>∃(e:GE) (b:Bool),w=.BG [e.av,.bool b]) he (fun w h=>by rcases UC g.edges z with⟨e,_,ee,_⟩|⟨_,ee,_⟩<;>rw[ee]at h<;>exact⟨_,_,h⟩)).IJ
  rcases Ql g.nodes z with⟨n,fn,en,xn⟩|⟨fn,en,xn⟩<;>rw[en]at hn
  ·refine Ad rfl rfl ?_
   show vC _ _ [(0,g.av),(1,.agg [.int .i64 3,.int .i64 z,.int .i64 fr,.int .i64 to,.str nm,.int .i64 v.k,.int .i64 v.n,.int .i64 v.d,.str v.s,.sl v.nn v.l])] _ _
   (conv=>whnf);repeat' (first|((first|refine Aa hck ?_|refine Aa hn ?_|refine Aa he ?_);rintro _ rfl;conv=>whnf)|(refine Aa (Aky hg hN ha hx hid c5 fn) ?_;rintro _ ⟨h,rfl,q1,q2⟩;conv=>whnf)|refine kA ?_;conv=>whnf|(apply Br.mk<;>intro hc<;>first|exact hc.elim|conv=>whnf)|refine kB ?_)
   all_goals first|exact⟨h,rfl,q1,q2⟩
  ·refine Ad rfl rfl ?_
   show vC _ _ [(0,g.av),(1,.agg [.int .i64 3,.int .i64 z,.int .i64 fr,.int .i64 to,.str nm,.int .i64 v.k,.int .i64 v.n,.int .i64 v.d,.str v.s,.sl v.nn v.l])] _ _
   (conv=>whnf);repeat' (first|((first|refine Aa hck ?_|refine Aa hn ?_|refine Aa he ?_);rintro _ rfl;conv=>whnf)|refine kA ?_;conv=>whnf|(apply Br.mk<;>intro hc<;>first|exact hc.elim|conv=>whnf)|refine kB ?_)
   all_goals first|exact DF.no (Alh (show (3:Int)≠1 by decide) fn) (by decide)
 ·rw[if_pos (by decide)]
  obtain⟨_,⟨e,be,rfl⟩,he⟩:=(Ag.mono (R':=fun w=>∃(e:GE) (b:Bool),w=.BG [e.av,.bool b]) he (fun w h=>by rcases UC g.edges z with⟨e,_,ee,_⟩|⟨_,ee,_⟩<;>rw[ee]at h<;>exact⟨_,_,h⟩)).IJ
  rcases Ql g.nodes z with⟨n,fn,en,xn⟩|⟨fn,en,xn⟩<;>rw[en]at hn
  ·refine Ad rfl rfl ?_
   show vC _ _ [(0,g.av),(1,.agg [.int .i64 4,.int .i64 z,.int .i64 fr,.int .i64 to,.str nm,.int .i64 v.k,.int .i64 v.n,.int .i64 v.d,.str v.s,.sl v.nn v.l])] _ _
   (conv=>whnf);repeat' (first|((first|refine Aa hck ?_|refine Aa hn ?_|refine Aa he ?_);rintro _ rfl;conv=>whnf)|(refine Aa (AkA hg hN ha hx hid c5 fn) ?_;rintro _ ⟨h,rfl,q1,q2⟩;conv=>whnf)|refine kA ?_;conv=>whnf|(apply Br.mk<;>intro hc<;>first|exact hc.elim|conv=>whnf)|refine kB ?_)
   all_goals first|exact⟨h,rfl,q1,q2⟩
  ·refine Ad rfl rfl ?_
   show vC _ _ [(0,g.av),(1,.agg [.int .i64 4,.int .i64 z,.int .i64 fr,.int .i64 to,.str nm,.int .i64 v.k,.int .i64 v.n,.int .i64 v.d,.str v.s,.sl v.nn v.l])] _ _
   (conv=>whnf);repeat' (first|((first|refine Aa hck ?_|refine Aa hn ?_|refine Aa he ?_);rintro _ rfl;conv=>whnf)|refine kA ?_;conv=>whnf|(apply Br.mk<;>intro hc<;>first|exact hc.elim|conv=>whnf)|refine kB ?_)
   all_goals first|exact DF.no (Alh (show (4:Int)≠1 by decide) fn) (by decide)
 ·rw[if_pos (by decide)]
  obtain⟨_,⟨e,be,rfl⟩,he⟩:=(Ag.mono (R':=fun w=>∃(e:GE) (b:Bool),w=.BG [e.av,.bool b]) he (fun w h=>by rcases UC g.edges z with⟨e,_,ee,_⟩|⟨_,ee,_⟩<;>rw[ee]at h<;>exact⟨_,_,h⟩)).IJ
  rcases Ql g.nodes z with⟨n,fn,en,xn⟩|⟨fn,en,xn⟩<;>rw[en]at hn
  ·refine Ad rfl rfl ?_
   show vC _ _ [(0,g.av),(1,.agg [.int .i64 5,.int .i64 z,.int .i64 fr,.int .i64 to,.str nm,.int .i64 v.k,.int .i64 v.n,.int .i64 v.d,.str v.s,.sl v.nn v.l])] _ _
   (conv=>whnf);repeat' (first|((first|refine Aa hck ?_|refine Aa hn ?_|refine Aa he ?_);rintro _ rfl;conv=>whnf)|(refine Aa (AkB hg hN ha hx hid c5 c6 fn) ?_;rintro _ ⟨h,rfl,q1,q2⟩;conv=>whnf)|refine kA ?_;conv=>whnf|(apply Br.mk<;>intro hc<;>first|exact hc.elim|conv=>whnf)|refine kB ?_)
   all_goals first|exact⟨h,rfl,q1,q2⟩
  ·refine Ad rfl rfl ?_
   show vC _ _ [(0,g.av),(1,.agg [.int .i64 5,.int .i64 z,.int .i64 fr,.int .i64 to,.str nm,.int .i64 v.k,.int .i64 v.n,.int .i64 v.d,.str v.s,.sl v.nn v.l])] _ _
   (conv=>whnf);repeat' (first|((first|refine Aa hck ?_|refine Aa hn ?_|refine Aa he ?_);rintro _ rfl;conv=>whnf)|refine kA ?_;conv=>whnf|(apply Br.mk<;>intro hc<;>first|exact hc.elim|conv=>whnf)|refine kB ?_)
   all_goals first|exact DF.no (Alh (show (5:Int)≠1 by decide) fn) (by decide)
 ·rw[if_neg (by decide)]
  obtain⟨_,⟨e,be,rfl⟩,hn⟩:=(Ag.mono (R':=fun w=>∃(e:GN) (b:Bool),w=.BG [e.av,.bool b]) hn (fun w h=>by rcases Ql g.nodes z with⟨e,_,ee,_⟩|⟨_,ee,_⟩<;>rw[ee]at h<;>exact⟨_,_,h⟩)).IJ
  rcases UC g.edges z with⟨n,fn,en,xn⟩|⟨fn,en,xn⟩<;>rw[en]at he<;>rcases Ql g.nodes fr with⟨nf,ff,ef,xf⟩|⟨ff,ef,xf⟩<;>rw[ef]at hf<;>rcases Ql g.nodes to with⟨nt,ft,et,xt⟩|⟨ft,et,xt⟩<;>rw[et]at ht
  all_goals
   refine Ad rfl rfl ?_
   show vC _ _ [(0,g.av),(1,.agg [.int .i64 6,.int .i64 z,.int .i64 fr,.int .i64 to,.str nm,.int .i64 v.k,.int .i64 v.n,.int .i64 v.d,.str v.s,.sl v.nn v.l])] _ _
   (conv=>whnf);repeat' (first|((first|refine Aa hck ?_|refine Aa hn ?_|refine Aa he ?_|refine Aa hf ?_|refine Aa ht ?_|refine Aa hpe ?_);rintro _ rfl;conv=>whnf)|refine kA ?_;conv=>whnf|(apply Br.mk<;>intro hc<;>first|exact hc.elim|conv=>whnf)|refine kB ?_)
   all_goals first
     |exact DF.no (no6 rfl xn) (by decide)
     |exact DF.no (ArT rfl xn (fun h=>xf h.1)) (by decide)
     |exact DF.no (ArT rfl xn (fun h=>xt h.2)) (by decide)
     |exact DF.yes (h:=⟨g.nn,g.nodes,true,_,g.BF,_⟩) (Avo rfl xn ⟨xf,xt⟩ (by omega)) rfl (Vl hg (Aep c2 c3 c4 c5) (OE Ak (by omega)) (fun x hx=>Bq Ak hx) hI8)
     |(exfalso;omega)
 ·rw[if_neg (by decide)]
  obtain⟨_,⟨e,be,rfl⟩,hn⟩:=(Ag.mono (R':=fun w=>∃(e:GN) (b:Bool),w=.BG [e.av,.bool b]) hn (fun w h=>by rcases Ql g.nodes z with⟨e,_,ee,_⟩|⟨_,ee,_⟩<;>rw[ee]at h<;>exact⟨_,_,h⟩)).IJ
  rcases UC g.edges z with⟨n,fn,en,xn⟩|⟨fn,en,xn⟩<;>rw[en]at he
  ·refine Ad rfl rfl ?_
   show vC _ _ [(0,g.av),(1,.agg [.int .i64 7,.int .i64 z,.int .i64 fr,.int .i64 to,.str nm,.int .i64 v.k,.int .i64 v.n,.int .i64 v.d,.str v.s,.sl v.nn v.l])] _ _
   (conv=>whnf);repeat' (first|((first|refine Aa hck ?_|refine Aa hn ?_|refine Aa he ?_);rintro _ rfl;conv=>whnf)|(refine Aa (Alg hg hE ha fn) ?_;rintro _ ⟨h,rfl,q1,q2⟩;conv=>whnf)|refine kA ?_;conv=>whnf|(apply Br.mk<;>intro hc<;>first|exact hc.elim|conv=>whnf)|refine kB ?_)
   all_goals first|exact⟨h,rfl,q1,q2⟩
  ·refine Ad rfl rfl ?_
   show vC _ _ [(0,g.av),(1,.agg [.int .i64 7,.int .i64 z,.int .i64 fr,.int .i64 to,.str nm,.int .i64 v.k,.int .i64 v.n,.int .i64 v.d,.str v.s,.sl v.nn v.l])] _ _
   (conv=>whnf);repeat' (first|((first|refine Aa hck ?_|refine Aa hn ?_|refine Aa he ?_);rintro _ rfl;conv=>whnf)|refine kA ?_;conv=>whnf|(apply Br.mk<;>intro hc<;>first|exact hc.elim|conv=>whnf)|refine kB ?_)
   all_goals first|exact DF.no (ArU (show (7:Int)≠6 by decide) fn) (by decide)
 ·rw[if_neg (by decide)]
  obtain⟨_,⟨e,be,rfl⟩,hn⟩:=(Ag.mono (R':=fun w=>∃(e:GN) (b:Bool),w=.BG [e.av,.bool b]) hn (fun w h=>by rcases Ql g.nodes z with⟨e,_,ee,_⟩|⟨_,ee,_⟩<;>rw[ee]at h<;>exact⟨_,_,h⟩)).IJ
  rcases UC g.edges z with⟨n,fn,en,xn⟩|⟨fn,en,xn⟩<;>rw[en]at he
  ·refine Ad rfl rfl ?_
   show vC _ _ [(0,g.av),(1,.agg [.int .i64 8,.int .i64 z,.int .i64 fr,.int .i64 to,.str nm,.int .i64 v.k,.int .i64 v.n,.int .i64 v.d,.str v.s,.sl v.nn v.l])] _ _
   (conv=>whnf);repeat' (first|((first|refine Aa hck ?_|refine Aa hn ?_|refine Aa he ?_);rintro _ rfl;conv=>whnf)|(refine Aa (Alf hg hE ha hx hid c5 c6 fn) ?_;rintro _ ⟨h,rfl,q1,q2⟩;conv=>whnf)|refine kA ?_;conv=>whnf|(apply Br.mk<;>intro hc<;>first|exact hc.elim|conv=>whnf)|refine kB ?_)
   all_goals first|exact⟨h,rfl,q1,q2⟩
  ·refine Ad rfl rfl ?_
   show vC _ _ [(0,g.av),(1,.agg [.int .i64 8,.int .i64 z,.int .i64 fr,.int .i64 to,.str nm,.int .i64 v.k,.int .i64 v.n,.int .i64 v.d,.str v.s,.sl v.nn v.l])] _ _
   (conv=>whnf);repeat' (first|((first|refine Aa hck ?_|refine Aa hn ?_|refine Aa he ?_);rintro _ rfl;conv=>whnf)|refine kA ?_;conv=>whnf|(apply Br.mk<;>intro hc<;>first|exact hc.elim|conv=>whnf)|refine kB ?_)
   all_goals first|exact DF.no (ArU (show (8:Int)≠6 by decide) fn) (by decide)
end AI
end Go.Proofs.YthnehejdkajjhaaGreatDoor
