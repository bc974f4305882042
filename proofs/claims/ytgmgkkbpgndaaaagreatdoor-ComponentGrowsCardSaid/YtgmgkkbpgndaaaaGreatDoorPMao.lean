/- The reference: a change of an edge, a step, exactly. change.Apply. The reference's Apply and ApplyAll are the program's, but for flags. A check does not look at flags: plain. An edge added; graphs alike but for flags. Plain. The worked example of the component laws. The law ComponentJoins, about the evaluator. What the component laws share. -/
import Derived.Test.YtgmgkkbpgndaaaaGreatDoorPMan
import Derived.Test.YtgmgkkbpgndaaaaGreatDoorPRcA
import Derived.Test.YtgmgkkbpgndaaaaGreatDoorPMah
import Derived.Test.YtgmgkkbpgndaaaaGreatDoorPMam
import Derived.Test.YtgmgkkbpgndaaaaGreatDoorPMag
import Derived.Test.YtgmgkkbpgndaaaaGreatDoorPGrCode
import Derived.Test.YtgmgkkbpgndaaaaGreatDoorPVa
import Derived.Test.YtgmgkkbpgndaaaaGreatDoorPMaf
import Derived.Test.YtgmgkkbpgndaaaaGreatDoorPMai
set_option linter.unusedVariables false
set_option maxRecDepth 4000
namespace Go.Proofs.YtgmgkkbpgndaaaaGreatDoor
namespace AI
section
variable {g:GG} {n:GE} {z fr to:Int} {nm:List UInt8} {v:GV}
set_option maxHeartbeats 2000000 in
theorem AdK (hg:g.ok) (hN:g.edges.length≤2900) (ha:FY g) (hx:QS g) (hz:KI z) (hnm:Ln nm) (hv:v.ok) (hf:g.edges.find? (fun n=>decide (n.id=z))=some n):
 Af (Ad tab) 70 [g.av,(⟨8,z,fr,to,nm,v⟩:GC).av,n.av] (CX (Bz g ⟨8,z,fr,to,nm,v⟩)):=by
 obtain⟨hm,hid⟩:=Dx hf
 have hid:=of_decide_eq_true hid
 have hn:=ha.aE n hm
 have hno:=hg.2.2.2.2.2.1 n hm
 have hlP:=hn.lP
 have hG:Bz g ⟨8,z,fr,to,nm,v⟩=if isNull v then(0,{g with edges:=AY BU GE.id {n with props:=Cj Op.bytesLess GP.key nm n.props} g.edges})else if(∃ p∈n.props,GP.key p=nm)∨n.props.length<16 then(0,{g with edges:=AY BU GE.id {n with pn:=true,props:=AY Op.bytesLess GP.key ⟨nm,v⟩ n.props} g.edges})else(20,g):=by
  unfold Bz;dsimp only;rw[if_neg (by decide),hf];rfl
 rw[hG]
 have hz1:1≤n.id∧n.id≤1000000:=by unfold KI at hz;omega
 by_cases hc1:isNull v
 ·rw[if_pos hc1]
  obtain⟨_,⟨b,hb,rfl⟩,hw⟩:=(V3 (P:=n.props) (nn:=n.pn) (key:=nm) (by omega) hn.iP hv hc1).He
  have hle:(Cj Op.bytesLess GP.key nm n.props).length≤16:=Nat.le_trans (Em Ah) hlP
  rw[decide_eq_true hle]at hw
  have hpn:=Abw (g:=g) (n:=⟨n.id,n.fr,n.to,n.ty,b,Cj Op.bytesLess GP.key nm n.props⟩) hg (by omega) ha.iE hz1.1 hz1.2
  refine Ac rfl rfl ?_
  show vC _ _ [(0,g.av),(1,.agg [.int .i64 8,.int .i64 z,.int .i64 fr,.int .i64 to,.str nm,.int .i64 v.k,.int .i64 v.n,.int .i64 v.d,.str v.s,.sl v.nn v.l]),(2,n.av)] _ _
  (conv=>whnf);repeat' (first|((first|refine Aa hw ?_|refine Aa hpn ?_);rintro _ rfl;conv=>whnf)|(refine kA ?_;conv=>whnf)|(refine Br.mk (fun hc=>?_) fun hc=>?_<;>first|exact hc.elim|conv=>whnf)|(refine kB ?_))
  all_goals first
   |exact V4 (m:=⟨n.id,n.fr,n.to,n.ty,b,Cj Op.bytesLess GP.key nm n.props⟩) hg hN hx ⟨n,hm,rfl⟩ (UO (x:=⟨nm,v⟩) hno ⟨hnm,hv⟩ (LD (by omega)) hb (fun y hy=>.inr (BX hy))) rfl rfl
 ·rw[if_neg hc1]
  have hw:=V5 (P:=n.props) (nn:=n.pn) (key:=nm) (by omega) hn.iP hv hc1
  have h16:=Afc (key:=nm) (v:=v) hlP
  by_cases h5:(∃ p∈n.props,GP.key p=nm)∨n.props.length<16
  ·rw[if_pos h5]
   rw[decide_eq_true (h16.2 h5)]at hw
   have hpn:=Abw (g:=g) (n:=⟨n.id,n.fr,n.to,n.ty,true,AY Op.bytesLess GP.key ⟨nm,v⟩ n.props⟩) hg (by omega) ha.iE hz1.1 hz1.2
   refine Ac rfl rfl ?_
   show vC _ _ [(0,g.av),(1,.agg [.int .i64 8,.int .i64 z,.int .i64 fr,.int .i64 to,.str nm,.int .i64 v.k,.int .i64 v.n,.int .i64 v.d,.str v.s,.sl v.nn v.l]),(2,n.av)] _ _
   (conv=>whnf);repeat' (first|((first|refine Aa hw ?_|refine Aa hpn ?_);rintro _ rfl;conv=>whnf)|(refine kA ?_;conv=>whnf)|(refine Br.mk (fun hc=>?_) fun hc=>?_<;>first|exact hc.elim|conv=>whnf)|(refine kB ?_))
   all_goals first
     |exact V4 (m:=⟨n.id,n.fr,n.to,n.ty,true,AY Op.bytesLess GP.key ⟨nm,v⟩ n.props⟩) hg hN hx ⟨n,hm,rfl⟩ (UO (x:=⟨nm,v⟩) hno ⟨hnm,hv⟩ (LG (by omega)) (fun h=>Bool.noConfusion h) (fun y hy=>Bc Ah hy)) rfl rfl
  ·rw[if_neg h5]
   rw[decide_eq_false (fun h=>h5 (h16.1 h))]at hw
   refine Ac rfl rfl ?_
   show vC _ _ [(0,g.av),(1,.agg [.int .i64 8,.int .i64 z,.int .i64 fr,.int .i64 to,.str nm,.int .i64 v.k,.int .i64 v.n,.int .i64 v.d,.str v.s,.sl v.nn v.l]),(2,n.av)] _ _
   (conv=>whnf);repeat' (first|(refine Aa hw ?_;rintro _ rfl;conv=>whnf)|(refine kA ?_;conv=>whnf)|(refine Br.mk (fun hc=>?_) fun hc=>?_<;>first|exact hc.elim|conv=>whnf)|(refine kB ?_))
   all_goals first
     |exact CX.no rfl (by decide)
set_option maxHeartbeats 2000000 in
theorem AdL (hg:g.ok) (hE:g.edges.length≤2900) (ha:FY g) (hf:g.edges.find? (fun n=>decide (n.id=z))=some n):
 Af (Ad tab) 70 [g.av,(⟨7,z,fr,to,nm,v⟩:GC).av,n.av] (CX (Bz g ⟨7,z,fr,to,nm,v⟩)):=by
 have hG:Bz g ⟨7,z,fr,to,nm,v⟩=(0,{g with edges:=Cj BU GE.id z g.edges}):=by
  unfold Bz;dsimp only;rw[if_neg (by decide),hf];rfl
 rw[hG,KJ Aj ha.iE]
 refine Ac rfl rfl ?_
 show vC _ _ [(0,g.av),(1,.agg [.int .i64 7,.int .i64 z,.int .i64 fr,.int .i64 to,.str nm,.int .i64 v.k,.int .i64 v.n,.int .i64 v.d,.str v.s,.sl v.nn v.l]),(2,n.av)] _ _
 (conv=>whnf);repeat' (first  |(refine kA ?_;conv=>whnf)|(refine Br.mk (fun hc=>?_) fun hc=>?_<;>first|exact hc.elim|conv=>whnf)|(refine kB ?_))
 refine Ak (fun m env s=>∃(i c' go k:Nat) (f:Bool) (l:List GE),m=g.edges.length-i∧i≤g.edges.length∧k=l.length∧l.length≤i∧(f=false→l=[])∧l=(g.edges.take i).filter (fun a=>decide (GE.id a≠z))∧env=[(3,.ref 0 0 0 0),(4,.ref 1 1 0 0),(6,.ref 3 3 0 0),(10,.own 4 go 0 k),(11,.int .i64 i)]∧s=⟨[.arr 0 4 true true [g.av],.arr 1 10 true true [(⟨7,z,fr,to,nm,v⟩:GC).av],.arr 2 5 true true [n.av],.arr 3 4 true true [.agg [.sl false [],.sl false [],.int .i64 0,.int .i64 0]],.arr go 5 f true (vs GE.av l)],c'⟩) ?_ _ _ _ ⟨0,_,_,0,_,[],rfl,by omega,rfl,by simp,fun _=>rfl,by simp,rfl,rfl⟩
 rintro _ _ _ ⟨i,c',go,k,f,l,rfl,hi,hk,hl,hff,hx,rfl,rfl⟩
 refine⟨rfl,?_⟩
 subst hk
 by_cases hlt:i<g.edges.length
 ·have hs:=List.take_succ_eq_append_getElem hlt
  (conv=>whnf);repeat' (first|(refine IB (x:=g.edges[i]) cellsE rfl (by omega) ?_;conv=>whnf)|(refine kA ?_;conv=>whnf)|(refine Br.mk (fun hc=>?_) fun hc=>?_<;>first|exact hc.elim|conv=>whnf)|(refine kB ?_))
  all_goals first
   |exact again.mk ⟨_,by omega,i+1,_,_,_,_,l++[g.edges[i]],rfl,by omega,by simp,by simp;omega,fun h=>Bool.noConfusion h,by rw[hs,List.filter_append,←hx,List.filter_cons_of_pos (by simp;omega),List.filter_nil],rfl,rfl⟩
   |exact again.mk ⟨_,by omega,i+1,_,_,_,_,l,rfl,by omega,rfl,by omega,hff,by rw[hs,List.filter_append,←hx,List.filter_cons_of_neg (by simp;omega),List.filter_nil,List.append_nil],rfl,rfl⟩
 ·rw[show i=g.edges.length by omega,List.take_length]at hx
  (conv=>whnf);repeat' (first  |(refine kA ?_;conv=>whnf)|(refine Br.mk (fun hc=>?_) fun hc=>?_<;>first|exact hc.elim|conv=>whnf)|(refine kB ?_))
  refine Au (x:=GG.av ⟨g.nn,g.nodes,f,l,g.Bl,g.Bq⟩) ?_ ?_
  ·exact Abx (m:=999978) (a:=.sl g.nn (vs GN.av g.nodes)) (b:=.own 4 go 0 l.length) (N:=g.Bl) (E:=g.Bq) (fun _=>rfl) (fun _=>Aby rfl rfl)
  (conv=>whnf);repeat' (first  |(refine kA ?_;conv=>whnf)|(refine Br.mk (fun hc=>?_) fun hc=>?_<;>first|exact hc.elim|conv=>whnf)|(refine kB ?_))
  subst hx
  obtain⟨g1,g2,g3,g4,g5,g6,g7,g8⟩:=hg
  exact CX.yes (h:=⟨g.nn,g.nodes,f,_,g.Bl,g.Bq⟩) rfl rfl ⟨g1,g2,g3,by unfold Ln;dsimp only;omega,hff,fun x hx=>g6 x ((List.mem_filter.1 hx).1),g7,g8⟩
end
theorem V6 {α:Type} {p:α→Bool} {l:List α} (h:l.find? p=none):¬∃n∈l,p n=true:=by
 rw[List.find?_eq_none]at h
 rintro⟨n,hn,e⟩
 exact h n hn e
theorem L6 (l:List GN) (z:Int):(∃ n,l.find? (fun n=>decide (n.id=z))=some n∧TG l z=.Cc [n.av,.bool true]∧∃n∈l,n.id=z)∨(l.find? (fun n=>decide (n.id=z))=none∧TG l z=.Cc [N0.av,.bool false]∧¬∃n∈l,n.id=z):=by
 unfold TG isN
 cases h:l.find? (fun n=>decide (n.id=z))with
 |none=>exact .inr ⟨rfl,rfl,fun⟨n,hn,e⟩=>V6 h ⟨n,hn,decide_eq_true e⟩⟩
 |some n=>exact .inl ⟨n,rfl,rfl,n,(Dx h).1,of_decide_eq_true (Dx h).2⟩
theorem Pj (l:List GE) (z:Int):(∃ n,l.find? (fun n=>decide (n.id=z))=some n∧TI l z=.Cc [n.av,.bool true]∧∃n∈l,n.id=z)∨(l.find? (fun n=>decide (n.id=z))=none∧TI l z=.Cc [E0.av,.bool false]∧¬∃n∈l,n.id=z):=by
 unfold TI isE
 cases h:l.find? (fun n=>decide (n.id=z))with
 |none=>exact .inr ⟨rfl,rfl,fun⟨n,hn,e⟩=>V6 h ⟨n,hn,decide_eq_true e⟩⟩
 |some n=>exact .inl ⟨n,rfl,rfl,n,(Dx h).1,of_decide_eq_true (Dx h).2⟩
theorem no1 {g:GG} {c:GC} (h:c.op=1) (hx:∃n∈g.nodes,n.id=c.id):AZ g c=(7,g):=by unfold AZ;rw[if_pos h,if_pos hx]
theorem Ajo {g:GG} {c:GC} (h:c.op=1) (hx:¬∃n∈g.nodes,n.id=c.id) (hl:¬g.nodes.length<2000):AZ g c=(20,g):=by unfold AZ;rw[if_pos h,if_neg hx,if_neg hl]
theorem Ajp {g:GG} {c:GC} (h:c.op=1) (hx:¬∃n∈g.nodes,n.id=c.id) (hl:g.nodes.length<2000):AZ g c=(0,{g with nn:=true,nodes:=AY BU GN.id ⟨c.id,false,[],false,[]⟩ g.nodes,Bl:=if c.id+1>g.Bl then c.id+1 else g.Bl}):=by unfold AZ;rw[if_pos h,if_neg hx,if_pos hl]
theorem AdM {g:GG} {c:GC} (h:c.op≠1) (hx:g.nodes.find? (fun n=>decide (n.id=c.id))=none):AZ g c=(10,g):=by unfold AZ;rw[if_neg h,hx]
theorem no6 {g:GG} {c:GC} (h:c.op=6) (hx:∃n∈g.edges,n.id=c.id):Bz g c=(7,g):=by unfold Bz;rw[if_pos h,if_pos hx]
theorem Ahu {g:GG} {c:GC} (h:c.op=6) (hx:¬∃n∈g.edges,n.id=c.id) (hn:¬((∃ n∈g.nodes,n.id=c.fr)∧(∃ n∈g.nodes,n.id=c.to))):Bz g c=(10,g):=by unfold Bz;rw[if_pos h,if_neg hx,if_neg hn]
theorem Ajq {g:GG} {c:GC} (h:c.op=6) (hx:¬∃n∈g.edges,n.id=c.id) (hn:(∃ n∈g.nodes,n.id=c.fr)∧(∃ n∈g.nodes,n.id=c.to)) (hl:g.edges.length<4000):Bz g c=(0,{g with en:=true,edges:=AY BU GE.id ⟨c.id,c.fr,c.to,c.name,false,[]⟩ g.edges,Bq:=if c.id+1>g.Bq then c.id+1 else g.Bq}):=by unfold Bz;rw[if_pos h,if_neg hx,if_pos hn,if_pos hl]
theorem Ahv {g:GG} {c:GC} (h:c.op≠6) (hx:g.edges.find? (fun n=>decide (n.id=c.id))=none):Bz g c=(11,g):=by unfold Bz;rw[if_neg h,hx]
set_option maxHeartbeats 8000000 in
theorem Ahw {g:GG} {c:GC} (hg:g.ok) (hN:g.nodes.length≤2900) (hE:g.edges.length≤2900) (ha:FY g) (hx:QS g) (hc:c.ok):
 Af (Ad tab) 46 [g.av,c.av] (CX (stepG g c)):=by
 have hck:=AfP hc
 by_cases h0:Iq c=0
 rotate_left
 ·have hG:stepG g c=(Iq c,g):=by unfold stepG;rw[if_pos h0]
  rw[hG]
  generalize Iq c=e at hck h0 ⊢
  refine Ac rfl rfl ?_
  (conv=>whnf);repeat' (first|(refine Aa hck ?_;rintro _ rfl;conv=>whnf)|(refine kA ?_;conv=>whnf)|(refine Br.mk (fun hc=>?_) fun hc=>?_<;>first|exact hc.elim|conv=>whnf)|(refine kB ?_))
  all_goals first|exact CX.no rfl h0|(exfalso;omega)
 rw[h0]at hck
 obtain⟨hop,hid,_,h6,_⟩:=Abz h0
 obtain⟨c1,c2,c3,c4,c5,c6⟩:=hc
 have hG:stepG g c=if c.op≤5 then AZ g c else Bz g c:=by unfold stepG;rw[if_neg (fun k=>k h0)]
 rw[hG]
 clear hG h0
 have hn:=Abt (g:=g) (id:=c.id) (by omega)
 have he:=Ahp (g:=g) (id:=c.id) (by omega)
 have hf:=Abt (g:=g) (id:=c.fr) (by omega)
 have ht:=Abt (g:=g) (id:=c.to) (by omega)
 obtain⟨op,z,fr,to,nm,v⟩:=c
 dsimp only at hop hid h6 hn he hf ht c1 c2 c3 c4 c5 c6 ⊢
 have hz1:1≤z∧z≤1000000:=hid
 have hpn:=V7 (g:=g) (n:=⟨z,false,[],false,[]⟩) hg (by omega) ha.iN hz1.1 hz1.2
 have hpe:=Abw (g:=g) (n:=⟨z,fr,to,nm,false,[]⟩) hg (by omega) ha.iE hz1.1 hz1.2
 have hg7:=hg.2.2.2.2.2.2.1
 have hg8:=hg.2.2.2.2.2.2.2
 have hI7:I64 (if z+1>g.Bl then z+1 else g.Bl):=by unfold I64 at *;split<;>omega
 have hI8:I64 (if z+1>g.Bq then z+1 else g.Bq):=by unfold I64 at *;split<;>omega
 have hd:op=1∨op=2∨op=3∨op=4∨op=5∨op=6∨op=7∨op=8:=by omega
 rcases hd with rfl|rfl|rfl|rfl|rfl|rfl|rfl|rfl
 ·rw[if_pos (by decide)]
  obtain⟨_,⟨e,be,rfl⟩,he⟩:=(Af.mono (R':=fun w=>∃(e:GE) (b:Bool),w=.Cc [e.av,.bool b]) he (fun w h=>by rcases Pj g.edges z with⟨e,_,ee,_⟩|⟨_,ee,_⟩<;>rw[ee]at h<;>exact⟨_,_,h⟩)).He
  rcases L6 g.nodes z with⟨n,fn,en,xn⟩|⟨fn,en,xn⟩<;>rw[en]at hn
  ·refine Ac rfl rfl ?_
   show vC _ _ [(0,g.av),(1,.agg [.int .i64 1,.int .i64 z,.int .i64 fr,.int .i64 to,.str nm,.int .i64 v.k,.int .i64 v.n,.int .i64 v.d,.str v.s,.sl v.nn v.l])] _ _
   (conv=>whnf);repeat' (first|((first|refine Aa hck ?_|refine Aa hn ?_|refine Aa he ?_);rintro _ rfl;conv=>whnf)|(refine kA ?_;conv=>whnf)|(refine Br.mk (fun hc=>?_) fun hc=>?_<;>first|exact hc.elim|conv=>whnf)|(refine kB ?_))
   all_goals first|exact CX.no (no1 rfl xn) (by decide)|(exfalso;omega)
  ·refine Ac rfl rfl ?_
   show vC _ _ [(0,g.av),(1,.agg [.int .i64 1,.int .i64 z,.int .i64 fr,.int .i64 to,.str nm,.int .i64 v.k,.int .i64 v.n,.int .i64 v.d,.str v.s,.sl v.nn v.l])] _ _
   (conv=>whnf);repeat' (first|((first|refine Aa hck ?_|refine Aa hn ?_|refine Aa he ?_|refine Aa hpn ?_);rintro _ rfl;conv=>whnf)|(refine kA ?_;conv=>whnf)|(refine Br.mk (fun hc=>?_) fun hc=>?_<;>first|exact hc.elim|conv=>whnf)|(refine kB ?_))
   all_goals first
     |exact CX.no (Ajo rfl xn (by omega)) (by decide)
     |exact CX.yes (h:=⟨true,_,g.en,g.edges,_,g.Bq⟩) (Ajp rfl xn (by omega)) rfl (Qh hg (Zf c2) (KL Aj (by omega)) (fun x hx=>Bc Aj hx) hI7)
     |(exfalso;omega)
 ·rw[if_pos (by decide)]
  obtain⟨_,⟨e,be,rfl⟩,he⟩:=(Af.mono (R':=fun w=>∃(e:GE) (b:Bool),w=.Cc [e.av,.bool b]) he (fun w h=>by rcases Pj g.edges z with⟨e,_,ee,_⟩|⟨_,ee,_⟩<;>rw[ee]at h<;>exact⟨_,_,h⟩)).He
  rcases L6 g.nodes z with⟨n,fn,en,xn⟩|⟨fn,en,xn⟩<;>rw[en]at hn
  ·refine Ac rfl rfl ?_
   show vC _ _ [(0,g.av),(1,.agg [.int .i64 2,.int .i64 z,.int .i64 fr,.int .i64 to,.str nm,.int .i64 v.k,.int .i64 v.n,.int .i64 v.d,.str v.s,.sl v.nn v.l])] _ _
   (conv=>whnf);repeat' (first|((first|refine Aa hck ?_|refine Aa hn ?_|refine Aa he ?_);rintro _ rfl;conv=>whnf)|(refine Aa (AdN hg hN hE ha c5 fn) ?_;rintro _ ⟨h,rfl,q1,q2⟩;conv=>whnf)|(refine kA ?_;conv=>whnf)|(refine Br.mk (fun hc=>?_) fun hc=>?_<;>first|exact hc.elim|conv=>whnf)|(refine kB ?_))
   all_goals first|exact⟨h,rfl,q1,q2⟩
  ·refine Ac rfl rfl ?_
   show vC _ _ [(0,g.av),(1,.agg [.int .i64 2,.int .i64 z,.int .i64 fr,.int .i64 to,.str nm,.int .i64 v.k,.int .i64 v.n,.int .i64 v.d,.str v.s,.sl v.nn v.l])] _ _
   (conv=>whnf);repeat' (first|((first|refine Aa hck ?_|refine Aa hn ?_|refine Aa he ?_);rintro _ rfl;conv=>whnf)|(refine kA ?_;conv=>whnf)|(refine Br.mk (fun hc=>?_) fun hc=>?_<;>first|exact hc.elim|conv=>whnf)|(refine kB ?_))
   all_goals first|exact CX.no (AdM (show (2:Int)≠1 by decide) fn) (by decide)
 ·rw[if_pos (by decide)]
  obtain⟨_,⟨e,be,rfl⟩,he⟩:=(Af.mono (R':=fun w=>∃(e:GE) (b:Bool),w=.Cc [e.av,.bool b]) he (fun w h=>by rcases Pj g.edges z with⟨e,_,ee,_⟩|⟨_,ee,_⟩<;>rw[ee]at h<;>exact⟨_,_,h⟩)).He
  rcases L6 g.nodes z with⟨n,fn,en,xn⟩|⟨fn,en,xn⟩<;>rw[en]at hn
  ·refine Ac rfl rfl ?_
   show vC _ _ [(0,g.av),(1,.agg [.int .i64 3,.int .i64 z,.int .i64 fr,.int .i64 to,.str nm,.int .i64 v.k,.int .i64 v.n,.int .i64 v.d,.str v.s,.sl v.nn v.l])] _ _
   (conv=>whnf);repeat' (first|((first|refine Aa hck ?_|refine Aa hn ?_|refine Aa he ?_);rintro _ rfl;conv=>whnf)|(refine Aa (AdO hg hN ha hx hid c5 fn) ?_;rintro _ ⟨h,rfl,q1,q2⟩;conv=>whnf)|(refine kA ?_;conv=>whnf)|(refine Br.mk (fun hc=>?_) fun hc=>?_<;>first|exact hc.elim|conv=>whnf)|(refine kB ?_))
   all_goals first|exact⟨h,rfl,q1,q2⟩
  ·refine Ac rfl rfl ?_
   show vC _ _ [(0,g.av),(1,.agg [.int .i64 3,.int .i64 z,.int .i64 fr,.int .i64 to,.str nm,.int .i64 v.k,.int .i64 v.n,.int .i64 v.d,.str v.s,.sl v.nn v.l])] _ _
   (conv=>whnf);repeat' (first|((first|refine Aa hck ?_|refine Aa hn ?_|refine Aa he ?_);rintro _ rfl;conv=>whnf)|(refine kA ?_;conv=>whnf)|(refine Br.mk (fun hc=>?_) fun hc=>?_<;>first|exact hc.elim|conv=>whnf)|(refine kB ?_))
   all_goals first|exact CX.no (AdM (show (3:Int)≠1 by decide) fn) (by decide)
 ·rw[if_pos (by decide)]
  obtain⟨_,⟨e,be,rfl⟩,he⟩:=(Af.mono (R':=fun w=>∃(e:GE) (b:Bool),w=.Cc [e.av,.bool b]) he (fun w h=>by rcases Pj g.edges z with⟨e,_,ee,_⟩|⟨_,ee,_⟩<;>rw[ee]at h<;>exact⟨_,_,h⟩)).He
  rcases L6 g.nodes z with⟨n,fn,en,xn⟩|⟨fn,en,xn⟩<;>rw[en]at hn
  ·refine Ac rfl rfl ?_
   show vC _ _ [(0,g.av),(1,.agg [.int .i64 4,.int .i64 z,.int .i64 fr,.int .i64 to,.str nm,.int .i64 v.k,.int .i64 v.n,.int .i64 v.d,.str v.s,.sl v.nn v.l])] _ _
   (conv=>whnf);repeat' (first|((first|refine Aa hck ?_|refine Aa hn ?_|refine Aa he ?_);rintro _ rfl;conv=>whnf)|(refine Aa (AdP hg hN ha hx hid c5 fn) ?_;rintro _ ⟨h,rfl,q1,q2⟩;conv=>whnf)|(refine kA ?_;conv=>whnf)|(refine Br.mk (fun hc=>?_) fun hc=>?_<;>first|exact hc.elim|conv=>whnf)|(refine kB ?_))
   all_goals first|exact⟨h,rfl,q1,q2⟩
  ·refine Ac rfl rfl ?_
   show vC _ _ [(0,g.av),(1,.agg [.int .i64 4,.int .i64 z,.int .i64 fr,.int .i64 to,.str nm,.int .i64 v.k,.int .i64 v.n,.int .i64 v.d,.str v.s,.sl v.nn v.l])] _ _
   (conv=>whnf);repeat' (first|((first|refine Aa hck ?_|refine Aa hn ?_|refine Aa he ?_);rintro _ rfl;conv=>whnf)|(refine kA ?_;conv=>whnf)|(refine Br.mk (fun hc=>?_) fun hc=>?_<;>first|exact hc.elim|conv=>whnf)|(refine kB ?_))
   all_goals first|exact CX.no (AdM (show (4:Int)≠1 by decide) fn) (by decide)
 ·rw[if_pos (by decide)]
  obtain⟨_,⟨e,be,rfl⟩,he⟩:=(Af.mono (R':=fun w=>∃(e:GE) (b:Bool),w=.Cc [e.av,.bool b]) he (fun w h=>by rcases Pj g.edges z with⟨e,_,ee,_⟩|⟨_,ee,_⟩<;>rw[ee]at h<;>exact⟨_,_,h⟩)).He
  rcases L6 g.nodes z with⟨n,fn,en,xn⟩|⟨fn,en,xn⟩<;>rw[en]at hn
  ·refine Ac rfl rfl ?_
   show vC _ _ [(0,g.av),(1,.agg [.int .i64 5,.int .i64 z,.int .i64 fr,.int .i64 to,.str nm,.int .i64 v.k,.int .i64 v.n,.int .i64 v.d,.str v.s,.sl v.nn v.l])] _ _
   (conv=>whnf);repeat' (first|((first|refine Aa hck ?_|refine Aa hn ?_|refine Aa he ?_);rintro _ rfl;conv=>whnf)|(refine Aa (AdQ hg hN ha hx hid c5 c6 fn) ?_;rintro _ ⟨h,rfl,q1,q2⟩;conv=>whnf)|(refine kA ?_;conv=>whnf)|(refine Br.mk (fun hc=>?_) fun hc=>?_<;>first|exact hc.elim|conv=>whnf)|(refine kB ?_))
   all_goals first|exact⟨h,rfl,q1,q2⟩
  ·refine Ac rfl rfl ?_
   show vC _ _ [(0,g.av),(1,.agg [.int .i64 5,.int .i64 z,.int .i64 fr,.int .i64 to,.str nm,.int .i64 v.k,.int .i64 v.n,.int .i64 v.d,.str v.s,.sl v.nn v.l])] _ _
   (conv=>whnf);repeat' (first|((first|refine Aa hck ?_|refine Aa hn ?_|refine Aa he ?_);rintro _ rfl;conv=>whnf)|(refine kA ?_;conv=>whnf)|(refine Br.mk (fun hc=>?_) fun hc=>?_<;>first|exact hc.elim|conv=>whnf)|(refine kB ?_))
   all_goals first|exact CX.no (AdM (show (5:Int)≠1 by decide) fn) (by decide)
 ·rw[if_neg (by decide)]
  obtain⟨_,⟨e,be,rfl⟩,hn⟩:=(Af.mono (R':=fun w=>∃(e:GN) (b:Bool),w=.Cc [e.av,.bool b]) hn (fun w h=>by rcases L6 g.nodes z with⟨e,_,ee,_⟩|⟨_,ee,_⟩<;>rw[ee]at h<;>exact⟨_,_,h⟩)).He
  rcases Pj g.edges z with⟨n,fn,en,xn⟩|⟨fn,en,xn⟩<;>rw[en]at he<;>rcases L6 g.nodes fr with⟨nf,ff,ef,xf⟩|⟨ff,ef,xf⟩<;>rw[ef]at hf<;>rcases L6 g.nodes to with⟨nt,ft,et,xt⟩|⟨ft,et,xt⟩<;>rw[et]at ht
  all_goals
   refine Ac rfl rfl ?_
   show vC _ _ [(0,g.av),(1,.agg [.int .i64 6,.int .i64 z,.int .i64 fr,.int .i64 to,.str nm,.int .i64 v.k,.int .i64 v.n,.int .i64 v.d,.str v.s,.sl v.nn v.l])] _ _
   (conv=>whnf);repeat' (first|((first|refine Aa hck ?_|refine Aa hn ?_|refine Aa he ?_|refine Aa hf ?_|refine Aa ht ?_|refine Aa hpe ?_);rintro _ rfl;conv=>whnf)|(refine kA ?_;conv=>whnf)|(refine Br.mk (fun hc=>?_) fun hc=>?_<;>first|exact hc.elim|conv=>whnf)|(refine kB ?_))
   all_goals first
     |exact CX.no (no6 rfl xn) (by decide)
     |exact CX.no (Ahu rfl xn (fun h=>xf h.1)) (by decide)
     |exact CX.no (Ahu rfl xn (fun h=>xt h.2)) (by decide)
     |exact CX.yes (h:=⟨g.nn,g.nodes,true,_,g.Bl,_⟩) (Ajq rfl xn ⟨xf,xt⟩ (by omega)) rfl (Qi hg (Zg c2 c3 c4 c5) (KL Aj (by omega)) (fun x hx=>Bc Aj hx) hI8)
     |(exfalso;omega)
 ·rw[if_neg (by decide)]
  obtain⟨_,⟨e,be,rfl⟩,hn⟩:=(Af.mono (R':=fun w=>∃(e:GN) (b:Bool),w=.Cc [e.av,.bool b]) hn (fun w h=>by rcases L6 g.nodes z with⟨e,_,ee,_⟩|⟨_,ee,_⟩<;>rw[ee]at h<;>exact⟨_,_,h⟩)).He
  rcases Pj g.edges z with⟨n,fn,en,xn⟩|⟨fn,en,xn⟩<;>rw[en]at he
  ·refine Ac rfl rfl ?_
   show vC _ _ [(0,g.av),(1,.agg [.int .i64 7,.int .i64 z,.int .i64 fr,.int .i64 to,.str nm,.int .i64 v.k,.int .i64 v.n,.int .i64 v.d,.str v.s,.sl v.nn v.l])] _ _
   (conv=>whnf);repeat' (first|((first|refine Aa hck ?_|refine Aa hn ?_|refine Aa he ?_);rintro _ rfl;conv=>whnf)|(refine Aa (AdL hg hE ha fn) ?_;rintro _ ⟨h,rfl,q1,q2⟩;conv=>whnf)|(refine kA ?_;conv=>whnf)|(refine Br.mk (fun hc=>?_) fun hc=>?_<;>first|exact hc.elim|conv=>whnf)|(refine kB ?_))
   all_goals first|exact⟨h,rfl,q1,q2⟩
  ·refine Ac rfl rfl ?_
   show vC _ _ [(0,g.av),(1,.agg [.int .i64 7,.int .i64 z,.int .i64 fr,.int .i64 to,.str nm,.int .i64 v.k,.int .i64 v.n,.int .i64 v.d,.str v.s,.sl v.nn v.l])] _ _
   (conv=>whnf);repeat' (first|((first|refine Aa hck ?_|refine Aa hn ?_|refine Aa he ?_);rintro _ rfl;conv=>whnf)|(refine kA ?_;conv=>whnf)|(refine Br.mk (fun hc=>?_) fun hc=>?_<;>first|exact hc.elim|conv=>whnf)|(refine kB ?_))
   all_goals first|exact CX.no (Ahv (show (7:Int)≠6 by decide) fn) (by decide)
 ·rw[if_neg (by decide)]
  obtain⟨_,⟨e,be,rfl⟩,hn⟩:=(Af.mono (R':=fun w=>∃(e:GN) (b:Bool),w=.Cc [e.av,.bool b]) hn (fun w h=>by rcases L6 g.nodes z with⟨e,_,ee,_⟩|⟨_,ee,_⟩<;>rw[ee]at h<;>exact⟨_,_,h⟩)).He
  rcases Pj g.edges z with⟨n,fn,en,xn⟩|⟨fn,en,xn⟩<;>rw[en]at he
  ·refine Ac rfl rfl ?_
   show vC _ _ [(0,g.av),(1,.agg [.int .i64 8,.int .i64 z,.int .i64 fr,.int .i64 to,.str nm,.int .i64 v.k,.int .i64 v.n,.int .i64 v.d,.str v.s,.sl v.nn v.l])] _ _
   (conv=>whnf);repeat' (first|((first|refine Aa hck ?_|refine Aa hn ?_|refine Aa he ?_);rintro _ rfl;conv=>whnf)|(refine Aa (AdK hg hE ha hx hid c5 c6 fn) ?_;rintro _ ⟨h,rfl,q1,q2⟩;conv=>whnf)|(refine kA ?_;conv=>whnf)|(refine Br.mk (fun hc=>?_) fun hc=>?_<;>first|exact hc.elim|conv=>whnf)|(refine kB ?_))
   all_goals first|exact⟨h,rfl,q1,q2⟩
  ·refine Ac rfl rfl ?_
   show vC _ _ [(0,g.av),(1,.agg [.int .i64 8,.int .i64 z,.int .i64 fr,.int .i64 to,.str nm,.int .i64 v.k,.int .i64 v.n,.int .i64 v.d,.str v.s,.sl v.nn v.l])] _ _
   (conv=>whnf);repeat' (first|((first|refine Aa hck ?_|refine Aa hn ?_|refine Aa he ?_);rintro _ rfl;conv=>whnf)|(refine kA ?_;conv=>whnf)|(refine Br.mk (fun hc=>?_) fun hc=>?_<;>first|exact hc.elim|conv=>whnf)|(refine kB ?_))
   all_goals first|exact CX.no (Ahv (show (8:Int)≠6 by decide) fn) (by decide)
noncomputable def BK (g:GG) (c:GC):GG×Int:=if Ba g≠0 then(FD,Ba g)else if(stepG g c).1≠0 then(FD,(stepG g c).1)else((stepG g c).2,0)
theorem TT {g:GG} {c:GC}:(Dw g [c]).1=(BK g c).1∧(Dw g [c]).2.2=(BK g c).2:=by
 unfold Dw BK
 by_cases h:Ba g=0
 ·rw[if_neg (fun k=>k h),if_neg (fun k=>k h)]
  unfold VZ
  by_cases h2:(stepG g c).1=0
  ·rw[if_neg (fun k=>k h2),if_neg (fun k=>k h2)]
   exact⟨rfl,rfl⟩
  ·rw[if_pos h2,if_pos h2]
   exact⟨rfl,rfl⟩
 ·rw[if_pos h,if_pos h]
  exact⟨rfl,rfl⟩
set_option maxHeartbeats 4000000 in
theorem AbI {g:GG} {c:GC} (hg:g.ok) (hc:c.ok):Af (Ad tab) 17 [g.av,c.av] (· =.Cc [(BK g c).1.av,.int .i64 (BK g c).2]):=by
 have hp:=Aae (L:=[c]) (nn:=true) hg (by simp) (by simpa using hc)
 rw[TT.1,TT.2]at hp
 generalize (BK g c).1=h at hp ⊢
 generalize (BK g c).2=e at hp ⊢
 generalize (Dw g [c]).2.1=n at hp
 obtain⟨op,z,fr,to,nm,v⟩:=c
 refine Ac rfl rfl ?_
 show vC _ _ [(0,.agg [.sl g.nn (vs GN.av g.nodes),.sl g.en (vs GE.av g.edges),.int .i64 g.Bl,.int .i64 g.Bq]),(1,.agg [.int .i64 op,.int .i64 z,.int .i64 fr,.int .i64 to,.str nm,.int .i64 v.k,.int .i64 v.n,.int .i64 v.d,.str v.s,.sl v.nn v.l])] _ _
 (conv=>whnf);repeat' (first|(refine Aa hp ?_;rintro _ rfl;conv=>whnf)|(refine kA ?_;conv=>whnf)|(refine Br.mk (fun hc=>?_) fun hc=>?_<;>first|exact hc.elim|conv=>whnf)|(refine kB ?_))
 all_goals first|rfl
theorem QS.LY {g:GG} (h:QS g) {n:GN} (hm:∃m∈g.nodes,m.id=n.id):QS {g with nodes:=AY BU GN.id n g.nodes}:=
 ⟨fun x hx=>by
  rcases Bc Aj hx with rfl|hx
  ·obtain⟨m,hm,e⟩:=hm;have:=h.n m hm;rw[e]at this;exact this
  ·exact h.n x hx,h.e⟩
theorem QS.UR {g:GG} (h:QS g) {n:GE} (hm:∃m∈g.edges,m.id=n.id):QS {g with edges:=AY BU GE.id n g.edges}:=
 ⟨h.n,fun x hx=>by
  rcases Bc Aj hx with rfl|hx
  ·obtain⟨m,hm,e⟩:=hm;have:=h.e m hm;rw[e]at this;exact this
  ·exact h.e x hx⟩
theorem max_lt {a b c:Int} (h:a<b):a<(if c>b then c else b):=by split<;>omega
theorem Aca {a b c:Int} (h:a<c):a<(if c>b then c else b):=by split<;>omega
theorem QS.node {g:GG} (h:QS g) {c:GC}:QS (AZ g c).2:=by
 unfold AZ
 split
 ·split
  ·exact h
  split
  ·refine⟨fun x hx=>?_,h.e⟩
   rcases Bc Aj hx with rfl|hx
   ·exact Aca (by show c.id<c.id+1;omega)
   ·exact max_lt (h.n x hx)
  ·exact h
 split
 ·exact h
 rename_i n hf
 obtain⟨hn,hz⟩:=Dx hf
 split
 ·split
  ·exact h
  ·exact⟨fun x hx=>h.n x (BX hx),h.e⟩
 split
 ·split
  ·exact h
  split
  ·exact h.LY ⟨n,hn,rfl⟩
  ·exact h
 split
 ·split
  ·exact h.LY ⟨n,hn,rfl⟩
  ·exact h
 split
 ·exact h.LY ⟨n,hn,rfl⟩
 split
 ·exact h.LY ⟨n,hn,rfl⟩
 ·exact h
theorem QS.edge {g:GG} (h:QS g) {c:GC}:QS (Bz g c).2:=by
 unfold Bz
 split
 ·split
  ·exact h
  split
  ·split
   ·refine⟨h.n,fun x hx=>?_⟩
    rcases Bc Aj hx with rfl|hx
    ·exact Aca (by show c.id<c.id+1;omega)
    ·exact max_lt (h.e x hx)
   ·exact h
  ·exact h
 split
 ·exact h
 rename_i n hf
 obtain⟨hn,hz⟩:=Dx hf
 split
 ·exact⟨h.n,fun x hx=>h.e x (BX hx)⟩
 split
 ·exact h.UR ⟨n,hn,rfl⟩
 split
 ·exact h.UR ⟨n,hn,rfl⟩
 ·exact h
theorem QS.step {g:GG} (h:QS g) {c:GC}:QS (stepG g c).2:=by
 unfold stepG
 split
 ·exact h
 split
 ·exact h.node
 ·exact h.edge
theorem AhS {g:GG} (h:Ba g=0):QS g:=by
 obtain⟨hf,hn,hN,hE⟩:=ER h
 refine⟨fun n hm=>?_,fun n hm=>?_⟩
 ·obtain⟨i,hi,rfl⟩:=List.getElem_of_mem hm
  exact(IZ hi (hN i hi)).2.2.1
 ·obtain⟨i,hi,rfl⟩:=List.getElem_of_mem hm
  exact(I4 hi (hE i hi)).2.2.1
theorem WQ:FD.ok:=⟨by simp[Ln,FD],fun _=>rfl,by simp[FD],by simp[Ln,FD],fun _=>rfl,by simp[FD],by unfold I64 FD;dsimp only;omega,by unfold I64 FD;dsimp only;omega⟩
theorem Agb {g:GG} {c:GC} (hg:g.ok) (hc:c.ok) (hN:g.nodes.length≤2900) (hE:g.edges.length≤2900):Af (Ad tab) 29 [g.av,c.av] (fun w=>∃h:GG,w=.Cc [h.av,.int .i64 (BK g c).2]∧GH h=GH (BK g c).1∧h.ok):=by
 have hck:=Ab4 hg
 by_cases h0:Ba g=0
 ·have hs:=Ahw hg hN hE (QN h0) (AhS h0) hc
  rw[h0]at hck
  refine Ac rfl rfl ?_
  (conv=>whnf);repeat' (first|(refine Aa hck ?_;rintro _ rfl;conv=>whnf)|(refine Aa hs ?_;rintro _ ⟨h,rfl,q1,q2⟩;conv=>whnf)|(refine kA ?_;conv=>whnf)|(refine Br.mk (fun hc=>?_) fun hc=>?_<;>first|exact hc.elim|conv=>whnf)|(refine kB ?_))
  have hG:BK g c=if(stepG g c).1≠0 then(FD,(stepG g c).1)else((stepG g c).2,0):=by unfold BK;rw[if_neg (fun k=>k h0)]
  rw[hG]
  by_cases h1:(stepG g c).1=0
  ·rw[if_neg (fun k=>k h1),h1];exact⟨h,rfl,q1 h1⟩
  ·rw[if_pos h1];exact⟨h,rfl,by rw[q2 h1],by rw[q2 h1];exact WQ⟩
 ·have hG:BK g c=(FD,Ba g):=by unfold BK;rw[if_pos h0]
  rw[hG]
  generalize Ba g=e at hck h0 ⊢
  refine Ac rfl rfl ?_
  (conv=>whnf);repeat' (first|(refine Aa hck ?_;rintro _ rfl;conv=>whnf)|(refine kA ?_;conv=>whnf)|(refine Br.mk (fun hc=>?_) fun hc=>?_<;>first|exact hc.elim|conv=>whnf)|(refine kB ?_))
  all_goals first|exact⟨FD,rfl,rfl,WQ⟩|(exfalso;omega)
theorem AaL {N:List GN} {nx:Int} {i:Nat}:DW (N.map Td) nx i=DW N nx i:=by
 unfold DW
 simp only[List.getElem?_map]
 cases N[i]? with
 |none=>rfl
 |some n=>
  cases N[i-1]? with
  |none=>simp[Td]
  |some k=>simp[Td]
theorem AcJ {N:List GN}:F6 (N.map Td)=F6 N:=by unfold F6;rw[List.map_map];rfl
theorem AaM {N:List GN} {E:List GE} {nx:Int} {i:Nat}:DZ (N.map Td) (E.map WS) nx i=DZ N E nx i:=by
 unfold DZ
 simp only[List.getElem?_map,AcJ]
 cases E[i]? with
 |none=>rfl
 |some n=>
  cases E[i-1]? with
  |none=>simp[WS]
  |some k=>simp[WS]
theorem Yp {g h:GG} (e:GH g=GH h):Ba g=Ba h:=by
 have key:∀g:GG,Ba (GH g)=Ba g:=fun g=>by
  have e1:(GH g).nodes.length=g.nodes.length:=List.length_map ..
  have e2:(GH g).edges.length=g.edges.length:=List.length_map ..
  have n1:DW (GH g).nodes (GH g).Bl=DW g.nodes g.Bl:=funext fun i=>AaL
  have n2:DZ (GH g).nodes (GH g).edges (GH g).Bq=DZ g.nodes g.edges g.Bq:=funext fun i=>AaM
  have f:Ea (GH g)↔Ea g:=by unfold Ea;rw[e1,e2]
  have x:Gf (GH g)↔Gf g:=Iff.rfl
  unfold Ba
  rw[n1,n2,e1,e2]
  simp only[f,x]
 rw[← key g,e,key h]
theorem LP {g:GG} {c:GC} (h0:(BK g c).2=0):Ba g=0∧(stepG g c).1=0∧BK g c=((stepG g c).2,0):=by
 by_cases hck:Ba g=0
 ·unfold BK at h0 ⊢
  rw[if_neg (fun k=>k hck)]at h0 ⊢
  by_cases h1:(stepG g c).1=0
  ·rw[if_neg (fun k=>k h1)];exact⟨hck,h1,rfl⟩
  ·rw[if_pos h1]at h0;exact absurd h0 h1
 ·unfold BK at h0
  rw[if_pos hck]at h0
  exact absurd h0 hck
theorem Ib {g:GG} {c:GC} (h0:(BK g c).2=0):Ba (BK g c).1=0:=by
 obtain⟨hck,_,h2⟩:=LP h0
 rw[h2]
 exact AgR (Adj (AgQ hck))
theorem Ue {g:GG} {c:GC} (hg:g.ok) (hc:c.ok) (h0:(BK g c).2=0):(BK g c).1.ok:=by
 obtain⟨hck,_,h2⟩:=LP h0
 rw[h2]
 exact AeB hg (QN hck) hc
theorem XL {k:Int}:∀{l:List GE},l.Pairwise (fun a b=>a.id<b.id)→(∀ x∈l,x.id≠k)→l=below BU GE.id k l++above BU GE.id k l
 |[],_,_=>rfl
 |a::l,hi,hn=>by
  have hi':=List.pairwise_cons.1 hi
  have ha:=hn a (by simp)
  have ih:=XL hi'.2 fun x hx=>hn x (List.mem_cons_of_mem _ hx)
  by_cases h:a.id<k
  ·have e1:below BU GE.id k (a::l)=a::below BU GE.id k l:=by
        unfold below
        rw[List.filter_cons,if_pos (show BU a.id k=true by simp only[BU,decide_eq_true_eq];exact h)]
   have e2:above BU GE.id k (a::l)=above BU GE.id k l:=by
        unfold above
        rw[List.filter_cons,if_neg (show ¬BU k a.id=true by simp only[BU,decide_eq_true_eq];omega)]
   rw[e1,e2,List.cons_append,←ih]
  ·have hk:k<a.id:=by omega
   have e1:below BU GE.id k (a::l)=[]:=by
        unfold below
        rw[List.filter_eq_nil_iff]
        intro x hx
        simp only[BU,decide_eq_true_eq]
        rcases List.mem_cons.1 hx with rfl|hx
        ·omega
        ·have:=hi'.1 x hx;omega
   have e2:above BU GE.id k (a::l)=a::l:=by
        unfold above
        rw[List.filter_eq_self]
        intro x hx
        simp only[BU,decide_eq_true_eq]
        rcases List.mem_cons.1 hx with rfl|hx
        ·omega
        ·have:=hi'.1 x hx;omega
   rw[e1,e2]
   rfl
theorem AaZ {g:GG} (h:Ba g=0):g.edges.Pairwise fun a b=>a.id<b.id:=by
 have h1:(g.edges.map GE.id).Pairwise (· <·):=V8 fun i hi h0=>by
  have hi':i<g.edges.length:=by simpa using hi
  simp only[List.getElem_map]
  exact(I4 hi' ((ER h).2.2.2 i hi')).1 h0
 exact List.pairwise_map.1 h1
theorem add_edge {g:GG} {c:GC} (h6:c.op=6) (h0:(BK g c).2=0):
 (BK g c).1.nodes=g.nodes∧(c.fr∈Dn g∧c.to∈Dn g)∧∃A B,g.edges=A++B∧(BK g c).1.edges=A++⟨c.id,c.fr,c.to,c.name,false,[]⟩::B:=by
 obtain⟨hck,h1,h2⟩:=LP h0
 rw[h2]
 unfold stepG at h1 ⊢
 by_cases hk:Iq c=0
 ·rw[if_neg (fun k=>k hk),if_neg (by omega)]at h1 ⊢
  unfold Bz at h1 ⊢
  rw[if_pos h6]at h1 ⊢
  by_cases hno:∃n∈g.edges,n.id=c.id
  ·rw[if_pos hno]at h1;cases h1
  rw[if_neg hno]at h1 ⊢
  by_cases hn:(∃ n∈g.nodes,n.id=c.fr)∧(∃ n∈g.nodes,n.id=c.to)
  ·rw[if_pos hn]at h1 ⊢
   by_cases hl:g.edges.length<4000
   ·rw[if_pos hl]
    obtain⟨⟨n1,hn1,e1⟩,⟨n2,hn2,e2⟩⟩:=hn
    have hsp:=XL (k:=c.id) (AaZ hck) fun x hx e=>hno ⟨x,hx,e⟩
    refine⟨rfl,⟨List.mem_map.2 ⟨n1,hn1,e1⟩,List.mem_map.2 ⟨n2,hn2,e2⟩⟩,_,_,hsp,?_⟩
    show AY BU GE.id _ g.edges=_
    unfold AY
    simp
   ·rw[if_neg hl]at h1;cases h1
  ·rw[if_neg hn]at h1;cases h1
 ·rw[if_pos hk]at h1;exact absurd h1 hk
theorem WC {types:List (List UInt8)} {g:GG} {c:GC} (h6:c.op=6) (h0:(BK g c).2=0) (ht:HT types ⟨c.id,c.fr,c.to,c.name,false,[]⟩):
 FH types (BK g c).1=Gn (FH types g) c.fr c.to:=by
 obtain⟨hck,_,_⟩:=LP h0
 obtain⟨hN,⟨ha,hb⟩,A,B,hE,hE'⟩:=add_edge h6 h0
 have Akw:Dn (BK g c).1=Dn g:=by unfold Dn;rw[hN]
 have e1:KN types (BK g c).1=((A.filter fun e=>decide (HT types e)).map fun e=>(e.fr,e.to))++(c.fr,c.to)::((B.filter fun e=>decide (HT types e)).map fun e=>(e.fr,e.to)):=by
  unfold KN MJ
  rw[hE',List.filter_append,List.map_append,List.filter_cons,if_pos (decide_eq_true ht)]
  rfl
 have e2:KN types g=((A.filter fun e=>decide (HT types e)).map fun e=>(e.fr,e.to))++((B.filter fun e=>decide (HT types e)).map fun e=>(e.fr,e.to)):=by
  unfold KN MJ
  rw[hE,List.filter_append,List.map_append]
 unfold FH
 rw[Akw,e1,e2]
 refine AaY fun x hx=>?_
 have hin:x∈KN types g∨x=(c.fr,c.to):=by
  rw[e2]
  rcases List.mem_append.1 hx with h|h
  ·exact .inl (List.mem_append_left _ h)
  ·rcases List.mem_cons.1 h with h|h
   ·exact .inr h
   ·exact .inl (List.mem_append_right _ h)
 rcases hin with h|rfl
 ·obtain⟨e,he,rfl⟩:=List.mem_map.1 h
  exact V9 hck e (List.mem_filter.1 he).1
 ·exact⟨ha,hb⟩
theorem Ab0 {types:List (List UInt8)} {g h:GG} (e:GH g=GH h):FH types g=FH types h:=by
 have key:∀g:GG,FH types (GH g)=FH types g:=fun g=>by
  unfold FH
  have e1:Dn (GH g)=Dn g:=by
   show(g.nodes.map Td).map GN.id=g.nodes.map GN.id
   rw[List.map_map];rfl
  have e2:KN types (GH g)=KN types g:=by
   show((g.edges.map WS).filter fun e=>decide (HT types e)).map (fun e=>(e.fr,e.to))=(g.edges.filter fun e=>decide (HT types e)).map fun e=>(e.fr,e.to)
   rw[List.filter_map,List.map_map]
   rfl
  rw[e1,e2]
 rw[← key g,e,key h]
theorem OG (types:List (List UInt8)) (g:GG):(FH types g).length=g.nodes.length:=by unfold FH;rw[OI,Hg]
section
open Go
set_option maxRecDepth 100000 in
theorem Yv:Ew (run (Ad tab) 60) 7 []=some (.bool true):=by kernel_rfl
end
theorem AgC:Tryz.prog.cellsOf 59=2:=by kernel_rfl
theorem Aig {l:List AV} (h:l.length=2):∃a b,l=[a,b]:=by
 rcases l with _|⟨a,_|⟨b,_|⟨c,r⟩⟩⟩<;>simp at h
 exact⟨a,b,rfl⟩
theorem AaP {d:Nat} {a:AV} (h:like Tryz.prog d 59 a):∃p,a=pv p∧(I64 p.1∧I64 p.2):=by
 obtain⟨cs,rfl,h0⟩:=D9 Tryz.underlying59 h
 obtain⟨d',rfl,g1,g2⟩:=DL Tryz.underlying59 h0
 rw[AgC]at g1
 obtain⟨a,b,rfl⟩:=Aig g1
 clear g1
 simp only[List.forall_mem_cons]at g2
 obtain⟨f1,f2,_⟩:=g2
 simp only[Tz,List.drop_zero,List.drop_succ_cons,List.take_succ_cons,List.take_zero]at f1 f2
 obtain⟨s,e1,h1⟩:=Ei f1
 obtain⟨n,e2,h2⟩:=Ei f2
 cases e1;cases e2
 exact⟨(s,n),rfl,h1,h2⟩
theorem Yq {a:AV} (h:Like Tryz.prog 22 a):∃nn l,a=.sl nn (vs pv l)∧Ln l∧(nn=false→l=[])∧∀p∈l,I64 p.1∧I64 p.2:=by
 obtain⟨d,h⟩:=h
 obtain⟨nn,l,e,h1,h2,h3⟩:=Xf (f:=pv) (Q:=fun p=>I64 p.1∧I64 p.2) Tryz.underlying22 (fun d x h=>AaP h) h
 exact⟨nn,l,e,QC h2,h1,h3⟩
theorem Aeq {d:Nat} {a:AV} (h:like Tryz.prog d 3 a):∃n,a=.int .i64 n∧I64 n:=by
 obtain⟨k,e1,h1⟩:=AcO Tryz.underlying3 h
 exact⟨k,e1,Abd h1⟩
theorem Uh {a:AV} (h:Like Tryz.prog 3 a):∃n,a=.int .i64 n∧I64 n:=by
 obtain⟨d,h⟩:=h
 exact Aeq h
theorem OH:Af (Ad tab) 7 [] (· =.bool true):=⟨.bool true,⟨60,Yv⟩,rfl⟩
theorem Ui (l:List (Int×Int)) (a b:Int):(Gn l a b).length=l.length:=by
 unfold Gn
 split<;>simp
theorem Ab1 {g:GG} (hg:g.ok):Af (Ad tab) 11 [g.av] (fun v=>∃b,v=.bool b∧(b=true→g.nodes.length≤20∧g.edges.length≤40)):=by
 obtain⟨_,⟨b,rfl,hb⟩,p⟩:=(small hg (n:=20) (e:=40)).He
 refine Ac rfl rfl ?_
 (conv=>whnf);repeat' (first|(refine Aa p ?_;rintro _ rfl;conv=>whnf)|(refine kA ?_;conv=>whnf)|(refine Br.mk (fun hc=>?_) fun hc=>?_<;>first|exact hc.elim|conv=>whnf)|(refine kB ?_))
 all_goals first
  |(refine ⟨true,rfl,fun h=>?_⟩;have:=hb (by assumption);unfold SmG at this;omega)
  |exact⟨false,rfl,fun h=>by cases h⟩
theorem Yr {a:AV} (h:Like Tryz.prog 31 a):∃nn l,a=.sl nn (vs .str l)∧l.length<2^63:=by
 obtain⟨d,h⟩:=h
 obtain⟨nn,l,e,_,h2,_⟩:=Xf (f:=AV.str) (Q:=Ln) Tryz.underlying31 (fun d x h=>by
  obtain⟨k,e1,h1⟩:=O9 Tryz.underlying9 h
  exact⟨k,e1,QC h1⟩) h
 exact⟨nn,l,e,QC h2⟩
end AI
end Go.Proofs.YtgmgkkbpgndaaaaGreatDoor
