/- The reference: a change of an edge, a step, exactly. -/
import Derived.Test.YtceiccjppfapjaaGreatDoorVMas
import Derived.Test.YtceiccjppfapjaaGreatDoorVMat
set_option linter.unusedVariables false
set_option maxRecDepth 4000
namespace Go.Proofs.YtceiccjppfapjaaGreatDoor
namespace AI
section
variable {g:GG} {n:GE} {z fr to:Int} {nm:List UInt8} {v:GV}
set_option maxHeartbeats 2000000 in
theorem AjO (hg:g.ok) (hN:g.edges.length≤2900) (ha:DU g) (hx:RY g) (hz:Jg z) (hnm:Ln nm) (hv:v.ok) (hf:g.edges.find? (fun n=>decide (n.id=z))=some n):
 Af (Ad tab) 101 [g.av,(⟨8,z,fr,to,nm,v⟩:GC).av,n.av] (Du (Bh g ⟨8,z,fr,to,nm,v⟩)):=by
 obtain⟨hm,hid⟩:=Ea hf
 have hid:=of_decide_eq_true hid
 have hn:=ha.aE n hm
 have hno:=hg.2.2.2.2.2.1 n hm
 have hlP:=hn.lP
 have hG:Bh g ⟨8,z,fr,to,nm,v⟩=if isNull v then(0,{g with edges:=AL BP GE.id {n with props:=BR Op.bytesLess GP.key nm n.props} g.edges})else if(∃ p∈n.props,GP.key p=nm)∨n.props.length<16 then(0,{g with edges:=AL BP GE.id {n with pn:=true,props:=AL Op.bytesLess GP.key ⟨nm,v⟩ n.props} g.edges})else(20,g):=by
  unfold Bh;dsimp only;rw[if_neg (by decide),hf];rfl
 rw[hG]
 have hz1:1≤n.id∧n.id≤1000000:=by unfold Jg at hz;omega
 by_cases hc1:isNull v
 ·rw[if_pos hc1]
  obtain⟨_,⟨b,hb,rfl⟩,hw⟩:=(Aaz (P:=n.props) (nn:=n.pn) (key:=nm) (by omega) hn.iP hv hc1).J4
  have hle:(BR Op.bytesLess GP.key nm n.props).length≤16:=Nat.le_trans (Dp Ai) hlP
  rw[decide_eq_true hle]at hw
  have hpn:=AhD (g:=g) (n:=⟨n.id,n.fr,n.to,n.ty,b,BR Op.bytesLess GP.key nm n.props⟩) hg (by omega) ha.iE hz1.1 hz1.2
  refine Ac rfl rfl ?_
  show vC _ _ [(0,g.av),(1,.agg [.int .i64 8,.int .i64 z,.int .i64 fr,.int .i64 to,.str nm,.int .i64 v.k,.int .i64 v.n,.int .i64 v.d,.str v.s,.sl v.nn v.l]),(2,n.av)] _ _
  (conv=>whnf);repeat' (first|((first|refine Aa hw ?_|refine Aa hpn ?_);rintro _ rfl;conv=>whnf)|(refine kA ?_;conv=>whnf)|(refine Br.mk (fun hc=>?_) fun hc=>?_<;>first|exact hc.elim|conv=>whnf)|(refine kB ?_))
  all_goals first
   |exact AaS (m:=⟨n.id,n.fr,n.to,n.ty,b,BR Op.bytesLess GP.key nm n.props⟩) hg hN hx ⟨n,hm,rfl⟩ (Zd (x:=⟨nm,v⟩) hno ⟨hnm,hv⟩ (OZ (by omega)) hb (fun y hy=>.inr (BX hy))) rfl rfl
 ·rw[if_neg hc1]
  have hw:=AaT (P:=n.props) (nn:=n.pn) (key:=nm) (by omega) hn.iP hv hc1
  have h16:=Alv (key:=nm) (v:=v) hlP
  by_cases h5:(∃ p∈n.props,GP.key p=nm)∨n.props.length<16
  ·rw[if_pos h5]
   rw[decide_eq_true (h16.2 h5)]at hw
   have hpn:=AhD (g:=g) (n:=⟨n.id,n.fr,n.to,n.ty,true,AL Op.bytesLess GP.key ⟨nm,v⟩ n.props⟩) hg (by omega) ha.iE hz1.1 hz1.2
   refine Ac rfl rfl ?_
   show vC _ _ [(0,g.av),(1,.agg [.int .i64 8,.int .i64 z,.int .i64 fr,.int .i64 to,.str nm,.int .i64 v.k,.int .i64 v.n,.int .i64 v.d,.str v.s,.sl v.nn v.l]),(2,n.av)] _ _
   (conv=>whnf);repeat' (first|((first|refine Aa hw ?_|refine Aa hpn ?_);rintro _ rfl;conv=>whnf)|(refine kA ?_;conv=>whnf)|(refine Br.mk (fun hc=>?_) fun hc=>?_<;>first|exact hc.elim|conv=>whnf)|(refine kB ?_))
   all_goals first
     |exact AaS (m:=⟨n.id,n.fr,n.to,n.ty,true,AL Op.bytesLess GP.key ⟨nm,v⟩ n.props⟩) hg hN hx ⟨n,hm,rfl⟩ (Zd (x:=⟨nm,v⟩) hno ⟨hnm,hv⟩ (O1 (by omega)) (fun h=>Bool.noConfusion h) (fun y hy=>Bf Ai hy)) rfl rfl
  ·rw[if_neg h5]
   rw[decide_eq_false (fun h=>h5 (h16.1 h))]at hw
   refine Ac rfl rfl ?_
   show vC _ _ [(0,g.av),(1,.agg [.int .i64 8,.int .i64 z,.int .i64 fr,.int .i64 to,.str nm,.int .i64 v.k,.int .i64 v.n,.int .i64 v.d,.str v.s,.sl v.nn v.l]),(2,n.av)] _ _
   (conv=>whnf);repeat' (first|(refine Aa hw ?_;rintro _ rfl;conv=>whnf)|(refine kA ?_;conv=>whnf)|(refine Br.mk (fun hc=>?_) fun hc=>?_<;>first|exact hc.elim|conv=>whnf)|(refine kB ?_))
   all_goals first
     |exact Du.no rfl (by decide)
set_option maxHeartbeats 2000000 in
theorem AjP (hg:g.ok) (hE:g.edges.length≤2900) (ha:DU g) (hf:g.edges.find? (fun n=>decide (n.id=z))=some n):
 Af (Ad tab) 101 [g.av,(⟨7,z,fr,to,nm,v⟩:GC).av,n.av] (Du (Bh g ⟨7,z,fr,to,nm,v⟩)):=by
 have hG:Bh g ⟨7,z,fr,to,nm,v⟩=(0,{g with edges:=BR BP GE.id z g.edges}):=by
  unfold Bh;dsimp only;rw[if_neg (by decide),hf];rfl
 rw[hG,NR Ak ha.iE]
 refine Ac rfl rfl ?_
 show vC _ _ [(0,g.av),(1,.agg [.int .i64 7,.int .i64 z,.int .i64 fr,.int .i64 to,.str nm,.int .i64 v.k,.int .i64 v.n,.int .i64 v.d,.str v.s,.sl v.nn v.l]),(2,n.av)] _ _
 (conv=>whnf);repeat' (first  |(refine kA ?_;conv=>whnf)|(refine Br.mk (fun hc=>?_) fun hc=>?_<;>first|exact hc.elim|conv=>whnf)|(refine kB ?_))
 refine Ae (fun m env s=>∃(i c' go k:Nat) (f:Bool) (l:List GE),m=g.edges.length-i∧i≤g.edges.length∧k=l.length∧l.length≤i∧(f=false→l=[])∧l=(g.edges.take i).filter (fun a=>decide (GE.id a≠z))∧env=[(3,.ref 0 0 0 0),(4,.ref 1 1 0 0),(6,.ref 3 3 0 0),(10,.own 4 go 0 k),(11,.int .i64 i)]∧s=⟨[.arr 0 4 true true [g.av],.arr 1 10 true true [(⟨7,z,fr,to,nm,v⟩:GC).av],.arr 2 5 true true [n.av],.arr 3 4 true true [.agg [.sl false [],.sl false [],.int .i64 0,.int .i64 0]],.arr go 5 f true (vs GE.av l)],c'⟩) ?_ _ _ _ ⟨0,_,_,0,_,[],rfl,by omega,rfl,by simp,fun _=>rfl,by simp,rfl,rfl⟩
 rintro _ _ _ ⟨i,c',go,k,f,l,rfl,hi,hk,hl,hff,hx,rfl,rfl⟩
 refine⟨rfl,?_⟩
 subst hk
 by_cases hlt:i<g.edges.length
 ·have hs:=List.take_succ_eq_append_getElem hlt
  (conv=>whnf);repeat' (first|(refine Dc (x:=g.edges[i]) cellsE rfl (by omega) ?_;conv=>whnf)|(refine kA ?_;conv=>whnf)|(refine Br.mk (fun hc=>?_) fun hc=>?_<;>first|exact hc.elim|conv=>whnf)|(refine kB ?_))
  all_goals first
   |exact again.mk ⟨_,by omega,i+1,_,_,_,_,l++[g.edges[i]],rfl,by omega,by simp,by simp;omega,fun h=>Bool.noConfusion h,by rw[hs,List.filter_append,←hx,List.filter_cons_of_pos (by simp;omega),List.filter_nil],rfl,rfl⟩
   |exact again.mk ⟨_,by omega,i+1,_,_,_,_,l,rfl,by omega,rfl,by omega,hff,by rw[hs,List.filter_append,←hx,List.filter_cons_of_neg (by simp;omega),List.filter_nil,List.append_nil],rfl,rfl⟩
 ·rw[show i=g.edges.length by omega,List.take_length]at hx
  (conv=>whnf);repeat' (first  |(refine kA ?_;conv=>whnf)|(refine Br.mk (fun hc=>?_) fun hc=>?_<;>first|exact hc.elim|conv=>whnf)|(refine kB ?_))
  refine Ag (x:=GG.av ⟨g.nn,g.nodes,f,l,g.Bl,g.Bg⟩) ?_ ?_
  ·exact AhE (m:=999978) (a:=.sl g.nn (vs GN.av g.nodes)) (b:=.own 4 go 0 l.length) (N:=g.Bl) (E:=g.Bg) (fun _=>rfl) (fun _=>AhF rfl rfl)
  (conv=>whnf);repeat' (first  |(refine kA ?_;conv=>whnf)|(refine Br.mk (fun hc=>?_) fun hc=>?_<;>first|exact hc.elim|conv=>whnf)|(refine kB ?_))
  subst hx
  obtain⟨g1,g2,g3,g4,g5,g6,g7,g8⟩:=hg
  exact Du.yes (h:=⟨g.nn,g.nodes,f,_,g.Bl,g.Bg⟩) rfl rfl ⟨g1,g2,g3,by unfold Ln;dsimp only;omega,hff,fun x hx=>g6 x ((List.mem_filter.1 hx).1),g7,g8⟩
end
theorem AaU {α:Type} {p:α→Bool} {l:List α} (h:l.find? p=none):¬∃n∈l,p n=true:=by
 rw[List.find?_eq_none]at h
 rintro⟨n,hn,e⟩
 exact h n hn e
theorem Pq (l:List GN) (z:Int):(∃ n,l.find? (fun n=>decide (n.id=z))=some n∧Kt l z=.BH [n.av,.bool true]∧∃n∈l,n.id=z)∨(l.find? (fun n=>decide (n.id=z))=none∧Kt l z=.BH [N0.av,.bool false]∧¬∃n∈l,n.id=z):=by
 unfold Kt Zt
 cases h:l.find? (fun n=>decide (n.id=z))with
 |none=>exact .inr ⟨rfl,rfl,fun⟨n,hn,e⟩=>AaU h ⟨n,hn,decide_eq_true e⟩⟩
 |some n=>exact .inl ⟨n,rfl,rfl,n,(Ea h).1,of_decide_eq_true (Ea h).2⟩
theorem Uc (l:List GE) (z:Int):(∃ n,l.find? (fun n=>decide (n.id=z))=some n∧Lj l z=.BH [n.av,.bool true]∧∃n∈l,n.id=z)∨(l.find? (fun n=>decide (n.id=z))=none∧Lj l z=.BH [E0.av,.bool false]∧¬∃n∈l,n.id=z):=by
 unfold Lj Xr
 cases h:l.find? (fun n=>decide (n.id=z))with
 |none=>exact .inr ⟨rfl,rfl,fun⟨n,hn,e⟩=>AaU h ⟨n,hn,decide_eq_true e⟩⟩
 |some n=>exact .inl ⟨n,rfl,rfl,n,(Ea h).1,of_decide_eq_true (Ea h).2⟩
theorem no1 {g:GG} {c:GC} (h:c.op=1) (hx:∃n∈g.nodes,n.id=c.id):AQ g c=(7,g):=by unfold AQ;rw[if_pos h,if_pos hx]
theorem AsR {g:GG} {c:GC} (h:c.op=1) (hx:¬∃n∈g.nodes,n.id=c.id) (hl:¬g.nodes.length<2000):AQ g c=(20,g):=by unfold AQ;rw[if_pos h,if_neg hx,if_neg hl]
theorem AsT {g:GG} {c:GC} (h:c.op=1) (hx:¬∃n∈g.nodes,n.id=c.id) (hl:g.nodes.length<2000):AQ g c=(0,{g with nn:=true,nodes:=AL BP GN.id ⟨c.id,false,[],false,[]⟩ g.nodes,Bl:=if c.id+1>g.Bl then c.id+1 else g.Bl}):=by unfold AQ;rw[if_pos h,if_neg hx,if_pos hl]
theorem AjQ {g:GG} {c:GC} (h:c.op≠1) (hx:g.nodes.find? (fun n=>decide (n.id=c.id))=none):AQ g c=(10,g):=by unfold AQ;rw[if_neg h,hx]
theorem no6 {g:GG} {c:GC} (h:c.op=6) (hx:∃n∈g.edges,n.id=c.id):Bh g c=(7,g):=by unfold Bh;rw[if_pos h,if_pos hx]
theorem ApS {g:GG} {c:GC} (h:c.op=6) (hx:¬∃n∈g.edges,n.id=c.id) (hn:¬((∃ n∈g.nodes,n.id=c.fr)∧(∃ n∈g.nodes,n.id=c.to))):Bh g c=(10,g):=by unfold Bh;rw[if_pos h,if_neg hx,if_neg hn]
theorem AsU {g:GG} {c:GC} (h:c.op=6) (hx:¬∃n∈g.edges,n.id=c.id) (hn:(∃ n∈g.nodes,n.id=c.fr)∧(∃ n∈g.nodes,n.id=c.to)) (hl:g.edges.length<4000):Bh g c=(0,{g with en:=true,edges:=AL BP GE.id ⟨c.id,c.fr,c.to,c.name,false,[]⟩ g.edges,Bg:=if c.id+1>g.Bg then c.id+1 else g.Bg}):=by unfold Bh;rw[if_pos h,if_neg hx,if_pos hn,if_pos hl]
theorem ApT {g:GG} {c:GC} (h:c.op≠6) (hx:g.edges.find? (fun n=>decide (n.id=c.id))=none):Bh g c=(11,g):=by unfold Bh;rw[if_neg h,hx]
set_option maxHeartbeats 8000000 in
theorem Ak7 {g:GG} {c:GC} (hg:g.ok) (hN:g.nodes.length≤2900) (hE:g.edges.length≤2900) (ha:DU g) (hx:RY g) (hc:c.ok):
 Af (Ad tab) 44 [g.av,c.av] (Du (stepG g c)):=by
 have hck:=AlY hc
 by_cases h0:Ig c=0
 rotate_left
 ·have hG:stepG g c=(Ig c,g):=by unfold stepG;rw[if_pos h0]
  rw[hG]
  generalize Ig c=e at hck h0 ⊢
  refine Ac rfl rfl ?_
  (conv=>whnf);repeat' (first|(refine Aa hck ?_;rintro _ rfl;conv=>whnf)|(refine kA ?_;conv=>whnf)|(refine Br.mk (fun hc=>?_) fun hc=>?_<;>first|exact hc.elim|conv=>whnf)|(refine kB ?_))
  all_goals first|exact Du.no rfl h0|(exfalso;omega)
 rw[h0]at hck
 obtain⟨hop,hid,_,h6,_⟩:=Ad9 h0
 obtain⟨c1,c2,c3,c4,c5,c6⟩:=hc
 have hG:stepG g c=if c.op≤5 then AQ g c else Bh g c:=by unfold stepG;rw[if_neg (fun k=>k h0)]
 rw[hG]
 clear hG h0
 have hn:=AhG (g:=g) (id:=c.id) (by omega)
 have he:=ApU (g:=g) (id:=c.id) (by omega)
 have hf:=AhG (g:=g) (id:=c.fr) (by omega)
 have ht:=AhG (g:=g) (id:=c.to) (by omega)
 obtain⟨op,z,fr,to,nm,v⟩:=c
 dsimp only at hop hid h6 hn he hf ht c1 c2 c3 c4 c5 c6 ⊢
 have hz1:1≤z∧z≤1000000:=hid
 have hpn:=AaV (g:=g) (n:=⟨z,false,[],false,[]⟩) hg (by omega) ha.iN hz1.1 hz1.2
 have hpe:=AhD (g:=g) (n:=⟨z,fr,to,nm,false,[]⟩) hg (by omega) ha.iE hz1.1 hz1.2
 have hg7:=hg.2.2.2.2.2.2.1
 have hg8:=hg.2.2.2.2.2.2.2
 have hI7:I64 (if z+1>g.Bl then z+1 else g.Bl):=by unfold I64 at *;split<;>omega
 have hI8:I64 (if z+1>g.Bg then z+1 else g.Bg):=by unfold I64 at *;split<;>omega
 have hd:op=1∨op=2∨op=3∨op=4∨op=5∨op=6∨op=7∨op=8:=by omega
 rcases hd with rfl|rfl|rfl|rfl|rfl|rfl|rfl|rfl
 ·rw[if_pos (by decide)]
  obtain⟨_,⟨e,be,rfl⟩,he⟩:=(Af.mono (R':=fun w=>∃(e:GE) (b:Bool),w=.BH [e.av,.bool b]) he (fun w h=>by rcases Uc g.edges z with⟨e,_,ee,_⟩|⟨_,ee,_⟩<;>rw[ee]at h<;>exact⟨_,_,h⟩)).J4
  rcases Pq g.nodes z with⟨n,fn,en,xn⟩|⟨fn,en,xn⟩<;>rw[en]at hn
  ·refine Ac rfl rfl ?_
   show vC _ _ [(0,g.av),(1,.agg [.int .i64 1,.int .i64 z,.int .i64 fr,.int .i64 to,.str nm,.int .i64 v.k,.int .i64 v.n,.int .i64 v.d,.str v.s,.sl v.nn v.l])] _ _
   (conv=>whnf);repeat' (first|((first|refine Aa hck ?_|refine Aa hn ?_|refine Aa he ?_);rintro _ rfl;conv=>whnf)|(refine kA ?_;conv=>whnf)|(refine Br.mk (fun hc=>?_) fun hc=>?_<;>first|exact hc.elim|conv=>whnf)|(refine kB ?_))
   all_goals first|exact Du.no (no1 rfl xn) (by decide)|(exfalso;omega)
  ·refine Ac rfl rfl ?_
   show vC _ _ [(0,g.av),(1,.agg [.int .i64 1,.int .i64 z,.int .i64 fr,.int .i64 to,.str nm,.int .i64 v.k,.int .i64 v.n,.int .i64 v.d,.str v.s,.sl v.nn v.l])] _ _
   (conv=>whnf);repeat' (first|((first|refine Aa hck ?_|refine Aa hn ?_|refine Aa he ?_|refine Aa hpn ?_);rintro _ rfl;conv=>whnf)|(refine kA ?_;conv=>whnf)|(refine Br.mk (fun hc=>?_) fun hc=>?_<;>first|exact hc.elim|conv=>whnf)|(refine kB ?_))
   all_goals first
     |exact Du.no (AsR rfl xn (by omega)) (by decide)
     |exact Du.yes (h:=⟨true,_,g.en,g.edges,_,g.Bg⟩) (AsT rfl xn (by omega)) rfl (UK hg (AdH c2) (Oy Ak (by omega)) (fun x hx=>Bf Ak hx) hI7)
     |(exfalso;omega)
 ·rw[if_pos (by decide)]
  obtain⟨_,⟨e,be,rfl⟩,he⟩:=(Af.mono (R':=fun w=>∃(e:GE) (b:Bool),w=.BH [e.av,.bool b]) he (fun w h=>by rcases Uc g.edges z with⟨e,_,ee,_⟩|⟨_,ee,_⟩<;>rw[ee]at h<;>exact⟨_,_,h⟩)).J4
  rcases Pq g.nodes z with⟨n,fn,en,xn⟩|⟨fn,en,xn⟩<;>rw[en]at hn
  ·refine Ac rfl rfl ?_
   show vC _ _ [(0,g.av),(1,.agg [.int .i64 2,.int .i64 z,.int .i64 fr,.int .i64 to,.str nm,.int .i64 v.k,.int .i64 v.n,.int .i64 v.d,.str v.s,.sl v.nn v.l])] _ _
   (conv=>whnf);repeat' (first|((first|refine Aa hck ?_|refine Aa hn ?_|refine Aa he ?_);rintro _ rfl;conv=>whnf)|(refine Aa (AjR hg hN hE ha c5 fn) ?_;rintro _ ⟨h,rfl,q1,q2⟩;conv=>whnf)|(refine kA ?_;conv=>whnf)|(refine Br.mk (fun hc=>?_) fun hc=>?_<;>first|exact hc.elim|conv=>whnf)|(refine kB ?_))
   all_goals first|exact⟨h,rfl,q1,q2⟩
  ·refine Ac rfl rfl ?_
   show vC _ _ [(0,g.av),(1,.agg [.int .i64 2,.int .i64 z,.int .i64 fr,.int .i64 to,.str nm,.int .i64 v.k,.int .i64 v.n,.int .i64 v.d,.str v.s,.sl v.nn v.l])] _ _
   (conv=>whnf);repeat' (first|((first|refine Aa hck ?_|refine Aa hn ?_|refine Aa he ?_);rintro _ rfl;conv=>whnf)|(refine kA ?_;conv=>whnf)|(refine Br.mk (fun hc=>?_) fun hc=>?_<;>first|exact hc.elim|conv=>whnf)|(refine kB ?_))
   all_goals first|exact Du.no (AjQ (show (2:Int)≠1 by decide) fn) (by decide)
 ·rw[if_pos (by decide)]
  obtain⟨_,⟨e,be,rfl⟩,he⟩:=(Af.mono (R':=fun w=>∃(e:GE) (b:Bool),w=.BH [e.av,.bool b]) he (fun w h=>by rcases Uc g.edges z with⟨e,_,ee,_⟩|⟨_,ee,_⟩<;>rw[ee]at h<;>exact⟨_,_,h⟩)).J4
  rcases Pq g.nodes z with⟨n,fn,en,xn⟩|⟨fn,en,xn⟩<;>rw[en]at hn
  ·refine Ac rfl rfl ?_
   show vC _ _ [(0,g.av),(1,.agg [.int .i64 3,.int .i64 z,.int .i64 fr,.int .i64 to,.str nm,.int .i64 v.k,.int .i64 v.n,.int .i64 v.d,.str v.s,.sl v.nn v.l])] _ _
   (conv=>whnf);repeat' (first|((first|refine Aa hck ?_|refine Aa hn ?_|refine Aa he ?_);rintro _ rfl;conv=>whnf)|(refine Aa (AjS hg hN ha hx hid c5 fn) ?_;rintro _ ⟨h,rfl,q1,q2⟩;conv=>whnf)|(refine kA ?_;conv=>whnf)|(refine Br.mk (fun hc=>?_) fun hc=>?_<;>first|exact hc.elim|conv=>whnf)|(refine kB ?_))
   all_goals first|exact⟨h,rfl,q1,q2⟩
  ·refine Ac rfl rfl ?_
   show vC _ _ [(0,g.av),(1,.agg [.int .i64 3,.int .i64 z,.int .i64 fr,.int .i64 to,.str nm,.int .i64 v.k,.int .i64 v.n,.int .i64 v.d,.str v.s,.sl v.nn v.l])] _ _
   (conv=>whnf);repeat' (first|((first|refine Aa hck ?_|refine Aa hn ?_|refine Aa he ?_);rintro _ rfl;conv=>whnf)|(refine kA ?_;conv=>whnf)|(refine Br.mk (fun hc=>?_) fun hc=>?_<;>first|exact hc.elim|conv=>whnf)|(refine kB ?_))
   all_goals first|exact Du.no (AjQ (show (3:Int)≠1 by decide) fn) (by decide)
 ·rw[if_pos (by decide)]
  obtain⟨_,⟨e,be,rfl⟩,he⟩:=(Af.mono (R':=fun w=>∃(e:GE) (b:Bool),w=.BH [e.av,.bool b]) he (fun w h=>by rcases Uc g.edges z with⟨e,_,ee,_⟩|⟨_,ee,_⟩<;>rw[ee]at h<;>exact⟨_,_,h⟩)).J4
  rcases Pq g.nodes z with⟨n,fn,en,xn⟩|⟨fn,en,xn⟩<;>rw[en]at hn
  ·refine Ac rfl rfl ?_
   show vC _ _ [(0,g.av),(1,.agg [.int .i64 4,.int .i64 z,.int .i64 fr,.int .i64 to,.str nm,.int .i64 v.k,.int .i64 v.n,.int .i64 v.d,.str v.s,.sl v.nn v.l])] _ _
   (conv=>whnf);repeat' (first|((first|refine Aa hck ?_|refine Aa hn ?_|refine Aa he ?_);rintro _ rfl;conv=>whnf)|(refine Aa (AjT hg hN ha hx hid c5 fn) ?_;rintro _ ⟨h,rfl,q1,q2⟩;conv=>whnf)|(refine kA ?_;conv=>whnf)|(refine Br.mk (fun hc=>?_) fun hc=>?_<;>first|exact hc.elim|conv=>whnf)|(refine kB ?_))
   all_goals first|exact⟨h,rfl,q1,q2⟩
  ·refine Ac rfl rfl ?_
   show vC _ _ [(0,g.av),(1,.agg [.int .i64 4,.int .i64 z,.int .i64 fr,.int .i64 to,.str nm,.int .i64 v.k,.int .i64 v.n,.int .i64 v.d,.str v.s,.sl v.nn v.l])] _ _
   (conv=>whnf);repeat' (first|((first|refine Aa hck ?_|refine Aa hn ?_|refine Aa he ?_);rintro _ rfl;conv=>whnf)|(refine kA ?_;conv=>whnf)|(refine Br.mk (fun hc=>?_) fun hc=>?_<;>first|exact hc.elim|conv=>whnf)|(refine kB ?_))
   all_goals first|exact Du.no (AjQ (show (4:Int)≠1 by decide) fn) (by decide)
 ·rw[if_pos (by decide)]
  obtain⟨_,⟨e,be,rfl⟩,he⟩:=(Af.mono (R':=fun w=>∃(e:GE) (b:Bool),w=.BH [e.av,.bool b]) he (fun w h=>by rcases Uc g.edges z with⟨e,_,ee,_⟩|⟨_,ee,_⟩<;>rw[ee]at h<;>exact⟨_,_,h⟩)).J4
  rcases Pq g.nodes z with⟨n,fn,en,xn⟩|⟨fn,en,xn⟩<;>rw[en]at hn
  ·refine Ac rfl rfl ?_
   show vC _ _ [(0,g.av),(1,.agg [.int .i64 5,.int .i64 z,.int .i64 fr,.int .i64 to,.str nm,.int .i64 v.k,.int .i64 v.n,.int .i64 v.d,.str v.s,.sl v.nn v.l])] _ _
   (conv=>whnf);repeat' (first|((first|refine Aa hck ?_|refine Aa hn ?_|refine Aa he ?_);rintro _ rfl;conv=>whnf)|(refine Aa (AjU hg hN ha hx hid c5 c6 fn) ?_;rintro _ ⟨h,rfl,q1,q2⟩;conv=>whnf)|(refine kA ?_;conv=>whnf)|(refine Br.mk (fun hc=>?_) fun hc=>?_<;>first|exact hc.elim|conv=>whnf)|(refine kB ?_))
   all_goals first|exact⟨h,rfl,q1,q2⟩
  ·refine Ac rfl rfl ?_
   show vC _ _ [(0,g.av),(1,.agg [.int .i64 5,.int .i64 z,.int .i64 fr,.int .i64 to,.str nm,.int .i64 v.k,.int .i64 v.n,.int .i64 v.d,.str v.s,.sl v.nn v.l])] _ _
   (conv=>whnf);repeat' (first|((first|refine Aa hck ?_|refine Aa hn ?_|refine Aa he ?_);rintro _ rfl;conv=>whnf)|(refine kA ?_;conv=>whnf)|(refine Br.mk (fun hc=>?_) fun hc=>?_<;>first|exact hc.elim|conv=>whnf)|(refine kB ?_))
   all_goals first|exact Du.no (AjQ (show (5:Int)≠1 by decide) fn) (by decide)
 ·rw[if_neg (by decide)]
  obtain⟨_,⟨e,be,rfl⟩,hn⟩:=(Af.mono (R':=fun w=>∃(e:GN) (b:Bool),w=.BH [e.av,.bool b]) hn (fun w h=>by rcases Pq g.nodes z with⟨e,_,ee,_⟩|⟨_,ee,_⟩<;>rw[ee]at h<;>exact⟨_,_,h⟩)).J4
  rcases Uc g.edges z with⟨n,fn,en,xn⟩|⟨fn,en,xn⟩<;>rw[en]at he<;>rcases Pq g.nodes fr with⟨nf,ff,ef,xf⟩|⟨ff,ef,xf⟩<;>rw[ef]at hf<;>rcases Pq g.nodes to with⟨nt,ft,et,xt⟩|⟨ft,et,xt⟩<;>rw[et]at ht
  all_goals
   refine Ac rfl rfl ?_
   show vC _ _ [(0,g.av),(1,.agg [.int .i64 6,.int .i64 z,.int .i64 fr,.int .i64 to,.str nm,.int .i64 v.k,.int .i64 v.n,.int .i64 v.d,.str v.s,.sl v.nn v.l])] _ _
   (conv=>whnf);repeat' (first|((first|refine Aa hck ?_|refine Aa hn ?_|refine Aa he ?_|refine Aa hf ?_|refine Aa ht ?_|refine Aa hpe ?_);rintro _ rfl;conv=>whnf)|(refine kA ?_;conv=>whnf)|(refine Br.mk (fun hc=>?_) fun hc=>?_<;>first|exact hc.elim|conv=>whnf)|(refine kB ?_))
   all_goals first
     |exact Du.no (no6 rfl xn) (by decide)
     |exact Du.no (ApS rfl xn (fun h=>xf h.1)) (by decide)
     |exact Du.no (ApS rfl xn (fun h=>xt h.2)) (by decide)
     |exact Du.yes (h:=⟨g.nn,g.nodes,true,_,g.Bl,_⟩) (AsU rfl xn ⟨xf,xt⟩ (by omega)) rfl (UL hg (AdI c2 c3 c4 c5) (Oy Ak (by omega)) (fun x hx=>Bf Ak hx) hI8)
     |(exfalso;omega)
 ·rw[if_neg (by decide)]
  obtain⟨_,⟨e,be,rfl⟩,hn⟩:=(Af.mono (R':=fun w=>∃(e:GN) (b:Bool),w=.BH [e.av,.bool b]) hn (fun w h=>by rcases Pq g.nodes z with⟨e,_,ee,_⟩|⟨_,ee,_⟩<;>rw[ee]at h<;>exact⟨_,_,h⟩)).J4
  rcases Uc g.edges z with⟨n,fn,en,xn⟩|⟨fn,en,xn⟩<;>rw[en]at he
  ·refine Ac rfl rfl ?_
   show vC _ _ [(0,g.av),(1,.agg [.int .i64 7,.int .i64 z,.int .i64 fr,.int .i64 to,.str nm,.int .i64 v.k,.int .i64 v.n,.int .i64 v.d,.str v.s,.sl v.nn v.l])] _ _
   (conv=>whnf);repeat' (first|((first|refine Aa hck ?_|refine Aa hn ?_|refine Aa he ?_);rintro _ rfl;conv=>whnf)|(refine Aa (AjP hg hE ha fn) ?_;rintro _ ⟨h,rfl,q1,q2⟩;conv=>whnf)|(refine kA ?_;conv=>whnf)|(refine Br.mk (fun hc=>?_) fun hc=>?_<;>first|exact hc.elim|conv=>whnf)|(refine kB ?_))
   all_goals first|exact⟨h,rfl,q1,q2⟩
  ·refine Ac rfl rfl ?_
   show vC _ _ [(0,g.av),(1,.agg [.int .i64 7,.int .i64 z,.int .i64 fr,.int .i64 to,.str nm,.int .i64 v.k,.int .i64 v.n,.int .i64 v.d,.str v.s,.sl v.nn v.l])] _ _
   (conv=>whnf);repeat' (first|((first|refine Aa hck ?_|refine Aa hn ?_|refine Aa he ?_);rintro _ rfl;conv=>whnf)|(refine kA ?_;conv=>whnf)|(refine Br.mk (fun hc=>?_) fun hc=>?_<;>first|exact hc.elim|conv=>whnf)|(refine kB ?_))
   all_goals first|exact Du.no (ApT (show (7:Int)≠6 by decide) fn) (by decide)
 ·rw[if_neg (by decide)]
  obtain⟨_,⟨e,be,rfl⟩,hn⟩:=(Af.mono (R':=fun w=>∃(e:GN) (b:Bool),w=.BH [e.av,.bool b]) hn (fun w h=>by rcases Pq g.nodes z with⟨e,_,ee,_⟩|⟨_,ee,_⟩<;>rw[ee]at h<;>exact⟨_,_,h⟩)).J4
  rcases Uc g.edges z with⟨n,fn,en,xn⟩|⟨fn,en,xn⟩<;>rw[en]at he
  ·refine Ac rfl rfl ?_
   show vC _ _ [(0,g.av),(1,.agg [.int .i64 8,.int .i64 z,.int .i64 fr,.int .i64 to,.str nm,.int .i64 v.k,.int .i64 v.n,.int .i64 v.d,.str v.s,.sl v.nn v.l])] _ _
   (conv=>whnf);repeat' (first|((first|refine Aa hck ?_|refine Aa hn ?_|refine Aa he ?_);rintro _ rfl;conv=>whnf)|(refine Aa (AjO hg hE ha hx hid c5 c6 fn) ?_;rintro _ ⟨h,rfl,q1,q2⟩;conv=>whnf)|(refine kA ?_;conv=>whnf)|(refine Br.mk (fun hc=>?_) fun hc=>?_<;>first|exact hc.elim|conv=>whnf)|(refine kB ?_))
   all_goals first|exact⟨h,rfl,q1,q2⟩
  ·refine Ac rfl rfl ?_
   show vC _ _ [(0,g.av),(1,.agg [.int .i64 8,.int .i64 z,.int .i64 fr,.int .i64 to,.str nm,.int .i64 v.k,.int .i64 v.n,.int .i64 v.d,.str v.s,.sl v.nn v.l])] _ _
   (conv=>whnf);repeat' (first|((first|refine Aa hck ?_|refine Aa hn ?_|refine Aa he ?_);rintro _ rfl;conv=>whnf)|(refine kA ?_;conv=>whnf)|(refine Br.mk (fun hc=>?_) fun hc=>?_<;>first|exact hc.elim|conv=>whnf)|(refine kB ?_))
   all_goals first|exact Du.no (ApT (show (8:Int)≠6 by decide) fn) (by decide)
end AI
end Go.Proofs.YtceiccjppfapjaaGreatDoor
