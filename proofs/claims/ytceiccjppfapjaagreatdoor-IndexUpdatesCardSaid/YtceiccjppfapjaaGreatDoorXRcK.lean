/- The reference: a change of an edge, a step, exactly. -/
import Derived.Test.YtceiccjppfapjaaGreatDoorXMar
import Derived.Test.YtceiccjppfapjaaGreatDoorXMas
set_option linter.unusedVariables false
set_option maxRecDepth 4000
namespace Go.Proofs.YtceiccjppfapjaaGreatDoor
namespace AI
section
variable {g:GG} {n:GE} {z fr to:Int} {nm:List UInt8} {v:GV}
set_option maxHeartbeats 2000000 in
theorem AeO (hg:g.ok) (hN:g.edges.length≤2900) (ha:F6 g) (hx:QW g) (hz:Md z) (hnm:Ln nm) (hv:v.ok) (hf:g.edges.find? (fun n=>decide (n.id=z))=some n):
 Ae (Ad tab) 101 [g.av,(⟨8,z,fr,to,nm,v⟩:GC).av,n.av] (CV (Bz g ⟨8,z,fr,to,nm,v⟩)):=by
 obtain⟨hm,hid⟩:=DW hf
 have hid:=of_decide_eq_true hid
 have hn:=ha.aE n hm
 have hno:=hg.2.2.2.2.2.1 n hm
 have hlP:=hn.lP
 have hG:Bz g ⟨8,z,fr,to,nm,v⟩=if isNull v then(0,{g with edges:=Ba CB GE.id {n with props:=CO Op.bytesLess GP.key nm n.props} g.edges})else if(∃ p∈n.props,GP.key p=nm)∨n.props.length<16 then(0,{g with edges:=Ba CB GE.id {n with pn:=true,props:=Ba Op.bytesLess GP.key ⟨nm,v⟩ n.props} g.edges})else(20,g):=by
  unfold Bz;dsimp only;rw[if_neg (by decide),hf];rfl
 rw[hG]
 have hz1:1≤n.id∧n.id≤1000000:=by unfold Md at hz;omega
 by_cases hc1:isNull v
 ·rw[if_pos hc1]
  obtain⟨_,⟨b,hb,rfl⟩,hw⟩:=(WL (P:=n.props) (nn:=n.pn) (key:=nm) (by omega) hn.iP hv hc1).J4
  have hle:(CO Op.bytesLess GP.key nm n.props).length≤16:=Nat.le_trans (FB Aq) hlP
  rw[decide_eq_true hle]at hw
  have hpn:=Acu (g:=g) (n:=⟨n.id,n.fr,n.to,n.ty,b,CO Op.bytesLess GP.key nm n.props⟩) hg (by omega) ha.iE hz1.1 hz1.2
  refine Ac rfl rfl ?_
  show vC _ _ [(0,g.av),(1,.agg [.int .i64 8,.int .i64 z,.int .i64 fr,.int .i64 to,.str nm,.int .i64 v.k,.int .i64 v.n,.int .i64 v.d,.str v.s,.sl v.nn v.l]),(2,n.av)] _ _
  (conv=>whnf);repeat' (first|((first|refine Aa hw ?_|refine Aa hpn ?_);rintro _ rfl;conv=>whnf)|(refine kA ?_;conv=>whnf)|(refine Br.mk (fun hc=>?_) fun hc=>?_<;>first|exact hc.elim|conv=>whnf)|(refine kB ?_))
  all_goals first
   |exact WJ (m:=⟨n.id,n.fr,n.to,n.ty,b,CO Op.bytesLess GP.key nm n.props⟩) hg hN hx ⟨n,hm,rfl⟩ (Uf (x:=⟨nm,v⟩) hno ⟨hnm,hv⟩ (Le (by omega)) hb (fun y hy=>.inr (Ei hy))) rfl rfl
 ·rw[if_neg hc1]
  have hw:=VO (P:=n.props) (nn:=n.pn) (key:=nm) (by omega) hn.iP hv hc1
  have h16:=Afz (key:=nm) (v:=v) hlP
  by_cases h5:(∃ p∈n.props,GP.key p=nm)∨n.props.length<16
  ·rw[if_pos h5]
   rw[decide_eq_true (h16.2 h5)]at hw
   have hpn:=Acu (g:=g) (n:=⟨n.id,n.fr,n.to,n.ty,true,Ba Op.bytesLess GP.key ⟨nm,v⟩ n.props⟩) hg (by omega) ha.iE hz1.1 hz1.2
   refine Ac rfl rfl ?_
   show vC _ _ [(0,g.av),(1,.agg [.int .i64 8,.int .i64 z,.int .i64 fr,.int .i64 to,.str nm,.int .i64 v.k,.int .i64 v.n,.int .i64 v.d,.str v.s,.sl v.nn v.l]),(2,n.av)] _ _
   (conv=>whnf);repeat' (first|((first|refine Aa hw ?_|refine Aa hpn ?_);rintro _ rfl;conv=>whnf)|(refine kA ?_;conv=>whnf)|(refine Br.mk (fun hc=>?_) fun hc=>?_<;>first|exact hc.elim|conv=>whnf)|(refine kB ?_))
   all_goals first
     |exact WJ (m:=⟨n.id,n.fr,n.to,n.ty,true,Ba Op.bytesLess GP.key ⟨nm,v⟩ n.props⟩) hg hN hx ⟨n,hm,rfl⟩ (Uf (x:=⟨nm,v⟩) hno ⟨hnm,hv⟩ (Ld (by omega)) (fun h=>Bool.noConfusion h) (fun y hy=>BU Aq hy)) rfl rfl
  ·rw[if_neg h5]
   rw[decide_eq_false (fun h=>h5 (h16.1 h))]at hw
   refine Ac rfl rfl ?_
   show vC _ _ [(0,g.av),(1,.agg [.int .i64 8,.int .i64 z,.int .i64 fr,.int .i64 to,.str nm,.int .i64 v.k,.int .i64 v.n,.int .i64 v.d,.str v.s,.sl v.nn v.l]),(2,n.av)] _ _
   (conv=>whnf);repeat' (first|(refine Aa hw ?_;rintro _ rfl;conv=>whnf)|(refine kA ?_;conv=>whnf)|(refine Br.mk (fun hc=>?_) fun hc=>?_<;>first|exact hc.elim|conv=>whnf)|(refine kB ?_))
   all_goals first
     |exact CV.no rfl (by decide)
set_option maxHeartbeats 2000000 in
theorem AeP (hg:g.ok) (hE:g.edges.length≤2900) (ha:F6 g) (hf:g.edges.find? (fun n=>decide (n.id=z))=some n):
 Ae (Ad tab) 101 [g.av,(⟨7,z,fr,to,nm,v⟩:GC).av,n.av] (CV (Bz g ⟨7,z,fr,to,nm,v⟩)):=by
 have hG:Bz g ⟨7,z,fr,to,nm,v⟩=(0,{g with edges:=CO CB GE.id z g.edges}):=by
  unfold Bz;dsimp only;rw[if_neg (by decide),hf];rfl
 rw[hG,Kr Ar ha.iE]
 refine Ac rfl rfl ?_
 show vC _ _ [(0,g.av),(1,.agg [.int .i64 7,.int .i64 z,.int .i64 fr,.int .i64 to,.str nm,.int .i64 v.k,.int .i64 v.n,.int .i64 v.d,.str v.s,.sl v.nn v.l]),(2,n.av)] _ _
 (conv=>whnf);repeat' (first  |(refine kA ?_;conv=>whnf)|(refine Br.mk (fun hc=>?_) fun hc=>?_<;>first|exact hc.elim|conv=>whnf)|(refine kB ?_))
 refine Ag (fun m env s=>∃(i c' go k:Nat) (f:Bool) (l:List GE),m=g.edges.length-i∧i≤g.edges.length∧k=l.length∧l.length≤i∧(f=false→l=[])∧l=(g.edges.take i).filter (fun a=>decide (GE.id a≠z))∧env=[(3,.ref 0 0 0 0),(4,.ref 1 1 0 0),(6,.ref 3 3 0 0),(10,.own 4 go 0 k),(11,.int .i64 i)]∧s=⟨[.arr 0 4 true true [g.av],.arr 1 10 true true [(⟨7,z,fr,to,nm,v⟩:GC).av],.arr 2 5 true true [n.av],.arr 3 4 true true [.agg [.sl false [],.sl false [],.int .i64 0,.int .i64 0]],.arr go 5 f true (vs GE.av l)],c'⟩) ?_ _ _ _ ⟨0,_,_,0,_,[],rfl,by omega,rfl,by simp,fun _=>rfl,by simp,rfl,rfl⟩
 rintro _ _ _ ⟨i,c',go,k,f,l,rfl,hi,hk,hl,hff,hx,rfl,rfl⟩
 refine⟨rfl,?_⟩
 subst hk
 by_cases hlt:i<g.edges.length
 ·have hs:=List.take_succ_eq_append_getElem hlt
  (conv=>whnf);repeat' (first|(refine Ih (x:=g.edges[i]) cellsE rfl (by omega) ?_;conv=>whnf)|(refine kA ?_;conv=>whnf)|(refine Br.mk (fun hc=>?_) fun hc=>?_<;>first|exact hc.elim|conv=>whnf)|(refine kB ?_))
  all_goals first
   |exact again.mk ⟨_,by omega,i+1,_,_,_,_,l++[g.edges[i]],rfl,by omega,by simp,by simp;omega,fun h=>Bool.noConfusion h,by rw[hs,List.filter_append,←hx,List.filter_cons_of_pos (by simp;omega),List.filter_nil],rfl,rfl⟩
   |exact again.mk ⟨_,by omega,i+1,_,_,_,_,l,rfl,by omega,rfl,by omega,hff,by rw[hs,List.filter_append,←hx,List.filter_cons_of_neg (by simp;omega),List.filter_nil,List.append_nil],rfl,rfl⟩
 ·rw[show i=g.edges.length by omega,List.take_length]at hx
  (conv=>whnf);repeat' (first  |(refine kA ?_;conv=>whnf)|(refine Br.mk (fun hc=>?_) fun hc=>?_<;>first|exact hc.elim|conv=>whnf)|(refine kB ?_))
  refine Ah (x:=GG.av ⟨g.nn,g.nodes,f,l,g.Bv,g.BD⟩) ?_ ?_
  ·exact AbX (m:=999978) (a:=.sl g.nn (vs GN.av g.nodes)) (b:=.own 4 go 0 l.length) (N:=g.Bv) (E:=g.BD) (fun _=>rfl) (fun _=>AbW rfl rfl)
  (conv=>whnf);repeat' (first  |(refine kA ?_;conv=>whnf)|(refine Br.mk (fun hc=>?_) fun hc=>?_<;>first|exact hc.elim|conv=>whnf)|(refine kB ?_))
  subst hx
  obtain⟨g1,g2,g3,g4,g5,g6,g7,g8⟩:=hg
  exact CV.yes (h:=⟨g.nn,g.nodes,f,_,g.Bv,g.BD⟩) rfl rfl ⟨g1,g2,g3,by unfold Ln;dsimp only;omega,hff,fun x hx=>g6 x ((List.mem_filter.1 hx).1),g7,g8⟩
end
theorem WO {α:Type} {p:α→Bool} {l:List α} (h:l.find? p=none):¬∃n∈l,p n=true:=by
 rw[List.find?_eq_none]at h
 rintro⟨n,hn,e⟩
 exact h n hn e
theorem L6 (l:List GN) (z:Int):(∃ n,l.find? (fun n=>decide (n.id=z))=some n∧TM l z=.BL [n.av,.bool true]∧∃n∈l,n.id=z)∨(l.find? (fun n=>decide (n.id=z))=none∧TM l z=.BL [N0.av,.bool false]∧¬∃n∈l,n.id=z):=by
 unfold TM isN
 cases h:l.find? (fun n=>decide (n.id=z))with
 |none=>exact .inr ⟨rfl,rfl,fun⟨n,hn,e⟩=>WO h ⟨n,hn,decide_eq_true e⟩⟩
 |some n=>exact .inl ⟨n,rfl,rfl,n,(DW h).1,of_decide_eq_true (DW h).2⟩
theorem PE (l:List GE) (z:Int):(∃ n,l.find? (fun n=>decide (n.id=z))=some n∧TP l z=.BL [n.av,.bool true]∧∃n∈l,n.id=z)∨(l.find? (fun n=>decide (n.id=z))=none∧TP l z=.BL [E0.av,.bool false]∧¬∃n∈l,n.id=z):=by
 unfold TP isE
 cases h:l.find? (fun n=>decide (n.id=z))with
 |none=>exact .inr ⟨rfl,rfl,fun⟨n,hn,e⟩=>WO h ⟨n,hn,decide_eq_true e⟩⟩
 |some n=>exact .inl ⟨n,rfl,rfl,n,(DW h).1,of_decide_eq_true (DW h).2⟩
theorem no1 {g:GG} {c:GC} (h:c.op=1) (hx:∃n∈g.nodes,n.id=c.id):AY g c=(7,g):=by unfold AY;rw[if_pos h,if_pos hx]
theorem Ak0 {g:GG} {c:GC} (h:c.op=1) (hx:¬∃n∈g.nodes,n.id=c.id) (hl:¬g.nodes.length<2000):AY g c=(20,g):=by unfold AY;rw[if_pos h,if_neg hx,if_neg hl]
theorem Ak1 {g:GG} {c:GC} (h:c.op=1) (hx:¬∃n∈g.nodes,n.id=c.id) (hl:g.nodes.length<2000):AY g c=(0,{g with nn:=true,nodes:=Ba CB GN.id ⟨c.id,false,[],false,[]⟩ g.nodes,Bv:=if c.id+1>g.Bv then c.id+1 else g.Bv}):=by unfold AY;rw[if_pos h,if_neg hx,if_pos hl]
theorem AeQ {g:GG} {c:GC} (h:c.op≠1) (hx:g.nodes.find? (fun n=>decide (n.id=c.id))=none):AY g c=(10,g):=by unfold AY;rw[if_neg h,hx]
theorem no6 {g:GG} {c:GC} (h:c.op=6) (hx:∃n∈g.edges,n.id=c.id):Bz g c=(7,g):=by unfold Bz;rw[if_pos h,if_pos hx]
theorem AiT {g:GG} {c:GC} (h:c.op=6) (hx:¬∃n∈g.edges,n.id=c.id) (hn:¬((∃ n∈g.nodes,n.id=c.fr)∧(∃ n∈g.nodes,n.id=c.to))):Bz g c=(10,g):=by unfold Bz;rw[if_pos h,if_neg hx,if_neg hn]
theorem Ak2 {g:GG} {c:GC} (h:c.op=6) (hx:¬∃n∈g.edges,n.id=c.id) (hn:(∃ n∈g.nodes,n.id=c.fr)∧(∃ n∈g.nodes,n.id=c.to)) (hl:g.edges.length<4000):Bz g c=(0,{g with en:=true,edges:=Ba CB GE.id ⟨c.id,c.fr,c.to,c.name,false,[]⟩ g.edges,BD:=if c.id+1>g.BD then c.id+1 else g.BD}):=by unfold Bz;rw[if_pos h,if_neg hx,if_pos hn,if_pos hl]
theorem AiU {g:GG} {c:GC} (h:c.op≠6) (hx:g.edges.find? (fun n=>decide (n.id=c.id))=none):Bz g c=(11,g):=by unfold Bz;rw[if_neg h,hx]
set_option maxHeartbeats 8000000 in
theorem AiV {g:GG} {c:GC} (hg:g.ok) (hN:g.nodes.length≤2900) (hE:g.edges.length≤2900) (ha:F6 g) (hx:QW g) (hc:c.ok):
 Ae (Ad tab) 44 [g.av,c.av] (CV (stepG g c)):=by
 have hck:=AgZ hc
 by_cases h0:Ir c=0
 rotate_left
 ·have hG:stepG g c=(Ir c,g):=by unfold stepG;rw[if_pos h0]
  rw[hG]
  generalize Ir c=e at hck h0 ⊢
  refine Ac rfl rfl ?_
  (conv=>whnf);repeat' (first|(refine Aa hck ?_;rintro _ rfl;conv=>whnf)|(refine kA ?_;conv=>whnf)|(refine Br.mk (fun hc=>?_) fun hc=>?_<;>first|exact hc.elim|conv=>whnf)|(refine kB ?_))
  all_goals first|exact CV.no rfl h0|(exfalso;omega)
 rw[h0]at hck
 obtain⟨hop,hid,_,h6,_⟩:=AdD h0
 obtain⟨c1,c2,c3,c4,c5,c6⟩:=hc
 have hG:stepG g c=if c.op≤5 then AY g c else Bz g c:=by unfold stepG;rw[if_neg (fun k=>k h0)]
 rw[hG]
 clear hG h0
 have hn:=AcO (g:=g) (id:=c.id) (by omega)
 have he:=AiW (g:=g) (id:=c.id) (by omega)
 have hf:=AcO (g:=g) (id:=c.fr) (by omega)
 have ht:=AcO (g:=g) (id:=c.to) (by omega)
 obtain⟨op,z,fr,to,nm,v⟩:=c
 dsimp only at hop hid h6 hn he hf ht c1 c2 c3 c4 c5 c6 ⊢
 have hz1:1≤z∧z≤1000000:=hid
 have hpn:=Va (g:=g) (n:=⟨z,false,[],false,[]⟩) hg (by omega) ha.iN hz1.1 hz1.2
 have hpe:=Acu (g:=g) (n:=⟨z,fr,to,nm,false,[]⟩) hg (by omega) ha.iE hz1.1 hz1.2
 have hg7:=hg.2.2.2.2.2.2.1
 have hg8:=hg.2.2.2.2.2.2.2
 have hI7:I64 (if z+1>g.Bv then z+1 else g.Bv):=by unfold I64 at *;split<;>omega
 have hI8:I64 (if z+1>g.BD then z+1 else g.BD):=by unfold I64 at *;split<;>omega
 have hd:op=1∨op=2∨op=3∨op=4∨op=5∨op=6∨op=7∨op=8:=by omega
 rcases hd with rfl|rfl|rfl|rfl|rfl|rfl|rfl|rfl
 ·rw[if_pos (by decide)]
  obtain⟨_,⟨e,be,rfl⟩,he⟩:=(Ae.mono (R':=fun w=>∃(e:GE) (b:Bool),w=.BL [e.av,.bool b]) he (fun w h=>by rcases PE g.edges z with⟨e,_,ee,_⟩|⟨_,ee,_⟩<;>rw[ee]at h<;>exact⟨_,_,h⟩)).J4
  rcases L6 g.nodes z with⟨n,fn,en,xn⟩|⟨fn,en,xn⟩<;>rw[en]at hn
  ·refine Ac rfl rfl ?_
   show vC _ _ [(0,g.av),(1,.agg [.int .i64 1,.int .i64 z,.int .i64 fr,.int .i64 to,.str nm,.int .i64 v.k,.int .i64 v.n,.int .i64 v.d,.str v.s,.sl v.nn v.l])] _ _
   (conv=>whnf);repeat' (first|((first|refine Aa hck ?_|refine Aa hn ?_|refine Aa he ?_);rintro _ rfl;conv=>whnf)|(refine kA ?_;conv=>whnf)|(refine Br.mk (fun hc=>?_) fun hc=>?_<;>first|exact hc.elim|conv=>whnf)|(refine kB ?_))
   all_goals first|exact CV.no (no1 rfl xn) (by decide)|(exfalso;omega)
  ·refine Ac rfl rfl ?_
   show vC _ _ [(0,g.av),(1,.agg [.int .i64 1,.int .i64 z,.int .i64 fr,.int .i64 to,.str nm,.int .i64 v.k,.int .i64 v.n,.int .i64 v.d,.str v.s,.sl v.nn v.l])] _ _
   (conv=>whnf);repeat' (first|((first|refine Aa hck ?_|refine Aa hn ?_|refine Aa he ?_|refine Aa hpn ?_);rintro _ rfl;conv=>whnf)|(refine kA ?_;conv=>whnf)|(refine Br.mk (fun hc=>?_) fun hc=>?_<;>first|exact hc.elim|conv=>whnf)|(refine kB ?_))
   all_goals first
     |exact CV.no (Ak0 rfl xn (by omega)) (by decide)
     |exact CV.yes (h:=⟨true,_,g.en,g.edges,_,g.BD⟩) (Ak1 rfl xn (by omega)) rfl (PX hg (Yu c2) (Ko Ar (by omega)) (fun x hx=>BU Ar hx) hI7)
     |(exfalso;omega)
 ·rw[if_pos (by decide)]
  obtain⟨_,⟨e,be,rfl⟩,he⟩:=(Ae.mono (R':=fun w=>∃(e:GE) (b:Bool),w=.BL [e.av,.bool b]) he (fun w h=>by rcases PE g.edges z with⟨e,_,ee,_⟩|⟨_,ee,_⟩<;>rw[ee]at h<;>exact⟨_,_,h⟩)).J4
  rcases L6 g.nodes z with⟨n,fn,en,xn⟩|⟨fn,en,xn⟩<;>rw[en]at hn
  ·refine Ac rfl rfl ?_
   show vC _ _ [(0,g.av),(1,.agg [.int .i64 2,.int .i64 z,.int .i64 fr,.int .i64 to,.str nm,.int .i64 v.k,.int .i64 v.n,.int .i64 v.d,.str v.s,.sl v.nn v.l])] _ _
   (conv=>whnf);repeat' (first|((first|refine Aa hck ?_|refine Aa hn ?_|refine Aa he ?_);rintro _ rfl;conv=>whnf)|(refine Aa (Aed hg hN hE ha c5 fn) ?_;rintro _ ⟨h,rfl,q1,q2⟩;conv=>whnf)|(refine kA ?_;conv=>whnf)|(refine Br.mk (fun hc=>?_) fun hc=>?_<;>first|exact hc.elim|conv=>whnf)|(refine kB ?_))
   all_goals first|exact⟨h,rfl,q1,q2⟩
  ·refine Ac rfl rfl ?_
   show vC _ _ [(0,g.av),(1,.agg [.int .i64 2,.int .i64 z,.int .i64 fr,.int .i64 to,.str nm,.int .i64 v.k,.int .i64 v.n,.int .i64 v.d,.str v.s,.sl v.nn v.l])] _ _
   (conv=>whnf);repeat' (first|((first|refine Aa hck ?_|refine Aa hn ?_|refine Aa he ?_);rintro _ rfl;conv=>whnf)|(refine kA ?_;conv=>whnf)|(refine Br.mk (fun hc=>?_) fun hc=>?_<;>first|exact hc.elim|conv=>whnf)|(refine kB ?_))
   all_goals first|exact CV.no (AeQ (show (2:Int)≠1 by decide) fn) (by decide)
 ·rw[if_pos (by decide)]
  obtain⟨_,⟨e,be,rfl⟩,he⟩:=(Ae.mono (R':=fun w=>∃(e:GE) (b:Bool),w=.BL [e.av,.bool b]) he (fun w h=>by rcases PE g.edges z with⟨e,_,ee,_⟩|⟨_,ee,_⟩<;>rw[ee]at h<;>exact⟨_,_,h⟩)).J4
  rcases L6 g.nodes z with⟨n,fn,en,xn⟩|⟨fn,en,xn⟩<;>rw[en]at hn
  ·refine Ac rfl rfl ?_
   show vC _ _ [(0,g.av),(1,.agg [.int .i64 3,.int .i64 z,.int .i64 fr,.int .i64 to,.str nm,.int .i64 v.k,.int .i64 v.n,.int .i64 v.d,.str v.s,.sl v.nn v.l])] _ _
   (conv=>whnf);repeat' (first|((first|refine Aa hck ?_|refine Aa hn ?_|refine Aa he ?_);rintro _ rfl;conv=>whnf)|(refine Aa (Aez hg hN ha hx hid c5 fn) ?_;rintro _ ⟨h,rfl,q1,q2⟩;conv=>whnf)|(refine kA ?_;conv=>whnf)|(refine Br.mk (fun hc=>?_) fun hc=>?_<;>first|exact hc.elim|conv=>whnf)|(refine kB ?_))
   all_goals first|exact⟨h,rfl,q1,q2⟩
  ·refine Ac rfl rfl ?_
   show vC _ _ [(0,g.av),(1,.agg [.int .i64 3,.int .i64 z,.int .i64 fr,.int .i64 to,.str nm,.int .i64 v.k,.int .i64 v.n,.int .i64 v.d,.str v.s,.sl v.nn v.l])] _ _
   (conv=>whnf);repeat' (first|((first|refine Aa hck ?_|refine Aa hn ?_|refine Aa he ?_);rintro _ rfl;conv=>whnf)|(refine kA ?_;conv=>whnf)|(refine Br.mk (fun hc=>?_) fun hc=>?_<;>first|exact hc.elim|conv=>whnf)|(refine kB ?_))
   all_goals first|exact CV.no (AeQ (show (3:Int)≠1 by decide) fn) (by decide)
 ·rw[if_pos (by decide)]
  obtain⟨_,⟨e,be,rfl⟩,he⟩:=(Ae.mono (R':=fun w=>∃(e:GE) (b:Bool),w=.BL [e.av,.bool b]) he (fun w h=>by rcases PE g.edges z with⟨e,_,ee,_⟩|⟨_,ee,_⟩<;>rw[ee]at h<;>exact⟨_,_,h⟩)).J4
  rcases L6 g.nodes z with⟨n,fn,en,xn⟩|⟨fn,en,xn⟩<;>rw[en]at hn
  ·refine Ac rfl rfl ?_
   show vC _ _ [(0,g.av),(1,.agg [.int .i64 4,.int .i64 z,.int .i64 fr,.int .i64 to,.str nm,.int .i64 v.k,.int .i64 v.n,.int .i64 v.d,.str v.s,.sl v.nn v.l])] _ _
   (conv=>whnf);repeat' (first|((first|refine Aa hck ?_|refine Aa hn ?_|refine Aa he ?_);rintro _ rfl;conv=>whnf)|(refine Aa (AeB hg hN ha hx hid c5 fn) ?_;rintro _ ⟨h,rfl,q1,q2⟩;conv=>whnf)|(refine kA ?_;conv=>whnf)|(refine Br.mk (fun hc=>?_) fun hc=>?_<;>first|exact hc.elim|conv=>whnf)|(refine kB ?_))
   all_goals first|exact⟨h,rfl,q1,q2⟩
  ·refine Ac rfl rfl ?_
   show vC _ _ [(0,g.av),(1,.agg [.int .i64 4,.int .i64 z,.int .i64 fr,.int .i64 to,.str nm,.int .i64 v.k,.int .i64 v.n,.int .i64 v.d,.str v.s,.sl v.nn v.l])] _ _
   (conv=>whnf);repeat' (first|((first|refine Aa hck ?_|refine Aa hn ?_|refine Aa he ?_);rintro _ rfl;conv=>whnf)|(refine kA ?_;conv=>whnf)|(refine Br.mk (fun hc=>?_) fun hc=>?_<;>first|exact hc.elim|conv=>whnf)|(refine kB ?_))
   all_goals first|exact CV.no (AeQ (show (4:Int)≠1 by decide) fn) (by decide)
 ·rw[if_pos (by decide)]
  obtain⟨_,⟨e,be,rfl⟩,he⟩:=(Ae.mono (R':=fun w=>∃(e:GE) (b:Bool),w=.BL [e.av,.bool b]) he (fun w h=>by rcases PE g.edges z with⟨e,_,ee,_⟩|⟨_,ee,_⟩<;>rw[ee]at h<;>exact⟨_,_,h⟩)).J4
  rcases L6 g.nodes z with⟨n,fn,en,xn⟩|⟨fn,en,xn⟩<;>rw[en]at hn
  ·refine Ac rfl rfl ?_
   show vC _ _ [(0,g.av),(1,.agg [.int .i64 5,.int .i64 z,.int .i64 fr,.int .i64 to,.str nm,.int .i64 v.k,.int .i64 v.n,.int .i64 v.d,.str v.s,.sl v.nn v.l])] _ _
   (conv=>whnf);repeat' (first|((first|refine Aa hck ?_|refine Aa hn ?_|refine Aa he ?_);rintro _ rfl;conv=>whnf)|(refine Aa (AeC hg hN ha hx hid c5 c6 fn) ?_;rintro _ ⟨h,rfl,q1,q2⟩;conv=>whnf)|(refine kA ?_;conv=>whnf)|(refine Br.mk (fun hc=>?_) fun hc=>?_<;>first|exact hc.elim|conv=>whnf)|(refine kB ?_))
   all_goals first|exact⟨h,rfl,q1,q2⟩
  ·refine Ac rfl rfl ?_
   show vC _ _ [(0,g.av),(1,.agg [.int .i64 5,.int .i64 z,.int .i64 fr,.int .i64 to,.str nm,.int .i64 v.k,.int .i64 v.n,.int .i64 v.d,.str v.s,.sl v.nn v.l])] _ _
   (conv=>whnf);repeat' (first|((first|refine Aa hck ?_|refine Aa hn ?_|refine Aa he ?_);rintro _ rfl;conv=>whnf)|(refine kA ?_;conv=>whnf)|(refine Br.mk (fun hc=>?_) fun hc=>?_<;>first|exact hc.elim|conv=>whnf)|(refine kB ?_))
   all_goals first|exact CV.no (AeQ (show (5:Int)≠1 by decide) fn) (by decide)
 ·rw[if_neg (by decide)]
  obtain⟨_,⟨e,be,rfl⟩,hn⟩:=(Ae.mono (R':=fun w=>∃(e:GN) (b:Bool),w=.BL [e.av,.bool b]) hn (fun w h=>by rcases L6 g.nodes z with⟨e,_,ee,_⟩|⟨_,ee,_⟩<;>rw[ee]at h<;>exact⟨_,_,h⟩)).J4
  rcases PE g.edges z with⟨n,fn,en,xn⟩|⟨fn,en,xn⟩<;>rw[en]at he<;>rcases L6 g.nodes fr with⟨nf,ff,ef,xf⟩|⟨ff,ef,xf⟩<;>rw[ef]at hf<;>rcases L6 g.nodes to with⟨nt,ft,et,xt⟩|⟨ft,et,xt⟩<;>rw[et]at ht
  all_goals
   refine Ac rfl rfl ?_
   show vC _ _ [(0,g.av),(1,.agg [.int .i64 6,.int .i64 z,.int .i64 fr,.int .i64 to,.str nm,.int .i64 v.k,.int .i64 v.n,.int .i64 v.d,.str v.s,.sl v.nn v.l])] _ _
   (conv=>whnf);repeat' (first|((first|refine Aa hck ?_|refine Aa hn ?_|refine Aa he ?_|refine Aa hf ?_|refine Aa ht ?_|refine Aa hpe ?_);rintro _ rfl;conv=>whnf)|(refine kA ?_;conv=>whnf)|(refine Br.mk (fun hc=>?_) fun hc=>?_<;>first|exact hc.elim|conv=>whnf)|(refine kB ?_))
   all_goals first
     |exact CV.no (no6 rfl xn) (by decide)
     |exact CV.no (AiT rfl xn (fun h=>xf h.1)) (by decide)
     |exact CV.no (AiT rfl xn (fun h=>xt h.2)) (by decide)
     |exact CV.yes (h:=⟨g.nn,g.nodes,true,_,g.Bv,_⟩) (Ak2 rfl xn ⟨xf,xt⟩ (by omega)) rfl (PY hg (Yv c2 c3 c4 c5) (Ko Ar (by omega)) (fun x hx=>BU Ar hx) hI8)
     |(exfalso;omega)
 ·rw[if_neg (by decide)]
  obtain⟨_,⟨e,be,rfl⟩,hn⟩:=(Ae.mono (R':=fun w=>∃(e:GN) (b:Bool),w=.BL [e.av,.bool b]) hn (fun w h=>by rcases L6 g.nodes z with⟨e,_,ee,_⟩|⟨_,ee,_⟩<;>rw[ee]at h<;>exact⟨_,_,h⟩)).J4
  rcases PE g.edges z with⟨n,fn,en,xn⟩|⟨fn,en,xn⟩<;>rw[en]at he
  ·refine Ac rfl rfl ?_
   show vC _ _ [(0,g.av),(1,.agg [.int .i64 7,.int .i64 z,.int .i64 fr,.int .i64 to,.str nm,.int .i64 v.k,.int .i64 v.n,.int .i64 v.d,.str v.s,.sl v.nn v.l])] _ _
   (conv=>whnf);repeat' (first|((first|refine Aa hck ?_|refine Aa hn ?_|refine Aa he ?_);rintro _ rfl;conv=>whnf)|(refine Aa (AeP hg hE ha fn) ?_;rintro _ ⟨h,rfl,q1,q2⟩;conv=>whnf)|(refine kA ?_;conv=>whnf)|(refine Br.mk (fun hc=>?_) fun hc=>?_<;>first|exact hc.elim|conv=>whnf)|(refine kB ?_))
   all_goals first|exact⟨h,rfl,q1,q2⟩
  ·refine Ac rfl rfl ?_
   show vC _ _ [(0,g.av),(1,.agg [.int .i64 7,.int .i64 z,.int .i64 fr,.int .i64 to,.str nm,.int .i64 v.k,.int .i64 v.n,.int .i64 v.d,.str v.s,.sl v.nn v.l])] _ _
   (conv=>whnf);repeat' (first|((first|refine Aa hck ?_|refine Aa hn ?_|refine Aa he ?_);rintro _ rfl;conv=>whnf)|(refine kA ?_;conv=>whnf)|(refine Br.mk (fun hc=>?_) fun hc=>?_<;>first|exact hc.elim|conv=>whnf)|(refine kB ?_))
   all_goals first|exact CV.no (AiU (show (7:Int)≠6 by decide) fn) (by decide)
 ·rw[if_neg (by decide)]
  obtain⟨_,⟨e,be,rfl⟩,hn⟩:=(Ae.mono (R':=fun w=>∃(e:GN) (b:Bool),w=.BL [e.av,.bool b]) hn (fun w h=>by rcases L6 g.nodes z with⟨e,_,ee,_⟩|⟨_,ee,_⟩<;>rw[ee]at h<;>exact⟨_,_,h⟩)).J4
  rcases PE g.edges z with⟨n,fn,en,xn⟩|⟨fn,en,xn⟩<;>rw[en]at he
  ·refine Ac rfl rfl ?_
   show vC _ _ [(0,g.av),(1,.agg [.int .i64 8,.int .i64 z,.int .i64 fr,.int .i64 to,.str nm,.int .i64 v.k,.int .i64 v.n,.int .i64 v.d,.str v.s,.sl v.nn v.l])] _ _
   (conv=>whnf);repeat' (first|((first|refine Aa hck ?_|refine Aa hn ?_|refine Aa he ?_);rintro _ rfl;conv=>whnf)|(refine Aa (AeO hg hE ha hx hid c5 c6 fn) ?_;rintro _ ⟨h,rfl,q1,q2⟩;conv=>whnf)|(refine kA ?_;conv=>whnf)|(refine Br.mk (fun hc=>?_) fun hc=>?_<;>first|exact hc.elim|conv=>whnf)|(refine kB ?_))
   all_goals first|exact⟨h,rfl,q1,q2⟩
  ·refine Ac rfl rfl ?_
   show vC _ _ [(0,g.av),(1,.agg [.int .i64 8,.int .i64 z,.int .i64 fr,.int .i64 to,.str nm,.int .i64 v.k,.int .i64 v.n,.int .i64 v.d,.str v.s,.sl v.nn v.l])] _ _
   (conv=>whnf);repeat' (first|((first|refine Aa hck ?_|refine Aa hn ?_|refine Aa he ?_);rintro _ rfl;conv=>whnf)|(refine kA ?_;conv=>whnf)|(refine Br.mk (fun hc=>?_) fun hc=>?_<;>first|exact hc.elim|conv=>whnf)|(refine kB ?_))
   all_goals first|exact CV.no (AiU (show (8:Int)≠6 by decide) fn) (by decide)
end AI
end Go.Proofs.YtceiccjppfapjaaGreatDoor
