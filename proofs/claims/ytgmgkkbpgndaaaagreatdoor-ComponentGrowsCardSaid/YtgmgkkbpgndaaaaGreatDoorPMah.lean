/- The reference's bare values and strings. The reference's check of values that may be stored, of labels and properties. The reference's Check of a graph. The reference's Weak. Labels: two edges are joined in either order. Plain. Lists in the order of a key: looking a place up, putting in, taking out. No program in sight. Lists in the order of a key, looked up by key: plain. What a change leaves alone: plain. Changes as arguments. Looking for the first. The reference looks up nodes and edges. The budget of a graph; names and types; entries. Looking for the first: good properties. Small values. A value cloned reads as the value. Clones: they read as what was cloned. The program looks up nodes and edges. Sorting in place: lists of a store against arrays of the library's plain sort. math/bits.Len and the next power of two. Orders: lexicographic, of numbers, of strings; the first that is not 0. Valid values, and values that are alike: plain. Valid fractions: the program's. Valid fractions: the reference's. The program's wide numbers: products, sums, signs; fractions compared. The reference's wide numbers: they are reckoned without a panic. The reference's numbers, classes, strings compared. The reference's comparison of a fraction with itself. Numbers by their digits to the base 1000: plain. The reference's wide numbers: what their product and their order are. -/
import Derived.Test.YtgmgkkbpgndaaaaGreatDoorPMag
import Derived.Test.YtgmgkkbpgndaaaaGreatDoorPMaa
import Derived.Test.YtgmgkkbpgndaaaaGreatDoorPMaf
import Derived.Test.YtgmgkkbpgndaaaaGreatDoorPGrCode
import Derived.Sort.AssemblyPlain
import Derived.Test.YtgmgkkbpgndaaaaGreatDoorPMac
set_option linter.unusedVariables false
set_option maxRecDepth 4000
namespace Go.Proofs.YtgmgkkbpgndaaaaGreatDoor
namespace AI
def Pm (v:GV) (n d s l:Bool):Prop:=(n=true∨v.n=0)∧(d=true∨v.d=0)∧(s=true∨v.s=[])∧(l=true∨v.l.length=0)
instance (v:GV) (n d s l:Bool):Decidable (Pm v n d s l):=by unfold Pm;infer_instance
theorem Afd {v:GV} {n d s l:Bool} (hl:v.l.length<2^63):Af (Ad tab) 193 [v.av,.bool n,.bool d,.bool s,.bool l] (· =.bool (decide (Pm v n d s l))):=by
 cases n<;>cases d<;>cases s<;>cases l
 all_goals
  refine Ac rfl rfl ?_
  (conv=>whnf);repeat' (first|(refine kA ?_;conv=>whnf)|(refine Br.mk (fun hc=>?_) fun hc=>?_<;>first|exact hc.elim|conv=>whnf)  |(refine kB ?_))
 all_goals first
  |(refine Bv ?_;unfold Pm;refine⟨?_,?_,?_,?_⟩<;>first|(left;rfl)|(right;first|assumption|omega))
  |(refine AB ?_;unfold Pm;rintro⟨h1,h2,h3,h4⟩;simp only[Bool.false_eq_true,false_or,true_or]at h1 h2 h3 h4;first|contradiction|omega)
theorem Ajs {s:List UInt8} (hl:s.length<2^63):Af (Ad tab) 195 [.str s] (· =.bool (decide (okS s))):=by
 refine Ac rfl rfl ?_
 (conv=>whnf);repeat' (first|(refine kA ?_;conv=>whnf)|(refine Br.mk (fun hc=>?_) fun hc=>?_<;>first|exact hc.elim|conv=>whnf)  |(refine kB ?_))
 refine Ak (fun m env s'=>∃i:Nat,m=s.length-i∧env=[(0,.str s),(3,.int .i64 i)]∧s'=⟨[],0⟩∧∀c∈s.take i,Nz c=false) ?_ _ _ _ ⟨0,rfl,rfl,rfl,by simp⟩
 rintro _ _ _ ⟨i,rfl,rfl,rfl,hx⟩
 refine⟨rfl,?_⟩
 (conv=>whnf);repeat' (first|(refine kA ?_;conv=>whnf)|(refine Br.mk (fun hc=>?_) fun hc=>?_<;>first|exact hc.elim|conv=>whnf)  |(refine kB ?_))
 all_goals first
  |exact again.mk ⟨_,by omega,i+1,rfl,rfl,rfl,BF (by omega) hx (by unfold Nz;simp;omega)⟩
  |(refine AB fun h=>?_;have:=h.2 s[i] (List.getElem_mem (by omega));unfold Nz at this;simp at this;omega)
  |(rw [List.take_of_length_le (by omega)]at hx;exact Bv ⟨by omega,hx⟩)
  |(refine AB fun h=>?_;have:=h.1;omega)
theorem AfS {v:GV} (hv:v.ok) (hk:IE v) {n:Int}:Af (Ad tab) 169 [v.av,.int .i64 n] (· =.bool (decide (DX v))):=by
 obtain⟨g1,g2,g3,g4,g5,g6,g7⟩:=hv
 unfold Ln at g4 g5
 unfold IE at hk
 refine Ac rfl rfl ?_
 (conv=>whnf);repeat' (first|(refine kA ?_;conv=>whnf)|(refine Br.mk (fun hc=>?_) fun hc=>?_<;>first|exact hc.elim|conv=>whnf)|(refine BM (Afd (v:=v) g5) (fun hb=>?_) (fun hb=>?_)<;>conv=>whnf)|(refine BM (Ajr (n:=v.n)) (fun hr=>?_) (fun hr=>?_)<;>conv=>whnf)|(refine BM (Ajs (s:=v.s) g4) (fun hr=>?_) (fun hr=>?_)<;>conv=>whnf)|(refine kB ?_))
 all_goals unfold Pm at hb
 all_goals simp only[Bool.false_eq_true,false_or,true_or,true_and]at hb
 all_goals first
  |exact Bv (AfT (by omega) hb.1 hb.2.2 hb.2.1 (by omega))
  |exact Bv (AfU (by omega) hb.1 hb.2.2 hb.2.1 hr)
  |exact Bv (AfV (by omega) hb.2.1 hb.2.2 hb.1 hr)
  |exact AB fun h=>hb ⟨h.1,AfW h (by omega),h.2.1⟩
  |exact AB fun h=>hb ⟨(AbB h (by omega)).1,h.1,h.2.1⟩
  |(refine AB fun h=>?_;have:=AfX h (by omega);omega)
  |exact AB fun h=>hr (AfY h (by omega))
  |exact AB fun h=>hr (AbB h (by omega)).2
  |(exfalso;omega)
theorem AfZ {v:GV} (hv:v.ok) (hk:IE v):Af (Ad tab) 138 [v.av] (· =.bool (decide (DX v))):=by
 refine Ac rfl rfl ?_
 (conv=>whnf);repeat' (first|(refine kA ?_;conv=>whnf)|(refine Br.mk (fun hc=>?_) fun hc=>?_<;>first|exact hc.elim|conv=>whnf)|(refine BM (AfS (v:=v) hv hk) (fun hr=>?_) (fun hr=>?_)<;>conv=>whnf)|(refine kB ?_))
 all_goals first|exact Bv (by assumption)|exact AB (by assumption)
theorem AbC {v:GV} (hv:v.ok):Af (Ad tab) 99 [v.av] (· =.bool (decide (DX v))):=by
 by_cases hk:IE v
 ·have hk':=hk
  unfold IE at hk'
  refine Ac rfl rfl ?_
  (conv=>whnf);repeat' (first|(refine kA ?_;conv=>whnf)|(refine Br.mk (fun hc=>?_) fun hc=>?_<;>first|exact hc.elim|conv=>whnf)|(refine BM (AfZ (v:=v) hv hk) (fun hr=>?_) (fun hr=>?_)<;>conv=>whnf)|(refine kB ?_))
  all_goals first|exact Bv (by assumption)|exact AB (by assumption)|(exfalso;omega)
 ·have hk':=hk
  unfold IE at hk'
  refine Ac rfl rfl ?_
  (conv=>whnf);repeat' (first|(refine kA ?_;conv=>whnf)|(refine Br.mk (fun hc=>?_) fun hc=>?_<;>first|exact hc.elim|conv=>whnf)|(refine Aa (Valid (g:=v) hv) ?_;rintro _ ⟨b,rfl⟩;conv=>whnf)|(refine kB ?_))
  all_goals first|exact AB (fun h=>hk (TP h))|(exfalso;omega)
theorem Ahx {P:List GP} {nn:Bool} (hl:P.length<2^40):Af (Ad tab) 119 [.sl nn (vs GP.av P)] (fun v=>∃b,v=.sl b (vs .str (keysOf P))):=by
 refine Ac rfl rfl ?_
 (conv=>whnf);repeat' (first|(refine kA ?_;conv=>whnf)|(refine Br.mk (fun hc=>?_) fun hc=>?_<;>first|exact hc.elim|conv=>whnf)  |(refine kB ?_))
 refine Ak (fun m env s=>∃(i c go n:Nat) (b:Bool),m=P.length-i∧i≤P.length∧n=i∧env=[(0,.sl nn (vs GP.av P)),(3,.own 0 go 0 n),(4,.int .i64 i)]∧s=⟨[.arr go 1 b true (vs .str (keysOf (P.take i)))],c⟩) ?_ _ _ _ ⟨0,_,_,0,_,rfl,by omega,rfl,rfl,rfl⟩
 rintro _ _ _ ⟨i,c,go,n,b,rfl,hi,hn,rfl,rfl⟩
 refine⟨rfl,?_⟩
 (conv=>whnf);repeat' (first|(refine IB (x:=(P[i]).key) (fun _=>rfl) (by simp;omega) (by simp;omega) ?_;conv=>whnf)|(refine kA ?_;conv=>whnf)|(refine Br.mk (fun hc=>?_) fun hc=>?_<;>first|exact hc.elim|conv=>whnf)|(refine kB ?_))
 ·exact again.mk ⟨_,by omega,i+1,_,_,_,_,rfl,by omega,by simp;omega,rfl,by rw[Pn (by omega)]⟩
 ·obtain rfl:i=P.length:=by omega
  refine⟨b,?_⟩
  rw[X4,hn]
  simp
  rw[List.take_of_length_le (by simp)]
theorem AbD {L:List (List UInt8)} {P:List GP} {ln pn:Bool} (hL:L.length<2^63) (hs:∀s∈L,s.length<2^63) (hP:P.length<2^63) (hp:∀p∈P,p.ok):Af (Ad tab) 84 [.sl ln (vs .str L),.sl pn (vs GP.av P)] (· =.int .i64 (Dt L P)):=by
 have hk:=TQ hp
 have hkl:(keysOf P).length<2^63:=by rw[MK];exact hP
 refine Ac rfl rfl ?_
 (conv=>whnf);repeat' (first|(refine kA ?_;conv=>whnf)|(refine Br.mk (fun hc=>?_) fun hc=>?_<;>first|exact hc.elim|conv=>whnf)  |(refine kB ?_))
 ·exact Nw (by omega)
 ·exact Nw (by omega)
 have h16:¬(8<L.length∨16<P.length):=by omega
 refine Aa (Ahx (P:=P) (by omega)) ?_
 rintro _ ⟨b,rfl⟩
 (conv=>whnf);repeat' (first|(refine BM (AbE hL hs) (fun h1=>?_) (fun h1=>?_)<;>conv=>whnf)|(refine BM (AbE hkl hk) (fun h2=>?_) (fun h2=>?_)<;>conv=>whnf)|(refine BM (AbF hL) (fun h3=>?_) (fun h3=>?_)<;>conv=>whnf)|(refine BM (AbF hkl) (fun h4=>?_) (fun h4=>?_)<;>conv=>whnf)|(refine kA ?_;conv=>whnf)|(refine Br.mk (fun hc=>?_) fun hc=>?_<;>first|exact hc.elim|conv=>whnf)|(refine kB ?_))
 all_goals first
  |exact Ny h16 fun h=>h1 h.1
  |exact Ny h16 fun h=>h2 h.2
  |exact KH h16 ⟨h1,h2⟩ fun h=>h3 h.1
  |exact KH h16 ⟨h1,h2⟩ fun h=>h4 h.2
  |skip
 refine Ak (fun m env s=>∃(i:Nat),m=P.length-i∧env=[(1,.sl pn (vs GP.av P)),(6,.int .i64 i)]∧s=⟨[],0⟩∧∀p∈P.take i,DX p.v) ?_ _ _ _ ⟨0,rfl,rfl,rfl,by simp⟩
 rintro _ _ _ ⟨i,rfl,rfl,rfl,hx⟩
 refine⟨rfl,?_⟩
 (conv=>whnf);repeat' (first|(refine BM (AbC (v:=(P[i]).v) (hp _ (List.getElem_mem (by omega))).2) (fun hr=>?_) (fun hr=>?_)<;>conv=>whnf)|(refine kA ?_;conv=>whnf)|(refine Br.mk (fun hc=>?_) fun hc=>?_<;>first|exact hc.elim|conv=>whnf)|(refine kB ?_))
 ·exact again.mk ⟨_,by omega,i+1,rfl,rfl,rfl,BF (by omega) hx hr⟩
 ·exact UM h16 ⟨h1,h2⟩ ⟨h3,h4⟩ fun h=>hr (h _ (List.getElem_mem _))
 ·rw[CW hc]at hx
  exact Zl h16 ⟨h1,h2⟩ ⟨h3,h4⟩ hx
theorem Afj {g:GG} (hl:g.nodes.length<2^62) {id:Int}:Af (Ad tab) 66 [g.av,.int .i64 id] (fun v=>∃n:GN,v=.Cc [n.av,.bool (decide (id∈F6 g.nodes))]):=by
 refine Ac rfl rfl ?_
 (conv=>whnf);repeat' (first|(refine kA ?_;conv=>whnf)|(refine Br.mk (fun hc=>?_) fun hc=>?_<;>first|exact hc.elim|conv=>whnf)  |(refine kB ?_))
 refine Ak (fun m env s=>∃i:Nat,m=g.nodes.length-i∧id∉F6 (g.nodes.take i)∧env=[(1,.int .i64 id),(2,.ref 0 0 0 0),(4,.ref 1 1 0 0),(6,.int .i64 i)]∧s=⟨[.arr 0 4 true true [g.av],.arr 1 3 true true [.agg [.int .i64 0,.sl false [],.sl false []]]],2⟩) ?_ _ _ _ ⟨0,rfl,by simp[F6],rfl,rfl⟩
 rintro _ _ _ ⟨i,rfl,hx,rfl,rfl⟩
 refine⟨rfl,?_⟩
 (conv=>whnf);repeat' (first|(refine kA ?_;conv=>whnf)|(refine Br.mk (fun hc=>?_) fun hc=>?_<;>first|exact hc.elim|conv=>whnf)  |(refine kB ?_))
 ·refine⟨g.nodes[i],?_⟩
  have:id∈F6 g.nodes:=hc▸List.mem_map_of_mem (List.getElem_mem _)
  rw[decide_eq_true this];rfl
 ·refine again.mk ⟨_,by omega,i+1,rfl,?_,rfl,rfl⟩
  unfold F6 at hx ⊢
  rw[List.take_succ_eq_append_getElem (by omega),List.map_append,List.mem_append]
  rintro(h|h)
  ·exact hx h
  ·simp at h;exact hc h.symm
 ·rw[CW hc]at hx
  refine⟨⟨0,false,[],false,[]⟩,?_⟩
  rw[decide_eq_false hx];rfl
theorem Ah6 {g:GG} (hg:g.ok) {i:Nat} (hi:i<g.nodes.length):Af (Ad tab) 56 [g.av,.int .i64 i] (· =.int .i64 (DW g.nodes g.Bl i)):=by
 obtain⟨g1,g2,g3,g4,g5,g6,g7,g8⟩:=hg
 unfold Ln at g1 g4
 have hat:=g3 _ (List.getElem_mem hi)
 refine Ac rfl rfl ?_
 (conv=>whnf);repeat' (first|(apply Aq;(· exact nVz (i-1) (by omega) (by omega));conv=>whnf)|(refine Aa (AbD (L:=(g.nodes[i]).labels) (P:=(g.nodes[i]).props) hat.2.1 hat.2.2.2.1 hat.2.2.2.2.1 hat.2.2.2.2.2.2) ?_;rintro _ rfl;conv=>whnf)|(refine kA ?_;conv=>whnf)|(refine Br.mk (fun hc=>?_) fun hc=>?_<;>first|exact hc.elim|conv=>whnf)|(refine kB ?_))
 all_goals first
  |(rw [VR hi (fun h=>by first|assumption|omega) (by omega)];rfl)
  |(rw [XV hi (by omega) (by assumption)];rfl)
  |(rw [node1 hi (fun h=>by first|assumption|omega) (by omega)];rfl)
set_option maxHeartbeats 1000000 in
theorem Ah7 {g:GG} (hg:g.ok) (hf:g.nodes.length<2^62) {i:Nat} (hi:i<g.edges.length):Af (Ad tab) 57 [g.av,.int .i64 i] (· =.int .i64 (DZ g.nodes g.edges g.Bq i)):=by
 obtain⟨g1,g2,g3,g4,g5,g6,g7,g8⟩:=hg
 unfold Ln at g1 g4
 have hat:=g6 _ (List.getElem_mem hi)
 refine Ac rfl rfl ?_
 (conv=>whnf);repeat' (first|(apply Aq;(· exact nVz (i-1) (by omega) (by omega));conv=>whnf)|(refine Aa (Afj (g:=g) (id:=(g.edges[i]).fr) hf) ?_;rintro _ ⟨n1,rfl⟩;conv=>whnf)|(refine Aa (Afj (g:=g) (id:=(g.edges[i]).to) hf) ?_;rintro _ ⟨n2,rfl⟩;conv=>whnf)|(refine BM (name2 (s:=(g.edges[i]).ty) hat.2.2.2.1) (fun hnm=>?_) (fun hnm=>?_)<;>conv=>whnf)|(refine Aa (AbD (L:=[]) (P:=(g.edges[i]).props) (by decide) (by simp) hat.2.2.2.2.1 hat.2.2.2.2.2.2) ?_;rintro _ rfl;conv=>whnf)|(refine kA ?_;conv=>whnf)|(refine Br.mk (fun hc=>?_) fun hc=>?_<;>first|exact hc.elim|conv=>whnf)|(refine kB ?_))
 all_goals try simp only[decide_eq_true_eq,decide_eq_false_iff_not]at*
 all_goals first
  |(rw [XY hi (by omega) (by assumption)];rfl)
  |(rw [Abn hi (fun h=>by first|assumption|omega) (by omega)];rfl)
  |(rw [VT hi (fun h=>by first|assumption|omega) (by omega) ⟨by assumption,by assumption⟩ hnm];rfl)
  |(rw [Abp hi (fun h=>by first|assumption|omega) (by omega) ⟨by assumption,by assumption⟩ hnm];rfl)
  |(rw [XZ hi (fun h=>by first|assumption|omega) (by omega) (fun h=>by first|exact absurd h.1 (by assumption)|exact absurd h.2 (by assumption))];rfl)
theorem Ab4 {g:GG} (hg:g.ok):Af (Ad tab) 34 [g.av] (· =.int .i64 (Ba g)):=by
 have hg0:=hg
 obtain⟨g1,g2,g3,g4,g5,g6,g7,g8⟩:=hg
 unfold Ln at g1 g4
 refine Ac rfl rfl ?_
 (conv=>whnf);repeat' (first|(refine kA ?_;conv=>whnf)|(refine Br.mk (fun hc=>?_) fun hc=>?_<;>first|exact hc.elim|conv=>whnf)  |(refine kB ?_))
 all_goals first|exact Abr (by unfold Ea;omega)|exact Abs (by unfold Ea;omega) (by unfold Gf;omega)|skip
 have hf:Ea g:=by unfold Ea;omega
 have hnx:Gf g:=by unfold Gf;omega
 have hf1:=hf.1
 have hf2:=hf.2
 refine Ak (fun m env s=>∃i:Nat,m=g.nodes.length-i∧i≤g.nodes.length∧(∀ k,k<i→DW g.nodes g.Bl k=0)∧env=[(1,.ref 0 0 0 0),(3,.int .i64 i)]∧s=⟨[.arr 0 4 true true [g.av]],1⟩) ?_ _ _ _ ⟨0,rfl,by omega,fun k h=>absurd h (by omega),rfl,rfl⟩
 rintro _ _ _ ⟨i,rfl,hin,hx,rfl,rfl⟩
 refine⟨rfl,?_⟩
 (conv=>whnf);repeat' (first|(refine Aa (Ah6 hg0 (i:=i) (by omega)) ?_;rintro _ rfl;conv=>whnf)|(refine kA ?_;conv=>whnf)|(refine Br.mk (fun hc=>?_) fun hc=>?_<;>first|exact hc.elim|conv=>whnf)|(refine kB ?_))
 ·exact again.mk ⟨_,by omega,i+1,rfl,by omega,IY hx hc,rfl,rfl⟩
 ·exact checkN hf hnx (by omega) hx rfl hc
 have hN:∀k,k<g.nodes.length→DW g.nodes g.Bl k=0:=fun k h=>hx k (by omega)
 refine Ak (fun m env s=>∃i:Nat,m=g.edges.length-i∧i≤g.edges.length∧(∀ k,k<i→DZ g.nodes g.edges g.Bq k=0)∧env=[(1,.ref 0 0 0 0),(5,.int .i64 i)]∧s=⟨[.arr 0 4 true true [g.av]],1⟩) ?_ _ _ _ ⟨0,rfl,by omega,fun k h=>absurd h (by omega),rfl,rfl⟩
 rintro _ _ _ ⟨j,rfl,hjn,hy,rfl,rfl⟩
 refine⟨rfl,?_⟩
 (conv=>whnf);repeat' (first|(refine Aa (Ah7 hg0 (i:=j) (by omega) (by omega)) ?_;rintro _ rfl;conv=>whnf)|(refine kA ?_;conv=>whnf)|(refine Br.mk (fun hc=>?_) fun hc=>?_<;>first|exact hc.elim|conv=>whnf)|(refine kB ?_))
 ·exact again.mk ⟨_,by omega,j+1,rfl,by omega,IY hy hc,rfl,rfl⟩
 ·exact Lu hf hnx hN (by omega) hy rfl hc
 ·exact X0 hf hnx hN fun k h=>hy k (by omega)
theorem OI (ids:List Int) (es:List (Int×Int)):(ET ids es).length=ids.length:=by
 unfold ET
 suffices h:∀(es:List (Int×Int)) (l:List (Int×Int)),(es.foldl (fun l e=>Gn l e.1 e.2) l).length=l.length by rw[h];simp
 intro es
 induction es with
 |nil=>intro l;rfl
 |cons e es ih=>
  intro l
  rw[List.foldl_cons,ih]
  unfold Gn
  split<;>simp
def Qa (types:List (List UInt8)) (g:GG) (i:Nat):List (Int×Int):=((g.edges.take i).filter fun e=>decide (HT types e)).map fun e=>(e.fr,e.to)
theorem Ab2 {types:List (List UInt8)} {g:GG} {i:Nat} (h:¬i<g.edges.length):Qa types g i=KN types g:=by
 unfold Qa KN MJ
 rw[List.take_of_length_le (by omega)]
theorem Ad4 {types:List (List UInt8)} {g:GG} {i:Nat} (h:i<g.edges.length) (he:HT types g.edges[i]):Qa types g (i+1)=Qa types g i++[((g.edges[i]).fr,(g.edges[i]).to)]:=by
 unfold Qa
 rw[List.take_succ_eq_append_getElem h,List.filter_append,List.map_append]
 simp[he]
theorem Ab3 {types:List (List UInt8)} {g:GG} {i:Nat} (h:i<g.edges.length) (he:¬HT types g.edges[i]):Qa types g (i+1)=Qa types g i:=by
 unfold Qa
 rw[List.take_succ_eq_append_getElem h,List.filter_append,List.map_append]
 simp[he]
set_option maxHeartbeats 2000000 in
theorem Afe {types:List (List UInt8)} {tn:Bool} (hl:types.length<2^63) {g:GG} (hg:g.ok) (hN:g.nodes.length<2^39) (hE:g.edges.length<2^39):
 Af (Ad tab) 28 [g.av,.sl tn (vs .str types)] (fun v=>∃b,v=.sl b (vs pv (if Ba g=0 then FH types g else[]))):=by
 have pc:=Ab4 hg
 by_cases hc:Ba g=0
 case neg=>
  rw[if_neg hc]
  refine Ac rfl rfl ?_
  (conv=>whnf);repeat' (first|(refine Aa pc ?_;rintro _ rfl;conv=>whnf)|(refine kA ?_;conv=>whnf)|(refine Br.mk (fun hc=>?_) fun hc=>?_<;>first|exact hc.elim|conv=>whnf)|(refine kB ?_))
  all_goals first|exact absurd ‹_› hc|exact⟨false,rfl⟩
 rw[if_pos hc]
 rw[hc]at pc
 refine Ac rfl rfl ?_
 (conv=>whnf);repeat' (first|(refine Aa pc ?_;rintro _ rfl;conv=>whnf)|(refine kA ?_;conv=>whnf)|(refine Br.mk (fun hc=>?_) fun hc=>?_<;>first|exact hc.elim|conv=>whnf)|(refine kB ?_))
 all_goals first|(exfalso;omega)|skip
 refine Ak (fun m env s=>∃(i c ga n:Nat) (b:Bool),m=g.nodes.length-i∧i≤g.nodes.length∧n=i∧env=[(1,.sl tn (vs .str types)),(2,.ref 0 0 0 0),(5,.own 1 ga 0 n),(6,.int .i64 i)]∧s=⟨[.arr 0 4 true true [g.av],.arr ga 2 b true (vs pv ((ET (Dn g) []).take i))],c⟩) ?_ _ _ _ ⟨0,_,_,_,_,rfl,by omega,rfl,rfl,rfl⟩
 rintro _ _ _ ⟨i,c,ga,n,b,rfl,hi,rfl,rfl,rfl⟩
 refine⟨rfl,?_⟩
 have hLl:(ET (Dn g) []).length=g.nodes.length:=by rw[OI,Hg]
 by_cases hlt:n<g.nodes.length
 ·have hsn:(ET (Dn g) []).take (n+1)=(ET (Dn g) []).take n++[((g.nodes[n]).id,(g.nodes[n]).id)]:=by
   rw[List.take_succ_eq_append_getElem (by omega)]
   simp[ET,Dn]
  have htl:((ET (Dn g) []).take n).length=n:=by rw[List.length_take];omega
  (conv=>whnf);repeat' (first|(refine IB (f:=pv) (l:=(ET (Dn g) []).take n) (x:=((g.nodes[n]).id,(g.nodes[n]).id)) JE htl.symm (by rw[htl];omega) ?_;conv=>whnf)|(refine kA ?_;conv=>whnf)|(refine Br.mk (fun hc=>?_) fun hc=>?_<;>first|exact hc.elim|conv=>whnf)|(refine kB ?_))
  all_goals first
   |(exfalso;omega)
   |(rw [← hsn];exact again.mk ⟨_,by omega,n+1,_,_,_,_,rfl,by omega,by omega,rfl,rfl⟩)
 rw[List.take_of_length_le (by omega)]
 (conv=>whnf);repeat' (first|(refine kQ ⟨QE hLl.symm⟩ ?_;conv=>whnf)|(refine kQ ⟨QE (show n=_ by omega)⟩ ?_;conv=>whnf)|(refine kA ?_;conv=>whnf)|(refine Br.mk (fun hc=>?_) fun hc=>?_<;>first|exact hc.elim|conv=>whnf)|(refine kB ?_))
 all_goals first|(exfalso;omega)|skip
 refine Ak (fun m env s=>∃(i c:Nat) (b:Bool),m=g.edges.length-i∧env=[(1,.sl tn (vs .str types)),(2,.ref 0 0 0 0),(5,.sl b (vs pv (ET (Dn g) (Qa types g i)))),(7,.int .i64 i)]∧s=⟨[.arr 0 4 true true [g.av],.dead],c⟩) ?_ _ _ _ ⟨0,_,_,rfl,rfl,rfl⟩
 clear hc hlt hi
 rintro _ _ _ ⟨i,c,b,rfl,rfl,rfl⟩
 refine⟨rfl,?_⟩
 by_cases hlt:i<g.edges.length
 ·have ph:=Ab5 (l:=types) (e:=g.edges[i]) (nn:=tn) (by omega)
  by_cases he:HT types g.edges[i]
  ·rw[decide_eq_true he]at ph
   obtain⟨_,⟨b',rfl⟩,pj⟩:=(Ahi (l:=ET (Dn g) (Qa types g i)) (a:=(g.edges[i]).fr) (b:=(g.edges[i]).to) (nn:=b) (by rw[OI,Hg];omega)).He
   rw[show Gn (ET (Dn g) (Qa types g i)) (g.edges[i]).fr (g.edges[i]).to=ET (Dn g) (Qa types g (i+1)) by rw[Ad4 hlt he,QU]]at pj
   (conv=>whnf);repeat' (first|((first|refine Aa ph ?_|refine Aa pj ?_);rintro _ rfl;conv=>whnf)|(refine kA ?_;conv=>whnf)|(refine Br.mk (fun hc=>?_) fun hc=>?_<;>first|exact hc.elim|conv=>whnf)|(refine kB ?_))
   all_goals first
        |(exfalso;omega)
        |exact again.mk ⟨_,by omega,i+1,_,_,rfl,rfl,rfl⟩
  ·rw[decide_eq_false he]at ph
   (conv=>whnf);repeat' (first|(refine Aa ph ?_;rintro _ rfl;conv=>whnf)|(refine kA ?_;conv=>whnf)|(refine Br.mk (fun hc=>?_) fun hc=>?_<;>first|exact hc.elim|conv=>whnf)|(refine kB ?_))
   all_goals first
        |(exfalso;omega)
        |(rw [← Ab3 hlt he];exact again.mk ⟨_,by omega,i+1,_,_,rfl,rfl,rfl⟩)
 ·rw[Ab2 hlt]
  (conv=>whnf);repeat' (first  |(refine kA ?_;conv=>whnf)|(refine Br.mk (fun hc=>?_) fun hc=>?_<;>first|exact hc.elim|conv=>whnf)|(refine kB ?_))
  all_goals first
   |(exfalso;omega)
   |exact⟨b,rfl⟩
def Qz (A B x:Int):Int:=if x=A∨x=B then D6 A B else x
theorem Ox {A B x:Int} (h:x=A∨x=B):Qz A B x=D6 A B:=if_pos h
theorem F8 {A B x:Int} (h1:x≠A) (h2:x≠B):Qz A B x=x:=if_neg fun h=>h.elim h1 h2
theorem Np (A B:Int):D6 A B=A∨D6 A B=B:=by unfold D6;split<;>simp
theorem min_self (A:Int):D6 A A=A:=by unfold D6;split<;>omega
theorem min_comm (A B:Int):D6 A B=D6 B A:=by unfold D6;split<;>split<;>omega
theorem min_assoc (A B C:Int):D6 (D6 A B) C=D6 A (D6 B C):=by unfold D6;repeat' split<;>omega
theorem AeX (u v w:Int):Qz u v w=Qz v u w:=by
 unfold Qz
 rw[min_comm u v]
 by_cases h:w=u∨w=v
 ·rw[if_pos h,if_pos h.symm]
 ·rw[if_neg h,if_neg fun k=>h k.symm]
theorem Z5 {A B C D:Int} (h:C=A∨C=B∨D=A∨D=B) (x:Int):Qz (Qz A B C) (Qz A B D) (Qz A B x)=if x=A∨x=B∨x=C∨x=D then D6 (D6 A B) (D6 C D)else x:=by
 have key:∀{C D:Int},C=A∨C=B→Qz (Qz A B C) (Qz A B D) (Qz A B x)=if x=A∨x=B∨x=C∨x=D then D6 (D6 A B) (D6 C D)else x:=by
  intro C D hC
  rw[Ox hC]
  have hmC:D6 (D6 A B) C=D6 A B:=by
   rcases hC with rfl|rfl
   ·rw[min_comm,←min_assoc,min_self]
   ·rw[min_assoc,min_self]
  by_cases hD:D=A∨D=B
  ·rw[Ox hD]
   have hmD:D6 (D6 A B) D=D6 A B:=by
        rcases hD with rfl|rfl
        ·rw[min_comm,←min_assoc,min_self]
        ·rw[min_assoc,min_self]
   have hall:D6 (D6 A B) (D6 C D)=D6 A B:=by rw[← min_assoc,hmC,hmD]
   rw[hall]
   by_cases hx:x=A∨x=B
   ·rw[Ox hx,Ox (.inl rfl),min_self,if_pos (by rcases hx with h|h;exact .inl h;exact .inr (.inl h))]
   ·have h1:x≠A:=fun h=>hx (.inl h)
    have h2:x≠B:=fun h=>hx (.inr h)
    have h3:¬(x=A∨x=B∨x=C∨x=D):=by omega
    rw[F8 h1 h2,if_neg h3,F8]
    ·rcases Np A B with e|e<;>rw[e]<;>assumption
    ·rcases Np A B with e|e<;>rw[e]<;>assumption
  ·have d1:D≠A:=fun h=>hD (.inl h)
   have d2:D≠B:=fun h=>hD (.inr h)
   have hall:D6 (D6 A B) (D6 C D)=D6 (D6 A B) D:=by rw[← min_assoc,hmC]
   rw[F8 d1 d2,hall]
   by_cases hx:x=A∨x=B
   ·rw[Ox hx,Ox (.inl rfl),if_pos (by rcases hx with h|h;exact .inl h;exact .inr (.inl h))]
   ·have h1:x≠A:=fun h=>hx (.inl h)
    have h2:x≠B:=fun h=>hx (.inr h)
    rw[F8 h1 h2]
    by_cases hxD:x=D
    ·rw[Ox (.inr hxD),if_pos (.inr (.inr (.inr hxD)))]
    ·have h3:¬(x=A∨x=B∨x=C∨x=D):=by omega
     rw[if_neg h3,F8 _ hxD]
     rcases Np A B with e|e<;>rw[e]<;>assumption
 by_cases hC:C=A∨C=B
 ·exact key hC
 ·have hD:D=A∨D=B:=by omega
  have h1:=key (C:=D) (D:=C) hD
  rw[AeX,h1,min_comm D C]
  by_cases h:x=A∨x=B∨x=C∨x=D
  ·rw[if_pos h,if_pos (by omega)]
  ·rw[if_neg h,if_neg (by omega)]
theorem AeY (A B C D x:Int):Qz (Qz A B C) (Qz A B D) (Qz A B x)=Qz (Qz C D A) (Qz C D B) (Qz C D x):=by
 by_cases h:C=A∨C=B∨D=A∨D=B
 ·rw[Z5 h,Z5 (by omega),min_comm (D6 A B)]
  by_cases k:x=A∨x=B∨x=C∨x=D
  ·rw[if_pos k,if_pos (by omega)]
  ·rw[if_neg k,if_neg (by omega)]
 ·have c1:C≠A:=by omega
  have c2:C≠B:=by omega
  have c3:D≠A:=by omega
  have c4:D≠B:=by omega
  rw[F8 c1 c2,F8 c3 c4,F8 (Ne.symm c1) (Ne.symm c3),F8 (Ne.symm c2) (Ne.symm c4)]
  by_cases hx:x=A∨x=B
  ·have x1:x≠C:=by omega
   have x2:x≠D:=by omega
   rw[F8 x1 x2,Ox hx,F8]
   ·rcases Np A B with e|e<;>rw[e]<;>omega
   ·rcases Np A B with e|e<;>rw[e]<;>omega
  ·rw[F8 (fun e=>hx (.inl e)) (fun e=>hx (.inr e))]
   by_cases hy:x=C∨x=D
   ·rw[Ox hy,F8]
    ·rcases Np C D with e|e<;>rw[e]<;>omega
    ·rcases Np C D with e|e<;>rw[e]<;>omega
   ·rw[F8 (fun e=>hy (.inl e)) (fun e=>hy (.inr e)),F8 (fun e=>hx (.inl e)) (fun e=>hx (.inr e))]
def jnF (r:Int→Int) (e:Int×Int):Int→Int:=fun c=>Qz (r e.1) (r e.2) (r c)
theorem Adu (r:Int→Int) (e f:Int×Int):jnF (jnF r e) f=jnF (jnF r f) e:=funext fun c=>AeY (r e.1) (r e.2) (r f.1) (r f.2) (r c)
theorem XK (x y a b:Int):(DY x y (a,b)).2=Qz x y b:=by
 unfold DY Qz
 by_cases h:b=x∨b=y
 ·rw[if_pos h,if_pos h]
 ·rw[if_neg h,if_neg h]
theorem Z7:∀(es:List (Int×Int)) (r:Int→Int) (e:Int×Int),es.foldl jnF (jnF r e)=jnF (es.foldl jnF r) e
 |[],_,_=>rfl
 |f::es,r,e=>by rw[List.foldl_cons,List.foldl_cons,Adu,Z7 es]
theorem O6 {S:List Int}:∀(es:List (Int×Int)) (r:Int→Int),(∀ e∈es,e.1∈S∧e.2∈S)→es.foldl (fun l e=>Gn l e.1 e.2) (Bj S r)=Bj S (es.foldl jnF r)
 |[],_,_=>rfl
 |e::es,r,h=>by
  obtain⟨h1,h2⟩:=h e (by simp)
  rw[List.foldl_cons,List.foldl_cons,JF h1 h2,←O6 es _ fun x hx=>h x (List.mem_cons_of_mem _ hx)]
  congr 2
  funext c
  exact XK ..
theorem AaY {S:List Int} {A B:List (Int×Int)} {e:Int×Int} (h:∀x∈A++e::B,x.1∈S∧x.2∈S):ET S (A++e::B)=Gn (ET S (A++B)) e.1 e.2:=by
 obtain⟨h1,h2⟩:=h e (by simp)
 have e1:ET S (A++e::B)=Bj S ((A++e::B).foldl jnF fun x=>x):=O6 _ _ h
 have e2:ET S (A++B)=Bj S ((A++B).foldl jnF fun x=>x):=O6 _ _ fun x hx=>h x (by
  rcases List.mem_append.1 hx with k|k
  ·exact List.mem_append_left _ k
  ·exact List.mem_append_right _ (List.mem_cons_of_mem _ k))
 rw[e1,e2,JF h1 h2,List.foldl_append,List.foldl_append,List.foldl_cons,Z7]
 congr 1
 funext c
 exact(XK ..).symm
structure MH {κ:Type} (lt:κ→κ→Bool):Prop where
 LX:∀x,lt x x=false
 tr:∀x y z,lt x y=true→lt y z=true→lt x z=true
 tot:∀x y,lt x y=false→lt y x=false→x=y
def BU (a b:Int):Bool:=decide (a<b)
theorem Aj:MH BU where
 LX:=fun x=>by simp[BU]
 tr:=fun x y z h1 h2=>by simp[BU]at *;omega
 tot:=fun x y h1 h2=>by simp[BU]at *;omega
section
variable {α κ:Type} {lt:κ→κ→Bool} {key:α→κ}
def Inc (lt:κ→κ→Bool) (key:α→κ) (l:List α):Prop:=l.Pairwise fun a b=>lt (key a) (key b)=true
def below (lt:κ→κ→Bool) (key:α→κ) (k:κ) (l:List α):List α:=l.filter fun a=>lt (key a) k
def above (lt:κ→κ→Bool) (key:α→κ) (k:κ) (l:List α):List α:=l.filter fun a=>lt k (key a)
def AY (lt:κ→κ→Bool) (key:α→κ) (x:α) (l:List α):List α:=below lt key (key x) l++[x]++above lt key (key x) l
def Cj (lt:κ→κ→Bool) (key:α→κ) (k:κ) (l:List α):List α:=below lt key k l++above lt key k l
structure AtK (lt:κ→κ→Bool) (key:α→κ) (k:κ) (l:List α) (i:Nat):Prop where
 le:i≤l.length
 lo:∀j (h:j<l.length),j<i→lt (key l[j]) k=true
 hi:∀j (h:j<l.length),i≤j→lt (key l[j]) k=false
theorem filter_all {p:α→Bool}:∀{l:List α},(∀ x∈l,p x=true)→l.filter p=l
 |[],_=>rfl
 |x::l,h=>by rw[List.filter_cons_of_pos (h x (by simp)),filter_all fun y hy=>h y (by simp[hy])]
theorem filter_none {p:α→Bool}:∀{l:List α},(∀ x∈l,p x=false)→l.filter p=[]
 |[],_=>rfl
 |x::l,h=>by rw[List.filter_cons_of_neg (by rw[h x (by simp)];simp),filter_none fun y hy=>h y (by simp[hy])]
theorem AtK.take {k:κ} {l:List α} {i:Nat} (h:AtK lt key k l i):l.take i=below lt key k l:=by
 unfold below
 conv=>rhs;rw[← List.take_append_drop i l]
 rw[List.filter_append,filter_all,filter_none,List.append_nil]
 ·intro x hx
  obtain⟨j,hj⟩:=List.mem_iff_getElem?.1 hx
  rw[List.getElem?_drop]at hj
  obtain⟨hlt,rfl⟩:=List.getElem?_eq_some_iff.1 hj
  exact h.hi _ hlt (by omega)
 ·intro x hx
  obtain⟨j,hj⟩:=List.mem_iff_getElem?.1 hx
  have hji:j<i:=by
   have:=(List.getElem?_eq_some_iff.1 hj).1
   rw[List.length_take]at this;omega
  rw[List.getElem?_take_of_lt hji]at hj
  obtain⟨hlt,rfl⟩:=List.getElem?_eq_some_iff.1 hj
  exact h.lo _ hlt hji
theorem AtK.TJ (hs:MH lt) {k:κ} {l:List α} {i:Nat} (h:AtK lt key k l i) (hn:∀x∈l,key x≠k):l.drop i=above lt key k l:=by
 unfold above
 conv=>rhs;rw[← List.take_append_drop i l]
 rw[List.filter_append,filter_none,filter_all,List.nil_append]
 ·intro x hx
  have hm:=List.mem_of_mem_drop hx
  obtain⟨j,hj⟩:=List.mem_iff_getElem?.1 hx
  rw[List.getElem?_drop]at hj
  obtain⟨hlt,rfl⟩:=List.getElem?_eq_some_iff.1 hj
  have h1:=h.hi _ hlt (by omega)
  cases h2:lt k (key l[i+j])
  ·exact absurd (hs.tot _ _ h1 h2) (hn _ hm)
  ·rfl
 ·intro x hx
  obtain⟨j,hj⟩:=List.mem_iff_getElem?.1 hx
  have hji:j<i:=by
   have:=(List.getElem?_eq_some_iff.1 hj).1
   rw[List.length_take]at this;omega
  rw[List.getElem?_take_of_lt hji]at hj
  obtain⟨hlt,rfl⟩:=List.getElem?_eq_some_iff.1 hj
  have h1:=h.lo _ hlt hji
  cases h2:lt k (key l[j])
  ·rfl
  ·have:=hs.tr _ _ _ h1 h2
   rw[hs.LX]at this
   cases this
theorem Inc.get {l:List α} (h:Inc lt key l) {i j:Nat} (hij:i<j) (hj:j<l.length):lt (key l[i]) (key l[j])=true:=List.pairwise_iff_getElem.1 h i j (by omega) hj hij
theorem AtK.found (hs:MH lt) {k:κ} {l:List α} {i:Nat} (hl:Inc lt key l) (h:AtK lt key k l i) (hf:∃x∈l,key x=k):∃hi:i<l.length,key l[i]=k∧l.drop (i+1)=above lt key k l:=by
 obtain⟨x,hx,hk⟩:=hf
 obtain⟨j,hj,rfl⟩:=List.getElem_of_mem hx
 have hij:i≤j:=by
  rcases Nat.lt_or_ge j i with h1|h1
  ·have:=h.lo j hj h1
   rw[hk,hs.LX]at this
   cases this
  ·exact h1
 have hik:i<l.length:=by omega
 have hki:key l[i]=k:=by
  rcases Nat.lt_or_ge i j with h1|h1
  ·have h2:=hl.get h1 hj
   rw[hk,h.hi i hik (Nat.le_refl _)]at h2
   cases h2
  ·obtain rfl:i=j:=by omega
   exact hk
 refine⟨hik,hki,?_⟩
 unfold above
 conv=>rhs;rw[← List.take_append_drop (i+1) l]
 rw[List.filter_append,filter_none,filter_all,List.nil_append]
 ·intro x hx
  obtain⟨q,hq⟩:=List.mem_iff_getElem?.1 hx
  rw[List.getElem?_drop]at hq
  obtain⟨hlt,rfl⟩:=List.getElem?_eq_some_iff.1 hq
  rw[← hki]
  exact hl.get (by omega) hlt
 ·intro x hx
  obtain⟨q,hq⟩:=List.mem_iff_getElem?.1 hx
  have hqi:q<i+1:=by
   have:=(List.getElem?_eq_some_iff.1 hq).1
   rw[List.length_take]at this;omega
  rw[List.getElem?_take_of_lt hqi]at hq
  obtain⟨hlt,rfl⟩:=List.getElem?_eq_some_iff.1 hq
  rcases Nat.lt_or_ge q i with h1|h1
  ·have h2:=h.lo _ hlt h1
   cases h3:lt k (key l[q])
   ·rfl
   ·have:=hs.tr _ _ _ h2 h3
    rw[hs.LX]at this
    cases this
  ·obtain rfl:q=i:=by omega
   rw[hki,hs.LX]
theorem AtK.ins (hs:MH lt) {x:α} {l:List α} {i:Nat} (h:AtK lt key (key x) l i) (hn:∀y∈l,key y≠key x):l.take i++[x]++l.drop i=AY lt key x l:=by
 rw[h.take,h.TJ hs hn];rfl
theorem AtK.set (hs:MH lt) {x:α} {l:List α} {i:Nat} (hl:Inc lt key l) (h:AtK lt key (key x) l i) (hf:∃y∈l,key y=key x):l.set i x=AY lt key x l:=by
 obtain⟨hi,_,hd⟩:=h.found hs hl hf
 rw[List.set_eq_take_append_cons_drop,if_pos hi,h.take,hd]
 simp[AY]
theorem AtK.del (hs:MH lt) {k:κ} {l:List α} {i:Nat} (hl:Inc lt key l) (h:AtK lt key k l i) (hf:∃y∈l,key y=k):l.take i++l.drop (i+1)=Cj lt key k l:=by
 obtain⟨hi,_,hd⟩:=h.found hs hl hf
 rw[h.take,hd];rfl
theorem Bc (hs:MH lt) {x y:α} {l:List α}:y∈AY lt key x l→y=x∨y∈l:=by
 intro h
 simp only[AY,below,above,List.mem_append,List.mem_filter,List.mem_singleton]at h
 rcases h with(h|h)|h
 ·exact .inr h.1
 ·exact .inl h
 ·exact .inr h.1
theorem BX {k:κ} {y:α} {l:List α}:y∈Cj lt key k l→y∈l:=by
 intro h
 simp only[Cj,below,above,List.mem_append,List.mem_filter]at h
 rcases h with h|h<;>exact h.1
theorem EP (hs:MH lt) {x:α} {l:List α} (hl:Inc lt key l):Inc lt key (AY lt key x l):=by
 unfold AY Inc
 refine List.pairwise_append.2 ⟨List.pairwise_append.2 ⟨hl.filter _,List.pairwise_singleton _ _,?_⟩,hl.filter _,?_⟩
 ·intro a ha b hb
  simp only[below,List.mem_filter,List.mem_singleton]at ha hb
  subst hb
  exact ha.2
 ·intro a ha b hb
  simp only[above,List.mem_filter]at hb
  rcases List.mem_append.1 ha with ha|ha
  ·simp only[below,List.mem_filter]at ha
   exact hs.tr _ _ _ ha.2 hb.2
  ·simp only[List.mem_singleton]at ha
   subst ha
   exact hb.2
theorem FI (hs:MH lt) {k:κ} {l:List α} (hl:Inc lt key l):Inc lt key (Cj lt key k l):=by
 unfold Cj Inc
 refine List.pairwise_append.2 ⟨hl.filter _,hl.filter _,?_⟩
 intro a ha b hb
 simp only[below,above,List.mem_filter]at ha hb
 exact hs.tr _ _ _ ha.2 hb.2
theorem KJ (hs:MH lt) [DecidableEq κ] {k:κ} {l:List α} (hl:Inc lt key l):Cj lt key k l=l.filter fun a=>decide (key a≠k):=by
 induction l with
 |nil=>rfl
 |cons a l ih=>
  have hl':=List.pairwise_cons.1 hl
  have ih:=ih hl'.2
  by_cases hk:key a=k
  ·subst hk
   have h1:below lt key (key a) (a::l)=[]:=filter_none fun x hx=>by
        rcases List.mem_cons.1 hx with rfl|hx
        ·exact hs.LX _
        ·cases h3:lt (key x) (key a)
         ·rfl
         ·have:=hs.tr _ _ _ (hl'.1 x hx) h3
          rw[hs.LX]at this;cases this
   have h2:above lt key (key a) (a::l)=l:=by
        unfold above
        rw[List.filter_cons_of_neg (by simp[hs.LX]),filter_all hl'.1]
   rw[Cj,h1,h2,List.nil_append,List.filter_cons_of_neg (by simp),filter_all]
   intro x hx
   have:=hl'.1 x hx
   simp only[ne_eq,decide_not,Bool.not_eq_true',decide_eq_false_iff_not]
   rintro e
   rw[e,hs.LX]at this
   cases this
  ·rw[List.filter_cons_of_pos (by simpa using hk),←ih]
   cases h1:lt (key a) k
   ·have h2:lt k (key a)=true:=by
      cases h2:lt k (key a)
      ·exact absurd (hs.tot _ _ h1 h2) hk
      ·rfl
    have hb:below lt key k l=[]:=filter_none fun x hx=>by
      cases h3:lt (key x) k
      ·rfl
      ·have:=hs.tr _ _ _ (hs.tr _ _ _ h2 (hl'.1 x hx)) h3
       rw[hs.LX]at this;cases this
    unfold Cj
    have hb':below lt key k (a::l)=[]:=by
      unfold below at hb ⊢
      rw[List.filter_cons_of_neg (by simp[h1]),hb]
    rw[hb,hb',List.nil_append,List.nil_append]
    simp only[above,List.filter_cons,h2,if_true]
   ·have h2:lt k (key a)=false:=by
      cases h2:lt k (key a)
      ·rfl
      ·have:=hs.tr _ _ _ h1 h2
       rw[hs.LX]at this;cases this
    simp[Cj,below,above,h1,h2]
end
section
variable {α κ:Type} {lt:κ→κ→Bool} {key:α→κ}
def lk [DecidableEq κ] (key:α→κ) (l:List α) (k:κ):Option α:=l.find? fun a=>decide (key a=k)
theorem Y7 [DecidableEq κ] {l:List α} {k:κ} {a:α} (h:lk key l k=some a):a∈l∧key a=k:=⟨List.mem_of_find?_eq_some h,of_decide_eq_true (List.find?_some (p:=fun a=>decide (key a=k)) h)⟩
theorem UJ [DecidableEq κ] (hs:MH lt):∀{l:List α},Inc lt key l→∀{a:α} {k:κ},a∈l→key a=k→lk key l k=some a
 |[],_,_,_,h,_=>by simp at h
 |b::l,hl,a,k,h,e=>by
  have hl':=List.pairwise_cons.1 hl
  unfold lk
  rcases List.mem_cons.1 h with rfl|hm
  ·rw[List.find?_cons,decide_eq_true e]
  ·have hb:key b≠k:=fun e2=>by
        have:=hl'.1 a hm
        rw[e,e2,hs.LX]at this;cases this
   rw[List.find?_cons,decide_eq_false hb]
   exact UJ hs hl'.2 hm e
theorem Abf [DecidableEq κ] (hs:MH lt) {l:List α} (hl:Inc lt key l) {k:κ} {a:α}:lk key l k=some a↔a∈l∧key a=k:=⟨Y7,fun h=>UJ hs hl h.1 h.2⟩
theorem ne_iff (hs:MH lt) {x y:κ}:(lt x y=true∨lt y x=true)↔x≠y:=by
 constructor
 ·rintro(h|h) rfl<;>(rw [hs.LX]at h;cases h)
 ·intro h
  cases h1:lt x y
  ·cases h2:lt y x
   ·exact absurd (hs.tot _ _ h1 h2) h
   ·exact .inr rfl
  ·exact .inl rfl
theorem Ns (hs:MH lt) {x y:α} {l:List α}:y∈AY lt key x l↔y=x∨y∈l∧key y≠key x:=by
 rw[← ne_iff hs]
 simp only[AY,below,above,List.mem_append,List.mem_filter,List.mem_singleton]
 constructor
 ·rintro((h|h)|h)
  ·exact .inr ⟨h.1,.inl h.2⟩
  ·exact .inl h
  ·exact .inr ⟨h.1,.inr h.2⟩
 ·rintro(h|⟨h,h2|h2⟩)
  ·exact .inl (.inr h)
  ·exact .inl (.inl ⟨h,h2⟩)
  ·exact .inr ⟨h,h2⟩
theorem AdE (hs:MH lt) {k:κ} {y:α} {l:List α}:y∈Cj lt key k l↔y∈l∧key y≠k:=by
 rw[← ne_iff hs]
 simp only[Cj,below,above,List.mem_append,List.mem_filter]
 constructor
 ·rintro(h|h)
  ·exact⟨h.1,.inl h.2⟩
  ·exact⟨h.1,.inr h.2⟩
 ·rintro⟨h,h2|h2⟩
  ·exact .inl ⟨h,h2⟩
  ·exact .inr ⟨h,h2⟩
theorem Abg [DecidableEq κ] (hs:MH lt) {x:α} {l:List α} (hl:Inc lt key l) {k:κ}:lk key (AY lt key x l) k=if k=key x then some x else lk key l k:=by
 have hp:=EP (x:=x) hs hl
 by_cases e:k=key x
 ·rw[if_pos e]
  exact UJ hs hp ((Ns hs).2 (.inl rfl)) e.symm
 ·rw[if_neg e]
  apply Option.ext
  intro a
  rw[Abf hs hp,Abf hs hl,Ns hs]
  constructor
  ·rintro⟨rfl|h,h2⟩
   ·exact absurd h2.symm e
   ·exact⟨h.1,h2⟩
  ·rintro⟨h,h2⟩
   exact⟨.inr ⟨h,by rw[h2];exact e⟩,h2⟩
theorem Abh {l:List α} (h:Inc lt key l):(l.map key).Pairwise fun x y=>lt x y=true:=by
 rw[List.pairwise_map];exact h
end
structure GC where
 op:Int
 id:Int
 fr:Int
 to:Int
 name:List UInt8
 v:GV
def GC.av (c:GC):AV:=.agg [.int .i64 c.op,.int .i64 c.id,.int .i64 c.fr,.int .i64 c.to,.str c.name,.int .i64 c.v.k,.int .i64 c.v.n,.int .i64 c.v.d,.str c.v.s,.sl c.v.nn c.v.l]
def GC.ok (c:GC):Prop:=I64 c.op∧I64 c.id∧I64 c.fr∧I64 c.to∧Ln c.name∧c.v.ok
def Ae8 (ns:List Int) (N:List GN):List GN:=N.filter fun n=>decide (n.id∉ns)
def Ae9 (es:List Int) (E:List GE):List GE:=E.filter fun e=>decide (e.id∉es)
theorem QM:∀n:GN,n.av.cells.length=3:=fun _=>rfl
theorem cellsE:∀n:GE,n.av.cells.length=5:=fun _=>rfl
theorem OB:∀n:GP,n.av.cells.length=6:=fun _=>rfl
def OC (ns es:List Int) (g h:GG):Prop:=Ae8 ns h.nodes=Ae8 ns g.nodes∧Ae9 es h.edges=Ae9 es g.edges
theorem OC.refl (ns es:List Int) (g:GG):OC ns es g g:=⟨rfl,rfl⟩
theorem OC.trans {ns es:List Int} {g h k:GG} (h1:OC ns es g h) (h2:OC ns es h k):OC ns es g k:=⟨h2.1.trans h1.1,h2.2.trans h1.2⟩
theorem Y8 {α:Type} {p:α→Bool} {l:List α} {i:Nat} (hi:i<l.length) (h:∀x∈l.take i,p x=false) (hp:p l[i]=true):l.find? p=some l[i]:=by
 have e:l=l.take i++l[i]::l.drop (i+1):=by rw[← List.drop_eq_getElem_cons hi,List.take_append_drop]
 have h1:(l.take i).find? p=none:=List.find?_eq_none.2 fun x hx=>by simp[h x hx]
 refine(congrArg (List.find? p) e).trans ?_
 rw[List.find?_append,h1,List.find?_cons_of_pos hp]
 rfl
theorem Za {α:Type} {p:α→Bool} {l:List α} (h:∀x∈l,p x=false):l.find? p=none:=List.find?_eq_none.2 fun x hx=>by simp[h x hx]
theorem Y9 {α:Type} {p:α→Bool} {l:List α} {i:Nat} (hi:i<l.length) (h:∀x∈l.take i,p x=false) (hp:p l[i]=false):∀x∈l.take (i+1),p x=false:=BF hi h hp
def N0:GN:=⟨0,false,[],false,[]⟩
def E0:GE:=⟨0,0,0,[],false,[]⟩
def isN (id:Int) (n:GN):Bool:=decide (n.id=id)
def isE (id:Int) (n:GE):Bool:=decide (n.id=id)
def TG (l:List GN) (id:Int):AV:=match l.find? (isN id)with
 |some n=>.Cc [n.av,.bool true]
 |none=>.Cc [N0.av,.bool false]
def TI (l:List GE) (id:Int):AV:=match l.find? (isE id)with
 |some n=>.Cc [n.av,.bool true]
 |none=>.Cc [E0.av,.bool false]
theorem Abt {g:GG} (hl:g.nodes.length<2^63) {id:Int}:Af (Ad tab) 66 [g.av,.int .i64 id] (· =TG g.nodes id):=by
 refine Ac rfl rfl ?_
 (conv=>whnf);repeat' (first|(refine kA ?_;conv=>whnf)|(refine Br.mk (fun hc=>?_) fun hc=>?_<;>first|exact hc.elim|conv=>whnf)  |(refine kB ?_))
 refine Ak (fun m env s=>∃i:Nat,m=g.nodes.length-i∧(∀ x∈g.nodes.take i,isN id x=false)∧env=[(1,.int .i64 id),(2,.ref 0 0 0 0),(4,.ref 1 1 0 0),(6,.int .i64 i)]∧s=⟨[.arr 0 4 true true [g.av],.arr 1 3 true true [.agg [.int .i64 0,.sl false [],.sl false []]]],2⟩) ?_ _ _ _ ⟨0,rfl,by simp,rfl,rfl⟩
 rintro _ _ _ ⟨i,rfl,hx,rfl,rfl⟩
 refine⟨rfl,?_⟩
 (conv=>whnf);repeat' (first|(refine kA ?_;conv=>whnf)|(refine Br.mk (fun hc=>?_) fun hc=>?_<;>first|exact hc.elim|conv=>whnf)  |(refine kB ?_))
 ·rw[TG,Y8 (by omega) hx (decide_eq_true hc)];rfl
 ·exact again.mk ⟨_,by omega,i+1,rfl,Y9 (by omega) hx (decide_eq_false hc),rfl,rfl⟩
 ·rw[CW hc]at hx
  rw[TG,Za hx];rfl
theorem Ahp {g:GG} (hl:g.edges.length<2^63) {id:Int}:Af (Ad tab) 67 [g.av,.int .i64 id] (· =TI g.edges id):=by
 refine Ac rfl rfl ?_
 (conv=>whnf);repeat' (first|(refine kA ?_;conv=>whnf)|(refine Br.mk (fun hc=>?_) fun hc=>?_<;>first|exact hc.elim|conv=>whnf)  |(refine kB ?_))
 refine Ak (fun m env s=>∃i:Nat,m=g.edges.length-i∧(∀ x∈g.edges.take i,isE id x=false)∧env=[(1,.int .i64 id),(2,.ref 0 0 0 0),(4,.ref 1 1 0 0),(6,.int .i64 i)]∧s=⟨[.arr 0 4 true true [g.av],.arr 1 5 true true [.agg [.int .i64 0,.int .i64 0,.int .i64 0,.str [],.sl false []]]],2⟩) ?_ _ _ _ ⟨0,rfl,by simp,rfl,rfl⟩
 rintro _ _ _ ⟨i,rfl,hx,rfl,rfl⟩
 refine⟨rfl,?_⟩
 (conv=>whnf);repeat' (first|(refine kA ?_;conv=>whnf)|(refine Br.mk (fun hc=>?_) fun hc=>?_<;>first|exact hc.elim|conv=>whnf)  |(refine kB ?_))
 ·rw[TI,Y8 (by omega) hx (decide_eq_true hc)];rfl
 ·exact again.mk ⟨_,by omega,i+1,rfl,Y9 (by omega) hx (decide_eq_false hc),rfl,rfl⟩
 ·rw[CW hc]at hx
  rw[TI,Za hx];rfl
def X5:Nat→AV→Prop
 |0,_=>False
 |d+1,a=>∃g:GV,a=g.av∧g.ok∧g.s.length≤101000∧g.l.length≤2000∧∀x∈g.l,X5 d x
theorem wei:∀(d:Nat),d≤12→∀{g:GV} (hg:g.ok) {left:Int} (h1:-184467440737095530≤left) (h2:left≤2000),
 Af (Ad tab) 62 [g.av,.int .i64 left,.int .i64 d] (fun v=>∃r,v=.int .i64 r∧-368934881474191048≤r∧r≤1999∧(0≤r→r+1≤left∧X5 d g.av)):=by
 intro d
 induction d with
 |zero=>
  intro _ g hg left h1 h2
  obtain⟨g1,g2,g3,g4,g5,g6,g7⟩:=hg
  unfold Ln at g4 g5
  refine Ac rfl rfl ?_
  (conv=>whnf);repeat' (first|(refine kA ?_;conv=>whnf)|(refine Br.mk (fun hc=>?_) fun hc=>?_<;>first|exact hc.elim|conv=>whnf)|(refine TS (by omega) ?_;conv=>whnf)|(refine kB ?_))
  all_goals exact⟨_,rfl,by omega,by omega,fun h=>absurd h (by omega)⟩
 |succ d ih=>
  intro hd g hg left h1 h2
  obtain⟨g1,g2,g3,g4,g5,g6,g7⟩:=hg
  unfold Ln at g4 g5
  refine Ac rfl rfl ?_
  (conv=>whnf);repeat' (first|(refine kA ?_;conv=>whnf)|(refine Br.mk (fun hc=>?_) fun hc=>?_<;>first|exact hc.elim|conv=>whnf)|(refine TS (by omega) ?_;conv=>whnf)|(refine kB ?_))
  have hw:∀{g:GV} (hg:g.ok) {left:Int} (h1:-184467440737095530≤left) (h2:left≤2000),
        Af (Ad tab) 62 [g.av,.int .i64 left,.int .i64 (((d+1:Nat):Int)-1)] (fun v=>∃r,v=.int .i64 r∧-368934881474191048≤r∧r≤1999∧(0≤r→r+1≤left∧X5 d g.av)):=by
   rw[show ((d+1:Nat):Int)-1=(d:Int) by omega]
   exact ih (by omega)
  refine Ak (fun m env s=>∃(i:Nat) (cur:Int),m=g.l.length-i∧env=[(1,.int .i64 cur),(2,.int .i64 (d+1:Nat)),(3,.ref 0 0 0 0),(7,.int .i64 i)]∧s=⟨[.arr 0 5 true true [g.av]],1⟩∧
   -368934881474191048≤cur∧cur≤1999∧(0≤cur→cur+i+g.s.length / 50+1≤left∧∀x∈g.l.take i,X5 d x)) ?_ _ _ _ ⟨0,_,rfl,rfl,rfl,by omega,by omega,fun h=>⟨by omega,by simp⟩⟩
  rintro _ _ _ ⟨i,cur,rfl,rfl,rfl,b1,b2,hx⟩
  refine⟨rfl,?_⟩
  obtain⟨gx,hgx⟩:=N8 g7 i
  (conv=>whnf);repeat' (first|(refine kA ?_;conv=>whnf)|(refine Br.mk (fun hc=>?_) fun hc=>?_<;>first|exact hc.elim|conv=>whnf)|(apply Aq;(· exact(hgx (by omega)).1);conv=>whnf)|(refine kB ?_))
  ·obtain⟨_,ge,gl⟩:=hgx (by omega)
   refine Aa (hw gl (by omega) (by omega)) ?_
   rintro _ ⟨r,rfl,r1,r2,r3⟩
   (conv=>whnf);repeat' (first|(refine kA ?_;conv=>whnf)|(refine Br.mk (fun hc=>?_) fun hc=>?_<;>first|exact hc.elim|conv=>whnf)  |(refine kB ?_))
   exact again.mk ⟨_,by omega,i+1,r,rfl,rfl,rfl,by omega,by omega,fun h=>⟨by have:=hx (by omega);have:=r3 h;omega,BF (by omega) (hx (by omega)).2 (ge▸(r3 h).2)⟩⟩
  ·exact⟨_,rfl,by omega,by omega,fun h=>absurd h (by omega)⟩
  ·refine⟨_,rfl,by omega,by omega,fun h=>?_⟩
   obtain⟨x1,x2⟩:=hx h
   rw[CW hc]at x2
   exact⟨by omega,g,rfl,⟨g1,g2,g3,g4,g5,g6,g7⟩,by omega,by omega,x2⟩
section
open Go.Sort
section
variable {α:Type} [Inhabited α] {f:α→AV}
@[simp] theorem Ro (d:Array α) (i j:Nat):(swp d i j).size=d.size:=by simp[swp]
variable {lt:α→α→Bool} {a b i j hi first root:Nat} {d:Array α}
@[simp] theorem Xx:∀{j:Nat} {d:Array α},(insInner lt a j d).size=d.size
 |0,d=>rfl
 |j+1,d=>by
  rw[insInner]
  split
  ·rw[Xx,Ro]
  ·rfl
theorem Adc (h:hi≤2*root+1):siftDown lt hi first root d=d:=by
 rw[siftDown,dif_pos h]
theorem Xy {lt:α→α→Bool} {hi first:Nat}:∀(n root:Nat) (d:Array α),hi-root≤n→(siftDown lt hi first root d).size=d.size:=by
 intro n
 induction n with
 |zero=>intro root d h;rw[Adc (by omega)]
 |succ n ih=>
  intro root d h
  rw[siftDown]
  split
  ·rfl
  ·split
   ·split
    ·rfl
    ·split
     ·rw[ih _ _ (by omega),Ro]
     ·rfl
   ·split
    ·rfl
    ·rw[ih _ _ (by omega),Ro]
@[simp] theorem AeD:(siftDown lt hi first root d).size=d.size:=Xy (hi-root) root d (Nat.le_refl _)
@[simp] theorem Vu:∀{k:Nat} {d:Array α},(heapBuild lt hi first k d).size=d.size
 |0,d=>rfl
 |k+1,d=>by rw[heapBuild,Vu,AeD]
end
end
section
open Go.Sort
section
variable {α:Type} [Inhabited α] {lt:α→α→Bool} {a b i j:Nat} {d:Array α}
@[simp] theorem Af9:∀{j:Nat} {d:Array α},(shiftDown lt j d).size=d.size
 |0,d=>rfl
 |j+1,d=>by
  rw[shiftDown]
  split
  ·rfl
  ·rw[Af9,Ro]
theorem Zr:∀(n j:Nat) (d:Array α),b-j≤n→(shiftUp lt b j d).size=d.size
 |0,j,d,h=>by rw[shiftUp,if_neg (by omega)]
 |n+1,j,d,h=>by
  rw[shiftUp]
  split
  ·split
   ·rfl
   ·rw[Zr n _ _ (by omega),Ro]
  ·rfl
@[simp] theorem AjD:(shiftUp lt b j d).size=d.size:=Zr (b-j) j d (Nat.le_refl _)
@[simp] theorem AiZ:(fixDown lt a i d).size=d.size:=by unfold fixDown;split<;>simp
@[simp] theorem Ai0:(fixUp lt b i d).size=d.size:=by unfold fixUp;split<;>simp
variable {p:α→Bool}
end
end
section
open Go.Sort
def SY (a b:Int):Int:=if a=0 then b else a
def cS (x y:List UInt8):Int:=if Op.bytesLess x y=true then -1 else if Op.bytesLess y x=true then 1 else 0
structure PC {α:Type} (c:α→α→Int):Prop where
 anti:∀x y,c y x=-c x y
 trans:∀x y z,c x y≤0→c y z≤0→c x z≤0
theorem PC.on {α β:Type} {c:β→β→Int} (h:PC c) (p:α→β):PC fun x y=>c (p x) (p y):=⟨fun x y=>h.anti _ _,fun x y z=>h.trans _ _ _⟩
theorem Qd:∀(x y:List UInt8),Op.bytesLess x y=decide (x<y)
 |[],[]=>by simp[Op.bytesLess]
 |_::_,[]=>by simp[Op.bytesLess]
 |[],_::_=>by simp[Op.bytesLess]
 |a::x,b::y=>by
  rw[Op.bytesLess,Qd x y]
  simp only[List.cons_lt_cons_iff]
  by_cases h1:a<b<;>by_cases h2:a=b<;>by_cases h3:x<y<;>simp[h1,h2,h3]
theorem VJ (x y:List UInt8):Op.bytesLess x y=ltStr x y:=Qd x y
theorem XT {x y:List UInt8} (h1:Op.bytesLess x y=false) (h2:Op.bytesLess y x=false):x=y:=by
 rw[VJ]at h1 h2
 simp only[ltStr,decide_eq_false_iff_not]at h1 h2
 exact List.le_antisymm (List.not_lt.1 h2) (List.not_lt.1 h1)
theorem AfB:PC cS where
 anti x y:=by
  have h:Op.bytesLess x y=true→Op.bytesLess y x=true→False:=fun a b=>by
   rw[VJ]at a b
   have:=swo_ltStr.trans x y x a b
   rw[swo_ltStr.irrefl]at this;cases this
  unfold cS
  by_cases a:Op.bytesLess x y=true<;>by_cases b:Op.bytesLess y x=true<;>simp[a,b]
  exact h a b
 trans x y z h1 h2:=by
  have n1:Op.bytesLess y x=false:=by
   unfold cS at h1
   split at h1
   ·rename_i a
    cases hb:Op.bytesLess y x with
    |false=>rfl
    |true=>
     rw[VJ]at a hb
     have:=swo_ltStr.trans x y x a hb
     rw[swo_ltStr.irrefl]at this;cases this
   ·split at h1
    ·omega
    ·rename_i b;simpa using b
  have n2:Op.bytesLess z y=false:=by
   unfold cS at h2
   split at h2
   ·rename_i a
    cases hb:Op.bytesLess z y with
    |false=>rfl
    |true=>
     rw[VJ]at a hb
     have:=swo_ltStr.trans y z y a hb
     rw[swo_ltStr.irrefl]at this;cases this
   ·split at h2
    ·omega
    ·rename_i b;simpa using b
  have n3:Op.bytesLess z x=false:=by rw[VJ]at *;exact swo_ltStr.ntrans z y x n2 n1
  unfold cS
  split
  ·omega
  ·rw[n3];simp
theorem UG {x y:List UInt8}:cS x y=0↔x=y:=by
 constructor
 ·intro h
  unfold cS at h
  split at h
  ·omega
  ·split at h
   ·omega
   ·rename_i a b;exact XT (by simpa using a) (by simpa using b)
 ·rintro rfl
  have:=AfB.anti x x
  omega
theorem Ae4 {x:List UInt8}:Af (Ad tab) 181 [.str x] (· =.bool false):=by
 refine Ac rfl rfl ?_
 (conv=>whnf);repeat' (first  |(refine kA ?_;conv=>whnf)|(refine Br.mk (fun hc=>?_) fun hc=>?_<;>first|exact hc.elim|conv=>whnf)|(refine kB ?_))
 all_goals first|rfl|(exfalso;simp_all)
theorem Ahc {x y:List UInt8} (h:Op.bytesLess x y=true):AV.int .i64 (-1)=.int .i64 (cS x y):=by unfold cS;rw[if_pos h]
theorem Ahd {x y:List UInt8} (h:Op.bytesLess x y=false) (h2:(Op.bytesLess x y||x==y)=true):AV.int .i64 0=.int .i64 (cS x y):=by
 rw[h,Bool.false_or,beq_iff_eq]at h2
 rw[UG.2 h2]
theorem Ahe {x y:List UInt8} (h2:(Op.bytesLess x y||x==y)=false):AV.int .i64 1=.int .i64 (cS x y):=by
 rw[Bool.or_eq_false_iff,beq_eq_false_iff_ne]at h2
 have h3:Op.bytesLess y x=true:=by
  cases h:Op.bytesLess y x with
  |true=>rfl
  |false=>exact absurd (XT h2.1 h) h2.2
 unfold cS;rw[h2.1,h3];rfl
theorem Aa9 {x y:List UInt8}:Af (Ad tab) 156 [.str x,.str y] (· =.int .i64 (cS x y)):=by
 refine Ac rfl rfl ?_
 (conv=>whnf);repeat' (first|(refine Aa Ae4 ?_;rintro _ rfl;conv=>whnf)|(refine kA ?_;conv=>whnf)|(refine Br.mk (fun hc=>?_) fun hc=>?_<;>first|exact hc.elim|conv=>whnf)|(refine kB ?_))
 all_goals first|exact Ahc hc|exact Ahd (by assumption) hc|exact Ahe hc
end
def VF (n d:Int):Prop:=1≤d∧d≤1000000000000000∧Qw n∧Nat.gcd n.natAbs d.natAbs=1
instance (n d:Int):Decidable (VF n d):=by unfold VF;infer_instance
def VB (g:GV):Prop:=g.l.length=0∧(g.k=0∧g.n=0∧g.d=0∧g.s=[]∨g.k=1∧(g.n=0∨g.n=1)∧g.d=0∧g.s=[]∨g.k=2∧Qw g.n∧g.d=0∧g.s=[]∨
 g.k=3∧2≤g.d∧VF g.n g.d∧g.s=[]∨g.k=4∧g.n=0∧g.d=0∧okS g.s∨(g.k=5∨g.k=6)∧1≤g.n∧g.n≤1000000∧g.d=0∧g.s=[])
instance (g:GV):Decidable (VB g):=by unfold VB;infer_instance
def VPa (l:List AV):Prop:=l.length % 2=1∧l.length≤25∧∀i (h:i<l.length),∃x:GV,l[i]=x.av∧x.k=5+i % 2∧VB x
def VV:Nat→GV→Prop
 |0,g=>VB g∨g.k=7∧g.n=0∧g.d=0∧g.s=[]∧VPa g.l
 |m+1,g=>VB g∨g.k=7∧g.n=0∧g.d=0∧g.s=[]∧VPa g.l∨g.k=8∧g.n=0∧g.d=0∧g.s=[]∧g.l.length≤64∧∀i (h:i<g.l.length),∃x:GV,g.l[i]=x.av∧VV m x
theorem GV.Ads {g h:GV} (e:g.av=h.av):g=h:=by
 obtain⟨k,n,d,s,nn,l⟩:=g
 obtain⟨k',n',d',s',nn',l'⟩:=h
 simp only[GV.av,AV.agg.injEq,List.cons.injEq,AV.int.injEq,AV.str.injEq,AV.sl.injEq,true_and,and_true]at e
 obtain⟨rfl,rfl,rfl,rfl,rfl,rfl⟩:=e
 rfl
theorem AcN (x y:Nat):Nat.gcd y (x % y)=Nat.gcd x y:=by
 rw[Nat.gcd_comm x y,Nat.gcd_rec y x,Nat.gcd_comm]
theorem absP {n:Int} (h:Qw n):Af (Ad tab) 211 [.int .i64 n] (· =.int .i64 n.natAbs):=by
 unfold Qw at h
 have e:(if 0-n>n then 0-n else n)=(n.natAbs:Int):=by split<;>omega
 refine Ac rfl rfl ?_
 (conv=>whnf);repeat' (first  |(refine kA ?_;conv=>whnf)|(refine Br.mk (fun hc=>?_) fun hc=>?_<;>first|exact hc.elim|conv=>whnf)|(refine kB ?_))
 rw[← e];rfl
theorem AjY {n d:Int} (hn:Qw n) (hd:Qw d):Af (Ad tab) 198 [.int .i64 n,.int .i64 d] (· =.int .i64 (Nat.gcd n.natAbs d.natAbs)):=by
 have hn':=hn
 have hd':=hd
 unfold Qw at hn' hd'
 refine Ac rfl rfl ?_
 (conv=>whnf);repeat' (first|(refine BM (inP (n:=n)) (fun hr=>?_) (fun hr=>absurd hn hr);conv=>whnf)|(refine BM (inP (n:=d)) (fun hr=>?_) (fun hr=>absurd hd hr);conv=>whnf)|((first|refine Aa (absP hn) ?_|refine Aa (absP hd) ?_);rintro _ rfl;conv=>whnf)|(refine kA ?_;conv=>whnf)|(refine Br.mk (fun hc=>?_) fun hc=>?_<;>first|exact hc.elim|conv=>whnf)|(refine kB ?_))
 refine Ak (fun m env s=>∃(x y:Nat),m=1*y∧x<2^63∧y<2^63∧Nat.gcd x y=Nat.gcd n.natAbs d.natAbs∧env=[(0,.int .i64 x),(1,.int .i64 y)]∧s=⟨[],0⟩) ?_ _ _ _ ⟨n.natAbs,d.natAbs,(Nat.one_mul _).symm,by omega,by omega,rfl,rfl,rfl⟩
 clear hn hd hn' hd'
 rintro m _ _ ⟨x,y,hm,hx,hy,hg,rfl,rfl⟩
 have hm2:y=m:=by omega
 subst hm2
 refine⟨rfl,?_⟩
 (conv=>whnf);repeat' (first  |(refine kA ?_;conv=>whnf)|(refine Br.mk (fun hc=>?_) fun hc=>?_<;>first|exact hc.elim|conv=>whnf)|(refine kB ?_))
 ·have h0:y=0:=by omega
  subst h0
  rw[Nat.gcd_zero_right]at hg
  rw[← hg];rfl
 ·have h0:0<y:=by omega
  have:=Nat.mod_lt x h0
  exact again.mk ⟨_,this,y,x % y,(Nat.one_mul _).symm,hy,by omega,by rw[AcN];exact hg,by rw[Int.ofNat_tmod],rfl⟩
theorem AgB {n d:Int} (h:¬(1≤d∧d≤1000000000000000∧Qw n)):¬VF n d:=fun hv=>h ⟨hv.1,hv.2.1,hv.2.2.1⟩
theorem fvP {n d:Int}:Af (Ad tab) 172 [.agg [.int .i64 n,.int .i64 d]] (· =.bool (decide (VF n d))):=by
 by_cases h:1≤d∧d≤1000000000000000∧Qw n
 ·obtain⟨h1,h2,h3⟩:=h
  have hg:=AjY h3 (show Qw d by unfold Qw;omega)
  refine Ac rfl rfl ?_
  (conv=>whnf);repeat' (first|(refine BM (inP (n:=n)) (fun hr=>?_) (fun hr=>absurd h3 hr);conv=>whnf)|(refine Aa hg ?_;rintro _ rfl;conv=>whnf)|(refine kA ?_;conv=>whnf)|(refine Br.mk (fun hc=>?_) fun hc=>?_<;>first|exact hc.elim|conv=>whnf)|(refine kB ?_))
  all_goals first
   |exact Bv ⟨h1,h2,h3,by omega⟩
   |exact AB fun hv=>by have:=hv.2.2.2;omega
   |trace_state
 ·have hno:=AgB h
  have hnr:¬Qw n∨¬(1≤d∧d≤1000000000000000):=by
   by_cases h3:Qw n
   ·exact .inr fun h12=>h ⟨h12.1,h12.2,h3⟩
   ·exact .inl h3
  refine Ac rfl rfl ?_
  (conv=>whnf);repeat' (first|(refine BM (inP (n:=n)) (fun hr=>?_) (fun hr=>?_)<;>conv=>whnf)|(refine kA ?_;conv=>whnf)|(refine Br.mk (fun hc=>?_) fun hc=>?_<;>first|exact hc.elim|conv=>whnf)|(refine kB ?_))
  all_goals first
   |exact AB hno
   |(exfalso;rcases hnr with h|h;exact h hr;omega)
   |trace_state
def Dig (l:List Int):Prop:=l.length=14∧∀x∈l,0≤x∧x≤999
theorem Dig.set {l:List Int} (h:Dig l) {k:Nat} {y:Int} (hy:0≤y∧y≤999):Dig (l.set k y):=by
 refine⟨by rw[List.length_set];exact h.1,fun x hx=>?_⟩
 rcases List.mem_or_eq_of_mem_set hx with hx|rfl
 ·exact h.2 x hx
 ·exact hy
def Carry (j:Nat) (y:Int):Prop:=0≤y∧((j≤6∧y≤999)∨(j=7∧y≤1)∨(j=8∧y=0))
theorem Ae5 {k:Int}:Af (Ad tab) 165 [.int .i64 k,.int .i64 k] (· =.int .i64 0):=by
 refine Ac rfl rfl ?_
 (conv=>whnf);repeat' (first|(refine kA ?_;conv=>whnf)|(refine Br.mk (fun hc=>?_) fun hc=>?_<;>first|exact hc.elim|conv=>whnf)  |(refine kB ?_))
 all_goals rfl
theorem Tt:∀s:List UInt8,Op.bytesLess s s=false
 |[]=>rfl
 |a::s=>by simp[Op.bytesLess,Tt s]
theorem Ahf {s:List UInt8}:Af (Ad tab) 186 [.str s,.str s] (· =.int .i64 0):=by
 refine Ac rfl rfl ?_
 (conv=>whnf);repeat' (first|(refine kA ?_;conv=>whnf)|(refine Br.mk (fun hc=>?_) fun hc=>?_<;>first|exact hc.elim|conv=>whnf)  |(refine kB ?_))
 all_goals first|rfl|(exfalso;simp[Tt]at hc)
def sgn (n:Int):Int:=if n<0 then -1 else if 0<n then 1 else 0
def val:List Int→Int
 |[]=>0
 |x::l=>x+1000*val l
end AI
end Go.Proofs.YtgmgkkbpgndaaaaGreatDoor
