/- The reference's validity of values, with lists in lists. The reference's bare values and strings. The reference's check of values that may be stored, of labels and properties. The reference's Check of a graph. The reference's triangles. Triangles: the program's sum is twice the reference's count. Lists in the order of a key: looking a place up, putting in, taking out. No program in sight. The graph that an editor edits, in the store: nodes and edges with lists of their own. build: the program's net of a valid graph. -/
import Derived.Test.YtchcadfjbkkgmaaGreatDoorEMai
import Derived.Test.YtchcadfjbkkgmaaGreatDoorEMae
import Derived.Test.YtchcadfjbkkgmaaGreatDoorEMaa
import Derived.Test.YtchcadfjbkkgmaaGreatDoorEMaf
import Derived.Test.YtchcadfjbkkgmaaGreatDoorEMag
import Derived.Test.YtchcadfjbkkgmaaGreatDoorEMah
set_option linter.unusedVariables false
set_option maxRecDepth 4000
namespace Go.Proofs.YtchcadfjbkkgmaaGreatDoor
namespace AI
theorem AiV {l:List AV} {nn:Bool} (hl:l.length<2^63):Ah (Ac tab) 193 [.sl nn l,.int .i64 0] (fun v=>∃b,v=.bool b):=by
 refine Ae rfl rfl ?_
 (conv=>whnf);repeat' (first|(refine kA ?_;conv=>whnf)|(refine Br.mk (fun hc=>?_) fun hc=>?_<;>first|exact hc.elim|conv=>whnf)  |(refine kB ?_))
 all_goals exact⟨_,rfl⟩
theorem AiW {n:Nat} (ih:∀{g:GV},g.ok→Ah (Ac tab) 163 [g.av,.int .i64 n] (fun v=>∃b,v=.bool b)) (hn:n<2^60) {l:List AV} {nn:Bool} (hl:l.length<2^63) (h:∀x∈l,Like Tryz.prog 50 x):
 Ah (Ac tab) 193 [.sl nn l,.int .i64 (n+1:Nat)] (fun v=>∃b,v=.bool b):=by
 refine Ae rfl rfl ?_
 (conv=>whnf);repeat' (first|(refine kA ?_;conv=>whnf)|(refine Br.mk (fun hc=>?_) fun hc=>?_<;>first|exact hc.elim|conv=>whnf)  |(refine kB ?_))
 all_goals first|exact⟨_,rfl⟩|skip
 refine Aj (fun m env s'=>∃i:Nat,m=l.length-i∧env=[(0,.sl nn l),(1,.int .i64 (n+1:Nat)),(5,.int .i64 i)]∧s'=⟨[],0⟩) ?_ _ _ _ ⟨0,rfl,rfl,rfl⟩
 rintro _ _ _ ⟨i,rfl,rfl,rfl⟩
 refine⟨rfl,?_⟩
 obtain⟨gx,hgx⟩:=VL h i
 have ih':∀{g:GV},g.ok→Ah (Ac tab) 163 [g.av,.int .i64 (((n+1:Nat):Int)-1)] (fun v=>∃b,v=.bool b):=by
  rw[show ((n+1:Nat):Int)-1=(n:Int) by omega];exact ih
 (conv=>whnf);repeat' (first|(refine kA ?_;conv=>whnf)|(refine Br.mk (fun hc=>?_) fun hc=>?_<;>first|exact hc.elim|conv=>whnf)|(apply Au;(· exact(hgx (by omega)).1);conv=>whnf)|(refine Aa (ih' (g:=gx) (hgx (by omega)).2.2) ?_;rintro _ ⟨b,rfl⟩;conv=>whnf)|(refine kB ?_))
 all_goals first|exact⟨_,rfl⟩|exact again.mk ⟨_,by omega,i+1,rfl,rfl,rfl⟩
theorem AcJ {n:Int} {g:GV} (hg:g.ok) (hlist:Ah (Ac tab) 193 [.sl g.nn g.l,.int .i64 n] (fun v=>∃b,v=.bool b)):
 Ah (Ac tab) 163 [g.av,.int .i64 n] (fun v=>∃b,v=.bool b):=by
 obtain⟨g1,g2,g3,g4,g5,g6,g7⟩:=hg
 unfold Ln at g4 g5
 refine Ae rfl rfl ?_
 (conv=>whnf);repeat' (first|(refine kA ?_;conv=>whnf)|(refine Br.mk (fun hc=>?_) fun hc=>?_<;>first|exact hc.elim|conv=>whnf)|(refine Aa (bare (g:=g)) ?_;rintro _ ⟨b,rfl⟩;conv=>whnf)|(refine Aa (Alc (n:=g.n)) ?_;rintro _ ⟨b,rfl⟩;conv=>whnf)|(refine Aa (AgZ (n:=g.n) (d:=g.d)) ?_;rintro _ ⟨b,rfl,_⟩;conv=>whnf)|(refine Aa (AiX g4) ?_;rintro _ ⟨b,rfl⟩;conv=>whnf)|(refine Aa (Ag0 g5 g7) ?_;rintro _ ⟨b,rfl⟩;conv=>whnf)|(refine Aa hlist ?_;rintro _ ⟨b,rfl⟩;conv=>whnf)|(refine kB ?_))
 all_goals exact⟨_,rfl⟩
theorem valid {n:Nat} (hn:n<2^60):∀{g:GV},g.ok→Ah (Ac tab) 163 [g.av,.int .i64 n] (fun v=>∃b,v=.bool b):=by
 induction n with
 |zero=>intro g hg;exact AcJ hg (AiV hg.2.2.2.2.1)
 |succ n ih=>intro g hg;exact AcJ hg (AiW (ih (by omega)) (by omega) hg.2.2.2.2.1 hg.2.2.2.2.2.2)
theorem Valid {g:GV} (hg:g.ok):Ah (Ac tab) 146 [g.av] (fun v=>∃b,v=.bool b):=by
 refine Ae rfl rfl ?_
 (conv=>whnf);repeat' (first|(refine kA ?_;conv=>whnf)|(refine Br.mk (fun hc=>?_) fun hc=>?_<;>first|exact hc.elim|conv=>whnf)|(refine Aa (valid (n:=8) (by omega) hg) ?_;rintro _ ⟨b,rfl⟩;conv=>whnf)|(refine kB ?_))
 all_goals exact⟨_,rfl⟩
def U0 (v:GV) (n d s l:Bool):Prop:=(n=true∨v.n=0)∧(d=true∨v.d=0)∧(s=true∨v.s=[])∧(l=true∨v.l.length=0)
instance (v:GV) (n d s l:Bool):Decidable (U0 v n d s l):=by unfold U0;infer_instance
theorem AjB {v:GV} {n d s l:Bool} (hl:v.l.length<2^63):Ah (Ac tab) 189 [v.av,.bool n,.bool d,.bool s,.bool l] (· =.bool (decide (U0 v n d s l))):=by
 cases n<;>cases d<;>cases s<;>cases l
 all_goals
  refine Ae rfl rfl ?_
  (conv=>whnf);repeat' (first|(refine kA ?_;conv=>whnf)|(refine Br.mk (fun hc=>?_) fun hc=>?_<;>first|exact hc.elim|conv=>whnf)  |(refine kB ?_))
 all_goals first
  |(refine BP ?_;unfold U0;refine⟨?_,?_,?_,?_⟩<;>first|(left;rfl)|(right;first|assumption|omega))
  |(refine Bf ?_;unfold U0;rintro⟨h1,h2,h3,h4⟩;simp only[Bool.false_eq_true,false_or,true_or]at h1 h2 h3 h4;first|contradiction|omega)
theorem AlG {s:List UInt8} (hl:s.length<2^63):Ah (Ac tab) 191 [.str s] (· =.bool (decide (okS s))):=by
 refine Ae rfl rfl ?_
 (conv=>whnf);repeat' (first|(refine kA ?_;conv=>whnf)|(refine Br.mk (fun hc=>?_) fun hc=>?_<;>first|exact hc.elim|conv=>whnf)  |(refine kB ?_))
 refine Aj (fun m env s'=>∃i:Nat,m=s.length-i∧env=[(0,.str s),(3,.int .i64 i)]∧s'=⟨[],0⟩∧∀c∈s.take i,Oo c=false) ?_ _ _ _ ⟨0,rfl,rfl,rfl,by simp⟩
 rintro _ _ _ ⟨i,rfl,rfl,rfl,hx⟩
 refine⟨rfl,?_⟩
 (conv=>whnf);repeat' (first|(refine kA ?_;conv=>whnf)|(refine Br.mk (fun hc=>?_) fun hc=>?_<;>first|exact hc.elim|conv=>whnf)  |(refine kB ?_))
 all_goals first
  |exact again.mk ⟨_,by omega,i+1,rfl,rfl,rfl,BG (by omega) hx (by unfold Oo;simp;omega)⟩
  |(refine Bf fun h=>?_;have:=h.2 s[i] (List.getElem_mem (by omega));unfold Oo at this;simp at this;omega)
  |(rw [List.take_of_length_le (by omega)]at hx;exact BP ⟨by omega,hx⟩)
  |(refine Bf fun h=>?_;have:=h.1;omega)
theorem AhB {v:GV} (hv:v.ok) (hk:IU v) {n:Int}:Ah (Ac tab) 163 [v.av,.int .i64 n] (· =.bool (decide (Ey v))):=by
 obtain⟨g1,g2,g3,g4,g5,g6,g7⟩:=hv
 unfold Ln at g4 g5
 unfold IU at hk
 refine Ae rfl rfl ?_
 (conv=>whnf);repeat' (first|(refine kA ?_;conv=>whnf)|(refine Br.mk (fun hc=>?_) fun hc=>?_<;>first|exact hc.elim|conv=>whnf)|(refine CU (AjB (v:=v) g5) (fun hb=>?_) (fun hb=>?_)<;>conv=>whnf)|(refine CU (AlF (n:=v.n)) (fun hr=>?_) (fun hr=>?_)<;>conv=>whnf)|(refine CU (AlG (s:=v.s) g4) (fun hr=>?_) (fun hr=>?_)<;>conv=>whnf)|(refine kB ?_))
 all_goals unfold U0 at hb
 all_goals simp only[Bool.false_eq_true,false_or,true_or,true_and]at hb
 all_goals first
  |exact BP (AhC (by omega) hb.1 hb.2.2 hb.2.1 (by omega))
  |exact BP (AhD (by omega) hb.1 hb.2.2 hb.2.1 hr)
  |exact BP (AhE (by omega) hb.2.1 hb.2.2 hb.1 hr)
  |exact Bf fun h=>hb ⟨h.1,AhF h (by omega),h.2.1⟩
  |exact Bf fun h=>hb ⟨(Adw h (by omega)).1,h.1,h.2.1⟩
  |(refine Bf fun h=>?_;have:=AhG h (by omega);omega)
  |exact Bf fun h=>hr (AhH h (by omega))
  |exact Bf fun h=>hr (Adw h (by omega)).2
  |(exfalso;omega)
theorem AhI {v:GV} (hv:v.ok) (hk:IU v):Ah (Ac tab) 146 [v.av] (· =.bool (decide (Ey v))):=by
 refine Ae rfl rfl ?_
 (conv=>whnf);repeat' (first|(refine kA ?_;conv=>whnf)|(refine Br.mk (fun hc=>?_) fun hc=>?_<;>first|exact hc.elim|conv=>whnf)|(refine CU (AhB (v:=v) hv hk) (fun hr=>?_) (fun hr=>?_)<;>conv=>whnf)|(refine kB ?_))
 all_goals first|exact BP (by assumption)|exact Bf (by assumption)
theorem AhJ {v:GV} (hv:v.ok):Ah (Ac tab) 117 [v.av] (· =.bool (decide (Ey v))):=by
 by_cases hk:IU v
 ·have hk':=hk
  unfold IU at hk'
  refine Ae rfl rfl ?_
  (conv=>whnf);repeat' (first|(refine kA ?_;conv=>whnf)|(refine Br.mk (fun hc=>?_) fun hc=>?_<;>first|exact hc.elim|conv=>whnf)|(refine CU (AhI (v:=v) hv hk) (fun hr=>?_) (fun hr=>?_)<;>conv=>whnf)|(refine kB ?_))
  all_goals first|exact BP (by assumption)|exact Bf (by assumption)|(exfalso;omega)
 ·have hk':=hk
  unfold IU at hk'
  refine Ae rfl rfl ?_
  (conv=>whnf);repeat' (first|(refine kA ?_;conv=>whnf)|(refine Br.mk (fun hc=>?_) fun hc=>?_<;>first|exact hc.elim|conv=>whnf)|(refine Aa (Valid (g:=v) hv) ?_;rintro _ ⟨b,rfl⟩;conv=>whnf)|(refine kB ?_))
  all_goals first|exact Bf (fun h=>hk (U1 h))|(exfalso;omega)
theorem AjC {P:List GP} {nn:Bool} (hl:P.length<2^40):Ah (Ac tab) 114 [.sl nn (vs GP.av P)] (fun v=>∃b,v=.sl b (vs .str (keysOf P))):=by
 refine Ae rfl rfl ?_
 (conv=>whnf);repeat' (first|(refine kA ?_;conv=>whnf)|(refine Br.mk (fun hc=>?_) fun hc=>?_<;>first|exact hc.elim|conv=>whnf)  |(refine kB ?_))
 refine Aj (fun m env s=>∃(i c go n:Nat) (b:Bool),m=P.length-i∧i≤P.length∧n=i∧env=[(0,.sl nn (vs GP.av P)),(3,.own 0 go 0 n),(4,.int .i64 i)]∧s=⟨[.arr go 1 b true (vs .str (keysOf (P.take i)))],c⟩) ?_ _ _ _ ⟨0,_,_,0,_,rfl,by omega,rfl,rfl,rfl⟩
 rintro _ _ _ ⟨i,c,go,n,b,rfl,hi,hn,rfl,rfl⟩
 refine⟨rfl,?_⟩
 (conv=>whnf);repeat' (first|(refine Um (x:=(P[i]).key) (fun _=>rfl) (by simp;omega) (by simp;omega) ?_;conv=>whnf)|(refine kA ?_;conv=>whnf)|(refine Br.mk (fun hc=>?_) fun hc=>?_<;>first|exact hc.elim|conv=>whnf)|(refine kB ?_))
 ·exact again.mk ⟨_,by omega,i+1,_,_,_,_,rfl,by omega,by simp;omega,rfl,by rw[Qj (by omega)]⟩
 ·obtain rfl:i=P.length:=by omega
  refine⟨b,?_⟩
  rw[AhK,hn]
  simp
  rw[List.take_of_length_le (by simp)]
theorem Adx {L:List (List UInt8)} {P:List GP} {ln pn:Bool} (hL:L.length<2^63) (hs:∀s∈L,s.length<2^63) (hP:P.length<2^63) (hp:∀p∈P,p.ok):Ah (Ac tab) 79 [.sl ln (vs .str L),.sl pn (vs GP.av P)] (· =.int .i64 (DC L P)):=by
 have hk:=UM hp
 have hkl:(keysOf P).length<2^63:=by rw[ND];exact hP
 refine Ae rfl rfl ?_
 (conv=>whnf);repeat' (first|(refine kA ?_;conv=>whnf)|(refine Br.mk (fun hc=>?_) fun hc=>?_<;>first|exact hc.elim|conv=>whnf)  |(refine kB ?_))
 ·exact Q5 (by omega)
 ·exact Q5 (by omega)
 have h16:¬(8<L.length∨16<P.length):=by omega
 refine Aa (AjC (P:=P) (by omega)) ?_
 rintro _ ⟨b,rfl⟩
 (conv=>whnf);repeat' (first|(refine CU (Ady hL hs) (fun h1=>?_) (fun h1=>?_)<;>conv=>whnf)|(refine CU (Ady hkl hk) (fun h2=>?_) (fun h2=>?_)<;>conv=>whnf)|(refine CU (Adz hL) (fun h3=>?_) (fun h3=>?_)<;>conv=>whnf)|(refine CU (Adz hkl) (fun h4=>?_) (fun h4=>?_)<;>conv=>whnf)|(refine kA ?_;conv=>whnf)|(refine Br.mk (fun hc=>?_) fun hc=>?_<;>first|exact hc.elim|conv=>whnf)|(refine kB ?_))
 all_goals first
  |exact Q7 h16 fun h=>h1 h.1
  |exact Q7 h16 fun h=>h2 h.2
  |exact Ox h16 ⟨h1,h2⟩ fun h=>h3 h.1
  |exact Ox h16 ⟨h1,h2⟩ fun h=>h4 h.2
  |skip
 refine Aj (fun m env s=>∃(i:Nat),m=P.length-i∧env=[(1,.sl pn (vs GP.av P)),(6,.int .i64 i)]∧s=⟨[],0⟩∧∀p∈P.take i,Ey p.v) ?_ _ _ _ ⟨0,rfl,rfl,rfl,by simp⟩
 rintro _ _ _ ⟨i,rfl,rfl,rfl,hx⟩
 refine⟨rfl,?_⟩
 (conv=>whnf);repeat' (first|(refine CU (AhJ (v:=(P[i]).v) (hp _ (List.getElem_mem (by omega))).2) (fun hr=>?_) (fun hr=>?_)<;>conv=>whnf)|(refine kA ?_;conv=>whnf)|(refine Br.mk (fun hc=>?_) fun hc=>?_<;>first|exact hc.elim|conv=>whnf)|(refine kB ?_))
 ·exact again.mk ⟨_,by omega,i+1,rfl,rfl,rfl,BG (by omega) hx hr⟩
 ·exact Aad h16 ⟨h1,h2⟩ ⟨h3,h4⟩ fun h=>hr (h _ (List.getElem_mem _))
 ·rw[Dh hc]at hx
  exact Aae h16 ⟨h1,h2⟩ ⟨h3,h4⟩ hx
theorem AgF {g:GG} (hl:g.nodes.length<2^62) {id:Int}:Ah (Ac tab) 80 [g.av,.int .i64 id] (fun v=>∃n:GN,v=.CP [n.av,.bool (decide (id∈Gn g.nodes))]):=by
 refine Ae rfl rfl ?_
 (conv=>whnf);repeat' (first|(refine kA ?_;conv=>whnf)|(refine Br.mk (fun hc=>?_) fun hc=>?_<;>first|exact hc.elim|conv=>whnf)  |(refine kB ?_))
 refine Aj (fun m env s=>∃i:Nat,m=g.nodes.length-i∧id∉Gn (g.nodes.take i)∧env=[(1,.int .i64 id),(2,.ref 0 0 0 0),(4,.ref 1 1 0 0),(6,.int .i64 i)]∧s=⟨[.arr 0 4 true true [g.av],.arr 1 3 true true [.agg [.int .i64 0,.sl false [],.sl false []]]],2⟩) ?_ _ _ _ ⟨0,rfl,by simp[Gn],rfl,rfl⟩
 rintro _ _ _ ⟨i,rfl,hx,rfl,rfl⟩
 refine⟨rfl,?_⟩
 (conv=>whnf);repeat' (first|(refine kA ?_;conv=>whnf)|(refine Br.mk (fun hc=>?_) fun hc=>?_<;>first|exact hc.elim|conv=>whnf)  |(refine kB ?_))
 ·refine⟨g.nodes[i],?_⟩
  have:id∈Gn g.nodes:=hc▸List.mem_map_of_mem (List.getElem_mem _)
  rw[decide_eq_true this];rfl
 ·refine again.mk ⟨_,by omega,i+1,rfl,?_,rfl,rfl⟩
  unfold Gn at hx ⊢
  rw[List.take_succ_eq_append_getElem (by omega),List.map_append,List.mem_append]
  rintro(h|h)
  ·exact hx h
  ·simp at h;exact hc h.symm
 ·rw[Dh hc]at hx
  refine⟨⟨0,false,[],false,[]⟩,?_⟩
  rw[decide_eq_false hx];rfl
theorem Aj9 {g:GG} (hg:g.ok) {i:Nat} (hi:i<g.nodes.length):Ah (Ac tab) 38 [g.av,.int .i64 i] (· =.int .i64 (EZ g.nodes g.Dn i)):=by
 obtain⟨g1,g2,g3,g4,g5,g6,g7,g8⟩:=hg
 unfold Ln at g1 g4
 have hat:=g3 _ (List.getElem_mem hi)
 refine Ae rfl rfl ?_
 (conv=>whnf);repeat' (first|(apply Au;(· exact nVz (i-1) (by omega) (by omega));conv=>whnf)|(refine Aa (Adx (L:=(g.nodes[i]).labels) (P:=(g.nodes[i]).props) hat.2.1 hat.2.2.2.1 hat.2.2.2.2.1 hat.2.2.2.2.2.2) ?_;rintro _ rfl;conv=>whnf)|(refine kA ?_;conv=>whnf)|(refine Br.mk (fun hc=>?_) fun hc=>?_<;>first|exact hc.elim|conv=>whnf)|(refine kB ?_))
 all_goals first
  |(rw [Z9 hi (fun h=>by first|assumption|omega) (by omega)];rfl)
  |(rw [YI hi (by omega) (by assumption)];rfl)
  |(rw [node1 hi (fun h=>by first|assumption|omega) (by omega)];rfl)
set_option maxHeartbeats 1000000 in
theorem Aka {g:GG} (hg:g.ok) (hf:g.nodes.length<2^62) {i:Nat} (hi:i<g.edges.length):Ah (Ac tab) 39 [g.av,.int .i64 i] (· =.int .i64 (Fg g.nodes g.edges g.DJ i)):=by
 obtain⟨g1,g2,g3,g4,g5,g6,g7,g8⟩:=hg
 unfold Ln at g1 g4
 have hat:=g6 _ (List.getElem_mem hi)
 refine Ae rfl rfl ?_
 (conv=>whnf);repeat' (first|(apply Au;(· exact nVz (i-1) (by omega) (by omega));conv=>whnf)|(refine Aa (AgF (g:=g) (id:=(g.edges[i]).fr) hf) ?_;rintro _ ⟨n1,rfl⟩;conv=>whnf)|(refine Aa (AgF (g:=g) (id:=(g.edges[i]).to) hf) ?_;rintro _ ⟨n2,rfl⟩;conv=>whnf)|(refine CU (name2 (s:=(g.edges[i]).ty) hat.2.2.2.1) (fun hnm=>?_) (fun hnm=>?_)<;>conv=>whnf)|(refine Aa (Adx (L:=[]) (P:=(g.edges[i]).props) (by decide) (by simp) hat.2.2.2.2.1 hat.2.2.2.2.2.2) ?_;rintro _ rfl;conv=>whnf)|(refine kA ?_;conv=>whnf)|(refine Br.mk (fun hc=>?_) fun hc=>?_<;>first|exact hc.elim|conv=>whnf)|(refine kB ?_))
 all_goals try simp only[decide_eq_true_eq,decide_eq_false_iff_not]at*
 all_goals first
  |(rw [YK hi (by omega) (by assumption)];rfl)
  |(rw [Acu hi (fun h=>by first|assumption|omega) (by omega)];rfl)
  |(rw [Aaa hi (fun h=>by first|assumption|omega) (by omega) ⟨by assumption,by assumption⟩ hnm];rfl)
  |(rw [Acv hi (fun h=>by first|assumption|omega) (by omega) ⟨by assumption,by assumption⟩ hnm];rfl)
  |(rw [YL hi (fun h=>by first|assumption|omega) (by omega) (fun h=>by first|exact absurd h.1 (by assumption)|exact absurd h.2 (by assumption))];rfl)
theorem Ahd {g:GG} (hg:g.ok):Ah (Ac tab) 14 [g.av] (· =.int .i64 (Bo g)):=by
 have hg0:=hg
 obtain⟨g1,g2,g3,g4,g5,g6,g7,g8⟩:=hg
 unfold Ln at g1 g4
 refine Ae rfl rfl ?_
 (conv=>whnf);repeat' (first|(refine kA ?_;conv=>whnf)|(refine Br.mk (fun hc=>?_) fun hc=>?_<;>first|exact hc.elim|conv=>whnf)  |(refine kB ?_))
 all_goals first|exact Acw (by unfold FP;omega)|exact Acx (by unfold FP;omega) (by unfold Gq;omega)|skip
 have hf:FP g:=by unfold FP;omega
 have hnx:Gq g:=by unfold Gq;omega
 have hf1:=hf.1
 have hf2:=hf.2
 refine Aj (fun m env s=>∃i:Nat,m=g.nodes.length-i∧i≤g.nodes.length∧(∀ k,k<i→EZ g.nodes g.Dn k=0)∧env=[(1,.ref 0 0 0 0),(3,.int .i64 i)]∧s=⟨[.arr 0 4 true true [g.av]],1⟩) ?_ _ _ _ ⟨0,rfl,by omega,fun k h=>absurd h (by omega),rfl,rfl⟩
 rintro _ _ _ ⟨i,rfl,hin,hx,rfl,rfl⟩
 refine⟨rfl,?_⟩
 (conv=>whnf);repeat' (first|(refine Aa (Aj9 hg0 (i:=i) (by omega)) ?_;rintro _ rfl;conv=>whnf)|(refine kA ?_;conv=>whnf)|(refine Br.mk (fun hc=>?_) fun hc=>?_<;>first|exact hc.elim|conv=>whnf)|(refine kB ?_))
 ·exact again.mk ⟨_,by omega,i+1,rfl,by omega,Jd hx hc,rfl,rfl⟩
 ·exact checkN hf hnx (by omega) hx rfl hc
 have hN:∀k,k<g.nodes.length→EZ g.nodes g.Dn k=0:=fun k h=>hx k (by omega)
 refine Aj (fun m env s=>∃i:Nat,m=g.edges.length-i∧i≤g.edges.length∧(∀ k,k<i→Fg g.nodes g.edges g.DJ k=0)∧env=[(1,.ref 0 0 0 0),(5,.int .i64 i)]∧s=⟨[.arr 0 4 true true [g.av]],1⟩) ?_ _ _ _ ⟨0,rfl,by omega,fun k h=>absurd h (by omega),rfl,rfl⟩
 rintro _ _ _ ⟨j,rfl,hjn,hy,rfl,rfl⟩
 refine⟨rfl,?_⟩
 (conv=>whnf);repeat' (first|(refine Aa (Aka hg0 (i:=j) (by omega) (by omega)) ?_;rintro _ rfl;conv=>whnf)|(refine kA ?_;conv=>whnf)|(refine Br.mk (fun hc=>?_) fun hc=>?_<;>first|exact hc.elim|conv=>whnf)|(refine kB ?_))
 ·exact again.mk ⟨_,by omega,j+1,rfl,by omega,Jd hy hc,rfl,rfl⟩
 ·exact L9 hf hnx hN (by omega) hy rfl hc
 ·exact Acy hf hnx hN fun k h=>hy k (by omega)
def atB (T:List (List Bool)) (i k:Nat):Bool:=(T.getD i []).getD k false
def NR (types:List (List UInt8)) (es:List GE) (x y:Int):Prop:=x≠y∧(JN types es x y∨JN types es y x)
noncomputable instance (types:List (List UInt8)) (es:List GE) (x y:Int):Decidable (NR types es x y):=Classical.propDecidable _
theorem YG {types:List (List UInt8)} {es:List GE} {a b:Int}:JN types es a b↔∃e∈es,JP types a b e:=by
 constructor
 ·rintro⟨i,h,hp⟩
  exact⟨_,List.getElem_mem h,hp⟩
 ·rintro⟨e,he,hp⟩
  obtain⟨i,h,rfl⟩:=List.getElem_of_mem he
  exact⟨i,h,hp⟩
structure Xj (L:List (Int×Bool)):Prop where
 nd:(L.map Prod.fst).Nodup
 tt:∀p∈L,p.2=true
theorem AeN {α:Type} {M:List (Int×α)} {k:Int} {v:α} (h:Dx M k=some v):(k,v)∈M:=by
 induction M with
 |nil=>cases h
 |cons p M ih=>
  simp only[Dx]at h
  split at h
  ·rename_i e
   cases h
   rw[e]
   exact List.mem_cons_self
  ·exact List.mem_cons_of_mem _ (ih h)
theorem Xj.put {L:List (Int×Bool)} (h:Xj L) (k:Int):Xj (EF L k true):=by
 have hn:((EF L k true).map Prod.fst).Nodup:=YH h.nd k true
 refine⟨hn,fun p hp=>?_⟩
 have h1:=Oj hn hp
 rw[JA]at h1
 split at h1
 ·exact(Option.some.inj h1).symm
 ·exact h.tt _ (AeN h1)
theorem Xj.has {L:List (Int×Bool)} (h:Xj L) (x:Int):hasB L x=decide (x∈L.map Prod.fst):=by
 unfold hasB
 by_cases hx:x∈L.map Prod.fst
 ·rw[decide_eq_true hx]
  obtain⟨p,hp,rfl⟩:=List.mem_map.1 hx
  rw[Oj h.nd hp,h.tt p hp]
  rfl
 ·rw[decide_eq_false hx,L8.2 hx]
  rfl
def Hw (g:GG) (k:Nat):Int:=(g.nodes.map GN.id).getD k 0
theorem KW {g:GG} {k:Nat} (h:k<g.nodes.length):Hw g k=(g.nodes[k]).id:=by simp[Hw,h]
theorem VK {g:GG} (hck:Bo g=0) {i k:Nat} (hi:i<g.nodes.length) (hk:k<g.nodes.length):Hw g i=Hw g k↔i=k:=by
 rw[KW hi,KW hk]
 refine⟨fun h=>?_,fun h=>by subst h;rfl⟩
 have hnd:=Vx hck
 have h1:(BK g)[i]'(by rw[DF];exact hi)=(BK g)[k]'(by rw[DF];exact hk):=by rw[JR hi,JR hk,h]
 exact(List.getElem_inj hnd).1 h1
structure Xt {κ:Type} (lt:κ→κ→Bool):Prop where
 irr:∀x,lt x x=false
 tr:∀x y z,lt x y=true→lt y z=true→lt x z=true
 tot:∀x y,lt x y=false→lt y x=false→x=y
def H7 (a b:Int):Bool:=decide (a<b)
theorem Bq:Xt H7 where
 irr:=fun x=>by simp[H7]
 tr:=fun x y z h1 h2=>by simp[H7]at *;omega
 tot:=fun x y h1 h2=>by simp[H7]at *;omega
section
variable {α κ:Type} {lt:κ→κ→Bool} {key:α→κ}
def Inc (lt:κ→κ→Bool) (key:α→κ) (l:List α):Prop:=l.Pairwise fun a b=>lt (key a) (key b)=true
def below (lt:κ→κ→Bool) (key:α→κ) (k:κ) (l:List α):List α:=l.filter fun a=>lt (key a) k
def above (lt:κ→κ→Bool) (key:α→κ) (k:κ) (l:List α):List α:=l.filter fun a=>lt k (key a)
def EC (lt:κ→κ→Bool) (key:α→κ) (x:α) (l:List α):List α:=below lt key (key x) l++[x]++above lt key (key x) l
def RX (lt:κ→κ→Bool) (key:α→κ) (k:κ) (l:List α):List α:=below lt key k l++above lt key k l
structure AtK (lt:κ→κ→Bool) (key:α→κ) (k:κ) (l:List α) (i:Nat):Prop where
 le:i≤l.length
 lo:∀j (h:j<l.length),j<i→lt (key l[j]) k=true
 hi:∀j (h:j<l.length),i≤j→lt (key l[j]) k=false
theorem filter_all {p:α→Bool}:∀{l:List α},(∀ x∈l,p x=true)→l.filter p=l
 |[],_=>rfl
 |x::l,h=>by rw[List.filter_cons_of_pos (h x (by simp)),filter_all fun y hy=>h y (by simp[hy])]
theorem filter_none {p:α→Bool}:∀{l:List α},(∀ x∈l,p x=false)→l.filter p=[]
 |[],_=>rfl
 |x::l,h=>by rw[List.filter_cons_of_neg (by rw[h x (by simp)];simp),filter_none fun y hy=>h y (by simp[hy])]
theorem AtK.take {k:κ} {l:List α} {i:Nat} (h:AtK lt key k l i):l.take i=below lt key k l:=by
 unfold below
 conv=>rhs;rw[← List.take_append_drop i l]
 rw[List.filter_append,filter_all,filter_none,List.append_nil]
 ·intro x hx
  obtain⟨j,hj⟩:=List.mem_iff_getElem?.1 hx
  rw[List.getElem?_drop]at hj
  obtain⟨hlt,rfl⟩:=List.getElem?_eq_some_iff.1 hj
  exact h.hi _ hlt (by omega)
 ·intro x hx
  obtain⟨j,hj⟩:=List.mem_iff_getElem?.1 hx
  have hji:j<i:=by
   have:=(List.getElem?_eq_some_iff.1 hj).1
   rw[List.length_take]at this;omega
  rw[List.getElem?_take_of_lt hji]at hj
  obtain⟨hlt,rfl⟩:=List.getElem?_eq_some_iff.1 hj
  exact h.lo _ hlt hji
theorem Inc.get {l:List α} (h:Inc lt key l) {i j:Nat} (hij:i<j) (hj:j<l.length):lt (key l[i]) (key l[j])=true:=List.pairwise_iff_getElem.1 h i j (by omega) hj hij
theorem AtK.found (hs:Xt lt) {k:κ} {l:List α} {i:Nat} (hl:Inc lt key l) (h:AtK lt key k l i) (hf:∃x∈l,key x=k):∃hi:i<l.length,key l[i]=k∧l.drop (i+1)=above lt key k l:=by
 obtain⟨x,hx,hk⟩:=hf
 obtain⟨j,hj,rfl⟩:=List.getElem_of_mem hx
 have hij:i≤j:=by
  rcases Nat.lt_or_ge j i with h1|h1
  ·have:=h.lo j hj h1
   rw[hk,hs.irr]at this
   cases this
  ·exact h1
 have hik:i<l.length:=by omega
 have hki:key l[i]=k:=by
  rcases Nat.lt_or_ge i j with h1|h1
  ·have h2:=hl.get h1 hj
   rw[hk,h.hi i hik (Nat.le_refl _)]at h2
   cases h2
  ·obtain rfl:i=j:=by omega
   exact hk
 refine⟨hik,hki,?_⟩
 unfold above
 conv=>rhs;rw[← List.take_append_drop (i+1) l]
 rw[List.filter_append,filter_none,filter_all,List.nil_append]
 ·intro x hx
  obtain⟨q,hq⟩:=List.mem_iff_getElem?.1 hx
  rw[List.getElem?_drop]at hq
  obtain⟨hlt,rfl⟩:=List.getElem?_eq_some_iff.1 hq
  rw[← hki]
  exact hl.get (by omega) hlt
 ·intro x hx
  obtain⟨q,hq⟩:=List.mem_iff_getElem?.1 hx
  have hqi:q<i+1:=by
   have:=(List.getElem?_eq_some_iff.1 hq).1
   rw[List.length_take]at this;omega
  rw[List.getElem?_take_of_lt hqi]at hq
  obtain⟨hlt,rfl⟩:=List.getElem?_eq_some_iff.1 hq
  rcases Nat.lt_or_ge q i with h1|h1
  ·have h2:=h.lo _ hlt h1
   cases h3:lt k (key l[q])
   ·rfl
   ·have:=hs.tr _ _ _ h2 h3
    rw[hs.irr]at this
    cases this
  ·obtain rfl:q=i:=by omega
   rw[hki,hs.irr]
theorem AtK.set (hs:Xt lt) {x:α} {l:List α} {i:Nat} (hl:Inc lt key l) (h:AtK lt key (key x) l i) (hf:∃y∈l,key y=key x):l.set i x=EC lt key x l:=by
 obtain⟨hi,_,hd⟩:=h.found hs hl hf
 rw[List.set_eq_take_append_cons_drop,if_pos hi,h.take,hd]
 simp[EC]
theorem DK (hs:Xt lt) {x y:α} {l:List α}:y∈EC lt key x l→y=x∨y∈l:=by
 intro h
 simp only[EC,below,above,List.mem_append,List.mem_filter,List.mem_singleton]at h
 rcases h with(h|h)|h
 ·exact .inr h.1
 ·exact .inl h
 ·exact .inr h.1
theorem OD {k:κ} {y:α} {l:List α}:y∈RX lt key k l→y∈l:=by
 intro h
 simp only[RX,below,above,List.mem_append,List.mem_filter]at h
 rcases h with h|h<;>exact h.1
theorem G6 (hs:Xt lt) {x:α} {l:List α} (hl:Inc lt key l):Inc lt key (EC lt key x l):=by
 unfold EC Inc
 refine List.pairwise_append.2 ⟨List.pairwise_append.2 ⟨hl.filter _,List.pairwise_singleton _ _,?_⟩,hl.filter _,?_⟩
 ·intro a ha b hb
  simp only[below,List.mem_filter,List.mem_singleton]at ha hb
  subst hb
  exact ha.2
 ·intro a ha b hb
  simp only[above,List.mem_filter]at hb
  rcases List.mem_append.1 ha with ha|ha
  ·simp only[below,List.mem_filter]at ha
   exact hs.tr _ _ _ ha.2 hb.2
  ·simp only[List.mem_singleton]at ha
   subst ha
   exact hb.2
theorem Lj (hs:Xt lt) {k:κ} {l:List α} (hl:Inc lt key l):Inc lt key (RX lt key k l):=by
 unfold RX Inc
 refine List.pairwise_append.2 ⟨hl.filter _,hl.filter _,?_⟩
 intro a ha b hb
 simp only[below,above,List.mem_filter]at ha hb
 exact hs.tr _ _ _ ha.2 hb.2
end
def Rd (σ:List Obj) (D:Nat) (x y:AV):Prop:=∀m,D≤m→snap σ m x=some y
def Ob (σ:List Obj) (D:Nat) (xs ys:List AV):Prop:=∀m,D≤m→G7 σ m xs=some ys
theorem Rd.mono {σ:List Obj} {D D':Nat} {x y:AV} (h:Rd σ D x y) (hd:D≤D'):Rd σ D' x y:=fun m hm=>h m (by omega)
theorem Ob.mono {σ:List Obj} {D D':Nat} {x y:List AV} (h:Ob σ D x y) (hd:D≤D'):Ob σ D' x y:=fun m hm=>h m (by omega)
theorem Ob.nil {σ:List Obj}:Ob σ 0 [] []:=fun m _=>by cases m<;>rfl
theorem Ob.cons {σ:List Obj} {D:Nat} {x y:AV} {xs ys:List AV} (h:Rd σ D x y) (k:Ob σ D xs ys):Ob σ (D+1) (x::xs) (y::ys):=fun m hm=>by
 obtain⟨m,rfl⟩:∃m',m=m'+1:=⟨m-1,by omega⟩
 simp only[G7,h m (by omega),k m (by omega)]
theorem Ob.map {α:Type} {σ:List Obj} {D:Nat} {f g:α→AV}:∀{l:List α},(∀ e∈l,Rd σ D (f e) (g e))→Ob σ (D+l.length) (vs f l) (vs g l)
 |[],_=>Ob.nil.mono (by omega)
 |e::l,h=>(Ob.cons ((h e (by simp)).mono (D':=D+l.length) (by omega)) (Ob.map fun x hx=>h x (by simp[hx]))).mono (by simp;omega)
theorem Rd.agg {σ:List Obj} {D:Nat} {xs ys:List AV} (h:Ob σ D xs ys):Rd σ (D+1) (.agg xs) (.agg ys):=fun m hm=>by
 obtain⟨m,rfl⟩:∃m',m=m'+1:=⟨m-1,by omega⟩
 simp only[snap,h m (by omega),Option.map_some]
theorem Rd.int {σ:List Obj} {k:IntKind} {z:Int}:Rd σ 1 (.int k z) (.int k z):=fun m hm=>by
 obtain⟨m,rfl⟩:∃m',m=m'+1:=⟨m-1,by omega⟩
 rfl
theorem Rd.str {σ:List Obj} {z:List UInt8}:Rd σ 1 (.str z) (.str z):=fun m hm=>by
 obtain⟨m,rfl⟩:∃m',m=m'+1:=⟨m-1,by omega⟩
 rfl
def Hd {α:Type} (f:α→AV) (es:Nat) (σ:List Obj) (v:AV) (b:Bool) (l:List α) (c:Bool):Prop:=
 (b=false∧l=[]∧(v=.sl false []∨∃o g es',v=.own o g 0 0∧nth σ o=some (.arr g es' false true [])))∨
 (b=true∧∃o g,v=.own o g 0 l.length∧nth σ o=some (.arr g es true c (vs f l)))
theorem Hd.lt {α:Type} {f:α→AV} {es:Nat} {σ:List Obj} {v:AV} {b c:Bool} {l:List α} (h:Hd f es σ v b l c):∀o∈v.obj,o<σ.length:=by
 intro o ho
 rcases h with⟨_,_,rfl|⟨o',g,es',rfl,h⟩⟩|⟨_,o',g,rfl,h⟩
 ·simp[AV.obj]at ho
 ·simp only[AV.obj,List.mem_singleton]at ho;subst ho;exact BR h
 ·simp only[AV.obj,List.mem_singleton]at ho;subst ho;exact BR h
theorem Hd.obj {α:Type} {f:α→AV} {es:Nat} {σ:List Obj} {v:AV} {b c:Bool} {l:List α} (h:Hd f es σ v b l c) {o:Nat} (ho:o∈v.obj):∃g es' nn c' xs,nth σ o=some (.arr g es' nn c' xs)∧(nn=true→es'=es):=by
 rcases h with⟨_,_,rfl|⟨o',g,es',rfl,h⟩⟩|⟨_,o',g,rfl,h⟩
 ·simp[AV.obj]at ho
 ·simp only[AV.obj,List.mem_singleton]at ho;subst ho;exact⟨_,_,_,_,_,h,by simp⟩
 ·simp only[AV.obj,List.mem_singleton]at ho;subst ho;exact⟨_,_,_,_,_,h,fun _=>rfl⟩
theorem Hd.keep {α:Type} {f:α→AV} {es:Nat} {σ σ':List Obj} {v:AV} {b c:Bool} {l:List α} (h:Hd f es σ v b l c) (hk:∀o∈v.obj,nth σ' o=nth σ o):Hd f es σ' v b l c:=by
 rcases h with⟨h1,h2,rfl|⟨o',g,es',rfl,h⟩⟩|⟨h1,o',g,rfl,h⟩
 ·exact .inl ⟨h1,h2,.inl rfl⟩
 ·exact .inl ⟨h1,h2,.inr ⟨o',g,es',rfl,by rw[hk o' (by simp[AV.obj]),h]⟩⟩
 ·exact .inr ⟨h1,o',g,rfl,by rw[hk o' (by simp[AV.obj]),h]⟩
theorem Hd.sn {α:Type} {f:α→AV} {es:Nat} {σ:List Obj} {v:AV} {b:Bool} {l:List α} (h:Hd f es σ v b l true):Rd σ 1 v (.sl b (vs f l)):=fun m hm=>by
 obtain⟨m,rfl⟩:∃m',m=m'+1:=⟨m-1,by omega⟩
 rcases h with⟨rfl,rfl,rfl|⟨o',g,es',rfl,h⟩⟩|⟨rfl,o',g,rfl,h⟩
 ·rfl
 ·simp[snap,h,sub,vs]
 ·have:sub (vs f l) 0 l.length=vs f l:=uV
  simp[snap,h,this]
theorem Hd.one {α:Type} {f:α→AV} {es:Nat} {σ:List Obj} {v:AV} {b c:Bool} {l:List α} (h:Hd f es σ v b l c):v.cells.length=1∧v.storable=true:=by
 rcases h with⟨_,_,rfl|⟨o',g,es',rfl,h⟩⟩|⟨_,o',g,rfl,h⟩<;>exact⟨rfl,rfl⟩
theorem Hd.bool {α:Type} {f:α→AV} {es:Nat} {σ:List Obj} {v:AV} {b c:Bool} {l:List α} (h:Hd f es σ v b l c):b=false→l=[]:=by
 rcases h with⟨_,h,_⟩|⟨h,_⟩
 ·exact fun _=>h
 ·intro h';rw[h']at h;cases h
theorem Hd.closed {α:Type} {f:α→AV} {es:Nat} {σ:List Obj} {v:AV} {b c:Bool} {l:List α} (h:Hd f es σ v b l c) (hc:v.closed=true):v=.sl false []∧b=false∧l=[]:=by
 rcases h with⟨h1,h2,rfl|⟨o',g,es',rfl,h⟩⟩|⟨_,o',g,rfl,h⟩
 ·exact⟨rfl,h1,h2⟩
 ·cases hc
 ·cases hc
structure EN where
 n:GN
 lv:AV
 pv:AV
def EN.av (e:EN):AV:=.agg [.int .i64 e.n.id,e.lv,e.pv]
def EN.objs (e:EN):List Nat:=e.lv.obj++e.pv.obj
def EN.Ok (σ:List Obj) (e:EN):Prop:=Hd .str 1 σ e.lv e.n.ln e.n.labels true∧Hd GP.av 6 σ e.pv e.n.pn e.n.props true
structure EE where
 e:GE
 pv:AV
def EE.av (e:EE):AV:=.agg [.int .i64 e.e.id,.int .i64 e.e.fr,.int .i64 e.e.to,.str e.e.ty,e.pv]
def EE.objs (e:EE):List Nat:=e.pv.obj
def EE.Ok (σ:List Obj) (e:EE):Prop:=Hd GP.av 6 σ e.pv e.e.pn e.e.props true
def Je (N:List EN) (E:List EE):List Nat:=N.flatMap EN.objs++E.flatMap EE.objs
structure Ed (σ:List Obj) (d gd:Nat) (vN vE:AV) (nb eb:Bool) (N:List EN) (E:List EE) (x y:Int):Prop where
 box:nth σ d=some (.arr gd 4 true false [.agg [vN,vE,.int .i64 x,.int .i64 y]])
 hn:∃c,Hd EN.av 3 σ vN nb N c∧(c=true→∀e∈N,e.av.closed=true)
 he:∃c,Hd EE.av 5 σ vE eb E c∧(c=true→∀e∈E,e.av.closed=true)
 hN:∀e∈N,e.Ok σ
 hE:∀e∈E,e.Ok σ
 nd:(d::(vN.obj++(vE.obj++Je N E))).Nodup
 oN:vN≠.sl false []
 oE:vE≠.sl false []
def gOf (nb eb:Bool) (N:List EN) (E:List EE) (x y:Int):GG:=⟨nb,N.map EN.n,eb,E.map EE.e,x,y⟩
theorem EN.sn {σ:List Obj} {e:EN} (h:e.Ok σ):Rd σ 5 e.av e.n.av:=
 Rd.agg (Ob.cons (Rd.int.mono (by omega)) (Ob.cons (h.1.sn.mono (by omega)) (Ob.cons (h.2.sn.mono (D':=1) (by omega)) (Ob.nil.mono (D':=1) (by omega)))))
theorem EE.sn {σ:List Obj} {e:EE} (h:e.Ok σ):Rd σ 7 e.av e.e.av:=
 Rd.agg (Ob.cons (Rd.int.mono (by omega)) (Ob.cons (Rd.int.mono (by omega)) (Ob.cons (Rd.int.mono (by omega)) (Ob.cons (Rd.str.mono (by omega)) (Ob.cons (h.sn.mono (D':=1) (by omega)) (Ob.nil.mono (D':=1) (by omega)))))))
section
variable {σ σ':List Obj} {d gd:Nat} {vN vE:AV} {nb eb:Bool} {N:List EN} {E:List EE} {x y:Int}
end
section
open Go.Sort
noncomputable def Cc (types:List (List UInt8)) (g:GG) (u v:Nat):Bool:=atB (Aj8 types g) u v
theorem WE {types:List (List UInt8)} {g:GG} {i k:Nat} (hi:i<g.nodes.length) (hk:k<g.nodes.length):Cc types g i k=decide (JN types g.edges (Hw g i) (Hw g k)):=by
 unfold Cc
 rw[KW hi,KW hk]
 simp[atB,Aj8,adj,hi,hk]
def PD (g:GG) (x:Int):Nat:=(BK g).idxOf x
theorem PI {g:GG} {x:Int} (h:x∈BK g):PD g x<g.nodes.length:=by
 have:=List.idxOf_lt_length_of_mem h
 rwa [DF]at this
theorem WG {g:GG} {x:Int} (h:x∈BK g):Hw g (PD g x)=x:=by
 have hl:=PI h
 rw[KW hl,←JR hl]
 exact List.getElem_idxOf _
theorem YC {g:GG} (hck:Bo g=0) {i:Nat} (hi:i<g.nodes.length):PD g (Hw g i)=i:=by
 have hm:Hw g i∈BK g:=by rw[KW hi,←JR hi];exact List.getElem_mem _
 exact(VK hck (PI hm) hi).1 (WG hm)
noncomputable def KN (types:List (List UInt8)) (g:GG) (es:List GE) (u:Nat):List Int:=(es.filter fun e=>decide (HT types e)&&decide (PD g e.fr=u)).map fun e=>(PD g e.to:Int)
theorem RP {types:List (List UInt8)} {g:GG} {es:List GE} {e:GE} {u:Nat}:KN types g (es++[e]) u=KN types g es u++if HT types e∧PD g e.fr=u then[(PD g e.to:Int)]else[]:=by
 unfold KN
 rw[List.filter_append,List.map_append]
 by_cases h1:HT types e<;>by_cases h2:PD g e.fr=u<;>simp[h1,h2]
theorem ZY {types:List (List UInt8)} {g:GG} {es:List GE} {u:Nat}:(KN types g es u).length≤es.length:=by
 unfold KN
 rw[List.length_map]
 exact List.length_filter_le _ _
theorem VH {types:List (List UInt8)} {g:GG} (hck:Bo g=0) {u v:Nat} (hu:u<g.nodes.length) (hv:v<g.nodes.length):(v:Int)∈KN types g g.edges u↔Cc types g u v=true:=by
 rw[WE hu hv,decide_eq_true_iff,YG]
 unfold KN
 rw[List.mem_map]
 constructor
 ·rintro⟨e,he,h⟩
  rw[List.mem_filter,Bool.and_eq_true,decide_eq_true_iff,decide_eq_true_iff]at he
  obtain⟨he,ht,hf⟩:=he
  obtain⟨m1,m2⟩:=Ju hck e he
  have h:PD g e.to=v:=by omega
  exact⟨e,he,by rw[← hf,WG m1],by rw[← h,WG m2],ht⟩
 ·rintro⟨e,he,h1,h2,h3⟩
  refine⟨e,List.mem_filter.2 ⟨he,?_⟩,?_⟩
  ·rw[Bool.and_eq_true,decide_eq_true_iff,decide_eq_true_iff]
   exact⟨h3,by rw[h1,YC hck hu]⟩
  ·rw[h2,YC hck hv]
theorem Acl {types:List (List UInt8)} {g:GG} (hck:Bo g=0) {u:Nat} {x:Int} (h:x∈KN types g g.edges u):∃v:Nat,x=v∧v<g.nodes.length:=by
 unfold KN at h
 obtain⟨e,he,rfl⟩:=List.mem_map.1 h
 exact⟨_,rfl,PI (Ju hck e (List.mem_filter.1 he).1).2⟩
def Hu (l:List Nat):List Int:=l.map fun(k:Nat)=>(k:Int)
theorem Ad2 (l:List Nat):ints (Hu l)=vs PL l:=by unfold ints Hu vs;rw[List.map_map];rfl
theorem row_done {types:List (List UInt8)} {g:GG} (hck:Bo g=0) {u:Nat} (hu:u<g.nodes.length) {W:List Int} (hW:W=F6 (KN types g g.edges u)):PK W.toArray W.length=Hu (Ny (Cc types g) g.nodes.length u):=by
 have hlt:∀a b:Int,ltJ a b=false→ltJ b a=false→a=b:=fun a b h1 h2=>by
  have:=JX.1 h1;have:=JX.1 h2;omega
 have hs:SortedIn ltJ 0 W.toArray.size W.toArray:=by
  intro a b h0 h1 h2
  have hp:W.Pairwise (·≤·):=by rw[hW];exact Oh _
  have hb:b<W.length:=by simpa using h2
  rw[getElem!_pos W.toArray a (by simp;omega),getElem!_pos W.toArray b (by simpa using h2)]
  simp only[List.getElem_toArray]
  have:=List.pairwise_iff_getElem.1 hp a b (by omega) hb h1
  exact JX.2 (by omega)
 have h1:=Ac6 AaC hlt hs W.length (by simp)
 refine Nc AaC h1 ?_ fun x=>?_
 ·unfold Hu Ny
  rw[List.pairwise_map]
  refine List.Pairwise.filter _ (List.Pairwise.imp (fun h=>OX.2 (by omega)) List.pairwise_lt_range)
 ·rw[Rf W.length (by simp)]
  simp only[List.take_length]
  rw[hW,(Gt _).mem_iff]
  unfold Hu
  rw[List.mem_map]
  constructor
  ·intro h
   obtain⟨v,rfl,hv⟩:=Acl hck h
   exact⟨v,HY.2 ⟨hv,(VH hck hu hv).1 h⟩,rfl⟩
  ·rintro⟨v,hv,rfl⟩
   obtain⟨h1,h2⟩:=HY.1 hv
   exact(VH hck hu h1).2 h2
structure Nw (σ:List Obj) (nx:List AV) (R:Nat→List Int) (n oi q:Nat):Prop where
 len:nx.length=n
 row:∀u,u<n→(R u=[]∧nth nx u=some (.sl false []))∨(R u≠[]∧∃o g T,nth nx u=some (.own o g 0 (R u).length)∧nth σ o=some (.arr g 1 true true (ints (R u++T)))∧4<o∧o≠oi∧(q≤u→T=[]))
 inj:∀u v o g l g' l',u<n→v<n→nth nx u=some (.own o g 0 l)→nth nx v=some (.own o g' 0 l')→u=v
section
variable {σ σ':List Obj} {nx:List AV} {R R':Nat→List Int} {n oi q q':Nat} {F:List Nat}
theorem Nw.keep (h:Nw σ nx R n oi q) (f:Gm σ σ' F) (hF:∀o∈F,o≤4∨o=oi∨σ.length≤o):Nw σ' nx R n oi q:=
 ⟨h.len,fun u hu=>by
  rcases h.row u hu with h1|⟨h1,o,g,T,h2,h3,h4,h5,h6⟩
  ·exact .inl h1
  ·exact .inr ⟨h1,o,g,T,h2,f.get h3 (fun hm=>by have:=hF o hm;have:=BR h3;omega),h4,h5,h6⟩,h.inj⟩
theorem Nw.more (h:Nw σ nx R n oi q) (hq:q≤q'):Nw σ nx R n oi q':=
 ⟨h.len,fun u hu=>by
  rcases h.row u hu with h1|⟨h1,o,g,T,h2,h3,h4,h5,h6⟩
  ·exact .inl h1
  ·exact .inr ⟨h1,o,g,T,h2,h3,h4,h5,fun e=>h6 (by omega)⟩,h.inj⟩
theorem Nw.upd (h:Nw σ nx R n oi q) {u0:Nat} (hu0:u0<n) (f:Gm σ σ' F) (hq:q≤q') (hF:∀o∈F,o≤4∨o=oi∨σ.length≤o∨∃g l,nth nx u0=some (.own o g 0 l)) {o g:Nat} {S T:List Int} (hS:S≠[]) (ho:nth σ' o=some (.arr g 1 true true (ints (S++T)))) (h4:4<o) (hoi:o≠oi) (hT:q'≤u0→T=[])
 (hfr:σ.length≤o∨∃g l,nth nx u0=some (.own o g 0 l)) (hR0:R' u0=S) (hR:∀u,u≠u0→R' u=R u):Nw σ' (nx.set u0 (.own o g 0 S.length)) R' n oi q':=by
 have hl:u0<nx.length:=by rw[h.len];exact hu0
 have g0:nth (nx.set u0 (.own o g 0 S.length)) u0=some (.own o g 0 S.length):=by rw[Ar];simp[hl]
 have g1:∀u,u≠u0→nth (nx.set u0 (.own o g 0 S.length)) u=nth nx u:=fun u hu=>by rw[Ar,Ar,List.getElem?_set_ne (fun e=>hu e.symm)]
 have hne:∀u,u<n→u≠u0→∀o2 g2 l2,nth nx u=some (.own o2 g2 0 l2)→o2≠o∧∀o3 g3 l3,nth nx u0=some (.own o3 g3 0 l3)→o2≠o3:=fun u hu hne o2 g2 l2 e=>by
  have hlt:o2<σ.length:=by
   rcases h.row u hu with⟨_,h2⟩|⟨_,o,g,T,h2,h3,_⟩
   ·rw[e]at h2;cases h2
   ·rw[e]at h2;cases h2;exact BR h3
  refine⟨fun e2=>?_,fun o3 g3 l3 e3 e2=>hne (h.inj u u0 o2 g2 l2 g3 l3 hu hu0 e (by rw[e2];exact e3))⟩
  rcases hfr with h1|⟨g3,l3,e3⟩
  ·omega
  ·exact hne (h.inj u u0 o2 g2 l2 g3 l3 hu hu0 e (by rw[e2];exact e3))
 refine⟨by rw[List.length_set];exact h.len,fun u hu=>?_,fun u v o2 g2 l2 g3 l3 hu hv e1 e2=>?_⟩
 ·by_cases e:u=u0
  ·subst e
   rw[hR0]
   exact .inr ⟨hS,o,g,T,g0,ho,h4,hoi,hT⟩
  ·rw[hR u e,g1 u e]
   rcases h.row u hu with h1|⟨h1,o2,g2,T2,h2,h3,k4,k5,k6⟩
   ·exact .inl h1
   ·obtain⟨n1,n2⟩:=hne u hu e o2 g2 _ h2
    exact .inr ⟨h1,o2,g2,T2,h2,f.get h3 (fun hm=>by
      rcases hF o2 hm with h|h|h|⟨g3,l3,h⟩
      ·omega
      ·exact k5 h
      ·have:=BR h3;omega
      ·exact n2 _ _ _ h rfl),k4,k5,fun e=>k6 (by omega)⟩
 ·by_cases eu:u=u0<;>by_cases ev:v=u0
  ·rw[eu,ev]
  ·subst eu
   rw[g0]at e1;cases e1
   rw[g1 v ev]at e2
   exact absurd rfl (hne v hv ev _ _ _ e2).1
  ·subst ev
   rw[g0]at e2;cases e2
   rw[g1 u eu]at e1
   exact absurd rfl (hne u hu eu _ _ _ e1).1
  ·rw[g1 u eu]at e1;rw[g1 v ev]at e2
   exact h.inj u v o2 g2 l2 g3 l3 hu hv e1 e2
theorem Nw.read (h:Nw σ nx R n oi q) {rows:List (List Nat)} (hr:rows.length=n) (hR:∀u (hu:u<rows.length),R u=Hu rows[u]) {cl:Bool} {g:Nat} (h3:nth σ 3=some (.arr g 1 true cl nx)) (hcl:cl=true→∀u,u<n→R u=[]):Rd σ (n+10) (.own 3 g 0 n) (.sl true (vs UH rows)):=fun m hm=>by
 obtain⟨k,rfl⟩:∃k,m=k+1:=⟨m-1,by omega⟩
 have hsub:sub nx 0 n=nx:=by rw[← h.len];exact List.take_of_length_le (by simp)
 have hel:∀u (hu:u<n),UH (rows[u]'(by omega))=if R u=[]then .sl false []else .sl true (ints (R u)):=fun u hu=>by
  have e:=hR u (by omega)
  unfold UH
  rw[← Ad2,←e]
  by_cases h0:R u=[]
  ·have:rows[u]'(by omega)=[]:=by
        rw[e]at h0
        unfold Hu at h0
        simpa using h0
   rw[if_pos h0,h0,this];rfl
  ·have:rows[u]'(by omega)≠[]:=fun h1=>h0 (by rw[e,h1];rfl)
   rw[if_neg h0]
   simp only[decide_eq_true this]
 have hlist:Ob σ (5+n) nx (vs UH rows):=by
  have e1:nx=vs (fun u=>(nth nx u).getD .junk) (List.range n):=by
   apply List.ext_getElem
   ·simp[h.len]
   ·intro i h1 h2
    simp only[vs,List.getElem_map,List.getElem_range]
    rw[Ar,List.getElem?_eq_getElem h1];rfl
  have e2:vs UH rows=vs (fun u=>UH (rows.getD u [])) (List.range n):=by
   apply List.ext_getElem
   ·simp[hr]
   ·intro i h1 h2
    have:i<rows.length:=by simpa using h1
    simp[vs,this]
  rw[e1,e2]
  have:=Ob.map (σ:=σ) (D:=5) (f:=fun u=>(nth nx u).getD .junk) (g:=fun u=>UH (rows.getD u [])) (l:=List.range n) fun u hu=>by
   have hu:=List.mem_range.1 hu
   have e3:rows.getD u []=rows[u]'(by omega):=by simp[show u<rows.length by omega]
   rw[e3,hel u hu]
   rcases h.row u hu with⟨h1,h2⟩|⟨h1,o,g,T,h2,h3,_⟩
   ·rw[h2,if_pos h1]
    intro m hm
    obtain⟨j,rfl⟩:∃j,m=j+1:=⟨m-1,by omega⟩
    rfl
   ·rw[h2,if_neg h1]
    intro m hm
    obtain⟨j,rfl⟩:∃j,m=j+1:=⟨m-1,by omega⟩
    have hs:sub (ints (R u++T)) 0 (R u).length=ints (R u):=by
     unfold sub ints
     rw[List.drop_zero,←List.map_take,List.take_left]
    simp only[Option.getD_some,snap,h3,if_true,lI,List.length_append,hs]
    rw[if_pos (by first|exact⟨rfl,by omega⟩|exact⟨trivial,by omega⟩)]
  rw[List.length_range]at this
  exact this
 simp only[snap,h3,hsub]
 rw[if_pos (by first|exact⟨rfl,by rw[h.len];omega⟩|exact⟨trivial,by rw[h.len];omega⟩)]
 cases cl with
 |true=>
  simp only[if_true]
  have h0:=hcl rfl
  have:nx=vs UH rows:=by
   apply List.ext_getElem
   ·simp[h.len,hr]
   ·intro i h1 h2
    have hi:i<n:=by rw[← h.len];exact h1
    simp only[vs,List.getElem_map]
    rw[hel i hi,if_pos (h0 i hi)]
    rcases h.row i hi with⟨_,h2⟩|⟨h2,_⟩
    ·rw[Ar,List.getElem?_eq_getElem h1]at h2
     exact Option.some.inj h2
    ·exact absurd (h0 i hi) h2
  rw[this]
 |false=>
  simp only[Bool.false_eq_true,if_false]
  rw[hlist k (by omega)];rfl
end
end
end AI
end Go.Proofs.YtchcadfjbkkgmaaGreatDoor
