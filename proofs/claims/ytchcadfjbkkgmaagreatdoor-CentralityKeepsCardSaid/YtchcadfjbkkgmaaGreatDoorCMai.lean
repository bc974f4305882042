/- The reference's validity of values: it answers. The reference's validity of values, with lists in lists. The reference's bare values and strings. The reference's check of values that may be stored, of labels and properties. The reference's Check of a graph. The reference's triangles. Triangles: the program's sum is twice the reference's count. -/
import Derived.Test.YtchcadfjbkkgmaaGreatDoorCMae
import Derived.Test.YtchcadfjbkkgmaaGreatDoorCMaa
import Derived.Test.YtchcadfjbkkgmaaGreatDoorCMaf
import Derived.Test.YtchcadfjbkkgmaaGreatDoorCMah
set_option linter.unusedVariables false
set_option maxRecDepth 4000
namespace Go.Proofs.YtchcadfjbkkgmaaGreatDoor
namespace AI
theorem bare {g:GV} {n d s l:Bool}:Af (Ad tab) 189 [g.av,.bool n,.bool d,.bool s,.bool l] (fun v=>∃b,v=.bool b):=by
 cases n<;>cases d<;>cases s<;>cases l<;>(
 refine Ac rfl rfl ?_
 (conv=>whnf);repeat' (first|(refine kA ?_;conv=>whnf)|(refine Br.mk (fun hc=>?_) fun hc=>?_<;>first|exact hc.elim|conv=>whnf)  |(refine kB ?_))
 all_goals exact⟨_,rfl⟩)
theorem Aos {n:Int}:Af (Ad tab) 190 [.int .i64 n] (fun v=>∃b,v=.bool b):=by
 refine Ac rfl rfl ?_
 (conv=>whnf);repeat' (first|(refine kA ?_;conv=>whnf)|(refine Br.mk (fun hc=>?_) fun hc=>?_<;>first|exact hc.elim|conv=>whnf)  |(refine kB ?_))
 all_goals exact⟨_,rfl⟩
theorem size {n:Int} (h1:-2^62≤n) (h2:n≤2^62):Af (Ad tab) 45 [.int .i64 n] (fun v=>∃z,v=.int .i64 z∧0≤z∧(z=n∨z=-n)):=by
 refine Ac rfl rfl ?_
 (conv=>whnf);repeat' (first|(refine kA ?_;conv=>whnf)|(refine Br.mk (fun hc=>?_) fun hc=>?_<;>first|exact hc.elim|conv=>whnf)  |(refine kB ?_))
 all_goals exact⟨_,rfl,by omega,by omega⟩
theorem gcd {a b:Int} (h1:0≤a) (h2:0≤b):Af (Ad tab) 41 [.int .i64 a,.int .i64 b] (fun v=>∃z,v=.int .i64 z):=by
 refine Ac rfl rfl ?_
 (conv=>whnf);repeat' (first|(refine kA ?_;conv=>whnf)|(refine Br.mk (fun hc=>?_) fun hc=>?_<;>first|exact hc.elim|conv=>whnf)  |(refine kB ?_))
 refine Ap (fun m env s=>∃(a b:Int),m=b.toNat∧0≤a∧0≤b∧env=[(0,.int .i64 a),(1,.int .i64 b)]∧s=⟨[],0⟩) ?_ _ _ _ ⟨a,b,rfl,h1,h2,rfl,rfl⟩
 clear h1 h2 a b
 rintro _ _ _ ⟨a,b,rfl,h1,h2,rfl,rfl⟩
 refine⟨rfl,?_⟩
 (conv=>whnf);repeat' (first|(refine kA ?_;conv=>whnf)|(refine Br.mk (fun hc=>?_) fun hc=>?_<;>first|exact hc.elim|conv=>whnf)  |(refine kB ?_))
 ·have e:a.tmod b=a % b:=Int.tmod_eq_emod_of_nonneg h1
  have:=Int.emod_lt_of_pos a (by omega:0<b)
  have:=Int.emod_nonneg a (by omega:b≠0)
  exact again.mk ⟨_,by rw[e];omega,_,_,rfl,h2,by rw[e];omega,rfl,rfl⟩
 ·exact⟨_,rfl⟩
theorem Aj5 {n d:Int}:Af (Ad tab) 40 [.agg [.int .i64 n,.int .i64 d]] (fun v=>∃b,v=.bool b∧(b=true→1≤d∧d≤1000000000000000∧-1000000000000000≤n∧n≤1000000000000000)):=by
 refine Ac rfl rfl ?_
 (conv=>whnf);repeat' (first|(refine kA ?_;conv=>whnf)|(refine Br.mk (fun hc=>?_) fun hc=>?_<;>first|exact hc.elim|conv=>whnf)|(refine Aa (size (n:=n) (by omega) (by omega)) ?_;rintro _ ⟨z,rfl,hz1,hz2⟩;conv=>whnf)|(refine Aa (gcd (by omega) (by omega)) ?_;rintro _ ⟨z2,rfl⟩;conv=>whnf)|(refine kB ?_))
 all_goals first|exact⟨_,rfl,fun _=>by omega⟩|exact⟨_,rfl,fun h=>absurd h Bool.false_ne_true⟩
theorem Al1 {s:List UInt8} (hl:s.length<2^63):Af (Ad tab) 191 [.str s] (fun v=>∃b,v=.bool b):=by
 refine Ac rfl rfl ?_
 (conv=>whnf);repeat' (first|(refine kA ?_;conv=>whnf)|(refine Br.mk (fun hc=>?_) fun hc=>?_<;>first|exact hc.elim|conv=>whnf)  |(refine kB ?_))
 refine Ap (fun m env s'=>∃i:Nat,m=s.length-i∧env=[(0,.str s),(3,.int .i64 i)]∧s'=⟨[],0⟩) ?_ _ _ _ ⟨0,rfl,rfl,rfl⟩
 rintro _ _ _ ⟨i,rfl,rfl,rfl⟩
 refine⟨rfl,?_⟩
 (conv=>whnf);repeat' (first|(refine kA ?_;conv=>whnf)|(refine Br.mk (fun hc=>?_) fun hc=>?_<;>first|exact hc.elim|conv=>whnf)  |(refine kB ?_))
 all_goals first|exact⟨_,rfl⟩|exact again.mk ⟨_,by omega,i+1,rfl,rfl,rfl⟩
theorem AdF {g:GV} {n:Int} (h:g.k=5∨g.k=6):Af (Ad tab) 163 [g.av,.int .i64 n] (fun v=>∃b,v=.bool b):=by
 refine Ac rfl rfl ?_
 (conv=>whnf);repeat' (first|(refine kA ?_;conv=>whnf)|(refine Br.mk (fun hc=>?_) fun hc=>?_<;>first|exact hc.elim|conv=>whnf)|(refine Aa (bare (g:=g)) ?_;rintro _ ⟨b,rfl⟩;conv=>whnf)|(refine kB ?_))
 all_goals exact⟨_,rfl⟩
theorem Aj6 {l:List AV} {nn:Bool} (hl:l.length<2^63) (h:∀x∈l,Like Tryz.prog 50 x):Af (Ad tab) 192 [.sl nn l] (fun v=>∃b,v=.bool b):=by
 refine Ac rfl rfl ?_
 (conv=>whnf);repeat' (first|(refine kA ?_;conv=>whnf)|(refine Br.mk (fun hc=>?_) fun hc=>?_<;>first|exact hc.elim|conv=>whnf)  |(refine kB ?_))
 all_goals first|exact⟨_,rfl⟩|skip
 refine Ap (fun m env s'=>∃i:Nat,m=l.length-i∧env=[(0,.sl nn l),(3,.int .i64 i)]∧s'=⟨[],0⟩) ?_ _ _ _ ⟨0,rfl,rfl,rfl⟩
 rintro _ _ _ ⟨i,rfl,rfl,rfl⟩
 refine⟨rfl,?_⟩
 obtain⟨gx,hgx⟩:=PG h i
 (conv=>whnf);repeat' (first|(refine kA ?_;conv=>whnf)|(refine Br.mk (fun hc=>?_) fun hc=>?_<;>first|exact hc.elim|conv=>whnf)|(apply Ah;(· exact(hgx (by omega)).1);conv=>whnf)|(refine Aa (AdF (g:=gx) (by omega)) ?_;rintro _ ⟨b,rfl⟩;conv=>whnf)|(refine kB ?_))
 all_goals first|exact⟨_,rfl⟩|exact again.mk ⟨_,by omega,i+1,rfl,rfl,rfl⟩
theorem AlZ {l:List AV} {nn:Bool} (hl:l.length<2^63):Af (Ad tab) 193 [.sl nn l,.int .i64 0] (fun v=>∃b,v=.bool b):=by
 refine Ac rfl rfl ?_
 (conv=>whnf);repeat' (first|(refine kA ?_;conv=>whnf)|(refine Br.mk (fun hc=>?_) fun hc=>?_<;>first|exact hc.elim|conv=>whnf)  |(refine kB ?_))
 all_goals exact⟨_,rfl⟩
theorem Al0 {n:Nat} (ih:∀{g:GV},g.ok→Af (Ad tab) 163 [g.av,.int .i64 n] (fun v=>∃b,v=.bool b)) (hn:n<2^60) {l:List AV} {nn:Bool} (hl:l.length<2^63) (h:∀x∈l,Like Tryz.prog 50 x):
 Af (Ad tab) 193 [.sl nn l,.int .i64 (n+1:Nat)] (fun v=>∃b,v=.bool b):=by
 refine Ac rfl rfl ?_
 (conv=>whnf);repeat' (first|(refine kA ?_;conv=>whnf)|(refine Br.mk (fun hc=>?_) fun hc=>?_<;>first|exact hc.elim|conv=>whnf)  |(refine kB ?_))
 all_goals first|exact⟨_,rfl⟩|skip
 refine Ap (fun m env s'=>∃i:Nat,m=l.length-i∧env=[(0,.sl nn l),(1,.int .i64 (n+1:Nat)),(5,.int .i64 i)]∧s'=⟨[],0⟩) ?_ _ _ _ ⟨0,rfl,rfl,rfl⟩
 rintro _ _ _ ⟨i,rfl,rfl,rfl⟩
 refine⟨rfl,?_⟩
 obtain⟨gx,hgx⟩:=PG h i
 have ih':∀{g:GV},g.ok→Af (Ad tab) 163 [g.av,.int .i64 (((n+1:Nat):Int)-1)] (fun v=>∃b,v=.bool b):=by
  rw[show ((n+1:Nat):Int)-1=(n:Int) by omega];exact ih
 (conv=>whnf);repeat' (first|(refine kA ?_;conv=>whnf)|(refine Br.mk (fun hc=>?_) fun hc=>?_<;>first|exact hc.elim|conv=>whnf)|(apply Ah;(· exact(hgx (by omega)).1);conv=>whnf)|(refine Aa (ih' (g:=gx) (hgx (by omega)).2.2) ?_;rintro _ ⟨b,rfl⟩;conv=>whnf)|(refine kB ?_))
 all_goals first|exact⟨_,rfl⟩|exact again.mk ⟨_,by omega,i+1,rfl,rfl,rfl⟩
theorem Afb {n:Int} {g:GV} (hg:g.ok) (hlist:Af (Ad tab) 193 [.sl g.nn g.l,.int .i64 n] (fun v=>∃b,v=.bool b)):
 Af (Ad tab) 163 [g.av,.int .i64 n] (fun v=>∃b,v=.bool b):=by
 obtain⟨g1,g2,g3,g4,g5,g6,g7⟩:=hg
 unfold Ln at g4 g5
 refine Ac rfl rfl ?_
 (conv=>whnf);repeat' (first|(refine kA ?_;conv=>whnf)|(refine Br.mk (fun hc=>?_) fun hc=>?_<;>first|exact hc.elim|conv=>whnf)|(refine Aa (bare (g:=g)) ?_;rintro _ ⟨b,rfl⟩;conv=>whnf)|(refine Aa (Aos (n:=g.n)) ?_;rintro _ ⟨b,rfl⟩;conv=>whnf)|(refine Aa (Aj5 (n:=g.n) (d:=g.d)) ?_;rintro _ ⟨b,rfl,_⟩;conv=>whnf)|(refine Aa (Al1 g4) ?_;rintro _ ⟨b,rfl⟩;conv=>whnf)|(refine Aa (Aj6 g5 g7) ?_;rintro _ ⟨b,rfl⟩;conv=>whnf)|(refine Aa hlist ?_;rintro _ ⟨b,rfl⟩;conv=>whnf)|(refine kB ?_))
 all_goals exact⟨_,rfl⟩
theorem valid {n:Nat} (hn:n<2^60):∀{g:GV},g.ok→Af (Ad tab) 163 [g.av,.int .i64 n] (fun v=>∃b,v=.bool b):=by
 induction n with
 |zero=>intro g hg;exact Afb hg (AlZ hg.2.2.2.2.1)
 |succ n ih=>intro g hg;exact Afb hg (Al0 (ih (by omega)) (by omega) hg.2.2.2.2.1 hg.2.2.2.2.2.2)
theorem Valid {g:GV} (hg:g.ok):Af (Ad tab) 146 [g.av] (fun v=>∃b,v=.bool b):=by
 refine Ac rfl rfl ?_
 (conv=>whnf);repeat' (first|(refine kA ?_;conv=>whnf)|(refine Br.mk (fun hc=>?_) fun hc=>?_<;>first|exact hc.elim|conv=>whnf)|(refine Aa (valid (n:=8) (by omega) hg) ?_;rintro _ ⟨b,rfl⟩;conv=>whnf)|(refine kB ?_))
 all_goals exact⟨_,rfl⟩
def Rf (v:GV) (n d s l:Bool):Prop:=(n=true∨v.n=0)∧(d=true∨v.d=0)∧(s=true∨v.s=[])∧(l=true∨v.l.length=0)
instance (v:GV) (n d s l:Bool):Decidable (Rf v n d s l):=by unfold Rf;infer_instance
theorem Aix {v:GV} {n d s l:Bool} (hl:v.l.length<2^63):Af (Ad tab) 189 [v.av,.bool n,.bool d,.bool s,.bool l] (· =.bool (decide (Rf v n d s l))):=by
 cases n<;>cases d<;>cases s<;>cases l
 all_goals
  refine Ac rfl rfl ?_
  (conv=>whnf);repeat' (first|(refine kA ?_;conv=>whnf)|(refine Br.mk (fun hc=>?_) fun hc=>?_<;>first|exact hc.elim|conv=>whnf)  |(refine kB ?_))
 all_goals first
  |(refine BD ?_;unfold Rf;refine⟨?_,?_,?_,?_⟩<;>first|(left;rfl)|(right;first|assumption|omega))
  |(refine AY ?_;unfold Rf;rintro⟨h1,h2,h3,h4⟩;simp only[Bool.false_eq_true,false_or,true_or]at h1 h2 h3 h4;first|contradiction|omega)
theorem AnL {s:List UInt8} (hl:s.length<2^63):Af (Ad tab) 191 [.str s] (· =.bool (decide (okS s))):=by
 refine Ac rfl rfl ?_
 (conv=>whnf);repeat' (first|(refine kA ?_;conv=>whnf)|(refine Br.mk (fun hc=>?_) fun hc=>?_<;>first|exact hc.elim|conv=>whnf)  |(refine kB ?_))
 refine Ap (fun m env s'=>∃i:Nat,m=s.length-i∧env=[(0,.str s),(3,.int .i64 i)]∧s'=⟨[],0⟩∧∀c∈s.take i,Qx c=false) ?_ _ _ _ ⟨0,rfl,rfl,rfl,by simp⟩
 rintro _ _ _ ⟨i,rfl,rfl,rfl,hx⟩
 refine⟨rfl,?_⟩
 (conv=>whnf);repeat' (first|(refine kA ?_;conv=>whnf)|(refine Br.mk (fun hc=>?_) fun hc=>?_<;>first|exact hc.elim|conv=>whnf)  |(refine kB ?_))
 all_goals first
  |exact again.mk ⟨_,by omega,i+1,rfl,rfl,rfl,BN (by omega) hx (by unfold Qx;simp;omega)⟩
  |(refine AY fun h=>?_;have:=h.2 s[i] (List.getElem_mem (by omega));unfold Qx at this;simp at this;omega)
  |(rw [List.take_of_length_le (by omega)]at hx;exact BD ⟨by omega,hx⟩)
  |(refine AY fun h=>?_;have:=h.1;omega)
theorem Ajc {v:GV} (hv:v.ok) (hk:Je v) {n:Int}:Af (Ad tab) 163 [v.av,.int .i64 n] (· =.bool (decide (D9 v))):=by
 obtain⟨g1,g2,g3,g4,g5,g6,g7⟩:=hv
 unfold Ln at g4 g5
 unfold Je at hk
 refine Ac rfl rfl ?_
 (conv=>whnf);repeat' (first|(refine kA ?_;conv=>whnf)|(refine Br.mk (fun hc=>?_) fun hc=>?_<;>first|exact hc.elim|conv=>whnf)|(refine BX (Aix (v:=v) g5) (fun hb=>?_) (fun hb=>?_)<;>conv=>whnf)|(refine BX (AnK (n:=v.n)) (fun hr=>?_) (fun hr=>?_)<;>conv=>whnf)|(refine BX (AnL (s:=v.s) g4) (fun hr=>?_) (fun hr=>?_)<;>conv=>whnf)|(refine kB ?_))
 all_goals unfold Rf at hb
 all_goals simp only[Bool.false_eq_true,false_or,true_or,true_and]at hb
 all_goals first
  |exact BD (Ajd (by omega) hb.1 hb.2.2 hb.2.1 (by omega))
  |exact BD (Aje (by omega) hb.1 hb.2.2 hb.2.1 hr)
  |exact BD (Ajf (by omega) hb.2.1 hb.2.2 hb.1 hr)
  |exact AY fun h=>hb ⟨h.1,AdV h (by omega),h.2.1⟩
  |exact AY fun h=>hb ⟨(ZT h (by omega)).1,h.1,h.2.1⟩
  |(refine AY fun h=>?_;have:=Ajg h (by omega);omega)
  |exact AY fun h=>hr (Ajh h (by omega))
  |exact AY fun h=>hr (ZT h (by omega)).2
  |(exfalso;omega)
theorem Aji {v:GV} (hv:v.ok) (hk:Je v):Af (Ad tab) 146 [v.av] (· =.bool (decide (D9 v))):=by
 refine Ac rfl rfl ?_
 (conv=>whnf);repeat' (first|(refine kA ?_;conv=>whnf)|(refine Br.mk (fun hc=>?_) fun hc=>?_<;>first|exact hc.elim|conv=>whnf)|(refine BX (Ajc (v:=v) hv hk) (fun hr=>?_) (fun hr=>?_)<;>conv=>whnf)|(refine kB ?_))
 all_goals first|exact BD (by assumption)|exact AY (by assumption)
theorem AdW {v:GV} (hv:v.ok):Af (Ad tab) 117 [v.av] (· =.bool (decide (D9 v))):=by
 by_cases hk:Je v
 ·have hk':=hk
  unfold Je at hk'
  refine Ac rfl rfl ?_
  (conv=>whnf);repeat' (first|(refine kA ?_;conv=>whnf)|(refine Br.mk (fun hc=>?_) fun hc=>?_<;>first|exact hc.elim|conv=>whnf)|(refine BX (Aji (v:=v) hv hk) (fun hr=>?_) (fun hr=>?_)<;>conv=>whnf)|(refine kB ?_))
  all_goals first|exact BD (by assumption)|exact AY (by assumption)|(exfalso;omega)
 ·have hk':=hk
  unfold Je at hk'
  refine Ac rfl rfl ?_
  (conv=>whnf);repeat' (first|(refine kA ?_;conv=>whnf)|(refine Br.mk (fun hc=>?_) fun hc=>?_<;>first|exact hc.elim|conv=>whnf)|(refine Aa (Valid (g:=v) hv) ?_;rintro _ ⟨b,rfl⟩;conv=>whnf)|(refine kB ?_))
  all_goals first|exact AY (fun h=>hk (Vw h))|(exfalso;omega)
theorem Alc {P:List GP} {nn:Bool} (hl:P.length<2^40):Af (Ad tab) 114 [.sl nn (vs GP.av P)] (fun v=>∃b,v=.sl b (vs .str (keysOf P))):=by
 refine Ac rfl rfl ?_
 (conv=>whnf);repeat' (first|(refine kA ?_;conv=>whnf)|(refine Br.mk (fun hc=>?_) fun hc=>?_<;>first|exact hc.elim|conv=>whnf)  |(refine kB ?_))
 refine Ap (fun m env s=>∃(i c go n:Nat) (b:Bool),m=P.length-i∧i≤P.length∧n=i∧env=[(0,.sl nn (vs GP.av P)),(3,.own 0 go 0 n),(4,.int .i64 i)]∧s=⟨[.arr go 1 b true (vs .str (keysOf (P.take i)))],c⟩) ?_ _ _ _ ⟨0,_,_,0,_,rfl,by omega,rfl,rfl,rfl⟩
 rintro _ _ _ ⟨i,c,go,n,b,rfl,hi,hn,rfl,rfl⟩
 refine⟨rfl,?_⟩
 (conv=>whnf);repeat' (first|(refine Ij (x:=(P[i]).key) (fun _=>rfl) (by simp;omega) (by simp;omega) ?_;conv=>whnf)|(refine kA ?_;conv=>whnf)|(refine Br.mk (fun hc=>?_) fun hc=>?_<;>first|exact hc.elim|conv=>whnf)|(refine kB ?_))
 ·exact again.mk ⟨_,by omega,i+1,_,_,_,_,rfl,by omega,by simp;omega,rfl,by rw[Rh (by omega)]⟩
 ·obtain rfl:i=P.length:=by omega
  refine⟨b,?_⟩
  rw[ZP,hn]
  simp
  rw[List.take_of_length_le (by simp)]
theorem AdX {L:List (List UInt8)} {P:List GP} {ln pn:Bool} (hL:L.length<2^63) (hs:∀s∈L,s.length<2^63) (hP:P.length<2^63) (hp:∀p∈P,p.ok):Af (Ad tab) 79 [.sl ln (vs .str L),.sl pn (vs GP.av P)] (· =.int .i64 (DU L P)):=by
 have hk:=Vx hp
 have hkl:(keysOf P).length<2^63:=by rw[OC];exact hP
 refine Ac rfl rfl ?_
 (conv=>whnf);repeat' (first|(refine kA ?_;conv=>whnf)|(refine Br.mk (fun hc=>?_) fun hc=>?_<;>first|exact hc.elim|conv=>whnf)  |(refine kB ?_))
 ·exact Ph (by omega)
 ·exact Ph (by omega)
 have h16:¬(8<L.length∨16<P.length):=by omega
 refine Aa (Alc (P:=P) (by omega)) ?_
 rintro _ ⟨b,rfl⟩
 (conv=>whnf);repeat' (first|(refine BX (AdY hL hs) (fun h1=>?_) (fun h1=>?_)<;>conv=>whnf)|(refine BX (AdY hkl hk) (fun h2=>?_) (fun h2=>?_)<;>conv=>whnf)|(refine BX (AdZ hL) (fun h3=>?_) (fun h3=>?_)<;>conv=>whnf)|(refine BX (AdZ hkl) (fun h4=>?_) (fun h4=>?_)<;>conv=>whnf)|(refine kA ?_;conv=>whnf)|(refine Br.mk (fun hc=>?_) fun hc=>?_<;>first|exact hc.elim|conv=>whnf)|(refine kB ?_))
 all_goals first
  |exact Pj h16 fun h=>h1 h.1
  |exact Pj h16 fun h=>h2 h.2
  |exact Mc h16 ⟨h1,h2⟩ fun h=>h3 h.1
  |exact Mc h16 ⟨h1,h2⟩ fun h=>h4 h.2
  |skip
 refine Ap (fun m env s=>∃(i:Nat),m=P.length-i∧env=[(1,.sl pn (vs GP.av P)),(6,.int .i64 i)]∧s=⟨[],0⟩∧∀p∈P.take i,D9 p.v) ?_ _ _ _ ⟨0,rfl,rfl,rfl,by simp⟩
 rintro _ _ _ ⟨i,rfl,rfl,rfl,hx⟩
 refine⟨rfl,?_⟩
 (conv=>whnf);repeat' (first|(refine BX (AdW (v:=(P[i]).v) (hp _ (List.getElem_mem (by omega))).2) (fun hr=>?_) (fun hr=>?_)<;>conv=>whnf)|(refine kA ?_;conv=>whnf)|(refine Br.mk (fun hc=>?_) fun hc=>?_<;>first|exact hc.elim|conv=>whnf)|(refine kB ?_))
 ·exact again.mk ⟨_,by omega,i+1,rfl,rfl,rfl,BN (by omega) hx hr⟩
 ·exact WL h16 ⟨h1,h2⟩ ⟨h3,h4⟩ fun h=>hr (h _ (List.getElem_mem _))
 ·rw[Df hc]at hx
  exact Abn h16 ⟨h1,h2⟩ ⟨h3,h4⟩ hx
theorem Ajb {g:GG} (hl:g.nodes.length<2^62) {id:Int}:Af (Ad tab) 80 [g.av,.int .i64 id] (fun v=>∃n:GN,v=.Cb [n.av,.bool (decide (id∈Gv g.nodes))]):=by
 refine Ac rfl rfl ?_
 (conv=>whnf);repeat' (first|(refine kA ?_;conv=>whnf)|(refine Br.mk (fun hc=>?_) fun hc=>?_<;>first|exact hc.elim|conv=>whnf)  |(refine kB ?_))
 refine Ap (fun m env s=>∃i:Nat,m=g.nodes.length-i∧id∉Gv (g.nodes.take i)∧env=[(1,.int .i64 id),(2,.ref 0 0 0 0),(4,.ref 1 1 0 0),(6,.int .i64 i)]∧s=⟨[.arr 0 4 true true [g.av],.arr 1 3 true true [.agg [.int .i64 0,.sl false [],.sl false []]]],2⟩) ?_ _ _ _ ⟨0,rfl,by simp[Gv],rfl,rfl⟩
 rintro _ _ _ ⟨i,rfl,hx,rfl,rfl⟩
 refine⟨rfl,?_⟩
 (conv=>whnf);repeat' (first|(refine kA ?_;conv=>whnf)|(refine Br.mk (fun hc=>?_) fun hc=>?_<;>first|exact hc.elim|conv=>whnf)  |(refine kB ?_))
 ·refine⟨g.nodes[i],?_⟩
  have:id∈Gv g.nodes:=hc▸List.mem_map_of_mem (List.getElem_mem _)
  rw[decide_eq_true this];rfl
 ·refine again.mk ⟨_,by omega,i+1,rfl,?_,rfl,rfl⟩
  unfold Gv at hx ⊢
  rw[List.take_succ_eq_append_getElem (by omega),List.map_append,List.mem_append]
  rintro(h|h)
  ·exact hx h
  ·simp at h;exact hc h.symm
 ·rw[Df hc]at hx
  refine⟨⟨0,false,[],false,[]⟩,?_⟩
  rw[decide_eq_false hx];rfl
theorem Am8 {g:GG} (hg:g.ok) {i:Nat} (hi:i<g.nodes.length):Af (Ad tab) 38 [g.av,.int .i64 i] (· =.int .i64 (Ef g.nodes g.BA i)):=by
 obtain⟨g1,g2,g3,g4,g5,g6,g7,g8⟩:=hg
 unfold Ln at g1 g4
 have hat:=g3 _ (List.getElem_mem hi)
 refine Ac rfl rfl ?_
 (conv=>whnf);repeat' (first|(apply Ah;(· exact nVz (i-1) (by omega) (by omega));conv=>whnf)|(refine Aa (AdX (L:=(g.nodes[i]).labels) (P:=(g.nodes[i]).props) hat.2.1 hat.2.2.2.1 hat.2.2.2.2.1 hat.2.2.2.2.2.2) ?_;rintro _ rfl;conv=>whnf)|(refine kA ?_;conv=>whnf)|(refine Br.mk (fun hc=>?_) fun hc=>?_<;>first|exact hc.elim|conv=>whnf)|(refine kB ?_))
 all_goals first
  |(rw [Yk hi (fun h=>by first|assumption|omega) (by omega)];rfl)
  |(rw [Aas hi (by omega) (by assumption)];rfl)
  |(rw [node1 hi (fun h=>by first|assumption|omega) (by omega)];rfl)
set_option maxHeartbeats 1000000 in
theorem Am9 {g:GG} (hg:g.ok) (hf:g.nodes.length<2^62) {i:Nat} (hi:i<g.edges.length):Af (Ad tab) 39 [g.av,.int .i64 i] (· =.int .i64 (Eo g.nodes g.edges g.BJ i)):=by
 obtain⟨g1,g2,g3,g4,g5,g6,g7,g8⟩:=hg
 unfold Ln at g1 g4
 have hat:=g6 _ (List.getElem_mem hi)
 refine Ac rfl rfl ?_
 (conv=>whnf);repeat' (first|(apply Ah;(· exact nVz (i-1) (by omega) (by omega));conv=>whnf)|(refine Aa (Ajb (g:=g) (id:=(g.edges[i]).fr) hf) ?_;rintro _ ⟨n1,rfl⟩;conv=>whnf)|(refine Aa (Ajb (g:=g) (id:=(g.edges[i]).to) hf) ?_;rintro _ ⟨n2,rfl⟩;conv=>whnf)|(refine BX (name2 (s:=(g.edges[i]).ty) hat.2.2.2.1) (fun hnm=>?_) (fun hnm=>?_)<;>conv=>whnf)|(refine Aa (AdX (L:=[]) (P:=(g.edges[i]).props) (by decide) (by simp) hat.2.2.2.2.1 hat.2.2.2.2.2.2) ?_;rintro _ rfl;conv=>whnf)|(refine kA ?_;conv=>whnf)|(refine Br.mk (fun hc=>?_) fun hc=>?_<;>first|exact hc.elim|conv=>whnf)|(refine kB ?_))
 all_goals try simp only[decide_eq_true_eq,decide_eq_false_iff_not]at*
 all_goals first
  |(rw [Aat hi (by omega) (by assumption)];rfl)
  |(rw [AeT hi (fun h=>by first|assumption|omega) (by omega)];rfl)
  |(rw [Yl hi (fun h=>by first|assumption|omega) (by omega) ⟨by assumption,by assumption⟩ hnm];rfl)
  |(rw [AeU hi (fun h=>by first|assumption|omega) (by omega) ⟨by assumption,by assumption⟩ hnm];rfl)
  |(rw [Aau hi (fun h=>by first|assumption|omega) (by omega) (fun h=>by first|exact absurd h.1 (by assumption)|exact absurd h.2 (by assumption))];rfl)
theorem Aa6 {g:GG} (hg:g.ok):Af (Ad tab) 14 [g.av] (· =.int .i64 (AB g)):=by
 have hg0:=hg
 obtain⟨g1,g2,g3,g4,g5,g6,g7,g8⟩:=hg
 unfold Ln at g1 g4
 refine Ac rfl rfl ?_
 (conv=>whnf);repeat' (first|(refine kA ?_;conv=>whnf)|(refine Br.mk (fun hc=>?_) fun hc=>?_<;>first|exact hc.elim|conv=>whnf)  |(refine kB ?_))
 all_goals first|exact AeV (by unfold FP;omega)|exact AeW (by unfold FP;omega) (by unfold GH;omega)|skip
 have hf:FP g:=by unfold FP;omega
 have hnx:GH g:=by unfold GH;omega
 have hf1:=hf.1
 have hf2:=hf.2
 refine Ap (fun m env s=>∃i:Nat,m=g.nodes.length-i∧i≤g.nodes.length∧(∀ k,k<i→Ef g.nodes g.BA k=0)∧env=[(1,.ref 0 0 0 0),(3,.int .i64 i)]∧s=⟨[.arr 0 4 true true [g.av]],1⟩) ?_ _ _ _ ⟨0,rfl,by omega,fun k h=>absurd h (by omega),rfl,rfl⟩
 rintro _ _ _ ⟨i,rfl,hin,hx,rfl,rfl⟩
 refine⟨rfl,?_⟩
 (conv=>whnf);repeat' (first|(refine Aa (Am8 hg0 (i:=i) (by omega)) ?_;rintro _ rfl;conv=>whnf)|(refine kA ?_;conv=>whnf)|(refine Br.mk (fun hc=>?_) fun hc=>?_<;>first|exact hc.elim|conv=>whnf)|(refine kB ?_))
 ·exact again.mk ⟨_,by omega,i+1,rfl,by omega,JR hx hc,rfl,rfl⟩
 ·exact checkN hf hnx (by omega) hx rfl hc
 have hN:∀k,k<g.nodes.length→Ef g.nodes g.BA k=0:=fun k h=>hx k (by omega)
 refine Ap (fun m env s=>∃i:Nat,m=g.edges.length-i∧i≤g.edges.length∧(∀ k,k<i→Eo g.nodes g.edges g.BJ k=0)∧env=[(1,.ref 0 0 0 0),(5,.int .i64 i)]∧s=⟨[.arr 0 4 true true [g.av]],1⟩) ?_ _ _ _ ⟨0,rfl,by omega,fun k h=>absurd h (by omega),rfl,rfl⟩
 rintro _ _ _ ⟨j,rfl,hjn,hy,rfl,rfl⟩
 refine⟨rfl,?_⟩
 (conv=>whnf);repeat' (first|(refine Aa (Am9 hg0 (i:=j) (by omega) (by omega)) ?_;rintro _ rfl;conv=>whnf)|(refine kA ?_;conv=>whnf)|(refine Br.mk (fun hc=>?_) fun hc=>?_<;>first|exact hc.elim|conv=>whnf)|(refine kB ?_))
 ·exact again.mk ⟨_,by omega,j+1,rfl,by omega,JR hy hc,rfl,rfl⟩
 ·exact NS hf hnx hN (by omega) hy rfl hc
 ·exact Aai hf hnx hN fun k h=>hy k (by omega)
def atB (T:List (List Bool)) (i k:Nat):Bool:=(T.getD i []).getD k false
def X0 (T:List (List Bool)) (i k:Nat):Bool:=decide (i≠k)&&(atB T i k||atB T k i)
def SqT (T:List (List Bool)):Prop:=T.length≤1000∧∀r∈T,r.length=T.length
theorem Agg {T:List (List Bool)} {tn:Bool} {i k:Nat} (hT:SqT T) (hi:i<T.length) (hk:k<T.length):Af (Ad tab) 57 [.sl tn (vs slB T),.int .i64 i,.int .i64 k] (· =.bool (X0 T i k)):=by
 have hl:=hT.1
 have l1:(T[i]).length=T.length:=hT.2 _ (List.getElem_mem hi)
 have l2:(T[k]).length=T.length:=hT.2 _ (List.getElem_mem hk)
 have hik:k<(T[i]).length:=by omega
 have hki:i<(T[k]).length:=by omega
 have e1:atB T i k=(T[i])[k]:=by simp[atB,hi,hik]
 have e2:atB T k i=(T[k])[i]:=by simp[atB,hk,hki]
 have hn:X0 T i k=(decide (i≠k)&&((T[i])[k]||(T[k])[i])):=by unfold X0;rw[e1,e2]
 rw[hn]
 by_cases e:i=k
 ·rw[decide_eq_false (not_not_intro e)]
  refine Ac rfl rfl ?_
  (conv=>whnf);repeat' (first  |(refine kA ?_;conv=>whnf)|(refine Br.mk (fun hc=>?_) fun hc=>?_<;>first|exact hc.elim|conv=>whnf)|(refine kB ?_))
  all_goals first|rfl|(exfalso;omega)
 rw[decide_eq_true e]
 refine Ac rfl rfl ?_
 generalize hb1:(T[i])[k]=b1
 generalize hb2:(T[k])[i]=b2
 have n1:nth (vs AV.bool T[i]) (Int.toNat (Nat.cast k))=some (.bool b1):=by rw[nVN hik,hb1]
 have n2:nth (vs AV.bool T[k]) (Int.toNat (Nat.cast i))=some (.bool b2):=by rw[nVN hki,hb2]
 cases b1<;>cases b2
 all_goals (
  (conv=>whnf);repeat' (first|(refine Ah n1 ?_;conv=>whnf)|(refine Ah n2 ?_;conv=>whnf)|(refine Ah (nVN (f:=slB) hi) ?_;conv=>whnf)|(refine Ah (nVN (f:=slB) hk) ?_;conv=>whnf)|(refine kA ?_;conv=>whnf)|(refine Br.mk (fun hc=>?_) fun hc=>?_<;>first|exact hc.elim|conv=>whnf)|(refine kB ?_)))
 all_goals first|rfl|(exfalso;omega)
def LJ (T:List (List Bool)) (v i k:Nat):Bool:=X0 T v i&&(X0 T v k&&X0 T i k)
def cK (T:List (List Bool)) (v i m:Nat):Nat:=((List.range m).filter fun k=>decide (i<k)&&LJ T v i k).length
def cI (T:List (List Bool)) (v m:Nat):Nat:=((List.range m).map fun i=>cK T v i T.length).sum
theorem Ai8 {T:List (List Bool)} {v i m:Nat}:cK T v i m≤m:=by
 unfold cK
 exact Nat.le_trans (List.length_filter_le _ _) (by simp)
theorem Aim {T:List (List Bool)} {v i:Nat}:cK T v i (i+1)=0:=by
 unfold cK
 rw[List.length_eq_zero_iff,List.filter_eq_nil_iff]
 intro k hk
 have:=List.mem_range.1 hk
 simp[show ¬i<k by omega]
theorem Aio {T:List (List Bool)} {v i m:Nat} (h:i<m):cK T v i (m+1)=cK T v i m+if LJ T v i m then 1 else 0:=by
 unfold cK
 rw[List.range_succ,List.filter_append,List.length_append]
 simp only[List.filter_cons,List.filter_nil,decide_eq_true h,Bool.true_and]
 cases LJ T v i m<;>rfl
theorem Ack {T:List (List Bool)} {v m:Nat}:cI T v (m+1)=cI T v m+cK T v m T.length:=by
 simp[cI,List.range_succ]
theorem Ai9 {T:List (List Bool)} {v:Nat}:∀{m:Nat},cI T v m≤m*T.length
 |0=>by simp[cI]
 |m+1=>by
  have:=Ai9 (T:=T) (v:=v) (m:=m)
  have h2:=Ai8 (T:=T) (v:=v) (i:=m) (m:=T.length)
  rw[Ack,Nat.succ_mul]
  omega
theorem Aip {types:List (List UInt8)} {g:GG} (hN:g.nodes.length≤1000):SqT (F5 types g):=by
 have hl:(F5 types g).length=g.nodes.length:=by unfold F5;rw[List.length_map]
 refine⟨by omega,fun r hr=>?_⟩
 obtain⟨m,_,rfl⟩:=List.mem_map.1 hr
 rw[hl,List.length_map]
noncomputable def rtL (types:List (List UInt8)) (g:GG):List (Int×Int):=(List.range g.nodes.length).map fun v=>((g.nodes.map GN.id).getD v 0,((cI (F5 types g) v (F5 types g).length:Nat):Int))
set_option maxHeartbeats 4000000 in
theorem Aak {g:GG} (hg:g.ok) (hN:g.nodes.length≤1000) {types:List (List UInt8)} {tn:Bool} (ht:types.length<2^63):Af (Ad tab) 22 [g.av,.sl tn (vs .str types)] (· =if AB g=0 then .sl (decide (0<g.nodes.length)) (vs pv (rtL types g))else .sl false []):=by
 have pK:Af (Ad tab) 14 [g.av] (· =.int .i64 (AB g)):=Aa6 hg
 have pT:=Aj2 (tn:=tn) hg hN ht
 have hTl:(F5 types g).length=g.nodes.length:=by unfold F5;rw[List.length_map]
 have hSq:=Aip (types:=types) hN
 by_cases hck:AB g=0
 case neg=>
  rw[if_neg hck]
  generalize AB g=ee at pK hck
  refine Ac rfl rfl ?_
  (conv=>whnf);repeat' (first|(refine Aa pK ?_;rintro _ rfl;conv=>whnf)|(refine kA ?_;conv=>whnf)|(refine Br.mk (fun hc=>?_) fun hc=>?_<;>first|exact hc.elim|conv=>whnf)|(refine kB ?_))
  all_goals first|rfl|(exfalso;omega)
 rw[if_pos hck]
 rw[hck]at pK
 obtain⟨T,hT⟩:∃T,T=F5 types g:=⟨_,rfl⟩
 unfold rtL
 rw[← hT]at pT hTl hSq ⊢
 refine Ac rfl rfl ?_
 (conv=>whnf);repeat' (first|((first|refine Aa pK ?_|refine Aa pT ?_);rintro _ rfl;conv=>whnf)|(refine kA ?_;conv=>whnf)|(refine Br.mk (fun hc=>?_) fun hc=>?_<;>first|exact hc.elim|conv=>whnf)|(refine kB ?_))
 all_goals first|(exfalso;omega)|skip
 have hL:=hSq.1
 have hrl:((List.range g.nodes.length).map fun v=>((g.nodes.map GN.id).getD v 0,((cI T v T.length:Nat):Int))).length=g.nodes.length:=by simp
 obtain⟨R,hR⟩:∃R,R=(List.range g.nodes.length).map fun v=>((g.nodes.map GN.id).getD v 0,((cI T v T.length:Nat):Int)):=⟨_,rfl⟩
 rw[← hR]at hrl ⊢
 refine Ap (fun m env s=>∃(v c gg:Nat),m=g.nodes.length-v∧v≤g.nodes.length∧env=[(2,.ref 0 0 0 0),(5,.sl (decide (0<g.nodes.length)) (vs slB T)),(6,.own 1 gg 0 v),(7,.int .i64 v)]∧s=⟨[.arr 0 4 true true [g.av],.arr gg 2 (decide (0<v)) true (vs pv (R.take v))],c⟩) ?_ _ _ _ ⟨0,_,_,rfl,by omega,rfl,rfl⟩
 rintro _ _ _ ⟨v,c,gg,rfl,hv,rfl,rfl⟩
 refine⟨rfl,?_⟩
 have htk:(R.take v).length=v:=by rw[List.length_take];omega
 by_cases hlt:v<g.nodes.length
 ·(conv=>whnf);repeat' (first  |(refine kA ?_;conv=>whnf)|(refine Br.mk (fun hc=>?_) fun hc=>?_<;>first|exact hc.elim|conv=>whnf)|(refine kB ?_))
  all_goals first|(exfalso;omega)|skip
  have hvT:v<T.length:=by omega
  refine Ap (fun m env s=>∃(i c:Nat),m=T.length-i∧i≤T.length∧env=[(2,.ref 0 0 0 0),(5,.sl (decide (0<g.nodes.length)) (vs slB T)),(6,.own 1 gg 0 v),(7,.int .i64 v),(8,.int .i64 (cI T v i)),(9,.int .i64 i)]∧s=⟨[.arr 0 4 true true [g.av],.arr gg 2 (decide (0<v)) true (vs pv (R.take v))],c⟩) ?_ _ _ _ ⟨0,_,rfl,by omega,rfl,rfl⟩
  rintro _ _ _ ⟨i,c2,rfl,hi,rfl,rfl⟩
  refine⟨rfl,?_⟩
  have hcI:=Ai9 (T:=T) (v:=v) (m:=i)
  have hm1:i*T.length≤1000*1000:=Nat.mul_le_mul (by omega) (by omega)
  by_cases hilt:i<T.length
  ·(conv=>whnf);repeat' (first  |(refine kA ?_;conv=>whnf)|(refine Br.mk (fun hc=>?_) fun hc=>?_<;>first|exact hc.elim|conv=>whnf)|(refine kB ?_))
   all_goals first|(exfalso;omega)|skip
   refine Ap (fun m env s=>∃(k c:Nat),m=T.length-k∧i<k∧k≤T.length∧env=[(2,.ref 0 0 0 0),(5,.sl (decide (0<g.nodes.length)) (vs slB T)),(6,.own 1 gg 0 v),(7,.int .i64 v),(8,.int .i64 ((cI T v i+cK T v i k:Nat):Int)),(9,.int .i64 i),(10,.int .i64 k)]∧s=⟨[.arr 0 4 true true [g.av],.arr gg 2 (decide (0<v)) true (vs pv (R.take v))],c⟩) ?_ _ _ _ ⟨i+1,_,rfl,by omega,by omega,by rw[Aim];rfl,rfl⟩
   rintro _ _ _ ⟨k,c3,rfl,hik,hk,rfl,rfl⟩
   refine⟨rfl,?_⟩
   have hcK:=Ai8 (T:=T) (v:=v) (i:=i) (m:=k)
   by_cases AmZ:k<T.length
   ·have pA:=Agg (tn:=decide (0<g.nodes.length)) hSq hvT hilt
    have pB:=Agg (tn:=decide (0<g.nodes.length)) hSq hvT AmZ
    have pC:=Agg (tn:=decide (0<g.nodes.length)) hSq hilt AmZ
    have hs:=Aio (T:=T) (v:=v) hik
    unfold LJ at hs
    generalize X0 T v i=x1 at pA hs
    generalize X0 T v k=x2 at pB hs
    generalize X0 T i k=x3 at pC hs
    cases x1<;>cases x2<;>cases x3
    all_goals (
       replace hs:=hs
       simp only[Bool.and_self,Bool.and_true,Bool.and_false,Bool.false_eq_true,if_true,if_false,Nat.add_zero]at hs
       (conv=>whnf);repeat' (first|((first|refine Aa pA ?_|refine Aa pB ?_|refine Aa pC ?_);rintro _ rfl;conv=>whnf)|(refine kA ?_;conv=>whnf)|(refine Br.mk (fun hc=>?_) fun hc=>?_<;>first|exact hc.elim|conv=>whnf)|(refine kB ?_)))
    all_goals first
       |(exfalso;omega)
       |exact again.mk ⟨_,by omega,k+1,_,rfl,by omega,by omega,by rw[hs];rfl,rfl⟩
   ·have hke:k=T.length:=by omega
    subst hke
    have hs:=Ack (T:=T) (v:=v) (m:=i)
    (conv=>whnf);repeat' (first  |(refine kA ?_;conv=>whnf)|(refine Br.mk (fun hc=>?_) fun hc=>?_<;>first|exact hc.elim|conv=>whnf)|(refine kB ?_))
    all_goals first
       |(exfalso;omega)
       |exact again.mk ⟨_,by omega,i+1,_,rfl,by omega,by rw[hs];rfl,rfl⟩
  ·have hie:i=T.length:=by omega
   subst hie
   have hsn:R.take (v+1)=R.take v++[((g.nodes[v]).id,((cI T v T.length:Nat):Int))]:=by
        rw[List.take_succ_eq_append_getElem (by omega)]
        have:R[v]'(by omega)=((g.nodes[v]).id,((cI T v T.length:Nat):Int)):=by
         simp[hR,hlt]
        rw[this]
   (conv=>whnf);repeat' (first|(refine Ij (f:=pv) (l:=R.take v) (x:=((g.nodes[v]).id,((cI T v T.length:Nat):Int))) WY (by rw[htk]) (by rw[htk];omega) ?_;conv=>whnf)|(refine kA ?_;conv=>whnf)|(refine Br.mk (fun hc=>?_) fun hc=>?_<;>first|exact hc.elim|conv=>whnf)|(refine kB ?_))
   all_goals first
        |(exfalso;omega)
        |(rw [htk,←hsn];exact again.mk ⟨_,by omega,v+1,_,_,rfl,by omega,rfl,by rw[decide_eq_true (show 0<v+1 by omega)]⟩)
 ·have hve:v=g.nodes.length:=by omega
  subst hve
  rw[List.take_of_length_le (by omega)]
  have VH:sub (vs pv R) 0 g.nodes.length=vs pv R:=by
   have:sub (vs pv R) 0 R.length=vs pv R:=uV
   rwa [hrl]at this
  (conv=>whnf);repeat' (first|(refine FD ⟨rfl,by rw[lV];omega⟩ ?_;conv=>whnf)|(refine CB VH ?_;conv=>whnf)|(refine kA ?_;conv=>whnf)|(refine Br.mk (fun hc=>?_) fun hc=>?_<;>first|exact hc.elim|conv=>whnf)|(refine kB ?_))
  all_goals first
   |(exfalso;omega)
   |rfl
def Vz (m:Nat) (p:Nat→Bool):Nat:=((List.range m).filter p).length
theorem Yb {m:Nat} {p:Nat→Bool}:Vz (m+1) p=Vz m p+if p m then 1 else 0:=by
 unfold Vz
 rw[List.range_succ,List.filter_append,List.length_append]
 simp only[List.filter_cons,List.filter_nil]
 cases p m<;>rfl
theorem NJ {m:Nat} {p q:Nat→Bool} (h:∀i,i<m→p i=q i):Vz m p=Vz m q:=by
 unfold Vz
 rw[List.filter_congr fun i hi=>h i (List.mem_range.1 hi)]
theorem Yc {m:Nat} {p:Nat→Bool} (h:∀i,i<m→p i=false):Vz m p=0:=by
 rw[NJ h]
 unfold Vz
 simp
theorem WM {m:Nat} {q:Nat→Nat→Bool}:∀{l:List Nat},(l.map fun i=>Vz (m+1) (q i)).sum=(l.map fun i=>Vz m (q i)).sum+(l.filter fun i=>q i m).length
 |[]=>rfl
 |i::l=>by
  have:=WM (m:=m) (q:=q) (l:=l)
  simp only[List.map_cons,List.sum_cons,Yb,List.filter_cons]at this ⊢
  cases q i m<;>simp<;>omega
theorem Rj {t:Nat→Nat→Bool} (hs:∀i k,t i k=t k i) (hi:∀i,t i i=false):∀m,((List.range m).map fun i=>Vz m (t i)).sum=2*((List.range m).map fun i=>Vz m (fun k=>decide (i<k)&&t i k)).sum
 |0=>rfl
 |m+1=>by
  have ih:=Rj hs hi m
  rw[List.range_succ,List.map_append,List.map_append,List.sum_append,List.sum_append]
  simp only[List.map_cons,List.map_nil,List.sum_cons,List.sum_nil,Nat.add_zero]
  rw[WM,WM (q:=fun i k=>decide (i<k)&&t i k)]
  have e1:Vz (m+1) (t m)=Vz m (fun i=>t i m):=by
   rw[Yb,hi m]
   simp only[Bool.false_eq_true,if_false,Nat.add_zero]
   exact NJ fun i _=>hs m i
  have e2:Vz (m+1) (fun k=>decide (m<k)&&t m k)=0:=Yc fun k hk=>by simp[show ¬m<k by omega]
  have e3:((List.range m).filter fun i=>decide (i<m)&&t i m).length=Vz m (fun i=>t i m):=NJ (p:=fun i=>decide (i<m)&&t i m) fun i h=>by simp[h]
  rw[e1,e2,e3]
  show _+Vz m (fun i=>t i m)+_=_
  omega
def NR (types:List (List UInt8)) (es:List GE) (x y:Int):Prop:=x≠y∧(JN types es x y∨JN types es y x)
noncomputable instance (types:List (List UInt8)) (es:List GE) (x y:Int):Decidable (NR types es x y):=Classical.propDecidable _
theorem Ej {types:List (List UInt8)} {es:List GE} {a b:Int}:JN types es a b↔∃e∈es,JP types a b e:=by
 constructor
 ·rintro⟨i,h,hp⟩
  exact⟨_,List.getElem_mem h,hp⟩
 ·rintro⟨e,he,hp⟩
  obtain⟨i,h,rfl⟩:=List.getElem_of_mem he
  exact⟨i,h,hp⟩
theorem VA {α:Type} {M:List (Int×α)} {k x:Int} {v:α}:x∈(Fz M k v).map Prod.fst↔x=k∨x∈M.map Prod.fst:=by
 refine⟨TA,fun h=>?_⟩
 by_cases hx:x∈(Fz M k v).map Prod.fst
 ·exact hx
 ·have h1:EH (Fz M k v) x=none:=Hu.2 hx
  rw[I5]at h1
  split at h1
  ·cases h1
  ·rename_i hne
   rcases h with h|h
   ·exact absurd h hne
   ·exact absurd h (Hu.1 h1)
structure Pq (L:List (Int×Bool)):Prop where
 nd:(L.map Prod.fst).Nodup
 tt:∀p∈L,p.2=true
theorem AgD {α:Type} {M:List (Int×α)} {k:Int} {v:α} (h:EH M k=some v):(k,v)∈M:=by
 induction M with
 |nil=>cases h
 |cons p M ih=>
  simp only[EH]at h
  split at h
  ·rename_i e
   cases h
   rw[e]
   exact List.mem_cons_self
  ·exact List.mem_cons_of_mem _ (ih h)
theorem Pq.put {L:List (Int×Bool)} (h:Pq L) (k:Int):Pq (Fz L k true):=by
 have hn:((Fz L k true).map Prod.fst).Nodup:=ZY h.nd k true
 refine⟨hn,fun p hp=>?_⟩
 have h1:=Me hn hp
 rw[I5]at h1
 split at h1
 ·exact(Option.some.inj h1).symm
 ·exact h.tt _ (AgD h1)
theorem Pq.has {L:List (Int×Bool)} (h:Pq L) (x:Int):hasB L x=decide (x∈L.map Prod.fst):=by
 unfold hasB
 by_cases hx:x∈L.map Prod.fst
 ·rw[decide_eq_true hx]
  obtain⟨p,hp,rfl⟩:=List.mem_map.1 hx
  rw[Me h.nd hp,h.tt p hp]
  rfl
 ·rw[decide_eq_false hx,Hu.2 hx]
  rfl
theorem WO {types:List (List UInt8)} {v:Int}:∀{es:List GE} {L:Int→List (Int×Bool)},(∀ v,Pq (L v))→Pq ((es.foldl (E5 types) L) v)∧∀x,x∈((es.foldl (E5 types) L) v).map Prod.fst↔x∈(L v).map Prod.fst∨(v≠x∧∃e∈es,JP types v x e∨JP types x v e)
 |[],L,h=>⟨h v,fun x=>by simp⟩
 |e::es,L,h=>by
  have hg:∀u,Pq (E5 types L e u):=fun u=>by
   unfold E5
   split
   ·dsimp only
    split
    ·exact(h _).put _
    ·split
     ·exact(h _).put _
     ·exact h u
   ·exact h u
  obtain⟨g1,g2⟩:=WO (types:=types) (v:=v) (es:=es) (L:=E5 types L e) hg
  refine⟨g1,fun x=>?_⟩
  rw[List.foldl_cons,g2 x]
  have key:x∈(E5 types L e v).map Prod.fst↔x∈(L v).map Prod.fst∨(v≠x∧(JP types v x e∨JP types x v e)):=by
   unfold E5 JP
   by_cases hc:e.fr≠e.to∧HT types e
   ·rw[if_pos hc]
    by_cases h1:v=e.to
    ·rw[if_pos h1,VA]
     subst h1
     constructor
     ·rintro(rfl|hx)
      ·exact .inr ⟨fun e'=>hc.1 e'.symm,.inr ⟨rfl,rfl,hc.2⟩⟩
      ·exact .inl hx
     ·rintro(hx|⟨hne,⟨a,b,_⟩|⟨a,_,_⟩⟩)
      ·exact .inr hx
      ·exact absurd a hc.1
      ·exact .inl a.symm
    ·rw[if_neg h1]
     by_cases h2:v=e.fr
     ·rw[if_pos h2,VA]
      subst h2
      constructor
      ·rintro(rfl|hx)
       ·exact .inr ⟨hc.1,.inl ⟨rfl,rfl,hc.2⟩⟩
       ·exact .inl hx
      ·rintro(hx|⟨hne,⟨_,b,_⟩|⟨_,b,_⟩⟩)
       ·exact .inr hx
       ·exact .inl b.symm
       ·exact absurd b.symm h1
     ·rw[if_neg h2]
      constructor
      ·exact .inl
      ·rintro(hx|⟨_,⟨a,_,_⟩|⟨_,b,_⟩⟩)
       ·exact hx
       ·exact absurd a.symm h2
       ·exact absurd b.symm h1
   ·rw[if_neg hc]
    constructor
    ·exact .inl
    ·rintro(hx|⟨hne,⟨a,b,c⟩|⟨a,b,c⟩⟩)
     ·exact hx
     ·exact absurd ⟨fun e'=>hne (a.symm.trans (e'.trans b)),c⟩ hc
     ·exact absurd ⟨fun e'=>hne (b.symm.trans (e'.symm.trans a)),c⟩ hc
  rw[key]
  constructor
  ·rintro((hx|⟨hne,hp⟩)|⟨hne,e',he',hp⟩)
   ·exact .inl hx
   ·exact .inr ⟨hne,e,by simp,hp⟩
   ·exact .inr ⟨hne,e',by simp[he'],hp⟩
  ·rintro(hx|⟨hne,e',he',hp⟩)
   ·exact .inl (.inl hx)
   ·rcases List.mem_cons.1 he' with rfl|he'
    ·exact .inl (.inr ⟨hne,hp⟩)
    ·exact .inr ⟨hne,e',he',hp⟩
theorem Pv {types:List (List UInt8)} {es:List GE} {v:Int}:Pq (JD types es v):=(WO (fun _=>⟨by simp,by simp⟩)).1
theorem OE {types:List (List UInt8)} {es:List GE} {v x:Int}:x∈(JD types es v).map Prod.fst↔NR types es v x:=by
 have:=(WO (types:=types) (v:=v) (es:=es) (L:=fun _=>[]) (fun _=>⟨by simp,by simp⟩)).2 x
 unfold JD
 rw[this]
 unfold NR
 rw[Ej,Ej]
 constructor
 ·rintro(h|⟨hne,e,he,hp|hp⟩)
  ·cases h
  ·exact⟨hne,.inl ⟨e,he,hp⟩⟩
  ·exact⟨hne,.inr ⟨e,he,hp⟩⟩
 ·rintro⟨hne,⟨e,he,hp⟩|⟨e,he,hp⟩⟩
  ·exact .inr ⟨hne,e,he,.inl hp⟩
  ·exact .inr ⟨hne,e,he,.inr hp⟩
theorem Z4 {types:List (List UInt8)} {es:List GE} {v x:Int}:hasB (JD types es v) x=decide (NR types es v x):=by
 rw[Pv.has,decide_eq_decide]
 exact OE
theorem Ad5 {T:List (List Bool)} (i k:Nat):X0 T i k=X0 T k i:=by
 unfold X0
 rw[Bool.or_comm,decide_eq_decide.2 (show i≠k↔k≠i from⟨Ne.symm,Ne.symm⟩)]
theorem AgE {T:List (List Bool)} (i:Nat):X0 T i i=false:=by simp[X0]
theorem Z7 {T:List (List Bool)} {v:Nat} (i k:Nat):LJ T v i k=LJ T v k i:=by
 unfold LJ
 rw[Ad5 i k,←Bool.and_assoc,←Bool.and_assoc,Bool.and_comm (X0 T v i)]
theorem AcA {T:List (List Bool)} {v:Nat} (i:Nat):LJ T v i i=false:=by simp[LJ,AgE]
theorem OG {α:Type} {P:α→Bool} {f:α→Nat}:∀{l:List α},((l.filter P).map f).sum=(l.map fun x=>if P x then f x else 0).sum
 |[]=>rfl
 |x::l=>by
  have:=OG (P:=P) (f:=f) (l:=l)
  rw[List.filter_cons]
  cases h:P x
  ·simp[h,this]
  ·simp[h,this]
def QG (g:GG) (k:Nat):Int:=(g.nodes.map GN.id).getD k 0
theorem QL {g:GG} {k:Nat} (h:k<g.nodes.length):QG g k=(g.nodes[k]).id:=by simp[QG,h]
theorem NK {g:GG}:Dc g=(List.range g.nodes.length).map (QG g):=by
 apply List.ext_getElem
 ·simp[Dc]
 ·intro i h1 h2
  have hi:i<g.nodes.length:=by simpa[Dc]using h1
  rw[List.getElem_map,List.getElem_range,QL hi,Px hi]
theorem AgF {g:GG} (hck:AB g=0) {i k:Nat} (hi:i<g.nodes.length) (hk:k<g.nodes.length):QG g i=QG g k↔i=k:=by
 rw[QL hi,QL hk]
 refine⟨fun h=>?_,fun h=>by subst h;rfl⟩
 have hnd:=LZ hck
 have h1:(Dc g)[i]'(by rw[MF];exact hi)=(Dc g)[k]'(by rw[MF];exact hk):=by rw[Px hi,Px hk,h]
 exact(List.getElem_inj hnd).1 h1
theorem Ad6 {types:List (List UInt8)} {g:GG} (hck:AB g=0) {i k:Nat} (hi:i<g.nodes.length) (hk:k<g.nodes.length):X0 (F5 types g) i k=decide (NR types g.edges (QG g i) (QG g k)):=by
 have at1:∀{i k:Nat},i<g.nodes.length→k<g.nodes.length→atB (F5 types g) i k=decide (JN types g.edges (QG g i) (QG g k)):=fun{i k} hi hk=>by
  rw[QL hi,QL hk]
  simp[atB,F5,adj,hi,hk]
 unfold X0
 rw[at1 hi hk,at1 hk hi]
 rw[show decide (NR types g.edges (QG g i) (QG g k))=decide (QG g i≠QG g k∧(JN types g.edges (QG g i) (QG g k)∨JN types g.edges (QG g k) (QG g i))) from decide_eq_decide.2 Iff.rfl,Bool.decide_and,Bool.decide_or,decide_eq_decide.2 (show i≠k↔QG g i≠QG g k from not_congr (AgF hck hi hk).symm)]
theorem QM {types:List (List UInt8)} {g:GG} (hck:AB g=0) {v:Int}:((JD types g.edges v).map Prod.fst).Perm ((Dc g).filter fun x=>decide (NR types g.edges v x)):=by
 refine(List.perm_ext_iff_of_nodup Pv.nd ((LZ hck).filter _)).2 fun x=>?_
 rw[List.mem_filter,decide_eq_true_iff]
 exact⟨fun h=>⟨WQ (types:=types) (es:=g.edges) (L:=fun _=>[]) (v:=v) (L8 hck) (fun v x h=>by cases h) h,OE.1 h⟩,fun h=>OE.2 h.2⟩
theorem WR {types:List (List UInt8)} {g:GG} (hck:AB g=0) {v x:Int}:LU types g v x=Vz g.nodes.length fun k=>decide (NR types g.edges v (QG g k))&&decide (NR types g.edges x (QG g k)):=by
 unfold LU ER
 have e1:((JD types g.edges v).filter fun p=>hasB (JD types g.edges x) p.1).map (·.1)=((JD types g.edges v).map Prod.fst).filter fun y=>decide (NR types g.edges x y):=by
  rw[List.filter_map]
  congr 1
  exact List.filter_congr fun p _=>Z4
 rw[e1,((QM hck).filter _).length_eq,List.filter_filter,NK,List.filter_map,List.length_map]
 unfold Vz
 congr 1
 exact List.filter_congr fun k _=>by simp[Bool.and_comm]
theorem Alj {types:List (List UInt8)} {g:GG} (hck:AB g=0) {v:Nat} (hv:v<g.nodes.length):ZL types g (g.nodes[v]).id=2*cI (F5 types g) v (F5 types g).length:=by
 have hTl:(F5 types g).length=g.nodes.length:=by unfold F5;rw[List.length_map]
 have h1:ZL types g (QG g v)=(((Dc g).filter fun x=>decide (NR types g.edges (QG g v) x)).map (LU types g (QG g v))).sum:=by
  unfold ZL Py
  rw[← ((QM hck).map (LU types g (QG g v))).sum_nat,List.map_map]
  rfl
 rw[← QL hv,h1,OG,NK,List.map_map,hTl]
 have h2:((List.range g.nodes.length).map ((fun x=>if decide (NR types g.edges (QG g v) x)=true then LU types g (QG g v) x else 0)∘QG g))=(List.range g.nodes.length).map fun i=>Vz g.nodes.length (LJ (F5 types g) v i):=by
  refine List.map_congr_left fun i hi=>?_
  have hi:=List.mem_range.1 hi
  simp only[Function.comp]
  rw[← Ad6 (types:=types) hck hv hi,WR hck]
  cases hn:X0 (F5 types g) v i
  ·simp only[Bool.false_eq_true,if_false]
   exact(Yc fun k _=>by simp[LJ,hn]).symm
  ·simp only[if_true]
   exact NJ fun k hk=>by
        rw[← Ad6 hck hv hk,←Ad6 hck hi hk]
        simp[LJ,hn]
 rw[h2,Rj (fun i k=>Z7 i k) (fun i=>AcA i)]
 unfold cI
 rw[hTl]
 rfl
theorem AgG {types:List (List UInt8)} {g:GG} (hck:AB g=0):Ik types g=rtL types g:=by
 apply List.ext_getElem
 ·simp[Ik,rtL]
 ·intro i h1 h2
  have hi:i<g.nodes.length:=by simpa[Ik]using h1
  simp only[Ik,rtL,List.getElem_map,List.getElem_range]
  rw[Alj hck hi,Nat.mul_div_cancel_left _ (by omega)]
  simp[hi]
end AI
end Go.Proofs.YtchcadfjbkkgmaaGreatDoor
