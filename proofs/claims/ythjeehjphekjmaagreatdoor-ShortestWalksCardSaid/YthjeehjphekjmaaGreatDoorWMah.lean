/- The reference's validity of values: it answers. The reference's validity of values, with lists in lists. The reference's numbers, classes, strings compared. Names: the program's and the reference's. value.Plain and the reference's Plain: which values may be stored. The reference's bare values and strings. The null value. The reference's order of a value and null. Valid values, and values that are alike: plain. Valid fractions: the program's. Valid fractions: the reference's. The program's wide numbers: products, sums, signs; fractions compared. The reference's wide numbers: they are reckoned without a panic. The reference's comparison of a fraction with itself. Numbers by their digits to the base 1000: plain. -/
import Derived.Test.YthjeehjphekjmaaGreatDoorWMac
import Derived.Test.YthjeehjphekjmaaGreatDoorWMaa
import Derived.Test.YthjeehjphekjmaaGreatDoorBMaa
set_option linter.unusedVariables false
set_option maxRecDepth 4000
namespace Go.Proofs.YthjeehjphekjmaaGreatDoor
namespace AI
theorem bare {g:GV} {n d s l:Bool}:Au (Ac tab) 132 [g.av,.bool n,.bool d,.bool s,.bool l] (fun v=>∃b,v=.bool b):=by
 cases n<;>cases d<;>cases s<;>cases l<;>(
 refine Af rfl rfl ?_
 (conv=>whnf);repeat' (first|(refine kA ?_;conv=>whnf)|(refine Br.mk (fun hc=>?_) fun hc=>?_<;>first|exact hc.elim|conv=>whnf)  |(refine kB ?_))
 all_goals exact⟨_,rfl⟩)
theorem Agg {n:Int}:Au (Ac tab) 133 [.int .i64 n] (fun v=>∃b,v=.bool b):=by
 refine Af rfl rfl ?_
 (conv=>whnf);repeat' (first|(refine kA ?_;conv=>whnf)|(refine Br.mk (fun hc=>?_) fun hc=>?_<;>first|exact hc.elim|conv=>whnf)  |(refine kB ?_))
 all_goals exact⟨_,rfl⟩
theorem size {n:Int} (h1:-2^62≤n) (h2:n≤2^62):Au (Ac tab) 94 [.int .i64 n] (fun v=>∃z,v=.int .i64 z∧0≤z∧(z=n∨z=-n)):=by
 refine Af rfl rfl ?_
 (conv=>whnf);repeat' (first|(refine kA ?_;conv=>whnf)|(refine Br.mk (fun hc=>?_) fun hc=>?_<;>first|exact hc.elim|conv=>whnf)  |(refine kB ?_))
 all_goals exact⟨_,rfl,by omega,by omega⟩
theorem gcd {a b:Int} (h1:0≤a) (h2:0≤b):Au (Ac tab) 137 [.int .i64 a,.int .i64 b] (fun v=>∃z,v=.int .i64 z):=by
 refine Af rfl rfl ?_
 (conv=>whnf);repeat' (first|(refine kA ?_;conv=>whnf)|(refine Br.mk (fun hc=>?_) fun hc=>?_<;>first|exact hc.elim|conv=>whnf)  |(refine kB ?_))
 refine Ae (fun m env s=>∃(a b:Int),m=b.toNat∧0≤a∧0≤b∧env=[(0,.int .i64 a),(1,.int .i64 b)]∧s=⟨[],0⟩) ?_ _ _ _ ⟨a,b,rfl,h1,h2,rfl,rfl⟩
 clear h1 h2 a b
 rintro _ _ _ ⟨a,b,rfl,h1,h2,rfl,rfl⟩
 refine⟨rfl,?_⟩
 (conv=>whnf);repeat' (first|(refine kA ?_;conv=>whnf)|(refine Br.mk (fun hc=>?_) fun hc=>?_<;>first|exact hc.elim|conv=>whnf)  |(refine kB ?_))
 ·have e:a.tmod b=a % b:=Int.tmod_eq_emod_of_nonneg h1
  have:=Int.emod_lt_of_pos a (by omega:0<b)
  have:=Int.emod_nonneg a (by omega:b≠0)
  exact again.mk ⟨_,by rw[e];omega,_,_,rfl,h2,by rw[e];omega,rfl,rfl⟩
 ·exact⟨_,rfl⟩
theorem AcE {n d:Int}:Au (Ac tab) 90 [.agg [.int .i64 n,.int .i64 d]] (fun v=>∃b,v=.bool b∧(b=true→1≤d∧d≤1000000000000000∧-1000000000000000≤n∧n≤1000000000000000)):=by
 refine Af rfl rfl ?_
 (conv=>whnf);repeat' (first|(refine kA ?_;conv=>whnf)|(refine Br.mk (fun hc=>?_) fun hc=>?_<;>first|exact hc.elim|conv=>whnf)|(refine Aa (size (n:=n) (by omega) (by omega)) ?_;rintro _ ⟨z,rfl,hz1,hz2⟩;conv=>whnf)|(refine Aa (gcd (by omega) (by omega)) ?_;rintro _ ⟨z2,rfl⟩;conv=>whnf)|(refine kB ?_))
 all_goals first|exact⟨_,rfl,fun _=>by omega⟩|exact⟨_,rfl,fun h=>absurd h Bool.false_ne_true⟩
theorem Aes {s:List UInt8} (hl:s.length<2^63):Au (Ac tab) 134 [.str s] (fun v=>∃b,v=.bool b):=by
 refine Af rfl rfl ?_
 (conv=>whnf);repeat' (first|(refine kA ?_;conv=>whnf)|(refine Br.mk (fun hc=>?_) fun hc=>?_<;>first|exact hc.elim|conv=>whnf)  |(refine kB ?_))
 refine Ae (fun m env s'=>∃i:Nat,m=s.length-i∧env=[(0,.str s),(3,.int .i64 i)]∧s'=⟨[],0⟩) ?_ _ _ _ ⟨0,rfl,rfl,rfl⟩
 rintro _ _ _ ⟨i,rfl,rfl,rfl⟩
 refine⟨rfl,?_⟩
 (conv=>whnf);repeat' (first|(refine kA ?_;conv=>whnf)|(refine Br.mk (fun hc=>?_) fun hc=>?_<;>first|exact hc.elim|conv=>whnf)  |(refine kB ?_))
 all_goals first|exact⟨_,rfl⟩|exact again.mk ⟨_,by omega,i+1,rfl,rfl,rfl⟩
theorem XZ {g:GV} {n:Int} (h:g.k=5∨g.k=6):Au (Ac tab) 87 [g.av,.int .i64 n] (fun v=>∃b,v=.bool b):=by
 refine Af rfl rfl ?_
 (conv=>whnf);repeat' (first|(refine kA ?_;conv=>whnf)|(refine Br.mk (fun hc=>?_) fun hc=>?_<;>first|exact hc.elim|conv=>whnf)|(refine Aa (bare (g:=g)) ?_;rintro _ ⟨b,rfl⟩;conv=>whnf)|(refine kB ?_))
 all_goals exact⟨_,rfl⟩
theorem AcF {l:List AV} {nn:Bool} (hl:l.length<2^63) (h:∀x∈l,Like Tryz.prog 45 x):Au (Ac tab) 135 [.sl nn l] (fun v=>∃b,v=.bool b):=by
 refine Af rfl rfl ?_
 (conv=>whnf);repeat' (first|(refine kA ?_;conv=>whnf)|(refine Br.mk (fun hc=>?_) fun hc=>?_<;>first|exact hc.elim|conv=>whnf)  |(refine kB ?_))
 all_goals first|exact⟨_,rfl⟩|skip
 refine Ae (fun m env s'=>∃i:Nat,m=l.length-i∧env=[(0,.sl nn l),(3,.int .i64 i)]∧s'=⟨[],0⟩) ?_ _ _ _ ⟨0,rfl,rfl,rfl⟩
 rintro _ _ _ ⟨i,rfl,rfl,rfl⟩
 refine⟨rfl,?_⟩
 obtain⟨gx,hgx⟩:=WS h i
 (conv=>whnf);repeat' (first|(refine kA ?_;conv=>whnf)|(refine Br.mk (fun hc=>?_) fun hc=>?_<;>first|exact hc.elim|conv=>whnf)|(apply AU;(· exact(hgx (by omega)).1);conv=>whnf)|(refine Aa (XZ (g:=gx) (by omega)) ?_;rintro _ ⟨b,rfl⟩;conv=>whnf)|(refine kB ?_))
 all_goals first|exact⟨_,rfl⟩|exact again.mk ⟨_,by omega,i+1,rfl,rfl,rfl⟩
theorem Aeq {l:List AV} {nn:Bool} (hl:l.length<2^63):Au (Ac tab) 136 [.sl nn l,.int .i64 0] (fun v=>∃b,v=.bool b):=by
 refine Af rfl rfl ?_
 (conv=>whnf);repeat' (first|(refine kA ?_;conv=>whnf)|(refine Br.mk (fun hc=>?_) fun hc=>?_<;>first|exact hc.elim|conv=>whnf)  |(refine kB ?_))
 all_goals exact⟨_,rfl⟩
theorem Aer {n:Nat} (ih:∀{g:GV},g.ok→Au (Ac tab) 87 [g.av,.int .i64 n] (fun v=>∃b,v=.bool b)) (hn:n<2^60) {l:List AV} {nn:Bool} (hl:l.length<2^63) (h:∀x∈l,Like Tryz.prog 45 x):
 Au (Ac tab) 136 [.sl nn l,.int .i64 (n+1:Nat)] (fun v=>∃b,v=.bool b):=by
 refine Af rfl rfl ?_
 (conv=>whnf);repeat' (first|(refine kA ?_;conv=>whnf)|(refine Br.mk (fun hc=>?_) fun hc=>?_<;>first|exact hc.elim|conv=>whnf)  |(refine kB ?_))
 all_goals first|exact⟨_,rfl⟩|skip
 refine Ae (fun m env s'=>∃i:Nat,m=l.length-i∧env=[(0,.sl nn l),(1,.int .i64 (n+1:Nat)),(5,.int .i64 i)]∧s'=⟨[],0⟩) ?_ _ _ _ ⟨0,rfl,rfl,rfl⟩
 rintro _ _ _ ⟨i,rfl,rfl,rfl⟩
 refine⟨rfl,?_⟩
 obtain⟨gx,hgx⟩:=WS h i
 have ih':∀{g:GV},g.ok→Au (Ac tab) 87 [g.av,.int .i64 (((n+1:Nat):Int)-1)] (fun v=>∃b,v=.bool b):=by
  rw[show ((n+1:Nat):Int)-1=(n:Int) by omega];exact ih
 (conv=>whnf);repeat' (first|(refine kA ?_;conv=>whnf)|(refine Br.mk (fun hc=>?_) fun hc=>?_<;>first|exact hc.elim|conv=>whnf)|(apply AU;(· exact(hgx (by omega)).1);conv=>whnf)|(refine Aa (ih' (g:=gx) (hgx (by omega)).2.2) ?_;rintro _ ⟨b,rfl⟩;conv=>whnf)|(refine kB ?_))
 all_goals first|exact⟨_,rfl⟩|exact again.mk ⟨_,by omega,i+1,rfl,rfl,rfl⟩
theorem YG {n:Int} {g:GV} (hg:g.ok) (hlist:Au (Ac tab) 136 [.sl g.nn g.l,.int .i64 n] (fun v=>∃b,v=.bool b)):
 Au (Ac tab) 87 [g.av,.int .i64 n] (fun v=>∃b,v=.bool b):=by
 obtain⟨g1,g2,g3,g4,g5,g6,g7⟩:=hg
 unfold Ln at g4 g5
 refine Af rfl rfl ?_
 (conv=>whnf);repeat' (first|(refine kA ?_;conv=>whnf)|(refine Br.mk (fun hc=>?_) fun hc=>?_<;>first|exact hc.elim|conv=>whnf)|(refine Aa (bare (g:=g)) ?_;rintro _ ⟨b,rfl⟩;conv=>whnf)|(refine Aa (Agg (n:=g.n)) ?_;rintro _ ⟨b,rfl⟩;conv=>whnf)|(refine Aa (AcE (n:=g.n) (d:=g.d)) ?_;rintro _ ⟨b,rfl,_⟩;conv=>whnf)|(refine Aa (Aes g4) ?_;rintro _ ⟨b,rfl⟩;conv=>whnf)|(refine Aa (AcF g5 g7) ?_;rintro _ ⟨b,rfl⟩;conv=>whnf)|(refine Aa hlist ?_;rintro _ ⟨b,rfl⟩;conv=>whnf)|(refine kB ?_))
 all_goals exact⟨_,rfl⟩
theorem valid {n:Nat} (hn:n<2^60):∀{g:GV},g.ok→Au (Ac tab) 87 [g.av,.int .i64 n] (fun v=>∃b,v=.bool b):=by
 induction n with
 |zero=>intro g hg;exact YG hg (Aeq hg.2.2.2.2.1)
 |succ n ih=>intro g hg;exact YG hg (Aer (ih (by omega)) (by omega) hg.2.2.2.2.1 hg.2.2.2.2.2.2)
theorem Valid {g:GV} (hg:g.ok):Au (Ac tab) 56 [g.av] (fun v=>∃b,v=.bool b):=by
 refine Af rfl rfl ?_
 (conv=>whnf);repeat' (first|(refine kA ?_;conv=>whnf)|(refine Br.mk (fun hc=>?_) fun hc=>?_<;>first|exact hc.elim|conv=>whnf)|(refine Aa (valid (n:=8) (by omega) hg) ?_;rintro _ ⟨b,rfl⟩;conv=>whnf)|(refine kB ?_))
 all_goals exact⟨_,rfl⟩
theorem number {g:GV} (hg:g.ok):Au (Ac tab) 61 [g.av] (fun v=>∃n d b,v=.CO [.agg [.int .i64 n,.int .i64 d],.bool b]):=by
 refine Af rfl rfl ?_
 (conv=>whnf);repeat' (first|(refine kA ?_;conv=>whnf)|(refine Br.mk (fun hc=>?_) fun hc=>?_<;>first|exact hc.elim|conv=>whnf)|(refine Aa (Valid hg) ?_;rintro _ ⟨b,rfl⟩;conv=>whnf)|(refine kB ?_))
 all_goals exact⟨_,_,_,rfl⟩
def EK (c:Int):Prop:=(97≤c∧c≤122)∨(65≤c∧c≤90)
instance (c:Int):Decidable (EK c):=by unfold EK;infer_instance
def IU (c:Int):Prop:=EK c∨(48≤c∧c≤57)∨c=95
instance (c:Int):Decidable (IU c):=by unfold IU;infer_instance
def isName (s:List UInt8):Prop:=0<s.length∧s.length≤20∧(∀ c,s[0]?=some c→EK c.toNat)∧∀c∈s,IU c.toNat
instance (s:List UInt8):Decidable (isName s):=by unfold isName;infer_instance
theorem pureP_ext {AP:Nat→Option Gv} {f:Nat} {sp:List AV→Ag→Option (AX×Ag)} {args:List AV} {R:AV→Prop} {v v':AV} {s:Ag} (hf:AP f=some (.ext sp)) (h:sp args ⟨[],0⟩=some (.ok v,s)) (hs:snap s.σ Iy v=some v') (hR:R v'):Au AP f args R:=
 ⟨v',⟨1,by simp only[Dv,run,hf,h];exact hs⟩,hR⟩
theorem ixP {l:List UInt8}:Au (Ac tab) 163 [.str l,.fn 164 []] (· =.int .i64 (OX l)):=
 pureP_ext rfl rfl rfl rfl
theorem firstBad_iff {l:List UInt8}:OX l<0↔∀c∈l,Ol c=false:=by
 unfold OX
 cases h:List.findIdx? Ol l with
 |none=>
  refine⟨fun _ c hc=>?_,fun _=>by decide⟩
  have:=List.findIdx?_eq_none_iff.1 h c hc
  simpa using this
 |some i=>
  refine⟨fun h=>?_,fun ha=>?_⟩
  ·simp at h;omega
  ·obtain⟨h1,h2,_⟩:=List.findIdx?_eq_some_iff_getElem.1 h
   rw[ha _ (List.getElem_mem h1)]at h2
   cases h2
def inR (n:Int):Prop:=-1000000000000000≤n∧n≤1000000000000000
instance (n:Int):Decidable (inR n):=by unfold inR;infer_instance
theorem inP {n:Int}:Au (Ac tab) 161 [.int .i64 n] (· =.bool (decide (inR n))):=by
 refine Af rfl rfl ?_
 (conv=>whnf);repeat' (first|(refine kA ?_;conv=>whnf)|(refine Br.mk (fun hc=>?_) fun hc=>?_<;>first|exact hc.elim|conv=>whnf)  |(refine kB ?_))
 all_goals first|exact Dk (by unfold inR;omega)|exact BU (by unfold inR;omega)
theorem Agw {n:Int}:Au (Ac tab) 133 [.int .i64 n] (· =.bool (decide (inR n))):=by
 refine Af rfl rfl ?_
 (conv=>whnf);repeat' (first|(refine kA ?_;conv=>whnf)|(refine Br.mk (fun hc=>?_) fun hc=>?_<;>first|exact hc.elim|conv=>whnf)  |(refine kB ?_))
 all_goals first|exact Dk (by unfold inR;omega)|exact BU (by unfold inR;omega)
def okS (s:List UInt8):Prop:=s.length≤100∧∀c∈s,Ol c=false
instance (s:List UInt8):Decidable (okS s):=by unfold okS;infer_instance
def Gs (v:GV):Prop:=v.d=0∧v.l.length=0∧(v.k=1∧v.s=[]∧(v.n=0∨v.n=1)∨v.k=2∧v.s=[]∧inR v.n∨v.k=4∧v.n=0∧okS v.s)
instance (v:GV):Decidable (Gs v):=by unfold Gs;infer_instance
def KI (v:GV):Prop:=v.k=1∨v.k=2∨v.k=4
instance (v:GV):Decidable (KI v):=by unfold KI;infer_instance
def QI (v:GV) (n d s l:Bool):Prop:=(n=true∨v.n=0)∧(d=true∨v.d=0)∧(s=true∨v.s=[])∧(l=true∨v.l.length=0)
instance (v:GV) (n d s l:Bool):Decidable (QI v n d s l):=by unfold QI;infer_instance
theorem AdR {v:GV} {n d s l:Bool} (hl:v.l.length<2^63):Au (Ac tab) 132 [v.av,.bool n,.bool d,.bool s,.bool l] (· =.bool (decide (QI v n d s l))):=by
 cases n<;>cases d<;>cases s<;>cases l
 all_goals
  refine Af rfl rfl ?_
  (conv=>whnf);repeat' (first|(refine kA ?_;conv=>whnf)|(refine Br.mk (fun hc=>?_) fun hc=>?_<;>first|exact hc.elim|conv=>whnf)  |(refine kB ?_))
 all_goals first
  |(refine Dk ?_;unfold QI;refine⟨?_,?_,?_,?_⟩<;>first|(left;rfl)|(right;first|assumption|omega))
  |(refine BU ?_;unfold QI;rintro⟨h1,h2,h3,h4⟩;simp only[Bool.false_eq_true,false_or,true_or]at h1 h2 h3 h4;first|contradiction|omega)
theorem AfT {s:List UInt8} (hl:s.length<2^63):Au (Ac tab) 134 [.str s] (· =.bool (decide (okS s))):=by
 refine Af rfl rfl ?_
 (conv=>whnf);repeat' (first|(refine kA ?_;conv=>whnf)|(refine Br.mk (fun hc=>?_) fun hc=>?_<;>first|exact hc.elim|conv=>whnf)  |(refine kB ?_))
 refine Ae (fun m env s'=>∃i:Nat,m=s.length-i∧env=[(0,.str s),(3,.int .i64 i)]∧s'=⟨[],0⟩∧∀c∈s.take i,Ol c=false) ?_ _ _ _ ⟨0,rfl,rfl,rfl,by simp⟩
 rintro _ _ _ ⟨i,rfl,rfl,rfl,hx⟩
 refine⟨rfl,?_⟩
 (conv=>whnf);repeat' (first|(refine kA ?_;conv=>whnf)|(refine Br.mk (fun hc=>?_) fun hc=>?_<;>first|exact hc.elim|conv=>whnf)  |(refine kB ?_))
 all_goals first
  |exact again.mk ⟨_,by omega,i+1,rfl,rfl,rfl,FZ (by omega) hx (by unfold Ol;simp;omega)⟩
  |(refine BU fun h=>?_;have:=h.2 s[i] (List.getElem_mem (by omega));unfold Ol at this;simp at this;omega)
  |(rw [List.take_of_length_le (by omega)]at hx;exact Dk ⟨by omega,hx⟩)
  |(refine BU fun h=>?_;have:=h.1;omega)
def isNull (v:GV):Prop:=v.k=0∧v.n=0∧v.d=0∧v.s=[]∧v.l.length=0
instance (v:GV):Decidable (isNull v):=by unfold isNull;infer_instance
def clsR (k:Int):Int:=if k=0 then 0 else if k=1 then 1 else if k=2∨k=3 then 2 else if k=4 then 3 else if k=5 then 4 else if k=6 then 5 else if k=8 then 6 else 7
theorem classR {k:Int}:Au (Ac tab) 60 [.int .i64 k] (· =.int .i64 (clsR k)):=by
 refine Af rfl rfl ?_
 (conv=>whnf);repeat' (first  |(refine kA ?_;conv=>whnf)|(refine Br.mk (fun hc=>?_) fun hc=>?_<;>first|exact hc.elim|conv=>whnf)|(refine kB ?_))
 all_goals first
  |rfl
  |(unfold clsR;repeat' split
    all_goals first|rfl|(exfalso;omega))
def VF (n d:Int):Prop:=1≤d∧d≤1000000000000000∧inR n∧Nat.gcd n.natAbs d.natAbs=1
instance (n d:Int):Decidable (VF n d):=by unfold VF;infer_instance
def VB (g:GV):Prop:=g.l.length=0∧(g.k=0∧g.n=0∧g.d=0∧g.s=[]∨g.k=1∧(g.n=0∨g.n=1)∧g.d=0∧g.s=[]∨g.k=2∧inR g.n∧g.d=0∧g.s=[]∨
 g.k=3∧2≤g.d∧VF g.n g.d∧g.s=[]∨g.k=4∧g.n=0∧g.d=0∧okS g.s∨(g.k=5∨g.k=6)∧1≤g.n∧g.n≤1000000∧g.d=0∧g.s=[])
instance (g:GV):Decidable (VB g):=by unfold VB;infer_instance
def VPa (l:List AV):Prop:=l.length % 2=1∧l.length≤25∧∀i (h:i<l.length),∃x:GV,l[i]=x.av∧x.k=5+i % 2∧VB x
def VV:Nat→GV→Prop
 |0,g=>VB g∨g.k=7∧g.n=0∧g.d=0∧g.s=[]∧VPa g.l
 |m+1,g=>VB g∨g.k=7∧g.n=0∧g.d=0∧g.s=[]∧VPa g.l∨g.k=8∧g.n=0∧g.d=0∧g.s=[]∧g.l.length≤64∧∀i (h:i<g.l.length),∃x:GV,g.l[i]=x.av∧VV m x
theorem VV_mono:∀{m:Nat} {g:GV},VV m g→VV (m+1) g
 |0,g,h=>by
  rcases h with h|h
  ·exact .inl h
  ·exact .inr (.inl h)
 |m+1,g,h=>by
  rcases h with h|h|⟨h1,h2,h3,h4,h5,h6⟩
  ·exact .inl h
  ·exact .inr (.inl h)
  ·exact .inr (.inr ⟨h1,h2,h3,h4,h5,fun i hi=>by obtain⟨x,e,hx⟩:=h6 i hi;exact⟨x,e,VV_mono hx⟩⟩)
theorem GV.G7 {g h:GV} (e:g.av=h.av):g=h:=by
 obtain⟨k,n,d,s,nn,l⟩:=g
 obtain⟨k',n',d',s',nn',l'⟩:=h
 simp only[GV.av,AV.agg.injEq,List.cons.injEq,AV.int.injEq,AV.str.injEq,AV.sl.injEq,true_and,and_true]at e
 obtain⟨rfl,rfl,rfl,rfl,rfl,rfl⟩:=e
 rfl
theorem gcd_step (x y:Nat):Nat.gcd y (x % y)=Nat.gcd x y:=by
 rw[Nat.gcd_comm x y,Nat.gcd_rec y x,Nat.gcd_comm]
theorem absP {n:Int} (h:inR n):Au (Ac tab) 186 [.int .i64 n] (· =.int .i64 n.natAbs):=by
 unfold inR at h
 have e:(if 0-n>n then 0-n else n)=(n.natAbs:Int):=by split<;>omega
 refine Af rfl rfl ?_
 (conv=>whnf);repeat' (first  |(refine kA ?_;conv=>whnf)|(refine Br.mk (fun hc=>?_) fun hc=>?_<;>first|exact hc.elim|conv=>whnf)|(refine kB ?_))
 rw[← e];rfl
theorem gcdP {n d:Int} (hn:inR n) (hd:inR d):Au (Ac tab) 177 [.int .i64 n,.int .i64 d] (· =.int .i64 (Nat.gcd n.natAbs d.natAbs)):=by
 have hn':=hn
 have hd':=hd
 unfold inR at hn' hd'
 refine Af rfl rfl ?_
 (conv=>whnf);repeat' (first|(refine EJ (inP (n:=n)) (fun hr=>?_) (fun hr=>absurd hn hr);conv=>whnf)|(refine EJ (inP (n:=d)) (fun hr=>?_) (fun hr=>absurd hd hr);conv=>whnf)|((first|refine Aa (absP hn) ?_|refine Aa (absP hd) ?_);rintro _ rfl;conv=>whnf)|(refine kA ?_;conv=>whnf)|(refine Br.mk (fun hc=>?_) fun hc=>?_<;>first|exact hc.elim|conv=>whnf)|(refine kB ?_))
 refine Ae (fun m env s=>∃(x y:Nat),m=1*y∧x<2^63∧y<2^63∧Nat.gcd x y=Nat.gcd n.natAbs d.natAbs∧env=[(0,.int .i64 x),(1,.int .i64 y)]∧s=⟨[],0⟩) ?_ _ _ _ ⟨n.natAbs,d.natAbs,(Nat.one_mul _).symm,by omega,by omega,rfl,rfl,rfl⟩
 clear hn hd hn' hd'
 rintro m _ _ ⟨x,y,hm,hx,hy,hg,rfl,rfl⟩
 have hm2:y=m:=by omega
 subst hm2
 refine⟨rfl,?_⟩
 (conv=>whnf);repeat' (first  |(refine kA ?_;conv=>whnf)|(refine Br.mk (fun hc=>?_) fun hc=>?_<;>first|exact hc.elim|conv=>whnf)|(refine kB ?_))
 ·have h0:y=0:=by omega
  subst h0
  rw[Nat.gcd_zero_right]at hg
  rw[← hg];rfl
 ·have h0:0<y:=by omega
  have:=Nat.mod_lt x h0
  exact again.mk ⟨_,this,y,x % y,(Nat.one_mul _).symm,hy,by omega,by rw[gcd_step];exact hg,by rw[Int.ofNat_tmod],rfl⟩
theorem VF_no1 {n d:Int} (h:¬(1≤d∧d≤1000000000000000∧inR n)):¬VF n d:=fun hv=>h ⟨hv.1,hv.2.1,hv.2.2.1⟩
theorem fvP {n d:Int}:Au (Ac tab) 162 [.agg [.int .i64 n,.int .i64 d]] (· =.bool (decide (VF n d))):=by
 by_cases h:1≤d∧d≤1000000000000000∧inR n
 ·obtain⟨h1,h2,h3⟩:=h
  have hg:=gcdP h3 (show inR d by unfold inR;omega)
  refine Af rfl rfl ?_
  (conv=>whnf);repeat' (first|(refine EJ (inP (n:=n)) (fun hr=>?_) (fun hr=>absurd h3 hr);conv=>whnf)|(refine Aa hg ?_;rintro _ rfl;conv=>whnf)|(refine kA ?_;conv=>whnf)|(refine Br.mk (fun hc=>?_) fun hc=>?_<;>first|exact hc.elim|conv=>whnf)|(refine kB ?_))
  all_goals first
   |exact Dk ⟨h1,h2,h3,by omega⟩
   |exact BU fun hv=>by have:=hv.2.2.2;omega
   |trace_state
 ·have hno:=VF_no1 h
  have hnr:¬inR n∨¬(1≤d∧d≤1000000000000000):=by
   by_cases h3:inR n
   ·exact .inr fun h12=>h ⟨h12.1,h12.2,h3⟩
   ·exact .inl h3
  refine Af rfl rfl ?_
  (conv=>whnf);repeat' (first|(refine EJ (inP (n:=n)) (fun hr=>?_) (fun hr=>?_)<;>conv=>whnf)|(refine kA ?_;conv=>whnf)|(refine Br.mk (fun hc=>?_) fun hc=>?_<;>first|exact hc.elim|conv=>whnf)|(refine kB ?_))
  all_goals first
   |exact BU hno
   |(exfalso;rcases hnr with h|h;exact h hr;omega)
   |trace_state
theorem gcdN {a b:Nat} (ha:a<2^63) (hb:b<2^63):Au (Ac tab) 137 [.int .i64 a,.int .i64 b] (· =.int .i64 (Nat.gcd a b)):=by
 refine Af rfl rfl ?_
 (conv=>whnf);repeat' (first  |(refine kA ?_;conv=>whnf)|(refine Br.mk (fun hc=>?_) fun hc=>?_<;>first|exact hc.elim|conv=>whnf)|(refine kB ?_))
 refine Ae (fun m env s=>∃(x y:Nat),m=1*y∧x<2^63∧y<2^63∧Nat.gcd x y=Nat.gcd a b∧env=[(0,.int .i64 x),(1,.int .i64 y)]∧s=⟨[],0⟩) ?_ _ _ _ ⟨a,b,(Nat.one_mul _).symm,ha,hb,rfl,rfl,rfl⟩
 clear ha hb
 rintro m _ _ ⟨x,y,hm,hx,hy,hg,rfl,rfl⟩
 have hm2:y=m:=by omega
 subst hm2
 refine⟨rfl,?_⟩
 (conv=>whnf);repeat' (first  |(refine kA ?_;conv=>whnf)|(refine Br.mk (fun hc=>?_) fun hc=>?_<;>first|exact hc.elim|conv=>whnf)|(refine kB ?_))
 ·have h0:0<y:=by omega
  have:=Nat.mod_lt x h0
  exact again.mk ⟨_,this,y,x % y,(Nat.one_mul _).symm,hy,by omega,by rw[gcd_step];exact hg,by rw[Int.ofNat_tmod],rfl⟩
 ·have h0:y=0:=by omega
  subst h0
  rw[Nat.gcd_zero_right]at hg
  rw[← hg];rfl
theorem fvR {n d:Int}:Au (Ac tab) 90 [.agg [.int .i64 n,.int .i64 d]] (· =.bool (decide (VF n d))):=by
 by_cases h:1≤d∧d≤1000000000000000∧inR n
 ·obtain⟨h1,h2,h3⟩:=h
  have h3':=h3
  unfold inR at h3'
  obtain⟨dn,rfl⟩:∃k:Nat,d=k:=⟨d.toNat,by omega⟩
  obtain⟨_,⟨z,rfl,z0,z1⟩,hz⟩:=(size (n:=n) (by omega) (by omega)).Oj
  obtain⟨zn,rfl⟩:∃k:Nat,z=k:=⟨z.toNat,by omega⟩
  have hzn:zn=n.natAbs:=by omega
  have hg:=gcdN (a:=zn) (b:=dn) (by omega) (by omega)
  refine Af rfl rfl ?_
  (conv=>whnf);repeat' (first|((first|refine Aa hz ?_|refine Aa hg ?_);rintro _ rfl;conv=>whnf)|(refine kA ?_;conv=>whnf)|(refine Br.mk (fun hc=>?_) fun hc=>?_<;>first|exact hc.elim|conv=>whnf)|(refine kB ?_))
  all_goals first
   |exact Dk ⟨h1,h2,h3,by rw[← hzn,Int.natAbs_natCast];omega⟩
   |exact BU fun hv=>by have:=hv.2.2.2;rw[← hzn]at this;simp only[Int.natAbs_natCast]at this;omega
   |trace_state
 ·have hno:=VF_no1 h
  refine Af rfl rfl ?_
  (conv=>whnf);repeat' (first  |(refine kA ?_;conv=>whnf)|(refine Br.mk (fun hc=>?_) fun hc=>?_<;>first|exact hc.elim|conv=>whnf)|(refine kB ?_))
  all_goals first
   |exact BU hno
   |(exfalso;refine h ⟨by omega,by omega,?_⟩;unfold inR;omega)
   |trace_state
theorem need_intro {p t:Prop} (h1:p) (h2:t):need p t:=⟨h1,h2⟩
def wd (b:Bool) (m:Nat):AV:=.agg [.bool b,.int .u64 ((m / 18446744073709551616:Nat):Int),.int .u64 ((m % 18446744073709551616:Nat):Int)]
theorem wU {z:Int} {K:AV→Prop} (y:Int) (h:z % 18446744073709551616=y) (hk:K (.int .u64 y)):Ip .u64 z K:=by
 subst h
 refine Dz ?_ hk
 simp[IntKind.wrap,IntKind.bits,IntKind.signed]
theorem bv64 (n:Nat):(BitVec.ofInt 64 (n:Int)).toNat=n % 18446744073709551616:=by simp
theorem andE (n:Nat):IntKind.u64.wrap (BitVec.ofInt IntKind.u64.bits (n:Int) &&& BitVec.ofInt IntKind.u64.bits 4294967295).toNat=((n % 4294967296:Nat):Int):=by
 show IntKind.u64.wrap (BitVec.ofInt 64 (n:Int) &&& BitVec.ofInt 64 ((4294967295:Nat):Int)).toNat=_
 rw[BitVec.toNat_and,bv64,bv64]
 have:(n % 18446744073709551616) &&& (4294967295 % 18446744073709551616)=n % 4294967296:=by
  rw[show (4294967295 % 18446744073709551616:Nat)=2 ^ 32-1 by rfl,Nat.and_two_pow_sub_one_eq_mod]
  omega
 rw[this]
 simp[IntKind.wrap,IntKind.bits,IntKind.signed]
 omega
theorem or0 {a b:Nat} (ha:a<18446744073709551616) (hb:b<18446744073709551616):IntKind.u64.wrap (BitVec.ofInt IntKind.u64.bits (a:Int) ||| BitVec.ofInt IntKind.u64.bits (b:Int)).toNat=0↔a=0∧b=0:=by
 show IntKind.u64.wrap (BitVec.ofInt 64 (a:Int) ||| BitVec.ofInt 64 (b:Int)).toNat=0↔_
 have h:=(BitVec.ofInt 64 (a:Int) ||| BitVec.ofInt 64 (b:Int)).isLt
 have e:IntKind.u64.wrap (BitVec.ofInt 64 (a:Int) ||| BitVec.ofInt 64 (b:Int)).toNat=((BitVec.ofInt 64 (a:Int) ||| BitVec.ofInt 64 (b:Int)).toNat:Int):=by
  simp only[IntKind.wrap,IntKind.bits,IntKind.signed,Bool.false_and,Bool.false_eq_true,if_false]
  omega
 rw[e,BitVec.toNat_or,bv64,bv64,Nat.mod_eq_of_lt ha,Nat.mod_eq_of_lt hb]
 constructor
 ·intro h
  have h:a ||| b=0:=by omega
  exact Nat.or_eq_zero_iff.1 h
 ·rintro⟨rfl,rfl⟩;rfl
theorem shrW32 (n:Nat):((n:Int)).fdiv (2 ^ (min (Int.toNat 32) IntKind.u64.bits))=((n / 4294967296:Nat):Int):=by
 rw[show (2:Int) ^ (min (Int.toNat 32) IntKind.u64.bits)=4294967296 by rfl,Int.fdiv_eq_ediv_of_nonneg _ (by omega)]
 rfl
theorem mulN {a b:Nat} {A B:Nat} (ha:a≤A) (hb:b≤B) (h:A*B<18446744073709551616):((a:Int)*(b:Int)) % 18446744073709551616=((a*b:Nat):Int):=by
 have:a*b≤A*B:=Nat.mul_le_mul ha hb
 rw[Int.natCast_mul]
 have h2:((a*b:Nat):Int)<18446744073709551616:=by omega
 rw[← Int.natCast_mul]
 omega
theorem split64 (x0 x1 y0 y1:Nat):(x1*4294967296+x0)*(y1*4294967296+y0)=x1*y1*18446744073709551616+(x1*y0+x0*y1)*4294967296+x0*y0:=by
 rw[Nat.add_mul,Nat.mul_add,Nat.mul_add]
 have e1:x1*4294967296*(y1*4294967296)=x1*y1*18446744073709551616:=by
  rw[Nat.mul_mul_mul_comm]
 have e2:x1*4294967296*y0=x1*y0*4294967296:=by rw[Nat.mul_right_comm]
 have e3:x0*(y1*4294967296)=x0*y1*4294967296:=by rw[Nat.mul_assoc]
 rw[e1,e2,e3]
 omega
theorem mul64P {x y:Nat} (hx:x<2^60) (hy:y<2^60):Au (Ac tab) 179 [.int .u64 x,.int .u64 y] (· =.CO [.int .u64 ((x*y / 18446744073709551616:Nat):Int),.int .u64 ((x*y % 18446744073709551616:Nat):Int)]):=by
 obtain⟨x0,hx0⟩:∃x0,x % 4294967296=x0:=⟨_,rfl⟩
 obtain⟨x1,hx1⟩:∃x1,x / 4294967296=x1:=⟨_,rfl⟩
 obtain⟨y0,hy0⟩:∃y0,y % 4294967296=y0:=⟨_,rfl⟩
 obtain⟨y1,hy1⟩:∃y1,y / 4294967296=y1:=⟨_,rfl⟩
 have bx0:x0≤4294967295:=by omega
 have bx1:x1≤268435455:=by omega
 have by0:y0≤4294967295:=by omega
 have by1:y1≤268435455:=by omega
 have ex:=split64 x0 x1 y0 y1
 rw[show x1*4294967296+x0=x by omega,show y1*4294967296+y0=y by omega]at ex
 have p00:=Nat.mul_le_mul bx0 by0
 have p10:=Nat.mul_le_mul bx1 by0
 have p01:=Nat.mul_le_mul bx0 by1
 have p11:=Nat.mul_le_mul bx1 by1
 refine Af rfl rfl ?_
 conv=>whnf
 repeat (first|(refine need_intro (by first|rfl|omega) ?_;conv=>whnf))
 refine Bh ((andE x).trans (congrArg _ hx0)) ?_
 conv=>whnf
 repeat (first|(refine need_intro (by first|rfl|omega) ?_;conv=>whnf))
 refine Bh ((shrW32 x).trans (congrArg _ hx1)) ?_
 conv=>whnf
 repeat (first|(refine need_intro (by first|rfl|omega) ?_;conv=>whnf))
 refine Bh ((andE y).trans (congrArg _ hy0)) ?_
 conv=>whnf
 repeat (first|(refine need_intro (by first|rfl|omega) ?_;conv=>whnf))
 refine Bh ((shrW32 y).trans (congrArg _ hy1)) ?_
 conv=>whnf
 repeat (first|(refine need_intro (by first|rfl|omega) ?_;conv=>whnf))
 refine wU _ (mulN bx0 by0 (by decide)) ?_
 conv=>whnf
 repeat (first|(refine need_intro (by first|rfl|omega) ?_;conv=>whnf))
 refine wU _ (mulN bx1 by0 (by decide)) ?_
 conv=>whnf
 repeat (first|(refine need_intro (by first|rfl|omega) ?_;conv=>whnf))
 refine Bh (shrW32 _) ?_
 conv=>whnf
 repeat (first|(refine need_intro (by first|rfl|omega) ?_;conv=>whnf))
 refine wU ((x1*y0+x0*y0 / 4294967296:Nat):Int) (by omega) ?_
 conv=>whnf
 repeat (first|(refine need_intro (by first|rfl|omega) ?_;conv=>whnf))
 refine Bh (andE _) ?_
 conv=>whnf
 repeat (first|(refine need_intro (by first|rfl|omega) ?_;conv=>whnf))
 refine Bh (shrW32 _) ?_
 conv=>whnf
 repeat (first|(refine need_intro (by first|rfl|omega) ?_;conv=>whnf))
 refine wU _ (mulN bx0 by1 (by decide)) ?_
 conv=>whnf
 repeat (first|(refine need_intro (by first|rfl|omega) ?_;conv=>whnf))
 refine wU (((x1*y0+x0*y0 / 4294967296) % 4294967296+x0*y1:Nat):Int) (by omega) ?_
 conv=>whnf
 repeat (first|(refine need_intro (by first|rfl|omega) ?_;conv=>whnf))
 refine wU _ (mulN bx1 by1 (by decide)) ?_
 conv=>whnf
 repeat (first|(refine need_intro (by first|rfl|omega) ?_;conv=>whnf))
 refine wU ((x1*y1+(x1*y0+x0*y0 / 4294967296) / 4294967296:Nat):Int) (by omega) ?_
 conv=>whnf
 repeat (first|(refine need_intro (by first|rfl|omega) ?_;conv=>whnf))
 refine Bh (shrW32 _) ?_
 conv=>whnf
 repeat (first|(refine need_intro (by first|rfl|omega) ?_;conv=>whnf))
 refine wU ((x1*y1+(x1*y0+x0*y0 / 4294967296) / 4294967296+((x1*y0+x0*y0 / 4294967296) % 4294967296+x0*y1) / 4294967296:Nat):Int) (by omega) ?_
 conv=>whnf
 repeat (first|(refine need_intro (by first|rfl|omega) ?_;conv=>whnf))
 refine wU ((x*y % 18446744073709551616:Nat):Int) (by rw[← Int.natCast_mul];omega) ?_
 conv=>whnf
 rw[ex]
 repeat (refine Ai rfl ?_;conv=>whnf)
 have e1:∀z z':Nat,z=z'→∀w:AV,AV.CO [.int .u64 ((z:Nat):Int),w]=.CO [.int .u64 ((z':Nat):Int),w]:=fun z z' h w=>by rw[h]
 exact e1 _ _ (by omega) _
theorem inR_nat {n:Int} (h:inR n):n.natAbs≤1000000000000000:=by unfold inR at h;omega
theorem sizeP {n:Int} (h:inR n):Au (Ac tab) 180 [.int .i64 n] (· =.int .u64 (n.natAbs:Int)):=by
 unfold inR at h
 refine Af rfl rfl ?_
 (conv=>whnf);repeat' (first|(refine wU (n+18446744073709551616) (by omega) ?_;conv=>whnf)|(refine wU (n.natAbs:Int) (by omega) ?_;conv=>whnf)|(refine kA ?_;conv=>whnf)|(refine Br.mk (fun hc=>?_) fun hc=>?_<;>first|exact hc.elim|conv=>whnf)|(refine kB ?_))
 all_goals first|rfl
theorem wd_ok {b:Bool} {m:Nat} {x y:Int} {c:Bool} (h1:b=c) (h2:((m / 18446744073709551616:Nat):Int)=x) (h3:((m % 18446744073709551616:Nat):Int)=y):AV.agg [.bool c,.int .u64 x,.int .u64 y]=wd b m:=by
 subst h1 h2 h3;rfl
theorem productP {a b:Int} (ha:inR a) (hb:inR b):Au (Ac tab) 166 [.int .i64 a,.int .i64 b] (· =wd (decide (a<0) != decide (b<0)) (a.natAbs*b.natAbs)):=by
 have h1:=inR_nat ha
 have h2:=inR_nat hb
 have h3:=mul64P (x:=a.natAbs) (y:=b.natAbs) (by omega) (by omega)
 refine Af rfl rfl ?_
 (conv=>whnf);repeat' (first|((first|refine Aa (sizeP ha) ?_|refine Aa (sizeP hb) ?_|refine Aa h3 ?_);rintro _ rfl;conv=>whnf)|(refine kA ?_;conv=>whnf)|(refine Br.mk (fun hc=>?_) fun hc=>?_<;>first|exact hc.elim|conv=>whnf)|(refine kB ?_))
 all_goals first
  |exact wd_ok (by rw[decide_eq_true (show a<0 by omega),decide_eq_true (show b<0 by omega)];rfl) rfl rfl
  |exact wd_ok (by rw[decide_eq_true (show a<0 by omega),decide_eq_false (show ¬b<0 by omega)];rfl) rfl rfl
  |exact wd_ok (by rw[decide_eq_false (show ¬a<0 by omega),decide_eq_true (show b<0 by omega)];rfl) rfl rfl
  |exact wd_ok (by rw[decide_eq_false (show ¬a<0 by omega),decide_eq_false (show ¬b<0 by omega)];rfl) rfl rfl
theorem addP {x y c:Nat} (hc:c≤1):Au (Ac tab) 181 [.int .u64 x,.int .u64 y,.int .u64 c] (· =.CO [.int .u64 (((x+y+c) % 18446744073709551616:Nat):Int),.int .u64 (((x+y+c) / 18446744073709551616:Nat):Int)]):=by
 refine pureP_ext (sp:=addSpec) (v:=.CO [.int .u64 (((x+y+c) % 18446744073709551616:Nat):Int),.int .u64 (((x+y+c) / 18446744073709551616:Nat):Int)]) (s:=⟨[],0⟩) rfl ?_ rfl rfl
 show(if 0≤(x:Int)∧0≤(y:Int)∧0≤(c:Int)∧(c:Int)≤1 then _ else _)=_
 rw[if_pos ⟨by omega,by omega,by omega,by omega⟩]
 rfl
theorem subP {x y c:Nat} (hc:c≤1) (h:y+c≤x+18446744073709551616):Au (Ac tab) 183 [.int .u64 x,.int .u64 y,.int .u64 c] (· =.CO [.int .u64 (((x+18446744073709551616-y-c) % 18446744073709551616:Nat):Int),.int .u64 ((if x<y+c then 1 else 0:Nat):Int)]):=by
 refine pureP_ext (sp:=Oy) (v:=.CO [.int .u64 (((x+18446744073709551616-y-c) % 18446744073709551616:Nat):Int),.int .u64 ((if x<y+c then 1 else 0:Nat):Int)]) (s:=⟨[],0⟩) rfl ?_ rfl rfl
 show(if 0≤(x:Int)∧0≤(y:Int)∧0≤(c:Int)∧(c:Int)≤1∧(y:Int)+c≤x+m64 then _ else _)=_
 rw[if_pos ⟨by omega,by omega,by omega,by omega,by unfold m64;omega⟩]
 have e1:((x:Int)+m64-y-c) % m64=(((x+18446744073709551616-y-c) % 18446744073709551616:Nat):Int):=by
  unfold m64;omega
 have e2:(if (x:Int)<y+c then(1:Int)else 0)=((if x<y+c then 1 else 0:Nat):Int):=by
  split<;>split<;>omega
 rw[e1,e2]
theorem lessP {a b:Bool} {m n:Nat}:Au (Ac tab) 182 [wd a m,wd b n] (· =.bool (decide (m<n))):=by
 refine Af rfl rfl ?_
 (conv=>whnf);repeat' (first  |(refine kA ?_;conv=>whnf)|(refine Br.mk (fun hc=>?_) fun hc=>?_<;>first|exact hc.elim|conv=>whnf)|(refine kB ?_))
 all_goals first|exact Dk (by omega)|exact BU (by omega)
def addW (a:Bool) (m:Nat) (b:Bool) (n:Nat):AV:=if a=b then wd a (m+n)else if m<n then wd b (n-m)else wd a (m-n)
theorem plusP {a b:Bool} {m n:Nat} (hm:m<2^120) (hn:n<2^120):Au (Ac tab) 167 [wd a m,wd b n] (· =addW a m b n):=by
 have c1:=addP (x:=m % 18446744073709551616) (y:=n % 18446744073709551616) (c:=0) (by omega)
 have c2:=addP (x:=m / 18446744073709551616) (y:=n / 18446744073709551616) (c:=(m % 18446744073709551616+n % 18446744073709551616+0) / 18446744073709551616) (by omega)
 have d1:=subP (x:=m % 18446744073709551616) (y:=n % 18446744073709551616) (c:=0) (by omega) (by omega)
 have d2:=subP (x:=m / 18446744073709551616) (y:=n / 18446744073709551616) (c:=if m % 18446744073709551616<n % 18446744073709551616+0 then 1 else 0) (by split<;>omega) (by split<;>omega)
 have f1:=subP (x:=n % 18446744073709551616) (y:=m % 18446744073709551616) (c:=0) (by omega) (by omega)
 have f2:=subP (x:=n / 18446744073709551616) (y:=m / 18446744073709551616) (c:=if n % 18446744073709551616<m % 18446744073709551616+0 then 1 else 0) (by split<;>omega) (by split<;>omega)
 by_cases hab:a=b
 ·have e:addW a m b n=wd a (m+n):=if_pos hab
  rw[e]
  subst hab
  cases a
  all_goals
   refine Af rfl rfl ?_
   (conv=>whnf);repeat' (first|((first|refine Aa c1 ?_|refine Aa c2 ?_);rintro _ rfl;conv=>whnf)|(refine kA ?_;conv=>whnf)|(refine Br.mk (fun hc=>?_) fun hc=>?_<;>first|exact hc.elim|conv=>whnf)|(refine kB ?_))
   all_goals first|(show AV.agg [.bool _,.int .u64 ((_:Nat):Int),.int .u64 ((_:Nat):Int)]=wd _ _;exact wd_ok rfl (by omega) (by omega))
 by_cases hlt:m<n
 ·have e:addW a m b n=wd b (n-m):=by unfold addW;rw[if_neg hab,if_pos hlt]
  have hl:Au (Ac tab) 182 [wd a m,wd b n] (· =.bool true):=by
   have:=lessP (a:=a) (b:=b) (m:=m) (n:=n);rwa [decide_eq_true hlt]at this
  rw[e]
  cases a<;>cases b<;>(try exact absurd rfl hab)
  all_goals
   refine Af rfl rfl ?_
   (conv=>whnf);repeat' (first|((first|refine Aa hl ?_|refine Aa f1 ?_|refine Aa f2 ?_);rintro _ rfl;conv=>whnf)|(refine kA ?_;conv=>whnf)|(refine Br.mk (fun hc=>?_) fun hc=>?_<;>first|exact hc.elim|conv=>whnf)|(refine kB ?_))
   all_goals first|(show AV.agg [.bool _,.int .u64 ((_:Nat):Int),.int .u64 ((_:Nat):Int)]=wd _ _;exact wd_ok rfl (by split<;>omega) (by omega))
 ·have e:addW a m b n=wd a (m-n):=by unfold addW;rw[if_neg hab,if_neg hlt]
  have hl:Au (Ac tab) 182 [wd a m,wd b n] (· =.bool false):=by
   have:=lessP (a:=a) (b:=b) (m:=m) (n:=n);rwa [decide_eq_false hlt]at this
  rw[e]
  cases a<;>cases b<;>(try exact absurd rfl hab)
  all_goals
   refine Af rfl rfl ?_
   (conv=>whnf);repeat' (first|((first|refine Aa hl ?_|refine Aa d1 ?_|refine Aa d2 ?_);rintro _ rfl;conv=>whnf)|(refine kA ?_;conv=>whnf)|(refine Br.mk (fun hc=>?_) fun hc=>?_<;>first|exact hc.elim|conv=>whnf)|(refine kB ?_))
   all_goals first|(show AV.agg [.bool _,.int .u64 ((_:Nat):Int),.int .u64 ((_:Nat):Int)]=wd _ _;exact wd_ok rfl (by split<;>omega) (by omega))
def sgW (a:Bool) (m:Nat):Int:=if m=0 then 0 else if a=true then -1 else 1
theorem signP {a:Bool} {m:Nat} (hm:m<2^127):Au (Ac tab) 168 [wd a m] (· =.int .i64 (sgW a m)):=by
 obtain⟨z,hz,hz0⟩:∃z,IntKind.u64.wrap (BitVec.ofInt IntKind.u64.bits ((m / 18446744073709551616:Nat):Int) ||| BitVec.ofInt IntKind.u64.bits ((m % 18446744073709551616:Nat):Int)).toNat=z∧(z=0↔m=0):=⟨_,rfl,by
  rw[or0 (by omega) (by omega)];omega⟩
 refine Af rfl rfl ?_
 (conv=>whnf);repeat' (first|(refine Bh hz ?_;conv=>whnf)|(refine kA ?_;conv=>whnf)|(refine Br.mk (fun hc=>?_) fun hc=>?_<;>first|exact hc.elim|conv=>whnf)|(refine kB ?_))
 all_goals first
  |exact congrArg (AV.int .i64) (by unfold sgW;rw[if_pos (by omega)])
  |exact congrArg (AV.int .i64) (by unfold sgW;rw[if_neg (by omega),if_pos (by assumption)])
  |exact congrArg (AV.int .i64) (by unfold sgW;rw[if_neg (by omega)];simp_all)
def Dig (l:List Int):Prop:=l.length=14∧∀x∈l,0≤x∧x≤999
theorem Dig.set {l:List Int} (h:Dig l) {k:Nat} {y:Int} (hy:0≤y∧y≤999):Dig (l.set k y):=by
 refine⟨by rw[List.length_set];exact h.1,fun x hx=>?_⟩
 rcases List.mem_or_eq_of_mem_set hx with hx|rfl
 ·exact h.2 x hx
 ·exact hy
theorem mul_bound {d e:Int} (h1:0≤d) (h2:d≤999) (h3:0≤e) (h4:e≤999):0≤d*e∧d*e≤998001:=
 ⟨Int.mul_nonneg h1 h3,by
  have:=Int.mul_le_mul h2 h4 h3 (by omega:(0:Int)≤999)
  omega⟩
theorem tmE {c:Int} (h:0≤c):c.tmod 1000=c % 1000:=Int.tmod_eq_emod_of_nonneg h
theorem tdE {c:Int} (h:0≤c):c.tdiv 1000=c / 1000:=Int.tdiv_eq_ediv_of_nonneg h
def Left (j:Nat) (c:Int):Prop:=0≤c∧((j=0∧c<1000000000000000000)∨(j=1∧c<1000000000000000)∨(j=2∧c<1000000000000)∨(j=3∧c<1000000000)∨(j=4∧c<1000000)∨(j=5∧c<1000)∨(6≤j∧c=0))
def Carry (j:Nat) (y:Int):Prop:=0≤y∧((j≤6∧y≤999)∨(j=7∧y≤1)∨(j=8∧y=0))
theorem step_left {j:Nat} {c:Int} (h:Left j c):Left (j+1) (c.tdiv 1000):=by
 have e:=tdE h.1
 unfold Left at *;omega
theorem step_carry {j:Nat} {c y x d:Int} (h:Left j c) (hy:Carry j y) (hj:0<c∨0<y) (hx:0≤x∧x≤999∧(j=7→x=0)) (hd:0≤d∧d≤999):Carry (j+1) ((y+x+d*c.tmod 1000).tdiv 1000):=by
 have e1:=tmE h.1
 have hm:=h.1
 obtain⟨m1,m2⟩:=mul_bound hd.1 hd.2 (e:=c.tmod 1000) (by omega) (by omega)
 have hy0:=hy.1
 have e2:=tdE (c:=y+x+d*c.tmod 1000) (by omega)
 have hc:c.tmod 1000=0∨j≤5:=by unfold Left at h;omega
 rw[e2]
 rcases hc with h0|h0
 ·have hm0:d*c.tmod 1000=0:=by rw[h0];exact Int.mul_zero _
  rw[hm0]
  unfold Carry Left at *;omega
 ·unfold Carry Left at *;omega
abbrev isl (nn:Bool) (l:List Int):AV:=.sl nn (ints l)
theorem plus {x y:List Int} {na nb:Bool} (hx:Dig x) (hy:Dig y):Au (Ac tab) 138 [isl na x,isl nb y] (fun v=>∃nn l,v=isl nn l):=by
 have hxl:=hx.1
 have hyl:=hy.1
 refine Af rfl rfl ?_
 (conv=>whnf);repeat' (first|(refine kA ?_;conv=>whnf)|(refine Br.mk (fun hc=>?_) fun hc=>?_<;>first|exact hc.elim|conv=>whnf)  |(refine kB ?_))
 refine Ae (fun m env s=>∃(k:Nat) (c:Int) (l:List Int),m=14-k∧0≤c∧c≤1∧l.length=14∧env=[(0,isl na x),(1,isl nb y),(5,.own 0 0 0 (Int.toNat (Nat.cast x.length))),(6,.int .i64 c),(7,.int .i64 k)]∧s=⟨[.arr 0 1 true true (ints l)],1⟩) ?_ _ _ _ ⟨0,0,List.replicate x.length 0,rfl,by omega,by omega,by simp[hxl],rfl,rfl⟩
 rintro _ _ _ ⟨k,c,l,rfl,c0,c1,hl,rfl,rfl⟩
 refine⟨rfl,?_⟩
 have bx:∀h:k<x.length,0≤x[k]∧x[k]≤999:=fun h=>hx.2 _ (List.getElem_mem h)
 have bY:∀h:k<y.length,0≤y[k]∧y[k]≤999:=fun h=>hy.2 _ (List.getElem_mem h)
 have hq:∀(h:k<x.length) (h2:k<y.length),(c+x[k]+y[k]).tdiv 1000=(c+x[k]+y[k]) / 1000∧0≤x[k]∧x[k]≤999∧0≤y[k]∧y[k]≤999:=by
  intro h h2
  have:=bx h
  have:=bY h2
  exact⟨tdE (by omega),by omega⟩
 (conv=>whnf);repeat' (first|(refine kA ?_;conv=>whnf)|(refine Br.mk (fun hc=>?_) fun hc=>?_<;>first|exact hc.elim|conv=>whnf)|(have hwr:=hq (by omega) (by omega);apply Dz;(· exact wrap_i64 (by omega) (by omega));clear hwr;conv=>whnf)|(refine kB ?_))
 ·obtain⟨q1,q2⟩:=hq (by omega) (by omega)
  exact again.mk ⟨_,by omega,k+1,_,_,rfl,by omega,by omega,by rw[List.length_set];exact hl,rfl,rfl⟩
 ·refine⟨true,l,?_⟩
  rw[hxl]
  have:=@uI l
  rw[hl]at this
  exact congrArg (AV.sl true) this
theorem plusO {c0:Nat} {x y:List Int} (hx:Dig x) (hy:Dig y):AQ (Ac tab) 138 [.own 0 0 0 14,.own 1 1 0 14] ⟨[.arr 0 1 true true (ints x),.arr 1 1 true true (ints y)],c0⟩ fun out s'=>∃l:List Int,out=.ok (.own 2 c0 0 14)∧s'=⟨[.arr 0 1 true true (ints x),.arr 1 1 true true (ints y),.arr c0 1 true true (ints l)],c0+1⟩∧l.length=14:=by
 have hxl:=hx.1
 have hyl:=hy.1
 refine Ar rfl rfl ?_
 (conv=>whnf);repeat' (first|(refine kA ?_;conv=>whnf)|(refine Br.mk (fun hc=>?_) fun hc=>?_<;>first|exact hc.elim|conv=>whnf)  |(refine kB ?_))
 refine Ae (fun m env s=>∃(k:Nat) (c:Int) (l:List Int),m=14-k∧0≤c∧c≤1∧l.length=14∧env=[(0,.own 0 0 0 14),(1,.own 1 1 0 14),(5,.own 2 c0 0 14),(6,.int .i64 c),(7,.int .i64 k)]∧s=⟨[.arr 0 1 true true (ints x),.arr 1 1 true true (ints y),.arr c0 1 true true (ints l)],c0+1⟩) ?_ _ _ _ ⟨0,0,List.replicate 14 0,rfl,by omega,by omega,by simp,rfl,rfl⟩
 rintro _ _ _ ⟨k,c,l,rfl,c2,c1,hl,rfl,rfl⟩
 refine⟨rfl,?_⟩
 have bx:∀h:k<x.length,0≤x[k]∧x[k]≤999:=fun h=>hx.2 _ (List.getElem_mem h)
 have bY:∀h:k<y.length,0≤y[k]∧y[k]≤999:=fun h=>hy.2 _ (List.getElem_mem h)
 have hq:∀(h:k<x.length) (h2:k<y.length),(c+x[k]+y[k]).tdiv 1000=(c+x[k]+y[k]) / 1000∧0≤x[k]∧x[k]≤999∧0≤y[k]∧y[k]≤999:=by
  intro h h2
  have:=bx h
  have:=bY h2
  exact⟨tdE (by omega),by omega⟩
 (conv=>whnf);repeat' (first|(refine kA ?_;conv=>whnf)|(refine Br.mk (fun hc=>?_) fun hc=>?_<;>first|exact hc.elim|conv=>whnf)|(have hwr:=hq (by omega) (by omega);apply Dz;(· exact wrap_i64 (by omega) (by omega));clear hwr;conv=>whnf)|(refine kB ?_))
 ·obtain⟨q1,q2⟩:=hq (by omega) (by omega)
  exact again.mk ⟨_,by omega,k+1,_,_,rfl,by omega,by omega,by rw[List.length_set];exact hl,rfl,rfl⟩
 ·exact⟨l,rfl,rfl,hl⟩
theorem dig0:Dig (List.replicate 14 0):=⟨by simp,by intro x hx;have:=List.eq_of_mem_replicate hx;omega⟩
def sgn (n:Int):Int:=if n<0 then -1 else if 0<n then 1 else 0
theorem sign {n:Int}:Au (Ac tab) 92 [.int .i64 n] (· =.int .i64 (sgn n)):=by
 refine Af rfl rfl ?_
 (conv=>whnf);repeat' (first|(refine kA ?_;conv=>whnf)|(refine Br.mk (fun hc=>?_) fun hc=>?_<;>first|exact hc.elim|conv=>whnf)  |(refine kB ?_))
 all_goals unfold sgn;first|(rw [if_pos (by omega)];rfl)|(rw [if_neg (by omega),if_pos (by omega)];rfl)|(rw [if_neg (by omega),if_neg (by omega)];rfl)
theorem sgn_le (n:Int):-1≤sgn n∧sgn n≤1:=by unfold sgn;repeat' split;all_goals omega
def val:List Int→Int
 |[]=>0
 |x::l=>x+1000*val l
def pw:Nat→Int
 |0=>1
 |k+1=>1000*pw k
theorem val_set:∀{l:List Int} {k:Nat} {y:Int} (h:k<l.length),val (l.set k y)=val l+(y-l[k])*pw k
 |[],k,y,h=>by simp at h
 |x::l,0,y,h=>by
  show y+1000*val l=x+1000*val l+(y-x)*1
  omega
 |x::l,k+1,y,h=>by
  have h':k<l.length:=by simpa using h
  have ih:=val_set (l:=l) (k:=k) (y:=y) h'
  show x+1000*val (l.set k y)=x+1000*val l+(y-l[k])*(1000*pw k)
  rw[ih,←Int.mul_assoc,Int.mul_comm (y-l[k]) 1000,Int.mul_assoc]
  omega
theorem val_zero:∀n,val (List.replicate n 0)=0
 |0=>rfl
 |n+1=>by
  show 0+1000*val (List.replicate n 0)=0
  rw[val_zero n];rfl
theorem row_step {v x y dd c r y1 c1 m p:Int} (h1:r+1000*y1=y+x+dd*m) (h2:c=1000*c1+m):v+(r-x)*p+y1*(1000*p)+dd*c1*(1000*p)=v+y*p+dd*c*p:=by
 have e1:y1*(1000*p)=(1000*y1)*p:=by rw[← Int.mul_assoc,Int.mul_comm y1 1000]
 have e2:dd*c1*(1000*p)=(1000*(dd*c1))*p:=by rw[← Int.mul_assoc,Int.mul_comm (dd*c1) 1000]
 have e3:dd*c=1000*(dd*c1)+dd*m:=by rw[h2,Int.mul_add,←Int.mul_assoc,Int.mul_comm dd 1000,Int.mul_assoc]
 rw[e1,e2,e3]
 have e4:v+(r-x)*p+1000*y1*p+1000*(dd*c1)*p=v+((r-x)+1000*y1+1000*(dd*c1))*p:=by rw[Int.add_mul,Int.add_mul];omega
 have e5:v+y*p+(1000*(dd*c1)+dd*m)*p=v+(y+(1000*(dd*c1)+dd*m))*p:=by rw[Int.add_mul y];omega
 rw[e4,e5,show(r-x)+1000*y1+1000*(dd*c1)=y+(1000*(dd*c1)+dd*m) by omega]
theorem mul_step {v a b p m a1 v1:Int} (h:a=1000*a1+m) (hv:v1=v+m*b*p):v1+a1*b*(1000*p)=v+a*b*p:=by
 have e1:a1*b*(1000*p)=(1000*a1)*b*p:=by rw[← Int.mul_assoc,Int.mul_comm (a1*b) 1000,←Int.mul_assoc 1000 a1 b]
 rw[hv,e1,h,Int.add_mul,Int.add_mul]
 omega
end AI
end Go.Proofs.YthjeehjphekjmaaGreatDoor
