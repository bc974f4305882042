/- The order of values: the reference's walks. Graphs alike: the program's way and the reference's. The graph that an editor edits, in the store: nodes and edges with lists of their own. Looking up a key in nodes: slices.BinarySearchFunc, on memory that stays. Looking up a key in edges: slices.BinarySearchFunc, on memory that stays. Looking up a key in properties: slices.BinarySearchFunc, on memory that stays. -/
import Derived.Test.YthnehejdkajjhaaGreatDoorJMah
import Derived.Test.YthnehejdkajjhaaGreatDoorJMad
import Derived.Test.YthnehejdkajjhaaGreatDoorBMaa
set_option linter.unusedVariables false
set_option maxRecDepth 4000
namespace Go.Proofs.YthnehejdkajjhaaGreatDoor
namespace AI
section
open Go.Sort
theorem VR {a b:Int}:Ag (Ac tab) 156 [.int .i64 a,.int .i64 b] (· =.int .i64 (Dq a b)):=by
 refine Ad rfl rfl ?_
 (conv=>whnf);repeat' (first  |(refine kA ?_;conv=>whnf)|(refine Br.mk (fun hc=>?_) fun hc=>?_<;>first|exact hc.elim|conv=>whnf)|(refine kB ?_))
 all_goals exact congrArg (AV.int .i64) (by unfold Dq;repeat' split
                                            all_goals omega)
theorem Ano {x y:List UInt8}:Ag (Ac tab) 210 [.str x,.str y] (· =.int .i64 (cS x y)):=by
 refine Ad rfl rfl ?_
 (conv=>whnf);repeat' (first  |(refine kA ?_;conv=>whnf)|(refine Br.mk (fun hc=>?_) fun hc=>?_<;>first|exact hc.elim|conv=>whnf)|(refine kB ?_))
 all_goals first|exact Amj hc|exact Amk (by assumption) hc|exact Aml hc
theorem AdF {c:AV→AV→Int} {l l':List AV} {nn nn':Bool} (hl:l.length<2^63) (hl':l'.length<2^63) (hel:∀i (h:i<l.length) (h':i<l'.length),ElP 88 c l[i] l'[i]):
 Ag (Ac tab) 211 [.sl nn l,.sl nn' l'] (· =.int .i64 (Eu c l l')):=by
 refine Ad rfl rfl ?_
 (conv=>whnf);repeat' (first  |(refine kA ?_;conv=>whnf)|(refine Br.mk (fun hc=>?_) fun hc=>?_<;>first|exact hc.elim|conv=>whnf)|(refine kB ?_))
 refine Af (fun m env s=>∃i k:Nat,m=l.length-i∧i≤l.length∧i≤l'.length∧Eu c (l.drop i) (l'.drop i)=Eu c l l'∧env=[(0,.sl nn l),(1,.sl nn' l'),(5,.int .i64 i)]∧s=⟨[],k⟩) ?_ _ _ _ ⟨0,_,rfl,by omega,by omega,by simp,rfl,rfl⟩
 rintro _ _ _ ⟨i,k,rfl,hi,hj,hc0,rfl,rfl⟩
 refine⟨rfl,?_⟩
 have hfin:(¬ i<l.length∨¬i<l'.length)→Dq l.length l'.length=Eu c l l':=fun h=>by
  rw[← hc0]
  by_cases h1:i<l.length
  ·have e2:l'.drop i=[]:=List.drop_eq_nil_of_le (by omega)
   rw[List.drop_eq_getElem_cons h1,e2,Eu]
   unfold Dq;repeat' split
   all_goals omega
  ·have e1:l.drop i=[]:=List.drop_eq_nil_of_le (by omega)
   rw[e1]
   by_cases h2:i<l'.length
   ·rw[List.drop_eq_getElem_cons h2,Eu]
    unfold Dq;repeat' split
    all_goals omega
   ·have e2:l'.drop i=[]:=List.drop_eq_nil_of_le (by omega)
    rw[e2,Eu]
    unfold Dq;repeat' split
    all_goals omega
 have hin:Ag (Ac tab) 156 [.int .i64 l.length,.int .i64 l'.length] (· =.int .i64 (Dq l.length l'.length)):=VR
 by_cases hlt:i<l.length
 ·by_cases hly:i<l'.length
  ·rw[VT hlt hly]at hc0
   obtain⟨gx,gy,e1,e2,hp⟩:=hel i hlt hly
   have n1:nth l (Int.toNat (Nat.cast i))=some gx.av:=by rw[← e1];exact nRN hlt
   have n2:nth l' (Int.toNat (Nat.cast i))=some gy.av:=by rw[← e2];exact nRN hly
   generalize c l[i] l'[i]=z at*
   unfold Eh at hc0
   clear hfin hin
   (conv=>whnf);repeat' (first|(apply Au;(· exact n1);conv=>whnf)|(apply Au;(· exact n2);conv=>whnf)|(refine Aa hp ?_;rintro _ rfl;conv=>whnf)|(refine kA ?_;conv=>whnf)|(refine Br.mk (fun hc=>?_) fun hc=>?_<;>first|exact hc.elim|conv=>whnf)|(refine kB ?_))
   all_goals first
        |(rw [if_neg (by assumption)]at hc0;rw[← hc0];rfl)
        |(rw [if_pos (by assumption)]at hc0;exact again.mk ⟨_,by omega,i+1,_,rfl,by omega,by omega,hc0,rfl,rfl⟩)
        |(exfalso;omega)
  ·rw[hfin (.inr hly)]at hin
   (conv=>whnf);repeat' (first|(refine Aa hin ?_;rintro _ rfl;conv=>whnf)|(refine kA ?_;conv=>whnf)|(refine Br.mk (fun hc=>?_) fun hc=>?_<;>first|exact hc.elim|conv=>whnf)|(refine kB ?_))
   all_goals first|rfl|(exfalso;omega)
 ·rw[hfin (.inl hlt)]at hin
  (conv=>whnf);repeat' (first|(refine Aa hin ?_;rintro _ rfl;conv=>whnf)|(refine kA ?_;conv=>whnf)|(refine Br.mk (fun hc=>?_) fun hc=>?_<;>first|exact hc.elim|conv=>whnf)|(refine kB ?_))
  all_goals first|rfl|(exfalso;omega)
theorem AaH {a b:GV} {L:Int} (hL:Ag (Ac tab) 211 [.sl a.nn a.l,.sl b.nn b.l] (· =.int .i64 L)):
 Ag (Ac tab) 155 [a.av,b.av] (· =.int .i64 (Eh (Dq a.k b.k) (Eh (Dq a.n b.n) (Eh (Dq a.d b.d) (Eh (cS a.s b.s) L))))):=by
 have q1:Ag (Ac tab) 156 [.int .i64 a.k,.int .i64 b.k] (· =.int .i64 (Dq a.k b.k)):=VR
 have q2:Ag (Ac tab) 156 [.int .i64 a.n,.int .i64 b.n] (· =.int .i64 (Dq a.n b.n)):=VR
 have q3:Ag (Ac tab) 156 [.int .i64 a.d,.int .i64 b.d] (· =.int .i64 (Dq a.d b.d)):=VR
 have q4:=Ano (x:=a.s) (y:=b.s)
 generalize Dq a.k b.k=z1 at*
 generalize Dq a.n b.n=z2 at*
 generalize Dq a.d b.d=z3 at*
 generalize cS a.s b.s=z4 at*
 have e:∀x y:Int,x=y→AV.int .i64 x=.int .i64 y:=fun x y h=>by rw[h]
 refine Ad rfl rfl ?_
 (conv=>whnf);repeat' (first|((first|refine Aa q1 ?_|refine Aa q2 ?_|refine Aa q3 ?_|refine Aa q4 ?_|refine Aa hL ?_);rintro _ rfl;conv=>whnf)|(refine kA ?_;conv=>whnf)|(refine Br.mk (fun hc=>?_) fun hc=>?_<;>first|exact hc.elim|conv=>whnf)|(refine kB ?_))
 all_goals first
  |exact e _ _ (by rw[Acn (by assumption)])
  |exact e _ _ (by unfold Eh;repeat' split
                   all_goals omega)
theorem Q5 {a:GV} (h:VV 8 a):0≤a.k∧a.k≤8:=by
 by_cases h7:a.k=7
 ·omega
 ·by_cases h8:a.k=8
  ·omega
  ·rw[XO h7 h8]at h
   obtain⟨_,h⟩:=h
   omega
theorem Aj6 {k k':Int} (h:0≤k∧k≤8) (h':0≤k'∧k'≤8):Dq (VU k) (VU k')=Dq (EY k) (EY k'):=by
 have h1:k=0∨k=1∨k=2∨k=3∨k=4∨k=5∨k=6∨k=7∨k=8:=by omega
 have h2:k'=0∨k'=1∨k'=2∨k'=3∨k'=4∨k'=5∨k'=6∨k'=7∨k'=8:=by omega
 rcases h1 with rfl|rfl|rfl|rfl|rfl|rfl|rfl|rfl|rfl<;>rcases h2 with rfl|rfl|rfl|rfl|rfl|rfl|rfl|rfl|rfl<;>decide
theorem AgA {a:GV} (h:VV 8 a) (h2:¬EY a.k=2):a.d=0∧(a.k=4→a.n=0)∧(a.k≠4→a.s=[]):=by
 rw[AaI]at h2
 by_cases h7:a.k=7
 ·have:=(Ae5 h7).1 h
  exact⟨this.2.1,fun h=>by omega,fun _=>this.2.2.1⟩
 ·by_cases h8:a.k=8
  ·have:=(Aj7 (m:=7) h8).1 h
   exact⟨this.2.1,fun h=>by omega,fun _=>this.2.2.1⟩
  ·obtain⟨k1,k2⟩:=Aqv h h7 h8
   rw[XO h7 h8]at h
   obtain⟨_,h⟩:=h
   refine⟨?_,k1,k2⟩
   rcases h with h|h|h|h|h|h<;>first|exact h.2.2.1|exact h.2.2.2.1|(exfalso;omega)
set_option maxHeartbeats 1000000 in
theorem U8:∀(m:Nat) {a b:GV},a.ok→b.ok→dep m a→dep m b→Ag (Ac tab) 88 [a.av,b.av] (· =.int .i64 (EL m a b))
 |0,a,b,ha,hb,da,db=>absurd da id
 |m+1,a,b,ha,hb,da,db=>by
  unfold EL
  by_cases va:VV 8 a
  ·have p1:=vR ha va
   rw[if_pos va]
   by_cases vb:VV 8 b
   ·have p2:=vR hb vb
    rw[if_pos vb]
    have k1:=Tv (k:=a.k)
    have k2:=Tv (k:=b.k)
    have k3:Ag (Ac tab) 156 [.int .i64 (VU a.k),.int .i64 (VU b.k)] (· =.int .i64 (Dq (EY a.k) (EY b.k))):=by
     rw[← Aj6 (Q5 va) (Q5 vb)];exact VR
    unfold Tz
    by_cases h0:Dq (EY a.k) (EY b.k)=0
    ·rw[h0,Ou]
     rw[h0]at k3
     have he:=D6.1 h0
     by_cases h2:EY a.k=2
     ·rw[if_pos h2]
      have na:TA a:=⟨va,AaI.1 h2⟩
      have nb:TA b:=⟨vb,AaI.1 (by omega)⟩
      have q1:=nR1 ha na
      have q2:=nR1 hb nb
      have q3:=Aqw (Q7 na) (Q7 nb)
      unfold VW
      rw[U9 na,U9 nb]
      refine Ad rfl rfl ?_
      (conv=>whnf);repeat' (first|((first|refine Aa p1 ?_|refine Aa p2 ?_|refine Aa k1 ?_|refine Aa k2 ?_|refine Aa k3 ?_|refine Aa q1 ?_|refine Aa q2 ?_|refine Aa q3 ?_);rintro _ rfl;conv=>whnf)|(refine kA ?_;conv=>whnf)|(refine Br.mk (fun hc=>?_) fun hc=>?_<;>first|exact hc.elim|conv=>whnf)|(refine kB ?_))
      all_goals first|rfl|(exfalso;omega)
     ·rw[if_neg h2]
      have na:¬TA a:=fun h=>h2 (AaI.2 h.2)
      have nb:¬TA b:=fun h=>h2 (by rw[he];exact AaI.2 h.2)
      have q1:=nR0 ha na
      have q2:=nR0 hb nb
      have hkk:a.k=b.k:=by
        have:=Q5 va
        have:=Q5 vb
        rw[AaI]at h2
        unfold EY at he
        repeat' split at he
        all_goals omega
      obtain⟨f1,f2,f3⟩:=AgA va h2
      obtain⟨g1,g2,g3⟩:=AgA vb (by rw[← he];exact h2)
      have q3:=AaH (a:=a) (b:=b) (AdF (c:=fun x y=>Tz m (JO x) (JO y)) (nn:=a.nn) (nn':=b.nn) (okN ha) (okN hb) (fun i hi hi'=>by
        obtain⟨g,e1,g1,g2⟩:=LC da hi
        obtain⟨h,e2,h1,h2⟩:=LC db hi'
        refine⟨g,h,e1,e2,?_⟩
        rw[e1,e2]
        have:=U8 m g1 h1 g2 h2
        have e:EL m g h=Tz m g h:=by
         cases m with
         |zero=>exact absurd g2 id
         |succ m=>unfold EL;rw[if_pos (elemV va hi e1),if_pos (elemV vb hi' e2)]
        rw[e]at this
        exact this))
      have e:Eh (Dq a.k b.k) (Eh (Dq a.n b.n) (Eh (Dq a.d b.d) (Eh (cS a.s b.s) (Eu (fun x y=>Tz m (JO x) (JO y)) a.l b.l))))=Eh (cS a.s b.s) (Eh (Dq a.n b.n) (Eu (fun x y=>Tz m (JO x) (JO y)) a.l b.l)):=by
        rw[D6.2 hkk,Ou,f1,g1,D6.2 rfl,Ou]
        by_cases h4:a.k=4
        ·rw[f2 h4,g2 (by omega),D6.2 rfl,Ou,Ou]
        ·rw[f3 h4,g3 (by omega),Va.2 rfl,Ou,Ou]
      rw[e]at q3
      refine Ad rfl rfl ?_
      (conv=>whnf);repeat' (first|((first|refine Aa p1 ?_|refine Aa p2 ?_|refine Aa k1 ?_|refine Aa k2 ?_|refine Aa k3 ?_|refine Aa q1 ?_|refine Aa q2 ?_|refine Aa q3 ?_);rintro _ rfl;conv=>whnf)|(refine kA ?_;conv=>whnf)|(refine Br.mk (fun hc=>?_) fun hc=>?_<;>first|exact hc.elim|conv=>whnf)|(refine kB ?_))
      all_goals first|rfl|(exfalso;omega)
    ·rw[Acn h0]
     refine Ad rfl rfl ?_
     (conv=>whnf);repeat' (first|((first|refine Aa p1 ?_|refine Aa p2 ?_|refine Aa k1 ?_|refine Aa k2 ?_|refine Aa k3 ?_);rintro _ rfl;conv=>whnf)|(refine kA ?_;conv=>whnf)|(refine Br.mk (fun hc=>?_) fun hc=>?_<;>first|exact hc.elim|conv=>whnf)|(refine kB ?_))
     all_goals first|rfl|(exfalso;omega)
   ·have p2:=vRn hb vb
    rw[if_neg vb]
    refine Ad rfl rfl ?_
    (conv=>whnf);repeat' (first|((first|refine Aa p1 ?_|refine Aa p2 ?_|refine Aa Aqx ?_|refine Aa Amm ?_);rintro _ rfl;conv=>whnf)|(refine kA ?_;conv=>whnf)|(refine Br.mk (fun hc=>?_) fun hc=>?_<;>first|exact hc.elim|conv=>whnf)|(refine kB ?_))
    all_goals first|rfl|(exfalso;simp_all;done)
  ·have p1:=vRn ha va
   rw[if_neg va]
   by_cases vb:VV 8 b
   ·have p2:=vR hb vb
    rw[if_pos vb]
    refine Ad rfl rfl ?_
    (conv=>whnf);repeat' (first|((first|refine Aa p1 ?_|refine Aa p2 ?_|refine Aa Aqx ?_|refine Aa Amm ?_);rintro _ rfl;conv=>whnf)|(refine kA ?_;conv=>whnf)|(refine Br.mk (fun hc=>?_) fun hc=>?_<;>first|exact hc.elim|conv=>whnf)|(refine kB ?_))
    all_goals first|rfl|(exfalso;simp_all;done)
   ·have p2:=vRn hb vb
    rw[if_neg vb]
    have q3:=AaH (a:=a) (b:=b) (AdF (c:=fun x y=>EL m (JO x) (JO y)) (nn:=a.nn) (nn':=b.nn) (okN ha) (okN hb) (fun i hi hi'=>by
     obtain⟨g,e1,g1,g2⟩:=LC da hi
     obtain⟨h,e2,h1,h2⟩:=LC db hi'
     refine⟨g,h,e1,e2,?_⟩
     rw[e1,e2]
     exact U8 m g1 h1 g2 h2))
    refine Ad rfl rfl ?_
    (conv=>whnf);repeat' (first|((first|refine Aa p1 ?_|refine Aa p2 ?_|refine Aa q3 ?_);rintro _ rfl;conv=>whnf)|(refine kA ?_;conv=>whnf)|(refine Br.mk (fun hc=>?_) fun hc=>?_<;>first|exact hc.elim|conv=>whnf)|(refine kB ?_))
    all_goals first|rfl|(exfalso;simp_all;done)
end
def QI {α:Type} (R:α→α→Prop) (l m:List α):Prop:=l.length=m.length∧∀k (h:k<l.length) (h':k<m.length),R l[k] m[k]
noncomputable instance {α:Type} (R:α→α→Prop) (l m:List α):Decidable (QI R l m):=Classical.propDecidable _
section
variable {α:Type} {R:α→α→Prop} {l m:List α} {i:Nat}
theorem P5 (h:∀k (h:k<l.length) (h':k<m.length),k<i→R l[k] m[k]) (h1:i<l.length) (h2:i<m.length) (hi:R l[i] m[i]):∀k (h:k<l.length) (h':k<m.length),k<i+1→R l[k] m[k]:=fun k a b c=>by
 by_cases e:k=i
 ·subst e;exact hi
 ·exact h k a b (by omega)
theorem Vy (hl:l.length=m.length) (h:∀k (h:k<l.length) (h':k<m.length),k<i→R l[k] m[k]) (hi:l.length≤i):QI R l m:=⟨hl,fun k a b=>h k a b (by omega)⟩
theorem II (h1:i<l.length) (h2:i<m.length) (h:¬R l[i] m[i]):¬QI R l m:=fun x=>h (x.2 i h1 h2)
theorem Ajz (h:¬l.length=m.length):¬QI R l m:=fun x=>h x.1
theorem AeR {l m:List α}:QI Eq l m↔l=m:=⟨fun h=>List.ext_getElem h.1 h.2,fun h=>by subst h;exact⟨rfl,fun _ _ _=>rfl⟩⟩
end
def SP (x y:GP):Prop:=x.key=y.key∧EL 12 x.v y.v=0
def SN (x y:GN):Prop:=x.id=y.id∧x.labels=y.labels∧QI SP x.props y.props
def SE (x y:GE):Prop:=x.id=y.id∧x.fr=y.fr∧x.to=y.to∧x.ty=y.ty∧QI SP x.props y.props
def SG (a b:GG):Prop:=QI SN a.nodes b.nodes∧QI SE a.edges b.edges
noncomputable instance (x y:GP):Decidable (SP x y):=Classical.propDecidable _
noncomputable instance (x y:GN):Decidable (SN x y):=Classical.propDecidable _
noncomputable instance (x y:GE):Decidable (SE x y):=Classical.propDecidable _
noncomputable instance (x y:GG):Decidable (SG x y):=Classical.propDecidable _
def Ld (v:GV):Prop:=v.ok∧GY 12 v.av
def AbD (l:List GP):Prop:=l.length≤4000∧∀p∈l,Ld p.v
def AmW (n:GN):Prop:=n.labels.length≤4000∧AbD n.props
def RX (g:GG):Prop:=g.nodes.length≤4000∧g.edges.length≤4000∧(∀ n∈g.nodes,AmW n)∧∀e∈g.edges,AbD e.props
theorem ZF {g:GG} (hg:g.ok) (hs:SmG g 24 30):RX g:=by
 have h1:=hs.1
 have h2:=hs.2.1
 refine⟨by omega,by omega,fun n hn=>⟨by have:=(hs.2.2.1 n hn).1;omega,by have:=(hs.2.2.1 n hn).2.2.1;omega,fun p hp=>⟨((hg.2.2.1 n hn).2.2.2.2.2.2 p hp).2,((hs.2.2.1 n hn).2.2.2 p hp).2⟩⟩,fun e he=>⟨by have:=(hs.2.2.2 e he).2.1;omega,fun p hp=>⟨((hg.2.2.2.2.2.1 e he).2.2.2.2.2.2 p hp).2,((hs.2.2.2 e he).2.2 p hp).2⟩⟩⟩
theorem Arf {a b:GV} (ha:Ld a) (hb:Ld b):Ag (Ac tab) 88 [a.av,b.av] (· =.int .i64 (EL 12 a b)):=U8 12 ha.1 hb.1 (Ku ha.2) (Ku hb.2)
theorem Atg {l m:List (List UInt8)} {nl nm:Bool} (hl:l.length≤4000) (hm:m.length≤4000):Ag (Ac tab) 151 [.sl nl (vs .str l),.sl nm (vs .str m)] (· =.bool (decide (l=m))):=by
 by_cases hlen:l.length=m.length
 case neg=>
  refine Ad rfl rfl ?_
  (conv=>whnf);repeat' (first  |(refine kA ?_;conv=>whnf)|(refine Br.mk (fun hc=>?_) fun hc=>?_<;>first|exact hc.elim|conv=>whnf)|(refine kB ?_))
  all_goals first|exact Ar (fun h=>hlen (congrArg List.length h))|(exfalso;omega)
 refine Ad rfl rfl ?_
 (conv=>whnf);repeat' (first  |(refine kA ?_;conv=>whnf)|(refine Br.mk (fun hc=>?_) fun hc=>?_<;>first|exact hc.elim|conv=>whnf)|(refine kB ?_))
 all_goals first|(exfalso;omega)|skip
 refine Af (fun z env s=>∃(i:Nat),z=l.length-i∧(∀ k (h:k<l.length) (h':k<m.length),k<i→l[k]=m[k])∧env=[(0,.sl nl (vs .str l)),(1,.sl nm (vs .str m)),(5,.int .i64 i)]∧s=⟨[],0⟩) ?_ _ _ _ ⟨0,rfl,fun _ _ _ h=>absurd h (by omega),by first|rfl|(rw [← lV (f:=AV.str) l];rfl),rfl⟩
 rintro _ _ _ ⟨i,rfl,hx,rfl,rfl⟩
 refine⟨rfl,?_⟩
 by_cases hlt:i<l.length
 ·by_cases he:l[i]=m[i]
  ·(conv=>whnf);repeat' (first  |(refine kA ?_;conv=>whnf)|(refine Br.mk (fun hc=>?_) fun hc=>?_<;>first|exact hc.elim|conv=>whnf)|(refine kB ?_))
   all_goals first|exact again.mk ⟨_,by omega,i+1,rfl,P5 (R:=Eq) hx hlt (by omega) he,rfl,rfl⟩|(exfalso;omega)|exact absurd he (by assumption)|(exfalso;simp_all;done)
  ·(conv=>whnf);repeat' (first  |(refine kA ?_;conv=>whnf)|(refine Br.mk (fun hc=>?_) fun hc=>?_<;>first|exact hc.elim|conv=>whnf)|(refine kB ?_))
   all_goals first|exact Ar (fun h=>II (R:=Eq) hlt (by omega) he (AeR.2 h))|(exfalso;omega)|exact absurd (by assumption) he|(exfalso;simp_all;done)
 ·(conv=>whnf);repeat' (first  |(refine kA ?_;conv=>whnf)|(refine Br.mk (fun hc=>?_) fun hc=>?_<;>first|exact hc.elim|conv=>whnf)|(refine kB ?_))
  all_goals first|exact Bh (AeR.1 (Vy (R:=Eq) hlen hx (by omega)))|(exfalso;omega)
theorem AjA {l m:List GP} {nl nm:Bool} (hl:AbD l) (hm:AbD m):Ag (Ac tab) 152 [.sl nl (vs GP.av l),.sl nm (vs GP.av m)] (· =.bool (decide (QI SP l m))):=by
 have hl1:=hl.1
 have hm1:=hm.1
 by_cases hlen:l.length=m.length
 case neg=>
  refine Ad rfl rfl ?_
  (conv=>whnf);repeat' (first  |(refine kA ?_;conv=>whnf)|(refine Br.mk (fun hc=>?_) fun hc=>?_<;>first|exact hc.elim|conv=>whnf)|(refine kB ?_))
  all_goals first|exact Ar (Ajz hlen)|(exfalso;omega)
 refine Ad rfl rfl ?_
 (conv=>whnf);repeat' (first  |(refine kA ?_;conv=>whnf)|(refine Br.mk (fun hc=>?_) fun hc=>?_<;>first|exact hc.elim|conv=>whnf)|(refine kB ?_))
 all_goals first|(exfalso;omega)|skip
 refine Af (fun z env s=>∃(i:Nat),z=l.length-i∧(∀ k (h:k<l.length) (h':k<m.length),k<i→SP l[k] m[k])∧env=[(0,.sl nl (vs GP.av l)),(1,.sl nm (vs GP.av m)),(5,.int .i64 i)]∧s=⟨[],0⟩) ?_ _ _ _ ⟨0,rfl,fun _ _ _ h=>absurd h (by omega),rfl,rfl⟩
 rintro _ _ _ ⟨i,rfl,hx,rfl,rfl⟩
 refine⟨rfl,?_⟩
 by_cases hlt:i<l.length
 ·have ho:=Arf (hl.2 _ (List.getElem_mem hlt)) (hm.2 _ (List.getElem_mem (show i<m.length by omega)))
  by_cases hk:l[i].key=m[i].key
  ·by_cases he:EL 12 l[i].v m[i].v=0
   ·(conv=>whnf);repeat' (first|(refine Aa ho ?_;rintro _ rfl;conv=>whnf)|(refine kA ?_;conv=>whnf)|(refine Br.mk (fun hc=>?_) fun hc=>?_<;>first|exact hc.elim|conv=>whnf)|(refine kB ?_))
    all_goals first|exact again.mk ⟨_,by omega,i+1,rfl,P5 hx hlt (by omega) ⟨hk,he⟩,rfl,rfl⟩|(exfalso;omega)|exact absurd hk (by assumption)|(exfalso;simp_all;done)
   ·(conv=>whnf);repeat' (first|(refine Aa ho ?_;rintro _ rfl;conv=>whnf)|(refine kA ?_;conv=>whnf)|(refine Br.mk (fun hc=>?_) fun hc=>?_<;>first|exact hc.elim|conv=>whnf)|(refine kB ?_))
    all_goals first|exact Ar (II hlt (by omega) fun h=>he h.2)|(exfalso;omega)|exact absurd hk (by assumption)|(exfalso;simp_all;done)
  ·(conv=>whnf);repeat' (first|(refine Aa ho ?_;rintro _ rfl;conv=>whnf)|(refine kA ?_;conv=>whnf)|(refine Br.mk (fun hc=>?_) fun hc=>?_<;>first|exact hc.elim|conv=>whnf)|(refine kB ?_))
   all_goals first|exact Ar (II hlt (by omega) fun h=>hk h.1)|(exfalso;omega)|exact absurd (by assumption) hk|(exfalso;simp_all;done)
 ·(conv=>whnf);repeat' (first  |(refine kA ?_;conv=>whnf)|(refine Br.mk (fun hc=>?_) fun hc=>?_<;>first|exact hc.elim|conv=>whnf)|(refine kB ?_))
  all_goals first|exact Bh (Vy hlen hx (by omega))|(exfalso;omega)
theorem Al7 {a b:GG} (ha:RX a) (hb:RX b):Ag (Ac tab) 87 [a.av,b.av] (· =.bool (decide (SG a b))):=by
 have a1:=ha.1
 have a2:=ha.2.1
 have b1:=hb.1
 have b2:=hb.2.1
 by_cases hlen:a.nodes.length=b.nodes.length∧a.edges.length=b.edges.length
 case neg=>
  refine Ad rfl rfl ?_
  (conv=>whnf);repeat' (first  |(refine kA ?_;conv=>whnf)|(refine Br.mk (fun hc=>?_) fun hc=>?_<;>first|exact hc.elim|conv=>whnf)|(refine kB ?_))
  all_goals first|exact Ar (fun h=>hlen ⟨h.1.1,h.2.1⟩)|(exfalso;omega)
 obtain⟨hl1,hl2⟩:=hlen
 refine Ad rfl rfl ?_
 (conv=>whnf);repeat' (first  |(refine kA ?_;conv=>whnf)|(refine Br.mk (fun hc=>?_) fun hc=>?_<;>first|exact hc.elim|conv=>whnf)|(refine kB ?_))
 all_goals first|(exfalso;omega)|skip
 refine Af (fun z env s=>∃(i c:Nat),z=a.nodes.length-i∧(∀ k (h:k<a.nodes.length) (h':k<b.nodes.length),k<i→SN a.nodes[k] b.nodes[k])∧env=[(2,.ref 0 0 0 0),(3,.ref 1 1 0 0),(5,.int .i64 i)]∧s=⟨[.arr 0 4 true true [a.av],.arr 1 4 true true [b.av]],c⟩) ?_ _ _ _ ⟨0,_,rfl,fun _ _ _ h=>absurd h (by omega),rfl,rfl⟩
 rintro _ _ _ ⟨i,c,rfl,hx,rfl,rfl⟩
 refine⟨rfl,?_⟩
 by_cases hlt:i<a.nodes.length
 ·have f1:=ha.2.2.1 _ (List.getElem_mem hlt)
  have f2:=hb.2.2.1 _ (List.getElem_mem (show i<b.nodes.length by omega))
  have c1:=Atg (nl:=(a.nodes[i]).ln) (nm:=(b.nodes[i]'(by omega)).ln) f1.1 f2.1
  have c2:=AjA (nl:=(a.nodes[i]).pn) (nm:=(b.nodes[i]'(by omega)).pn) f1.2 f2.2
  by_cases e1:(a.nodes[i]).labels=(b.nodes[i]'(by omega)).labels
  ·rw[decide_eq_true e1]at c1
   by_cases e2:QI SP (a.nodes[i]).props (b.nodes[i]'(by omega)).props
   ·rw[decide_eq_true e2]at c2
    (conv=>whnf);repeat' (first|((first|refine Aa c1 ?_|refine Aa c2 ?_);rintro _ rfl;conv=>whnf)|(refine kA ?_;conv=>whnf)|(refine Br.mk (fun hc=>?_) fun hc=>?_<;>first|exact hc.elim|conv=>whnf)|(refine kB ?_))
    all_goals first|exact again.mk ⟨_,by omega,i+1,_,rfl,P5 hx hlt (by omega) ⟨by first|assumption|omega,e1,e2⟩,rfl,rfl⟩|exact Ar (fun h=>II hlt (by omega) (fun x=>absurd x.1 (by assumption)) h.1)|(exfalso;omega)
   ·rw[decide_eq_false e2]at c2
    (conv=>whnf);repeat' (first|((first|refine Aa c1 ?_|refine Aa c2 ?_);rintro _ rfl;conv=>whnf)|(refine kA ?_;conv=>whnf)|(refine Br.mk (fun hc=>?_) fun hc=>?_<;>first|exact hc.elim|conv=>whnf)|(refine kB ?_))
    all_goals first|exact Ar (fun h=>II hlt (by omega) (fun x=>e2 x.2.2) h.1)|(exfalso;omega)
  ·rw[decide_eq_false e1]at c1
   (conv=>whnf);repeat' (first|((first|refine Aa c1 ?_|refine Aa c2 ?_);rintro _ rfl;conv=>whnf)|(refine kA ?_;conv=>whnf)|(refine Br.mk (fun hc=>?_) fun hc=>?_<;>first|exact hc.elim|conv=>whnf)|(refine kB ?_))
   all_goals first|exact Ar (fun h=>II hlt (by omega) (fun x=>e1 x.2.1) h.1)|(exfalso;omega)
 have hN:=Vy hl1 hx (by omega)
 clear hx
 (conv=>whnf);repeat' (first  |(refine kA ?_;conv=>whnf)|(refine Br.mk (fun hc=>?_) fun hc=>?_<;>first|exact hc.elim|conv=>whnf)|(refine kB ?_))
 all_goals first|(exfalso;omega)|skip
 refine Af (fun z env s=>∃(i c:Nat),z=a.edges.length-i∧(∀ k (h:k<a.edges.length) (h':k<b.edges.length),k<i→SE a.edges[k] b.edges[k])∧env=[(2,.ref 0 0 0 0),(3,.ref 1 1 0 0),(8,.int .i64 i)]∧s=⟨[.arr 0 4 true true [a.av],.arr 1 4 true true [b.av]],c⟩) ?_ _ _ _ ⟨0,_,rfl,fun _ _ _ h=>absurd h (by omega),rfl,rfl⟩
 rintro _ _ _ ⟨i,c,rfl,hx,rfl,rfl⟩
 refine⟨rfl,?_⟩
 by_cases hlt:i<a.edges.length
 ·have f1:=ha.2.2.2 _ (List.getElem_mem hlt)
  have f2:=hb.2.2.2 _ (List.getElem_mem (show i<b.edges.length by omega))
  have c2:=AjA (nl:=(a.edges[i]).pn) (nm:=(b.edges[i]'(by omega)).pn) f1 f2
  by_cases e2:QI SP (a.edges[i]).props (b.edges[i]'(by omega)).props
  ·rw[decide_eq_true e2]at c2
   (conv=>whnf);repeat' (first|(refine Aa c2 ?_;rintro _ rfl;conv=>whnf)|(refine kA ?_;conv=>whnf)|(refine Br.mk (fun hc=>?_) fun hc=>?_<;>first|exact hc.elim|conv=>whnf)|(refine kB ?_))
   all_goals first|exact again.mk ⟨_,by omega,i+1,_,rfl,P5 hx hlt (by omega) ⟨by first|assumption|omega,by first|assumption|omega,by first|assumption|omega,by first|assumption|exact Decidable.not_not.1 (by assumption),e2⟩,rfl,rfl⟩|exact Ar (fun h=>II hlt (by omega) (fun x=>absurd x.1 (by assumption)) h.2)|exact Ar (fun h=>II hlt (by omega) (fun x=>absurd x.2.1 (by assumption)) h.2)|exact Ar (fun h=>II hlt (by omega) (fun x=>absurd x.2.2.1 (by assumption)) h.2)|exact Ar (fun h=>II hlt (by omega) (fun x=>absurd x.2.2.2.1 (by assumption)) h.2)|(exfalso;omega)
  ·rw[decide_eq_false e2]at c2
   (conv=>whnf);repeat' (first|(refine Aa c2 ?_;rintro _ rfl;conv=>whnf)|(refine kA ?_;conv=>whnf)|(refine Br.mk (fun hc=>?_) fun hc=>?_<;>first|exact hc.elim|conv=>whnf)|(refine kB ?_))
   all_goals first|exact Ar (fun h=>II hlt (by omega) (fun x=>e2 x.2.2.2.2) h.2)|(exfalso;omega)
 ·(conv=>whnf);repeat' (first  |(refine kA ?_;conv=>whnf)|(refine Br.mk (fun hc=>?_) fun hc=>?_<;>first|exact hc.elim|conv=>whnf)|(refine kB ?_))
  all_goals first|exact Bh ⟨hN,Vy hl2 hx (by omega)⟩|(exfalso;omega)
theorem Ahg {a b:GG} (ha:RX a) (hb:RX b):Ag (Ac tab) 13 [a.av,b.av] (· =.bool (decide (SG a b))):=by
 have hP:Ag (Ac tab) 87 [GG.av {a with BF:=b.BF,BA:=b.BA},b.av] (· =.bool (decide (SG a b))):=Al7 (a:={a with BF:=b.BF,BA:=b.BA}) ha hb
 have hS:Ag (Ac tab) 38 [GG.av {a with BF:=b.BF,BA:=b.BA},b.av] (· =.bool (decide (SG a b))):=by
  refine Ad rfl rfl ?_
  (conv=>whnf);repeat' (first|(refine Aa hP ?_;rintro _ rfl;conv=>whnf)|(refine kA ?_;conv=>whnf)|(refine Br.mk (fun hc=>?_) fun hc=>?_<;>first|exact hc.elim|conv=>whnf)|(refine kB ?_))
  all_goals first|(rw [hc];rfl)|exact absurd rfl (by assumption)|(exfalso;omega)
 refine Ad rfl rfl ?_
 (conv=>whnf);repeat' (first|(refine Aa hS ?_;rintro _ rfl;conv=>whnf)|(refine kA ?_;conv=>whnf)|(refine Br.mk (fun hc=>?_) fun hc=>?_<;>first|exact hc.elim|conv=>whnf)|(refine kB ?_))
 all_goals first|(rw [hc];rfl)
theorem RD {α:Type} {l r:List α} {i:Nat} (h:i<l.length):nth (l++r) i=nth l i:=by
 rw[Bl,Bl,List.getElem?_append_left h]
theorem OI {α:Type} {l:List α} {x:α}:nth (l++[x]) l.length=some x:=by
 rw[Bl,List.getElem?_append_right (Nat.le_refl _)];simp
theorem Iw {α:Type} {l:List α} {i:Nat} {x y:α} (h:nth l i=some y):nth (l.set i x) i=some x:=by
 rw[Bl,List.getElem?_set_self (Dc h)]
theorem QB {α:Type} {l:List α} {i j:Nat} {x:α} (h:i≠j):nth (l.set i x) j=nth l j:=by
 rw[Bl,Bl,List.getElem?_set_ne h]
def Rd (σ:List Obj) (D:Nat) (x y:AV):Prop:=∀m,D≤m→snap σ m x=some y
def MJ (σ:List Obj) (D:Nat) (xs ys:List AV):Prop:=∀m,D≤m→EW σ m xs=some ys
theorem Rd.mono {σ:List Obj} {D D':Nat} {x y:AV} (h:Rd σ D x y) (hd:D≤D'):Rd σ D' x y:=fun m hm=>h m (by omega)
theorem MJ.mono {σ:List Obj} {D D':Nat} {x y:List AV} (h:MJ σ D x y) (hd:D≤D'):MJ σ D' x y:=fun m hm=>h m (by omega)
theorem MJ.nil {σ:List Obj}:MJ σ 0 [] []:=fun m _=>by cases m<;>rfl
theorem MJ.cons {σ:List Obj} {D:Nat} {x y:AV} {xs ys:List AV} (h:Rd σ D x y) (k:MJ σ D xs ys):MJ σ (D+1) (x::xs) (y::ys):=fun m hm=>by
 obtain⟨m,rfl⟩:∃m',m=m'+1:=⟨m-1,by omega⟩
 simp only[EW,h m (by omega),k m (by omega)]
theorem MJ.map {α:Type} {σ:List Obj} {D:Nat} {f g:α→AV}:∀{l:List α},(∀ e∈l,Rd σ D (f e) (g e))→MJ σ (D+l.length) (vs f l) (vs g l)
 |[],_=>MJ.nil.mono (by omega)
 |e::l,h=>(MJ.cons ((h e (by simp)).mono (D':=D+l.length) (by omega)) (MJ.map fun x hx=>h x (by simp[hx]))).mono (by simp;omega)
theorem Rd.agg {σ:List Obj} {D:Nat} {xs ys:List AV} (h:MJ σ D xs ys):Rd σ (D+1) (.agg xs) (.agg ys):=fun m hm=>by
 obtain⟨m,rfl⟩:∃m',m=m'+1:=⟨m-1,by omega⟩
 simp only[snap,h m (by omega),Option.map_some]
theorem Rd.int {σ:List Obj} {k:IntKind} {z:Int}:Rd σ 1 (.int k z) (.int k z):=fun m hm=>by
 obtain⟨m,rfl⟩:∃m',m=m'+1:=⟨m-1,by omega⟩
 rfl
theorem Rd.str {σ:List Obj} {z:List UInt8}:Rd σ 1 (.str z) (.str z):=fun m hm=>by
 obtain⟨m,rfl⟩:∃m',m=m'+1:=⟨m-1,by omega⟩
 rfl
def Hd {α:Type} (f:α→AV) (es:Nat) (σ:List Obj) (v:AV) (b:Bool) (l:List α) (c:Bool):Prop:=
 (b=false∧l=[]∧(v=.sl false []∨∃o g es',v=.own o g 0 0∧nth σ o=some (.arr g es' false true [])))∨
 (b=true∧∃o g,v=.own o g 0 l.length∧nth σ o=some (.arr g es true c (vs f l)))
theorem Hd.lt {α:Type} {f:α→AV} {es:Nat} {σ:List Obj} {v:AV} {b c:Bool} {l:List α} (h:Hd f es σ v b l c):∀o∈v.obj,o<σ.length:=by
 intro o ho
 rcases h with⟨_,_,rfl|⟨o',g,es',rfl,h⟩⟩|⟨_,o',g,rfl,h⟩
 ·simp[AV.obj]at ho
 ·simp only[AV.obj,List.mem_singleton]at ho;subst ho;exact Dc h
 ·simp only[AV.obj,List.mem_singleton]at ho;subst ho;exact Dc h
theorem Hd.obj {α:Type} {f:α→AV} {es:Nat} {σ:List Obj} {v:AV} {b c:Bool} {l:List α} (h:Hd f es σ v b l c) {o:Nat} (ho:o∈v.obj):∃g es' nn c' xs,nth σ o=some (.arr g es' nn c' xs)∧(nn=true→es'=es):=by
 rcases h with⟨_,_,rfl|⟨o',g,es',rfl,h⟩⟩|⟨_,o',g,rfl,h⟩
 ·simp[AV.obj]at ho
 ·simp only[AV.obj,List.mem_singleton]at ho;subst ho;exact⟨_,_,_,_,_,h,by simp⟩
 ·simp only[AV.obj,List.mem_singleton]at ho;subst ho;exact⟨_,_,_,_,_,h,fun _=>rfl⟩
theorem Hd.keep {α:Type} {f:α→AV} {es:Nat} {σ σ':List Obj} {v:AV} {b c:Bool} {l:List α} (h:Hd f es σ v b l c) (hk:∀o∈v.obj,nth σ' o=nth σ o):Hd f es σ' v b l c:=by
 rcases h with⟨h1,h2,rfl|⟨o',g,es',rfl,h⟩⟩|⟨h1,o',g,rfl,h⟩
 ·exact .inl ⟨h1,h2,.inl rfl⟩
 ·exact .inl ⟨h1,h2,.inr ⟨o',g,es',rfl,by rw[hk o' (by simp[AV.obj]),h]⟩⟩
 ·exact .inr ⟨h1,o',g,rfl,by rw[hk o' (by simp[AV.obj]),h]⟩
theorem Hd.sn {α:Type} {f:α→AV} {es:Nat} {σ:List Obj} {v:AV} {b:Bool} {l:List α} (h:Hd f es σ v b l true):Rd σ 1 v (.sl b (vs f l)):=fun m hm=>by
 obtain⟨m,rfl⟩:∃m',m=m'+1:=⟨m-1,by omega⟩
 rcases h with⟨rfl,rfl,rfl|⟨o',g,es',rfl,h⟩⟩|⟨rfl,o',g,rfl,h⟩
 ·rfl
 ·simp[snap,h,sub,vs]
 ·have:sub (vs f l) 0 l.length=vs f l:=uV
  simp[snap,h,this]
theorem Hd.one {α:Type} {f:α→AV} {es:Nat} {σ:List Obj} {v:AV} {b c:Bool} {l:List α} (h:Hd f es σ v b l c):v.cells.length=1∧v.storable=true:=by
 rcases h with⟨_,_,rfl|⟨o',g,es',rfl,h⟩⟩|⟨_,o',g,rfl,h⟩<;>exact⟨rfl,rfl⟩
theorem Hd.bool {α:Type} {f:α→AV} {es:Nat} {σ:List Obj} {v:AV} {b c:Bool} {l:List α} (h:Hd f es σ v b l c):b=false→l=[]:=by
 rcases h with⟨_,h,_⟩|⟨h,_⟩
 ·exact fun _=>h
 ·intro h';rw[h']at h;cases h
theorem Hd.closed {α:Type} {f:α→AV} {es:Nat} {σ:List Obj} {v:AV} {b c:Bool} {l:List α} (h:Hd f es σ v b l c) (hc:v.closed=true):v=.sl false []∧b=false∧l=[]:=by
 rcases h with⟨h1,h2,rfl|⟨o',g,es',rfl,h⟩⟩|⟨_,o',g,rfl,h⟩
 ·exact⟨rfl,h1,h2⟩
 ·cases hc
 ·cases hc
structure EN where
 n:GN
 lv:AV
 pv:AV
def EN.av (e:EN):AV:=.agg [.int .i64 e.n.id,e.lv,e.pv]
def EN.objs (e:EN):List Nat:=e.lv.obj++e.pv.obj
def EN.Ok (σ:List Obj) (e:EN):Prop:=Hd .str 1 σ e.lv e.n.ln e.n.labels true∧Hd GP.av 6 σ e.pv e.n.pn e.n.props true
structure EE where
 e:GE
 pv:AV
def EE.av (e:EE):AV:=.agg [.int .i64 e.e.id,.int .i64 e.e.fr,.int .i64 e.e.to,.str e.e.ty,e.pv]
def EE.objs (e:EE):List Nat:=e.pv.obj
def EE.Ok (σ:List Obj) (e:EE):Prop:=Hd GP.av 6 σ e.pv e.e.pn e.e.props true
def Cj (N:List EN) (E:List EE):List Nat:=N.flatMap EN.objs++E.flatMap EE.objs
structure Ed (σ:List Obj) (d gd:Nat) (vN vE:AV) (nb eb:Bool) (N:List EN) (E:List EE) (x y:Int):Prop where
 box:nth σ d=some (.arr gd 4 true false [.agg [vN,vE,.int .i64 x,.int .i64 y]])
 hn:∃c,Hd EN.av 3 σ vN nb N c∧(c=true→∀e∈N,e.av.closed=true)
 he:∃c,Hd EE.av 5 σ vE eb E c∧(c=true→∀e∈E,e.av.closed=true)
 hN:∀e∈N,e.Ok σ
 hE:∀e∈E,e.Ok σ
 nd:(d::(vN.obj++(vE.obj++Cj N E))).Nodup
 oN:vN≠.sl false []
 oE:vE≠.sl false []
def LP (nb eb:Bool) (N:List EN) (E:List EE) (x y:Int):GG:=⟨nb,N.map EN.n,eb,E.map EE.e,x,y⟩
theorem EN.sn {σ:List Obj} {e:EN} (h:e.Ok σ):Rd σ 5 e.av e.n.av:=
 Rd.agg (MJ.cons (Rd.int.mono (by omega)) (MJ.cons (h.1.sn.mono (by omega)) (MJ.cons (h.2.sn.mono (D':=1) (by omega)) (MJ.nil.mono (D':=1) (by omega)))))
theorem EE.sn {σ:List Obj} {e:EE} (h:e.Ok σ):Rd σ 7 e.av e.e.av:=
 Rd.agg (MJ.cons (Rd.int.mono (by omega)) (MJ.cons (Rd.int.mono (by omega)) (MJ.cons (Rd.int.mono (by omega)) (MJ.cons (Rd.str.mono (by omega)) (MJ.cons (h.sn.mono (D':=1) (by omega)) (MJ.nil.mono (D':=1) (by omega)))))))
theorem Hd.snE {α:Type} {f g:α→AV} {es D:Nat} {σ:List Obj} {v:AV} {b c:Bool} {l:List α} (h:Hd f es σ v b l c) (hs:∀e∈l,Rd σ D (f e) (g e)) (hc:c=true→∀e∈l,f e=g e):Rd σ (D+l.length+1) v (.sl b (vs g l)):=fun m hm=>by
 obtain⟨m,rfl⟩:∃m',m=m'+1:=⟨m-1,by omega⟩
 rcases h with⟨rfl,rfl,rfl|⟨o',g,es',rfl,h⟩⟩|⟨rfl,o',g',rfl,h⟩
 ·rfl
 ·simp[snap,h,sub,vs]
 ·have e1:sub (vs f l) 0 l.length=vs f l:=uV
  cases c with
  |false=>
   have:=MJ.map hs m (by omega)
   simp[snap,h,e1,this]
  |true=>
   have e2:vs f l=vs g l:=List.map_congr_left (hc rfl)
   simp[snap,h,e2,show sub (vs g l) 0 l.length=vs g l from uV]
theorem EN.TT {σ:List Obj} {e:EN} (h:e.Ok σ) (hc:e.av.closed=true):e.av=e.n.av:=by
 simp only[EN.av,AV.closed,D9,Bool.and_eq_true,Bool.and_true]at hc
 obtain⟨a1,a2,a3⟩:=h.1.closed hc.2.1
 obtain⟨b1,b2,b3⟩:=h.2.closed hc.2.2
 simp[EN.av,GN.av,a1,a2,a3,b1,b2,b3,vs]
theorem EE.TT {σ:List Obj} {e:EE} (h:e.Ok σ) (hc:e.av.closed=true):e.av=e.e.av:=by
 simp only[EE.av,AV.closed,D9,Bool.and_eq_true,Bool.and_true]at hc
 obtain⟨b1,b2,b3⟩:=h.closed hc.2.2.2.2
 simp[EE.av,GE.av,b1,b2,b3,vs]
section
variable {σ σ':List Obj} {d gd:Nat} {vN vE:AV} {nb eb:Bool} {N:List EN} {E:List EE} {x y:Int}
theorem Ed.snN (h:Ed σ d gd vN vE nb eb N E x y):Rd σ (5+N.length+1) vN (.sl nb (vs GN.av (N.map EN.n))):=by
 obtain⟨c,h1,h2⟩:=h.hn
 have:=h1.snE (g:=fun e=>e.n.av) (D:=5) (fun e he=>EN.sn (h.hN e he)) (fun hc e he=>EN.TT (h.hN e he) (h2 hc e he))
 simpa[vs,Function.comp_def]using this
theorem Ed.snE (h:Ed σ d gd vN vE nb eb N E x y):Rd σ (7+E.length+1) vE (.sl eb (vs GE.av (E.map EE.e))):=by
 obtain⟨c,h1,h2⟩:=h.he
 have:=h1.snE (g:=fun e=>e.e.av) (D:=7) (fun e he=>EE.sn (h.hE e he)) (fun hc e he=>EE.TT (h.hE e he) (h2 hc e he))
 simpa[vs,Function.comp_def]using this
theorem Ed.snL (h:Ed σ d gd vN vE nb eb N E x y):MJ σ (20+N.length+E.length) [vN,vE,.int .i64 x,.int .i64 y] [.sl nb (vs GN.av (N.map EN.n)),.sl eb (vs GE.av (E.map EE.e)),.int .i64 x,.int .i64 y]:=
 (MJ.cons (h.snN.mono (D':=N.length+E.length+15) (by omega)) (MJ.cons (h.snE.mono (D':=N.length+E.length+14) (by omega)) (MJ.cons (Rd.int.mono (D':=N.length+E.length+13) (by omega)) (MJ.cons (Rd.int.mono (D':=N.length+E.length+12) (by omega)) (MJ.nil.mono (by omega)))))).mono (by omega)
theorem Ed.snG (h:Ed σ d gd vN vE nb eb N E x y):Rd σ (21+N.length+E.length) (.agg [vN,vE,.int .i64 x,.int .i64 y]) (LP nb eb N E x y).av:=(Rd.agg h.snL).mono (by omega)
theorem Ed.Ux (h:Ed σ d gd vN vE nb eb N E x y):Rd σ (21+N.length+E.length) (.ref d gd 0 0) (.DR (LP nb eb N E x y).av.cells):=fun m hm=>by
 obtain⟨m,rfl⟩:∃m',m=m'+1:=⟨m-1,by omega⟩
 have:=h.snL m (by omega)
 simp[snap,h.box,nth,AV.cells,this,LP,GG.av]
end
theorem Aex {a b:Int} (h:Dq a b<0):BX a b=true:=by simpa[BX]using Oj.1 h
theorem Aey {a b:Int} (h:¬Dq a b<0):BX a b=false:=by simpa[BX]using mt Oj.2 h
theorem Avu {n:GN} {x:Int}:Ag (Ac tab) 193 [n.av,.int .i64 x] (· =.int .i64 (Dq n.id x)):=by
 refine Ad rfl rfl ?_
 (conv=>whnf);repeat' (first|(refine kA ?_;conv=>whnf)|(refine Br.mk (fun hc=>?_) fun hc=>?_<;>first|exact hc.elim|conv=>whnf)|(refine Aa compare ?_;rintro _ rfl;conv=>whnf)|(refine kB ?_))
 rfl
theorem bsN {l:List GN} {nn:Bool} {x:Int} (hl:l.length<2^62) (hi:Inc BX GN.id l):Ag (Ac tab) 133 [.sl nn (vs GN.av l),.int .i64 x,.fn 193 []] (fun v=>∃(i:Nat) (b:Bool),v=.BG [.int .i64 i,.bool b]∧AtK BX GN.id x l i∧(b=true↔∃y∈l,GN.id y=x)):=by
 have fin:∀i:Nat,AtK BX GN.id x l i→((∃ y∈l,GN.id y=x)↔∃h:i<l.length,GN.id l[i]=x):=by
  intro i h
  constructor
  ·intro hf
   obtain⟨h1,h2,_⟩:=h.found Ak hi hf
   exact⟨h1,h2⟩
  ·rintro⟨h1,h2⟩
   exact⟨_,List.getElem_mem h1,h2⟩
 refine Ad rfl rfl ?_
 (conv=>whnf);repeat' (first|(refine kA ?_;conv=>whnf)|(refine Br.mk (fun hc=>?_) fun hc=>?_<;>first|exact hc.elim|conv=>whnf)  |(refine kB ?_))
 refine Af (fun m env s=>∃(i j:Nat),m=j-i∧i≤j∧j≤l.length∧env=[(0,.sl nn (vs GN.av l)),(1,.int .i64 x),(2,.fn 193 []),(8,.int .i64 l.length),(9,.int .i64 i),(10,.int .i64 j)]∧s=⟨[],0⟩∧
  (∀ k (h:k<l.length),k<i→BX (GN.id l[k]) x=true)∧(∀ k (h:k<l.length),j≤k→BX (GN.id l[k]) x=false)) ?_ _ _ _ ⟨0,l.length,rfl,by omega,by omega,by simp,rfl,fun k _ h=>absurd h (by omega),fun k h1 h=>absurd h (by omega)⟩
 rintro _ _ _ ⟨i,j,rfl,hij,hj,rfl,rfl,h1,h2⟩
 refine⟨rfl,?_⟩
 have lo:∀{q:Nat} (hq:q<l.length),BX (GN.id l[q]) x=true→∀k (h:k<l.length),k<q+1→BX (GN.id l[k]) x=true:=fun{q} hq hm k hk hlt=>by
  rcases Nat.lt_or_ge k q with h|h
  ·exact(Ak).tr _ _ _ (hi.get h hq) hm
  ·obtain rfl:k=q:=by omega
   exact hm
 have up:∀{q:Nat} (hq:q<l.length),BX (GN.id l[q]) x=false→∀k (h:k<l.length),q≤k→BX (GN.id l[k]) x=false:=fun{q} hq hm k hk hle=>by
  rcases Nat.lt_or_ge q k with h|h
  ·cases h3:BX (GN.id l[k]) x
   ·rfl
   ·have:=(Ak).tr _ _ _ (hi.get h hk) h3
    rw[hm]at this;cases this
  ·obtain rfl:k=q:=by omega
   exact hm
 (conv=>whnf);repeat' (first|(refine Abl (i+j) (by omega) (by omega) ?_;conv=>whnf)|(apply BK;(· exact Ahi _);conv=>whnf)|(refine Aa Avu ?_;rintro _ rfl;conv=>whnf)|(refine kA ?_;conv=>whnf)|(refine Br.mk (fun hc=>?_) fun hc=>?_<;>first|exact hc.elim|conv=>whnf)|(refine kB ?_))
 all_goals first
  |exact again.mk ⟨_,by omega,(i+j) / 2+1,j,rfl,by omega,hj,rfl,rfl,lo (by omega) (Aex hc),h2⟩
  |exact again.mk ⟨_,by omega,i,(i+j) / 2,rfl,by omega,by omega,rfl,rfl,h1,up (by omega) (Aey hc)⟩
  |skip
 all_goals
  obtain rfl:i=j:=by omega
  have ha:AtK BX GN.id x l i:=⟨by omega,h1,h2⟩
  have hf:=fin i ha
  first
   |exact⟨i,_,rfl,ha,fun _=>hf.2 ⟨by omega,D6.1 hc⟩,fun _=>rfl⟩
   |exact⟨i,_,rfl,ha,fun h=>(by cases h),fun h=>(by obtain⟨_,e⟩:=hf.1 h;exact absurd (D6.2 e) hc)⟩
   |exact⟨i,_,rfl,ha,fun h=>(by cases h),fun h=>by obtain⟨e,_⟩:=hf.1 h;omega⟩
theorem AvG {n:GE} {x:Int}:Ag (Ac tab) 206 [n.av,.int .i64 x] (· =.int .i64 (Dq n.id x)):=by
 refine Ad rfl rfl ?_
 (conv=>whnf);repeat' (first|(refine kA ?_;conv=>whnf)|(refine Br.mk (fun hc=>?_) fun hc=>?_<;>first|exact hc.elim|conv=>whnf)|(refine Aa compare ?_;rintro _ rfl;conv=>whnf)|(refine kB ?_))
 rfl
theorem bsE {l:List GE} {nn:Bool} {x:Int} (hl:l.length<2^62) (hi:Inc BX GE.id l):Ag (Ac tab) 205 [.sl nn (vs GE.av l),.int .i64 x,.fn 206 []] (fun v=>∃(i:Nat) (b:Bool),v=.BG [.int .i64 i,.bool b]∧AtK BX GE.id x l i∧(b=true↔∃y∈l,GE.id y=x)):=by
 have fin:∀i:Nat,AtK BX GE.id x l i→((∃ y∈l,GE.id y=x)↔∃h:i<l.length,GE.id l[i]=x):=by
  intro i h
  constructor
  ·intro hf
   obtain⟨h1,h2,_⟩:=h.found Ak hi hf
   exact⟨h1,h2⟩
  ·rintro⟨h1,h2⟩
   exact⟨_,List.getElem_mem h1,h2⟩
 refine Ad rfl rfl ?_
 (conv=>whnf);repeat' (first|(refine kA ?_;conv=>whnf)|(refine Br.mk (fun hc=>?_) fun hc=>?_<;>first|exact hc.elim|conv=>whnf)  |(refine kB ?_))
 refine Af (fun m env s=>∃(i j:Nat),m=j-i∧i≤j∧j≤l.length∧env=[(0,.sl nn (vs GE.av l)),(1,.int .i64 x),(2,.fn 206 []),(8,.int .i64 l.length),(9,.int .i64 i),(10,.int .i64 j)]∧s=⟨[],0⟩∧
  (∀ k (h:k<l.length),k<i→BX (GE.id l[k]) x=true)∧(∀ k (h:k<l.length),j≤k→BX (GE.id l[k]) x=false)) ?_ _ _ _ ⟨0,l.length,rfl,by omega,by omega,by simp,rfl,fun k _ h=>absurd h (by omega),fun k h1 h=>absurd h (by omega)⟩
 rintro _ _ _ ⟨i,j,rfl,hij,hj,rfl,rfl,h1,h2⟩
 refine⟨rfl,?_⟩
 have lo:∀{q:Nat} (hq:q<l.length),BX (GE.id l[q]) x=true→∀k (h:k<l.length),k<q+1→BX (GE.id l[k]) x=true:=fun{q} hq hm k hk hlt=>by
  rcases Nat.lt_or_ge k q with h|h
  ·exact(Ak).tr _ _ _ (hi.get h hq) hm
  ·obtain rfl:k=q:=by omega
   exact hm
 have up:∀{q:Nat} (hq:q<l.length),BX (GE.id l[q]) x=false→∀k (h:k<l.length),q≤k→BX (GE.id l[k]) x=false:=fun{q} hq hm k hk hle=>by
  rcases Nat.lt_or_ge q k with h|h
  ·cases h3:BX (GE.id l[k]) x
   ·rfl
   ·have:=(Ak).tr _ _ _ (hi.get h hk) h3
    rw[hm]at this;cases this
  ·obtain rfl:k=q:=by omega
   exact hm
 (conv=>whnf);repeat' (first|(refine Abl (i+j) (by omega) (by omega) ?_;conv=>whnf)|(apply BK;(· exact Ahi _);conv=>whnf)|(refine Aa AvG ?_;rintro _ rfl;conv=>whnf)|(refine kA ?_;conv=>whnf)|(refine Br.mk (fun hc=>?_) fun hc=>?_<;>first|exact hc.elim|conv=>whnf)|(refine kB ?_))
 all_goals first
  |exact again.mk ⟨_,by omega,(i+j) / 2+1,j,rfl,by omega,hj,rfl,rfl,lo (by omega) (Aex hc),h2⟩
  |exact again.mk ⟨_,by omega,i,(i+j) / 2,rfl,by omega,by omega,rfl,rfl,h1,up (by omega) (Aey hc)⟩
  |skip
 all_goals
  obtain rfl:i=j:=by omega
  have ha:AtK BX GE.id x l i:=⟨by omega,h1,h2⟩
  have hf:=fin i ha
  first
   |exact⟨i,_,rfl,ha,fun _=>hf.2 ⟨by omega,D6.1 hc⟩,fun _=>rfl⟩
   |exact⟨i,_,rfl,ha,fun h=>(by cases h),fun h=>(by obtain⟨_,e⟩:=hf.1 h;exact absurd (D6.2 e) hc)⟩
   |exact⟨i,_,rfl,ha,fun h=>(by cases h),fun h=>by obtain⟨e,_⟩:=hf.1 h;omega⟩
theorem Ai:Ov Op.bytesLess where
 Oc:=fun x=>by rw[Vx];simp
 tr:=fun x y z h1 h2=>by rw[Vx]at *;simp only[decide_eq_true_eq]at *;exact List.lt_trans h1 h2
 tot:=fun x y h1 h2=>Adp h1 h2
theorem Atk {a b:List UInt8} (h:cS a b<0):Op.bytesLess a b=true:=by
 unfold cS at h
 split at h
 ·assumption
 ·split at h<;>omega
theorem ApS {a b:List UInt8} (h:¬cS a b<0):Op.bytesLess a b=false:=by
 cases h1:Op.bytesLess a b
 ·rfl
 ·exact absurd (by unfold cS;rw[if_pos h1];omega) h
theorem AvR {n:GP} {x:List UInt8}:Ag (Ac tab) 201 [n.av,.str x] (· =.int .i64 (cS n.key x)):=by
 refine Ad rfl rfl ?_
 (conv=>whnf);repeat' (first|(refine kA ?_;conv=>whnf)|(refine Br.mk (fun hc=>?_) fun hc=>?_<;>first|exact hc.elim|conv=>whnf)|(refine Aa WV ?_;rintro _ rfl;conv=>whnf)|(refine kB ?_))
 rfl
theorem bsP {l:List GP} {nn:Bool} {x:(List UInt8)} (hl:l.length<2^62) (hi:Inc Op.bytesLess GP.key l):Ag (Ac tab) 200 [.sl nn (vs GP.av l),.str x,.fn 201 []] (fun v=>∃(i:Nat) (b:Bool),v=.BG [.int .i64 i,.bool b]∧AtK Op.bytesLess GP.key x l i∧(b=true↔∃y∈l,GP.key y=x)):=by
 have fin:∀i:Nat,AtK Op.bytesLess GP.key x l i→((∃ y∈l,GP.key y=x)↔∃h:i<l.length,GP.key l[i]=x):=by
  intro i h
  constructor
  ·intro hf
   obtain⟨h1,h2,_⟩:=h.found Ai hi hf
   exact⟨h1,h2⟩
  ·rintro⟨h1,h2⟩
   exact⟨_,List.getElem_mem h1,h2⟩
 refine Ad rfl rfl ?_
 (conv=>whnf);repeat' (first|(refine kA ?_;conv=>whnf)|(refine Br.mk (fun hc=>?_) fun hc=>?_<;>first|exact hc.elim|conv=>whnf)  |(refine kB ?_))
 refine Af (fun m env s=>∃(i j:Nat),m=j-i∧i≤j∧j≤l.length∧env=[(0,.sl nn (vs GP.av l)),(1,.str x),(2,.fn 201 []),(8,.int .i64 l.length),(9,.int .i64 i),(10,.int .i64 j)]∧s=⟨[],0⟩∧
  (∀ k (h:k<l.length),k<i→Op.bytesLess (GP.key l[k]) x=true)∧(∀ k (h:k<l.length),j≤k→Op.bytesLess (GP.key l[k]) x=false)) ?_ _ _ _ ⟨0,l.length,rfl,by omega,by omega,by simp,rfl,fun k _ h=>absurd h (by omega),fun k h1 h=>absurd h (by omega)⟩
 rintro _ _ _ ⟨i,j,rfl,hij,hj,rfl,rfl,h1,h2⟩
 refine⟨rfl,?_⟩
 have lo:∀{q:Nat} (hq:q<l.length),Op.bytesLess (GP.key l[q]) x=true→∀k (h:k<l.length),k<q+1→Op.bytesLess (GP.key l[k]) x=true:=fun{q} hq hm k hk hlt=>by
  rcases Nat.lt_or_ge k q with h|h
  ·exact(Ai).tr _ _ _ (hi.get h hq) hm
  ·obtain rfl:k=q:=by omega
   exact hm
 have up:∀{q:Nat} (hq:q<l.length),Op.bytesLess (GP.key l[q]) x=false→∀k (h:k<l.length),q≤k→Op.bytesLess (GP.key l[k]) x=false:=fun{q} hq hm k hk hle=>by
  rcases Nat.lt_or_ge q k with h|h
  ·cases h3:Op.bytesLess (GP.key l[k]) x
   ·rfl
   ·have:=(Ai).tr _ _ _ (hi.get h hk) h3
    rw[hm]at this;cases this
  ·obtain rfl:k=q:=by omega
   exact hm
 (conv=>whnf);repeat' (first|(refine Abl (i+j) (by omega) (by omega) ?_;conv=>whnf)|(apply BK;(· exact Ahi _);conv=>whnf)|(refine Aa AvR ?_;rintro _ rfl;conv=>whnf)|(refine kA ?_;conv=>whnf)|(refine Br.mk (fun hc=>?_) fun hc=>?_<;>first|exact hc.elim|conv=>whnf)|(refine kB ?_))
 all_goals first
  |exact again.mk ⟨_,by omega,(i+j) / 2+1,j,rfl,by omega,hj,rfl,rfl,lo (by omega) (Atk hc),h2⟩
  |exact again.mk ⟨_,by omega,i,(i+j) / 2,rfl,by omega,by omega,rfl,rfl,h1,up (by omega) (ApS hc)⟩
  |skip
 all_goals
  obtain rfl:i=j:=by omega
  have ha:AtK Op.bytesLess GP.key x l i:=⟨by omega,h1,h2⟩
  have hf:=fin i ha
  first
   |exact⟨i,_,rfl,ha,fun _=>hf.2 ⟨by omega,Va.1 hc⟩,fun _=>rfl⟩
   |exact⟨i,_,rfl,ha,fun h=>(by cases h),fun h=>(by obtain⟨_,e⟩:=hf.1 h;exact absurd (Va.2 e) hc)⟩
   |exact⟨i,_,rfl,ha,fun h=>(by cases h),fun h=>by obtain⟨e,_⟩:=hf.1 h;omega⟩
end AI
end Go.Proofs.YthnehejdkajjhaaGreatDoor
