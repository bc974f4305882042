/- Numbers among values. The program's order of a value and null. The order of values: plain. The order of values: the program's walks. The order of values: the reference's walks. Paths as values: their order, the program's and the reference's; sorting them in place: the order. -/
import Derived.Test.YthjeehjphekjmaaGreatDoorRMai
import Derived.Test.YthjeehjphekjmaaGreatDoorRMac
import Derived.Test.YthjeehjphekjmaaGreatDoorRMab
import Derived.Test.YthjeehjphekjmaaGreatDoorRMah
set_option linter.unusedVariables false
set_option maxRecDepth 4000
namespace Go.Proofs.YthjeehjphekjmaaGreatDoor
namespace AI
def Afx (g:GV):Prop:=VV 8 g∧(g.k=2∨g.k=3)
noncomputable instance (g:GV):Decidable (Afx g):=by unfold Afx;infer_instance
def dn (g:GV):Int:=if g.k=2 then 1 else g.d
theorem isNm_VF {g:GV} (h:Afx g):VF g.n (dn g):=by
 obtain⟨hv,hk⟩:=h
 rw[VV_b (by omega) (by omega)]at hv
 obtain⟨h1,h2⟩:=hv
 unfold dn
 rcases hk with hk|hk
 ·rw[if_pos hk]
  rcases h2 with h|h|h|h|h|h<;>first|(exfalso;omega)|exact⟨by omega,by omega,h.2.1,by simp⟩
 ·rw[if_neg (by omega)]
  rcases h2 with h|h|h|h|h|h<;>first|(exfalso;omega)|exact h.2.2.1
theorem vP {g:GV} (hg:g.ok) (h:VV 8 g):Au (Ac tab) 79 [g.av] (· =.bool true):=by have:=ValidP hg;rwa [decide_eq_true h]at this
theorem vPn {g:GV} (hg:g.ok) (h:¬VV 8 g):Au (Ac tab) 79 [g.av] (· =.bool false):=by have:=ValidP hg;rwa [decide_eq_false h]at this
theorem vR {g:GV} (hg:g.ok) (h:VV 8 g):Au (Ac tab) 56 [g.av] (· =.bool true):=by have:=ValidR hg;rwa [decide_eq_true h]at this
theorem vRn {g:GV} (hg:g.ok) (h:¬VV 8 g):Au (Ac tab) 56 [g.av] (· =.bool false):=by have:=ValidR hg;rwa [decide_eq_false h]at this
theorem nP1 {g:GV} (hg:g.ok) (h:Afx g):Au (Ac tab) 124 [g.av] (· =.CO [.agg [.int .i64 g.n,.int .i64 (dn g)],.bool true]):=by
 have hv:=vP hg h.1
 rcases h.2 with hk|hk
 ·have e:dn g=1:=if_pos hk
  rw[e]
  refine Af rfl rfl ?_
  (conv=>whnf);repeat' (first|(refine Aa hv ?_;rintro _ rfl;conv=>whnf)|(refine kA ?_;conv=>whnf)|(refine Br.mk (fun hc=>?_) fun hc=>?_<;>first|exact hc.elim|conv=>whnf)|(refine kB ?_))
  all_goals first|rfl
 ·have e:dn g=g.d:=if_neg (by omega)
  rw[e]
  refine Af rfl rfl ?_
  (conv=>whnf);repeat' (first|(refine Aa hv ?_;rintro _ rfl;conv=>whnf)|(refine kA ?_;conv=>whnf)|(refine Br.mk (fun hc=>?_) fun hc=>?_<;>first|exact hc.elim|conv=>whnf)|(refine kB ?_))
  all_goals first|rfl
theorem nR1 {g:GV} (hg:g.ok) (h:Afx g):Au (Ac tab) 61 [g.av] (· =.CO [.agg [.int .i64 g.n,.int .i64 (dn g)],.bool true]):=by
 have hv:=vR hg h.1
 rcases h.2 with hk|hk
 ·have e:dn g=1:=if_pos hk
  rw[e]
  refine Af rfl rfl ?_
  (conv=>whnf);repeat' (first|(refine Aa hv ?_;rintro _ rfl;conv=>whnf)|(refine kA ?_;conv=>whnf)|(refine Br.mk (fun hc=>?_) fun hc=>?_<;>first|exact hc.elim|conv=>whnf)|(refine kB ?_))
  all_goals first|rfl
 ·have e:dn g=g.d:=if_neg (by omega)
  rw[e]
  refine Af rfl rfl ?_
  (conv=>whnf);repeat' (first|(refine Aa hv ?_;rintro _ rfl;conv=>whnf)|(refine kA ?_;conv=>whnf)|(refine Br.mk (fun hc=>?_) fun hc=>?_<;>first|exact hc.elim|conv=>whnf)|(refine kB ?_))
  all_goals first|rfl
theorem nR0 {g:GV} (hg:g.ok) (h:¬Afx g):Au (Ac tab) 61 [g.av] (· =.CO [.agg [.int .i64 0,.int .i64 0],.bool false]):=by
 by_cases hV:VV 8 g
 ·have hv:=vR hg hV
  have hk:¬(g.k=2∨g.k=3):=fun hk=>h ⟨hV,hk⟩
  refine Af rfl rfl ?_
  (conv=>whnf);repeat' (first|(refine Aa hv ?_;rintro _ rfl;conv=>whnf)|(refine kA ?_;conv=>whnf)|(refine Br.mk (fun hc=>?_) fun hc=>?_<;>first|exact hc.elim|conv=>whnf)|(refine kB ?_))
  all_goals first|rfl
 ·have hv:=vRn hg hV
  refine Af rfl rfl ?_
  (conv=>whnf);repeat' (first|(refine Aa hv ?_;rintro _ rfl;conv=>whnf)|(refine kA ?_;conv=>whnf)|(refine Br.mk (fun hc=>?_) fun hc=>?_<;>first|exact hc.elim|conv=>whnf)|(refine kB ?_))
  all_goals first|rfl
theorem VV_up:∀{m k:Nat} {g:GV},m≤k→VV m g→VV k g
 |m,0,g,h,hv=>by obtain rfl:m=0:=by omega
                 exact hv
 |m,k+1,g,h,hv=>by
  rcases Nat.lt_or_ge m (k+1)with h1|h1
  ·exact VV_mono (VV_up (by omega) hv)
  ·obtain rfl:m=k+1:=by omega
   exact hv
theorem yesT:Au (Ac tab) 57 [.bool true] (· =.int .i64 2):=⟨_,⟨20,by kernel_rfl⟩,rfl⟩
theorem yesF':Au (Ac tab) 57 [.bool false] (· =.int .i64 0):=⟨_,⟨20,by kernel_rfl⟩,rfl⟩
theorem kindR {a:GV} (h:VV 8 a) (h7:a.k≠7) (h8:a.k≠8):(a.k=4→a.n=0)∧(a.k≠4→a.s=[]):=by
 rw[VV_b h7 h8]at h
 obtain⟨_,h⟩:=h
 rcases h with h|h|h|h|h|h<;>exact⟨fun hk=>by first|omega|exact h.2.1,fun hk=>by first|exact h.2.2.2|exact h.2.2.2.2|(exfalso;omega)⟩
def AcI (k:Int):Int:=if k=3 then 2 else if k=7 then 9 else k
theorem classP {v:GV}:Au (Ac tab) 123 [v.av] (· =.int .i64 (AcI v.k)):=by
 refine Af rfl rfl ?_
 (conv=>whnf);repeat' (first  |(refine kA ?_;conv=>whnf)|(refine Br.mk (fun hc=>?_) fun hc=>?_<;>first|exact hc.elim|conv=>whnf)|(refine kB ?_))
 all_goals first|(unfold AcI;rw[if_pos (by assumption)];rfl)|(unfold AcI;rw[if_neg (by assumption),if_pos (by assumption)];rfl)|(unfold AcI;rw[if_neg (by assumption),if_neg (by assumption)];rfl)
section
open Go.Sort
def AaT:AV→GV
 | .agg [.int _ k,.int _ n,.int _ d,.str s,.sl nn l]=>⟨k,n,d,s,nn,l⟩
 |_=>⟨0,0,0,[],false,[]⟩
def dep:Nat→GV→Prop
 |0,_=>False
 |m+1,v=>∀x∈v.l,∃g:GV,x=g.av∧g.ok∧dep m g
def JU (c:AV→AV→Int):List AV→List AV→Int
 |[],[]=>0
 |[],_::_=>-1
 |_::_,[]=>1
 |a::x,b::y=>OU (c a b) (JU c x y)
theorem PU {c:AV→AV→Int} (hc:PC c):∀x y,JU c y x=-JU c x y
 |[],[]=>rfl
 |[],_::_=>rfl
 |_::_,[]=>rfl
 |a::x,b::y=>by
  have h1:=hc.anti a b
  have h2:=PU hc x y
  simp only[JU,OU]
  split<;>split<;>omega
theorem NY {c:AV→AV→Int} (hc:PC c):∀x y z,JU c x y≤0→JU c y z≤0→JU c x z≤0
 |[],_,[],_,_=>Int.le_refl 0
 |[],_,_::_,_,_=>by show(-1:Int)≤0;omega
 |_::_,[],_,h,_=>absurd h (by show¬(1:Int)≤0;omega)
 |_::_,_::_,[],_,h=>absurd h (by show¬(1:Int)≤0;omega)
 |a::x,b::y,d::z,h1,h2=>by
  have ih:=NY hc x y z
  have a1:=hc.trans a b d
  have a2:=hc.trans b d a
  have a3:=hc.trans d a b
  have b1:=hc.anti a b
  have b2:=hc.anti b d
  have b3:=hc.anti a d
  simp only[JU,OU]at*
  split at h1<;>split at h2<;>split<;>omega
theorem PC.lists {c:AV→AV→Int} (hc:PC c):PC (JU c):=⟨PU hc,NY hc⟩
theorem cmpLs_step {c:AV→AV→Int} {x y:List AV} {i:Nat} (hx:i<x.length) (hy:i<y.length):JU c (x.drop i) (y.drop i)=OU (c x[i] y[i]) (JU c (x.drop (i+1)) (y.drop (i+1))):=by
 rw[List.drop_eq_getElem_cons hx,List.drop_eq_getElem_cons hy,JU]
theorem PC.lexIf {α:Type} {c d e:α→α→Int} {p:α→Prop} [DecidablePred p] (hc:PC c) (hd:PC d) (he:PC e) (hp:∀x y,c x y=0→(p x↔p y)):PC fun x y=>OU (c x y) (if p x then d x y else e x y) where
 anti x y:=by
  have h1:=hc.anti x y
  have h2:=hd.anti x y
  have h3:=he.anti x y
  have h4:=hp x y
  unfold OU
  by_cases h0:c x y=0
  ·rw[if_pos (by omega),if_pos h0]
   by_cases hx:p x
   ·rw[if_pos hx,if_pos ((h4 h0).1 hx)];exact h2
   ·rw[if_neg hx,if_neg (fun h=>hx ((h4 h0).2 h))];exact h3
  ·rw[if_neg (by omega),if_neg h0];exact h1
 trans x y z h1 h2:=by
  have a0:=hc.trans z y x
  have a1:=hc.trans x y z
  have a2:=hc.trans y z x
  have a3:=hc.trans z x y
  have b1:=hc.anti x y
  have b2:=hc.anti y z
  have b3:=hc.anti x z
  have d1:=hd.trans x y z
  have e1:=he.trans x y z
  have p1:=hp x y
  have p2:=hp y z
  unfold OU at*
  by_cases h0:c x y=0
  ·rw[if_pos h0]at h1
   by_cases h00:c y z=0
   ·rw[if_pos h00]at h2
    rw[if_pos (by omega)]
    by_cases hx:p x
    ·rw[if_pos hx]at h1 ⊢
     rw[if_pos ((p1 h0).1 hx)]at h2
     exact d1 h1 h2
    ·rw[if_neg hx]at h1 ⊢
     rw[if_neg (fun h=>hx ((p1 h0).2 h))]at h2
     exact e1 h1 h2
   ·rw[if_neg h00]at h2
    rw[if_neg (by omega)]
    omega
  ·rw[if_neg h0]at h1
   by_cases h00:c y z=0
   ·rw[if_neg (by omega)]
    omega
   ·rw[if_neg h00]at h2
    rw[if_neg (by omega)]
    omega
def pd (g:GV):Int:=if dn g≤0 then 1 else dn g
theorem pd_pos (g:GV):0<pd g:=by unfold pd;split<;>omega
def AeP (a b:GV):Int:=sgn (a.n*pd b-b.n*pd a)
theorem fracC_le {a b:GV}:AeP a b≤0↔a.n*pd b≤b.n*pd a:=by
 unfold AeP sgn;split
 ·omega
 ·split<;>omega
theorem pc_frac:PC AeP where
 anti x y:=by unfold AeP sgn;repeat' split
              all_goals omega
 trans x y z h1 h2:=by
  rw[fracC_le]at*
  have p1:=pd_pos x
  have p2:=pd_pos y
  have p3:=pd_pos z
  have e1:x.n*pd y*pd z≤y.n*pd x*pd z:=Int.mul_le_mul_of_nonneg_right h1 (by omega)
  have e2:y.n*pd z*pd x≤z.n*pd y*pd x:=Int.mul_le_mul_of_nonneg_right h2 (by omega)
  have e3:x.n*pd z*pd y≤z.n*pd x*pd y:=by
   rw[Int.mul_right_comm x.n,Int.mul_right_comm z.n]
   rw[Int.mul_right_comm y.n]at e2
   omega
  exact Int.le_of_mul_le_mul_right e3 p2
def AeQ:Nat→GV→GV→Int
 |0,_,_=>0
 |m+1,a,b=>OU (Ia (AcI a.k) (AcI b.k)) (if AcI a.k=2 then AeP a b else OU (cS a.s b.s) (OU (Ia a.n b.n) (JU (fun x y=>AeQ m (AaT x) (AaT y)) a.l b.l)))
theorem pc_zero {α:Type}:PC fun _ _:α=>0:=⟨fun _ _=>rfl,fun _ _ _ _ _=>Int.le_refl 0⟩
theorem pc_ordS:∀m,PC (AeQ m)
 |0=>pc_zero
 |m+1=>PC.lexIf (p:=fun a:GV=>AcI a.k=2) (AcD.on fun a:GV=>AcI a.k) pc_frac ((pc_str.on GV.s).lex ((AcD.on GV.n).lex (((pc_ordS m).on AaT).lists.on GV.l))) fun x y h=>by
  have h:Ia (AcI x.k) (AcI y.k)=0:=h
  rw[cmpI_zero]at h
  show AcI x.k=2↔AcI y.k=2
  rw[h]
theorem PC.two {α:Type} {d e:α→α→Int} {p:α→Prop} [DecidablePred p] (hd:PC d) (he:PC e):PC fun x y=>if p x then if p y then d x y else -1 else if p y then 1 else e x y where
 anti x y:=by
  have h2:=hd.anti x y
  have h3:=he.anti x y
  by_cases hx:p x<;>by_cases hy:p y<;>simp only[hx,hy,if_true,if_false]<;>first|assumption|rfl
 trans x y z h1 h2:=by
  have d1:=hd.trans x y z
  have e1:=he.trans x y z
  by_cases hx:p x<;>by_cases hy:p y<;>by_cases hz:p z<;>simp only[hx,hy,hz,if_true,if_false]at* <;>first|exact d1 h1 h2|exact e1 h1 h2|omega
noncomputable def Ad4:Nat→GV→GV→Int
 |0,_,_=>0
 |m+1,a,b=>if VV 8 a then if VV 8 b then AeQ (m+1) a b else -1 else if VV 8 b then 1 else
   OU (Ia a.k b.k) (OU (Ia a.n b.n) (OU (Ia a.d b.d) (OU (cS a.s b.s) (JU (fun x y=>Ad4 m (AaT x) (AaT y)) a.l b.l))))
theorem pc_cmpV:∀m,PC (Ad4 m)
 |0=>pc_zero
 |m+1=>PC.two (p:=fun a=>VV 8 a) (pc_ordS (m+1)) ((AcD.on GV.k).lex ((AcD.on GV.n).lex ((AcD.on GV.d).lex ((pc_str.on GV.s).lex (((pc_cmpV m).on AaT).lists.on GV.l)))))
end
section
open Go.Sort
theorem fst0_z {b:Int}:OU 0 b=b:=if_pos rfl
theorem fst0_n {a b:Int} (h:a≠0):OU a b=a:=if_neg h
def ElP (f:Nat) (c:AV→AV→Int) (x y:AV):Prop:=∃g h:GV,x=g.av∧y=h.av∧Au (Ac tab) f [g.av,h.av] (· =.int .i64 (c x y))
theorem compareFuncP {f:Nat} {c:AV→AV→Int} {l l':List AV} {nn nn':Bool} (hl:l.length<2^63) (hl':l'.length<2^63) (h0:∀i (h:i<l.length),∃g:GV,l[i]=g.av) (hel:∀i (h:i<l.length) (h':i<l'.length),ElP f c l[i] l'[i]):
 Au (Ac tab) 82 [.sl nn l,.sl nn' l',.fn f []] (· =.int .i64 (JU c l l')):=by
 refine Af rfl rfl ?_
 (conv=>whnf);repeat' (first  |(refine kA ?_;conv=>whnf)|(refine Br.mk (fun hc=>?_) fun hc=>?_<;>first|exact hc.elim|conv=>whnf)|(refine kB ?_))
 refine Ae (fun m env s=>∃i k:Nat,m=l.length-i∧i≤l.length∧i≤l'.length∧JU c (l.drop i) (l'.drop i)=JU c l l'∧env=[(0,.sl nn l),(1,.sl nn' l'),(2,.fn f []),(11,.sl nn l),(12,.int .i64 l.length),(13,.int .i64 i)]∧s=⟨[],k⟩) ?_ _ _ _ ⟨0,_,rfl,by omega,by omega,by simp,rfl,rfl⟩
 rintro _ _ _ ⟨i,k,rfl,hi,hj,hc0,rfl,rfl⟩
 refine⟨rfl,?_⟩
 by_cases hlt:i<l.length
 ·by_cases hly:i<l'.length
  ·rw[cmpLs_step hlt hly]at hc0
   obtain⟨gx,gy,e1,e2,hp⟩:=hel i hlt hly
   have n1:nth l (Int.toNat (Nat.cast i))=some gx.av:=by rw[← e1];exact nRN hlt
   have n2:nth l' (Int.toNat (Nat.cast i))=some gy.av:=by rw[← e2];exact nRN hly
   generalize c l[i] l'[i]=z at*
   unfold OU at hc0
   (conv=>whnf);repeat' (first|(apply AU;(· exact n1);conv=>whnf)|(apply AU;(· exact n2);conv=>whnf)|(refine Aa hp ?_;rintro _ rfl;conv=>whnf)|(refine kA ?_;conv=>whnf)|(refine Br.mk (fun hc=>?_) fun hc=>?_<;>first|exact hc.elim|conv=>whnf)|(refine kB ?_))
   all_goals first
        |(rw [if_neg (by assumption)]at hc0;rw[← hc0];rfl)
        |(rw [if_pos (by assumption)]at hc0;exact again.mk ⟨_,by omega,i+1,_,rfl,by omega,by omega,hc0,rfl,rfl⟩)
        |(exfalso;omega)
  ·have e2:l'.drop i=[]:=List.drop_eq_nil_of_le (by omega)
   obtain⟨gx,hx⟩:=h0 i hlt
   have n1:nth l (Int.toNat (Nat.cast i))=some gx.av:=by rw[← hx];exact nRN hlt
   rw[List.drop_eq_getElem_cons hlt,e2,JU]at hc0
   (conv=>whnf);repeat' (first|(apply AU;(· exact n1);conv=>whnf)|(refine kA ?_;conv=>whnf)|(refine Br.mk (fun hc=>?_) fun hc=>?_<;>first|exact hc.elim|conv=>whnf)|(refine kB ?_))
   all_goals first|(rw [← hc0];rfl)|(exfalso;omega)
 ·have e1:l.drop i=[]:=List.drop_eq_nil_of_le (by omega)
  rw[e1]at hc0
  by_cases hly:i<l'.length
  ·rw[List.drop_eq_getElem_cons hly,JU]at hc0
   (conv=>whnf);repeat' (first  |(refine kA ?_;conv=>whnf)|(refine Br.mk (fun hc=>?_) fun hc=>?_<;>first|exact hc.elim|conv=>whnf)|(refine kB ?_))
   all_goals first|(rw [← hc0];rfl)|(exfalso;omega)
  ·have e2:l'.drop i=[]:=List.drop_eq_nil_of_le (by omega)
   rw[e2,JU]at hc0
   (conv=>whnf);repeat' (first  |(refine kA ?_;conv=>whnf)|(refine Br.mk (fun hc=>?_) fun hc=>?_<;>first|exact hc.elim|conv=>whnf)|(refine kB ?_))
   all_goals first|(rw [← hc0];rfl)|(exfalso;omega)
theorem okN {v:GV} (hv:v.ok):v.l.length<2^63:=hv.2.2.2.2.1
theorem isNm_pd {g:GV} (h:Afx g):pd g=dn g:=by
 have:=(isNm_VF h).1
 unfold pd;rw[if_neg (by omega)]
theorem cls2 {k:Int}:AcI k=2↔k=2∨k=3:=by unfold AcI;split<;>(try split)<;>omega
theorem elemV {a g:GV} {i:Nat} (h:VV 8 a) (hi:i<a.l.length) (e:a.l[i]=g.av):VV 8 g:=by
 by_cases h7:a.k=7
 ·obtain⟨x,e1,_,x2⟩:=((VV_7 h7).1 h).2.2.2.2.2 i hi
  rw[e1]at e
  obtain rfl:=GV.G7 e
  exact VV_up (m:=0) (by omega) (.inl x2)
 ·by_cases h8:a.k=8
  ·obtain⟨x,e1,x2⟩:=((VV_8 (m:=7) h8).1 h).2.2.2.2 i hi
   rw[e1]at e
   obtain rfl:=GV.G7 e
   exact VV_up (m:=7) (by omega) x2
  ·rw[VV_b h7 h8]at h
   have:=h.1
   omega
theorem dep_at {m:Nat} {v:GV} {i:Nat} (h:dep (m+1) v) (hi:i<v.l.length):∃g:GV,v.l[i]=g.av∧g.ok∧dep m g:=h _ (List.getElem_mem hi)
theorem fnz3 {a b c:Int}:fnz [a,b,c]=OU a (OU b c):=by
 simp only[fnz];congr 1;congr 1;unfold OU;split<;>omega
theorem fnz5 {a b c d e:Int}:fnz [a,b,c,d,e]=OU a (OU b (OU c (OU d e))):=by
 simp only[fnz];congr 1;congr 1;congr 1;congr 1;unfold OU;split<;>omega
theorem or3P {a b c:Int}:Au (Ac tab) 77 [.sl true [.int .i64 a,.int .i64 b,.int .i64 c]] (· =.int .i64 (OU a (OU b c))):=by
 have h:=orV (l:=[a,b,c]) (nn:=true) (by simp)
 rw[fnz3]at h
 exact h
theorem or5P {a b c d e:Int}:Au (Ac tab) 77 [.sl true [.int .i64 a,.int .i64 b,.int .i64 c,.int .i64 d,.int .i64 e]] (· =.int .i64 (OU a (OU b (OU c (OU d e))))):=by
 have h:=orV (l:=[a,b,c,d,e]) (nn:=true) (by simp)
 rw[fnz5]at h
 exact h
theorem cmpC {k k':Int}:Au (Ac tab) 37 [.int .i64 (AcI k),.int .i64 (AcI k')] (· =.int .i64 (Ia (AcI k) (AcI k'))):=compare
theorem orderSP:∀(m:Nat) {a b:GV},a.ok→b.ok→dep m a→dep m b→VV 8 a→VV 8 b→Au (Ac tab) 80 [a.av,b.av] (· =.int .i64 (AeQ m a b))
 |0,a,b,ha,hb,da,db,va,vb=>absurd da id
 |m+1,a,b,ha,hb,da,db,va,vb=>by
  have k1:=classP (v:=a)
  have k2:=classP (v:=b)
  have k3:=cmpC (k:=a.k) (k':=b.k)
  unfold AeQ
  by_cases h0:Ia (AcI a.k) (AcI b.k)=0
  ·rw[h0,fst0_z]
   rw[h0]at k3
   have he:=cmpI_zero.1 h0
   by_cases h2:AcI a.k=2
   ·rw[if_pos h2]
    have na:Afx a:=⟨va,cls2.1 h2⟩
    have nb:Afx b:=⟨vb,cls2.1 (by omega)⟩
    have p1:=nP1 ha na
    have p2:=nP1 hb nb
    have p3:=cmpP (isNm_VF na) (isNm_VF nb)
    unfold AeP
    rw[isNm_pd na,isNm_pd nb]
    refine Af rfl rfl ?_
    (conv=>whnf);repeat' (first|((first|refine Aa k1 ?_|refine Aa k2 ?_|refine Aa k3 ?_|refine Aa p1 ?_|refine Aa p2 ?_|refine Aa p3 ?_);rintro _ rfl;conv=>whnf)|(refine kA ?_;conv=>whnf)|(refine Br.mk (fun hc=>?_) fun hc=>?_<;>first|exact hc.elim|conv=>whnf)|(refine kB ?_))
    all_goals first|rfl|(exfalso;omega)
   ·rw[if_neg h2]
    have p1:=compareS (x:=a.s) (y:=b.s)
    have p2:Au (Ac tab) 37 [.int .i64 a.n,.int .i64 b.n] (· =.int .i64 (Ia a.n b.n)):=compare
    have p3:=compareFuncP (f:=80) (c:=fun x y=>AeQ m (AaT x) (AaT y)) (nn:=a.nn) (nn':=b.nn) (okN ha) (okN hb) (fun i hi=>by
      obtain⟨g,e,_⟩:=dep_at da hi
      exact⟨g,e⟩) (fun i hi hi'=>by
      obtain⟨g,e1,g1,g2⟩:=dep_at da hi
      obtain⟨h,e2,h1,h2⟩:=dep_at db hi'
      refine⟨g,h,e1,e2,?_⟩
      rw[e1,e2]
      exact orderSP m g1 h1 g2 h2 (elemV va hi e1) (elemV vb hi' e2))
    have p4:=or3P (a:=cS a.s b.s) (b:=Ia a.n b.n) (c:=JU (fun x y=>AeQ m (AaT x) (AaT y)) a.l b.l)
    refine Af rfl rfl ?_
    (conv=>whnf);repeat' (first|((first|refine Aa k1 ?_|refine Aa k2 ?_|refine Aa k3 ?_|refine Aa p1 ?_|refine Aa p2 ?_|refine Aa p3 ?_|refine Aa p4 ?_);rintro _ rfl;conv=>whnf)|(refine kA ?_;conv=>whnf)|(refine Br.mk (fun hc=>?_) fun hc=>?_<;>first|exact hc.elim|conv=>whnf)|(refine kB ?_))
    all_goals first|rfl|(exfalso;omega)
  ·rw[fst0_n h0]
   refine Af rfl rfl ?_
   (conv=>whnf);repeat' (first|((first|refine Aa k1 ?_|refine Aa k2 ?_|refine Aa k3 ?_);rintro _ rfl;conv=>whnf)|(refine kA ?_;conv=>whnf)|(refine Br.mk (fun hc=>?_) fun hc=>?_<;>first|exact hc.elim|conv=>whnf)|(refine kB ?_))
   all_goals first|rfl|(exfalso;omega)
theorem orderVP:∀(m:Nat) {a b:GV},a.ok→b.ok→dep m a→dep m b→Au (Ac tab) 49 [a.av,b.av] (· =.int .i64 (Ad4 m a b))
 |0,a,b,ha,hb,da,db=>absurd da id
 |m+1,a,b,ha,hb,da,db=>by
  unfold Ad4
  by_cases va:VV 8 a
  ·have p1:=vP ha va
   rw[if_pos va]
   by_cases vb:VV 8 b
   ·have p2:=vP hb vb
    have p3:=orderSP (m+1) ha hb da db va vb
    rw[if_pos vb]
    refine Af rfl rfl ?_
    (conv=>whnf);repeat' (first|((first|refine Aa p1 ?_|refine Aa p2 ?_|refine Aa p3 ?_);rintro _ rfl;conv=>whnf)|(refine kA ?_;conv=>whnf)|(refine Br.mk (fun hc=>?_) fun hc=>?_<;>first|exact hc.elim|conv=>whnf)|(refine kB ?_))
    all_goals first|rfl
   ·have p2:=vPn hb vb
    rw[if_neg vb]
    refine Af rfl rfl ?_
    (conv=>whnf);repeat' (first|((first|refine Aa p1 ?_|refine Aa p2 ?_);rintro _ rfl;conv=>whnf)|(refine kA ?_;conv=>whnf)|(refine Br.mk (fun hc=>?_) fun hc=>?_<;>first|exact hc.elim|conv=>whnf)|(refine kB ?_))
    all_goals first|rfl
  ·have p1:=vPn ha va
   rw[if_neg va]
   by_cases vb:VV 8 b
   ·have p2:=vP hb vb
    rw[if_pos vb]
    refine Af rfl rfl ?_
    (conv=>whnf);repeat' (first|((first|refine Aa p1 ?_|refine Aa p2 ?_);rintro _ rfl;conv=>whnf)|(refine kA ?_;conv=>whnf)|(refine Br.mk (fun hc=>?_) fun hc=>?_<;>first|exact hc.elim|conv=>whnf)|(refine kB ?_))
    all_goals first|rfl
   ·have p2:=vPn hb vb
    rw[if_neg vb]
    have q1:Au (Ac tab) 37 [.int .i64 a.k,.int .i64 b.k] (· =.int .i64 (Ia a.k b.k)):=compare
    have q2:Au (Ac tab) 37 [.int .i64 a.n,.int .i64 b.n] (· =.int .i64 (Ia a.n b.n)):=compare
    have q3:Au (Ac tab) 37 [.int .i64 a.d,.int .i64 b.d] (· =.int .i64 (Ia a.d b.d)):=compare
    have q4:=compareS (x:=a.s) (y:=b.s)
    have q5:=compareFuncP (f:=49) (c:=fun x y=>Ad4 m (AaT x) (AaT y)) (nn:=a.nn) (nn':=b.nn) (okN ha) (okN hb) (fun i hi=>by
     obtain⟨g,e,_⟩:=dep_at da hi
     exact⟨g,e⟩) (fun i hi hi'=>by
     obtain⟨g,e1,g1,g2⟩:=dep_at da hi
     obtain⟨h,e2,h1,h2⟩:=dep_at db hi'
     refine⟨g,h,e1,e2,?_⟩
     rw[e1,e2]
     exact orderVP m g1 h1 g2 h2)
    have q6:=or5P (a:=Ia a.k b.k) (b:=Ia a.n b.n) (c:=Ia a.d b.d) (d:=cS a.s b.s) (e:=JU (fun x y=>Ad4 m (AaT x) (AaT y)) a.l b.l)
    refine Af rfl rfl ?_
    (conv=>whnf);repeat' (first|((first|refine Aa p1 ?_|refine Aa p2 ?_|refine Aa q1 ?_|refine Aa q2 ?_|refine Aa q3 ?_|refine Aa q4 ?_|refine Aa q5 ?_|refine Aa q6 ?_);rintro _ rfl;conv=>whnf)|(refine kA ?_;conv=>whnf)|(refine Br.mk (fun hc=>?_) fun hc=>?_<;>first|exact hc.elim|conv=>whnf)|(refine kB ?_))
    all_goals first|rfl
end
section
open Go.Sort
theorem intsRc {a b:Int}:Au (Ac tab) 59 [.int .i64 a,.int .i64 b] (· =.int .i64 (Ia a b)):=by
 refine Af rfl rfl ?_
 (conv=>whnf);repeat' (first  |(refine kA ?_;conv=>whnf)|(refine Br.mk (fun hc=>?_) fun hc=>?_<;>first|exact hc.elim|conv=>whnf)|(refine kB ?_))
 all_goals exact congrArg (AV.int .i64) (by unfold Ia;repeat' split
                                            all_goals omega)
theorem strsRc {x y:List UInt8}:Au (Ac tab) 88 [.str x,.str y] (· =.int .i64 (cS x y)):=by
 refine Af rfl rfl ?_
 (conv=>whnf);repeat' (first  |(refine kA ?_;conv=>whnf)|(refine Br.mk (fun hc=>?_) fun hc=>?_<;>first|exact hc.elim|conv=>whnf)|(refine kB ?_))
 all_goals first|exact cS_lt hc|exact cS_eq (by assumption) hc|exact cS_gt hc
theorem listsRc {c:AV→AV→Int} {l l':List AV} {nn nn':Bool} (hl:l.length<2^63) (hl':l'.length<2^63) (hel:∀i (h:i<l.length) (h':i<l'.length),ElP 28 c l[i] l'[i]):
 Au (Ac tab) 89 [.sl nn l,.sl nn' l'] (· =.int .i64 (JU c l l')):=by
 refine Af rfl rfl ?_
 (conv=>whnf);repeat' (first  |(refine kA ?_;conv=>whnf)|(refine Br.mk (fun hc=>?_) fun hc=>?_<;>first|exact hc.elim|conv=>whnf)|(refine kB ?_))
 refine Ae (fun m env s=>∃i k:Nat,m=l.length-i∧i≤l.length∧i≤l'.length∧JU c (l.drop i) (l'.drop i)=JU c l l'∧env=[(0,.sl nn l),(1,.sl nn' l'),(5,.int .i64 i)]∧s=⟨[],k⟩) ?_ _ _ _ ⟨0,_,rfl,by omega,by omega,by simp,rfl,rfl⟩
 rintro _ _ _ ⟨i,k,rfl,hi,hj,hc0,rfl,rfl⟩
 refine⟨rfl,?_⟩
 have hfin:(¬ i<l.length∨¬i<l'.length)→Ia l.length l'.length=JU c l l':=fun h=>by
  rw[← hc0]
  by_cases h1:i<l.length
  ·have e2:l'.drop i=[]:=List.drop_eq_nil_of_le (by omega)
   rw[List.drop_eq_getElem_cons h1,e2,JU]
   unfold Ia;repeat' split
   all_goals omega
  ·have e1:l.drop i=[]:=List.drop_eq_nil_of_le (by omega)
   rw[e1]
   by_cases h2:i<l'.length
   ·rw[List.drop_eq_getElem_cons h2,JU]
    unfold Ia;repeat' split
    all_goals omega
   ·have e2:l'.drop i=[]:=List.drop_eq_nil_of_le (by omega)
    rw[e2,JU]
    unfold Ia;repeat' split
    all_goals omega
 have hin:Au (Ac tab) 59 [.int .i64 l.length,.int .i64 l'.length] (· =.int .i64 (Ia l.length l'.length)):=intsRc
 by_cases hlt:i<l.length
 ·by_cases hly:i<l'.length
  ·rw[cmpLs_step hlt hly]at hc0
   obtain⟨gx,gy,e1,e2,hp⟩:=hel i hlt hly
   have n1:nth l (Int.toNat (Nat.cast i))=some gx.av:=by rw[← e1];exact nRN hlt
   have n2:nth l' (Int.toNat (Nat.cast i))=some gy.av:=by rw[← e2];exact nRN hly
   generalize c l[i] l'[i]=z at*
   unfold OU at hc0
   clear hfin hin
   (conv=>whnf);repeat' (first|(apply AU;(· exact n1);conv=>whnf)|(apply AU;(· exact n2);conv=>whnf)|(refine Aa hp ?_;rintro _ rfl;conv=>whnf)|(refine kA ?_;conv=>whnf)|(refine Br.mk (fun hc=>?_) fun hc=>?_<;>first|exact hc.elim|conv=>whnf)|(refine kB ?_))
   all_goals first
        |(rw [if_neg (by assumption)]at hc0;rw[← hc0];rfl)
        |(rw [if_pos (by assumption)]at hc0;exact again.mk ⟨_,by omega,i+1,_,rfl,by omega,by omega,hc0,rfl,rfl⟩)
        |(exfalso;omega)
  ·rw[hfin (.inr hly)]at hin
   (conv=>whnf);repeat' (first|(refine Aa hin ?_;rintro _ rfl;conv=>whnf)|(refine kA ?_;conv=>whnf)|(refine Br.mk (fun hc=>?_) fun hc=>?_<;>first|exact hc.elim|conv=>whnf)|(refine kB ?_))
   all_goals first|rfl|(exfalso;omega)
 ·rw[hfin (.inl hlt)]at hin
  (conv=>whnf);repeat' (first|(refine Aa hin ?_;rintro _ rfl;conv=>whnf)|(refine kA ?_;conv=>whnf)|(refine Br.mk (fun hc=>?_) fun hc=>?_<;>first|exact hc.elim|conv=>whnf)|(refine kB ?_))
  all_goals first|rfl|(exfalso;omega)
theorem fieldsRc {a b:GV} {L:Int} (hL:Au (Ac tab) 89 [.sl a.nn a.l,.sl b.nn b.l] (· =.int .i64 L)):
 Au (Ac tab) 58 [a.av,b.av] (· =.int .i64 (OU (Ia a.k b.k) (OU (Ia a.n b.n) (OU (Ia a.d b.d) (OU (cS a.s b.s) L))))):=by
 have q1:Au (Ac tab) 59 [.int .i64 a.k,.int .i64 b.k] (· =.int .i64 (Ia a.k b.k)):=intsRc
 have q2:Au (Ac tab) 59 [.int .i64 a.n,.int .i64 b.n] (· =.int .i64 (Ia a.n b.n)):=intsRc
 have q3:Au (Ac tab) 59 [.int .i64 a.d,.int .i64 b.d] (· =.int .i64 (Ia a.d b.d)):=intsRc
 have q4:=strsRc (x:=a.s) (y:=b.s)
 generalize Ia a.k b.k=z1 at*
 generalize Ia a.n b.n=z2 at*
 generalize Ia a.d b.d=z3 at*
 generalize cS a.s b.s=z4 at*
 have e:∀x y:Int,x=y→AV.int .i64 x=.int .i64 y:=fun x y h=>by rw[h]
 refine Af rfl rfl ?_
 (conv=>whnf);repeat' (first|((first|refine Aa q1 ?_|refine Aa q2 ?_|refine Aa q3 ?_|refine Aa q4 ?_|refine Aa hL ?_);rintro _ rfl;conv=>whnf)|(refine kA ?_;conv=>whnf)|(refine Br.mk (fun hc=>?_) fun hc=>?_<;>first|exact hc.elim|conv=>whnf)|(refine kB ?_))
 all_goals first
  |exact e _ _ (by rw[fst0_n (by assumption)])
  |exact e _ _ (by unfold OU;repeat' split
                   all_goals omega)
theorem kinds_le {a:GV} (h:VV 8 a):0≤a.k∧a.k≤8:=by
 by_cases h7:a.k=7
 ·omega
 ·by_cases h8:a.k=8
  ·omega
  ·rw[VV_b h7 h8]at h
   obtain⟨_,h⟩:=h
   omega
theorem cls_iso {k k':Int} (h:0≤k∧k≤8) (h':0≤k'∧k'≤8):Ia (clsR k) (clsR k')=Ia (AcI k) (AcI k'):=by
 have h1:k=0∨k=1∨k=2∨k=3∨k=4∨k=5∨k=6∨k=7∨k=8:=by omega
 have h2:k'=0∨k'=1∨k'=2∨k'=3∨k'=4∨k'=5∨k'=6∨k'=7∨k'=8:=by omega
 rcases h1 with rfl|rfl|rfl|rfl|rfl|rfl|rfl|rfl|rfl<;>rcases h2 with rfl|rfl|rfl|rfl|rfl|rfl|rfl|rfl|rfl<;>decide
theorem plainF {a:GV} (h:VV 8 a) (h2:¬AcI a.k=2):a.d=0∧(a.k=4→a.n=0)∧(a.k≠4→a.s=[]):=by
 rw[cls2]at h2
 by_cases h7:a.k=7
 ·have:=(VV_7 h7).1 h
  exact⟨this.2.1,fun h=>by omega,fun _=>this.2.2.1⟩
 ·by_cases h8:a.k=8
  ·have:=(VV_8 (m:=7) h8).1 h
   exact⟨this.2.1,fun h=>by omega,fun _=>this.2.2.1⟩
  ·obtain⟨k1,k2⟩:=kindR h h7 h8
   rw[VV_b h7 h8]at h
   obtain⟨_,h⟩:=h
   refine⟨?_,k1,k2⟩
   rcases h with h|h|h|h|h|h<;>first|exact h.2.2.1|exact h.2.2.2.1|(exfalso;omega)
set_option maxHeartbeats 1000000 in
theorem orderVR:∀(m:Nat) {a b:GV},a.ok→b.ok→dep m a→dep m b→Au (Ac tab) 28 [a.av,b.av] (· =.int .i64 (Ad4 m a b))
 |0,a,b,ha,hb,da,db=>absurd da id
 |m+1,a,b,ha,hb,da,db=>by
  unfold Ad4
  by_cases va:VV 8 a
  ·have p1:=vR ha va
   rw[if_pos va]
   by_cases vb:VV 8 b
   ·have p2:=vR hb vb
    rw[if_pos vb]
    have k1:=classR (k:=a.k)
    have k2:=classR (k:=b.k)
    have k3:Au (Ac tab) 59 [.int .i64 (clsR a.k),.int .i64 (clsR b.k)] (· =.int .i64 (Ia (AcI a.k) (AcI b.k))):=by
     rw[← cls_iso (kinds_le va) (kinds_le vb)];exact intsRc
    unfold AeQ
    by_cases h0:Ia (AcI a.k) (AcI b.k)=0
    ·rw[h0,fst0_z]
     rw[h0]at k3
     have he:=cmpI_zero.1 h0
     by_cases h2:AcI a.k=2
     ·rw[if_pos h2]
      have na:Afx a:=⟨va,cls2.1 h2⟩
      have nb:Afx b:=⟨vb,cls2.1 (by omega)⟩
      have q1:=nR1 ha na
      have q2:=nR1 hb nb
      have q3:=cmpR3 (isNm_VF na) (isNm_VF nb)
      unfold AeP
      rw[isNm_pd na,isNm_pd nb]
      refine Af rfl rfl ?_
      (conv=>whnf);repeat' (first|((first|refine Aa p1 ?_|refine Aa p2 ?_|refine Aa k1 ?_|refine Aa k2 ?_|refine Aa k3 ?_|refine Aa q1 ?_|refine Aa q2 ?_|refine Aa q3 ?_);rintro _ rfl;conv=>whnf)|(refine kA ?_;conv=>whnf)|(refine Br.mk (fun hc=>?_) fun hc=>?_<;>first|exact hc.elim|conv=>whnf)|(refine kB ?_))
      all_goals first|rfl|(exfalso;omega)
     ·rw[if_neg h2]
      have na:¬Afx a:=fun h=>h2 (cls2.2 h.2)
      have nb:¬Afx b:=fun h=>h2 (by rw[he];exact cls2.2 h.2)
      have q1:=nR0 ha na
      have q2:=nR0 hb nb
      have hkk:a.k=b.k:=by
        have:=kinds_le va
        have:=kinds_le vb
        rw[cls2]at h2
        unfold AcI at he
        repeat' split at he
        all_goals omega
      obtain⟨f1,f2,f3⟩:=plainF va h2
      obtain⟨g1,g2,g3⟩:=plainF vb (by rw[← he];exact h2)
      have q3:=fieldsRc (a:=a) (b:=b) (listsRc (c:=fun x y=>AeQ m (AaT x) (AaT y)) (nn:=a.nn) (nn':=b.nn) (okN ha) (okN hb) (fun i hi hi'=>by
        obtain⟨g,e1,g1,g2⟩:=dep_at da hi
        obtain⟨h,e2,h1,h2⟩:=dep_at db hi'
        refine⟨g,h,e1,e2,?_⟩
        rw[e1,e2]
        have:=orderVR m g1 h1 g2 h2
        have e:Ad4 m g h=AeQ m g h:=by
         cases m with
         |zero=>exact absurd g2 id
         |succ m=>unfold Ad4;rw[if_pos (elemV va hi e1),if_pos (elemV vb hi' e2)]
        rw[e]at this
        exact this))
      have e:OU (Ia a.k b.k) (OU (Ia a.n b.n) (OU (Ia a.d b.d) (OU (cS a.s b.s) (JU (fun x y=>AeQ m (AaT x) (AaT y)) a.l b.l))))=OU (cS a.s b.s) (OU (Ia a.n b.n) (JU (fun x y=>AeQ m (AaT x) (AaT y)) a.l b.l)):=by
        rw[cmpI_zero.2 hkk,fst0_z,f1,g1,cmpI_zero.2 rfl,fst0_z]
        by_cases h4:a.k=4
        ·rw[f2 h4,g2 (by omega),cmpI_zero.2 rfl,fst0_z,fst0_z]
        ·rw[f3 h4,g3 (by omega),cS_zero.2 rfl,fst0_z,fst0_z]
      rw[e]at q3
      refine Af rfl rfl ?_
      (conv=>whnf);repeat' (first|((first|refine Aa p1 ?_|refine Aa p2 ?_|refine Aa k1 ?_|refine Aa k2 ?_|refine Aa k3 ?_|refine Aa q1 ?_|refine Aa q2 ?_|refine Aa q3 ?_);rintro _ rfl;conv=>whnf)|(refine kA ?_;conv=>whnf)|(refine Br.mk (fun hc=>?_) fun hc=>?_<;>first|exact hc.elim|conv=>whnf)|(refine kB ?_))
      all_goals first|rfl|(exfalso;omega)
    ·rw[fst0_n h0]
     refine Af rfl rfl ?_
     (conv=>whnf);repeat' (first|((first|refine Aa p1 ?_|refine Aa p2 ?_|refine Aa k1 ?_|refine Aa k2 ?_|refine Aa k3 ?_);rintro _ rfl;conv=>whnf)|(refine kA ?_;conv=>whnf)|(refine Br.mk (fun hc=>?_) fun hc=>?_<;>first|exact hc.elim|conv=>whnf)|(refine kB ?_))
     all_goals first|rfl|(exfalso;omega)
   ·have p2:=vRn hb vb
    rw[if_neg vb]
    refine Af rfl rfl ?_
    (conv=>whnf);repeat' (first|((first|refine Aa p1 ?_|refine Aa p2 ?_|refine Aa yesT ?_|refine Aa yesF' ?_);rintro _ rfl;conv=>whnf)|(refine kA ?_;conv=>whnf)|(refine Br.mk (fun hc=>?_) fun hc=>?_<;>first|exact hc.elim|conv=>whnf)|(refine kB ?_))
    all_goals first|rfl|(exfalso;simp_all;done)
  ·have p1:=vRn ha va
   rw[if_neg va]
   by_cases vb:VV 8 b
   ·have p2:=vR hb vb
    rw[if_pos vb]
    refine Af rfl rfl ?_
    (conv=>whnf);repeat' (first|((first|refine Aa p1 ?_|refine Aa p2 ?_|refine Aa yesT ?_|refine Aa yesF' ?_);rintro _ rfl;conv=>whnf)|(refine kA ?_;conv=>whnf)|(refine Br.mk (fun hc=>?_) fun hc=>?_<;>first|exact hc.elim|conv=>whnf)|(refine kB ?_))
    all_goals first|rfl|(exfalso;simp_all;done)
   ·have p2:=vRn hb vb
    rw[if_neg vb]
    have q3:=fieldsRc (a:=a) (b:=b) (listsRc (c:=fun x y=>Ad4 m (AaT x) (AaT y)) (nn:=a.nn) (nn':=b.nn) (okN ha) (okN hb) (fun i hi hi'=>by
     obtain⟨g,e1,g1,g2⟩:=dep_at da hi
     obtain⟨h,e2,h1,h2⟩:=dep_at db hi'
     refine⟨g,h,e1,e2,?_⟩
     rw[e1,e2]
     exact orderVR m g1 h1 g2 h2))
    refine Af rfl rfl ?_
    (conv=>whnf);repeat' (first|((first|refine Aa p1 ?_|refine Aa p2 ?_|refine Aa q3 ?_);rintro _ rfl;conv=>whnf)|(refine kA ?_;conv=>whnf)|(refine Br.mk (fun hc=>?_) fun hc=>?_<;>first|exact hc.elim|conv=>whnf)|(refine kB ?_))
    all_goals first|rfl|(exfalso;simp_all;done)
end
section
open Go.Sort
def gvK (k:Int) (n:Int):GV:=⟨k,n,0,[],false,[]⟩
def wav (k:Int):List Int→List AV
 |[]=>[]
 |n::l=>(gvK k n).av::wav (11-k) l
theorem wav_len:∀{l:List Int} {k:Int},(wav k l).length=l.length
 |[],_=>rfl
 |n::l,k=>by simp[wav,wav_len]
def gvP (l:List Int):GV:=⟨7,0,0,[],true,wav 5 l⟩
theorem wav_mem:∀{l:List Int} {k:Int} {x:AV},x∈wav k l→∃j n,(j=k∨j=11-k)∧n∈l∧x=(gvK j n).av
 |n::l,k,x,h=>by
  rcases List.mem_cons.1 h with rfl|h
  ·exact⟨k,n,.inl rfl,by simp,rfl⟩
  ·obtain⟨j,m,h1,h2,h3⟩:=wav_mem h
   exact⟨j,m,by omega,by simp[h2],h3⟩
theorem WH:∀{l m:List Int} {k:Int},wav k l=wav k m→l=m
 |[],[],_,_=>rfl
 |[],b::m,_,h=>by simp[wav]at h
 |a::l,[],_,h=>by simp[wav]at h
 |a::l,b::m,k,h=>by
  simp only[wav,List.cons.injEq]at h
  obtain⟨h1,h2⟩:=h
  have e:a=b:=by
   simp only[GV.av,gvK,AV.agg.injEq,List.cons.injEq,AV.int.injEq]at h1
   exact h1.2.1.2
  rw[e,WH h2]
theorem gvK_ok {k n:Int} (hk:k=5∨k=6) (h:I64 n):(gvK k n).ok:=by
 unfold GV.ok gvK I64 Ln at*
 dsimp only
 refine⟨by omega,by omega,by omega,by simp,by simp,fun _=>rfl,by simp⟩
structure Wk where
 l:List Int
 h:l.length≤1000∧∀n∈l,I64 n
def Wk.av (x:Wk):AV:=(gvP x.l).av
instance:DecidableEq Wk:=fun x y=>if h:x.l=y.l then isTrue (by obtain⟨l,hl⟩:=x;obtain⟨m,hm⟩:=y;obtain rfl:l=m:=h;rfl)else isFalse fun e=>h (by rw[e])
instance:Inhabited Wk:=⟨⟨[],by simp,by simp⟩⟩
theorem cellsWk (x:Wk):x.av.cells.length=5:=rfl
theorem Wk.G7 {x y:Wk} (h:x.av=y.av):x=y:=by
 obtain⟨l,hl⟩:=x;obtain⟨m,hm⟩:=y
 simp only[Wk.av,gvP,GV.av,AV.agg.injEq,List.cons.injEq,AV.sl.injEq]at h
 have:=WH h.2.2.2.2.1.2
 subst this
 rfl
theorem wk_dep (x:Wk):dep 2 (gvP x.l):=by
 intro y hy
 obtain⟨j,n,hj,hn,rfl⟩:=wav_mem hy
 exact⟨gvK j n,rfl,gvK_ok (by omega) (x.h.2 n hn),fun z hz=>by cases hz⟩
theorem wav_cmp {c:AV→AV→Int} (hc:∀k a b,(k=5∨k=6)→c (gvK k a).av (gvK k b).av=0→a=b):∀{l m:List Int} {k:Int},(k=5∨k=6)→JU c (wav k l) (wav k m)=0→l=m
 |[],[],_,_,_=>rfl
 |[],b::m,_,_,h=>absurd h (by show¬(-1:Int)=0;omega)
 |a::l,[],_,_,h=>absurd h (by show¬(1:Int)=0;omega)
 |a::l,b::m,k,hk,h=>by
  simp only[wav,JU]at h
  rw[fst0_zero]at h
  rw[hc k a b hk h.1,wav_cmp hc (by omega) h.2]
theorem ord1_zero {k a b:Int} (hk:k=5∨k=6) (h:AeQ 1 (gvK k a) (gvK k b)=0):a=b:=by
 have h2:¬AcI (gvK k a).k=2:=by show¬AcI k=2;rcases hk with rfl|rfl<;>decide
 unfold AeQ at h
 rw[fst0_zero,if_neg h2,fst0_zero,fst0_zero]at h
 exact cmpI_zero.1 h.2.2.1
theorem cmp1_zero {k a b:Int} (hk:k=5∨k=6) (h:Ad4 1 (gvK k a) (gvK k b)=0):a=b:=by
 unfold Ad4 at h
 split at h
 ·split at h
  ·exact ord1_zero hk h
  ·omega
 ·split at h
  ·omega
  ·rw[fst0_zero,fst0_zero]at h
   exact cmpI_zero.1 h.2.1
theorem cmpP_zero {l m:List Int} (h:Ad4 2 (gvP l) (gvP m)=0):l=m:=by
 unfold Ad4 at h
 split at h
 ·split at h
  ·unfold AeQ at h
   have h2:¬AcI (gvP l).k=2:=by show¬AcI 7=2;decide
   rw[fst0_zero,if_neg h2,fst0_zero,fst0_zero]at h
   exact wav_cmp (fun k a b hk h=>ord1_zero hk h) (.inl rfl) h.2.2.2
  ·omega
 ·split at h
  ·omega
  ·rw[fst0_zero,fst0_zero,fst0_zero,fst0_zero]at h
   exact wav_cmp (fun k a b hk h=>cmp1_zero hk h) (.inl rfl) h.2.2.2.2
noncomputable def Yq (x:Wk):Int:=if VV 8 (gvP x.l)then((x.l.length / 2:Nat):Int)else -1
noncomputable def Ad3 (x y:Wk):Int:=OU (Ia (Yq x) (Yq y)) (Ad4 2 (gvP x.l) (gvP y.l))
theorem pc_ordW:PC Ad3:=(AcD.on Yq).lex ((pc_cmpV 2).on fun x:Wk=>gvP x.l)
theorem ordW_zero {x y:Wk} (h:Ad3 x y=0):x=y:=by
 have:=cmpP_zero (fst0_zero.1 h).2
 obtain⟨l,hl⟩:=x;obtain⟨m,hm⟩:=y
 obtain rfl:l=m:=this
 rfl
theorem leaf_like {k n:Int} (hk:I64 k) (hn:I64 n):Like Tryz.prog 45 (gvK k n).av:=by
 have wi:∀z:Int,I64 z→(Lit.int .i64 z).wf=true:=fun z h=>by
  have h1:IntKind.i64.min=-2^63:=by rfl
  have h2:IntKind.i64.max=2^63-1:=by rfl
  unfold I64 at h
  simp[Lit.wf]
  omega
 refine⟨3,[.int .i64 k,.int .i64 n,.int .i64 0,.str [],.sl false []],?_,by simp only[pack,Tryz.underlying45];rfl⟩
 simp only[BZ,Tryz.underlying45,RG]
 refine⟨rfl,?_⟩
 simp only[List.forall_mem_cons]
 simp only[TD,Lh,TF,List.drop_zero,List.drop_succ_cons,List.take_succ_cons,List.take_zero,Tryz.underlying3,Tryz.underlying9,Tryz.underlying42]
 exact⟨⟨k,rfl,wi k hk⟩,⟨n,rfl,wi n hn⟩,⟨0,rfl,wi 0 (by unfold I64;omega)⟩,⟨[],rfl,Nat.zero_le _⟩,by simp,by simp⟩
theorem wk_ok (x:Wk):(gvP x.l).ok:=by
 have:=x.h.1
 unfold GV.ok gvP I64 Ln
 dsimp only
 refine⟨by omega,by omega,by omega,by simp,by rw[wav_len];omega,fun h=>(by cases h),fun y hy=>?_⟩
 obtain⟨j,n,hj,hn,rfl⟩:=wav_mem hy
 exact leaf_like (by unfold I64;omega) (x.h.2 n hn)
theorem wrap2 {n:Nat} {K:AV→Prop} (h:n<2^63) (hk:K (.int .i64 ((n / 2:Nat):Int))):Ip .i64 ((n:Int).tdiv 2) K:=by
 have e:(n:Int).tdiv 2=((n / 2:Nat):Int):=by
  rw[Int.tdiv_eq_ediv_of_nonneg (by omega)];rfl
 rw[e]
 exact Dz (wrap_i64 (by omega) (by omega)) hk
theorem hopsP (x:Wk):Au (Ac tab) 78 [x.av] (· =.int .i64 (Yq x)):=by
 have hl:=x.h.1
 have ho:=wk_ok x
 have hw:(gvP x.l).l.length=x.l.length:=wav_len
 unfold Yq
 by_cases hv:VV 8 (gvP x.l)
 ·have p:=vP ho hv
  rw[if_pos hv]
  refine Af rfl rfl ?_
  (conv=>whnf);repeat' (first|(refine Aa p ?_;rintro _ rfl;conv=>whnf)|(refine wrap2 (n:=(wav 5 x.l).length) (by rw[wav_len];omega) ?_;conv=>whnf)|(refine kA ?_;conv=>whnf)|(refine Br.mk (fun hc=>?_) fun hc=>?_<;>first|exact hc.elim|conv=>whnf)|(refine kB ?_))
  all_goals first|exact congrArg (AV.int .i64) (by rw[wav_len])|(exfalso;omega)|exact absurd rfl (by assumption)
 ·have p:=vPn ho hv
  rw[if_neg hv]
  refine Af rfl rfl ?_
  (conv=>whnf);repeat' (first|(refine Aa p ?_;rintro _ rfl;conv=>whnf)|(refine kA ?_;conv=>whnf)|(refine Br.mk (fun hc=>?_) fun hc=>?_<;>first|exact hc.elim|conv=>whnf)|(refine kB ?_))
  all_goals first|rfl|(exfalso;omega)|exact absurd rfl (by assumption)
theorem orderWk {x y:Wk}:Au (Ac tab) 46 [x.av,y.av] (· =.int .i64 (Ad3 x y)):=by
 have p1:=hopsP x
 have p2:=hopsP y
 have p3:Au (Ac tab) 37 [.int .i64 (Yq x),.int .i64 (Yq y)] (· =.int .i64 (Ia (Yq x) (Yq y))):=compare
 have p4:=orderVP 2 (wk_ok x) (wk_ok y) (wk_dep x) (wk_dep y)
 have p5:Au (Ac tab) 77 [.sl true [.int .i64 (Ia (Yq x) (Yq y)),.int .i64 (Ad4 2 (gvP x.l) (gvP y.l))]] (· =.int .i64 (Ad3 x y)):=by
  have h:=orV (l:=[Ia (Yq x) (Yq y),Ad4 2 (gvP x.l) (gvP y.l)]) (nn:=true) (by simp)
  have e:fnz [Ia (Yq x) (Yq y),Ad4 2 (gvP x.l) (gvP y.l)]=Ad3 x y:=by
   unfold Ad3
   simp only[fnz];congr 1;unfold OU;split<;>omega
  rw[e]at h
  exact h
 refine Af rfl rfl ?_
 (conv=>whnf);repeat' (first|((first|refine Aa p1 ?_|refine Aa p2 ?_|refine Aa p3 ?_|refine Aa p4 ?_|refine Aa p5 ?_);rintro _ rfl;conv=>whnf)|(refine kA ?_;conv=>whnf)|(refine Br.mk (fun hc=>?_) fun hc=>?_<;>first|exact hc.elim|conv=>whnf)|(refine kB ?_))
 all_goals first|rfl
theorem eqWk {x y:Wk}:Au (Ac tab) 48 [x.av,y.av] (· =.bool (decide (x=y))):=by
 have p4:=orderVP 2 (wk_ok x) (wk_ok y) (wk_dep x) (wk_dep y)
 have e:Ad4 2 (gvP x.l) (gvP y.l)=0↔x=y:=by
  constructor
  ·intro h
   have:=cmpP_zero h
   obtain⟨l,hl⟩:=x;obtain⟨m,hm⟩:=y
   obtain rfl:l=m:=this
   rfl
  ·rintro rfl
   have:=(pc_cmpV 2).anti (gvP x.l) (gvP x.l)
   omega
 generalize Ad4 2 (gvP x.l) (gvP y.l)=z at*
 refine Af rfl rfl ?_
 (conv=>whnf);repeat' (first|(refine Aa p4 ?_;rintro _ rfl;conv=>whnf)|(refine kA ?_;conv=>whnf)|(refine Br.mk (fun hc=>?_) fun hc=>?_<;>first|exact hc.elim|conv=>whnf)|(refine kB ?_))
 all_goals first|exact Dk (e.1 (by assumption))|exact BU (fun h=>absurd (e.2 h) (by assumption))|(show AV.bool (z==0)=_;by_cases hz:z=0;·rw[hz,decide_eq_true (e.1 hz)];rfl;·rw[decide_eq_false (fun h=>hz (e.2 h))];simp[hz])
noncomputable def AfW (x y:Wk):Bool:=decide (Ad3 x y<0)
theorem ltWk_swo:SWO AfW:=pc_ordW.swo
theorem pcaseWk {x y:Wk} {A B:Prop} (h1:AfW x y=true→A) (h2:AfW x y=false→B):KH (Ad3 x y<0) A B:=
 ⟨fun h=>h1 (decide_eq_true h),fun h=>h2 (decide_eq_false h)⟩
attribute [irreducible] AfW Ad3 Yq
end
end AI
end Go.Proofs.YthjeehjphekjmaaGreatDoor
