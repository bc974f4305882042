/- The program's order of a value and null. The order of values: plain. The order of values: the program's walks. The order of values: the reference's walks. The arguments of the laws about indexes: entries, questions. Entries without lists: their order, the program's and the reference's. -/
import Derived.Test.YtceiccjppfapjaaGreatDoorXMag
import Derived.Test.YtceiccjppfapjaaGreatDoorXMae
import Derived.Test.YtceiccjppfapjaaGreatDoorXMaf
set_option linter.unusedVariables false
set_option maxRecDepth 4000
namespace Go.Proofs.YtceiccjppfapjaaGreatDoor
namespace AI
theorem UW {v:GV} (hk:v.k=0):VV 8 v↔isNull v:=by
 rw[RY (by omega) (by omega)]
 unfold VB isNull
 constructor
 ·rintro⟨h1,h⟩
  rcases h with h|h|h|h|h|h<;>first|exact⟨hk,h.2.1,h.2.2.1,h.2.2.2,h1⟩|(exfalso;omega)
 ·rintro⟨_,h1,h2,h3,h4⟩
  exact⟨h4,.inl ⟨hk,h1,h2,h3⟩⟩
def ED (k:Int):Int:=if k=3 then 2 else if k=7 then 9 else k
theorem OA {v:GV}:Ae (Ad tab) 306 [v.av] (· =.int .i64 (ED v.k)):=by
 refine Ac rfl rfl ?_
 (conv=>whnf);repeat' (first  |(refine kA ?_;conv=>whnf)|(refine Br.mk (fun hc=>?_) fun hc=>?_<;>first|exact hc.elim|conv=>whnf)|(refine kB ?_))
 all_goals first|(unfold ED;rw[if_pos (by assumption)];rfl)|(unfold ED;rw[if_neg (by assumption),if_pos (by assumption)];rfl)|(unfold ED;rw[if_neg (by assumption),if_neg (by assumption)];rfl)
theorem AiF {k:Int}:ED k=0↔k=0:=by unfold ED;split<;>(try split)<;>omega
theorem AiG:Ae (Ad tab) 148 [.str [],.str []] (· =.int .i64 0):=⟨_,⟨20,by kernel_rfl⟩,rfl⟩
theorem or3 {nn:Bool}:Ae (Ad tab) 147 [.sl nn [.int .i64 0,.int .i64 0,.int .i64 0]] (· =.int .i64 0):=by
 cases nn
 ·exact⟨_,⟨20,by kernel_rfl⟩,rfl⟩
 ·exact⟨_,⟨20,by kernel_rfl⟩,rfl⟩
theorem AiH {nn:Bool} {f:Nat}:Ae (Ad tab) 236 [.sl nn [],.sl false [],.fn f []] (· =.int .i64 0):=by
 refine Ac rfl rfl ?_
 (conv=>whnf);repeat' (first  |(refine kA ?_;conv=>whnf)|(refine Br.mk (fun hc=>?_) fun hc=>?_<;>first|exact hc.elim|conv=>whnf)|(refine kB ?_))
 refine Ag (fun m env s=>m=0∧env=[(0,.sl nn []),(1,.sl false []),(2,.fn f []),(11,.sl nn []),(12,.int .i64 0),(13,.int .i64 0)]∧s=⟨[],0⟩) ?_ _ _ _ ⟨rfl,rfl,rfl⟩
 rintro _ _ _ ⟨rfl,rfl,rfl⟩
 refine⟨rfl,?_⟩
 (conv=>whnf);repeat' (first  |(refine kA ?_;conv=>whnf)|(refine Br.mk (fun hc=>?_) fun hc=>?_<;>first|exact hc.elim|conv=>whnf)|(refine kB ?_))
 all_goals first|rfl|(exfalso;simp_all)
theorem AgQ {v:GV} (h:isNull v):Ae (Ad tab) 235 [v.av,RU.av] (· =.int .i64 0):=by
 obtain⟨k,n,d,s,nn,l⟩:=v
 obtain⟨h1,h2,h3,h4,h5⟩:=h
 dsimp only at h1 h2 h3 h4 h5
 subst h1 h2 h3 h4
 obtain rfl:l=[]:=List.eq_nil_of_length_eq_zero h5
 have hc1:Ae (Ad tab) 306 [GV.av ⟨0,0,0,[],nn,[]⟩] (· =.int .i64 0):=OA (v:=⟨0,0,0,[],nn,[]⟩)
 have hc2:Ae (Ad tab) 306 [RU.av] (· =.int .i64 0):=OA (v:=RU)
 have hc3:Ae (Ad tab) 150 [.int .i64 0,.int .i64 0] (· =.int .i64 0):=compare
 refine Ac rfl rfl ?_
 (conv=>whnf);repeat' (first|((first|refine Aa hc1 ?_|refine Aa hc2 ?_|refine Aa hc3 ?_|refine Aa AiG ?_|refine Aa AiH ?_|refine Aa or3 ?_);rintro _ rfl;conv=>whnf)|(refine kA ?_;conv=>whnf)|(refine Br.mk (fun hc=>?_) fun hc=>?_<;>first|exact hc.elim|conv=>whnf)|(refine kB ?_))
 all_goals first|rfl|(exfalso;simp_all)
theorem AeF {v:GV} (h:v.k≠0):Ae (Ad tab) 235 [v.av,RU.av] (fun w=>∃z,w=.int .i64 z∧z≠0):=by
 have hc2:Ae (Ad tab) 306 [RU.av] (· =.int .i64 0):=OA (v:=RU)
 obtain⟨z,hz,hz0⟩:∃z,CJ (ED v.k) 0=z∧z≠0:=⟨_,rfl,fun h0=>h (AiF.1 (Dq.1 h0))⟩
 have hc3:Ae (Ad tab) 150 [.int .i64 (ED v.k),.int .i64 0] (· =.int .i64 z):=hz▸compare
 refine Ac rfl rfl ?_
 (conv=>whnf);repeat' (first|((first|refine Aa (OA (v:=v)) ?_|refine Aa hc2 ?_|refine Aa hc3 ?_);rintro _ rfl;conv=>whnf)|(refine kA ?_;conv=>whnf)|(refine Br.mk (fun hc=>?_) fun hc=>?_<;>first|exact hc.elim|conv=>whnf)|(refine kB ?_))
 all_goals first|exact⟨_,rfl,hz0⟩|(exfalso;omega)
theorem Y9 {v:GV} (hv:v.ok):Ae (Ad tab) 149 [v.av,RU.av] (fun w=>∃z,w=.int .i64 z∧(z=0↔isNull v)):=by
 have hq:Ae (Ad tab) 232 [RU.av] (· =.bool true):=by
  have:=Uy UO;rwa [decide_eq_true ((UW rfl).2 WM)]at this
 have hp:=Uy hv
 by_cases hVV:VV 8 v
 ·rw[decide_eq_true hVV]at hp
  by_cases hk:v.k=0
  ·have hn:=(UW hk).1 hVV
   refine Ac rfl rfl ?_
   (conv=>whnf);repeat' (first|((first|refine Aa hp ?_|refine Aa hq ?_|refine Aa (AgQ hn) ?_);rintro _ rfl;conv=>whnf)|(refine kA ?_;conv=>whnf)|(refine Br.mk (fun hc=>?_) fun hc=>?_<;>first|exact hc.elim|conv=>whnf)|(refine kB ?_))
   all_goals first|exact⟨_,rfl,fun _=>hn,fun _=>rfl⟩
  ·refine Ac rfl rfl ?_
   (conv=>whnf);repeat' (first|((first|refine Aa hp ?_|refine Aa hq ?_);rintro _ rfl;conv=>whnf)|(refine Aa (AeF hk) ?_;rintro _ ⟨z,rfl,hz⟩;conv=>whnf)|(refine kA ?_;conv=>whnf)|(refine Br.mk (fun hc=>?_) fun hc=>?_<;>first|exact hc.elim|conv=>whnf)|(refine kB ?_))
   all_goals first|exact⟨_,rfl,fun h=>absurd h hz,fun h=>absurd h.1 hk⟩
 ·rw[decide_eq_false hVV]at hp
  have hn:¬isNull v:=fun h=>hVV ((UW h.1).2 h)
  refine Ac rfl rfl ?_
  (conv=>whnf);repeat' (first|((first|refine Aa hp ?_|refine Aa hq ?_);rintro _ rfl;conv=>whnf)|(refine kA ?_;conv=>whnf)|(refine Br.mk (fun hc=>?_) fun hc=>?_<;>first|exact hc.elim|conv=>whnf)|(refine kB ?_))
  all_goals first|exact⟨_,rfl,fun h=>absurd h (by decide),fun h=>absurd h hn⟩
section
open Go.Sort
def IB:AV→GV
 | .agg [.int _ k,.int _ n,.int _ d,.str s,.sl nn l]=>⟨k,n,d,s,nn,l⟩
 |_=>⟨0,0,0,[],false,[]⟩
def dep:Nat→GV→Prop
 |0,_=>False
 |m+1,v=>∀x∈v.l,∃g:GV,x=g.av∧g.ok∧dep m g
theorem ML:∀{m k:Nat} {v:GV},m≤k→dep m v→dep k v
 |0,_,_,_,h=>absurd h id
 |m+1,0,_,h,_=>by omega
 |m+1,k+1,v,h,hd=>fun x hx=>by
  obtain⟨g,e,h1,h2⟩:=hd x hx
  exact⟨g,e,h1,ML (by omega) h2⟩
def Du (c:AV→AV→Int):List AV→List AV→Int
 |[],[]=>0
 |[],_::_=>-1
 |_::_,[]=>1
 |a::x,b::y=>Cj (c a b) (Du c x y)
theorem RD {c:AV→AV→Int} (hc:PC c):∀x y,Du c y x=-Du c x y
 |[],[]=>rfl
 |[],_::_=>rfl
 |_::_,[]=>rfl
 |a::x,b::y=>by
  have h1:=hc.anti a b
  have h2:=RD hc x y
  simp only[Du,Cj]
  split<;>split<;>omega
theorem PG {c:AV→AV→Int} (hc:PC c):∀x y z,Du c x y≤0→Du c y z≤0→Du c x z≤0
 |[],_,[],_,_=>Int.le_refl 0
 |[],_,_::_,_,_=>by show(-1:Int)≤0;omega
 |_::_,[],_,h,_=>absurd h (by show¬(1:Int)≤0;omega)
 |_::_,_::_,[],_,h=>absurd h (by show¬(1:Int)≤0;omega)
 |a::x,b::y,d::z,h1,h2=>by
  have ih:=PG hc x y z
  have a1:=hc.trans a b d
  have a2:=hc.trans b d a
  have a3:=hc.trans d a b
  have b1:=hc.anti a b
  have b2:=hc.anti b d
  have b3:=hc.anti a d
  simp only[Du,Cj]at*
  split at h1<;>split at h2<;>split<;>omega
theorem PC.lists {c:AV→AV→Int} (hc:PC c):PC (Du c):=⟨RD hc,PG hc⟩
theorem Qs {c:AV→AV→Int} {x y:List AV} {i:Nat} (hx:i<x.length) (hy:i<y.length):Du c (x.drop i) (y.drop i)=Cj (c x[i] y[i]) (Du c (x.drop (i+1)) (y.drop (i+1))):=by
 rw[List.drop_eq_getElem_cons hx,List.drop_eq_getElem_cons hy,Du]
theorem PC.Ai7 {α:Type} {c d e:α→α→Int} {p:α→Prop} [DecidablePred p] (hc:PC c) (hd:PC d) (he:PC e) (hp:∀x y,c x y=0→(p x↔p y)):PC fun x y=>Cj (c x y) (if p x then d x y else e x y) where
 anti x y:=by
  have h1:=hc.anti x y
  have h2:=hd.anti x y
  have h3:=he.anti x y
  have h4:=hp x y
  unfold Cj
  by_cases h0:c x y=0
  ·rw[if_pos (by omega),if_pos h0]
   by_cases hx:p x
   ·rw[if_pos hx,if_pos ((h4 h0).1 hx)];exact h2
   ·rw[if_neg hx,if_neg (fun h=>hx ((h4 h0).2 h))];exact h3
  ·rw[if_neg (by omega),if_neg h0];exact h1
 trans x y z h1 h2:=by
  have a0:=hc.trans z y x
  have a1:=hc.trans x y z
  have a2:=hc.trans y z x
  have a3:=hc.trans z x y
  have b1:=hc.anti x y
  have b2:=hc.anti y z
  have b3:=hc.anti x z
  have d1:=hd.trans x y z
  have e1:=he.trans x y z
  have p1:=hp x y
  have p2:=hp y z
  unfold Cj at*
  by_cases h0:c x y=0
  ·rw[if_pos h0]at h1
   by_cases h00:c y z=0
   ·rw[if_pos h00]at h2
    rw[if_pos (by omega)]
    by_cases hx:p x
    ·rw[if_pos hx]at h1 ⊢
     rw[if_pos ((p1 h0).1 hx)]at h2
     exact d1 h1 h2
    ·rw[if_neg hx]at h1 ⊢
     rw[if_neg (fun h=>hx ((p1 h0).2 h))]at h2
     exact e1 h1 h2
   ·rw[if_neg h00]at h2
    rw[if_neg (by omega)]
    omega
  ·rw[if_neg h0]at h1
   by_cases h00:c y z=0
   ·rw[if_neg (by omega)]
    omega
   ·rw[if_neg h00]at h2
    rw[if_neg (by omega)]
    omega
def pd (g:GV):Int:=if dn g≤0 then 1 else dn g
theorem Ya (g:GV):0<pd g:=by unfold pd;split<;>omega
def Qu (a b:GV):Int:=LK (a.n*pd b-b.n*pd a)
theorem Ac0 {a b:GV}:Qu a b≤0↔a.n*pd b≤b.n*pd a:=by
 unfold Qu LK;split
 ·omega
 ·split<;>omega
theorem AeW:PC Qu where
 anti x y:=by unfold Qu LK;repeat' split
              all_goals omega
 trans x y z h1 h2:=by
  rw[Ac0]at*
  have p1:=Ya x
  have p2:=Ya y
  have p3:=Ya z
  have e1:x.n*pd y*pd z≤y.n*pd x*pd z:=Int.mul_le_mul_of_nonneg_right h1 (by omega)
  have e2:y.n*pd z*pd x≤z.n*pd y*pd x:=Int.mul_le_mul_of_nonneg_right h2 (by omega)
  have e3:x.n*pd z*pd y≤z.n*pd x*pd y:=by
   rw[Int.mul_right_comm x.n,Int.mul_right_comm z.n]
   rw[Int.mul_right_comm y.n]at e2
   omega
  exact Int.le_of_mul_le_mul_right e3 p2
def PN:Nat→GV→GV→Int
 |0,_,_=>0
 |m+1,a,b=>Cj (CJ (ED a.k) (ED b.k)) (if ED a.k=2 then Qu a b else Cj (cS a.s b.s) (Cj (CJ a.n b.n) (Du (fun x y=>PN m (IB x) (IB y)) a.l b.l)))
theorem Zq {α:Type}:PC fun _ _:α=>0:=⟨fun _ _=>rfl,fun _ _ _ _ _=>Int.le_refl 0⟩
theorem Zr:∀m,PC (PN m)
 |0=>Zq
 |m+1=>PC.Ai7 (p:=fun a:GV=>ED a.k=2) (OV.on fun a:GV=>ED a.k) AeW ((Rt.on GV.s).lex ((OV.on GV.n).lex (((Zr m).on IB).lists.on GV.l))) fun x y h=>by
  have h:CJ (ED x.k) (ED y.k)=0:=h
  rw[Dq]at h
  show ED x.k=2↔ED y.k=2
  rw[h]
theorem PC.two {α:Type} {d e:α→α→Int} {p:α→Prop} [DecidablePred p] (hd:PC d) (he:PC e):PC fun x y=>if p x then if p y then d x y else -1 else if p y then 1 else e x y where
 anti x y:=by
  have h2:=hd.anti x y
  have h3:=he.anti x y
  by_cases hx:p x<;>by_cases hy:p y<;>simp only[hx,hy,if_true,if_false]<;>first|assumption|rfl
 trans x y z h1 h2:=by
  have d1:=hd.trans x y z
  have e1:=he.trans x y z
  by_cases hx:p x<;>by_cases hy:p y<;>by_cases hz:p z<;>simp only[hx,hy,hz,if_true,if_false]at* <;>first|exact d1 h1 h2|exact e1 h1 h2|omega
noncomputable def Nz:Nat→GV→GV→Int
 |0,_,_=>0
 |m+1,a,b=>if VV 8 a then if VV 8 b then PN (m+1) a b else -1 else if VV 8 b then 1 else
   Cj (CJ a.k b.k) (Cj (CJ a.n b.n) (Cj (CJ a.d b.d) (Cj (cS a.s b.s) (Du (fun x y=>Nz m (IB x) (IB y)) a.l b.l))))
theorem Y6:∀m,PC (Nz m)
 |0=>Zq
 |m+1=>PC.two (p:=fun a=>VV 8 a) (Zr (m+1)) ((OV.on GV.k).lex ((OV.on GV.n).lex ((OV.on GV.d).lex ((Rt.on GV.s).lex (((Y6 m).on IB).lists.on GV.l)))))
end
section
open Go.Sort
theorem Ku {b:Int}:Cj 0 b=b:=if_pos rfl
theorem Ui {a b:Int} (h:a≠0):Cj a b=a:=if_neg h
def ElP (f:Nat) (c:AV→AV→Int) (x y:AV):Prop:=∃g h:GV,x=g.av∧y=h.av∧Ae (Ad tab) f [g.av,h.av] (· =.int .i64 (c x y))
theorem Nw {f:Nat} {c:AV→AV→Int} {l l':List AV} {nn nn':Bool} (hl:l.length<2^63) (hl':l'.length<2^63) (h0:∀i (h:i<l.length),∃g:GV,l[i]=g.av) (hel:∀i (h:i<l.length) (h':i<l'.length),ElP f c l[i] l'[i]):
 Ae (Ad tab) 236 [.sl nn l,.sl nn' l',.fn f []] (· =.int .i64 (Du c l l')):=by
 refine Ac rfl rfl ?_
 (conv=>whnf);repeat' (first  |(refine kA ?_;conv=>whnf)|(refine Br.mk (fun hc=>?_) fun hc=>?_<;>first|exact hc.elim|conv=>whnf)|(refine kB ?_))
 refine Ag (fun m env s=>∃i k:Nat,m=l.length-i∧i≤l.length∧i≤l'.length∧Du c (l.drop i) (l'.drop i)=Du c l l'∧env=[(0,.sl nn l),(1,.sl nn' l'),(2,.fn f []),(11,.sl nn l),(12,.int .i64 l.length),(13,.int .i64 i)]∧s=⟨[],k⟩) ?_ _ _ _ ⟨0,_,rfl,by omega,by omega,by simp,rfl,rfl⟩
 rintro _ _ _ ⟨i,k,rfl,hi,hj,hc0,rfl,rfl⟩
 refine⟨rfl,?_⟩
 by_cases hlt:i<l.length
 ·by_cases hly:i<l'.length
  ·rw[Qs hlt hly]at hc0
   obtain⟨gx,gy,e1,e2,hp⟩:=hel i hlt hly
   have n1:nth l (Int.toNat (Nat.cast i))=some gx.av:=by rw[← e1];exact nRN hlt
   have n2:nth l' (Int.toNat (Nat.cast i))=some gy.av:=by rw[← e2];exact nRN hly
   generalize c l[i] l'[i]=z at*
   unfold Cj at hc0
   (conv=>whnf);repeat' (first|(apply Ap;(· exact n1);conv=>whnf)|(apply Ap;(· exact n2);conv=>whnf)|(refine Aa hp ?_;rintro _ rfl;conv=>whnf)|(refine kA ?_;conv=>whnf)|(refine Br.mk (fun hc=>?_) fun hc=>?_<;>first|exact hc.elim|conv=>whnf)|(refine kB ?_))
   all_goals first
        |(rw [if_neg (by assumption)]at hc0;rw[← hc0];rfl)
        |(rw [if_pos (by assumption)]at hc0;exact again.mk ⟨_,by omega,i+1,_,rfl,by omega,by omega,hc0,rfl,rfl⟩)
        |(exfalso;omega)
  ·have e2:l'.drop i=[]:=List.drop_eq_nil_of_le (by omega)
   obtain⟨gx,hx⟩:=h0 i hlt
   have n1:nth l (Int.toNat (Nat.cast i))=some gx.av:=by rw[← hx];exact nRN hlt
   rw[List.drop_eq_getElem_cons hlt,e2,Du]at hc0
   (conv=>whnf);repeat' (first|(apply Ap;(· exact n1);conv=>whnf)|(refine kA ?_;conv=>whnf)|(refine Br.mk (fun hc=>?_) fun hc=>?_<;>first|exact hc.elim|conv=>whnf)|(refine kB ?_))
   all_goals first|(rw [← hc0];rfl)|(exfalso;omega)
 ·have e1:l.drop i=[]:=List.drop_eq_nil_of_le (by omega)
  rw[e1]at hc0
  by_cases hly:i<l'.length
  ·rw[List.drop_eq_getElem_cons hly,Du]at hc0
   (conv=>whnf);repeat' (first  |(refine kA ?_;conv=>whnf)|(refine Br.mk (fun hc=>?_) fun hc=>?_<;>first|exact hc.elim|conv=>whnf)|(refine kB ?_))
   all_goals first|(rw [← hc0];rfl)|(exfalso;omega)
  ·have e2:l'.drop i=[]:=List.drop_eq_nil_of_le (by omega)
   rw[e2,Du]at hc0
   (conv=>whnf);repeat' (first  |(refine kA ?_;conv=>whnf)|(refine Br.mk (fun hc=>?_) fun hc=>?_<;>first|exact hc.elim|conv=>whnf)|(refine kB ?_))
   all_goals first|(rw [← hc0];rfl)|(exfalso;omega)
theorem okN {v:GV} (hv:v.ok):v.l.length<2^63:=hv.2.2.2.2.1
theorem P6 {g:GV} (h:Oy g):pd g=dn g:=by
 have:=(Ny h).1
 unfold pd;rw[if_neg (by omega)]
theorem Vm {k:Int}:ED k=2↔k=2∨k=3:=by unfold ED;split<;>(try split)<;>omega
theorem elemV {a g:GV} {i:Nat} (h:VV 8 a) (hi:i<a.l.length) (e:a.l[i]=g.av):VV 8 g:=by
 by_cases h7:a.k=7
 ·obtain⟨x,e1,_,x2⟩:=((ZI h7).1 h).2.2.2.2.2 i hi
  rw[e1]at e
  obtain rfl:=GV.Oz e
  exact AaW (m:=0) (by omega) (.inl x2)
 ·by_cases h8:a.k=8
  ·obtain⟨x,e1,x2⟩:=((AdH (m:=7) h8).1 h).2.2.2.2 i hi
   rw[e1]at e
   obtain rfl:=GV.Oz e
   exact AaW (m:=7) (by omega) x2
  ·rw[RY h7 h8]at h
   have:=h.1
   omega
theorem IY {m:Nat} {v:GV} {i:Nat} (h:dep (m+1) v) (hi:i<v.l.length):∃g:GV,v.l[i]=g.av∧g.ok∧dep m g:=h _ (List.getElem_mem hi)
theorem Aj3 {a b c:Int}:fnz [a,b,c]=Cj a (Cj b c):=by
 simp only[fnz];congr 1;congr 1;unfold Cj;split<;>omega
theorem Aj4 {a b c d:Int}:fnz [a,b,c,d]=Cj a (Cj b (Cj c d)):=by
 simp only[fnz];congr 1;congr 1;congr 1;unfold Cj;split<;>omega
theorem Aj5 {a b c d e:Int}:fnz [a,b,c,d,e]=Cj a (Cj b (Cj c (Cj d e))):=by
 simp only[fnz];congr 1;congr 1;congr 1;congr 1;unfold Cj;split<;>omega
theorem Aj6 {a b c:Int}:Ae (Ad tab) 147 [.sl true [.int .i64 a,.int .i64 b,.int .i64 c]] (· =.int .i64 (Cj a (Cj b c))):=by
 have h:=orV (l:=[a,b,c]) (nn:=true) (by simp)
 rw[Aj3]at h
 exact h
theorem Aj8 {a b c d:Int}:Ae (Ad tab) 147 [.sl true [.int .i64 a,.int .i64 b,.int .i64 c,.int .i64 d]] (· =.int .i64 (Cj a (Cj b (Cj c d)))):=by
 have h:=orV (l:=[a,b,c,d]) (nn:=true) (by simp)
 rw[Aj4]at h
 exact h
theorem Aj9 {a b c d e:Int}:Ae (Ad tab) 147 [.sl true [.int .i64 a,.int .i64 b,.int .i64 c,.int .i64 d,.int .i64 e]] (· =.int .i64 (Cj a (Cj b (Cj c (Cj d e))))):=by
 have h:=orV (l:=[a,b,c,d,e]) (nn:=true) (by simp)
 rw[Aj5]at h
 exact h
theorem Aka {k k':Int}:Ae (Ad tab) 150 [.int .i64 (ED k),.int .i64 (ED k')] (· =.int .i64 (CJ (ED k) (ED k'))):=compare
theorem Yw:∀(m:Nat) {a b:GV},a.ok→b.ok→dep m a→dep m b→VV 8 a→VV 8 b→Ae (Ad tab) 235 [a.av,b.av] (· =.int .i64 (PN m a b))
 |0,a,b,ha,hb,da,db,va,vb=>absurd da id
 |m+1,a,b,ha,hb,da,db,va,vb=>by
  have k1:=OA (v:=a)
  have k2:=OA (v:=b)
  have k3:=Aka (k:=a.k) (k':=b.k)
  unfold PN
  by_cases h0:CJ (ED a.k) (ED b.k)=0
  ·rw[h0,Ku]
   rw[h0]at k3
   have he:=Dq.1 h0
   by_cases h2:ED a.k=2
   ·rw[if_pos h2]
    have na:Oy a:=⟨va,Vm.1 h2⟩
    have nb:Oy b:=⟨vb,Vm.1 (by omega)⟩
    have p1:=nP1 ha na
    have p2:=nP1 hb nb
    have p3:=Akb (Ny na) (Ny nb)
    unfold Qu
    rw[P6 na,P6 nb]
    refine Ac rfl rfl ?_
    (conv=>whnf);repeat' (first|((first|refine Aa k1 ?_|refine Aa k2 ?_|refine Aa k3 ?_|refine Aa p1 ?_|refine Aa p2 ?_|refine Aa p3 ?_);rintro _ rfl;conv=>whnf)|(refine kA ?_;conv=>whnf)|(refine Br.mk (fun hc=>?_) fun hc=>?_<;>first|exact hc.elim|conv=>whnf)|(refine kB ?_))
    all_goals first|rfl|(exfalso;omega)
   ·rw[if_neg h2]
    have p1:=Kt (x:=a.s) (y:=b.s)
    have p2:Ae (Ad tab) 150 [.int .i64 a.n,.int .i64 b.n] (· =.int .i64 (CJ a.n b.n)):=compare
    have p3:=Nw (f:=235) (c:=fun x y=>PN m (IB x) (IB y)) (nn:=a.nn) (nn':=b.nn) (okN ha) (okN hb) (fun i hi=>by
      obtain⟨g,e,_⟩:=IY da hi
      exact⟨g,e⟩) (fun i hi hi'=>by
      obtain⟨g,e1,g1,g2⟩:=IY da hi
      obtain⟨h,e2,h1,h2⟩:=IY db hi'
      refine⟨g,h,e1,e2,?_⟩
      rw[e1,e2]
      exact Yw m g1 h1 g2 h2 (elemV va hi e1) (elemV vb hi' e2))
    have p4:=Aj6 (a:=cS a.s b.s) (b:=CJ a.n b.n) (c:=Du (fun x y=>PN m (IB x) (IB y)) a.l b.l)
    refine Ac rfl rfl ?_
    (conv=>whnf);repeat' (first|((first|refine Aa k1 ?_|refine Aa k2 ?_|refine Aa k3 ?_|refine Aa p1 ?_|refine Aa p2 ?_|refine Aa p3 ?_|refine Aa p4 ?_);rintro _ rfl;conv=>whnf)|(refine kA ?_;conv=>whnf)|(refine Br.mk (fun hc=>?_) fun hc=>?_<;>first|exact hc.elim|conv=>whnf)|(refine kB ?_))
    all_goals first|rfl|(exfalso;omega)
  ·rw[Ui h0]
   refine Ac rfl rfl ?_
   (conv=>whnf);repeat' (first|((first|refine Aa k1 ?_|refine Aa k2 ?_|refine Aa k3 ?_);rintro _ rfl;conv=>whnf)|(refine kA ?_;conv=>whnf)|(refine Br.mk (fun hc=>?_) fun hc=>?_<;>first|exact hc.elim|conv=>whnf)|(refine kB ?_))
   all_goals first|rfl|(exfalso;omega)
theorem Yx:∀(m:Nat) {a b:GV},a.ok→b.ok→dep m a→dep m b→Ae (Ad tab) 149 [a.av,b.av] (· =.int .i64 (Nz m a b))
 |0,a,b,ha,hb,da,db=>absurd da id
 |m+1,a,b,ha,hb,da,db=>by
  unfold Nz
  by_cases va:VV 8 a
  ·have p1:=vP ha va
   rw[if_pos va]
   by_cases vb:VV 8 b
   ·have p2:=vP hb vb
    have p3:=Yw (m+1) ha hb da db va vb
    rw[if_pos vb]
    refine Ac rfl rfl ?_
    (conv=>whnf);repeat' (first|((first|refine Aa p1 ?_|refine Aa p2 ?_|refine Aa p3 ?_);rintro _ rfl;conv=>whnf)|(refine kA ?_;conv=>whnf)|(refine Br.mk (fun hc=>?_) fun hc=>?_<;>first|exact hc.elim|conv=>whnf)|(refine kB ?_))
    all_goals first|rfl
   ·have p2:=vPn hb vb
    rw[if_neg vb]
    refine Ac rfl rfl ?_
    (conv=>whnf);repeat' (first|((first|refine Aa p1 ?_|refine Aa p2 ?_);rintro _ rfl;conv=>whnf)|(refine kA ?_;conv=>whnf)|(refine Br.mk (fun hc=>?_) fun hc=>?_<;>first|exact hc.elim|conv=>whnf)|(refine kB ?_))
    all_goals first|rfl
  ·have p1:=vPn ha va
   rw[if_neg va]
   by_cases vb:VV 8 b
   ·have p2:=vP hb vb
    rw[if_pos vb]
    refine Ac rfl rfl ?_
    (conv=>whnf);repeat' (first|((first|refine Aa p1 ?_|refine Aa p2 ?_);rintro _ rfl;conv=>whnf)|(refine kA ?_;conv=>whnf)|(refine Br.mk (fun hc=>?_) fun hc=>?_<;>first|exact hc.elim|conv=>whnf)|(refine kB ?_))
    all_goals first|rfl
   ·have p2:=vPn hb vb
    rw[if_neg vb]
    have q1:Ae (Ad tab) 150 [.int .i64 a.k,.int .i64 b.k] (· =.int .i64 (CJ a.k b.k)):=compare
    have q2:Ae (Ad tab) 150 [.int .i64 a.n,.int .i64 b.n] (· =.int .i64 (CJ a.n b.n)):=compare
    have q3:Ae (Ad tab) 150 [.int .i64 a.d,.int .i64 b.d] (· =.int .i64 (CJ a.d b.d)):=compare
    have q4:=Kt (x:=a.s) (y:=b.s)
    have q5:=Nw (f:=149) (c:=fun x y=>Nz m (IB x) (IB y)) (nn:=a.nn) (nn':=b.nn) (okN ha) (okN hb) (fun i hi=>by
     obtain⟨g,e,_⟩:=IY da hi
     exact⟨g,e⟩) (fun i hi hi'=>by
     obtain⟨g,e1,g1,g2⟩:=IY da hi
     obtain⟨h,e2,h1,h2⟩:=IY db hi'
     refine⟨g,h,e1,e2,?_⟩
     rw[e1,e2]
     exact Yx m g1 h1 g2 h2)
    have q6:=Aj9 (a:=CJ a.k b.k) (b:=CJ a.n b.n) (c:=CJ a.d b.d) (d:=cS a.s b.s) (e:=Du (fun x y=>Nz m (IB x) (IB y)) a.l b.l)
    refine Ac rfl rfl ?_
    (conv=>whnf);repeat' (first|((first|refine Aa p1 ?_|refine Aa p2 ?_|refine Aa q1 ?_|refine Aa q2 ?_|refine Aa q3 ?_|refine Aa q4 ?_|refine Aa q5 ?_|refine Aa q6 ?_);rintro _ rfl;conv=>whnf)|(refine kA ?_;conv=>whnf)|(refine Br.mk (fun hc=>?_) fun hc=>?_<;>first|exact hc.elim|conv=>whnf)|(refine kB ?_))
    all_goals first|rfl
end
section
open Go.Sort
theorem QU {a b:Int}:Ae (Ad tab) 199 [.int .i64 a,.int .i64 b] (· =.int .i64 (CJ a b)):=by
 refine Ac rfl rfl ?_
 (conv=>whnf);repeat' (first  |(refine kA ?_;conv=>whnf)|(refine Br.mk (fun hc=>?_) fun hc=>?_<;>first|exact hc.elim|conv=>whnf)|(refine kB ?_))
 all_goals exact congrArg (AV.int .i64) (by unfold CJ;repeat' split
                                            all_goals omega)
theorem Agq {x y:List UInt8}:Ae (Ad tab) 260 [.str x,.str y] (· =.int .i64 (cS x y)):=by
 refine Ac rfl rfl ?_
 (conv=>whnf);repeat' (first  |(refine kA ?_;conv=>whnf)|(refine Br.mk (fun hc=>?_) fun hc=>?_<;>first|exact hc.elim|conv=>whnf)|(refine kB ?_))
 all_goals first|exact AbS hc|exact AbT (by assumption) hc|exact AbU hc
theorem YZ {c:AV→AV→Int} {l l':List AV} {nn nn':Bool} (hl:l.length<2^63) (hl':l'.length<2^63) (hel:∀i (h:i<l.length) (h':i<l'.length),ElP 115 c l[i] l'[i]):
 Ae (Ad tab) 261 [.sl nn l,.sl nn' l'] (· =.int .i64 (Du c l l')):=by
 refine Ac rfl rfl ?_
 (conv=>whnf);repeat' (first  |(refine kA ?_;conv=>whnf)|(refine Br.mk (fun hc=>?_) fun hc=>?_<;>first|exact hc.elim|conv=>whnf)|(refine kB ?_))
 refine Ag (fun m env s=>∃i k:Nat,m=l.length-i∧i≤l.length∧i≤l'.length∧Du c (l.drop i) (l'.drop i)=Du c l l'∧env=[(0,.sl nn l),(1,.sl nn' l'),(5,.int .i64 i)]∧s=⟨[],k⟩) ?_ _ _ _ ⟨0,_,rfl,by omega,by omega,by simp,rfl,rfl⟩
 rintro _ _ _ ⟨i,k,rfl,hi,hj,hc0,rfl,rfl⟩
 refine⟨rfl,?_⟩
 have hfin:(¬ i<l.length∨¬i<l'.length)→CJ l.length l'.length=Du c l l':=fun h=>by
  rw[← hc0]
  by_cases h1:i<l.length
  ·have e2:l'.drop i=[]:=List.drop_eq_nil_of_le (by omega)
   rw[List.drop_eq_getElem_cons h1,e2,Du]
   unfold CJ;repeat' split
   all_goals omega
  ·have e1:l.drop i=[]:=List.drop_eq_nil_of_le (by omega)
   rw[e1]
   by_cases h2:i<l'.length
   ·rw[List.drop_eq_getElem_cons h2,Du]
    unfold CJ;repeat' split
    all_goals omega
   ·have e2:l'.drop i=[]:=List.drop_eq_nil_of_le (by omega)
    rw[e2,Du]
    unfold CJ;repeat' split
    all_goals omega
 have hin:Ae (Ad tab) 199 [.int .i64 l.length,.int .i64 l'.length] (· =.int .i64 (CJ l.length l'.length)):=QU
 by_cases hlt:i<l.length
 ·by_cases hly:i<l'.length
  ·rw[Qs hlt hly]at hc0
   obtain⟨gx,gy,e1,e2,hp⟩:=hel i hlt hly
   have n1:nth l (Int.toNat (Nat.cast i))=some gx.av:=by rw[← e1];exact nRN hlt
   have n2:nth l' (Int.toNat (Nat.cast i))=some gy.av:=by rw[← e2];exact nRN hly
   generalize c l[i] l'[i]=z at*
   unfold Cj at hc0
   clear hfin hin
   (conv=>whnf);repeat' (first|(apply Ap;(· exact n1);conv=>whnf)|(apply Ap;(· exact n2);conv=>whnf)|(refine Aa hp ?_;rintro _ rfl;conv=>whnf)|(refine kA ?_;conv=>whnf)|(refine Br.mk (fun hc=>?_) fun hc=>?_<;>first|exact hc.elim|conv=>whnf)|(refine kB ?_))
   all_goals first
        |(rw [if_neg (by assumption)]at hc0;rw[← hc0];rfl)
        |(rw [if_pos (by assumption)]at hc0;exact again.mk ⟨_,by omega,i+1,_,rfl,by omega,by omega,hc0,rfl,rfl⟩)
        |(exfalso;omega)
  ·rw[hfin (.inr hly)]at hin
   (conv=>whnf);repeat' (first|(refine Aa hin ?_;rintro _ rfl;conv=>whnf)|(refine kA ?_;conv=>whnf)|(refine Br.mk (fun hc=>?_) fun hc=>?_<;>first|exact hc.elim|conv=>whnf)|(refine kB ?_))
   all_goals first|rfl|(exfalso;omega)
 ·rw[hfin (.inl hlt)]at hin
  (conv=>whnf);repeat' (first|(refine Aa hin ?_;rintro _ rfl;conv=>whnf)|(refine kA ?_;conv=>whnf)|(refine Br.mk (fun hc=>?_) fun hc=>?_<;>first|exact hc.elim|conv=>whnf)|(refine kB ?_))
  all_goals first|rfl|(exfalso;omega)
theorem V3 {a b:GV} {L:Int} (hL:Ae (Ad tab) 261 [.sl a.nn a.l,.sl b.nn b.l] (· =.int .i64 L)):
 Ae (Ad tab) 198 [a.av,b.av] (· =.int .i64 (Cj (CJ a.k b.k) (Cj (CJ a.n b.n) (Cj (CJ a.d b.d) (Cj (cS a.s b.s) L))))):=by
 have q1:Ae (Ad tab) 199 [.int .i64 a.k,.int .i64 b.k] (· =.int .i64 (CJ a.k b.k)):=QU
 have q2:Ae (Ad tab) 199 [.int .i64 a.n,.int .i64 b.n] (· =.int .i64 (CJ a.n b.n)):=QU
 have q3:Ae (Ad tab) 199 [.int .i64 a.d,.int .i64 b.d] (· =.int .i64 (CJ a.d b.d)):=QU
 have q4:=Agq (x:=a.s) (y:=b.s)
 generalize CJ a.k b.k=z1 at*
 generalize CJ a.n b.n=z2 at*
 generalize CJ a.d b.d=z3 at*
 generalize cS a.s b.s=z4 at*
 have e:∀x y:Int,x=y→AV.int .i64 x=.int .i64 y:=fun x y h=>by rw[h]
 refine Ac rfl rfl ?_
 (conv=>whnf);repeat' (first|((first|refine Aa q1 ?_|refine Aa q2 ?_|refine Aa q3 ?_|refine Aa q4 ?_|refine Aa hL ?_);rintro _ rfl;conv=>whnf)|(refine kA ?_;conv=>whnf)|(refine Br.mk (fun hc=>?_) fun hc=>?_<;>first|exact hc.elim|conv=>whnf)|(refine kB ?_))
 all_goals first
  |exact e _ _ (by rw[Ui (by assumption)])
  |exact e _ _ (by unfold Cj;repeat' split
                   all_goals omega)
theorem NT {a:GV} (h:VV 8 a):0≤a.k∧a.k≤8:=by
 by_cases h7:a.k=7
 ·omega
 ·by_cases h8:a.k=8
  ·omega
  ·rw[RY h7 h8]at h
   obtain⟨_,h⟩:=h
   omega
theorem Aeb {k k':Int} (h:0≤k∧k≤8) (h':0≤k'∧k'≤8):CJ (QV k) (QV k')=CJ (ED k) (ED k'):=by
 have h1:k=0∨k=1∨k=2∨k=3∨k=4∨k=5∨k=6∨k=7∨k=8:=by omega
 have h2:k'=0∨k'=1∨k'=2∨k'=3∨k'=4∨k'=5∨k'=6∨k'=7∨k'=8:=by omega
 rcases h1 with rfl|rfl|rfl|rfl|rfl|rfl|rfl|rfl|rfl<;>rcases h2 with rfl|rfl|rfl|rfl|rfl|rfl|rfl|rfl|rfl<;>decide
theorem AbV {a:GV} (h:VV 8 a) (h2:¬ED a.k=2):a.d=0∧(a.k=4→a.n=0)∧(a.k≠4→a.s=[]):=by
 rw[Vm]at h2
 by_cases h7:a.k=7
 ·have:=(ZI h7).1 h
  exact⟨this.2.1,fun h=>by omega,fun _=>this.2.2.1⟩
 ·by_cases h8:a.k=8
  ·have:=(AdH (m:=7) h8).1 h
   exact⟨this.2.1,fun h=>by omega,fun _=>this.2.2.1⟩
  ·obtain⟨k1,k2⟩:=Aic h h7 h8
   rw[RY h7 h8]at h
   obtain⟨_,h⟩:=h
   refine⟨?_,k1,k2⟩
   rcases h with h|h|h|h|h|h<;>first|exact h.2.2.1|exact h.2.2.2.1|(exfalso;omega)
set_option maxHeartbeats 1000000 in
theorem UD:∀(m:Nat) {a b:GV},a.ok→b.ok→dep m a→dep m b→Ae (Ad tab) 115 [a.av,b.av] (· =.int .i64 (Nz m a b))
 |0,a,b,ha,hb,da,db=>absurd da id
 |m+1,a,b,ha,hb,da,db=>by
  unfold Nz
  by_cases va:VV 8 a
  ·have p1:=vR ha va
   rw[if_pos va]
   by_cases vb:VV 8 b
   ·have p2:=vR hb vb
    rw[if_pos vb]
    have k1:=OM (k:=a.k)
    have k2:=OM (k:=b.k)
    have k3:Ae (Ad tab) 199 [.int .i64 (QV a.k),.int .i64 (QV b.k)] (· =.int .i64 (CJ (ED a.k) (ED b.k))):=by
     rw[← Aeb (NT va) (NT vb)];exact QU
    unfold PN
    by_cases h0:CJ (ED a.k) (ED b.k)=0
    ·rw[h0,Ku]
     rw[h0]at k3
     have he:=Dq.1 h0
     by_cases h2:ED a.k=2
     ·rw[if_pos h2]
      have na:Oy a:=⟨va,Vm.1 h2⟩
      have nb:Oy b:=⟨vb,Vm.1 (by omega)⟩
      have q1:=nR1 ha na
      have q2:=nR1 hb nb
      have q3:=Aid (Ny na) (Ny nb)
      unfold Qu
      rw[P6 na,P6 nb]
      refine Ac rfl rfl ?_
      (conv=>whnf);repeat' (first|((first|refine Aa p1 ?_|refine Aa p2 ?_|refine Aa k1 ?_|refine Aa k2 ?_|refine Aa k3 ?_|refine Aa q1 ?_|refine Aa q2 ?_|refine Aa q3 ?_);rintro _ rfl;conv=>whnf)|(refine kA ?_;conv=>whnf)|(refine Br.mk (fun hc=>?_) fun hc=>?_<;>first|exact hc.elim|conv=>whnf)|(refine kB ?_))
      all_goals first|rfl|(exfalso;omega)
     ·rw[if_neg h2]
      have na:¬Oy a:=fun h=>h2 (Vm.2 h.2)
      have nb:¬Oy b:=fun h=>h2 (by rw[he];exact Vm.2 h.2)
      have q1:=nR0 ha na
      have q2:=nR0 hb nb
      have hkk:a.k=b.k:=by
        have:=NT va
        have:=NT vb
        rw[Vm]at h2
        unfold ED at he
        repeat' split at he
        all_goals omega
      obtain⟨f1,f2,f3⟩:=AbV va h2
      obtain⟨g1,g2,g3⟩:=AbV vb (by rw[← he];exact h2)
      have q3:=V3 (a:=a) (b:=b) (YZ (c:=fun x y=>PN m (IB x) (IB y)) (nn:=a.nn) (nn':=b.nn) (okN ha) (okN hb) (fun i hi hi'=>by
        obtain⟨g,e1,g1,g2⟩:=IY da hi
        obtain⟨h,e2,h1,h2⟩:=IY db hi'
        refine⟨g,h,e1,e2,?_⟩
        rw[e1,e2]
        have:=UD m g1 h1 g2 h2
        have e:Nz m g h=PN m g h:=by
         cases m with
         |zero=>exact absurd g2 id
         |succ m=>unfold Nz;rw[if_pos (elemV va hi e1),if_pos (elemV vb hi' e2)]
        rw[e]at this
        exact this))
      have e:Cj (CJ a.k b.k) (Cj (CJ a.n b.n) (Cj (CJ a.d b.d) (Cj (cS a.s b.s) (Du (fun x y=>PN m (IB x) (IB y)) a.l b.l))))=Cj (cS a.s b.s) (Cj (CJ a.n b.n) (Du (fun x y=>PN m (IB x) (IB y)) a.l b.l)):=by
        rw[Dq.2 hkk,Ku,f1,g1,Dq.2 rfl,Ku]
        by_cases h4:a.k=4
        ·rw[f2 h4,g2 (by omega),Dq.2 rfl,Ku,Ku]
        ·rw[f3 h4,g3 (by omega),P5.2 rfl,Ku,Ku]
      rw[e]at q3
      refine Ac rfl rfl ?_
      (conv=>whnf);repeat' (first|((first|refine Aa p1 ?_|refine Aa p2 ?_|refine Aa k1 ?_|refine Aa k2 ?_|refine Aa k3 ?_|refine Aa q1 ?_|refine Aa q2 ?_|refine Aa q3 ?_);rintro _ rfl;conv=>whnf)|(refine kA ?_;conv=>whnf)|(refine Br.mk (fun hc=>?_) fun hc=>?_<;>first|exact hc.elim|conv=>whnf)|(refine kB ?_))
      all_goals first|rfl|(exfalso;omega)
    ·rw[Ui h0]
     refine Ac rfl rfl ?_
     (conv=>whnf);repeat' (first|((first|refine Aa p1 ?_|refine Aa p2 ?_|refine Aa k1 ?_|refine Aa k2 ?_|refine Aa k3 ?_);rintro _ rfl;conv=>whnf)|(refine kA ?_;conv=>whnf)|(refine Br.mk (fun hc=>?_) fun hc=>?_<;>first|exact hc.elim|conv=>whnf)|(refine kB ?_))
     all_goals first|rfl|(exfalso;omega)
   ·have p2:=vRn hb vb
    rw[if_neg vb]
    refine Ac rfl rfl ?_
    (conv=>whnf);repeat' (first|((first|refine Aa p1 ?_|refine Aa p2 ?_|refine Aa Aie ?_|refine Aa Afm ?_);rintro _ rfl;conv=>whnf)|(refine kA ?_;conv=>whnf)|(refine Br.mk (fun hc=>?_) fun hc=>?_<;>first|exact hc.elim|conv=>whnf)|(refine kB ?_))
    all_goals first|rfl|(exfalso;simp_all;done)
  ·have p1:=vRn ha va
   rw[if_neg va]
   by_cases vb:VV 8 b
   ·have p2:=vR hb vb
    rw[if_pos vb]
    refine Ac rfl rfl ?_
    (conv=>whnf);repeat' (first|((first|refine Aa p1 ?_|refine Aa p2 ?_|refine Aa Aie ?_|refine Aa Afm ?_);rintro _ rfl;conv=>whnf)|(refine kA ?_;conv=>whnf)|(refine Br.mk (fun hc=>?_) fun hc=>?_<;>first|exact hc.elim|conv=>whnf)|(refine kB ?_))
    all_goals first|rfl|(exfalso;simp_all;done)
   ·have p2:=vRn hb vb
    rw[if_neg vb]
    have q3:=V3 (a:=a) (b:=b) (YZ (c:=fun x y=>Nz m (IB x) (IB y)) (nn:=a.nn) (nn':=b.nn) (okN ha) (okN hb) (fun i hi hi'=>by
     obtain⟨g,e1,g1,g2⟩:=IY da hi
     obtain⟨h,e2,h1,h2⟩:=IY db hi'
     refine⟨g,h,e1,e2,?_⟩
     rw[e1,e2]
     exact UD m g1 h1 g2 h2))
    refine Ac rfl rfl ?_
    (conv=>whnf);repeat' (first|((first|refine Aa p1 ?_|refine Aa p2 ?_|refine Aa q3 ?_);rintro _ rfl;conv=>whnf)|(refine kA ?_;conv=>whnf)|(refine Br.mk (fun hc=>?_) fun hc=>?_<;>first|exact hc.elim|conv=>whnf)|(refine kB ?_))
    all_goals first|rfl|(exfalso;simp_all;done)
end
structure GT where
 label:List UInt8
 key:List UInt8
 v:GV
 id:Int
def GT.av (e:GT):AV:=.agg [.str e.label,.str e.key,.int .i64 e.v.k,.int .i64 e.v.n,.int .i64 e.v.d,.str e.v.s,.sl e.v.nn e.v.l,.int .i64 e.id]
def GT.ok (e:GT):Prop:=Ln e.label∧Ln e.key∧e.v.ok∧I64 e.id
theorem Aeq (x:GT):x.av.cells.length=8:=rfl
theorem AdT:Tryz.prog.cellsOf 107=8:=by kernel_rfl
theorem len8 {l:List AV} (h:l.length=8):∃a b c d e f g i,l=[a,b,c,d,e,f,g,i]:=by
 rcases l with _|⟨a,_|⟨b,_|⟨c,_|⟨d,_|⟨e,_|⟨f,_|⟨g,_|⟨i,_|⟨j,r⟩⟩⟩⟩⟩⟩⟩⟩⟩<;>simp at h
 exact⟨a,b,c,d,e,f,g,i,rfl⟩
section
theorem Y5 {x y:List UInt8}:Ae (Ad tab) 151 [.str x,.str y] (· =.int .i64 (cS x y)):=by
 refine Ac rfl rfl ?_
 (conv=>whnf);repeat' (first  |(refine kA ?_;conv=>whnf)|(refine Br.mk (fun hc=>?_) fun hc=>?_<;>first|exact hc.elim|conv=>whnf)|(refine kB ?_))
 all_goals first|exact AbS hc|exact AbT (by assumption) hc|exact AbU hc
open Go.Sort
noncomputable def I8 (m:Nat) (x y:GT):Int:=Cj (cS x.label y.label) (Cj (cS x.key y.key) (Cj (Nz m x.v y.v) (CJ x.id y.id)))
theorem YR (m:Nat):PC (I8 m):=(Rt.on GT.label).lex ((Rt.on GT.key).lex (((Y6 m).on GT.v).lex (OV.on GT.id)))
theorem Ux {m:Nat} {x y:GT} (hx:x.v.ok) (hy:y.v.ok) (dx:dep m x.v) (dy:dep m y.v):Ae (Ad tab) 86 [x.av,y.av] (· =.int .i64 (I8 m x y)):=by
 have q1:=Kt (x:=x.label) (y:=y.label)
 have q2:=Kt (x:=x.key) (y:=y.key)
 have q3:=Yx m hx hy dx dy
 have q4:Ae (Ad tab) 150 [.int .i64 x.id,.int .i64 y.id] (· =.int .i64 (CJ x.id y.id)):=compare
 have q5:=Aj8 (a:=cS x.label y.label) (b:=cS x.key y.key) (c:=Nz m x.v y.v) (d:=CJ x.id y.id)
 unfold I8
 refine Ac rfl rfl ?_
 (conv=>whnf);repeat' (first|((first|refine Aa q1 ?_|refine Aa q2 ?_|refine Aa q3 ?_|refine Aa q4 ?_|refine Aa q5 ?_);rintro _ rfl;conv=>whnf)|(refine kA ?_;conv=>whnf)|(refine Br.mk (fun hc=>?_) fun hc=>?_<;>first|exact hc.elim|conv=>whnf)|(refine kB ?_))
 all_goals first|rfl
theorem YQ {m:Nat} {x y:GT} (hx:x.v.ok) (hy:y.v.ok) (dx:dep m x.v) (dy:dep m y.v):Ae (Ad tab) 90 [x.av,y.av] (· =.int .i64 (I8 m x y)):=by
 have q1:=Y5 (x:=x.label) (y:=y.label)
 have q2:=Y5 (x:=x.key) (y:=y.key)
 have q3:=UD m hx hy dx dy
 unfold I8
 generalize cS x.label y.label=z1 at*
 generalize cS x.key y.key=z2 at*
 generalize Nz m x.v y.v=z3 at*
 have e:∀x y:Int,x=y→AV.int .i64 x=.int .i64 y:=fun x y h=>by rw[h]
 refine Ac rfl rfl ?_
 (conv=>whnf);repeat' (first|((first|refine Aa q1 ?_|refine Aa q2 ?_|refine Aa q3 ?_);rintro _ rfl;conv=>whnf)|(refine kA ?_;conv=>whnf)|(refine Br.mk (fun hc=>?_) fun hc=>?_<;>first|exact hc.elim|conv=>whnf)|(refine kB ?_))
 all_goals first
  |exact e _ _ (by rw[Ui (by assumption)])
  |exact e _ _ (by unfold Cj CJ;repeat' split
                   all_goals omega)
structure GX where
 e:GT
 h:e.ok∧e.v.l=[]
def GX.av (x:GX):AV:=x.1.av
theorem BA (x:GX):x.av.cells.length=8:=rfl
theorem VQ (x:GX):dep 1 x.1.v:=fun y hy=>by rw[x.2.2]at hy;simp at hy
theorem AgL:(GT.mk [] [] ⟨0,0,0,[],false,[]⟩ 0).ok∧(GT.mk [] [] ⟨0,0,0,[],false,[]⟩ 0).v.l=[]:=⟨⟨by simp[Ln],by simp[Ln],UO,by unfold I64;dsimp only;omega⟩,rfl⟩
instance:Inhabited GX:=⟨⟨_,AgL⟩⟩
noncomputable def QK (x y:GX):Int:=I8 1 x.1 y.1
theorem Y7:PC QK:=(YR 1).on GX.e
noncomputable def BR (x y:GX):Bool:=decide (QK x y<0)
theorem H8:SWO BR:=Y7.swo
theorem Eu {x y:GX}:Ae (Ad tab) 86 [x.av,y.av] (· =.int .i64 (QK x y)):=Ux x.2.1.2.2.1 y.2.1.2.2.1 (VQ x) (VQ y)
theorem YO {x y:GX}:Ae (Ad tab) 90 [x.av,y.av] (· =.int .i64 (QK x y)):=YQ x.2.1.2.2.1 y.2.1.2.2.1 (VQ x) (VQ y)
theorem F5 {x y:GX} {A B:Prop} (h1:BR x y=true→A) (h2:BR x y=false→B):LQ (QK x y<0) A B:=
 ⟨fun h=>h1 (decide_eq_true h),fun h=>h2 (decide_eq_false h)⟩
attribute [irreducible] BR QK
end
end AI
end Go.Proofs.YtceiccjppfapjaaGreatDoor
