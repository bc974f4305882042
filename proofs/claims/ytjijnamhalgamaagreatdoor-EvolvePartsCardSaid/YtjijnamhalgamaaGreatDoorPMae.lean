/- Orders: lexicographic, of numbers, of strings; the first that is not 0. The order of rules: the program's and the reference's. Lists of rules: which are valid; looking for a rule. Looking for the first. The budget of a graph; names and types; entries. Looking for the first: good properties. Small values. A value cloned reads as the value. Properties looked up. Strings in a list. Strings in a list: the reference. The reference's HasLabel. HasLabel. value.Plain and the reference's Plain: which values may be stored. Names in a list, increasing strings, labels and properties. -/
import Derived.Test.YtjijnamhalgamaaGreatDoorPMad
import Derived.Test.YtjijnamhalgamaaGreatDoorBMaa
import Derived.Test.YtjijnamhalgamaaGreatDoorPMab
set_option linter.unusedVariables false
set_option maxRecDepth 4000
namespace Go.Proofs.YtjijnamhalgamaaGreatDoor
namespace AI
section
open Go.Sort
def DX (a b:Int):Int:=if a=0 then b else a
def cS (x y:List UInt8):Int:=if Op.bytesLess x y=true then -1 else if Op.bytesLess y x=true then 1 else 0
structure PC {α:Type} (c:α→α→Int):Prop where
 anti:∀x y,c y x=-c x y
 trans:∀x y z,c x y≤0→c y z≤0→c x z≤0
theorem PC.lex {α:Type} {c d:α→α→Int} (hc:PC c) (hd:PC d):PC fun x y=>DX (c x y) (d x y) where
 anti x y:=by
  have h1:=hc.anti x y
  have h2:=hd.anti x y
  unfold DX;split<;>split<;>omega
 trans x y z h1 h2:=by
  have a1:=hc.trans x y z
  have a2:=hc.trans y z x
  have a3:=hc.trans z x y
  have b1:=hc.anti x y
  have b2:=hc.anti y z
  have b3:=hc.anti x z
  have d1:=hd.trans x y z
  unfold DX at*
  split at h1<;>split at h2<;>split<;>omega
theorem PC.on {α β:Type} {c:β→β→Int} (h:PC c) (p:α→β):PC fun x y=>c (p x) (p y):=⟨fun x y=>h.anti _ _,fun x y z=>h.trans _ _ _⟩
theorem Oc:PC CY where
 anti x y:=by unfold CY;repeat' split
              all_goals omega
 trans x y z:=by unfold CY;repeat' split
                 all_goals omega
theorem Rx:∀(x y:List UInt8),Op.bytesLess x y=decide (x<y)
 |[],[]=>by simp[Op.bytesLess]
 |_::_,[]=>by simp[Op.bytesLess]
 |[],_::_=>by simp[Op.bytesLess]
 |a::x,b::y=>by
  rw[Op.bytesLess,Rx x y]
  simp only[List.cons_lt_cons_iff]
  by_cases h1:a<b<;>by_cases h2:a=b<;>by_cases h3:x<y<;>simp[h1,h2,h3]
theorem Yb (x y:List UInt8):Op.bytesLess x y=ltStr x y:=Rx x y
theorem ZL {x y:List UInt8} (h1:Op.bytesLess x y=false) (h2:Op.bytesLess y x=false):x=y:=by
 rw[Yb]at h1 h2
 simp only[ltStr,decide_eq_false_iff_not]at h1 h2
 exact List.le_antisymm (List.not_lt.1 h2) (List.not_lt.1 h1)
theorem Oe:PC cS where
 anti x y:=by
  have h:Op.bytesLess x y=true→Op.bytesLess y x=true→False:=fun a b=>by
   rw[Yb]at a b
   have:=swo_ltStr.trans x y x a b
   rw[swo_ltStr.irrefl]at this;cases this
  unfold cS
  by_cases a:Op.bytesLess x y=true<;>by_cases b:Op.bytesLess y x=true<;>simp[a,b]
  exact h a b
 trans x y z h1 h2:=by
  have n1:Op.bytesLess y x=false:=by
   unfold cS at h1
   split at h1
   ·rename_i a
    cases hb:Op.bytesLess y x with
    |false=>rfl
    |true=>
     rw[Yb]at a hb
     have:=swo_ltStr.trans x y x a hb
     rw[swo_ltStr.irrefl]at this;cases this
   ·split at h1
    ·omega
    ·rename_i b;simpa using b
  have n2:Op.bytesLess z y=false:=by
   unfold cS at h2
   split at h2
   ·rename_i a
    cases hb:Op.bytesLess z y with
    |false=>rfl
    |true=>
     rw[Yb]at a hb
     have:=swo_ltStr.trans y z y a hb
     rw[swo_ltStr.irrefl]at this;cases this
   ·split at h2
    ·omega
    ·rename_i b;simpa using b
  have n3:Op.bytesLess z x=false:=by rw[Yb]at *;exact swo_ltStr.ntrans z y x n2 n1
  unfold cS
  split
  ·omega
  ·rw[n3];simp
theorem O5 {x y:List UInt8}:cS x y=0↔x=y:=by
 constructor
 ·intro h
  unfold cS at h
  split at h
  ·omega
  ·split at h
   ·omega
   ·rename_i a b;exact ZL (by simpa using a) (by simpa using b)
 ·rintro rfl
  have:=Oe.anti x x
  omega
theorem AbQ {a b:Int}:DX a b=0↔a=0∧b=0:=by unfold DX;split<;>omega
theorem AiG {x:List UInt8}:Ae (Ad tab) 191 [.str x] (· =.bool false):=by
 refine Ac rfl rfl ?_
 (conv=>whnf);repeat' (first  |(refine kA ?_;conv=>whnf)|(refine Br.mk (fun hc=>?_) fun hc=>?_<;>first|exact hc.elim|conv=>whnf)|(refine kB ?_))
 all_goals first|rfl|(exfalso;simp_all)
theorem AiH {x y:List UInt8} (h:Op.bytesLess x y=true):AV.int .i64 (-1)=.int .i64 (cS x y):=by unfold cS;rw[if_pos h]
theorem AiI {x y:List UInt8} (h:Op.bytesLess x y=false) (h2:(Op.bytesLess x y||x==y)=true):AV.int .i64 0=.int .i64 (cS x y):=by
 rw[h,Bool.false_or,beq_iff_eq]at h2
 rw[O5.2 h2]
theorem AiJ {x y:List UInt8} (h2:(Op.bytesLess x y||x==y)=false):AV.int .i64 1=.int .i64 (cS x y):=by
 rw[Bool.or_eq_false_iff,beq_eq_false_iff_ne]at h2
 have h3:Op.bytesLess y x=true:=by
  cases h:Op.bytesLess y x with
  |true=>rfl
  |false=>exact absurd (ZL h2.1 h) h2.2
 unfold cS;rw[h2.1,h3];rfl
theorem Xw {x y:List UInt8}:Ae (Ad tab) 123 [.str x,.str y] (· =.int .i64 (cS x y)):=by
 refine Ac rfl rfl ?_
 (conv=>whnf);repeat' (first|(refine Aa AiG ?_;rintro _ rfl;conv=>whnf)|(refine kA ?_;conv=>whnf)|(refine Br.mk (fun hc=>?_) fun hc=>?_<;>first|exact hc.elim|conv=>whnf)|(refine kB ?_))
 all_goals first|exact AiH hc|exact AiI (by assumption) hc|exact AiJ hc
def fnz:List Int→Int
 |[]=>0
 |a::l=>DX a (fnz l)
theorem AeI {l:List Int} {i:Nat} (h:i<l.length):fnz (l.drop i)=DX l[i] (fnz (l.drop (i+1))):=by
 rw[List.drop_eq_getElem_cons h];rfl
theorem orV {l:List Int} {nn:Bool} (hl:l.length<2^62):Ae (Ad tab) 121 [.sl nn (vs (.int .i64) l)] (· =.int .i64 (fnz l)):=by
 refine Ac rfl rfl ?_
 (conv=>whnf);repeat' (first  |(refine kA ?_;conv=>whnf)|(refine Br.mk (fun hc=>?_) fun hc=>?_<;>first|exact hc.elim|conv=>whnf)|(refine kB ?_))
 refine Ag (fun m env s=>∃i:Nat,m=l.length-i∧fnz (l.drop i)=fnz l∧env=[(3,.int .i64 0),(6,.sl nn (vs (.int .i64) l)),(7,.int .i64 l.length),(8,.int .i64 i)]∧s=⟨[],0⟩) ?_ _ _ _ ⟨0,rfl,by simp,by first|rfl|(rw [← lV (f:=.int .i64) l];rfl),rfl⟩
 rintro _ _ _ ⟨i,rfl,hx,rfl,rfl⟩
 refine⟨rfl,?_⟩
 by_cases hlt:i<l.length
 ·rw[AeI hlt]at hx
  unfold DX at hx
  (conv=>whnf);repeat' (first  |(refine kA ?_;conv=>whnf)|(refine Br.mk (fun hc=>?_) fun hc=>?_<;>first|exact hc.elim|conv=>whnf)|(refine kB ?_))
  all_goals first
   |(rw [if_pos (by assumption)]at hx;exact again.mk ⟨_,by omega,i+1,rfl,hx,rfl,rfl⟩)
   |(rw [if_neg (by assumption)]at hx;rw[← hx];rfl)
 ·rw[List.drop_eq_nil_of_le (by omega)]at hx
  (conv=>whnf);repeat' (first  |(refine kA ?_;conv=>whnf)|(refine Br.mk (fun hc=>?_) fun hc=>?_<;>first|exact hc.elim|conv=>whnf)|(refine kB ?_))
  all_goals first|(rw [← hx];rfl)
theorem AeJ {p t e:Prop} [Decidable p] (h1:p→t) (h2:¬p→e):Jv (decide p) t e:=
 Jw (fun h=>h1 (of_decide_eq_true h)) (fun h=>h2 (of_decide_eq_false h))
theorem ZM {p t e:Prop} [Decidable p] (h1:p→e) (h2:¬p→t):Jv (decide (¬ p)) t e:=
 Jw (fun h=>h2 (of_decide_eq_true h)) (fun h=>h1 (Decidable.not_not.1 (of_decide_eq_false h)))
end
section
open Go.Sort
def Ql (x y:GR):Int:=DX (CY x.k y.k) (DX (cS x.name y.name) (DX (cS x.key y.key) (DX (CY x.n y.n) (DX (cS x.fr y.fr) (cS x.to y.to)))))
theorem Ht:PC Ql:=(Oc.on GR.k).lex ((Oe.on GR.name).lex ((Oe.on GR.key).lex ((Oc.on GR.n).lex ((Oe.on GR.fr).lex (Oe.on GR.to)))))
theorem Qm {x y:GR}:Ql x y=0↔x=y:=by
 unfold Ql
 simp only[AbQ,Dy,O5]
 constructor
 ·rintro⟨h1,h2,h3,h4,h5,h6⟩
  cases x;cases y
  simp only[GR.mk.injEq]
  exact⟨h1,h4,h2,h3,h5,h6⟩
 ·rintro rfl
  exact⟨rfl,rfl,rfl,rfl,rfl,rfl⟩
def BZ (x y:GR):Bool:=decide (Ql x y<0)
theorem O6 {x y:GR}:BZ x y=true↔Ql x y<0:=by unfold BZ;rw[decide_eq_true_eq]
theorem Og {x y:GR}:BZ x y=false↔0≤Ql x y:=by unfold BZ;rw[decide_eq_false_iff_not];omega
theorem EK:SWO BZ where
 irrefl x:=Og.2 (by have:=Ht.anti x x;omega)
 trans x y z h1 h2:=O6.2 (by
  have a:=O6.1 h1
  have b:=O6.1 h2
  have h3:=Ht.trans x y z (by omega) (by omega)
  have h4:=Ht.trans z x y
  have h5:=Ht.anti x z
  have h6:=Ht.anti y z
  omega)
 ntrans x y z h1 h2:=Og.2 (by
  have a:=Og.1 h1
  have b:=Og.1 h2
  have h3:=Ht.trans z y x
  have h4:=Ht.anti x y
  have h5:=Ht.anti y z
  have h6:=Ht.anti x z
  omega)
theorem Aas (x y:GR) (h1:BZ x y=false) (h2:BZ y x=false):x=y:=Qm.1 (by
 have a:=Og.1 h1
 have b:=Og.1 h2
 have:=Ht.anti x y
 omega)
theorem BR (x:GR):x.av.cells.length=6:=rfl
instance:Inhabited GR:=⟨⟨0,0,[],[],[],[]⟩⟩
theorem DZ {x y:GR}:Ae (Ad tab) 56 [x.av,y.av] (· =.int .i64 (Ql x y)):=by
 have ho:Ae (Ad tab) 121 [.sl true [.int .i64 (CY x.k y.k),.int .i64 (cS x.name y.name),.int .i64 (cS x.key y.key),.int .i64 (CY x.n y.n),.int .i64 (cS x.fr y.fr),.int .i64 (cS x.to y.to)]] (· =.int .i64 (Ql x y)):=by
  have h:=orV (l:=[CY x.k y.k,cS x.name y.name,cS x.key y.key,CY x.n y.n,cS x.fr y.fr,cS x.to y.to]) (nn:=true) (by simp)
  have e:fnz [CY x.k y.k,cS x.name y.name,cS x.key y.key,CY x.n y.n,cS x.fr y.fr,cS x.to y.to]=Ql x y:=by
   unfold Ql
   simp only[fnz]
   congr 1;congr 1;congr 1;congr 1;congr 1
   unfold DX;split<;>omega
  rw[e]at h
  exact h
 refine Ac rfl rfl ?_
 (conv=>whnf);repeat' (first|((first|refine Aa compare ?_|refine Aa Xw ?_|refine Aa ho ?_);rintro _ rfl;conv=>whnf)|(refine kA ?_;conv=>whnf)|(refine Br.mk (fun hc=>?_) fun hc=>?_<;>first|exact hc.elim|conv=>whnf)|(refine kB ?_))
 all_goals first|rfl
theorem He {x y:GR} {A B:Prop} (h1:BZ x y=true→A) (h2:BZ x y=false→B):NH (Ql x y<0) A B:=
 ⟨fun h=>h1 (decide_eq_true h),fun h=>h2 (decide_eq_false h)⟩
instance:DecidableEq GR:=fun x y=>if h:x.k=y.k∧x.n=y.n∧x.name=y.name∧x.key=y.key∧x.fr=y.fr∧x.to=y.to then .isTrue (by cases x;cases y;simp_all)else .isFalse (by rintro rfl;exact h ⟨rfl,rfl,rfl,rfl,rfl,rfl⟩)
theorem eqR (x y:GR):bin .eql (.flat [.int,.int,.str,.str,.str,.str]) (.agg (List.take 6 x.av.cells)) (.agg (List.take 6 y.av.cells))=some (.bool (decide (x=y))):=by
 obtain⟨k,n,a,b,c,d⟩:=x
 obtain⟨k',n',a',b',c',d'⟩:=y
 have e:∀z z':Int,(z==z')=decide (z=z'):=fun z z'=>by by_cases h:z=z'<;>simp[h]
 have e2:∀z z':List UInt8,(z==z')=decide (z=z'):=fun z z'=>by by_cases h:z=z'<;>simp[h]
 by_cases h1:k=k'<;>by_cases h2:n=n'<;>by_cases h3:a=a'<;>by_cases h4:b=b'<;>by_cases h5:c=c'<;>by_cases h6:d=d'<;>simp[bin,Uu,Jc,C9,GR.av,AV.cells,e,e2,h1,h2,h3,h4,h5,h6]
theorem neR (x y:GR):bin .neq (.flat [.int,.int,.str,.str,.str,.str]) (.agg (List.take 6 x.av.cells)) (.agg (List.take 6 y.av.cells))=some (.bool (decide (¬ x=y))):=by
 obtain⟨k,n,a,b,c,d⟩:=x
 obtain⟨k',n',a',b',c',d'⟩:=y
 have e:∀z z':Int,(z==z')=decide (z=z'):=fun z z'=>by by_cases h:z=z'<;>simp[h]
 have e2:∀z z':List UInt8,(z==z')=decide (z=z'):=fun z z'=>by by_cases h:z=z'<;>simp[h]
 by_cases h1:k=k'<;>by_cases h2:n=n'<;>by_cases h3:a=a'<;>by_cases h4:b=b'<;>by_cases h5:c=c'<;>by_cases h6:d=d'<;>simp[bin,Uu,Jc,C9,GR.av,AV.cells,e,e2,h1,h2,h3,h4,h5,h6]
attribute [irreducible] BZ Ql
end
theorem ZJ {a:AV} (h:Like Tryz.prog 26 a):∃nn l,a=.sl nn (vs GR.av l)∧(nn=false→l=[])∧Ln l∧∀y∈l,y.ok:=by
 obtain⟨d,h⟩:=h
 obtain⟨d',_,nn,xs,rfl,h1,h2,h3⟩:=Tf Tryz.underlying26 h
 obtain⟨l,rfl,h4⟩:=KQ (f:=GR.av) (Q:=GR.ok) fun x hx=>by
  obtain⟨cs,rfl,h0⟩:=Fa Tryz.underlying44 (h3 x hx)
  obtain⟨r,rfl,hr⟩:=TW h0
  exact⟨r,rfl,hr⟩
 exact⟨nn,l,rfl,fun h=>by have:=h1 h;simpa using this,Va (by simpa using h2),h4⟩
def okR (l:List GR) (j:Nat):Prop:=∀h:j<l.length,EI l[j]=0∧(0<j→Ql (l[j-1]'(by omega)) l[j]<0)
def FD (l:List GR):Prop:=l.length≤40∧∀j,j<l.length→okR l j
noncomputable instance (l:List GR):Decidable (FD l):=Classical.propDecidable _
theorem Agr {l:List GR} {nn:Bool} (hl:l.length<2^62) (hok:∀r∈l,r.ok):Ae (Ad tab) 51 [.sl nn (vs GR.av l)] (· =.bool (decide (FD l))):=by
 refine Ac rfl rfl ?_
 (conv=>whnf);repeat' (first  |(refine kA ?_;conv=>whnf)|(refine Br.mk (fun hc=>?_) fun hc=>?_<;>first|exact hc.elim|conv=>whnf)|(refine kB ?_))
 refine Ag (fun m env s=>∃i c:Nat,m=l.length-i∧env=[(0,.sl nn (vs GR.av l)),(5,.sl nn (vs GR.av l)),(6,.int .i64 l.length),(7,.int .i64 i)]∧s=⟨[],c⟩∧∀j,j<i→okR l j) ?_ _ _ _ ⟨0,0,rfl,rfl,rfl,fun j h=>absurd h (by omega)⟩
 rintro _ _ _ ⟨i,c,rfl,rfl,rfl,hx⟩
 refine⟨rfl,?_⟩
 by_cases hlt:i<l.length
 ·have hr:=Ny (hok _ (List.getElem_mem hlt))
  by_cases h0:i=0
  ·subst h0
   (conv=>whnf);repeat' (first|(refine Aa hr ?_;rintro _ rfl;conv=>whnf)|(refine kA ?_;conv=>whnf)|(refine Br.mk (fun hc=>?_) fun hc=>?_<;>first|exact hc.elim|conv=>whnf)|(refine kB ?_))
   all_goals first
        |exact again.mk ⟨_,by omega,1,_,rfl,rfl,rfl,fun j hj=>by
          obtain rfl:j=0:=by omega
          exact fun _=>⟨by omega,fun h=>absurd h (by omega)⟩⟩
        |exact Au fun h=>absurd (h.2 0 hlt hlt).1 (by omega)
        |(exfalso;omega)
  ·have ho:=DZ (x:=l[i-1]'(by omega)) (y:=l[i])
   (conv=>whnf);repeat' (first|((first|refine Aa hr ?_|refine Aa ho ?_);rintro _ rfl;conv=>whnf)|(apply Aj;(· exact nVz (i-1) (by omega) (by omega));conv=>whnf)|(refine kA ?_;conv=>whnf)|(refine Br.mk (fun hc=>?_) fun hc=>?_<;>first|exact hc.elim|conv=>whnf)|(refine kB ?_))
   all_goals first
        |exact again.mk ⟨_,by omega,i+1,_,rfl,rfl,rfl,fun j hj=>by
          rcases Nat.lt_or_ge j i with h|h
          ·exact hx j h
          ·obtain rfl:j=i:=by omega
           exact fun _=>⟨by omega,fun _=>by omega⟩⟩
        |exact Au fun h=>by have:=h.2 i hlt hlt;omega
        |(exfalso;omega)
 ·(conv=>whnf);repeat' (first  |(refine kA ?_;conv=>whnf)|(refine Br.mk (fun hc=>?_) fun hc=>?_<;>first|exact hc.elim|conv=>whnf)|(refine kB ?_))
  all_goals first
   |exact Bl ⟨by omega,fun j hj=>hx j (by omega)⟩
   |exact Au fun h=>absurd h.1 (by omega)
   |exact Agx ⟨fun h=>⟨by omega,fun j hj=>hx j (by omega)⟩,fun h=>by have:=h.1;omega⟩
theorem AmR {l:List GR} (h:FD l) {j:Nat} (h1:j+1<l.length):BZ l[j] l[j+1]=true:=O6.2 ((h.2 (j+1) h1 h1).2 (by omega))
theorem Afb {l:List GR} (h:FD l):l.Pairwise fun x y=>BZ x y=true:=by
 rw[List.pairwise_iff_getElem]
 have:∀d i (hd:i+d+1<l.length),BZ l[i] l[i+d+1]=true:=by
  intro d
  induction d with
  |zero=>exact fun i hd=>AmR h hd
  |succ d ih=>exact fun i hd=>EK.trans _ _ _ (ih i (by omega)) (AmR h (j:=i+d+1) hd)
 intro i j hi hj hij
 obtain⟨d,rfl⟩:∃d,j=i+d+1:=⟨j-i-1,by omega⟩
 exact this d i hj
structure Afc (l:List GR) (x:GR) (z:Nat):Prop where
 le:z≤l.length
 lo:∀k (h:k<l.length),k<z→BZ l[k] x=true
 hi:∀k (h:k<l.length),z≤k→BZ l[k] x=false
theorem Afc.mem {l:List GR} {x:GR} {z:Nat} (h:Afc l x z) (hs:l.Pairwise fun x y=>BZ x y=true):x∈l↔∃h:z<l.length,l[z]=x:=by
 constructor
 ·intro hx
  obtain⟨k,hk,e⟩:=List.getElem_of_mem hx
  have h1:¬k<z:=fun hlt=>by have:=h.lo k hk hlt;rw[e,EK.irrefl]at this;cases this
  have h2:¬z<k:=fun hlt=>by
   have a:=List.pairwise_iff_getElem.1 hs z k (by omega) hk hlt
   rw[e]at a
   have b:=h.hi z (by omega) (by omega)
   rw[a]at b;cases b
  obtain rfl:k=z:=by omega
  exact⟨hk,e⟩
 ·rintro⟨h1,e⟩
  rw[← e];exact List.getElem_mem h1
theorem bsR {l:List GR} {nn:Bool} {x:GR} (hl:l.length<2^61) (hs:l.Pairwise fun x y=>BZ x y=true):Ae (Ad tab) 114 [.sl nn (vs GR.av l),x.av,.fn 56 []] (fun v=>∃(z:Nat) (b:Bool),v=.BF [.int .i64 z,.bool b]∧Afc l x z∧(b=true↔x∈l)):=by
 refine Ac rfl rfl ?_
 (conv=>whnf);repeat' (first  |(refine kA ?_;conv=>whnf)|(refine Br.mk (fun hc=>?_) fun hc=>?_<;>first|exact hc.elim|conv=>whnf)|(refine kB ?_))
 refine Ag (fun m env s=>∃(i j:Nat),m=j-i∧i≤j∧j≤l.length∧env=[(0,.sl nn (vs GR.av l)),(2,.fn 56 []),(4,.ref 0 0 0 0),(8,.int .i64 l.length),(9,.int .i64 i),(10,.int .i64 j)]∧s=⟨[.arr 0 6 true true [x.av]],1⟩∧
  (∀ k (h:k<l.length),k<i→BZ l[k] x=true)∧(∀ k (h:k<l.length),j≤k→BZ l[k] x=false)) ?_ _ _ _ ⟨0,l.length,rfl,by omega,by omega,by simp,rfl,fun k _ h=>absurd h (by omega),fun k h1 h=>absurd h (by omega)⟩
 rintro _ _ _ ⟨i,j,rfl,hij,hj,rfl,rfl,h1,h2⟩
 refine⟨rfl,?_⟩
 by_cases hlt:i<j
 ·have ho:=DZ (x:=l[(i+j) / 2]'(by omega)) (y:=x)
  (conv=>whnf);repeat' (first|(refine UQ (i+j) (by omega) (by omega) ?_;conv=>whnf)|(apply Bo;(· exact AbE _);conv=>whnf)|(refine Aa ho ?_;rintro _ rfl;conv=>whnf)|(refine kA ?_;conv=>whnf)|(refine Br.mk (fun hc=>?_) fun hc=>?_<;>first|exact hc.elim|conv=>whnf)|(refine kB ?_))
  all_goals first
   |(have hm:=O6.2 hc
     exact again.mk ⟨_,by omega,(i+j) / 2+1,j,rfl,by omega,hj,rfl,rfl,fun k hk hlt=>by
      rcases Nat.lt_or_ge k ((i+j) / 2)with h|h
      ·exact EK.trans _ _ _ (List.pairwise_iff_getElem.1 hs k ((i+j) / 2) hk (by omega) h) hm
      ·obtain rfl:k=(i+j) / 2:=by omega
       exact hm,h2⟩)
   |(have hm:BZ (l[(i+j) / 2]'(by omega)) x=false:=Og.2 (by omega)
     exact again.mk ⟨_,by omega,i,(i+j) / 2,rfl,by omega,by omega,rfl,rfl,h1,fun k hk hle=>by
      rcases Nat.lt_or_ge ((i+j) / 2) k with h|h
      ·have a:=List.pairwise_iff_getElem.1 hs ((i+j) / 2) k (by omega) hk h
       cases e:BZ l[k] x with
       |false=>rfl
       |true=>rw[EK.trans _ _ _ a e]at hm;cases hm
      ·obtain rfl:k=(i+j) / 2:=by omega
       exact hm⟩)
 ·obtain rfl:i=j:=by omega
  have hp:Afc l x i:=⟨hj,h1,fun k hk h=>h2 k hk h⟩
  by_cases hi:i<l.length
  ·have ho:=DZ (x:=l[i]) (y:=x)
   (conv=>whnf);repeat' (first|(refine Aa ho ?_;rintro _ rfl;conv=>whnf)|(refine kA ?_;conv=>whnf)|(refine Br.mk (fun hc=>?_) fun hc=>?_<;>first|exact hc.elim|conv=>whnf)|(refine kB ?_))
   all_goals first
        |exact⟨_,_,rfl,hp,fun _=>(hp.mem hs).2 ⟨hi,Qm.1 hc⟩,fun _=>rfl⟩
        |exact⟨_,_,rfl,hp,fun h=>(Bool.noConfusion h),fun h=>absurd (Qm.2 ((hp.mem hs).1 h).2) hc⟩
  ·(conv=>whnf);repeat' (first  |(refine kA ?_;conv=>whnf)|(refine Br.mk (fun hc=>?_) fun hc=>?_<;>first|exact hc.elim|conv=>whnf)|(refine kB ?_))
   all_goals first
        |exact⟨_,_,rfl,hp,fun h=>(Bool.noConfusion h),fun h=>absurd ((hp.mem hs).1 h).1 hi⟩
theorem Rk {α:Type} {p:α→Bool} {l:List α} {i:Nat} (hi:i<l.length) (h:∀x∈l.take i,p x=false) (hp:p l[i]=true):l.find? p=some l[i]:=by
 have e:l=l.take i++l[i]::l.drop (i+1):=by rw[← List.drop_eq_getElem_cons hi,List.take_append_drop]
 have h1:(l.take i).find? p=none:=List.find?_eq_none.2 fun x hx=>by simp[h x hx]
 refine(congrArg (List.find? p) e).trans ?_
 rw[List.find?_append,h1,List.find?_cons_of_pos hp]
 rfl
theorem AaZ {α:Type} {p:α→Bool} {l:List α} (h:∀x∈l,p x=false):l.find? p=none:=List.find?_eq_none.2 fun x hx=>by simp[h x hx]
theorem Aa0 {α:Type} {p:α→Bool} {l:List α} {i:Nat} (hi:i<l.length) (h:∀x∈l.take i,p x=false) (hp:p l[i]=false):∀x∈l.take (i+1),p x=false:=BO hi h hp
def FP:Nat→AV→Prop
 |0,_=>False
 |d+1,a=>∃g:GV,a=g.av∧g.ok∧g.s.length≤101000∧g.l.length≤2000∧∀x∈g.l,FP d x
theorem wei:∀(d:Nat),d≤12→∀{g:GV} (hg:g.ok) {left:Int} (h1:-184467440737095530≤left) (h2:left≤2000),
 Ae (Ad tab) 88 [g.av,.int .i64 left,.int .i64 d] (fun v=>∃r,v=.int .i64 r∧-368934881474191048≤r∧r≤1999∧(0≤r→r+1≤left∧FP d g.av)):=by
 intro d
 induction d with
 |zero=>
  intro _ g hg left h1 h2
  obtain⟨g1,g2,g3,g4,g5,g6,g7⟩:=hg
  unfold Ln at g4 g5
  refine Ac rfl rfl ?_
  (conv=>whnf);repeat' (first|(refine kA ?_;conv=>whnf)|(refine Br.mk (fun hc=>?_) fun hc=>?_<;>first|exact hc.elim|conv=>whnf)|(refine VA (by omega) ?_;conv=>whnf)|(refine kB ?_))
  all_goals exact⟨_,rfl,by omega,by omega,fun h=>absurd h (by omega)⟩
 |succ d ih=>
  intro hd g hg left h1 h2
  obtain⟨g1,g2,g3,g4,g5,g6,g7⟩:=hg
  unfold Ln at g4 g5
  refine Ac rfl rfl ?_
  (conv=>whnf);repeat' (first|(refine kA ?_;conv=>whnf)|(refine Br.mk (fun hc=>?_) fun hc=>?_<;>first|exact hc.elim|conv=>whnf)|(refine VA (by omega) ?_;conv=>whnf)|(refine kB ?_))
  have hw:∀{g:GV} (hg:g.ok) {left:Int} (h1:-184467440737095530≤left) (h2:left≤2000),
        Ae (Ad tab) 88 [g.av,.int .i64 left,.int .i64 (((d+1:Nat):Int)-1)] (fun v=>∃r,v=.int .i64 r∧-368934881474191048≤r∧r≤1999∧(0≤r→r+1≤left∧FP d g.av)):=by
   rw[show ((d+1:Nat):Int)-1=(d:Int) by omega]
   exact ih (by omega)
  refine Ag (fun m env s=>∃(i:Nat) (cur:Int),m=g.l.length-i∧env=[(1,.int .i64 cur),(2,.int .i64 (d+1:Nat)),(3,.ref 0 0 0 0),(7,.int .i64 i)]∧s=⟨[.arr 0 5 true true [g.av]],1⟩∧
   -368934881474191048≤cur∧cur≤1999∧(0≤cur→cur+i+g.s.length / 50+1≤left∧∀x∈g.l.take i,FP d x)) ?_ _ _ _ ⟨0,_,rfl,rfl,rfl,by omega,by omega,fun h=>⟨by omega,by simp⟩⟩
  rintro _ _ _ ⟨i,cur,rfl,rfl,rfl,b1,b2,hx⟩
  refine⟨rfl,?_⟩
  obtain⟨gx,hgx⟩:=DV g7 i
  (conv=>whnf);repeat' (first|(refine kA ?_;conv=>whnf)|(refine Br.mk (fun hc=>?_) fun hc=>?_<;>first|exact hc.elim|conv=>whnf)|(apply Aj;(· exact(hgx (by omega)).1);conv=>whnf)|(refine kB ?_))
  ·obtain⟨_,ge,gl⟩:=hgx (by omega)
   refine Aa (hw gl (by omega) (by omega)) ?_
   rintro _ ⟨r,rfl,r1,r2,r3⟩
   (conv=>whnf);repeat' (first|(refine kA ?_;conv=>whnf)|(refine Br.mk (fun hc=>?_) fun hc=>?_<;>first|exact hc.elim|conv=>whnf)  |(refine kB ?_))
   exact again.mk ⟨_,by omega,i+1,r,rfl,rfl,rfl,by omega,by omega,fun h=>⟨by have:=hx (by omega);have:=r3 h;omega,BO (by omega) (hx (by omega)).2 (ge▸(r3 h).2)⟩⟩
  ·exact⟨_,rfl,by omega,by omega,fun h=>absurd h (by omega)⟩
  ·refine⟨_,rfl,by omega,by omega,fun h=>?_⟩
   obtain⟨x1,x2⟩:=hx h
   rw[Dz hc]at x2
   exact⟨by omega,g,rfl,⟨g1,g2,g3,g4,g5,g6,g7⟩,by omega,by omega,x2⟩
def AiP (ps:List GP):Prop:=ps.length≤2000∧∀p∈ps,p.ok∧FP 12 p.v.av
theorem Nh {d:Nat} {a:AV} (h:FP d a):∃g:GV,a=g.av∧g.ok∧g.l.length≤2000∧∃d',d=d'+1∧∀x∈g.l,FP d' x:=by
 cases d with
 |zero=>cases h
 |succ d=>
  obtain⟨g,e,h1,h2,h3,h4⟩:=h
  exact⟨g,e,h1,h3,d,rfl,h4⟩
theorem Ahl {d:Nat} {l:List AV} (h:∀x∈l,FP d x) (i:Nat):∃g:GV,∀hi:i<l.length,nth l (Int.toNat (Nat.cast i))=some g.av∧l[i]=g.av∧g.ok∧FP d g.av:=by
 by_cases hi:i<l.length
 ·obtain⟨g,e,hg,_⟩:=Nh (h _ (List.getElem_mem hi))
  exact⟨g,fun _=>⟨by rw[← e];exact nR hi,e,hg,e▸h _ (List.getElem_mem hi)⟩⟩
 ·exact⟨⟨0,0,0,[],true,[]⟩,fun h=>absurd h hi⟩
theorem Ju {g es:Nat} {ys:List AV} {bytes:Nat} {K:Nat→Bool→Bool→List AV→Prop} (hs:Ba es ys) (hr:ys.length*bytes≤2 ^ 46) (h:K ys.length true true ys):
 IQ g g es es 0 true true true [] ys bytes K:=by
 refine⟨⟨rfl,rfl,by simp,hs,?_⟩,?_⟩
 ·rw[Nat.zero_add];exact Jk hr
 ·rw[Nat.zero_add];exact h
theorem AhZ:Aq (Ad tab) 240 [.sl false []] ⟨[],0⟩ fun out _=>out=.ok (.sl false []):=by
 refine Ai rfl rfl ?_
 (conv=>whnf);repeat' (first|(refine kA ?_;conv=>whnf)|(refine Br.mk (fun hc=>?_) fun hc=>?_<;>first|exact hc.elim|conv=>whnf)  |(refine kB ?_))
 rfl
theorem Ak7 {l:List AV} (hs:Ba 5 l) (hl:l.length≤2000):Aq (Ad tab) 240 [.sl true l] ⟨[],0⟩ fun out s'=>∃o g,out=.ok (.own o g 0 l.length)∧nth s'.σ o=some (.arr g 5 true true l):=by
 refine Ai rfl rfl ?_
 (conv=>whnf);repeat' (first|(refine kA ?_;conv=>whnf)|(refine Br.mk (fun hc=>?_) fun hc=>?_<;>first|exact hc.elim|conv=>whnf)  |(refine kB ?_))
 refine Ju hs (by omega) ?_
 (conv=>whnf);repeat' (first|(refine kA ?_;conv=>whnf)|(refine Br.mk (fun hc=>?_) fun hc=>?_<;>first|exact hc.elim|conv=>whnf)  |(refine kB ?_))
 exact⟨_,_,rfl,rfl⟩
theorem AcC {d:Nat} {l:List AV} (h:∀x∈l,FP d x):Ba 5 l:=by
 intro x hx
 obtain⟨g,rfl,_⟩:=Nh (h x hx)
 rfl
theorem UU {l:List AV} {z:Nat} {x:AV} (h:nth l z=some x):l.set z x=l:=by
 rw[AU]at h
 obtain⟨hz,rfl⟩:=List.getElem?_eq_some_iff.1 h
 exact List.set_getElem_self hz
theorem Adb (l:List AV):sub l 0 l.length=l:=by unfold sub;exact List.take_of_length_le (by simp)
theorem AcD {d:Nat} {g:GV} (hg:g.ok) (h2:g.l.length≤2000) (h3:∀x∈g.l,FP d x) (ih:∀{g:GV},g.ok→FP d g.av→Ae (Ad tab) 177 [g.av] (· =g.av)):
 Ae (Ad tab) 177 [g.av] (· =g.av):=by
 obtain⟨g1,g2,g3,g4,g5,g6,g7⟩:=hg
 obtain⟨k,n,dd,s,nn,l⟩:=g
 simp only at*
 cases nn with
 |false=>
  obtain rfl:=g6 rfl
  refine Ac rfl rfl ?_
  (conv=>whnf);repeat' (first|(refine kA ?_;conv=>whnf)|(refine Br.mk (fun hc=>?_) fun hc=>?_<;>first|exact hc.elim|conv=>whnf)  |(refine kB ?_))
  refine FQ rfl AhZ ?_
  (conv=>whnf);repeat' (first|(refine kA ?_;conv=>whnf)|(refine Br.mk (fun hc=>?_) fun hc=>?_<;>first|exact hc.elim|conv=>whnf)  |(refine kB ?_))
  refine DN ?_ rfl
  (conv=>whnf);repeat' (first|(refine kA ?_;conv=>whnf)|(refine Br.mk (fun hc=>?_) fun hc=>?_<;>first|exact hc.elim|conv=>whnf)  |(refine kB ?_))
  rfl
 |true=>
  refine Ac rfl rfl ?_
  (conv=>whnf);repeat' (first|(refine kA ?_;conv=>whnf)|(refine Br.mk (fun hc=>?_) fun hc=>?_<;>first|exact hc.elim|conv=>whnf)  |(refine kB ?_))
  refine RP rfl (Ak7 (AcC h3) h2) ?_
  (conv=>whnf);repeat' (first|(refine kA ?_;conv=>whnf)|(refine Br.mk (fun hc=>?_) fun hc=>?_<;>first|exact hc.elim|conv=>whnf)  |(refine kB ?_))
  refine Ag (fun m env st=>∃i:Nat,m=l.length-i∧env=[(1,.ref 0 0 0 0),(2,.ref 1 1 0 0),(10,.int .i64 l.length),(11,.int .i64 i)]∧st=⟨[.arr 0 5 true false [.agg [.int .i64 k,.int .i64 n,.int .i64 dd,.str s,.own 2 2 0 l.length]],.arr 1 5 true true [.agg [.int .i64 0,.int .i64 0,.int .i64 0,.str [],.sl false []]],.arr 2 5 true true l],3⟩) ?_ _ _ _ ⟨0,rfl,rfl,rfl⟩
  rintro _ _ _ ⟨i,rfl,rfl,rfl⟩
  refine⟨rfl,?_⟩
  unfold Ln at g5
  obtain⟨gx,hgx⟩:=Ahl h3 i
  (conv=>whnf);repeat' (first|(apply Aj;(· exact(hgx (by omega)).1);conv=>whnf)|(refine Aa (ih (g:=gx) (hgx (by omega)).2.2.1 (hgx (by omega)).2.2.2) ?_;rintro _ rfl;conv=>whnf)|(apply Bo;(· exact UU (x:=gx.av) (hgx (by omega)).1);conv=>whnf)|(refine kA ?_;conv=>whnf)|(refine Br.mk (fun hc=>?_) fun hc=>?_<;>first|exact hc.elim|conv=>whnf)|(refine kB ?_))
  ·exact again.mk ⟨_,by omega,i+1,rfl,rfl,rfl⟩
  ·rw[Adb];rfl
theorem RQ:∀(d:Nat) {g:GV},g.ok→FP d g.av→Ae (Ad tab) 177 [g.av] (· =g.av)
 |0,_,_,h=>by cases h
 |d+1,g,hg,h=>by
  obtain⟨g',e,h1,h2,d',e2,h3⟩:=Nh h
  obtain rfl:d=d':=by omega
  have:g.l=g'.l:=by injection e with e;simp only[List.cons.injEq,AV.sl.injEq]at e;exact e.2.2.2.2.1.2
  exact AcD hg (by rw[this];exact h2) (by rw[this];exact h3) (RQ d)
def V0:GV:=⟨0,0,0,[],false,[]⟩
def isK (k:List UInt8) (p:GP):Bool:=decide (p.key=k)
def Yl (l:List GP) (k:List UInt8):AV:=match l.find? (isK k)with
 |some n=>n.v.av
 |none=>V0.av
theorem AiD:Ae (Ad tab) 99 [] (· =V0.av):=by
 refine Ac rfl rfl ?_
 (conv=>whnf);repeat' (first|(refine kA ?_;conv=>whnf)|(refine Br.mk (fun hc=>?_) fun hc=>?_<;>first|exact hc.elim|conv=>whnf)  |(refine kB ?_))
 rfl
theorem AiC {l:List GP} {nn:Bool} (hl:l.length<2^63) (hg:∀p∈l,p.ok∧FP 12 p.v.av) {k:List UInt8}:Ae (Ad tab) 113 [.sl nn (vs GP.av l),.str k] (· =Yl l k):=by
 refine Ac rfl rfl ?_
 (conv=>whnf);repeat' (first|(refine kA ?_;conv=>whnf)|(refine Br.mk (fun hc=>?_) fun hc=>?_<;>first|exact hc.elim|conv=>whnf)  |(refine kB ?_))
 refine Ag (fun m env s=>∃i c:Nat,m=l.length-i∧(∀ x∈l.take i,isK k x=false)∧env=[(1,.str k),(4,.ref 0 0 0 0),(7,.sl nn (vs GP.av l)),(8,.int .i64 l.length),(9,.int .i64 i)]∧s=⟨[.arr 0 5 true true [.agg [.int .i64 0,.int .i64 0,.int .i64 0,.str [],.sl false []]]],c⟩) ?_ _ _ _ ⟨0,_,rfl,by simp,by rw[← lV (f:=GP.av) l];rfl,rfl⟩
 rintro _ _ _ ⟨i,c,rfl,hx,rfl,rfl⟩
 refine⟨rfl,?_⟩
 have ho:∀h:i<l.length,(l[i]).v.ok∧FP 12 (l[i]).v.av:=fun h=>⟨(hg _ (List.getElem_mem h)).1.2,(hg _ (List.getElem_mem h)).2⟩
 (conv=>whnf);repeat' (first|(refine kA ?_;conv=>whnf)|(refine Br.mk (fun hc=>?_) fun hc=>?_<;>first|exact hc.elim|conv=>whnf)|((first|refine Aa (RQ 12 (g:=l[i].v) (ho (by omega)).1 (ho (by omega)).2) ?_|refine Aa AiD ?_);rintro _ rfl;conv=>whnf)|(refine kB ?_))
 ·rw[Yl,Rk (by omega) hx (decide_eq_true hc)];rfl
 ·exact again.mk ⟨_,by omega,i+1,_,rfl,Aa0 (by omega) hx (decide_eq_false hc),rfl,rfl⟩
 ·rw[Dz hc]at hx
  rw[Yl,AaZ hx];rfl
theorem AoS {l:List (List UInt8)} {x:List UInt8} {nn:Bool} (hl:l.length<2^63):Ae (Ad tab) 173 [.sl nn (vs .str l),.str x] (fun v=>∃z,v=.int .i64 z∧(0≤z↔x∈l)):=by
 refine Ac rfl rfl ?_
 (conv=>whnf);repeat' (first|(refine kA ?_;conv=>whnf)|(refine Br.mk (fun hc=>?_) fun hc=>?_<;>first|exact hc.elim|conv=>whnf)  |(refine kB ?_))
 refine Ag (fun m env s=>∃i:Nat,m=l.length-i∧env=[(0,.sl nn (vs .str l)),(1,.str x),(7,.int .i64 l.length),(8,.int .i64 i)]∧s=⟨[],0⟩∧x∉l.take i) ?_ _ _ _ ⟨0,rfl,by simp,rfl,by simp⟩
 rintro _ _ _ ⟨i,rfl,rfl,rfl,hx⟩
 refine⟨rfl,?_⟩
 (conv=>whnf);repeat' (first|(refine kA ?_;conv=>whnf)|(refine Br.mk (fun hc=>?_) fun hc=>?_<;>first|exact hc.elim|conv=>whnf)  |(refine kB ?_))
 ·subst hc;exact⟨_,rfl,by simp⟩
 ·exact again.mk ⟨_,by omega,i+1,rfl,rfl,rfl,nms (by omega) hx (fun h=>hc h.symm)⟩
 ·rw[Dz hc]at hx;exact⟨_,rfl,by simp[hx]⟩
theorem AeU {l:List (List UInt8)} {x:List UInt8} {nn:Bool} (hl:l.length<2^63):Ae (Ad tab) 105 [.sl nn (vs .str l),.str x] (· =.bool (decide (x∈l))):=by
 refine Ac rfl rfl ?_
 (conv=>whnf);repeat' (first|(refine kA ?_;conv=>whnf)|(refine Br.mk (fun hc=>?_) fun hc=>?_<;>first|exact hc.elim|conv=>whnf)  |(refine kB ?_))
 refine Aa (AoS hl) ?_
 rintro _ ⟨z,rfl,hz⟩
 (conv=>whnf);repeat' (first|(refine kA ?_;conv=>whnf)|(refine Br.mk (fun hc=>?_) fun hc=>?_<;>first|exact hc.elim|conv=>whnf)  |(refine kB ?_))
 ·exact Bl (hz.1 hc)
 ·exact Au (mt hz.2 hc)
theorem I4 {n:GN} {s:List UInt8} (hl:n.labels.length<2^63):Ae (Ad tab) 110 [n.av,.str s] (· =.bool (decide (s∈n.labels))):=by
 refine Ac rfl rfl ?_
 (conv=>whnf);repeat' (first|(refine kA ?_;conv=>whnf)|(refine Br.mk (fun hc=>?_) fun hc=>?_<;>first|exact hc.elim|conv=>whnf)|(refine Ar (AeU hl) (fun hc=>?_) (fun hc=>?_)<;>conv=>whnf)|(refine kB ?_))
 all_goals first|exact Bl (by assumption)|exact Au (by assumption)
theorem AcG {AP:Nat→Option Ip} {f:Nat} {sp:List AV→Am→Option (AB×Am)} {args:List AV} {R:AV→Prop} {v v':AV} {s:Am} (hf:AP f=some (.ext sp)) (h:sp args ⟨[],0⟩=some (.ok v,s)) (hs:snap s.σ ED v=some v') (hR:R v'):Ae AP f args R:=
 ⟨v',⟨1,by simp only[Ez,run,hf,h];exact hs⟩,hR⟩
theorem ixP {l:List UInt8}:Ae (Ad tab) 270 [.str l,.fn 271 []] (· =.int .i64 (JU l)):=
 AcG rfl rfl rfl rfl
theorem IY {l:List UInt8}:JU l<0↔∀c∈l,OJ c=false:=by
 unfold JU
 cases h:List.findIdx? OJ l with
 |none=>
  refine⟨fun _ c hc=>?_,fun _=>by decide⟩
  have:=List.findIdx?_eq_none_iff.1 h c hc
  simpa using this
 |some i=>
  refine⟨fun h=>?_,fun ha=>?_⟩
  ·simp at h;omega
  ·obtain⟨h1,h2,_⟩:=List.findIdx?_eq_some_iff_getElem.1 h
   rw[ha _ (List.getElem_mem h1)]at h2
   cases h2
def OQ (n:Int):Prop:=-1000000000000000≤n∧n≤1000000000000000
instance (n:Int):Decidable (OQ n):=by unfold OQ;infer_instance
theorem inP {n:Int}:Ae (Ad tab) 268 [.int .i64 n] (· =.bool (decide (OQ n))):=by
 refine Ac rfl rfl ?_
 (conv=>whnf);repeat' (first|(refine kA ?_;conv=>whnf)|(refine Br.mk (fun hc=>?_) fun hc=>?_<;>first|exact hc.elim|conv=>whnf)  |(refine kB ?_))
 all_goals first|exact Bl (by unfold OQ;omega)|exact Au (by unfold OQ;omega)
theorem Aoh {n:Int}:Ae (Ad tab) 226 [.int .i64 n] (· =.bool (decide (OQ n))):=by
 refine Ac rfl rfl ?_
 (conv=>whnf);repeat' (first|(refine kA ?_;conv=>whnf)|(refine Br.mk (fun hc=>?_) fun hc=>?_<;>first|exact hc.elim|conv=>whnf)  |(refine kB ?_))
 all_goals first|exact Bl (by unfold OQ;omega)|exact Au (by unfold OQ;omega)
def okS (s:List UInt8):Prop:=s.length≤100∧∀c∈s,OJ c=false
instance (s:List UInt8):Decidable (okS s):=by unfold okS;infer_instance
def Fq (v:GV):Prop:=v.d=0∧v.l.length=0∧(v.k=1∧v.s=[]∧(v.n=0∨v.n=1)∨v.k=2∧v.s=[]∧OQ v.n∨v.k=4∧v.n=0∧okS v.s)
instance (v:GV):Decidable (Fq v):=by unfold Fq;infer_instance
def NI (v:GV):Prop:=v.k=1∨v.k=2∨v.k=4
instance (v:GV):Decidable (NI v):=by unfold NI;infer_instance
theorem Vu {v:GV} (h:Fq v):NI v:=by unfold Fq at h;unfold NI;omega
theorem Aju {v:GV} (h:Fq v) (hk:v.k≠4):v.s=[]:=by
 obtain⟨_,_,h⟩:=h
 rcases h with h|h|h
 ·exact h.2.1
 ·exact h.2.1
 ·exact absurd h.1 hk
theorem Ajt {v:GV} (h:Fq v) (hk:v.k=4):v.n=0∧okS v.s:=by
 obtain⟨_,_,h⟩:=h
 rcases h with h|h|h<;>first|exact h.2|omega
theorem vld {v:GV} (hv:v.ok) (hk:NI v) {n:Int}:Ae (Ad tab) 234 [v.av,.int .i64 n] (· =.bool (decide (Fq v))):=by
 obtain⟨g1,g2,g3,g4,g5,g6,g7⟩:=hv
 unfold Ln at g4 g5
 unfold NI at hk
 refine Ac rfl rfl ?_
 (conv=>whnf);repeat' (first|(refine kA ?_;conv=>whnf)|(refine Br.mk (fun hc=>?_) fun hc=>?_<;>first|exact hc.elim|conv=>whnf)|(refine Ar (inP (n:=v.n)) (fun hr=>?_) (fun hr=>?_)<;>conv=>whnf)|(refine Aa (ixP (l:=v.s)) ?_;rintro _ rfl;conv=>whnf)|(refine kB ?_))
 all_goals first
  |exact Au (fun h=>by have:=h.2.1;omega)
  |(refine Bl ?_;clear g7 g6;unfold Fq okS;rw[← IY];first|(simp_all;done)|(simp_all;omega))
  |(refine Au ?_;clear g7 g6;unfold Fq okS;rw[← IY];first|(simp_all;done)|(simp_all;omega))
theorem Apo {v:GV} (hv:v.ok) (hk:NI v):Ae (Ad tab) 162 [v.av] (· =.bool (decide (Fq v))):=by
 refine Ac rfl rfl ?_
 (conv=>whnf);repeat' (first|(refine kA ?_;conv=>whnf)|(refine Br.mk (fun hc=>?_) fun hc=>?_<;>first|exact hc.elim|conv=>whnf)|(refine Ar (vld (v:=v) hv hk) (fun hr=>?_) (fun hr=>?_)<;>conv=>whnf)|(refine kB ?_))
 all_goals first|exact Bl (by assumption)|exact Au (by assumption)
theorem Kw {v:GV} (hv:v.ok):Ae (Ad tab) 101 [v.av] (· =.bool (decide (Fq v))):=by
 refine Ac rfl rfl ?_
 (conv=>whnf);repeat' (first|(refine kA ?_;conv=>whnf)|(refine Br.mk (fun hc=>?_) fun hc=>?_<;>first|exact hc.elim|conv=>whnf)|(refine Ar (Apo (v:=v) hv (by unfold NI;omega)) (fun hr=>?_) (fun hr=>?_)<;>conv=>whnf)|(refine kB ?_))
 all_goals first|exact Bl (by assumption)|exact Au (by assumption)|exact Au fun h=>absurd (Vu h) (by unfold NI;omega)
def allNames (l:List (List UInt8)):Prop:=∀s∈l,isName s
noncomputable instance (l:List (List UInt8)):Decidable (allNames l):=Classical.propDecidable _
def rises (l:List (List UInt8)):Prop:=∀j (h:j+1<l.length),(Op.bytesLess l[j+1] l[j]||l[j+1]==l[j])=false
noncomputable instance (l:List (List UInt8)):Decidable (rises l):=Classical.propDecidable _
theorem unn {s:List UInt8} (hl:s.length<2^63):Ae (Ad tab) 169 [.str s] (· =.bool (decide (¬ isName s))):=by
 refine Ac rfl rfl ?_
 (conv=>whnf);repeat' (first|(refine kA ?_;conv=>whnf)|(refine Br.mk (fun hc=>?_) fun hc=>?_<;>first|exact hc.elim|conv=>whnf)|(refine Ar (name1 hl) (fun hr=>?_) (fun hr=>?_)<;>conv=>whnf)|(refine kB ?_))
 ·exact Au (fun h=>h hr)
 ·exact Bl hr
theorem AlP {l:List (List UInt8)} {nn:Bool} (hl:l.length<2^63) (hs:∀s∈l,s.length<2^63):Ae (Ad tab) 238 [.sl nn (vs .str l),.fn 169 []] (fun v=>∃z,v=.int .i64 z∧(0≤z↔¬allNames l)):=by
 refine Ac rfl rfl ?_
 (conv=>whnf);repeat' (first|(refine kA ?_;conv=>whnf)|(refine Br.mk (fun hc=>?_) fun hc=>?_<;>first|exact hc.elim|conv=>whnf)  |(refine kB ?_))
 refine Ag (fun m env s=>∃i:Nat,m=l.length-i∧env=[(0,.sl nn (vs .str l)),(1,.fn 169 []),(7,.int .i64 l.length),(8,.int .i64 i)]∧s=⟨[],0⟩∧∀s∈l.take i,isName s) ?_ _ _ _ ⟨0,rfl,by simp,rfl,by simp⟩
 rintro _ _ _ ⟨i,rfl,rfl,rfl,hx⟩
 refine⟨rfl,?_⟩
 (conv=>whnf);repeat' (first|(refine kA ?_;conv=>whnf)|(refine Br.mk (fun hc=>?_) fun hc=>?_<;>first|exact hc.elim|conv=>whnf)|(refine Ar (unn (hs _ (List.getElem_mem (by omega)))) (fun hr=>?_) (fun hr=>?_)<;>conv=>whnf)|(refine kB ?_))
 ·exact⟨_,rfl,fun _ h=>hr (h _ (List.getElem_mem _)),fun _=>by omega⟩
 ·exact again.mk ⟨_,by omega,i+1,rfl,rfl,rfl,BO (by omega) hx (Decidable.of_not_not hr)⟩
 ·rw[Dz hc]at hx;exact⟨_,rfl,fun h=>absurd h (by omega),fun h=>absurd hx h⟩
theorem Adc {l:List (List UInt8)} {nn:Bool} (hl:l.length<2^63) (hs:∀s∈l,s.length<2^63):Ae (Ad tab) 168 [.sl nn (vs .str l),.fn 169 []] (· =.bool (decide (¬ allNames l))):=by
 refine Ac rfl rfl ?_
 (conv=>whnf);repeat' (first|(refine kA ?_;conv=>whnf)|(refine Br.mk (fun hc=>?_) fun hc=>?_<;>first|exact hc.elim|conv=>whnf)  |(refine kB ?_))
 refine Aa (AlP hl hs) ?_
 rintro _ ⟨z,rfl,hz⟩
 (conv=>whnf);repeat' (first|(refine kA ?_;conv=>whnf)|(refine Br.mk (fun hc=>?_) fun hc=>?_<;>first|exact hc.elim|conv=>whnf)  |(refine kB ?_))
 ·exact Bl (hz.1 hc)
 ·exact Au (mt hz.2 hc)
theorem Ade {l:List (List UInt8)} {nn:Bool} (hl:l.length<2^63):Ae (Ad tab) 170 [.sl nn (vs .str l)] (· =.bool (decide (rises l))):=by
 refine Ac rfl rfl ?_
 (conv=>whnf);repeat' (first|(refine kA ?_;conv=>whnf)|(refine Br.mk (fun hc=>?_) fun hc=>?_<;>first|exact hc.elim|conv=>whnf)  |(refine kB ?_))
 refine Ag (fun m env s=>∃i:Nat,m=l.length-i∧env=[(0,.sl nn (vs .str l)),(3,.int .i64 (i+1:Nat))]∧s=⟨[],0⟩∧∀j (h:j+1<l.length),j<i→(Op.bytesLess l[j+1] l[j]||l[j+1]==l[j])=false) ?_ _ _ _ ⟨0,rfl,rfl,rfl,fun j _ h=>absurd h (by omega)⟩
 rintro _ _ _ ⟨i,rfl,rfl,rfl,hx⟩
 refine⟨rfl,?_⟩
 (conv=>whnf);repeat' (first|(refine kA ?_;conv=>whnf)|(refine Br.mk (fun hc=>?_) fun hc=>?_<;>first|exact hc.elim|conv=>whnf)|(apply Aj;(· exact nVz i (by omega) (by omega));conv=>whnf)|(refine kB ?_))
 ·exact Au fun h=>by simp only[show (((i+1:Nat):Int)-1).toNat=i by omega]at hc;rw[h i (by omega)]at hc;cases hc
 ·simp only[show (((i+1:Nat):Int)-1).toNat=i by omega]at hc
  exact again.mk ⟨_,by omega,i+1,rfl,rfl,rfl,fun j h hj=>by
   by_cases e:j=i
   ·subst e;simpa using hc
   ·exact hx j h (by omega)⟩
 ·exact Bl fun j h=>hx j h (by omega)
end AI
end Go.Proofs.YtjijnamhalgamaaGreatDoor
