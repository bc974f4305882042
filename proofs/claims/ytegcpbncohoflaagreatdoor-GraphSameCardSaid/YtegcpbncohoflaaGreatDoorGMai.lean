/- Graphs alike: the program's way and the reference's. The reference's copies of values and properties. Maps of the call's own: entries struck out; maps to truth values. Tarjan's algorithm: what holds of its state, and its steps: plain. Tarjan's algorithm: a component leaves the stack: plain. -/
import Derived.Test.YtegcpbncohoflaaGreatDoorGMah
import Derived.Test.YtegcpbncohoflaaGreatDoorGMag
import Derived.Test.YtegcpbncohoflaaGreatDoorGVa
import Derived.Test.YtegcpbncohoflaaGreatDoorGCore
set_option linter.unusedVariables false
namespace Go.Proofs.YtegcpbncohoflaaGreatDoor
namespace AI
def DT {α:Type} (R:α→α→Prop) (l m:List α):Prop:=l.length=m.length∧∀k (h:k<l.length) (h':k<m.length),R l[k] m[k]
noncomputable instance {α:Type} (R:α→α→Prop) (l m:List α):Decidable (DT R l m):=Classical.propDecidable _
section
variable {α:Type} {R:α→α→Prop} {l m:List α} {i:Nat}
theorem EC (h:∀k (h:k<l.length) (h':k<m.length),k<i→R l[k] m[k]) (h1:i<l.length) (h2:i<m.length) (hi:R l[i] m[i]):∀k (h:k<l.length) (h':k<m.length),k<i+1→R l[k] m[k]:=fun k a b c=>by
 by_cases e:k=i
 ·subst e;exact hi
 ·exact h k a b (by omega)
theorem GZ (hl:l.length=m.length) (h:∀k (h:k<l.length) (h':k<m.length),k<i→R l[k] m[k]) (hi:l.length≤i):DT R l m:=⟨hl,fun k a b=>h k a b (by omega)⟩
theorem Dt (h1:i<l.length) (h2:i<m.length) (h:¬R l[i] m[i]):¬DT R l m:=fun x=>h (x.2 i h1 h2)
theorem KD (h:¬l.length=m.length):¬DT R l m:=fun x=>h x.1
theorem Nz {l m:List α}:DT Eq l m↔l=m:=⟨fun h=>List.ext_getElem h.1 h.2,fun h=>by subst h;exact⟨rfl,fun _ _ _=>rfl⟩⟩
end
def SP (x y:GP):Prop:=x.key=y.key∧I4 12 x.v y.v=0
def SN (x y:GN):Prop:=x.id=y.id∧x.labels=y.labels∧DT SP x.props y.props
def SE (x y:GE):Prop:=x.id=y.id∧x.fr=y.fr∧x.to=y.to∧x.ty=y.ty∧DT SP x.props y.props
def SG (a b:GG):Prop:=DT SN a.nodes b.nodes∧DT SE a.edges b.edges
noncomputable instance (x y:GP):Decidable (SP x y):=Classical.propDecidable _
noncomputable instance (x y:GN):Decidable (SN x y):=Classical.propDecidable _
noncomputable instance (x y:GE):Decidable (SE x y):=Classical.propDecidable _
noncomputable instance (x y:GG):Decidable (SG x y):=Classical.propDecidable _
def Og (v:GV):Prop:=v.ok∧J8 12 v.av
def JE (l:List GP):Prop:=l.length≤4000∧∀p∈l,Og p.v
def Xz (n:GN):Prop:=n.labels.length≤4000∧JE n.props
def FM (g:GG):Prop:=g.nodes.length≤4000∧g.edges.length≤4000∧(∀ n∈g.nodes,Xz n)∧∀e∈g.edges,JE e.props
theorem AdJ {a b:GV} (ha:Og a) (hb:Og b):Af (Ae tab) 36 [a.av,b.av] (· =.int .i64 (I4 12 a b)):=U5 12 ha.1 hb.1 (Jf ha.2) (Jf hb.2)
theorem AdK {a b:GV} (ha:Og a) (hb:Og b):Af (Ae tab) 52 [a.av,b.av] (· =.int .i64 (I4 12 a b)):=QF 12 ha.1 hb.1 (Jf ha.2) (Jf hb.2)
theorem Ab7 {l m:List (List UInt8)} {nl nm:Bool} (hl:l.length≤4000) (hm:m.length≤4000):Af (Ae tab) 19 [.sl nl (vs .str l),.sl nm (vs .str m)] (· =.bool (decide (l=m))):=by
 by_cases hlen:l.length=m.length
 case neg=>
  refine Ac rfl rfl ?_
  (conv=>whnf);repeat' (first  |(refine kA ?_;conv=>whnf)|(refine Br.mk (fun hc=>?_) fun hc=>?_<;>first|exact hc.elim|conv=>whnf)|(refine kB ?_))
  all_goals first|exact Ai (fun h=>hlen (congrArg List.length h))|(exfalso;omega)
 refine Ac rfl rfl ?_
 (conv=>whnf);repeat' (first  |(refine kA ?_;conv=>whnf)|(refine Br.mk (fun hc=>?_) fun hc=>?_<;>first|exact hc.elim|conv=>whnf)|(refine kB ?_))
 all_goals first|(exfalso;omega)|skip
 refine Aq (fun z env s=>∃(i:Nat),z=l.length-i∧(∀ k (h:k<l.length) (h':k<m.length),k<i→l[k]=m[k])∧env=[(0,.sl nl (vs .str l)),(1,.sl nm (vs .str m)),(12,.int .i64 l.length),(13,.int .i64 i)]∧s=⟨[],0⟩) ?_ _ _ _ ⟨0,rfl,fun _ _ _ h=>absurd h (by omega),by first|rfl|(rw [← lV (f:=AV.str) l];rfl),rfl⟩
 rintro _ _ _ ⟨i,rfl,hx,rfl,rfl⟩
 refine⟨rfl,?_⟩
 by_cases hlt:i<l.length
 ·by_cases he:l[i]=m[i]
  ·(conv=>whnf);repeat' (first  |(refine kA ?_;conv=>whnf)|(refine Br.mk (fun hc=>?_) fun hc=>?_<;>first|exact hc.elim|conv=>whnf)|(refine kB ?_))
   all_goals first|exact again.mk ⟨_,by omega,i+1,rfl,EC (R:=Eq) hx hlt (by omega) he,rfl,rfl⟩|(exfalso;omega)|exact absurd he (by assumption)|(exfalso;simp_all;done)
  ·(conv=>whnf);repeat' (first  |(refine kA ?_;conv=>whnf)|(refine Br.mk (fun hc=>?_) fun hc=>?_<;>first|exact hc.elim|conv=>whnf)|(refine kB ?_))
   all_goals first|exact Ai (fun h=>Dt (R:=Eq) hlt (by omega) he (Nz.2 h))|(exfalso;omega)|exact absurd (by assumption) he|(exfalso;simp_all;done)
 ·(conv=>whnf);repeat' (first  |(refine kA ?_;conv=>whnf)|(refine Br.mk (fun hc=>?_) fun hc=>?_<;>first|exact hc.elim|conv=>whnf)|(refine kB ?_))
  all_goals first|exact AX (Nz.1 (GZ (R:=Eq) hlen hx (by omega)))|(exfalso;omega)
theorem Ab8 {l m:List (List UInt8)} {nl nm:Bool} (hl:l.length≤4000) (hm:m.length≤4000):Af (Ae tab) 37 [.sl nl (vs .str l),.sl nm (vs .str m)] (· =.bool (decide (l=m))):=by
 by_cases hlen:l.length=m.length
 case neg=>
  refine Ac rfl rfl ?_
  (conv=>whnf);repeat' (first  |(refine kA ?_;conv=>whnf)|(refine Br.mk (fun hc=>?_) fun hc=>?_<;>first|exact hc.elim|conv=>whnf)|(refine kB ?_))
  all_goals first|exact Ai (fun h=>hlen (congrArg List.length h))|(exfalso;omega)
 refine Ac rfl rfl ?_
 (conv=>whnf);repeat' (first  |(refine kA ?_;conv=>whnf)|(refine Br.mk (fun hc=>?_) fun hc=>?_<;>first|exact hc.elim|conv=>whnf)|(refine kB ?_))
 all_goals first|(exfalso;omega)|skip
 refine Aq (fun z env s=>∃(i:Nat),z=l.length-i∧(∀ k (h:k<l.length) (h':k<m.length),k<i→l[k]=m[k])∧env=[(0,.sl nl (vs .str l)),(1,.sl nm (vs .str m)),(5,.int .i64 i)]∧s=⟨[],0⟩) ?_ _ _ _ ⟨0,rfl,fun _ _ _ h=>absurd h (by omega),by first|rfl|(rw [← lV (f:=AV.str) l];rfl),rfl⟩
 rintro _ _ _ ⟨i,rfl,hx,rfl,rfl⟩
 refine⟨rfl,?_⟩
 by_cases hlt:i<l.length
 ·by_cases he:l[i]=m[i]
  ·(conv=>whnf);repeat' (first  |(refine kA ?_;conv=>whnf)|(refine Br.mk (fun hc=>?_) fun hc=>?_<;>first|exact hc.elim|conv=>whnf)|(refine kB ?_))
   all_goals first|exact again.mk ⟨_,by omega,i+1,rfl,EC (R:=Eq) hx hlt (by omega) he,rfl,rfl⟩|(exfalso;omega)|exact absurd he (by assumption)|(exfalso;simp_all;done)
  ·(conv=>whnf);repeat' (first  |(refine kA ?_;conv=>whnf)|(refine Br.mk (fun hc=>?_) fun hc=>?_<;>first|exact hc.elim|conv=>whnf)|(refine kB ?_))
   all_goals first|exact Ai (fun h=>Dt (R:=Eq) hlt (by omega) he (Nz.2 h))|(exfalso;omega)|exact absurd (by assumption) he|(exfalso;simp_all;done)
 ·(conv=>whnf);repeat' (first  |(refine kA ?_;conv=>whnf)|(refine Br.mk (fun hc=>?_) fun hc=>?_<;>first|exact hc.elim|conv=>whnf)|(refine kB ?_))
  all_goals first|exact AX (Nz.1 (GZ (R:=Eq) hlen hx (by omega)))|(exfalso;omega)
theorem XA {l m:List GP} {nl nm:Bool} (hl:JE l) (hm:JE m):Af (Ae tab) 38 [.sl nl (vs GP.av l),.sl nm (vs GP.av m)] (· =.bool (decide (DT SP l m))):=by
 have hl1:=hl.1
 have hm1:=hm.1
 by_cases hlen:l.length=m.length
 case neg=>
  refine Ac rfl rfl ?_
  (conv=>whnf);repeat' (first  |(refine kA ?_;conv=>whnf)|(refine Br.mk (fun hc=>?_) fun hc=>?_<;>first|exact hc.elim|conv=>whnf)|(refine kB ?_))
  all_goals first|exact Ai (KD hlen)|(exfalso;omega)
 refine Ac rfl rfl ?_
 (conv=>whnf);repeat' (first  |(refine kA ?_;conv=>whnf)|(refine Br.mk (fun hc=>?_) fun hc=>?_<;>first|exact hc.elim|conv=>whnf)|(refine kB ?_))
 all_goals first|(exfalso;omega)|skip
 refine Aq (fun z env s=>∃(i:Nat),z=l.length-i∧(∀ k (h:k<l.length) (h':k<m.length),k<i→SP l[k] m[k])∧env=[(0,.sl nl (vs GP.av l)),(1,.sl nm (vs GP.av m)),(5,.int .i64 i)]∧s=⟨[],0⟩) ?_ _ _ _ ⟨0,rfl,fun _ _ _ h=>absurd h (by omega),rfl,rfl⟩
 rintro _ _ _ ⟨i,rfl,hx,rfl,rfl⟩
 refine⟨rfl,?_⟩
 by_cases hlt:i<l.length
 ·have ho:=AdK (hl.2 _ (List.getElem_mem hlt)) (hm.2 _ (List.getElem_mem (show i<m.length by omega)))
  by_cases hk:l[i].key=m[i].key
  ·by_cases he:I4 12 l[i].v m[i].v=0
   ·(conv=>whnf);repeat' (first|(refine Aa ho ?_;rintro _ rfl;conv=>whnf)|(refine kA ?_;conv=>whnf)|(refine Br.mk (fun hc=>?_) fun hc=>?_<;>first|exact hc.elim|conv=>whnf)|(refine kB ?_))
    all_goals first|exact again.mk ⟨_,by omega,i+1,rfl,EC hx hlt (by omega) ⟨hk,he⟩,rfl,rfl⟩|(exfalso;omega)|exact absurd hk (by assumption)|(exfalso;simp_all;done)
   ·(conv=>whnf);repeat' (first|(refine Aa ho ?_;rintro _ rfl;conv=>whnf)|(refine kA ?_;conv=>whnf)|(refine Br.mk (fun hc=>?_) fun hc=>?_<;>first|exact hc.elim|conv=>whnf)|(refine kB ?_))
    all_goals first|exact Ai (Dt hlt (by omega) fun h=>he h.2)|(exfalso;omega)|exact absurd hk (by assumption)|(exfalso;simp_all;done)
  ·(conv=>whnf);repeat' (first|(refine Aa ho ?_;rintro _ rfl;conv=>whnf)|(refine kA ?_;conv=>whnf)|(refine Br.mk (fun hc=>?_) fun hc=>?_<;>first|exact hc.elim|conv=>whnf)|(refine kB ?_))
   all_goals first|exact Ai (Dt hlt (by omega) fun h=>hk h.1)|(exfalso;omega)|exact absurd (by assumption) hk|(exfalso;simp_all;done)
 ·(conv=>whnf);repeat' (first  |(refine kA ?_;conv=>whnf)|(refine Br.mk (fun hc=>?_) fun hc=>?_<;>first|exact hc.elim|conv=>whnf)|(refine kB ?_))
  all_goals first|exact AX (GZ hlen hx (by omega))|(exfalso;omega)
theorem Ab9 {R:GP→GP→Prop} [∀ x y,Decidable (R x y)] {f:Nat} {l m:List GP} {nl nm:Bool} (hl:l.length≤4000) (hm:m.length≤4000) (hf:∀x∈l,∀y∈m,Af (Ae tab) f [x.av,y.av] (· =.bool (decide (R x y)))):
 Af (Ae tab) 34 [.sl nl (vs GP.av l),.sl nm (vs GP.av m),.fn f []] (· =.bool (decide (DT R l m))):=by
 by_cases hlen:l.length=m.length
 case neg=>
  refine Ac rfl rfl ?_
  (conv=>whnf);repeat' (first  |(refine kA ?_;conv=>whnf)|(refine Br.mk (fun hc=>?_) fun hc=>?_<;>first|exact hc.elim|conv=>whnf)|(refine kB ?_))
  all_goals first|exact Ai (KD hlen)|(exfalso;omega)
 refine Ac rfl rfl ?_
 (conv=>whnf);repeat' (first  |(refine kA ?_;conv=>whnf)|(refine Br.mk (fun hc=>?_) fun hc=>?_<;>first|exact hc.elim|conv=>whnf)|(refine kB ?_))
 all_goals first|(exfalso;omega)|skip
 refine Aq (fun z env s=>∃(i c:Nat),z=l.length-i∧(∀ k (h:k<l.length) (h':k<m.length),k<i→R l[k] m[k])∧env=[(1,.sl nm (vs GP.av m)),(2,.fn f []),(15,.sl nl (vs GP.av l)),(16,.int .i64 l.length),(17,.int .i64 i)]∧s=⟨[],c⟩) ?_ _ _ _ ⟨0,_,rfl,fun _ _ _ h=>absurd h (by omega),by first|rfl|(rw [← lV (f:=GP.av) l];rfl),rfl⟩
 rintro _ _ _ ⟨i,c,rfl,hx,rfl,rfl⟩
 refine⟨rfl,?_⟩
 by_cases hlt:i<l.length
 ·have hcf:=hf _ (List.getElem_mem hlt) _ (List.getElem_mem (show i<m.length by omega))
  by_cases he:R l[i] m[i]
  ·rw[decide_eq_true he]at hcf
   (conv=>whnf);repeat' (first|(refine Aa hcf ?_;rintro _ rfl;conv=>whnf)|(refine kA ?_;conv=>whnf)|(refine Br.mk (fun hc=>?_) fun hc=>?_<;>first|exact hc.elim|conv=>whnf)|(refine kB ?_))
   all_goals first|exact again.mk ⟨_,by omega,i+1,_,rfl,EC hx hlt (by omega) he,rfl,rfl⟩|(exfalso;omega)
  ·rw[decide_eq_false he]at hcf
   (conv=>whnf);repeat' (first|(refine Aa hcf ?_;rintro _ rfl;conv=>whnf)|(refine kA ?_;conv=>whnf)|(refine Br.mk (fun hc=>?_) fun hc=>?_<;>first|exact hc.elim|conv=>whnf)|(refine kB ?_))
   all_goals first|exact Ai (Dt hlt (by omega) he)|(exfalso;omega)
 ·(conv=>whnf);repeat' (first  |(refine kA ?_;conv=>whnf)|(refine Br.mk (fun hc=>?_) fun hc=>?_<;>first|exact hc.elim|conv=>whnf)|(refine kB ?_))
  all_goals first|exact AX (GZ hlen hx (by omega))|(exfalso;omega)
theorem Ab3 {R:GN→GN→Prop} [∀ x y,Decidable (R x y)] {f:Nat} {l m:List GN} {nl nm:Bool} (hl:l.length≤4000) (hm:m.length≤4000) (hf:∀x∈l,∀y∈m,Af (Ae tab) f [x.av,y.av] (· =.bool (decide (R x y)))):
 Af (Ae tab) 17 [.sl nl (vs GN.av l),.sl nm (vs GN.av m),.fn f []] (· =.bool (decide (DT R l m))):=by
 by_cases hlen:l.length=m.length
 case neg=>
  refine Ac rfl rfl ?_
  (conv=>whnf);repeat' (first  |(refine kA ?_;conv=>whnf)|(refine Br.mk (fun hc=>?_) fun hc=>?_<;>first|exact hc.elim|conv=>whnf)|(refine kB ?_))
  all_goals first|exact Ai (KD hlen)|(exfalso;omega)
 refine Ac rfl rfl ?_
 (conv=>whnf);repeat' (first  |(refine kA ?_;conv=>whnf)|(refine Br.mk (fun hc=>?_) fun hc=>?_<;>first|exact hc.elim|conv=>whnf)|(refine kB ?_))
 all_goals first|(exfalso;omega)|skip
 refine Aq (fun z env s=>∃(i c:Nat),z=l.length-i∧(∀ k (h:k<l.length) (h':k<m.length),k<i→R l[k] m[k])∧env=[(1,.sl nm (vs GN.av m)),(2,.fn f []),(15,.sl nl (vs GN.av l)),(16,.int .i64 l.length),(17,.int .i64 i)]∧s=⟨[],c⟩) ?_ _ _ _ ⟨0,_,rfl,fun _ _ _ h=>absurd h (by omega),by first|rfl|(rw [← lV (f:=GN.av) l];rfl),rfl⟩
 rintro _ _ _ ⟨i,c,rfl,hx,rfl,rfl⟩
 refine⟨rfl,?_⟩
 by_cases hlt:i<l.length
 ·have hcf:=hf _ (List.getElem_mem hlt) _ (List.getElem_mem (show i<m.length by omega))
  by_cases he:R l[i] m[i]
  ·rw[decide_eq_true he]at hcf
   (conv=>whnf);repeat' (first|(refine Aa hcf ?_;rintro _ rfl;conv=>whnf)|(refine kA ?_;conv=>whnf)|(refine Br.mk (fun hc=>?_) fun hc=>?_<;>first|exact hc.elim|conv=>whnf)|(refine kB ?_))
   all_goals first|exact again.mk ⟨_,by omega,i+1,_,rfl,EC hx hlt (by omega) he,rfl,rfl⟩|(exfalso;omega)
  ·rw[decide_eq_false he]at hcf
   (conv=>whnf);repeat' (first|(refine Aa hcf ?_;rintro _ rfl;conv=>whnf)|(refine kA ?_;conv=>whnf)|(refine Br.mk (fun hc=>?_) fun hc=>?_<;>first|exact hc.elim|conv=>whnf)|(refine kB ?_))
   all_goals first|exact Ai (Dt hlt (by omega) he)|(exfalso;omega)
 ·(conv=>whnf);repeat' (first  |(refine kA ?_;conv=>whnf)|(refine Br.mk (fun hc=>?_) fun hc=>?_<;>first|exact hc.elim|conv=>whnf)|(refine kB ?_))
  all_goals first|exact AX (GZ hlen hx (by omega))|(exfalso;omega)
theorem Ab4 {R:GE→GE→Prop} [∀ x y,Decidable (R x y)] {f:Nat} {l m:List GE} {nl nm:Bool} (hl:l.length≤4000) (hm:m.length≤4000) (hf:∀x∈l,∀y∈m,Af (Ae tab) f [x.av,y.av] (· =.bool (decide (R x y)))):
 Af (Ae tab) 21 [.sl nl (vs GE.av l),.sl nm (vs GE.av m),.fn f []] (· =.bool (decide (DT R l m))):=by
 by_cases hlen:l.length=m.length
 case neg=>
  refine Ac rfl rfl ?_
  (conv=>whnf);repeat' (first  |(refine kA ?_;conv=>whnf)|(refine Br.mk (fun hc=>?_) fun hc=>?_<;>first|exact hc.elim|conv=>whnf)|(refine kB ?_))
  all_goals first|exact Ai (KD hlen)|(exfalso;omega)
 refine Ac rfl rfl ?_
 (conv=>whnf);repeat' (first  |(refine kA ?_;conv=>whnf)|(refine Br.mk (fun hc=>?_) fun hc=>?_<;>first|exact hc.elim|conv=>whnf)|(refine kB ?_))
 all_goals first|(exfalso;omega)|skip
 refine Aq (fun z env s=>∃(i c:Nat),z=l.length-i∧(∀ k (h:k<l.length) (h':k<m.length),k<i→R l[k] m[k])∧env=[(1,.sl nm (vs GE.av m)),(2,.fn f []),(15,.sl nl (vs GE.av l)),(16,.int .i64 l.length),(17,.int .i64 i)]∧s=⟨[],c⟩) ?_ _ _ _ ⟨0,_,rfl,fun _ _ _ h=>absurd h (by omega),by first|rfl|(rw [← lV (f:=GE.av) l];rfl),rfl⟩
 rintro _ _ _ ⟨i,c,rfl,hx,rfl,rfl⟩
 refine⟨rfl,?_⟩
 by_cases hlt:i<l.length
 ·have hcf:=hf _ (List.getElem_mem hlt) _ (List.getElem_mem (show i<m.length by omega))
  by_cases he:R l[i] m[i]
  ·rw[decide_eq_true he]at hcf
   (conv=>whnf);repeat' (first|(refine Aa hcf ?_;rintro _ rfl;conv=>whnf)|(refine kA ?_;conv=>whnf)|(refine Br.mk (fun hc=>?_) fun hc=>?_<;>first|exact hc.elim|conv=>whnf)|(refine kB ?_))
   all_goals first|exact again.mk ⟨_,by omega,i+1,_,rfl,EC hx hlt (by omega) he,rfl,rfl⟩|(exfalso;omega)
  ·rw[decide_eq_false he]at hcf
   (conv=>whnf);repeat' (first|(refine Aa hcf ?_;rintro _ rfl;conv=>whnf)|(refine kA ?_;conv=>whnf)|(refine Br.mk (fun hc=>?_) fun hc=>?_<;>first|exact hc.elim|conv=>whnf)|(refine kB ?_))
   all_goals first|exact Ai (Dt hlt (by omega) he)|(exfalso;omega)
 ·(conv=>whnf);repeat' (first  |(refine kA ?_;conv=>whnf)|(refine Br.mk (fun hc=>?_) fun hc=>?_<;>first|exact hc.elim|conv=>whnf)|(refine kB ?_))
  all_goals first|exact AX (GZ hlen hx (by omega))|(exfalso;omega)
theorem sp1 {x y:GP} (hx:Og x.v) (hy:Og y.v):Af (Ae tab) 35 [x.av,y.av] (· =.bool (decide (SP x y))):=by
 have ho:=AdJ hx hy
 by_cases hk:x.key=y.key
 ·by_cases he:I4 12 x.v y.v=0
  ·refine Ac rfl rfl ?_
   (conv=>whnf);repeat' (first|(refine Aa ho ?_;rintro _ rfl;conv=>whnf)|(refine kA ?_;conv=>whnf)|(refine Br.mk (fun hc=>?_) fun hc=>?_<;>first|exact hc.elim|conv=>whnf)|(refine kB ?_))
   all_goals first|exact AX ⟨hk,he⟩|(exfalso;omega)|(exfalso;simp_all;done)
  ·refine Ac rfl rfl ?_
   (conv=>whnf);repeat' (first|(refine Aa ho ?_;rintro _ rfl;conv=>whnf)|(refine kA ?_;conv=>whnf)|(refine Br.mk (fun hc=>?_) fun hc=>?_<;>first|exact hc.elim|conv=>whnf)|(refine kB ?_))
   all_goals first|exact Ai (fun h=>he h.2)|(exfalso;omega)|(exfalso;simp_all;done)
 ·refine Ac rfl rfl ?_
  (conv=>whnf);repeat' (first|(refine Aa ho ?_;rintro _ rfl;conv=>whnf)|(refine kA ?_;conv=>whnf)|(refine Br.mk (fun hc=>?_) fun hc=>?_<;>first|exact hc.elim|conv=>whnf)|(refine kB ?_))
  all_goals first|exact Ai (fun h=>hk h.1)|(exfalso;omega)|(exfalso;simp_all;done)
theorem XB {l m:List GP} {nl nm:Bool} (hl:JE l) (hm:JE m):Af (Ae tab) 20 [.sl nl (vs GP.av l),.sl nm (vs GP.av m)] (· =.bool (decide (DT SP l m))):=by
 refine Ac rfl rfl ?_
 (conv=>whnf);repeat' (first|(refine Aa (Ab9 hl.1 hm.1 fun x hx y hy=>sp1 (hl.2 x hx) (hm.2 y hy)) ?_;rintro _ rfl;conv=>whnf)|(refine kA ?_;conv=>whnf)|(refine Br.mk (fun hc=>?_) fun hc=>?_<;>first|exact hc.elim|conv=>whnf)|(refine kB ?_))
 all_goals (rw [hc];rfl)
theorem sn1 {x y:GN} (hx:Xz x) (hy:Xz y):Af (Ae tab) 18 [x.av,y.av] (· =.bool (decide (SN x y))):=by
 have h1:=Ab7 (nl:=x.ln) (nm:=y.ln) hx.1 hy.1
 have h2:=XB (nl:=x.pn) (nm:=y.pn) hx.2 hy.2
 by_cases e1:x.labels=y.labels
 ·rw[decide_eq_true e1]at h1
  by_cases e2:DT SP x.props y.props
  ·rw[decide_eq_true e2]at h2
   refine Ac rfl rfl ?_
   (conv=>whnf);repeat' (first|((first|refine Aa h1 ?_|refine Aa h2 ?_);rintro _ rfl;conv=>whnf)|(refine kA ?_;conv=>whnf)|(refine Br.mk (fun hc=>?_) fun hc=>?_<;>first|exact hc.elim|conv=>whnf)|(refine kB ?_))
   all_goals first|exact AX ⟨by assumption,e1,e2⟩|exact Ai (fun h=>absurd h.1 (by assumption))
  ·rw[decide_eq_false e2]at h2
   refine Ac rfl rfl ?_
   (conv=>whnf);repeat' (first|((first|refine Aa h1 ?_|refine Aa h2 ?_);rintro _ rfl;conv=>whnf)|(refine kA ?_;conv=>whnf)|(refine Br.mk (fun hc=>?_) fun hc=>?_<;>first|exact hc.elim|conv=>whnf)|(refine kB ?_))
   all_goals first|exact Ai (fun h=>e2 h.2.2)
 ·rw[decide_eq_false e1]at h1
  refine Ac rfl rfl ?_
  (conv=>whnf);repeat' (first|((first|refine Aa h1 ?_|refine Aa h2 ?_);rintro _ rfl;conv=>whnf)|(refine kA ?_;conv=>whnf)|(refine Br.mk (fun hc=>?_) fun hc=>?_<;>first|exact hc.elim|conv=>whnf)|(refine kB ?_))
  all_goals first|exact Ai (fun h=>e1 h.2.1)
theorem se1 {x y:GE} (hx:JE x.props) (hy:JE y.props):Af (Ae tab) 22 [x.av,y.av] (· =.bool (decide (SE x y))):=by
 have h2:=XB (nl:=x.pn) (nm:=y.pn) hx hy
 by_cases e2:DT SP x.props y.props
 ·rw[decide_eq_true e2]at h2
  refine Ac rfl rfl ?_
  (conv=>whnf);repeat' (first|(refine Aa h2 ?_;rintro _ rfl;conv=>whnf)|(refine kA ?_;conv=>whnf)|(refine Br.mk (fun hc=>?_) fun hc=>?_<;>first|exact hc.elim|conv=>whnf)|(refine kB ?_))
  all_goals first|exact AX ⟨by assumption,by assumption,by assumption,by assumption,e2⟩|exact Ai (fun h=>absurd h.1 (by assumption))|exact Ai (fun h=>absurd h.2.1 (by assumption))|exact Ai (fun h=>absurd h.2.2.1 (by assumption))|exact Ai (fun h=>absurd h.2.2.2.1 (by assumption))
 ·rw[decide_eq_false e2]at h2
  refine Ac rfl rfl ?_
  (conv=>whnf);repeat' (first|(refine Aa h2 ?_;rintro _ rfl;conv=>whnf)|(refine kA ?_;conv=>whnf)|(refine Br.mk (fun hc=>?_) fun hc=>?_<;>first|exact hc.elim|conv=>whnf)|(refine kB ?_))
  all_goals first|exact Ai (fun h=>e2 h.2.2.2.2)
theorem YN {a b:GG} (ha:FM a) (hb:FM b):Af (Ae tab) 23 [a.av,b.av] (· =.bool (decide (SG a b))):=by
 have a1:=ha.1
 have a2:=ha.2.1
 have b1:=hb.1
 have b2:=hb.2.1
 by_cases hlen:a.nodes.length=b.nodes.length∧a.edges.length=b.edges.length
 case neg=>
  refine Ac rfl rfl ?_
  (conv=>whnf);repeat' (first  |(refine kA ?_;conv=>whnf)|(refine Br.mk (fun hc=>?_) fun hc=>?_<;>first|exact hc.elim|conv=>whnf)|(refine kB ?_))
  all_goals first|exact Ai (fun h=>hlen ⟨h.1.1,h.2.1⟩)|(exfalso;omega)
 obtain⟨hl1,hl2⟩:=hlen
 refine Ac rfl rfl ?_
 (conv=>whnf);repeat' (first  |(refine kA ?_;conv=>whnf)|(refine Br.mk (fun hc=>?_) fun hc=>?_<;>first|exact hc.elim|conv=>whnf)|(refine kB ?_))
 all_goals first|(exfalso;omega)|skip
 refine Aq (fun z env s=>∃(i c:Nat),z=a.nodes.length-i∧(∀ k (h:k<a.nodes.length) (h':k<b.nodes.length),k<i→SN a.nodes[k] b.nodes[k])∧env=[(2,.ref 0 0 0 0),(3,.ref 1 1 0 0),(5,.int .i64 i)]∧s=⟨[.arr 0 4 true true [a.av],.arr 1 4 true true [b.av]],c⟩) ?_ _ _ _ ⟨0,_,rfl,fun _ _ _ h=>absurd h (by omega),rfl,rfl⟩
 rintro _ _ _ ⟨i,c,rfl,hx,rfl,rfl⟩
 refine⟨rfl,?_⟩
 by_cases hlt:i<a.nodes.length
 ·have f1:=ha.2.2.1 _ (List.getElem_mem hlt)
  have f2:=hb.2.2.1 _ (List.getElem_mem (show i<b.nodes.length by omega))
  have c1:=Ab8 (nl:=(a.nodes[i]).ln) (nm:=(b.nodes[i]'(by omega)).ln) f1.1 f2.1
  have c2:=XA (nl:=(a.nodes[i]).pn) (nm:=(b.nodes[i]'(by omega)).pn) f1.2 f2.2
  by_cases e1:(a.nodes[i]).labels=(b.nodes[i]'(by omega)).labels
  ·rw[decide_eq_true e1]at c1
   by_cases e2:DT SP (a.nodes[i]).props (b.nodes[i]'(by omega)).props
   ·rw[decide_eq_true e2]at c2
    (conv=>whnf);repeat' (first|((first|refine Aa c1 ?_|refine Aa c2 ?_);rintro _ rfl;conv=>whnf)|(refine kA ?_;conv=>whnf)|(refine Br.mk (fun hc=>?_) fun hc=>?_<;>first|exact hc.elim|conv=>whnf)|(refine kB ?_))
    all_goals first|exact again.mk ⟨_,by omega,i+1,_,rfl,EC hx hlt (by omega) ⟨by first|assumption|omega,e1,e2⟩,rfl,rfl⟩|exact Ai (fun h=>Dt hlt (by omega) (fun x=>absurd x.1 (by assumption)) h.1)|(exfalso;omega)
   ·rw[decide_eq_false e2]at c2
    (conv=>whnf);repeat' (first|((first|refine Aa c1 ?_|refine Aa c2 ?_);rintro _ rfl;conv=>whnf)|(refine kA ?_;conv=>whnf)|(refine Br.mk (fun hc=>?_) fun hc=>?_<;>first|exact hc.elim|conv=>whnf)|(refine kB ?_))
    all_goals first|exact Ai (fun h=>Dt hlt (by omega) (fun x=>e2 x.2.2) h.1)|(exfalso;omega)
  ·rw[decide_eq_false e1]at c1
   (conv=>whnf);repeat' (first|((first|refine Aa c1 ?_|refine Aa c2 ?_);rintro _ rfl;conv=>whnf)|(refine kA ?_;conv=>whnf)|(refine Br.mk (fun hc=>?_) fun hc=>?_<;>first|exact hc.elim|conv=>whnf)|(refine kB ?_))
   all_goals first|exact Ai (fun h=>Dt hlt (by omega) (fun x=>e1 x.2.1) h.1)|(exfalso;omega)
 have hN:=GZ hl1 hx (by omega)
 clear hx
 (conv=>whnf);repeat' (first  |(refine kA ?_;conv=>whnf)|(refine Br.mk (fun hc=>?_) fun hc=>?_<;>first|exact hc.elim|conv=>whnf)|(refine kB ?_))
 all_goals first|(exfalso;omega)|skip
 refine Aq (fun z env s=>∃(i c:Nat),z=a.edges.length-i∧(∀ k (h:k<a.edges.length) (h':k<b.edges.length),k<i→SE a.edges[k] b.edges[k])∧env=[(2,.ref 0 0 0 0),(3,.ref 1 1 0 0),(8,.int .i64 i)]∧s=⟨[.arr 0 4 true true [a.av],.arr 1 4 true true [b.av]],c⟩) ?_ _ _ _ ⟨0,_,rfl,fun _ _ _ h=>absurd h (by omega),rfl,rfl⟩
 rintro _ _ _ ⟨i,c,rfl,hx,rfl,rfl⟩
 refine⟨rfl,?_⟩
 by_cases hlt:i<a.edges.length
 ·have f1:=ha.2.2.2 _ (List.getElem_mem hlt)
  have f2:=hb.2.2.2 _ (List.getElem_mem (show i<b.edges.length by omega))
  have c2:=XA (nl:=(a.edges[i]).pn) (nm:=(b.edges[i]'(by omega)).pn) f1 f2
  by_cases e2:DT SP (a.edges[i]).props (b.edges[i]'(by omega)).props
  ·rw[decide_eq_true e2]at c2
   (conv=>whnf);repeat' (first|(refine Aa c2 ?_;rintro _ rfl;conv=>whnf)|(refine kA ?_;conv=>whnf)|(refine Br.mk (fun hc=>?_) fun hc=>?_<;>first|exact hc.elim|conv=>whnf)|(refine kB ?_))
   all_goals first|exact again.mk ⟨_,by omega,i+1,_,rfl,EC hx hlt (by omega) ⟨by first|assumption|omega,by first|assumption|omega,by first|assumption|omega,by first|assumption|exact Decidable.not_not.1 (by assumption),e2⟩,rfl,rfl⟩|exact Ai (fun h=>Dt hlt (by omega) (fun x=>absurd x.1 (by assumption)) h.2)|exact Ai (fun h=>Dt hlt (by omega) (fun x=>absurd x.2.1 (by assumption)) h.2)|exact Ai (fun h=>Dt hlt (by omega) (fun x=>absurd x.2.2.1 (by assumption)) h.2)|exact Ai (fun h=>Dt hlt (by omega) (fun x=>absurd x.2.2.2.1 (by assumption)) h.2)|(exfalso;omega)
  ·rw[decide_eq_false e2]at c2
   (conv=>whnf);repeat' (first|(refine Aa c2 ?_;rintro _ rfl;conv=>whnf)|(refine kA ?_;conv=>whnf)|(refine Br.mk (fun hc=>?_) fun hc=>?_<;>first|exact hc.elim|conv=>whnf)|(refine kB ?_))
   all_goals first|exact Ai (fun h=>Dt hlt (by omega) (fun x=>e2 x.2.2.2.2) h.2)|(exfalso;omega)
 ·(conv=>whnf);repeat' (first  |(refine kA ?_;conv=>whnf)|(refine Br.mk (fun hc=>?_) fun hc=>?_<;>first|exact hc.elim|conv=>whnf)|(refine kB ?_))
  all_goals first|exact AX ⟨hN,GZ hl2 hx (by omega)⟩|(exfalso;omega)
theorem YB (e:GE):e.av.cells.length=5:=rfl
theorem Zh (v:GV):v.av.cells.length=5:=rfl
theorem Zi (p:GP):p.av.cells.length=6:=rfl
theorem Z7 {α:Type} {f:α→AV} {l:List α} {n:Nat} (h:n=l.length):sub (vs f l) 0 n=vs f l:=by
 subst h
 exact uV
set_option maxHeartbeats 1000000 in
theorem Aa1:∀(d:Nat) {L:List AV} {nl:Bool},L.length≤2000→(∀ x∈L,J8 d x)→Af (Ae tab) 33 [.sl nl L] (fun v=>∃Y,v=.sl (decide (0<L.length)) (vs GV.av Y)∧CpL d L (vs GV.av Y)):=by
 intro d
 induction d with
 |zero=>
  intro L nl hl hL
  have h0:L=[]:=List.eq_nil_iff_forall_not_mem.2 fun x hx=>hL x hx
  subst h0
  refine Ac rfl rfl ?_
  (conv=>whnf);repeat' (first  |(refine kA ?_;conv=>whnf)|(refine Br.mk (fun hc=>?_) fun hc=>?_<;>first|exact hc.elim|conv=>whnf)|(refine kB ?_))
  refine Aq (fun m env s=>∃(c ga:Nat),m=0∧env=[(0,.sl nl []),(3,.own 0 ga 0 0),(4,.int .i64 0)]∧s=⟨[.arr ga 5 false true []],c⟩) ?_ _ _ _ ⟨_,_,rfl,rfl,rfl⟩
  rintro _ _ _ ⟨c,ga,rfl,rfl,rfl⟩
  refine⟨rfl,?_⟩
  (conv=>whnf);repeat' (first  |(refine kA ?_;conv=>whnf)|(refine Br.mk (fun hc=>?_) fun hc=>?_<;>first|exact hc.elim|conv=>whnf)|(refine kB ?_))
  all_goals first
   |(exfalso;omega)
   |exact⟨[],rfl,⟨rfl,fun i h=>absurd h (by simp)⟩⟩
 |succ d ih=>
  intro L nl hl hL
  refine Ac rfl rfl ?_
  (conv=>whnf);repeat' (first  |(refine kA ?_;conv=>whnf)|(refine Br.mk (fun hc=>?_) fun hc=>?_<;>first|exact hc.elim|conv=>whnf)|(refine kB ?_))
  refine Aq (fun m env s=>∃(i c ga n:Nat) (Y:List GV),m=L.length-i∧i≤L.length∧n=i∧Y.length=i∧CpL (d+1) (L.take i) (vs GV.av Y)∧env=[(0,.sl nl L),(3,.own 0 ga 0 n),(4,.int .i64 i)]∧s=⟨[.arr ga 5 (decide (0<i)) true (vs GV.av Y)],c⟩) ?_ _ _ _ ⟨0,_,_,_,[],rfl,by omega,rfl,rfl,⟨rfl,fun i h=>absurd h (by simp)⟩,rfl,rfl⟩
  rintro _ _ _ ⟨i,c,ga,n,Y,rfl,hi,rfl,hY,hC,rfl,rfl⟩
  refine⟨rfl,?_⟩
  by_cases hlt:n<L.length
  ·have hx:=hL _ (List.getElem_mem hlt)
   obtain⟨x,ex,xok,x1,x2,x3⟩:=hx
   have hn:∀j,j=n→nth L j=some x.av:=fun j hj=>by subst hj;rw[Ar,List.getElem?_eq_getElem hlt,ex]
   obtain⟨_,⟨Z,rfl,hZ⟩,pc⟩:=(ih (L:=x.l) (nl:=x.nn) x2 x3).Yo
   have hcp:=CpV.mk' (d:=d) (x:=x) ⟨x,rfl,xok,x1,x2,x3⟩ hZ
   have hsn:=hC.snoc hcp
   have htk:L.take (n+1)=L.take n++[x.av]:=by rw[List.take_succ_eq_append_getElem hlt,ex]
   have hv:vs GV.av Y++[GV.av ⟨x.k,x.n,x.d,x.s,decide (0<x.l.length),vs GV.av Z⟩]=vs GV.av (Y++[⟨x.k,x.n,x.d,x.s,decide (0<x.l.length),vs GV.av Z⟩]):=by simp[vs]
   rw[← htk,hv]at hsn
   have hd:decide (0<n+1)=true:=decide_eq_true (by omega)
   clear hC hZ hcp hv htk
   (conv=>whnf);repeat' (first|(refine Bq (hn _ (by omega)) ?_;conv=>whnf)|(refine Aa pc ?_;rintro _ rfl;conv=>whnf)|(refine Yw (f:=GV.av) (l:=Y) (x:=⟨x.k,x.n,x.d,x.s,decide (0<x.l.length),vs GV.av Z⟩) Zh hY.symm (by omega) ?_;conv=>whnf)|(refine kA ?_;conv=>whnf)|(refine Br.mk (fun hc=>?_) fun hc=>?_<;>first|exact hc.elim|conv=>whnf)|(refine kB ?_))
   all_goals first
        |(exfalso;omega)
        |exact again.mk ⟨_,by omega,n+1,_,_,_,_,rfl,by omega,by omega,by simp[hY],hsn,rfl,by rw[hd]⟩
  ·have hne:n=L.length:=by omega
   subst hne
   rw[List.take_length]at hC
   (conv=>whnf);repeat' (first|(refine kQ ⟨Z7 hY.symm⟩ ?_;conv=>whnf)|(refine kA ?_;conv=>whnf)|(refine Br.mk (fun hc=>?_) fun hc=>?_<;>first|exact hc.elim|conv=>whnf)|(refine kB ?_))
   all_goals first
        |(exfalso;omega)
        |exact⟨Y,rfl,hC⟩
def Zv (p q:GP):Prop:=q.key=p.key∧CpV 12 p.v q.v
set_option maxHeartbeats 1000000 in
theorem WB {l:List GP} {nl:Bool} (hl:JE l):Af (Ae tab) 16 [.sl nl (vs GP.av l)] (fun v=>∃Q,v=.sl (decide (0<l.length)) (vs GP.av Q)∧DT Zv l Q):=by
 obtain⟨hl1,hl2⟩:=hl
 refine Ac rfl rfl ?_
 (conv=>whnf);repeat' (first  |(refine kA ?_;conv=>whnf)|(refine Br.mk (fun hc=>?_) fun hc=>?_<;>first|exact hc.elim|conv=>whnf)|(refine kB ?_))
 refine Aq (fun m env s=>∃(i c ga n:Nat) (Q:List GP),m=l.length-i∧i≤l.length∧n=i∧Q.length=i∧(∀ k (h:k<l.length) (h':k<Q.length),Zv l[k] Q[k])∧env=[(0,.sl nl (vs GP.av l)),(3,.own 0 ga 0 n),(4,.int .i64 i)]∧s=⟨[.arr ga 6 (decide (0<i)) true (vs GP.av Q)],c⟩) ?_ _ _ _ ⟨0,_,_,_,[],rfl,by omega,rfl,rfl,(fun k h h'=>absurd h' (by simp)),rfl,rfl⟩
 rintro _ _ _ ⟨i,c,ga,n,Q,rfl,hi,rfl,hQ,hC,rfl,rfl⟩
 refine⟨rfl,?_⟩
 by_cases hlt:n<l.length
 ·have hx:=hl2 _ (List.getElem_mem hlt)
  obtain⟨_,⟨Z,rfl,hZ⟩,pc⟩:=(Aa1 12 (L:=[(l[n]).v.av]) (nl:=true) (by simp) (by intro x hx';rw[List.mem_singleton]at hx';subst hx';exact hx.2)).Yo
  obtain⟨z,rfl⟩:∃z,Z=[z]:=by
   have:=hZ.len
   rw[lV]at this
   exact List.length_eq_one_iff.1 this
  obtain⟨a,b,e1,e2,hab⟩:=hZ.el 0 (by simp) (by simp[vs])
  obtain rfl:=GV.FC (show (l[n]).v.av=a.av from e1)
  obtain rfl:=GV.FC (show z.av=b.av from e2)
  have hd:decide (0<n+1)=true:=decide_eq_true (by omega)
  have hC':∀k (h:k<l.length) (h':k<(Q++[GP.mk (l[n]).key z]).length),Zv l[k] (Q++[GP.mk (l[n]).key z])[k]:=fun k h h'=>by
   by_cases e:k<Q.length
   ·rw[List.getElem_append_left e];exact hC k h e
   ·have:k=n:=by simp at h';omega
    subst this
    rw[List.getElem_append_right (by omega)]
    simp only[hQ,Nat.sub_self,List.getElem_cons_zero]
    exact⟨rfl,hab⟩
  clear hC hZ e1 e2
  have pc':Af (Ae tab) 33 [.sl true [(l[n]).v.av]] (· =.sl true [z.av]):=pc
  (conv=>whnf);repeat' (first|(refine Aa pc' ?_;rintro _ rfl;conv=>whnf)|(refine Yw (f:=GP.av) (l:=Q) (x:=⟨(l[n]).key,z⟩) Zi hQ.symm (by omega) ?_;conv=>whnf)|(refine kA ?_;conv=>whnf)|(refine Br.mk (fun hc=>?_) fun hc=>?_<;>first|exact hc.elim|conv=>whnf)|(refine kB ?_))
  all_goals first
   |(exfalso;omega)
   |exact again.mk ⟨_,by omega,n+1,_,_,_,_,rfl,by omega,by omega,by simp[hQ],hC',rfl,by rw[hd]⟩
 ·have hne:n=l.length:=by omega
  subst hne
  (conv=>whnf);repeat' (first|(refine kQ ⟨Z7 hQ.symm⟩ ?_;conv=>whnf)|(refine kA ?_;conv=>whnf)|(refine Br.mk (fun hc=>?_) fun hc=>?_<;>first|exact hc.elim|conv=>whnf)|(refine kB ?_))
  all_goals first
   |(exfalso;omega)
   |exact⟨Q,rfl,hQ.symm,hC⟩
section
variable {α β:Type} [DecidableEq α]
variable {fk:α→AV} {fv:β→AV} {t:H7}
end
abbrev AaB (M:List (Int×Bool)):List (AV×AV):=AbZ (.int .i64) .bool M
section
inductive TG (nx:Int→List Int) (a:Int):Int→Prop
 |refl:TG nx a a
 |step {b c:Int}:TG nx a b→c∈nx b→TG nx a c
theorem TG.trans {nx:Int→List Int} {a b c:Int} (h:TG nx a b) (k:TG nx b c):TG nx a c:=by
 induction k with
 |refl=>exact h
 |step _ hc ih=>exact .step ih hc
theorem TG.one {nx:Int→List Int} {a b:Int} (h:b∈nx a):TG nx a b:=.step .refl h
def Least (nx:Int→List Int) (v x:Int):Prop:=TG nx v x∧TG nx x v∧∀u,TG nx v u→TG nx u v→x≤u
def upd {α:Type} (f:Int→α) (a:Int) (b:α):Int→α:=fun x=>if x=a then b else f x
theorem Jl {α:Type} {f:Int→α} {a:Int} {b:α}:upd f a b a=b:=if_pos rfl
theorem upd_ne {α:Type} {f:Int→α} {a x:Int} {b:α} (h:x≠a):upd f a b x=f x:=if_neg h
structure TJ where
 n:Nat
 vis:Int→Prop
 ix:Int→Nat
 low:Int→Nat
 S:List Int
 T:List (Int×Nat)
 sm:Int→Int
def SY (T:List (Int×Nat)) (v:Int):Prop:=∀p∈T,p.1≠v
structure OU (nx:Int→List Int) (s:TJ):Prop where
 Zb:∀v,s.vis v→s.ix v<s.n
 inj:∀v w,s.vis v→s.vis w→s.ix v=s.ix w→v=w
 sV:∀v∈s.S,s.vis v
 sI:s.S.Pairwise (fun a b=>s.ix a<s.ix b)
 tS:∀p∈s.T,p.1∈s.S
 tI:s.T.Pairwise (fun a b=>s.ix b.1<s.ix a.1)
 tR:∀p∈s.T,∀v∈s.S,s.ix p.1≤s.ix v→TG nx p.1 v
 tA:∀p∈s.T,p.2≤(nx p.1).length∧∀j w,j<p.2→(nx p.1)[j]?=some w→s.vis w
 lf:∀v,s.vis v→SY s.T v→∀w∈nx v,s.vis w
 pp:∀v,s.vis v→v∉s.S→∀w∈nx v,s.vis w∧w∉s.S
 lo:∀v∈s.S,s.low v≤s.ix v∧∃w∈s.S,s.ix w=s.low v∧TG nx v w
 le:∀v∈s.S,∀w∈s.S,w∈nx v→(∀ p∈s.T,p.1=v→∃j,j<p.2∧(nx v)[j]?=some w)→s.low v≤s.ix w
 lc:∀v∈s.S,SY s.T v→∀p∈s.T,s.ix p.1<s.ix v→(∀ q∈s.T,s.ix q.1<s.ix v→s.ix q.1≤s.ix p.1)→s.low p.1≤s.low v
 ll:∀v∈s.S,SY s.T v→s.low v<s.ix v
 rt:∀v∈s.S,∃p∈s.T,s.ix p.1≤s.ix v
 ok:∀v,s.vis v→v∉s.S→Least nx v (s.sm v)
variable {nx:Int→List Int} {s:TJ}
theorem OU.none {ix low:Int→Nat} {sm:Int→Int}:OU nx ⟨0,fun _=>False,ix,low,[],[],sm⟩ where
 Zb:=fun _ h=>h.elim
 inj:=fun _ _ h=>h.elim
 sV:=fun _ h=>by cases h
 sI:=List.Pairwise.nil
 tS:=fun _ h=>by cases h
 tI:=List.Pairwise.nil
 tR:=fun _ h=>by cases h
 tA:=fun _ h=>by cases h
 lf:=fun _ h=>h.elim
 pp:=fun _ h=>h.elim
 lo:=fun _ h=>by cases h
 le:=fun _ h=>by cases h
 lc:=fun _ h=>by cases h
 ll:=fun _ h=>by cases h
 rt:=fun _ h=>by cases h
 ok:=fun _ h=>h.elim
abbrev AaW (s:TJ) (m:Int) (T1:List (Int×Nat)):TJ:=⟨s.n+1,fun v=>s.vis v∨v=m,upd s.ix m s.n,upd s.low m s.n,s.S++[m],(m,0)::T1,s.sm⟩
structure Goes (nx:Int→List Int) (s:TJ) (m:Int) (T1:List (Int×Nat)):Prop where
 nm:T1.map Prod.fst=s.T.map Prod.fst
 old:∀p∈T1,p∈s.T∨(∃ q,s.T.head?=some q∧q.1=p.1∧p.2=q.2+1∧(nx p.1)[q.2]?=some m)
 top:∀p,s.T.head?=some p→m∈nx p.1
theorem KZ {T1 T:List (Int×Nat)} (h:T1.map Prod.fst=T.map Prod.fst) {v:Int}:(∃ p∈T1,p.1=v)↔∃p∈T,p.1=v:=by
 have e:∀{L:List (Int×Nat)},(∃ p∈L,p.1=v)↔v∈L.map Prod.fst:=fun{L}=>by rw[List.mem_map]
 rw[e,e,h]
theorem Uo {T1 T:List (Int×Nat)} (h:T1.map Prod.fst=T.map Prod.fst) {p:Int×Nat} (hp:p∈T1):∃q∈T,q.1=p.1:=(KZ h).1 ⟨p,hp,rfl⟩
theorem Zc {T1 T:List (Int×Nat)} (h:T1.map Prod.fst=T.map Prod.fst) {v:Int}:SY T1 v↔SY T v:=by
 have:=KZ h (v:=v)
 unfold SY
 constructor
 ·intro k p hp e;obtain⟨q,hq,eq⟩:=this.2 ⟨p,hp,e⟩;exact k q hq eq
 ·intro k p hp e;obtain⟨q,hq,eq⟩:=this.1 ⟨p,hp,e⟩;exact k q hq eq
theorem AaX {R:Int→Int→Prop} {T1 T:List (Int×Nat)} (h:T1.map Prod.fst=T.map Prod.fst) (k:T.Pairwise fun a b=>R a.1 b.1):T1.Pairwise fun a b=>R a.1 b.1:=by
 have e:∀{L:List (Int×Nat)},(L.map Prod.fst).Pairwise R↔L.Pairwise fun a b=>R a.1 b.1:=fun{L}=>List.pairwise_map
 rw[← e]at k ⊢
 rw[h];exact k
theorem OU.enter (h:OU nx s) {m:Int} {T1:List (Int×Nat)} (hm:¬s.vis m) (g:Goes nx s m T1):OU nx (AaW s m T1):=by
 have Zd:upd s.ix m s.n m=s.n:=Jl
 have hix:∀v,s.vis v→upd s.ix m s.n v=s.ix v:=fun v hv=>upd_ne fun e=>hm (e▸hv)
 have hlow:∀v,s.vis v→upd s.low m s.n v=s.low v:=fun v hv=>upd_ne fun e=>hm (e▸hv)
 have hS:∀v∈s.S++[m],v∈s.S∨v=m:=fun v hv=>by simpa using hv
 have hTS:∀p∈T1,p.1∈s.S:=fun p hp=>by obtain⟨q,hq,e⟩:=Uo g.nm hp;rw[← e];exact h.tS q hq
 have Ye:∀p∈T1,s.vis p.1:=fun p hp=>h.sV _ (hTS p hp)
 have hmS:m∉s.S:=fun hx=>hm (h.sV _ hx)
 have hoff:∀v,SY ((m,0)::T1) v→v≠m∧SY s.T v:=fun v hv=>⟨fun e=>hv (m,0) (by simp) e.symm,(Zc g.nm).1 fun p hp=>hv p (by simp[hp])⟩
 have htop:∀v∈s.S,∃p,s.T.head?=some p∧True:=fun v hv=>by
  obtain⟨p,hp,_⟩:=h.rt v hv
  cases hT:s.T with
  |nil=>rw[hT]at hp;cases hp
  |cons a r=>exact⟨a,rfl,trivial⟩
 have hhead:∀p,s.T.head?=some p→∀q∈s.T,s.ix q.1≤s.ix p.1:=fun p hp q hq=>by
  have hI:=h.tI
  cases hT:s.T with
  |nil=>rw[hT]at hq;cases hq
  |cons a r=>
   rw[hT]at hp hq hI
   simp only[List.head?_cons,Option.some.injEq]at hp
   subst hp
   rcases List.mem_cons.1 hq with rfl|hq
   ·exact Nat.le_refl _
   ·exact Nat.le_of_lt ((List.pairwise_cons.1 hI).1 q hq)
 refine⟨?_,?_,?_,?_,?_,?_,?_,?_,?_,?_,?_,?_,?_,?_,?_,?_⟩
 ·rintro v (hv|rfl)
  ·show upd s.ix m s.n v<s.n+1
   rw[hix v hv];have:=h.Zb v hv;omega
  ·show upd s.ix v s.n v<s.n+1
   rw[Jl];omega
 ·rintro v w (hv|rfl) (hw|rfl) e
  ·replace e:upd s.ix m s.n v=upd s.ix m s.n w:=e
   rw[hix v hv,hix w hw]at e;exact h.inj v w hv hw e
  ·replace e:upd s.ix w s.n v=upd s.ix w s.n w:=e
   rw[hix v hv,Jl]at e;have:=h.Zb v hv;omega
  ·replace e:upd s.ix v s.n v=upd s.ix v s.n w:=e
   rw[hix w hw,Jl]at e;have:=h.Zb w hw;omega
  ·rfl
 ·intro v hv
  rcases hS v hv with hv|rfl
  ·exact .inl (h.sV v hv)
  ·exact .inr rfl
 ·show(s.S++[m]).Pairwise fun a b=>upd s.ix m s.n a<upd s.ix m s.n b
  rw[List.pairwise_append]
  refine⟨h.sI.imp_of_mem fun ha hb hab=>by rw[hix _ (h.sV _ ha),hix _ (h.sV _ hb)];exact hab,List.pairwise_singleton _ _,fun a ha b hb=>?_⟩
  rw[List.mem_singleton]at hb
  subst hb
  rw[hix a (h.sV a ha),Zd];exact h.Zb a (h.sV a ha)
 ·intro p hp
  show p.1∈s.S++[m]
  rcases List.mem_cons.1 hp with rfl|hp
  ·simp
  ·simp[hTS p hp]
 ·show((m,0)::T1).Pairwise fun a b=>upd s.ix m s.n b.1<upd s.ix m s.n a.1
  refine List.pairwise_cons.2 ⟨fun p hp=>?_,?_⟩
  ·rw[hix _ (Ye p hp),Zd];exact h.Zb _ (Ye p hp)
  ·have hp:=AaX (R:=fun a b=>s.ix b<s.ix a) g.nm h.tI
   exact hp.imp_of_mem fun ha hb hab=>by rw[hix _ (Ye _ ha),hix _ (Ye _ hb)];exact hab
 ·intro p hp v hv hle
  replace hle:upd s.ix m s.n p.1≤upd s.ix m s.n v:=hle
  rcases List.mem_cons.1 hp with rfl|hp
  ·rcases hS v hv with hv|rfl
   ·rw[hix v (h.sV v hv)]at hle
    replace hle:upd s.ix m s.n m≤s.ix v:=hle
    rw[Zd]at hle;have:=h.Zb v (h.sV v hv);omega
   ·exact .refl
  ·obtain⟨q,hq,e⟩:=Uo g.nm hp
   have hpS:=hTS p hp
   rcases hS v hv with hv|rfl
   ·rw[hix _ (Ye p hp),hix v (h.sV v hv)]at hle
    rw[← e]at hle ⊢;exact h.tR q hq v hv hle
   ·obtain⟨r,hr,_⟩:=htop p.1 hpS
    have h1:=hhead r hr q hq
    have hrm:r∈s.T:=List.mem_of_head? hr
    rw[← e]
    exact .step (h.tR q hq r.1 (h.tS r hrm) h1) (g.top r hr)
 ·intro p hp
  rcases List.mem_cons.1 hp with rfl|hp
  ·exact⟨Nat.zero_le _,fun j w hj=>absurd hj (Nat.not_lt_zero _)⟩
  ·rcases g.old p hp with hq|⟨q,hq,e1,e2,e3⟩
   ·exact⟨(h.tA p hq).1,fun j w hj hw=>.inl ((h.tA p hq).2 j w hj hw)⟩
   ·have hqm:q∈s.T:=List.mem_of_head? hq
    have hk:=h.tA q hqm
    rw[e1]at hk
    have hlt:q.2<(nx p.1).length:=(List.getElem?_eq_some_iff.1 e3).1
    refine⟨by omega,fun j w hj hw=>?_⟩
    by_cases hjq:j<q.2
    ·exact .inl (hk.2 j w hjq hw)
    ·obtain rfl:j=q.2:=by omega
     rw[e3]at hw
     exact .inr (Option.some.inj hw).symm
 ·rintro v hv ho w hw
  obtain⟨o1,o2⟩:=hoff v ho
  rcases hv with hv|hv
  ·exact .inl (h.lf v hv o2 w hw)
  ·exact absurd hv o1
 ·rintro v hv hns w hw
  have Yf:v∉s.S∧v≠m:=⟨fun h=>hns (by show v∈s.S++[m];simp[h]),fun h=>hns (by show v∈s.S++[m];simp[h])⟩
  rcases hv with hv|hv
  ·obtain⟨a,b⟩:=h.pp v hv Yf.1 w hw
   refine⟨.inl a,fun hx=>?_⟩
   rcases hS w hx with hx|rfl
   ·exact b hx
   ·exact hm a
  ·exact absurd hv Yf.2
 ·intro v hv
  show upd s.low m s.n v≤upd s.ix m s.n v∧∃w∈s.S++[m],upd s.ix m s.n w=upd s.low m s.n v∧TG nx v w
  rcases hS v hv with hv|rfl
  ·rw[hlow v (h.sV v hv),hix v (h.sV v hv)]
   obtain⟨a,w,b,c,d⟩:=h.lo v hv
   exact⟨a,w,by simp[b],by rw[hix w (h.sV w b)];exact c,d⟩
  ·rw[Jl,Jl]
   exact⟨Nat.le_refl _,v,by simp,Jl,.refl⟩
 ·intro v hv w hw he hd
  show upd s.low m s.n v≤upd s.ix m s.n w
  rcases hS v hv with hv|rfl
  ·rw[hlow v (h.sV v hv)]
   have hvS:v∈s.S:=hv
   rcases hS w hw with hw|rfl
   ·rw[hix w (h.sV w hw)]
    refine h.le v hv w hw he fun p hp e=>?_
    obtain⟨q,hq,eq⟩:=(KZ g.nm).2 ⟨p,hp,e⟩
    obtain⟨j,hj,hjw⟩:=hd q (by show q∈(m,0)::T1;simp[hq]) eq
    rcases g.old q hq with ho|⟨r,hr,a1,a2,a3⟩
    ·have:q=p:=by
       have hI:=h.tI
       refine Classical.byContradiction fun hne=>?_
       have hlt:s.ix q.1≠s.ix p.1:=by
        obtain⟨i1,hi1,rfl⟩:=List.getElem_of_mem ho
        obtain⟨i2,hi2,rfl⟩:=List.getElem_of_mem hp
        rcases Nat.lt_trichotomy i1 i2 with hh|hh|hh
        ·have:=List.pairwise_iff_getElem.1 hI i1 i2 hi1 hi2 hh;omega
        ·subst hh;exact absurd rfl hne
        ·have:=List.pairwise_iff_getElem.1 hI i2 i1 hi2 hi1 hh;omega
       exact hlt (by rw[eq,e])
     subst this
     exact⟨j,hj,hjw⟩
    ·have hrp:r=p:=by
       have hI:=h.tI
       have hrm:r∈s.T:=List.mem_of_head? hr
       refine Classical.byContradiction fun hne=>?_
       have hlt:s.ix r.1≠s.ix p.1:=by
        obtain⟨i1,hi1,rfl⟩:=List.getElem_of_mem hrm
        obtain⟨i2,hi2,rfl⟩:=List.getElem_of_mem hp
        rcases Nat.lt_trichotomy i1 i2 with hh|hh|hh
        ·have:=List.pairwise_iff_getElem.1 hI i1 i2 hi1 hi2 hh;omega
        ·subst hh;exact absurd rfl hne
        ·have:=List.pairwise_iff_getElem.1 hI i2 i1 hi2 hi1 hh;omega
       exact hlt (by rw[a1,eq,e])
     subst hrp
     by_cases hjr:j<r.2
     ·exact⟨j,hjr,hjw⟩
     ·exfalso
      have:j=r.2:=by omega
      subst this
      rw[← eq,a3]at hjw
      have:=Option.some.inj hjw
      subst this
      exact hmS hw
   ·rw[Jl]
    have:=(h.lo v hvS).1
    have:=h.Zb v (h.sV v hvS)
    omega
  ·obtain⟨j,hj,_⟩:=hd (v,0) (by show(v,0)∈(v,0)::T1;simp) rfl
   exact absurd hj (Nat.not_lt_zero _)
 ·intro v hv ho p hp hlt hmax
  obtain⟨o1,o2⟩:=hoff v ho
  have hv':v∈s.S:=(hS v hv).resolve_right o1
  replace hlt:upd s.ix m s.n p.1<upd s.ix m s.n v:=hlt
  show upd s.low m s.n p.1≤upd s.low m s.n v
  rw[hix v (h.sV v hv')]at hlt
  rcases List.mem_cons.1 hp with rfl|hp
  ·replace hlt:upd s.ix m s.n m<s.ix v:=hlt
   rw[Zd]at hlt;have:=h.Zb v (h.sV v hv');omega
  ·rw[hix _ (Ye p hp)]at hlt
   rw[hlow _ (Ye p hp),hlow v (h.sV v hv')]
   obtain⟨q,hq,e⟩:=Uo g.nm hp
   rw[← e]at hlt ⊢
   refine h.lc v hv' o2 q hq hlt fun r hr hrl=>?_
   obtain⟨r',hr',e'⟩:=(KZ g.nm).2 ⟨r,hr,rfl⟩
   have:=hmax r' (by show r'∈(m,0)::T1;simp[hr']) (by show upd s.ix m s.n r'.1<upd s.ix m s.n v;rw[hix _ (Ye r' hr'),hix v (h.sV v hv'),e'];exact hrl)
   replace this:upd s.ix m s.n r'.1≤upd s.ix m s.n p.1:=this
   rw[hix _ (Ye r' hr'),hix _ (Ye p hp),e',←e]at this
   exact this
 ·intro v hv ho
  obtain⟨o1,o2⟩:=hoff v ho
  have hv':v∈s.S:=(hS v hv).resolve_right o1
  show upd s.low m s.n v<upd s.ix m s.n v
  rw[hlow v (h.sV v hv'),hix v (h.sV v hv')]
  exact h.ll v hv' o2
 ·intro v hv
  rcases hS v hv with hv|rfl
  ·obtain⟨p,hp,hle⟩:=h.rt v hv
   obtain⟨q,hq,e⟩:=(KZ g.nm).2 ⟨p,hp,rfl⟩
   refine⟨q,by show q∈(m,0)::T1;simp[hq],?_⟩
   show upd s.ix m s.n q.1≤upd s.ix m s.n v
   rw[hix _ (Ye q hq),hix v (h.sV v hv),e];exact hle
  ·exact⟨(v,0),by show(v,0)∈(v,0)::T1;simp,Nat.le_refl _⟩
 ·rintro v hv hns
  have Yf:v∉s.S∧v≠m:=⟨fun h=>hns (by show v∈s.S++[m];simp[h]),fun h=>hns (by show v∈s.S++[m];simp[h])⟩
  rcases hv with hv|hv
  ·exact h.ok v hv Yf.1
  ·exact absurd hv Yf.2
theorem OU.below (h:OU nx s) {t:Int} {k:Nat} {T0:List (Int×Nat)} (hT:s.T=(t,k)::T0) {p:Int×Nat} (hp:p∈T0):s.ix p.1<s.ix t:=by
 have hI:=h.tI
 rw[hT]at hI
 exact(List.pairwise_cons.1 hI).1 p hp
end
section
variable {nx:Int→List Int} {s:TJ}
end
end AI
end Go.Proofs.YtegcpbncohoflaaGreatDoor
