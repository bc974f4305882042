/- When statistics are the same: the program's way and the reference's. degree.Of: the loop over the labels. Sorting strings in place: the order. Sorting in place (Ordered[string]): insertion, heaps. -/
import Derived.Test.YtceiccjppfapjaaGreatDoorVMah
import Derived.Test.YtceiccjppfapjaaGreatDoorVMad
set_option linter.unusedVariables false
set_option maxRecDepth 4000
namespace Go.Proofs.YtceiccjppfapjaaGreatDoor
namespace AI
theorem XE {α β:Type} {f:α→β} {l m:List α} (hl:l.length=m.length) (h:∀k (h1:k<l.length) (h2:k<m.length),f l[k]=f m[k]):l.map f=m.map f:=
 List.ext_getElem (by simp[hl]) fun k h1 h2=>by simpa using h k (by simpa using h1) (by simpa using h2)
theorem XF {α β:Type} {f:α→β} {l m:List α} {i:Nat} (h1:i<l.length) (h2:i<m.length) (e:f l[i]≠f m[i]):l.map f≠m.map f:=fun h=>by
 have h3:(l.map f)[i]'(by simpa using h1)=(m.map f)[i]'(by simpa using h2):=by simp only[h]
 simp only[List.getElem_map]at h3
 exact e h3
theorem AcZ {α β:Type} {f:α→β} {l m:List α} (h:l.map f=m.map f):l.length=m.length:=by have:=congrArg List.length h;simpa using this
theorem Al2 {l m:List Int} {nl nm:Bool} (hl:l.length<2^62) (hm:m.length<2^62):Af (Ad tab) 129 [.sl nl (vi l),.sl nm (vi m)] (· =.bool (decide (l=m))):=by
 by_cases hlen:l.length=m.length
 case neg=>
  refine Ac rfl rfl ?_
  (conv=>whnf);repeat' (first  |(refine kA ?_;conv=>whnf)|(refine Br.mk (fun hc=>?_) fun hc=>?_<;>first|exact hc.elim|conv=>whnf)|(refine kB ?_))
  all_goals first|exact Am (fun h=>hlen (congrArg List.length h))|(exfalso;omega)
 refine Ac rfl rfl ?_
 (conv=>whnf);repeat' (first  |(refine kA ?_;conv=>whnf)|(refine Br.mk (fun hc=>?_) fun hc=>?_<;>first|exact hc.elim|conv=>whnf)|(refine kB ?_))
 all_goals first|(exfalso;omega)|skip
 refine Ae (fun z env s=>∃(i:Nat),z=l.length-i∧(∀ k (h:k<l.length) (h':k<m.length),k<i→l[k]=m[k])∧env=[(0,.sl nl (vi l)),(1,.sl nm (vi m)),(12,.int .i64 l.length),(13,.int .i64 i)]∧s=⟨[],0⟩) ?_ _ _ _ ⟨0,rfl,fun _ _ _ h=>absurd h (by omega),by first|rfl|(rw [← lV (f:=AV.int .i64) l];rfl),rfl⟩
 rintro _ _ _ ⟨i,rfl,hx,rfl,rfl⟩
 refine⟨rfl,?_⟩
 by_cases hlt:i<l.length
 ·by_cases he:l[i]=m[i]
  ·(conv=>whnf);repeat' (first  |(refine kA ?_;conv=>whnf)|(refine Br.mk (fun hc=>?_) fun hc=>?_<;>first|exact hc.elim|conv=>whnf)|(refine kB ?_))
   all_goals first|exact again.mk ⟨_,by omega,i+1,rfl,Qr hlt (by omega) he hx,rfl,rfl⟩|(exfalso;omega)|exact absurd he (by assumption)|(exfalso;simp_all;done)
  ·(conv=>whnf);repeat' (first  |(refine kA ?_;conv=>whnf)|(refine Br.mk (fun hc=>?_) fun hc=>?_<;>first|exact hc.elim|conv=>whnf)|(refine kB ?_))
   all_goals first|exact Am (YL hlt (by omega) he)|(exfalso;omega)|exact absurd (by assumption) he|(exfalso;simp_all;done)
 ·(conv=>whnf);repeat' (first  |(refine kA ?_;conv=>whnf)|(refine Br.mk (fun hc=>?_) fun hc=>?_<;>first|exact hc.elim|conv=>whnf)|(refine kB ?_))
  all_goals first|exact Bc (YM hlen (by omega) hx)|(exfalso;omega)
theorem Z7 {l m:List CN} {nl nm:Bool} (hl:l.length<2^62) (hm:m.length<2^62):Af (Ad tab) 127 [.sl nl (vs CN.av l),.sl nm (vs CN.av m)] (· =.bool (decide (l=m))):=by
 by_cases hlen:l.length=m.length
 case neg=>
  refine Ac rfl rfl ?_
  (conv=>whnf);repeat' (first  |(refine kA ?_;conv=>whnf)|(refine Br.mk (fun hc=>?_) fun hc=>?_<;>first|exact hc.elim|conv=>whnf)|(refine kB ?_))
  all_goals first|exact Am (fun h=>hlen (congrArg List.length h))|(exfalso;omega)
 refine Ac rfl rfl ?_
 (conv=>whnf);repeat' (first  |(refine kA ?_;conv=>whnf)|(refine Br.mk (fun hc=>?_) fun hc=>?_<;>first|exact hc.elim|conv=>whnf)|(refine kB ?_))
 all_goals first|(exfalso;omega)|skip
 refine Ae (fun z env s=>∃(i:Nat),z=l.length-i∧(∀ k (h:k<l.length) (h':k<m.length),k<i→l[k]=m[k])∧env=[(0,.sl nl (vs CN.av l)),(1,.sl nm (vs CN.av m)),(12,.int .i64 l.length),(13,.int .i64 i)]∧s=⟨[],0⟩) ?_ _ _ _ ⟨0,rfl,fun _ _ _ h=>absurd h (by omega),by first|rfl|(rw [← lV (f:=CN.av) l];rfl),rfl⟩
 rintro _ _ _ ⟨i,rfl,hx,rfl,rfl⟩
 refine⟨rfl,?_⟩
 by_cases hlt:i<l.length
 ·by_cases he:l[i]=m[i]
  ·(conv=>whnf);repeat' (first|(apply Ag (Ak4 he);conv=>whnf)|(refine kA ?_;conv=>whnf)|(refine Br.mk (fun hc=>?_) fun hc=>?_<;>first|exact hc.elim|conv=>whnf)|(refine kB ?_))
   all_goals first|exact again.mk ⟨_,by omega,i+1,rfl,Qr hlt (by omega) he hx,rfl,rfl⟩|(exfalso;omega)|exact absurd he (by assumption)|(exfalso;simp_all;done)
  ·(conv=>whnf);repeat' (first|(apply Ag (Ak5 he);conv=>whnf)|(refine kA ?_;conv=>whnf)|(refine Br.mk (fun hc=>?_) fun hc=>?_<;>first|exact hc.elim|conv=>whnf)|(refine kB ?_))
   all_goals first|exact Am (YL hlt (by omega) he)|(exfalso;omega)|exact absurd (by assumption) he|(exfalso;simp_all;done)
 ·(conv=>whnf);repeat' (first  |(refine kA ?_;conv=>whnf)|(refine Br.mk (fun hc=>?_) fun hc=>?_<;>first|exact hc.elim|conv=>whnf)|(refine kB ?_))
  all_goals first|exact Bc (YM hlen (by omega) hx)|(exfalso;omega)
theorem Al3 {l m:List Int} {nl nm:Bool} (hl:l.length<2^62) (hm:m.length<2^62):Af (Ad tab) 56 [.sl nl (vi l),.sl nm (vi m)] (· =.bool (decide (l=m))):=by
 by_cases hlen:l.length=m.length
 case neg=>
  refine Ac rfl rfl ?_
  (conv=>whnf);repeat' (first  |(refine kA ?_;conv=>whnf)|(refine Br.mk (fun hc=>?_) fun hc=>?_<;>first|exact hc.elim|conv=>whnf)|(refine kB ?_))
  all_goals first|exact Am (fun h=>hlen (congrArg List.length h))|(exfalso;omega)
 refine Ac rfl rfl ?_
 (conv=>whnf);repeat' (first  |(refine kA ?_;conv=>whnf)|(refine Br.mk (fun hc=>?_) fun hc=>?_<;>first|exact hc.elim|conv=>whnf)|(refine kB ?_))
 all_goals first|(exfalso;omega)|skip
 refine Ae (fun z env s=>∃(i:Nat),z=l.length-i∧(∀ k (h:k<l.length) (h':k<m.length),k<i→l[k]=m[k])∧env=[(0,.sl nl (vi l)),(1,.sl nm (vi m)),(5,.int .i64 i)]∧s=⟨[],0⟩) ?_ _ _ _ ⟨0,rfl,fun _ _ _ h=>absurd h (by omega),by first|rfl|(rw [← lV (f:=AV.int .i64) l];rfl),rfl⟩
 rintro _ _ _ ⟨i,rfl,hx,rfl,rfl⟩
 refine⟨rfl,?_⟩
 by_cases hlt:i<l.length
 ·by_cases he:l[i]=m[i]
  ·(conv=>whnf);repeat' (first  |(refine kA ?_;conv=>whnf)|(refine Br.mk (fun hc=>?_) fun hc=>?_<;>first|exact hc.elim|conv=>whnf)|(refine kB ?_))
   all_goals first|exact again.mk ⟨_,by omega,i+1,rfl,Qr hlt (by omega) he hx,rfl,rfl⟩|(exfalso;omega)|exact absurd he (by assumption)|(exfalso;simp_all;done)
  ·(conv=>whnf);repeat' (first  |(refine kA ?_;conv=>whnf)|(refine Br.mk (fun hc=>?_) fun hc=>?_<;>first|exact hc.elim|conv=>whnf)|(refine kB ?_))
   all_goals first|exact Am (YL hlt (by omega) he)|(exfalso;omega)|exact absurd (by assumption) he|(exfalso;simp_all;done)
 ·(conv=>whnf);repeat' (first  |(refine kA ?_;conv=>whnf)|(refine Br.mk (fun hc=>?_) fun hc=>?_<;>first|exact hc.elim|conv=>whnf)|(refine kB ?_))
  all_goals first|exact Bc (YM hlen (by omega) hx)|(exfalso;omega)
theorem Z8 {l m:List CN} {nl nm:Bool} (hl:l.length<2^62) (hm:m.length<2^62):Af (Ad tab) 66 [.sl nl (vs CN.av l),.sl nm (vs CN.av m)] (· =.bool (decide (l=m))):=by
 by_cases hlen:l.length=m.length
 case neg=>
  refine Ac rfl rfl ?_
  (conv=>whnf);repeat' (first  |(refine kA ?_;conv=>whnf)|(refine Br.mk (fun hc=>?_) fun hc=>?_<;>first|exact hc.elim|conv=>whnf)|(refine kB ?_))
  all_goals first|exact Am (fun h=>hlen (congrArg List.length h))|(exfalso;omega)
 refine Ac rfl rfl ?_
 (conv=>whnf);repeat' (first  |(refine kA ?_;conv=>whnf)|(refine Br.mk (fun hc=>?_) fun hc=>?_<;>first|exact hc.elim|conv=>whnf)|(refine kB ?_))
 all_goals first|(exfalso;omega)|skip
 refine Ae (fun z env s=>∃(i:Nat),z=l.length-i∧(∀ k (h:k<l.length) (h':k<m.length),k<i→l[k]=m[k])∧env=[(0,.sl nl (vs CN.av l)),(1,.sl nm (vs CN.av m)),(5,.int .i64 i)]∧s=⟨[],0⟩) ?_ _ _ _ ⟨0,rfl,fun _ _ _ h=>absurd h (by omega),by first|rfl|(rw [← lV (f:=CN.av) l];rfl),rfl⟩
 rintro _ _ _ ⟨i,rfl,hx,rfl,rfl⟩
 refine⟨rfl,?_⟩
 by_cases hlt:i<l.length
 ·by_cases he:l[i]=m[i]
  ·(conv=>whnf);repeat' (first|(apply Ag (Ak4 he);conv=>whnf)|(refine kA ?_;conv=>whnf)|(refine Br.mk (fun hc=>?_) fun hc=>?_<;>first|exact hc.elim|conv=>whnf)|(refine kB ?_))
   all_goals first|exact again.mk ⟨_,by omega,i+1,rfl,Qr hlt (by omega) he hx,rfl,rfl⟩|(exfalso;omega)|exact absurd he (by assumption)|(exfalso;simp_all;done)
  ·(conv=>whnf);repeat' (first|(apply Ag (Ak5 he);conv=>whnf)|(refine kA ?_;conv=>whnf)|(refine Br.mk (fun hc=>?_) fun hc=>?_<;>first|exact hc.elim|conv=>whnf)|(refine kB ?_))
   all_goals first|exact Am (YL hlt (by omega) he)|(exfalso;omega)|exact absurd (by assumption) he|(exfalso;simp_all;done)
 ·(conv=>whnf);repeat' (first  |(refine kA ?_;conv=>whnf)|(refine Br.mk (fun hc=>?_) fun hc=>?_<;>first|exact hc.elim|conv=>whnf)|(refine kB ?_))
  all_goals first|exact Bc (YM hlen (by omega) hx)|(exfalso;omega)
theorem Ac0 {l m:List (Bool×List Int)} {nl nm:Bool} (hl:l.length<2^62) (hm:m.length<2^62) (hl2:∀p∈l,p.2.length<2^62) (hm2:∀p∈m,p.2.length<2^62):Af (Ad tab) 128 [.sl nl (vs GY l),.sl nm (vs GY m),.fn 129 []] (· =.bool (decide (l.map Prod.snd=m.map Prod.snd))):=by
 by_cases hlen:l.length=m.length
 case neg=>
  refine Ac rfl rfl ?_
  (conv=>whnf);repeat' (first  |(refine kA ?_;conv=>whnf)|(refine Br.mk (fun hc=>?_) fun hc=>?_<;>first|exact hc.elim|conv=>whnf)|(refine kB ?_))
  all_goals first|exact Am (fun h=>hlen (AcZ h))|(exfalso;omega)
 refine Ac rfl rfl ?_
 (conv=>whnf);repeat' (first  |(refine kA ?_;conv=>whnf)|(refine Br.mk (fun hc=>?_) fun hc=>?_<;>first|exact hc.elim|conv=>whnf)|(refine kB ?_))
 all_goals first|(exfalso;omega)|skip
 refine Ae (fun z env s=>∃(i c:Nat),z=l.length-i∧(∀ k (h:k<l.length) (h':k<m.length),k<i→(l[k]).2=(m[k]).2)∧env=[(1,.sl nm (vs GY m)),(2,.fn 129 []),(15,.sl nl (vs GY l)),(16,.int .i64 l.length),(17,.int .i64 i)]∧s=⟨[],c⟩) ?_ _ _ _ ⟨0,_,rfl,fun _ _ _ h=>absurd h (by omega),by first|rfl|(rw [← lV (f:=GY) l];rfl),rfl⟩
 rintro _ _ _ ⟨i,c,rfl,hx,rfl,rfl⟩
 refine⟨rfl,?_⟩
 by_cases hlt:i<l.length
 ·have hcf:=Al2 (nl:=(l[i]).1) (nm:=(m[i]'(by omega)).1) (hl2 _ (List.getElem_mem hlt)) (hm2 _ (List.getElem_mem (show i<m.length by omega)))
  by_cases he:(l[i]).2=(m[i]'(by omega)).2
  ·rw[decide_eq_true he]at hcf
   (conv=>whnf);repeat' (first|(refine Aa hcf ?_;rintro _ rfl;conv=>whnf)|(refine kA ?_;conv=>whnf)|(refine Br.mk (fun hc=>?_) fun hc=>?_<;>first|exact hc.elim|conv=>whnf)|(refine kB ?_))
   all_goals first|exact again.mk ⟨_,by omega,i+1,_,rfl,fun k h1 h2 hk=>(by
    by_cases ek:k=i
    ·subst ek;exact he
    ·exact hx k h1 h2 (by omega)),rfl,rfl⟩|(exfalso;omega)
  ·rw[decide_eq_false he]at hcf
   (conv=>whnf);repeat' (first|(refine Aa hcf ?_;rintro _ rfl;conv=>whnf)|(refine kA ?_;conv=>whnf)|(refine Br.mk (fun hc=>?_) fun hc=>?_<;>first|exact hc.elim|conv=>whnf)|(refine kB ?_))
   all_goals first|exact Am (XF hlt (by omega) he)|(exfalso;omega)
 ·(conv=>whnf);repeat' (first  |(refine kA ?_;conv=>whnf)|(refine Br.mk (fun hc=>?_) fun hc=>?_<;>first|exact hc.elim|conv=>whnf)|(refine kB ?_))
  all_goals first|exact Bc (XE hlen fun k h1 h2=>hx k h1 h2 (by omega))|(exfalso;omega)
theorem Ac1 {l m:List (Bool×List Int)} {nl nm:Bool} (hl:l.length<2^62) (hm:m.length<2^62) (hl2:∀p∈l,p.2.length<2^62) (hm2:∀p∈m,p.2.length<2^62):Af (Ad tab) 67 [.sl nl (vs GY l),.sl nm (vs GY m)] (· =.bool (decide (l.map Prod.snd=m.map Prod.snd))):=by
 by_cases hlen:l.length=m.length
 case neg=>
  refine Ac rfl rfl ?_
  (conv=>whnf);repeat' (first  |(refine kA ?_;conv=>whnf)|(refine Br.mk (fun hc=>?_) fun hc=>?_<;>first|exact hc.elim|conv=>whnf)|(refine kB ?_))
  all_goals first|exact Am (fun h=>hlen (AcZ h))|(exfalso;omega)
 refine Ac rfl rfl ?_
 (conv=>whnf);repeat' (first  |(refine kA ?_;conv=>whnf)|(refine Br.mk (fun hc=>?_) fun hc=>?_<;>first|exact hc.elim|conv=>whnf)|(refine kB ?_))
 all_goals first|(exfalso;omega)|skip
 refine Ae (fun z env s=>∃(i c:Nat),z=l.length-i∧(∀ k (h:k<l.length) (h':k<m.length),k<i→(l[k]).2=(m[k]).2)∧env=[(0,.sl nl (vs GY l)),(1,.sl nm (vs GY m)),(5,.int .i64 i)]∧s=⟨[],c⟩) ?_ _ _ _ ⟨0,_,rfl,fun _ _ _ h=>absurd h (by omega),by first|rfl|(rw [← lV (f:=GY) l];rfl),rfl⟩
 rintro _ _ _ ⟨i,c,rfl,hx,rfl,rfl⟩
 refine⟨rfl,?_⟩
 by_cases hlt:i<l.length
 ·have hcf:=Al3 (nl:=(l[i]).1) (nm:=(m[i]'(by omega)).1) (hl2 _ (List.getElem_mem hlt)) (hm2 _ (List.getElem_mem (show i<m.length by omega)))
  by_cases he:(l[i]).2=(m[i]'(by omega)).2
  ·rw[decide_eq_true he]at hcf
   (conv=>whnf);repeat' (first|(refine Aa hcf ?_;rintro _ rfl;conv=>whnf)|(refine kA ?_;conv=>whnf)|(refine Br.mk (fun hc=>?_) fun hc=>?_<;>first|exact hc.elim|conv=>whnf)|(refine kB ?_))
   all_goals first|exact again.mk ⟨_,by omega,i+1,_,rfl,fun k h1 h2 hk=>(by
    by_cases ek:k=i
    ·subst ek;exact he
    ·exact hx k h1 h2 (by omega)),rfl,rfl⟩|(exfalso;omega)
  ·rw[decide_eq_false he]at hcf
   (conv=>whnf);repeat' (first|(refine Aa hcf ?_;rintro _ rfl;conv=>whnf)|(refine kA ?_;conv=>whnf)|(refine Br.mk (fun hc=>?_) fun hc=>?_<;>first|exact hc.elim|conv=>whnf)|(refine kB ?_))
   all_goals first|exact Am (XF hlt (by omega) he)|(exfalso;omega)
 ·(conv=>whnf);repeat' (first  |(refine kA ?_;conv=>whnf)|(refine Br.mk (fun hc=>?_) fun hc=>?_<;>first|exact hc.elim|conv=>whnf)|(refine kB ?_))
  all_goals first|exact Bc (XE hlen fun k h1 h2=>hx k h1 h2 (by omega))|(exfalso;omega)
def ST.fine (s:ST):Prop:=s.labels.length<2^62∧s.types.length<2^62∧s.outs.length<2^62∧s.ins.length<2^62∧(∀ p∈s.outs,p.2.length<2^62)∧∀p∈s.ins,p.2.length<2^62
theorem Ak6 {a b:ST} (ha:a.fine) (hb:b.fine):Af (Ad tab) 64 [a.av,b.av] (· =.bool (decide (a.eqv b))):=by
 have h3:=Z7 (nl:=a.ln) (nm:=b.ln) ha.1 hb.1
 have h4:=Z7 (nl:=a.tn) (nm:=b.tn) ha.2.1 hb.2.1
 have h5:=Ac0 (nl:=a.on) (nm:=b.on) ha.2.2.1 hb.2.2.1 ha.2.2.2.2.1 hb.2.2.2.2.1
 have h6:=Ac0 (nl:=a.nn) (nm:=b.nn) ha.2.2.2.1 hb.2.2.2.1 ha.2.2.2.2.2 hb.2.2.2.2.2
 by_cases e3:a.labels=b.labels
 case neg=>
  rw[decide_eq_false e3]at h3
  refine Ac rfl rfl ?_
  (conv=>whnf);repeat' (first|((first|refine Aa h3 ?_|refine Aa h4 ?_|refine Aa h5 ?_|refine Aa h6 ?_);rintro _ rfl;conv=>whnf)|(refine kA ?_;conv=>whnf)|(refine Br.mk (fun hc=>?_) fun hc=>?_<;>first|exact hc.elim|conv=>whnf)|(refine kB ?_))
  all_goals first|exact Am (fun h=>e3 h.2.2.1)|(exfalso;omega)
 rw[decide_eq_true e3]at h3
 by_cases e4:a.types=b.types
 case neg=>
  rw[decide_eq_false e4]at h4
  refine Ac rfl rfl ?_
  (conv=>whnf);repeat' (first|((first|refine Aa h3 ?_|refine Aa h4 ?_|refine Aa h5 ?_|refine Aa h6 ?_);rintro _ rfl;conv=>whnf)|(refine kA ?_;conv=>whnf)|(refine Br.mk (fun hc=>?_) fun hc=>?_<;>first|exact hc.elim|conv=>whnf)|(refine kB ?_))
  all_goals first|exact Am (fun h=>e4 h.2.2.2.1)|(exfalso;omega)
 rw[decide_eq_true e4]at h4
 by_cases e5:a.outs.map Prod.snd=b.outs.map Prod.snd
 case neg=>
  rw[decide_eq_false e5]at h5
  refine Ac rfl rfl ?_
  (conv=>whnf);repeat' (first|((first|refine Aa h3 ?_|refine Aa h4 ?_|refine Aa h5 ?_|refine Aa h6 ?_);rintro _ rfl;conv=>whnf)|(refine kA ?_;conv=>whnf)|(refine Br.mk (fun hc=>?_) fun hc=>?_<;>first|exact hc.elim|conv=>whnf)|(refine kB ?_))
  all_goals first|exact Am (fun h=>e5 h.2.2.2.2.1)|(exfalso;omega)
 rw[decide_eq_true e5]at h5
 by_cases e6:a.ins.map Prod.snd=b.ins.map Prod.snd
 case neg=>
  rw[decide_eq_false e6]at h6
  refine Ac rfl rfl ?_
  (conv=>whnf);repeat' (first|((first|refine Aa h3 ?_|refine Aa h4 ?_|refine Aa h5 ?_|refine Aa h6 ?_);rintro _ rfl;conv=>whnf)|(refine kA ?_;conv=>whnf)|(refine Br.mk (fun hc=>?_) fun hc=>?_<;>first|exact hc.elim|conv=>whnf)|(refine kB ?_))
  all_goals first|exact Am (fun h=>e6 h.2.2.2.2.2)|(exfalso;omega)
 rw[decide_eq_true e6]at h6
 refine Ac rfl rfl ?_
 (conv=>whnf);repeat' (first|((first|refine Aa h3 ?_|refine Aa h4 ?_|refine Aa h5 ?_|refine Aa h6 ?_);rintro _ rfl;conv=>whnf)|(refine kA ?_;conv=>whnf)|(refine Br.mk (fun hc=>?_) fun hc=>?_<;>first|exact hc.elim|conv=>whnf)|(refine kB ?_))
 all_goals first|exact Bc ⟨by assumption,by assumption,e3,e4,e5,e6⟩|exact Am (fun h=>absurd h.1 (by assumption))|exact Am (fun h=>absurd h.2.1 (by assumption))|(exfalso;omega)
theorem Ac2 {a b:ST} (ha:a.fine) (hb:b.fine):Af (Ad tab) 29 [a.av,b.av] (· =.bool (decide (a.eqv b))):=by
 have h3:=Z8 (nl:=a.ln) (nm:=b.ln) ha.1 hb.1
 have h4:=Z8 (nl:=a.tn) (nm:=b.tn) ha.2.1 hb.2.1
 have h5:=Ac1 (nl:=a.on) (nm:=b.on) ha.2.2.1 hb.2.2.1 ha.2.2.2.2.1 hb.2.2.2.2.1
 have h6:=Ac1 (nl:=a.nn) (nm:=b.nn) ha.2.2.2.1 hb.2.2.2.1 ha.2.2.2.2.2 hb.2.2.2.2.2
 by_cases e3:a.labels=b.labels
 case neg=>
  rw[decide_eq_false e3]at h3
  refine Ac rfl rfl ?_
  (conv=>whnf);repeat' (first|((first|refine Aa h3 ?_|refine Aa h4 ?_|refine Aa h5 ?_|refine Aa h6 ?_);rintro _ rfl;conv=>whnf)|(refine kA ?_;conv=>whnf)|(refine Br.mk (fun hc=>?_) fun hc=>?_<;>first|exact hc.elim|conv=>whnf)|(refine kB ?_))
  all_goals first|exact Am (fun h=>e3 h.2.2.1)|(exfalso;omega)
 rw[decide_eq_true e3]at h3
 by_cases e4:a.types=b.types
 case neg=>
  rw[decide_eq_false e4]at h4
  refine Ac rfl rfl ?_
  (conv=>whnf);repeat' (first|((first|refine Aa h3 ?_|refine Aa h4 ?_|refine Aa h5 ?_|refine Aa h6 ?_);rintro _ rfl;conv=>whnf)|(refine kA ?_;conv=>whnf)|(refine Br.mk (fun hc=>?_) fun hc=>?_<;>first|exact hc.elim|conv=>whnf)|(refine kB ?_))
  all_goals first|exact Am (fun h=>e4 h.2.2.2.1)|(exfalso;omega)
 rw[decide_eq_true e4]at h4
 by_cases e5:a.outs.map Prod.snd=b.outs.map Prod.snd
 case neg=>
  rw[decide_eq_false e5]at h5
  refine Ac rfl rfl ?_
  (conv=>whnf);repeat' (first|((first|refine Aa h3 ?_|refine Aa h4 ?_|refine Aa h5 ?_|refine Aa h6 ?_);rintro _ rfl;conv=>whnf)|(refine kA ?_;conv=>whnf)|(refine Br.mk (fun hc=>?_) fun hc=>?_<;>first|exact hc.elim|conv=>whnf)|(refine kB ?_))
  all_goals first|exact Am (fun h=>e5 h.2.2.2.2.1)|(exfalso;omega)
 rw[decide_eq_true e5]at h5
 by_cases e6:a.ins.map Prod.snd=b.ins.map Prod.snd
 case neg=>
  rw[decide_eq_false e6]at h6
  refine Ac rfl rfl ?_
  (conv=>whnf);repeat' (first|((first|refine Aa h3 ?_|refine Aa h4 ?_|refine Aa h5 ?_|refine Aa h6 ?_);rintro _ rfl;conv=>whnf)|(refine kA ?_;conv=>whnf)|(refine Br.mk (fun hc=>?_) fun hc=>?_<;>first|exact hc.elim|conv=>whnf)|(refine kB ?_))
  all_goals first|exact Am (fun h=>e6 h.2.2.2.2.2)|(exfalso;omega)
 rw[decide_eq_true e6]at h6
 refine Ac rfl rfl ?_
 (conv=>whnf);repeat' (first|((first|refine Aa h3 ?_|refine Aa h4 ?_|refine Aa h5 ?_|refine Aa h6 ?_);rintro _ rfl;conv=>whnf)|(refine kA ?_;conv=>whnf)|(refine Br.mk (fun hc=>?_) fun hc=>?_<;>first|exact hc.elim|conv=>whnf)|(refine kB ?_))
 all_goals first|exact Bc ⟨by assumption,by assumption,e3,e4,e5,e6⟩|exact Am (fun h=>absurd h.1 (by assumption))|exact Am (fun h=>absurd h.2.1 (by assumption))|(exfalso;omega)
set_option maxHeartbeats 1000000 in
theorem Asu {g:GG} (hg:g.ok) (hN:g.nodes.length≤2000) {R:List (List UInt8)} (hR:R.length≤100000000) {nn:Bool} {N E:Int} {o1:Obj} {c:Nat} {Q:AA→Env→Ap→Prop}
 (hQ0:R=[]→∀c' tl,Q (.exit 0) ([(1,.ref 0 0 0 0),(2,.ref 1 1 0 0),(5,.ref 2 2 0 0)]++tl) ⟨[.arr 0 4 true true [g.av],o1,.arr 2 6 true true [.agg [.int .i64 N,.int .i64 E,.sl false [],.sl false [],.sl false [],.sl false []]]],c'⟩)
 (hQ1:R≠[]→∀c' g3 tl,Q (.exit 0) ([(1,.ref 0 0 0 0),(2,.ref 1 1 0 0),(5,.ref 2 2 0 0)]++tl) ⟨[.arr 0 4 true true [g.av],o1,.arr 2 6 true false [.agg [.int .i64 N,.int .i64 E,.own 3 g3 0 R.length,.sl false [],.sl false [],.sl false []]],.arr g3 2 true true (vs CN.av (cnts (DX g.nodes) R))],c'⟩):
 Run (Ad tab) (.loop l32_1_h l32_1_b) [(1,.ref 0 0 0 0),(2,.ref 1 1 0 0),(5,.ref 2 2 0 0),(30,.sl nn (vs .str R)),(31,.int .i64 R.length),(32,.int .i64 0)] ⟨[.arr 0 4 true true [g.av],o1,.arr 2 6 true true [.agg [.int .i64 N,.int .i64 E,.sl false [],.sl false [],.sl false [],.sl false []]]],c⟩ Q:=by
 refine Ae (fun m env s=>∃(i c:Nat),m=R.length-i∧i≤R.length∧env=[(1,.ref 0 0 0 0),(2,.ref 1 1 0 0),(5,.ref 2 2 0 0),(30,.sl nn (vs .str R)),(31,.int .i64 R.length),(32,.int .i64 i)]∧
  (i=0∧s=⟨[.arr 0 4 true true [g.av],o1,.arr 2 6 true true [.agg [.int .i64 N,.int .i64 E,.sl false [],.sl false [],.sl false [],.sl false []]]],c⟩∨
   0<i∧∃g3 n L,n=i∧L=cnts (DX g.nodes) (R.take i)∧n=L.length∧s=⟨[.arr 0 4 true true [g.av],o1,.arr 2 6 true false [.agg [.int .i64 N,.int .i64 E,.own 3 g3 0 n,.sl false [],.sl false [],.sl false []]],.arr g3 2 true true (vs CN.av L)],c⟩)) ?_ _ _ _ ⟨0,c,rfl,by omega,rfl,.inl ⟨rfl,rfl⟩⟩
 rintro _ _ _ ⟨i,c,rfl,hi,rfl,h⟩
 have hgl:g.nodes.length<2^62:=by omega
 rcases h with⟨rfl,rfl⟩|⟨hpos,g3,n,L,hni,U4,hn,rfl⟩
 ·refine⟨rfl,?_⟩
  by_cases hlt:0<R.length
  ·have hs:=@Eh (DX g.nodes) R 0 hlt
   (conv=>whnf);repeat' (first  |(refine kA ?_;conv=>whnf)|(refine Br.mk (fun hc=>?_) fun hc=>?_<;>first|exact hc.elim|conv=>whnf)|(refine kB ?_))
   refine Asv hg hN ?_
   intro c' tl
   (conv=>whnf);repeat' (first|(refine Dc (l:=[]) (x:=(⟨R[0],DX g.nodes R[0]⟩:CN)) Jj rfl (by simp) ?_;conv=>whnf)|(refine kA ?_;conv=>whnf)|(refine Br.mk (fun hc=>?_) fun hc=>?_<;>first|exact hc.elim|conv=>whnf)|(refine kB ?_))
   exact again.mk ⟨_,by omega,1,_,rfl,by omega,rfl,.inr ⟨by omega,_,_,_,rfl,hs.symm,rfl,rfl⟩⟩
  ·(conv=>whnf);repeat' (first  |(refine kA ?_;conv=>whnf)|(refine Br.mk (fun hc=>?_) fun hc=>?_<;>first|exact hc.elim|conv=>whnf)|(refine kB ?_))
   exact hQ0 (List.eq_nil_of_length_eq_zero (by omega)) _ _
 ·refine⟨rfl,?_⟩
  by_cases hlt:i<R.length
  ·have hs:=@Eh (DX g.nodes) R i hlt
   (conv=>whnf);repeat' (first  |(refine kA ?_;conv=>whnf)|(refine Br.mk (fun hc=>?_) fun hc=>?_<;>first|exact hc.elim|conv=>whnf)|(refine kB ?_))
   refine Asw hg hN ?_
   intro c' tl
   (conv=>whnf);repeat' (first|(refine Dc (x:=(⟨R[i],DX g.nodes R[i]⟩:CN)) Jj hn (by omega) ?_;conv=>whnf)|(refine kA ?_;conv=>whnf)|(refine Br.mk (fun hc=>?_) fun hc=>?_<;>first|exact hc.elim|conv=>whnf)|(refine kB ?_))
   rw[← U4]at hs
   exact again.mk ⟨_,by omega,i+1,_,rfl,by omega,rfl,.inr ⟨by omega,_,_,_,by omega,hs.symm,by simp,rfl⟩⟩
  ·rw[List.take_of_length_le (by omega)]at U4
   (conv=>whnf);repeat' (first  |(refine kA ?_;conv=>whnf)|(refine Br.mk (fun hc=>?_) fun hc=>?_<;>first|exact hc.elim|conv=>whnf)|(refine kB ?_))
   subst U4
   obtain rfl:n=R.length:=by omega
   exact hQ1 (fun h=>by rw[h]at hni;simp at hni;omega) _ _ _
section
open Go.Sort
def Df (x y:List UInt8):Bool:=Op.bytesLess x y
theorem AcO:∀(x y:List UInt8),Op.bytesLess x y=decide (x<y)
 |[],[]=>by simp[Op.bytesLess]
 |_::_,[]=>by simp[Op.bytesLess]
 |[],_::_=>by simp[Op.bytesLess]
 |a::x,b::y=>by
  rw[Op.bytesLess,AcO x y]
  simp only[List.cons_lt_cons_iff]
  by_cases h1:a<b<;>by_cases h2:a=b<;>by_cases h3:x<y<;>simp[h1,h2,h3]
theorem Afv:Df=ltStr:=by
 funext x y
 exact AcO x y
theorem IY:SWO Df:=by rw[Afv];exact swo_ltStr
theorem cellsS (x:List UInt8):(AV.str x).cells.length=1:=rfl
theorem Arv {x:List UInt8}:Af (Ad tab) 234 [.str x] (· =.bool (decide False)):=by
 refine Ac rfl rfl ?_
 (conv=>whnf);repeat' (first|(refine kA ?_;conv=>whnf)|(refine Br.mk (fun hc=>?_) fun hc=>?_<;>first|exact hc.elim|conv=>whnf)  |(refine kB ?_))
 all_goals first|exact absurd rfl hc|rfl
theorem Iw {x y:List UInt8}:Af (Ad tab) 247 [.str x,.str y] (· =.bool (Df x y)):=by
 refine Ac rfl rfl ?_
 (conv=>whnf);repeat' (first|(refine kA ?_;conv=>whnf)|(refine Br.mk (fun hc=>?_) fun hc=>?_<;>first|exact hc.elim|conv=>whnf)|(refine Bo Arv (fun hc=>absurd hc id) (fun _=>?_);conv=>whnf)|(refine kB ?_))
 all_goals (unfold Df;rw[hc];rfl)
end
section
open Go.Sort
set_option maxHeartbeats 1000000 in
theorem Ao1 {AX:Obj} {g c len:Nat} {nn cl:Bool} {d:Array (List UInt8)} {a b:Nat} (hl:d.size=len) (hb:b≤len) (hs:len<2^61) (ha:a≤len):
 Au (Ad tab) 276 [.own 1 g 0 len,.int .i64 a,.int .i64 b] ⟨[AX,.arr g 1 nn cl (vs .str d.toList)],c⟩ fun out s'=>∃c',out=.ok (.BH [])∧s'=⟨[AX,.arr g 1 nn cl (vs .str (insertionSort Df d a b).toList)],c'⟩:=by
 refine Ah rfl rfl ?_
 (conv=>whnf);repeat' (first  |(refine kA ?_;conv=>whnf)|(refine Br.mk (fun hc=>?_) fun hc=>?_<;>first|exact hc.elim|conv=>whnf)|(refine kB ?_))
 refine Ae (fun m env s=>∃(i c:Nat) (D:Array (List UInt8)),m=b-i∧insOuter Df a b i D=insertionSort Df d a b∧D.size=len∧env=[(0,.own 1 g 0 len),(1,.int .i64 a),(2,.int .i64 b),(6,.int .i64 i)]∧s=⟨[AX,.arr g 1 nn cl (vs .str D.toList)],c⟩) ?_ _ _ _ ⟨a+1,c,d,rfl,rfl,hl,rfl,rfl⟩
 rintro _ _ _ ⟨i,c,D,rfl,hD,hDl,rfl,rfl⟩
 refine⟨rfl,?_⟩
 (conv=>whnf);repeat' (first  |(refine kA ?_;conv=>whnf)|(refine Br.mk (fun hc=>?_) fun hc=>?_<;>first|exact hc.elim|conv=>whnf)|(refine kB ?_))
 ·rw[Ac4 (by omega)]at hD
  refine Ae (fun m env s=>∃(j c:Nat) (z:Int) (E:Array (List UInt8)),m=j∧z=j∧j≤i∧insInner Df a j E=insInner Df a i D∧E.size=len∧env=[(0,.own 1 g 0 len),(1,.int .i64 a),(2,.int .i64 b),(6,.int .i64 i),(7,.int .i64 z)]∧s=⟨[AX,.arr g 1 nn cl (vs .str E.toList)],c⟩) ?_ _ _ _ ⟨i,_,_,D,rfl,rfl,by omega,rfl,hDl,rfl,rfl⟩
  rintro j _ _ ⟨_,c,z,E,rfl,hz,hj,hE,hEl,rfl,rfl⟩
  refine⟨rfl,?_⟩
  cases j with
  |zero=>
   (conv=>whnf);repeat' (first  |(refine kA ?_;conv=>whnf)|(refine Br.mk (fun hc=>?_) fun hc=>?_<;>first|exact hc.elim|conv=>whnf)|(refine kB ?_))
   rw[← hE]at hD
   exact again.mk ⟨_,by omega,i+1,_,E,rfl,hD,hEl,rfl,rfl⟩
  |succ j=>
   (conv=>whnf);repeat' (first|((with_reducible show Bq _ _ _);refine DT (j+1) ?_;conv=>whnf)|((with_reducible show Bq _ _ _);refine DT (j) ?_;conv=>whnf)|(refine IE Iw (fun hc=>?_) (fun hc=>?_)<;>conv=>whnf)|((with_reducible show eqK _ _);refine Hl cellsS (j+1) ?_;conv=>whnf)|((with_reducible show eqK _ _);refine Hl cellsS (j) ?_;conv=>whnf)|(refine kA ?_;conv=>whnf)|(refine Br.mk (fun hc=>?_) fun hc=>?_<;>first|exact hc.elim|conv=>whnf)|(refine kB ?_))
   ·rw[Z9 (by omega) hc]at hE
    exact again.mk ⟨_,by omega,j,_,_,swp E (j+1) j,rfl,by omega,by omega,hE,by simpa using hEl,rfl,rfl⟩
   ·rw[Qs (fun _=>hc)]at hE
    rw[← hE]at hD
    exact again.mk ⟨_,by omega,i+1,_,E,rfl,hD,hEl,rfl,rfl⟩
   ·rw[Qs (fun h=>absurd h (by omega))]at hE
    rw[← hE]at hD
    exact again.mk ⟨_,by omega,i+1,_,E,rfl,hD,hEl,rfl,rfl⟩
 ·rw[Ac5 (by omega)]at hD
  exact⟨_,rfl,by rw[hD]⟩
set_option maxHeartbeats 1000000 in
theorem Agn {AX:Obj} {g c len:Nat} {nn cl:Bool} {d:Array (List UInt8)} {lo hi first:Nat} (hl:d.size=len) (hb:first+hi≤len) (hs:len<2^61) (hlo:lo≤len):
 Au (Ad tab) 325 [.own 1 g 0 len,.int .i64 lo,.int .i64 hi,.int .i64 first] ⟨[AX,.arr g 1 nn cl (vs .str d.toList)],c⟩ fun out s'=>∃c',out=.ok (.BH [])∧s'=⟨[AX,.arr g 1 nn cl (vs .str (siftDown Df hi first lo d).toList)],c'⟩:=by
 refine Ah rfl rfl ?_
 (conv=>whnf);repeat' (first  |(refine kA ?_;conv=>whnf)|(refine Br.mk (fun hc=>?_) fun hc=>?_<;>first|exact hc.elim|conv=>whnf)|(refine kB ?_))
 refine Ae (fun m env s=>∃(root c:Nat) (z:Int) (D:Array (List UInt8)),m=hi-root∧z=root∧root≤len∧siftDown Df hi first root D=siftDown Df hi first lo d∧D.size=len∧env=[(0,.own 1 g 0 len),(2,.int .i64 hi),(3,.int .i64 first),(8,.int .i64 z)]∧s=⟨[AX,.arr g 1 nn cl (vs .str D.toList)],c⟩) ?_ _ _ _ ⟨lo,c,_,d,rfl,rfl,hlo,rfl,hl,rfl,rfl⟩
 rintro _ _ _ ⟨root,c,z,D,rfl,hz,hr,hD,hDl,rfl,rfl⟩
 refine⟨rfl,?_⟩
 (conv=>whnf);repeat' (first|((with_reducible show Bq _ _ _);refine DT (first+root) ?_;conv=>whnf)|((with_reducible show Bq _ _ _);refine DT (first+(2*root+1)) ?_;conv=>whnf)|((with_reducible show Bq _ _ _);refine DT (first+(2*root+1)+1) ?_;conv=>whnf)|(refine IE Iw (fun hc=>?_) (fun hc=>?_)<;>conv=>whnf)|((with_reducible show eqK _ _);refine Hl cellsS (first+root) ?_;conv=>whnf)|((with_reducible show eqK _ _);refine Hl cellsS (first+(2*root+1)) ?_;conv=>whnf)|((with_reducible show eqK _ _);refine Hl cellsS (first+(2*root+1)+1) ?_;conv=>whnf)|(refine kA ?_;conv=>whnf)|(refine Br.mk (fun hc=>?_) fun hc=>?_<;>first|exact hc.elim|conv=>whnf)|(refine kB ?_))
 ·rw[Ve (by omega)]at hD
  exact⟨_,rfl,by rw[hD]⟩
 all_goals first
  |(rw [Ago (by omega) (by assumption) hc]at hD
    exact again.mk ⟨_,by omega,2*root+2,_,_,swp D (first+root) (first+(2*root+2)),rfl,by omega,by omega,hD,by simpa using hDl,rfl,rfl⟩)
  |(rw [Ac6 (by omega) (by assumption) hc]at hD
    exact⟨_,rfl,by rw[hD]⟩)
  |(rw [YN (by omega) (fun _=>by assumption) hc]at hD
    exact again.mk ⟨_,by omega,2*root+1,_,_,swp D (first+root) (first+(2*root+1)),rfl,by omega,by omega,hD,by simpa using hDl,rfl,rfl⟩)
  |(rw [Uu (by omega) (fun _=>by assumption) hc]at hD
    exact⟨_,rfl,by rw[hD]⟩)
  |(rw [YN (by omega) (fun h=>absurd h (by omega)) hc]at hD
    exact again.mk ⟨_,by omega,2*root+1,_,_,swp D (first+root) (first+(2*root+1)),rfl,by omega,by omega,hD,by simpa using hDl,rfl,rfl⟩)
  |(rw [Uu (by omega) (fun h=>absurd h (by omega)) hc]at hD
    exact⟨_,rfl,by rw[hD]⟩)
set_option maxHeartbeats 1000000 in
theorem Aje {AX:Obj} {g c len:Nat} {nn cl:Bool} {d:Array (List UInt8)} {a n:Nat} {z:Int} {Q:AA→Env→Ap→Prop} (hl:d.size=len) (hb:a+n≤len) (hs:len<2^61) (hz:z=(n:Int)-1)
 (hQ:∀c' e,Q (.exit 2) e ⟨[AX,.arr g 1 nn cl (vs .str (heapPop Df a n d).toList)],c'⟩):
 Run (Ad tab) (.loop l277_1_h l277_1_b) [(0,.own 1 g 0 len),(6,.int .i64 a),(7,.int .i64 0),(10,.int .i64 z)] ⟨[AX,.arr g 1 nn cl (vs .str d.toList)],c⟩ Q:=by
 refine Ae (fun m env s=>∃(k c:Nat) (z:Int) (E:Array (List UInt8)),m=k∧z=(k:Int)-1∧a+k≤len∧heapPop Df a k E=heapPop Df a n d∧E.size=len∧env=[(0,.own 1 g 0 len),(6,.int .i64 a),(7,.int .i64 0),(10,.int .i64 z)]∧s=⟨[AX,.arr g 1 nn cl (vs .str E.toList)],c⟩) ?_ _ _ _ ⟨n,c,_,d,rfl,hz,by omega,rfl,hl,rfl,rfl⟩
 clear hz
 rintro k _ _ ⟨_,c,z,E,rfl,hz,hk,hE,hEl,rfl,rfl⟩
 refine⟨rfl,?_⟩
 cases k with
 |succ k=>
  obtain rfl:z=(k:Nat):=by omega
  (conv=>whnf);repeat' (first|((with_reducible show Bq _ _ _);refine DT (a) ?_;conv=>whnf)|((with_reducible show Bq _ _ _);refine DT (a+k) ?_;conv=>whnf)|((with_reducible show eqK _ _);refine Hl cellsS (a) ?_;conv=>whnf)|((with_reducible show eqK _ _);refine Hl cellsS (a+k) ?_;conv=>whnf)|(refine kA ?_;conv=>whnf)|(refine Br.mk (fun hc=>?_) fun hc=>?_<;>first|exact hc.elim|conv=>whnf)|(refine kB ?_))
  refine(Agn (d:=swp E a (a+k)) (lo:=0) (by simpa using hEl) (by omega) hs (by omega)).mono ?_
  rintro _ _ ⟨c',rfl,rfl⟩
  (conv=>whnf);repeat' (first  |(refine kA ?_;conv=>whnf)|(refine Br.mk (fun hc=>?_) fun hc=>?_<;>first|exact hc.elim|conv=>whnf)|(refine kB ?_))
  rw[heapPop]at hE
  exact again.mk ⟨_,by omega,k,_,(k:Int)-1,_,rfl,by omega,by omega,hE,by simpa using hEl,rfl,rfl⟩
 |zero=>
  rw[← hE]at hQ
  (conv=>whnf);repeat' (first  |(refine kA ?_;conv=>whnf)|(refine Br.mk (fun hc=>?_) fun hc=>?_<;>first|exact hc.elim|conv=>whnf)|(refine kB ?_))
  exact hQ _ _
theorem Al5 {AX:Obj} {g c len:Nat} {nn cl:Bool} {d:Array (List UInt8)} {a b:Nat} (hl:d.size=len) (hb:b≤len) (hs:len<2^61) (hab:a<b):
 Au (Ad tab) 277 [.own 1 g 0 len,.int .i64 a,.int .i64 b] ⟨[AX,.arr g 1 nn cl (vs .str d.toList)],c⟩ fun out s'=>∃c',out=.ok (.BH [])∧s'=⟨[AX,.arr g 1 nn cl (vs .str (heapSort Df d a b).toList)],c'⟩:=by
 refine Ah rfl rfl ?_
 (conv=>whnf);repeat' (first|(refine Nz (b-a-1) 2 (by omega) (by omega) ?_;conv=>whnf)|(refine kA ?_;conv=>whnf)|(refine Br.mk (fun hc=>?_) fun hc=>?_<;>first|exact hc.elim|conv=>whnf)|(refine kB ?_))
 refine Ae (fun m env s=>∃(k c:Nat) (z:Int) (D:Array (List UInt8)),m=k∧z=k-1∧k≤len∧heapBuild Df (b-a) a k D=heapBuild Df (b-a) a ((b-a-1) / 2+1) d∧D.size=len∧env=[(0,.own 1 g 0 len),(6,.int .i64 a),(7,.int .i64 0),(8,.int .i64 (b-a)),(9,.int .i64 z)]∧s=⟨[AX,.arr g 1 nn cl (vs .str D.toList)],c⟩) ?_ _ _ _ ⟨(b-a-1) / 2+1,c,_,d,rfl,by omega,by omega,rfl,hl,rfl,rfl⟩
 rintro k _ _ ⟨_,c,z,D,rfl,hz,hk,hD,hDl,rfl,rfl⟩
 refine⟨rfl,?_⟩
 cases k with
 |succ k=>
  obtain rfl:z=(k:Nat):=by omega
  (conv=>whnf);repeat' (first  |(refine kA ?_;conv=>whnf)|(refine Br.mk (fun hc=>?_) fun hc=>?_<;>first|exact hc.elim|conv=>whnf)|(refine kB ?_))
  rw[show ((b:Int)-a)=((b-a:Nat):Int) by omega]
  refine(Agn hDl (by omega) hs (by omega)).mono ?_
  rintro _ _ ⟨c',rfl,rfl⟩
  (conv=>whnf);repeat' (first  |(refine kA ?_;conv=>whnf)|(refine Br.mk (fun hc=>?_) fun hc=>?_<;>first|exact hc.elim|conv=>whnf)|(refine kB ?_))
  rw[heapBuild]at hD
  exact again.mk ⟨_,by omega,k,_,(k:Int)-1,_,rfl,by omega,by omega,hD,by simpa using hDl,rfl,rfl⟩
 |zero=>
  have hD:D=_:=hD
  (conv=>whnf);repeat' (first  |(refine kA ?_;conv=>whnf)|(refine Br.mk (fun hc=>?_) fun hc=>?_<;>first|exact hc.elim|conv=>whnf)|(refine kB ?_))
  refine Aje hDl (n:=b-a) (by omega) hs (by omega) (fun c' e=>?_)
  (conv=>whnf);repeat' (first  |(refine kA ?_;conv=>whnf)|(refine Br.mk (fun hc=>?_) fun hc=>?_<;>first|exact hc.elim|conv=>whnf)|(refine kB ?_))
  exact⟨_,rfl,by rw[hD];rfl⟩
end
end AI
end Go.Proofs.YtceiccjppfapjaaGreatDoor
