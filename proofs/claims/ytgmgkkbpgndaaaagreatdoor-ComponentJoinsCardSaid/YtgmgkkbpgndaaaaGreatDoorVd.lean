/- More on lists of things: appending, parts. -/
import Derived.Test.YtgmgkkbpgndaaaaGreatDoorVe
set_option linter.unusedVariables false
set_option maxRecDepth 4000
namespace Go.Proofs.YtgmgkkbpgndaaaaGreatDoor
namespace AI
section
variable {α:Type} {f:α→AV}
theorem allSize_vs {es:Nat} (hf:∀x,(f x).cells.length=es) (l:List α):AllSize es (vs f l):=by
 intro y hy
 simp only[vs,List.mem_map]at hy
 obtain⟨z,_,rfl⟩:=hy
 exact hf z
theorem sub_vs (l:List α) (a n:Nat):sub (vs f l) a n=vs f ((l.drop a).take n):=by simp[sub,vs,List.map_drop,List.map_take]
theorem apV1 {es g len:Nat} {nn cl:Bool} {l:List α} {x:α} {bytes:Nat} {K:Nat→Bool→Bool→List AV→Prop} (hf:∀x,(f x).cells.length=es) (hl:len=l.length) (hr:(l.length+1)*bytes≤2 ^ 46) (h:K (l.length+1) true cl (vs f (l++[x]))):
 appendK g g es es len nn cl true (vs f l) [f x] bytes K:=by
 subst hl
 refine⟨⟨rfl,rfl,by simp,by intro y hy;simp at hy;subst hy;exact hf x,roomy_of hr⟩,?_⟩
 have e1:(nn||!([f x]:List AV).isEmpty)=true:=by simp
 have e2:(cl&&true)=cl:=by simp
 rw[e1,e2,snoc_vs]
 exact h
theorem apVm {es g len:Nat} {nn cl:Bool} {l l':List α} {ys:List AV} {bytes:Nat} {K:Nat→Bool→Bool→List AV→Prop} (he:ys=vs f l') (hf:∀x,(f x).cells.length=es) (hl:len=l.length) (hr:(l.length+l'.length)*bytes≤2 ^ 46) (h:∀b,K (l.length+l'.length) b cl (vs f (l++l'))):
 appendK g g es es len nn cl true (vs f l) ys bytes K:=by
 subst hl he
 refine⟨⟨rfl,rfl,by simp,allSize_vs hf l',by rw[lV];exact roomy_of hr⟩,?_⟩
 rw[lV,Bool.and_true,List.take_of_length_le (by simp)]
 have:=h (nn||!(vs f l').isEmpty)
 simpa[vs]using this
theorem apVt {es g len:Nat} {cl:Bool} {l l':List α} {ys:List AV} {bytes:Nat} {K:Nat→Bool→Bool→List AV→Prop} (he:ys=vs f l') (hf:∀x,(f x).cells.length=es) (hl:len=l.length) (hr:(l.length+l'.length)*bytes≤2 ^ 46) (h:K (l.length+l'.length) true cl (vs f (l++l'))):
 appendK g g es es len true cl true (vs f l) ys bytes K:=by
 subst hl he
 refine⟨⟨rfl,rfl,by simp,allSize_vs hf l',by rw[lV];exact roomy_of hr⟩,?_⟩
 rw[lV,Bool.and_true,List.take_of_length_le (by simp),Bool.true_or]
 simpa[vs]using h
theorem tV {es:Nat} (hf:∀x,(f x).cells.length=es) {l:List α} {z:Int} {x y:α} {K:List AV→Prop} (i:Nat) (k:K (vs f (l.set i x))) (hz:z=i:=by omega):eqK ((vs f l).set (Int.toNat z) (writeCells (f y) 0 (f x))) K:=by
 subst hz
 refine eqK_intro ?_ k
 have e:writeCells (f y) 0 (f x)=f x:=by unfold writeCells;rw[if_pos ⟨rfl,by rw[hf,hf]⟩]
 rw[e]
 show(vs f l).set i (f x)=_
 simp[vs,List.map_set]
end
end AI
end Go.Proofs.YtgmgkkbpgndaaaaGreatDoor
