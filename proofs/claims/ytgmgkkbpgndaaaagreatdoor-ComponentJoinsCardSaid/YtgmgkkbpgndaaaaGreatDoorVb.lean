/- Lists of things of any type, each read as a value. -/
import Derived.Test.YtgmgkkbpgndaaaaGreatDoorVa
set_option linter.unusedVariables false
set_option maxRecDepth 4000
namespace Go.Proofs.YtgmgkkbpgndaaaaGreatDoor
namespace AI
variable {α:Type} {f:α→AV}
def vs (f:α→AV) (l:List α):List AV:=l.map f
@[simp] theorem lV (l:List α):(vs f l).length=l.length:=by simp[vs]
theorem nV {l:List α} {i:Nat} (h:i<l.length):nth (vs f l) i=some (f l[i]):=by simp[vs,nth_eq,h]
theorem nVN {l:List α} {i:Nat} (h:i<l.length):nth (vs f l) (Int.toNat (Nat.cast i))=some (f l[i]):=nV h
theorem nVz {l:List α} {z:Int} (i:Nat) (hz:z=i) (h:i<l.length):nth (vs f l) (Int.toNat z)=some (f l[i]):=by subst hz;exact nV h
theorem uV {l:List α}:sub (vs f l) 0 l.length=vs f l:=by unfold sub;exact List.take_of_length_le (by simp)
theorem uVS {l:List α} {x:α}:sub (vs f (l++[x])) 0 (l.length+1)=vs f (l++[x]):=by unfold sub;exact List.take_of_length_le (by simp)
theorem vs_inj (hf:∀a b,f a=f b→a=b) {a b:List α} (h:vs f a=vs f b):a=b:=by
 unfold vs at h
 exact(List.map_inj_right hf).1 h
theorem snoc_vs {l:List α} {x:α}:(vs f l).take l.length++[f x]=vs f (l++[x]):=by simp[vs,List.take_of_length_le]
theorem nY0 {l:List UInt8} (h:0<l.length):nth l (Int.toNat 0)=some l[0]:=nY h
theorem wrapQ {n:Nat} {K:AV→Prop} (h:n<2^63) (hk:K (.int .i64 ((n / 50:Nat):Int))):wrapK .i64 ((n:Int).tdiv 50) K:=by
 have e:(n:Int).tdiv 50=((n / 50:Nat):Int):=by
  rw[Int.tdiv_eq_ediv_of_nonneg (by omega)];rfl
 rw[e]
 exact wrapK_intro (wrap_i64 (by omega) (by omega)) hk
theorem nR {l:List AV} {i:Nat} (h:i<l.length):nth l i=some l[i]:=by simp[nth_eq,h]
theorem nRN {l:List AV} {i:Nat} (h:i<l.length):nth l (Int.toNat (Nat.cast i))=some l[i]:=nR h
theorem nms {α:Type} {l:List α} {x:α} {i:Nat} (h:i<l.length) (hx:x∉l.take i) (hc:¬l[i]=x):x∉l.take (i+1):=by
 rw[List.take_succ_eq_append_getElem h,List.mem_append,List.mem_singleton]
 rintro(h1|h1)
 ·exact hx h1
 ·exact hc h1.symm
theorem PureP.det {AP:Nat→Option AFn} {f:Nat} {args:List AV} {R:AV→Prop} (h:PureP AP f args R):∃v,R v∧PureP AP f args (· =v):=by
 obtain⟨v,h1,h2⟩:=h
 exact⟨v,h2,v,h1,rfl⟩
theorem ownK_nil {AP:Nat→Option AFn} {f:Nat} {args:List AV} {s:Sto} {K:AV→Sto→Prop} (hcl:closedL args=true) (h:Calls1 AP f args ⟨[],0⟩ fun out _=>out=.ok (.sl false []))
 (hk:K (.own s.σ.length s.ctr 0 0) (push s (.arr s.ctr 1 false true []))):∃N r s',callMode (run AP N) .own f args s=some (.ok r,s')∧K r s':=by
 obtain⟨N,out,s1,h1,rfl⟩:=h
 exact⟨N,_,_,by simp only[callMode,if_pos hcl,h1],hk⟩
theorem ownK {AP:Nat→Option AFn} {f es:Nat} {args elems:List AV} {s:Sto} {K:AV→Sto→Prop} (hcl:closedL args=true) (h:Calls1 AP f args ⟨[],0⟩ fun out s'=>∃o g,out=.ok (.own o g 0 elems.length)∧nth s'.σ o=some (.arr g es true true elems))
 (hk:K (.own s.σ.length s.ctr 0 elems.length) (push s (.arr s.ctr es true true elems))):∃N r s',callMode (run AP N) .own f args s=some (.ok r,s')∧K r s':=by
 obtain⟨N,out,s1,h1,o,g,rfl,h2⟩:=h
 exact⟨N,_,_,by simp[callMode,hcl,h1,h2],hk⟩
theorem wrapU {z:Int} {K:AV→Prop} (n:Nat) (hz:z=n) (h:n<2^63) (hk:K (.int .u64 n)):wrapK .u64 z K:=by
 subst hz
 refine wrapK_intro ?_ hk
 simp[IntKind.wrap,IntKind.bits,IntKind.signed]
 omega
theorem shrE (n:Nat):((n:Int)).fdiv (2 ^ (min (Int.toNat 1) IntKind.u64.bits))=((n / 2:Nat):Int):=by
 rw[show (2:Int) ^ (min (Int.toNat 1) IntKind.u64.bits)=2 by rfl,Int.fdiv_eq_ediv_of_nonneg _ (by omega)]
 rfl
end AI
end Go.Proofs.YtgmgkkbpgndaaaaGreatDoor
