/- Data of a type, taken apart. -/
import Derived.Test.YtgmgkkbpgndaaaaGreatDoorClo
import Derived.Test.YtgmgkkbpgndaaaaGreatDoorVa
set_option linter.unusedVariables false
set_option maxRecDepth 4000
namespace Go.Proofs.YtgmgkkbpgndaaaaGreatDoor
namespace AI
open Go.RowKit
variable {P:Program}
theorem likeC_int {d:Nat} {t:TypeId} {k:IntKind} {cs:List AV} (hu:P.underlying t=some (.int k)) (h:likeC P d t cs):∃n,cs=[.int k n]∧(Lit.int k n).wf=true:=by
 cases d with
 |zero=>cases h
 |succ d=>simp only[likeC,hu]at h;exact h
theorem likeC_bool {d:Nat} {t:TypeId} {cs:List AV} (hu:P.underlying t=some .bool) (h:likeC P d t cs):∃b,cs=[.bool b]:=by
 cases d with
 |zero=>cases h
 |succ d=>simp only[likeC,hu]at h;exact h
theorem likeC_string {d:Nat} {t:TypeId} {cs:List AV} (hu:P.underlying t=some .string) (h:likeC P d t cs):∃l,cs=[.str l]∧l.length≤maxLen:=by
 cases d with
 |zero=>cases h
 |succ d=>simp only[likeC,hu]at h;exact h
theorem likeC_slice {d:Nat} {t e:TypeId} {cs:List AV} (hu:P.underlying t=some (.slice e)) (h:likeC P d t cs):∃d',d=d'+1∧∃nn xs,cs=[.sl nn xs]∧(nn=false→xs=[])∧xs.length≤maxLen∧∀x∈xs,like P d' e x:=by
 cases d with
 |zero=>cases h
 |succ d=>
  refine⟨d,rfl,?_⟩
  simp only[likeC,hu]at h
  rcases h with rfl|⟨xs,rfl,h1,h2,_⟩
  ·exact⟨false,[],rfl,fun _=>rfl,Nat.zero_le _,fun x hx=>by simp at hx⟩
  ·exact⟨true,xs,rfl,(fun h=>(by cases h)),h1,h2⟩
theorem likeC_sliceW {d:Nat} {t e:TypeId} {nn:Bool} {xs:List AV} (hu:P.underlying t=some (.slice e)) (h:likeC P d t [.sl nn xs]):xs.length*P.bytesOf e≤reachBytes:=by
 cases d with
 |zero=>cases h
 |succ d=>
  simp only[likeC,hu]at h
  rcases h with h|⟨ys,h,_,_,h3⟩
  ·cases h;simp
  ·cases h;exact h3
theorem likeC_struct {d:Nat} {t:TypeId} {fs:Array Field} {cs:List AV} (hu:P.underlying t=some (.struct fs)) (h:likeC P d t cs):∃d',d=d'+1∧cs.length=P.cellsOf t∧∀f∈fs.toList,likeC P d' f.type ((cs.drop f.offset).take (P.cellsOf f.type)):=by
 cases d with
 |zero=>cases h
 |succ d=>simp only[likeC,hu]at h;exact⟨d,rfl,h⟩
theorem like_struct {d:Nat} {t:TypeId} {fs:Array Field} {a:AV} (hu:P.underlying t=some (.struct fs)) (h:like P d t a):∃cs,a=.agg cs∧likeC P d t cs:=by
 obtain⟨cs,h1,rfl⟩:=h
 exact⟨cs,by simp only[pack,hu],h1⟩
theorem like_int {d:Nat} {t:TypeId} {k:IntKind} {a:AV} (hu:P.underlying t=some (.int k)) (h:like P d t a):∃n,a=.int k n∧(Lit.int k n).wf=true:=by
 obtain⟨cs,h1,rfl⟩:=h
 obtain⟨n,rfl,h2⟩:=likeC_int hu h1
 exact⟨n,by simp[pack,hu],h2⟩
theorem like_bool {d:Nat} {t:TypeId} {a:AV} (hu:P.underlying t=some .bool) (h:like P d t a):∃b,a=.bool b:=by
 obtain⟨cs,h1,rfl⟩:=h
 obtain⟨n,rfl⟩:=likeC_bool hu h1
 exact⟨n,by simp[pack,hu]⟩
theorem like_string {d:Nat} {t:TypeId} {a:AV} (hu:P.underlying t=some .string) (h:like P d t a):∃l,a=.str l∧l.length≤maxLen:=by
 obtain⟨cs,h1,rfl⟩:=h
 obtain⟨n,rfl,h2⟩:=likeC_string hu h1
 exact⟨n,by simp[pack,hu],h2⟩
theorem like_slice {d:Nat} {t e:TypeId} {a:AV} (hu:P.underlying t=some (.slice e)) (h:like P d t a):∃d',d=d'+1∧∃nn xs,a=.sl nn xs∧(nn=false→xs=[])∧xs.length≤maxLen∧∀x∈xs,like P d' e x:=by
 obtain⟨cs,h1,rfl⟩:=h
 obtain⟨d',rfl,nn,xs,rfl,h2⟩:=likeC_slice hu h1
 exact⟨d',rfl,nn,xs,by simp[pack,hu],h2⟩
theorem exists_map {α:Type} {f:α→AV} {Q:α→Prop}:∀{xs:List AV},(∀ x∈xs,∃y,x=f y∧Q y)→∃ys:List α,xs=ys.map f∧∀y∈ys,Q y
 |[],_=>⟨[],rfl,fun y h=>by simp at h⟩
 |x::xs,h=>by
  obtain⟨y,rfl,hy⟩:=h _ (List.mem_cons_self ..)
  obtain⟨ys,rfl,hys⟩:=exists_map fun x hx=>h x (List.mem_cons_of_mem _ hx)
  exact⟨y::ys,rfl,fun z hz=>(List.mem_cons.1 hz).elim (fun e=>e▸hy) (hys z)⟩
theorem like_map {α:Type} {f:α→AV} {Q:α→Prop} {d:Nat} {t e:TypeId} {a:AV} (hu:P.underlying t=some (.slice e)) (he:∀d x,like P d e x→∃y,x=f y∧Q y) (h:like P d t a):
 ∃nn l,a=.sl nn (l.map f)∧(nn=false→l=[])∧l.length≤maxLen∧∀y∈l,Q y:=by
 obtain⟨d',rfl,nn,xs,rfl,h0,h1,h2⟩:=like_slice hu h
 obtain⟨l,rfl,h3⟩:=exists_map (f:=f) (Q:=Q) fun x hx=>he d' x (h2 x hx)
 exact⟨nn,l,rfl,fun h=>by have:=h0 h;simpa using this,by simpa using h1,h3⟩
theorem likeC_like {d:Nat} {t:TypeId} {cs:List AV} {k:TypeDesc} (hu:P.underlying t=some k) (hk:(∀ fs,k≠.struct fs)∧∀n e,k≠.array n e) (h:likeC P d t cs) (hl:cs.length=1):∃a,cs=[a]∧like P d t a:=by
 obtain⟨c,rfl⟩:=List.length_eq_one_iff.1 hl
 refine⟨c,rfl,[c],h,?_⟩
 unfold pack
 rw[hu]
 cases k<;>first|rfl|exact absurd rfl (hk.1 _)|exact absurd rfl (hk.2 _ _)
theorem likeC_array {d n:Nat} {t e:TypeId} {cs:List AV} (hu:P.underlying t=some (.array n e)) (h:likeC P d t cs):∃d',d=d'+1∧cs.length=P.cellsOf t∧∀i,i<n→likeC P d' e ((cs.drop (i*P.cellsOf e)).take (P.cellsOf e)):=by
 cases d with
 |zero=>cases h
 |succ d=>simp only[likeC,hu]at h;exact⟨d,rfl,h⟩
theorem maxLen_lt:maxLen<2 ^ 63:=by decide
end AI
end Go.Proofs.YtgmgkkbpgndaaaaGreatDoor
