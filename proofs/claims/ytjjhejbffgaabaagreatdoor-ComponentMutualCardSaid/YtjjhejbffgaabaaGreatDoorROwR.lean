/- A row that a call of the library hands back becomes an own slice of the store. -/
import Derived.Laws.AppendOwn
import Derived.Below
import Derived.Test.YtjjhejbffgaabaaGreatDoorRSe
set_option linter.unusedVariables false
set_option maxRecDepth 4000
namespace Go.Proofs.YtjjhejbffgaabaaGreatDoor
open Go.RowKit
namespace AI
theorem Inv.pushRow {w0 w w':World} {B:Nat} {s:Ag} {Z:BF} {φ:DT} {α:Type} {F:α→AV} {enc:α→Value} (hI:Inv w0 B s Z φ w) (hbel:Below w.heap.size w w') {v:Value} {t:TypeId} {xs:List α} (hx:xs≠[])
 (hrow:w'.ownsRow w.heap.size t 1 v xs.length (xs.map enc)) (hF:∀x∈xs,(F x).cells=[F x]∧Rep w Z φ s.ctr (F x) (enc x)∧(F x).one=true∧(F x).closed=true):
 ∃φ',Inv w0 B (AI.push s (.arr s.ctr 1 true true (xs.map F))) Z φ' w'∧Later B w Z φ s.ctr w' Z φ' (s.ctr+1)∧Rep w' Z φ' (s.ctr+1) (.own s.σ.length s.ctr 0 xs.length) v:=by
 rcases hrow.2 with⟨_,h0⟩|⟨g,cap,cur,rfl,hbase,hg,h1,h2,h3,h4⟩
 ·exact absurd (List.eq_nil_of_length_eq_zero h0) hx
 have hH:Holds w Z φ s.ctr cur 1 true (xs.map F):=by
  intro i x hi
  rw[List.getElem?_map]at hi
  obtain⟨a,ha,rfl⟩:=Option.map_eq_some_iff.1 hi
  obtain⟨hlt,rfl⟩:=List.getElem?_eq_some_iff.1 ha
  obtain⟨f1,f2,f3,f4⟩:=hF _ (List.getElem_mem hlt)
  refine⟨by rw[f1];rfl,fun j y hy=>?_⟩
  rw[f1]at hy
  cases j with
  |succ j=>simp at hy
  |zero=>
   simp only[List.getElem?_cons_zero,Option.some.injEq]at hy
   subst hy
   refine⟨enc xs[i],?_,f2,f3,fun _=>f4⟩
   have h5:(cur.toList.take (xs.length*1))[i]?=(xs.map enc)[i]?:=by rw[h4]
   rw[List.getElem?_take_of_lt (by omega),Array.getElem?_toList,List.getElem?_map,ha]at h5
   rw[Nat.mul_one,Nat.add_zero]
   exact h5
 obtain⟨k1,k2⟩:=hI.newRow hbel hbase hg (es:=1) (cl:=true) (elems:=xs.map F) (by omega) (by rw[List.length_map];omega) hH
 exact⟨_,k1,k2,.own _ _ _ _ g 1 cur.size cap _ (by omega) (Ae ..) h1 (fun _=>⟨by rw[Nat.zero_mul],by omega,h2⟩) rfl⟩
end AI
end Go.Proofs.YtjjhejbffgaabaaGreatDoor
