/- Copying into a row; a row written anew: what the store's invariant becomes. -/
import Derived.Test.YtchcadfjbkkgmaaGreatDoorESe
import Derived.Laws.CopyRow
set_option linter.unusedVariables false
set_option maxRecDepth 4000
namespace Go.Proofs.YtchcadfjbkkgmaaGreatDoor
namespace AI
open Go.RowKit
variable {P:Program} {B:Nat} {w w' w0:World} {Z Z':Bv} {φ φ':DN} {ctr BX:Nat} {s s':Ai}
theorem GK (w:World) {dT sT ty elem:TypeId} {inf:TypeInfo} (g o dLen dCap:Nat) (a:Addr) (sLen sCap:Nat) (cur:Array Value) (t:TypeId) (cs:List Value)
 (hu:P.underlying dT=some (.slice elem)) (hi:P.info? elem=some inf)
 (hg:w.heap[g]?=some (.cells cur t (0,0))) (hn:cs.length=Nat.min sLen dLen*inf.size)
 (hsrc:∀(j:Nat) (v:Value),cs[j]?=some v→w.cell? (a.add j)=some v) (hfit:o+cs.length≤cur.size) (h1:∀v∈cs,v.oneCell'=true):
 (Builtin.copy_ #[dT,sT] ty #[.slice (some ⟨g,o,none⟩) dLen dCap,.slice (some a) sLen sCap]).run P w=
   .ok (goInt (Nat.min sLen dLen)) (w.setRow g (cur.toList.take o++cs++cur.toList.drop (o+cs.length)).toArray):=by
 have hf:=run_firstCells_some (P:=P) w inf.size (Nat.min sLen dLen) a sLen sCap cs hn hsrc
 have hst:=run_storeCells_at P g o t cs 0 cur w hg (by simpa using hfit) h1
 simp only[Nat.add_zero]at hst
 simp[Builtin.copy_,run_underlying hu,Builtin.lenOf,sizeOf,typeInfo,hi,hf,hst]
theorem AbD (hI:Inv w0 B s Z φ w) {o g es:Nat} {nn cl cl':Bool} {elems elems':List AV} (ho:s.σ[o]?=some (.arr g es nn cl elems)) (h0:0<es) {w1:World} {cells:Array Value} {e:TypeId} {cap:Nat}
 (hbel:Below w.heap.size w w1) (hw1:w1.heap[w.heap.size]?=some (.cells cells e (0,0))) (hH:Holds w Z φ s.ctr cells es cl' elems') (hcap:cap*es=cells.size) (hle:elems'.length≤cap) (hmx:cap≤maxLen):
 ∃φ',Inv w0 B ⟨s.σ.set o (.arr s.ctr es true cl' elems'),s.ctr+1⟩ Z φ' w1∧Rep w1 Z φ' (s.ctr+1) (.own o s.ctr 0 elems'.length) (.slice (some ⟨w.heap.size,0,none⟩) elems'.length cap)∧Later B w Z φ s.ctr w1 Z φ' (s.ctr+1):=by
 have hL:Later B w Z φ s.ctr w1 Z (Bg φ s.ctr (.row w.heap.size es cells.size)) (s.ctr+1):=Em hI hbel (fun _ _ h=>h) (fun _ _ h=>.inl h) (fun g hg=>DT φ _ hg) (by omega)
 refine⟨_,hI.set ho (hbel.mono hI.base) hL (fun b i h=>Nat.lt_of_lt_of_le (hI.live b i h) hbel.size) (fun o' ob' g' b' e' n' _ ho' hg' hφ'=>⟨hbel.block b' ((hI.objs o' ob' ho').place hg' hφ').1,fun i h=>h⟩) ?_ (fun g' b' e' n' hg' hφ'=>?_),?_,hL⟩
 ·refine⟨by omega,h0,?_⟩
  rw[Af]
  refine⟨rfl,rfl,hI.base,fun i hz=>?_,?_,cells,e,hw1,rfl,hH.later hL⟩
  ·have:=hI.live _ i hz;omega
  ·rw[← hcap];exact Nat.mul_le_mul_right _ hle
 ·simp only[Obj.gen,Option.some.injEq]at hg'
  subst hg'
  rw[Af]at hφ'
  simp only[NP.row.injEq]at hφ'
  exact .inl (by omega)
 ·exact .own _ _ _ _ w.heap.size es cells.size cap _ (by omega) (Af _ _ _) hle (fun _=>⟨by simp,by simpa using hcap,hmx⟩) rfl
theorem Aay (hI:Inv w0 B s Z φ w) {o g es:Nat} {nn cl cl':Bool} {elems elems':List AV} (ho:s.σ[o]?=some (.arr g es nn cl elems)) (h0:0<es) {b size cap:Nat} (hφ:φ g=.row b es size) (hB:B≤b) (hnz:∀i,¬Z b i) {w1:World} {cells:Array Value} {t:TypeId}
 (hbel:Below B w w1) (hoth:∀k,k≠b→w1.heap[k]?=w.heap[k]?) (hw1:w1.heap[b]?=some (.cells cells t (0,0))) (hsz:cells.size=size) (hH:Holds w Z φ s.ctr cells es cl' elems') (hcap:cap*es=size) (hle:elems'.length≤cap) (hmx:cap≤maxLen):
 ∃φ',Inv w0 B ⟨s.σ.set o (.arr s.ctr es true cl' elems'),s.ctr+1⟩ Z φ' w1∧Rep w1 Z φ' (s.ctr+1) (.own o s.ctr 0 elems'.length) (.slice (some ⟨b,0,none⟩) elems'.length cap)∧Later B w Z φ s.ctr w1 Z φ' (s.ctr+1):=by
 have hL:Later B w Z φ s.ctr w1 Z (Bg φ s.ctr (.row b es size)) (s.ctr+1):=by
  refine⟨fun _ _ h=>.inl h,by omega,fun _ _ h=>h,fun b' i h=>?_,fun g hg=>DT φ _ hg⟩
  refine hoth b' ?_
  rintro rfl
  exact hnz i h
 refine⟨_,hI.set ho hbel hL (fun b' i h=>Nat.lt_of_lt_of_le (hI.live b' i h) hbel.size) (fun o' ob' g' b' e' n' hne' ho' hg' hφ'=>⟨hoth b' ?_,fun i h=>h⟩) ⟨by omega,h0,?_⟩ (fun g' b' e' n' hg' hφ'=>?_),?_,hL⟩
 ·rintro rfl
  exact hne' (hI.apart o' o ob' _ g' g _ _ _ _ _ ho' ho hg' rfl hφ' hφ)
 ·rw[Af]
  exact⟨rfl,rfl,hB,hnz,by rw[← hcap];exact Nat.mul_le_mul_right _ hle,cells,t,hw1,hsz,hH.later hL⟩
 ·simp only[Obj.gen,Option.some.injEq]at hg'
  subst hg'
  rw[Af]at hφ'
  simp only[NP.row.injEq]at hφ'
  obtain⟨rfl,_⟩:=hφ'
  exact .inr ⟨g,_,_,rfl,hφ⟩
 ·exact .own _ _ _ _ b es size cap _ (Nat.lt_succ_self _) (Af _ _ _) hle (fun _=>⟨by simp,by simpa using hcap,hmx⟩) rfl
end AI
end Go.Proofs.YtchcadfjbkkgmaaGreatDoor
