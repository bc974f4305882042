/- A step of an editor, as an entry of the table: what stands ahead of the deferred closure and behind it. -/
import Derived.Test.YtgmgkkbpgndaaaaGreatDoorStA
import Derived.Test.YtgmgkkbpgndaaaaGreatDoorDf
set_option linter.unusedVariables false
set_option maxRecDepth 4000
namespace Go.Proofs.YtgmgkkbpgndaaaaGreatDoor
namespace AI
open Go.RowKit
def seqL:Code→Code
 | .seq a _=>a
 |c=>c
def seqR:Code→Code
 | .seq _ b=>b
 |c=>c
def bodyOf (f:Func):Code:=match f.body with
 |some b=>b
 |none=>.skip
theorem stepD (Q:Exit→Act→World→Prop) (a:Act) (w:World) (hs:a.tmps.size=Tryz.f59.ntmps)
 (h:∀a':Act,a'.tmps.size=Tryz.f59.ntmps→a'.defers={target:=.fn (.func 90) #[a.tmps.getD 4 undef],args:=#[]}::a.defers→(∀ k,k≠11→a'.tmps.getD k undef=a.tmps.getD k undef)→Q .normal a' w):
 (seqL (seqR (seqR (bodyOf Tryz.f59)))).wp Tryz.prog Q a w:=by
 have hs':a.tmps.size=21:=hs
 have h11:11<a.tmps.size:=by omega
 obtain⟨tm,ds⟩:=a
 refine wp_region ?_
 simp[wpOps,go_sem,h11]
 refine .inl (.inl (h _ ?_ ?_ ?_))
 ·simpa using hs
 ·simp[Array.getD_eq_getD_getElem?]
 ·intro k hk
  simp only[Array.getD_eq_getD_getElem?]
  rw[Array.getElem?_setIfInBounds_ne (by omega)]
end AI
end Go.Proofs.YtgmgkkbpgndaaaaGreatDoor
