/- slices.Sort of numbers, in place, on memory of the call's own: an entry of the table, by the kit's shelf. -/
import Derived.Shelf.SortM.Plain
import Derived.Shelf.SortM.SortNone
import Derived.Ground.SlgmProg
import Derived.Sort.OwnSortedInts
import Derived.Test.YtjjhejbffgaabaaGreatDoorChecked
import Derived.Test.YtjjhejbffgaabaaGreatDoorQSe
set_option linter.unusedVariables false
set_option maxRecDepth 4000
namespace Go.Proofs
open Go.RowKit Go.Maps Go.Sort Go.Shelf
shelf_lay_g SlLaysM.n5 Slgm 5 at Tryz 69 as Tryz.sortQ
namespace YtjjhejbffgaabaaGreatDoor
namespace AI
def VD (x:Int):List Int→List Int
 |[]=>[x]
 |y::l=>if x≤y then x::y::l else y::VD x l
def Qi:List Int→List Int
 |[]=>[]
 |x::l=>VD x (Qi l)
theorem NS (x:Int):∀l:List Int,(VD x l).Perm (x::l)
 |[]=>.refl _
 |y::l=>by
  unfold VD
  split
  ·exact .refl _
  ·exact((NS x l).cons y).trans (.swap x y l)
theorem WG {x:Int}:∀{l:List Int},l.Pairwise (·≤·)→(VD x l).Pairwise (·≤·)
 |[],_=>by simp[VD]
 |y::l,h=>by
  obtain⟨h1,h2⟩:=List.pairwise_cons.1 h
  unfold VD
  split
  ·rename_i hxy
   exact List.pairwise_cons.2 ⟨fun z hz=>by
        rcases List.mem_cons.1 hz with rfl|hz
        ·exact hxy
        ·exact Int.le_trans hxy (h1 z hz),h⟩
  ·rename_i hxy
   refine List.pairwise_cons.2 ⟨fun z hz=>?_,WG h2⟩
   rcases List.mem_cons.1 ((NS x l).mem_iff.1 hz)with rfl|hz
   ·omega
   ·exact h1 z hz
theorem IL:∀l:List Int,(Qi l).Perm l
 |[]=>.refl _
 |x::l=>(NS x (Qi l)).trans ((IL l).cons x)
theorem OO:∀l:List Int,(Qi l).Pairwise (·≤·)
 |[]=>.nil
 |x::l=>WG (OO l)
theorem ZO (l:List Int):(Qi l).length=l.length:=(IL l).length_eq
theorem Hw:∀{l m:List Int},l.Pairwise (·≤·)→m.Pairwise (·≤·)→l.Perm m→l=m
 |[],m,_,_,h=>by have:=h.length_eq;cases m with|nil=>rfl|cons b m=>simp at this
 |a::l,[],_,_,h=>by have:=h.length_eq;simp at this
 |a::l,b::m,h1,h2,h=>by
  have k1:=List.pairwise_cons.1 h1
  have k2:=List.pairwise_cons.1 h2
  have hab:a=b:=by
   have p1:a≤b:=by
        rcases List.mem_cons.1 (h.symm.mem_iff.1 (List.mem_cons_self (a:=b) (l:=m)))with e|e
        ·omega
        ·exact k1.1 b e
   have p2:b≤a:=by
        rcases List.mem_cons.1 (h.mem_iff.1 (List.mem_cons_self (a:=a) (l:=l)))with e|e
        ·omega
        ·exact k2.1 a e
   omega
  subst hab
  rw[Hw k1.2 k2.2 h.cons_inv]
theorem VB (l:List Int):(l.mergeSort fun x y=>decide (x≤y))=Qi l:=by
 refine Hw ?_ (OO l) ((List.mergeSort_perm l _).trans (IL l).symm)
 exact(List.pairwise_mergeSort (le:=fun x y:Int=>decide (x≤y)) (fun a b c h1 h2=>by simp at *;omega) (fun a b=>by simp;omega) l).imp fun h=>of_decide_eq_true h
end AI
end Go.Proofs.YtjjhejbffgaabaaGreatDoor
