/- Entries without lists: their order, the program's and the reference's. -/
import Derived.Test.YtbkibamoigmboaaGreatDoorVO1
import Derived.Test.YtbkibamoigmboaaGreatDoorIxT
set_option linter.unusedVariables false
set_option maxRecDepth 4000
namespace Go.Proofs.YtbkibamoigmboaaGreatDoor
namespace AI
open Go.Sort

/-- entries compared -/
noncomputable def cmpT (m : Nat) (x y : GT) : Int := fst0 (cS x.label y.label) (fst0 (cS x.key y.key) (fst0 (cmpV m x.v y.v) (cmpI x.id y.id)))
theorem pc_cmpT (m : Nat) : PC (cmpT m) := (pc_str.on GT.label).lex ((pc_str.on GT.key).lex (((pc_cmpV m).on GT.v).lex (pc_int.on GT.id)))

theorem orderTP {m : Nat} {x y : GT} (hx : x.v.ok) (hy : y.v.ok) (dx : dep m x.v) (dy : dep m y.v) : PureP (findFn tab) 29 [x.av, y.av] (· = .int .i64 (cmpT m x y)) := by
  have q1 := compareS (x := x.label) (y := y.label)
  have q2 := compareS (x := x.key) (y := y.key)
  have q3 := orderVP m hx hy dx dy
  have q4 : PureP (findFn tab) 61 [.int .i64 x.id, .int .i64 y.id] (· = .int .i64 (cmpI x.id y.id)) := compare
  have q5 := or4P (a := cS x.label y.label) (b := cS x.key y.key) (c := cmpV m x.v y.v) (d := cmpI x.id y.id)
  unfold cmpT
  refine pureP_of rfl rfl ?_
  (conv => whnf); repeat' (first | (refine callK_of q1 ?_; rintro _ rfl; conv => whnf) | (refine callK_of q2 ?_; rintro _ rfl; conv => whnf) | (refine callK_of q3 ?_; rintro _ rfl; conv => whnf) | (refine callK_of q4 ?_; rintro _ rfl; conv => whnf) | (refine callK_of q5 ?_; rintro _ rfl; conv => whnf) | ((with_reducible first | apply kN | apply kW | apply kX | apply kG | apply kQ); (· exact sd); conv => whnf) | (refine pcase.mk ?_ ?_ <;> intro hc <;> (try rw [List.length_nil] at hc) <;> first | (exfalso; omega) | (exact absurd rfl hc) | conv => whnf) | (refine bcase_intro ?_ ?_ <;> intro hc <;> conv => whnf))
  all_goals first | rfl | (trace_state; fail "orderTP")

theorem orderTR {m : Nat} {x y : GT} (hx : x.v.ok) (hy : y.v.ok) (dx : dep m x.v) (dy : dep m y.v) : PureP (findFn tab) 45 [x.av, y.av] (· = .int .i64 (cmpT m x y)) := by
  have q1 := textsRc (x := x.label) (y := y.label)
  have q2 := textsRc (x := x.key) (y := y.key)
  have q3 := orderVR m hx hy dx dy
  unfold cmpT
  generalize cS x.label y.label = z1 at *
  generalize cS x.key y.key = z2 at *
  generalize cmpV m x.v y.v = z3 at *
  have e : ∀ x y : Int, x = y → AV.int .i64 x = .int .i64 y := fun x y h => by rw [h]
  refine pureP_of rfl rfl ?_
  (conv => whnf); repeat' (first | (refine callK_of q1 ?_; rintro _ rfl; conv => whnf) | (refine callK_of q2 ?_; rintro _ rfl; conv => whnf) | (refine callK_of q3 ?_; rintro _ rfl; conv => whnf) | ((with_reducible first | apply kN | apply kW | apply kX | apply kG | apply kQ); (· exact sd); conv => whnf) | (refine pcase.mk ?_ ?_ <;> intro hc <;> (try rw [List.length_nil] at hc) <;> first | (exfalso; omega) | (exact absurd rfl hc) | conv => whnf) | (refine bcase_intro ?_ ?_ <;> intro hc <;> conv => whnf))
  all_goals first
    | exact e _ _ (by rw [fst0_n (by assumption)])
    | exact e _ _ (by unfold fst0 cmpI; repeat' split
                      all_goals omega)
    | (trace_state; fail "orderTR")

/-- an entry whose value has no elements -/
structure GX where
  e : GT
  h : e.ok ∧ e.v.l = []
def GX.av (x : GX) : AV := x.1.av
theorem cellsGX (x : GX) : x.av.cells.length = 8 := rfl
theorem dep1 (x : GX) : dep 1 x.1.v := fun y hy => by rw [x.2.2] at hy; simp at hy
theorem gx0_ok : (GT.mk [] [] ⟨0, 0, 0, [], false, []⟩ 0).ok ∧ (GT.mk [] [] ⟨0, 0, 0, [], false, []⟩ 0).v.l = [] := ⟨⟨by simp [Ln], by simp [Ln], gv0_ok, by unfold I64; dsimp only; omega⟩, rfl⟩
instance : Inhabited GX := ⟨⟨_, gx0_ok⟩⟩
noncomputable def cmpX (x y : GX) : Int := cmpT 1 x.1 y.1
theorem pc_cmpX : PC cmpX := (pc_cmpT 1).on GX.e
noncomputable def ltT (x y : GX) : Bool := decide (cmpX x y < 0)
theorem ltT_swo : SWO ltT := pc_cmpX.swo
theorem orderPT {x y : GX} : PureP (findFn tab) 29 [x.av, y.av] (· = .int .i64 (cmpX x y)) := orderTP x.2.1.2.2.1 y.2.1.2.2.1 (dep1 x) (dep1 y)
theorem orderRT {x y : GX} : PureP (findFn tab) 45 [x.av, y.av] (· = .int .i64 (cmpX x y)) := orderTR x.2.1.2.2.1 y.2.1.2.2.1 (dep1 x) (dep1 y)
theorem pcaseT {x y : GX} {A B : Prop} (h1 : ltT x y = true → A) (h2 : ltT x y = false → B) : pcase (cmpX x y < 0) A B :=
  ⟨fun h => h1 (decide_eq_true h), fun h => h2 (decide_eq_false h)⟩

attribute [irreducible] ltT cmpX

end AI
end Go.Proofs.YtbkibamoigmboaaGreatDoor
