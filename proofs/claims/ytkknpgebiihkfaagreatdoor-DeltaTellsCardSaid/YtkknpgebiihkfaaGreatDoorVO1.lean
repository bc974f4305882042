/- The program's class of a value. The order of values: plain. -/
import Derived.Test.YtkknpgebiihkfaaGreatDoorOV1
import Derived.Test.YtkknpgebiihkfaaGreatDoorMP
set_option linter.unusedVariables false
set_option maxRecDepth 4000
namespace Go.Proofs.YtkknpgebiihkfaaGreatDoor
namespace AI

def clsP (k : Int) : Int := if k = 3 then 2 else if k = 7 then 9 else k
theorem classP {v : GV} : PureP (findFn tab) 129 [v.av] (· = .int .i64 (clsP v.k)) := by
  refine pureP_of rfl rfl ?_
  (conv => whnf); repeat' (first  | ((with_reducible first | apply kN | apply kW | apply kX | apply kG | apply kQ); (· exact sd); conv => whnf) | (refine pcase.mk ?_ ?_ <;> intro hc <;> (try rw [List.length_nil] at hc) <;> first | (exfalso; omega) | (exact absurd rfl hc) | conv => whnf) | (refine bcase_intro ?_ ?_ <;> intro hc <;> conv => whnf))
  all_goals first | (unfold clsP; rw [if_pos (by assumption)]; rfl) | (unfold clsP; rw [if_neg (by assumption), if_pos (by assumption)]; rfl) | (unfold clsP; rw [if_neg (by assumption), if_neg (by assumption)]; rfl) | (trace_state; fail "classP")

end AI
end Go.Proofs.YtkknpgebiihkfaaGreatDoor
set_option linter.unusedVariables false
namespace Go.Proofs.YtkknpgebiihkfaaGreatDoor
namespace AI
open Go.Sort

/-- the value that is meant -/
def gvOf : AV → GV
  | .agg [.int _ k, .int _ n, .int _ d, .str s, .sl nn l] => ⟨k, n, d, s, nn, l⟩
  | _ => ⟨0, 0, 0, [], false, []⟩
theorem gvOf_av (g : GV) : gvOf g.av = g := rfl

/-- of at most this depth -/
def dep : Nat → GV → Prop
  | 0, _ => False
  | m + 1, v => ∀ x ∈ v.l, ∃ g : GV, x = g.av ∧ g.ok ∧ dep m g

theorem dep_up : ∀ {m k : Nat} {v : GV}, m ≤ k → dep m v → dep k v
  | 0, _, _, _, h => absurd h id
  | m + 1, 0, _, h, _ => by omega
  | m + 1, k + 1, v, h, hd => fun x hx => by
    obtain ⟨g, e, h1, h2⟩ := hd x hx
    exact ⟨g, e, h1, dep_up (by omega) h2⟩

/-- lists compared -/
def cmpLs (c : AV → AV → Int) : List AV → List AV → Int
  | [], [] => 0
  | [], _ :: _ => -1
  | _ :: _, [] => 1
  | a :: x, b :: y => fst0 (c a b) (cmpLs c x y)
theorem cmpLs_anti {c : AV → AV → Int} (hc : PC c) : ∀ x y, cmpLs c y x = - cmpLs c x y
  | [], [] => rfl
  | [], _ :: _ => rfl
  | _ :: _, [] => rfl
  | a :: x, b :: y => by
    have h1 := hc.anti a b
    have h2 := cmpLs_anti hc x y
    simp only [cmpLs, fst0]
    split <;> split <;> omega
theorem cmpLs_trans {c : AV → AV → Int} (hc : PC c) : ∀ x y z, cmpLs c x y ≤ 0 → cmpLs c y z ≤ 0 → cmpLs c x z ≤ 0
  | [], _, [], _, _ => Int.le_refl 0
  | [], _, _ :: _, _, _ => by show (-1 : Int) ≤ 0; omega
  | _ :: _, [], _, h, _ => absurd h (by show ¬ (1 : Int) ≤ 0; omega)
  | _ :: _, _ :: _, [], _, h => absurd h (by show ¬ (1 : Int) ≤ 0; omega)
  | a :: x, b :: y, d :: z, h1, h2 => by
    have ih := cmpLs_trans hc x y z
    have a1 := hc.trans a b d
    have a2 := hc.trans b d a
    have a3 := hc.trans d a b
    have b1 := hc.anti a b
    have b2 := hc.anti b d
    have b3 := hc.anti a d
    simp only [cmpLs, fst0] at *
    split at h1 <;> split at h2 <;> split <;> omega
theorem PC.lists {c : AV → AV → Int} (hc : PC c) : PC (cmpLs c) := ⟨cmpLs_anti hc, cmpLs_trans hc⟩
theorem cmpLs_step {c : AV → AV → Int} {x y : List AV} {i : Nat} (hx : i < x.length) (hy : i < y.length) : cmpLs c (x.drop i) (y.drop i) = fst0 (c x[i] y[i]) (cmpLs c (x.drop (i + 1)) (y.drop (i + 1))) := by
  rw [List.drop_eq_getElem_cons hx, List.drop_eq_getElem_cons hy, cmpLs]

/-- a comparison of one kind or another -/
theorem PC.lexIf {α : Type} {c d e : α → α → Int} {p : α → Prop} [DecidablePred p] (hc : PC c) (hd : PC d) (he : PC e) (hp : ∀ x y, c x y = 0 → (p x ↔ p y)) : PC fun x y => fst0 (c x y) (if p x then d x y else e x y) where
  anti x y := by
    have h1 := hc.anti x y
    have h2 := hd.anti x y
    have h3 := he.anti x y
    have h4 := hp x y
    unfold fst0
    by_cases h0 : c x y = 0
    · rw [if_pos (by omega), if_pos h0]
      by_cases hx : p x
      · rw [if_pos hx, if_pos ((h4 h0).1 hx)]; exact h2
      · rw [if_neg hx, if_neg (fun h => hx ((h4 h0).2 h))]; exact h3
    · rw [if_neg (by omega), if_neg h0]; exact h1
  trans x y z h1 h2 := by
    have a0 := hc.trans z y x
    have a1 := hc.trans x y z
    have a2 := hc.trans y z x
    have a3 := hc.trans z x y
    have b1 := hc.anti x y
    have b2 := hc.anti y z
    have b3 := hc.anti x z
    have d1 := hd.trans x y z
    have e1 := he.trans x y z
    have p1 := hp x y
    have p2 := hp y z
    unfold fst0 at *
    by_cases h0 : c x y = 0
    · rw [if_pos h0] at h1
      by_cases h00 : c y z = 0
      · rw [if_pos h00] at h2
        rw [if_pos (by omega)]
        by_cases hx : p x
        · rw [if_pos hx] at h1 ⊢
          rw [if_pos ((p1 h0).1 hx)] at h2
          exact d1 h1 h2
        · rw [if_neg hx] at h1 ⊢
          rw [if_neg (fun h => hx ((p1 h0).2 h))] at h2
          exact e1 h1 h2
      · rw [if_neg h00] at h2
        rw [if_neg (by omega)]
        omega
    · rw [if_neg h0] at h1
      by_cases h00 : c y z = 0
      · rw [if_neg (by omega)]
        omega
      · rw [if_neg h00] at h2
        rw [if_neg (by omega)]
        omega

/-- a denominator that is positive in any case -/
def pd (g : GV) : Int := if dn g ≤ 0 then 1 else dn g
theorem pd_pos (g : GV) : 0 < pd g := by unfold pd; split <;> omega
def fracC (a b : GV) : Int := sgn (a.n * pd b - b.n * pd a)
theorem fracC_le {a b : GV} : fracC a b ≤ 0 ↔ a.n * pd b ≤ b.n * pd a := by
  unfold fracC sgn; split
  · omega
  · split <;> omega
theorem pc_frac : PC fracC where
  anti x y := by unfold fracC sgn; repeat' split
                 all_goals omega
  trans x y z h1 h2 := by
    rw [fracC_le] at *
    have p1 := pd_pos x
    have p2 := pd_pos y
    have p3 := pd_pos z
    have e1 : x.n * pd y * pd z ≤ y.n * pd x * pd z := Int.mul_le_mul_of_nonneg_right h1 (by omega)
    have e2 : y.n * pd z * pd x ≤ z.n * pd y * pd x := Int.mul_le_mul_of_nonneg_right h2 (by omega)
    have e3 : x.n * pd z * pd y ≤ z.n * pd x * pd y := by
      rw [Int.mul_right_comm x.n, Int.mul_right_comm z.n]
      rw [Int.mul_right_comm y.n] at e2
      omega
    exact Int.le_of_mul_le_mul_right e3 p2

/-- valid values compared -/
def ordS : Nat → GV → GV → Int
  | 0, _, _ => 0
  | m + 1, a, b => fst0 (cmpI (clsP a.k) (clsP b.k)) (if clsP a.k = 2 then fracC a b else fst0 (cS a.s b.s) (fst0 (cmpI a.n b.n) (cmpLs (fun x y => ordS m (gvOf x) (gvOf y)) a.l b.l)))
theorem pc_zero {α : Type} : PC fun _ _ : α => 0 := ⟨fun _ _ => rfl, fun _ _ _ _ _ => Int.le_refl 0⟩
theorem pc_ordS : ∀ m, PC (ordS m)
  | 0 => pc_zero
  | m + 1 => PC.lexIf (p := fun a : GV => clsP a.k = 2) (pc_int.on fun a : GV => clsP a.k) pc_frac ((pc_str.on GV.s).lex ((pc_int.on GV.n).lex (((pc_ordS m).on gvOf).lists.on GV.l))) fun x y h => by
    have h : cmpI (clsP x.k) (clsP y.k) = 0 := h
    rw [cmpI_zero] at h
    show clsP x.k = 2 ↔ clsP y.k = 2
    rw [h]

/-- two classes, the first ahead -/
theorem PC.two {α : Type} {d e : α → α → Int} {p : α → Prop} [DecidablePred p] (hd : PC d) (he : PC e) : PC fun x y => if p x then if p y then d x y else -1 else if p y then 1 else e x y where
  anti x y := by
    have h2 := hd.anti x y
    have h3 := he.anti x y
    by_cases hx : p x <;> by_cases hy : p y <;> simp only [hx, hy, if_true, if_false] <;> first | assumption | rfl
  trans x y z h1 h2 := by
    have d1 := hd.trans x y z
    have e1 := he.trans x y z
    by_cases hx : p x <;> by_cases hy : p y <;> by_cases hz : p z <;> simp only [hx, hy, hz, if_true, if_false] at * <;> first | exact d1 h1 h2 | exact e1 h1 h2 | omega

/-- any values compared -/
noncomputable def cmpV : Nat → GV → GV → Int
  | 0, _, _ => 0
  | m + 1, a, b => if VV 8 a then if VV 8 b then ordS (m + 1) a b else -1 else if VV 8 b then 1 else
      fst0 (cmpI a.k b.k) (fst0 (cmpI a.n b.n) (fst0 (cmpI a.d b.d) (fst0 (cS a.s b.s) (cmpLs (fun x y => cmpV m (gvOf x) (gvOf y)) a.l b.l))))
theorem pc_cmpV : ∀ m, PC (cmpV m)
  | 0 => pc_zero
  | m + 1 => PC.two (p := fun a => VV 8 a) (pc_ordS (m + 1)) ((pc_int.on GV.k).lex ((pc_int.on GV.n).lex ((pc_int.on GV.d).lex ((pc_str.on GV.s).lex (((pc_cmpV m).on gvOf).lists.on GV.l)))))

end AI
end Go.Proofs.YtkknpgebiihkfaaGreatDoor
