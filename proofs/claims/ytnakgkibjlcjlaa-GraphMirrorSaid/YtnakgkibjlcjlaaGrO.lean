/- The order of entries; sorted lists. -/
import Derived.Test.YtnakgkibjlcjlaaGrS2
set_option linter.unusedVariables false
namespace Go.Proofs.Ytnakgkibjlcjlaa
namespace AI

def lt (x y : Adj) : Prop := x.to < y.to ∨ (x.to = y.to ∧ x.ed < y.ed)
def le (x y : Adj) : Prop := ¬ lt y x
theorem cmpA_lt {x y : Adj} : cmpA x y < 0 ↔ lt x y := by
  unfold cmpA cmpI lt
  repeat' split
  all_goals omega
theorem le_trans {x y z : Adj} (h : le x y) (h2 : le y z) : le x z := by unfold le lt at *; omega
theorem lt_le {x y : Adj} (h : lt x y) : le x y := by unfold le lt at *; omega
theorem le_refl (x : Adj) : le x x := by unfold le lt; omega
theorem lt_of_le_lt {x y z : Adj} (h : le x y) (h2 : lt y z) : lt x z := by unfold le lt at *; omega
theorem lt_of_lt_le {x y z : Adj} (h : lt x y) (h2 : le y z) : lt x z := by unfold le lt at *; omega
/-- sorted -/
def Srt (l : List Adj) : Prop := l.Pairwise le

theorem take_le {Y : List Adj} (hs : Srt Y) {h : Nat} (hh : h < Y.length) : ∀ u ∈ Y.take (h + 1), le u (Y.getD h A0) := by
  intro u hu
  have e : Y.getD h A0 = Y[h] := by simp [hh]
  rw [e]
  rw [List.take_succ_eq_append_getElem hh, List.mem_append, List.mem_singleton] at hu
  rcases hu with hu | rfl
  · have h1 : Srt (Y.take (h + 1)) := List.Pairwise.sublist (List.take_sublist _ _) hs
    rw [List.take_succ_eq_append_getElem hh] at h1
    exact (List.pairwise_append.1 h1).2.2 u hu _ (List.mem_singleton.2 rfl)
  · exact le_refl _

theorem drop_ge {Y : List Adj} (hs : Srt Y) {h : Nat} (hh : h < Y.length) : ∀ u ∈ Y.drop h, le (Y.getD h A0) u := by
  intro u hu
  have e : Y.getD h A0 = Y[h] := by simp [hh]
  rw [e]
  have h1 : Srt (Y.drop h) := List.Pairwise.sublist (List.drop_sublist _ _) hs
  rw [List.drop_eq_getElem_cons hh] at hu h1
  rcases List.mem_cons.1 hu with rfl | hu
  · exact le_refl _
  · exact (List.pairwise_cons.1 h1).1 u hu

theorem Srt.take {Y : List Adj} (hs : Srt Y) (n : Nat) : Srt (Y.take n) := List.Pairwise.sublist (List.take_sublist _ _) hs
theorem Srt.drop {Y : List Adj} (hs : Srt Y) (n : Nat) : Srt (Y.drop n) := List.Pairwise.sublist (List.drop_sublist _ _) hs

theorem srt_mid {U V : List Adj} {x : Adj} (hu : Srt U) (hv : Srt V) (h1 : ∀ u ∈ U, le u x) (h2 : ∀ v ∈ V, le x v) : Srt (U ++ x :: V) := by
  refine List.pairwise_append.2 ⟨hu, List.pairwise_cons.2 ⟨h2, hv⟩, fun u hu v hv => ?_⟩
  rcases List.mem_cons.1 hv with rfl | hv
  · exact h1 u hu
  · exact le_trans (h1 u hu) (h2 v hv)

theorem srt_app {U V : List Adj} (hu : Srt U) (hv : Srt V) (h : ∀ u ∈ U, ∀ v ∈ V, le u v) : Srt (U ++ V) := List.pairwise_append.2 ⟨hu, hv, h⟩

theorem sw_comm {l : List Adj} {i j : Nat} (h : i ≠ j) : sw l i j = sw l j i := by
  unfold sw; exact List.set_comm _ _ h

/-- one step down -/
theorem sw_down {X Z : List Adj} {x y : Adj} {i j : Nat} (hj : j = X.length) (hi : i = X.length + 1) : sw (X ++ x :: y :: Z) i j = X ++ y :: x :: Z := by
  rw [sw_comm (by omega)]
  exact sw_app (Y := []) hj (by simp; omega)
/-- one step up -/
theorem sw_up {X Z : List Adj} {x y : Adj} {i j : Nat} (hi : i = X.length) (hj : j = X.length + 1) : sw (X ++ x :: y :: Z) i j = X ++ y :: x :: Z :=
  sw_app (Y := []) hi (by simp; omega)

theorem nAt {A Y Z L : List Adj} (hL : L = A ++ (Y ++ Z)) {z : Int} (h : Nat) (hz : z = A.length + h) (hh : h < Y.length) : nth (vs Adj.av L) (Int.toNat z) = some (Y.getD h A0).av := by
  subst hL
  rw [nA (A.length + h) (by omega) (by simp; omega)]
  congr 2
  simp only [List.getD]
  rw [List.getElem?_append_right (by omega), Nat.add_sub_cancel_left, List.getElem?_append_left hh]

theorem shift_up {A Y Z : List Adj} {x : Adj} {t : Nat} (ht : t < Y.length) {i j : Nat} (hi : i = A.length + t) (hj : j = A.length + t + 1) :
    sw (A ++ (Y.take t ++ (x :: (Y.drop t ++ Z)))) i j = A ++ (Y.take (t + 1) ++ (x :: (Y.drop (t + 1) ++ Z))) := by
  rw [List.drop_eq_getElem_cons ht, List.take_succ_eq_append_getElem ht]
  have := sw_up (X := A ++ Y.take t) (x := x) (y := Y[t]) (Z := Y.drop (t + 1) ++ Z) (i := i) (j := j) (by simp; omega) (by simp; omega)
  simp only [List.append_assoc, List.cons_append, List.nil_append] at this ⊢
  exact this

theorem shift_down {A Y Z : List Adj} {x : Adj} {t : Nat} (ht : t < Y.length) {i j : Nat} (hi : i = A.length + t + 1) (hj : j = A.length + t) :
    sw (A ++ (Y.take (t + 1) ++ (x :: (Y.drop (t + 1) ++ Z)))) i j = A ++ (Y.take t ++ (x :: (Y.drop t ++ Z))) := by
  rw [List.drop_eq_getElem_cons ht, List.take_succ_eq_append_getElem ht]
  have := sw_down (X := A ++ Y.take t) (x := Y[t]) (y := x) (Z := Y.drop (t + 1) ++ Z) (i := i) (j := j) (by simp; omega) (by simp; omega)
  simp only [List.append_assoc, List.cons_append, List.nil_append] at this ⊢
  exact this

theorem shift_down1 {A Y Z : List Adj} {x : Adj} {t : Nat} (h0 : 0 < t) (ht : t ≤ Y.length) {i j : Nat} (hi : i = A.length + (t - 1) + 1) (hj : j = A.length + (t - 1)) :
    sw (A ++ (Y.take t ++ (x :: (Y.drop t ++ Z)))) i j = A ++ (Y.take (t - 1) ++ (x :: (Y.drop (t - 1) ++ Z))) := by
  obtain ⟨t, rfl⟩ : ∃ t', t = t' + 1 := ⟨t - 1, by omega⟩
  exact shift_down (by omega) hi hj

theorem split_le {X Y : List Adj} {P Q : Nat} (sx : Srt X) (sy : Srt Y) (hp : P ≤ X.length) (h : Q = Y.length ∨ P = 0 ∨ le (X.getD (P - 1) A0) (Y.getD Q A0)) : ∀ u ∈ X.take P, ∀ v ∈ Y.drop Q, le u v := by
  intro u hu v hv
  rcases Nat.lt_or_ge Q Y.length with hq | hq
  · rcases P with _ | P
    · simp at hu
    · rcases h with h | h | h
      · omega
      · omega
      · exact le_trans (take_le sx (by omega) u hu) (le_trans h (drop_ge sy hq v hv))
  · rw [List.drop_of_length_le hq] at hv; simp at hv

end AI
end Go.Proofs.Ytnakgkibjlcjlaa
