/- Roots and join forests: plain facts. -/
import Derived.Test.YtocgbgffpdphdaaHyT
set_option linter.unusedVariables false
namespace Go.Proofs.Ytocgbgffpdphdaa
namespace AI

/-- k steps upwards -/
def up (P : List Int) : Nat → Int → Int
  | 0, x => x
  | k + 1, x => if up P k x < 0 then up P k x else lb P (up P k x).toNat

def PIn (P : List Int) : Prop := ∀ i < P.length, -1 ≤ lb P i ∧ lb P i < P.length

theorem up_lt {P : List Int} (h : PIn P) {x : Int} (hx : x < P.length) : ∀ k, up P k x < P.length
  | 0 => hx
  | k + 1 => by
    have ih := up_lt h hx k
    simp only [up]
    split
    · exact ih
    · exact (h _ (by omega)).2

theorem up_stop {P : List Int} {k : Nat} {x : Int} (h : up P k x < 0) : ∀ j, up P (k + j) x = up P k x
  | 0 => rfl
  | j + 1 => by
    have ih := up_stop h j
    rw [← Nat.add_assoc]
    simp only [up, ih, if_pos h]

theorem up_neg_mono {P : List Int} {k j : Nat} {x : Int} (h : up P k x < 0) (hkj : k ≤ j) : up P j x < 0 := by
  obtain ⟨d, rfl⟩ : ∃ d, j = k + d := ⟨j - k, by omega⟩
  rw [up_stop h]; exact h

theorem up_succ_pos {P : List Int} {k : Nat} {x : Int} (h : ¬ up P k x < 0) : up P (k + 1) x = lb P (up P k x).toNat := by simp only [up, if_neg h]

/-- who stops at all stops within as many steps as there are places -/
theorem up_bound {P : List Int} (hP : PIn P) {i : Nat} (hi : i < P.length) {k : Nat} (h : up P k i < 0) : up P P.length i < 0 := by
  rcases Nat.le_total k P.length with hk | hk
  · exact up_neg_mono h hk
  · -- the places that are passed
    have hA := chain_stable_from (n := P.length) (c := 1) (fun k x => ∃ j ≤ k, up P j i = (x : Int)) ?_ ?_ ?_ ?_
    · refine Classical.byContradiction fun hn => ?_
      have hlast : ∃ x : Nat, up P P.length i = x := ⟨(up P P.length i).toNat, by omega⟩
      obtain ⟨x, hx⟩ := hlast
      obtain ⟨j, hj, hjx⟩ := hA P.length x ⟨_, Nat.le_refl _, hx⟩
      -- from j on it goes round
      have hper : ∀ m, ∃ j' < P.length, up P j' i = up P (P.length + m) i := by
        intro m
        induction m with
        | zero => exact ⟨j, by omega, by rw [hjx]; exact hx.symm⟩
        | succ m ih =>
          obtain ⟨j', hj', he⟩ := ih
          rcases Nat.lt_or_ge (j' + 1) P.length with h1 | h1
          · exact ⟨j' + 1, h1, by rw [← Nat.add_assoc]; simp only [up, he]⟩
          · refine ⟨j, by omega, ?_⟩
            have e1 : up P (P.length + (m + 1)) i = up P (j' + 1) i := by rw [← Nat.add_assoc]; simp only [up, he]
            have e2 : j' + 1 = P.length := by omega
            rw [e1, e2, hjx, hx]
      obtain ⟨m, rfl⟩ : ∃ m, k = P.length + m := ⟨k - P.length, by omega⟩
      obtain ⟨j', hj', he⟩ := hper m
      exact hn (up_neg_mono (by rw [he]; exact h) (by omega))
    · refine Nat.one_le_iff_ne_zero.2 fun h0 => ?_
      rw [List.countP_eq_zero] at h0
      have hh : (∃ j, j ≤ 0 ∧ up P j (i : Int) = (i : Int)) = True := eq_true ⟨0, Nat.le_refl _, rfl⟩
      exact h0 i (by simpa using hi) (by simp only [hh, decide_true])
    · rintro k x ⟨j, hj, hx⟩; exact ⟨j, by omega, hx⟩
    · rintro k x ⟨j, hj, hx⟩
      have := up_lt hP (x := i) (by omega) j
      omega
    · rintro k hs x ⟨j, hj, hx⟩
      rcases Nat.lt_or_ge j (k + 2) with h1 | h1
      · exact ⟨j, by omega, hx⟩
      · obtain rfl : j = (k + 1) + 1 := by omega
        have hp : ¬ up P (k + 1) i < 0 := fun hn => by
          have := up_stop hn 1
          omega
        obtain ⟨j', hj', he⟩ := hs (up P (k + 1) i).toNat ⟨k + 1, by omega, by omega⟩
        refine ⟨j' + 1, by omega, ?_⟩
        rw [← hx, up_succ_pos hp, up_succ_pos (by omega), he]
        rfl

def Rooted (P : List Int) : Prop := ∀ i < P.length, up P P.length i < 0
instance (P : List Int) : Decidable (Rooted P) := by unfold Rooted; infer_instance

/-- edge i is the highest one with vertex v -/
def top (L : List (List Int)) (P : List Int) (v : Nat) (i : Nat) : Prop := (v : Int) ∈ nthL L i ∧ (lb P i < 0 ∨ (v : Int) ∉ nthL L (lb P i).toNat)
instance (L : List (List Int)) (P : List Int) (v i : Nat) : Decidable (top L P v i) := by unfold top; infer_instance
def tops (L : List (List Int)) (P : List Int) (v : Nat) (k : Nat) : Nat := (List.range k).countP fun i => decide (top L P v i)
def anyE (L : List (List Int)) (v : Nat) (k : Nat) : Prop := ∃ i, i < k ∧ (v : Int) ∈ nthL L i
instance (L : List (List Int)) (v k : Nat) : Decidable (anyE L v k) := by unfold anyE; infer_instance

theorem tops_succ (L : List (List Int)) (P : List Int) (v k : Nat) : tops L P v (k + 1) = tops L P v k + if top L P v k then 1 else 0 := by
  unfold tops; rw [List.range_succ, List.countP_append, List.countP_singleton]; simp
theorem anyE_succ (L : List (List Int)) (v k : Nat) : anyE L v (k + 1) ↔ anyE L v k ∨ (v : Int) ∈ nthL L k := by
  unfold anyE
  constructor
  · rintro ⟨i, h1, h2⟩
    rcases Nat.lt_or_ge i k with h | h
    · exact .inl ⟨i, h, h2⟩
    · obtain rfl : i = k := by omega
      exact .inr h2
  · rintro (⟨i, h1, h2⟩ | h)
    · exact ⟨i, by omega, h2⟩
    · exact ⟨k, by omega, h⟩

/-- parents that may be -/
def PGood (P : List Int) : Prop := ∀ i < P.length, -1 ≤ lb P i ∧ lb P i < P.length ∧ lb P i ≠ i
instance (P : List Int) : Decidable (PGood P) := by unfold PGood; infer_instance

/-- a join forest -/
def IsT (n : Int) (L : List (List Int)) (P : List Int) : Prop :=
  Vld n L ∧ P.length = L.length ∧ PGood P ∧ Rooted P ∧ ∀ v < n.toNat, anyE L v L.length → tops L P v L.length = 1
instance (n : Int) (L : List (List Int)) (P : List Int) : Decidable (IsT n L P) := by unfold IsT; infer_instance

end AI
end Go.Proofs.Ytocgbgffpdphdaa
