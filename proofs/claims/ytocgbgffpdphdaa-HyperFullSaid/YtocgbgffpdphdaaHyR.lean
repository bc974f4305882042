/- The rounds of the reduction: plain facts, no program in sight. -/
import Derived.Test.YtocgbgffpdphdaaHyP
set_option linter.unusedVariables false
namespace Go.Proofs.Ytocgbgffpdphdaa
namespace AI

/-- in how many edges -/
def occ (L : List (List Int)) (v : Int) : Nat := L.countP fun f => decide (v ∈ f)
/-- the vertices that stand in another edge, too -/
def shr (L : List (List Int)) (e : List Int) : List Int := e.filter fun v => decide (1 < occ L v)

abbrev nthL (K : List (List Int)) (i : Nat) : List Int := K.getD i []

theorem nthL_eq {K : List (List Int)} {i : Nat} (h : i < K.length) : nthL K i = K[i] := by simp [nthL, List.getD_eq_getElem?_getD, h]

/-- edge i falls by edge k -/
def falls (K : List (List Int)) (i k : Nat) : Prop := k ≠ i ∧ (∀ x ∈ nthL K i, x ∈ nthL K k) ∧ ((nthL K i).length < (nthL K k).length ∨ k < i)
instance (K : List (List Int)) (i k : Nat) : Decidable (falls K i k) := by unfold falls; infer_instance
/-- edge i stays, by the edges before k -/
def stays (K : List (List Int)) (i k : Nat) : Prop := nthL K i ≠ [] ∧ ∀ j < k, ¬ falls K i j
instance (K : List (List Int)) (i k : Nat) : Decidable (stays K i k) := by unfold stays; infer_instance

theorem stays_succ {K : List (List Int)} {i k : Nat} : stays K i (k + 1) ↔ stays K i k ∧ ¬ falls K i k := by
  unfold stays
  constructor
  · rintro ⟨h1, h2⟩
    exact ⟨⟨h1, fun j hj => h2 j (by omega)⟩, h2 k (by omega)⟩
  · rintro ⟨⟨h1, h2⟩, h3⟩
    refine ⟨h1, fun j hj => ?_⟩
    rcases Nat.lt_or_ge j k with h | h
    · exact h2 j h
    · obtain rfl : j = k := by omega
      exact h3

/-- the edges before i that stay -/
def kept (K : List (List Int)) (i : Nat) : List (List Int) := ((List.range i).filter fun j => decide (stays K j K.length)).map fun j => nthL K j

theorem kept_succ (K : List (List Int)) (i : Nat) : kept K (i + 1) = kept K i ++ if stays K i K.length then [nthL K i] else [] := by
  unfold kept; rw [List.range_succ, List.filter_append, List.map_append]
  congr 1
  simp only [List.filter_cons, List.filter_nil, decide_eq_true_eq]
  split <;> rfl

def rnd (L : List (List Int)) : List (List Int) := kept (L.map (shr L)) L.length

def rnds (L : List (List Int)) : Nat → List (List Int)
  | 0 => L
  | k + 1 => rnd (rnds L k)

theorem rnds_rest {L : List (List Int)} {k : Nat} (h : rnd (rnds L k) = rnds L k) : ∀ j, rnds L (k + j) = rnds L k
  | 0 => rfl
  | j + 1 => by rw [← Nat.add_assoc, rnds, rnds_rest h j, h]

theorem rnds_unique {L : List (List Int)} {k j : Nat} (hk : rnd (rnds L k) = rnds L k) (hj : rnd (rnds L j) = rnds L j) : rnds L k = rnds L j := by
  rcases Nat.le_total k j with h | h
  · obtain ⟨d, rfl⟩ : ∃ d, j = k + d := ⟨j - k, by omega⟩
    exact (rnds_rest hk d).symm
  · obtain ⟨d, rfl⟩ : ∃ d, k = j + d := ⟨k - j, by omega⟩
    exact rnds_rest hj d

def size (L : List (List Int)) : Nat := (L.map fun e => e.length + 1).sum

theorem size_sub {a b : List (List Int)} (h : a.Sublist b) : size a ≤ size b ∧ (a = b ∨ size a < size b) := by
  induction h with
  | slnil => exact ⟨Nat.le_refl _, .inl rfl⟩
  | cons x _ ih => simp only [size, List.map_cons, List.sum_cons] at ih ⊢; exact ⟨by omega, .inr (by omega)⟩
  | cons_cons x _ ih =>
    simp only [size, List.map_cons, List.sum_cons] at ih ⊢
    refine ⟨by omega, ?_⟩
    rcases ih.2 with rfl | h
    · exact .inl rfl
    · exact .inr (by omega)

theorem size_map {f : List Int → List Int} (hf : ∀ e, (f e).Sublist e) : ∀ L : List (List Int), size (L.map f) ≤ size L ∧ (L.map f = L ∨ size (L.map f) < size L)
  | [] => ⟨Nat.le_refl _, .inl rfl⟩
  | e :: L => by
    have ih := size_map hf L
    have hl := (hf e).length_le
    simp only [size, List.map_cons, List.sum_cons] at ih ⊢
    refine ⟨by omega, ?_⟩
    rcases Nat.lt_or_ge (f e).length e.length with h | h
    · exact .inr (by omega)
    · have he := (hf e).eq_of_length (by omega)
      rcases ih.2 with h' | h'
      · exact .inl (by rw [he, h'])
      · exact .inr (by omega)

theorem kept_sub (K : List (List Int)) : ∀ i, i ≤ K.length → (kept K i).Sublist (K.take i)
  | 0, _ => by simp [kept]
  | i + 1, h => by
    rw [kept_succ, List.take_succ_eq_append_getElem (by omega)]
    refine (kept_sub K i (by omega)).append ?_
    split
    · rw [nthL_eq (by omega)]; exact List.Sublist.refl _
    · exact List.nil_sublist _

theorem shr_sub (L : List (List Int)) (e : List Int) : (shr L e).Sublist e := List.filter_sublist

theorem rnd_sub (L : List (List Int)) : (rnd L).Sublist (L.map (shr L)) := by
  have := kept_sub (L.map (shr L)) L.length (by simp)
  rwa [List.take_of_length_le (by simp)] at this

theorem rnd_size (L : List (List Int)) : rnd L = L ∨ size (rnd L) < size L := by
  have h1 := size_sub (rnd_sub L)
  have h2 := size_map (shr_sub L) L
  rcases h1.2 with h | h
  · rcases h2.2 with h' | h'
    · exact .inl (by rw [h]; exact h')
    · exact .inr (by rw [h]; exact h')
  · exact .inr (by omega)

theorem rnd_nodup {L : List (List Int)} (h : ∀ e ∈ L, e.Nodup) : ∀ e ∈ rnd L, e.Nodup := by
  intro e he
  have := (rnd_sub L).subset he
  obtain ⟨f, hf, rfl⟩ := List.mem_map.1 this
  exact (h f hf).sublist (shr_sub L f)

theorem rnd_length (L : List (List Int)) : (rnd L).length ≤ L.length := by
  have := (rnd_sub L).length_le
  simpa using this

theorem rnd_mem_length {L : List (List Int)} {b : Nat} (h : ∀ e ∈ L, e.length < b) : ∀ e ∈ rnd L, e.length < b := by
  intro e he
  have := (rnd_sub L).subset he
  obtain ⟨f, hf, rfl⟩ := List.mem_map.1 this
  exact Nat.lt_of_le_of_lt (shr_sub L f).length_le (h f hf)

end AI
end Go.Proofs.Ytocgbgffpdphdaa
