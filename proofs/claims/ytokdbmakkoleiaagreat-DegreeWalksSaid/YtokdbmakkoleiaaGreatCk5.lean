/- graph.Check: the first error of a graph. -/
import Derived.Test.YtokdbmakkoleiaaGreatCk4
set_option linter.unusedVariables false
namespace Go.Proofs.YtokdbmakkoleiaaGreat
namespace AI

/-- the first that is not 0 -/
def firstE (f : Nat → Int) : Nat → Int
  | 0 => 0
  | n + 1 => if firstE f n = 0 then f n else firstE f n

theorem firstE_zero {f : Nat → Int} : ∀ {n : Nat}, firstE f n = 0 ↔ ∀ k, k < n → f k = 0
  | 0 => by simp [firstE]
  | n + 1 => by
    unfold firstE
    split
    · rename_i h
      have := firstE_zero.1 h
      refine ⟨fun h0 k hk => ?_, fun h0 => h0 n (by omega)⟩
      rcases Nat.lt_or_ge k n with h1 | h1
      · exact this k h1
      · obtain rfl : k = n := by omega
        exact h0
    · rename_i h
      exact ⟨fun h0 => absurd h0 h, fun h0 => absurd (firstE_zero.2 fun k hk => h0 k (by omega)) h⟩

theorem firstE_at {f : Nat → Int} {i : Nat} (h : ∀ k, k < i → f k = 0) (hi : f i ≠ 0) : ∀ {n : Nat}, i < n → firstE f n = f i
  | 0, hn => absurd hn (by omega)
  | n + 1, hn => by
    unfold firstE
    rcases Nat.lt_or_ge i n with h1 | h1
    · rw [firstE_at h hi h1, if_neg hi]
    · obtain rfl : i = n := by omega
      rw [if_pos (firstE_zero.2 h)]

/-- what is wrong with a node -/
noncomputable def nodeE (N : List GN) (nx : Int) (i : Nat) : Int :=
  match N[i]? with
  | none => 0
  | some n => if 0 < i ∧ (∃ m, N[i - 1]? = some m ∧ n.id ≤ m.id) then 26 else if n.id < 1 ∨ nx ≤ n.id then 1 else partsE n.labels n.props

/-- what is wrong with an edge -/
noncomputable def edgeE (N : List GN) (E : List GE) (nx : Int) (i : Nat) : Int :=
  match E[i]? with
  | none => 0
  | some e => if 0 < i ∧ (∃ m, E[i - 1]? = some m ∧ e.id ≤ m.id) then 26 else if e.id < 1 ∨ nx ≤ e.id then 1 else if ¬ (e.fr ∈ nids N ∧ e.to ∈ nids N) then 10 else if ¬ isName e.ty then 6 else partsE [] e.props

theorem node26 {N : List GN} {nx : Int} {i : Nat} (h : i < N.length) (h0 : 0 < i) (h1 : (N[i]).id ≤ (N[i - 1]).id) : nodeE N nx i = 26 := by
  unfold nodeE; rw [List.getElem?_eq_getElem h]; exact if_pos ⟨h0, _, List.getElem?_eq_getElem (by omega), h1⟩
theorem node_no {N : List GN} {i : Nat} (h : i < N.length) (h1 : 0 < i → ¬ (N[i]).id ≤ (N[i - 1]).id) : ¬ (0 < i ∧ ∃ m, N[i - 1]? = some m ∧ (N[i]).id ≤ m.id) := by
  rintro ⟨a, m, b, c⟩; rw [List.getElem?_eq_getElem (by omega)] at b; rw [← Option.some.inj b] at c; exact h1 a c
theorem node1 {N : List GN} {nx : Int} {i : Nat} (h : i < N.length) (h1 : 0 < i → ¬ (N[i]).id ≤ (N[i - 1]).id) (h2 : (N[i]).id < 1 ∨ nx ≤ (N[i]).id) : nodeE N nx i = 1 := by
  unfold nodeE; rw [List.getElem?_eq_getElem h]; dsimp only; rw [if_neg (node_no h h1), if_pos h2]
theorem nodeP {N : List GN} {nx : Int} {i : Nat} (h : i < N.length) (h1 : 0 < i → ¬ (N[i]).id ≤ (N[i - 1]).id) (h2 : ¬ ((N[i]).id < 1 ∨ nx ≤ (N[i]).id)) : nodeE N nx i = partsE (N[i]).labels (N[i]).props := by
  unfold nodeE; rw [List.getElem?_eq_getElem h]; dsimp only; rw [if_neg (node_no h h1), if_neg h2]
theorem node_ok {N : List GN} {nx : Int} {i : Nat} (h : i < N.length) (h0 : nodeE N nx i = 0) : (0 < i → (N[i - 1]).id < (N[i]).id) ∧ 1 ≤ (N[i]).id ∧ (N[i]).id < nx ∧ partsE (N[i]).labels (N[i]).props = 0 := by
  by_cases h1 : 0 < i ∧ (N[i]).id ≤ (N[i - 1]).id
  · rw [node26 h h1.1 h1.2] at h0; omega
  have h1' : 0 < i → ¬ (N[i]).id ≤ (N[i - 1]).id := fun a b => h1 ⟨a, b⟩
  by_cases h2 : (N[i]).id < 1 ∨ nx ≤ (N[i]).id
  · rw [node1 h h1' h2] at h0; omega
  rw [nodeP h h1' h2] at h0
  exact ⟨fun a => by have := h1' a; omega, by omega, by omega, h0⟩

theorem edge26 {N : List GN} {E : List GE} {nx : Int} {i : Nat} (h : i < E.length) (h0 : 0 < i) (h1 : (E[i]).id ≤ (E[i - 1]).id) : edgeE N E nx i = 26 := by
  unfold edgeE; rw [List.getElem?_eq_getElem h]; exact if_pos ⟨h0, _, List.getElem?_eq_getElem (by omega), h1⟩
theorem edge_no {E : List GE} {i : Nat} (h : i < E.length) (h1 : 0 < i → ¬ (E[i]).id ≤ (E[i - 1]).id) : ¬ (0 < i ∧ ∃ m, E[i - 1]? = some m ∧ (E[i]).id ≤ m.id) := by
  rintro ⟨a, m, b, c⟩; rw [List.getElem?_eq_getElem (by omega)] at b; rw [← Option.some.inj b] at c; exact h1 a c
theorem edge1 {N : List GN} {E : List GE} {nx : Int} {i : Nat} (h : i < E.length) (h1 : 0 < i → ¬ (E[i]).id ≤ (E[i - 1]).id) (h2 : (E[i]).id < 1 ∨ nx ≤ (E[i]).id) : edgeE N E nx i = 1 := by
  unfold edgeE; rw [List.getElem?_eq_getElem h]; dsimp only; rw [if_neg (edge_no h h1), if_pos h2]
theorem edge10 {N : List GN} {E : List GE} {nx : Int} {i : Nat} (h : i < E.length) (h1 : 0 < i → ¬ (E[i]).id ≤ (E[i - 1]).id) (h2 : ¬ ((E[i]).id < 1 ∨ nx ≤ (E[i]).id)) (h3 : ¬ ((E[i]).fr ∈ nids N ∧ (E[i]).to ∈ nids N)) : edgeE N E nx i = 10 := by
  unfold edgeE; rw [List.getElem?_eq_getElem h]; dsimp only; rw [if_neg (edge_no h h1), if_neg h2, if_pos h3]
theorem edge6 {N : List GN} {E : List GE} {nx : Int} {i : Nat} (h : i < E.length) (h1 : 0 < i → ¬ (E[i]).id ≤ (E[i - 1]).id) (h2 : ¬ ((E[i]).id < 1 ∨ nx ≤ (E[i]).id)) (h3 : (E[i]).fr ∈ nids N ∧ (E[i]).to ∈ nids N) (h4 : ¬ isName (E[i]).ty) : edgeE N E nx i = 6 := by
  unfold edgeE; rw [List.getElem?_eq_getElem h]; dsimp only; rw [if_neg (edge_no h h1), if_neg h2, if_neg (not_not_intro h3), if_pos h4]
theorem edgeP {N : List GN} {E : List GE} {nx : Int} {i : Nat} (h : i < E.length) (h1 : 0 < i → ¬ (E[i]).id ≤ (E[i - 1]).id) (h2 : ¬ ((E[i]).id < 1 ∨ nx ≤ (E[i]).id)) (h3 : (E[i]).fr ∈ nids N ∧ (E[i]).to ∈ nids N) (h4 : isName (E[i]).ty) : edgeE N E nx i = partsE [] (E[i]).props := by
  unfold edgeE; rw [List.getElem?_eq_getElem h]; dsimp only; rw [if_neg (edge_no h h1), if_neg h2, if_neg (not_not_intro h3), if_neg (not_not_intro h4)]
theorem edge_ok {N : List GN} {E : List GE} {nx : Int} {i : Nat} (h : i < E.length) (h0 : edgeE N E nx i = 0) : (0 < i → (E[i - 1]).id < (E[i]).id) ∧ 1 ≤ (E[i]).id ∧ (E[i]).id < nx ∧ (E[i]).fr ∈ nids N ∧ (E[i]).to ∈ nids N ∧ isName (E[i]).ty ∧ partsE [] (E[i]).props = 0 := by
  by_cases h1 : 0 < i ∧ (E[i]).id ≤ (E[i - 1]).id
  · rw [edge26 h h1.1 h1.2] at h0; omega
  have h1' : 0 < i → ¬ (E[i]).id ≤ (E[i - 1]).id := fun a b => h1 ⟨a, b⟩
  by_cases h2 : (E[i]).id < 1 ∨ nx ≤ (E[i]).id
  · rw [edge1 h h1' h2] at h0; omega
  by_cases h3 : (E[i]).fr ∈ nids N ∧ (E[i]).to ∈ nids N
  case neg => rw [edge10 h h1' h2 h3] at h0; omega
  by_cases h4 : isName (E[i]).ty
  case neg => rw [edge6 h h1' h2 h3 h4] at h0; omega
  rw [edgeP h h1' h2 h3 h4] at h0
  exact ⟨fun a => by have := h1' a; omega, by omega, by omega, h3.1, h3.2, h4, h0⟩

def fitsG (g : GG) : Prop := g.nodes.length ≤ 2000 ∧ g.edges.length ≤ 4000
def nextG (g : GG) : Prop := 1 ≤ g.nextN ∧ g.nextN ≤ 1000001 ∧ 1 ≤ g.nextE ∧ g.nextE ≤ 1000001
instance (g : GG) : Decidable (fitsG g) := by unfold fitsG; infer_instance
instance (g : GG) : Decidable (nextG g) := by unfold nextG; infer_instance

/-- the first error of a graph -/
noncomputable def checkE (g : GG) : Int :=
  if ¬ fitsG g then 4 else if ¬ nextG g then 1 else
    if firstE (nodeE g.nodes g.nextN) g.nodes.length = 0 then firstE (edgeE g.nodes g.edges g.nextE) g.edges.length else firstE (nodeE g.nodes g.nextN) g.nodes.length

theorem check4 {g : GG} (h : ¬ fitsG g) : AV.int .i64 4 = AV.int .i64 (checkE g) := by unfold checkE; rw [if_pos h]
theorem check1 {g : GG} (h : fitsG g) (h1 : ¬ nextG g) : AV.int .i64 1 = AV.int .i64 (checkE g) := by unfold checkE; rw [if_neg (not_not_intro h), if_pos h1]
theorem checkN {g : GG} (h : fitsG g) (h1 : nextG g) {i : Nat} (hi : i < g.nodes.length) (h2 : ∀ k, k < i → nodeE g.nodes g.nextN k = 0) {r : Int} (h3 : nodeE g.nodes g.nextN i = r) (hr : r ≠ 0) : AV.int .i64 r = AV.int .i64 (checkE g) := by
  subst h3
  unfold checkE
  rw [if_neg (not_not_intro h), if_neg (not_not_intro h1), firstE_at h2 hr hi, if_neg hr]
theorem checkEd {g : GG} (h : fitsG g) (h1 : nextG g) (hn : ∀ k, k < g.nodes.length → nodeE g.nodes g.nextN k = 0) {i : Nat} (hi : i < g.edges.length) (h2 : ∀ k, k < i → edgeE g.nodes g.edges g.nextE k = 0) {r : Int} (h3 : edgeE g.nodes g.edges g.nextE i = r) (hr : r ≠ 0) : AV.int .i64 r = AV.int .i64 (checkE g) := by
  subst h3
  unfold checkE
  rw [if_neg (not_not_intro h), if_neg (not_not_intro h1), if_pos (firstE_zero.2 hn), firstE_at h2 hr hi]
theorem check0 {g : GG} (h : fitsG g) (h1 : nextG g) (hn : ∀ k, k < g.nodes.length → nodeE g.nodes g.nextN k = 0) (h2 : ∀ k, k < g.edges.length → edgeE g.nodes g.edges g.nextE k = 0) : AV.int .i64 0 = AV.int .i64 (checkE g) := by
  unfold checkE
  rw [if_neg (not_not_intro h), if_neg (not_not_intro h1), if_pos (firstE_zero.2 hn), firstE_zero.2 h2]

theorem incr_nodes {N : List GN} {nx : Int} (h : ∀ k, k < N.length → nodeE N nx k = 0) : incr (nids N) := by
  intro j hj
  have hj' : j + 1 < N.length := by simpa using hj
  rw [nids_at (by omega), nids_at hj']
  exact (node_ok hj' (h _ hj')).1 (by omega)
theorem incr_edges {N : List GN} {E : List GE} {nx : Int} (h : ∀ k, k < E.length → edgeE N E nx k = 0) : incr (eids E) := by
  intro j hj
  have hj' : j + 1 < E.length := by simpa using hj
  rw [eids_at (by omega), eids_at hj']
  exact (edge_ok hj' (h _ hj')).1 (by omega)

/-- a valid graph -/
theorem check_ok {g : GG} (h : checkE g = 0) : fitsG g ∧ nextG g ∧ (∀ k, k < g.nodes.length → nodeE g.nodes g.nextN k = 0) ∧ ∀ k, k < g.edges.length → edgeE g.nodes g.edges g.nextE k = 0 := by
  unfold checkE at h
  by_cases h1 : fitsG g
  case neg => rw [if_pos h1] at h; omega
  by_cases h2 : nextG g
  case neg => rw [if_neg (not_not_intro h1), if_pos h2] at h; omega
  rw [if_neg (not_not_intro h1), if_neg (not_not_intro h2)] at h
  split at h
  · rename_i h3
    exact ⟨h1, h2, firstE_zero.1 h3, firstE_zero.1 h⟩
  · rename_i h3; exact absurd h h3

attribute [irreducible] nodeE edgeE checkE firstE

end AI
end Go.Proofs.YtokdbmakkoleiaaGreat
