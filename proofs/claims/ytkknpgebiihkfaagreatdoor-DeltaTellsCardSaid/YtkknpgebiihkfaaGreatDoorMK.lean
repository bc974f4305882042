/- Looking for a node among increasing ids. graph.Check: the first error of a graph. graph.Check, walked. -/
import Derived.Test.YtkknpgebiihkfaaGreatDoorMN
import Derived.Test.YtkknpgebiihkfaaGreatDoorMP
set_option linter.unusedVariables false
set_option maxRecDepth 4000
namespace Go.Proofs.YtkknpgebiihkfaaGreatDoor
namespace AI

/-- ids that increase -/
def incr (l : List Int) : Prop := ∀ j (h : j + 1 < l.length), l[j] < l[j + 1]
noncomputable instance (l : List Int) : Decidable (incr l) := Classical.propDecidable _

theorem incr_lt {l : List Int} (h : incr l) {i : Nat} : ∀ d (hd : i + d + 1 < l.length), l[i] < l[i + d + 1]
  | 0, hd => h i hd
  | d + 1, hd => Int.lt_trans (incr_lt h d (by omega)) (h (i + d + 1) hd)

theorem incr_mono {l : List Int} (h : incr l) {i j : Nat} (hij : i < j) (hj : j < l.length) : l[i] < l[j] := by
  obtain ⟨d, rfl⟩ : ∃ d, j = i + d + 1 := ⟨j - i - 1, by omega⟩
  exact incr_lt h d hj

def nids (N : List GN) : List Int := N.map GN.id
def eids (E : List GE) : List Int := E.map GE.id
@[simp] theorem nids_len (N : List GN) : (nids N).length = N.length := by simp [nids]
@[simp] theorem eids_len (N : List GE) : (eids N).length = N.length := by simp [eids]
theorem nids_at {N : List GN} {i : Nat} (h : i < N.length) : (nids N)[i]'(by simpa using h) = (N[i]).id := by simp [nids]
theorem eids_at {N : List GE} {i : Nat} (h : i < N.length) : (eids N)[i]'(by simpa using h) = (N[i]).id := by simp [eids]
theorem nid_lt {N : List GN} (h : incr (nids N)) {i j : Nat} (hij : i < j) (hj : j < N.length) : (N[i]).id < (N[j]).id := by
  have := incr_mono h hij (by simpa using hj)
  rwa [nids_at (by omega), nids_at hj] at this

theorem has1 {n : GN} {x : Int} : PureP (findFn tab) 62 [n.av, .int .i64 x] (· = .int .i64 (cmpI n.id x)) := by
  refine pureP_of rfl rfl ?_
  (conv => whnf); repeat' (first | ((with_reducible first | apply kN | apply kW | apply kX | apply kG | apply kQ); (· exact sd); conv => whnf) | (refine pcase.mk ?_ ?_ <;> intro hc <;> (try rw [List.length_nil] at hc) <;> first | (exfalso; omega) | (exact absurd rfl hc) | conv => whnf) | (refine callK_of compare ?_; rintro _ rfl; conv => whnf) | (refine bcase_intro ?_ ?_ <;> intro hc <;> conv => whnf))
  rfl

theorem bsearch {N : List GN} {nn : Bool} {x : Int} (hN : N.length < 2^62) (hi : incr (nids N)) : PureP (findFn tab) 61 [.sl nn (vs GN.av N), .int .i64 x, .fn 62 []] (fun v => ∃ z b, v = .tup [.int .i64 z, .bool b] ∧ (b = true ↔ x ∈ nids N)) := by
  have fin : ∀ i : Nat, i ≤ N.length → (∀ k (h : k < N.length), k < i → (N[k]).id < x) → (∀ k (h : k < N.length), i ≤ k → x ≤ (N[k]).id) → (x ∈ nids N ↔ ∃ h : i < N.length, (N[i]).id = x) := by
    intro i h0 h1 h2
    constructor
    · intro h
      obtain ⟨k, hk, e⟩ := List.getElem_of_mem h
      have hk' : k < N.length := by simpa using hk
      rw [nids_at hk'] at e
      have a1 := h1 k hk'
      have : i ≤ k := by
        rcases Nat.lt_or_ge k i with h | h
        · have := a1 h; omega
        · exact h
      rcases Nat.lt_or_ge i k with h | h
      · have := nid_lt hi h hk'
        have := h2 i (by omega) (Nat.le_refl _)
        omega
      · obtain rfl : i = k := by omega
        exact ⟨hk', e⟩
    · rintro ⟨h, e⟩
      rw [← e, ← nids_at h]
      exact List.getElem_mem _
  refine pureP_of rfl rfl ?_
  (conv => whnf); repeat' (first | ((with_reducible first | apply kN | apply kW | apply kX | apply kG | apply kQ); (· exact sd); conv => whnf) | (refine pcase.mk ?_ ?_ <;> intro hc <;> (try rw [List.length_nil] at hc) <;> first | (exfalso; omega) | (exact absurd rfl hc) | conv => whnf)  | (refine bcase_intro ?_ ?_ <;> intro hc <;> conv => whnf))
  refine loop_inv (fun m env s => ∃ (i j : Nat), m = j - i ∧ i ≤ j ∧ j ≤ N.length ∧ env = [(0, .sl nn (vs GN.av N)), (1, .int .i64 x), (2, .fn 62 []), (8, .int .i64 N.length), (9, .int .i64 i), (10, .int .i64 j)] ∧ s = ⟨[], 0⟩ ∧
    (∀ k (h : k < N.length), k < i → (N[k]).id < x) ∧ (∀ k (h : k < N.length), j ≤ k → x ≤ (N[k]).id)) ?_ _ _ _ ⟨0, N.length, rfl, by omega, by omega, by simp, rfl, fun k _ h => absurd h (by omega), fun k h1 h => absurd h (by omega)⟩
  rintro _ _ _ ⟨i, j, rfl, hij, hj, rfl, rfl, h1, h2⟩
  refine ⟨rfl, ?_⟩
  (conv => whnf); repeat' (first | (refine wrapU (i + j) (by omega) (by omega) ?_; conv => whnf) | (apply eqK_intro; (· exact shrE _); conv => whnf) | (refine callK_of has1 ?_; rintro _ rfl; conv => whnf) | ((with_reducible first | apply kN | apply kW | apply kX | apply kG | apply kQ); (· exact sd); conv => whnf) | (refine pcase.mk ?_ ?_ <;> intro hc <;> (try rw [List.length_nil] at hc) <;> first | (exfalso; omega) | (exact absurd rfl hc) | conv => whnf) | (refine bcase_intro ?_ ?_ <;> intro hc <;> conv => whnf))
  · have hm := cmpI_neg.1 hc
    exact again.mk ⟨_, by omega, (i + j) / 2 + 1, j, rfl, by omega, hj, rfl, rfl, fun k hk hlt => by
      rcases Nat.lt_or_ge k ((i + j) / 2) with h | h
      · exact Int.lt_trans (nid_lt hi h (by omega)) hm
      · obtain rfl : k = (i + j) / 2 := by omega
        exact hm, h2⟩
  · have hm := mt cmpI_neg.2 hc
    exact again.mk ⟨_, by omega, i, (i + j) / 2, rfl, by omega, by omega, rfl, rfl, h1, fun k hk hle => by
      rcases Nat.lt_or_ge ((i + j) / 2) k with h | h
      · have := nid_lt hi h hk; omega
      · obtain rfl : k = (i + j) / 2 := by omega
        omega⟩
  all_goals have hf := fin i (by omega) h1 (fun k hk h => h2 k hk (by omega))
  · exact ⟨_, _, rfl, fun _ => hf.2 ⟨by omega, cmpI_zero.1 hc⟩, fun _ => rfl⟩
  · exact ⟨_, _, rfl, fun h => (Bool.noConfusion h), fun h => absurd (cmpI_zero.2 (hf.1 h).2) hc⟩
  · exact ⟨_, _, rfl, fun h => (Bool.noConfusion h), fun h => absurd (hf.1 h).1 (by omega)⟩

theorem hasP {N : List GN} {nn : Bool} {x : Int} (hN : N.length < 2^62) (hi : incr (nids N)) : PureP (findFn tab) 29 [.sl nn (vs GN.av N), .int .i64 x] (· = .bool (decide (x ∈ nids N))) := by
  refine pureP_of rfl rfl ?_
  (conv => whnf); repeat' (first | ((with_reducible first | apply kN | apply kW | apply kX | apply kG | apply kQ); (· exact sd); conv => whnf) | (refine pcase.mk ?_ ?_ <;> intro hc <;> (try rw [List.length_nil] at hc) <;> first | (exfalso; omega) | (exact absurd rfl hc) | conv => whnf)  | (refine bcase_intro ?_ ?_ <;> intro hc <;> conv => whnf))
  refine callK_of (bsearch hN hi) ?_
  rintro _ ⟨z, b, rfl, hb⟩
  (conv => whnf); repeat' (first | ((with_reducible first | apply kN | apply kW | apply kX | apply kG | apply kQ); (· exact sd); conv => whnf) | (refine pcase.mk ?_ ?_ <;> intro hc <;> (try rw [List.length_nil] at hc) <;> first | (exfalso; omega) | (exact absurd rfl hc) | conv => whnf)  | (refine bcase_intro ?_ ?_ <;> intro hc <;> conv => whnf))
  · exact bool_t (hb.1 hc)
  · exact bool_f fun h => by rw [hb.2 h] at hc; cases hc

end AI
end Go.Proofs.YtkknpgebiihkfaaGreatDoor
set_option linter.unusedVariables false
namespace Go.Proofs.YtkknpgebiihkfaaGreatDoor
namespace AI

/-- the first that is not 0 -/
def firstE (f : Nat → Int) : Nat → Int
  | 0 => 0
  | n + 1 => if firstE f n = 0 then f n else firstE f n

theorem firstE_zero {f : Nat → Int} : ∀ {n : Nat}, firstE f n = 0 ↔ ∀ k, k < n → f k = 0
  | 0 => by simp [firstE]
  | n + 1 => by
    unfold firstE
    split
    · rename_i h
      have := firstE_zero.1 h
      refine ⟨fun h0 k hk => ?_, fun h0 => h0 n (by omega)⟩
      rcases Nat.lt_or_ge k n with h1 | h1
      · exact this k h1
      · obtain rfl : k = n := by omega
        exact h0
    · rename_i h
      exact ⟨fun h0 => absurd h0 h, fun h0 => absurd (firstE_zero.2 fun k hk => h0 k (by omega)) h⟩

theorem firstE_at {f : Nat → Int} {i : Nat} (h : ∀ k, k < i → f k = 0) (hi : f i ≠ 0) : ∀ {n : Nat}, i < n → firstE f n = f i
  | 0, hn => absurd hn (by omega)
  | n + 1, hn => by
    unfold firstE
    rcases Nat.lt_or_ge i n with h1 | h1
    · rw [firstE_at h hi h1, if_neg hi]
    · obtain rfl : i = n := by omega
      rw [if_pos (firstE_zero.2 h)]

/-- what is wrong with a node -/
noncomputable def nodeE (N : List GN) (nx : Int) (i : Nat) : Int :=
  match N[i]? with
  | none => 0
  | some n => if 0 < i ∧ (∃ m, N[i - 1]? = some m ∧ n.id ≤ m.id) then 26 else if n.id < 1 ∨ nx ≤ n.id then 1 else partsE n.labels n.props

/-- what is wrong with an edge -/
noncomputable def edgeE (N : List GN) (E : List GE) (nx : Int) (i : Nat) : Int :=
  match E[i]? with
  | none => 0
  | some e => if 0 < i ∧ (∃ m, E[i - 1]? = some m ∧ e.id ≤ m.id) then 26 else if e.id < 1 ∨ nx ≤ e.id then 1 else if ¬ (e.fr ∈ nids N ∧ e.to ∈ nids N) then 10 else if ¬ isName e.ty then 6 else partsE [] e.props

theorem node26 {N : List GN} {nx : Int} {i : Nat} (h : i < N.length) (h0 : 0 < i) (h1 : (N[i]).id ≤ (N[i - 1]).id) : nodeE N nx i = 26 := by
  unfold nodeE; rw [List.getElem?_eq_getElem h]; exact if_pos ⟨h0, _, List.getElem?_eq_getElem (by omega), h1⟩
theorem node_no {N : List GN} {i : Nat} (h : i < N.length) (h1 : 0 < i → ¬ (N[i]).id ≤ (N[i - 1]).id) : ¬ (0 < i ∧ ∃ m, N[i - 1]? = some m ∧ (N[i]).id ≤ m.id) := by
  rintro ⟨a, m, b, c⟩; rw [List.getElem?_eq_getElem (by omega)] at b; rw [← Option.some.inj b] at c; exact h1 a c
theorem node1 {N : List GN} {nx : Int} {i : Nat} (h : i < N.length) (h1 : 0 < i → ¬ (N[i]).id ≤ (N[i - 1]).id) (h2 : (N[i]).id < 1 ∨ nx ≤ (N[i]).id) : nodeE N nx i = 1 := by
  unfold nodeE; rw [List.getElem?_eq_getElem h]; dsimp only; rw [if_neg (node_no h h1), if_pos h2]
theorem nodeP {N : List GN} {nx : Int} {i : Nat} (h : i < N.length) (h1 : 0 < i → ¬ (N[i]).id ≤ (N[i - 1]).id) (h2 : ¬ ((N[i]).id < 1 ∨ nx ≤ (N[i]).id)) : nodeE N nx i = partsE (N[i]).labels (N[i]).props := by
  unfold nodeE; rw [List.getElem?_eq_getElem h]; dsimp only; rw [if_neg (node_no h h1), if_neg h2]
theorem node_ok {N : List GN} {nx : Int} {i : Nat} (h : i < N.length) (h0 : nodeE N nx i = 0) : (0 < i → (N[i - 1]).id < (N[i]).id) ∧ 1 ≤ (N[i]).id ∧ (N[i]).id < nx ∧ partsE (N[i]).labels (N[i]).props = 0 := by
  by_cases h1 : 0 < i ∧ (N[i]).id ≤ (N[i - 1]).id
  · rw [node26 h h1.1 h1.2] at h0; omega
  have h1' : 0 < i → ¬ (N[i]).id ≤ (N[i - 1]).id := fun a b => h1 ⟨a, b⟩
  by_cases h2 : (N[i]).id < 1 ∨ nx ≤ (N[i]).id
  · rw [node1 h h1' h2] at h0; omega
  rw [nodeP h h1' h2] at h0
  exact ⟨fun a => by have := h1' a; omega, by omega, by omega, h0⟩

theorem edge26 {N : List GN} {E : List GE} {nx : Int} {i : Nat} (h : i < E.length) (h0 : 0 < i) (h1 : (E[i]).id ≤ (E[i - 1]).id) : edgeE N E nx i = 26 := by
  unfold edgeE; rw [List.getElem?_eq_getElem h]; exact if_pos ⟨h0, _, List.getElem?_eq_getElem (by omega), h1⟩
theorem edge_no {E : List GE} {i : Nat} (h : i < E.length) (h1 : 0 < i → ¬ (E[i]).id ≤ (E[i - 1]).id) : ¬ (0 < i ∧ ∃ m, E[i - 1]? = some m ∧ (E[i]).id ≤ m.id) := by
  rintro ⟨a, m, b, c⟩; rw [List.getElem?_eq_getElem (by omega)] at b; rw [← Option.some.inj b] at c; exact h1 a c
theorem edge1 {N : List GN} {E : List GE} {nx : Int} {i : Nat} (h : i < E.length) (h1 : 0 < i → ¬ (E[i]).id ≤ (E[i - 1]).id) (h2 : (E[i]).id < 1 ∨ nx ≤ (E[i]).id) : edgeE N E nx i = 1 := by
  unfold edgeE; rw [List.getElem?_eq_getElem h]; dsimp only; rw [if_neg (edge_no h h1), if_pos h2]
theorem edge10 {N : List GN} {E : List GE} {nx : Int} {i : Nat} (h : i < E.length) (h1 : 0 < i → ¬ (E[i]).id ≤ (E[i - 1]).id) (h2 : ¬ ((E[i]).id < 1 ∨ nx ≤ (E[i]).id)) (h3 : ¬ ((E[i]).fr ∈ nids N ∧ (E[i]).to ∈ nids N)) : edgeE N E nx i = 10 := by
  unfold edgeE; rw [List.getElem?_eq_getElem h]; dsimp only; rw [if_neg (edge_no h h1), if_neg h2, if_pos h3]
theorem edge6 {N : List GN} {E : List GE} {nx : Int} {i : Nat} (h : i < E.length) (h1 : 0 < i → ¬ (E[i]).id ≤ (E[i - 1]).id) (h2 : ¬ ((E[i]).id < 1 ∨ nx ≤ (E[i]).id)) (h3 : (E[i]).fr ∈ nids N ∧ (E[i]).to ∈ nids N) (h4 : ¬ isName (E[i]).ty) : edgeE N E nx i = 6 := by
  unfold edgeE; rw [List.getElem?_eq_getElem h]; dsimp only; rw [if_neg (edge_no h h1), if_neg h2, if_neg (not_not_intro h3), if_pos h4]
theorem edgeP {N : List GN} {E : List GE} {nx : Int} {i : Nat} (h : i < E.length) (h1 : 0 < i → ¬ (E[i]).id ≤ (E[i - 1]).id) (h2 : ¬ ((E[i]).id < 1 ∨ nx ≤ (E[i]).id)) (h3 : (E[i]).fr ∈ nids N ∧ (E[i]).to ∈ nids N) (h4 : isName (E[i]).ty) : edgeE N E nx i = partsE [] (E[i]).props := by
  unfold edgeE; rw [List.getElem?_eq_getElem h]; dsimp only; rw [if_neg (edge_no h h1), if_neg h2, if_neg (not_not_intro h3), if_neg (not_not_intro h4)]
theorem edge_ok {N : List GN} {E : List GE} {nx : Int} {i : Nat} (h : i < E.length) (h0 : edgeE N E nx i = 0) : (0 < i → (E[i - 1]).id < (E[i]).id) ∧ 1 ≤ (E[i]).id ∧ (E[i]).id < nx ∧ (E[i]).fr ∈ nids N ∧ (E[i]).to ∈ nids N ∧ isName (E[i]).ty ∧ partsE [] (E[i]).props = 0 := by
  by_cases h1 : 0 < i ∧ (E[i]).id ≤ (E[i - 1]).id
  · rw [edge26 h h1.1 h1.2] at h0; omega
  have h1' : 0 < i → ¬ (E[i]).id ≤ (E[i - 1]).id := fun a b => h1 ⟨a, b⟩
  by_cases h2 : (E[i]).id < 1 ∨ nx ≤ (E[i]).id
  · rw [edge1 h h1' h2] at h0; omega
  by_cases h3 : (E[i]).fr ∈ nids N ∧ (E[i]).to ∈ nids N
  case neg => rw [edge10 h h1' h2 h3] at h0; omega
  by_cases h4 : isName (E[i]).ty
  case neg => rw [edge6 h h1' h2 h3 h4] at h0; omega
  rw [edgeP h h1' h2 h3 h4] at h0
  exact ⟨fun a => by have := h1' a; omega, by omega, by omega, h3.1, h3.2, h4, h0⟩

def fitsG (g : GG) : Prop := g.nodes.length ≤ 2000 ∧ g.edges.length ≤ 4000
def nextG (g : GG) : Prop := 1 ≤ g.nextN ∧ g.nextN ≤ 1000001 ∧ 1 ≤ g.nextE ∧ g.nextE ≤ 1000001
instance (g : GG) : Decidable (fitsG g) := by unfold fitsG; infer_instance
instance (g : GG) : Decidable (nextG g) := by unfold nextG; infer_instance

/-- the first error of a graph -/
noncomputable def checkE (g : GG) : Int :=
  if ¬ fitsG g then 4 else if ¬ nextG g then 1 else
    if firstE (nodeE g.nodes g.nextN) g.nodes.length = 0 then firstE (edgeE g.nodes g.edges g.nextE) g.edges.length else firstE (nodeE g.nodes g.nextN) g.nodes.length

theorem check4 {g : GG} (h : ¬ fitsG g) : AV.int .i64 4 = AV.int .i64 (checkE g) := by unfold checkE; rw [if_pos h]
theorem check1 {g : GG} (h : fitsG g) (h1 : ¬ nextG g) : AV.int .i64 1 = AV.int .i64 (checkE g) := by unfold checkE; rw [if_neg (not_not_intro h), if_pos h1]
theorem checkN {g : GG} (h : fitsG g) (h1 : nextG g) {i : Nat} (hi : i < g.nodes.length) (h2 : ∀ k, k < i → nodeE g.nodes g.nextN k = 0) {r : Int} (h3 : nodeE g.nodes g.nextN i = r) (hr : r ≠ 0) : AV.int .i64 r = AV.int .i64 (checkE g) := by
  subst h3
  unfold checkE
  rw [if_neg (not_not_intro h), if_neg (not_not_intro h1), firstE_at h2 hr hi, if_neg hr]
theorem checkEd {g : GG} (h : fitsG g) (h1 : nextG g) (hn : ∀ k, k < g.nodes.length → nodeE g.nodes g.nextN k = 0) {i : Nat} (hi : i < g.edges.length) (h2 : ∀ k, k < i → edgeE g.nodes g.edges g.nextE k = 0) {r : Int} (h3 : edgeE g.nodes g.edges g.nextE i = r) (hr : r ≠ 0) : AV.int .i64 r = AV.int .i64 (checkE g) := by
  subst h3
  unfold checkE
  rw [if_neg (not_not_intro h), if_neg (not_not_intro h1), if_pos (firstE_zero.2 hn), firstE_at h2 hr hi]
theorem check0 {g : GG} (h : fitsG g) (h1 : nextG g) (hn : ∀ k, k < g.nodes.length → nodeE g.nodes g.nextN k = 0) (h2 : ∀ k, k < g.edges.length → edgeE g.nodes g.edges g.nextE k = 0) : AV.int .i64 0 = AV.int .i64 (checkE g) := by
  unfold checkE
  rw [if_neg (not_not_intro h), if_neg (not_not_intro h1), if_pos (firstE_zero.2 hn), firstE_zero.2 h2]

theorem incr_nodes {N : List GN} {nx : Int} (h : ∀ k, k < N.length → nodeE N nx k = 0) : incr (nids N) := by
  intro j hj
  have hj' : j + 1 < N.length := by simpa using hj
  rw [nids_at (by omega), nids_at hj']
  exact (node_ok hj' (h _ hj')).1 (by omega)
theorem incr_edges {N : List GN} {E : List GE} {nx : Int} (h : ∀ k, k < E.length → edgeE N E nx k = 0) : incr (eids E) := by
  intro j hj
  have hj' : j + 1 < E.length := by simpa using hj
  rw [eids_at (by omega), eids_at hj']
  exact (edge_ok hj' (h _ hj')).1 (by omega)

/-- a valid graph -/
theorem check_ok {g : GG} (h : checkE g = 0) : fitsG g ∧ nextG g ∧ (∀ k, k < g.nodes.length → nodeE g.nodes g.nextN k = 0) ∧ ∀ k, k < g.edges.length → edgeE g.nodes g.edges g.nextE k = 0 := by
  unfold checkE at h
  by_cases h1 : fitsG g
  case neg => rw [if_pos h1] at h; omega
  by_cases h2 : nextG g
  case neg => rw [if_neg (not_not_intro h1), if_pos h2] at h; omega
  rw [if_neg (not_not_intro h1), if_neg (not_not_intro h2)] at h
  split at h
  · rename_i h3
    exact ⟨h1, h2, firstE_zero.1 h3, firstE_zero.1 h⟩
  · rename_i h3; exact absurd h h3

attribute [irreducible] nodeE edgeE checkE firstE

end AI
end Go.Proofs.YtkknpgebiihkfaaGreatDoor
set_option linter.unusedVariables false
namespace Go.Proofs.YtkknpgebiihkfaaGreatDoor
namespace AI

theorem all_lt_succ {f : Nat → Int} {i : Nat} (h : ∀ k, k < i → f k = 0) (hi : f i = 0) : ∀ k, k < i + 1 → f k = 0 := by
  intro k hk
  rcases Nat.lt_or_ge k i with h1 | h1
  · exact h k h1
  · obtain rfl : k = i := by omega
    exact hi

theorem partsN {n : GN} (h : n.ok) : PureP (findFn tab) 28 [.sl n.ln (vs .str n.labels), .sl n.pn (vs GP.av n.props)] (· = .int .i64 (partsE n.labels n.props)) :=
  parts1 h.2.1 h.2.2.2.1 h.2.2.2.2.1 h.2.2.2.2.2.2
theorem partsEd {n : GE} (h : n.ok) : PureP (findFn tab) 28 [.sl false [], .sl n.pn (vs GP.av n.props)] (· = .int .i64 (partsE [] n.props)) :=
  parts1 (L := []) (by decide) (by simp) h.2.2.2.2.1 h.2.2.2.2.2.2

theorem nodesL {g : GG} (hg : g.ok) (hf : fitsG g) (hnx : nextG g) {c : Nat} {Q : AExit → Env → Sto → Prop}
    (hret : ∀ r s, AV.int .i64 r = AV.int .i64 (checkE g) → Q .ret [(2, .int .i64 r)] s)
    (hend : (∀ k, k < g.nodes.length → nodeE g.nodes g.nextN k = 0) → ∀ c i, Q (.exit 0) [(1, .ref 0 0 0 0), (38, .sl g.nn (vs GN.av g.nodes)), (39, .int .i64 g.nodes.length), (40, .int .i64 i), (41, .bool false)] ⟨[.arr 0 4 true true [g.av]], c⟩) :
    Run (findFn tab) (.loop l14_0_h l14_0_b) [(1, .ref 0 0 0 0), (38, .sl g.nn (vs GN.av g.nodes)), (39, .int .i64 g.nodes.length), (40, .int .i64 0)] ⟨[.arr 0 4 true true [g.av]], c⟩ Q := by
  obtain ⟨g1, g2, g3, g4, g5, g6, g7, g8⟩ := hg
  unfold Ln at g1 g4
  have hf' : g.nodes.length ≤ 2000 := hf.1
  refine loop_inv (fun m env s => ∃ i : Nat, m = g.nodes.length - i ∧ env = [(1, .ref 0 0 0 0), (38, .sl g.nn (vs GN.av g.nodes)), (39, .int .i64 g.nodes.length), (40, .int .i64 i)] ∧ (∃ c, s = ⟨[.arr 0 4 true true [g.av]], c⟩) ∧ ∀ k, k < i → nodeE g.nodes g.nextN k = 0) ?_ _ _ _ ⟨0, rfl, by simp, ⟨_, rfl⟩, fun k h => absurd h (by omega)⟩
  rintro _ _ _ ⟨i, rfl, rfl, ⟨c, rfl⟩, hx⟩
  refine ⟨rfl, ?_⟩
  have hat : ∀ h : i < g.nodes.length, (g.nodes[i]).ok := fun h => g3 _ (List.getElem_mem _)
  (conv => whnf); repeat' (first | (apply nthK_intro; (· exact nVz (i - 1) (by omega) (by omega)); conv => whnf) | (refine callK_of (partsN (n := g.nodes[i]) (hat (by omega))) ?_; rintro _ rfl; conv => whnf) | (refine hret _ _ ?_) | (refine hend (fun k hk => hx k (by omega)) _ _) | ((with_reducible first | apply kN | apply kW | apply kX | apply kG | apply kQ); (· exact sd); conv => whnf) | (refine pcase.mk ?_ ?_ <;> intro hc <;> (try rw [List.length_nil] at hc) <;> first | (exfalso; omega) | (exact absurd rfl hc) | conv => whnf) | (refine bcase_intro ?_ ?_ <;> intro hc <;> conv => whnf))
  all_goals first
    | exact again.mk ⟨_, by omega, i + 1, rfl, rfl, ⟨_, rfl⟩, all_lt_succ hx ((nodeP (by omega) (fun h => by first | assumption | omega) (by omega)).trans hc)⟩
    | exact checkN hf hnx (by omega) hx (node26 (by omega) (by omega) (by assumption)) (by decide)
    | exact checkN hf hnx (by omega) hx (node1 (by omega) (fun h => by first | assumption | omega) (by omega)) (by decide)
    | exact checkN hf hnx (by omega) hx (nodeP (by omega) (fun h => by first | assumption | omega) (by omega)) hc

set_option maxHeartbeats 1000000 in
theorem edgesL {g : GG} (hg : g.ok) (hf : fitsG g) (hnx : nextG g) (hN : ∀ k, k < g.nodes.length → nodeE g.nodes g.nextN k = 0) {c : Nat} {Q : AExit → Env → Sto → Prop}
    (hret : ∀ r s, AV.int .i64 r = AV.int .i64 (checkE g) → Q .ret [(2, .int .i64 r)] s)
    (hend : (∀ k, k < g.edges.length → edgeE g.nodes g.edges g.nextE k = 0) → ∀ c i, Q (.exit 2) [(1, .ref 0 0 0 0), (79, .sl g.en (vs GE.av g.edges)), (80, .int .i64 g.edges.length), (81, .int .i64 i), (82, .bool false)] ⟨[.arr 0 4 true true [g.av]], c⟩) :
    Run (findFn tab) (.loop l14_1_h l14_1_b) [(1, .ref 0 0 0 0), (79, .sl g.en (vs GE.av g.edges)), (80, .int .i64 g.edges.length), (81, .int .i64 0)] ⟨[.arr 0 4 true true [g.av]], c⟩ Q := by
  obtain ⟨g1, g2, g3, g4, g5, g6, g7, g8⟩ := hg
  unfold Ln at g1 g4
  have hf' : g.edges.length ≤ 4000 := hf.2
  have hI := incr_nodes hN
  have hl : g.nodes.length < 2^62 := by have := hf.1; omega
  refine loop_inv (fun m env s => ∃ i : Nat, m = g.edges.length - i ∧ env = [(1, .ref 0 0 0 0), (79, .sl g.en (vs GE.av g.edges)), (80, .int .i64 g.edges.length), (81, .int .i64 i)] ∧ (∃ c, s = ⟨[.arr 0 4 true true [g.av]], c⟩) ∧ ∀ k, k < i → edgeE g.nodes g.edges g.nextE k = 0) ?_ _ _ _ ⟨0, rfl, by simp, ⟨_, rfl⟩, fun k h => absurd h (by omega)⟩
  rintro _ _ _ ⟨i, rfl, rfl, ⟨c, rfl⟩, hx⟩
  refine ⟨rfl, ?_⟩
  have hat : ∀ h : i < g.edges.length, (g.edges[i]).ok := fun h => g6 _ (List.getElem_mem _)
  (conv => whnf); repeat' (first | (apply nthK_intro; (· exact nVz (i - 1) (by omega) (by omega)); conv => whnf) | (refine callB (hasP hl hI) (fun hc => ?_) (fun hc => ?_) <;> conv => whnf) | (refine callB (name1 (s := (g.edges[i]).ty) (hat (by omega)).2.2.2.1) (fun hnm => ?_) (fun hnm => ?_) <;> conv => whnf) | (refine callK_of (partsEd (n := g.edges[i]) (hat (by omega))) ?_; rintro _ rfl; conv => whnf) | (refine hret _ _ ?_) | (refine hend (fun k hk => hx k (by omega)) _ _) | ((with_reducible first | apply kN | apply kW | apply kX | apply kG | apply kQ); (· exact sd); conv => whnf) | (refine pcase.mk ?_ ?_ <;> intro hc <;> (try rw [List.length_nil] at hc) <;> first | (exfalso; omega) | (exact absurd rfl hc) | conv => whnf) | (refine bcase_intro ?_ ?_ <;> intro hc <;> conv => whnf))
  all_goals first
    | exact again.mk ⟨_, by omega, i + 1, rfl, rfl, ⟨_, rfl⟩, all_lt_succ hx ((edgeP (by omega) (fun h => by first | assumption | omega) (by omega) ⟨by assumption, by assumption⟩ hnm).trans hc)⟩
    | exact checkEd hf hnx hN (by omega) hx (edge26 (by omega) (by omega) (by assumption)) (by decide)
    | exact checkEd hf hnx hN (by omega) hx (edge1 (by omega) (fun h => by first | assumption | omega) (by omega)) (by decide)
    | exact checkEd hf hnx hN (by omega) hx (edge10 (by omega) (fun h => by first | assumption | omega) (by omega) (fun h => by first | exact absurd h.1 (by assumption) | exact absurd h.2 (by assumption))) (by decide)
    | exact checkEd hf hnx hN (by omega) hx (edge6 (by omega) (fun h => by first | assumption | omega) (by omega) ⟨by assumption, by assumption⟩ hnm) (by decide)
    | exact checkEd hf hnx hN (by omega) hx (edgeP (by omega) (fun h => by first | assumption | omega) (by omega) ⟨by assumption, by assumption⟩ hnm) hc

theorem checkG {g : GG} (hg : g.ok) : PureP (findFn tab) 14 [g.av] (· = .int .i64 (checkE g)) := by
  have hg0 := hg
  obtain ⟨g1, g2, g3, g4, g5, g6, g7, g8⟩ := hg
  unfold Ln at g1 g4
  refine pureP_of rfl rfl ?_
  (conv => whnf); repeat' (first | ((with_reducible first | apply kN | apply kW | apply kX | apply kG | apply kQ); (· exact sd); conv => whnf) | (refine pcase.mk ?_ ?_ <;> intro hc <;> (try rw [List.length_nil] at hc) <;> first | (exfalso; omega) | (exact absurd rfl hc) | conv => whnf)  | (refine bcase_intro ?_ ?_ <;> intro hc <;> conv => whnf))
  all_goals first | exact check4 (by unfold fitsG; omega) | exact check1 (by unfold fitsG; omega) (by unfold nextG; omega) | skip
  have hf : fitsG g := by unfold fitsG; omega
  have hnx : nextG g := by unfold nextG; omega
  refine nodesL hg0 hf hnx (fun r s h => by (conv => whnf); (apply getK_intro; (· rfl); conv => whnf); (apply getK_intro; (· rfl); conv => whnf); exact h) (fun hN c i => ?_)
  (conv => whnf); repeat' (first | ((with_reducible first | apply kN | apply kW | apply kX | apply kG | apply kQ); (· exact sd); conv => whnf) | (refine pcase.mk ?_ ?_ <;> intro hc <;> (try rw [List.length_nil] at hc) <;> first | (exfalso; omega) | (exact absurd rfl hc) | conv => whnf)  | (refine bcase_intro ?_ ?_ <;> intro hc <;> conv => whnf))
  refine edgesL hg0 hf hnx hN (fun r s h => by (conv => whnf); (apply getK_intro; (· rfl); conv => whnf); (apply getK_intro; (· rfl); conv => whnf); exact h) (fun hE c i => ?_)
  (conv => whnf); repeat' (first | ((with_reducible first | apply kN | apply kW | apply kX | apply kG | apply kQ); (· exact sd); conv => whnf) | (refine pcase.mk ?_ ?_ <;> intro hc <;> (try rw [List.length_nil] at hc) <;> first | (exfalso; omega) | (exact absurd rfl hc) | conv => whnf)  | (refine bcase_intro ?_ ?_ <;> intro hc <;> conv => whnf))
  exact check0 hf hnx hN hE

end AI
end Go.Proofs.YtkknpgebiihkfaaGreatDoor
