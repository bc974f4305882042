/- Ears and join forests: plain relations. -/
import Derived.Test.YtocgbgffpdphdaaHyR
set_option linter.unusedVariables false
namespace Go.Proofs.Ytocgbgffpdphdaa
namespace AI

abbrev on (G : List Bool) (k : Nat) : Bool := G.getD k false

theorem on_eq {G : List Bool} {k : Nat} (h : k < G.length) : on G k = G[k] := by simp [on, List.getD_eq_getElem?_getD, h]

/-- k is another edge that is still there -/
def live (L : List (List Int)) (G : List Bool) (i k : Nat) : Prop := k < L.length ∧ k ≠ i ∧ on G k = false
/-- x is a vertex of edge i that stands in another one -/
def com (L : List (List Int)) (G : List Bool) (i : Nat) (x : Int) : Prop := x ∈ nthL L i ∧ ∃ k, live L G i k ∧ x ∈ nthL L k
/-- edge k has all of them -/
def tak (L : List (List Int)) (G : List Bool) (i k : Nat) : Prop := live L G i k ∧ ∀ x, com L G i x → x ∈ nthL L k
/-- edge i is an ear, its parent p -/
def IsEar (L : List (List Int)) (G : List Bool) (i : Nat) (p : Int) : Prop :=
  (p = -1 ∧ ∀ x, ¬ com L G i x) ∨ ∃ k : Nat, p = k ∧ (∃ x, com L G i x) ∧ tak L G i k ∧ ∀ j < k, ¬ tak L G i j
def NoEar (L : List (List Int)) (G : List Bool) (i : Nat) : Prop := (∃ x, com L G i x) ∧ ∀ k, ¬ tak L G i k

theorem IsEar.not {L : List (List Int)} {G : List Bool} {i : Nat} {p : Int} (h : IsEar L G i p) : ¬ NoEar L G i := by
  rintro ⟨⟨x, hx⟩, hn⟩
  rcases h with ⟨_, h⟩ | ⟨k, _, _, h, _⟩
  · exact h x hx
  · exact hn k h

theorem IsEar.unique {L : List (List Int)} {G : List Bool} {i : Nat} {p q : Int} (h : IsEar L G i p) (h' : IsEar L G i q) : p = q := by
  rcases h with ⟨rfl, h⟩ | ⟨k, rfl, ⟨x, hx⟩, h1, h2⟩
  · rcases h' with ⟨rfl, _⟩ | ⟨k, _, ⟨x, hx⟩, _⟩
    · rfl
    · exact absurd hx (h x)
  · rcases h' with ⟨_, h'⟩ | ⟨k', rfl, _, h3, h4⟩
    · exact absurd hx (h' x)
    · have a1 : ¬ k' < k := fun h => h2 k' h h3
      have a2 : ¬ k < k' := fun h => h4 k h h1
      omega

/-- one ear is taken away: the first -/
def Takes (L : List (List Int)) (G : List Bool) (P : List Int) (G' : List Bool) (P' : List Int) : Prop :=
  ∃ (i : Nat) (p : Int), i < L.length ∧ on G i = false ∧ IsEar L G i p ∧ (∀ j < i, on G j = false → NoEar L G j) ∧ G' = G.set i true ∧ P' = P.set i p
/-- there is none -/
def Stuck (L : List (List Int)) (G : List Bool) : Prop := ∀ i < L.length, on G i = false → NoEar L G i

theorem Takes.not {L : List (List Int)} {G G' : List Bool} {P P' : List Int} (h : Takes L G P G' P') : ¬ Stuck L G := by
  obtain ⟨i, p, h1, h2, h3, _⟩ := h
  exact fun hs => h3.not (hs i h1 h2)

theorem Takes.unique {L : List (List Int)} {G G1 G2 : List Bool} {P P1 P2 : List Int} (h : Takes L G P G1 P1) (h' : Takes L G P G2 P2) : G1 = G2 ∧ P1 = P2 := by
  obtain ⟨i, p, h1, h2, h3, h4, rfl, rfl⟩ := h
  obtain ⟨j, q, k1, k2, k3, k4, rfl, rfl⟩ := h'
  have e : i = j := by
    rcases Nat.lt_trichotomy i j with h | h | h
    · exact absurd (k4 i h h2) h3.not
    · exact h
    · exact absurd (h4 j h k2) k3.not
  subst e
  rw [h3.unique k3]
  exact ⟨rfl, rfl⟩

/-- after k ears -/
inductive TRun (L : List (List Int)) : Nat → List Bool → List Int → Prop
  | zero : TRun L 0 (List.replicate L.length false) (List.replicate L.length 0)
  | succ {k : Nat} {G G' : List Bool} {P P' : List Int} : TRun L k G P → Takes L G P G' P' → TRun L (k + 1) G' P'

theorem TRun.unique {L : List (List Int)} {k : Nat} {G G' : List Bool} {P P' : List Int} (h : TRun L k G P) (h' : TRun L k G' P') : G = G' ∧ P = P' := by
  induction h generalizing G' P' with
  | zero => cases h'; exact ⟨rfl, rfl⟩
  | succ h1 h2 ih =>
    cases h' with
    | succ h3 h4 =>
      obtain ⟨rfl, rfl⟩ := ih h3
      exact h2.unique h4

theorem TRun.len {L : List (List Int)} {k : Nat} {G : List Bool} {P : List Int} (h : TRun L k G P) : G.length = L.length ∧ P.length = L.length := by
  induction h with
  | zero => simp
  | succ h1 h2 ih =>
    obtain ⟨i, p, _, _, _, _, rfl, rfl⟩ := h2
    simpa using ih

theorem TRun.pre {L : List (List Int)} {k : Nat} {G : List Bool} {P : List Int} (h : TRun L k G P) : ∀ j < k, ∃ G' P' G'' P'', TRun L j G' P' ∧ Takes L G' P' G'' P'' := by
  induction h with
  | zero => intro j hj; omega
  | @succ k G G' P P' h1 h2 ih =>
    intro j hj
    rcases Nat.lt_or_ge j k with h | h
    · exact ih j h
    · obtain rfl : j = k := by omega
      exact ⟨_, _, _, _, h1, h2⟩

/-- what both answer -/
def TreeR (n : Int) (L : List (List Int)) (v : AV) : Prop :=
  (Vld n L ∧ ∃ G P nn, TRun L L.length G P ∧ v = .tup [.sl nn (ints P), .bool true]) ∨
  (v = .tup [.sl false [], .bool false] ∧ (¬ Vld n L ∨ ∃ k G P, k < L.length ∧ TRun L k G P ∧ Stuck L G))

theorem treeR_excl {L : List (List Int)} {k : Nat} {G P G' P'} (h : TRun L L.length G P) (hk : k < L.length) (h' : TRun L k G' P') (hs : Stuck L G') : False := by
  obtain ⟨G1, P1, G2, P2, h1, h2⟩ := h.pre k hk
  obtain ⟨rfl, rfl⟩ := h1.unique h'
  exact h2.not hs

end AI
end Go.Proofs.Ytocgbgffpdphdaa
