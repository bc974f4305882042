/- Sequences in descending order, products of two sequences: plain. -/
import Derived.Test.YtokdbmakkoleiaaGreatVd
set_option linter.unusedVariables false
namespace Go.Proofs.YtokdbmakkoleiaaGreat
namespace AI

abbrev vi (l : List Int) : List AV := vs (.int .i64) l

/-- descending -/
def desc (l : List Int) : Prop := l.Pairwise (fun x y => y ≤ x)

theorem desc_unique : ∀ {a b : List Int}, a.Perm b → desc a → desc b → a = b
  | [], b, hp, _, _ => (List.nil_perm.1 hp).symm
  | x :: a, [], hp, _, _ => absurd (List.perm_nil.1 hp) (by simp)
  | x :: a, y :: b, hp, h1, h2 => by
    have h1' := List.pairwise_cons.1 h1
    have h2' := List.pairwise_cons.1 h2
    have hxy : x = y := by
      rcases List.mem_cons.1 (hp.mem_iff.1 (List.mem_cons_self ..)) with e | h
      · exact e
      rcases List.mem_cons.1 (hp.mem_iff.2 (List.mem_cons_self ..)) with e | h'
      · exact e.symm
      have := h1'.1 y h'
      have := h2'.1 x h
      omega
    subst hxy
    rw [desc_unique (List.Perm.cons_inv hp) h1'.2 h2'.2]

/-- the greater of a number and 0 -/
def m0 (x : Int) : Int := if x < 0 then 0 else x
theorem m0_mono {x y : Int} (h : x ≤ y) : m0 x ≤ m0 y := by unfold m0; split <;> split <;> omega
theorem desc_m0 {l : List Int} (h : desc l) : desc (l.map m0) := by
  rw [desc, List.pairwise_map]
  exact List.Pairwise.imp (fun h => m0_mono h) h

/-- an int of 64 bits -/
def w64 (z : Int) : Int := IntKind.i64.wrap z
theorem w64_in (z : Int) : -2^63 ≤ w64 z ∧ w64 z < 2^63 := by
  unfold w64
  simp [IntKind.wrap, IntKind.bits, IntKind.signed]
  split <;> omega
theorem w64_id {z : Int} (h : -2^63 ≤ z ∧ z < 2^63) : w64 z = z := wrap_i64 h.1 h.2

/-- the sum of products, place by place -/
def pwN (X Y : List Int) : Nat → Int
  | 0 => 0
  | i + 1 => w64 (pwN X Y i + w64 (X.getD i 0 * Y.getD i 0))
theorem pwN_comm (X Y : List Int) : ∀ i, pwN X Y i = pwN Y X i
  | 0 => rfl
  | i + 1 => by rw [pwN, pwN, pwN_comm X Y i, Int.mul_comm]
theorem pwN_in (X Y : List Int) : ∀ i, -2^63 ≤ pwN X Y i ∧ pwN X Y i < 2^63
  | 0 => by unfold pwN; omega
  | i + 1 => w64_in _

/-- the same, where only positive ones count -/
def prN (X Y : List Int) : Nat → Int
  | 0 => 0
  | i + 1 => if 0 < X.getD i 0 ∧ 0 < Y.getD i 0 then w64 (prN X Y i + w64 (X.getD i 0 * Y.getD i 0)) else prN X Y i

theorem getD_m0 (X : List Int) (i : Nat) : (X.map m0).getD i 0 = m0 (X.getD i 0) := by
  rw [List.getD, List.getD, List.getElem?_map]
  cases X[i]? with
  | none => rfl
  | some x => rfl

theorem pr_pw (X Y : List Int) : ∀ i, prN X Y i = pwN (X.map m0) (Y.map m0) i
  | 0 => rfl
  | i + 1 => by
    rw [prN, pwN, getD_m0, getD_m0, ← pr_pw X Y i]
    by_cases h1 : 0 < X.getD i 0
    · by_cases h2 : 0 < Y.getD i 0
      · rw [if_pos ⟨h1, h2⟩, show m0 (X.getD i 0) = X.getD i 0 from if_neg (by omega), show m0 (Y.getD i 0) = Y.getD i 0 from if_neg (by omega)]
      · rw [if_neg (fun h => h2 h.2)]
        have e : m0 (Y.getD i 0) = 0 := by unfold m0; split <;> omega
        rw [e, Int.mul_zero, show w64 0 = 0 from w64_id (by omega), Int.add_zero, w64_id]
        rw [pr_pw X Y i]; exact pwN_in _ _ _
    · rw [if_neg (fun h => h1 h.1)]
      have e : m0 (X.getD i 0) = 0 := by unfold m0; split <;> omega
      rw [e, Int.zero_mul, show w64 0 = 0 from w64_id (by omega), Int.add_zero, w64_id]
      rw [pr_pw X Y i]; exact pwN_in _ _ _

/-- the value of Pair -/
def pairV (X Y : List Int) : Int := pwN X Y (min X.length Y.length)
theorem pairV_comm (X Y : List Int) : pairV X Y = pairV Y X := by unfold pairV; rw [pwN_comm, Nat.min_comm]

end AI
end Go.Proofs.YtokdbmakkoleiaaGreat
