/- Sorting in place: lists of a store against arrays of the library's plain sort. -/
import Derived.Test.YtokdbmakkoleiaaGreatGrCode
import Derived.Test.YtokdbmakkoleiaaGreatVe
import Derived.Sort.AssemblyPlain
set_option linter.unusedVariables false
namespace Go.Proofs.YtokdbmakkoleiaaGreat
namespace AI
open Go.Sort

section
variable {α : Type} [Inhabited α] {f : α → AV}

theorem nP {d : Array α} {z : Int} (i : Nat) (hz : z = i) (h : i < d.size) : nth (vs f d.toList) (Int.toNat z) = some (f d[i]!) := by
  rw [nVz i hz (by simpa using h)]
  simp [h]

omit [Inhabited α] in
theorem tP {es : Nat} (hf : ∀ x, (f x).cells.length = es) {d : Array α} {z : Int} (i : Nat) (hz : z = i) {x y : α} : (vs f d.toList).set (Int.toNat z) (writeCells (f y) 0 (f x)) = vs f (d.setIfInBounds i x).toList := by
  subst hz
  have e : writeCells (f y) 0 (f x) = f x := by
    unfold writeCells
    rw [if_pos ⟨rfl, by rw [hf, hf]⟩]
  rw [e]
  show (vs f d.toList).set i (f x) = _
  simp [vs, List.map_set]

theorem nPK {d : Array α} {z : Int} {K : AV → Prop} (i : Nat) (k : K (f d[i]!)) (hz : z = i := by omega) (h : i < d.size := by first | omega | (simp; omega)) : nthK (vs f d.toList) (Int.toNat z) K := nthK_intro (nP i hz h) k
omit [Inhabited α] in
theorem tPK {es : Nat} (hf : ∀ x, (f x).cells.length = es) {d : Array α} {z : Int} {x y : α} {K : List AV → Prop} (i : Nat) (k : K (vs f (d.setIfInBounds i x).toList)) (hz : z = i := by omega) : eqK ((vs f d.toList).set (Int.toNat z) (writeCells (f y) 0 (f x))) K := eqK_intro (tP hf i hz) k

@[simp] theorem swp_sz (d : Array α) (i j : Nat) : (swp d i j).size = d.size := by simp [swp]

variable {lt : α → α → Bool} {a b i j hi first root : Nat} {d : Array α}

theorem ins_step (h1 : a < j + 1) (h2 : lt d[j + 1]! d[j]! = true) : insInner lt a (j + 1) d = insInner lt a j (swp d (j + 1) j) := by
  rw [insInner, if_pos (by simp [h1, h2])]
theorem ins_stop (h : a < j + 1 → lt d[j + 1]! d[j]! = false) : insInner lt a (j + 1) d = d := by
  rw [insInner, if_neg]
  simp only [Bool.and_eq_true, decide_eq_true_eq, not_and]
  intro h1 h2
  rw [h h1] at h2; cases h2
theorem ins_out (h : i < b) : insOuter lt a b i d = insOuter lt a b (i + 1) (insInner lt a i d) := by rw [insOuter, if_pos h]
theorem ins_end (h : ¬ i < b) : insOuter lt a b i d = d := by rw [insOuter, if_neg h]
@[simp] theorem insInner_sz : ∀ {j : Nat} {d : Array α}, (insInner lt a j d).size = d.size
  | 0, d => rfl
  | j + 1, d => by
    rw [insInner]
    split
    · rw [insInner_sz, swp_sz]
    · rfl

theorem sift_end (h : hi ≤ 2 * root + 1) : siftDown lt hi first root d = d := by
  rw [siftDown, dif_pos h]
theorem sift_R (h : 2 * root + 1 + 1 < hi) (h1 : lt d[first + (2 * root + 1)]! d[first + (2 * root + 1) + 1]! = true) (h2 : lt d[first + root]! d[first + (2 * root + 2)]! = true) :
    siftDown lt hi first root d = siftDown lt hi first (2 * root + 2) (swp d (first + root) (first + (2 * root + 2))) := by
  rw [siftDown, dif_neg (by omega), if_pos (by simp [h, h1]), if_neg (by simp [h2]), dif_pos (by omega)]
theorem sift_R0 (h : 2 * root + 1 + 1 < hi) (h1 : lt d[first + (2 * root + 1)]! d[first + (2 * root + 1) + 1]! = true) (h2 : lt d[first + root]! d[first + (2 * root + 2)]! = false) :
    siftDown lt hi first root d = d := by
  rw [siftDown, dif_neg (by omega), if_pos (by simp [h, h1]), if_pos (by simp [h2])]
theorem sift_L (h : ¬ hi ≤ 2 * root + 1) (h1 : 2 * root + 1 + 1 < hi → lt d[first + (2 * root + 1)]! d[first + (2 * root + 1) + 1]! = false) (h2 : lt d[first + root]! d[first + (2 * root + 1)]! = true) :
    siftDown lt hi first root d = siftDown lt hi first (2 * root + 1) (swp d (first + root) (first + (2 * root + 1))) := by
  rw [siftDown, dif_neg h, if_neg, if_neg (by simp [h2])]
  simp only [Bool.and_eq_true, decide_eq_true_eq, not_and]
  intro h3 h4
  rw [h1 h3] at h4; cases h4
theorem sift_L0 (h : ¬ hi ≤ 2 * root + 1) (h1 : 2 * root + 1 + 1 < hi → lt d[first + (2 * root + 1)]! d[first + (2 * root + 1) + 1]! = false) (h2 : lt d[first + root]! d[first + (2 * root + 1)]! = false) :
    siftDown lt hi first root d = d := by
  rw [siftDown, dif_neg h, if_neg, if_pos (by simp [h2])]
  simp only [Bool.and_eq_true, decide_eq_true_eq, not_and]
  intro h3 h4
  rw [h1 h3] at h4; cases h4
theorem siftDown_sz {lt : α → α → Bool} {hi first : Nat} : ∀ (n root : Nat) (d : Array α), hi - root ≤ n → (siftDown lt hi first root d).size = d.size := by
  intro n
  induction n with
  | zero => intro root d h; rw [sift_end (by omega)]
  | succ n ih =>
    intro root d h
    rw [siftDown]
    split
    · rfl
    · split
      · split
        · rfl
        · split
          · rw [ih _ _ (by omega), swp_sz]
          · rfl
      · split
        · rfl
        · rw [ih _ _ (by omega), swp_sz]
@[simp] theorem sift_sz : (siftDown lt hi first root d).size = d.size := siftDown_sz (hi - root) root d (Nat.le_refl _)
@[simp] theorem heapBuild_sz : ∀ {k : Nat} {d : Array α}, (heapBuild lt hi first k d).size = d.size
  | 0, d => rfl
  | k + 1, d => by rw [heapBuild, heapBuild_sz, sift_sz]

end

/-- a test that is a call -/
theorem callBb {AP : Nat → Option AFn} {f : Nat} {args : List AV} {b : Bool} {K : AV → Prop} (h : PureP AP f args (· = .bool b)) (h1 : b = true → K (.bool true)) (h2 : b = false → K (.bool false)) : callK AP f args K := by
  refine callK_of h ?_
  rintro _ rfl
  cases b with
  | true => exact h1 rfl
  | false => exact h2 rfl

theorem wrapD {z : Int} {K : AV → Prop} (n k : Nat) (hz : z = n) (h : n < 2^63) (h2 : K (.int .i64 ((n / k : Nat) : Int))) : wrapK .i64 (z.tdiv k) K := by
  subst hz
  have e : (n : Int).tdiv k = ((n / k : Nat) : Int) := by
    rw [Int.tdiv_eq_ediv_of_nonneg (by omega)]; rfl
  rw [e]
  have h3 : n / k ≤ n := Nat.div_le_self ..
  revert h2 h3 e
  generalize n / k = m
  intro h2 e h3
  exact wrapK_intro (wrap_i64 (by omega) (by omega)) h2

end AI
end Go.Proofs.YtokdbmakkoleiaaGreat
