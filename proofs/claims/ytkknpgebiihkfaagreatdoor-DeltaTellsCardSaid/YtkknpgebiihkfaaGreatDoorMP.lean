/- Comparing two numbers. Sorting in place: lists of a store against arrays of the library's plain sort. math/bits.Len and the next power of two. Orders: lexicographic, of numbers, of strings; the first that is not 0. -/
import Derived.Test.YtkknpgebiihkfaaGreatDoorGrCode
import Derived.Test.YtkknpgebiihkfaaGreatDoorMV
import Derived.Sort.AssemblyPlain
set_option linter.unusedVariables false
set_option maxRecDepth 4000
namespace Go.Proofs.YtkknpgebiihkfaaGreatDoor
namespace AI

theorem nan {x : Int} : PureP (findFn tab) 100 [.int .i64 x] (· = .bool (decide False)) := by
  refine pureP_of rfl rfl ?_
  (conv => whnf); repeat' (first  | ((with_reducible first | apply kN | apply kW | apply kX | apply kG | apply kQ); (· exact sd); conv => whnf) | (refine pcase.mk ?_ ?_ <;> intro hc <;> (try rw [List.length_nil] at hc) <;> first | (exfalso; omega) | (exact absurd rfl hc) | conv => whnf) | (refine bcase_intro ?_ ?_ <;> intro hc <;> conv => whnf))
  all_goals first | exact absurd rfl hc | rfl

/-- comparing two numbers -/
def cmpI (x y : Int) : Int := if x < y then -1 else if y < x then 1 else 0

theorem compare {x y : Int} : PureP (findFn tab) 63 [.int .i64 x, .int .i64 y] (· = .int .i64 (cmpI x y)) := by
  refine pureP_of rfl rfl ?_
  (conv => whnf); repeat' (first | (refine callB nan (fun hc => absurd hc id) (fun _ => ?_); conv => whnf) | ((with_reducible first | apply kN | apply kW | apply kX | apply kG | apply kQ); (· exact sd); conv => whnf) | (refine pcase.mk ?_ ?_ <;> intro hc <;> (try rw [List.length_nil] at hc) <;> first | (exfalso; omega) | (exact absurd rfl hc) | conv => whnf) | (refine bcase_intro ?_ ?_ <;> intro hc <;> conv => whnf))
  all_goals unfold cmpI; first | (rw [if_pos (by omega)]; rfl) | (rw [if_neg (by omega), if_pos (by omega)]; rfl) | (rw [if_neg (by omega), if_neg (by omega)]; rfl)

theorem cmpI_neg {x y : Int} : cmpI x y < 0 ↔ x < y := by unfold cmpI; split <;> (try split) <;> omega
theorem cmpI_zero {x y : Int} : cmpI x y = 0 ↔ x = y := by unfold cmpI; split <;> (try split) <;> omega

end AI
end Go.Proofs.YtkknpgebiihkfaaGreatDoor
set_option linter.unusedVariables false
namespace Go.Proofs.YtkknpgebiihkfaaGreatDoor
namespace AI
open Go.Sort

section
variable {α : Type} [Inhabited α] {f : α → AV}

theorem nP {d : Array α} {z : Int} (i : Nat) (hz : z = i) (h : i < d.size) : nth (vs f d.toList) (Int.toNat z) = some (f d[i]!) := by
  rw [nVz i hz (by simpa using h)]
  simp [h]

omit [Inhabited α] in
theorem tP {es : Nat} (hf : ∀ x, (f x).cells.length = es) {d : Array α} {z : Int} (i : Nat) (hz : z = i) {x y : α} : (vs f d.toList).set (Int.toNat z) (writeCells (f y) 0 (f x)) = vs f (d.setIfInBounds i x).toList := by
  subst hz
  have e : writeCells (f y) 0 (f x) = f x := by
    unfold writeCells
    rw [if_pos ⟨rfl, by rw [hf, hf]⟩]
  rw [e]
  show (vs f d.toList).set i (f x) = _
  simp [vs, List.map_set]

theorem nPK {d : Array α} {z : Int} {K : AV → Prop} (i : Nat) (k : K (f d[i]!)) (hz : z = i := by omega) (h : i < d.size := by first | omega | (simp; omega)) : nthK (vs f d.toList) (Int.toNat z) K := nthK_intro (nP i hz h) k
omit [Inhabited α] in
theorem tPK {es : Nat} (hf : ∀ x, (f x).cells.length = es) {d : Array α} {z : Int} {x y : α} {K : List AV → Prop} (i : Nat) (k : K (vs f (d.setIfInBounds i x).toList)) (hz : z = i := by omega) : eqK ((vs f d.toList).set (Int.toNat z) (writeCells (f y) 0 (f x))) K := eqK_intro (tP hf i hz) k

@[simp] theorem swp_sz (d : Array α) (i j : Nat) : (swp d i j).size = d.size := by simp [swp]

variable {lt : α → α → Bool} {a b i j hi first root : Nat} {d : Array α}

theorem ins_step (h1 : a < j + 1) (h2 : lt d[j + 1]! d[j]! = true) : insInner lt a (j + 1) d = insInner lt a j (swp d (j + 1) j) := by
  rw [insInner, if_pos (by simp [h1, h2])]
theorem ins_stop (h : a < j + 1 → lt d[j + 1]! d[j]! = false) : insInner lt a (j + 1) d = d := by
  rw [insInner, if_neg]
  simp only [Bool.and_eq_true, decide_eq_true_eq, not_and]
  intro h1 h2
  rw [h h1] at h2; cases h2
theorem ins_out (h : i < b) : insOuter lt a b i d = insOuter lt a b (i + 1) (insInner lt a i d) := by rw [insOuter, if_pos h]
theorem ins_end (h : ¬ i < b) : insOuter lt a b i d = d := by rw [insOuter, if_neg h]
@[simp] theorem insInner_sz : ∀ {j : Nat} {d : Array α}, (insInner lt a j d).size = d.size
  | 0, d => rfl
  | j + 1, d => by
    rw [insInner]
    split
    · rw [insInner_sz, swp_sz]
    · rfl

theorem sift_end (h : hi ≤ 2 * root + 1) : siftDown lt hi first root d = d := by
  rw [siftDown, dif_pos h]
theorem sift_R (h : 2 * root + 1 + 1 < hi) (h1 : lt d[first + (2 * root + 1)]! d[first + (2 * root + 1) + 1]! = true) (h2 : lt d[first + root]! d[first + (2 * root + 2)]! = true) :
    siftDown lt hi first root d = siftDown lt hi first (2 * root + 2) (swp d (first + root) (first + (2 * root + 2))) := by
  rw [siftDown, dif_neg (by omega), if_pos (by simp [h, h1]), if_neg (by simp [h2]), dif_pos (by omega)]
theorem sift_R0 (h : 2 * root + 1 + 1 < hi) (h1 : lt d[first + (2 * root + 1)]! d[first + (2 * root + 1) + 1]! = true) (h2 : lt d[first + root]! d[first + (2 * root + 2)]! = false) :
    siftDown lt hi first root d = d := by
  rw [siftDown, dif_neg (by omega), if_pos (by simp [h, h1]), if_pos (by simp [h2])]
theorem sift_L (h : ¬ hi ≤ 2 * root + 1) (h1 : 2 * root + 1 + 1 < hi → lt d[first + (2 * root + 1)]! d[first + (2 * root + 1) + 1]! = false) (h2 : lt d[first + root]! d[first + (2 * root + 1)]! = true) :
    siftDown lt hi first root d = siftDown lt hi first (2 * root + 1) (swp d (first + root) (first + (2 * root + 1))) := by
  rw [siftDown, dif_neg h, if_neg, if_neg (by simp [h2])]
  simp only [Bool.and_eq_true, decide_eq_true_eq, not_and]
  intro h3 h4
  rw [h1 h3] at h4; cases h4
theorem sift_L0 (h : ¬ hi ≤ 2 * root + 1) (h1 : 2 * root + 1 + 1 < hi → lt d[first + (2 * root + 1)]! d[first + (2 * root + 1) + 1]! = false) (h2 : lt d[first + root]! d[first + (2 * root + 1)]! = false) :
    siftDown lt hi first root d = d := by
  rw [siftDown, dif_neg h, if_neg, if_pos (by simp [h2])]
  simp only [Bool.and_eq_true, decide_eq_true_eq, not_and]
  intro h3 h4
  rw [h1 h3] at h4; cases h4
theorem siftDown_sz {lt : α → α → Bool} {hi first : Nat} : ∀ (n root : Nat) (d : Array α), hi - root ≤ n → (siftDown lt hi first root d).size = d.size := by
  intro n
  induction n with
  | zero => intro root d h; rw [sift_end (by omega)]
  | succ n ih =>
    intro root d h
    rw [siftDown]
    split
    · rfl
    · split
      · split
        · rfl
        · split
          · rw [ih _ _ (by omega), swp_sz]
          · rfl
      · split
        · rfl
        · rw [ih _ _ (by omega), swp_sz]
@[simp] theorem sift_sz : (siftDown lt hi first root d).size = d.size := siftDown_sz (hi - root) root d (Nat.le_refl _)
@[simp] theorem heapBuild_sz : ∀ {k : Nat} {d : Array α}, (heapBuild lt hi first k d).size = d.size
  | 0, d => rfl
  | k + 1, d => by rw [heapBuild, heapBuild_sz, sift_sz]

end

/-- a test that is a call -/
theorem callBb {AP : Nat → Option AFn} {f : Nat} {args : List AV} {b : Bool} {K : AV → Prop} (h : PureP AP f args (· = .bool b)) (h1 : b = true → K (.bool true)) (h2 : b = false → K (.bool false)) : callK AP f args K := by
  refine callK_of h ?_
  rintro _ rfl
  cases b with
  | true => exact h1 rfl
  | false => exact h2 rfl

theorem wrapD {z : Int} {K : AV → Prop} (n k : Nat) (hz : z = n) (h : n < 2^63) (h2 : K (.int .i64 ((n / k : Nat) : Int))) : wrapK .i64 (z.tdiv k) K := by
  subst hz
  have e : (n : Int).tdiv k = ((n / k : Nat) : Int) := by
    rw [Int.tdiv_eq_ediv_of_nonneg (by omega)]; rfl
  rw [e]
  have h3 : n / k ≤ n := Nat.div_le_self ..
  revert h2 h3 e
  generalize n / k = m
  intro h2 e h3
  exact wrapK_intro (wrap_i64 (by omega) (by omega)) h2

end AI
end Go.Proofs.YtkknpgebiihkfaaGreatDoor
set_option linter.unusedVariables false
namespace Go.Proofs.YtkknpgebiihkfaaGreatDoor
namespace AI
open Go.Sort

theorem wrap_u {k : IntKind} {z : Int} (hk : k.signed = false) (h : 0 ≤ z) (h2 : z < 2 ^ k.bits) : k.wrap z = z := by
  simp only [IntKind.wrap, hk, Bool.false_and, Bool.false_eq_true, if_false]
  exact Int.emod_eq_of_lt h h2

theorem wrapN {k : IntKind} {z : Int} {K : AV → Prop} (n : Nat) (hk : k.signed = false) (hz : z = n) (h : n < 2 ^ k.bits) (h2 : K (.int k n)) : wrapK k z K := by
  subst hz
  refine wrapK_intro (wrap_u hk (by omega) ?_) h2
  exact_mod_cast h

theorem bitsLen_div {n : Nat} (k : Nat) (h : 2 ^ k ≤ n) : bitsLen (n / 2 ^ k) + k = bitsLen n := by
  have h0 : k < bitsLen n := by
    rcases Nat.lt_or_ge k (bitsLen n) with h1 | h1
    · exact h1
    · have := (bitsLen_le_iff n k).1 h1; omega
  have e1 : bitsLen (n / 2 ^ k) ≤ bitsLen n - k := by
    rw [bitsLen_le_iff, Nat.div_lt_iff_lt_mul (Nat.two_pow_pos k), ← Nat.pow_add, Nat.sub_add_cancel (by omega)]
    exact lt_two_pow_bitsLen n
  have e2 : bitsLen n ≤ bitsLen (n / 2 ^ k) + k := by
    rw [bitsLen_le_iff, Nat.pow_add, ← Nat.div_lt_iff_lt_mul (Nat.two_pow_pos k)]
    exact lt_two_pow_bitsLen _
  omega

def lenTab : List UInt8 := [0, 1, 2, 2, 3, 3, 3, 3, 4, 4, 4, 4, 4, 4, 4, 4] ++ List.replicate 16 5 ++ List.replicate 32 6 ++ List.replicate 64 7 ++ List.replicate 128 8

theorem lenTab_all : (List.range 256).all (fun n => nth lenTab n == some (UInt8.ofNat (bitsLen n)) && Nat.ble (bitsLen n) 8) = true := by decide +kernel

theorem lenTab_at {n : Nat} (h : n < 256) : nth lenTab n = some (UInt8.ofNat (bitsLen n)) ∧ bitsLen n ≤ 8 := by
  have := List.all_eq_true.1 lenTab_all n (List.mem_range.2 h)
  rw [Bool.and_eq_true] at this
  exact ⟨by simpa using this.1, Nat.le_of_ble_eq_true this.2⟩

theorem shr32 (n : Nat) : ((n : Int)).fdiv (2 ^ (min (Int.toNat 32) IntKind.u64.bits)) = ((n / 2 ^ 32 : Nat) : Int) := by
  rw [show (2 : Int) ^ (min (Int.toNat 32) IntKind.u64.bits) = 4294967296 by rfl, Int.fdiv_eq_ediv_of_nonneg _ (by omega)]
  rfl
theorem shr16 (n : Nat) : ((n : Int)).fdiv (2 ^ (min (Int.toNat 16) IntKind.u64.bits)) = ((n / 2 ^ 16 : Nat) : Int) := by
  rw [show (2 : Int) ^ (min (Int.toNat 16) IntKind.u64.bits) = 65536 by rfl, Int.fdiv_eq_ediv_of_nonneg _ (by omega)]
  rfl
theorem shr8 (n : Nat) : ((n : Int)).fdiv (2 ^ (min (Int.toNat 8) IntKind.u64.bits)) = ((n / 2 ^ 8 : Nat) : Int) := by
  rw [show (2 : Int) ^ (min (Int.toNat 8) IntKind.u64.bits) = 256 by rfl, Int.fdiv_eq_ediv_of_nonneg _ (by omega)]
  rfl

theorem u8_nat {m : Nat} (h : m ≤ 8) : (UInt8.ofNat m).toNat = m := by
  rw [UInt8.toNat_ofNat']
  exact Nat.mod_eq_of_lt (by omega)

set_option maxRecDepth 100000 in
theorem lenK {n : Nat} {K : UInt8 → Prop} (hn : n < 256) (h : bitsLen n ≤ 8 → K (UInt8.ofNat (bitsLen n))) : nthK lenTab (Int.toNat (n : Int)) K :=
  nthK_intro (lenTab_at hn).1 (h (lenTab_at hn).2)

set_option maxRecDepth 100000 in
theorem len64 {n : Nat} (h : n < 2^64) : PureP (findFn tab) 97 [.int .u64 n] (· = .int .i64 (bitsLen n)) := by
  refine pureP_of rfl rfl ?_
  (conv => whnf); repeat' (first | (apply eqK_intro; (· first | exact shr32 _ | exact shr16 _ | exact shr8 _); conv => whnf) | (refine wrapN _ rfl rfl (by show _ < 256; omega) ?_; conv => whnf) | (refine lenK (by omega) (fun hb => ?_); rw [u8_nat hb]; conv => whnf) | ((with_reducible first | apply kN | apply kW | apply kX | apply kG | apply kQ); (· exact sd); conv => whnf) | (refine pcase.mk ?_ ?_ <;> intro hc <;> (try rw [List.length_nil] at hc) <;> first | (exfalso; omega) | (exact absurd rfl hc) | conv => whnf) | (refine bcase_intro ?_ ?_ <;> intro hc <;> conv => whnf))
  all_goals
    show AV.int _ _ = _
    congr 1
    first
      | (rw [← bitsLen_div 32 (n := n) (by omega), ← bitsLen_div 16 (n := n / 2 ^ 32) (by omega), ← bitsLen_div 8 (n := n / 2 ^ 32 / 2 ^ 16) (by omega)]; omega)
      | (rw [← bitsLen_div 32 (n := n) (by omega), ← bitsLen_div 16 (n := n / 2 ^ 32) (by omega)]; omega)
      | (rw [← bitsLen_div 32 (n := n) (by omega), ← bitsLen_div 8 (n := n / 2 ^ 32) (by omega)]; omega)
      | (rw [← bitsLen_div 32 (n := n) (by omega)]; omega)
      | (rw [← bitsLen_div 16 (n := n) (by omega), ← bitsLen_div 8 (n := n / 2 ^ 16) (by omega)]; omega)
      | (rw [← bitsLen_div 16 (n := n) (by omega)]; omega)
      | (rw [← bitsLen_div 8 (n := n) (by omega)]; omega)
      | omega

theorem bitsLenP {n : Nat} (h : n < 2^63) : PureP (findFn tab) 56 [.int .u64 n] (· = .int .i64 (bitsLen n)) := by
  refine pureP_of rfl rfl ?_
  (conv => whnf); repeat' (first | (refine callK_of (len64 (n := n) (by omega)) ?_; rintro _ rfl; conv => whnf) | ((with_reducible first | apply kN | apply kW | apply kX | apply kG | apply kQ); (· exact sd); conv => whnf) | (refine pcase.mk ?_ ?_ <;> intro hc <;> (try rw [List.length_nil] at hc) <;> first | (exfalso; omega) | (exact absurd rfl hc) | conv => whnf) | (refine bcase_intro ?_ ?_ <;> intro hc <;> conv => whnf))
  rfl

theorem pow2_next {n : Nat} (h : n < 2^62) (h0 : 0 < n) : PureP (findFn tab) 123 [.int .i64 n] (fun v => ∃ M : Nat, v = .int .u64 M ∧ n < M ∧ M ≤ 2 * n) := by
  have h1 := lt_two_pow_bitsLen n
  have h2 := two_pow_bitsLen_le h0
  have h3 : bitsLen n ≤ 62 := (bitsLen_le_iff n 62).2 h
  refine pureP_of rfl rfl ?_
  (conv => whnf); repeat' (first | (refine wrapN n rfl rfl (by show n < 2^64; omega) ?_; conv => whnf) | (refine callK_of (bitsLenP (n := n) (by omega)) ?_; rintro _ rfl; conv => whnf) | (refine wrapN (2 ^ bitsLen n) rfl ?_ (by show _ < 2^64; omega) ?_; (· rw [Int.one_mul, Int.toNat_natCast, Nat.min_eq_left (by show _ ≤ 64; omega)]; simp); conv => whnf) | ((with_reducible first | apply kN | apply kW | apply kX | apply kG | apply kQ); (· exact sd); conv => whnf) | (refine pcase.mk ?_ ?_ <;> intro hc <;> (try rw [List.length_nil] at hc) <;> first | (exfalso; omega) | (exact absurd rfl hc) | conv => whnf) | (refine bcase_intro ?_ ?_ <;> intro hc <;> conv => whnf))
  exact ⟨_, rfl, h1, h2⟩

section
variable {α : Type} [Inhabited α] {lt : α → α → Bool} {a b i j : Nat} {d : Array α}

theorem scanS_go (h : i < b) (h2 : lt d[i]! d[i - 1]! = false) : scanSorted lt d b i = scanSorted lt d b (i + 1) := by
  rw [scanSorted, if_pos (by simp [h, h2])]
theorem scanS_stop (h : i < b → lt d[i]! d[i - 1]! = true) : scanSorted lt d b i = i := by
  rw [scanSorted, if_neg]
  simp only [Bool.and_eq_true, decide_eq_true_eq, not_and]
  intro h1 h2
  rw [h h1] at h2; cases h2
theorem shD_go (h : lt d[j + 1]! d[j]! = true) : shiftDown lt (j + 1) d = shiftDown lt j (swp d (j + 1) j) := by
  rw [shiftDown, if_neg (by simp [h])]
theorem shD_stop (h : lt d[j + 1]! d[j]! = false) : shiftDown lt (j + 1) d = d := by
  rw [shiftDown, if_pos (by simp [h])]
theorem shU_go (h0 : j < b) (h : lt d[j]! d[j - 1]! = true) : shiftUp lt b j d = shiftUp lt b (j + 1) (swp d j (j - 1)) := by
  rw [shiftUp, if_pos h0, if_neg (by simp [h])]
theorem shU_stop (h : j < b → lt d[j]! d[j - 1]! = false) : shiftUp lt b j d = d := by
  rw [shiftUp]
  split
  · rename_i h0
    rw [if_pos (by simp [h h0])]
  · rfl
@[simp] theorem shD_sz : ∀ {j : Nat} {d : Array α}, (shiftDown lt j d).size = d.size
  | 0, d => rfl
  | j + 1, d => by
    rw [shiftDown]
    split
    · rfl
    · rw [shD_sz, swp_sz]
theorem shU_sz' : ∀ (n j : Nat) (d : Array α), b - j ≤ n → (shiftUp lt b j d).size = d.size
  | 0, j, d, h => by rw [shiftUp, if_neg (by omega)]
  | n + 1, j, d, h => by
    rw [shiftUp]
    split
    · split
      · rfl
      · rw [shU_sz' n _ _ (by omega), swp_sz]
    · rfl
@[simp] theorem shU_sz : (shiftUp lt b j d).size = d.size := shU_sz' (b - j) j d (Nat.le_refl _)
@[simp] theorem fixD_sz : (fixDown lt a i d).size = d.size := by unfold fixDown; split <;> simp
@[simp] theorem fixU_sz : (fixUp lt b i d).size = d.size := by unfold fixUp; split <;> simp

variable {p : α → Bool}
theorem scU_go (h : i ≤ j) (h2 : p d[i]! = true) : scanUp p d j i = scanUp p d j (i + 1) := by
  rw [scanUp, if_pos (by simp [h, h2])]
theorem scU_stop (h : i ≤ j → p d[i]! = false) : scanUp p d j i = i := by
  rw [scanUp, if_neg]
  simp only [Bool.and_eq_true, decide_eq_true_eq, not_and]
  intro h1 h2
  rw [h h1] at h2; cases h2
theorem scD_go (h : i ≤ j + 1) (h2 : p d[j + 1]! = true) : scanDown p d i (j + 1) = scanDown p d i j := by
  rw [scanDown, if_pos (by simp [h, h2])]
theorem scD_stop (h : i ≤ j → p d[j]! = false) : scanDown p d i j = j := by
  cases j with
  | zero => rfl
  | succ j =>
    rw [scanDown, if_neg]
    simp only [Bool.and_eq_true, decide_eq_true_eq, not_and]
    intro h1 h2
    rw [h h1] at h2; cases h2

end

theorem vC_seq {AP : Nat → Option AFn} {a b : ACode} {env : Env} {s : Sto} {Q : AExit → Env → Sto → Prop} (h : vC AP a env s (vSeq (fun env s => vC AP b env s Q) Q)) : vC AP (.seq a b) env s Q := h

theorem perm_of {α : Type} [Inhabited α] {L : List α} {D : Array α} {len : Nat} (hl : L.length = len) (h : PermIn 0 len L.toArray D) : D.toList.Perm L := by
  obtain ⟨h1, _, h3⟩ := h
  have e1 : D.size = len := by rw [h1]; simpa using hl
  have e2 : (D.extract 0 len).toList = D.toList := by rw [← e1]; simp
  have e3 : (L.toArray.extract 0 len).toList = L := by rw [← hl]; simp
  rw [e2, e3] at h3
  exact h3

theorem sorted_of {α : Type} [Inhabited α] {lt : α → α → Bool} {D : Array α} {len : Nat} (hl : D.size = len) (h : SortedIn lt 0 len D) : D.toList.Pairwise (fun x y => lt y x = false) := by
  rw [List.pairwise_iff_getElem]
  intro i j hi hj hij
  have := h i j (Nat.zero_le _) hij (by simpa [hl] using hj)
  simp only [Array.length_toList] at hi hj
  rw [getElem!_pos D j hj, getElem!_pos D i hi] at this
  simpa using this

end AI
end Go.Proofs.YtkknpgebiihkfaaGreatDoor
set_option linter.unusedVariables false
namespace Go.Proofs.YtkknpgebiihkfaaGreatDoor
namespace AI
open Go.Sort

def fst0 (a b : Int) : Int := if a = 0 then b else a
def cS (x y : List UInt8) : Int := if Op.bytesLess x y = true then -1 else if Op.bytesLess y x = true then 1 else 0
/-- compares, as a total preorder -/
structure PC {α : Type} (c : α → α → Int) : Prop where
  anti : ∀ x y, c y x = - c x y
  trans : ∀ x y z, c x y ≤ 0 → c y z ≤ 0 → c x z ≤ 0

theorem PC.lex {α : Type} {c d : α → α → Int} (hc : PC c) (hd : PC d) : PC fun x y => fst0 (c x y) (d x y) where
  anti x y := by
    have h1 := hc.anti x y
    have h2 := hd.anti x y
    unfold fst0; split <;> split <;> omega
  trans x y z h1 h2 := by
    have a1 := hc.trans x y z
    have a2 := hc.trans y z x
    have a3 := hc.trans z x y
    have b1 := hc.anti x y
    have b2 := hc.anti y z
    have b3 := hc.anti x z
    have d1 := hd.trans x y z
    unfold fst0 at *
    split at h1 <;> split at h2 <;> split <;> omega
theorem PC.on {α β : Type} {c : β → β → Int} (h : PC c) (p : α → β) : PC fun x y => c (p x) (p y) := ⟨fun x y => h.anti _ _, fun x y z => h.trans _ _ _⟩
theorem pc_int : PC cmpI where
  anti x y := by unfold cmpI; repeat' split
                 all_goals omega
  trans x y z := by unfold cmpI; repeat' split
                    all_goals omega
theorem bl_less : ∀ (x y : List UInt8), Op.bytesLess x y = decide (x < y)
  | [], [] => by simp [Op.bytesLess]
  | _ :: _, [] => by simp [Op.bytesLess]
  | [], _ :: _ => by simp [Op.bytesLess]
  | a :: x, b :: y => by
    rw [Op.bytesLess, bl_less x y]
    simp only [List.cons_lt_cons_iff]
    by_cases h1 : a < b <;> by_cases h2 : a = b <;> by_cases h3 : x < y <;> simp [h1, h2, h3]
theorem bl_eq (x y : List UInt8) : Op.bytesLess x y = ltStr x y := bl_less x y
theorem bl_tot {x y : List UInt8} (h1 : Op.bytesLess x y = false) (h2 : Op.bytesLess y x = false) : x = y := by
  rw [bl_eq] at h1 h2
  simp only [ltStr, decide_eq_false_iff_not] at h1 h2
  exact List.le_antisymm (List.not_lt.1 h2) (List.not_lt.1 h1)
theorem pc_str : PC cS where
  anti x y := by
    have h : Op.bytesLess x y = true → Op.bytesLess y x = true → False := fun a b => by
      rw [bl_eq] at a b
      have := swo_ltStr.trans x y x a b
      rw [swo_ltStr.irrefl] at this; cases this
    unfold cS
    by_cases a : Op.bytesLess x y = true <;> by_cases b : Op.bytesLess y x = true <;> simp [a, b]
    exact h a b
  trans x y z h1 h2 := by
    have n1 : Op.bytesLess y x = false := by
      unfold cS at h1
      split at h1
      · rename_i a
        cases hb : Op.bytesLess y x with
        | false => rfl
        | true =>
          rw [bl_eq] at a hb
          have := swo_ltStr.trans x y x a hb
          rw [swo_ltStr.irrefl] at this; cases this
      · split at h1
        · omega
        · rename_i b; simpa using b
    have n2 : Op.bytesLess z y = false := by
      unfold cS at h2
      split at h2
      · rename_i a
        cases hb : Op.bytesLess z y with
        | false => rfl
        | true =>
          rw [bl_eq] at a hb
          have := swo_ltStr.trans y z y a hb
          rw [swo_ltStr.irrefl] at this; cases this
      · split at h2
        · omega
        · rename_i b; simpa using b
    have n3 : Op.bytesLess z x = false := by rw [bl_eq] at *; exact swo_ltStr.ntrans z y x n2 n1
    unfold cS
    split
    · omega
    · rw [n3]; simp
theorem cS_zero {x y : List UInt8} : cS x y = 0 ↔ x = y := by
  constructor
  · intro h
    unfold cS at h
    split at h
    · omega
    · split at h
      · omega
      · rename_i a b; exact bl_tot (by simpa using a) (by simpa using b)
  · rintro rfl
    have := pc_str.anti x x
    omega
theorem fst0_zero {a b : Int} : fst0 a b = 0 ↔ a = 0 ∧ b = 0 := by unfold fst0; split <;> omega
theorem nanSR {x : List UInt8} : PureP (findFn tab) 132 [.str x] (· = .bool false) := by
  refine pureP_of rfl rfl ?_
  (conv => whnf); repeat' (first  | ((with_reducible first | apply kN | apply kW | apply kX | apply kG | apply kQ); (· exact sd); conv => whnf) | (refine pcase.mk ?_ ?_ <;> intro hc <;> (try rw [List.length_nil] at hc) <;> first | (exfalso; omega) | (exact absurd rfl hc) | conv => whnf) | (refine bcase_intro ?_ ?_ <;> intro hc <;> conv => whnf))
  all_goals first | rfl | (exfalso; simp_all) | (trace_state; fail "nanSR")
theorem cS_lt {x y : List UInt8} (h : Op.bytesLess x y = true) : AV.int .i64 (-1) = .int .i64 (cS x y) := by unfold cS; rw [if_pos h]
theorem cS_eq {x y : List UInt8} (h : Op.bytesLess x y = false) (h2 : (Op.bytesLess x y || x == y) = true) : AV.int .i64 0 = .int .i64 (cS x y) := by
  rw [h, Bool.false_or, beq_iff_eq] at h2
  rw [cS_zero.2 h2]
theorem cS_gt {x y : List UInt8} (h2 : (Op.bytesLess x y || x == y) = false) : AV.int .i64 1 = .int .i64 (cS x y) := by
  rw [Bool.or_eq_false_iff, beq_eq_false_iff_ne] at h2
  have h3 : Op.bytesLess y x = true := by
    cases h : Op.bytesLess y x with
    | true => rfl
    | false => exact absurd (bl_tot h2.1 h) h2.2
  unfold cS; rw [h2.1, h3]; rfl
theorem compareS {x y : List UInt8} : PureP (findFn tab) 106 [.str x, .str y] (· = .int .i64 (cS x y)) := by
  refine pureP_of rfl rfl ?_
  (conv => whnf); repeat' (first | (refine callK_of nanSR ?_; rintro _ rfl; conv => whnf) | ((with_reducible first | apply kN | apply kW | apply kX | apply kG | apply kQ); (· exact sd); conv => whnf) | (refine pcase.mk ?_ ?_ <;> intro hc <;> (try rw [List.length_nil] at hc) <;> first | (exfalso; omega) | (exact absurd rfl hc) | conv => whnf) | (refine bcase_intro ?_ ?_ <;> intro hc <;> conv => whnf))
  all_goals first | exact cS_lt hc | exact cS_eq (by assumption) hc | exact cS_gt hc | (trace_state; fail "compareS")
/-- the first that is not 0 -/
def fnz : List Int → Int
  | [] => 0
  | a :: l => fst0 a (fnz l)
theorem fnz_drop {l : List Int} {i : Nat} (h : i < l.length) : fnz (l.drop i) = fst0 l[i] (fnz (l.drop (i + 1))) := by
  rw [List.drop_eq_getElem_cons h]; rfl
theorem orV {l : List Int} {nn : Bool} (hl : l.length < 2^62) : PureP (findFn tab) 105 [.sl nn (vs (.int .i64) l)] (· = .int .i64 (fnz l)) := by
  refine pureP_of rfl rfl ?_
  (conv => whnf); repeat' (first  | ((with_reducible first | apply kN | apply kW | apply kX | apply kG | apply kQ); (· exact sd); conv => whnf) | (refine pcase.mk ?_ ?_ <;> intro hc <;> (try rw [List.length_nil] at hc) <;> first | (exfalso; omega) | (exact absurd rfl hc) | conv => whnf) | (refine bcase_intro ?_ ?_ <;> intro hc <;> conv => whnf))
  refine loop_inv (fun m env s => ∃ i : Nat, m = l.length - i ∧ fnz (l.drop i) = fnz l ∧ env = [(3, .int .i64 0), (6, .sl nn (vs (.int .i64) l)), (7, .int .i64 l.length), (8, .int .i64 i)] ∧ s = ⟨[], 0⟩) ?_ _ _ _ ⟨0, rfl, by simp, by first | rfl | (rw [← lV (f := .int .i64) l]; rfl), rfl⟩
  rintro _ _ _ ⟨i, rfl, hx, rfl, rfl⟩
  refine ⟨rfl, ?_⟩
  by_cases hlt : i < l.length
  · rw [fnz_drop hlt] at hx
    unfold fst0 at hx
    (conv => whnf); repeat' (first  | ((with_reducible first | apply kN | apply kW | apply kX | apply kG | apply kQ); (· exact sd); conv => whnf) | (refine pcase.mk ?_ ?_ <;> intro hc <;> (try rw [List.length_nil] at hc) <;> first | (exfalso; omega) | (exact absurd rfl hc) | conv => whnf) | (refine bcase_intro ?_ ?_ <;> intro hc <;> conv => whnf))
    all_goals first
      | (rw [if_pos (by assumption)] at hx; exact again.mk ⟨_, by omega, i + 1, rfl, hx, rfl, rfl⟩)
      | (rw [if_neg (by assumption)] at hx; rw [← hx]; rfl)
      | (trace_state; fail "orV")
  · rw [List.drop_eq_nil_of_le (by omega)] at hx
    (conv => whnf); repeat' (first  | ((with_reducible first | apply kN | apply kW | apply kX | apply kG | apply kQ); (· exact sd); conv => whnf) | (refine pcase.mk ?_ ?_ <;> intro hc <;> (try rw [List.length_nil] at hc) <;> first | (exfalso; omega) | (exact absurd rfl hc) | conv => whnf) | (refine bcase_intro ?_ ?_ <;> intro hc <;> conv => whnf))
    all_goals first | (rw [← hx]; rfl) | (trace_state; fail "orV2")

theorem bcaseD {p t e : Prop} [Decidable p] (h1 : p → t) (h2 : ¬ p → e) : bcase (decide p) t e :=
  bcase_intro (fun h => h1 (of_decide_eq_true h)) (fun h => h2 (of_decide_eq_false h))
theorem bcaseN {p t e : Prop} [Decidable p] (h1 : p → e) (h2 : ¬ p → t) : bcase (decide (¬ p)) t e :=
  bcase_intro (fun h => h2 (of_decide_eq_true h)) (fun h => h1 (Decidable.not_not.1 (of_decide_eq_false h)))
/-- less by a comparison -/
theorem PC.swo {α : Type} {c : α → α → Int} (h : PC c) : SWO fun x y => decide (c x y < 0) where
  irrefl x := decide_eq_false (by have := h.anti x x; omega)
  trans x y z h1 h2 := decide_eq_true (by
    have a := of_decide_eq_true h1
    have b := of_decide_eq_true h2
    have h3 := h.trans x y z (by omega) (by omega)
    have h4 := h.trans z x y
    have h5 := h.anti x z
    have h6 := h.anti y z
    omega)
  ntrans x y z h1 h2 := decide_eq_false (by
    have a := of_decide_eq_false h1
    have b := of_decide_eq_false h2
    have h3 := h.trans z y x
    have h4 := h.anti x y
    have h5 := h.anti y z
    have h6 := h.anti x z
    omega)

/-- putting one more into an increasing list -/
theorem ins_ok {α : Type} {lt : α → α → Bool} (hS : SWO lt) (htot : ∀ x y, lt x y = false → lt y x = false → x = y) {W : List α} {r : α} {i : Nat} (hW : W.Pairwise (fun x y => lt x y = true)) (h1 : ∀ x ∈ W.take i, lt x r = true) (h2 : ∀ h : i < W.length, lt W[i] r = false) :
    (W.take i ++ r :: (W.drop i).filter (lt r)).Pairwise (fun x y => lt x y = true) ∧ ∀ x, x ∈ W.take i ++ r :: (W.drop i).filter (lt r) ↔ x ∈ W ∨ x = r := by
  have h0 := List.take_append_drop i W
  rw [← h0] at hW
  rw [List.pairwise_append] at hW
  obtain ⟨a, b, c⟩ := hW
  constructor
  · rw [List.pairwise_append]
    refine ⟨a, ?_, fun x hx y hy => ?_⟩
    · rw [List.pairwise_cons]
      exact ⟨fun y hy => by simpa using (List.mem_filter.1 hy).2, b.filter _⟩
    · rcases List.mem_cons.1 hy with rfl | hy
      · exact h1 x hx
      · exact c x hx y (List.mem_filter.1 hy).1
  · have hge : ∀ x ∈ W.drop i, lt x r = false := by
      intro x hx
      have hi : i < W.length := by
        rcases Nat.lt_or_ge i W.length with h | h
        · exact h
        · rw [List.drop_eq_nil_of_le h] at hx; simp at hx
      rw [List.drop_eq_getElem_cons hi] at hx b
      rcases List.mem_cons.1 hx with rfl | hx
      · exact h2 hi
      · cases hh : lt x r with
        | false => rfl
        | true =>
          have h3 := (List.pairwise_cons.1 b).1 x hx
          have h4 := hS.trans _ _ _ h3 hh
          rw [h2 hi] at h4; cases h4
    intro x
    rw [List.mem_append, List.mem_cons, List.mem_filter]
    constructor
    · rintro (h | h | h)
      · exact .inl (List.mem_of_mem_take h)
      · exact .inr h
      · exact .inl (List.mem_of_mem_drop h.1)
    · rintro (h | h)
      · rw [← h0, List.mem_append] at h
        rcases h with h | h
        · exact .inl h
        · cases hh : lt r x with
          | true => exact .inr (.inr ⟨h, rfl⟩)
          | false => exact .inr (.inl (htot _ _ (hge x h) hh))
      · exact .inr (.inl h)
theorem filter_take_succ {α : Type} {p : α → Bool} {l : List α} {k : Nat} (h : k < l.length) : (l.take (k + 1)).filter p = (l.take k).filter p ++ if p l[k] = true then [l[k]] else [] := by
  rw [List.take_succ_eq_append_getElem h, List.filter_append]
  congr 1
  simp only [List.filter_cons, List.filter_nil]

end AI
end Go.Proofs.YtkknpgebiihkfaaGreatDoor
