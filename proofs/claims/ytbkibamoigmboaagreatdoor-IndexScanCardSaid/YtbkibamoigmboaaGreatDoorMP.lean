/- Sorting in place: lists of a store against arrays of the library's plain sort. math/bits.Len and the next power of two. A sorted list without its repeated elements. -/
import Derived.Test.YtbkibamoigmboaaGreatDoorGrCode
import Derived.Test.YtbkibamoigmboaaGreatDoorMV
import Derived.Sort.AssemblyPlain
set_option linter.unusedVariables false
set_option maxRecDepth 4000
namespace Go.Proofs.YtbkibamoigmboaaGreatDoor
namespace AI
open Go.Sort

section
variable {α : Type} [Inhabited α] {f : α → AV}

theorem nP {d : Array α} {z : Int} (i : Nat) (hz : z = i) (h : i < d.size) : nth (vs f d.toList) (Int.toNat z) = some (f d[i]!) := by
  rw [nVz i hz (by simpa using h)]
  simp [h]

omit [Inhabited α] in
theorem tP {es : Nat} (hf : ∀ x, (f x).cells.length = es) {d : Array α} {z : Int} (i : Nat) (hz : z = i) {x y : α} : (vs f d.toList).set (Int.toNat z) (writeCells (f y) 0 (f x)) = vs f (d.setIfInBounds i x).toList := by
  subst hz
  have e : writeCells (f y) 0 (f x) = f x := by
    unfold writeCells
    rw [if_pos ⟨rfl, by rw [hf, hf]⟩]
  rw [e]
  show (vs f d.toList).set i (f x) = _
  simp [vs, List.map_set]

theorem nPK {d : Array α} {z : Int} {K : AV → Prop} (i : Nat) (k : K (f d[i]!)) (hz : z = i := by omega) (h : i < d.size := by first | omega | (simp; omega)) : nthK (vs f d.toList) (Int.toNat z) K := nthK_intro (nP i hz h) k
omit [Inhabited α] in
theorem tPK {es : Nat} (hf : ∀ x, (f x).cells.length = es) {d : Array α} {z : Int} {x y : α} {K : List AV → Prop} (i : Nat) (k : K (vs f (d.setIfInBounds i x).toList)) (hz : z = i := by omega) : eqK ((vs f d.toList).set (Int.toNat z) (writeCells (f y) 0 (f x))) K := eqK_intro (tP hf i hz) k

@[simp] theorem swp_sz (d : Array α) (i j : Nat) : (swp d i j).size = d.size := by simp [swp]

variable {lt : α → α → Bool} {a b i j hi first root : Nat} {d : Array α}

theorem ins_step (h1 : a < j + 1) (h2 : lt d[j + 1]! d[j]! = true) : insInner lt a (j + 1) d = insInner lt a j (swp d (j + 1) j) := by
  rw [insInner, if_pos (by simp [h1, h2])]
theorem ins_stop (h : a < j + 1 → lt d[j + 1]! d[j]! = false) : insInner lt a (j + 1) d = d := by
  rw [insInner, if_neg]
  simp only [Bool.and_eq_true, decide_eq_true_eq, not_and]
  intro h1 h2
  rw [h h1] at h2; cases h2
theorem ins_out (h : i < b) : insOuter lt a b i d = insOuter lt a b (i + 1) (insInner lt a i d) := by rw [insOuter, if_pos h]
theorem ins_end (h : ¬ i < b) : insOuter lt a b i d = d := by rw [insOuter, if_neg h]
@[simp] theorem insInner_sz : ∀ {j : Nat} {d : Array α}, (insInner lt a j d).size = d.size
  | 0, d => rfl
  | j + 1, d => by
    rw [insInner]
    split
    · rw [insInner_sz, swp_sz]
    · rfl

theorem sift_end (h : hi ≤ 2 * root + 1) : siftDown lt hi first root d = d := by
  rw [siftDown, dif_pos h]
theorem sift_R (h : 2 * root + 1 + 1 < hi) (h1 : lt d[first + (2 * root + 1)]! d[first + (2 * root + 1) + 1]! = true) (h2 : lt d[first + root]! d[first + (2 * root + 2)]! = true) :
    siftDown lt hi first root d = siftDown lt hi first (2 * root + 2) (swp d (first + root) (first + (2 * root + 2))) := by
  rw [siftDown, dif_neg (by omega), if_pos (by simp [h, h1]), if_neg (by simp [h2]), dif_pos (by omega)]
theorem sift_R0 (h : 2 * root + 1 + 1 < hi) (h1 : lt d[first + (2 * root + 1)]! d[first + (2 * root + 1) + 1]! = true) (h2 : lt d[first + root]! d[first + (2 * root + 2)]! = false) :
    siftDown lt hi first root d = d := by
  rw [siftDown, dif_neg (by omega), if_pos (by simp [h, h1]), if_pos (by simp [h2])]
theorem sift_L (h : ¬ hi ≤ 2 * root + 1) (h1 : 2 * root + 1 + 1 < hi → lt d[first + (2 * root + 1)]! d[first + (2 * root + 1) + 1]! = false) (h2 : lt d[first + root]! d[first + (2 * root + 1)]! = true) :
    siftDown lt hi first root d = siftDown lt hi first (2 * root + 1) (swp d (first + root) (first + (2 * root + 1))) := by
  rw [siftDown, dif_neg h, if_neg, if_neg (by simp [h2])]
  simp only [Bool.and_eq_true, decide_eq_true_eq, not_and]
  intro h3 h4
  rw [h1 h3] at h4; cases h4
theorem sift_L0 (h : ¬ hi ≤ 2 * root + 1) (h1 : 2 * root + 1 + 1 < hi → lt d[first + (2 * root + 1)]! d[first + (2 * root + 1) + 1]! = false) (h2 : lt d[first + root]! d[first + (2 * root + 1)]! = false) :
    siftDown lt hi first root d = d := by
  rw [siftDown, dif_neg h, if_neg, if_pos (by simp [h2])]
  simp only [Bool.and_eq_true, decide_eq_true_eq, not_and]
  intro h3 h4
  rw [h1 h3] at h4; cases h4
theorem siftDown_sz {lt : α → α → Bool} {hi first : Nat} : ∀ (n root : Nat) (d : Array α), hi - root ≤ n → (siftDown lt hi first root d).size = d.size := by
  intro n
  induction n with
  | zero => intro root d h; rw [sift_end (by omega)]
  | succ n ih =>
    intro root d h
    rw [siftDown]
    split
    · rfl
    · split
      · split
        · rfl
        · split
          · rw [ih _ _ (by omega), swp_sz]
          · rfl
      · split
        · rfl
        · rw [ih _ _ (by omega), swp_sz]
@[simp] theorem sift_sz : (siftDown lt hi first root d).size = d.size := siftDown_sz (hi - root) root d (Nat.le_refl _)
@[simp] theorem heapBuild_sz : ∀ {k : Nat} {d : Array α}, (heapBuild lt hi first k d).size = d.size
  | 0, d => rfl
  | k + 1, d => by rw [heapBuild, heapBuild_sz, sift_sz]

end

/-- a test that is a call -/
theorem callBb {AP : Nat → Option AFn} {f : Nat} {args : List AV} {b : Bool} {K : AV → Prop} (h : PureP AP f args (· = .bool b)) (h1 : b = true → K (.bool true)) (h2 : b = false → K (.bool false)) : callK AP f args K := by
  refine callK_of h ?_
  rintro _ rfl
  cases b with
  | true => exact h1 rfl
  | false => exact h2 rfl

theorem wrapD {z : Int} {K : AV → Prop} (n k : Nat) (hz : z = n) (h : n < 2^63) (h2 : K (.int .i64 ((n / k : Nat) : Int))) : wrapK .i64 (z.tdiv k) K := by
  subst hz
  have e : (n : Int).tdiv k = ((n / k : Nat) : Int) := by
    rw [Int.tdiv_eq_ediv_of_nonneg (by omega)]; rfl
  rw [e]
  have h3 : n / k ≤ n := Nat.div_le_self ..
  revert h2 h3 e
  generalize n / k = m
  intro h2 e h3
  exact wrapK_intro (wrap_i64 (by omega) (by omega)) h2

end AI
end Go.Proofs.YtbkibamoigmboaaGreatDoor
set_option linter.unusedVariables false
namespace Go.Proofs.YtbkibamoigmboaaGreatDoor
namespace AI
open Go.Sort

theorem wrap_u {k : IntKind} {z : Int} (hk : k.signed = false) (h : 0 ≤ z) (h2 : z < 2 ^ k.bits) : k.wrap z = z := by
  simp only [IntKind.wrap, hk, Bool.false_and, Bool.false_eq_true, if_false]
  exact Int.emod_eq_of_lt h h2

theorem wrapN {k : IntKind} {z : Int} {K : AV → Prop} (n : Nat) (hk : k.signed = false) (hz : z = n) (h : n < 2 ^ k.bits) (h2 : K (.int k n)) : wrapK k z K := by
  subst hz
  refine wrapK_intro (wrap_u hk (by omega) ?_) h2
  exact_mod_cast h

theorem bitsLen_div {n : Nat} (k : Nat) (h : 2 ^ k ≤ n) : bitsLen (n / 2 ^ k) + k = bitsLen n := by
  have h0 : k < bitsLen n := by
    rcases Nat.lt_or_ge k (bitsLen n) with h1 | h1
    · exact h1
    · have := (bitsLen_le_iff n k).1 h1; omega
  have e1 : bitsLen (n / 2 ^ k) ≤ bitsLen n - k := by
    rw [bitsLen_le_iff, Nat.div_lt_iff_lt_mul (Nat.two_pow_pos k), ← Nat.pow_add, Nat.sub_add_cancel (by omega)]
    exact lt_two_pow_bitsLen n
  have e2 : bitsLen n ≤ bitsLen (n / 2 ^ k) + k := by
    rw [bitsLen_le_iff, Nat.pow_add, ← Nat.div_lt_iff_lt_mul (Nat.two_pow_pos k)]
    exact lt_two_pow_bitsLen _
  omega

def lenTab : List UInt8 := [0, 1, 2, 2, 3, 3, 3, 3, 4, 4, 4, 4, 4, 4, 4, 4] ++ List.replicate 16 5 ++ List.replicate 32 6 ++ List.replicate 64 7 ++ List.replicate 128 8

theorem lenTab_all : (List.range 256).all (fun n => nth lenTab n == some (UInt8.ofNat (bitsLen n)) && Nat.ble (bitsLen n) 8) = true := by decide +kernel

theorem lenTab_at {n : Nat} (h : n < 256) : nth lenTab n = some (UInt8.ofNat (bitsLen n)) ∧ bitsLen n ≤ 8 := by
  have := List.all_eq_true.1 lenTab_all n (List.mem_range.2 h)
  rw [Bool.and_eq_true] at this
  exact ⟨by simpa using this.1, Nat.le_of_ble_eq_true this.2⟩

theorem shr32 (n : Nat) : ((n : Int)).fdiv (2 ^ (min (Int.toNat 32) IntKind.u64.bits)) = ((n / 2 ^ 32 : Nat) : Int) := by
  rw [show (2 : Int) ^ (min (Int.toNat 32) IntKind.u64.bits) = 4294967296 by rfl, Int.fdiv_eq_ediv_of_nonneg _ (by omega)]
  rfl
theorem shr16 (n : Nat) : ((n : Int)).fdiv (2 ^ (min (Int.toNat 16) IntKind.u64.bits)) = ((n / 2 ^ 16 : Nat) : Int) := by
  rw [show (2 : Int) ^ (min (Int.toNat 16) IntKind.u64.bits) = 65536 by rfl, Int.fdiv_eq_ediv_of_nonneg _ (by omega)]
  rfl
theorem shr8 (n : Nat) : ((n : Int)).fdiv (2 ^ (min (Int.toNat 8) IntKind.u64.bits)) = ((n / 2 ^ 8 : Nat) : Int) := by
  rw [show (2 : Int) ^ (min (Int.toNat 8) IntKind.u64.bits) = 256 by rfl, Int.fdiv_eq_ediv_of_nonneg _ (by omega)]
  rfl

theorem u8_nat {m : Nat} (h : m ≤ 8) : (UInt8.ofNat m).toNat = m := by
  rw [UInt8.toNat_ofNat']
  exact Nat.mod_eq_of_lt (by omega)

set_option maxRecDepth 100000 in
theorem lenK {n : Nat} {K : UInt8 → Prop} (hn : n < 256) (h : bitsLen n ≤ 8 → K (UInt8.ofNat (bitsLen n))) : nthK lenTab (Int.toNat (n : Int)) K :=
  nthK_intro (lenTab_at hn).1 (h (lenTab_at hn).2)

set_option maxRecDepth 100000 in
theorem len64 {n : Nat} (h : n < 2^64) : PureP (findFn tab) 132 [.int .u64 n] (· = .int .i64 (bitsLen n)) := by
  refine pureP_of rfl rfl ?_
  (conv => whnf); repeat' (first | (apply eqK_intro; (· first | exact shr32 _ | exact shr16 _ | exact shr8 _); conv => whnf) | (refine wrapN _ rfl rfl (by show _ < 256; omega) ?_; conv => whnf) | (refine lenK (by omega) (fun hb => ?_); rw [u8_nat hb]; conv => whnf) | ((with_reducible first | apply kN | apply kW | apply kX | apply kG | apply kQ); (· exact sd); conv => whnf) | (refine pcase.mk ?_ ?_ <;> intro hc <;> (try rw [List.length_nil] at hc) <;> first | (exfalso; omega) | (exact absurd rfl hc) | conv => whnf) | (refine bcase_intro ?_ ?_ <;> intro hc <;> conv => whnf))
  all_goals
    show AV.int _ _ = _
    congr 1
    first
      | (rw [← bitsLen_div 32 (n := n) (by omega), ← bitsLen_div 16 (n := n / 2 ^ 32) (by omega), ← bitsLen_div 8 (n := n / 2 ^ 32 / 2 ^ 16) (by omega)]; omega)
      | (rw [← bitsLen_div 32 (n := n) (by omega), ← bitsLen_div 16 (n := n / 2 ^ 32) (by omega)]; omega)
      | (rw [← bitsLen_div 32 (n := n) (by omega), ← bitsLen_div 8 (n := n / 2 ^ 32) (by omega)]; omega)
      | (rw [← bitsLen_div 32 (n := n) (by omega)]; omega)
      | (rw [← bitsLen_div 16 (n := n) (by omega), ← bitsLen_div 8 (n := n / 2 ^ 16) (by omega)]; omega)
      | (rw [← bitsLen_div 16 (n := n) (by omega)]; omega)
      | (rw [← bitsLen_div 8 (n := n) (by omega)]; omega)
      | omega

theorem bitsLenP {n : Nat} (h : n < 2^63) : PureP (findFn tab) 86 [.int .u64 n] (· = .int .i64 (bitsLen n)) := by
  refine pureP_of rfl rfl ?_
  (conv => whnf); repeat' (first | (refine callK_of (len64 (n := n) (by omega)) ?_; rintro _ rfl; conv => whnf) | ((with_reducible first | apply kN | apply kW | apply kX | apply kG | apply kQ); (· exact sd); conv => whnf) | (refine pcase.mk ?_ ?_ <;> intro hc <;> (try rw [List.length_nil] at hc) <;> first | (exfalso; omega) | (exact absurd rfl hc) | conv => whnf) | (refine bcase_intro ?_ ?_ <;> intro hc <;> conv => whnf))
  rfl

theorem pow2_next {n : Nat} (h : n < 2^62) (h0 : 0 < n) : PureP (findFn tab) 183 [.int .i64 n] (fun v => ∃ M : Nat, v = .int .u64 M ∧ n < M ∧ M ≤ 2 * n) := by
  have h1 := lt_two_pow_bitsLen n
  have h2 := two_pow_bitsLen_le h0
  have h3 : bitsLen n ≤ 62 := (bitsLen_le_iff n 62).2 h
  refine pureP_of rfl rfl ?_
  (conv => whnf); repeat' (first | (refine wrapN n rfl rfl (by show n < 2^64; omega) ?_; conv => whnf) | (refine callK_of (bitsLenP (n := n) (by omega)) ?_; rintro _ rfl; conv => whnf) | (refine wrapN (2 ^ bitsLen n) rfl ?_ (by show _ < 2^64; omega) ?_; (· rw [Int.one_mul, Int.toNat_natCast, Nat.min_eq_left (by show _ ≤ 64; omega)]; simp); conv => whnf) | ((with_reducible first | apply kN | apply kW | apply kX | apply kG | apply kQ); (· exact sd); conv => whnf) | (refine pcase.mk ?_ ?_ <;> intro hc <;> (try rw [List.length_nil] at hc) <;> first | (exfalso; omega) | (exact absurd rfl hc) | conv => whnf) | (refine bcase_intro ?_ ?_ <;> intro hc <;> conv => whnf))
  exact ⟨_, rfl, h1, h2⟩

section
variable {α : Type} [Inhabited α] {lt : α → α → Bool} {a b i j : Nat} {d : Array α}

theorem scanS_go (h : i < b) (h2 : lt d[i]! d[i - 1]! = false) : scanSorted lt d b i = scanSorted lt d b (i + 1) := by
  rw [scanSorted, if_pos (by simp [h, h2])]
theorem scanS_stop (h : i < b → lt d[i]! d[i - 1]! = true) : scanSorted lt d b i = i := by
  rw [scanSorted, if_neg]
  simp only [Bool.and_eq_true, decide_eq_true_eq, not_and]
  intro h1 h2
  rw [h h1] at h2; cases h2
theorem shD_go (h : lt d[j + 1]! d[j]! = true) : shiftDown lt (j + 1) d = shiftDown lt j (swp d (j + 1) j) := by
  rw [shiftDown, if_neg (by simp [h])]
theorem shD_stop (h : lt d[j + 1]! d[j]! = false) : shiftDown lt (j + 1) d = d := by
  rw [shiftDown, if_pos (by simp [h])]
theorem shU_go (h0 : j < b) (h : lt d[j]! d[j - 1]! = true) : shiftUp lt b j d = shiftUp lt b (j + 1) (swp d j (j - 1)) := by
  rw [shiftUp, if_pos h0, if_neg (by simp [h])]
theorem shU_stop (h : j < b → lt d[j]! d[j - 1]! = false) : shiftUp lt b j d = d := by
  rw [shiftUp]
  split
  · rename_i h0
    rw [if_pos (by simp [h h0])]
  · rfl
@[simp] theorem shD_sz : ∀ {j : Nat} {d : Array α}, (shiftDown lt j d).size = d.size
  | 0, d => rfl
  | j + 1, d => by
    rw [shiftDown]
    split
    · rfl
    · rw [shD_sz, swp_sz]
theorem shU_sz' : ∀ (n j : Nat) (d : Array α), b - j ≤ n → (shiftUp lt b j d).size = d.size
  | 0, j, d, h => by rw [shiftUp, if_neg (by omega)]
  | n + 1, j, d, h => by
    rw [shiftUp]
    split
    · split
      · rfl
      · rw [shU_sz' n _ _ (by omega), swp_sz]
    · rfl
@[simp] theorem shU_sz : (shiftUp lt b j d).size = d.size := shU_sz' (b - j) j d (Nat.le_refl _)
@[simp] theorem fixD_sz : (fixDown lt a i d).size = d.size := by unfold fixDown; split <;> simp
@[simp] theorem fixU_sz : (fixUp lt b i d).size = d.size := by unfold fixUp; split <;> simp

variable {p : α → Bool}
theorem scU_go (h : i ≤ j) (h2 : p d[i]! = true) : scanUp p d j i = scanUp p d j (i + 1) := by
  rw [scanUp, if_pos (by simp [h, h2])]
theorem scU_stop (h : i ≤ j → p d[i]! = false) : scanUp p d j i = i := by
  rw [scanUp, if_neg]
  simp only [Bool.and_eq_true, decide_eq_true_eq, not_and]
  intro h1 h2
  rw [h h1] at h2; cases h2
theorem scD_go (h : i ≤ j + 1) (h2 : p d[j + 1]! = true) : scanDown p d i (j + 1) = scanDown p d i j := by
  rw [scanDown, if_pos (by simp [h, h2])]
theorem scD_stop (h : i ≤ j → p d[j]! = false) : scanDown p d i j = j := by
  cases j with
  | zero => rfl
  | succ j =>
    rw [scanDown, if_neg]
    simp only [Bool.and_eq_true, decide_eq_true_eq, not_and]
    intro h1 h2
    rw [h h1] at h2; cases h2

end

theorem vC_seq {AP : Nat → Option AFn} {a b : ACode} {env : Env} {s : Sto} {Q : AExit → Env → Sto → Prop} (h : vC AP a env s (vSeq (fun env s => vC AP b env s Q) Q)) : vC AP (.seq a b) env s Q := h

theorem perm_of {α : Type} [Inhabited α] {L : List α} {D : Array α} {len : Nat} (hl : L.length = len) (h : PermIn 0 len L.toArray D) : D.toList.Perm L := by
  obtain ⟨h1, _, h3⟩ := h
  have e1 : D.size = len := by rw [h1]; simpa using hl
  have e2 : (D.extract 0 len).toList = D.toList := by rw [← e1]; simp
  have e3 : (L.toArray.extract 0 len).toList = L := by rw [← hl]; simp
  rw [e2, e3] at h3
  exact h3

theorem sorted_of {α : Type} [Inhabited α] {lt : α → α → Bool} {D : Array α} {len : Nat} (hl : D.size = len) (h : SortedIn lt 0 len D) : D.toList.Pairwise (fun x y => lt y x = false) := by
  rw [List.pairwise_iff_getElem]
  intro i j hi hj hij
  have := h i j (Nat.zero_le _) hij (by simpa [hl] using hj)
  simp only [Array.length_toList] at hi hj
  rw [getElem!_pos D j hj, getElem!_pos D i hi] at this
  simpa using this

end AI
end Go.Proofs.YtbkibamoigmboaaGreatDoor
set_option linter.unusedVariables false
namespace Go.Proofs.YtbkibamoigmboaaGreatDoor
namespace AI
open Go.Sort

theorem clr {C : CallF} {es o g off n : Nat} {nn cl : Bool} {x : AO} {env : Env} {σ : List Obj} {c : Nat} {elems : List AV} (hx : x.val env = .own o g off n) (ho : nth σ o = some (.arr g es nn cl elems)) (h : off + n ≤ elems.length) (hn : n ≠ 0) :
    evOp C (.clear es x) env ⟨σ, c⟩ = some (.ok .undef, ⟨σ.set o (.arr g es nn cl (elems.take off)), c⟩) := by
  simp [evOp, hx, ho, h, hn]

section
variable {α : Type} [Inhabited α]

theorem nPn {f : α → AV} {d : Array α} {m : Nat} (i : Nat) (hm : m = i) (h : i < d.size) : nth (vs f d.toList) m = some (f d[i]!) := by
  subst hm
  have := nP (f := f) (d := d) (z := (m : Int)) m rfl h
  exact this

open Classical in
/-- the first n elements, each that repeats its forerunner left out -/
noncomputable def cpn (d : Array α) : Nat → List α
  | 0 => []
  | n + 1 => if 0 < n ∧ d[n]! = d[n - 1]! then cpn d n else cpn d n ++ [d[n]!]

theorem cpn_same {d : Array α} {n : Nat} (h0 : 0 < n) (h : d[n]! = d[n - 1]!) : cpn d (n + 1) = cpn d n := if_pos ⟨h0, h⟩
theorem cpn_more {d : Array α} {n : Nat} (h : 0 < n → ¬ d[n]! = d[n - 1]!) : cpn d (n + 1) = cpn d n ++ [d[n]!] := if_neg fun h1 => h h1.1 h1.2
theorem cpn_len (d : Array α) : ∀ n, (cpn d n).length ≤ n
  | 0 => by simp [cpn]
  | n + 1 => by
    have := cpn_len d n
    unfold cpn
    split
    · omega
    · simp; omega

/-- nothing repeats: the elements themselves -/
theorem cpn_all {d : Array α} : ∀ n, n ≤ d.size → (∀ j, 0 < j → j < n → ¬ d[j]! = d[j - 1]!) → cpn d n = d.toList.take n
  | 0, _, _ => by simp [cpn]
  | n + 1, hn, h => by
    rw [cpn_more (fun h0 => h n h0 (by omega)), cpn_all n (by omega) fun j h0 hj => h j h0 (by omega), List.take_succ_eq_append_getElem (by simp; omega)]
    congr 2
    rw [getElem!_pos d n (by omega)]
    simp

theorem mem_cpn {d : Array α} {x : α} : ∀ n, n ≤ d.size → (x ∈ cpn d n ↔ x ∈ d.toList.take n)
  | 0, _ => by simp [cpn]
  | n + 1, hn => by
    have e : d[n]! = d.toList[n]'(by simp; omega) := by rw [getElem!_pos d n (by omega)]; simp
    rw [List.take_succ_eq_append_getElem (by simp; omega), List.mem_append, List.mem_singleton, ← e]
    by_cases h : 0 < n ∧ d[n]! = d[n - 1]!
    · rw [cpn_same h.1 h.2, mem_cpn n (by omega)]
      refine ⟨Or.inl, fun h1 => h1.elim id ?_⟩
      rintro rfl
      rw [h.2, getElem!_pos d (n - 1) (by omega)]
      rw [List.mem_take_iff_getElem]
      exact ⟨n - 1, by simp; omega, by simp⟩
    · rw [cpn_more (fun h0 h1 => h ⟨h0, h1⟩), List.mem_append, List.mem_singleton, mem_cpn n (by omega)]

/-- strictly increasing -/
theorem cpn_lt {lt : α → α → Bool} (hS : SWO lt) (htot : ∀ x y, lt x y = false → lt y x = false → x = y) {d : Array α} (hs : SortedIn lt 0 d.size d) : ∀ n, n ≤ d.size → (cpn d n).Pairwise (fun x y => lt x y = true)
  | 0, _ => by simp [cpn]
  | n + 1, hn => by
    have ih := cpn_lt hS htot hs n (by omega)
    by_cases h : 0 < n ∧ d[n]! = d[n - 1]!
    · rw [cpn_same h.1 h.2]; exact ih
    · rw [cpn_more (fun h0 h1 => h ⟨h0, h1⟩)]
      refine List.pairwise_append.2 ⟨ih, List.pairwise_singleton .., fun x hx y hy => ?_⟩
      obtain rfl := List.mem_singleton.1 hy
      rw [mem_cpn n (by omega), List.mem_take_iff_getElem] at hx
      obtain ⟨j, hj, rfl⟩ := hx
      simp only [Array.length_toList] at hj
      have ej : d.toList[j]'(by simp; omega) = d[j]! := by rw [getElem!_pos d j (by omega)]; simp
      rw [ej]
      cases hc : lt d[j]! d[n]! with
      | true => rfl
      | false =>
        exfalso
        have h1 := hs j n (by omega) (by omega) (by omega)
        have e1 := htot _ _ hc h1
        refine h ⟨by omega, ?_⟩
        rcases Nat.lt_or_ge j (n - 1) with h2 | h2
        · have h3 := hs j (n - 1) (by omega) h2 (by omega)
          have h4 := hs (n - 1) n (by omega) (by omega) (by omega)
          rw [e1] at h3
          exact htot _ _ h4 h3
        · obtain rfl : j = n - 1 := by omega
          exact e1.symm

omit [Inhabited α] in
/-- one strictly increasing list -/
theorem strict_unique {lt : α → α → Bool} (hS : SWO lt) : ∀ {a b : List α}, a.Pairwise (fun x y => lt x y = true) → b.Pairwise (fun x y => lt x y = true) → (∀ x, x ∈ a ↔ x ∈ b) → a = b
  | [], [], _, _, _ => rfl
  | [], y :: b, _, _, h => absurd ((h y).2 (List.mem_cons_self ..)) (by simp)
  | x :: a, [], _, _, h => absurd ((h x).1 (List.mem_cons_self ..)) (by simp)
  | x :: a, y :: b, ha, hb, h => by
    have ha' := List.pairwise_cons.1 ha
    have hb' := List.pairwise_cons.1 hb
    have hxy : x = y := by
      rcases List.mem_cons.1 ((h x).1 (List.mem_cons_self ..)) with e | hx
      · exact e
      rcases List.mem_cons.1 ((h y).2 (List.mem_cons_self ..)) with e | hy
      · exact e.symm
      have := hS.trans _ _ _ (ha'.1 y hy) (hb'.1 x hx)
      rw [hS.irrefl] at this; cases this
    subst hxy
    rw [strict_unique hS ha'.2 hb'.2 fun z => ?_]
    have hn1 : x ∉ a := fun h1 => by have := ha'.1 x h1; rw [hS.irrefl] at this; cases this
    have hn2 : x ∉ b := fun h1 => by have := hb'.1 x h1; rw [hS.irrefl] at this; cases this
    have := h z
    simp only [List.mem_cons] at this
    constructor
    · intro hz
      rcases this.1 (Or.inr hz) with rfl | h2
      · exact absurd hz hn1
      · exact h2
    · intro hz
      rcases this.2 (Or.inr hz) with rfl | h2
      · exact absurd hz hn2
      · exact h2

end
end AI
end Go.Proofs.YtbkibamoigmboaaGreatDoor
