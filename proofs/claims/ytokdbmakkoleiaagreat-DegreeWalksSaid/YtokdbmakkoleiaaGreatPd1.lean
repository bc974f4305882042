/- math/bits.Len and the next power of two. -/
import Derived.Test.YtokdbmakkoleiaaGreatPd0
set_option linter.unusedVariables false
namespace Go.Proofs.YtokdbmakkoleiaaGreat
namespace AI
open Go.Sort

theorem wrap_u {k : IntKind} {z : Int} (hk : k.signed = false) (h : 0 ≤ z) (h2 : z < 2 ^ k.bits) : k.wrap z = z := by
  simp only [IntKind.wrap, hk, Bool.false_and, Bool.false_eq_true, if_false]
  exact Int.emod_eq_of_lt h h2

theorem wrapN {k : IntKind} {z : Int} {K : AV → Prop} (n : Nat) (hk : k.signed = false) (hz : z = n) (h : n < 2 ^ k.bits) (h2 : K (.int k n)) : wrapK k z K := by
  subst hz
  refine wrapK_intro (wrap_u hk (by omega) ?_) h2
  exact_mod_cast h

theorem bitsLen_div {n : Nat} (k : Nat) (h : 2 ^ k ≤ n) : bitsLen (n / 2 ^ k) + k = bitsLen n := by
  have h0 : k < bitsLen n := by
    rcases Nat.lt_or_ge k (bitsLen n) with h1 | h1
    · exact h1
    · have := (bitsLen_le_iff n k).1 h1; omega
  have e1 : bitsLen (n / 2 ^ k) ≤ bitsLen n - k := by
    rw [bitsLen_le_iff, Nat.div_lt_iff_lt_mul (Nat.two_pow_pos k), ← Nat.pow_add, Nat.sub_add_cancel (by omega)]
    exact lt_two_pow_bitsLen n
  have e2 : bitsLen n ≤ bitsLen (n / 2 ^ k) + k := by
    rw [bitsLen_le_iff, Nat.pow_add, ← Nat.div_lt_iff_lt_mul (Nat.two_pow_pos k)]
    exact lt_two_pow_bitsLen _
  omega

def lenTab : List UInt8 := [0, 1, 2, 2, 3, 3, 3, 3, 4, 4, 4, 4, 4, 4, 4, 4] ++ List.replicate 16 5 ++ List.replicate 32 6 ++ List.replicate 64 7 ++ List.replicate 128 8

theorem lenTab_all : (List.range 256).all (fun n => nth lenTab n == some (UInt8.ofNat (bitsLen n)) && Nat.ble (bitsLen n) 8) = true := by decide +kernel

theorem lenTab_at {n : Nat} (h : n < 256) : nth lenTab n = some (UInt8.ofNat (bitsLen n)) ∧ bitsLen n ≤ 8 := by
  have := List.all_eq_true.1 lenTab_all n (List.mem_range.2 h)
  rw [Bool.and_eq_true] at this
  exact ⟨by simpa using this.1, Nat.le_of_ble_eq_true this.2⟩

theorem shr32 (n : Nat) : ((n : Int)).fdiv (2 ^ (min (Int.toNat 32) IntKind.u64.bits)) = ((n / 2 ^ 32 : Nat) : Int) := by
  rw [show (2 : Int) ^ (min (Int.toNat 32) IntKind.u64.bits) = 4294967296 by rfl, Int.fdiv_eq_ediv_of_nonneg _ (by omega)]
  rfl
theorem shr16 (n : Nat) : ((n : Int)).fdiv (2 ^ (min (Int.toNat 16) IntKind.u64.bits)) = ((n / 2 ^ 16 : Nat) : Int) := by
  rw [show (2 : Int) ^ (min (Int.toNat 16) IntKind.u64.bits) = 65536 by rfl, Int.fdiv_eq_ediv_of_nonneg _ (by omega)]
  rfl
theorem shr8 (n : Nat) : ((n : Int)).fdiv (2 ^ (min (Int.toNat 8) IntKind.u64.bits)) = ((n / 2 ^ 8 : Nat) : Int) := by
  rw [show (2 : Int) ^ (min (Int.toNat 8) IntKind.u64.bits) = 256 by rfl, Int.fdiv_eq_ediv_of_nonneg _ (by omega)]
  rfl

theorem u8_nat {m : Nat} (h : m ≤ 8) : (UInt8.ofNat m).toNat = m := by
  rw [UInt8.toNat_ofNat']
  exact Nat.mod_eq_of_lt (by omega)

set_option maxRecDepth 100000 in
theorem lenK {n : Nat} {K : UInt8 → Prop} (hn : n < 256) (h : bitsLen n ≤ 8 → K (UInt8.ofNat (bitsLen n))) : nthK lenTab (Int.toNat (n : Int)) K :=
  nthK_intro (lenTab_at hn).1 (h (lenTab_at hn).2)

set_option maxRecDepth 100000 in
theorem len64 {n : Nat} (h : n < 2^64) : PureP (findFn tab) 84 [.int .u64 n] (· = .int .i64 (bitsLen n)) := by
  refine pureP_of rfl rfl ?_
  (conv => whnf); repeat' (first | (apply eqK_intro; (· first | exact shr32 _ | exact shr16 _ | exact shr8 _); conv => whnf) | (refine wrapN _ rfl rfl (by show _ < 256; omega) ?_; conv => whnf) | (refine lenK (by omega) (fun hb => ?_); rw [u8_nat hb]; conv => whnf) | (refine need.mk ?_ ?_; (· (first | with_reducible rfl | omega | rfl | decide | trivial | exact ⟨rfl, rfl, by omega, by omega⟩ | exact ⟨by omega, by omega, roomy_of (by omega)⟩ | (refine ⟨rfl, rfl, ?_⟩; first | ((first | rw [lI] | rw [lS] | rw [lB] | rw [lV]); omega) | (simp; done) | (simp; omega)) | (refine ⟨rfl, ?_⟩; first | ((first | rw [lI] | rw [lS] | rw [lB] | rw [lV]); omega) | (simp; done) | (simp; omega)) | fail)); conv => whnf) | (refine pcase.mk (fun hc => ?_) (fun hc => ?_) <;> (try rw [List.length_nil] at hc) <;> first | (exfalso; omega) | (exact absurd rfl hc) | conv => whnf) | (apply wrapK_intro; (· exact wrap_i64 (by omega) (by omega)); conv => whnf) | (apply nthK_intro; (· (first | ((with_reducible first | refine nIN ?_ | refine nI ?_ | refine nSN ?_ | refine nS ?_ | refine nBN ?_ | refine nB ?_ | refine nYN ?_ | refine nY ?_ | refine nY0 ?_ | refine nVN ?_ | refine nV ?_); (first | omega | (simp; omega))) | rfl)); conv => whnf) | (apply getK_intro; (· rfl); conv => whnf) | (apply eqK_intro; (· (first | (with_reducible first | exact lI _ | exact lS _ | exact lB _ | exact uI | exact uS | exact uIS | exact uSS | exact rIN _ _ | exact rI _ _ | exact tIN | exact tI | exact tBN | exact tB | exact uB | exact rBN _ _ | exact lV _ | exact uV | exact uVS) | rfl)); conv => whnf) | ((first | apply apI | apply apS); (· first | rfl | (simp; done)); (· (first | omega | (simp; omega))); conv => whnf) | (refine fkI (fun hm => ?_) (fun _ v hm => ?_) <;> conv => whnf) | (apply msI; conv => whnf) | (refine bcase_intro (fun hc => ?_) (fun hc => ?_) <;> conv => whnf))
  all_goals
    show AV.int _ _ = _
    congr 1
    first
      | (rw [← bitsLen_div 32 (n := n) (by omega), ← bitsLen_div 16 (n := n / 2 ^ 32) (by omega), ← bitsLen_div 8 (n := n / 2 ^ 32 / 2 ^ 16) (by omega)]; omega)
      | (rw [← bitsLen_div 32 (n := n) (by omega), ← bitsLen_div 16 (n := n / 2 ^ 32) (by omega)]; omega)
      | (rw [← bitsLen_div 32 (n := n) (by omega), ← bitsLen_div 8 (n := n / 2 ^ 32) (by omega)]; omega)
      | (rw [← bitsLen_div 32 (n := n) (by omega)]; omega)
      | (rw [← bitsLen_div 16 (n := n) (by omega), ← bitsLen_div 8 (n := n / 2 ^ 16) (by omega)]; omega)
      | (rw [← bitsLen_div 16 (n := n) (by omega)]; omega)
      | (rw [← bitsLen_div 8 (n := n) (by omega)]; omega)
      | omega

theorem bitsLenP {n : Nat} (h : n < 2^63) : PureP (findFn tab) 63 [.int .u64 n] (· = .int .i64 (bitsLen n)) := by
  refine pureP_of rfl rfl ?_
  (conv => whnf); repeat' (first | (refine callK_of (len64 (n := n) (by omega)) ?_; rintro _ rfl; conv => whnf) | (refine need.mk ?_ ?_; (· (first | with_reducible rfl | omega | rfl | decide | trivial | exact ⟨rfl, rfl, by omega, by omega⟩ | exact ⟨by omega, by omega, roomy_of (by omega)⟩ | (refine ⟨rfl, rfl, ?_⟩; first | ((first | rw [lI] | rw [lS] | rw [lB] | rw [lV]); omega) | (simp; done) | (simp; omega)) | (refine ⟨rfl, ?_⟩; first | ((first | rw [lI] | rw [lS] | rw [lB] | rw [lV]); omega) | (simp; done) | (simp; omega)) | fail)); conv => whnf) | (refine pcase.mk (fun hc => ?_) (fun hc => ?_) <;> (try rw [List.length_nil] at hc) <;> first | (exfalso; omega) | (exact absurd rfl hc) | conv => whnf) | (apply wrapK_intro; (· exact wrap_i64 (by omega) (by omega)); conv => whnf) | (apply nthK_intro; (· (first | ((with_reducible first | refine nIN ?_ | refine nI ?_ | refine nSN ?_ | refine nS ?_ | refine nBN ?_ | refine nB ?_ | refine nYN ?_ | refine nY ?_ | refine nY0 ?_ | refine nVN ?_ | refine nV ?_); (first | omega | (simp; omega))) | rfl)); conv => whnf) | (apply getK_intro; (· rfl); conv => whnf) | (apply eqK_intro; (· (first | (with_reducible first | exact lI _ | exact lS _ | exact lB _ | exact uI | exact uS | exact uIS | exact uSS | exact rIN _ _ | exact rI _ _ | exact tIN | exact tI | exact tBN | exact tB | exact uB | exact rBN _ _ | exact lV _ | exact uV | exact uVS) | rfl)); conv => whnf) | ((first | apply apI | apply apS); (· first | rfl | (simp; done)); (· (first | omega | (simp; omega))); conv => whnf) | (refine fkI (fun hm => ?_) (fun _ v hm => ?_) <;> conv => whnf) | (apply msI; conv => whnf) | (refine bcase_intro (fun hc => ?_) (fun hc => ?_) <;> conv => whnf))
  rfl

theorem pow2_next {n : Nat} (h : n < 2^62) (h0 : 0 < n) : PureP (findFn tab) 96 [.int .i64 n] (fun v => ∃ M : Nat, v = .int .u64 M ∧ n < M ∧ M ≤ 2 * n) := by
  have h1 := lt_two_pow_bitsLen n
  have h2 := two_pow_bitsLen_le h0
  have h3 : bitsLen n ≤ 62 := (bitsLen_le_iff n 62).2 h
  refine pureP_of rfl rfl ?_
  (conv => whnf); repeat' (first | (refine wrapN n rfl rfl (by show n < 2^64; omega) ?_; conv => whnf) | (refine callK_of (bitsLenP (n := n) (by omega)) ?_; rintro _ rfl; conv => whnf) | (refine wrapN (2 ^ bitsLen n) rfl ?_ (by show _ < 2^64; omega) ?_; (· rw [Int.one_mul, Int.toNat_natCast, Nat.min_eq_left (by show _ ≤ 64; omega)]; simp); conv => whnf) | (refine need.mk ?_ ?_; (· (first | with_reducible rfl | omega | rfl | decide | trivial | exact ⟨rfl, rfl, by omega, by omega⟩ | exact ⟨by omega, by omega, roomy_of (by omega)⟩ | (refine ⟨rfl, rfl, ?_⟩; first | ((first | rw [lI] | rw [lS] | rw [lB] | rw [lV]); omega) | (simp; done) | (simp; omega)) | (refine ⟨rfl, ?_⟩; first | ((first | rw [lI] | rw [lS] | rw [lB] | rw [lV]); omega) | (simp; done) | (simp; omega)) | fail)); conv => whnf) | (refine pcase.mk (fun hc => ?_) (fun hc => ?_) <;> (try rw [List.length_nil] at hc) <;> first | (exfalso; omega) | (exact absurd rfl hc) | conv => whnf) | (apply wrapK_intro; (· exact wrap_i64 (by omega) (by omega)); conv => whnf) | (apply nthK_intro; (· (first | ((with_reducible first | refine nIN ?_ | refine nI ?_ | refine nSN ?_ | refine nS ?_ | refine nBN ?_ | refine nB ?_ | refine nYN ?_ | refine nY ?_ | refine nY0 ?_ | refine nVN ?_ | refine nV ?_); (first | omega | (simp; omega))) | rfl)); conv => whnf) | (apply getK_intro; (· rfl); conv => whnf) | (apply eqK_intro; (· (first | (with_reducible first | exact lI _ | exact lS _ | exact lB _ | exact uI | exact uS | exact uIS | exact uSS | exact rIN _ _ | exact rI _ _ | exact tIN | exact tI | exact tBN | exact tB | exact uB | exact rBN _ _ | exact lV _ | exact uV | exact uVS) | rfl)); conv => whnf) | ((first | apply apI | apply apS); (· first | rfl | (simp; done)); (· (first | omega | (simp; omega))); conv => whnf) | (refine fkI (fun hm => ?_) (fun _ v hm => ?_) <;> conv => whnf) | (apply msI; conv => whnf) | (refine bcase_intro (fun hc => ?_) (fun hc => ?_) <;> conv => whnf))
  exact ⟨_, rfl, h1, h2⟩

section
variable {α : Type} [Inhabited α] {lt : α → α → Bool} {a b i j : Nat} {d : Array α}

theorem scanS_go (h : i < b) (h2 : lt d[i]! d[i - 1]! = false) : scanSorted lt d b i = scanSorted lt d b (i + 1) := by
  rw [scanSorted, if_pos (by simp [h, h2])]
theorem scanS_stop (h : i < b → lt d[i]! d[i - 1]! = true) : scanSorted lt d b i = i := by
  rw [scanSorted, if_neg]
  simp only [Bool.and_eq_true, decide_eq_true_eq, not_and]
  intro h1 h2
  rw [h h1] at h2; cases h2
theorem shD_go (h : lt d[j + 1]! d[j]! = true) : shiftDown lt (j + 1) d = shiftDown lt j (swp d (j + 1) j) := by
  rw [shiftDown, if_neg (by simp [h])]
theorem shD_stop (h : lt d[j + 1]! d[j]! = false) : shiftDown lt (j + 1) d = d := by
  rw [shiftDown, if_pos (by simp [h])]
theorem shU_go (h0 : j < b) (h : lt d[j]! d[j - 1]! = true) : shiftUp lt b j d = shiftUp lt b (j + 1) (swp d j (j - 1)) := by
  rw [shiftUp, if_pos h0, if_neg (by simp [h])]
theorem shU_stop (h : j < b → lt d[j]! d[j - 1]! = false) : shiftUp lt b j d = d := by
  rw [shiftUp]
  split
  · rename_i h0
    rw [if_pos (by simp [h h0])]
  · rfl
@[simp] theorem shD_sz : ∀ {j : Nat} {d : Array α}, (shiftDown lt j d).size = d.size
  | 0, d => rfl
  | j + 1, d => by
    rw [shiftDown]
    split
    · rfl
    · rw [shD_sz, swp_sz]
theorem shU_sz' : ∀ (n j : Nat) (d : Array α), b - j ≤ n → (shiftUp lt b j d).size = d.size
  | 0, j, d, h => by rw [shiftUp, if_neg (by omega)]
  | n + 1, j, d, h => by
    rw [shiftUp]
    split
    · split
      · rfl
      · rw [shU_sz' n _ _ (by omega), swp_sz]
    · rfl
@[simp] theorem shU_sz : (shiftUp lt b j d).size = d.size := shU_sz' (b - j) j d (Nat.le_refl _)
@[simp] theorem fixD_sz : (fixDown lt a i d).size = d.size := by unfold fixDown; split <;> simp
@[simp] theorem fixU_sz : (fixUp lt b i d).size = d.size := by unfold fixUp; split <;> simp

variable {p : α → Bool}
theorem scU_go (h : i ≤ j) (h2 : p d[i]! = true) : scanUp p d j i = scanUp p d j (i + 1) := by
  rw [scanUp, if_pos (by simp [h, h2])]
theorem scU_stop (h : i ≤ j → p d[i]! = false) : scanUp p d j i = i := by
  rw [scanUp, if_neg]
  simp only [Bool.and_eq_true, decide_eq_true_eq, not_and]
  intro h1 h2
  rw [h h1] at h2; cases h2
theorem scD_go (h : i ≤ j + 1) (h2 : p d[j + 1]! = true) : scanDown p d i (j + 1) = scanDown p d i j := by
  rw [scanDown, if_pos (by simp [h, h2])]
theorem scD_stop (h : i ≤ j → p d[j]! = false) : scanDown p d i j = j := by
  cases j with
  | zero => rfl
  | succ j =>
    rw [scanDown, if_neg]
    simp only [Bool.and_eq_true, decide_eq_true_eq, not_and]
    intro h1 h2
    rw [h h1] at h2; cases h2

end

theorem vC_seq {AP : Nat → Option AFn} {a b : ACode} {env : Env} {s : Sto} {Q : AExit → Env → Sto → Prop} (h : vC AP a env s (vSeq (fun env s => vC AP b env s Q) Q)) : vC AP (.seq a b) env s Q := h

theorem perm_of {α : Type} [Inhabited α] {L : List α} {D : Array α} {len : Nat} (hl : L.length = len) (h : PermIn 0 len L.toArray D) : D.toList.Perm L := by
  obtain ⟨h1, _, h3⟩ := h
  have e1 : D.size = len := by rw [h1]; simpa using hl
  have e2 : (D.extract 0 len).toList = D.toList := by rw [← e1]; simp
  have e3 : (L.toArray.extract 0 len).toList = L := by rw [← hl]; simp
  rw [e2, e3] at h3
  exact h3

theorem sorted_of {α : Type} [Inhabited α] {lt : α → α → Bool} {D : Array α} {len : Nat} (hl : D.size = len) (h : SortedIn lt 0 len D) : D.toList.Pairwise (fun x y => lt y x = false) := by
  rw [List.pairwise_iff_getElem]
  intro i j hi hj hij
  have := h i j (Nat.zero_le _) hij (by simpa [hl] using hj)
  simp only [Array.length_toList] at hi hj
  rw [getElem!_pos D j hj, getElem!_pos D i hi] at this
  simpa using this

end AI
end Go.Proofs.YtokdbmakkoleiaaGreat
