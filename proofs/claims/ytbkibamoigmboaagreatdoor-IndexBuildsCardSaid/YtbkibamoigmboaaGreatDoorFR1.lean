/- The program's wide numbers: products, sums, signs; fractions compared. The reference's wide numbers: what their product and their order are. Fractions compared: the program's way and the reference's. -/
import Derived.Test.YtbkibamoigmboaaGreatDoorMO
import Derived.Test.YtbkibamoigmboaaGreatDoorBc
import Derived.Test.YtbkibamoigmboaaGreatDoorML
set_option linter.unusedVariables false
set_option maxRecDepth 4000
namespace Go.Proofs.YtbkibamoigmboaaGreatDoor
namespace AI

/-- a number of up to 128 bits -/
def wd (b : Bool) (m : Nat) : AV := .agg [.bool b, .int .u64 ((m / 18446744073709551616 : Nat) : Int), .int .u64 ((m % 18446744073709551616 : Nat) : Int)]

theorem wU {z : Int} {K : AV → Prop} (y : Int) (h : z % 18446744073709551616 = y) (hk : K (.int .u64 y)) : wrapK .u64 z K := by
  subst h
  refine wrapK_intro ?_ hk
  simp [IntKind.wrap, IntKind.bits, IntKind.signed]
theorem bv64 (n : Nat) : (BitVec.ofInt 64 (n : Int)).toNat = n % 18446744073709551616 := by simp
theorem andE (n : Nat) : IntKind.u64.wrap (BitVec.ofInt IntKind.u64.bits (n : Int) &&& BitVec.ofInt IntKind.u64.bits 4294967295).toNat = ((n % 4294967296 : Nat) : Int) := by
  show IntKind.u64.wrap (BitVec.ofInt 64 (n : Int) &&& BitVec.ofInt 64 ((4294967295 : Nat) : Int)).toNat = _
  rw [BitVec.toNat_and, bv64, bv64]
  have : (n % 18446744073709551616) &&& (4294967295 % 18446744073709551616) = n % 4294967296 := by
    rw [show (4294967295 % 18446744073709551616 : Nat) = 2 ^ 32 - 1 by rfl, Nat.and_two_pow_sub_one_eq_mod]
    omega
  rw [this]
  simp [IntKind.wrap, IntKind.bits, IntKind.signed]
  omega
theorem or0 {a b : Nat} (ha : a < 18446744073709551616) (hb : b < 18446744073709551616) : IntKind.u64.wrap (BitVec.ofInt IntKind.u64.bits (a : Int) ||| BitVec.ofInt IntKind.u64.bits (b : Int)).toNat = 0 ↔ a = 0 ∧ b = 0 := by
  show IntKind.u64.wrap (BitVec.ofInt 64 (a : Int) ||| BitVec.ofInt 64 (b : Int)).toNat = 0 ↔ _
  have h := (BitVec.ofInt 64 (a : Int) ||| BitVec.ofInt 64 (b : Int)).isLt
  have e : IntKind.u64.wrap (BitVec.ofInt 64 (a : Int) ||| BitVec.ofInt 64 (b : Int)).toNat = ((BitVec.ofInt 64 (a : Int) ||| BitVec.ofInt 64 (b : Int)).toNat : Int) := by
    simp only [IntKind.wrap, IntKind.bits, IntKind.signed, Bool.false_and, Bool.false_eq_true, if_false]
    omega
  rw [e, BitVec.toNat_or, bv64, bv64, Nat.mod_eq_of_lt ha, Nat.mod_eq_of_lt hb]
  constructor
  · intro h
    have h : a ||| b = 0 := by omega
    exact Nat.or_eq_zero_iff.1 h
  · rintro ⟨rfl, rfl⟩; rfl
theorem shrW32 (n : Nat) : ((n : Int)).fdiv (2 ^ (min (Int.toNat 32) IntKind.u64.bits)) = ((n / 4294967296 : Nat) : Int) := by
  rw [show (2 : Int) ^ (min (Int.toNat 32) IntKind.u64.bits) = 4294967296 by rfl, Int.fdiv_eq_ediv_of_nonneg _ (by omega)]
  rfl
theorem mulN {a b : Nat} {A B : Nat} (ha : a ≤ A) (hb : b ≤ B) (h : A * B < 18446744073709551616) : ((a : Int) * (b : Int)) % 18446744073709551616 = ((a * b : Nat) : Int) := by
  have : a * b ≤ A * B := Nat.mul_le_mul ha hb
  rw [Int.natCast_mul]
  have h2 : ((a * b : Nat) : Int) < 18446744073709551616 := by omega
  rw [← Int.natCast_mul]
  omega
theorem split64 (x0 x1 y0 y1 : Nat) : (x1 * 4294967296 + x0) * (y1 * 4294967296 + y0) = x1 * y1 * 18446744073709551616 + (x1 * y0 + x0 * y1) * 4294967296 + x0 * y0 := by
  rw [Nat.add_mul, Nat.mul_add, Nat.mul_add]
  have e1 : x1 * 4294967296 * (y1 * 4294967296) = x1 * y1 * 18446744073709551616 := by
    rw [Nat.mul_mul_mul_comm]
  have e2 : x1 * 4294967296 * y0 = x1 * y0 * 4294967296 := by rw [Nat.mul_right_comm]
  have e3 : x0 * (y1 * 4294967296) = x0 * y1 * 4294967296 := by rw [Nat.mul_assoc]
  rw [e1, e2, e3]
  omega

theorem mul64P {x y : Nat} (hx : x < 2^60) (hy : y < 2^60) : PureP (findFn tab) 162 [.int .u64 x, .int .u64 y] (· = .tup [.int .u64 ((x * y / 18446744073709551616 : Nat) : Int), .int .u64 ((x * y % 18446744073709551616 : Nat) : Int)]) := by
  obtain ⟨x0, hx0⟩ : ∃ x0, x % 4294967296 = x0 := ⟨_, rfl⟩
  obtain ⟨x1, hx1⟩ : ∃ x1, x / 4294967296 = x1 := ⟨_, rfl⟩
  obtain ⟨y0, hy0⟩ : ∃ y0, y % 4294967296 = y0 := ⟨_, rfl⟩
  obtain ⟨y1, hy1⟩ : ∃ y1, y / 4294967296 = y1 := ⟨_, rfl⟩
  have bx0 : x0 ≤ 4294967295 := by omega
  have bx1 : x1 ≤ 268435455 := by omega
  have by0 : y0 ≤ 4294967295 := by omega
  have by1 : y1 ≤ 268435455 := by omega
  have ex := split64 x0 x1 y0 y1
  rw [show x1 * 4294967296 + x0 = x by omega, show y1 * 4294967296 + y0 = y by omega] at ex
  have p00 := Nat.mul_le_mul bx0 by0
  have p10 := Nat.mul_le_mul bx1 by0
  have p01 := Nat.mul_le_mul bx0 by1
  have p11 := Nat.mul_le_mul bx1 by1
  refine pureP_of rfl rfl ?_
  conv => whnf
  repeat (first | (refine need_intro (by first | rfl | omega) ?_; conv => whnf))
  refine eqK_intro ((andE x).trans (congrArg _ hx0)) ?_
  conv => whnf
  repeat (first | (refine need_intro (by first | rfl | omega) ?_; conv => whnf))
  refine eqK_intro ((shrW32 x).trans (congrArg _ hx1)) ?_
  conv => whnf
  repeat (first | (refine need_intro (by first | rfl | omega) ?_; conv => whnf))
  refine eqK_intro ((andE y).trans (congrArg _ hy0)) ?_
  conv => whnf
  repeat (first | (refine need_intro (by first | rfl | omega) ?_; conv => whnf))
  refine eqK_intro ((shrW32 y).trans (congrArg _ hy1)) ?_
  conv => whnf
  repeat (first | (refine need_intro (by first | rfl | omega) ?_; conv => whnf))
  refine wU _ (mulN bx0 by0 (by decide)) ?_
  conv => whnf
  repeat (first | (refine need_intro (by first | rfl | omega) ?_; conv => whnf))
  refine wU _ (mulN bx1 by0 (by decide)) ?_
  conv => whnf
  repeat (first | (refine need_intro (by first | rfl | omega) ?_; conv => whnf))
  refine eqK_intro (shrW32 _) ?_
  conv => whnf
  repeat (first | (refine need_intro (by first | rfl | omega) ?_; conv => whnf))
  refine wU ((x1 * y0 + x0 * y0 / 4294967296 : Nat) : Int) (by omega) ?_
  conv => whnf
  repeat (first | (refine need_intro (by first | rfl | omega) ?_; conv => whnf))
  refine eqK_intro (andE _) ?_
  conv => whnf
  repeat (first | (refine need_intro (by first | rfl | omega) ?_; conv => whnf))
  refine eqK_intro (shrW32 _) ?_
  conv => whnf
  repeat (first | (refine need_intro (by first | rfl | omega) ?_; conv => whnf))
  refine wU _ (mulN bx0 by1 (by decide)) ?_
  conv => whnf
  repeat (first | (refine need_intro (by first | rfl | omega) ?_; conv => whnf))
  refine wU (((x1 * y0 + x0 * y0 / 4294967296) % 4294967296 + x0 * y1 : Nat) : Int) (by omega) ?_
  conv => whnf
  repeat (first | (refine need_intro (by first | rfl | omega) ?_; conv => whnf))
  refine wU _ (mulN bx1 by1 (by decide)) ?_
  conv => whnf
  repeat (first | (refine need_intro (by first | rfl | omega) ?_; conv => whnf))
  refine wU ((x1 * y1 + (x1 * y0 + x0 * y0 / 4294967296) / 4294967296 : Nat) : Int) (by omega) ?_
  conv => whnf
  repeat (first | (refine need_intro (by first | rfl | omega) ?_; conv => whnf))
  refine eqK_intro (shrW32 _) ?_
  conv => whnf
  repeat (first | (refine need_intro (by first | rfl | omega) ?_; conv => whnf))
  refine wU ((x1 * y1 + (x1 * y0 + x0 * y0 / 4294967296) / 4294967296 + ((x1 * y0 + x0 * y0 / 4294967296) % 4294967296 + x0 * y1) / 4294967296 : Nat) : Int) (by omega) ?_
  conv => whnf
  repeat (first | (refine need_intro (by first | rfl | omega) ?_; conv => whnf))
  refine wU ((x * y % 18446744073709551616 : Nat) : Int) (by rw [← Int.natCast_mul]; omega) ?_
  conv => whnf
  rw [ex]
  repeat (refine getK_intro rfl ?_; conv => whnf)
  have e1 : ∀ z z' : Nat, z = z' → ∀ w : AV, AV.tup [.int .u64 ((z : Nat) : Int), w] = .tup [.int .u64 ((z' : Nat) : Int), w] := fun z z' h w => by rw [h]
  exact e1 _ _ (by omega) _

theorem inR_nat {n : Int} (h : inR n) : n.natAbs ≤ 1000000000000000 := by unfold inR at h; omega

theorem sizeP {n : Int} (h : inR n) : PureP (findFn tab) 163 [.int .i64 n] (· = .int .u64 (n.natAbs : Int)) := by
  unfold inR at h
  refine pureP_of rfl rfl ?_
  (conv => whnf); repeat' (first | (refine wU (n + 18446744073709551616) (by omega) ?_; conv => whnf) | (refine wU (n.natAbs : Int) (by omega) ?_; conv => whnf) | ((with_reducible first | apply kN | apply kW | apply kX | apply kG | apply kQ); (· exact sd); conv => whnf) | (refine pcase.mk ?_ ?_ <;> intro hc <;> (try rw [List.length_nil] at hc) <;> first | (exfalso; omega) | (exact absurd rfl hc) | conv => whnf) | (refine bcase_intro ?_ ?_ <;> intro hc <;> conv => whnf))
  all_goals first | rfl | (trace_state; fail "sizeP")

theorem wd_ok {b : Bool} {m : Nat} {x y : Int} {c : Bool} (h1 : b = c) (h2 : ((m / 18446744073709551616 : Nat) : Int) = x) (h3 : ((m % 18446744073709551616 : Nat) : Int) = y) : AV.agg [.bool c, .int .u64 x, .int .u64 y] = wd b m := by
  subst h1 h2 h3; rfl

theorem productP {a b : Int} (ha : inR a) (hb : inR b) : PureP (findFn tab) 113 [.int .i64 a, .int .i64 b] (· = wd (decide (a < 0) != decide (b < 0)) (a.natAbs * b.natAbs)) := by
  have h1 := inR_nat ha
  have h2 := inR_nat hb
  have h3 := mul64P (x := a.natAbs) (y := b.natAbs) (by omega) (by omega)
  refine pureP_of rfl rfl ?_
  (conv => whnf); repeat' (first | (refine callK_of (sizeP ha) ?_; rintro _ rfl; conv => whnf) | (refine callK_of (sizeP hb) ?_; rintro _ rfl; conv => whnf) | (refine callK_of h3 ?_; rintro _ rfl; conv => whnf) | ((with_reducible first | apply kN | apply kW | apply kX | apply kG | apply kQ); (· exact sd); conv => whnf) | (refine pcase.mk ?_ ?_ <;> intro hc <;> (try rw [List.length_nil] at hc) <;> first | (exfalso; omega) | (exact absurd rfl hc) | conv => whnf) | (refine bcase_intro ?_ ?_ <;> intro hc <;> conv => whnf))
  all_goals first
    | exact wd_ok (by rw [decide_eq_true (show a < 0 by omega), decide_eq_true (show b < 0 by omega)]; rfl) rfl rfl
    | exact wd_ok (by rw [decide_eq_true (show a < 0 by omega), decide_eq_false (show ¬ b < 0 by omega)]; rfl) rfl rfl
    | exact wd_ok (by rw [decide_eq_false (show ¬ a < 0 by omega), decide_eq_true (show b < 0 by omega)]; rfl) rfl rfl
    | exact wd_ok (by rw [decide_eq_false (show ¬ a < 0 by omega), decide_eq_false (show ¬ b < 0 by omega)]; rfl) rfl rfl
    | (trace_state; fail "productP")

theorem addP {x y c : Nat} (hc : c ≤ 1) : PureP (findFn tab) 164 [.int .u64 x, .int .u64 y, .int .u64 c] (· = .tup [.int .u64 (((x + y + c) % 18446744073709551616 : Nat) : Int), .int .u64 (((x + y + c) / 18446744073709551616 : Nat) : Int)]) := by
  refine pureP_ext (sp := addSpec) (v := .tup [.int .u64 (((x + y + c) % 18446744073709551616 : Nat) : Int), .int .u64 (((x + y + c) / 18446744073709551616 : Nat) : Int)]) (s := ⟨[], 0⟩) rfl ?_ rfl rfl
  show (if 0 ≤ (x : Int) ∧ 0 ≤ (y : Int) ∧ 0 ≤ (c : Int) ∧ (c : Int) ≤ 1 then _ else _) = _
  rw [if_pos ⟨by omega, by omega, by omega, by omega⟩]
  rfl
theorem subP {x y c : Nat} (hc : c ≤ 1) (h : y + c ≤ x + 18446744073709551616) : PureP (findFn tab) 166 [.int .u64 x, .int .u64 y, .int .u64 c] (· = .tup [.int .u64 (((x + 18446744073709551616 - y - c) % 18446744073709551616 : Nat) : Int), .int .u64 ((if x < y + c then 1 else 0 : Nat) : Int)]) := by
  refine pureP_ext (sp := subSpec) (v := .tup [.int .u64 (((x + 18446744073709551616 - y - c) % 18446744073709551616 : Nat) : Int), .int .u64 ((if x < y + c then 1 else 0 : Nat) : Int)]) (s := ⟨[], 0⟩) rfl ?_ rfl rfl
  show (if 0 ≤ (x : Int) ∧ 0 ≤ (y : Int) ∧ 0 ≤ (c : Int) ∧ (c : Int) ≤ 1 ∧ (y : Int) + c ≤ x + m64 then _ else _) = _
  rw [if_pos ⟨by omega, by omega, by omega, by omega, by unfold m64; omega⟩]
  have e1 : ((x : Int) + m64 - y - c) % m64 = (((x + 18446744073709551616 - y - c) % 18446744073709551616 : Nat) : Int) := by
    unfold m64; omega
  have e2 : (if (x : Int) < y + c then (1 : Int) else 0) = ((if x < y + c then 1 else 0 : Nat) : Int) := by
    split <;> split <;> omega
  rw [e1, e2]

theorem lessP {a b : Bool} {m n : Nat} : PureP (findFn tab) 165 [wd a m, wd b n] (· = .bool (decide (m < n))) := by
  refine pureP_of rfl rfl ?_
  (conv => whnf); repeat' (first  | ((with_reducible first | apply kN | apply kW | apply kX | apply kG | apply kQ); (· exact sd); conv => whnf) | (refine pcase.mk ?_ ?_ <;> intro hc <;> (try rw [List.length_nil] at hc) <;> first | (exfalso; omega) | (exact absurd rfl hc) | conv => whnf) | (refine bcase_intro ?_ ?_ <;> intro hc <;> conv => whnf))
  all_goals first | exact bool_t (by omega) | exact bool_f (by omega) | (trace_state; fail "lessP")

/-- the sum of two wide numbers -/
def addW (a : Bool) (m : Nat) (b : Bool) (n : Nat) : AV := if a = b then wd a (m + n) else if m < n then wd b (n - m) else wd a (m - n)

theorem plusP {a b : Bool} {m n : Nat} (hm : m < 2^120) (hn : n < 2^120) : PureP (findFn tab) 114 [wd a m, wd b n] (· = addW a m b n) := by
  have c1 := addP (x := m % 18446744073709551616) (y := n % 18446744073709551616) (c := 0) (by omega)
  have c2 := addP (x := m / 18446744073709551616) (y := n / 18446744073709551616) (c := (m % 18446744073709551616 + n % 18446744073709551616 + 0) / 18446744073709551616) (by omega)
  have d1 := subP (x := m % 18446744073709551616) (y := n % 18446744073709551616) (c := 0) (by omega) (by omega)
  have d2 := subP (x := m / 18446744073709551616) (y := n / 18446744073709551616) (c := if m % 18446744073709551616 < n % 18446744073709551616 + 0 then 1 else 0) (by split <;> omega) (by split <;> omega)
  have f1 := subP (x := n % 18446744073709551616) (y := m % 18446744073709551616) (c := 0) (by omega) (by omega)
  have f2 := subP (x := n / 18446744073709551616) (y := m / 18446744073709551616) (c := if n % 18446744073709551616 < m % 18446744073709551616 + 0 then 1 else 0) (by split <;> omega) (by split <;> omega)
  by_cases hab : a = b
  · have e : addW a m b n = wd a (m + n) := if_pos hab
    rw [e]
    subst hab
    cases a
    all_goals
      refine pureP_of rfl rfl ?_
      (conv => whnf); repeat' (first | (refine callK_of c1 ?_; rintro _ rfl; conv => whnf) | (refine callK_of c2 ?_; rintro _ rfl; conv => whnf) | ((with_reducible first | apply kN | apply kW | apply kX | apply kG | apply kQ); (· exact sd); conv => whnf) | (refine pcase.mk ?_ ?_ <;> intro hc <;> (try rw [List.length_nil] at hc) <;> first | (exfalso; omega) | (exact absurd rfl hc) | conv => whnf) | (refine bcase_intro ?_ ?_ <;> intro hc <;> conv => whnf))
      all_goals first | (show AV.agg [.bool _, .int .u64 ((_ : Nat) : Int), .int .u64 ((_ : Nat) : Int)] = wd _ _; exact wd_ok rfl (by omega) (by omega)) | (trace_state; fail "plusA")
  by_cases hlt : m < n
  · have e : addW a m b n = wd b (n - m) := by unfold addW; rw [if_neg hab, if_pos hlt]
    have hl : PureP (findFn tab) 165 [wd a m, wd b n] (· = .bool true) := by
      have := lessP (a := a) (b := b) (m := m) (n := n); rwa [decide_eq_true hlt] at this
    rw [e]
    cases a <;> cases b <;> (try exact absurd rfl hab)
    all_goals
      refine pureP_of rfl rfl ?_
      (conv => whnf); repeat' (first | (refine callK_of hl ?_; rintro _ rfl; conv => whnf) | (refine callK_of f1 ?_; rintro _ rfl; conv => whnf) | (refine callK_of f2 ?_; rintro _ rfl; conv => whnf) | ((with_reducible first | apply kN | apply kW | apply kX | apply kG | apply kQ); (· exact sd); conv => whnf) | (refine pcase.mk ?_ ?_ <;> intro hc <;> (try rw [List.length_nil] at hc) <;> first | (exfalso; omega) | (exact absurd rfl hc) | conv => whnf) | (refine bcase_intro ?_ ?_ <;> intro hc <;> conv => whnf))
      all_goals first | (show AV.agg [.bool _, .int .u64 ((_ : Nat) : Int), .int .u64 ((_ : Nat) : Int)] = wd _ _; exact wd_ok rfl (by split <;> omega) (by omega)) | (trace_state; fail "plusB")
  · have e : addW a m b n = wd a (m - n) := by unfold addW; rw [if_neg hab, if_neg hlt]
    have hl : PureP (findFn tab) 165 [wd a m, wd b n] (· = .bool false) := by
      have := lessP (a := a) (b := b) (m := m) (n := n); rwa [decide_eq_false hlt] at this
    rw [e]
    cases a <;> cases b <;> (try exact absurd rfl hab)
    all_goals
      refine pureP_of rfl rfl ?_
      (conv => whnf); repeat' (first | (refine callK_of hl ?_; rintro _ rfl; conv => whnf) | (refine callK_of d1 ?_; rintro _ rfl; conv => whnf) | (refine callK_of d2 ?_; rintro _ rfl; conv => whnf) | ((with_reducible first | apply kN | apply kW | apply kX | apply kG | apply kQ); (· exact sd); conv => whnf) | (refine pcase.mk ?_ ?_ <;> intro hc <;> (try rw [List.length_nil] at hc) <;> first | (exfalso; omega) | (exact absurd rfl hc) | conv => whnf) | (refine bcase_intro ?_ ?_ <;> intro hc <;> conv => whnf))
      all_goals first | (show AV.agg [.bool _, .int .u64 ((_ : Nat) : Int), .int .u64 ((_ : Nat) : Int)] = wd _ _; exact wd_ok rfl (by split <;> omega) (by omega)) | (trace_state; fail "plusC")

def sgW (a : Bool) (m : Nat) : Int := if m = 0 then 0 else if a = true then -1 else 1
theorem signP {a : Bool} {m : Nat} (hm : m < 2^127) : PureP (findFn tab) 115 [wd a m] (· = .int .i64 (sgW a m)) := by
  obtain ⟨z, hz, hz0⟩ : ∃ z, IntKind.u64.wrap (BitVec.ofInt IntKind.u64.bits ((m / 18446744073709551616 : Nat) : Int) ||| BitVec.ofInt IntKind.u64.bits ((m % 18446744073709551616 : Nat) : Int)).toNat = z ∧ (z = 0 ↔ m = 0) := ⟨_, rfl, by
    rw [or0 (by omega) (by omega)]; omega⟩
  refine pureP_of rfl rfl ?_
  (conv => whnf); repeat' (first | (refine eqK_intro hz ?_; conv => whnf) | ((with_reducible first | apply kN | apply kW | apply kX | apply kG | apply kQ); (· exact sd); conv => whnf) | (refine pcase.mk ?_ ?_ <;> intro hc <;> (try rw [List.length_nil] at hc) <;> first | (exfalso; omega) | (exact absurd rfl hc) | conv => whnf) | (refine bcase_intro ?_ ?_ <;> intro hc <;> conv => whnf))
  all_goals first
    | exact congrArg (AV.int .i64) (by unfold sgW; rw [if_pos (by omega)])
    | exact congrArg (AV.int .i64) (by unfold sgW; rw [if_neg (by omega), if_pos (by assumption)])
    | exact congrArg (AV.int .i64) (by unfold sgW; rw [if_neg (by omega)]; simp_all)
    | (trace_state; fail "signP")

end AI
end Go.Proofs.YtbkibamoigmboaaGreatDoor
set_option linter.unusedVariables false
namespace Go.Proofs.YtbkibamoigmboaaGreatDoor
namespace AI

/-- one row, with its value -/
theorem timesIV {i : Nat} {dd : Int} {A : Int} {l0 : List Int} {Q : AExit → Env → Sto → Prop} (hi : i ≤ 5) (hl : Dig l0) (hz : ∀ q (h : q < l0.length), i + 7 ≤ q → l0[q] = 0) (hd : 0 ≤ dd ∧ dd ≤ 999) {B C : Int} (hB : 0 ≤ C ∧ C ≤ 1000000000000000)
    (hQ : ∀ (l' : List Int) (c k y : Int), Dig l' → (∀ q (h : q < l'.length), i + 8 ≤ q → l'[q] = 0) → val l' = val l0 + dd * C * pw i → Q (.exit 2) [(0, .int .i64 A), (1, .int .i64 B), (5, .own 0 0 0 14), (6, .int .i64 i), (7, .int .i64 dd), (8, .int .i64 c), (9, .int .i64 y), (10, .int .i64 k), (27, .bool false)] ⟨[.arr 0 1 true true (ints l')], 1⟩) :
    Run (findFn tab) (.loop l138_0_h l138_0_b) [(0, .int .i64 A), (1, .int .i64 B), (5, .own 0 0 0 14), (6, .int .i64 i), (7, .int .i64 dd), (8, .int .i64 C), (9, .int .i64 0), (10, .int .i64 i)] ⟨[.arr 0 1 true true (ints l0)], 1⟩ Q := by
  obtain ⟨V, hV⟩ : ∃ V, val l0 + dd * C * pw i = V := ⟨_, rfl⟩
  rw [hV] at hQ
  refine loop_inv (fun m env s => ∃ (j k : Nat) (c y : Int) (l : List Int), m = 8 - j ∧ k = i + j ∧ Left j c ∧ Carry j y ∧ Dig l ∧ (∀ q (h : q < l.length), i + 7 ≤ q → k ≤ q → l[q] = 0) ∧ val l + y * pw k + dd * c * pw k = V ∧
    env = [(0, .int .i64 A), (1, .int .i64 B), (5, .own 0 0 0 14), (6, .int .i64 i), (7, .int .i64 dd), (8, .int .i64 c), (9, .int .i64 y), (10, .int .i64 k)] ∧ s = ⟨[.arr 0 1 true true (ints l)], 1⟩) ?_ _ _ _ ⟨0, i, C, 0, l0, rfl, rfl, by unfold Left; omega, by unfold Carry; omega, hl, fun q h h1 h2 => hz q h h1, by rw [Int.zero_mul]; omega, rfl, rfl⟩
  clear hl hz hB hV
  rintro _ _ _ ⟨j, k, c, y, l, rfl, hk, hc0, hy, hl, hz, hv, rfl, rfl⟩
  refine ⟨rfl, ?_⟩
  have hll := hl.1
  have hj7 : 0 < c ∨ 0 < y → j ≤ 7 := by unfold Left Carry at *; omega
  have hk8 : k ≤ i + 8 := by unfold Carry at hy; omega
  have c0 := hc0.1
  have y0 := hy.1
  have c1 : c < 1000000000000000000 := by unfold Left at hc0; omega
  have y1 : y ≤ 999 := by unfold Carry at hy; omega
  have e2 := tdE c0
  obtain ⟨m0, m1, m2⟩ : ∃ m, dd * c.tmod 1000 = m ∧ 0 ≤ m ∧ m ≤ 998001 := ⟨_, rfl, by have := tmE c0; exact mul_bound hd.1 hd.2 (by omega) (by omega)⟩
  obtain ⟨x, hx⟩ : ∃ x : Int, ∀ h : k < l.length, l[k] = x ∧ 0 ≤ x ∧ x ≤ 999 ∧ (j = 7 → x = 0) := by
    by_cases h : k < l.length
    · exact ⟨l[k], fun _ => ⟨rfl, (hl.2 _ (List.getElem_mem h)).1, (hl.2 _ (List.getElem_mem h)).2, fun h7 => hz k h (by omega) (by omega)⟩⟩
    · exact ⟨0, fun h' => absurd h' h⟩
  have hkl : 0 < c ∨ 0 < y → k < l.length := by intro h; have := hj7 h; omega
  have hq : ∀ h : k < l.length, (y + x + dd * c.tmod 1000).tdiv 1000 = (y + x + dd * c.tmod 1000) / 1000 ∧ 0 ≤ y + x + dd * c.tmod 1000 ∧ y + x + dd * c.tmod 1000 ≤ 2000000 := by
    intro h
    have h1 := hx h
    have h2 : 0 ≤ y + x + dd * c.tmod 1000 := by omega
    exact ⟨tdE h2, h2, by omega⟩
  clear hj7
  by_cases hstop : 0 < c ∨ 0 < y
  · have hk1 := hkl hstop
    obtain ⟨q1, q2, q3⟩ := hq hk1
    obtain ⟨x0, x1, x2, x3⟩ := hx hk1
    have hv2 : val (l.set k ((y + x + dd * c.tmod 1000).tmod 1000)) + (y + x + dd * c.tmod 1000).tdiv 1000 * pw (k + 1) + dd * c.tdiv 1000 * pw (k + 1) = V := by
      have e3 := tmE q2
      have e4 := tmE c0
      rw [val_set hk1, ← hv, x0]
      exact row_step (m := c.tmod 1000) (by omega) (by omega)
    have fin : ∀ k', k' = (k : Int) + 1 → again (fun m env s => ∃ (j k : Nat) (c y : Int) (l : List Int), m = 8 - j ∧ k = i + j ∧ Left j c ∧ Carry j y ∧ Dig l ∧ (∀ q (h : q < l.length), i + 7 ≤ q → k ≤ q → l[q] = 0) ∧ val l + y * pw k + dd * c * pw k = V ∧
        env = [(0, .int .i64 A), (1, .int .i64 B), (5, .own 0 0 0 14), (6, .int .i64 i), (7, .int .i64 dd), (8, .int .i64 c), (9, .int .i64 y), (10, .int .i64 k)] ∧ s = ⟨[.arr 0 1 true true (ints l)], 1⟩) (8 - j)
        [(0, .int .i64 A), (1, .int .i64 B), (5, .own 0 0 0 14), (6, .int .i64 i), (7, .int .i64 dd), (8, .int .i64 (c.tdiv 1000)), (9, .int .i64 ((y + x + dd * c.tmod 1000).tdiv 1000)), (10, .int .i64 k')] ⟨[.arr 0 1 true true (ints (l.set k ((y + x + dd * c.tmod 1000).tmod 1000)))], 1⟩ := by
      intro k' hk'
      have e3 := tmE q2
      refine again.mk ⟨_, ?_, j + 1, k + 1, _, _, _, rfl, by omega, step_left hc0, step_carry hc0 hy hstop ⟨x1, x2, x3⟩ hd, hl.set (by rw [e3]; omega), fun q h h1 h2 => ?_, hv2, by rw [hk']; rfl, rfl⟩
      · have : j ≤ 7 := by unfold Left Carry at *; omega
        omega
      · rw [List.length_set] at h
        rw [List.getElem_set_ne (by omega)]
        exact hz q h h1 (by omega)
    clear hx hq hkl hz hl hc0 hy m2 hv hv2
    (conv => whnf); repeat' (first | ((with_reducible first | apply kN | apply kW | apply kX | apply kG | apply kQ); (· exact sd); conv => whnf) | (refine pcase.mk ?_ ?_ <;> intro hc <;> (try rw [List.length_nil] at hc) <;> first | (exfalso; omega) | (exact absurd rfl hc) | conv => whnf) | (rw [x0]; conv => whnf) | (refine bcase_intro ?_ ?_ <;> intro hc <;> conv => whnf))
    all_goals exact fin _ rfl
  · clear hx hq hkl
    have hv2 : val l = V := by
      obtain rfl : c = 0 := by omega
      obtain rfl : y = 0 := by omega
      rw [Int.mul_zero, Int.zero_mul] at hv
      omega
    clear hv
    (conv => whnf); repeat' (first | ((with_reducible first | apply kN | apply kW | apply kX | apply kG | apply kQ); (· exact sd); conv => whnf) | (refine pcase.mk ?_ ?_ <;> intro hc <;> (try rw [List.length_nil] at hc) <;> first | (exfalso; omega) | (exact absurd rfl hc) | conv => whnf)  | (refine bcase_intro ?_ ?_ <;> intro hc <;> conv => whnf))
    exact hQ l _ _ _ hl (fun q h h1 => hz q h (by omega) (by omega)) hv2

theorem timesV {a b : Int} (ha : 0 ≤ a ∧ a ≤ 1000000000000000) (hb : 0 ≤ b ∧ b ≤ 1000000000000000) : PureP (findFn tab) 138 [.int .i64 a, .int .i64 b] (fun v => ∃ l, v = isl true l ∧ Dig l ∧ val l = a * b) := by
  obtain ⟨V, hV⟩ : ∃ V, a * b = V := ⟨_, rfl⟩
  rw [hV]
  refine pureP_of rfl rfl ?_
  (conv => whnf); repeat' (first | ((with_reducible first | apply kN | apply kW | apply kX | apply kG | apply kQ); (· exact sd); conv => whnf) | (refine pcase.mk ?_ ?_ <;> intro hc <;> (try rw [List.length_nil] at hc) <;> first | (exfalso; omega) | (exact absurd rfl hc) | conv => whnf)  | (refine bcase_intro ?_ ?_ <;> intro hc <;> conv => whnf))
  refine loop_inv (fun m env s => ∃ (i : Nat) (a : Int) (l : List Int), m = 7 - i ∧ i ≤ 6 ∧ Left i a ∧ Dig l ∧ (∀ q (h : q < l.length), i + 7 ≤ q → l[q] = 0) ∧ val l + a * b * pw i = V ∧ env = [(0, .int .i64 a), (1, .int .i64 b), (5, .own 0 0 0 14), (6, .int .i64 i)] ∧ s = ⟨[.arr 0 1 true true (ints l)], 1⟩) ?_ _ _ _ ⟨0, a, List.replicate 14 0, rfl, by omega, by unfold Left; omega, ⟨by simp, by intro x hx; have := List.eq_of_mem_replicate hx; omega⟩, fun q h _ => List.getElem_replicate _, by rw [val_zero]; show 0 + a * b * 1 = V; omega, rfl, rfl⟩
  clear ha hV a
  rintro _ _ _ ⟨i, a, l, rfl, hi, hL, hl, hz, hv, rfl, rfl⟩
  refine ⟨rfl, ?_⟩
  have a0 := hL.1
  have e1 := tmE a0
  have e2 := tdE a0
  have a1 : a < 1000000000000000000 := by unfold Left at hL; omega
  have hst : ∀ v1, v1 = val l + a.tmod 1000 * b * pw i → v1 + a.tdiv 1000 * b * pw (i + 1) = V := fun v1 h => by
    rw [← hv]
    exact mul_step (by omega) h
  have hend : ¬ 0 < a → val l = V := fun h => by
    obtain rfl : a = 0 := by omega
    rw [Int.zero_mul, Int.zero_mul] at hv
    omega
  clear hv
  (conv => whnf); repeat' (first | ((with_reducible first | apply kN | apply kW | apply kX | apply kG | apply kQ); (· exact sd); conv => whnf) | (refine pcase.mk ?_ ?_ <;> intro hc <;> (try rw [List.length_nil] at hc) <;> first | (exfalso; omega) | (exact absurd rfl hc) | conv => whnf)  | (refine bcase_intro ?_ ?_ <;> intro hc <;> conv => whnf))
  · have hi5 : i ≤ 5 := by unfold Left at hL; omega
    refine timesIV (dd := a.tmod 1000) hi5 hl hz (by omega) hb ?_
    intro l' c k y hl' hz' hv'
    have hv' := hst _ hv'
    (conv => whnf); repeat' (first | ((with_reducible first | apply kN | apply kW | apply kX | apply kG | apply kQ); (· exact sd); conv => whnf) | (refine pcase.mk ?_ ?_ <;> intro hc <;> (try rw [List.length_nil] at hc) <;> first | (exfalso; omega) | (exact absurd rfl hc) | conv => whnf)  | (refine bcase_intro ?_ ?_ <;> intro hc <;> conv => whnf))
    exact again.mk ⟨_, by omega, i + 1, _, l', rfl, by omega, step_left hL, hl', hz', hv', rfl, rfl⟩
  · refine need.mk ⟨rfl, by rw [lI, hl.1]; omega⟩ (eqK_intro (b := ints l) ?_ ⟨l, rfl, hl, hend (by assumption)⟩)
    have := @uI l
    rw [hl.1] at this
    exact this

theorem val_nonneg : ∀ {l : List Int}, (∀ x ∈ l, 0 ≤ x ∧ x ≤ 999) → 0 ≤ val l
  | [], _ => Int.le_refl 0
  | x :: l, h => by
    have h1 := h x (List.mem_cons_self ..)
    have h2 := val_nonneg (l := l) fun y hy => h y (List.mem_cons_of_mem _ hy)
    show 0 ≤ x + 1000 * val l
    omega
theorem val_lt : ∀ {a b : List Int} {k : Nat} (h : k < a.length) (h' : k < b.length), (∀ x ∈ a, 0 ≤ x ∧ x ≤ 999) → (∀ x ∈ b, 0 ≤ x ∧ x ≤ 999) → a.drop (k + 1) = b.drop (k + 1) → a[k] < b[k] → val a < val b
  | [], _, _, h, _, _, _, _, _ => by simp at h
  | _ :: _, [], _, _, h, _, _, _, _ => by simp at h
  | x :: a, y :: b, 0, h, h', ha, hb, e, hlt => by
    have h1 := ha x (List.mem_cons_self ..)
    have h2 := hb y (List.mem_cons_self ..)
    simp only [List.drop_succ_cons, List.drop_zero, List.getElem_cons_zero] at e hlt
    subst e
    show x + 1000 * val a < y + 1000 * val a
    omega
  | x :: a, y :: b, k + 1, h, h', ha, hb, e, hlt => by
    have h1 := ha x (List.mem_cons_self ..)
    have h2 := hb y (List.mem_cons_self ..)
    simp only [List.drop_succ_cons, List.getElem_cons_succ] at e hlt
    have := val_lt (a := a) (b := b) (k := k) (by simpa using h) (by simpa using h') (fun z hz => ha z (List.mem_cons_of_mem _ hz)) (fun z hz => hb z (List.mem_cons_of_mem _ hz)) e hlt
    show x + 1000 * val a < y + 1000 * val b
    omega

theorem sgn_neg {n : Int} (h : n < 0) : sgn n = -1 := if_pos h
theorem sgn_pos {n : Int} (h : 0 < n) : sgn n = 1 := by unfold sgn; rw [if_neg (by omega), if_pos h]
theorem sgn_zero : sgn 0 = 0 := rfl

theorem orderV {x y : List Int} (hx : Dig x) (hy : Dig y) : PureP (findFn tab) 203 [isl true x, isl true y] (· = .int .i64 (sgn (val x - val y))) := by
  have hxl := hx.1
  have hyl := hy.1
  refine pureP_of rfl rfl ?_
  (conv => whnf); repeat' (first | ((with_reducible first | apply kN | apply kW | apply kX | apply kG | apply kQ); (· exact sd); conv => whnf) | (refine pcase.mk ?_ ?_ <;> intro hc <;> (try rw [List.length_nil] at hc) <;> first | (exfalso; omega) | (exact absurd rfl hc) | conv => whnf)  | (refine bcase_intro ?_ ?_ <;> intro hc <;> conv => whnf))
  refine loop_inv (fun m env s => ∃ (k : Nat) (z : Int), m = k ∧ z = (k : Int) - 1 ∧ k ≤ 14 ∧ x.drop k = y.drop k ∧ env = [(0, isl true x), (1, isl true y), (5, .int .i64 z)] ∧ s = ⟨[], 0⟩) ?_ _ _ _ ⟨14, _, rfl, ?_, by omega, by rw [List.drop_eq_nil_of_le (by omega), List.drop_eq_nil_of_le (by omega)], rfl, rfl⟩
  rotate_left
  · omega
  rintro k _ _ ⟨_, z, rfl, hz, hk, hd, rfl, rfl⟩
  refine ⟨rfl, ?_⟩
  cases k with
  | zero =>
    obtain rfl : x = y := by simpa using hd
    (conv => whnf); repeat' (first | ((with_reducible first | apply kN | apply kW | apply kX | apply kG | apply kQ); (· exact sd); conv => whnf) | (refine pcase.mk ?_ ?_ <;> intro hc <;> (try rw [List.length_nil] at hc) <;> first | (exfalso; omega) | (exact absurd rfl hc) | conv => whnf)  | (refine bcase_intro ?_ ?_ <;> intro hc <;> conv => whnf))
    rw [Int.sub_self]; rfl
  | succ k =>
    obtain rfl : z = (k : Nat) := by omega
    have h1 : x[k]'(by omega) < y[k]'(by omega) → AV.int .i64 (-1) = .int .i64 (sgn (val x - val y)) := fun h => by
      rw [sgn_neg (by have := val_lt (by omega) (by omega) hx.2 hy.2 hd h; omega)]
    have h2 : y[k]'(by omega) < x[k]'(by omega) → AV.int .i64 1 = .int .i64 (sgn (val x - val y)) := fun h => by
      rw [sgn_pos (by have := val_lt (by omega) (by omega) hy.2 hx.2 hd.symm h; omega)]
    (conv => whnf); repeat' (first | ((with_reducible first | apply kN | apply kW | apply kX | apply kG | apply kQ); (· exact sd); conv => whnf) | (refine pcase.mk ?_ ?_ <;> intro hc <;> (try rw [List.length_nil] at hc) <;> first | (exfalso; omega) | (exact absurd rfl hc) | conv => whnf)  | (refine bcase_intro ?_ ?_ <;> intro hc <;> conv => whnf))
    · exact h1 (by assumption)
    · exact h2 (by assumption)
    · refine again.mk ⟨_, by omega, k, _, rfl, rfl, by omega, ?_, rfl, rfl⟩
      rw [List.drop_eq_getElem_cons (by omega), List.drop_eq_getElem_cons (l := y) (by omega), hd, show x[k]'(by omega) = y[k]'(by omega) by omega]

theorem minusW {x y : List Int} (hx : Dig x) (hy : Dig y) : PureP (findFn tab) 204 [isl true x, isl true y] (fun v => ∃ nn l, v = isl nn l) := by
  have hxl := hx.1
  have hyl := hy.1
  refine pureP_of rfl rfl ?_
  (conv => whnf); repeat' (first | ((with_reducible first | apply kN | apply kW | apply kX | apply kG | apply kQ); (· exact sd); conv => whnf) | (refine pcase.mk ?_ ?_ <;> intro hc <;> (try rw [List.length_nil] at hc) <;> first | (exfalso; omega) | (exact absurd rfl hc) | conv => whnf)  | (refine bcase_intro ?_ ?_ <;> intro hc <;> conv => whnf))
  refine loop_inv (fun m env s => ∃ (k : Nat) (c : Int) (l : List Int), m = 14 - k ∧ -1 ≤ c ∧ c ≤ 0 ∧ l.length = 14 ∧ env = [(0, isl true x), (1, isl true y), (5, .own 0 0 0 (Int.toNat (Nat.cast x.length))), (6, .int .i64 c), (7, .int .i64 k)] ∧ s = ⟨[.arr 0 1 true true (ints l)], 1⟩) ?_ _ _ _ ⟨0, 0, List.replicate x.length 0, rfl, by omega, by omega, by simp [hxl], rfl, rfl⟩
  rintro _ _ _ ⟨k, c, l, rfl, c0, c1, hl, rfl, rfl⟩
  refine ⟨rfl, ?_⟩
  have bx : ∀ h : k < x.length, 0 ≤ x[k] ∧ x[k] ≤ 999 := fun h => hx.2 _ (List.getElem_mem h)
  have bY : ∀ h : k < y.length, 0 ≤ y[k] ∧ y[k] ≤ 999 := fun h => hy.2 _ (List.getElem_mem h)
  have hq : ∀ (h : k < x.length) (h2 : k < y.length), 0 ≤ x[k] ∧ x[k] ≤ 999 ∧ 0 ≤ y[k] ∧ y[k] ≤ 999 := fun h h2 => ⟨(bx h).1, (bx h).2, (bY h2).1, (bY h2).2⟩
  (conv => whnf); repeat' (first | ((with_reducible first | apply kN | apply kW | apply kX | apply kG | apply kQ); (· exact sd); conv => whnf) | (refine pcase.mk ?_ ?_ <;> intro hc <;> (try rw [List.length_nil] at hc) <;> first | (exfalso; omega) | (exact absurd rfl hc) | conv => whnf) | (have hwr := hq (by omega) (by omega); apply wrapK_intro; (· exact wrap_i64 (by omega) (by omega)); clear hwr; conv => whnf) | (refine bcase_intro ?_ ?_ <;> intro hc <;> conv => whnf))
  · exact again.mk ⟨_, by omega, k + 1, _, _, rfl, by omega, by omega, by rw [List.length_set]; exact hl, rfl, rfl⟩
  · exact again.mk ⟨_, by omega, k + 1, _, _, rfl, by omega, by omega, by rw [List.length_set]; exact hl, rfl, rfl⟩
  · refine ⟨true, l, ?_⟩
    rw [hxl]
    have := @uI l
    rw [hl] at this
    exact congrArg (AV.sl true) this

/-- the sign of a sum, as it is reckoned -/
def sumS (an : Int) (x : Int) (bn : Int) (y : Int) : Int := if an = bn ∨ bn = 0 then an else if an = 0 then bn else if x = y then 0 else if y < x then an else bn

theorem sumV {an bn : Int} {x y : List Int} (hx : Dig x) (hy : Dig y) : PureP (findFn tab) 136 [.int .i64 an, isl true x, .int .i64 bn, isl true y] (fun v => ∃ n2 l2, v = .tup [.int .i64 (sumS an (val x) bn (val y)), isl n2 l2]) := by
  have key : ∀ k : Int, k = sumS an (val x) bn (val y) → ∀ n2 l2, ∃ n3 l3, AV.tup [.int .i64 k, isl n2 l2] = .tup [.int .i64 (sumS an (val x) bn (val y)), isl n3 l3] := fun k h n2 l2 => ⟨n2, l2, by rw [h]⟩
  obtain ⟨z, hz⟩ : ∃ z, sgn (val x - val y) = z := ⟨_, rfl⟩
  have ho := orderV hx hy
  rw [hz] at ho
  have z1 : z = 0 → val x = val y := fun h => by subst h; unfold sgn at hz; split at hz <;> (try split at hz) <;> omega
  have z2 : 0 < z → val y < val x := fun h => by subst hz; unfold sgn at h; split at h <;> (try split at h) <;> omega
  have z3 : z ≠ 0 → ¬ 0 < z → val x < val y := fun h h' => by subst hz; unfold sgn at h h'; split at h <;> (try split at h) <;> simp_all <;> omega
  by_cases h1 : an = bn
  · have e : an = sumS an (val x) bn (val y) := by unfold sumS; rw [if_pos (.inl h1)]
    refine pureP_of rfl rfl ?_
    (conv => whnf); repeat' (first | ((with_reducible first | apply kN | apply kW | apply kX | apply kG | apply kQ); (· exact sd); conv => whnf) | (refine pcase.mk ?_ ?_ <;> intro hc <;> (try rw [List.length_nil] at hc) <;> first | (exfalso; omega) | (exact absurd rfl hc) | conv => whnf) | (refine callK_of (plus hx hy) ?_; rintro _ ⟨nn, l, rfl⟩; conv => whnf) | (refine bcase_intro ?_ ?_ <;> intro hc <;> conv => whnf))
    all_goals first | exact key _ e _ _ | (trace_state; fail "sumA")
  by_cases h2 : bn = 0
  · have e : an = sumS an (val x) bn (val y) := by unfold sumS; rw [if_pos (.inr h2)]
    refine pureP_of rfl rfl ?_
    (conv => whnf); repeat' (first | ((with_reducible first | apply kN | apply kW | apply kX | apply kG | apply kQ); (· exact sd); conv => whnf) | (refine pcase.mk ?_ ?_ <;> intro hc <;> (try rw [List.length_nil] at hc) <;> first | (exfalso; omega) | (exact absurd rfl hc) | conv => whnf) | (refine callK_of (plus hx hy) ?_; rintro _ ⟨nn, l, rfl⟩; conv => whnf) | (refine bcase_intro ?_ ?_ <;> intro hc <;> conv => whnf))
    all_goals first | exact key _ e _ _ | (trace_state; fail "sumB")
  by_cases h3 : an = 0
  · have e : bn = sumS an (val x) bn (val y) := by unfold sumS; rw [if_neg (by omega), if_pos h3]
    refine pureP_of rfl rfl ?_
    (conv => whnf); repeat' (first | ((with_reducible first | apply kN | apply kW | apply kX | apply kG | apply kQ); (· exact sd); conv => whnf) | (refine pcase.mk ?_ ?_ <;> intro hc <;> (try rw [List.length_nil] at hc) <;> first | (exfalso; omega) | (exact absurd rfl hc) | conv => whnf)  | (refine bcase_intro ?_ ?_ <;> intro hc <;> conv => whnf))
    all_goals first | exact key _ e _ _ | (trace_state; fail "sumC")
  by_cases h4 : z = 0
  · have e : 0 = sumS an (val x) bn (val y) := by unfold sumS; rw [if_neg (by omega), if_neg h3, if_pos (z1 h4)]
    refine pureP_of rfl rfl ?_
    (conv => whnf); repeat' (first | ((with_reducible first | apply kN | apply kW | apply kX | apply kG | apply kQ); (· exact sd); conv => whnf) | (refine pcase.mk ?_ ?_ <;> intro hc <;> (try rw [List.length_nil] at hc) <;> first | (exfalso; omega) | (exact absurd rfl hc) | conv => whnf) | (refine callK_of ho ?_; rintro _ rfl; conv => whnf) | (refine bcase_intro ?_ ?_ <;> intro hc <;> conv => whnf))
    refine Calls1.mono (K := fun out s' => ∃ l : List Int, out = .ok (.own 2 4 0 14) ∧ s' = ⟨[.arr 0 1 true true (ints (List.replicate 14 0)), .arr 1 1 true true (ints (List.replicate 14 0)), .arr 4 1 true true (ints l)], 5⟩ ∧ l.length = 14) (plusO (c0 := 4) dig0 dig0) ?_
    rintro _ _ ⟨l2, rfl, rfl, hl2⟩
    (conv => whnf); repeat' (first | ((with_reducible first | apply kN | apply kW | apply kX | apply kG | apply kQ); (· exact sd); conv => whnf) | (refine pcase.mk ?_ ?_ <;> intro hc <;> (try rw [List.length_nil] at hc) <;> first | (exfalso; omega) | (exact absurd rfl hc) | conv => whnf)  | (refine bcase_intro ?_ ?_ <;> intro hc <;> conv => whnf))
    obtain ⟨n3, l3, h⟩ := key 0 e true l2
    refine ⟨n3, l3, ?_⟩
    rw [← h]
    have := @uI l2
    rw [hl2] at this
    exact congrArg (fun q => AV.tup [.int .i64 0, .sl true q]) this
  by_cases h5 : 0 < z
  · have e : an = sumS an (val x) bn (val y) := by
      have := z2 h5
      unfold sumS; rw [if_neg (by omega), if_neg h3, if_neg (by omega), if_pos this]
    refine pureP_of rfl rfl ?_
    (conv => whnf); repeat' (first | ((with_reducible first | apply kN | apply kW | apply kX | apply kG | apply kQ); (· exact sd); conv => whnf) | (refine pcase.mk ?_ ?_ <;> intro hc <;> (try rw [List.length_nil] at hc) <;> first | (exfalso; omega) | (exact absurd rfl hc) | conv => whnf) | (refine callK_of ho ?_; rintro _ rfl; conv => whnf) | (refine callK_of (minusW hx hy) ?_; rintro _ ⟨nn, l, rfl⟩; conv => whnf) | (refine bcase_intro ?_ ?_ <;> intro hc <;> conv => whnf))
    all_goals first | exact key _ e _ _ | (trace_state; fail "sumD")
  · have e : bn = sumS an (val x) bn (val y) := by
      have := z3 h4 h5
      unfold sumS; rw [if_neg (by omega), if_neg h3, if_neg (by omega), if_neg (by omega)]
    refine pureP_of rfl rfl ?_
    (conv => whnf); repeat' (first | ((with_reducible first | apply kN | apply kW | apply kX | apply kG | apply kQ); (· exact sd); conv => whnf) | (refine pcase.mk ?_ ?_ <;> intro hc <;> (try rw [List.length_nil] at hc) <;> first | (exfalso; omega) | (exact absurd rfl hc) | conv => whnf) | (refine callK_of ho ?_; rintro _ rfl; conv => whnf) | (refine callK_of (minusW hy hx) ?_; rintro _ ⟨nn, l, rfl⟩; conv => whnf) | (refine bcase_intro ?_ ?_ <;> intro hc <;> conv => whnf))
    all_goals first | exact key _ e _ _ | (trace_state; fail "sumE")

end AI
end Go.Proofs.YtbkibamoigmboaaGreatDoor
set_option linter.unusedVariables false
namespace Go.Proofs.YtbkibamoigmboaaGreatDoor
namespace AI

theorem prod_cases (n d : Int) (hd : 1 ≤ d) : (n < 0 ∧ sgn n = -1 ∧ 0 < (n.natAbs : Int) * d ∧ n * d = -((n.natAbs : Int) * d)) ∨ (n = 0 ∧ sgn n = 0 ∧ (n.natAbs : Int) * d = 0 ∧ n * d = 0) ∨ (0 < n ∧ sgn n = 1 ∧ 0 < (n.natAbs : Int) * d ∧ n * d = (n.natAbs : Int) * d) := by
  rcases Int.lt_trichotomy n 0 with h | h | h
  · refine .inl ⟨h, sgn_neg h, Int.mul_pos (by omega) (by omega), ?_⟩
    rw [← Int.neg_mul, show -(n.natAbs : Int) = n by omega]
  · subst h
    exact .inr (.inl ⟨rfl, rfl, by simp, by simp⟩)
  · refine .inr (.inr ⟨h, sgn_pos h, Int.mul_pos (by omega) (by omega), ?_⟩)
    rw [show (n.natAbs : Int) = n by omega]

theorem sum_sgn {n1 d1 n2 d2 : Int} (h1 : 1 ≤ d1) (h2 : 1 ≤ d2) : sumS (sgn n1) ((n1.natAbs : Int) * d2) (0 - sgn n2) ((n2.natAbs : Int) * d1) = sgn (n1 * d2 - n2 * d1) := by
  rcases prod_cases n1 d2 h2 with ⟨a1, a2, a3, a4⟩ | ⟨a1, a2, a3, a4⟩ | ⟨a1, a2, a3, a4⟩ <;> rcases prod_cases n2 d1 h1 with ⟨b1, b2, b3, b4⟩ | ⟨b1, b2, b3, b4⟩ | ⟨b1, b2, b3, b4⟩ <;> rw [a2, b2, a4, b4] <;> generalize (n1.natAbs : Int) * d2 = p at * <;> generalize (n2.natAbs : Int) * d1 = q at * <;> unfold sumS sgn <;> repeat' split
  all_goals omega

theorem sizeRE {n : Int} (h : inR n) : PureP (findFn tab) 139 [.int .i64 n] (· = .int .i64 (n.natAbs : Int)) := by
  unfold inR at h
  obtain ⟨v, ⟨z, rfl, z0, z1⟩, hz⟩ := (size (n := n) (by omega) (by omega)).det
  rwa [show z = (n.natAbs : Int) by omega] at hz

theorem cmpR3 {n1 d1 n2 d2 : Int} (hf : VF n1 d1) (hg : VF n2 d2) : PureP (findFn tab) 92 [.agg [.int .i64 n1, .int .i64 d1], .agg [.int .i64 n2, .int .i64 d2]] (· = .int .i64 (sgn (n1 * d2 - n2 * d1))) := by
  have q1 := inR_nat hf.2.2.1
  have q2 := inR_nat hg.2.2.1
  obtain ⟨f1, f2, f3, -⟩ := id hf
  obtain ⟨g1, g2, g3, -⟩ := id hg
  have v1 : PureP (findFn tab) 135 [.agg [.int .i64 n1, .int .i64 d1]] (· = .bool true) := by have := fvR (n := n1) (d := d1); rwa [decide_eq_true hf] at this
  have v2 : PureP (findFn tab) 135 [.agg [.int .i64 n2, .int .i64 d2]] (· = .bool true) := by have := fvR (n := n2) (d := d2); rwa [decide_eq_true hg] at this
  obtain ⟨_, ⟨l1, rfl, x1, x2⟩, t1⟩ := (timesV (a := (n1.natAbs : Int)) (b := d2) (by omega) (by omega)).det
  obtain ⟨_, ⟨l2, rfl, y1, y2⟩, t2⟩ := (timesV (a := (n2.natAbs : Int)) (b := d1) (by omega) (by omega)).det
  have s1 := sgn_le n1
  have s2 := sgn_le n2
  have hs := sumV (an := sgn n1) (bn := 0 - sgn n2) x1 y1
  rw [x2, y2, sum_sgn f1 g1] at hs
  refine pureP_of rfl rfl ?_
  (conv => whnf); repeat' (first | (refine callK_of v1 ?_; rintro _ rfl; conv => whnf) | (refine callK_of v2 ?_; rintro _ rfl; conv => whnf) | (refine callK_of (sign (n := n1)) ?_; rintro _ rfl; conv => whnf) | (refine callK_of (sign (n := n2)) ?_; rintro _ rfl; conv => whnf) | (refine callK_of (sizeRE f3) ?_; rintro _ rfl; conv => whnf) | (refine callK_of (sizeRE g3) ?_; rintro _ rfl; conv => whnf) | (refine callK_of t1 ?_; rintro _ rfl; conv => whnf) | (refine callK_of t2 ?_; rintro _ rfl; conv => whnf) | (refine callK_of hs ?_; rintro _ ⟨n3, l3, rfl⟩; conv => whnf) | ((with_reducible first | apply kN | apply kW | apply kX | apply kG | apply kQ); (· exact sd); conv => whnf) | (refine pcase.mk ?_ ?_ <;> intro hc <;> (try rw [List.length_nil] at hc) <;> first | (exfalso; omega) | (exact absurd rfl hc) | conv => whnf) | (refine bcase_intro ?_ ?_ <;> intro hc <;> conv => whnf))
  all_goals first | rfl | (trace_state; fail "cmpR3")

theorem addW_sgn {n1 d1 n2 d2 : Int} (h1 : 1 ≤ d1) (h2 : 1 ≤ d2) : ∃ a m, addW (decide (n1 < 0) != decide (d2 < 0)) (n1.natAbs * d2.natAbs) (decide (0 - n2 < 0) != decide (d1 < 0)) ((0 - n2).natAbs * d1.natAbs) = wd a m ∧ m ≤ n1.natAbs * d2.natAbs + n2.natAbs * d1.natAbs ∧ sgW a m = sgn (n1 * d2 - n2 * d1) := by
  have e1 : ((n1.natAbs : Int) * d2) = ((n1.natAbs * d2.natAbs : Nat) : Int) := by rw [Int.natCast_mul, show (d2.natAbs : Int) = d2 by omega]
  have e2 : ((n2.natAbs : Int) * d1) = ((n2.natAbs * d1.natAbs : Nat) : Int) := by rw [Int.natCast_mul, show (d1.natAbs : Int) = d1 by omega]
  have k1 : decide (d2 < 0) = false := decide_eq_false (by omega)
  have k2 : decide (d1 < 0) = false := decide_eq_false (by omega)
  rw [show (0 - n2).natAbs = n2.natAbs by omega, k1, k2, Bool.bne_false, Bool.bne_false]
  have h := prod_cases n1 d2 h2
  have h' := prod_cases n2 d1 h1
  rw [e1] at h
  rw [e2] at h'
  generalize n1.natAbs * d2.natAbs = p at *
  generalize n2.natAbs * d1.natAbs = q at *
  unfold addW
  split
  · rename_i hh
    refine ⟨_, _, rfl, Nat.le_refl _, ?_⟩
    rw [decide_eq_decide] at hh
    unfold sgW sgn
    simp only [decide_eq_true_eq]
    rcases h with ⟨a1, a2, a3, a4⟩ | ⟨a1, a2, a3, a4⟩ | ⟨a1, a2, a3, a4⟩ <;> rcases h' with ⟨b1, b2, b3, b4⟩ | ⟨b1, b2, b3, b4⟩ | ⟨b1, b2, b3, b4⟩ <;> rw [a4, b4] <;> repeat' split
    all_goals omega
  · rename_i hh
    rw [decide_eq_decide] at hh
    split
    · refine ⟨_, _, rfl, by omega, ?_⟩
      unfold sgW sgn
      simp only [decide_eq_true_eq]
      rcases h with ⟨a1, a2, a3, a4⟩ | ⟨a1, a2, a3, a4⟩ | ⟨a1, a2, a3, a4⟩ <;> rcases h' with ⟨b1, b2, b3, b4⟩ | ⟨b1, b2, b3, b4⟩ | ⟨b1, b2, b3, b4⟩ <;> rw [a4, b4] <;> repeat' split
      all_goals omega
    · refine ⟨_, _, rfl, by omega, ?_⟩
      unfold sgW sgn
      simp only [decide_eq_true_eq]
      rcases h with ⟨a1, a2, a3, a4⟩ | ⟨a1, a2, a3, a4⟩ | ⟨a1, a2, a3, a4⟩ <;> rcases h' with ⟨b1, b2, b3, b4⟩ | ⟨b1, b2, b3, b4⟩ | ⟨b1, b2, b3, b4⟩ <;> rw [a4, b4] <;> repeat' split
      all_goals omega

theorem inR_d {n d : Int} (h : VF n d) : inR d := by have := h.1; have := h.2.1; unfold inR; omega
theorem inR_neg {n : Int} (h : inR n) : inR (0 - n) := by unfold inR at *; omega

theorem cmpP {n1 d1 n2 d2 : Int} (hf : VF n1 d1) (hg : VF n2 d2) : PureP (findFn tab) 74 [.agg [.int .i64 n1, .int .i64 d1], .agg [.int .i64 n2, .int .i64 d2]] (· = .int .i64 (sgn (n1 * d2 - n2 * d1))) := by
  have v1 : PureP (findFn tab) 112 [.agg [.int .i64 n1, .int .i64 d1]] (· = .bool true) := by have := fvP (n := n1) (d := d1); rwa [decide_eq_true hf] at this
  have v2 : PureP (findFn tab) 112 [.agg [.int .i64 n2, .int .i64 d2]] (· = .bool true) := by have := fvP (n := n2) (d := d2); rwa [decide_eq_true hg] at this
  have q1 := inR_nat hf.2.2.1
  have q2 := inR_nat hg.2.2.1
  have q3 := inR_nat (inR_d hf)
  have q4 := inR_nat (inR_d hg)
  have r2 : -1000000000000000 ≤ n2 ∧ n2 ≤ 1000000000000000 := hg.2.2.1
  have m1 := Nat.mul_le_mul q1 q4
  have m2 := Nat.mul_le_mul q2 q3
  have p1 := productP hf.2.2.1 (inR_d hg)
  have p2 := productP (inR_neg hg.2.2.1) (inR_d hf)
  obtain ⟨a, m, e1, e2, e3⟩ := addW_sgn (n1 := n1) (n2 := n2) hf.1 hg.1
  have p3 := plusP (a := decide (n1 < 0) != decide (d2 < 0)) (m := n1.natAbs * d2.natAbs) (b := decide (0 - n2 < 0) != decide (d1 < 0)) (n := (0 - n2).natAbs * d1.natAbs) (by omega) (by rw [show (0 - n2).natAbs = n2.natAbs by omega]; omega)
  rw [e1] at p3
  have p4 := signP (a := a) (m := m) (by omega)
  rw [e3] at p4
  refine pureP_of rfl rfl ?_
  (conv => whnf); repeat' (first | (refine callK_of v1 ?_; rintro _ rfl; conv => whnf) | (refine callK_of v2 ?_; rintro _ rfl; conv => whnf) | (refine callK_of p1 ?_; rintro _ rfl; conv => whnf) | (refine callK_of p2 ?_; rintro _ rfl; conv => whnf) | (refine callK_of p3 ?_; rintro _ rfl; conv => whnf) | (refine callK_of p4 ?_; rintro _ rfl; conv => whnf) | ((with_reducible first | apply kN | apply kW | apply kX | apply kG | apply kQ); (· exact sd); conv => whnf) | (refine pcase.mk ?_ ?_ <;> intro hc <;> (try rw [List.length_nil] at hc) <;> first | (exfalso; omega) | (exact absurd rfl hc) | conv => whnf) | (refine bcase_intro ?_ ?_ <;> intro hc <;> conv => whnf))
  all_goals first | rfl | (trace_state; fail "cmpP")

/-- valid fractions are equal where they compare so -/
theorem frac_eqI {n1 d1 n2 d2 : Int} (hf : VF n1 d1) (hg : VF n2 d2) : sgn (n1 * d2 - n2 * d1) = 0 ↔ n1 = n2 ∧ d1 = d2 := by
  constructor
  · intro h
    have h : n1 * d2 = n2 * d1 := by unfold sgn at h; split at h <;> (try split at h) <;> omega
    obtain ⟨f1, f2, f3, f4⟩ := hf
    obtain ⟨g1, g2, g3, g4⟩ := hg
    have e : n1.natAbs * d2.natAbs = n2.natAbs * d1.natAbs := by rw [← Int.natAbs_mul, ← Int.natAbs_mul, h]
    obtain ⟨e1, e2⟩ := frac_eq (by omega) (by omega) f4 g4 e
    have hd : d1 = d2 := by omega
    subst hd
    exact ⟨Int.eq_of_mul_eq_mul_right (by omega) h, rfl⟩
  · rintro ⟨rfl, rfl⟩
    rw [Int.sub_self]; rfl

end AI
end Go.Proofs.YtbkibamoigmboaaGreatDoor
