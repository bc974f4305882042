/- The null value. The program's wide numbers: products, sums, signs; fractions compared. The program's order of a value and null. Values compared by the program: equal, less, at most (that they answer). -/
import Derived.Test.YtbkibamoigmboaaGreatDoorMT
import Derived.Test.YtbkibamoigmboaaGreatDoorMO
import Derived.Test.YtbkibamoigmboaaGreatDoorBc
import Derived.Test.YtbkibamoigmboaaGreatDoorCmI
set_option linter.unusedVariables false
set_option maxRecDepth 4000
namespace Go.Proofs.YtbkibamoigmboaaGreatDoor
namespace AI

def gv0 : GV := ⟨0, 0, 0, [], false, []⟩
theorem gv0_ok : gv0.ok := ⟨by unfold I64 gv0; dsimp only; omega, by unfold I64 gv0; dsimp only; omega, by unfold I64 gv0; dsimp only; omega, by simp [Ln, gv0], by simp [Ln, gv0], fun _ => rfl, by simp [gv0]⟩
def isNull (v : GV) : Prop := v.k = 0 ∧ v.n = 0 ∧ v.d = 0 ∧ v.s = [] ∧ v.l.length = 0
instance (v : GV) : Decidable (isNull v) := by unfold isNull; infer_instance
theorem null_gv0 : isNull gv0 := ⟨rfl, rfl, rfl, rfl, rfl⟩

end AI
end Go.Proofs.YtbkibamoigmboaaGreatDoor
set_option linter.unusedVariables false
namespace Go.Proofs.YtbkibamoigmboaaGreatDoor
namespace AI

/-- a number of up to 128 bits -/
def wd (b : Bool) (m : Nat) : AV := .agg [.bool b, .int .u64 ((m / 18446744073709551616 : Nat) : Int), .int .u64 ((m % 18446744073709551616 : Nat) : Int)]

theorem wU {z : Int} {K : AV → Prop} (y : Int) (h : z % 18446744073709551616 = y) (hk : K (.int .u64 y)) : wrapK .u64 z K := by
  subst h
  refine wrapK_intro ?_ hk
  simp [IntKind.wrap, IntKind.bits, IntKind.signed]
theorem bv64 (n : Nat) : (BitVec.ofInt 64 (n : Int)).toNat = n % 18446744073709551616 := by simp
theorem andE (n : Nat) : IntKind.u64.wrap (BitVec.ofInt IntKind.u64.bits (n : Int) &&& BitVec.ofInt IntKind.u64.bits 4294967295).toNat = ((n % 4294967296 : Nat) : Int) := by
  show IntKind.u64.wrap (BitVec.ofInt 64 (n : Int) &&& BitVec.ofInt 64 ((4294967295 : Nat) : Int)).toNat = _
  rw [BitVec.toNat_and, bv64, bv64]
  have : (n % 18446744073709551616) &&& (4294967295 % 18446744073709551616) = n % 4294967296 := by
    rw [show (4294967295 % 18446744073709551616 : Nat) = 2 ^ 32 - 1 by rfl, Nat.and_two_pow_sub_one_eq_mod]
    omega
  rw [this]
  simp [IntKind.wrap, IntKind.bits, IntKind.signed]
  omega
theorem or0 {a b : Nat} (ha : a < 18446744073709551616) (hb : b < 18446744073709551616) : IntKind.u64.wrap (BitVec.ofInt IntKind.u64.bits (a : Int) ||| BitVec.ofInt IntKind.u64.bits (b : Int)).toNat = 0 ↔ a = 0 ∧ b = 0 := by
  show IntKind.u64.wrap (BitVec.ofInt 64 (a : Int) ||| BitVec.ofInt 64 (b : Int)).toNat = 0 ↔ _
  have h := (BitVec.ofInt 64 (a : Int) ||| BitVec.ofInt 64 (b : Int)).isLt
  have e : IntKind.u64.wrap (BitVec.ofInt 64 (a : Int) ||| BitVec.ofInt 64 (b : Int)).toNat = ((BitVec.ofInt 64 (a : Int) ||| BitVec.ofInt 64 (b : Int)).toNat : Int) := by
    simp only [IntKind.wrap, IntKind.bits, IntKind.signed, Bool.false_and, Bool.false_eq_true, if_false]
    omega
  rw [e, BitVec.toNat_or, bv64, bv64, Nat.mod_eq_of_lt ha, Nat.mod_eq_of_lt hb]
  constructor
  · intro h
    have h : a ||| b = 0 := by omega
    exact Nat.or_eq_zero_iff.1 h
  · rintro ⟨rfl, rfl⟩; rfl
theorem shrW32 (n : Nat) : ((n : Int)).fdiv (2 ^ (min (Int.toNat 32) IntKind.u64.bits)) = ((n / 4294967296 : Nat) : Int) := by
  rw [show (2 : Int) ^ (min (Int.toNat 32) IntKind.u64.bits) = 4294967296 by rfl, Int.fdiv_eq_ediv_of_nonneg _ (by omega)]
  rfl
theorem mulN {a b : Nat} {A B : Nat} (ha : a ≤ A) (hb : b ≤ B) (h : A * B < 18446744073709551616) : ((a : Int) * (b : Int)) % 18446744073709551616 = ((a * b : Nat) : Int) := by
  have : a * b ≤ A * B := Nat.mul_le_mul ha hb
  rw [Int.natCast_mul]
  have h2 : ((a * b : Nat) : Int) < 18446744073709551616 := by omega
  rw [← Int.natCast_mul]
  omega
theorem split64 (x0 x1 y0 y1 : Nat) : (x1 * 4294967296 + x0) * (y1 * 4294967296 + y0) = x1 * y1 * 18446744073709551616 + (x1 * y0 + x0 * y1) * 4294967296 + x0 * y0 := by
  rw [Nat.add_mul, Nat.mul_add, Nat.mul_add]
  have e1 : x1 * 4294967296 * (y1 * 4294967296) = x1 * y1 * 18446744073709551616 := by
    rw [Nat.mul_mul_mul_comm]
  have e2 : x1 * 4294967296 * y0 = x1 * y0 * 4294967296 := by rw [Nat.mul_right_comm]
  have e3 : x0 * (y1 * 4294967296) = x0 * y1 * 4294967296 := by rw [Nat.mul_assoc]
  rw [e1, e2, e3]
  omega

theorem mul64P {x y : Nat} (hx : x < 2^60) (hy : y < 2^60) : PureP (findFn tab) 162 [.int .u64 x, .int .u64 y] (· = .tup [.int .u64 ((x * y / 18446744073709551616 : Nat) : Int), .int .u64 ((x * y % 18446744073709551616 : Nat) : Int)]) := by
  obtain ⟨x0, hx0⟩ : ∃ x0, x % 4294967296 = x0 := ⟨_, rfl⟩
  obtain ⟨x1, hx1⟩ : ∃ x1, x / 4294967296 = x1 := ⟨_, rfl⟩
  obtain ⟨y0, hy0⟩ : ∃ y0, y % 4294967296 = y0 := ⟨_, rfl⟩
  obtain ⟨y1, hy1⟩ : ∃ y1, y / 4294967296 = y1 := ⟨_, rfl⟩
  have bx0 : x0 ≤ 4294967295 := by omega
  have bx1 : x1 ≤ 268435455 := by omega
  have by0 : y0 ≤ 4294967295 := by omega
  have by1 : y1 ≤ 268435455 := by omega
  have ex := split64 x0 x1 y0 y1
  rw [show x1 * 4294967296 + x0 = x by omega, show y1 * 4294967296 + y0 = y by omega] at ex
  have p00 := Nat.mul_le_mul bx0 by0
  have p10 := Nat.mul_le_mul bx1 by0
  have p01 := Nat.mul_le_mul bx0 by1
  have p11 := Nat.mul_le_mul bx1 by1
  refine pureP_of rfl rfl ?_
  conv => whnf
  repeat (first | (refine need_intro (by first | rfl | omega) ?_; conv => whnf))
  refine eqK_intro ((andE x).trans (congrArg _ hx0)) ?_
  conv => whnf
  repeat (first | (refine need_intro (by first | rfl | omega) ?_; conv => whnf))
  refine eqK_intro ((shrW32 x).trans (congrArg _ hx1)) ?_
  conv => whnf
  repeat (first | (refine need_intro (by first | rfl | omega) ?_; conv => whnf))
  refine eqK_intro ((andE y).trans (congrArg _ hy0)) ?_
  conv => whnf
  repeat (first | (refine need_intro (by first | rfl | omega) ?_; conv => whnf))
  refine eqK_intro ((shrW32 y).trans (congrArg _ hy1)) ?_
  conv => whnf
  repeat (first | (refine need_intro (by first | rfl | omega) ?_; conv => whnf))
  refine wU _ (mulN bx0 by0 (by decide)) ?_
  conv => whnf
  repeat (first | (refine need_intro (by first | rfl | omega) ?_; conv => whnf))
  refine wU _ (mulN bx1 by0 (by decide)) ?_
  conv => whnf
  repeat (first | (refine need_intro (by first | rfl | omega) ?_; conv => whnf))
  refine eqK_intro (shrW32 _) ?_
  conv => whnf
  repeat (first | (refine need_intro (by first | rfl | omega) ?_; conv => whnf))
  refine wU ((x1 * y0 + x0 * y0 / 4294967296 : Nat) : Int) (by omega) ?_
  conv => whnf
  repeat (first | (refine need_intro (by first | rfl | omega) ?_; conv => whnf))
  refine eqK_intro (andE _) ?_
  conv => whnf
  repeat (first | (refine need_intro (by first | rfl | omega) ?_; conv => whnf))
  refine eqK_intro (shrW32 _) ?_
  conv => whnf
  repeat (first | (refine need_intro (by first | rfl | omega) ?_; conv => whnf))
  refine wU _ (mulN bx0 by1 (by decide)) ?_
  conv => whnf
  repeat (first | (refine need_intro (by first | rfl | omega) ?_; conv => whnf))
  refine wU (((x1 * y0 + x0 * y0 / 4294967296) % 4294967296 + x0 * y1 : Nat) : Int) (by omega) ?_
  conv => whnf
  repeat (first | (refine need_intro (by first | rfl | omega) ?_; conv => whnf))
  refine wU _ (mulN bx1 by1 (by decide)) ?_
  conv => whnf
  repeat (first | (refine need_intro (by first | rfl | omega) ?_; conv => whnf))
  refine wU ((x1 * y1 + (x1 * y0 + x0 * y0 / 4294967296) / 4294967296 : Nat) : Int) (by omega) ?_
  conv => whnf
  repeat (first | (refine need_intro (by first | rfl | omega) ?_; conv => whnf))
  refine eqK_intro (shrW32 _) ?_
  conv => whnf
  repeat (first | (refine need_intro (by first | rfl | omega) ?_; conv => whnf))
  refine wU ((x1 * y1 + (x1 * y0 + x0 * y0 / 4294967296) / 4294967296 + ((x1 * y0 + x0 * y0 / 4294967296) % 4294967296 + x0 * y1) / 4294967296 : Nat) : Int) (by omega) ?_
  conv => whnf
  repeat (first | (refine need_intro (by first | rfl | omega) ?_; conv => whnf))
  refine wU ((x * y % 18446744073709551616 : Nat) : Int) (by rw [← Int.natCast_mul]; omega) ?_
  conv => whnf
  rw [ex]
  repeat (refine getK_intro rfl ?_; conv => whnf)
  have e1 : ∀ z z' : Nat, z = z' → ∀ w : AV, AV.tup [.int .u64 ((z : Nat) : Int), w] = .tup [.int .u64 ((z' : Nat) : Int), w] := fun z z' h w => by rw [h]
  exact e1 _ _ (by omega) _

theorem inR_nat {n : Int} (h : inR n) : n.natAbs ≤ 1000000000000000 := by unfold inR at h; omega

theorem sizeP {n : Int} (h : inR n) : PureP (findFn tab) 163 [.int .i64 n] (· = .int .u64 (n.natAbs : Int)) := by
  unfold inR at h
  refine pureP_of rfl rfl ?_
  (conv => whnf); repeat' (first | (refine wU (n + 18446744073709551616) (by omega) ?_; conv => whnf) | (refine wU (n.natAbs : Int) (by omega) ?_; conv => whnf) | ((with_reducible first | apply kN | apply kW | apply kX | apply kG | apply kQ); (· exact sd); conv => whnf) | (refine pcase.mk ?_ ?_ <;> intro hc <;> (try rw [List.length_nil] at hc) <;> first | (exfalso; omega) | (exact absurd rfl hc) | conv => whnf) | (refine bcase_intro ?_ ?_ <;> intro hc <;> conv => whnf))
  all_goals first | rfl | (trace_state; fail "sizeP")

theorem wd_ok {b : Bool} {m : Nat} {x y : Int} {c : Bool} (h1 : b = c) (h2 : ((m / 18446744073709551616 : Nat) : Int) = x) (h3 : ((m % 18446744073709551616 : Nat) : Int) = y) : AV.agg [.bool c, .int .u64 x, .int .u64 y] = wd b m := by
  subst h1 h2 h3; rfl

theorem productP {a b : Int} (ha : inR a) (hb : inR b) : PureP (findFn tab) 113 [.int .i64 a, .int .i64 b] (· = wd (decide (a < 0) != decide (b < 0)) (a.natAbs * b.natAbs)) := by
  have h1 := inR_nat ha
  have h2 := inR_nat hb
  have h3 := mul64P (x := a.natAbs) (y := b.natAbs) (by omega) (by omega)
  refine pureP_of rfl rfl ?_
  (conv => whnf); repeat' (first | (refine callK_of (sizeP ha) ?_; rintro _ rfl; conv => whnf) | (refine callK_of (sizeP hb) ?_; rintro _ rfl; conv => whnf) | (refine callK_of h3 ?_; rintro _ rfl; conv => whnf) | ((with_reducible first | apply kN | apply kW | apply kX | apply kG | apply kQ); (· exact sd); conv => whnf) | (refine pcase.mk ?_ ?_ <;> intro hc <;> (try rw [List.length_nil] at hc) <;> first | (exfalso; omega) | (exact absurd rfl hc) | conv => whnf) | (refine bcase_intro ?_ ?_ <;> intro hc <;> conv => whnf))
  all_goals first
    | exact wd_ok (by rw [decide_eq_true (show a < 0 by omega), decide_eq_true (show b < 0 by omega)]; rfl) rfl rfl
    | exact wd_ok (by rw [decide_eq_true (show a < 0 by omega), decide_eq_false (show ¬ b < 0 by omega)]; rfl) rfl rfl
    | exact wd_ok (by rw [decide_eq_false (show ¬ a < 0 by omega), decide_eq_true (show b < 0 by omega)]; rfl) rfl rfl
    | exact wd_ok (by rw [decide_eq_false (show ¬ a < 0 by omega), decide_eq_false (show ¬ b < 0 by omega)]; rfl) rfl rfl
    | (trace_state; fail "productP")

theorem addP {x y c : Nat} (hc : c ≤ 1) : PureP (findFn tab) 164 [.int .u64 x, .int .u64 y, .int .u64 c] (· = .tup [.int .u64 (((x + y + c) % 18446744073709551616 : Nat) : Int), .int .u64 (((x + y + c) / 18446744073709551616 : Nat) : Int)]) := by
  refine pureP_ext (sp := addSpec) (v := .tup [.int .u64 (((x + y + c) % 18446744073709551616 : Nat) : Int), .int .u64 (((x + y + c) / 18446744073709551616 : Nat) : Int)]) (s := ⟨[], 0⟩) rfl ?_ rfl rfl
  show (if 0 ≤ (x : Int) ∧ 0 ≤ (y : Int) ∧ 0 ≤ (c : Int) ∧ (c : Int) ≤ 1 then _ else _) = _
  rw [if_pos ⟨by omega, by omega, by omega, by omega⟩]
  rfl
theorem subP {x y c : Nat} (hc : c ≤ 1) (h : y + c ≤ x + 18446744073709551616) : PureP (findFn tab) 166 [.int .u64 x, .int .u64 y, .int .u64 c] (· = .tup [.int .u64 (((x + 18446744073709551616 - y - c) % 18446744073709551616 : Nat) : Int), .int .u64 ((if x < y + c then 1 else 0 : Nat) : Int)]) := by
  refine pureP_ext (sp := subSpec) (v := .tup [.int .u64 (((x + 18446744073709551616 - y - c) % 18446744073709551616 : Nat) : Int), .int .u64 ((if x < y + c then 1 else 0 : Nat) : Int)]) (s := ⟨[], 0⟩) rfl ?_ rfl rfl
  show (if 0 ≤ (x : Int) ∧ 0 ≤ (y : Int) ∧ 0 ≤ (c : Int) ∧ (c : Int) ≤ 1 ∧ (y : Int) + c ≤ x + m64 then _ else _) = _
  rw [if_pos ⟨by omega, by omega, by omega, by omega, by unfold m64; omega⟩]
  have e1 : ((x : Int) + m64 - y - c) % m64 = (((x + 18446744073709551616 - y - c) % 18446744073709551616 : Nat) : Int) := by
    unfold m64; omega
  have e2 : (if (x : Int) < y + c then (1 : Int) else 0) = ((if x < y + c then 1 else 0 : Nat) : Int) := by
    split <;> split <;> omega
  rw [e1, e2]

theorem lessP {a b : Bool} {m n : Nat} : PureP (findFn tab) 165 [wd a m, wd b n] (· = .bool (decide (m < n))) := by
  refine pureP_of rfl rfl ?_
  (conv => whnf); repeat' (first  | ((with_reducible first | apply kN | apply kW | apply kX | apply kG | apply kQ); (· exact sd); conv => whnf) | (refine pcase.mk ?_ ?_ <;> intro hc <;> (try rw [List.length_nil] at hc) <;> first | (exfalso; omega) | (exact absurd rfl hc) | conv => whnf) | (refine bcase_intro ?_ ?_ <;> intro hc <;> conv => whnf))
  all_goals first | exact bool_t (by omega) | exact bool_f (by omega) | (trace_state; fail "lessP")

/-- the sum of two wide numbers -/
def addW (a : Bool) (m : Nat) (b : Bool) (n : Nat) : AV := if a = b then wd a (m + n) else if m < n then wd b (n - m) else wd a (m - n)

theorem plusP {a b : Bool} {m n : Nat} (hm : m < 2^120) (hn : n < 2^120) : PureP (findFn tab) 114 [wd a m, wd b n] (· = addW a m b n) := by
  have c1 := addP (x := m % 18446744073709551616) (y := n % 18446744073709551616) (c := 0) (by omega)
  have c2 := addP (x := m / 18446744073709551616) (y := n / 18446744073709551616) (c := (m % 18446744073709551616 + n % 18446744073709551616 + 0) / 18446744073709551616) (by omega)
  have d1 := subP (x := m % 18446744073709551616) (y := n % 18446744073709551616) (c := 0) (by omega) (by omega)
  have d2 := subP (x := m / 18446744073709551616) (y := n / 18446744073709551616) (c := if m % 18446744073709551616 < n % 18446744073709551616 + 0 then 1 else 0) (by split <;> omega) (by split <;> omega)
  have f1 := subP (x := n % 18446744073709551616) (y := m % 18446744073709551616) (c := 0) (by omega) (by omega)
  have f2 := subP (x := n / 18446744073709551616) (y := m / 18446744073709551616) (c := if n % 18446744073709551616 < m % 18446744073709551616 + 0 then 1 else 0) (by split <;> omega) (by split <;> omega)
  by_cases hab : a = b
  · have e : addW a m b n = wd a (m + n) := if_pos hab
    rw [e]
    subst hab
    cases a
    all_goals
      refine pureP_of rfl rfl ?_
      (conv => whnf); repeat' (first | (refine callK_of c1 ?_; rintro _ rfl; conv => whnf) | (refine callK_of c2 ?_; rintro _ rfl; conv => whnf) | ((with_reducible first | apply kN | apply kW | apply kX | apply kG | apply kQ); (· exact sd); conv => whnf) | (refine pcase.mk ?_ ?_ <;> intro hc <;> (try rw [List.length_nil] at hc) <;> first | (exfalso; omega) | (exact absurd rfl hc) | conv => whnf) | (refine bcase_intro ?_ ?_ <;> intro hc <;> conv => whnf))
      all_goals first | (show AV.agg [.bool _, .int .u64 ((_ : Nat) : Int), .int .u64 ((_ : Nat) : Int)] = wd _ _; exact wd_ok rfl (by omega) (by omega)) | (trace_state; fail "plusA")
  by_cases hlt : m < n
  · have e : addW a m b n = wd b (n - m) := by unfold addW; rw [if_neg hab, if_pos hlt]
    have hl : PureP (findFn tab) 165 [wd a m, wd b n] (· = .bool true) := by
      have := lessP (a := a) (b := b) (m := m) (n := n); rwa [decide_eq_true hlt] at this
    rw [e]
    cases a <;> cases b <;> (try exact absurd rfl hab)
    all_goals
      refine pureP_of rfl rfl ?_
      (conv => whnf); repeat' (first | (refine callK_of hl ?_; rintro _ rfl; conv => whnf) | (refine callK_of f1 ?_; rintro _ rfl; conv => whnf) | (refine callK_of f2 ?_; rintro _ rfl; conv => whnf) | ((with_reducible first | apply kN | apply kW | apply kX | apply kG | apply kQ); (· exact sd); conv => whnf) | (refine pcase.mk ?_ ?_ <;> intro hc <;> (try rw [List.length_nil] at hc) <;> first | (exfalso; omega) | (exact absurd rfl hc) | conv => whnf) | (refine bcase_intro ?_ ?_ <;> intro hc <;> conv => whnf))
      all_goals first | (show AV.agg [.bool _, .int .u64 ((_ : Nat) : Int), .int .u64 ((_ : Nat) : Int)] = wd _ _; exact wd_ok rfl (by split <;> omega) (by omega)) | (trace_state; fail "plusB")
  · have e : addW a m b n = wd a (m - n) := by unfold addW; rw [if_neg hab, if_neg hlt]
    have hl : PureP (findFn tab) 165 [wd a m, wd b n] (· = .bool false) := by
      have := lessP (a := a) (b := b) (m := m) (n := n); rwa [decide_eq_false hlt] at this
    rw [e]
    cases a <;> cases b <;> (try exact absurd rfl hab)
    all_goals
      refine pureP_of rfl rfl ?_
      (conv => whnf); repeat' (first | (refine callK_of hl ?_; rintro _ rfl; conv => whnf) | (refine callK_of d1 ?_; rintro _ rfl; conv => whnf) | (refine callK_of d2 ?_; rintro _ rfl; conv => whnf) | ((with_reducible first | apply kN | apply kW | apply kX | apply kG | apply kQ); (· exact sd); conv => whnf) | (refine pcase.mk ?_ ?_ <;> intro hc <;> (try rw [List.length_nil] at hc) <;> first | (exfalso; omega) | (exact absurd rfl hc) | conv => whnf) | (refine bcase_intro ?_ ?_ <;> intro hc <;> conv => whnf))
      all_goals first | (show AV.agg [.bool _, .int .u64 ((_ : Nat) : Int), .int .u64 ((_ : Nat) : Int)] = wd _ _; exact wd_ok rfl (by split <;> omega) (by omega)) | (trace_state; fail "plusC")

def sgW (a : Bool) (m : Nat) : Int := if m = 0 then 0 else if a = true then -1 else 1
theorem signP {a : Bool} {m : Nat} (hm : m < 2^127) : PureP (findFn tab) 115 [wd a m] (· = .int .i64 (sgW a m)) := by
  obtain ⟨z, hz, hz0⟩ : ∃ z, IntKind.u64.wrap (BitVec.ofInt IntKind.u64.bits ((m / 18446744073709551616 : Nat) : Int) ||| BitVec.ofInt IntKind.u64.bits ((m % 18446744073709551616 : Nat) : Int)).toNat = z ∧ (z = 0 ↔ m = 0) := ⟨_, rfl, by
    rw [or0 (by omega) (by omega)]; omega⟩
  refine pureP_of rfl rfl ?_
  (conv => whnf); repeat' (first | (refine eqK_intro hz ?_; conv => whnf) | ((with_reducible first | apply kN | apply kW | apply kX | apply kG | apply kQ); (· exact sd); conv => whnf) | (refine pcase.mk ?_ ?_ <;> intro hc <;> (try rw [List.length_nil] at hc) <;> first | (exfalso; omega) | (exact absurd rfl hc) | conv => whnf) | (refine bcase_intro ?_ ?_ <;> intro hc <;> conv => whnf))
  all_goals first
    | exact congrArg (AV.int .i64) (by unfold sgW; rw [if_pos (by omega)])
    | exact congrArg (AV.int .i64) (by unfold sgW; rw [if_neg (by omega), if_pos (by assumption)])
    | exact congrArg (AV.int .i64) (by unfold sgW; rw [if_neg (by omega)]; simp_all)
    | (trace_state; fail "signP")

end AI
end Go.Proofs.YtbkibamoigmboaaGreatDoor
set_option linter.unusedVariables false
namespace Go.Proofs.YtbkibamoigmboaaGreatDoor
namespace AI

theorem vv_null {v : GV} (hk : v.k = 0) : VV 8 v ↔ isNull v := by
  rw [VV_b (by omega) (by omega)]
  unfold VB isNull
  constructor
  · rintro ⟨h1, h⟩
    rcases h with h | h | h | h | h | h <;> first | exact ⟨hk, h.2.1, h.2.2.1, h.2.2.2, h1⟩ | (exfalso; omega)
  · rintro ⟨_, h1, h2, h3, h4⟩
    exact ⟨h4, .inl ⟨hk, h1, h2, h3⟩⟩

def clsP (k : Int) : Int := if k = 3 then 2 else if k = 7 then 9 else k
theorem classP {v : GV} : PureP (findFn tab) 99 [v.av] (· = .int .i64 (clsP v.k)) := by
  refine pureP_of rfl rfl ?_
  (conv => whnf); repeat' (first  | ((with_reducible first | apply kN | apply kW | apply kX | apply kG | apply kQ); (· exact sd); conv => whnf) | (refine pcase.mk ?_ ?_ <;> intro hc <;> (try rw [List.length_nil] at hc) <;> first | (exfalso; omega) | (exact absurd rfl hc) | conv => whnf) | (refine bcase_intro ?_ ?_ <;> intro hc <;> conv => whnf))
  all_goals first | (unfold clsP; rw [if_pos (by assumption)]; rfl) | (unfold clsP; rw [if_neg (by assumption), if_pos (by assumption)]; rfl) | (unfold clsP; rw [if_neg (by assumption), if_neg (by assumption)]; rfl) | (trace_state; fail "classP")
theorem clsP0 {k : Int} : clsP k = 0 ↔ k = 0 := by unfold clsP; split <;> (try split) <;> omega

theorem nullP : PureP (findFn tab) 37 [] (· = gv0.av) := by
  refine pureP_of rfl rfl ?_
  (conv => whnf); repeat' (first  | ((with_reducible first | apply kN | apply kW | apply kX | apply kG | apply kQ); (· exact sd); conv => whnf) | (refine pcase.mk ?_ ?_ <;> intro hc <;> (try rw [List.length_nil] at hc) <;> first | (exfalso; omega) | (exact absurd rfl hc) | conv => whnf) | (refine bcase_intro ?_ ?_ <;> intro hc <;> conv => whnf))
  rfl

theorem nanSC {x : List UInt8} : PureP (findFn tab) 96 [.str x] (· = .bool false) := by
  refine pureP_of rfl rfl ?_
  (conv => whnf); repeat' (first  | ((with_reducible first | apply kN | apply kW | apply kX | apply kG | apply kQ); (· exact sd); conv => whnf) | (refine pcase.mk ?_ ?_ <;> intro hc <;> (try rw [List.length_nil] at hc) <;> first | (exfalso; omega) | (exact absurd rfl hc) | conv => whnf) | (refine bcase_intro ?_ ?_ <;> intro hc <;> conv => whnf))
  all_goals first | rfl | (exfalso; simp_all) | (trace_state; fail "nanSC")
theorem cmpS0 : PureP (findFn tab) 60 [.str [], .str []] (· = .int .i64 0) := ⟨_, ⟨20, by kernel_rfl⟩, rfl⟩
theorem or3 {nn : Bool} : PureP (findFn tab) 59 [.sl nn [.int .i64 0, .int .i64 0, .int .i64 0]] (· = .int .i64 0) := by
  cases nn
  · exact ⟨_, ⟨20, by kernel_rfl⟩, rfl⟩
  · exact ⟨_, ⟨20, by kernel_rfl⟩, rfl⟩
theorem cmpF0 {nn : Bool} {f : Nat} : PureP (findFn tab) 64 [.sl nn [], .sl false [], .fn f []] (· = .int .i64 0) := by
  refine pureP_of rfl rfl ?_
  (conv => whnf); repeat' (first  | ((with_reducible first | apply kN | apply kW | apply kX | apply kG | apply kQ); (· exact sd); conv => whnf) | (refine pcase.mk ?_ ?_ <;> intro hc <;> (try rw [List.length_nil] at hc) <;> first | (exfalso; omega) | (exact absurd rfl hc) | conv => whnf) | (refine bcase_intro ?_ ?_ <;> intro hc <;> conv => whnf))
  refine loop_inv (fun m env s => m = 0 ∧ env = [(0, .sl nn []), (1, .sl false []), (2, .fn f []), (11, .sl nn []), (12, .int .i64 0), (13, .int .i64 0)] ∧ s = ⟨[], 0⟩) ?_ _ _ _ ⟨rfl, rfl, rfl⟩
  rintro _ _ _ ⟨rfl, rfl, rfl⟩
  refine ⟨rfl, ?_⟩
  (conv => whnf); repeat' (first  | ((with_reducible first | apply kN | apply kW | apply kX | apply kG | apply kQ); (· exact sd); conv => whnf) | (refine pcase.mk ?_ ?_ <;> intro hc <;> (try rw [List.length_nil] at hc) <;> first | (exfalso; omega) | (exact absurd rfl hc) | conv => whnf) | (refine bcase_intro ?_ ?_ <;> intro hc <;> conv => whnf))
  all_goals first | rfl | (exfalso; simp_all) | (trace_state; fail "cmpF0")

/-- of a null value -/
theorem orderZ {v : GV} (h : isNull v) : PureP (findFn tab) 63 [v.av, gv0.av] (· = .int .i64 0) := by
  obtain ⟨k, n, d, s, nn, l⟩ := v
  obtain ⟨h1, h2, h3, h4, h5⟩ := h
  dsimp only at h1 h2 h3 h4 h5
  subst h1 h2 h3 h4
  obtain rfl : l = [] := List.eq_nil_of_length_eq_zero h5
  have hc1 : PureP (findFn tab) 99 [GV.av ⟨0, 0, 0, [], nn, []⟩] (· = .int .i64 0) := classP (v := ⟨0, 0, 0, [], nn, []⟩)
  have hc2 : PureP (findFn tab) 99 [gv0.av] (· = .int .i64 0) := classP (v := gv0)
  have hc3 : PureP (findFn tab) 61 [.int .i64 0, .int .i64 0] (· = .int .i64 0) := compare
  refine pureP_of rfl rfl ?_
  (conv => whnf); repeat' (first | (refine callK_of hc1 ?_; rintro _ rfl; conv => whnf) | (refine callK_of hc2 ?_; rintro _ rfl; conv => whnf) | (refine callK_of hc3 ?_; rintro _ rfl; conv => whnf) | (refine callK_of cmpS0 ?_; rintro _ rfl; conv => whnf) | (refine callK_of cmpF0 ?_; rintro _ rfl; conv => whnf) | (refine callK_of or3 ?_; rintro _ rfl; conv => whnf) | ((with_reducible first | apply kN | apply kW | apply kX | apply kG | apply kQ); (· exact sd); conv => whnf) | (refine pcase.mk ?_ ?_ <;> intro hc <;> (try rw [List.length_nil] at hc) <;> first | (exfalso; omega) | (exact absurd rfl hc) | conv => whnf) | (refine bcase_intro ?_ ?_ <;> intro hc <;> conv => whnf))
  all_goals first | rfl | (exfalso; simp_all) | (trace_state; fail "orderZ")

/-- of a valid value that is not null -/
theorem orderNZ {v : GV} (h : v.k ≠ 0) : PureP (findFn tab) 63 [v.av, gv0.av] (fun w => ∃ z, w = .int .i64 z ∧ z ≠ 0) := by
  have hc2 : PureP (findFn tab) 99 [gv0.av] (· = .int .i64 0) := classP (v := gv0)
  obtain ⟨z, hz, hz0⟩ : ∃ z, cmpI (clsP v.k) 0 = z ∧ z ≠ 0 := ⟨_, rfl, fun h0 => h (clsP0.1 (cmpI_zero.1 h0))⟩
  have hc3 : PureP (findFn tab) 61 [.int .i64 (clsP v.k), .int .i64 0] (· = .int .i64 z) := hz ▸ compare
  refine pureP_of rfl rfl ?_
  (conv => whnf); repeat' (first | (refine callK_of (classP (v := v)) ?_; rintro _ rfl; conv => whnf) | (refine callK_of hc2 ?_; rintro _ rfl; conv => whnf) | (refine callK_of hc3 ?_; rintro _ rfl; conv => whnf) | ((with_reducible first | apply kN | apply kW | apply kX | apply kG | apply kQ); (· exact sd); conv => whnf) | (refine pcase.mk ?_ ?_ <;> intro hc <;> (try rw [List.length_nil] at hc) <;> first | (exfalso; omega) | (exact absurd rfl hc) | conv => whnf) | (refine bcase_intro ?_ ?_ <;> intro hc <;> conv => whnf))
  all_goals first | exact ⟨_, rfl, hz0⟩ | (exfalso; omega) | (trace_state; fail "orderNZ")

/-- a value is like null where it is null -/
theorem orderPN {v : GV} (hv : v.ok) : PureP (findFn tab) 30 [v.av, gv0.av] (fun w => ∃ z, w = .int .i64 z ∧ (z = 0 ↔ isNull v)) := by
  have hq : PureP (findFn tab) 62 [gv0.av] (· = .bool true) := by
    have := ValidP gv0_ok; rwa [decide_eq_true ((vv_null rfl).2 null_gv0)] at this
  have hp := ValidP hv
  by_cases hVV : VV 8 v
  · rw [decide_eq_true hVV] at hp
    by_cases hk : v.k = 0
    · have hn := (vv_null hk).1 hVV
      refine pureP_of rfl rfl ?_
      (conv => whnf); repeat' (first | (refine callK_of hp ?_; rintro _ rfl; conv => whnf) | (refine callK_of hq ?_; rintro _ rfl; conv => whnf) | (refine callK_of (orderZ hn) ?_; rintro _ rfl; conv => whnf) | ((with_reducible first | apply kN | apply kW | apply kX | apply kG | apply kQ); (· exact sd); conv => whnf) | (refine pcase.mk ?_ ?_ <;> intro hc <;> (try rw [List.length_nil] at hc) <;> first | (exfalso; omega) | (exact absurd rfl hc) | conv => whnf) | (refine bcase_intro ?_ ?_ <;> intro hc <;> conv => whnf))
      all_goals first | exact ⟨_, rfl, fun _ => hn, fun _ => rfl⟩ | (trace_state; fail "orderPN1")
    · refine pureP_of rfl rfl ?_
      (conv => whnf); repeat' (first | (refine callK_of hp ?_; rintro _ rfl; conv => whnf) | (refine callK_of hq ?_; rintro _ rfl; conv => whnf) | (refine callK_of (orderNZ hk) ?_; rintro _ ⟨z, rfl, hz⟩; conv => whnf) | ((with_reducible first | apply kN | apply kW | apply kX | apply kG | apply kQ); (· exact sd); conv => whnf) | (refine pcase.mk ?_ ?_ <;> intro hc <;> (try rw [List.length_nil] at hc) <;> first | (exfalso; omega) | (exact absurd rfl hc) | conv => whnf) | (refine bcase_intro ?_ ?_ <;> intro hc <;> conv => whnf))
      all_goals first | exact ⟨_, rfl, fun h => absurd h hz, fun h => absurd h.1 hk⟩ | (trace_state; fail "orderPN2")
  · rw [decide_eq_false hVV] at hp
    have hn : ¬ isNull v := fun h => hVV ((vv_null h.1).2 h)
    refine pureP_of rfl rfl ?_
    (conv => whnf); repeat' (first | (refine callK_of hp ?_; rintro _ rfl; conv => whnf) | (refine callK_of hq ?_; rintro _ rfl; conv => whnf) | ((with_reducible first | apply kN | apply kW | apply kX | apply kG | apply kQ); (· exact sd); conv => whnf) | (refine pcase.mk ?_ ?_ <;> intro hc <;> (try rw [List.length_nil] at hc) <;> first | (exfalso; omega) | (exact absurd rfl hc) | conv => whnf) | (refine bcase_intro ?_ ?_ <;> intro hc <;> conv => whnf))
    all_goals first | exact ⟨_, rfl, fun h => absurd h (by decide), fun h => absurd h hn⟩ | (trace_state; fail "orderPN3")

end AI
end Go.Proofs.YtbkibamoigmboaaGreatDoor
set_option linter.unusedVariables false
namespace Go.Proofs.YtbkibamoigmboaaGreatDoor
namespace AI

/-- a valid number -/
def isN (g : GV) : Prop := VV 8 g ∧ (g.k = 2 ∨ g.k = 3)
noncomputable instance (g : GV) : Decidable (isN g) := by unfold isN; infer_instance
/-- its denominator -/
def dn (g : GV) : Int := if g.k = 2 then 1 else g.d
theorem isN_VF {g : GV} (h : isN g) : VF g.n (dn g) := by
  obtain ⟨hv, hk⟩ := h
  rw [VV_b (by omega) (by omega)] at hv
  obtain ⟨h1, h2⟩ := hv
  unfold dn
  rcases hk with hk | hk
  · rw [if_pos hk]
    rcases h2 with h | h | h | h | h | h <;> first | (exfalso; omega) | exact ⟨by omega, by omega, h.2.1, by simp⟩
  · rw [if_neg (by omega)]
    rcases h2 with h | h | h | h | h | h <;> first | (exfalso; omega) | exact h.2.2.1
theorem vP {g : GV} (hg : g.ok) (h : VV 8 g) : PureP (findFn tab) 62 [g.av] (· = .bool true) := by have := ValidP hg; rwa [decide_eq_true h] at this
theorem vPn {g : GV} (hg : g.ok) (h : ¬ VV 8 g) : PureP (findFn tab) 62 [g.av] (· = .bool false) := by have := ValidP hg; rwa [decide_eq_false h] at this
theorem nP1 {g : GV} (hg : g.ok) (h : isN g) : PureP (findFn tab) 72 [g.av] (· = .tup [.agg [.int .i64 g.n, .int .i64 (dn g)], .bool true]) := by
  have hv := vP hg h.1
  rcases h.2 with hk | hk
  · have e : dn g = 1 := if_pos hk
    rw [e]
    refine pureP_of rfl rfl ?_
    (conv => whnf); repeat' (first | (refine callK_of hv ?_; rintro _ rfl; conv => whnf) | ((with_reducible first | apply kN | apply kW | apply kX | apply kG | apply kQ); (· exact sd); conv => whnf) | (refine pcase.mk ?_ ?_ <;> intro hc <;> (try rw [List.length_nil] at hc) <;> first | (exfalso; omega) | (exact absurd rfl hc) | conv => whnf) | (refine bcase_intro ?_ ?_ <;> intro hc <;> conv => whnf))
    all_goals first | rfl | (trace_state; fail "nP1")
  · have e : dn g = g.d := if_neg (by omega)
    rw [e]
    refine pureP_of rfl rfl ?_
    (conv => whnf); repeat' (first | (refine callK_of hv ?_; rintro _ rfl; conv => whnf) | ((with_reducible first | apply kN | apply kW | apply kX | apply kG | apply kQ); (· exact sd); conv => whnf) | (refine pcase.mk ?_ ?_ <;> intro hc <;> (try rw [List.length_nil] at hc) <;> first | (exfalso; omega) | (exact absurd rfl hc) | conv => whnf) | (refine bcase_intro ?_ ?_ <;> intro hc <;> conv => whnf))
    all_goals first | rfl | (trace_state; fail "nP1")
theorem nP0 {g : GV} (hg : g.ok) (h : ¬ isN g) : PureP (findFn tab) 72 [g.av] (· = .tup [.agg [.int .i64 0, .int .i64 0], .bool false]) := by
  by_cases hk : g.k = 2 ∨ g.k = 3
  · have hv := vPn hg (fun hv => h ⟨hv, hk⟩)
    refine pureP_of rfl rfl ?_
    (conv => whnf); repeat' (first | (refine callK_of hv ?_; rintro _ rfl; conv => whnf) | ((with_reducible first | apply kN | apply kW | apply kX | apply kG | apply kQ); (· exact sd); conv => whnf) | (refine pcase.mk ?_ ?_ <;> intro hc <;> (try rw [List.length_nil] at hc) <;> first | (exfalso; omega) | (exact absurd rfl hc) | conv => whnf) | (refine bcase_intro ?_ ?_ <;> intro hc <;> conv => whnf))
    all_goals first | rfl | (trace_state; fail "nP0")
  · refine pureP_of rfl rfl ?_
    (conv => whnf); repeat' (first  | ((with_reducible first | apply kN | apply kW | apply kX | apply kG | apply kQ); (· exact sd); conv => whnf) | (refine pcase.mk ?_ ?_ <;> intro hc <;> (try rw [List.length_nil] at hc) <;> first | (exfalso; omega) | (exact absurd rfl hc) | conv => whnf) | (refine bcase_intro ?_ ?_ <;> intro hc <;> conv => whnf))
    all_goals first | rfl | (trace_state; fail "nP0")
theorem truthT : PureP (findFn tab) 73 [.bool true] (· = .int .i64 2) := ⟨_, ⟨20, by kernel_rfl⟩, rfl⟩
theorem truthF : PureP (findFn tab) 73 [.bool false] (· = .int .i64 0) := ⟨_, ⟨20, by kernel_rfl⟩, rfl⟩
theorem eqF2 {a b c d : Int} : eqAV (.flat [.int, .int]) (.agg [.int .i64 a, .int .i64 b]) (.agg [.int .i64 c, .int .i64 d]) = some (decide (a = c ∧ b = d)) := by
  have e : ∀ z z' : Int, (z == z') = decide (z = z') := fun z z' => by by_cases h : z = z' <;> simp [h]
  by_cases h1 : a = c <;> by_cases h2 : b = d <;> simp [eqAV, eqFlat, eqLeaf, e, h1, h2]

theorem VV_up : ∀ {m k : Nat} {g : GV}, m ≤ k → VV m g → VV k g
  | m, 0, g, h, hv => by obtain rfl : m = 0 := by omega
                         exact hv
  | m, k + 1, g, h, hv => by
    rcases Nat.lt_or_ge m (k + 1) with h1 | h1
    · exact VV_mono (VV_up (by omega) hv)
    · obtain rfl : m = k + 1 := by omega
      exact hv


/-- a truth value -/
def Tri (v : AV) : Prop := ∃ e : Int, v = .int .i64 e ∧ 0 ≤ e ∧ e ≤ 2
theorem knownT {a : Int} : PureP (findFn tab) 160 [.int .i64 a] Tri := by
  refine pureP_of rfl rfl ?_
  (conv => whnf); repeat' (first  | ((with_reducible first | apply kN | apply kW | apply kX | apply kG | apply kQ); (· exact sd); conv => whnf) | (refine pcase.mk ?_ ?_ <;> intro hc <;> (try rw [List.length_nil] at hc) <;> first | (exfalso; omega) | (exact absurd rfl hc) | conv => whnf) | (refine bcase_intro ?_ ?_ <;> intro hc <;> conv => whnf))
  all_goals first | exact ⟨_, rfl, by omega, by omega⟩ | (trace_state; fail "known")
theorem andT {a b : Int} : PureP (findFn tab) 111 [.int .i64 a, .int .i64 b] Tri := by
  obtain ⟨_, ⟨x, rfl, x1, x2⟩, p1⟩ := (knownT (a := a)).det
  obtain ⟨_, ⟨y, rfl, y1, y2⟩, p2⟩ := (knownT (a := b)).det
  refine pureP_of rfl rfl ?_
  (conv => whnf); repeat' (first | (refine callK_of p1 ?_; rintro _ rfl; conv => whnf) | (refine callK_of p2 ?_; rintro _ rfl; conv => whnf) | ((with_reducible first | apply kN | apply kW | apply kX | apply kG | apply kQ); (· exact sd); conv => whnf) | (refine pcase.mk ?_ ?_ <;> intro hc <;> (try rw [List.length_nil] at hc) <;> first | (exfalso; omega) | (exact absurd rfl hc) | conv => whnf) | (refine bcase_intro ?_ ?_ <;> intro hc <;> conv => whnf))
  all_goals first | exact ⟨_, rfl, by omega, by omega⟩ | exact ⟨_, rfl, by split <;> omega, by split <;> omega⟩ | (trace_state; fail "andT")

theorem numT {a : GV} (ha : a.ok) : ∃ x y t, PureP (findFn tab) 72 [a.av] (· = .tup [.agg [.int .i64 x, .int .i64 y], .bool t]) ∧ (t = true → isN a ∧ x = a.n ∧ y = dn a) := by
  by_cases h : isN a
  · exact ⟨_, _, true, nP1 ha h, fun _ => ⟨h, rfl, rfl⟩⟩
  · exact ⟨_, _, false, nP0 ha h, fun h => Bool.noConfusion h⟩

theorem equalLf {a b : GV} (ha : a.ok) (hb : b.ok) (hab : a.k = b.k → a.k ≠ 7 ∧ a.k ≠ 8) : PureP (findFn tab) 71 [a.av, b.av] Tri := by
  obtain ⟨x1, y1, b1, p1, -⟩ := numT ha
  obtain ⟨x2, y2, b2, p2, -⟩ := numT hb
  cases b1 <;> cases b2
  all_goals
    refine pureP_of rfl rfl ?_
    (conv => whnf); repeat' (first | (refine callK_of p1 ?_; rintro _ rfl; conv => whnf) | (refine callK_of p2 ?_; rintro _ rfl; conv => whnf) | (refine callK_of truthT ?_; rintro _ rfl; conv => whnf) | (refine callK_of truthF ?_; rintro _ rfl; conv => whnf) | (refine getK_intro (congrArg (Option.map AV.bool) eqF2) ?_; conv => whnf) | ((with_reducible first | apply kN | apply kW | apply kX | apply kG | apply kQ); (· exact sd); conv => whnf) | (refine pcase.mk ?_ ?_ <;> intro hc <;> (try rw [List.length_nil] at hc) <;> first | (exfalso; omega) | (exact absurd rfl hc) | conv => whnf) | (refine bcase_intro ?_ ?_ <;> intro hc <;> conv => whnf))
    all_goals first | exact ⟨_, rfl, by omega, by omega⟩ | (exfalso; omega) | (trace_state; fail "equalLf")

theorem equalLs {a b : GV} (ha : a.ok) (hb : b.ok) (hk : a.k = b.k) (h78 : a.k = 7 ∨ a.k = 8) (hel : ∀ i (h : i < a.l.length) (h' : i < b.l.length), PureP (findFn tab) 71 [a.l[i], b.l[i]] Tri) : PureP (findFn tab) 71 [a.av, b.av] Tri := by
  have p1 := nP0 ha (fun h => by have := h.2; omega)
  have p2 := nP0 hb (fun h => by have := h.2; omega)
  have la : a.l.length < 2^63 := ha.2.2.2.2.1
  have lb : b.l.length < 2^63 := hb.2.2.2.2.1
  by_cases hl : a.l.length = b.l.length
  case neg =>
    refine pureP_of rfl rfl ?_
    (conv => whnf); repeat' (first | (refine callK_of p1 ?_; rintro _ rfl; conv => whnf) | (refine callK_of p2 ?_; rintro _ rfl; conv => whnf) | ((with_reducible first | apply kN | apply kW | apply kX | apply kG | apply kQ); (· exact sd); conv => whnf) | (refine pcase.mk ?_ ?_ <;> intro hc <;> (try rw [List.length_nil] at hc) <;> first | (exfalso; omega) | (exact absurd rfl hc) | conv => whnf) | (refine bcase_intro ?_ ?_ <;> intro hc <;> conv => whnf))
    all_goals first | exact ⟨_, rfl, by omega, by omega⟩ | (trace_state; fail "eqLs0")
  case pos =>
    refine pureP_of rfl rfl ?_
    (conv => whnf); repeat' (first | (refine callK_of p1 ?_; rintro _ rfl; conv => whnf) | (refine callK_of p2 ?_; rintro _ rfl; conv => whnf) | ((with_reducible first | apply kN | apply kW | apply kX | apply kG | apply kQ); (· exact sd); conv => whnf) | (refine pcase.mk ?_ ?_ <;> intro hc <;> (try rw [List.length_nil] at hc) <;> first | (exfalso; omega) | (exact absurd rfl hc) | conv => whnf) | (refine bcase_intro ?_ ?_ <;> intro hc <;> conv => whnf))
    all_goals
      refine loop_inv (fun m env s => ∃ (i c : Nat) (t : Int), m = a.l.length - i ∧ i ≤ a.l.length ∧ 0 ≤ t ∧ t ≤ 2 ∧ env = [(2, .ref 0 0 0 0), (3, .ref 1 1 0 0), (9, .int .i64 t), (76, .int .i64 a.l.length), (77, .int .i64 i)] ∧ s = ⟨[.arr 0 5 true true [a.av], .arr 1 5 true true [b.av], .arr 2 2 true true [.agg [.int .i64 0, .int .i64 0]], .arr 3 2 true true [.agg [.int .i64 0, .int .i64 0]]], c⟩) ?_ _ _ _ ⟨0, _, _, rfl, by omega, by decide, by decide, rfl, rfl⟩
      rintro _ _ _ ⟨i, c, t, rfl, hi, t1, t2, rfl, rfl⟩
      refine ⟨rfl, ?_⟩
      by_cases hlt : i < a.l.length
      · obtain ⟨gx, hgx⟩ := like_at ha.2.2.2.2.2.2 i
        obtain ⟨gy, hgy⟩ := like_at hb.2.2.2.2.2.2 i
        obtain ⟨hn, hxe, hok⟩ := hgx hlt
        obtain ⟨hn', hye, hok'⟩ := hgy (by omega)
        have k2 := hel i hlt (by omega)
        rw [hxe, hye] at k2
        obtain ⟨_, ⟨e, rfl, e1, e2⟩, k3⟩ := k2.det
        obtain ⟨_, ⟨w, rfl, w1, w2⟩, k4⟩ := (andT (a := t) (b := e)).det
        (conv => whnf); repeat' (first | (apply nthK_intro; (· exact hn); conv => whnf) | (apply nthK_intro; (· exact hn'); conv => whnf) | (refine callK_of k3 ?_; rintro _ rfl; conv => whnf) | (refine callK_of k4 ?_; rintro _ rfl; conv => whnf) | ((with_reducible first | apply kN | apply kW | apply kX | apply kG | apply kQ); (· exact sd); conv => whnf) | (refine pcase.mk ?_ ?_ <;> intro hc <;> (try rw [List.length_nil] at hc) <;> first | (exfalso; omega) | (exact absurd rfl hc) | conv => whnf) | (refine bcase_intro ?_ ?_ <;> intro hc <;> conv => whnf))
        all_goals first | exact again.mk ⟨_, by omega, i + 1, _, w, rfl, by omega, w1, w2, rfl, rfl⟩ | (trace_state; fail "eqLss")
      · (conv => whnf); repeat' (first  | ((with_reducible first | apply kN | apply kW | apply kX | apply kG | apply kQ); (· exact sd); conv => whnf) | (refine pcase.mk ?_ ?_ <;> intro hc <;> (try rw [List.length_nil] at hc) <;> first | (exfalso; omega) | (exact absurd rfl hc) | conv => whnf) | (refine bcase_intro ?_ ?_ <;> intro hc <;> conv => whnf))
        all_goals first | exact ⟨t, rfl, t1, t2⟩ | (exfalso; omega) | (trace_state; fail "eqLse")

theorem equalT : ∀ (m : Nat), m ≤ 8 → ∀ {a b : GV}, a.ok → b.ok → VV m a → VV 8 b → PureP (findFn tab) 71 [a.av, b.av] Tri := by
  intro m
  induction m with
  | zero =>
    intro hm a b ha hb va vb
    by_cases hab : a.k = b.k ∧ (a.k = 7 ∨ a.k = 8)
    · have h7 : a.k = 7 := hab.2.elim id fun h => absurd va (VV0_8 h)
      refine equalLs ha hb hab.1 hab.2 fun i h h' => ?_
      obtain ⟨x, e1, _, x2⟩ := ((VV_7 h7).1 va).2.2.2.2.2 i h
      obtain ⟨gx, hgx⟩ := like_at ha.2.2.2.2.2.2 i
      obtain ⟨gy, hgy⟩ := like_at hb.2.2.2.2.2.2 i
      obtain ⟨_, f1, f2⟩ := hgx h
      obtain ⟨_, f3, f4⟩ := hgy h'
      rw [e1] at f1
      obtain rfl := GV.av_inj f1
      rw [e1, f3]
      have kx := VB_k x2
      exact equalLf f2 f4 fun _ => ⟨by omega, by omega⟩
    · exact equalLf ha hb fun h => ⟨fun h7 => hab ⟨h, .inl h7⟩, fun h8 => hab ⟨h, .inr h8⟩⟩
  | succ m ih =>
    intro hm a b ha hb va vb
    by_cases hab : a.k = b.k ∧ (a.k = 7 ∨ a.k = 8)
    · rcases hab.2 with h7 | h8
      · refine equalLs ha hb hab.1 hab.2 fun i h h' => ?_
        obtain ⟨x, e1, _, x2⟩ := ((VV_7 h7).1 va).2.2.2.2.2 i h
        obtain ⟨gx, hgx⟩ := like_at ha.2.2.2.2.2.2 i
        obtain ⟨gy, hgy⟩ := like_at hb.2.2.2.2.2.2 i
        obtain ⟨_, f1, f2⟩ := hgx h
        obtain ⟨_, f3, f4⟩ := hgy h'
        rw [e1] at f1
        obtain rfl := GV.av_inj f1
        rw [e1, f3]
        have kx := VB_k x2
        exact equalLf f2 f4 fun _ => ⟨by omega, by omega⟩
      · refine equalLs ha hb hab.1 hab.2 fun i h h' => ?_
        obtain ⟨x, e1, x2⟩ := ((VV_8 h8).1 va).2.2.2.2 i h
        obtain ⟨y, e2, y2⟩ := ((VV_8 (m := 7) (by omega)).1 vb).2.2.2.2 i h'
        obtain ⟨gx, hgx⟩ := like_at ha.2.2.2.2.2.2 i
        obtain ⟨gy, hgy⟩ := like_at hb.2.2.2.2.2.2 i
        obtain ⟨_, f1, f2⟩ := hgx h
        obtain ⟨_, f3, f4⟩ := hgy h'
        rw [e1] at f1; rw [e2] at f3
        obtain rfl := GV.av_inj f1
        obtain rfl := GV.av_inj f3
        rw [e1, e2]
        exact ih (by omega) f2 f4 x2 (VV_up (m := 7) (by omega) y2)
    · exact equalLf ha hb fun h => ⟨fun h7 => hab ⟨h, .inl h7⟩, fun h8 => hab ⟨h, .inr h8⟩⟩

theorem validT {a : GV} (ha : a.ok) : ∃ t, PureP (findFn tab) 62 [a.av] (· = .bool t) ∧ (t = true → VV 8 a) := ⟨_, ValidP ha, of_decide_eq_true⟩
theorem EqualT {a b : GV} (ha : a.ok) (hb : b.ok) : PureP (findFn tab) 35 [a.av, b.av] Tri := by
  obtain ⟨t1, p1, q1⟩ := validT ha
  obtain ⟨t2, p2, q2⟩ := validT hb
  cases t1 with
  | false =>
    refine pureP_of rfl rfl ?_
    (conv => whnf); repeat' (first | (refine callK_of p1 ?_; rintro _ rfl; conv => whnf) | ((with_reducible first | apply kN | apply kW | apply kX | apply kG | apply kQ); (· exact sd); conv => whnf) | (refine pcase.mk ?_ ?_ <;> intro hc <;> (try rw [List.length_nil] at hc) <;> first | (exfalso; omega) | (exact absurd rfl hc) | conv => whnf) | (refine bcase_intro ?_ ?_ <;> intro hc <;> conv => whnf))
    all_goals first | exact ⟨_, rfl, by omega, by omega⟩ | (trace_state; fail "EqualT1")
  | true =>
    cases t2 with
    | false =>
      refine pureP_of rfl rfl ?_
      (conv => whnf); repeat' (first | (refine callK_of p1 ?_; rintro _ rfl; conv => whnf) | (refine callK_of p2 ?_; rintro _ rfl; conv => whnf) | ((with_reducible first | apply kN | apply kW | apply kX | apply kG | apply kQ); (· exact sd); conv => whnf) | (refine pcase.mk ?_ ?_ <;> intro hc <;> (try rw [List.length_nil] at hc) <;> first | (exfalso; omega) | (exact absurd rfl hc) | conv => whnf) | (refine bcase_intro ?_ ?_ <;> intro hc <;> conv => whnf))
      all_goals first | exact ⟨_, rfl, by omega, by omega⟩ | (trace_state; fail "EqualT2")
    | true =>
      obtain ⟨_, ⟨e, rfl, e1, e2⟩, p3⟩ := (equalT 8 (by omega) ha hb (q1 rfl) (q2 rfl)).det
      refine pureP_of rfl rfl ?_
      (conv => whnf); repeat' (first | (refine callK_of p1 ?_; rintro _ rfl; conv => whnf) | (refine callK_of p2 ?_; rintro _ rfl; conv => whnf) | (refine callK_of p3 ?_; rintro _ rfl; conv => whnf) | ((with_reducible first | apply kN | apply kW | apply kX | apply kG | apply kQ); (· exact sd); conv => whnf) | (refine pcase.mk ?_ ?_ <;> intro hc <;> (try rw [List.length_nil] at hc) <;> first | (exfalso; omega) | (exact absurd rfl hc) | conv => whnf) | (refine bcase_intro ?_ ?_ <;> intro hc <;> conv => whnf))
      all_goals first | exact ⟨_, rfl, by omega, by omega⟩ | (trace_state; fail "EqualT3")

/-- fractions are compared -/
theorem cmpT3 {n1 d1 n2 d2 : Int} (hf : VF n1 d1) (hg : VF n2 d2) : PureP (findFn tab) 74 [.agg [.int .i64 n1, .int .i64 d1], .agg [.int .i64 n2, .int .i64 d2]] (fun v => ∃ z, v = .int .i64 z) := by
  have v1 : PureP (findFn tab) 112 [.agg [.int .i64 n1, .int .i64 d1]] (· = .bool true) := by have := fvP (n := n1) (d := d1); rwa [decide_eq_true hf] at this
  have v2 : PureP (findFn tab) 112 [.agg [.int .i64 n2, .int .i64 d2]] (· = .bool true) := by have := fvP (n := n2) (d := d2); rwa [decide_eq_true hg] at this
  have e1 : inR d1 := by have := hf.1; have := hf.2.1; unfold inR; omega
  have e2 : inR d2 := by have := hg.1; have := hg.2.1; unfold inR; omega
  have e3 : inR (0 - n2) := by have := hg.2.2.1; unfold inR at *; omega
  have r2 : -1000000000000000 ≤ n2 ∧ n2 ≤ 1000000000000000 := hg.2.2.1
  have m1 := Nat.mul_le_mul (inR_nat hf.2.2.1) (inR_nat e2)
  have m2 := Nat.mul_le_mul (inR_nat e3) (inR_nat e1)
  have p1 := productP hf.2.2.1 e2
  have p2 := productP e3 e1
  have p3 := plusP (a := decide (n1 < 0) != decide (d2 < 0)) (m := n1.natAbs * d2.natAbs) (b := decide (0 - n2 < 0) != decide (d1 < 0)) (n := (0 - n2).natAbs * d1.natAbs) (by omega) (by omega)
  obtain ⟨a, m, e4, e5⟩ : ∃ a m, addW (decide (n1 < 0) != decide (d2 < 0)) (n1.natAbs * d2.natAbs) (decide (0 - n2 < 0) != decide (d1 < 0)) ((0 - n2).natAbs * d1.natAbs) = wd a m ∧ m < 2^127 := by
    unfold addW
    split
    · exact ⟨_, _, rfl, by omega⟩
    · split
      · exact ⟨_, _, rfl, by omega⟩
      · exact ⟨_, _, rfl, by omega⟩
  rw [e4] at p3
  have p4 := signP (a := a) e5
  refine pureP_of rfl rfl ?_
  (conv => whnf); repeat' (first | (refine callK_of v1 ?_; rintro _ rfl; conv => whnf) | (refine callK_of v2 ?_; rintro _ rfl; conv => whnf) | (refine callK_of p1 ?_; rintro _ rfl; conv => whnf) | (refine callK_of p2 ?_; rintro _ rfl; conv => whnf) | (refine callK_of p3 ?_; rintro _ rfl; conv => whnf) | (refine callK_of p4 ?_; rintro _ rfl; conv => whnf) | ((with_reducible first | apply kN | apply kW | apply kX | apply kG | apply kQ); (· exact sd); conv => whnf) | (refine pcase.mk ?_ ?_ <;> intro hc <;> (try rw [List.length_nil] at hc) <;> first | (exfalso; omega) | (exact absurd rfl hc) | conv => whnf) | (refine bcase_intro ?_ ?_ <;> intro hc <;> conv => whnf))
  all_goals first | exact ⟨_, rfl⟩ | (trace_state; fail "cmpT3")

theorem LessT {a b : GV} (ha : a.ok) (hb : b.ok) : PureP (findFn tab) 36 [a.av, b.av] Tri := by
  obtain ⟨x1, y1, b1, p1, q1⟩ := numT ha
  obtain ⟨x2, y2, b2, p2, q2⟩ := numT hb
  obtain ⟨t1, v1, -⟩ := validT ha
  obtain ⟨t2, v2, -⟩ := validT hb
  by_cases hbb : b1 = true ∧ b2 = true
  · obtain ⟨rfl, rfl⟩ := hbb
    obtain ⟨n1, rfl, rfl⟩ := q1 rfl
    obtain ⟨n2, rfl, rfl⟩ := q2 rfl
    obtain ⟨_, ⟨z, rfl⟩, c1⟩ := (cmpT3 (isN_VF n1) (isN_VF n2)).det
    refine pureP_of rfl rfl ?_
    (conv => whnf); repeat' (first | (refine callK_of p1 ?_; rintro _ rfl; conv => whnf) | (refine callK_of p2 ?_; rintro _ rfl; conv => whnf) | (refine callK_of c1 ?_; rintro _ rfl; conv => whnf) | (refine callK_of truthT ?_; rintro _ rfl; conv => whnf) | (refine callK_of truthF ?_; rintro _ rfl; conv => whnf) | ((with_reducible first | apply kN | apply kW | apply kX | apply kG | apply kQ); (· exact sd); conv => whnf) | (refine pcase.mk ?_ ?_ <;> intro hc <;> (try rw [List.length_nil] at hc) <;> first | (exfalso; omega) | (exact absurd rfl hc) | conv => whnf) | (refine bcase_intro ?_ ?_ <;> intro hc <;> conv => whnf))
    all_goals first | exact ⟨_, rfl, by omega, by omega⟩ | (trace_state; fail "LessT1")
  · clear q1 q2
    cases b1 <;> cases b2 <;> (try exact absurd ⟨rfl, rfl⟩ hbb)
    all_goals
      cases t1 <;> cases t2
      all_goals
        refine pureP_of rfl rfl ?_
        (conv => whnf); repeat' (first | (refine callK_of p1 ?_; rintro _ rfl; conv => whnf) | (refine callK_of p2 ?_; rintro _ rfl; conv => whnf) | (refine callK_of v1 ?_; rintro _ rfl; conv => whnf) | (refine callK_of v2 ?_; rintro _ rfl; conv => whnf) | (refine callK_of truthT ?_; rintro _ rfl; conv => whnf) | (refine callK_of truthF ?_; rintro _ rfl; conv => whnf) | ((with_reducible first | apply kN | apply kW | apply kX | apply kG | apply kQ); (· exact sd); conv => whnf) | (refine pcase.mk ?_ ?_ <;> intro hc <;> (try rw [List.length_nil] at hc) <;> first | (exfalso; omega) | (exact absurd rfl hc) | conv => whnf) | (refine bcase_intro ?_ ?_ <;> intro hc <;> conv => whnf))
        all_goals first | exact ⟨_, rfl, by omega, by omega⟩ | (trace_state; fail "LessT2")

theorem nullBP {v : GV} (hv : v.ok) : PureP (findFn tab) 52 [v.av] (· = .bool (decide (isNull v))) := by
  obtain ⟨_, ⟨z, rfl, hz⟩, h⟩ := (orderPN hv).det
  refine pureP_of rfl rfl ?_
  (conv => whnf); repeat' (first | (refine callK_of nullP ?_; rintro _ rfl; conv => whnf) | (refine callK_of h ?_; rintro _ rfl; conv => whnf) | ((with_reducible first | apply kN | apply kW | apply kX | apply kG | apply kQ); (· exact sd); conv => whnf) | (refine pcase.mk ?_ ?_ <;> intro hc <;> (try rw [List.length_nil] at hc) <;> first | (exfalso; omega) | (exact absurd rfl hc) | conv => whnf) | (refine bcase_intro ?_ ?_ <;> intro hc <;> conv => whnf))
  all_goals first | exact bool_t (hz.1 (by assumption)) | exact bool_f (fun h => absurd (hz.2 h) (by assumption)) | (trace_state; fail "nullP")

end AI
end Go.Proofs.YtbkibamoigmboaaGreatDoor
