/- Sorting in place (CmpFunc[graphdb/api.Rule]): the pivot, reversing, breaking patterns. -/
import Derived.Test.YtdlkcancogpafaaGreatDoorPrA
import Derived.Test.YtdlkcancogpafaaGreatDoorMP
set_option linter.unusedVariables false
set_option maxRecDepth 4000
namespace Go.Proofs.YtdlkcancogpafaaGreatDoor
namespace AI
open Go.Sort

theorem prord {ob0 : Obj} {g g2 c len : Nat} {nn cl : Bool} {d : Array GR} {a b n : Nat} (hl : d.size = len) (ha : a < len) (hb : b < len) (hs : len < 2^61) (hn : n < 100) :
    Calls1 (findFn tab) 174 [.own 1 g 0 len, .int .i64 a, .int .i64 b, .ref 2 g2 0 0, .fn 24 []] ⟨[ob0, .arr g 6 nn cl (vs GR.av d.toList), .arr g2 1 true true [.int .i64 n]], c⟩ fun out s' => ∃ (c' x y n' : Nat), out = .ok (.tup [.int .i64 x, .int .i64 y]) ∧ s' = ⟨[ob0, .arr g 6 nn cl (vs GR.av d.toList), .arr g2 1 true true [.int .i64 n']], c'⟩ ∧ n' ≤ n + 1 ∧ (x = a ∧ y = b ∨ x = b ∧ y = a) := by
  refine calls1_of rfl rfl ?_
  (conv => whnf); repeat' (first | ((with_reducible show nthK _ _ _); refine nPK (a) ?_; conv => whnf) | ((with_reducible show nthK _ _ _); refine nPK (b) ?_; conv => whnf) | (refine callK_of orderPR ?_; rintro _ rfl; conv => whnf) | (refine pcaseR (fun hc => ?_) (fun hc => ?_) <;> conv => whnf) | ((with_reducible first | apply kN | apply kW | apply kX | apply kG | apply kQ); (· exact sd); conv => whnf) | (refine pcase.mk ?_ ?_ <;> intro hc <;> (try rw [List.length_nil] at hc) <;> first | (exfalso; omega) | (exact absurd rfl hc) | conv => whnf) | (refine bcase_intro ?_ ?_ <;> intro hc <;> conv => whnf))
  · exact ⟨_, b, a, n + 1, rfl, rfl, by omega, Or.inr ⟨rfl, rfl⟩⟩
  · exact ⟨_, a, b, n, rfl, rfl, by omega, Or.inl ⟨rfl, rfl⟩⟩

theorem prmed {ob0 : Obj} {g g2 c len : Nat} {nn cl : Bool} {d : Array GR} {a b e n : Nat} (hl : d.size = len) (ha : a < len) (hb : b < len) (he : e < len) (hs : len < 2^61) (hn : n < 90) :
    Calls1 (findFn tab) 146 [.own 1 g 0 len, .int .i64 a, .int .i64 b, .int .i64 e, .ref 2 g2 0 0, .fn 24 []] ⟨[ob0, .arr g 6 nn cl (vs GR.av d.toList), .arr g2 1 true true [.int .i64 n]], c⟩ fun out s' => ∃ (c' m n' : Nat), out = .ok (.int .i64 m) ∧ s' = ⟨[ob0, .arr g 6 nn cl (vs GR.av d.toList), .arr g2 1 true true [.int .i64 n']], c'⟩ ∧ n' ≤ n + 3 ∧ (m = a ∨ m = b ∨ m = e) := by
  refine calls1_of rfl rfl ?_
  (conv => whnf); repeat' (first  | ((with_reducible first | apply kN | apply kW | apply kX | apply kG | apply kQ); (· exact sd); conv => whnf) | (refine pcase.mk ?_ ?_ <;> intro hc <;> (try rw [List.length_nil] at hc) <;> first | (exfalso; omega) | (exact absurd rfl hc) | conv => whnf) | (refine bcase_intro ?_ ?_ <;> intro hc <;> conv => whnf))
  refine (prord hl ha hb hs (by omega)).mono ?_
  rintro _ _ ⟨c1, x1, y1, n1, rfl, rfl, h1, e1⟩
  conv => whnf
  apply getK_intro rfl
  (conv => whnf); repeat' (first  | ((with_reducible first | apply kN | apply kW | apply kX | apply kG | apply kQ); (· exact sd); conv => whnf) | (refine pcase.mk ?_ ?_ <;> intro hc <;> (try rw [List.length_nil] at hc) <;> first | (exfalso; omega) | (exact absurd rfl hc) | conv => whnf) | (refine bcase_intro ?_ ?_ <;> intro hc <;> conv => whnf))
  refine (prord (a := y1) (b := e) hl (by omega) he hs (by omega)).mono ?_
  rintro _ _ ⟨c2, x2, y2, n2, rfl, rfl, h2, e2⟩
  conv => whnf
  apply getK_intro rfl
  (conv => whnf); repeat' (first  | ((with_reducible first | apply kN | apply kW | apply kX | apply kG | apply kQ); (· exact sd); conv => whnf) | (refine pcase.mk ?_ ?_ <;> intro hc <;> (try rw [List.length_nil] at hc) <;> first | (exfalso; omega) | (exact absurd rfl hc) | conv => whnf) | (refine bcase_intro ?_ ?_ <;> intro hc <;> conv => whnf))
  refine (prord (a := x1) (b := x2) hl (by omega) (by omega) hs (by omega)).mono ?_
  rintro _ _ ⟨c3, x3, y3, n3, rfl, rfl, h3, e3⟩
  conv => whnf
  apply getK_intro rfl
  (conv => whnf); repeat' (first  | ((with_reducible first | apply kN | apply kW | apply kX | apply kG | apply kQ); (· exact sd); conv => whnf) | (refine pcase.mk ?_ ?_ <;> intro hc <;> (try rw [List.length_nil] at hc) <;> first | (exfalso; omega) | (exact absurd rfl hc) | conv => whnf) | (refine bcase_intro ?_ ?_ <;> intro hc <;> conv => whnf))
  exact ⟨_, y3, n3, rfl, rfl, by omega, by omega⟩

theorem pradj {ob0 : Obj} {g g2 c len : Nat} {nn cl : Bool} {d : Array GR} {a n : Nat} (hl : d.size = len) (ha : a + 1 < len) (h0 : 0 < a) (hs : len < 2^61) (hn : n < 90) :
    Calls1 (findFn tab) 145 [.own 1 g 0 len, .int .i64 a, .ref 2 g2 0 0, .fn 24 []] ⟨[ob0, .arr g 6 nn cl (vs GR.av d.toList), .arr g2 1 true true [.int .i64 n]], c⟩ fun out s' => ∃ (c' m n' : Nat), out = .ok (.int .i64 m) ∧ s' = ⟨[ob0, .arr g 6 nn cl (vs GR.av d.toList), .arr g2 1 true true [.int .i64 n']], c'⟩ ∧ n' ≤ n + 3 ∧ a ≤ m + 1 ∧ m ≤ a + 1 := by
  refine calls1_of rfl rfl ?_
  (conv => whnf); repeat' (first  | ((with_reducible first | apply kN | apply kW | apply kX | apply kG | apply kQ); (· exact sd); conv => whnf) | (refine pcase.mk ?_ ?_ <;> intro hc <;> (try rw [List.length_nil] at hc) <;> first | (exfalso; omega) | (exact absurd rfl hc) | conv => whnf) | (refine bcase_intro ?_ ?_ <;> intro hc <;> conv => whnf))
  rw [show ((a : Int) - 1) = ((a - 1 : Nat) : Int) by omega]
  refine (prmed (a := a - 1) (b := a) (e := a + 1) hl (by omega) (by omega) ha hs hn).mono ?_
  rintro _ _ ⟨c', m, n', rfl, rfl, h1, h2⟩
  conv => whnf
  apply getK_intro rfl
  (conv => whnf); repeat' (first  | ((with_reducible first | apply kN | apply kW | apply kX | apply kG | apply kQ); (· exact sd); conv => whnf) | (refine pcase.mk ?_ ?_ <;> intro hc <;> (try rw [List.length_nil] at hc) <;> first | (exfalso; omega) | (exact absurd rfl hc) | conv => whnf) | (refine bcase_intro ?_ ?_ <;> intro hc <;> conv => whnf))
  exact ⟨_, m, n', rfl, rfl, h1, by omega, by omega⟩

set_option maxHeartbeats 1000000 in
theorem prpiv {ob0 : Obj} {g c len : Nat} {nn cl : Bool} {d : Array GR} {a b : Nat} (hl : d.size = len) (hb : b ≤ len) (hab : a + 12 < b) (hs : len < 2^61) :
    Calls1 (findFn tab) 107 [.own 1 g 0 len, .int .i64 a, .int .i64 b, .fn 24 []] ⟨[ob0, .arr g 6 nn cl (vs GR.av d.toList)], c⟩ fun out s' => ∃ (c' p : Nat) (h : Int) (ob : Obj), out = .ok (.tup [.int .i64 p, .int .i64 h]) ∧ s' = ⟨[ob0, .arr g 6 nn cl (vs GR.av d.toList), ob], c'⟩ ∧ a ≤ p ∧ p < b := by
  refine calls1_of rfl rfl ?_
  have hq : (b - a) / 4 * 4 ≤ b - a := Nat.div_mul_le_self _ _
  have hq2 : 3 ≤ (b - a) / 4 := by omega
  generalize hL : (b - a) / 4 = L at hq hq2
  (conv => whnf); repeat' (first | (refine wrapD (b - a) 4 (by omega) (by omega) ?_; rw [hL]; conv => whnf) | ((with_reducible first | apply kN | apply kW | apply kX | apply kG | apply kQ); (· exact sd); conv => whnf) | (refine pcase.mk ?_ ?_ <;> intro hc <;> (try rw [List.length_nil] at hc) <;> first | (exfalso; omega) | (exact absurd rfl hc) | conv => whnf) | (refine bcase_intro ?_ ?_ <;> intro hc <;> conv => whnf))
  · refine (pradj (g2 := c) (n := 0) (a := a + L * 1) hl (by omega) (by omega) hs (by omega)).mono ?_
    rintro _ _ ⟨c1, i, n1, rfl, rfl, h1, i1, i2⟩
    conv => whnf
    apply getK_intro rfl
    (conv => whnf); repeat' (first  | ((with_reducible first | apply kN | apply kW | apply kX | apply kG | apply kQ); (· exact sd); conv => whnf) | (refine pcase.mk ?_ ?_ <;> intro hc <;> (try rw [List.length_nil] at hc) <;> first | (exfalso; omega) | (exact absurd rfl hc) | conv => whnf) | (refine bcase_intro ?_ ?_ <;> intro hc <;> conv => whnf))
    refine (pradj (g2 := c) (a := a + L * 2) hl (by omega) (by omega) hs (by omega)).mono ?_
    rintro _ _ ⟨c2, j, n2, rfl, rfl, h2, j1, j2⟩
    conv => whnf
    apply getK_intro rfl
    (conv => whnf); repeat' (first  | ((with_reducible first | apply kN | apply kW | apply kX | apply kG | apply kQ); (· exact sd); conv => whnf) | (refine pcase.mk ?_ ?_ <;> intro hc <;> (try rw [List.length_nil] at hc) <;> first | (exfalso; omega) | (exact absurd rfl hc) | conv => whnf) | (refine bcase_intro ?_ ?_ <;> intro hc <;> conv => whnf))
    refine (pradj (g2 := c) (a := a + L * 3) hl (by omega) (by omega) hs (by omega)).mono ?_
    rintro _ _ ⟨c3, k, n3, rfl, rfl, h3, k1, k2⟩
    conv => whnf
    apply getK_intro rfl
    (conv => whnf); repeat' (first  | ((with_reducible first | apply kN | apply kW | apply kX | apply kG | apply kQ); (· exact sd); conv => whnf) | (refine pcase.mk ?_ ?_ <;> intro hc <;> (try rw [List.length_nil] at hc) <;> first | (exfalso; omega) | (exact absurd rfl hc) | conv => whnf) | (refine bcase_intro ?_ ?_ <;> intro hc <;> conv => whnf))
    refine (prmed (g2 := c) (a := i) (b := j) (e := k) hl (by omega) (by omega) (by omega) hs (by omega)).mono ?_
    rintro _ _ ⟨c4, m, n4, rfl, rfl, h4, h5⟩
    conv => whnf
    apply getK_intro rfl
    (conv => whnf); repeat' (first  | ((with_reducible first | apply kN | apply kW | apply kX | apply kG | apply kQ); (· exact sd); conv => whnf) | (refine pcase.mk ?_ ?_ <;> intro hc <;> (try rw [List.length_nil] at hc) <;> first | (exfalso; omega) | (exact absurd rfl hc) | conv => whnf) | (refine bcase_intro ?_ ?_ <;> intro hc <;> conv => whnf))
    all_goals exact ⟨_, m, _, _, rfl, rfl, by omega, by omega⟩
  · refine (prmed (g2 := c) (n := 0) (a := a + L * 1) (b := a + L * 2) (e := a + L * 3) hl (by omega) (by omega) (by omega) hs (by omega)).mono ?_
    rintro _ _ ⟨c4, m, n4, rfl, rfl, h4, h5⟩
    conv => whnf
    apply getK_intro rfl
    (conv => whnf); repeat' (first  | ((with_reducible first | apply kN | apply kW | apply kX | apply kG | apply kQ); (· exact sd); conv => whnf) | (refine pcase.mk ?_ ?_ <;> intro hc <;> (try rw [List.length_nil] at hc) <;> first | (exfalso; omega) | (exact absurd rfl hc) | conv => whnf) | (refine bcase_intro ?_ ?_ <;> intro hc <;> conv => whnf))
    all_goals exact ⟨_, m, _, _, rfl, rfl, by omega, by omega⟩

theorem prrev {ob0 : Obj} {g c len : Nat} {nn cl : Bool} {d : Array GR} {a b : Nat} (hl : d.size = len) (hb : b ≤ len) (hab : a < b) (hs : len < 2^61) :
    Calls1 (findFn tab) 108 [.own 1 g 0 len, .int .i64 a, .int .i64 b, .fn 24 []] ⟨[ob0, .arr g 6 nn cl (vs GR.av d.toList)], c⟩ fun out s' => ∃ c' D, out = .ok (.tup []) ∧ s' = ⟨[ob0, .arr g 6 nn cl (vs GR.av D.toList)], c'⟩ ∧ PermIn a b d D := by
  refine calls1_of rfl rfl ?_
  (conv => whnf); repeat' (first  | ((with_reducible first | apply kN | apply kW | apply kX | apply kG | apply kQ); (· exact sd); conv => whnf) | (refine pcase.mk ?_ ?_ <;> intro hc <;> (try rw [List.length_nil] at hc) <;> first | (exfalso; omega) | (exact absurd rfl hc) | conv => whnf) | (refine bcase_intro ?_ ?_ <;> intro hc <;> conv => whnf))
  refine loop_inv (fun m env s => ∃ (i c : Nat) (z : Int) (D : Array GR), m = b - i ∧ a ≤ i ∧ i ≤ b ∧ z = (a : Int) + b - 1 - i ∧ PermIn a b d D ∧ env = [(0, .own 1 g 0 len), (8, .int .i64 i), (9, .int .i64 z)] ∧ s = ⟨[ob0, .arr g 6 nn cl (vs GR.av D.toList)], c⟩) ?_ _ _ _ ⟨a, c, _, d, rfl, by omega, by omega, by omega, permIn_refl _ _ _, rfl, rfl⟩
  rintro _ _ _ ⟨i, c, z, D, rfl, hi, hib, hz, hD, rfl, rfl⟩
  refine ⟨rfl, ?_⟩
  have hDl : D.size = len := by rw [hD.1, hl]
  (conv => whnf); repeat' (first | ((with_reducible show nthK _ _ _); refine nPK (i) ?_; conv => whnf) | ((with_reducible show nthK _ _ _); refine nPK (a + b - 1 - i) ?_; conv => whnf) | ((with_reducible show eqK _ _); refine tPK cellsR (i) ?_; conv => whnf) | ((with_reducible show eqK _ _); refine tPK cellsR (a + b - 1 - i) ?_; conv => whnf) | ((with_reducible first | apply kN | apply kW | apply kX | apply kG | apply kQ); (· exact sd); conv => whnf) | (refine pcase.mk ?_ ?_ <;> intro hc <;> (try rw [List.length_nil] at hc) <;> first | (exfalso; omega) | (exact absurd rfl hc) | conv => whnf) | (refine bcase_intro ?_ ?_ <;> intro hc <;> conv => whnf))
  · exact again.mk ⟨_, by omega, i + 1, _, z - 1, swp D i (a + b - 1 - i), rfl, by omega, by omega, by omega, permIn_trans _ _ _ _ _ hD (swp_permIn _ _ _ _ _ (by omega) (by omega) (by omega) (by omega) (by omega)), rfl, rfl⟩
  · exact ⟨_, D, rfl, rfl, hD⟩

theorem prnext {ob0 : Obj} {obX : Obj} {g2 c : Nat} {r : Int} :
    Calls1 (findFn tab) 144 [.ref 2 g2 0 0] ⟨[ob0,  obX, .arr g2 1 true true [.int .u64 r]], c⟩ fun out s' => ∃ c' r', out = .ok (.int .u64 r') ∧ s' = ⟨[ob0,  obX, .arr g2 1 true true [.int .u64 r']], c'⟩ := by
  refine calls1_of rfl rfl ?_
  (conv => whnf); repeat' (first | (apply eqK_intro rfl; conv => whnf) | (apply wrapK_intro rfl; conv => whnf) | ((with_reducible first | apply kN | apply kW | apply kX | apply kG | apply kQ); (· exact sd); conv => whnf) | (refine pcase.mk ?_ ?_ <;> intro hc <;> (try rw [List.length_nil] at hc) <;> first | (exfalso; omega) | (exact absurd rfl hc) | conv => whnf) | (refine bcase_intro ?_ ?_ <;> intro hc <;> conv => whnf))
  exact ⟨_, _, rfl, rfl⟩

/-- bits of a number below a power of two -/
theorem andN {r : Int} {M : Nat} (h0 : 0 < M) (h : M < 2^63) : ∃ n : Nat, IntKind.u64.wrap ((BitVec.ofInt IntKind.u64.bits r &&& BitVec.ofInt IntKind.u64.bits ((M - 1 : Nat) : Int)).toNat : Int) = n ∧ n < M := by
  have e : (BitVec.ofInt IntKind.u64.bits ((M - 1 : Nat) : Int)).toNat = M - 1 := by
    rw [BitVec.toNat_ofInt]
    show Int.toNat (((M - 1 : Nat) : Int) % ((2 ^ 64 : Nat) : Int)) = M - 1
    omega
  refine ⟨(BitVec.ofInt IntKind.u64.bits r &&& BitVec.ofInt IntKind.u64.bits ((M - 1 : Nat) : Int)).toNat, wrap_u rfl (by omega) ?_, ?_⟩
  · rw [BitVec.toNat_and, e]
    have := @Nat.and_le_right (BitVec.ofInt IntKind.u64.bits r).toNat (M - 1)
    show _ < (2 : Int) ^ 64
    omega
  · rw [BitVec.toNat_and, e]
    have := @Nat.and_le_right (BitVec.ofInt IntKind.u64.bits r).toNat (M - 1)
    omega

set_option maxHeartbeats 1000000 in
theorem prbrk {ob0 : Obj} {g c len : Nat} {nn cl : Bool} {d : Array GR} {a b : Nat} (hl : d.size = len) (hb : b ≤ len) (hab : a + 12 < b) (hs : len < 2^61) :
    Calls1 (findFn tab) 106 [.own 1 g 0 len, .int .i64 a, .int .i64 b, .fn 24 []] ⟨[ob0, .arr g 6 nn cl (vs GR.av d.toList)], c⟩ fun out s' => ∃ c' D ob, out = .ok (.tup []) ∧ s' = ⟨[ob0, .arr g 6 nn cl (vs GR.av D.toList), ob], c'⟩ ∧ PermIn a b d D := by
  refine calls1_of rfl rfl ?_
  have hq : (b - a) / 4 * 4 ≤ b - a := Nat.div_mul_le_self _ _
  have hq2 : 3 ≤ (b - a) / 4 := by omega
  generalize hL : (b - a) / 4 = L at hq hq2
  (conv => whnf); repeat' (first | (refine wrapD (b - a) 4 (by omega) (by omega) ?_; rw [hL]; conv => whnf) | (refine wrapN (b - a) rfl (by omega) (by show _ < 2^64; omega) ?_; conv => whnf) | ((with_reducible first | apply kN | apply kW | apply kX | apply kG | apply kQ); (· exact sd); conv => whnf) | (refine pcase.mk ?_ ?_ <;> intro hc <;> (try rw [List.length_nil] at hc) <;> first | (exfalso; omega) | (exact absurd rfl hc) | conv => whnf) | (refine bcase_intro ?_ ?_ <;> intro hc <;> conv => whnf))
  rw [show ((b : Int) - a) = ((b - a : Nat) : Int) by omega]
  refine callK_of (pow2_next (n := b - a) (by omega) (by omega)) ?_
  rintro _ ⟨M, rfl, hM1, hM2⟩
  (conv => whnf); repeat' (first | (refine wrapD (b - a) 4 (by omega) (by omega) ?_; rw [hL]; conv => whnf) | ((with_reducible first | apply kN | apply kW | apply kX | apply kG | apply kQ); (· exact sd); conv => whnf) | (refine pcase.mk ?_ ?_ <;> intro hc <;> (try rw [List.length_nil] at hc) <;> first | (exfalso; omega) | (exact absurd rfl hc) | conv => whnf) | (refine bcase_intro ?_ ?_ <;> intro hc <;> conv => whnf))
  refine loop_inv (fun m env s => ∃ (k cc : Nat) (z r : Int) (D : Array GR), m = 3 - k ∧ k ≤ 3 ∧ z = (a : Int) + L * 2 - 1 + k ∧ PermIn a b d D ∧ env = [(0, .own 1 g 0 len), (1, .int .i64 a), (8, .int .i64 (b - a : Nat)), (9, .ref 2 c 0 0), (10, .int .u64 M), (11, .int .i64 z)] ∧ s = ⟨[ob0, .arr g 6 nn cl (vs GR.av D.toList), .arr c 1 true true [.int .u64 r]], cc⟩) ?_ _ _ _ ⟨0, _, _, ((b - a : Nat) : Int), d, rfl, by omega, by omega, permIn_refl _ _ _, rfl, rfl⟩
  rintro _ _ _ ⟨k, c1, z, r, D, rfl, hk, hz, hD, rfl, rfl⟩
  refine ⟨rfl, ?_⟩
  have hDl : D.size = len := by rw [hD.1, hl]
  (conv => whnf); repeat' (first | (refine wrapD (b - a) 4 (by omega) (by omega) ?_; rw [hL]; conv => whnf) | ((with_reducible first | apply kN | apply kW | apply kX | apply kG | apply kQ); (· exact sd); conv => whnf) | (refine pcase.mk ?_ ?_ <;> intro hc <;> (try rw [List.length_nil] at hc) <;> first | (exfalso; omega) | (exact absurd rfl hc) | conv => whnf) | (refine bcase_intro ?_ ?_ <;> intro hc <;> conv => whnf))
  · refine (prnext).mono ?_
    rintro _ _ ⟨c2, r2, rfl, rfl⟩
    obtain ⟨o, ho1, ho2⟩ := andN (r := r2) (M := M) (by omega) (by omega)
    conv => whnf
    apply getK_intro rfl
    (conv => whnf); repeat' (first | (refine wrapN (M - 1) rfl (by omega) (by show _ < 2^64; omega) ?_; conv => whnf) | (apply eqK_intro ho1; conv => whnf) | (refine wrapK_intro (wrap_i64 (by omega) (by omega)) ?_; conv => whnf) | ((with_reducible show nthK _ _ _); refine nPK (a + (o - (b - a))) ?_; conv => whnf) | ((with_reducible show nthK _ _ _); refine nPK (a + o) ?_; conv => whnf) | ((with_reducible show nthK _ _ _); refine nPK (a + L * 2 - 1 + k) ?_; conv => whnf) | ((with_reducible show eqK _ _); refine tPK cellsR (a + (o - (b - a))) ?_; conv => whnf) | ((with_reducible show eqK _ _); refine tPK cellsR (a + o) ?_; conv => whnf) | ((with_reducible show eqK _ _); refine tPK cellsR (a + L * 2 - 1 + k) ?_; conv => whnf) | ((with_reducible first | apply kN | apply kW | apply kX | apply kG | apply kQ); (· exact sd); conv => whnf) | (refine pcase.mk ?_ ?_ <;> intro hc <;> (try rw [List.length_nil] at hc) <;> first | (exfalso; omega) | (exact absurd rfl hc) | conv => whnf) | (refine bcase_intro ?_ ?_ <;> intro hc <;> conv => whnf))
    · exact again.mk ⟨_, by omega, k + 1, _, _, _, swp D (a + L * 2 - 1 + k) (a + (o - (b - a))), rfl, by omega, by omega, permIn_trans _ _ _ _ _ hD (swp_permIn _ _ _ _ _ (by omega) (by omega) (by omega) (by omega) (by omega)), rfl, rfl⟩
    · exact again.mk ⟨_, by omega, k + 1, _, _, _, swp D (a + L * 2 - 1 + k) (a + o), rfl, by omega, by omega, permIn_trans _ _ _ _ _ hD (swp_permIn _ _ _ _ _ (by omega) (by omega) (by omega) (by omega) (by omega)), rfl, rfl⟩
  · exact ⟨_, D, _, rfl, rfl, hD⟩

end AI
end Go.Proofs.YtdlkcancogpafaaGreatDoor
