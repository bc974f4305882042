/- Sorting in place (CmpFunc[graphdb/api.Entry]): insertion, heaps. Sorting in place (CmpFunc[graphdb/api.Entry]): the pivot, reversing, breaking patterns. -/
import Derived.Test.YtbkibamoigmboaaGreatDoorPq0
import Derived.Test.YtbkibamoigmboaaGreatDoorMP
set_option linter.unusedVariables false
set_option maxRecDepth 4000
namespace Go.Proofs.YtbkibamoigmboaaGreatDoor
namespace AI
open Go.Sort

set_option maxHeartbeats 1000000 in
theorem pqins {ob0 : Obj} {g c len : Nat} {nn cl : Bool} {d : Array GX} {a b : Nat} (hl : d.size = len) (hb : b ≤ len) (hs : len < 2^61) (ha : a ≤ len) :
    Calls1 (findFn tab) 123 [.own 1 g 0 len, .int .i64 a, .int .i64 b, .fn 29 []] ⟨[ob0, .arr g 8 nn cl (vs GX.av d.toList)], c⟩ fun out s' => ∃ c', out = .ok (.tup []) ∧ s' = ⟨[ob0, .arr g 8 nn cl (vs GX.av (insertionSort ltT d a b).toList)], c'⟩ := by
  refine calls1_of rfl rfl ?_
  (conv => whnf); repeat' (first  | ((with_reducible first | apply kN | apply kW | apply kX | apply kG | apply kQ); (· exact sd); conv => whnf) | (refine pcase.mk ?_ ?_ <;> intro hc <;> (try rw [List.length_nil] at hc) <;> first | (exfalso; omega) | (exact absurd rfl hc) | conv => whnf) | (refine bcase_intro ?_ ?_ <;> intro hc <;> conv => whnf))
  refine loop_inv (fun m env s => ∃ (i c : Nat) (D : Array GX), m = b - i ∧ insOuter ltT a b i D = insertionSort ltT d a b ∧ D.size = len ∧ env = [(0, .own 1 g 0 len), (1, .int .i64 a), (2, .int .i64 b), (3, .fn 29 []), (8, .int .i64 i)] ∧ s = ⟨[ob0, .arr g 8 nn cl (vs GX.av D.toList)], c⟩) ?_ _ _ _ ⟨a + 1, c, d, rfl, rfl, hl, rfl, rfl⟩
  rintro _ _ _ ⟨i, c, D, rfl, hD, hDl, rfl, rfl⟩
  refine ⟨rfl, ?_⟩
  (conv => whnf); repeat' (first  | ((with_reducible first | apply kN | apply kW | apply kX | apply kG | apply kQ); (· exact sd); conv => whnf) | (refine pcase.mk ?_ ?_ <;> intro hc <;> (try rw [List.length_nil] at hc) <;> first | (exfalso; omega) | (exact absurd rfl hc) | conv => whnf) | (refine bcase_intro ?_ ?_ <;> intro hc <;> conv => whnf))
  · rw [ins_out (by omega)] at hD
    refine loop_inv (fun m env s => ∃ (j c : Nat) (z : Int) (E : Array GX), m = j ∧ z = j ∧ j ≤ i ∧ insInner ltT a j E = insInner ltT a i D ∧ E.size = len ∧ env = [(0, .own 1 g 0 len), (1, .int .i64 a), (2, .int .i64 b), (3, .fn 29 []), (8, .int .i64 i), (9, .int .i64 z)] ∧ s = ⟨[ob0, .arr g 8 nn cl (vs GX.av E.toList)], c⟩) ?_ _ _ _ ⟨i, _, _, D, rfl, rfl, by omega, rfl, hDl, rfl, rfl⟩
    rintro j _ _ ⟨_, c, z, E, rfl, hz, hj, hE, hEl, rfl, rfl⟩
    refine ⟨rfl, ?_⟩
    cases j with
    | zero =>
      (conv => whnf); repeat' (first  | ((with_reducible first | apply kN | apply kW | apply kX | apply kG | apply kQ); (· exact sd); conv => whnf) | (refine pcase.mk ?_ ?_ <;> intro hc <;> (try rw [List.length_nil] at hc) <;> first | (exfalso; omega) | (exact absurd rfl hc) | conv => whnf) | (refine bcase_intro ?_ ?_ <;> intro hc <;> conv => whnf))
      rw [← hE] at hD
      exact again.mk ⟨_, by omega, i + 1, _, E, rfl, hD, hEl, rfl, rfl⟩
    | succ j =>
      (conv => whnf); repeat' (first | ((with_reducible show nthK _ _ _); refine nPK (j + 1) ?_; conv => whnf) | ((with_reducible show nthK _ _ _); refine nPK (j) ?_; conv => whnf) | (refine callK_of orderPT ?_; rintro _ rfl; conv => whnf) | (refine pcaseT (fun hc => ?_) (fun hc => ?_) <;> conv => whnf) | ((with_reducible show eqK _ _); refine tPK cellsGX (j + 1) ?_; conv => whnf) | ((with_reducible show eqK _ _); refine tPK cellsGX (j) ?_; conv => whnf) | ((with_reducible first | apply kN | apply kW | apply kX | apply kG | apply kQ); (· exact sd); conv => whnf) | (refine pcase.mk ?_ ?_ <;> intro hc <;> (try rw [List.length_nil] at hc) <;> first | (exfalso; omega) | (exact absurd rfl hc) | conv => whnf) | (refine bcase_intro ?_ ?_ <;> intro hc <;> conv => whnf))
      · rw [ins_step (by omega) hc] at hE
        exact again.mk ⟨_, by omega, j, _, _, swp E (j + 1) j, rfl, by omega, by omega, hE, by simpa using hEl, rfl, rfl⟩
      · rw [ins_stop (fun _ => hc)] at hE
        rw [← hE] at hD
        exact again.mk ⟨_, by omega, i + 1, _, E, rfl, hD, hEl, rfl, rfl⟩
      · rw [ins_stop (fun h => absurd h (by omega))] at hE
        rw [← hE] at hD
        exact again.mk ⟨_, by omega, i + 1, _, E, rfl, hD, hEl, rfl, rfl⟩
  · rw [ins_end (by omega)] at hD
    exact ⟨_, rfl, by rw [hD]⟩

set_option maxHeartbeats 1000000 in
theorem pqsift {ob0 : Obj} {g c len : Nat} {nn cl : Bool} {d : Array GX} {lo hi first : Nat} (hl : d.size = len) (hb : first + hi ≤ len) (hs : len < 2^61) (hlo : lo ≤ len) :
    Calls1 (findFn tab) 182 [.own 1 g 0 len, .int .i64 lo, .int .i64 hi, .int .i64 first, .fn 29 []] ⟨[ob0, .arr g 8 nn cl (vs GX.av d.toList)], c⟩ fun out s' => ∃ c', out = .ok (.tup []) ∧ s' = ⟨[ob0, .arr g 8 nn cl (vs GX.av (siftDown ltT hi first lo d).toList)], c'⟩ := by
  refine calls1_of rfl rfl ?_
  (conv => whnf); repeat' (first  | ((with_reducible first | apply kN | apply kW | apply kX | apply kG | apply kQ); (· exact sd); conv => whnf) | (refine pcase.mk ?_ ?_ <;> intro hc <;> (try rw [List.length_nil] at hc) <;> first | (exfalso; omega) | (exact absurd rfl hc) | conv => whnf) | (refine bcase_intro ?_ ?_ <;> intro hc <;> conv => whnf))
  refine loop_inv (fun m env s => ∃ (root c : Nat) (z : Int) (D : Array GX), m = hi - root ∧ z = root ∧ root ≤ len ∧ siftDown ltT hi first root D = siftDown ltT hi first lo d ∧ D.size = len ∧ env = [(0, .own 1 g 0 len), (2, .int .i64 hi), (3, .int .i64 first), (4, .fn 29 []), (10, .int .i64 z)] ∧ s = ⟨[ob0, .arr g 8 nn cl (vs GX.av D.toList)], c⟩) ?_ _ _ _ ⟨lo, c, _, d, rfl, rfl, hlo, rfl, hl, rfl, rfl⟩
  rintro _ _ _ ⟨root, c, z, D, rfl, hz, hr, hD, hDl, rfl, rfl⟩
  refine ⟨rfl, ?_⟩
  (conv => whnf); repeat' (first | ((with_reducible show nthK _ _ _); refine nPK (first + root) ?_; conv => whnf) | ((with_reducible show nthK _ _ _); refine nPK (first + (2 * root + 1)) ?_; conv => whnf) | ((with_reducible show nthK _ _ _); refine nPK (first + (2 * root + 1) + 1) ?_; conv => whnf) | (refine callK_of orderPT ?_; rintro _ rfl; conv => whnf) | (refine pcaseT (fun hc => ?_) (fun hc => ?_) <;> conv => whnf) | ((with_reducible show eqK _ _); refine tPK cellsGX (first + root) ?_; conv => whnf) | ((with_reducible show eqK _ _); refine tPK cellsGX (first + (2 * root + 1)) ?_; conv => whnf) | ((with_reducible show eqK _ _); refine tPK cellsGX (first + (2 * root + 1) + 1) ?_; conv => whnf) | ((with_reducible first | apply kN | apply kW | apply kX | apply kG | apply kQ); (· exact sd); conv => whnf) | (refine pcase.mk ?_ ?_ <;> intro hc <;> (try rw [List.length_nil] at hc) <;> first | (exfalso; omega) | (exact absurd rfl hc) | conv => whnf) | (refine bcase_intro ?_ ?_ <;> intro hc <;> conv => whnf))
  · rw [sift_end (by omega)] at hD
    exact ⟨_, rfl, by rw [hD]⟩
  all_goals first
    | (rw [sift_R (by omega) (by assumption) hc] at hD
       exact again.mk ⟨_, by omega, 2 * root + 2, _, _, swp D (first + root) (first + (2 * root + 2)), rfl, by omega, by omega, hD, by simpa using hDl, rfl, rfl⟩)
    | (rw [sift_R0 (by omega) (by assumption) hc] at hD
       exact ⟨_, rfl, by rw [hD]⟩)
    | (rw [sift_L (by omega) (fun _ => by assumption) hc] at hD
       exact again.mk ⟨_, by omega, 2 * root + 1, _, _, swp D (first + root) (first + (2 * root + 1)), rfl, by omega, by omega, hD, by simpa using hDl, rfl, rfl⟩)
    | (rw [sift_L0 (by omega) (fun _ => by assumption) hc] at hD
       exact ⟨_, rfl, by rw [hD]⟩)
    | (rw [sift_L (by omega) (fun h => absurd h (by omega)) hc] at hD
       exact again.mk ⟨_, by omega, 2 * root + 1, _, _, swp D (first + root) (first + (2 * root + 1)), rfl, by omega, by omega, hD, by simpa using hDl, rfl, rfl⟩)
    | (rw [sift_L0 (by omega) (fun h => absurd h (by omega)) hc] at hD
       exact ⟨_, rfl, by rw [hD]⟩)

set_option maxHeartbeats 1000000 in
theorem pqheapP {ob0 : Obj} {g c len : Nat} {nn cl : Bool} {d : Array GX} {a n : Nat} {z : Int} {Q : AExit → Env → Sto → Prop} (hl : d.size = len) (hb : a + n ≤ len) (hs : len < 2^61) (hz : z = (n : Int) - 1)
    (hQ : ∀ c' e, Q (.exit 2) e ⟨[ob0, .arr g 8 nn cl (vs GX.av (heapPop ltT a n d).toList)], c'⟩) :
    Run (findFn tab) (.loop l124_1_h l124_1_b) [(0, .own 1 g 0 len), (3, .fn 29 []), (8, .int .i64 a), (9, .int .i64 0), (12, .int .i64 z)] ⟨[ob0, .arr g 8 nn cl (vs GX.av d.toList)], c⟩ Q := by
  refine loop_inv (fun m env s => ∃ (k c : Nat) (z : Int) (E : Array GX), m = k ∧ z = (k : Int) - 1 ∧ a + k ≤ len ∧ heapPop ltT a k E = heapPop ltT a n d ∧ E.size = len ∧ env = [(0, .own 1 g 0 len), (3, .fn 29 []), (8, .int .i64 a), (9, .int .i64 0), (12, .int .i64 z)] ∧ s = ⟨[ob0, .arr g 8 nn cl (vs GX.av E.toList)], c⟩) ?_ _ _ _ ⟨n, c, _, d, rfl, hz, by omega, rfl, hl, rfl, rfl⟩
  clear hz
  rintro k _ _ ⟨_, c, z, E, rfl, hz, hk, hE, hEl, rfl, rfl⟩
  refine ⟨rfl, ?_⟩
  cases k with
  | succ k =>
    obtain rfl : z = (k : Nat) := by omega
    (conv => whnf); repeat' (first | ((with_reducible show nthK _ _ _); refine nPK (a) ?_; conv => whnf) | ((with_reducible show nthK _ _ _); refine nPK (a + k) ?_; conv => whnf) | ((with_reducible show eqK _ _); refine tPK cellsGX (a) ?_; conv => whnf) | ((with_reducible show eqK _ _); refine tPK cellsGX (a + k) ?_; conv => whnf) | ((with_reducible first | apply kN | apply kW | apply kX | apply kG | apply kQ); (· exact sd); conv => whnf) | (refine pcase.mk ?_ ?_ <;> intro hc <;> (try rw [List.length_nil] at hc) <;> first | (exfalso; omega) | (exact absurd rfl hc) | conv => whnf) | (refine bcase_intro ?_ ?_ <;> intro hc <;> conv => whnf))
    refine (pqsift (d := swp E a (a + k)) (lo := 0) (by simpa using hEl) (by omega) hs (by omega)).mono ?_
    rintro _ _ ⟨c', rfl, rfl⟩
    (conv => whnf); repeat' (first  | ((with_reducible first | apply kN | apply kW | apply kX | apply kG | apply kQ); (· exact sd); conv => whnf) | (refine pcase.mk ?_ ?_ <;> intro hc <;> (try rw [List.length_nil] at hc) <;> first | (exfalso; omega) | (exact absurd rfl hc) | conv => whnf) | (refine bcase_intro ?_ ?_ <;> intro hc <;> conv => whnf))
    rw [heapPop] at hE
    exact again.mk ⟨_, by omega, k, _, (k : Int) - 1, _, rfl, by omega, by omega, hE, by simpa using hEl, rfl, rfl⟩
  | zero =>
    rw [← hE] at hQ
    (conv => whnf); repeat' (first  | ((with_reducible first | apply kN | apply kW | apply kX | apply kG | apply kQ); (· exact sd); conv => whnf) | (refine pcase.mk ?_ ?_ <;> intro hc <;> (try rw [List.length_nil] at hc) <;> first | (exfalso; omega) | (exact absurd rfl hc) | conv => whnf) | (refine bcase_intro ?_ ?_ <;> intro hc <;> conv => whnf))
    exact hQ _ _

theorem pqheap {ob0 : Obj} {g c len : Nat} {nn cl : Bool} {d : Array GX} {a b : Nat} (hl : d.size = len) (hb : b ≤ len) (hs : len < 2^61) (hab : a < b) :
    Calls1 (findFn tab) 124 [.own 1 g 0 len, .int .i64 a, .int .i64 b, .fn 29 []] ⟨[ob0, .arr g 8 nn cl (vs GX.av d.toList)], c⟩ fun out s' => ∃ c', out = .ok (.tup []) ∧ s' = ⟨[ob0, .arr g 8 nn cl (vs GX.av (heapSort ltT d a b).toList)], c'⟩ := by
  refine calls1_of rfl rfl ?_
  (conv => whnf); repeat' (first | (refine wrapD (b - a - 1) 2 (by omega) (by omega) ?_; conv => whnf) | ((with_reducible first | apply kN | apply kW | apply kX | apply kG | apply kQ); (· exact sd); conv => whnf) | (refine pcase.mk ?_ ?_ <;> intro hc <;> (try rw [List.length_nil] at hc) <;> first | (exfalso; omega) | (exact absurd rfl hc) | conv => whnf) | (refine bcase_intro ?_ ?_ <;> intro hc <;> conv => whnf))
  refine loop_inv (fun m env s => ∃ (k c : Nat) (z : Int) (D : Array GX), m = k ∧ z = k - 1 ∧ k ≤ len ∧ heapBuild ltT (b - a) a k D = heapBuild ltT (b - a) a ((b - a - 1) / 2 + 1) d ∧ D.size = len ∧ env = [(0, .own 1 g 0 len), (3, .fn 29 []), (8, .int .i64 a), (9, .int .i64 0), (10, .int .i64 (b - a)), (11, .int .i64 z)] ∧ s = ⟨[ob0, .arr g 8 nn cl (vs GX.av D.toList)], c⟩) ?_ _ _ _ ⟨(b - a - 1) / 2 + 1, c, _, d, rfl, by omega, by omega, rfl, hl, rfl, rfl⟩
  rintro k _ _ ⟨_, c, z, D, rfl, hz, hk, hD, hDl, rfl, rfl⟩
  refine ⟨rfl, ?_⟩
  cases k with
  | succ k =>
    obtain rfl : z = (k : Nat) := by omega
    (conv => whnf); repeat' (first  | ((with_reducible first | apply kN | apply kW | apply kX | apply kG | apply kQ); (· exact sd); conv => whnf) | (refine pcase.mk ?_ ?_ <;> intro hc <;> (try rw [List.length_nil] at hc) <;> first | (exfalso; omega) | (exact absurd rfl hc) | conv => whnf) | (refine bcase_intro ?_ ?_ <;> intro hc <;> conv => whnf))
    rw [show ((b : Int) - a) = ((b - a : Nat) : Int) by omega]
    refine (pqsift hDl (by omega) hs (by omega)).mono ?_
    rintro _ _ ⟨c', rfl, rfl⟩
    (conv => whnf); repeat' (first  | ((with_reducible first | apply kN | apply kW | apply kX | apply kG | apply kQ); (· exact sd); conv => whnf) | (refine pcase.mk ?_ ?_ <;> intro hc <;> (try rw [List.length_nil] at hc) <;> first | (exfalso; omega) | (exact absurd rfl hc) | conv => whnf) | (refine bcase_intro ?_ ?_ <;> intro hc <;> conv => whnf))
    rw [heapBuild] at hD
    exact again.mk ⟨_, by omega, k, _, (k : Int) - 1, _, rfl, by omega, by omega, hD, by simpa using hDl, rfl, rfl⟩
  | zero =>
    have hD : D = _ := hD
    (conv => whnf); repeat' (first  | ((with_reducible first | apply kN | apply kW | apply kX | apply kG | apply kQ); (· exact sd); conv => whnf) | (refine pcase.mk ?_ ?_ <;> intro hc <;> (try rw [List.length_nil] at hc) <;> first | (exfalso; omega) | (exact absurd rfl hc) | conv => whnf) | (refine bcase_intro ?_ ?_ <;> intro hc <;> conv => whnf))
    refine pqheapP hDl (n := b - a) (by omega) hs (by omega) (fun c' e => ?_)
    (conv => whnf); repeat' (first  | ((with_reducible first | apply kN | apply kW | apply kX | apply kG | apply kQ); (· exact sd); conv => whnf) | (refine pcase.mk ?_ ?_ <;> intro hc <;> (try rw [List.length_nil] at hc) <;> first | (exfalso; omega) | (exact absurd rfl hc) | conv => whnf) | (refine bcase_intro ?_ ?_ <;> intro hc <;> conv => whnf))
    exact ⟨_, rfl, by rw [hD]; rfl⟩

end AI
end Go.Proofs.YtbkibamoigmboaaGreatDoor
set_option linter.unusedVariables false
namespace Go.Proofs.YtbkibamoigmboaaGreatDoor
namespace AI
open Go.Sort

theorem pqord {ob0 : Obj} {g g2 c len : Nat} {nn cl : Bool} {d : Array GX} {a b n : Nat} (hl : d.size = len) (ha : a < len) (hb : b < len) (hs : len < 2^61) (hn : n < 100) :
    Calls1 (findFn tab) 232 [.own 1 g 0 len, .int .i64 a, .int .i64 b, .ref 2 g2 0 0, .fn 29 []] ⟨[ob0, .arr g 8 nn cl (vs GX.av d.toList), .arr g2 1 true true [.int .i64 n]], c⟩ fun out s' => ∃ (c' x y n' : Nat), out = .ok (.tup [.int .i64 x, .int .i64 y]) ∧ s' = ⟨[ob0, .arr g 8 nn cl (vs GX.av d.toList), .arr g2 1 true true [.int .i64 n']], c'⟩ ∧ n' ≤ n + 1 ∧ (x = a ∧ y = b ∨ x = b ∧ y = a) := by
  refine calls1_of rfl rfl ?_
  (conv => whnf); repeat' (first | ((with_reducible show nthK _ _ _); refine nPK (a) ?_; conv => whnf) | ((with_reducible show nthK _ _ _); refine nPK (b) ?_; conv => whnf) | (refine callK_of orderPT ?_; rintro _ rfl; conv => whnf) | (refine pcaseT (fun hc => ?_) (fun hc => ?_) <;> conv => whnf) | ((with_reducible first | apply kN | apply kW | apply kX | apply kG | apply kQ); (· exact sd); conv => whnf) | (refine pcase.mk ?_ ?_ <;> intro hc <;> (try rw [List.length_nil] at hc) <;> first | (exfalso; omega) | (exact absurd rfl hc) | conv => whnf) | (refine bcase_intro ?_ ?_ <;> intro hc <;> conv => whnf))
  · exact ⟨_, b, a, n + 1, rfl, rfl, by omega, Or.inr ⟨rfl, rfl⟩⟩
  · exact ⟨_, a, b, n, rfl, rfl, by omega, Or.inl ⟨rfl, rfl⟩⟩

theorem pqmed {ob0 : Obj} {g g2 c len : Nat} {nn cl : Bool} {d : Array GX} {a b e n : Nat} (hl : d.size = len) (ha : a < len) (hb : b < len) (he : e < len) (hs : len < 2^61) (hn : n < 90) :
    Calls1 (findFn tab) 186 [.own 1 g 0 len, .int .i64 a, .int .i64 b, .int .i64 e, .ref 2 g2 0 0, .fn 29 []] ⟨[ob0, .arr g 8 nn cl (vs GX.av d.toList), .arr g2 1 true true [.int .i64 n]], c⟩ fun out s' => ∃ (c' m n' : Nat), out = .ok (.int .i64 m) ∧ s' = ⟨[ob0, .arr g 8 nn cl (vs GX.av d.toList), .arr g2 1 true true [.int .i64 n']], c'⟩ ∧ n' ≤ n + 3 ∧ (m = a ∨ m = b ∨ m = e) := by
  refine calls1_of rfl rfl ?_
  (conv => whnf); repeat' (first  | ((with_reducible first | apply kN | apply kW | apply kX | apply kG | apply kQ); (· exact sd); conv => whnf) | (refine pcase.mk ?_ ?_ <;> intro hc <;> (try rw [List.length_nil] at hc) <;> first | (exfalso; omega) | (exact absurd rfl hc) | conv => whnf) | (refine bcase_intro ?_ ?_ <;> intro hc <;> conv => whnf))
  refine (pqord hl ha hb hs (by omega)).mono ?_
  rintro _ _ ⟨c1, x1, y1, n1, rfl, rfl, h1, e1⟩
  conv => whnf
  apply getK_intro rfl
  (conv => whnf); repeat' (first  | ((with_reducible first | apply kN | apply kW | apply kX | apply kG | apply kQ); (· exact sd); conv => whnf) | (refine pcase.mk ?_ ?_ <;> intro hc <;> (try rw [List.length_nil] at hc) <;> first | (exfalso; omega) | (exact absurd rfl hc) | conv => whnf) | (refine bcase_intro ?_ ?_ <;> intro hc <;> conv => whnf))
  refine (pqord (a := y1) (b := e) hl (by omega) he hs (by omega)).mono ?_
  rintro _ _ ⟨c2, x2, y2, n2, rfl, rfl, h2, e2⟩
  conv => whnf
  apply getK_intro rfl
  (conv => whnf); repeat' (first  | ((with_reducible first | apply kN | apply kW | apply kX | apply kG | apply kQ); (· exact sd); conv => whnf) | (refine pcase.mk ?_ ?_ <;> intro hc <;> (try rw [List.length_nil] at hc) <;> first | (exfalso; omega) | (exact absurd rfl hc) | conv => whnf) | (refine bcase_intro ?_ ?_ <;> intro hc <;> conv => whnf))
  refine (pqord (a := x1) (b := x2) hl (by omega) (by omega) hs (by omega)).mono ?_
  rintro _ _ ⟨c3, x3, y3, n3, rfl, rfl, h3, e3⟩
  conv => whnf
  apply getK_intro rfl
  (conv => whnf); repeat' (first  | ((with_reducible first | apply kN | apply kW | apply kX | apply kG | apply kQ); (· exact sd); conv => whnf) | (refine pcase.mk ?_ ?_ <;> intro hc <;> (try rw [List.length_nil] at hc) <;> first | (exfalso; omega) | (exact absurd rfl hc) | conv => whnf) | (refine bcase_intro ?_ ?_ <;> intro hc <;> conv => whnf))
  exact ⟨_, y3, n3, rfl, rfl, by omega, by omega⟩

theorem pqadj {ob0 : Obj} {g g2 c len : Nat} {nn cl : Bool} {d : Array GX} {a n : Nat} (hl : d.size = len) (ha : a + 1 < len) (h0 : 0 < a) (hs : len < 2^61) (hn : n < 90) :
    Calls1 (findFn tab) 185 [.own 1 g 0 len, .int .i64 a, .ref 2 g2 0 0, .fn 29 []] ⟨[ob0, .arr g 8 nn cl (vs GX.av d.toList), .arr g2 1 true true [.int .i64 n]], c⟩ fun out s' => ∃ (c' m n' : Nat), out = .ok (.int .i64 m) ∧ s' = ⟨[ob0, .arr g 8 nn cl (vs GX.av d.toList), .arr g2 1 true true [.int .i64 n']], c'⟩ ∧ n' ≤ n + 3 ∧ a ≤ m + 1 ∧ m ≤ a + 1 := by
  refine calls1_of rfl rfl ?_
  (conv => whnf); repeat' (first  | ((with_reducible first | apply kN | apply kW | apply kX | apply kG | apply kQ); (· exact sd); conv => whnf) | (refine pcase.mk ?_ ?_ <;> intro hc <;> (try rw [List.length_nil] at hc) <;> first | (exfalso; omega) | (exact absurd rfl hc) | conv => whnf) | (refine bcase_intro ?_ ?_ <;> intro hc <;> conv => whnf))
  rw [show ((a : Int) - 1) = ((a - 1 : Nat) : Int) by omega]
  refine (pqmed (a := a - 1) (b := a) (e := a + 1) hl (by omega) (by omega) ha hs hn).mono ?_
  rintro _ _ ⟨c', m, n', rfl, rfl, h1, h2⟩
  conv => whnf
  apply getK_intro rfl
  (conv => whnf); repeat' (first  | ((with_reducible first | apply kN | apply kW | apply kX | apply kG | apply kQ); (· exact sd); conv => whnf) | (refine pcase.mk ?_ ?_ <;> intro hc <;> (try rw [List.length_nil] at hc) <;> first | (exfalso; omega) | (exact absurd rfl hc) | conv => whnf) | (refine bcase_intro ?_ ?_ <;> intro hc <;> conv => whnf))
  exact ⟨_, m, n', rfl, rfl, h1, by omega, by omega⟩

set_option maxHeartbeats 1000000 in
theorem pqpiv {ob0 : Obj} {g c len : Nat} {nn cl : Bool} {d : Array GX} {a b : Nat} (hl : d.size = len) (hb : b ≤ len) (hab : a + 12 < b) (hs : len < 2^61) :
    Calls1 (findFn tab) 126 [.own 1 g 0 len, .int .i64 a, .int .i64 b, .fn 29 []] ⟨[ob0, .arr g 8 nn cl (vs GX.av d.toList)], c⟩ fun out s' => ∃ (c' p : Nat) (h : Int) (ob : Obj), out = .ok (.tup [.int .i64 p, .int .i64 h]) ∧ s' = ⟨[ob0, .arr g 8 nn cl (vs GX.av d.toList), ob], c'⟩ ∧ a ≤ p ∧ p < b := by
  refine calls1_of rfl rfl ?_
  have hq : (b - a) / 4 * 4 ≤ b - a := Nat.div_mul_le_self _ _
  have hq2 : 3 ≤ (b - a) / 4 := by omega
  generalize hL : (b - a) / 4 = L at hq hq2
  (conv => whnf); repeat' (first | (refine wrapD (b - a) 4 (by omega) (by omega) ?_; rw [hL]; conv => whnf) | ((with_reducible first | apply kN | apply kW | apply kX | apply kG | apply kQ); (· exact sd); conv => whnf) | (refine pcase.mk ?_ ?_ <;> intro hc <;> (try rw [List.length_nil] at hc) <;> first | (exfalso; omega) | (exact absurd rfl hc) | conv => whnf) | (refine bcase_intro ?_ ?_ <;> intro hc <;> conv => whnf))
  · refine (pqadj (g2 := c) (n := 0) (a := a + L * 1) hl (by omega) (by omega) hs (by omega)).mono ?_
    rintro _ _ ⟨c1, i, n1, rfl, rfl, h1, i1, i2⟩
    conv => whnf
    apply getK_intro rfl
    (conv => whnf); repeat' (first  | ((with_reducible first | apply kN | apply kW | apply kX | apply kG | apply kQ); (· exact sd); conv => whnf) | (refine pcase.mk ?_ ?_ <;> intro hc <;> (try rw [List.length_nil] at hc) <;> first | (exfalso; omega) | (exact absurd rfl hc) | conv => whnf) | (refine bcase_intro ?_ ?_ <;> intro hc <;> conv => whnf))
    refine (pqadj (g2 := c) (a := a + L * 2) hl (by omega) (by omega) hs (by omega)).mono ?_
    rintro _ _ ⟨c2, j, n2, rfl, rfl, h2, j1, j2⟩
    conv => whnf
    apply getK_intro rfl
    (conv => whnf); repeat' (first  | ((with_reducible first | apply kN | apply kW | apply kX | apply kG | apply kQ); (· exact sd); conv => whnf) | (refine pcase.mk ?_ ?_ <;> intro hc <;> (try rw [List.length_nil] at hc) <;> first | (exfalso; omega) | (exact absurd rfl hc) | conv => whnf) | (refine bcase_intro ?_ ?_ <;> intro hc <;> conv => whnf))
    refine (pqadj (g2 := c) (a := a + L * 3) hl (by omega) (by omega) hs (by omega)).mono ?_
    rintro _ _ ⟨c3, k, n3, rfl, rfl, h3, k1, k2⟩
    conv => whnf
    apply getK_intro rfl
    (conv => whnf); repeat' (first  | ((with_reducible first | apply kN | apply kW | apply kX | apply kG | apply kQ); (· exact sd); conv => whnf) | (refine pcase.mk ?_ ?_ <;> intro hc <;> (try rw [List.length_nil] at hc) <;> first | (exfalso; omega) | (exact absurd rfl hc) | conv => whnf) | (refine bcase_intro ?_ ?_ <;> intro hc <;> conv => whnf))
    refine (pqmed (g2 := c) (a := i) (b := j) (e := k) hl (by omega) (by omega) (by omega) hs (by omega)).mono ?_
    rintro _ _ ⟨c4, m, n4, rfl, rfl, h4, h5⟩
    conv => whnf
    apply getK_intro rfl
    (conv => whnf); repeat' (first  | ((with_reducible first | apply kN | apply kW | apply kX | apply kG | apply kQ); (· exact sd); conv => whnf) | (refine pcase.mk ?_ ?_ <;> intro hc <;> (try rw [List.length_nil] at hc) <;> first | (exfalso; omega) | (exact absurd rfl hc) | conv => whnf) | (refine bcase_intro ?_ ?_ <;> intro hc <;> conv => whnf))
    all_goals exact ⟨_, m, _, _, rfl, rfl, by omega, by omega⟩
  · refine (pqmed (g2 := c) (n := 0) (a := a + L * 1) (b := a + L * 2) (e := a + L * 3) hl (by omega) (by omega) (by omega) hs (by omega)).mono ?_
    rintro _ _ ⟨c4, m, n4, rfl, rfl, h4, h5⟩
    conv => whnf
    apply getK_intro rfl
    (conv => whnf); repeat' (first  | ((with_reducible first | apply kN | apply kW | apply kX | apply kG | apply kQ); (· exact sd); conv => whnf) | (refine pcase.mk ?_ ?_ <;> intro hc <;> (try rw [List.length_nil] at hc) <;> first | (exfalso; omega) | (exact absurd rfl hc) | conv => whnf) | (refine bcase_intro ?_ ?_ <;> intro hc <;> conv => whnf))
    all_goals exact ⟨_, m, _, _, rfl, rfl, by omega, by omega⟩

theorem pqrev {ob0 : Obj} {g c len : Nat} {nn cl : Bool} {d : Array GX} {a b : Nat} (hl : d.size = len) (hb : b ≤ len) (hab : a < b) (hs : len < 2^61) :
    Calls1 (findFn tab) 127 [.own 1 g 0 len, .int .i64 a, .int .i64 b, .fn 29 []] ⟨[ob0, .arr g 8 nn cl (vs GX.av d.toList)], c⟩ fun out s' => ∃ c' D, out = .ok (.tup []) ∧ s' = ⟨[ob0, .arr g 8 nn cl (vs GX.av D.toList)], c'⟩ ∧ PermIn a b d D := by
  refine calls1_of rfl rfl ?_
  (conv => whnf); repeat' (first  | ((with_reducible first | apply kN | apply kW | apply kX | apply kG | apply kQ); (· exact sd); conv => whnf) | (refine pcase.mk ?_ ?_ <;> intro hc <;> (try rw [List.length_nil] at hc) <;> first | (exfalso; omega) | (exact absurd rfl hc) | conv => whnf) | (refine bcase_intro ?_ ?_ <;> intro hc <;> conv => whnf))
  refine loop_inv (fun m env s => ∃ (i c : Nat) (z : Int) (D : Array GX), m = b - i ∧ a ≤ i ∧ i ≤ b ∧ z = (a : Int) + b - 1 - i ∧ PermIn a b d D ∧ env = [(0, .own 1 g 0 len), (8, .int .i64 i), (9, .int .i64 z)] ∧ s = ⟨[ob0, .arr g 8 nn cl (vs GX.av D.toList)], c⟩) ?_ _ _ _ ⟨a, c, _, d, rfl, by omega, by omega, by omega, permIn_refl _ _ _, rfl, rfl⟩
  rintro _ _ _ ⟨i, c, z, D, rfl, hi, hib, hz, hD, rfl, rfl⟩
  refine ⟨rfl, ?_⟩
  have hDl : D.size = len := by rw [hD.1, hl]
  (conv => whnf); repeat' (first | ((with_reducible show nthK _ _ _); refine nPK (i) ?_; conv => whnf) | ((with_reducible show nthK _ _ _); refine nPK (a + b - 1 - i) ?_; conv => whnf) | ((with_reducible show eqK _ _); refine tPK cellsGX (i) ?_; conv => whnf) | ((with_reducible show eqK _ _); refine tPK cellsGX (a + b - 1 - i) ?_; conv => whnf) | ((with_reducible first | apply kN | apply kW | apply kX | apply kG | apply kQ); (· exact sd); conv => whnf) | (refine pcase.mk ?_ ?_ <;> intro hc <;> (try rw [List.length_nil] at hc) <;> first | (exfalso; omega) | (exact absurd rfl hc) | conv => whnf) | (refine bcase_intro ?_ ?_ <;> intro hc <;> conv => whnf))
  · exact again.mk ⟨_, by omega, i + 1, _, z - 1, swp D i (a + b - 1 - i), rfl, by omega, by omega, by omega, permIn_trans _ _ _ _ _ hD (swp_permIn _ _ _ _ _ (by omega) (by omega) (by omega) (by omega) (by omega)), rfl, rfl⟩
  · exact ⟨_, D, rfl, rfl, hD⟩

theorem pqnext {ob0 : Obj} {obX : Obj} {g2 c : Nat} {r : Int} :
    Calls1 (findFn tab) 184 [.ref 2 g2 0 0] ⟨[ob0,  obX, .arr g2 1 true true [.int .u64 r]], c⟩ fun out s' => ∃ c' r', out = .ok (.int .u64 r') ∧ s' = ⟨[ob0,  obX, .arr g2 1 true true [.int .u64 r']], c'⟩ := by
  refine calls1_of rfl rfl ?_
  (conv => whnf); repeat' (first | (apply eqK_intro rfl; conv => whnf) | (apply wrapK_intro rfl; conv => whnf) | ((with_reducible first | apply kN | apply kW | apply kX | apply kG | apply kQ); (· exact sd); conv => whnf) | (refine pcase.mk ?_ ?_ <;> intro hc <;> (try rw [List.length_nil] at hc) <;> first | (exfalso; omega) | (exact absurd rfl hc) | conv => whnf) | (refine bcase_intro ?_ ?_ <;> intro hc <;> conv => whnf))
  exact ⟨_, _, rfl, rfl⟩

/-- bits of a number below a power of two -/
theorem andN {r : Int} {M : Nat} (h0 : 0 < M) (h : M < 2^63) : ∃ n : Nat, IntKind.u64.wrap ((BitVec.ofInt IntKind.u64.bits r &&& BitVec.ofInt IntKind.u64.bits ((M - 1 : Nat) : Int)).toNat : Int) = n ∧ n < M := by
  have e : (BitVec.ofInt IntKind.u64.bits ((M - 1 : Nat) : Int)).toNat = M - 1 := by
    rw [BitVec.toNat_ofInt]
    show Int.toNat (((M - 1 : Nat) : Int) % ((2 ^ 64 : Nat) : Int)) = M - 1
    omega
  refine ⟨(BitVec.ofInt IntKind.u64.bits r &&& BitVec.ofInt IntKind.u64.bits ((M - 1 : Nat) : Int)).toNat, wrap_u rfl (by omega) ?_, ?_⟩
  · rw [BitVec.toNat_and, e]
    have := @Nat.and_le_right (BitVec.ofInt IntKind.u64.bits r).toNat (M - 1)
    show _ < (2 : Int) ^ 64
    omega
  · rw [BitVec.toNat_and, e]
    have := @Nat.and_le_right (BitVec.ofInt IntKind.u64.bits r).toNat (M - 1)
    omega

set_option maxHeartbeats 1000000 in
theorem pqbrk {ob0 : Obj} {g c len : Nat} {nn cl : Bool} {d : Array GX} {a b : Nat} (hl : d.size = len) (hb : b ≤ len) (hab : a + 12 < b) (hs : len < 2^61) :
    Calls1 (findFn tab) 125 [.own 1 g 0 len, .int .i64 a, .int .i64 b, .fn 29 []] ⟨[ob0, .arr g 8 nn cl (vs GX.av d.toList)], c⟩ fun out s' => ∃ c' D ob, out = .ok (.tup []) ∧ s' = ⟨[ob0, .arr g 8 nn cl (vs GX.av D.toList), ob], c'⟩ ∧ PermIn a b d D := by
  refine calls1_of rfl rfl ?_
  have hq : (b - a) / 4 * 4 ≤ b - a := Nat.div_mul_le_self _ _
  have hq2 : 3 ≤ (b - a) / 4 := by omega
  generalize hL : (b - a) / 4 = L at hq hq2
  (conv => whnf); repeat' (first | (refine wrapD (b - a) 4 (by omega) (by omega) ?_; rw [hL]; conv => whnf) | (refine wrapN (b - a) rfl (by omega) (by show _ < 2^64; omega) ?_; conv => whnf) | ((with_reducible first | apply kN | apply kW | apply kX | apply kG | apply kQ); (· exact sd); conv => whnf) | (refine pcase.mk ?_ ?_ <;> intro hc <;> (try rw [List.length_nil] at hc) <;> first | (exfalso; omega) | (exact absurd rfl hc) | conv => whnf) | (refine bcase_intro ?_ ?_ <;> intro hc <;> conv => whnf))
  rw [show ((b : Int) - a) = ((b - a : Nat) : Int) by omega]
  refine callK_of (pow2_next (n := b - a) (by omega) (by omega)) ?_
  rintro _ ⟨M, rfl, hM1, hM2⟩
  (conv => whnf); repeat' (first | (refine wrapD (b - a) 4 (by omega) (by omega) ?_; rw [hL]; conv => whnf) | ((with_reducible first | apply kN | apply kW | apply kX | apply kG | apply kQ); (· exact sd); conv => whnf) | (refine pcase.mk ?_ ?_ <;> intro hc <;> (try rw [List.length_nil] at hc) <;> first | (exfalso; omega) | (exact absurd rfl hc) | conv => whnf) | (refine bcase_intro ?_ ?_ <;> intro hc <;> conv => whnf))
  refine loop_inv (fun m env s => ∃ (k cc : Nat) (z r : Int) (D : Array GX), m = 3 - k ∧ k ≤ 3 ∧ z = (a : Int) + L * 2 - 1 + k ∧ PermIn a b d D ∧ env = [(0, .own 1 g 0 len), (1, .int .i64 a), (8, .int .i64 (b - a : Nat)), (9, .ref 2 c 0 0), (10, .int .u64 M), (11, .int .i64 z)] ∧ s = ⟨[ob0, .arr g 8 nn cl (vs GX.av D.toList), .arr c 1 true true [.int .u64 r]], cc⟩) ?_ _ _ _ ⟨0, _, _, ((b - a : Nat) : Int), d, rfl, by omega, by omega, permIn_refl _ _ _, rfl, rfl⟩
  rintro _ _ _ ⟨k, c1, z, r, D, rfl, hk, hz, hD, rfl, rfl⟩
  refine ⟨rfl, ?_⟩
  have hDl : D.size = len := by rw [hD.1, hl]
  (conv => whnf); repeat' (first | (refine wrapD (b - a) 4 (by omega) (by omega) ?_; rw [hL]; conv => whnf) | ((with_reducible first | apply kN | apply kW | apply kX | apply kG | apply kQ); (· exact sd); conv => whnf) | (refine pcase.mk ?_ ?_ <;> intro hc <;> (try rw [List.length_nil] at hc) <;> first | (exfalso; omega) | (exact absurd rfl hc) | conv => whnf) | (refine bcase_intro ?_ ?_ <;> intro hc <;> conv => whnf))
  · refine (pqnext).mono ?_
    rintro _ _ ⟨c2, r2, rfl, rfl⟩
    obtain ⟨o, ho1, ho2⟩ := andN (r := r2) (M := M) (by omega) (by omega)
    conv => whnf
    apply getK_intro rfl
    (conv => whnf); repeat' (first | (refine wrapN (M - 1) rfl (by omega) (by show _ < 2^64; omega) ?_; conv => whnf) | (apply eqK_intro ho1; conv => whnf) | (refine wrapK_intro (wrap_i64 (by omega) (by omega)) ?_; conv => whnf) | ((with_reducible show nthK _ _ _); refine nPK (a + (o - (b - a))) ?_; conv => whnf) | ((with_reducible show nthK _ _ _); refine nPK (a + o) ?_; conv => whnf) | ((with_reducible show nthK _ _ _); refine nPK (a + L * 2 - 1 + k) ?_; conv => whnf) | ((with_reducible show eqK _ _); refine tPK cellsGX (a + (o - (b - a))) ?_; conv => whnf) | ((with_reducible show eqK _ _); refine tPK cellsGX (a + o) ?_; conv => whnf) | ((with_reducible show eqK _ _); refine tPK cellsGX (a + L * 2 - 1 + k) ?_; conv => whnf) | ((with_reducible first | apply kN | apply kW | apply kX | apply kG | apply kQ); (· exact sd); conv => whnf) | (refine pcase.mk ?_ ?_ <;> intro hc <;> (try rw [List.length_nil] at hc) <;> first | (exfalso; omega) | (exact absurd rfl hc) | conv => whnf) | (refine bcase_intro ?_ ?_ <;> intro hc <;> conv => whnf))
    · exact again.mk ⟨_, by omega, k + 1, _, _, _, swp D (a + L * 2 - 1 + k) (a + (o - (b - a))), rfl, by omega, by omega, permIn_trans _ _ _ _ _ hD (swp_permIn _ _ _ _ _ (by omega) (by omega) (by omega) (by omega) (by omega)), rfl, rfl⟩
    · exact again.mk ⟨_, by omega, k + 1, _, _, _, swp D (a + L * 2 - 1 + k) (a + o), rfl, by omega, by omega, permIn_trans _ _ _ _ _ hD (swp_permIn _ _ _ _ _ (by omega) (by omega) (by omega) (by omega) (by omega)), rfl, rfl⟩
  · exact ⟨_, D, _, rfl, rfl, hD⟩

end AI
end Go.Proofs.YtbkibamoigmboaaGreatDoor
