/- Sorting in place (CmpFunc[graphdb/api.Rule]): insertion, heaps. -/
import Derived.Test.YtdlkcancogpafaaGreatDoorPr0
set_option linter.unusedVariables false
set_option maxRecDepth 4000
namespace Go.Proofs.YtdlkcancogpafaaGreatDoor
namespace AI
open Go.Sort

set_option maxHeartbeats 1000000 in
theorem prins {ob0 : Obj} {g c len : Nat} {nn cl : Bool} {d : Array GR} {a b : Nat} (hl : d.size = len) (hb : b ≤ len) (hs : len < 2^61) (ha : a ≤ len) :
    Calls1 (findFn tab) 104 [.own 1 g 0 len, .int .i64 a, .int .i64 b, .fn 24 []] ⟨[ob0, .arr g 6 nn cl (vs GR.av d.toList)], c⟩ fun out s' => ∃ c', out = .ok (.tup []) ∧ s' = ⟨[ob0, .arr g 6 nn cl (vs GR.av (insertionSort ltR d a b).toList)], c'⟩ := by
  refine calls1_of rfl rfl ?_
  (conv => whnf); repeat' (first  | ((with_reducible first | apply kN | apply kW | apply kX | apply kG | apply kQ); (· exact sd); conv => whnf) | (refine pcase.mk ?_ ?_ <;> intro hc <;> (try rw [List.length_nil] at hc) <;> first | (exfalso; omega) | (exact absurd rfl hc) | conv => whnf) | (refine bcase_intro ?_ ?_ <;> intro hc <;> conv => whnf))
  refine loop_inv (fun m env s => ∃ (i c : Nat) (D : Array GR), m = b - i ∧ insOuter ltR a b i D = insertionSort ltR d a b ∧ D.size = len ∧ env = [(0, .own 1 g 0 len), (1, .int .i64 a), (2, .int .i64 b), (3, .fn 24 []), (8, .int .i64 i)] ∧ s = ⟨[ob0, .arr g 6 nn cl (vs GR.av D.toList)], c⟩) ?_ _ _ _ ⟨a + 1, c, d, rfl, rfl, hl, rfl, rfl⟩
  rintro _ _ _ ⟨i, c, D, rfl, hD, hDl, rfl, rfl⟩
  refine ⟨rfl, ?_⟩
  (conv => whnf); repeat' (first  | ((with_reducible first | apply kN | apply kW | apply kX | apply kG | apply kQ); (· exact sd); conv => whnf) | (refine pcase.mk ?_ ?_ <;> intro hc <;> (try rw [List.length_nil] at hc) <;> first | (exfalso; omega) | (exact absurd rfl hc) | conv => whnf) | (refine bcase_intro ?_ ?_ <;> intro hc <;> conv => whnf))
  · rw [ins_out (by omega)] at hD
    refine loop_inv (fun m env s => ∃ (j c : Nat) (z : Int) (E : Array GR), m = j ∧ z = j ∧ j ≤ i ∧ insInner ltR a j E = insInner ltR a i D ∧ E.size = len ∧ env = [(0, .own 1 g 0 len), (1, .int .i64 a), (2, .int .i64 b), (3, .fn 24 []), (8, .int .i64 i), (9, .int .i64 z)] ∧ s = ⟨[ob0, .arr g 6 nn cl (vs GR.av E.toList)], c⟩) ?_ _ _ _ ⟨i, _, _, D, rfl, rfl, by omega, rfl, hDl, rfl, rfl⟩
    rintro j _ _ ⟨_, c, z, E, rfl, hz, hj, hE, hEl, rfl, rfl⟩
    refine ⟨rfl, ?_⟩
    cases j with
    | zero =>
      (conv => whnf); repeat' (first  | ((with_reducible first | apply kN | apply kW | apply kX | apply kG | apply kQ); (· exact sd); conv => whnf) | (refine pcase.mk ?_ ?_ <;> intro hc <;> (try rw [List.length_nil] at hc) <;> first | (exfalso; omega) | (exact absurd rfl hc) | conv => whnf) | (refine bcase_intro ?_ ?_ <;> intro hc <;> conv => whnf))
      rw [← hE] at hD
      exact again.mk ⟨_, by omega, i + 1, _, E, rfl, hD, hEl, rfl, rfl⟩
    | succ j =>
      (conv => whnf); repeat' (first | ((with_reducible show nthK _ _ _); refine nPK (j + 1) ?_; conv => whnf) | ((with_reducible show nthK _ _ _); refine nPK (j) ?_; conv => whnf) | (refine callK_of orderPR ?_; rintro _ rfl; conv => whnf) | (refine pcaseR (fun hc => ?_) (fun hc => ?_) <;> conv => whnf) | ((with_reducible show eqK _ _); refine tPK cellsR (j + 1) ?_; conv => whnf) | ((with_reducible show eqK _ _); refine tPK cellsR (j) ?_; conv => whnf) | ((with_reducible first | apply kN | apply kW | apply kX | apply kG | apply kQ); (· exact sd); conv => whnf) | (refine pcase.mk ?_ ?_ <;> intro hc <;> (try rw [List.length_nil] at hc) <;> first | (exfalso; omega) | (exact absurd rfl hc) | conv => whnf) | (refine bcase_intro ?_ ?_ <;> intro hc <;> conv => whnf))
      · rw [ins_step (by omega) hc] at hE
        exact again.mk ⟨_, by omega, j, _, _, swp E (j + 1) j, rfl, by omega, by omega, hE, by simpa using hEl, rfl, rfl⟩
      · rw [ins_stop (fun _ => hc)] at hE
        rw [← hE] at hD
        exact again.mk ⟨_, by omega, i + 1, _, E, rfl, hD, hEl, rfl, rfl⟩
      · rw [ins_stop (fun h => absurd h (by omega))] at hE
        rw [← hE] at hD
        exact again.mk ⟨_, by omega, i + 1, _, E, rfl, hD, hEl, rfl, rfl⟩
  · rw [ins_end (by omega)] at hD
    exact ⟨_, rfl, by rw [hD]⟩

set_option maxHeartbeats 1000000 in
theorem prsift {ob0 : Obj} {g c len : Nat} {nn cl : Bool} {d : Array GR} {lo hi first : Nat} (hl : d.size = len) (hb : first + hi ≤ len) (hs : len < 2^61) (hlo : lo ≤ len) :
    Calls1 (findFn tab) 142 [.own 1 g 0 len, .int .i64 lo, .int .i64 hi, .int .i64 first, .fn 24 []] ⟨[ob0, .arr g 6 nn cl (vs GR.av d.toList)], c⟩ fun out s' => ∃ c', out = .ok (.tup []) ∧ s' = ⟨[ob0, .arr g 6 nn cl (vs GR.av (siftDown ltR hi first lo d).toList)], c'⟩ := by
  refine calls1_of rfl rfl ?_
  (conv => whnf); repeat' (first  | ((with_reducible first | apply kN | apply kW | apply kX | apply kG | apply kQ); (· exact sd); conv => whnf) | (refine pcase.mk ?_ ?_ <;> intro hc <;> (try rw [List.length_nil] at hc) <;> first | (exfalso; omega) | (exact absurd rfl hc) | conv => whnf) | (refine bcase_intro ?_ ?_ <;> intro hc <;> conv => whnf))
  refine loop_inv (fun m env s => ∃ (root c : Nat) (z : Int) (D : Array GR), m = hi - root ∧ z = root ∧ root ≤ len ∧ siftDown ltR hi first root D = siftDown ltR hi first lo d ∧ D.size = len ∧ env = [(0, .own 1 g 0 len), (2, .int .i64 hi), (3, .int .i64 first), (4, .fn 24 []), (10, .int .i64 z)] ∧ s = ⟨[ob0, .arr g 6 nn cl (vs GR.av D.toList)], c⟩) ?_ _ _ _ ⟨lo, c, _, d, rfl, rfl, hlo, rfl, hl, rfl, rfl⟩
  rintro _ _ _ ⟨root, c, z, D, rfl, hz, hr, hD, hDl, rfl, rfl⟩
  refine ⟨rfl, ?_⟩
  (conv => whnf); repeat' (first | ((with_reducible show nthK _ _ _); refine nPK (first + root) ?_; conv => whnf) | ((with_reducible show nthK _ _ _); refine nPK (first + (2 * root + 1)) ?_; conv => whnf) | ((with_reducible show nthK _ _ _); refine nPK (first + (2 * root + 1) + 1) ?_; conv => whnf) | (refine callK_of orderPR ?_; rintro _ rfl; conv => whnf) | (refine pcaseR (fun hc => ?_) (fun hc => ?_) <;> conv => whnf) | ((with_reducible show eqK _ _); refine tPK cellsR (first + root) ?_; conv => whnf) | ((with_reducible show eqK _ _); refine tPK cellsR (first + (2 * root + 1)) ?_; conv => whnf) | ((with_reducible show eqK _ _); refine tPK cellsR (first + (2 * root + 1) + 1) ?_; conv => whnf) | ((with_reducible first | apply kN | apply kW | apply kX | apply kG | apply kQ); (· exact sd); conv => whnf) | (refine pcase.mk ?_ ?_ <;> intro hc <;> (try rw [List.length_nil] at hc) <;> first | (exfalso; omega) | (exact absurd rfl hc) | conv => whnf) | (refine bcase_intro ?_ ?_ <;> intro hc <;> conv => whnf))
  · rw [sift_end (by omega)] at hD
    exact ⟨_, rfl, by rw [hD]⟩
  all_goals first
    | (rw [sift_R (by omega) (by assumption) hc] at hD
       exact again.mk ⟨_, by omega, 2 * root + 2, _, _, swp D (first + root) (first + (2 * root + 2)), rfl, by omega, by omega, hD, by simpa using hDl, rfl, rfl⟩)
    | (rw [sift_R0 (by omega) (by assumption) hc] at hD
       exact ⟨_, rfl, by rw [hD]⟩)
    | (rw [sift_L (by omega) (fun _ => by assumption) hc] at hD
       exact again.mk ⟨_, by omega, 2 * root + 1, _, _, swp D (first + root) (first + (2 * root + 1)), rfl, by omega, by omega, hD, by simpa using hDl, rfl, rfl⟩)
    | (rw [sift_L0 (by omega) (fun _ => by assumption) hc] at hD
       exact ⟨_, rfl, by rw [hD]⟩)
    | (rw [sift_L (by omega) (fun h => absurd h (by omega)) hc] at hD
       exact again.mk ⟨_, by omega, 2 * root + 1, _, _, swp D (first + root) (first + (2 * root + 1)), rfl, by omega, by omega, hD, by simpa using hDl, rfl, rfl⟩)
    | (rw [sift_L0 (by omega) (fun h => absurd h (by omega)) hc] at hD
       exact ⟨_, rfl, by rw [hD]⟩)

set_option maxHeartbeats 1000000 in
theorem prheapP {ob0 : Obj} {g c len : Nat} {nn cl : Bool} {d : Array GR} {a n : Nat} {z : Int} {Q : AExit → Env → Sto → Prop} (hl : d.size = len) (hb : a + n ≤ len) (hs : len < 2^61) (hz : z = (n : Int) - 1)
    (hQ : ∀ c' e, Q (.exit 2) e ⟨[ob0, .arr g 6 nn cl (vs GR.av (heapPop ltR a n d).toList)], c'⟩) :
    Run (findFn tab) (.loop l105_1_h l105_1_b) [(0, .own 1 g 0 len), (3, .fn 24 []), (8, .int .i64 a), (9, .int .i64 0), (12, .int .i64 z)] ⟨[ob0, .arr g 6 nn cl (vs GR.av d.toList)], c⟩ Q := by
  refine loop_inv (fun m env s => ∃ (k c : Nat) (z : Int) (E : Array GR), m = k ∧ z = (k : Int) - 1 ∧ a + k ≤ len ∧ heapPop ltR a k E = heapPop ltR a n d ∧ E.size = len ∧ env = [(0, .own 1 g 0 len), (3, .fn 24 []), (8, .int .i64 a), (9, .int .i64 0), (12, .int .i64 z)] ∧ s = ⟨[ob0, .arr g 6 nn cl (vs GR.av E.toList)], c⟩) ?_ _ _ _ ⟨n, c, _, d, rfl, hz, by omega, rfl, hl, rfl, rfl⟩
  clear hz
  rintro k _ _ ⟨_, c, z, E, rfl, hz, hk, hE, hEl, rfl, rfl⟩
  refine ⟨rfl, ?_⟩
  cases k with
  | succ k =>
    obtain rfl : z = (k : Nat) := by omega
    (conv => whnf); repeat' (first | ((with_reducible show nthK _ _ _); refine nPK (a) ?_; conv => whnf) | ((with_reducible show nthK _ _ _); refine nPK (a + k) ?_; conv => whnf) | ((with_reducible show eqK _ _); refine tPK cellsR (a) ?_; conv => whnf) | ((with_reducible show eqK _ _); refine tPK cellsR (a + k) ?_; conv => whnf) | ((with_reducible first | apply kN | apply kW | apply kX | apply kG | apply kQ); (· exact sd); conv => whnf) | (refine pcase.mk ?_ ?_ <;> intro hc <;> (try rw [List.length_nil] at hc) <;> first | (exfalso; omega) | (exact absurd rfl hc) | conv => whnf) | (refine bcase_intro ?_ ?_ <;> intro hc <;> conv => whnf))
    refine (prsift (d := swp E a (a + k)) (lo := 0) (by simpa using hEl) (by omega) hs (by omega)).mono ?_
    rintro _ _ ⟨c', rfl, rfl⟩
    (conv => whnf); repeat' (first  | ((with_reducible first | apply kN | apply kW | apply kX | apply kG | apply kQ); (· exact sd); conv => whnf) | (refine pcase.mk ?_ ?_ <;> intro hc <;> (try rw [List.length_nil] at hc) <;> first | (exfalso; omega) | (exact absurd rfl hc) | conv => whnf) | (refine bcase_intro ?_ ?_ <;> intro hc <;> conv => whnf))
    rw [heapPop] at hE
    exact again.mk ⟨_, by omega, k, _, (k : Int) - 1, _, rfl, by omega, by omega, hE, by simpa using hEl, rfl, rfl⟩
  | zero =>
    rw [← hE] at hQ
    (conv => whnf); repeat' (first  | ((with_reducible first | apply kN | apply kW | apply kX | apply kG | apply kQ); (· exact sd); conv => whnf) | (refine pcase.mk ?_ ?_ <;> intro hc <;> (try rw [List.length_nil] at hc) <;> first | (exfalso; omega) | (exact absurd rfl hc) | conv => whnf) | (refine bcase_intro ?_ ?_ <;> intro hc <;> conv => whnf))
    exact hQ _ _

theorem prheap {ob0 : Obj} {g c len : Nat} {nn cl : Bool} {d : Array GR} {a b : Nat} (hl : d.size = len) (hb : b ≤ len) (hs : len < 2^61) (hab : a < b) :
    Calls1 (findFn tab) 105 [.own 1 g 0 len, .int .i64 a, .int .i64 b, .fn 24 []] ⟨[ob0, .arr g 6 nn cl (vs GR.av d.toList)], c⟩ fun out s' => ∃ c', out = .ok (.tup []) ∧ s' = ⟨[ob0, .arr g 6 nn cl (vs GR.av (heapSort ltR d a b).toList)], c'⟩ := by
  refine calls1_of rfl rfl ?_
  (conv => whnf); repeat' (first | (refine wrapD (b - a - 1) 2 (by omega) (by omega) ?_; conv => whnf) | ((with_reducible first | apply kN | apply kW | apply kX | apply kG | apply kQ); (· exact sd); conv => whnf) | (refine pcase.mk ?_ ?_ <;> intro hc <;> (try rw [List.length_nil] at hc) <;> first | (exfalso; omega) | (exact absurd rfl hc) | conv => whnf) | (refine bcase_intro ?_ ?_ <;> intro hc <;> conv => whnf))
  refine loop_inv (fun m env s => ∃ (k c : Nat) (z : Int) (D : Array GR), m = k ∧ z = k - 1 ∧ k ≤ len ∧ heapBuild ltR (b - a) a k D = heapBuild ltR (b - a) a ((b - a - 1) / 2 + 1) d ∧ D.size = len ∧ env = [(0, .own 1 g 0 len), (3, .fn 24 []), (8, .int .i64 a), (9, .int .i64 0), (10, .int .i64 (b - a)), (11, .int .i64 z)] ∧ s = ⟨[ob0, .arr g 6 nn cl (vs GR.av D.toList)], c⟩) ?_ _ _ _ ⟨(b - a - 1) / 2 + 1, c, _, d, rfl, by omega, by omega, rfl, hl, rfl, rfl⟩
  rintro k _ _ ⟨_, c, z, D, rfl, hz, hk, hD, hDl, rfl, rfl⟩
  refine ⟨rfl, ?_⟩
  cases k with
  | succ k =>
    obtain rfl : z = (k : Nat) := by omega
    (conv => whnf); repeat' (first  | ((with_reducible first | apply kN | apply kW | apply kX | apply kG | apply kQ); (· exact sd); conv => whnf) | (refine pcase.mk ?_ ?_ <;> intro hc <;> (try rw [List.length_nil] at hc) <;> first | (exfalso; omega) | (exact absurd rfl hc) | conv => whnf) | (refine bcase_intro ?_ ?_ <;> intro hc <;> conv => whnf))
    rw [show ((b : Int) - a) = ((b - a : Nat) : Int) by omega]
    refine (prsift hDl (by omega) hs (by omega)).mono ?_
    rintro _ _ ⟨c', rfl, rfl⟩
    (conv => whnf); repeat' (first  | ((with_reducible first | apply kN | apply kW | apply kX | apply kG | apply kQ); (· exact sd); conv => whnf) | (refine pcase.mk ?_ ?_ <;> intro hc <;> (try rw [List.length_nil] at hc) <;> first | (exfalso; omega) | (exact absurd rfl hc) | conv => whnf) | (refine bcase_intro ?_ ?_ <;> intro hc <;> conv => whnf))
    rw [heapBuild] at hD
    exact again.mk ⟨_, by omega, k, _, (k : Int) - 1, _, rfl, by omega, by omega, hD, by simpa using hDl, rfl, rfl⟩
  | zero =>
    have hD : D = _ := hD
    (conv => whnf); repeat' (first  | ((with_reducible first | apply kN | apply kW | apply kX | apply kG | apply kQ); (· exact sd); conv => whnf) | (refine pcase.mk ?_ ?_ <;> intro hc <;> (try rw [List.length_nil] at hc) <;> first | (exfalso; omega) | (exact absurd rfl hc) | conv => whnf) | (refine bcase_intro ?_ ?_ <;> intro hc <;> conv => whnf))
    refine prheapP hDl (n := b - a) (by omega) hs (by omega) (fun c' e => ?_)
    (conv => whnf); repeat' (first  | ((with_reducible first | apply kN | apply kW | apply kX | apply kG | apply kQ); (· exact sd); conv => whnf) | (refine pcase.mk ?_ ?_ <;> intro hc <;> (try rw [List.length_nil] at hc) <;> first | (exfalso; omega) | (exact absurd rfl hc) | conv => whnf) | (refine bcase_intro ?_ ?_ <;> intro hc <;> conv => whnf))
    exact ⟨_, rfl, by rw [hD]; rfl⟩

end AI
end Go.Proofs.YtdlkcancogpafaaGreatDoor
