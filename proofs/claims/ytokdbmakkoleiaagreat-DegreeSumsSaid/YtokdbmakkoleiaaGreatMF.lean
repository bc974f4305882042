/- Sorting numbers in descending order: the order. Sorting in place (CmpFunc[int]): insertion, heaps. -/
import Derived.Test.YtokdbmakkoleiaaGreatMP
import Derived.Test.YtokdbmakkoleiaaGreatCmI
set_option linter.unusedVariables false
namespace Go.Proofs.YtokdbmakkoleiaaGreat
namespace AI
open Go.Sort

def ltF (x y : Int) : Bool := decide (cmpI y x < 0)
theorem ltF_iff {x y : Int} : ltF x y = true ↔ y < x := by unfold ltF; rw [decide_eq_true_eq, cmpI_neg]
theorem ltF_no {x y : Int} : ltF x y = false ↔ ¬ y < x := by rw [← ltF_iff]; simp
theorem ltF_swo : SWO ltF where
  irrefl x := ltF_no.2 (by omega)
  trans x y z h1 h2 := ltF_iff.2 (by have := ltF_iff.1 h1; have := ltF_iff.1 h2; omega)
  ntrans x y z h1 h2 := ltF_no.2 (by have := ltF_no.1 h1; have := ltF_no.1 h2; omega)

theorem cellsI (x : Int) : (AV.int .i64 x).cells.length = 1 := rfl

theorem fallP {x y : Int} : PureP (findFn tab) 47 [.int .i64 x, .int .i64 y] (· = .int .i64 (cmpI y x)) := by
  refine pureP_of rfl rfl ?_
  (conv => whnf); repeat' (first | (refine callK_of compare ?_; rintro _ rfl; conv => whnf) | ((with_reducible first | apply kN | apply kW | apply kX | apply kG | apply kQ); (· exact sd); conv => whnf) | (refine pcase.mk ?_ ?_ <;> intro hc <;> (try rw [List.length_nil] at hc) <;> first | (exfalso; omega) | (exact absurd rfl hc) | conv => whnf) | (refine bcase_intro ?_ ?_ <;> intro hc <;> conv => whnf))
  rfl

theorem pcaseF {x y : Int} {A B : Prop} (h1 : ltF x y = true → A) (h2 : ltF x y = false → B) : pcase (cmpI y x < 0) A B :=
  ⟨fun h => h1 (decide_eq_true h), fun h => h2 (decide_eq_false h)⟩

attribute [irreducible] ltF

end AI
end Go.Proofs.YtokdbmakkoleiaaGreat
set_option linter.unusedVariables false
namespace Go.Proofs.YtokdbmakkoleiaaGreat
namespace AI
open Go.Sort

set_option maxHeartbeats 1000000 in
theorem pgins {ob0 ob1 : Obj} {g c len : Nat} {nn cl : Bool} {d : Array Int} {a b : Nat} (hl : d.size = len) (hb : b ≤ len) (hs : len < 2^61) (ha : a ≤ len) :
    Calls1 (findFn tab) 85 [.own 2 g 0 len, .int .i64 a, .int .i64 b, .fn 47 []] ⟨[ob0, ob1, .arr g 1 nn cl (vs (.int .i64) d.toList)], c⟩ fun out s' => ∃ c', out = .ok (.tup []) ∧ s' = ⟨[ob0, ob1, .arr g 1 nn cl (vs (.int .i64) (insertionSort ltF d a b).toList)], c'⟩ := by
  refine calls1_of rfl rfl ?_
  (conv => whnf); repeat' (first  | ((with_reducible first | apply kN | apply kW | apply kX | apply kG | apply kQ); (· exact sd); conv => whnf) | (refine pcase.mk ?_ ?_ <;> intro hc <;> (try rw [List.length_nil] at hc) <;> first | (exfalso; omega) | (exact absurd rfl hc) | conv => whnf) | (refine bcase_intro ?_ ?_ <;> intro hc <;> conv => whnf))
  refine loop_inv (fun m env s => ∃ (i c : Nat) (D : Array Int), m = b - i ∧ insOuter ltF a b i D = insertionSort ltF d a b ∧ D.size = len ∧ env = [(0, .own 2 g 0 len), (1, .int .i64 a), (2, .int .i64 b), (3, .fn 47 []), (8, .int .i64 i)] ∧ s = ⟨[ob0, ob1, .arr g 1 nn cl (vs (.int .i64) D.toList)], c⟩) ?_ _ _ _ ⟨a + 1, c, d, rfl, rfl, hl, rfl, rfl⟩
  rintro _ _ _ ⟨i, c, D, rfl, hD, hDl, rfl, rfl⟩
  refine ⟨rfl, ?_⟩
  (conv => whnf); repeat' (first  | ((with_reducible first | apply kN | apply kW | apply kX | apply kG | apply kQ); (· exact sd); conv => whnf) | (refine pcase.mk ?_ ?_ <;> intro hc <;> (try rw [List.length_nil] at hc) <;> first | (exfalso; omega) | (exact absurd rfl hc) | conv => whnf) | (refine bcase_intro ?_ ?_ <;> intro hc <;> conv => whnf))
  · rw [ins_out (by omega)] at hD
    refine loop_inv (fun m env s => ∃ (j c : Nat) (z : Int) (E : Array Int), m = j ∧ z = j ∧ j ≤ i ∧ insInner ltF a j E = insInner ltF a i D ∧ E.size = len ∧ env = [(0, .own 2 g 0 len), (1, .int .i64 a), (2, .int .i64 b), (3, .fn 47 []), (8, .int .i64 i), (9, .int .i64 z)] ∧ s = ⟨[ob0, ob1, .arr g 1 nn cl (vs (.int .i64) E.toList)], c⟩) ?_ _ _ _ ⟨i, _, _, D, rfl, rfl, by omega, rfl, hDl, rfl, rfl⟩
    rintro j _ _ ⟨_, c, z, E, rfl, hz, hj, hE, hEl, rfl, rfl⟩
    refine ⟨rfl, ?_⟩
    cases j with
    | zero =>
      (conv => whnf); repeat' (first  | ((with_reducible first | apply kN | apply kW | apply kX | apply kG | apply kQ); (· exact sd); conv => whnf) | (refine pcase.mk ?_ ?_ <;> intro hc <;> (try rw [List.length_nil] at hc) <;> first | (exfalso; omega) | (exact absurd rfl hc) | conv => whnf) | (refine bcase_intro ?_ ?_ <;> intro hc <;> conv => whnf))
      rw [← hE] at hD
      exact again.mk ⟨_, by omega, i + 1, _, E, rfl, hD, hEl, rfl, rfl⟩
    | succ j =>
      (conv => whnf); repeat' (first | ((with_reducible show nthK _ _ _); refine nPK (j + 1) ?_; conv => whnf) | ((with_reducible show nthK _ _ _); refine nPK (j) ?_; conv => whnf) | (refine callK_of fallP ?_; rintro _ rfl; conv => whnf) | (refine pcaseF (fun hc => ?_) (fun hc => ?_) <;> conv => whnf) | ((with_reducible show eqK _ _); refine tPK cellsI (j + 1) ?_; conv => whnf) | ((with_reducible show eqK _ _); refine tPK cellsI (j) ?_; conv => whnf) | ((with_reducible first | apply kN | apply kW | apply kX | apply kG | apply kQ); (· exact sd); conv => whnf) | (refine pcase.mk ?_ ?_ <;> intro hc <;> (try rw [List.length_nil] at hc) <;> first | (exfalso; omega) | (exact absurd rfl hc) | conv => whnf) | (refine bcase_intro ?_ ?_ <;> intro hc <;> conv => whnf))
      · rw [ins_step (by omega) hc] at hE
        exact again.mk ⟨_, by omega, j, _, _, swp E (j + 1) j, rfl, by omega, by omega, hE, by simpa using hEl, rfl, rfl⟩
      · rw [ins_stop (fun _ => hc)] at hE
        rw [← hE] at hD
        exact again.mk ⟨_, by omega, i + 1, _, E, rfl, hD, hEl, rfl, rfl⟩
      · rw [ins_stop (fun h => absurd h (by omega))] at hE
        rw [← hE] at hD
        exact again.mk ⟨_, by omega, i + 1, _, E, rfl, hD, hEl, rfl, rfl⟩
  · rw [ins_end (by omega)] at hD
    exact ⟨_, rfl, by rw [hD]⟩

set_option maxHeartbeats 1000000 in
theorem pgsift {ob0 ob1 : Obj} {g c len : Nat} {nn cl : Bool} {d : Array Int} {lo hi first : Nat} (hl : d.size = len) (hb : first + hi ≤ len) (hs : len < 2^61) (hlo : lo ≤ len) :
    Calls1 (findFn tab) 101 [.own 2 g 0 len, .int .i64 lo, .int .i64 hi, .int .i64 first, .fn 47 []] ⟨[ob0, ob1, .arr g 1 nn cl (vs (.int .i64) d.toList)], c⟩ fun out s' => ∃ c', out = .ok (.tup []) ∧ s' = ⟨[ob0, ob1, .arr g 1 nn cl (vs (.int .i64) (siftDown ltF hi first lo d).toList)], c'⟩ := by
  refine calls1_of rfl rfl ?_
  (conv => whnf); repeat' (first  | ((with_reducible first | apply kN | apply kW | apply kX | apply kG | apply kQ); (· exact sd); conv => whnf) | (refine pcase.mk ?_ ?_ <;> intro hc <;> (try rw [List.length_nil] at hc) <;> first | (exfalso; omega) | (exact absurd rfl hc) | conv => whnf) | (refine bcase_intro ?_ ?_ <;> intro hc <;> conv => whnf))
  refine loop_inv (fun m env s => ∃ (root c : Nat) (z : Int) (D : Array Int), m = hi - root ∧ z = root ∧ root ≤ len ∧ siftDown ltF hi first root D = siftDown ltF hi first lo d ∧ D.size = len ∧ env = [(0, .own 2 g 0 len), (2, .int .i64 hi), (3, .int .i64 first), (4, .fn 47 []), (10, .int .i64 z)] ∧ s = ⟨[ob0, ob1, .arr g 1 nn cl (vs (.int .i64) D.toList)], c⟩) ?_ _ _ _ ⟨lo, c, _, d, rfl, rfl, hlo, rfl, hl, rfl, rfl⟩
  rintro _ _ _ ⟨root, c, z, D, rfl, hz, hr, hD, hDl, rfl, rfl⟩
  refine ⟨rfl, ?_⟩
  (conv => whnf); repeat' (first | ((with_reducible show nthK _ _ _); refine nPK (first + root) ?_; conv => whnf) | ((with_reducible show nthK _ _ _); refine nPK (first + (2 * root + 1)) ?_; conv => whnf) | ((with_reducible show nthK _ _ _); refine nPK (first + (2 * root + 1) + 1) ?_; conv => whnf) | (refine callK_of fallP ?_; rintro _ rfl; conv => whnf) | (refine pcaseF (fun hc => ?_) (fun hc => ?_) <;> conv => whnf) | ((with_reducible show eqK _ _); refine tPK cellsI (first + root) ?_; conv => whnf) | ((with_reducible show eqK _ _); refine tPK cellsI (first + (2 * root + 1)) ?_; conv => whnf) | ((with_reducible show eqK _ _); refine tPK cellsI (first + (2 * root + 1) + 1) ?_; conv => whnf) | ((with_reducible first | apply kN | apply kW | apply kX | apply kG | apply kQ); (· exact sd); conv => whnf) | (refine pcase.mk ?_ ?_ <;> intro hc <;> (try rw [List.length_nil] at hc) <;> first | (exfalso; omega) | (exact absurd rfl hc) | conv => whnf) | (refine bcase_intro ?_ ?_ <;> intro hc <;> conv => whnf))
  · rw [sift_end (by omega)] at hD
    exact ⟨_, rfl, by rw [hD]⟩
  all_goals first
    | (rw [sift_R (by omega) (by assumption) hc] at hD
       exact again.mk ⟨_, by omega, 2 * root + 2, _, _, swp D (first + root) (first + (2 * root + 2)), rfl, by omega, by omega, hD, by simpa using hDl, rfl, rfl⟩)
    | (rw [sift_R0 (by omega) (by assumption) hc] at hD
       exact ⟨_, rfl, by rw [hD]⟩)
    | (rw [sift_L (by omega) (fun _ => by assumption) hc] at hD
       exact again.mk ⟨_, by omega, 2 * root + 1, _, _, swp D (first + root) (first + (2 * root + 1)), rfl, by omega, by omega, hD, by simpa using hDl, rfl, rfl⟩)
    | (rw [sift_L0 (by omega) (fun _ => by assumption) hc] at hD
       exact ⟨_, rfl, by rw [hD]⟩)
    | (rw [sift_L (by omega) (fun h => absurd h (by omega)) hc] at hD
       exact again.mk ⟨_, by omega, 2 * root + 1, _, _, swp D (first + root) (first + (2 * root + 1)), rfl, by omega, by omega, hD, by simpa using hDl, rfl, rfl⟩)
    | (rw [sift_L0 (by omega) (fun h => absurd h (by omega)) hc] at hD
       exact ⟨_, rfl, by rw [hD]⟩)

set_option maxHeartbeats 1000000 in
theorem pgheapP {ob0 ob1 : Obj} {g c len : Nat} {nn cl : Bool} {d : Array Int} {a n : Nat} {z : Int} {Q : AExit → Env → Sto → Prop} (hl : d.size = len) (hb : a + n ≤ len) (hs : len < 2^61) (hz : z = (n : Int) - 1)
    (hQ : ∀ c' e, Q (.exit 2) e ⟨[ob0, ob1, .arr g 1 nn cl (vs (.int .i64) (heapPop ltF a n d).toList)], c'⟩) :
    Run (findFn tab) (.loop l86_1_h l86_1_b) [(0, .own 2 g 0 len), (3, .fn 47 []), (8, .int .i64 a), (9, .int .i64 0), (12, .int .i64 z)] ⟨[ob0, ob1, .arr g 1 nn cl (vs (.int .i64) d.toList)], c⟩ Q := by
  refine loop_inv (fun m env s => ∃ (k c : Nat) (z : Int) (E : Array Int), m = k ∧ z = (k : Int) - 1 ∧ a + k ≤ len ∧ heapPop ltF a k E = heapPop ltF a n d ∧ E.size = len ∧ env = [(0, .own 2 g 0 len), (3, .fn 47 []), (8, .int .i64 a), (9, .int .i64 0), (12, .int .i64 z)] ∧ s = ⟨[ob0, ob1, .arr g 1 nn cl (vs (.int .i64) E.toList)], c⟩) ?_ _ _ _ ⟨n, c, _, d, rfl, hz, by omega, rfl, hl, rfl, rfl⟩
  clear hz
  rintro k _ _ ⟨_, c, z, E, rfl, hz, hk, hE, hEl, rfl, rfl⟩
  refine ⟨rfl, ?_⟩
  cases k with
  | succ k =>
    obtain rfl : z = (k : Nat) := by omega
    (conv => whnf); repeat' (first | ((with_reducible show nthK _ _ _); refine nPK (a) ?_; conv => whnf) | ((with_reducible show nthK _ _ _); refine nPK (a + k) ?_; conv => whnf) | ((with_reducible show eqK _ _); refine tPK cellsI (a) ?_; conv => whnf) | ((with_reducible show eqK _ _); refine tPK cellsI (a + k) ?_; conv => whnf) | ((with_reducible first | apply kN | apply kW | apply kX | apply kG | apply kQ); (· exact sd); conv => whnf) | (refine pcase.mk ?_ ?_ <;> intro hc <;> (try rw [List.length_nil] at hc) <;> first | (exfalso; omega) | (exact absurd rfl hc) | conv => whnf) | (refine bcase_intro ?_ ?_ <;> intro hc <;> conv => whnf))
    refine (pgsift (d := swp E a (a + k)) (lo := 0) (by simpa using hEl) (by omega) hs (by omega)).mono ?_
    rintro _ _ ⟨c', rfl, rfl⟩
    (conv => whnf); repeat' (first  | ((with_reducible first | apply kN | apply kW | apply kX | apply kG | apply kQ); (· exact sd); conv => whnf) | (refine pcase.mk ?_ ?_ <;> intro hc <;> (try rw [List.length_nil] at hc) <;> first | (exfalso; omega) | (exact absurd rfl hc) | conv => whnf) | (refine bcase_intro ?_ ?_ <;> intro hc <;> conv => whnf))
    rw [heapPop] at hE
    exact again.mk ⟨_, by omega, k, _, (k : Int) - 1, _, rfl, by omega, by omega, hE, by simpa using hEl, rfl, rfl⟩
  | zero =>
    rw [← hE] at hQ
    (conv => whnf); repeat' (first  | ((with_reducible first | apply kN | apply kW | apply kX | apply kG | apply kQ); (· exact sd); conv => whnf) | (refine pcase.mk ?_ ?_ <;> intro hc <;> (try rw [List.length_nil] at hc) <;> first | (exfalso; omega) | (exact absurd rfl hc) | conv => whnf) | (refine bcase_intro ?_ ?_ <;> intro hc <;> conv => whnf))
    exact hQ _ _

theorem pgheap {ob0 ob1 : Obj} {g c len : Nat} {nn cl : Bool} {d : Array Int} {a b : Nat} (hl : d.size = len) (hb : b ≤ len) (hs : len < 2^61) (hab : a < b) :
    Calls1 (findFn tab) 86 [.own 2 g 0 len, .int .i64 a, .int .i64 b, .fn 47 []] ⟨[ob0, ob1, .arr g 1 nn cl (vs (.int .i64) d.toList)], c⟩ fun out s' => ∃ c', out = .ok (.tup []) ∧ s' = ⟨[ob0, ob1, .arr g 1 nn cl (vs (.int .i64) (heapSort ltF d a b).toList)], c'⟩ := by
  refine calls1_of rfl rfl ?_
  (conv => whnf); repeat' (first | (refine wrapD (b - a - 1) 2 (by omega) (by omega) ?_; conv => whnf) | ((with_reducible first | apply kN | apply kW | apply kX | apply kG | apply kQ); (· exact sd); conv => whnf) | (refine pcase.mk ?_ ?_ <;> intro hc <;> (try rw [List.length_nil] at hc) <;> first | (exfalso; omega) | (exact absurd rfl hc) | conv => whnf) | (refine bcase_intro ?_ ?_ <;> intro hc <;> conv => whnf))
  refine loop_inv (fun m env s => ∃ (k c : Nat) (z : Int) (D : Array Int), m = k ∧ z = k - 1 ∧ k ≤ len ∧ heapBuild ltF (b - a) a k D = heapBuild ltF (b - a) a ((b - a - 1) / 2 + 1) d ∧ D.size = len ∧ env = [(0, .own 2 g 0 len), (3, .fn 47 []), (8, .int .i64 a), (9, .int .i64 0), (10, .int .i64 (b - a)), (11, .int .i64 z)] ∧ s = ⟨[ob0, ob1, .arr g 1 nn cl (vs (.int .i64) D.toList)], c⟩) ?_ _ _ _ ⟨(b - a - 1) / 2 + 1, c, _, d, rfl, by omega, by omega, rfl, hl, rfl, rfl⟩
  rintro k _ _ ⟨_, c, z, D, rfl, hz, hk, hD, hDl, rfl, rfl⟩
  refine ⟨rfl, ?_⟩
  cases k with
  | succ k =>
    obtain rfl : z = (k : Nat) := by omega
    (conv => whnf); repeat' (first  | ((with_reducible first | apply kN | apply kW | apply kX | apply kG | apply kQ); (· exact sd); conv => whnf) | (refine pcase.mk ?_ ?_ <;> intro hc <;> (try rw [List.length_nil] at hc) <;> first | (exfalso; omega) | (exact absurd rfl hc) | conv => whnf) | (refine bcase_intro ?_ ?_ <;> intro hc <;> conv => whnf))
    rw [show ((b : Int) - a) = ((b - a : Nat) : Int) by omega]
    refine (pgsift hDl (by omega) hs (by omega)).mono ?_
    rintro _ _ ⟨c', rfl, rfl⟩
    (conv => whnf); repeat' (first  | ((with_reducible first | apply kN | apply kW | apply kX | apply kG | apply kQ); (· exact sd); conv => whnf) | (refine pcase.mk ?_ ?_ <;> intro hc <;> (try rw [List.length_nil] at hc) <;> first | (exfalso; omega) | (exact absurd rfl hc) | conv => whnf) | (refine bcase_intro ?_ ?_ <;> intro hc <;> conv => whnf))
    rw [heapBuild] at hD
    exact again.mk ⟨_, by omega, k, _, (k : Int) - 1, _, rfl, by omega, by omega, hD, by simpa using hDl, rfl, rfl⟩
  | zero =>
    have hD : D = _ := hD
    (conv => whnf); repeat' (first  | ((with_reducible first | apply kN | apply kW | apply kX | apply kG | apply kQ); (· exact sd); conv => whnf) | (refine pcase.mk ?_ ?_ <;> intro hc <;> (try rw [List.length_nil] at hc) <;> first | (exfalso; omega) | (exact absurd rfl hc) | conv => whnf) | (refine bcase_intro ?_ ?_ <;> intro hc <;> conv => whnf))
    refine pgheapP hDl (n := b - a) (by omega) hs (by omega) (fun c' e => ?_)
    (conv => whnf); repeat' (first  | ((with_reducible first | apply kN | apply kW | apply kX | apply kG | apply kQ); (· exact sd); conv => whnf) | (refine pcase.mk ?_ ?_ <;> intro hc <;> (try rw [List.length_nil] at hc) <;> first | (exfalso; omega) | (exact absurd rfl hc) | conv => whnf) | (refine bcase_intro ?_ ?_ <;> intro hc <;> conv => whnf))
    exact ⟨_, rfl, by rw [hD]; rfl⟩

end AI
end Go.Proofs.YtokdbmakkoleiaaGreat
