/- Sorting strings in place: the order. Sorting in place (Ordered[string]): insertion, heaps. -/
import Derived.Test.YtdlkcancogpafaaGreatDoorMP
set_option linter.unusedVariables false
set_option maxRecDepth 4000
namespace Go.Proofs.YtdlkcancogpafaaGreatDoor
namespace AI
open Go.Sort

def ltS (x y : List UInt8) : Bool := Op.bytesLess x y

theorem less_eq : ∀ (x y : List UInt8), Op.bytesLess x y = decide (x < y)
  | [], [] => by simp [Op.bytesLess]
  | _ :: _, [] => by simp [Op.bytesLess]
  | [], _ :: _ => by simp [Op.bytesLess]
  | a :: x, b :: y => by
    rw [Op.bytesLess, less_eq x y]
    simp only [List.cons_lt_cons_iff]
    by_cases h1 : a < b <;> by_cases h2 : a = b <;> by_cases h3 : x < y <;> simp [h1, h2, h3]

theorem ltS_eq : ltS = ltStr := by
  funext x y
  exact less_eq x y
theorem ltS_swo : SWO ltS := by rw [ltS_eq]; exact swo_ltStr

theorem cellsS (x : List UInt8) : (AV.str x).cells.length = 1 := rfl

theorem nanS {x : List UInt8} : PureP (findFn tab) 115 [.str x] (· = .bool (decide False)) := by
  refine pureP_of rfl rfl ?_
  (conv => whnf); repeat' (first | ((with_reducible first | apply kN | apply kW | apply kX | apply kG | apply kQ); (· exact sd); conv => whnf) | (refine pcase.mk ?_ ?_ <;> intro hc <;> (try rw [List.length_nil] at hc) <;> first | (exfalso; omega) | (exact absurd rfl hc) | conv => whnf)  | (refine bcase_intro ?_ ?_ <;> intro hc <;> conv => whnf))
  all_goals first | exact absurd rfl hc | rfl

theorem lessS {x y : List UInt8} : PureP (findFn tab) 181 [.str x, .str y] (· = .bool (ltS x y)) := by
  refine pureP_of rfl rfl ?_
  (conv => whnf); repeat' (first | ((with_reducible first | apply kN | apply kW | apply kX | apply kG | apply kQ); (· exact sd); conv => whnf) | (refine pcase.mk ?_ ?_ <;> intro hc <;> (try rw [List.length_nil] at hc) <;> first | (exfalso; omega) | (exact absurd rfl hc) | conv => whnf) | (refine callB nanS (fun hc => absurd hc id) (fun _ => ?_); conv => whnf) | (refine bcase_intro ?_ ?_ <;> intro hc <;> conv => whnf))
  all_goals (unfold ltS; rw [hc]; rfl)

end AI
end Go.Proofs.YtdlkcancogpafaaGreatDoor
set_option linter.unusedVariables false
namespace Go.Proofs.YtdlkcancogpafaaGreatDoor
namespace AI
open Go.Sort

set_option maxHeartbeats 1000000 in
theorem psins {ob0 : Obj} {g c len : Nat} {nn cl : Bool} {d : Array (List UInt8)} {a b : Nat} (hl : d.size = len) (hb : b ≤ len) (hs : len < 2^61) (ha : a ≤ len) :
    Calls1 (findFn tab) 175 [.own 1 g 0 len, .int .i64 a, .int .i64 b] ⟨[ob0, .arr g 1 nn cl (vs .str d.toList)], c⟩ fun out s' => ∃ c', out = .ok (.tup []) ∧ s' = ⟨[ob0, .arr g 1 nn cl (vs .str (insertionSort ltS d a b).toList)], c'⟩ := by
  refine calls1_of rfl rfl ?_
  (conv => whnf); repeat' (first  | ((with_reducible first | apply kN | apply kW | apply kX | apply kG | apply kQ); (· exact sd); conv => whnf) | (refine pcase.mk ?_ ?_ <;> intro hc <;> (try rw [List.length_nil] at hc) <;> first | (exfalso; omega) | (exact absurd rfl hc) | conv => whnf) | (refine bcase_intro ?_ ?_ <;> intro hc <;> conv => whnf))
  refine loop_inv (fun m env s => ∃ (i c : Nat) (D : Array (List UInt8)), m = b - i ∧ insOuter ltS a b i D = insertionSort ltS d a b ∧ D.size = len ∧ env = [(0, .own 1 g 0 len), (1, .int .i64 a), (2, .int .i64 b), (6, .int .i64 i)] ∧ s = ⟨[ob0, .arr g 1 nn cl (vs .str D.toList)], c⟩) ?_ _ _ _ ⟨a + 1, c, d, rfl, rfl, hl, rfl, rfl⟩
  rintro _ _ _ ⟨i, c, D, rfl, hD, hDl, rfl, rfl⟩
  refine ⟨rfl, ?_⟩
  (conv => whnf); repeat' (first  | ((with_reducible first | apply kN | apply kW | apply kX | apply kG | apply kQ); (· exact sd); conv => whnf) | (refine pcase.mk ?_ ?_ <;> intro hc <;> (try rw [List.length_nil] at hc) <;> first | (exfalso; omega) | (exact absurd rfl hc) | conv => whnf) | (refine bcase_intro ?_ ?_ <;> intro hc <;> conv => whnf))
  · rw [ins_out (by omega)] at hD
    refine loop_inv (fun m env s => ∃ (j c : Nat) (z : Int) (E : Array (List UInt8)), m = j ∧ z = j ∧ j ≤ i ∧ insInner ltS a j E = insInner ltS a i D ∧ E.size = len ∧ env = [(0, .own 1 g 0 len), (1, .int .i64 a), (2, .int .i64 b), (6, .int .i64 i), (7, .int .i64 z)] ∧ s = ⟨[ob0, .arr g 1 nn cl (vs .str E.toList)], c⟩) ?_ _ _ _ ⟨i, _, _, D, rfl, rfl, by omega, rfl, hDl, rfl, rfl⟩
    rintro j _ _ ⟨_, c, z, E, rfl, hz, hj, hE, hEl, rfl, rfl⟩
    refine ⟨rfl, ?_⟩
    cases j with
    | zero =>
      (conv => whnf); repeat' (first  | ((with_reducible first | apply kN | apply kW | apply kX | apply kG | apply kQ); (· exact sd); conv => whnf) | (refine pcase.mk ?_ ?_ <;> intro hc <;> (try rw [List.length_nil] at hc) <;> first | (exfalso; omega) | (exact absurd rfl hc) | conv => whnf) | (refine bcase_intro ?_ ?_ <;> intro hc <;> conv => whnf))
      rw [← hE] at hD
      exact again.mk ⟨_, by omega, i + 1, _, E, rfl, hD, hEl, rfl, rfl⟩
    | succ j =>
      (conv => whnf); repeat' (first | ((with_reducible show nthK _ _ _); refine nPK (j + 1) ?_; conv => whnf) | ((with_reducible show nthK _ _ _); refine nPK (j) ?_; conv => whnf) | (refine callBb lessS (fun hc => ?_) (fun hc => ?_) <;> conv => whnf) | ((with_reducible show eqK _ _); refine tPK cellsS (j + 1) ?_; conv => whnf) | ((with_reducible show eqK _ _); refine tPK cellsS (j) ?_; conv => whnf) | ((with_reducible first | apply kN | apply kW | apply kX | apply kG | apply kQ); (· exact sd); conv => whnf) | (refine pcase.mk ?_ ?_ <;> intro hc <;> (try rw [List.length_nil] at hc) <;> first | (exfalso; omega) | (exact absurd rfl hc) | conv => whnf) | (refine bcase_intro ?_ ?_ <;> intro hc <;> conv => whnf))
      · rw [ins_step (by omega) hc] at hE
        exact again.mk ⟨_, by omega, j, _, _, swp E (j + 1) j, rfl, by omega, by omega, hE, by simpa using hEl, rfl, rfl⟩
      · rw [ins_stop (fun _ => hc)] at hE
        rw [← hE] at hD
        exact again.mk ⟨_, by omega, i + 1, _, E, rfl, hD, hEl, rfl, rfl⟩
      · rw [ins_stop (fun h => absurd h (by omega))] at hE
        rw [← hE] at hD
        exact again.mk ⟨_, by omega, i + 1, _, E, rfl, hD, hEl, rfl, rfl⟩
  · rw [ins_end (by omega)] at hD
    exact ⟨_, rfl, by rw [hD]⟩

set_option maxHeartbeats 1000000 in
theorem pssift {ob0 : Obj} {g c len : Nat} {nn cl : Bool} {d : Array (List UInt8)} {lo hi first : Nat} (hl : d.size = len) (hb : first + hi ≤ len) (hs : len < 2^61) (hlo : lo ≤ len) :
    Calls1 (findFn tab) 195 [.own 1 g 0 len, .int .i64 lo, .int .i64 hi, .int .i64 first] ⟨[ob0, .arr g 1 nn cl (vs .str d.toList)], c⟩ fun out s' => ∃ c', out = .ok (.tup []) ∧ s' = ⟨[ob0, .arr g 1 nn cl (vs .str (siftDown ltS hi first lo d).toList)], c'⟩ := by
  refine calls1_of rfl rfl ?_
  (conv => whnf); repeat' (first  | ((with_reducible first | apply kN | apply kW | apply kX | apply kG | apply kQ); (· exact sd); conv => whnf) | (refine pcase.mk ?_ ?_ <;> intro hc <;> (try rw [List.length_nil] at hc) <;> first | (exfalso; omega) | (exact absurd rfl hc) | conv => whnf) | (refine bcase_intro ?_ ?_ <;> intro hc <;> conv => whnf))
  refine loop_inv (fun m env s => ∃ (root c : Nat) (z : Int) (D : Array (List UInt8)), m = hi - root ∧ z = root ∧ root ≤ len ∧ siftDown ltS hi first root D = siftDown ltS hi first lo d ∧ D.size = len ∧ env = [(0, .own 1 g 0 len), (2, .int .i64 hi), (3, .int .i64 first), (8, .int .i64 z)] ∧ s = ⟨[ob0, .arr g 1 nn cl (vs .str D.toList)], c⟩) ?_ _ _ _ ⟨lo, c, _, d, rfl, rfl, hlo, rfl, hl, rfl, rfl⟩
  rintro _ _ _ ⟨root, c, z, D, rfl, hz, hr, hD, hDl, rfl, rfl⟩
  refine ⟨rfl, ?_⟩
  (conv => whnf); repeat' (first | ((with_reducible show nthK _ _ _); refine nPK (first + root) ?_; conv => whnf) | ((with_reducible show nthK _ _ _); refine nPK (first + (2 * root + 1)) ?_; conv => whnf) | ((with_reducible show nthK _ _ _); refine nPK (first + (2 * root + 1) + 1) ?_; conv => whnf) | (refine callBb lessS (fun hc => ?_) (fun hc => ?_) <;> conv => whnf) | ((with_reducible show eqK _ _); refine tPK cellsS (first + root) ?_; conv => whnf) | ((with_reducible show eqK _ _); refine tPK cellsS (first + (2 * root + 1)) ?_; conv => whnf) | ((with_reducible show eqK _ _); refine tPK cellsS (first + (2 * root + 1) + 1) ?_; conv => whnf) | ((with_reducible first | apply kN | apply kW | apply kX | apply kG | apply kQ); (· exact sd); conv => whnf) | (refine pcase.mk ?_ ?_ <;> intro hc <;> (try rw [List.length_nil] at hc) <;> first | (exfalso; omega) | (exact absurd rfl hc) | conv => whnf) | (refine bcase_intro ?_ ?_ <;> intro hc <;> conv => whnf))
  · rw [sift_end (by omega)] at hD
    exact ⟨_, rfl, by rw [hD]⟩
  all_goals first
    | (rw [sift_R (by omega) (by assumption) hc] at hD
       exact again.mk ⟨_, by omega, 2 * root + 2, _, _, swp D (first + root) (first + (2 * root + 2)), rfl, by omega, by omega, hD, by simpa using hDl, rfl, rfl⟩)
    | (rw [sift_R0 (by omega) (by assumption) hc] at hD
       exact ⟨_, rfl, by rw [hD]⟩)
    | (rw [sift_L (by omega) (fun _ => by assumption) hc] at hD
       exact again.mk ⟨_, by omega, 2 * root + 1, _, _, swp D (first + root) (first + (2 * root + 1)), rfl, by omega, by omega, hD, by simpa using hDl, rfl, rfl⟩)
    | (rw [sift_L0 (by omega) (fun _ => by assumption) hc] at hD
       exact ⟨_, rfl, by rw [hD]⟩)
    | (rw [sift_L (by omega) (fun h => absurd h (by omega)) hc] at hD
       exact again.mk ⟨_, by omega, 2 * root + 1, _, _, swp D (first + root) (first + (2 * root + 1)), rfl, by omega, by omega, hD, by simpa using hDl, rfl, rfl⟩)
    | (rw [sift_L0 (by omega) (fun h => absurd h (by omega)) hc] at hD
       exact ⟨_, rfl, by rw [hD]⟩)

set_option maxHeartbeats 1000000 in
theorem psheapP {ob0 : Obj} {g c len : Nat} {nn cl : Bool} {d : Array (List UInt8)} {a n : Nat} {z : Int} {Q : AExit → Env → Sto → Prop} (hl : d.size = len) (hb : a + n ≤ len) (hs : len < 2^61) (hz : z = (n : Int) - 1)
    (hQ : ∀ c' e, Q (.exit 2) e ⟨[ob0, .arr g 1 nn cl (vs .str (heapPop ltS a n d).toList)], c'⟩) :
    Run (findFn tab) (.loop l176_1_h l176_1_b) [(0, .own 1 g 0 len), (6, .int .i64 a), (7, .int .i64 0), (10, .int .i64 z)] ⟨[ob0, .arr g 1 nn cl (vs .str d.toList)], c⟩ Q := by
  refine loop_inv (fun m env s => ∃ (k c : Nat) (z : Int) (E : Array (List UInt8)), m = k ∧ z = (k : Int) - 1 ∧ a + k ≤ len ∧ heapPop ltS a k E = heapPop ltS a n d ∧ E.size = len ∧ env = [(0, .own 1 g 0 len), (6, .int .i64 a), (7, .int .i64 0), (10, .int .i64 z)] ∧ s = ⟨[ob0, .arr g 1 nn cl (vs .str E.toList)], c⟩) ?_ _ _ _ ⟨n, c, _, d, rfl, hz, by omega, rfl, hl, rfl, rfl⟩
  clear hz
  rintro k _ _ ⟨_, c, z, E, rfl, hz, hk, hE, hEl, rfl, rfl⟩
  refine ⟨rfl, ?_⟩
  cases k with
  | succ k =>
    obtain rfl : z = (k : Nat) := by omega
    (conv => whnf); repeat' (first | ((with_reducible show nthK _ _ _); refine nPK (a) ?_; conv => whnf) | ((with_reducible show nthK _ _ _); refine nPK (a + k) ?_; conv => whnf) | ((with_reducible show eqK _ _); refine tPK cellsS (a) ?_; conv => whnf) | ((with_reducible show eqK _ _); refine tPK cellsS (a + k) ?_; conv => whnf) | ((with_reducible first | apply kN | apply kW | apply kX | apply kG | apply kQ); (· exact sd); conv => whnf) | (refine pcase.mk ?_ ?_ <;> intro hc <;> (try rw [List.length_nil] at hc) <;> first | (exfalso; omega) | (exact absurd rfl hc) | conv => whnf) | (refine bcase_intro ?_ ?_ <;> intro hc <;> conv => whnf))
    refine (pssift (d := swp E a (a + k)) (lo := 0) (by simpa using hEl) (by omega) hs (by omega)).mono ?_
    rintro _ _ ⟨c', rfl, rfl⟩
    (conv => whnf); repeat' (first  | ((with_reducible first | apply kN | apply kW | apply kX | apply kG | apply kQ); (· exact sd); conv => whnf) | (refine pcase.mk ?_ ?_ <;> intro hc <;> (try rw [List.length_nil] at hc) <;> first | (exfalso; omega) | (exact absurd rfl hc) | conv => whnf) | (refine bcase_intro ?_ ?_ <;> intro hc <;> conv => whnf))
    rw [heapPop] at hE
    exact again.mk ⟨_, by omega, k, _, (k : Int) - 1, _, rfl, by omega, by omega, hE, by simpa using hEl, rfl, rfl⟩
  | zero =>
    rw [← hE] at hQ
    (conv => whnf); repeat' (first  | ((with_reducible first | apply kN | apply kW | apply kX | apply kG | apply kQ); (· exact sd); conv => whnf) | (refine pcase.mk ?_ ?_ <;> intro hc <;> (try rw [List.length_nil] at hc) <;> first | (exfalso; omega) | (exact absurd rfl hc) | conv => whnf) | (refine bcase_intro ?_ ?_ <;> intro hc <;> conv => whnf))
    exact hQ _ _

theorem psheap {ob0 : Obj} {g c len : Nat} {nn cl : Bool} {d : Array (List UInt8)} {a b : Nat} (hl : d.size = len) (hb : b ≤ len) (hs : len < 2^61) (hab : a < b) :
    Calls1 (findFn tab) 176 [.own 1 g 0 len, .int .i64 a, .int .i64 b] ⟨[ob0, .arr g 1 nn cl (vs .str d.toList)], c⟩ fun out s' => ∃ c', out = .ok (.tup []) ∧ s' = ⟨[ob0, .arr g 1 nn cl (vs .str (heapSort ltS d a b).toList)], c'⟩ := by
  refine calls1_of rfl rfl ?_
  (conv => whnf); repeat' (first | (refine wrapD (b - a - 1) 2 (by omega) (by omega) ?_; conv => whnf) | ((with_reducible first | apply kN | apply kW | apply kX | apply kG | apply kQ); (· exact sd); conv => whnf) | (refine pcase.mk ?_ ?_ <;> intro hc <;> (try rw [List.length_nil] at hc) <;> first | (exfalso; omega) | (exact absurd rfl hc) | conv => whnf) | (refine bcase_intro ?_ ?_ <;> intro hc <;> conv => whnf))
  refine loop_inv (fun m env s => ∃ (k c : Nat) (z : Int) (D : Array (List UInt8)), m = k ∧ z = k - 1 ∧ k ≤ len ∧ heapBuild ltS (b - a) a k D = heapBuild ltS (b - a) a ((b - a - 1) / 2 + 1) d ∧ D.size = len ∧ env = [(0, .own 1 g 0 len), (6, .int .i64 a), (7, .int .i64 0), (8, .int .i64 (b - a)), (9, .int .i64 z)] ∧ s = ⟨[ob0, .arr g 1 nn cl (vs .str D.toList)], c⟩) ?_ _ _ _ ⟨(b - a - 1) / 2 + 1, c, _, d, rfl, by omega, by omega, rfl, hl, rfl, rfl⟩
  rintro k _ _ ⟨_, c, z, D, rfl, hz, hk, hD, hDl, rfl, rfl⟩
  refine ⟨rfl, ?_⟩
  cases k with
  | succ k =>
    obtain rfl : z = (k : Nat) := by omega
    (conv => whnf); repeat' (first  | ((with_reducible first | apply kN | apply kW | apply kX | apply kG | apply kQ); (· exact sd); conv => whnf) | (refine pcase.mk ?_ ?_ <;> intro hc <;> (try rw [List.length_nil] at hc) <;> first | (exfalso; omega) | (exact absurd rfl hc) | conv => whnf) | (refine bcase_intro ?_ ?_ <;> intro hc <;> conv => whnf))
    rw [show ((b : Int) - a) = ((b - a : Nat) : Int) by omega]
    refine (pssift hDl (by omega) hs (by omega)).mono ?_
    rintro _ _ ⟨c', rfl, rfl⟩
    (conv => whnf); repeat' (first  | ((with_reducible first | apply kN | apply kW | apply kX | apply kG | apply kQ); (· exact sd); conv => whnf) | (refine pcase.mk ?_ ?_ <;> intro hc <;> (try rw [List.length_nil] at hc) <;> first | (exfalso; omega) | (exact absurd rfl hc) | conv => whnf) | (refine bcase_intro ?_ ?_ <;> intro hc <;> conv => whnf))
    rw [heapBuild] at hD
    exact again.mk ⟨_, by omega, k, _, (k : Int) - 1, _, rfl, by omega, by omega, hD, by simpa using hDl, rfl, rfl⟩
  | zero =>
    have hD : D = _ := hD
    (conv => whnf); repeat' (first  | ((with_reducible first | apply kN | apply kW | apply kX | apply kG | apply kQ); (· exact sd); conv => whnf) | (refine pcase.mk ?_ ?_ <;> intro hc <;> (try rw [List.length_nil] at hc) <;> first | (exfalso; omega) | (exact absurd rfl hc) | conv => whnf) | (refine bcase_intro ?_ ?_ <;> intro hc <;> conv => whnf))
    refine psheapP hDl (n := b - a) (by omega) hs (by omega) (fun c' e => ?_)
    (conv => whnf); repeat' (first  | ((with_reducible first | apply kN | apply kW | apply kX | apply kG | apply kQ); (· exact sd); conv => whnf) | (refine pcase.mk ?_ ?_ <;> intro hc <;> (try rw [List.length_nil] at hc) <;> first | (exfalso; omega) | (exact absurd rfl hc) | conv => whnf) | (refine bcase_intro ?_ ?_ <;> intro hc <;> conv => whnf))
    exact ⟨_, rfl, by rw [hD]; rfl⟩

end AI
end Go.Proofs.YtdlkcancogpafaaGreatDoor
