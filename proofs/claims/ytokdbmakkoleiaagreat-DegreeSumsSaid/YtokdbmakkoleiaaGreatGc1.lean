/- Labels and types of a graph: the program's and the reference's. -/
import Derived.Test.YtokdbmakkoleiaaGreatMQ
import Derived.Test.YtokdbmakkoleiaaGreatMV
import Derived.Test.YtokdbmakkoleiaaGreatMT
set_option linter.unusedVariables false
namespace Go.Proofs.YtokdbmakkoleiaaGreat
namespace AI
open Go.Sort

theorem ltS_tot (x y : List UInt8) (h1 : ltS x y = false) (h2 : ltS y x = false) : x = y := by
  rw [ltS_eq] at h1 h2
  simp only [ltStr, decide_eq_false_iff_not] at h1 h2
  exact List.le_antisymm (List.not_lt.1 h2) (List.not_lt.1 h1)

/-- strictly increasing -/
def Inc (l : List (List UInt8)) : Prop := l.Pairwise (fun x y => ltS x y = true)

theorem inc_unique {a b : List (List UInt8)} (ha : Inc a) (hb : Inc b) (h : ∀ x, x ∈ a ↔ x ∈ b) : a = b := strict_unique ltS_swo ha hb h

/-- what the program's sort and compact make -/
theorem inc_cpn {W : List (List UInt8)} (hs : W.Pairwise (fun x y => ltS y x = false)) : Inc (cpn W.toArray W.length) ∧ ∀ x, x ∈ cpn W.toArray W.length ↔ x ∈ W := by
  have h : SortedIn ltS 0 W.toArray.size W.toArray := by
    intro i j _ hij hj
    have hj' : j < W.length := by simpa using hj
    have := List.pairwise_iff_getElem.1 hs i j (by omega) hj' hij
    rw [getElem!_pos W.toArray j (by simpa using hj'), getElem!_pos W.toArray i (by simp; omega)]
    simpa using this
  refine ⟨cpn_lt ltS_swo ltS_tot h W.length (by simp), fun x => ?_⟩
  rw [mem_cpn W.length (by simp)]
  simp

def labelsOf (N : List GN) : List (List UInt8) := N.flatMap GN.labels
def typesOf (E : List GE) : List (List UInt8) := E.map GE.ty

theorem labelsOf_succ {N : List GN} {i : Nat} (h : i < N.length) : labelsOf (N.take (i + 1)) = labelsOf (N.take i) ++ (N[i]).labels := by
  rw [labelsOf, List.take_succ_eq_append_getElem h, List.flatMap_append]; simp [labelsOf]
theorem typesOf_succ {N : List GE} {i : Nat} (h : i < N.length) : typesOf (N.take (i + 1)) = typesOf (N.take i) ++ [(N[i]).ty] := by
  rw [typesOf, List.take_succ_eq_append_getElem h, List.map_append]; simp [typesOf]

theorem labelsP {g : GG} (hg : g.ok) (hN : g.nodes.length ≤ 2000) (hL : ∀ n ∈ g.nodes, n.labels.length ≤ 2000) : PureP (findFn tab) 22 [g.av] (fun v => ∃ nn R, v = .sl nn (vs .str R) ∧ Inc R ∧ ∀ x, x ∈ R ↔ x ∈ labelsOf g.nodes) := by
  refine pureP_of rfl rfl ?_
  (conv => whnf); repeat' (first  | ((with_reducible first | apply kN | apply kW | apply kX | apply kG | apply kQ); (· exact sd); conv => whnf) | (refine pcase.mk ?_ ?_ <;> intro hc <;> (try rw [List.length_nil] at hc) <;> first | (exfalso; omega) | (exact absurd rfl hc) | conv => whnf) | (refine bcase_intro ?_ ?_ <;> intro hc <;> conv => whnf))
  refine loop_inv (fun m env s => ∃ (i c n go : Nat) (nn : Bool) (L : List (List UInt8)), m = g.nodes.length - i ∧ i ≤ g.nodes.length ∧ L = labelsOf (g.nodes.take i) ∧ n = L.length ∧ n ≤ 2000 * i ∧ env = [(3, .own 1 go 0 n), (7, .sl g.nn (vs GN.av g.nodes)), (8, .int .i64 g.nodes.length), (9, .int .i64 i)] ∧ s = ⟨[.arr 0 4 true true [g.av], .arr go 1 nn true (vs .str L)], c⟩) ?_ _ _ _ ⟨0, _, 0, _, _, [], rfl, by omega, rfl, rfl, by omega, by rw [← lV (f := GN.av) g.nodes]; rfl, rfl⟩
  rintro _ _ _ ⟨i, c, n, go, nn, L, rfl, hin, hL0, hn, hni, rfl, rfl⟩
  refine ⟨rfl, ?_⟩
  have hat : ∀ h : i < g.nodes.length, (g.nodes[i]).labels.length ≤ 2000 := fun h => hL _ (List.getElem_mem _)
  (conv => whnf); repeat' (first | (refine apVm rfl cellsS hn (by have := hat (by omega); omega) (fun b => ?_); conv => whnf) | ((with_reducible first | apply kN | apply kW | apply kX | apply kG | apply kQ); (· exact sd); conv => whnf) | (refine pcase.mk ?_ ?_ <;> intro hc <;> (try rw [List.length_nil] at hc) <;> first | (exfalso; omega) | (exact absurd rfl hc) | conv => whnf) | (refine bcase_intro ?_ ?_ <;> intro hc <;> conv => whnf))
  · have := hat (by omega)
    exact again.mk ⟨_, by omega, i + 1, _, _, _, _, _, rfl, by omega, by rw [hL0, ← labelsOf_succ (by omega)], by simp, by omega, rfl, rfl⟩
  · rw [take_all hc] at hL0
    refine (pssort (L := L) hn.symm (by omega)).mono ?_
    rintro _ _ ⟨c1, W, rfl, rfl, h1, h2⟩
    obtain ⟨q1, q2⟩ := inc_cpn h2
    have hw := h1.length_eq
    conv => whnf
    apply getK_intro rfl
    (conv => whnf); repeat' (first  | ((with_reducible first | apply kN | apply kW | apply kX | apply kG | apply kQ); (· exact sd); conv => whnf) | (refine pcase.mk ?_ ?_ <;> intro hc <;> (try rw [List.length_nil] at hc) <;> first | (exfalso; omega) | (exact absurd rfl hc) | conv => whnf) | (refine bcase_intro ?_ ?_ <;> intro hc <;> conv => whnf))
    refine (pscpt (d := W.toArray) (by simp; omega) (by omega)).mono ?_
    rintro _ _ ⟨c2, T, rfl, rfl⟩
    rw [show n = W.length by omega]
    conv => whnf
    apply getK_intro rfl
    (conv => whnf); repeat' (first  | ((with_reducible first | apply kN | apply kW | apply kX | apply kG | apply kQ); (· exact sd); conv => whnf) | (refine pcase.mk ?_ ?_ <;> intro hc <;> (try rw [List.length_nil] at hc) <;> first | (exfalso; omega) | (exact absurd rfl hc) | conv => whnf) | (refine bcase_intro ?_ ?_ <;> intro hc <;> conv => whnf))
    refine ⟨nn, _, by rw [sub_vs]; simp, q1, fun x => ?_⟩
    rw [q2, h1.mem_iff, hL0]

theorem typesP {g : GG} (hg : g.ok) (hN : g.edges.length ≤ 4000) : PureP (findFn tab) 24 [g.av] (fun v => ∃ nn R, v = .sl nn (vs .str R) ∧ Inc R ∧ ∀ x, x ∈ R ↔ x ∈ typesOf g.edges) := by
  refine pureP_of rfl rfl ?_
  (conv => whnf); repeat' (first  | ((with_reducible first | apply kN | apply kW | apply kX | apply kG | apply kQ); (· exact sd); conv => whnf) | (refine pcase.mk ?_ ?_ <;> intro hc <;> (try rw [List.length_nil] at hc) <;> first | (exfalso; omega) | (exact absurd rfl hc) | conv => whnf) | (refine bcase_intro ?_ ?_ <;> intro hc <;> conv => whnf))
  refine loop_inv (fun m env s => ∃ (i c n go : Nat) (nn : Bool) (L : List (List UInt8)), m = g.edges.length - i ∧ i ≤ g.edges.length ∧ L = typesOf (g.edges.take i) ∧ n = L.length ∧ n ≤ i ∧ env = [(3, .own 1 go 0 n), (7, .sl g.en (vs GE.av g.edges)), (8, .int .i64 g.edges.length), (9, .int .i64 i)] ∧ s = ⟨[.arr 0 4 true true [g.av], .arr go 1 nn true (vs .str L)], c⟩) ?_ _ _ _ ⟨0, _, 0, _, _, [], rfl, by omega, rfl, rfl, by omega, by rw [← lV (f := GE.av) g.edges]; rfl, rfl⟩
  rintro _ _ _ ⟨i, c, n, go, nn, L, rfl, hin, hL0, hn, hni, rfl, rfl⟩
  refine ⟨rfl, ?_⟩
  (conv => whnf); repeat' (first | (refine apV1 (x := (g.edges[i]).ty) cellsS hn (by omega) ?_; conv => whnf) | ((with_reducible first | apply kN | apply kW | apply kX | apply kG | apply kQ); (· exact sd); conv => whnf) | (refine pcase.mk ?_ ?_ <;> intro hc <;> (try rw [List.length_nil] at hc) <;> first | (exfalso; omega) | (exact absurd rfl hc) | conv => whnf) | (refine bcase_intro ?_ ?_ <;> intro hc <;> conv => whnf))
  · exact again.mk ⟨_, by omega, i + 1, _, _, _, _, _, rfl, by omega, by rw [hL0, ← typesOf_succ (by omega)], by simp, by omega, rfl, rfl⟩
  · rw [take_all hc] at hL0
    refine (pssort (L := L) hn.symm (by omega)).mono ?_
    rintro _ _ ⟨c1, W, rfl, rfl, h1, h2⟩
    obtain ⟨q1, q2⟩ := inc_cpn h2
    have hw := h1.length_eq
    conv => whnf
    apply getK_intro rfl
    (conv => whnf); repeat' (first  | ((with_reducible first | apply kN | apply kW | apply kX | apply kG | apply kQ); (· exact sd); conv => whnf) | (refine pcase.mk ?_ ?_ <;> intro hc <;> (try rw [List.length_nil] at hc) <;> first | (exfalso; omega) | (exact absurd rfl hc) | conv => whnf) | (refine bcase_intro ?_ ?_ <;> intro hc <;> conv => whnf))
    refine (pscpt (d := W.toArray) (by simp; omega) (by omega)).mono ?_
    rintro _ _ ⟨c2, T, rfl, rfl⟩
    rw [show n = W.length by omega]
    conv => whnf
    apply getK_intro rfl
    (conv => whnf); repeat' (first  | ((with_reducible first | apply kN | apply kW | apply kX | apply kG | apply kQ); (· exact sd); conv => whnf) | (refine pcase.mk ?_ ?_ <;> intro hc <;> (try rw [List.length_nil] at hc) <;> first | (exfalso; omega) | (exact absurd rfl hc) | conv => whnf) | (refine bcase_intro ?_ ?_ <;> intro hc <;> conv => whnf))
    refine ⟨nn, _, by rw [sub_vs]; simp, q1, fun x => ?_⟩
    rw [q2, h1.mem_iff, hL0]

/-! ### the reference -/
theorem rest_ge {l : List (List UInt8)} (hi : Inc l) {i : Nat} (h : i < l.length) {x : List UInt8} (h1 : ltS l[i] x = false) : ∀ y ∈ l.drop i, ltS y x = false := by
  intro y hy
  obtain ⟨j, hj, rfl⟩ := List.getElem_of_mem hy
  rw [List.getElem_drop]
  rcases Nat.eq_zero_or_pos j with rfl | h0
  · exact h1
  · have hij : i + j < l.length := by simp at hj; omega
    have := List.pairwise_iff_getElem.1 hi i (i + j) h hij (by omega)
    cases hc : ltS l[i + j] x with
    | false => rfl
    | true => rw [ltS_swo.trans _ _ _ this hc] at h1; cases h1

theorem rest_gt {l : List (List UInt8)} (hi : Inc l) {i : Nat} (h : i < l.length) {x : List UInt8} (h1 : ltS l[i] x = false) (hne : ¬ l[i] = x) : ∀ y ∈ l.drop i, ltS x y = true := by
  intro y hy
  cases hc : ltS x y with
  | true => rfl
  | false =>
    exfalso
    have e := ltS_tot _ _ hc (rest_ge hi h h1 y hy)
    subst e
    obtain ⟨j, hj, e⟩ := List.getElem_of_mem hy
    rw [List.getElem_drop] at e
    rcases Nat.eq_zero_or_pos j with rfl | h0
    · exact hne e
    · have hij : i + j < l.length := by simp at hj; omega
      have := List.pairwise_iff_getElem.1 hi i (i + j) h hij (by omega)
      rw [e, h1] at this; cases this

theorem inc_put {l : List (List UInt8)} {x : List UInt8} {i : Nat} (hi : Inc l) (h1 : ∀ y ∈ l.take i, ltS y x = true) (h2 : ∀ y ∈ l.drop i, ltS x y = true) : Inc (l.take i ++ x :: l.drop i) := by
  refine List.pairwise_append.2 ⟨List.Pairwise.sublist (List.take_sublist _ _) hi, List.pairwise_cons.2 ⟨h2, List.Pairwise.sublist (List.drop_sublist _ _) hi⟩, fun a ha b hb => ?_⟩
  rcases List.mem_cons.1 hb with rfl | hb
  · exact h1 a ha
  · exact ltS_swo.trans _ _ _ (h1 a ha) (h2 b hb)

theorem mem_put {l : List (List UInt8)} {x y : List UInt8} {i : Nat} : y ∈ l.take i ++ x :: l.drop i ↔ y = x ∨ y ∈ l := by
  conv => rhs; rw [← List.take_append_drop i l]
  simp only [List.mem_append, List.mem_cons]
  constructor
  · rintro (h | h | h)
    · exact Or.inr (Or.inl h)
    · exact Or.inl h
    · exact Or.inr (Or.inr h)
  · rintro (h | h | h)
    · exact Or.inr (Or.inl h)
    · exact Or.inl h
    · exact Or.inr (Or.inr h)

theorem putS {l : List (List UInt8)} {x : List UInt8} {nn : Bool} (hi : Inc l) (hl : l.length ≤ 5000000) : PureP (findFn tab) 48 [.sl nn (vs .str l), .str x] (fun v => ∃ nn' R, v = .sl nn' (vs .str R) ∧ Inc R ∧ R.length ≤ l.length + 1 ∧ ∀ y, y ∈ R ↔ y = x ∨ y ∈ l) := by
  refine pureP_of rfl rfl ?_
  (conv => whnf); repeat' (first  | ((with_reducible first | apply kN | apply kW | apply kX | apply kG | apply kQ); (· exact sd); conv => whnf) | (refine pcase.mk ?_ ?_ <;> intro hc <;> (try rw [List.length_nil] at hc) <;> first | (exfalso; omega) | (exact absurd rfl hc) | conv => whnf) | (refine bcase_intro ?_ ?_ <;> intro hc <;> conv => whnf))
  refine loop_inv (fun m env s => ∃ (i : Nat) (c : Nat), m = l.length - i ∧ i ≤ l.length ∧ (∀ y ∈ l.take i, ltS y x = true) ∧ env = [(0, .sl nn (vs .str l)), (1, .str x), (5, .own 0 0 0 0), (6, .int .i64 i)] ∧ s = ⟨[.arr 0 1 false true (vs AV.str ([] : List (List UInt8)))], c⟩) ?_ _ _ _ ⟨0, _, rfl, by omega, by simp, rfl, rfl⟩
  rintro _ _ _ ⟨i, c, rfl, hil, hx, rfl, rfl⟩
  refine ⟨rfl, ?_⟩
  have e0 : (l.drop 0).take (Int.toNat (i : Int) - 0) = l.take i := by simp
  have e1 : ∀ n, n + i = l.length → (l.drop (Int.toNat (i : Int))).take n = l.drop i := fun n hn => by
    rw [Int.toNat_natCast]; exact List.take_of_length_le (by simp; omega)
  have hpre : Inc (l.take i) := List.Pairwise.sublist (List.take_sublist _ _) hi
  have hsuf : Inc (l.drop i) := List.Pairwise.sublist (List.drop_sublist _ _) hi
  have htd := List.take_append_drop i l
  have htl : (l.take i).length = i := by simp; omega
  have hdl : (l.drop i).length + i = l.length := by simp; omega
  by_cases hlt : i < l.length
  · have hd : l.drop i = l[i] :: l.drop (i + 1) := List.drop_eq_getElem_cons hlt
    (conv => whnf); repeat' (first | ((with_reducible show need _ _); refine need.mk ⟨by (try rw [lV]); omega, by (try rw [lV]); omega⟩ ?_; conv => whnf) | ((with_reducible show need _ _); refine need.mk (allSize_vs cellsS _) ?_; conv => whnf) | ((with_reducible show eqK _ _); apply eqK_intro; (· exact sub_vs _ _ _); conv => whnf) | (refine apVm (l' := l.take i) (by rw [e0]) cellsS rfl (by simp only [List.length_nil]; omega) (fun b => ?_); conv => whnf) | (refine apV1 (x := x) cellsS (by simp) (by simp only [List.length_append, List.length_nil, htl]; omega) ?_; conv => whnf) | (refine apVm (l' := l.drop i) (by rw [e1 _ (by rw [lV]; omega)]) cellsS (by simp) (by simp only [List.length_append, List.length_nil, List.length_cons, htl]; omega) (fun b => ?_); conv => whnf) | ((with_reducible first | apply kN | apply kW | apply kX | apply kG | apply kQ); (· exact sd); conv => whnf) | (refine pcase.mk ?_ ?_ <;> intro hc <;> (try rw [List.length_nil] at hc) <;> first | (exfalso; omega) | (exact absurd rfl hc) | conv => whnf) | (refine bcase_intro ?_ ?_ <;> intro hc <;> conv => whnf))
    · exact again.mk ⟨_, by omega, i + 1, _, rfl, by omega, all_take_succ hlt hx hc, rfl, rfl⟩
    · refine ⟨b, l, ?_, hi, by omega, fun y => ⟨Or.inr, fun h => h.elim (fun e => ?_) id⟩⟩
      · rw [List.drop_zero, List.nil_append, htd, List.take_of_length_le (by simp; omega)]
      · rw [e, ← hc]; exact List.getElem_mem hlt
    · refine ⟨b, l.take i ++ x :: l.drop i, ?_, inc_put hi hx (rest_gt hi hlt (by assumption) hc), ?_, fun y => mem_put⟩
      · rw [List.drop_zero, List.nil_append, List.append_assoc, List.cons_append, List.nil_append, List.take_of_length_le (by simp; omega)]
      · simp only [List.length_append, List.length_cons]; omega
  · have hil : i = l.length := by omega
    have hd : l.drop i = [] := List.drop_eq_nil_of_le (by omega)
    (conv => whnf); repeat' (first | ((with_reducible show need _ _); refine need.mk ⟨by (try rw [lV]); omega, by (try rw [lV]); omega⟩ ?_; conv => whnf) | ((with_reducible show need _ _); refine need.mk (allSize_vs cellsS _) ?_; conv => whnf) | ((with_reducible show eqK _ _); apply eqK_intro; (· exact sub_vs _ _ _); conv => whnf) | (refine apVm (l' := l.take i) (by rw [e0]) cellsS rfl (by simp only [List.length_nil]; omega) (fun b => ?_); conv => whnf) | (refine apV1 (x := x) cellsS (by simp) (by simp only [List.length_append, List.length_nil, htl]; omega) ?_; conv => whnf) | (refine apVm (l' := l.drop i) (by rw [e1 _ (by rw [lV]; omega)]) cellsS (by simp) (by simp only [List.length_append, List.length_nil, List.length_cons, htl]; omega) (fun b => ?_); conv => whnf) | ((with_reducible first | apply kN | apply kW | apply kX | apply kG | apply kQ); (· exact sd); conv => whnf) | (refine pcase.mk ?_ ?_ <;> intro hc <;> (try rw [List.length_nil] at hc) <;> first | (exfalso; omega) | (exact absurd rfl hc) | conv => whnf) | (refine bcase_intro ?_ ?_ <;> intro hc <;> conv => whnf))
    refine ⟨b, l.take i ++ x :: l.drop i, ?_, inc_put hi hx (by rw [hd]; simp), ?_, fun y => mem_put⟩
    · rw [List.drop_zero, List.nil_append, List.append_assoc, List.cons_append, List.nil_append, List.take_of_length_le (by simp; omega)]
    · simp only [List.length_append, List.length_cons]; omega

theorem typesR {g : GG} (hg : g.ok) (hN : g.edges.length ≤ 4000) : PureP (findFn tab) 28 [g.av] (fun v => ∃ nn R, v = .sl nn (vs .str R) ∧ Inc R ∧ (∀ x, x ∈ R ↔ x ∈ typesOf g.edges) ∧ R.length ≤ 4000000) := by
  refine pureP_of rfl rfl ?_
  (conv => whnf); repeat' (first  | ((with_reducible first | apply kN | apply kW | apply kX | apply kG | apply kQ); (· exact sd); conv => whnf) | (refine pcase.mk ?_ ?_ <;> intro hc <;> (try rw [List.length_nil] at hc) <;> first | (exfalso; omega) | (exact absurd rfl hc) | conv => whnf) | (refine bcase_intro ?_ ?_ <;> intro hc <;> conv => whnf))
  refine loop_inv (fun m env s => ∃ (i : Nat) (nn : Bool) (L : List (List UInt8)), m = g.edges.length - i ∧ i ≤ g.edges.length ∧ Inc L ∧ L.length ≤ i ∧ (∀ x, x ∈ L ↔ x ∈ typesOf (g.edges.take i)) ∧ env = [(1, .ref 0 0 0 0), (3, .sl nn (vs .str L)), (4, .int .i64 i)] ∧ s = ⟨[.arr 0 4 true true [g.av]], 1⟩) ?_ _ _ _ ⟨0, false, [], rfl, by omega, List.Pairwise.nil, by simp, by simp [typesOf], rfl, rfl⟩
  rintro _ _ _ ⟨i, nn, L, rfl, hin, hI, hLi, hm, rfl, rfl⟩
  refine ⟨rfl, ?_⟩
  (conv => whnf); repeat' (first | (refine callK_of (putS (l := L) (x := (g.edges[i]).ty) hI (by omega)) ?_; rintro _ ⟨n2, R, rfl, r1, r2, r3⟩; conv => whnf) | ((with_reducible first | apply kN | apply kW | apply kX | apply kG | apply kQ); (· exact sd); conv => whnf) | (refine pcase.mk ?_ ?_ <;> intro hc <;> (try rw [List.length_nil] at hc) <;> first | (exfalso; omega) | (exact absurd rfl hc) | conv => whnf) | (refine bcase_intro ?_ ?_ <;> intro hc <;> conv => whnf))
  · refine again.mk ⟨_, by omega, i + 1, _, R, rfl, by omega, r1, by omega, fun x => ?_, rfl, rfl⟩
    rw [r3, hm, typesOf_succ (by omega), List.mem_append, List.mem_singleton, or_comm]
  · rw [take_all hc] at hm
    exact ⟨nn, L, rfl, hI, hm, by omega⟩

theorem labelsR {g : GG} (hg : g.ok) (hN : g.nodes.length ≤ 2000) (hL : ∀ n ∈ g.nodes, n.labels.length ≤ 2000) : PureP (findFn tab) 26 [g.av] (fun v => ∃ nn R, v = .sl nn (vs .str R) ∧ Inc R ∧ (∀ x, x ∈ R ↔ x ∈ labelsOf g.nodes) ∧ R.length ≤ 4000000) := by
  refine pureP_of rfl rfl ?_
  (conv => whnf); repeat' (first  | ((with_reducible first | apply kN | apply kW | apply kX | apply kG | apply kQ); (· exact sd); conv => whnf) | (refine pcase.mk ?_ ?_ <;> intro hc <;> (try rw [List.length_nil] at hc) <;> first | (exfalso; omega) | (exact absurd rfl hc) | conv => whnf) | (refine bcase_intro ?_ ?_ <;> intro hc <;> conv => whnf))
  refine loop_inv (fun m env s => ∃ (i : Nat) (nn : Bool) (L : List (List UInt8)), m = g.nodes.length - i ∧ i ≤ g.nodes.length ∧ Inc L ∧ L.length ≤ 2000 * i ∧ (∀ x, x ∈ L ↔ x ∈ labelsOf (g.nodes.take i)) ∧ env = [(1, .ref 0 0 0 0), (3, .sl nn (vs .str L)), (4, .int .i64 i)] ∧ s = ⟨[.arr 0 4 true true [g.av]], 1⟩) ?_ _ _ _ ⟨0, false, [], rfl, by omega, List.Pairwise.nil, by simp, by simp [labelsOf], rfl, rfl⟩
  rintro _ _ _ ⟨i, nn, L, rfl, hin, hI, hLi, hm, rfl, rfl⟩
  refine ⟨rfl, ?_⟩
  by_cases hi : i < g.nodes.length
  · have hat := hL _ (List.getElem_mem hi)
    (conv => whnf); repeat' (first  | ((with_reducible first | apply kN | apply kW | apply kX | apply kG | apply kQ); (· exact sd); conv => whnf) | (refine pcase.mk ?_ ?_ <;> intro hc <;> (try rw [List.length_nil] at hc) <;> first | (exfalso; omega) | (exact absurd rfl hc) | conv => whnf) | (refine bcase_intro ?_ ?_ <;> intro hc <;> conv => whnf))
    refine loop_inv (fun m env s => ∃ (j : Nat) (nn : Bool) (R : List (List UInt8)), m = (g.nodes[i]).labels.length - j ∧ j ≤ (g.nodes[i]).labels.length ∧ Inc R ∧ R.length ≤ 2000 * i + j ∧ (∀ x, x ∈ R ↔ x ∈ L ∨ x ∈ (g.nodes[i]).labels.take j) ∧ env = [(1, .ref 0 0 0 0), (3, .sl nn (vs .str R)), (4, .int .i64 i), (5, .int .i64 j)] ∧ s = ⟨[.arr 0 4 true true [g.av]], 1⟩) ?_ _ _ _ ⟨0, nn, L, rfl, by omega, hI, by omega, by simp, rfl, rfl⟩
    rintro _ _ _ ⟨j, nn2, R, rfl, hjn, hR, hRj, hm2, rfl, rfl⟩
    refine ⟨rfl, ?_⟩
    by_cases hj : j < (g.nodes[i]).labels.length
    · (conv => whnf); repeat' (first | (refine callK_of (putS (l := R) (x := (g.nodes[i]).labels[j]) hR (by omega)) ?_; rintro _ ⟨n2, R2, rfl, r1, r2, r3⟩; conv => whnf) | ((with_reducible first | apply kN | apply kW | apply kX | apply kG | apply kQ); (· exact sd); conv => whnf) | (refine pcase.mk ?_ ?_ <;> intro hc <;> (try rw [List.length_nil] at hc) <;> first | (exfalso; omega) | (exact absurd rfl hc) | conv => whnf) | (refine bcase_intro ?_ ?_ <;> intro hc <;> conv => whnf))
      refine again.mk ⟨_, by omega, j + 1, _, R2, rfl, by omega, r1, by omega, fun x => ?_, rfl, rfl⟩
      rw [r3, hm2, List.take_succ_eq_append_getElem hj, List.mem_append, List.mem_singleton]
      constructor
      · rintro (h | h | h)
        · exact Or.inr (Or.inr h)
        · exact Or.inl h
        · exact Or.inr (Or.inl h)
      · rintro (h | h | h)
        · exact Or.inr (Or.inl h)
        · exact Or.inr (Or.inr h)
        · exact Or.inl h
    · (conv => whnf); repeat' (first  | ((with_reducible first | apply kN | apply kW | apply kX | apply kG | apply kQ); (· exact sd); conv => whnf) | (refine pcase.mk ?_ ?_ <;> intro hc <;> (try rw [List.length_nil] at hc) <;> first | (exfalso; omega) | (exact absurd rfl hc) | conv => whnf) | (refine bcase_intro ?_ ?_ <;> intro hc <;> conv => whnf))
      rw [List.take_of_length_le (by omega)] at hm2
      refine again.mk ⟨_, by omega, i + 1, _, R, rfl, by omega, hR, by omega, fun x => ?_, rfl, rfl⟩
      rw [hm2, hm, labelsOf_succ hi, List.mem_append]
  · rw [List.take_of_length_le (by omega)] at hm
    (conv => whnf); repeat' (first  | ((with_reducible first | apply kN | apply kW | apply kX | apply kG | apply kQ); (· exact sd); conv => whnf) | (refine pcase.mk ?_ ?_ <;> intro hc <;> (try rw [List.length_nil] at hc) <;> first | (exfalso; omega) | (exact absurd rfl hc) | conv => whnf) | (refine bcase_intro ?_ ?_ <;> intro hc <;> conv => whnf))
    exact ⟨nn, L, rfl, hI, hm, by omega⟩

end AI
end Go.Proofs.YtokdbmakkoleiaaGreat
