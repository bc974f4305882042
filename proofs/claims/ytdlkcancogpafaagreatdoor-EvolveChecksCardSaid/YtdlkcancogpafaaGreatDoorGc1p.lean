/- The program's labels and types of a graph. -/
import Derived.Test.YtdlkcancogpafaaGreatDoorMQ
import Derived.Test.YtdlkcancogpafaaGreatDoorMV
import Derived.Test.YtdlkcancogpafaaGreatDoorMT
set_option linter.unusedVariables false
set_option maxRecDepth 4000
namespace Go.Proofs.YtdlkcancogpafaaGreatDoor
namespace AI
open Go.Sort
theorem ltS_tot (x y : List UInt8) (h1 : ltS x y = false) (h2 : ltS y x = false) : x = y := by
  rw [ltS_eq] at h1 h2
  simp only [ltStr, decide_eq_false_iff_not] at h1 h2
  exact List.le_antisymm (List.not_lt.1 h2) (List.not_lt.1 h1)

/-- strictly increasing -/
def Inc (l : List (List UInt8)) : Prop := l.Pairwise (fun x y => ltS x y = true)

theorem inc_unique {a b : List (List UInt8)} (ha : Inc a) (hb : Inc b) (h : ∀ x, x ∈ a ↔ x ∈ b) : a = b := strict_unique ltS_swo ha hb h

/-- what the program's sort and compact make -/
theorem inc_cpn {W : List (List UInt8)} (hs : W.Pairwise (fun x y => ltS y x = false)) : Inc (cpn W.toArray W.length) ∧ ∀ x, x ∈ cpn W.toArray W.length ↔ x ∈ W := by
  have h : SortedIn ltS 0 W.toArray.size W.toArray := by
    intro i j _ hij hj
    have hj' : j < W.length := by simpa using hj
    have := List.pairwise_iff_getElem.1 hs i j (by omega) hj' hij
    rw [getElem!_pos W.toArray j (by simpa using hj'), getElem!_pos W.toArray i (by simp; omega)]
    simpa using this
  refine ⟨cpn_lt ltS_swo ltS_tot h W.length (by simp), fun x => ?_⟩
  rw [mem_cpn W.length (by simp)]
  simp

def labelsOf (N : List GN) : List (List UInt8) := N.flatMap GN.labels
def typesOf (E : List GE) : List (List UInt8) := E.map GE.ty

theorem labelsOf_succ {N : List GN} {i : Nat} (h : i < N.length) : labelsOf (N.take (i + 1)) = labelsOf (N.take i) ++ (N[i]).labels := by
  rw [labelsOf, List.take_succ_eq_append_getElem h, List.flatMap_append]; simp [labelsOf]
theorem typesOf_succ {N : List GE} {i : Nat} (h : i < N.length) : typesOf (N.take (i + 1)) = typesOf (N.take i) ++ [(N[i]).ty] := by
  rw [typesOf, List.take_succ_eq_append_getElem h, List.map_append]; simp [typesOf]

theorem labelsP {g : GG} (hg : g.ok) (hN : g.nodes.length ≤ 2000) (hL : ∀ n ∈ g.nodes, n.labels.length ≤ 2000) : PureP (findFn tab) 76 [g.av] (fun v => ∃ nn R, v = .sl nn (vs .str R) ∧ Inc R ∧ ∀ x, x ∈ R ↔ x ∈ labelsOf g.nodes) := by
  refine pureP_of rfl rfl ?_
  (conv => whnf); repeat' (first  | ((with_reducible first | apply kN | apply kW | apply kX | apply kG | apply kQ); (· exact sd); conv => whnf) | (refine pcase.mk ?_ ?_ <;> intro hc <;> (try rw [List.length_nil] at hc) <;> first | (exfalso; omega) | (exact absurd rfl hc) | conv => whnf) | (refine bcase_intro ?_ ?_ <;> intro hc <;> conv => whnf))
  refine loop_inv (fun m env s => ∃ (i c n go : Nat) (nn : Bool) (L : List (List UInt8)), m = g.nodes.length - i ∧ i ≤ g.nodes.length ∧ L = labelsOf (g.nodes.take i) ∧ n = L.length ∧ n ≤ 2000 * i ∧ env = [(3, .own 1 go 0 n), (7, .sl g.nn (vs GN.av g.nodes)), (8, .int .i64 g.nodes.length), (9, .int .i64 i)] ∧ s = ⟨[.arr 0 4 true true [g.av], .arr go 1 nn true (vs .str L)], c⟩) ?_ _ _ _ ⟨0, _, 0, _, _, [], rfl, by omega, rfl, rfl, by omega, by rw [← lV (f := GN.av) g.nodes]; rfl, rfl⟩
  rintro _ _ _ ⟨i, c, n, go, nn, L, rfl, hin, hL0, hn, hni, rfl, rfl⟩
  refine ⟨rfl, ?_⟩
  have hat : ∀ h : i < g.nodes.length, (g.nodes[i]).labels.length ≤ 2000 := fun h => hL _ (List.getElem_mem _)
  (conv => whnf); repeat' (first | (refine apVm rfl cellsS hn (by have := hat (by omega); omega) (fun b => ?_); conv => whnf) | ((with_reducible first | apply kN | apply kW | apply kX | apply kG | apply kQ); (· exact sd); conv => whnf) | (refine pcase.mk ?_ ?_ <;> intro hc <;> (try rw [List.length_nil] at hc) <;> first | (exfalso; omega) | (exact absurd rfl hc) | conv => whnf) | (refine bcase_intro ?_ ?_ <;> intro hc <;> conv => whnf))
  · have := hat (by omega)
    exact again.mk ⟨_, by omega, i + 1, _, _, _, _, _, rfl, by omega, by rw [hL0, ← labelsOf_succ (by omega)], by simp, by omega, rfl, rfl⟩
  · rw [take_all hc] at hL0
    refine (pssort (L := L) hn.symm (by omega)).mono ?_
    rintro _ _ ⟨c1, W, rfl, rfl, h1, h2⟩
    obtain ⟨q1, q2⟩ := inc_cpn h2
    have hw := h1.length_eq
    conv => whnf
    apply getK_intro rfl
    (conv => whnf); repeat' (first  | ((with_reducible first | apply kN | apply kW | apply kX | apply kG | apply kQ); (· exact sd); conv => whnf) | (refine pcase.mk ?_ ?_ <;> intro hc <;> (try rw [List.length_nil] at hc) <;> first | (exfalso; omega) | (exact absurd rfl hc) | conv => whnf) | (refine bcase_intro ?_ ?_ <;> intro hc <;> conv => whnf))
    refine (pscpt (d := W.toArray) (by simp; omega) (by omega)).mono ?_
    rintro _ _ ⟨c2, T, rfl, rfl⟩
    rw [show n = W.length by omega]
    conv => whnf
    apply getK_intro rfl
    (conv => whnf); repeat' (first  | ((with_reducible first | apply kN | apply kW | apply kX | apply kG | apply kQ); (· exact sd); conv => whnf) | (refine pcase.mk ?_ ?_ <;> intro hc <;> (try rw [List.length_nil] at hc) <;> first | (exfalso; omega) | (exact absurd rfl hc) | conv => whnf) | (refine bcase_intro ?_ ?_ <;> intro hc <;> conv => whnf))
    refine ⟨nn, _, by rw [sub_vs]; simp, q1, fun x => ?_⟩
    rw [q2, h1.mem_iff, hL0]

theorem typesP {g : GG} (hg : g.ok) (hN : g.edges.length ≤ 4000) : PureP (findFn tab) 77 [g.av] (fun v => ∃ nn R, v = .sl nn (vs .str R) ∧ Inc R ∧ ∀ x, x ∈ R ↔ x ∈ typesOf g.edges) := by
  refine pureP_of rfl rfl ?_
  (conv => whnf); repeat' (first  | ((with_reducible first | apply kN | apply kW | apply kX | apply kG | apply kQ); (· exact sd); conv => whnf) | (refine pcase.mk ?_ ?_ <;> intro hc <;> (try rw [List.length_nil] at hc) <;> first | (exfalso; omega) | (exact absurd rfl hc) | conv => whnf) | (refine bcase_intro ?_ ?_ <;> intro hc <;> conv => whnf))
  refine loop_inv (fun m env s => ∃ (i c n go : Nat) (nn : Bool) (L : List (List UInt8)), m = g.edges.length - i ∧ i ≤ g.edges.length ∧ L = typesOf (g.edges.take i) ∧ n = L.length ∧ n ≤ i ∧ env = [(3, .own 1 go 0 n), (7, .sl g.en (vs GE.av g.edges)), (8, .int .i64 g.edges.length), (9, .int .i64 i)] ∧ s = ⟨[.arr 0 4 true true [g.av], .arr go 1 nn true (vs .str L)], c⟩) ?_ _ _ _ ⟨0, _, 0, _, _, [], rfl, by omega, rfl, rfl, by omega, by rw [← lV (f := GE.av) g.edges]; rfl, rfl⟩
  rintro _ _ _ ⟨i, c, n, go, nn, L, rfl, hin, hL0, hn, hni, rfl, rfl⟩
  refine ⟨rfl, ?_⟩
  (conv => whnf); repeat' (first | (refine apV1 (x := (g.edges[i]).ty) cellsS hn (by omega) ?_; conv => whnf) | ((with_reducible first | apply kN | apply kW | apply kX | apply kG | apply kQ); (· exact sd); conv => whnf) | (refine pcase.mk ?_ ?_ <;> intro hc <;> (try rw [List.length_nil] at hc) <;> first | (exfalso; omega) | (exact absurd rfl hc) | conv => whnf) | (refine bcase_intro ?_ ?_ <;> intro hc <;> conv => whnf))
  · exact again.mk ⟨_, by omega, i + 1, _, _, _, _, _, rfl, by omega, by rw [hL0, ← typesOf_succ (by omega)], by simp, by omega, rfl, rfl⟩
  · rw [take_all hc] at hL0
    refine (pssort (L := L) hn.symm (by omega)).mono ?_
    rintro _ _ ⟨c1, W, rfl, rfl, h1, h2⟩
    obtain ⟨q1, q2⟩ := inc_cpn h2
    have hw := h1.length_eq
    conv => whnf
    apply getK_intro rfl
    (conv => whnf); repeat' (first  | ((with_reducible first | apply kN | apply kW | apply kX | apply kG | apply kQ); (· exact sd); conv => whnf) | (refine pcase.mk ?_ ?_ <;> intro hc <;> (try rw [List.length_nil] at hc) <;> first | (exfalso; omega) | (exact absurd rfl hc) | conv => whnf) | (refine bcase_intro ?_ ?_ <;> intro hc <;> conv => whnf))
    refine (pscpt (d := W.toArray) (by simp; omega) (by omega)).mono ?_
    rintro _ _ ⟨c2, T, rfl, rfl⟩
    rw [show n = W.length by omega]
    conv => whnf
    apply getK_intro rfl
    (conv => whnf); repeat' (first  | ((with_reducible first | apply kN | apply kW | apply kX | apply kG | apply kQ); (· exact sd); conv => whnf) | (refine pcase.mk ?_ ?_ <;> intro hc <;> (try rw [List.length_nil] at hc) <;> first | (exfalso; omega) | (exact absurd rfl hc) | conv => whnf) | (refine bcase_intro ?_ ?_ <;> intro hc <;> conv => whnf))
    refine ⟨nn, _, by rw [sub_vs]; simp, q1, fun x => ?_⟩
    rw [q2, h1.mem_iff, hL0]

/-! ### the reference -/

theorem nodup_len {α : Type} [DecidableEq α] : ∀ {R W : List α}, R.Nodup → (∀ x ∈ R, x ∈ W) → R.length ≤ W.length
  | [], W, _, _ => by simp
  | a :: R, W, h, hs => by
    obtain ⟨h1, h2⟩ := List.nodup_cons.1 h
    have ha : a ∈ W := hs a (by simp)
    have := nodup_len (R := R) (W := W.erase a) h2 fun x hx => (List.mem_erase_of_ne (by rintro rfl; exact h1 hx)).2 (hs x (by simp [hx]))
    rw [List.length_erase_of_mem ha] at this
    have := List.length_pos_of_mem ha
    simp; omega
theorem ltS_irr : ∀ x : List UInt8, ltS x x = false
  | [] => rfl
  | a :: s => by have := ltS_irr s; unfold ltS at *; simp [Op.bytesLess, this]
theorem inc_len {R W : List (List UInt8)} (hi : Inc R) (h : ∀ x, x ∈ R ↔ x ∈ W) : R.length ≤ W.length :=
  nodup_len (List.Pairwise.imp (fun {a b} hab => by rintro rfl; rw [ltS_irr] at hab; cases hab) hi) fun x hx => (h x).1 hx

end AI
end Go.Proofs.YtdlkcancogpafaaGreatDoor
