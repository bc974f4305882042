/- The edges and the pairs of a graph as rows: the program's and the reference's. -/
import Derived.Test.YtbkibamoigmboaaGreatDoorIxR
import Derived.Test.YtbkibamoigmboaaGreatDoorMH
import Derived.Test.YtbkibamoigmboaaGreatDoorMK
import Derived.Test.YtbkibamoigmboaaGreatDoorMG
set_option linter.unusedVariables false
set_option maxRecDepth 4000
namespace Go.Proofs.YtbkibamoigmboaaGreatDoor
namespace AI
open Go.Sort

/-- what the check leaves of a graph -/
noncomputable def chk (g : GG) : GG := if checkE g = 0 then g else ⟨false, [], false, [], 0, 0⟩
theorem checkedP {g : GG} (hg : g.ok) : PureP (findFn tab) 38 [g.av] (· = (chk g).av) := by
  have h := checkG hg
  by_cases h0 : checkE g = 0
  · have e : chk g = g := if_pos h0
    rw [e]
    rw [h0] at h
    refine pureP_of rfl rfl ?_
    (conv => whnf); repeat' (first | (refine callK_of h ?_; rintro _ rfl; conv => whnf) | ((with_reducible first | apply kN | apply kW | apply kX | apply kG | apply kQ); (· exact sd); conv => whnf) | (refine pcase.mk ?_ ?_ <;> intro hc <;> (try rw [List.length_nil] at hc) <;> first | (exfalso; omega) | (exact absurd rfl hc) | conv => whnf) | (refine bcase_intro ?_ ?_ <;> intro hc <;> conv => whnf))
    all_goals first | rfl | (exfalso; omega) | (trace_state; fail "checked1")
  · have e : chk g = ⟨false, [], false, [], 0, 0⟩ := if_neg h0
    rw [e]
    refine pureP_of rfl rfl ?_
    (conv => whnf); repeat' (first | (refine callK_of h ?_; rintro _ rfl; conv => whnf) | ((with_reducible first | apply kN | apply kW | apply kX | apply kG | apply kQ); (· exact sd); conv => whnf) | (refine pcase.mk ?_ ?_ <;> intro hc <;> (try rw [List.length_nil] at hc) <;> first | (exfalso; omega) | (exact absurd rfl hc) | conv => whnf) | (refine bcase_intro ?_ ?_ <;> intro hc <;> conv => whnf))
    all_goals first | rfl | (exfalso; omega) | (trace_state; fail "checked2")

def row3 (e : GE) : GW := ⟨[e.fr, e.id, e.to], by simp⟩
def row2 (e : GE) : GW := ⟨[e.fr, e.to], by simp⟩
def rowsOf (f : GE → GW) (ty : List (List UInt8)) (E : List GE) : List GW := (E.filter fun e => decide (HT ty e)).map f
theorem rows_snoc {f : GE → GW} {ty : List (List UInt8)} {E : List GE} {i : Nat} (h : i < E.length) : rowsOf f ty (E.take (i + 1)) = rowsOf f ty (E.take i) ++ if HT ty E[i] then [f E[i]] else [] := by
  unfold rowsOf
  rw [filter_take_succ h, List.map_append]
  congr 1
  by_cases hh : HT ty E[i] <;> simp [hh]
theorem rows_len {f : GE → GW} {ty : List (List UInt8)} {E : List GE} : (rowsOf f ty E).length ≤ E.length := by
  unfold rowsOf; rw [List.length_map]; exact List.length_filter_le _ _

/-- an increasing list of these rows -/
def SetW (a : Int) (M : GW → Prop) (v : AV) : Prop := ∃ b W, v = .agg [.int .i64 a, .sl b (vs GW.av W)] ∧ W.Pairwise (fun x y => ltW x y = true) ∧ W.length ≤ 100000 ∧ ∀ y, y ∈ W ↔ M y

theorem cpnW {W : List GW} (hs : W.Pairwise (fun x y => ltW y x = false)) : (cpn W.toArray W.length).Pairwise (fun x y => ltW x y = true) ∧ ∀ x, x ∈ cpn W.toArray W.length ↔ x ∈ W := by
  constructor
  · refine cpn_lt ltW_swo ltW_tot (d := W.toArray) ?_ W.length (by simp)
    intro i j h0 hij hj
    simp only [List.size_toArray] at hj
    rw [getElem!_pos _ j (by simpa using hj), getElem!_pos _ i (by simp; omega)]
    simp only [List.getElem_toArray]
    exact List.pairwise_iff_getElem.1 hs i j (by omega) hj hij
  · intro x
    rw [mem_cpn W.length (by simp)]; simp

theorem evRess_cell {t o g es c' : Nat} {sz : Option Nat} {σ : List Obj} {x : AV} {nn cl : Bool} (h : nth σ o = some (.arr g es nn cl [x])) : evRess [(t, .ref o g 0 0)] ⟨σ, c'⟩ [.cell t sz] = (loadCells x.cells sz).map fun v => [v] := by
  have e : Env.get [(t, AV.ref o g 0 0)] t = .ref o g 0 0 := by simp [Env.get]
  have e2 : evRes1 [(t, .ref o g 0 0)] ⟨σ, c'⟩ (.cell t sz) = loadCells x.cells sz := by
    show (match Env.get [(t, AV.ref o g 0 0)] t with
      | .ref o g i off => match nth σ o with
        | some (.arr g' _ _ _ elems) => if g = g' then match nth elems i with
            | some x => loadCells (x.cells.drop off) sz
            | none => none
          else none
        | _ => none
      | _ => none) = _
    rw [e]
    simp only [h, if_true]
    rfl
  show (match evRes1 [(t, .ref o g 0 0)] ⟨σ, c'⟩ (.cell t sz), some [] with
    | some v, some vs => some (v :: vs)
    | _, _ => none) = _
  rw [e2]
  cases loadCells x.cells sz <;> rfl
theorem relP {ob0 ob1 : Obj} {a : Int} {g n c : Nat} {nn : Bool} {L : List GW} (hl : L.length = n) (hs : n < 2^61) :
    Calls1 (findFn tab) 42 [.int .i64 a, .own 2 g 0 n] ⟨[ob0, ob1, .arr g 1 nn true (vs GW.av L)], c⟩ fun out s' => ∃ c' W T ob, out = .ok (.agg [.int .i64 a, .own 2 g 0 W.length]) ∧ s' = ⟨[ob0, ob1, .arr g 1 nn true (vs GW.av (W ++ T)), ob], c'⟩ ∧ W.Pairwise (fun x y => ltW x y = true) ∧ W.length ≤ n ∧ ∀ r, r ∈ W ↔ r ∈ L := by
  refine calls1_of rfl rfl ?_
  (conv => whnf); repeat' (first  | ((with_reducible first | apply kN | apply kW | apply kX | apply kG | apply kQ); (· exact sd); conv => whnf) | (refine pcase.mk ?_ ?_ <;> intro hc <;> (try rw [List.length_nil] at hc) <;> first | (exfalso; omega) | (exact absurd rfl hc) | conv => whnf) | (refine bcase_intro ?_ ?_ <;> intro hc <;> conv => whnf))
  refine (pwsort (L := L) hl hs).mono ?_
  rintro _ _ ⟨c1, W, rfl, rfl, p1, p2⟩
  have hw := p1.length_eq
  conv => whnf
  apply getK_intro rfl
  (conv => whnf); repeat' (first  | ((with_reducible first | apply kN | apply kW | apply kX | apply kG | apply kQ); (· exact sd); conv => whnf) | (refine pcase.mk ?_ ?_ <;> intro hc <;> (try rw [List.length_nil] at hc) <;> first | (exfalso; omega) | (exact absurd rfl hc) | conv => whnf) | (refine bcase_intro ?_ ?_ <;> intro hc <;> conv => whnf))
  refine (pwcpt (d := W.toArray) (by simp; omega) (by omega)).mono ?_
  rintro _ _ ⟨c3, T, rfl, rfl⟩
  obtain ⟨q1, q2⟩ := cpnW p2
  have hlen := cpn_len W.toArray W.length
  rw [show n = W.length by omega]
  conv => whnf
  apply getK_intro rfl
  (conv => whnf); repeat' (first  | ((with_reducible first | apply kN | apply kW | apply kX | apply kG | apply kQ); (· exact sd); conv => whnf) | (refine pcase.mk ?_ ?_ <;> intro hc <;> (try rw [List.length_nil] at hc) <;> first | (exfalso; omega) | (exact absurd rfl hc) | conv => whnf) | (refine bcase_intro ?_ ?_ <;> intro hc <;> conv => whnf))
  refine getK_intro (x := [AV.agg [.int .i64 a, .own 2 g 0 (cpn W.toArray W.length).length]]) ((evRess_cell (t := 4) (sz := some 2) rfl).trans rfl) ?_
  exact ⟨_, cpn W.toArray W.length, T, _, rfl, rfl, q1, hlen, fun r => by rw [q2, p1.mem_iff]⟩

set_option maxHeartbeats 1000000 in
theorem edgesP {g : GG} {ty : List (List UInt8)} {nn : Bool} (hg : g.ok) (hE : (chk g).edges.length ≤ 100000) (ht : ty.length < 2^63) :
    PureP (findFn tab) 16 [g.av, .sl nn (vs .str ty)] (SetW 3 fun r => r ∈ rowsOf row3 ty (chk g).edges) := by
  have hc := checkedP hg
  generalize chk g = h at *
  obtain ⟨hn, N, hen, E, z1, z2⟩ := h
  dsimp only at hE ⊢
  refine pureP_of rfl rfl ?_
  (conv => whnf); repeat' (first | (refine callK_of hc ?_; rintro _ rfl; conv => whnf) | ((with_reducible first | apply kN | apply kW | apply kX | apply kG | apply kQ); (· exact sd); conv => whnf) | (refine pcase.mk ?_ ?_ <;> intro hc <;> (try rw [List.length_nil] at hc) <;> first | (exfalso; omega) | (exact absurd rfl hc) | conv => whnf) | (refine bcase_intro ?_ ?_ <;> intro hc <;> conv => whnf))
  refine loop_inv (fun z env s => ∃ (i c ga n : Nat) (fa : Bool) (A : List GW), z = E.length - i ∧ i ≤ E.length ∧ A = rowsOf row3 ty (E.take i) ∧ n = A.length ∧ A.length ≤ i ∧ env = [(1, .sl nn (vs .str ty)), (4, .ref 1 1 0 0), (5, .own 2 ga 0 n), (10, .sl hen (vs GE.av E)), (11, .int .i64 E.length), (12, .int .i64 i)] ∧ s = ⟨[.arr 0 4 true true [g.av], .arr 1 2 true true [.agg [.int .i64 0, .sl false []]], .arr ga 1 fa true (vs GW.av A)], c⟩) ?_ _ _ _ ⟨0, _, _, _, _, [], rfl, by omega, rfl, rfl, by simp, by first | rfl | (rw [← lV (f := GE.av) E]; rfl), rfl⟩
  rintro _ _ _ ⟨i, c, ga, n, fa, A, rfl, hi, hA, hn, hAl, rfl, rfl⟩
  refine ⟨rfl, ?_⟩
  by_cases hlt : i < E.length
  · have hs := rows_snoc (f := row3) (ty := ty) hlt
    rw [← hA] at hs
    have hty := hasType1 (e := E[i]) (nn := nn) ht
    by_cases h1 : HT ty E[i]
    · rw [if_pos h1] at hs
      rw [decide_eq_true h1] at hty
      (conv => whnf); repeat' (first | (refine callK_of hty ?_; rintro _ rfl; conv => whnf) | (refine apV1 (f := GW.av) (l := A) (x := row3 E[i]) cellsW hn (by omega) ?_; conv => whnf) | ((with_reducible first | apply kN | apply kW | apply kX | apply kG | apply kQ); (· exact sd); conv => whnf) | (refine pcase.mk ?_ ?_ <;> intro hc <;> (try rw [List.length_nil] at hc) <;> first | (exfalso; omega) | (exact absurd rfl hc) | conv => whnf) | (refine bcase_intro ?_ ?_ <;> intro hc <;> conv => whnf))
      all_goals first
        | exact again.mk ⟨_, by omega, i + 1, _, _, _, _, A ++ [row3 E[i]], rfl, by omega, hs.symm, by simp, by simp; omega, rfl, rfl⟩
        | (exfalso; omega)
        | (trace_state; fail "edgesP1")
    · rw [if_neg h1, List.append_nil] at hs
      rw [decide_eq_false h1] at hty
      (conv => whnf); repeat' (first | (refine callK_of hty ?_; rintro _ rfl; conv => whnf) | ((with_reducible first | apply kN | apply kW | apply kX | apply kG | apply kQ); (· exact sd); conv => whnf) | (refine pcase.mk ?_ ?_ <;> intro hc <;> (try rw [List.length_nil] at hc) <;> first | (exfalso; omega) | (exact absurd rfl hc) | conv => whnf) | (refine bcase_intro ?_ ?_ <;> intro hc <;> conv => whnf))
      all_goals first
        | exact again.mk ⟨_, by omega, i + 1, _, _, _, _, A, rfl, by omega, hs.symm, hn, by omega, rfl, rfl⟩
        | (exfalso; omega)
        | (trace_state; fail "edgesP2")
  · rw [List.take_of_length_le (by omega)] at hA
    (conv => whnf); repeat' (first  | ((with_reducible first | apply kN | apply kW | apply kX | apply kG | apply kQ); (· exact sd); conv => whnf) | (refine pcase.mk ?_ ?_ <;> intro hc <;> (try rw [List.length_nil] at hc) <;> first | (exfalso; omega) | (exact absurd rfl hc) | conv => whnf) | (refine bcase_intro ?_ ?_ <;> intro hc <;> conv => whnf))
    refine (relP (L := A) hn.symm (by omega)).mono ?_
    rintro _ _ ⟨c1, W, T, ob, rfl, rfl, w1, w2, w3⟩
    conv => whnf
    apply getK_intro rfl
    (conv => whnf); repeat' (first  | ((with_reducible first | apply kN | apply kW | apply kX | apply kG | apply kQ); (· exact sd); conv => whnf) | (refine pcase.mk ?_ ?_ <;> intro hc <;> (try rw [List.length_nil] at hc) <;> first | (exfalso; omega) | (exact absurd rfl hc) | conv => whnf) | (refine bcase_intro ?_ ?_ <;> intro hc <;> conv => whnf))
    refine ⟨fa, W, ?_, w1, by omega, fun r => by rw [w3, hA]⟩
    rw [sub_vs]; simp

set_option maxHeartbeats 1000000 in
theorem pairsP {g : GG} {ty : List (List UInt8)} {nn : Bool} (hg : g.ok) (hE : (chk g).edges.length ≤ 100000) (ht : ty.length < 2^63) :
    PureP (findFn tab) 18 [g.av, .sl nn (vs .str ty)] (SetW 2 fun r => r ∈ rowsOf row2 ty (chk g).edges) := by
  have hc := checkedP hg
  generalize chk g = h at *
  obtain ⟨hn, N, hen, E, z1, z2⟩ := h
  dsimp only at hE ⊢
  refine pureP_of rfl rfl ?_
  (conv => whnf); repeat' (first | (refine callK_of hc ?_; rintro _ rfl; conv => whnf) | ((with_reducible first | apply kN | apply kW | apply kX | apply kG | apply kQ); (· exact sd); conv => whnf) | (refine pcase.mk ?_ ?_ <;> intro hc <;> (try rw [List.length_nil] at hc) <;> first | (exfalso; omega) | (exact absurd rfl hc) | conv => whnf) | (refine bcase_intro ?_ ?_ <;> intro hc <;> conv => whnf))
  refine loop_inv (fun z env s => ∃ (i c ga n : Nat) (fa : Bool) (A : List GW), z = E.length - i ∧ i ≤ E.length ∧ A = rowsOf row2 ty (E.take i) ∧ n = A.length ∧ A.length ≤ i ∧ env = [(1, .sl nn (vs .str ty)), (4, .ref 1 1 0 0), (5, .own 2 ga 0 n), (10, .sl hen (vs GE.av E)), (11, .int .i64 E.length), (12, .int .i64 i)] ∧ s = ⟨[.arr 0 4 true true [g.av], .arr 1 2 true true [.agg [.int .i64 0, .sl false []]], .arr ga 1 fa true (vs GW.av A)], c⟩) ?_ _ _ _ ⟨0, _, _, _, _, [], rfl, by omega, rfl, rfl, by simp, by first | rfl | (rw [← lV (f := GE.av) E]; rfl), rfl⟩
  rintro _ _ _ ⟨i, c, ga, n, fa, A, rfl, hi, hA, hn, hAl, rfl, rfl⟩
  refine ⟨rfl, ?_⟩
  by_cases hlt : i < E.length
  · have hs := rows_snoc (f := row2) (ty := ty) hlt
    rw [← hA] at hs
    have hty := hasType1 (e := E[i]) (nn := nn) ht
    by_cases h1 : HT ty E[i]
    · rw [if_pos h1] at hs
      rw [decide_eq_true h1] at hty
      (conv => whnf); repeat' (first | (refine callK_of hty ?_; rintro _ rfl; conv => whnf) | (refine apV1 (f := GW.av) (l := A) (x := row2 E[i]) cellsW hn (by omega) ?_; conv => whnf) | ((with_reducible first | apply kN | apply kW | apply kX | apply kG | apply kQ); (· exact sd); conv => whnf) | (refine pcase.mk ?_ ?_ <;> intro hc <;> (try rw [List.length_nil] at hc) <;> first | (exfalso; omega) | (exact absurd rfl hc) | conv => whnf) | (refine bcase_intro ?_ ?_ <;> intro hc <;> conv => whnf))
      all_goals first
        | exact again.mk ⟨_, by omega, i + 1, _, _, _, _, A ++ [row2 E[i]], rfl, by omega, hs.symm, by simp, by simp; omega, rfl, rfl⟩
        | (exfalso; omega)
        | (trace_state; fail "pairsP1")
    · rw [if_neg h1, List.append_nil] at hs
      rw [decide_eq_false h1] at hty
      (conv => whnf); repeat' (first | (refine callK_of hty ?_; rintro _ rfl; conv => whnf) | ((with_reducible first | apply kN | apply kW | apply kX | apply kG | apply kQ); (· exact sd); conv => whnf) | (refine pcase.mk ?_ ?_ <;> intro hc <;> (try rw [List.length_nil] at hc) <;> first | (exfalso; omega) | (exact absurd rfl hc) | conv => whnf) | (refine bcase_intro ?_ ?_ <;> intro hc <;> conv => whnf))
      all_goals first
        | exact again.mk ⟨_, by omega, i + 1, _, _, _, _, A, rfl, by omega, hs.symm, hn, by omega, rfl, rfl⟩
        | (exfalso; omega)
        | (trace_state; fail "pairsP2")
  · rw [List.take_of_length_le (by omega)] at hA
    (conv => whnf); repeat' (first  | ((with_reducible first | apply kN | apply kW | apply kX | apply kG | apply kQ); (· exact sd); conv => whnf) | (refine pcase.mk ?_ ?_ <;> intro hc <;> (try rw [List.length_nil] at hc) <;> first | (exfalso; omega) | (exact absurd rfl hc) | conv => whnf) | (refine bcase_intro ?_ ?_ <;> intro hc <;> conv => whnf))
    refine (relP (L := A) hn.symm (by omega)).mono ?_
    rintro _ _ ⟨c1, W, T, ob, rfl, rfl, w1, w2, w3⟩
    conv => whnf
    apply getK_intro rfl
    (conv => whnf); repeat' (first  | ((with_reducible first | apply kN | apply kW | apply kX | apply kG | apply kQ); (· exact sd); conv => whnf) | (refine pcase.mk ?_ ?_ <;> intro hc <;> (try rw [List.length_nil] at hc) <;> first | (exfalso; omega) | (exact absurd rfl hc) | conv => whnf) | (refine bcase_intro ?_ ?_ <;> intro hc <;> conv => whnf))
    refine ⟨fa, W, ?_, w1, by omega, fun r => by rw [w3, hA]⟩
    rw [sub_vs]; simp

set_option maxHeartbeats 1000000 in
theorem edgesR {g : GG} {ty : List (List UInt8)} {nn : Bool} (hg : g.ok) (hE : (chk g).edges.length ≤ 100000) (ht : ty.length < 2^63) :
    PureP (findFn tab) 17 [g.av, .sl nn (vs .str ty)] (SetW 3 fun r => r ∈ rowsOf row3 ty (chk g).edges) := by
  have hc := checkR hg
  by_cases h0 : checkE g = 0
  case neg =>
    have e : chk g = ⟨false, [], false, [], 0, 0⟩ := if_neg h0
    rw [e]
    refine pureP_of rfl rfl ?_
    (conv => whnf); repeat' (first | (refine callK_of hc ?_; rintro _ rfl; conv => whnf) | ((with_reducible first | apply kN | apply kW | apply kX | apply kG | apply kQ); (· exact sd); conv => whnf) | (refine pcase.mk ?_ ?_ <;> intro hc <;> (try rw [List.length_nil] at hc) <;> first | (exfalso; omega) | (exact absurd rfl hc) | conv => whnf) | (refine bcase_intro ?_ ?_ <;> intro hc <;> conv => whnf))
    all_goals first | exact ⟨false, [], rfl, .nil, by simp, fun y => by simp [rowsOf]⟩ | (exfalso; omega) | skip
  have e : chk g = g := if_pos h0
  rw [e] at hE ⊢
  rw [h0] at hc
  clear e h0
  refine pureP_of rfl rfl ?_
  (conv => whnf); repeat' (first | (refine callK_of hc ?_; rintro _ rfl; conv => whnf) | ((with_reducible first | apply kN | apply kW | apply kX | apply kG | apply kQ); (· exact sd); conv => whnf) | (refine pcase.mk ?_ ?_ <;> intro hc <;> (try rw [List.length_nil] at hc) <;> first | (exfalso; omega) | (exact absurd rfl hc) | conv => whnf) | (refine bcase_intro ?_ ?_ <;> intro hc <;> conv => whnf))
  all_goals first | (exfalso; omega) | skip
  refine loop_inv (fun z env s => ∃ (i c : Nat) (b : Bool) (W : List GW), z = g.edges.length - i ∧ i ≤ g.edges.length ∧ W.Pairwise (fun x y => ltW x y = true) ∧ W.length ≤ i ∧ (∀ y ∈ W, y.l.length = 3) ∧ (∀ y, y ∈ W ↔ y ∈ rowsOf row3 ty (g.edges.take i)) ∧ env = [(1, .sl nn (vs .str ty)), (2, .ref 0 0 0 0), (4, .ref 1 1 0 0), (5, .ref 2 2 0 0), (6, .int .i64 i)] ∧ s = ⟨[.arr 0 4 true true [g.av], .arr 1 2 true true [.agg [.int .i64 0, .sl false []]], .arr 2 2 true true [.agg [.int .i64 3, .sl b (vs GW.av W)]]], c⟩) ?_ _ _ _ ⟨0, _, _, [], rfl, by omega, .nil, by simp, by simp, fun y => by simp [rowsOf], rfl, rfl⟩
  rintro _ _ _ ⟨i, c, b, W, rfl, hi, hs, hWl, hk, hm, rfl, rfl⟩
  refine ⟨rfl, ?_⟩
  by_cases hlt : i < g.edges.length
  · have hsn := rows_snoc (f := row3) (ty := ty) hlt
    have hty := hasType2 (e := g.edges[i]) (nn := nn) ht
    by_cases h1 : HT ty g.edges[i]
    · rw [if_pos h1] at hsn
      rw [decide_eq_true h1] at hty
      have hp := putR (W := W) (b := b) (x := row3 g.edges[i]) (by omega) hs hk
      (conv => whnf); repeat' (first | (refine callK_of hty ?_; rintro _ rfl; conv => whnf) | (refine callK_of hp ?_; rintro _ ⟨b', W', rfl, w1, w2, w3⟩; conv => whnf) | ((with_reducible first | apply kN | apply kW | apply kX | apply kG | apply kQ); (· exact sd); conv => whnf) | (refine pcase.mk ?_ ?_ <;> intro hc <;> (try rw [List.length_nil] at hc) <;> first | (exfalso; omega) | (exact absurd rfl hc) | conv => whnf) | (refine bcase_intro ?_ ?_ <;> intro hc <;> conv => whnf))
      all_goals first
        | exact again.mk ⟨_, by omega, i + 1, _, _, W', rfl, by omega, w1, by omega, fun y hy => ((w3 y).1 hy).elim (hk y) fun h => by rw [h]; rfl, fun y => by rw [w3, hm, hsn]; simp, rfl, rfl⟩
        | (exfalso; omega)
        | (trace_state; fail "edgesR1")
    · rw [if_neg h1, List.append_nil] at hsn
      rw [decide_eq_false h1] at hty
      (conv => whnf); repeat' (first | (refine callK_of hty ?_; rintro _ rfl; conv => whnf) | ((with_reducible first | apply kN | apply kW | apply kX | apply kG | apply kQ); (· exact sd); conv => whnf) | (refine pcase.mk ?_ ?_ <;> intro hc <;> (try rw [List.length_nil] at hc) <;> first | (exfalso; omega) | (exact absurd rfl hc) | conv => whnf) | (refine bcase_intro ?_ ?_ <;> intro hc <;> conv => whnf))
      all_goals first
        | exact again.mk ⟨_, by omega, i + 1, _, _, W, rfl, by omega, hs, by omega, hk, by rw [hsn]; exact hm, rfl, rfl⟩
        | (exfalso; omega)
        | (trace_state; fail "edgesR2")
  · rw [List.take_of_length_le (by omega)] at hm
    (conv => whnf); repeat' (first  | ((with_reducible first | apply kN | apply kW | apply kX | apply kG | apply kQ); (· exact sd); conv => whnf) | (refine pcase.mk ?_ ?_ <;> intro hc <;> (try rw [List.length_nil] at hc) <;> first | (exfalso; omega) | (exact absurd rfl hc) | conv => whnf) | (refine bcase_intro ?_ ?_ <;> intro hc <;> conv => whnf))
    exact ⟨b, W, rfl, hs, by omega, hm⟩

set_option maxHeartbeats 1000000 in
theorem pairsR {g : GG} {ty : List (List UInt8)} {nn : Bool} (hg : g.ok) (hE : (chk g).edges.length ≤ 100000) (ht : ty.length < 2^63) :
    PureP (findFn tab) 19 [g.av, .sl nn (vs .str ty)] (SetW 2 fun r => r ∈ rowsOf row2 ty (chk g).edges) := by
  have hc := checkR hg
  by_cases h0 : checkE g = 0
  case neg =>
    have e : chk g = ⟨false, [], false, [], 0, 0⟩ := if_neg h0
    rw [e]
    refine pureP_of rfl rfl ?_
    (conv => whnf); repeat' (first | (refine callK_of hc ?_; rintro _ rfl; conv => whnf) | ((with_reducible first | apply kN | apply kW | apply kX | apply kG | apply kQ); (· exact sd); conv => whnf) | (refine pcase.mk ?_ ?_ <;> intro hc <;> (try rw [List.length_nil] at hc) <;> first | (exfalso; omega) | (exact absurd rfl hc) | conv => whnf) | (refine bcase_intro ?_ ?_ <;> intro hc <;> conv => whnf))
    all_goals first | exact ⟨false, [], rfl, .nil, by simp, fun y => by simp [rowsOf]⟩ | (exfalso; omega) | skip
  have e : chk g = g := if_pos h0
  rw [e] at hE ⊢
  rw [h0] at hc
  clear e h0
  refine pureP_of rfl rfl ?_
  (conv => whnf); repeat' (first | (refine callK_of hc ?_; rintro _ rfl; conv => whnf) | ((with_reducible first | apply kN | apply kW | apply kX | apply kG | apply kQ); (· exact sd); conv => whnf) | (refine pcase.mk ?_ ?_ <;> intro hc <;> (try rw [List.length_nil] at hc) <;> first | (exfalso; omega) | (exact absurd rfl hc) | conv => whnf) | (refine bcase_intro ?_ ?_ <;> intro hc <;> conv => whnf))
  all_goals first | (exfalso; omega) | skip
  refine loop_inv (fun z env s => ∃ (i c : Nat) (b : Bool) (W : List GW), z = g.edges.length - i ∧ i ≤ g.edges.length ∧ W.Pairwise (fun x y => ltW x y = true) ∧ W.length ≤ i ∧ (∀ y ∈ W, y.l.length = 2) ∧ (∀ y, y ∈ W ↔ y ∈ rowsOf row2 ty (g.edges.take i)) ∧ env = [(1, .sl nn (vs .str ty)), (2, .ref 0 0 0 0), (4, .ref 1 1 0 0), (5, .ref 2 2 0 0), (6, .int .i64 i)] ∧ s = ⟨[.arr 0 4 true true [g.av], .arr 1 2 true true [.agg [.int .i64 0, .sl false []]], .arr 2 2 true true [.agg [.int .i64 2, .sl b (vs GW.av W)]]], c⟩) ?_ _ _ _ ⟨0, _, _, [], rfl, by omega, .nil, by simp, by simp, fun y => by simp [rowsOf], rfl, rfl⟩
  rintro _ _ _ ⟨i, c, b, W, rfl, hi, hs, hWl, hk, hm, rfl, rfl⟩
  refine ⟨rfl, ?_⟩
  by_cases hlt : i < g.edges.length
  · have hsn := rows_snoc (f := row2) (ty := ty) hlt
    have hty := hasType2 (e := g.edges[i]) (nn := nn) ht
    by_cases h1 : HT ty g.edges[i]
    · rw [if_pos h1] at hsn
      rw [decide_eq_true h1] at hty
      have hp := putR (W := W) (b := b) (x := row2 g.edges[i]) (by omega) hs hk
      (conv => whnf); repeat' (first | (refine callK_of hty ?_; rintro _ rfl; conv => whnf) | (refine callK_of hp ?_; rintro _ ⟨b', W', rfl, w1, w2, w3⟩; conv => whnf) | ((with_reducible first | apply kN | apply kW | apply kX | apply kG | apply kQ); (· exact sd); conv => whnf) | (refine pcase.mk ?_ ?_ <;> intro hc <;> (try rw [List.length_nil] at hc) <;> first | (exfalso; omega) | (exact absurd rfl hc) | conv => whnf) | (refine bcase_intro ?_ ?_ <;> intro hc <;> conv => whnf))
      all_goals first
        | exact again.mk ⟨_, by omega, i + 1, _, _, W', rfl, by omega, w1, by omega, fun y hy => ((w3 y).1 hy).elim (hk y) fun h => by rw [h]; rfl, fun y => by rw [w3, hm, hsn]; simp, rfl, rfl⟩
        | (exfalso; omega)
        | (trace_state; fail "pairsR1")
    · rw [if_neg h1, List.append_nil] at hsn
      rw [decide_eq_false h1] at hty
      (conv => whnf); repeat' (first | (refine callK_of hty ?_; rintro _ rfl; conv => whnf) | ((with_reducible first | apply kN | apply kW | apply kX | apply kG | apply kQ); (· exact sd); conv => whnf) | (refine pcase.mk ?_ ?_ <;> intro hc <;> (try rw [List.length_nil] at hc) <;> first | (exfalso; omega) | (exact absurd rfl hc) | conv => whnf) | (refine bcase_intro ?_ ?_ <;> intro hc <;> conv => whnf))
      all_goals first
        | exact again.mk ⟨_, by omega, i + 1, _, _, W, rfl, by omega, hs, by omega, hk, by rw [hsn]; exact hm, rfl, rfl⟩
        | (exfalso; omega)
        | (trace_state; fail "pairsR2")
  · rw [List.take_of_length_le (by omega)] at hm
    (conv => whnf); repeat' (first  | ((with_reducible first | apply kN | apply kW | apply kX | apply kG | apply kQ); (· exact sd); conv => whnf) | (refine pcase.mk ?_ ?_ <;> intro hc <;> (try rw [List.length_nil] at hc) <;> first | (exfalso; omega) | (exact absurd rfl hc) | conv => whnf) | (refine bcase_intro ?_ ?_ <;> intro hc <;> conv => whnf))
    exact ⟨b, W, rfl, hs, by omega, hm⟩

end AI
end Go.Proofs.YtbkibamoigmboaaGreatDoor
