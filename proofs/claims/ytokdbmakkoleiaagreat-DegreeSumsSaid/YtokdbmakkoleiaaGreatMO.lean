/- Counts of labels and types; the inner loops of degree.Of. degree.Of: the loop over the labels. -/
import Derived.Test.YtokdbmakkoleiaaGreatMW
import Derived.Test.YtokdbmakkoleiaaGreatMH
import Derived.Test.YtokdbmakkoleiaaGreatMV
set_option linter.unusedVariables false
namespace Go.Proofs.YtokdbmakkoleiaaGreat
namespace AI

/-- a name and a number -/
structure CN where
  name : List UInt8
  n : Int
def CN.av (c : CN) : AV := .agg [.str c.name, .int .i64 c.n]
theorem cellsC : ∀ c : CN, c.av.cells.length = 2 := fun _ => rfl

/-- how many nodes have a label -/
def labI (x : List UInt8) (n : GN) : Int := if x ∈ n.labels then 1 else 0
def cntL (N : List GN) (x : List UInt8) : Int := sumI (N.map (labI x))
theorem cntL_take {N : List GN} {x : List UInt8} {i : Nat} (h : i < N.length) : cntL (N.take (i + 1)) x = cntL (N.take i) x + labI x N[i] := sumI_take h
theorem cntL_bound {N : List GN} {x : List UInt8} : 0 ≤ cntL N x ∧ cntL N x ≤ N.length := by
  have := sumI_bound (l := N) (f := labI x) (c := 1) fun n _ => by unfold labI; split <;> omega
  unfold cntL; omega
/-- how many edges have a type -/
def tyI (x : List UInt8) (e : GE) : Int := if e.ty = x then 1 else 0
def cntT (E : List GE) (x : List UInt8) : Int := sumI (E.map (tyI x))
theorem cntT_take {E : List GE} {x : List UInt8} {i : Nat} (h : i < E.length) : cntT (E.take (i + 1)) x = cntT (E.take i) x + tyI x E[i] := sumI_take h
theorem cntT_bound {E : List GE} {x : List UInt8} : 0 ≤ cntT E x ∧ cntT E x ≤ E.length := by
  have := sumI_bound (l := E) (f := tyI x) (c := 1) fun n _ => by unfold tyI; split <;> omega
  unfold cntT; omega

/-- the counts, label by label -/
def cnts (f : List UInt8 → Int) (R : List (List UInt8)) : List CN := R.map fun x => ⟨x, f x⟩
theorem cnts_succ {f : List UInt8 → Int} {R : List (List UInt8)} {i : Nat} (h : i < R.length) : cnts f (R.take (i + 1)) = cnts f (R.take i) ++ [⟨R[i], f R[i]⟩] := by
  unfold cnts
  rw [List.take_succ_eq_append_getElem h, List.map_append]; rfl

/-! the inner loop over the nodes; the objects behind the first three: none, or the labels -/
theorem inL0 {g : GG} (hg : g.ok) (hN : g.nodes.length ≤ 2000) {x : List UInt8} {g1 g2 c : Nat} {nn : Bool} {R : List (List UInt8)} {v31 v32 : Int} {o1 o2 : Obj} {Q : AExit → Env → Sto → Prop}
    (hQ : ∀ c' tl, Q (.exit 2) ([(1, .ref 0 0 0 0), (2, .ref 1 g1 0 0), (5, .ref 2 g2 0 0), (7, .str x), (8, .int .i64 (cntL g.nodes x)), (30, .sl nn (vs .str R)), (31, .int .i64 v31), (32, .int .i64 v32)] ++ tl) ⟨[.arr 0 4 true true [g.av], o1, o2], c'⟩) :
    Run (findFn tab) (.loop l8_0_h l8_0_b) [(1, .ref 0 0 0 0), (2, .ref 1 g1 0 0), (5, .ref 2 g2 0 0), (7, .str x), (8, .int .i64 0), (30, .sl nn (vs .str R)), (31, .int .i64 v31), (32, .int .i64 v32), (37, .sl g.nn (vs GN.av g.nodes)), (38, .int .i64 g.nodes.length), (39, .int .i64 0)] ⟨[.arr 0 4 true true [g.av], o1, o2], c⟩ Q := by
  have hlab : ∀ n ∈ g.nodes, n.labels.length < 2^63 := fun n hn => (hg.2.2.1 n hn).2.1
  refine loop_inv (fun m env s => ∃ (i c : Nat) (z : Int), m = g.nodes.length - i ∧ i ≤ g.nodes.length ∧ z = cntL (g.nodes.take i) x ∧ env = [(1, .ref 0 0 0 0), (2, .ref 1 g1 0 0), (5, .ref 2 g2 0 0), (7, .str x), (8, .int .i64 z), (30, .sl nn (vs .str R)), (31, .int .i64 v31), (32, .int .i64 v32), (37, .sl g.nn (vs GN.av g.nodes)), (38, .int .i64 g.nodes.length), (39, .int .i64 i)] ∧ s = ⟨[.arr 0 4 true true [g.av], o1, o2], c⟩) ?_ _ _ _ ⟨0, c, 0, rfl, by omega, rfl, rfl, rfl⟩
  rintro _ _ _ ⟨i, c, z, rfl, hi, hz, rfl, rfl⟩
  refine ⟨rfl, ?_⟩
  by_cases hlt : i < g.nodes.length
  · have hb := @cntL_bound (g.nodes.take i) x
    rw [List.length_take, ← hz] at hb
    have h1 : x ∈ (g.nodes[i]).labels → z + 1 = cntL (g.nodes.take (i + 1)) x := fun h => by rw [cntL_take hlt, hz, show labI x g.nodes[i] = 1 from if_pos h]
    have h0 : ¬ x ∈ (g.nodes[i]).labels → z = cntL (g.nodes.take (i + 1)) x := fun h => by rw [cntL_take hlt, hz, show labI x g.nodes[i] = 0 from if_neg h, Int.add_zero]
    clear hz
    (conv => whnf); repeat' (first | (refine callB (hasLabel1 (hlab _ (List.getElem_mem hlt))) (fun hc => ?_) (fun hc => ?_) <;> conv => whnf) | ((with_reducible first | apply kN | apply kW | apply kX | apply kG | apply kQ); (· exact sd); conv => whnf) | (refine pcase.mk ?_ ?_ <;> intro hc <;> (try rw [List.length_nil] at hc) <;> first | (exfalso; omega) | (exact absurd rfl hc) | conv => whnf) | (refine bcase_intro ?_ ?_ <;> intro hc <;> conv => whnf))
    · exact again.mk ⟨_, by omega, i + 1, _, _, rfl, by omega, h1 hc, rfl, rfl⟩
    · exact again.mk ⟨_, by omega, i + 1, _, z, rfl, by omega, h0 hc, rfl, rfl⟩
  · rw [List.take_of_length_le (by omega)] at hz
    subst hz
    (conv => whnf); repeat' (first  | ((with_reducible first | apply kN | apply kW | apply kX | apply kG | apply kQ); (· exact sd); conv => whnf) | (refine pcase.mk ?_ ?_ <;> intro hc <;> (try rw [List.length_nil] at hc) <;> first | (exfalso; omega) | (exact absurd rfl hc) | conv => whnf) | (refine bcase_intro ?_ ?_ <;> intro hc <;> conv => whnf))
    exact hQ _ _
theorem inL1 {g : GG} (hg : g.ok) (hN : g.nodes.length ≤ 2000) {x : List UInt8} {g1 g2 c : Nat} {nn : Bool} {R : List (List UInt8)} {v31 v32 : Int} {o1 o2 o3 : Obj} {Q : AExit → Env → Sto → Prop}
    (hQ : ∀ c' tl, Q (.exit 2) ([(1, .ref 0 0 0 0), (2, .ref 1 g1 0 0), (5, .ref 2 g2 0 0), (7, .str x), (8, .int .i64 (cntL g.nodes x)), (30, .sl nn (vs .str R)), (31, .int .i64 v31), (32, .int .i64 v32)] ++ tl) ⟨[.arr 0 4 true true [g.av], o1, o2, o3], c'⟩) :
    Run (findFn tab) (.loop l8_0_h l8_0_b) [(1, .ref 0 0 0 0), (2, .ref 1 g1 0 0), (5, .ref 2 g2 0 0), (7, .str x), (8, .int .i64 0), (30, .sl nn (vs .str R)), (31, .int .i64 v31), (32, .int .i64 v32), (37, .sl g.nn (vs GN.av g.nodes)), (38, .int .i64 g.nodes.length), (39, .int .i64 0)] ⟨[.arr 0 4 true true [g.av], o1, o2, o3], c⟩ Q := by
  have hlab : ∀ n ∈ g.nodes, n.labels.length < 2^63 := fun n hn => (hg.2.2.1 n hn).2.1
  refine loop_inv (fun m env s => ∃ (i c : Nat) (z : Int), m = g.nodes.length - i ∧ i ≤ g.nodes.length ∧ z = cntL (g.nodes.take i) x ∧ env = [(1, .ref 0 0 0 0), (2, .ref 1 g1 0 0), (5, .ref 2 g2 0 0), (7, .str x), (8, .int .i64 z), (30, .sl nn (vs .str R)), (31, .int .i64 v31), (32, .int .i64 v32), (37, .sl g.nn (vs GN.av g.nodes)), (38, .int .i64 g.nodes.length), (39, .int .i64 i)] ∧ s = ⟨[.arr 0 4 true true [g.av], o1, o2, o3], c⟩) ?_ _ _ _ ⟨0, c, 0, rfl, by omega, rfl, rfl, rfl⟩
  rintro _ _ _ ⟨i, c, z, rfl, hi, hz, rfl, rfl⟩
  refine ⟨rfl, ?_⟩
  by_cases hlt : i < g.nodes.length
  · have hb := @cntL_bound (g.nodes.take i) x
    rw [List.length_take, ← hz] at hb
    have h1 : x ∈ (g.nodes[i]).labels → z + 1 = cntL (g.nodes.take (i + 1)) x := fun h => by rw [cntL_take hlt, hz, show labI x g.nodes[i] = 1 from if_pos h]
    have h0 : ¬ x ∈ (g.nodes[i]).labels → z = cntL (g.nodes.take (i + 1)) x := fun h => by rw [cntL_take hlt, hz, show labI x g.nodes[i] = 0 from if_neg h, Int.add_zero]
    clear hz
    (conv => whnf); repeat' (first | (refine callB (hasLabel1 (hlab _ (List.getElem_mem hlt))) (fun hc => ?_) (fun hc => ?_) <;> conv => whnf) | ((with_reducible first | apply kN | apply kW | apply kX | apply kG | apply kQ); (· exact sd); conv => whnf) | (refine pcase.mk ?_ ?_ <;> intro hc <;> (try rw [List.length_nil] at hc) <;> first | (exfalso; omega) | (exact absurd rfl hc) | conv => whnf) | (refine bcase_intro ?_ ?_ <;> intro hc <;> conv => whnf))
    · exact again.mk ⟨_, by omega, i + 1, _, _, rfl, by omega, h1 hc, rfl, rfl⟩
    · exact again.mk ⟨_, by omega, i + 1, _, z, rfl, by omega, h0 hc, rfl, rfl⟩
  · rw [List.take_of_length_le (by omega)] at hz
    subst hz
    (conv => whnf); repeat' (first  | ((with_reducible first | apply kN | apply kW | apply kX | apply kG | apply kQ); (· exact sd); conv => whnf) | (refine pcase.mk ?_ ?_ <;> intro hc <;> (try rw [List.length_nil] at hc) <;> first | (exfalso; omega) | (exact absurd rfl hc) | conv => whnf) | (refine bcase_intro ?_ ?_ <;> intro hc <;> conv => whnf))
    exact hQ _ _

/-! the inner loop over the edges -/
theorem inT00 {g : GG} (hN : g.edges.length ≤ 4000) {x : List UInt8} {g1 g2 c : Nat} {nn : Bool} {R : List (List UInt8)} {v31 v32 : Int} {o1 o2 : Obj} {Q : AExit → Env → Sto → Prop}
    (hQ : ∀ c' tl, Q (.exit 6) ([(1, .ref 0 0 0 0), (2, .ref 1 g1 0 0), (5, .ref 2 g2 0 0), (12, .str x), (13, .int .i64 (cntT g.edges x)), (59, .sl nn (vs .str R)), (60, .int .i64 v31), (61, .int .i64 v32)] ++ tl) ⟨[.arr 0 4 true true [g.av], o1, o2], c'⟩) :
    Run (findFn tab) (.loop l8_2_h l8_2_b) [(1, .ref 0 0 0 0), (2, .ref 1 g1 0 0), (5, .ref 2 g2 0 0), (12, .str x), (13, .int .i64 0), (59, .sl nn (vs .str R)), (60, .int .i64 v31), (61, .int .i64 v32), (66, .sl g.en (vs GE.av g.edges)), (67, .int .i64 g.edges.length), (68, .int .i64 0)] ⟨[.arr 0 4 true true [g.av], o1, o2], c⟩ Q := by
  refine loop_inv (fun m env s => ∃ (i c : Nat) (z : Int), m = g.edges.length - i ∧ i ≤ g.edges.length ∧ z = cntT (g.edges.take i) x ∧ env = [(1, .ref 0 0 0 0), (2, .ref 1 g1 0 0), (5, .ref 2 g2 0 0), (12, .str x), (13, .int .i64 z), (59, .sl nn (vs .str R)), (60, .int .i64 v31), (61, .int .i64 v32), (66, .sl g.en (vs GE.av g.edges)), (67, .int .i64 g.edges.length), (68, .int .i64 i)] ∧ s = ⟨[.arr 0 4 true true [g.av], o1, o2], c⟩) ?_ _ _ _ ⟨0, c, 0, rfl, by omega, rfl, rfl, rfl⟩
  rintro _ _ _ ⟨i, c, z, rfl, hi, hz, rfl, rfl⟩
  refine ⟨rfl, ?_⟩
  by_cases hlt : i < g.edges.length
  · have hb := @cntT_bound (g.edges.take i) x
    rw [List.length_take, ← hz] at hb
    have h1 : (g.edges[i]).ty = x → z + 1 = cntT (g.edges.take (i + 1)) x := fun h => by rw [cntT_take hlt, hz, show tyI x g.edges[i] = 1 from if_pos h]
    have h0 : ¬ (g.edges[i]).ty = x → z = cntT (g.edges.take (i + 1)) x := fun h => by rw [cntT_take hlt, hz, show tyI x g.edges[i] = 0 from if_neg h, Int.add_zero]
    clear hz
    (conv => whnf); repeat' (first  | ((with_reducible first | apply kN | apply kW | apply kX | apply kG | apply kQ); (· exact sd); conv => whnf) | (refine pcase.mk ?_ ?_ <;> intro hc <;> (try rw [List.length_nil] at hc) <;> first | (exfalso; omega) | (exact absurd rfl hc) | conv => whnf) | (refine bcase_intro ?_ ?_ <;> intro hc <;> conv => whnf))
    · exact again.mk ⟨_, by omega, i + 1, _, _, rfl, by omega, h1 hc, rfl, rfl⟩
    · exact again.mk ⟨_, by omega, i + 1, _, z, rfl, by omega, h0 hc, rfl, rfl⟩
  · rw [List.take_of_length_le (by omega)] at hz
    subst hz
    (conv => whnf); repeat' (first  | ((with_reducible first | apply kN | apply kW | apply kX | apply kG | apply kQ); (· exact sd); conv => whnf) | (refine pcase.mk ?_ ?_ <;> intro hc <;> (try rw [List.length_nil] at hc) <;> first | (exfalso; omega) | (exact absurd rfl hc) | conv => whnf) | (refine bcase_intro ?_ ?_ <;> intro hc <;> conv => whnf))
    exact hQ _ _
theorem inT10 {g : GG} (hN : g.edges.length ≤ 4000) {x : List UInt8} {g1 g2 c : Nat} {nn : Bool} {R : List (List UInt8)} {v31 v32 : Int} {o1 o2 o3 : Obj} {Q : AExit → Env → Sto → Prop}
    (hQ : ∀ c' tl, Q (.exit 6) ([(1, .ref 0 0 0 0), (2, .ref 1 g1 0 0), (5, .ref 2 g2 0 0), (12, .str x), (13, .int .i64 (cntT g.edges x)), (59, .sl nn (vs .str R)), (60, .int .i64 v31), (61, .int .i64 v32)] ++ tl) ⟨[.arr 0 4 true true [g.av], o1, o2, o3], c'⟩) :
    Run (findFn tab) (.loop l8_2_h l8_2_b) [(1, .ref 0 0 0 0), (2, .ref 1 g1 0 0), (5, .ref 2 g2 0 0), (12, .str x), (13, .int .i64 0), (59, .sl nn (vs .str R)), (60, .int .i64 v31), (61, .int .i64 v32), (66, .sl g.en (vs GE.av g.edges)), (67, .int .i64 g.edges.length), (68, .int .i64 0)] ⟨[.arr 0 4 true true [g.av], o1, o2, o3], c⟩ Q := by
  refine loop_inv (fun m env s => ∃ (i c : Nat) (z : Int), m = g.edges.length - i ∧ i ≤ g.edges.length ∧ z = cntT (g.edges.take i) x ∧ env = [(1, .ref 0 0 0 0), (2, .ref 1 g1 0 0), (5, .ref 2 g2 0 0), (12, .str x), (13, .int .i64 z), (59, .sl nn (vs .str R)), (60, .int .i64 v31), (61, .int .i64 v32), (66, .sl g.en (vs GE.av g.edges)), (67, .int .i64 g.edges.length), (68, .int .i64 i)] ∧ s = ⟨[.arr 0 4 true true [g.av], o1, o2, o3], c⟩) ?_ _ _ _ ⟨0, c, 0, rfl, by omega, rfl, rfl, rfl⟩
  rintro _ _ _ ⟨i, c, z, rfl, hi, hz, rfl, rfl⟩
  refine ⟨rfl, ?_⟩
  by_cases hlt : i < g.edges.length
  · have hb := @cntT_bound (g.edges.take i) x
    rw [List.length_take, ← hz] at hb
    have h1 : (g.edges[i]).ty = x → z + 1 = cntT (g.edges.take (i + 1)) x := fun h => by rw [cntT_take hlt, hz, show tyI x g.edges[i] = 1 from if_pos h]
    have h0 : ¬ (g.edges[i]).ty = x → z = cntT (g.edges.take (i + 1)) x := fun h => by rw [cntT_take hlt, hz, show tyI x g.edges[i] = 0 from if_neg h, Int.add_zero]
    clear hz
    (conv => whnf); repeat' (first  | ((with_reducible first | apply kN | apply kW | apply kX | apply kG | apply kQ); (· exact sd); conv => whnf) | (refine pcase.mk ?_ ?_ <;> intro hc <;> (try rw [List.length_nil] at hc) <;> first | (exfalso; omega) | (exact absurd rfl hc) | conv => whnf) | (refine bcase_intro ?_ ?_ <;> intro hc <;> conv => whnf))
    · exact again.mk ⟨_, by omega, i + 1, _, _, rfl, by omega, h1 hc, rfl, rfl⟩
    · exact again.mk ⟨_, by omega, i + 1, _, z, rfl, by omega, h0 hc, rfl, rfl⟩
  · rw [List.take_of_length_le (by omega)] at hz
    subst hz
    (conv => whnf); repeat' (first  | ((with_reducible first | apply kN | apply kW | apply kX | apply kG | apply kQ); (· exact sd); conv => whnf) | (refine pcase.mk ?_ ?_ <;> intro hc <;> (try rw [List.length_nil] at hc) <;> first | (exfalso; omega) | (exact absurd rfl hc) | conv => whnf) | (refine bcase_intro ?_ ?_ <;> intro hc <;> conv => whnf))
    exact hQ _ _
theorem inT01 {g : GG} (hN : g.edges.length ≤ 4000) {x : List UInt8} {g1 g2 c : Nat} {nn : Bool} {R : List (List UInt8)} {v31 v32 : Int} {o1 o2 o3 o4 o5 : Obj} {Q : AExit → Env → Sto → Prop}
    (hQ : ∀ c' tl, Q (.exit 6) ([(1, .ref 0 0 0 0), (2, .ref 1 g1 0 0), (5, .ref 2 g2 0 0), (12, .str x), (13, .int .i64 (cntT g.edges x)), (59, .sl nn (vs .str R)), (60, .int .i64 v31), (61, .int .i64 v32)] ++ tl) ⟨[.arr 0 4 true true [g.av], o1, o2, o3, o4, o5], c'⟩) :
    Run (findFn tab) (.loop l8_2_h l8_2_b) [(1, .ref 0 0 0 0), (2, .ref 1 g1 0 0), (5, .ref 2 g2 0 0), (12, .str x), (13, .int .i64 0), (59, .sl nn (vs .str R)), (60, .int .i64 v31), (61, .int .i64 v32), (66, .sl g.en (vs GE.av g.edges)), (67, .int .i64 g.edges.length), (68, .int .i64 0)] ⟨[.arr 0 4 true true [g.av], o1, o2, o3, o4, o5], c⟩ Q := by
  refine loop_inv (fun m env s => ∃ (i c : Nat) (z : Int), m = g.edges.length - i ∧ i ≤ g.edges.length ∧ z = cntT (g.edges.take i) x ∧ env = [(1, .ref 0 0 0 0), (2, .ref 1 g1 0 0), (5, .ref 2 g2 0 0), (12, .str x), (13, .int .i64 z), (59, .sl nn (vs .str R)), (60, .int .i64 v31), (61, .int .i64 v32), (66, .sl g.en (vs GE.av g.edges)), (67, .int .i64 g.edges.length), (68, .int .i64 i)] ∧ s = ⟨[.arr 0 4 true true [g.av], o1, o2, o3, o4, o5], c⟩) ?_ _ _ _ ⟨0, c, 0, rfl, by omega, rfl, rfl, rfl⟩
  rintro _ _ _ ⟨i, c, z, rfl, hi, hz, rfl, rfl⟩
  refine ⟨rfl, ?_⟩
  by_cases hlt : i < g.edges.length
  · have hb := @cntT_bound (g.edges.take i) x
    rw [List.length_take, ← hz] at hb
    have h1 : (g.edges[i]).ty = x → z + 1 = cntT (g.edges.take (i + 1)) x := fun h => by rw [cntT_take hlt, hz, show tyI x g.edges[i] = 1 from if_pos h]
    have h0 : ¬ (g.edges[i]).ty = x → z = cntT (g.edges.take (i + 1)) x := fun h => by rw [cntT_take hlt, hz, show tyI x g.edges[i] = 0 from if_neg h, Int.add_zero]
    clear hz
    (conv => whnf); repeat' (first  | ((with_reducible first | apply kN | apply kW | apply kX | apply kG | apply kQ); (· exact sd); conv => whnf) | (refine pcase.mk ?_ ?_ <;> intro hc <;> (try rw [List.length_nil] at hc) <;> first | (exfalso; omega) | (exact absurd rfl hc) | conv => whnf) | (refine bcase_intro ?_ ?_ <;> intro hc <;> conv => whnf))
    · exact again.mk ⟨_, by omega, i + 1, _, _, rfl, by omega, h1 hc, rfl, rfl⟩
    · exact again.mk ⟨_, by omega, i + 1, _, z, rfl, by omega, h0 hc, rfl, rfl⟩
  · rw [List.take_of_length_le (by omega)] at hz
    subst hz
    (conv => whnf); repeat' (first  | ((with_reducible first | apply kN | apply kW | apply kX | apply kG | apply kQ); (· exact sd); conv => whnf) | (refine pcase.mk ?_ ?_ <;> intro hc <;> (try rw [List.length_nil] at hc) <;> first | (exfalso; omega) | (exact absurd rfl hc) | conv => whnf) | (refine bcase_intro ?_ ?_ <;> intro hc <;> conv => whnf))
    exact hQ _ _
theorem inT11 {g : GG} (hN : g.edges.length ≤ 4000) {x : List UInt8} {g1 g2 c : Nat} {nn : Bool} {R : List (List UInt8)} {v31 v32 : Int} {o1 o2 o3 o4 o5 o6 : Obj} {Q : AExit → Env → Sto → Prop}
    (hQ : ∀ c' tl, Q (.exit 6) ([(1, .ref 0 0 0 0), (2, .ref 1 g1 0 0), (5, .ref 2 g2 0 0), (12, .str x), (13, .int .i64 (cntT g.edges x)), (59, .sl nn (vs .str R)), (60, .int .i64 v31), (61, .int .i64 v32)] ++ tl) ⟨[.arr 0 4 true true [g.av], o1, o2, o3, o4, o5, o6], c'⟩) :
    Run (findFn tab) (.loop l8_2_h l8_2_b) [(1, .ref 0 0 0 0), (2, .ref 1 g1 0 0), (5, .ref 2 g2 0 0), (12, .str x), (13, .int .i64 0), (59, .sl nn (vs .str R)), (60, .int .i64 v31), (61, .int .i64 v32), (66, .sl g.en (vs GE.av g.edges)), (67, .int .i64 g.edges.length), (68, .int .i64 0)] ⟨[.arr 0 4 true true [g.av], o1, o2, o3, o4, o5, o6], c⟩ Q := by
  refine loop_inv (fun m env s => ∃ (i c : Nat) (z : Int), m = g.edges.length - i ∧ i ≤ g.edges.length ∧ z = cntT (g.edges.take i) x ∧ env = [(1, .ref 0 0 0 0), (2, .ref 1 g1 0 0), (5, .ref 2 g2 0 0), (12, .str x), (13, .int .i64 z), (59, .sl nn (vs .str R)), (60, .int .i64 v31), (61, .int .i64 v32), (66, .sl g.en (vs GE.av g.edges)), (67, .int .i64 g.edges.length), (68, .int .i64 i)] ∧ s = ⟨[.arr 0 4 true true [g.av], o1, o2, o3, o4, o5, o6], c⟩) ?_ _ _ _ ⟨0, c, 0, rfl, by omega, rfl, rfl, rfl⟩
  rintro _ _ _ ⟨i, c, z, rfl, hi, hz, rfl, rfl⟩
  refine ⟨rfl, ?_⟩
  by_cases hlt : i < g.edges.length
  · have hb := @cntT_bound (g.edges.take i) x
    rw [List.length_take, ← hz] at hb
    have h1 : (g.edges[i]).ty = x → z + 1 = cntT (g.edges.take (i + 1)) x := fun h => by rw [cntT_take hlt, hz, show tyI x g.edges[i] = 1 from if_pos h]
    have h0 : ¬ (g.edges[i]).ty = x → z = cntT (g.edges.take (i + 1)) x := fun h => by rw [cntT_take hlt, hz, show tyI x g.edges[i] = 0 from if_neg h, Int.add_zero]
    clear hz
    (conv => whnf); repeat' (first  | ((with_reducible first | apply kN | apply kW | apply kX | apply kG | apply kQ); (· exact sd); conv => whnf) | (refine pcase.mk ?_ ?_ <;> intro hc <;> (try rw [List.length_nil] at hc) <;> first | (exfalso; omega) | (exact absurd rfl hc) | conv => whnf) | (refine bcase_intro ?_ ?_ <;> intro hc <;> conv => whnf))
    · exact again.mk ⟨_, by omega, i + 1, _, _, rfl, by omega, h1 hc, rfl, rfl⟩
    · exact again.mk ⟨_, by omega, i + 1, _, z, rfl, by omega, h0 hc, rfl, rfl⟩
  · rw [List.take_of_length_le (by omega)] at hz
    subst hz
    (conv => whnf); repeat' (first  | ((with_reducible first | apply kN | apply kW | apply kX | apply kG | apply kQ); (· exact sd); conv => whnf) | (refine pcase.mk ?_ ?_ <;> intro hc <;> (try rw [List.length_nil] at hc) <;> first | (exfalso; omega) | (exact absurd rfl hc) | conv => whnf) | (refine bcase_intro ?_ ?_ <;> intro hc <;> conv => whnf))
    exact hQ _ _

end AI
end Go.Proofs.YtokdbmakkoleiaaGreat
set_option linter.unusedVariables false
namespace Go.Proofs.YtokdbmakkoleiaaGreat
namespace AI

theorem nodup_len {α : Type} [DecidableEq α] : ∀ {R L : List α}, R.Nodup → (∀ x ∈ R, x ∈ L) → R.length ≤ L.length
  | [], L, _, _ => Nat.zero_le _
  | x :: R, L, hn, hs => by
    have hn' := List.nodup_cons.1 hn
    have hx := hs x (List.mem_cons_self ..)
    have := nodup_len (R := R) (L := L.erase x) hn'.2 fun y hy => (List.mem_erase_of_ne (fun e => by subst e; exact hn'.1 hy)).2 (hs y (List.mem_cons_of_mem _ hy))
    rw [List.length_erase_of_mem hx] at this
    have := List.length_pos_of_mem hx
    simp only [List.length_cons]; omega

def ofS (N E : Int) (a b c d : AV) : AV := .agg [.int .i64 N, .int .i64 E, a, b, c, d]

set_option maxHeartbeats 1000000 in
theorem labO {g : GG} (hg : g.ok) (hN : g.nodes.length ≤ 2000) {R : List (List UInt8)} (hR : R.length ≤ 100000000) {nn : Bool} {N E : Int} {o1 : Obj} {c : Nat} {Q : AExit → Env → Sto → Prop}
    (hQ0 : R = [] → ∀ c' tl, Q (.exit 0) ([(1, .ref 0 0 0 0), (2, .ref 1 1 0 0), (5, .ref 2 2 0 0)] ++ tl) ⟨[.arr 0 4 true true [g.av], o1, .arr 2 6 true true [.agg [.int .i64 N, .int .i64 E, .sl false [], .sl false [], .sl false [], .sl false []]]], c'⟩)
    (hQ1 : R ≠ [] → ∀ c' g3 tl, Q (.exit 0) ([(1, .ref 0 0 0 0), (2, .ref 1 1 0 0), (5, .ref 2 2 0 0)] ++ tl) ⟨[.arr 0 4 true true [g.av], o1, .arr 2 6 true false [.agg [.int .i64 N, .int .i64 E, .own 3 g3 0 R.length, .sl false [], .sl false [], .sl false []]], .arr g3 2 true true (vs CN.av (cnts (cntL g.nodes) R))], c'⟩) :
    Run (findFn tab) (.loop l8_1_h l8_1_b) [(1, .ref 0 0 0 0), (2, .ref 1 1 0 0), (5, .ref 2 2 0 0), (30, .sl nn (vs .str R)), (31, .int .i64 R.length), (32, .int .i64 0)] ⟨[.arr 0 4 true true [g.av], o1, .arr 2 6 true true [.agg [.int .i64 N, .int .i64 E, .sl false [], .sl false [], .sl false [], .sl false []]]], c⟩ Q := by
  refine loop_inv (fun m env s => ∃ (i c : Nat), m = R.length - i ∧ i ≤ R.length ∧ env = [(1, .ref 0 0 0 0), (2, .ref 1 1 0 0), (5, .ref 2 2 0 0), (30, .sl nn (vs .str R)), (31, .int .i64 R.length), (32, .int .i64 i)] ∧
    (i = 0 ∧ s = ⟨[.arr 0 4 true true [g.av], o1, .arr 2 6 true true [.agg [.int .i64 N, .int .i64 E, .sl false [], .sl false [], .sl false [], .sl false []]]], c⟩ ∨
     0 < i ∧ ∃ g3 n L, n = i ∧ L = cnts (cntL g.nodes) (R.take i) ∧ n = L.length ∧ s = ⟨[.arr 0 4 true true [g.av], o1, .arr 2 6 true false [.agg [.int .i64 N, .int .i64 E, .own 3 g3 0 n, .sl false [], .sl false [], .sl false []]], .arr g3 2 true true (vs CN.av L)], c⟩)) ?_ _ _ _ ⟨0, c, rfl, by omega, rfl, .inl ⟨rfl, rfl⟩⟩
  rintro _ _ _ ⟨i, c, rfl, hi, rfl, h⟩
  have hgl : g.nodes.length < 2^62 := by omega
  rcases h with ⟨rfl, rfl⟩ | ⟨hpos, g3, n, L, hni, hLe, hn, rfl⟩
  · refine ⟨rfl, ?_⟩
    by_cases hlt : 0 < R.length
    · have hs := @cnts_succ (cntL g.nodes) R 0 hlt
      (conv => whnf); repeat' (first  | ((with_reducible first | apply kN | apply kW | apply kX | apply kG | apply kQ); (· exact sd); conv => whnf) | (refine pcase.mk ?_ ?_ <;> intro hc <;> (try rw [List.length_nil] at hc) <;> first | (exfalso; omega) | (exact absurd rfl hc) | conv => whnf) | (refine bcase_intro ?_ ?_ <;> intro hc <;> conv => whnf))
      refine inL0 hg hN ?_
      intro c' tl
      (conv => whnf); repeat' (first | (refine apV1 (l := []) (x := (⟨R[0], cntL g.nodes R[0]⟩ : CN)) cellsC rfl (by simp) ?_; conv => whnf) | ((with_reducible first | apply kN | apply kW | apply kX | apply kG | apply kQ); (· exact sd); conv => whnf) | (refine pcase.mk ?_ ?_ <;> intro hc <;> (try rw [List.length_nil] at hc) <;> first | (exfalso; omega) | (exact absurd rfl hc) | conv => whnf) | (refine bcase_intro ?_ ?_ <;> intro hc <;> conv => whnf))
      exact again.mk ⟨_, by omega, 1, _, rfl, by omega, rfl, .inr ⟨by omega, _, _, _, rfl, hs.symm, rfl, rfl⟩⟩
    · (conv => whnf); repeat' (first  | ((with_reducible first | apply kN | apply kW | apply kX | apply kG | apply kQ); (· exact sd); conv => whnf) | (refine pcase.mk ?_ ?_ <;> intro hc <;> (try rw [List.length_nil] at hc) <;> first | (exfalso; omega) | (exact absurd rfl hc) | conv => whnf) | (refine bcase_intro ?_ ?_ <;> intro hc <;> conv => whnf))
      exact hQ0 (List.eq_nil_of_length_eq_zero (by omega)) _ _
  · refine ⟨rfl, ?_⟩
    by_cases hlt : i < R.length
    · have hs := @cnts_succ (cntL g.nodes) R i hlt
      (conv => whnf); repeat' (first  | ((with_reducible first | apply kN | apply kW | apply kX | apply kG | apply kQ); (· exact sd); conv => whnf) | (refine pcase.mk ?_ ?_ <;> intro hc <;> (try rw [List.length_nil] at hc) <;> first | (exfalso; omega) | (exact absurd rfl hc) | conv => whnf) | (refine bcase_intro ?_ ?_ <;> intro hc <;> conv => whnf))
      refine inL1 hg hN ?_
      intro c' tl
      (conv => whnf); repeat' (first | (refine apV1 (x := (⟨R[i], cntL g.nodes R[i]⟩ : CN)) cellsC hn (by omega) ?_; conv => whnf) | ((with_reducible first | apply kN | apply kW | apply kX | apply kG | apply kQ); (· exact sd); conv => whnf) | (refine pcase.mk ?_ ?_ <;> intro hc <;> (try rw [List.length_nil] at hc) <;> first | (exfalso; omega) | (exact absurd rfl hc) | conv => whnf) | (refine bcase_intro ?_ ?_ <;> intro hc <;> conv => whnf))
      rw [← hLe] at hs
      exact again.mk ⟨_, by omega, i + 1, _, rfl, by omega, rfl, .inr ⟨by omega, _, _, _, by omega, hs.symm, by simp, rfl⟩⟩
    · rw [List.take_of_length_le (by omega)] at hLe
      (conv => whnf); repeat' (first  | ((with_reducible first | apply kN | apply kW | apply kX | apply kG | apply kQ); (· exact sd); conv => whnf) | (refine pcase.mk ?_ ?_ <;> intro hc <;> (try rw [List.length_nil] at hc) <;> first | (exfalso; omega) | (exact absurd rfl hc) | conv => whnf) | (refine bcase_intro ?_ ?_ <;> intro hc <;> conv => whnf))
      subst hLe
      obtain rfl : n = R.length := by omega
      exact hQ1 (fun h => by rw [h] at hni; simp at hni; omega) _ _ _

end AI
end Go.Proofs.YtokdbmakkoleiaaGreat
