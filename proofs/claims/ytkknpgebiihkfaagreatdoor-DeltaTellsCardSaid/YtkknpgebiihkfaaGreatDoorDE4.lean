/- The reference's check of values that may be stored, of labels and properties. The reference's Check of a graph. -/
import Derived.Test.YtkknpgebiihkfaaGreatDoorMK
import Derived.Test.YtkknpgebiihkfaaGreatDoorOV1
import Derived.Test.YtkknpgebiihkfaaGreatDoorFR1
import Derived.Test.YtkknpgebiihkfaaGreatDoorMV
set_option linter.unusedVariables false
set_option maxRecDepth 4000
namespace Go.Proofs.YtkknpgebiihkfaaGreatDoor
namespace AI

theorem validL {v : GV} (hv : v.ok) (hk : kindP v) {n : Int} : PureP (findFn tab) 114 [v.av, .int .i64 n] (· = .bool (decide (leafV v))) := by
  obtain ⟨g1, g2, g3, g4, g5, g6, g7⟩ := hv
  unfold Ln at g4 g5
  unfold kindP at hk
  refine pureP_of rfl rfl ?_
  (conv => whnf); repeat' (first | ((with_reducible first | apply kN | apply kW | apply kX | apply kG | apply kQ); (· exact sd); conv => whnf) | (refine pcase.mk ?_ ?_ <;> intro hc <;> (try rw [List.length_nil] at hc) <;> first | (exfalso; omega) | (exact absurd rfl hc) | conv => whnf) | (refine callB (bareE (v := v) g5) (fun hb => ?_) (fun hb => ?_) <;> conv => whnf) | (refine callB (inP2 (n := v.n)) (fun hr => ?_) (fun hr => ?_) <;> conv => whnf) | (refine callB (strE (s := v.s) g4) (fun hr => ?_) (fun hr => ?_) <;> conv => whnf) | (refine bcase_intro ?_ ?_ <;> intro hc <;> conv => whnf))
  all_goals unfold bareP at hb
  all_goals simp only [Bool.false_eq_true, false_or, true_or, true_and] at hb
  all_goals first
    | exact bool_t (leaf_1 (by omega) hb.1 hb.2.2 hb.2.1 (by omega))
    | exact bool_t (leaf_2 (by omega) hb.1 hb.2.2 hb.2.1 hr)
    | exact bool_t (leaf_4 (by omega) hb.2.1 hb.2.2 hb.1 hr)
    | exact bool_f fun h => hb ⟨h.1, leaf_s h (by omega), h.2.1⟩
    | exact bool_f fun h => hb ⟨(leaf_z h (by omega)).1, h.1, h.2.1⟩
    | (refine bool_f fun h => ?_; have := leaf_n h (by omega); omega)
    | exact bool_f fun h => hr (leaf_r h (by omega))
    | exact bool_f fun h => hr (leaf_z h (by omega)).2
    | (exfalso; omega)

theorem ValidL {v : GV} (hv : v.ok) (hk : kindP v) : PureP (findFn tab) 80 [v.av] (· = .bool (decide (leafV v))) := by
  refine pureP_of rfl rfl ?_
  (conv => whnf); repeat' (first | ((with_reducible first | apply kN | apply kW | apply kX | apply kG | apply kQ); (· exact sd); conv => whnf) | (refine pcase.mk ?_ ?_ <;> intro hc <;> (try rw [List.length_nil] at hc) <;> first | (exfalso; omega) | (exact absurd rfl hc) | conv => whnf) | (refine callB (validL (v := v) hv hk) (fun hr => ?_) (fun hr => ?_) <;> conv => whnf) | (refine bcase_intro ?_ ?_ <;> intro hc <;> conv => whnf))
  all_goals first | exact bool_t (by assumption) | exact bool_f (by assumption)

theorem plain2 {v : GV} (hv : v.ok) : PureP (findFn tab) 112 [v.av] (· = .bool (decide (leafV v))) := by
  by_cases hk : kindP v
  · have hk' := hk
    unfold kindP at hk'
    refine pureP_of rfl rfl ?_
    (conv => whnf); repeat' (first | ((with_reducible first | apply kN | apply kW | apply kX | apply kG | apply kQ); (· exact sd); conv => whnf) | (refine pcase.mk ?_ ?_ <;> intro hc <;> (try rw [List.length_nil] at hc) <;> first | (exfalso; omega) | (exact absurd rfl hc) | conv => whnf) | (refine callB (ValidL (v := v) hv hk) (fun hr => ?_) (fun hr => ?_) <;> conv => whnf) | (refine bcase_intro ?_ ?_ <;> intro hc <;> conv => whnf))
    all_goals first | exact bool_t (by assumption) | exact bool_f (by assumption) | (exfalso; omega)
  · have hk' := hk
    unfold kindP at hk'
    refine pureP_of rfl rfl ?_
    (conv => whnf); repeat' (first | ((with_reducible first | apply kN | apply kW | apply kX | apply kG | apply kQ); (· exact sd); conv => whnf) | (refine pcase.mk ?_ ?_ <;> intro hc <;> (try rw [List.length_nil] at hc) <;> first | (exfalso; omega) | (exact absurd rfl hc) | conv => whnf) | (refine callK_of (Valid (g := v) hv) ?_; rintro _ ⟨b, rfl⟩; conv => whnf) | (refine bcase_intro ?_ ?_ <;> intro hc <;> conv => whnf))
    all_goals first | exact bool_f (fun h => hk (leaf_kind h)) | (exfalso; omega)

theorem keysR {P : List GP} {nn : Bool} (hl : P.length < 2^40) : PureP (findFn tab) 109 [.sl nn (vs GP.av P)] (fun v => ∃ b, v = .sl b (vs .str (keysOf P))) := by
  refine pureP_of rfl rfl ?_
  (conv => whnf); repeat' (first | ((with_reducible first | apply kN | apply kW | apply kX | apply kG | apply kQ); (· exact sd); conv => whnf) | (refine pcase.mk ?_ ?_ <;> intro hc <;> (try rw [List.length_nil] at hc) <;> first | (exfalso; omega) | (exact absurd rfl hc) | conv => whnf)  | (refine bcase_intro ?_ ?_ <;> intro hc <;> conv => whnf))
  refine loop_inv (fun m env s => ∃ (i c go n : Nat) (b : Bool), m = P.length - i ∧ i ≤ P.length ∧ n = i ∧ env = [(0, .sl nn (vs GP.av P)), (3, .own 0 go 0 n), (4, .int .i64 i)] ∧ s = ⟨[.arr go 1 b true (vs .str (keysOf (P.take i)))], c⟩) ?_ _ _ _ ⟨0, _, _, 0, _, rfl, by omega, rfl, rfl, rfl⟩
  rintro _ _ _ ⟨i, c, go, n, b, rfl, hi, hn, rfl, rfl⟩
  refine ⟨rfl, ?_⟩
  (conv => whnf); repeat' (first | (refine apV1 (x := (P[i]).key) (fun _ => rfl) (by simp; omega) (by simp; omega) ?_; conv => whnf) | ((with_reducible first | apply kN | apply kW | apply kX | apply kG | apply kQ); (· exact sd); conv => whnf) | (refine pcase.mk ?_ ?_ <;> intro hc <;> (try rw [List.length_nil] at hc) <;> first | (exfalso; omega) | (exact absurd rfl hc) | conv => whnf) | (refine bcase_intro ?_ ?_ <;> intro hc <;> conv => whnf))
  · exact again.mk ⟨_, by omega, i + 1, _, _, _, _, rfl, by omega, by simp; omega, rfl, by rw [keysOf_snoc (by omega)]⟩
  · obtain rfl : i = P.length := by omega
    refine ⟨b, ?_⟩
    rw [sub_vs, hn]
    simp
    rw [List.take_of_length_le (by simp)]

theorem partsR {L : List (List UInt8)} {P : List GP} {ln pn : Bool} (hL : L.length < 2^63) (hs : ∀ s ∈ L, s.length < 2^63) (hP : P.length < 2^63) (hp : ∀ p ∈ P, p.ok) : PureP (findFn tab) 70 [.sl ln (vs .str L), .sl pn (vs GP.av P)] (· = .int .i64 (partsE L P)) := by
  have hk := keysOf_ln hp
  have hkl : (keysOf P).length < 2^63 := by rw [keysOf_len]; exact hP
  refine pureP_of rfl rfl ?_
  (conv => whnf); repeat' (first | ((with_reducible first | apply kN | apply kW | apply kX | apply kG | apply kQ); (· exact sd); conv => whnf) | (refine pcase.mk ?_ ?_ <;> intro hc <;> (try rw [List.length_nil] at hc) <;> first | (exfalso; omega) | (exact absurd rfl hc) | conv => whnf)  | (refine bcase_intro ?_ ?_ <;> intro hc <;> conv => whnf))
  · exact parts_4 (by omega)
  · exact parts_4 (by omega)
  have h16 : ¬ (8 < L.length ∨ 16 < P.length) := by omega
  refine callK_of (keysR (P := P) (by omega)) ?_
  rintro _ ⟨b, rfl⟩
  (conv => whnf); repeat' (first | (refine callB (namesR hL hs) (fun h1 => ?_) (fun h1 => ?_) <;> conv => whnf) | (refine callB (namesR hkl hk) (fun h2 => ?_) (fun h2 => ?_) <;> conv => whnf) | (refine callB (rises2 hL) (fun h3 => ?_) (fun h3 => ?_) <;> conv => whnf) | (refine callB (rises2 hkl) (fun h4 => ?_) (fun h4 => ?_) <;> conv => whnf) | ((with_reducible first | apply kN | apply kW | apply kX | apply kG | apply kQ); (· exact sd); conv => whnf) | (refine pcase.mk ?_ ?_ <;> intro hc <;> (try rw [List.length_nil] at hc) <;> first | (exfalso; omega) | (exact absurd rfl hc) | conv => whnf) | (refine bcase_intro ?_ ?_ <;> intro hc <;> conv => whnf))
  all_goals first
    | exact parts_6 h16 fun h => h1 h.1
    | exact parts_6 h16 fun h => h2 h.2
    | exact parts_26 h16 ⟨h1, h2⟩ fun h => h3 h.1
    | exact parts_26 h16 ⟨h1, h2⟩ fun h => h4 h.2
    | skip
  refine loop_inv (fun m env s => ∃ (i : Nat), m = P.length - i ∧ env = [(1, .sl pn (vs GP.av P)), (6, .int .i64 i)] ∧ s = ⟨[], 0⟩ ∧ ∀ p ∈ P.take i, leafV p.v) ?_ _ _ _ ⟨0, rfl, rfl, rfl, by simp⟩
  rintro _ _ _ ⟨i, rfl, rfl, rfl, hx⟩
  refine ⟨rfl, ?_⟩
  (conv => whnf); repeat' (first | (refine callB (plain2 (v := (P[i]).v) (hp _ (List.getElem_mem (by omega))).2) (fun hr => ?_) (fun hr => ?_) <;> conv => whnf) | ((with_reducible first | apply kN | apply kW | apply kX | apply kG | apply kQ); (· exact sd); conv => whnf) | (refine pcase.mk ?_ ?_ <;> intro hc <;> (try rw [List.length_nil] at hc) <;> first | (exfalso; omega) | (exact absurd rfl hc) | conv => whnf) | (refine bcase_intro ?_ ?_ <;> intro hc <;> conv => whnf))
  · exact again.mk ⟨_, by omega, i + 1, rfl, rfl, rfl, all_take_succ (by omega) hx hr⟩
  · exact parts_8 h16 ⟨h1, h2⟩ ⟨h3, h4⟩ fun h => hr (h _ (List.getElem_mem _))
  · rw [take_all hc] at hx
    exact parts_0 h16 ⟨h1, h2⟩ ⟨h3, h4⟩ hx

end AI
end Go.Proofs.YtkknpgebiihkfaaGreatDoor
set_option linter.unusedVariables false
namespace Go.Proofs.YtkknpgebiihkfaaGreatDoor
namespace AI

theorem nodeF {g : GG} (hl : g.nodes.length < 2^62) {id : Int} : PureP (findFn tab) 41 [g.av, .int .i64 id] (fun v => ∃ n : GN, v = .tup [n.av, .bool (decide (id ∈ nids g.nodes))]) := by
  refine pureP_of rfl rfl ?_
  (conv => whnf); repeat' (first | ((with_reducible first | apply kN | apply kW | apply kX | apply kG | apply kQ); (· exact sd); conv => whnf) | (refine pcase.mk ?_ ?_ <;> intro hc <;> (try rw [List.length_nil] at hc) <;> first | (exfalso; omega) | (exact absurd rfl hc) | conv => whnf)  | (refine bcase_intro ?_ ?_ <;> intro hc <;> conv => whnf))
  refine loop_inv (fun m env s => ∃ i : Nat, m = g.nodes.length - i ∧ id ∉ nids (g.nodes.take i) ∧ env = [(1, .int .i64 id), (2, .ref 0 0 0 0), (4, .ref 1 1 0 0), (6, .int .i64 i)] ∧ s = ⟨[.arr 0 4 true true [g.av], .arr 1 3 true true [.agg [.int .i64 0, .sl false [], .sl false []]]], 2⟩) ?_ _ _ _ ⟨0, rfl, by simp [nids], rfl, rfl⟩
  rintro _ _ _ ⟨i, rfl, hx, rfl, rfl⟩
  refine ⟨rfl, ?_⟩
  (conv => whnf); repeat' (first | ((with_reducible first | apply kN | apply kW | apply kX | apply kG | apply kQ); (· exact sd); conv => whnf) | (refine pcase.mk ?_ ?_ <;> intro hc <;> (try rw [List.length_nil] at hc) <;> first | (exfalso; omega) | (exact absurd rfl hc) | conv => whnf)  | (refine bcase_intro ?_ ?_ <;> intro hc <;> conv => whnf))
  · refine ⟨g.nodes[i], ?_⟩
    have : id ∈ nids g.nodes := hc ▸ List.mem_map_of_mem (List.getElem_mem _)
    rw [decide_eq_true this]; rfl
  · refine again.mk ⟨_, by omega, i + 1, rfl, ?_, rfl, rfl⟩
    unfold nids at hx ⊢
    rw [List.take_succ_eq_append_getElem (by omega), List.map_append, List.mem_append]
    rintro (h | h)
    · exact hx h
    · simp at h; exact hc h.symm
  · rw [take_all hc] at hx
    refine ⟨⟨0, false, [], false, []⟩, ?_⟩
    rw [decide_eq_false hx]; rfl

theorem nodeC {g : GG} (hg : g.ok) {i : Nat} (hi : i < g.nodes.length) : PureP (findFn tab) 38 [g.av, .int .i64 i] (· = .int .i64 (nodeE g.nodes g.nextN i)) := by
  obtain ⟨g1, g2, g3, g4, g5, g6, g7, g8⟩ := hg
  unfold Ln at g1 g4
  have hat := g3 _ (List.getElem_mem hi)
  refine pureP_of rfl rfl ?_
  (conv => whnf); repeat' (first | (apply nthK_intro; (· exact nVz (i - 1) (by omega) (by omega)); conv => whnf) | (refine callK_of (partsR (L := (g.nodes[i]).labels) (P := (g.nodes[i]).props) hat.2.1 hat.2.2.2.1 hat.2.2.2.2.1 hat.2.2.2.2.2.2) ?_; rintro _ rfl; conv => whnf) | ((with_reducible first | apply kN | apply kW | apply kX | apply kG | apply kQ); (· exact sd); conv => whnf) | (refine pcase.mk ?_ ?_ <;> intro hc <;> (try rw [List.length_nil] at hc) <;> first | (exfalso; omega) | (exact absurd rfl hc) | conv => whnf) | (refine bcase_intro ?_ ?_ <;> intro hc <;> conv => whnf))
  all_goals first
    | (rw [nodeP hi (fun h => by first | assumption | omega) (by omega)]; rfl)
    | (rw [node26 hi (by omega) (by assumption)]; rfl)
    | (rw [node1 hi (fun h => by first | assumption | omega) (by omega)]; rfl)

set_option maxHeartbeats 1000000 in
theorem edgeC {g : GG} (hg : g.ok) (hf : g.nodes.length < 2^62) {i : Nat} (hi : i < g.edges.length) : PureP (findFn tab) 39 [g.av, .int .i64 i] (· = .int .i64 (edgeE g.nodes g.edges g.nextE i)) := by
  obtain ⟨g1, g2, g3, g4, g5, g6, g7, g8⟩ := hg
  unfold Ln at g1 g4
  have hat := g6 _ (List.getElem_mem hi)
  refine pureP_of rfl rfl ?_
  (conv => whnf); repeat' (first | (apply nthK_intro; (· exact nVz (i - 1) (by omega) (by omega)); conv => whnf) | (refine callK_of (nodeF (g := g) (id := (g.edges[i]).fr) hf) ?_; rintro _ ⟨n1, rfl⟩; conv => whnf) | (refine callK_of (nodeF (g := g) (id := (g.edges[i]).to) hf) ?_; rintro _ ⟨n2, rfl⟩; conv => whnf) | (refine callB (name2 (s := (g.edges[i]).ty) hat.2.2.2.1) (fun hnm => ?_) (fun hnm => ?_) <;> conv => whnf) | (refine callK_of (partsR (L := []) (P := (g.edges[i]).props) (by decide) (by simp) hat.2.2.2.2.1 hat.2.2.2.2.2.2) ?_; rintro _ rfl; conv => whnf) | ((with_reducible first | apply kN | apply kW | apply kX | apply kG | apply kQ); (· exact sd); conv => whnf) | (refine pcase.mk ?_ ?_ <;> intro hc <;> (try rw [List.length_nil] at hc) <;> first | (exfalso; omega) | (exact absurd rfl hc) | conv => whnf) | (refine bcase_intro ?_ ?_ <;> intro hc <;> conv => whnf))
  all_goals try simp only [decide_eq_true_eq, decide_eq_false_iff_not] at *
  all_goals first
    | (rw [edge26 hi (by omega) (by assumption)]; rfl)
    | (rw [edge1 hi (fun h => by first | assumption | omega) (by omega)]; rfl)
    | (rw [edgeP hi (fun h => by first | assumption | omega) (by omega) ⟨by assumption, by assumption⟩ hnm]; rfl)
    | (rw [edge6 hi (fun h => by first | assumption | omega) (by omega) ⟨by assumption, by assumption⟩ hnm]; rfl)
    | (rw [edge10 hi (fun h => by first | assumption | omega) (by omega) (fun h => by first | exact absurd h.1 (by assumption) | exact absurd h.2 (by assumption))]; rfl)

theorem checkR {g : GG} (hg : g.ok) : PureP (findFn tab) 18 [g.av] (· = .int .i64 (checkE g)) := by
  have hg0 := hg
  obtain ⟨g1, g2, g3, g4, g5, g6, g7, g8⟩ := hg
  unfold Ln at g1 g4
  refine pureP_of rfl rfl ?_
  (conv => whnf); repeat' (first | ((with_reducible first | apply kN | apply kW | apply kX | apply kG | apply kQ); (· exact sd); conv => whnf) | (refine pcase.mk ?_ ?_ <;> intro hc <;> (try rw [List.length_nil] at hc) <;> first | (exfalso; omega) | (exact absurd rfl hc) | conv => whnf)  | (refine bcase_intro ?_ ?_ <;> intro hc <;> conv => whnf))
  all_goals first | exact check4 (by unfold fitsG; omega) | exact check1 (by unfold fitsG; omega) (by unfold nextG; omega) | skip
  have hf : fitsG g := by unfold fitsG; omega
  have hnx : nextG g := by unfold nextG; omega
  have hf1 := hf.1
  have hf2 := hf.2
  refine loop_inv (fun m env s => ∃ i : Nat, m = g.nodes.length - i ∧ i ≤ g.nodes.length ∧ (∀ k, k < i → nodeE g.nodes g.nextN k = 0) ∧ env = [(1, .ref 0 0 0 0), (3, .int .i64 i)] ∧ s = ⟨[.arr 0 4 true true [g.av]], 1⟩) ?_ _ _ _ ⟨0, rfl, by omega, fun k h => absurd h (by omega), rfl, rfl⟩
  rintro _ _ _ ⟨i, rfl, hin, hx, rfl, rfl⟩
  refine ⟨rfl, ?_⟩
  (conv => whnf); repeat' (first | (refine callK_of (nodeC hg0 (i := i) (by omega)) ?_; rintro _ rfl; conv => whnf) | ((with_reducible first | apply kN | apply kW | apply kX | apply kG | apply kQ); (· exact sd); conv => whnf) | (refine pcase.mk ?_ ?_ <;> intro hc <;> (try rw [List.length_nil] at hc) <;> first | (exfalso; omega) | (exact absurd rfl hc) | conv => whnf) | (refine bcase_intro ?_ ?_ <;> intro hc <;> conv => whnf))
  · exact again.mk ⟨_, by omega, i + 1, rfl, by omega, all_lt_succ hx hc, rfl, rfl⟩
  · exact checkN hf hnx (by omega) hx rfl hc
  have hN : ∀ k, k < g.nodes.length → nodeE g.nodes g.nextN k = 0 := fun k h => hx k (by omega)
  refine loop_inv (fun m env s => ∃ i : Nat, m = g.edges.length - i ∧ i ≤ g.edges.length ∧ (∀ k, k < i → edgeE g.nodes g.edges g.nextE k = 0) ∧ env = [(1, .ref 0 0 0 0), (5, .int .i64 i)] ∧ s = ⟨[.arr 0 4 true true [g.av]], 1⟩) ?_ _ _ _ ⟨0, rfl, by omega, fun k h => absurd h (by omega), rfl, rfl⟩
  rintro _ _ _ ⟨j, rfl, hjn, hy, rfl, rfl⟩
  refine ⟨rfl, ?_⟩
  (conv => whnf); repeat' (first | (refine callK_of (edgeC hg0 (i := j) (by omega) (by omega)) ?_; rintro _ rfl; conv => whnf) | ((with_reducible first | apply kN | apply kW | apply kX | apply kG | apply kQ); (· exact sd); conv => whnf) | (refine pcase.mk ?_ ?_ <;> intro hc <;> (try rw [List.length_nil] at hc) <;> first | (exfalso; omega) | (exact absurd rfl hc) | conv => whnf) | (refine bcase_intro ?_ ?_ <;> intro hc <;> conv => whnf))
  · exact again.mk ⟨_, by omega, j + 1, rfl, by omega, all_lt_succ hy hc, rfl, rfl⟩
  · exact checkEd hf hnx hN (by omega) hy rfl hc
  · exact check0 hf hnx hN fun k h => hy k (by omega)

end AI
end Go.Proofs.YtkknpgebiihkfaaGreatDoor
