/- The reference's parts of a script. -/
import Derived.Test.YtkknpgebiihkfaaGreatDoorDE3
import Derived.Test.YtkknpgebiihkfaaGreatDoorVoC
set_option linter.unusedVariables false
set_option maxRecDepth 4000
namespace Go.Proofs.YtkknpgebiihkfaaGreatDoor
namespace AI

/-- a call whose result becomes the caller's own, nil or not -/
theorem ownKe {AP : Nat → Option AFn} {f es : Nat} {args elems : List AV} {s : Sto} {K : AV → Sto → Prop} (hcl : closedL args = true) (h : Calls1 AP f args ⟨[], 0⟩ fun out s' => ∃ o g nn, out = .ok (.own o g 0 elems.length) ∧ nth s'.σ o = some (.arr g es nn true elems))
    (hk : ∀ nn, K (.own s.σ.length s.ctr 0 elems.length) (push s (.arr s.ctr es nn true elems))) : ∃ N r s', callMode (run AP N) .own f args s = some (.ok r, s') ∧ K r s' := by
  obtain ⟨N, out, s1, h1, o, g, nn, rfl, h2⟩ := h
  exact ⟨N, _, _, by simp [callMode, hcl, h1, h2], hk nn⟩
theorem sl_all {nn : Bool} {D : List GC} : AV.sl nn (sub (vs GC.av D) 0 D.length) = .sl nn (vs GC.av D) := by rw [sub_vs, List.drop_zero, List.take_of_length_le (Nat.le_refl _)]
theorem cmpR2 {a b : GV} (ha : a.ok ∧ Lite 12 a.av) (hb : b.ok ∧ Lite 12 b.av) : PureP (findFn tab) 53 [a.av, b.av] (· = .int .i64 (cmpV 12 a b)) := orderVR 12 ha.1 hb.1 (lite_dep ha.2) (lite_dep hb.2)
theorem propG_av' {l : List GP} {k : List UInt8} : propR l k = (propG l k).av := by
  unfold propR propG
  have e : isK k = isKy k := rfl
  rw [e]
  cases l.find? (isKy k) <;> rfl
theorem propQR {l : List GP} {nn : Bool} (h : GoodP l) {k : List UInt8} : PureP (findFn tab) 75 [.sl nn (vs GP.av l), .str k] (· = (propG l k).av) := by
  have := propB (l := l) (nn := nn) (k := k) (by have := h.1; omega)
  rwa [propG_av'] at this
theorem not_moved {x y : GE} : PureP (findFn tab) 72 [x.av, y.av] (· = .bool (!movedB x y)) := by
  by_cases h : x.fr = y.fr ∧ x.to = y.to ∧ x.ty = y.ty
  · rw [show (!movedB x y) = true by unfold movedB; rw [decide_eq_false (not_not_intro h)]; rfl]
    obtain ⟨h1, h2, h3⟩ := h
    refine pureP_of rfl rfl ?_
    (conv => whnf); repeat' (first  | ((with_reducible first | apply kN | apply kW | apply kX | apply kG | apply kQ); (· exact sd); conv => whnf) | (refine pcase.mk ?_ ?_ <;> intro hc <;> (try rw [List.length_nil] at hc) <;> first | (exfalso; omega) | (exact absurd rfl hc) | conv => whnf) | (refine bcase_intro ?_ ?_ <;> intro hc <;> conv => whnf))
    all_goals first | rfl | exact absurd h1 (by assumption) | exact absurd h2 (by assumption) | exact absurd h3 (by assumption) | (trace_state; fail "same1")
  · rw [show (!movedB x y) = false by unfold movedB; rw [decide_eq_true h]; rfl]
    refine pureP_of rfl rfl ?_
    (conv => whnf); repeat' (first  | ((with_reducible first | apply kN | apply kW | apply kX | apply kG | apply kQ); (· exact sd); conv => whnf) | (refine pcase.mk ?_ ?_ <;> intro hc <;> (try rw [List.length_nil] at hc) <;> first | (exfalso; omega) | (exact absurd rfl hc) | conv => whnf) | (refine bcase_intro ?_ ?_ <;> intro hc <;> conv => whnf))
    all_goals first | rfl | exact absurd ⟨by assumption, by assumption, by assumption⟩ h | (trace_state; fail "same2")
theorem labelR {l : List (List UInt8)} {x : List UInt8} {nn : Bool} (hl : l.length ≤ 4000) : PureP (findFn tab) 73 [.sl nn (vs .str l), .str x] (· = .bool (decide (x ∈ l))) := by
  refine pureP_of rfl rfl ?_
  (conv => whnf); repeat' (first  | ((with_reducible first | apply kN | apply kW | apply kX | apply kG | apply kQ); (· exact sd); conv => whnf) | (refine pcase.mk ?_ ?_ <;> intro hc <;> (try rw [List.length_nil] at hc) <;> first | (exfalso; omega) | (exact absurd rfl hc) | conv => whnf) | (refine bcase_intro ?_ ?_ <;> intro hc <;> conv => whnf))
  refine loop_inv (fun m env s => ∃ i : Nat, m = l.length - i ∧ env = [(0, .sl nn (vs .str l)), (1, .str x), (5, .int .i64 i)] ∧ s = ⟨[], 0⟩ ∧ x ∉ l.take i) ?_ _ _ _ ⟨0, rfl, rfl, rfl, by simp⟩
  rintro _ _ _ ⟨i, rfl, rfl, rfl, hx⟩
  refine ⟨rfl, ?_⟩
  (conv => whnf); repeat' (first  | ((with_reducible first | apply kN | apply kW | apply kX | apply kG | apply kQ); (· exact sd); conv => whnf) | (refine pcase.mk ?_ ?_ <;> intro hc <;> (try rw [List.length_nil] at hc) <;> first | (exfalso; omega) | (exact absurd rfl hc) | conv => whnf) | (refine bcase_intro ?_ ?_ <;> intro hc <;> conv => whnf))
  · subst hc; exact bool_t (by simp)
  · exact again.mk ⟨_, by omega, i + 1, rfl, rfl, rfl, nms (by omega) hx hc⟩
  · rw [take_all hc] at hx; exact bool_f hx
theorem keyR {l : List GP} {x : List UInt8} {nn : Bool} (hl : l.length ≤ 4000) : PureP (findFn tab) 74 [.sl nn (vs GP.av l), .str x] (· = .bool (decide (x ∈ keysOf l))) := by
  refine pureP_of rfl rfl ?_
  (conv => whnf); repeat' (first  | ((with_reducible first | apply kN | apply kW | apply kX | apply kG | apply kQ); (· exact sd); conv => whnf) | (refine pcase.mk ?_ ?_ <;> intro hc <;> (try rw [List.length_nil] at hc) <;> first | (exfalso; omega) | (exact absurd rfl hc) | conv => whnf) | (refine bcase_intro ?_ ?_ <;> intro hc <;> conv => whnf))
  refine loop_inv (fun m env s => ∃ i : Nat, m = l.length - i ∧ env = [(0, .sl nn (vs GP.av l)), (1, .str x), (5, .int .i64 i)] ∧ s = ⟨[], 0⟩ ∧ x ∉ (keysOf l).take i) ?_ _ _ _ ⟨0, rfl, rfl, rfl, by simp⟩
  rintro _ _ _ ⟨i, rfl, rfl, rfl, hx⟩
  refine ⟨rfl, ?_⟩
  have hk := keysOf_len l
  by_cases hlt : i < l.length
  · have e : (keysOf l)[i] = l[i].key := by simp [keysOf]
    (conv => whnf); repeat' (first  | ((with_reducible first | apply kN | apply kW | apply kX | apply kG | apply kQ); (· exact sd); conv => whnf) | (refine pcase.mk ?_ ?_ <;> intro hc <;> (try rw [List.length_nil] at hc) <;> first | (exfalso; omega) | (exact absurd rfl hc) | conv => whnf) | (refine bcase_intro ?_ ?_ <;> intro hc <;> conv => whnf))
    all_goals first | (exfalso; omega) | exact bool_t (List.mem_map.2 ⟨l[i], List.getElem_mem hlt, by assumption⟩) | exact again.mk ⟨_, by omega, i + 1, rfl, rfl, rfl, nms (by omega) hx (by rw [e]; assumption)⟩ | (trace_state; fail "keyR")
  · rw [List.take_of_length_le (by omega)] at hx
    (conv => whnf); repeat' (first  | ((with_reducible first | apply kN | apply kW | apply kX | apply kG | apply kQ); (· exact sd); conv => whnf) | (refine pcase.mk ?_ ?_ <;> intro hc <;> (try rw [List.length_nil] at hc) <;> first | (exfalso; omega) | (exact absurd rfl hc) | conv => whnf) | (refine bcase_intro ?_ ?_ <;> intro hc <;> conv => whnf))
    all_goals first | (exfalso; omega) | exact bool_f hx | (trace_state; fail "keyR2")

theorem labelsQ {op id : Int} {l m : List (List UInt8)} {nl nm : Bool} (hl : l.length ≤ 4000) (hm : m.length ≤ 4000) : PureP (findFn tab) 42 [.int .i64 op, .int .i64 id, .sl nl (vs .str l), .sl nm (vs .str m)] (fun v => ∃ nn, v = .sl nn (vs GC.av (namesL op id l m))) := by
  refine pureP_of rfl rfl ?_
  (conv => whnf); repeat' (first  | ((with_reducible first | apply kN | apply kW | apply kX | apply kG | apply kQ); (· exact sd); conv => whnf) | (refine pcase.mk ?_ ?_ <;> intro hc <;> (try rw [List.length_nil] at hc) <;> first | (exfalso; omega) | (exact absurd rfl hc) | conv => whnf) | (refine bcase_intro ?_ ?_ <;> intro hc <;> conv => whnf))
  refine loop_inv (fun z env s => ∃ (i c ga n : Nat) (fa : Bool) (D : List GC), z = l.length - i ∧ i ≤ l.length ∧ D = namesL op id (l.take i) m ∧ n = D.length ∧ D.length ≤ i ∧ env = [(0, .int .i64 op), (1, .int .i64 id), (2, .sl nl (vs .str l)), (3, .sl nm (vs .str m)), (9, .own 0 ga 0 n), (10, .int .i64 i)] ∧ s = ⟨[.arr ga 10 fa true (vs GC.av D)], c⟩) ?_ _ _ _ ⟨0, _, _, _, _, [], rfl, by omega, rfl, rfl, by simp, rfl, rfl⟩
  rintro _ _ _ ⟨i, c, ga, n, fa, D, rfl, hi, hD, hn, hDl, rfl, rfl⟩
  refine ⟨rfl, ?_⟩
  by_cases hlt : i < l.length
  · have hs : namesL op id (l.take (i + 1)) m = namesL op id (l.take i) m ++ if decide (l[i] ∉ m) = true then [mkC op id l[i]] else [] := fmap_step hlt
    have hq := labelR (l := m) (x := l[i]) (nn := nm) hm
    by_cases hx : l[i] ∈ m
    · rw [if_neg (by simpa using hx), List.append_nil] at hs
      rw [← hs] at hD
      rw [decide_eq_true hx] at hq
      (conv => whnf); repeat' (first | (refine callK_of hq ?_; rintro _ rfl; conv => whnf) | ((with_reducible first | apply kN | apply kW | apply kX | apply kG | apply kQ); (· exact sd); conv => whnf) | (refine pcase.mk ?_ ?_ <;> intro hc <;> (try rw [List.length_nil] at hc) <;> first | (exfalso; omega) | (exact absurd rfl hc) | conv => whnf) | (refine bcase_intro ?_ ?_ <;> intro hc <;> conv => whnf))
      all_goals first | exact again.mk ⟨_, by omega, i + 1, _, _, _, _, D, rfl, by omega, hD, hn, by omega, rfl, rfl⟩ | (exfalso; omega) | (trace_state; fail "c1")
    · rw [if_pos (by simpa using hx)] at hs
      have hD2 : D ++ [mkC op id l[i]] = namesL op id (l.take (i + 1)) m := by rw [hD]; exact hs.symm
      rw [decide_eq_false hx] at hq
      (conv => whnf); repeat' (first | (refine callK_of hq ?_; rintro _ rfl; conv => whnf) | (refine apV1 (f := GC.av) (l := D) (x := mkC op id l[i]) cellsC hn (by omega) ?_; conv => whnf) | ((with_reducible first | apply kN | apply kW | apply kX | apply kG | apply kQ); (· exact sd); conv => whnf) | (refine pcase.mk ?_ ?_ <;> intro hc <;> (try rw [List.length_nil] at hc) <;> first | (exfalso; omega) | (exact absurd rfl hc) | conv => whnf) | (refine bcase_intro ?_ ?_ <;> intro hc <;> conv => whnf))
      all_goals first | exact again.mk ⟨_, by omega, i + 1, _, _, _, _, D ++ [mkC op id l[i]], rfl, by omega, hD2, by simp, by simp; omega, rfl, rfl⟩ | (exfalso; omega) | (trace_state; fail "c2")

  · have e : i = l.length := by omega
    subst e
    subst hn
    (conv => whnf); repeat' (first  | ((with_reducible first | apply kN | apply kW | apply kX | apply kG | apply kQ); (· exact sd); conv => whnf) | (refine pcase.mk ?_ ?_ <;> intro hc <;> (try rw [List.length_nil] at hc) <;> first | (exfalso; omega) | (exact absurd rfl hc) | conv => whnf) | (refine bcase_intro ?_ ?_ <;> intro hc <;> conv => whnf))
    all_goals first | (exfalso; omega) | exact ⟨fa, by rw [hD, List.take_length]⟩ | (trace_state; fail "labelsQE")

theorem removedQ {op id : Int} {l m : List GP} {nl nm : Bool} (hl : l.length ≤ 4000) (hm : m.length ≤ 4000) : PureP (findFn tab) 43 [.int .i64 op, .int .i64 id, .sl nl (vs GP.av l), .sl nm (vs GP.av m)] (fun v => ∃ nn, v = .sl nn (vs GC.av (namesL op id (keysOf l) (keysOf m)))) := by
  refine pureP_of rfl rfl ?_
  (conv => whnf); repeat' (first  | ((with_reducible first | apply kN | apply kW | apply kX | apply kG | apply kQ); (· exact sd); conv => whnf) | (refine pcase.mk ?_ ?_ <;> intro hc <;> (try rw [List.length_nil] at hc) <;> first | (exfalso; omega) | (exact absurd rfl hc) | conv => whnf) | (refine bcase_intro ?_ ?_ <;> intro hc <;> conv => whnf))
  refine loop_inv (fun z env s => ∃ (i c ga n : Nat) (fa : Bool) (D : List GC), z = l.length - i ∧ i ≤ l.length ∧ D = namesL op id ((keysOf l).take i) (keysOf m) ∧ n = D.length ∧ D.length ≤ i ∧ env = [(0, .int .i64 op), (1, .int .i64 id), (2, .sl nl (vs GP.av l)), (3, .sl nm (vs GP.av m)), (9, .own 0 ga 0 n), (10, .int .i64 i)] ∧ s = ⟨[.arr ga 10 fa true (vs GC.av D)], c⟩) ?_ _ _ _ ⟨0, _, _, _, _, [], rfl, by omega, rfl, rfl, by simp, rfl, rfl⟩
  rintro _ _ _ ⟨i, c, ga, n, fa, D, rfl, hi, hD, hn, hDl, rfl, rfl⟩
  refine ⟨rfl, ?_⟩
  by_cases hlt : i < l.length
  · have hk := keysOf_len l
    have e : (keysOf l)[i] = l[i].key := by simp [keysOf]
    have hs : namesL op id ((keysOf l).take (i + 1)) (keysOf m) = namesL op id ((keysOf l).take i) (keysOf m) ++ if decide ((keysOf l)[i] ∉ keysOf m) = true then [mkC op id (keysOf l)[i]] else [] := fmap_step (by omega)
    rw [e] at hs
    have hq := keyR (l := m) (x := l[i].key) (nn := nm) hm
    by_cases hx : l[i].key ∈ keysOf m
    · rw [if_neg (by simpa using hx), List.append_nil] at hs
      rw [← hs] at hD
      rw [decide_eq_true hx] at hq
      (conv => whnf); repeat' (first | (refine callK_of hq ?_; rintro _ rfl; conv => whnf) | ((with_reducible first | apply kN | apply kW | apply kX | apply kG | apply kQ); (· exact sd); conv => whnf) | (refine pcase.mk ?_ ?_ <;> intro hc <;> (try rw [List.length_nil] at hc) <;> first | (exfalso; omega) | (exact absurd rfl hc) | conv => whnf) | (refine bcase_intro ?_ ?_ <;> intro hc <;> conv => whnf))
      all_goals first | exact again.mk ⟨_, by omega, i + 1, _, _, _, _, D, rfl, by omega, hD, hn, by omega, rfl, rfl⟩ | (exfalso; omega) | (trace_state; fail "c1")
    · rw [if_pos (by simpa using hx)] at hs
      have hD2 : D ++ [mkC op id l[i].key] = namesL op id ((keysOf l).take (i + 1)) (keysOf m) := by rw [hD]; exact hs.symm
      rw [decide_eq_false hx] at hq
      (conv => whnf); repeat' (first | (refine callK_of hq ?_; rintro _ rfl; conv => whnf) | (refine apV1 (f := GC.av) (l := D) (x := mkC op id l[i].key) cellsC hn (by omega) ?_; conv => whnf) | ((with_reducible first | apply kN | apply kW | apply kX | apply kG | apply kQ); (· exact sd); conv => whnf) | (refine pcase.mk ?_ ?_ <;> intro hc <;> (try rw [List.length_nil] at hc) <;> first | (exfalso; omega) | (exact absurd rfl hc) | conv => whnf) | (refine bcase_intro ?_ ?_ <;> intro hc <;> conv => whnf))
      all_goals first | exact again.mk ⟨_, by omega, i + 1, _, _, _, _, D ++ [mkC op id l[i].key], rfl, by omega, hD2, by simp, by simp; omega, rfl, rfl⟩ | (exfalso; omega) | (trace_state; fail "c2")

  · have e : i = l.length := by omega
    subst e
    subst hn
    (conv => whnf); repeat' (first  | ((with_reducible first | apply kN | apply kW | apply kX | apply kG | apply kQ); (· exact sd); conv => whnf) | (refine pcase.mk ?_ ?_ <;> intro hc <;> (try rw [List.length_nil] at hc) <;> first | (exfalso; omega) | (exact absurd rfl hc) | conv => whnf) | (refine bcase_intro ?_ ?_ <;> intro hc <;> conv => whnf))
    all_goals first | (exfalso; omega) | exact ⟨fa, by rw [hD, List.take_of_length_le (by rw [keysOf_len]; exact Nat.le_refl _)]⟩ | (trace_state; fail "removedQE")

theorem assignedQ {op id : Int} {l m : List GP} {nl nm : Bool} (hl : GoodP l) (hm : GoodP m) (hp4 : allPlain m) : PureP (findFn tab) 44 [.int .i64 op, .int .i64 id, .sl nl (vs GP.av l), .sl nm (vs GP.av m)] (fun v => ∃ nn, v = .sl nn (vs GC.av (valuesL op id l m))) := by
  have hml := hm.1
  refine pureP_of rfl rfl ?_
  (conv => whnf); repeat' (first  | ((with_reducible first | apply kN | apply kW | apply kX | apply kG | apply kQ); (· exact sd); conv => whnf) | (refine pcase.mk ?_ ?_ <;> intro hc <;> (try rw [List.length_nil] at hc) <;> first | (exfalso; omega) | (exact absurd rfl hc) | conv => whnf) | (refine bcase_intro ?_ ?_ <;> intro hc <;> conv => whnf))
  refine loop_inv (fun z env s => ∃ (i c ga n : Nat) (fa : Bool) (D : List GC), z = m.length - i ∧ i ≤ m.length ∧ D = valuesL op id l (m.take i) ∧ n = D.length ∧ D.length ≤ i ∧ env = [(0, .int .i64 op), (1, .int .i64 id), (2, .sl nl (vs GP.av l)), (3, .sl nm (vs GP.av m)), (9, .own 0 ga 0 n), (10, .int .i64 i)] ∧ s = ⟨[.arr ga 10 fa true (vs GC.av D)], c⟩) ?_ _ _ _ ⟨0, _, _, _, _, [], rfl, by omega, rfl, rfl, by simp, rfl, rfl⟩
  rintro _ _ _ ⟨i, c, ga, n, fa, D, rfl, hi, hD, hn, hDl, rfl, rfl⟩
  refine ⟨rfl, ?_⟩
  by_cases hlt : i < m.length
  · have hs : valuesL op id l (m.take (i + 1)) = valuesL op id l (m.take i) ++ if decide (cmpV 12 (propG l m[i].key) m[i].v ≠ 0) = true then [⟨op, id, 0, 0, m[i].key, m[i].v⟩] else [] := fmap_step hlt
    have hm0 := hm.2 _ (List.getElem_mem hlt)
    have hq := keyR (l := l) (x := m[i].key) (nn := nl) (by have := hl.1; omega)
    have hp := propQR (l := l) (k := m[i].key) (nn := nl) hl
    have ho := cmpR2 (propG_good hl.2 m[i].key) ⟨hm0.1.2, hm0.2⟩
    by_cases hky : m[i].key ∈ keysOf l
    case neg =>
      rw [decide_eq_false hky] at hq
      have hne : cmpV 12 (propG l m[i].key) m[i].v ≠ 0 := by rw [propG_no hky]; exact cmp_leaf (hp4 _ (List.getElem_mem hlt))
      rw [if_pos (by simpa using hne)] at hs
      have hD2 : D ++ [⟨op, id, 0, 0, m[i].key, m[i].v⟩] = valuesL op id l (m.take (i + 1)) := by rw [hD]; exact hs.symm
      (conv => whnf); repeat' (first | (refine callK_of hq ?_; rintro _ rfl; conv => whnf) | (refine apV1 (f := GC.av) (l := D) (x := ⟨op, id, 0, 0, m[i].key, m[i].v⟩) cellsC hn (by omega) ?_; conv => whnf) | ((with_reducible first | apply kN | apply kW | apply kX | apply kG | apply kQ); (· exact sd); conv => whnf) | (refine pcase.mk ?_ ?_ <;> intro hc <;> (try rw [List.length_nil] at hc) <;> first | (exfalso; omega) | (exact absurd rfl hc) | conv => whnf) | (refine bcase_intro ?_ ?_ <;> intro hc <;> conv => whnf))
      all_goals first | exact again.mk ⟨_, by omega, i + 1, _, _, _, _, D ++ [⟨op, id, 0, 0, m[i].key, m[i].v⟩], rfl, by omega, hD2, by simp, by simp; omega, rfl, rfl⟩ | (exfalso; omega) | (trace_state; fail "c0")
    rw [decide_eq_true hky] at hq
    by_cases hx : cmpV 12 (propG l m[i].key) m[i].v = 0
    · rw [if_neg (by simpa using hx), List.append_nil] at hs
      rw [← hs] at hD
      (conv => whnf); repeat' (first | (refine callK_of hq ?_; rintro _ rfl; conv => whnf) | (refine callK_of hp ?_; rintro _ rfl; conv => whnf) | (refine callK_of ho ?_; rintro _ rfl; conv => whnf) | ((with_reducible first | apply kN | apply kW | apply kX | apply kG | apply kQ); (· exact sd); conv => whnf) | (refine pcase.mk ?_ ?_ <;> intro hc <;> (try rw [List.length_nil] at hc) <;> first | (exfalso; omega) | (exact absurd rfl hc) | conv => whnf) | (refine bcase_intro ?_ ?_ <;> intro hc <;> conv => whnf))
      all_goals first | exact again.mk ⟨_, by omega, i + 1, _, _, _, _, D, rfl, by omega, hD, hn, by omega, rfl, rfl⟩ | (exfalso; omega) | (trace_state; fail "c1")
    · rw [if_pos (by simpa using hx)] at hs
      have hD2 : D ++ [⟨op, id, 0, 0, m[i].key, m[i].v⟩] = valuesL op id l (m.take (i + 1)) := by rw [hD]; exact hs.symm
      (conv => whnf); repeat' (first | (refine callK_of hq ?_; rintro _ rfl; conv => whnf) | (refine callK_of hp ?_; rintro _ rfl; conv => whnf) | (refine callK_of ho ?_; rintro _ rfl; conv => whnf) | (refine apV1 (f := GC.av) (l := D) (x := ⟨op, id, 0, 0, m[i].key, m[i].v⟩) cellsC hn (by omega) ?_; conv => whnf) | ((with_reducible first | apply kN | apply kW | apply kX | apply kG | apply kQ); (· exact sd); conv => whnf) | (refine pcase.mk ?_ ?_ <;> intro hc <;> (try rw [List.length_nil] at hc) <;> first | (exfalso; omega) | (exact absurd rfl hc) | conv => whnf) | (refine bcase_intro ?_ ?_ <;> intro hc <;> conv => whnf))
      all_goals first | exact again.mk ⟨_, by omega, i + 1, _, _, _, _, D ++ [⟨op, id, 0, 0, m[i].key, m[i].v⟩], rfl, by omega, hD2, by simp, by simp; omega, rfl, rfl⟩ | (exfalso; omega) | (trace_state; fail "c2")

  · have e : i = m.length := by omega
    subst e
    subst hn
    (conv => whnf); repeat' (first  | ((with_reducible first | apply kN | apply kW | apply kX | apply kG | apply kQ); (· exact sd); conv => whnf) | (refine pcase.mk ?_ ?_ <;> intro hc <;> (try rw [List.length_nil] at hc) <;> first | (exfalso; omega) | (exact absurd rfl hc) | conv => whnf) | (refine bcase_intro ?_ ?_ <;> intro hc <;> conv => whnf))
    all_goals first | (exfalso; omega) | exact ⟨fa, by rw [hD, List.take_length]⟩ | (trace_state; fail "assignedQE")

end AI
end Go.Proofs.YtkknpgebiihkfaaGreatDoor
