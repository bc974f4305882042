/- The law DegreeSums, about the evaluator. -/
import Derived.Test.YtokdbmakkoleiaaGreatSmB
import Derived.Test.YtokdbmakkoleiaaGreatDwLives
import Derived.Test.YtokdbmakkoleiaaGreatEnK
set_option linter.unusedVariables false
namespace Go.Proofs.YtokdbmakkoleiaaGreat
namespace AI

theorem aliveS : PureP (findFn tab) 7 [] (· = .bool (decide True)) := ⟨.bool true, ⟨60, alive_call⟩, rfl⟩

theorem fewS {g : GG} (hg : g.ok) : PureP (findFn tab) 6 [g.av] (fun v => ∃ b, v = .bool b ∧ (b = true → g.nodes.length ≤ 60 ∧ g.edges.length ≤ 100)) := by
  have h1 := hg.1
  have h2 := hg.2.2.2.1
  unfold Ln at h1 h2
  refine pureP_of rfl rfl ?_
  (conv => whnf); repeat' (first  | ((with_reducible first | apply kN | apply kW | apply kX | apply kG | apply kQ); (· exact sd); conv => whnf) | (refine pcase.mk ?_ ?_ <;> intro hc <;> (try rw [List.length_nil] at hc) <;> first | (exfalso; omega) | (exact absurd rfl hc) | conv => whnf) | (refine bcase_intro ?_ ?_ <;> intro hc <;> conv => whnf))
  all_goals first
    | exact ⟨_, rfl, fun _ => ⟨by omega, by omega⟩⟩
    | exact ⟨_, rfl, fun h => Bool.noConfusion h⟩
    | exact ⟨_, rfl, fun h => ⟨by omega, by have := of_decide_eq_true h; omega⟩⟩

theorem labS {g : GG} (hc : checkE g = 0) : ∀ n ∈ g.nodes, n.labels.length ≤ 8 := by
  intro n hn
  obtain ⟨c1, c2, c3, c4⟩ := check_ok hc
  obtain ⟨k, hk, rfl⟩ := List.getElem_of_mem hn
  have h := (node_ok hk (c3 k hk)).2.2.2
  refine Decidable.byContradiction fun h8 => ?_
  rw [partsE, if_pos (.inl (by omega))] at h
  omega

/-- names that increase -/
theorem inc_at {R : List (List UInt8)} (h : Inc R) {i j : Nat} (hij : i < j) (hj : j < R.length) : ltS R[i] R[j] = true := List.pairwise_iff_getElem.1 h i j (by omega) hj hij

/-- one of the sequences, summed up -/
theorem seqS {g : GG} (hck : checkE g = 0) (hN : g.nodes.length ≤ 60) (hE : g.edges.length ≤ 100) {dir : Int} (hd : dir = 1 ∨ dir = 2) {T : List (List UInt8)} (hT : ∀ x ∈ T, x ≠ []) {O : List (Bool × List Int)} (h : SeqsOf g dir T O) {i : Nat} (hi : i < T.length) (ho : i < O.length) :
    PureP (findFn tab) 15 [slI O[i]] (· = .int .i64 (cntT g.edges T[i])) := by
  have e : (O[i]).2 = seqL g dir T[i] := by
    have := congrArg (fun l => l[i]?) h.1
    simp only [List.getElem?_map, List.getElem?_eq_getElem hi, List.getElem?_eq_getElem ho, Option.map] at this
    exact Option.some.inj this
  have hp := sortB_perm (k := id) (l := degs T[i] dir g.nodes g.edges)
  have hl : (seqL g dir T[i]).length ≤ 2000 := by
    have := degs_len (typ := T[i]) (dir := dir) (N := g.nodes) (E := g.edges)
    unfold seqL; rw [hp.length_eq]; omega
  have hs := sumP (b := (O[i]).1) hl sortB_desc (seqL_in (by omega) hp)
  rw [seqL_sum hck hd (hT _ (List.getElem_mem hi)), ← e] at hs
  exact hs

theorem geq_no {a b : List UInt8} (h : ltS a b = true) : (Op.bytesLess b a || b == a) = false := by
  have h1 : Op.bytesLess b a = false := ltS_swo.asymm h
  rw [h1, Bool.false_or]
  refine beq_eq_false_iff_ne.2 fun e => ?_
  rw [e, ltS_swo.irrefl] at h
  cases h

set_option maxHeartbeats 1000000 in
set_option maxRecDepth 10000 in
theorem law_sums : ∀ xs, likes Tryz.prog [25] xs → Calls1 (findFn tab) 4 xs ⟨[], 0⟩ fun out _ => out = .ok (.bool true) := by
  intro xs h
  match xs, h with
  | [a], h =>
    obtain ⟨h1, _⟩ := h
    obtain ⟨g, rfl, hg⟩ := like_graph h1
    refine calls1_of rfl rfl ?_
    (conv => whnf); repeat' (first  | ((with_reducible first | apply kN | apply kW | apply kX | apply kG | apply kQ); (· exact sd); conv => whnf) | (refine pcase.mk ?_ ?_ <;> intro hc <;> (try rw [List.length_nil] at hc) <;> first | (exfalso; omega) | (exact absurd rfl hc) | conv => whnf) | (refine bcase_intro ?_ ?_ <;> intro hc <;> conv => whnf))
    refine callK_of (fewS hg) ?_
    rintro _ ⟨b, rfl, hb⟩
    cases b with
    | false =>
      (conv => whnf); repeat' (first | (refine callB aliveS (fun _ => ?_) (fun h => absurd trivial h); conv => whnf) | ((with_reducible first | apply kN | apply kW | apply kX | apply kG | apply kQ); (· exact sd); conv => whnf) | (refine pcase.mk ?_ ?_ <;> intro hc <;> (try rw [List.length_nil] at hc) <;> first | (exfalso; omega) | (exact absurd rfl hc) | conv => whnf) | (refine bcase_intro ?_ ?_ <;> intro hc <;> conv => whnf))
      rfl
    | true =>
    obtain ⟨hN, hE⟩ := hb rfl
    (conv => whnf); repeat' (first | (refine callK_of (checkR hg) ?_; rintro _ rfl; conv => whnf) | (refine callB aliveS (fun _ => ?_) (fun h => absurd trivial h); conv => whnf) | ((with_reducible first | apply kN | apply kW | apply kX | apply kG | apply kQ); (· exact sd); conv => whnf) | (refine pcase.mk ?_ ?_ <;> intro hc <;> (try rw [List.length_nil] at hc) <;> first | (exfalso; omega) | (exact absurd rfl hc) | conv => whnf) | (refine bcase_intro ?_ ?_ <;> intro hc <;> conv => whnf))
    rotate_left
    · rfl
    have hck : checkE g = 0 := hc
    have hL : ∀ n ∈ g.nodes, n.labels.length ≤ 2000 := fun n hn => by have := labS hck n hn; omega
    refine callK_of (ofP hg (by omega) (by omega) hck hL) ?_
    rintro _ ⟨ln, tn, un, vn, R, T, O, I, rfl, i1, m1, i2, m2, s1, s2⟩
    have lT := nodup_len (inc_nodup i2) fun x hx => (m2 x).1 hx
    simp only [typesOf, List.length_map] at lT
    have lO := seqsOf_len s1
    have lI := seqsOf_len s2
    have hT0 : ∀ x ∈ T, x ≠ [] := fun x hx => type_ne hck ((m2 x).1 hx)
    have hTS : sumI (T.map (cntT g.edges)) = g.edges.length := types_sum (inc_nodup i2) fun e he => (m2 _).2 (List.mem_map_of_mem he)
    obtain ⟨L, hLd⟩ : ∃ L, L = cnts (cntT g.edges) T := ⟨_, rfl⟩
    have lL : L.length = T.length := by rw [hLd]; simp [cnts]
    have hLi : ∀ i (h : i < T.length), L[i]'(by omega) = ⟨T[i], cntT g.edges T[i]⟩ := fun i h => by subst hLd; simp [cnts]
    rw [← hLd]
    (conv => whnf); repeat' (first  | ((with_reducible first | apply kN | apply kW | apply kX | apply kG | apply kQ); (· exact sd); conv => whnf) | (refine pcase.mk ?_ ?_ <;> intro hc <;> (try rw [List.length_nil] at hc) <;> first | (exfalso; omega) | (exact absurd rfl hc) | conv => whnf) | (refine bcase_intro ?_ ?_ <;> intro hc <;> conv => whnf))
    refine loop_inv (fun m env s => ∃ (i c : Nat) (z : Int), m = T.length - i ∧ i ≤ T.length ∧ z = sumI ((T.take i).map (cntT g.edges)) ∧ env = [(1, .ref 0 0 0 0), (3, .ref 1 1 0 0), (5, .int .i64 z), (6, .int .i64 i)] ∧ s = ⟨[.arr 0 4 true true [g.av], .arr 1 6 true true [.agg [.int .i64 g.nodes.length, .int .i64 g.edges.length, .sl ln (vs CN.av (cnts (cntL g.nodes) R)), .sl tn (vs CN.av L), .sl un (vs slI O), .sl vn (vs slI I)]]], c⟩) ?_ _ _ _ ⟨0, _, 0, rfl, by omega, rfl, rfl, rfl⟩
    rintro _ _ _ ⟨i, c, z, rfl, hi, hz, rfl, rfl⟩
    refine ⟨rfl, ?_⟩
    by_cases hlt : i < T.length
    · have hb := sumI_bound (l := T.take i) (f := cntT g.edges) (c := 100) fun x _ => by have := @cntT_bound g.edges x; omega
      rw [List.length_take, ← hz] at hb
      have hs := sumI_take (f := cntT g.edges) hlt
      rw [← hz] at hs
      have hcb := @cntT_bound g.edges T[i]
      have hout := seqS hck hN hE (.inl rfl) hT0 s1 hlt (by omega)
      have hin := seqS hck hN hE (.inr rfl) hT0 s2 hlt (by omega)
      have he := hLi i hlt
      have hgq : 0 < i → Op.bytesLess (L[i - 1]'(by omega)).name (L[i]'(by omega)).name = true := fun h => by
        rw [he, hLi (i - 1) (by omega)]
        exact inc_at i2 (by omega) hlt
      have hed := @edgesP L g.nodes.length g.edges.length ln tn un vn (vs CN.av (cnts (cntL g.nodes) R)) (vs slI O) (vs slI I) i (by omega) (by omega) (fun j h hj e => by
        rw [he, hLi j (by omega)] at e
        have := inc_at i2 hj hlt
        dsimp only at e
        rw [e, ltS_swo.irrefl] at this
        cases this) (by rw [he]; dsimp only; omega)
      have en : (L[i]'(by omega)).n = cntT g.edges T[i] := by rw [he]
      clear hz
      (conv => whnf); repeat' (first | (refine callK_of hout ?_; rintro _ rfl; conv => whnf) | (refine callK_of hin ?_; rintro _ rfl; conv => whnf) | (refine callK_of hed ?_; rintro _ rfl; conv => whnf) | (apply nthK_intro; (· exact (fun (_ : 0 < i) => nVz (i - 1) (by omega) (by omega)) (by omega)); conv => whnf) | (refine bcase_intro (fun hc => ?_) (fun hc => ?_) <;> first | (exfalso; rw [hgq (by omega)] at hc; exact absurd hc (by decide)) | conv => whnf) | ((with_reducible first | apply kN | apply kW | apply kX | apply kG | apply kQ); (· exact sd); conv => whnf) | (refine pcase.mk ?_ ?_ <;> intro hc <;> (try rw [List.length_nil] at hc) <;> first | (exfalso; omega) | (exact absurd rfl hc) | conv => whnf) | (refine bcase_intro ?_ ?_ <;> intro hc <;> conv => whnf))
      all_goals first
        | exact again.mk ⟨_, by omega, i + 1, _, _, rfl, by omega, rfl, rfl, rfl⟩
        | exact again.mk ⟨_, by omega, i + 1, _, _, rfl, by omega, hs.symm, rfl, rfl⟩
        | (rw [en]; exact again.mk ⟨_, by omega, i + 1, _, _, rfl, by omega, hs.symm, rfl, rfl⟩)
        | trace_state
    · rw [List.take_of_length_le (by omega), hTS] at hz
      subst hz
      obtain ⟨v1, ⟨f1, W1, rfl, q1, z1⟩, d1⟩ := (seqA (typ := []) (dir := 1) hg (by omega) (by omega)).det
      obtain ⟨v2, ⟨f2, W2, rfl, q2, z2⟩, d2⟩ := (seqA (typ := []) (dir := 2) hg (by omega) (by omega)).det
      have l1 := seqOf_len q1
      have l2 := seqOf_len q2
      obtain ⟨a1, p1⟩ := q1.2 hck
      obtain ⟨a2, p2⟩ := q2.2 hck
      have t1 := sumP (b := f1) (by omega) a1 (seqL_in (by omega) p1)
      have t2 := sumP (b := f2) (by omega) a2 (seqL_in (by omega) p2)
      rw [seq0_sum hck (.inl rfl) p1] at t1
      rw [seq0_sum hck (.inr rfl) p2] at t2
      (conv => whnf); repeat' (first | (refine callK_of d1 ?_; rintro _ rfl; conv => whnf) | (refine callK_of d2 ?_; rintro _ rfl; conv => whnf) | (refine callK_of t1 ?_; rintro _ rfl; conv => whnf) | (refine callK_of t2 ?_; rintro _ rfl; conv => whnf) | (refine callB aliveS (fun _ => ?_) (fun h => absurd trivial h); conv => whnf) | ((with_reducible first | apply kN | apply kW | apply kX | apply kG | apply kQ); (· exact sd); conv => whnf) | (refine pcase.mk ?_ ?_ <;> intro hc <;> (try rw [List.length_nil] at hc) <;> first | (exfalso; omega) | (exact absurd rfl hc) | conv => whnf) | (refine bcase_intro ?_ ?_ <;> intro hc <;> conv => whnf))
      all_goals first | rfl | trace_state

end AI
end Go.Proofs.YtokdbmakkoleiaaGreat
