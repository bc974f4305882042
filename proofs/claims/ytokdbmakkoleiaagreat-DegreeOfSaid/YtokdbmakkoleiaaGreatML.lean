/- Same statistics answer true. The law DegreeOf, about the evaluator. -/
import Derived.Test.YtokdbmakkoleiaaGreatOrD
import Derived.Test.YtokdbmakkoleiaaGreatDwLives
import Derived.Test.YtokdbmakkoleiaaGreatEnK
set_option linter.unusedVariables false
namespace Go.Proofs.YtokdbmakkoleiaaGreat
namespace AI

theorem intsS {a : List Int} {na nb : Bool} (ha : a.length < 2^62) : PureP (findFn tab) 11 [.sl na (vi a), .sl nb (vi a)] (· = .bool (decide True)) := by
  refine pureP_of rfl rfl ?_
  (conv => whnf); repeat' (first  | ((with_reducible first | apply kN | apply kW | apply kX | apply kG | apply kQ); (· exact sd); conv => whnf) | (refine pcase.mk ?_ ?_ <;> intro hc <;> (try rw [List.length_nil] at hc) <;> first | (exfalso; omega) | (exact absurd rfl hc) | conv => whnf) | (refine bcase_intro ?_ ?_ <;> intro hc <;> conv => whnf))
  refine loop_inv (fun m env s => ∃ i : Nat, m = a.length - i ∧ i ≤ a.length ∧ env = [(0, .sl na (vi a)), (1, .sl nb (vi a)), (5, .int .i64 i)] ∧ s = ⟨[], 0⟩) ?_ _ _ _ ⟨0, rfl, by omega, rfl, rfl⟩
  rintro _ _ _ ⟨i, rfl, hi, rfl, rfl⟩
  refine ⟨rfl, ?_⟩
  by_cases hlt : i < a.length
  · (conv => whnf); repeat' (first  | ((with_reducible first | apply kN | apply kW | apply kX | apply kG | apply kQ); (· exact sd); conv => whnf) | (refine pcase.mk ?_ ?_ <;> intro hc <;> (try rw [List.length_nil] at hc) <;> first | (exfalso; omega) | (exact absurd rfl hc) | conv => whnf) | (refine bcase_intro ?_ ?_ <;> intro hc <;> conv => whnf))
    exact again.mk ⟨_, by omega, i + 1, rfl, by omega, rfl, rfl⟩
  · (conv => whnf); repeat' (first  | ((with_reducible first | apply kN | apply kW | apply kX | apply kG | apply kQ); (· exact sd); conv => whnf) | (refine pcase.mk ?_ ?_ <;> intro hc <;> (try rw [List.length_nil] at hc) <;> first | (exfalso; omega) | (exact absurd rfl hc) | conv => whnf) | (refine bcase_intro ?_ ?_ <;> intro hc <;> conv => whnf))
    rfl

theorem neqC (c : CN) : bin .neq (.flat [.str, .int]) c.av c.av = some (.bool false) := by
  simp [bin, eqAV, eqFlat, eqLeaf, CN.av]
theorem countsS {a : List CN} {na nb : Bool} (ha : a.length < 2^62) : PureP (findFn tab) 29 [.sl na (vs CN.av a), .sl nb (vs CN.av a)] (· = .bool (decide True)) := by
  refine pureP_of rfl rfl ?_
  (conv => whnf); repeat' (first  | ((with_reducible first | apply kN | apply kW | apply kX | apply kG | apply kQ); (· exact sd); conv => whnf) | (refine pcase.mk ?_ ?_ <;> intro hc <;> (try rw [List.length_nil] at hc) <;> first | (exfalso; omega) | (exact absurd rfl hc) | conv => whnf) | (refine bcase_intro ?_ ?_ <;> intro hc <;> conv => whnf))
  refine loop_inv (fun m env s => ∃ i : Nat, m = a.length - i ∧ i ≤ a.length ∧ env = [(0, .sl na (vs CN.av a)), (1, .sl nb (vs CN.av a)), (5, .int .i64 i)] ∧ s = ⟨[], 0⟩) ?_ _ _ _ ⟨0, rfl, by omega, rfl, rfl⟩
  rintro _ _ _ ⟨i, rfl, hi, rfl, rfl⟩
  refine ⟨rfl, ?_⟩
  by_cases hlt : i < a.length
  · (conv => whnf); repeat' (first | ((with_reducible show getK _ _); refine getK_intro (neqC a[i]) ?_; conv => whnf) | ((with_reducible first | apply kN | apply kW | apply kX | apply kG | apply kQ); (· exact sd); conv => whnf) | (refine pcase.mk ?_ ?_ <;> intro hc <;> (try rw [List.length_nil] at hc) <;> first | (exfalso; omega) | (exact absurd rfl hc) | conv => whnf) | (refine bcase_intro ?_ ?_ <;> intro hc <;> conv => whnf))
    exact again.mk ⟨_, by omega, i + 1, rfl, by omega, rfl, rfl⟩
  · (conv => whnf); repeat' (first  | ((with_reducible first | apply kN | apply kW | apply kX | apply kG | apply kQ); (· exact sd); conv => whnf) | (refine pcase.mk ?_ ?_ <;> intro hc <;> (try rw [List.length_nil] at hc) <;> first | (exfalso; omega) | (exact absurd rfl hc) | conv => whnf) | (refine bcase_intro ?_ ?_ <;> intro hc <;> conv => whnf))
    rfl

theorem listsS {a b : List (Bool × List Int)} {na nb : Bool} (ha : a.length < 2^62) (h : a.map Prod.snd = b.map Prod.snd) (hl : ∀ p ∈ a, p.2.length < 2^62) : PureP (findFn tab) 30 [.sl na (vs slI a), .sl nb (vs slI b)] (· = .bool (decide True)) := by
  have hab : a.length = b.length := by have := congrArg List.length h; simpa using this
  refine pureP_of rfl rfl ?_
  (conv => whnf); repeat' (first  | ((with_reducible first | apply kN | apply kW | apply kX | apply kG | apply kQ); (· exact sd); conv => whnf) | (refine pcase.mk ?_ ?_ <;> intro hc <;> (try rw [List.length_nil] at hc) <;> first | (exfalso; omega) | (exact absurd rfl hc) | conv => whnf) | (refine bcase_intro ?_ ?_ <;> intro hc <;> conv => whnf))
  refine loop_inv (fun m env s => ∃ i : Nat, m = a.length - i ∧ i ≤ a.length ∧ env = [(0, .sl na (vs slI a)), (1, .sl nb (vs slI b)), (5, .int .i64 i)] ∧ s = ⟨[], 0⟩) ?_ _ _ _ ⟨0, rfl, by omega, rfl, rfl⟩
  rintro _ _ _ ⟨i, rfl, hi, rfl, rfl⟩
  refine ⟨rfl, ?_⟩
  by_cases hlt : i < a.length
  · have hb : i < b.length := by omega
    have e : (b[i]).2 = (a[i]).2 := by
      have := congrArg (fun l => l[i]?) h
      simp only [List.getElem?_map, List.getElem?_eq_getElem hlt, List.getElem?_eq_getElem hb, Option.map] at this
      exact (Option.some.inj this).symm
    have hx := @intsS (a[i]).2 (a[i]).1 (b[i]).1 (hl _ (List.getElem_mem hlt))
    have eb : slI b[i] = .sl (b[i]).1 (vi (a[i]).2) := by unfold slI; rw [e]
    (conv => whnf); repeat' (first | (refine callB (by have hx2 := hx; rw [← eb] at hx2; exact hx2) (fun _ => ?_) (fun h => absurd trivial h); conv => whnf) | ((with_reducible first | apply kN | apply kW | apply kX | apply kG | apply kQ); (· exact sd); conv => whnf) | (refine pcase.mk ?_ ?_ <;> intro hc <;> (try rw [List.length_nil] at hc) <;> first | (exfalso; omega) | (exact absurd rfl hc) | conv => whnf) | (refine bcase_intro ?_ ?_ <;> intro hc <;> conv => whnf))
    exact again.mk ⟨_, by omega, i + 1, rfl, by omega, rfl, rfl⟩
  · (conv => whnf); repeat' (first  | ((with_reducible first | apply kN | apply kW | apply kX | apply kG | apply kQ); (· exact sd); conv => whnf) | (refine pcase.mk ?_ ?_ <;> intro hc <;> (try rw [List.length_nil] at hc) <;> first | (exfalso; omega) | (exact absurd rfl hc) | conv => whnf) | (refine bcase_intro ?_ ?_ <;> intro hc <;> conv => whnf))
    rfl

end AI
end Go.Proofs.YtokdbmakkoleiaaGreat
set_option linter.unusedVariables false
namespace Go.Proofs.YtokdbmakkoleiaaGreat
namespace AI

theorem aliveO : PureP (findFn tab) 7 [] (· = .bool (decide True)) := ⟨.bool true, ⟨60, alive_call⟩, rfl⟩

theorem fewO {g : GG} (hg : g.ok) : PureP (findFn tab) 6 [g.av] (fun v => ∃ b, v = .bool b ∧ (b = true → g.nodes.length ≤ 60 ∧ g.edges.length ≤ 100)) := by
  have h1 := hg.1
  have h2 := hg.2.2.2.1
  unfold Ln at h1 h2
  refine pureP_of rfl rfl ?_
  (conv => whnf); repeat' (first  | ((with_reducible first | apply kN | apply kW | apply kX | apply kG | apply kQ); (· exact sd); conv => whnf) | (refine pcase.mk ?_ ?_ <;> intro hc <;> (try rw [List.length_nil] at hc) <;> first | (exfalso; omega) | (exact absurd rfl hc) | conv => whnf) | (refine bcase_intro ?_ ?_ <;> intro hc <;> conv => whnf))
  all_goals first
    | exact ⟨_, rfl, fun _ => ⟨by omega, by omega⟩⟩
    | exact ⟨_, rfl, fun h => Bool.noConfusion h⟩
    | exact ⟨_, rfl, fun h => ⟨by omega, by have := of_decide_eq_true h; omega⟩⟩

theorem labels8 {g : GG} (hc : checkE g = 0) : ∀ n ∈ g.nodes, n.labels.length ≤ 8 := by
  intro n hn
  obtain ⟨c1, c2, c3, c4⟩ := check_ok hc
  obtain ⟨k, hk, rfl⟩ := List.getElem_of_mem hn
  have h := (node_ok hk (c3 k hk)).2.2.2
  refine Decidable.byContradiction fun h8 => ?_
  rw [partsE, if_pos (.inl (by omega))] at h
  omega

theorem seqL_len {g : GG} {dir : Int} {x : List UInt8} : (seqL g dir x).length ≤ g.nodes.length := by
  unfold seqL
  rw [sortB_perm.length_eq]
  exact degs_len
theorem seqs_small {g : GG} (hN : g.nodes.length ≤ 2000) {dir : Int} {T : List (List UInt8)} {O : List (Bool × List Int)} (h : O.map Prod.snd = T.map (seqL g dir)) : ∀ p ∈ O, p.2.length < 2^62 := by
  intro p hp
  have : p.2 ∈ T.map (seqL g dir) := by rw [← h]; exact List.mem_map_of_mem hp
  obtain ⟨x, _, hx⟩ := List.mem_map.1 this
  have := @seqL_len g dir x
  rw [← hx]; omega

theorem sameSt {N E : Int} {l1 l2 t1 t2 u1 u2 v1 v2 : Bool} {L T : List CN} {O I O' I' : List (Bool × List Int)} (hL : L.length < 2^62) (hT : T.length < 2^62) (hO : O.length < 2^62) (hI : I.length < 2^62)
    (h1 : O.map Prod.snd = O'.map Prod.snd) (h2 : I.map Prod.snd = I'.map Prod.snd) (h3 : ∀ p ∈ O, p.2.length < 2^62) (h4 : ∀ p ∈ I, p.2.length < 2^62) :
    PureP (findFn tab) 10 [.agg [.int .i64 N, .int .i64 E, .sl l1 (vs CN.av L), .sl t1 (vs CN.av T), .sl u1 (vs slI O), .sl v1 (vs slI I)], .agg [.int .i64 N, .int .i64 E, .sl l2 (vs CN.av L), .sl t2 (vs CN.av T), .sl u2 (vs slI O'), .sl v2 (vs slI I')]] (· = .bool (decide True)) := by
  refine pureP_of rfl rfl ?_
  (conv => whnf); repeat' (first | (refine callB (countsS hL) (fun _ => ?_) (fun h => absurd trivial h); conv => whnf) | (refine callB (countsS hT) (fun _ => ?_) (fun h => absurd trivial h); conv => whnf) | (refine callB (listsS hO h1 h3) (fun _ => ?_) (fun h => absurd trivial h); conv => whnf) | (refine callB (listsS hI h2 h4) (fun _ => ?_) (fun h => absurd trivial h); conv => whnf) | ((with_reducible first | apply kN | apply kW | apply kX | apply kG | apply kQ); (· exact sd); conv => whnf) | (refine pcase.mk ?_ ?_ <;> intro hc <;> (try rw [List.length_nil] at hc) <;> first | (exfalso; omega) | (exact absurd rfl hc) | conv => whnf) | (refine bcase_intro ?_ ?_ <;> intro hc <;> conv => whnf))
  rfl

set_option maxHeartbeats 1000000 in
set_option maxRecDepth 10000 in
theorem law_of : ∀ xs, likes Tryz.prog [25, 9, 3] xs → Calls1 (findFn tab) 3 xs ⟨[], 0⟩ fun out _ => out = .ok (.bool true) := by
  intro xs h
  match xs, h with
  | [a, b, c], h =>
    obtain ⟨h1, h2, h3, _⟩ := h
    obtain ⟨g, rfl, hg⟩ := like_graph h1
    obtain ⟨_, h2⟩ := h2
    obtain ⟨t, rfl, ht⟩ := like_str h2
    obtain ⟨_, h3⟩ := h3
    obtain ⟨d, rfl, hd⟩ := like_int Tryz.underlying3 h3
    refine calls1_of rfl rfl ?_
    (conv => whnf); repeat' (first  | ((with_reducible first | apply kN | apply kW | apply kX | apply kG | apply kQ); (· exact sd); conv => whnf) | (refine pcase.mk ?_ ?_ <;> intro hc <;> (try rw [List.length_nil] at hc) <;> first | (exfalso; omega) | (exact absurd rfl hc) | conv => whnf) | (refine bcase_intro ?_ ?_ <;> intro hc <;> conv => whnf))
    refine callK_of (fewO hg) ?_
    rintro _ ⟨b, rfl, hb⟩
    cases b with
    | false =>
      (conv => whnf); repeat' (first | (refine callB aliveO (fun _ => ?_) (fun h => absurd trivial h); conv => whnf) | ((with_reducible first | apply kN | apply kW | apply kX | apply kG | apply kQ); (· exact sd); conv => whnf) | (refine pcase.mk ?_ ?_ <;> intro hc <;> (try rw [List.length_nil] at hc) <;> first | (exfalso; omega) | (exact absurd rfl hc) | conv => whnf) | (refine bcase_intro ?_ ?_ <;> intro hc <;> conv => whnf))
      rfl
    | true =>
    obtain ⟨hN, hE⟩ := hb rfl
    obtain ⟨v1, ⟨f1, W1, rfl, q1, z1⟩, d1⟩ := (seqA (typ := t) (dir := d) hg (by omega) (by omega)).det
    obtain ⟨v2, ⟨f2, W2, rfl, q2⟩, d2⟩ := (seqR (typ := t) (dir := d) hg (by omega) (by omega)).det
    obtain rfl := seqOf_eq q1 q2
    have lW := seqOf_len q1
    by_cases hck : checkE g = 0
    · have h8 := labels8 hck
      have hL : ∀ n ∈ g.nodes, n.labels.length ≤ 2000 := fun n hn => by have := h8 n hn; omega
      obtain ⟨x1, ⟨ln, tn, un, vn, R, T, O, I, rfl, i1, m1, i2, m2, s1, s2⟩, e1⟩ := (ofP hg (by omega) (by omega) hck hL).det
      obtain ⟨x2, ⟨ln', tn', un', vn', R', T', O', I', rfl, i1', m1', i2', m2', s1', s2'⟩, e2⟩ := (ofR hg (by omega) (by omega) hck hL).det
      obtain rfl := inc_unique i1 i1' fun x => by rw [m1, m1']
      obtain rfl := inc_unique i2 i2' fun x => by rw [m2, m2']
      have lR := nodup_len (inc_nodup i1) fun x hx => (m1 x).1 hx
      have lR2 := labs_len (R := R) hL
      have lT := nodup_len (inc_nodup i2) fun x hx => (m2 x).1 hx
      simp only [typesOf, List.length_map] at lT
      have lO := seqsOf_len s1
      have lI := seqsOf_len s2
      have cR : (cnts (cntL g.nodes) R).length < 2^62 := by simp only [cnts, List.length_map]; omega
      have cT : (cnts (cntT g.edges) T).length < 2^62 := by simp only [cnts, List.length_map]; omega
      have sm := sameSt (N := g.nodes.length) (E := g.edges.length) (l1 := ln) (l2 := ln') (t1 := tn) (t2 := tn') (u1 := un) (u2 := un') (v1 := vn) (v2 := vn') cR cT (by omega) (by omega) (s1.1.trans s1'.symm) (s2.1.trans s2'.symm) (seqs_small (by omega) s1.1) (seqs_small (by omega) s2.1)
      (conv => whnf); repeat' (first | (refine callK_of e1 ?_; rintro _ rfl; conv => whnf) | (refine callK_of e2 ?_; rintro _ rfl; conv => whnf) | (refine callB sm (fun _ => ?_) (fun h => absurd trivial h); conv => whnf) | (refine callK_of d1 ?_; rintro _ rfl; conv => whnf) | (refine callK_of d2 ?_; rintro _ rfl; conv => whnf) | (refine callB (intsS (by omega)) (fun _ => ?_) (fun h => absurd trivial h); conv => whnf) | (refine callB aliveO (fun _ => ?_) (fun h => absurd trivial h); conv => whnf) | ((with_reducible first | apply kN | apply kW | apply kX | apply kG | apply kQ); (· exact sd); conv => whnf) | (refine pcase.mk ?_ ?_ <;> intro hc <;> (try rw [List.length_nil] at hc) <;> first | (exfalso; omega) | (exact absurd rfl hc) | conv => whnf) | (refine bcase_intro ?_ ?_ <;> intro hc <;> conv => whnf))
      rfl
    · have sm := sameSt (N := 0) (E := 0) (l1 := false) (l2 := false) (t1 := false) (t2 := false) (u1 := false) (u2 := false) (v1 := false) (v2 := false) (L := []) (T := []) (O := []) (I := []) (O' := []) (I' := []) (by simp) (by simp) (by simp) (by simp) rfl rfl (by simp) (by simp)
      (conv => whnf); repeat' (first | (refine callK_of (ofP0 hg hck) ?_; rintro _ rfl; conv => whnf) | (refine callK_of (ofR0 hg hck) ?_; rintro _ rfl; conv => whnf) | (refine callB sm (fun _ => ?_) (fun h => absurd trivial h); conv => whnf) | (refine callK_of d1 ?_; rintro _ rfl; conv => whnf) | (refine callK_of d2 ?_; rintro _ rfl; conv => whnf) | (refine callB (intsS (by omega)) (fun _ => ?_) (fun h => absurd trivial h); conv => whnf) | (refine callB aliveO (fun _ => ?_) (fun h => absurd trivial h); conv => whnf) | ((with_reducible first | apply kN | apply kW | apply kX | apply kG | apply kQ); (· exact sd); conv => whnf) | (refine pcase.mk ?_ ?_ <;> intro hc <;> (try rw [List.length_nil] at hc) <;> first | (exfalso; omega) | (exact absurd rfl hc) | conv => whnf) | (refine bcase_intro ?_ ?_ <;> intro hc <;> conv => whnf))
      rfl

end AI
end Go.Proofs.YtokdbmakkoleiaaGreat
