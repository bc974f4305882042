/- Equality and order of values as functions; what a scan of a graph selects. A question as an argument. -/
import Derived.Test.YtbkibamoigmboaaGreatDoorIxBs
import Derived.Test.YtbkibamoigmboaaGreatDoorIxI
import Derived.Test.YtbkibamoigmboaaGreatDoorFP1
import Derived.Test.YtbkibamoigmboaaGreatDoorIxP
import Derived.Test.YtbkibamoigmboaaGreatDoorIxT
set_option linter.unusedVariables false
set_option maxRecDepth 4000
namespace Go.Proofs.YtbkibamoigmboaaGreatDoor
namespace AI
open Go.Sort

theorem eqX {a b : GV} (ha : a.ok) (hb : b.ok) : ∃ e : Int, PureP (findFn tab) 35 [a.av, b.av] (· = .int .i64 e) := by
  obtain ⟨_, ⟨e, rfl, _⟩, h⟩ := (EqualT ha hb).det
  exact ⟨e, h⟩
theorem lsX {a b : GV} (ha : a.ok) (hb : b.ok) : ∃ e : Int, PureP (findFn tab) 36 [a.av, b.av] (· = .int .i64 e) := by
  obtain ⟨_, ⟨e, rfl, _⟩, h⟩ := (LessT ha hb).det
  exact ⟨e, h⟩
noncomputable def eqV (a b : GV) : Int := by classical exact if h : a.ok ∧ b.ok then Classical.choose (eqX h.1 h.2) else 0
theorem eqV_P {a b : GV} (ha : a.ok) (hb : b.ok) : PureP (findFn tab) 35 [a.av, b.av] (· = .int .i64 (eqV a b)) := by
  unfold eqV
  rw [dif_pos ⟨ha, hb⟩]
  exact Classical.choose_spec (eqX ha hb)
noncomputable def lsV (a b : GV) : Int := by classical exact if h : a.ok ∧ b.ok then Classical.choose (lsX h.1 h.2) else 0
theorem lsV_P {a b : GV} (ha : a.ok) (hb : b.ok) : PureP (findFn tab) 36 [a.av, b.av] (· = .int .i64 (lsV a b)) := by
  unfold lsV
  rw [dif_pos ⟨ha, hb⟩]
  exact Classical.choose_spec (lsX ha hb)
noncomputable def amV (a b : GV) : Bool := decide (lsV a b = 2 ∨ eqV a b = 2)
theorem amV_P {a b : GV} (ha : a.ok) (hb : b.ok) : PureP (findFn tab) 53 [a.av, b.av] (· = .bool (amV a b)) := by
  have h1 := lsV_P ha hb
  have h2 := eqV_P ha hb
  unfold amV
  refine pureP_of rfl rfl ?_
  (conv => whnf); repeat' (first | (refine callK_of h1 ?_; rintro _ rfl; conv => whnf) | (refine callK_of h2 ?_; rintro _ rfl; conv => whnf) | ((with_reducible first | apply kN | apply kW | apply kX | apply kG | apply kQ); (· exact sd); conv => whnf) | (refine pcase.mk ?_ ?_ <;> intro hc <;> (try rw [List.length_nil] at hc) <;> first | (exfalso; omega) | (exact absurd rfl hc) | conv => whnf) | (refine bcase_intro ?_ ?_ <;> intro hc <;> conv => whnf))
  all_goals first | exact bool_t (by omega) | exact bool_f (by omega) | (trace_state; fail "amV")

/-- the conditions of Find and of Range -/
noncomputable def okF (v e : GV) : Bool := decide (eqV e v = 2)
noncomputable def okR (lo hi e : GV) : Bool := (decide (isNull lo) || amV lo e) && (decide (isNull hi) || amV e hi)
theorem okF_P {v e : GV} (hv : v.ok) (he : e.ok) : PureP (findFn tab) 48 [e.av, .fref v.av.cells] (· = .bool (okF v e)) := by
  have h1 := eqV_P he hv
  unfold okF
  refine pureP_of rfl rfl ?_
  (conv => whnf); repeat' (first | (refine callK_of h1 ?_; rintro _ rfl; conv => whnf) | ((with_reducible first | apply kN | apply kW | apply kX | apply kG | apply kQ); (· exact sd); conv => whnf) | (refine pcase.mk ?_ ?_ <;> intro hc <;> (try rw [List.length_nil] at hc) <;> first | (exfalso; omega) | (exact absurd rfl hc) | conv => whnf) | (refine bcase_intro ?_ ?_ <;> intro hc <;> conv => whnf))
  all_goals first | exact bool_t (by assumption) | exact bool_f (by assumption) | (trace_state; fail "okF")
theorem okR_P {lo hi e : GV} (hlo : lo.ok) (hhi : hi.ok) (he : e.ok) : PureP (findFn tab) 51 [e.av, .fref lo.av.cells, .fref hi.av.cells] (· = .bool (okR lo hi e)) := by
  have hn1 := nullBP hlo
  have hn2 := nullBP hhi
  have h1 := amV_P hlo he
  have h3 := amV_P he hhi
  unfold okR
  generalize decide (isNull lo) = b1 at *
  generalize decide (isNull hi) = b2 at *
  generalize amV lo e = t1 at *
  generalize amV e hi = t2 at *
  cases b1 <;> cases b2 <;> cases t1 <;> cases t2
  all_goals
    refine pureP_of rfl rfl ?_
    (conv => whnf); repeat' (first | (refine callK_of hn1 ?_; rintro _ rfl; conv => whnf) | (refine callK_of hn2 ?_; rintro _ rfl; conv => whnf) | (refine callK_of h1 ?_; rintro _ rfl; conv => whnf) | (refine callK_of h3 ?_; rintro _ rfl; conv => whnf) | ((with_reducible first | apply kN | apply kW | apply kX | apply kG | apply kQ); (· exact sd); conv => whnf) | (refine pcase.mk ?_ ?_ <;> intro hc <;> (try rw [List.length_nil] at hc) <;> first | (exfalso; omega) | (exact absurd rfl hc) | conv => whnf) | (refine bcase_intro ?_ ?_ <;> intro hc <;> conv => whnf))
    all_goals first | rfl | (exfalso; simp_all; done) | (trace_state; fail "okR")

theorem findV {l : List GT} {nn : Bool} {label key : List UInt8} {v : GV} (hv : v.ok) (hl : l.length ≤ 100000) (hok : ∀ e ∈ l, e.v.ok) :
    PureP (findFn tab) 23 [.sl nn (vs GT.av l), .str label, .str key, v.av] (SetI (hits label key (okF v) l)) := by
  have h := idsP (nn := nn) (label := label) (key := key) (f := 48) (cs := [.fref v.av.cells]) (ok := okF v) hl rfl (fun e he => okF_P hv (hok e he))
  refine pureP_of rfl rfl ?_
  (conv => whnf); repeat' (first | (refine callK_of h ?_; rintro _ ⟨b, W, rfl, h1, h2, h3⟩; conv => whnf) | ((with_reducible first | apply kN | apply kW | apply kX | apply kG | apply kQ); (· exact sd); conv => whnf) | (refine pcase.mk ?_ ?_ <;> intro hc <;> (try rw [List.length_nil] at hc) <;> first | (exfalso; omega) | (exact absurd rfl hc) | conv => whnf) | (refine bcase_intro ?_ ?_ <;> intro hc <;> conv => whnf))
  all_goals first | exact ⟨b, W, rfl, h1, h2, h3⟩ | (trace_state; fail "findV")
theorem rangeV {l : List GT} {nn : Bool} {label key : List UInt8} {lo hi : GV} (hlo : lo.ok) (hhi : hi.ok) (hl : l.length ≤ 100000) (hok : ∀ e ∈ l, e.v.ok) :
    PureP (findFn tab) 25 [.sl nn (vs GT.av l), .str label, .str key, lo.av, hi.av] (SetI (hits label key (okR lo hi) l)) := by
  have h := idsP (nn := nn) (label := label) (key := key) (f := 51) (cs := [.fref lo.av.cells, .fref hi.av.cells]) (ok := okR lo hi) hl rfl (fun e he => okR_P hlo hhi (hok e he))
  refine pureP_of rfl rfl ?_
  (conv => whnf); repeat' (first | (refine callK_of h ?_; rintro _ ⟨b, W, rfl, h1, h2, h3⟩; conv => whnf) | ((with_reducible first | apply kN | apply kW | apply kX | apply kG | apply kQ); (· exact sd); conv => whnf) | (refine pcase.mk ?_ ?_ <;> intro hc <;> (try rw [List.length_nil] at hc) <;> first | (exfalso; omega) | (exact absurd rfl hc) | conv => whnf) | (refine bcase_intro ?_ ?_ <;> intro hc <;> conv => whnf))
  all_goals first | exact ⟨b, W, rfl, h1, h2, h3⟩ | (trace_state; fail "rangeV")

/-- does a node count? -/
def selc (label key : List UInt8) (ok : GV → Bool) (n : GN) : Bool := match n.props.find? (isK key) with
  | some p => decide (label ∈ n.labels) && ok p.v
  | none => false
def sel (label key : List UInt8) (ok : GV → Bool) (N : List GN) : List Int := (N.filter (selc label key ok)).map GN.id
theorem sel_snoc {label key : List UInt8} {ok : GV → Bool} {N : List GN} {i : Nat} (h : i < N.length) : sel label key ok (N.take (i + 1)) = sel label key ok (N.take i) ++ if selc label key ok N[i] = true then [N[i].id] else [] := by
  unfold sel
  rw [filter_take_succ h, List.map_append]
  congr 1
  split <;> rfl
theorem sel_len {label key : List UInt8} {ok : GV → Bool} {N : List GN} : (sel label key ok N).length ≤ N.length := by
  unfold sel; rw [List.length_map]; exact List.length_filter_le _ _

/-- increasing strings differ -/
theorem rises_lt {l : List (List UInt8)} (h : rises l) : ∀ {i j : Nat} (hi : i < l.length) (hj : j < l.length), i < j → l[i] < l[j] := by
  have step : ∀ i (h1 : i + 1 < l.length), l[i] < l[i + 1] := fun i h1 => by
    have h2 := h i h1
    rw [Bool.or_eq_false_iff, bl_less, decide_eq_false_iff_not, beq_eq_false_iff_ne] at h2
    rcases Std.lt_trichotomy l[i] l[i + 1] with h3 | h3 | h3
    · exact h3
    · exact absurd h3.symm h2.2
    · exact absurd h3 h2.1
  intro i j hi hj hij
  obtain ⟨k, rfl⟩ : ∃ k, j = i + 1 + k := ⟨j - (i + 1), by omega⟩
  clear hij
  induction k with
  | zero => exact step i hj
  | succ k ih => exact List.lt_trans (ih (by omega)) (step _ hj)

/-- what holds in a checked graph -/
structure Fit (N : List GN) : Prop where
  ids : ∀ i j (hi : i < N.length) (hj : j < N.length), i < j → N[i].id < N[j].id
  keys : ∀ n ∈ N, ∀ p ∈ n.props, ∀ q ∈ n.props, p.key = q.key → p = q
  vals : ∀ n ∈ N, ∀ p ∈ n.props, p.v.k ≠ 0

theorem fit_of {g : GG} (h : checkE g = 0) : Fit g.nodes := by
  obtain ⟨_, _, h1, _⟩ := check_ok h
  have hp : ∀ k (hk : k < g.nodes.length), rises (keysOf g.nodes[k].props) ∧ allPlain g.nodes[k].props ∧ ¬ (0 < k ∧ (∃ m, g.nodes[k - 1]? = some m ∧ g.nodes[k].id ≤ m.id)) := by
    intro k hk
    have h2 := h1 k hk
    unfold nodeE at h2
    rw [List.getElem?_eq_getElem hk] at h2
    dsimp only at h2
    split at h2
    · omega
    · rename_i hid
      split at h2
      · omega
      · unfold partsE at h2
        split at h2
        · omega
        · split at h2
          · omega
          · split at h2
            · omega
            · rename_i h4
              split at h2
              · omega
              · rename_i h5
                exact ⟨(Decidable.not_not.1 h4).2, Decidable.not_not.1 h5, hid⟩
  refine ⟨?_, ?_, ?_⟩
  · have step : ∀ i (h1 : i + 1 < g.nodes.length), g.nodes[i].id < g.nodes[i + 1].id := fun i hi => by
      have := (hp (i + 1) hi).2.2
      rcases Int.lt_or_le g.nodes[i].id g.nodes[i + 1].id with h | h
      · exact h
      · exact absurd ⟨by omega, _, List.getElem?_eq_getElem (by omega), h⟩ this
    intro i j hi hj hij
    obtain ⟨k, rfl⟩ : ∃ k, j = i + 1 + k := ⟨j - (i + 1), by omega⟩
    clear hij
    induction k with
    | zero => exact step i hj
    | succ k ih => exact Int.lt_trans (ih (by omega)) (step _ hj)
  · intro n hn p hpm q hqm he
    obtain ⟨k, hk, rfl⟩ := List.getElem_of_mem hn
    obtain ⟨i, hi, rfl⟩ := List.getElem_of_mem hpm
    obtain ⟨j, hj, rfl⟩ := List.getElem_of_mem hqm
    have hr := (hp k hk).1
    have e : ∀ i (h : i < g.nodes[k].props.length), (keysOf g.nodes[k].props)[i]'(by simpa [keysOf] using h) = g.nodes[k].props[i].key := fun i h => by simp [keysOf]
    rcases Nat.lt_trichotomy i j with h | h | h
    · have := rises_lt hr (by simpa [keysOf] using hi) (by simpa [keysOf] using hj) h
      rw [e i hi, e j hj, he] at this
      exact absurd this (List.lt_irrefl _)
    · subst h; rfl
    · have := rises_lt hr (by simpa [keysOf] using hj) (by simpa [keysOf] using hi) h
      rw [e i hi, e j hj, he] at this
      exact absurd this (List.lt_irrefl _)
  · intro n hn p hpm
    obtain ⟨k, hk, rfl⟩ := List.getElem_of_mem hn
    have := (hp k hk).2.1 p hpm
    have := leaf_kind this
    unfold kindP at this
    omega

theorem sel_rise {label key : List UInt8} {ok : GV → Bool} {N : List GN} (hf : Fit N) : (sel label key ok N).Pairwise (fun x y => ltI x y = true) := by
  unfold sel
  rw [List.pairwise_map]
  refine List.Pairwise.filter _ ?_
  rw [List.pairwise_iff_getElem]
  intro i j hi hj hij
  exact ltI_iff.2 (hf.ids i j hi hj hij)

theorem selc_iff {label key : List UInt8} {ok : GV → Bool} {N : List GN} (hf : Fit N) {n : GN} (hn : n ∈ N) : selc label key ok n = true ↔ label ∈ n.labels ∧ ∃ p ∈ n.props, p.key = key ∧ ok p.v = true := by
  unfold selc
  cases h : n.props.find? (isK key) with
  | none =>
    constructor
    · intro h; cases h
    · rintro ⟨_, p, hp, hk, _⟩
      have := List.find?_eq_none.1 h p hp
      unfold isK at this
      exact absurd (decide_eq_true hk) this
  | some q =>
    have hq := List.mem_of_find?_eq_some h
    have hk := List.find?_some h
    unfold isK at hk
    have hk := of_decide_eq_true hk
    constructor
    · intro h2
      rw [Bool.and_eq_true, decide_eq_true_eq] at h2
      exact ⟨h2.1, q, hq, hk, h2.2⟩
    · rintro ⟨h1, p, hp, hpk, ho⟩
      obtain rfl := hf.keys n hn p hp q hq (by rw [hpk, hk])
      rw [Bool.and_eq_true, decide_eq_true_eq]
      exact ⟨h1, ho⟩

theorem sel_hits {label key : List UInt8} {ok : GV → Bool} {N : List GN} (hf : Fit N) {A : List GT} (hA : A.Perm (ents N)) {y : Int} : y ∈ sel label key ok N ↔ hits label key ok A y := by
  unfold sel hits hit
  rw [List.mem_map]
  constructor
  · rintro ⟨n, hn, rfl⟩
    rw [List.mem_filter] at hn
    obtain ⟨hl, p, hp, hk, ho⟩ := (selc_iff hf hn.1).1 hn.2
    exact ⟨mkT label n.id p, hA.mem_iff.2 (mem_ents.2 ⟨n, hn.1, label, hl, p, hp, rfl⟩), ⟨rfl, hk, ho⟩, rfl⟩
  · rintro ⟨e, he, ⟨h1, h2, h3⟩, rfl⟩
    obtain ⟨n, hn, lb, hlb, p, hp, rfl⟩ := mem_ents.1 (hA.mem_iff.1 he)
    obtain rfl : lb = label := h1
    exact ⟨n, List.mem_filter.2 ⟨hn, (selc_iff hf hn).2 ⟨hlb, p, hp, h2, h3⟩⟩, rfl⟩

end AI
end Go.Proofs.YtbkibamoigmboaaGreatDoor
set_option linter.unusedVariables false
namespace Go.Proofs.YtbkibamoigmboaaGreatDoor
namespace AI

/-- a question -/
structure GQ where
  ln : Bool
  l : List GT
  g : GG
  label : List UInt8
  key : List UInt8
  lo : GV
  hi : GV
def GQ.av (q : GQ) : AV := .agg [.sl q.ln (vs GT.av q.l), .sl q.g.nn (vs GN.av q.g.nodes), .sl q.g.en (vs GE.av q.g.edges), .int .i64 q.g.nextN, .int .i64 q.g.nextE, .str q.label, .str q.key,
  .int .i64 q.lo.k, .int .i64 q.lo.n, .int .i64 q.lo.d, .str q.lo.s, .sl q.lo.nn q.lo.l, .int .i64 q.hi.k, .int .i64 q.hi.n, .int .i64 q.hi.d, .str q.hi.s, .sl q.hi.nn q.hi.l]
def GQ.ok (q : GQ) : Prop := Ln q.l ∧ (q.ln = false → q.l = []) ∧ (∀ e ∈ q.l, e.ok) ∧ q.g.ok ∧ Ln q.label ∧ Ln q.key ∧ q.lo.ok ∧ q.hi.ok

theorem c_ask : Tryz.prog.cellsOf 45 = 17 := by kernel_rfl
theorem c_entries : Tryz.prog.cellsOf 39 = 1 := by kernel_rfl
theorem len17 {l : List AV} (h : l.length = 17) : ∃ a b c d e f g i j k m n o p q r s, l = [a, b, c, d, e, f, g, i, j, k, m, n, o, p, q, r, s] := by
  rcases l with _ | ⟨a, _ | ⟨b, _ | ⟨c, _ | ⟨d, _ | ⟨e, _ | ⟨f, _ | ⟨g, _ | ⟨i, _ | ⟨j, _ | ⟨k, _ | ⟨m, _ | ⟨n, _ | ⟨o, _ | ⟨p, _ | ⟨q, _ | ⟨r, _ | ⟨s, _ | ⟨y, z⟩⟩⟩⟩⟩⟩⟩⟩⟩⟩⟩⟩⟩⟩⟩⟩⟩⟩ <;> simp at h
  exact ⟨a, b, c, d, e, f, g, i, j, k, m, n, o, p, q, r, s, rfl⟩

theorem likeC_graph {d : Nat} {cs : List AV} (h : likeC Tryz.prog d 25 cs) : ∃ v : GG, cs = [.sl v.nn (vs GN.av v.nodes), .sl v.en (vs GE.av v.edges), .int .i64 v.nextN, .int .i64 v.nextE] ∧ v.ok := by
  obtain ⟨d', rfl, g1, g2⟩ := likeC_struct Tryz.underlying25 h
  rw [c_graph] at g1
  obtain ⟨a, b, c, e, rfl⟩ := len4 g1
  clear g1
  simp only [List.forall_mem_cons] at g2
  obtain ⟨f1, f2, f3, f4, _⟩ := g2
  simp only [c_int, c_nodes, c_edges, List.drop_zero, List.drop_succ_cons, List.take_succ_cons, List.take_zero] at f1 f2 f3 f4
  obtain ⟨nn, N, e1, h1, h1a, h1b⟩ := likeC_map (f := GN.av) (Q := GN.ok) Tryz.underlying22 (fun d x h => like_node h) f1
  obtain ⟨en, E, e2, h2, h2a, h2b⟩ := likeC_map (f := GE.av) (Q := GE.ok) Tryz.underlying23 (fun d x h => like_edge h) f2
  obtain ⟨m, e3, h3⟩ := likeC_i f3
  obtain ⟨k, e4, h4⟩ := likeC_i f4
  cases e1; cases e2; cases e3; cases e4
  exact ⟨⟨nn, N, en, E, m, k⟩, rfl, h1a, h1, h1b, h2a, h2, h2b, h3, h4⟩

theorem like_ask {a : AV} (h : Like Tryz.prog 45 a) : ∃ q : GQ, a = q.av ∧ q.ok := by
  obtain ⟨d, h⟩ := h
  obtain ⟨cs, rfl, h0⟩ := like_struct Tryz.underlying45 h
  obtain ⟨d', rfl, g1, g2⟩ := likeC_struct Tryz.underlying45 h0
  rw [c_ask] at g1
  obtain ⟨a, b, c, d, e, f, g, i, j, k, m, n, o, p, q, r, s, rfl⟩ := len17 g1
  clear g1
  simp only [List.forall_mem_cons] at g2
  obtain ⟨f1, f2, f3, f4, f5, f6, _⟩ := g2
  simp only [c_entries, c_graph, c_string, c_value, List.drop_zero, List.drop_succ_cons, List.take_succ_cons, List.take_zero] at f1 f2 f3 f4 f5 f6
  obtain ⟨ln, L, e1, h1, h1a, h1b⟩ := likeC_map (f := GT.av) (Q := GT.ok) Tryz.underlying39 (fun d x h => like_entry h) f1
  obtain ⟨G, e2, h2⟩ := likeC_graph f2
  obtain ⟨s1, e3, h3⟩ := likeC_s f3
  obtain ⟨s2, e4, h4⟩ := likeC_s f4
  obtain ⟨v1, e5, h5⟩ := likeC_value f5
  obtain ⟨v2, e6, h6⟩ := likeC_value f6
  cases e1; cases e2; cases e3; cases e4; cases e5; cases e6
  exact ⟨⟨ln, L, G, s1, s2, v1, v2⟩, rfl, h1a, h1, h1b, h2, h3, h4, h5, h6⟩

end AI
end Go.Proofs.YtbkibamoigmboaaGreatDoor
