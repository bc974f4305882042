/- degree.Of: the statistics of a graph. -/
import Derived.Test.YtokdbmakkoleiaaGreatMO
import Derived.Test.YtokdbmakkoleiaaGreatOfC
import Derived.Test.YtokdbmakkoleiaaGreatGc1
set_option linter.unusedVariables false
namespace Go.Proofs.YtokdbmakkoleiaaGreat
namespace AI

/-- what Of answers for a valid graph -/
def OfOk (g : GG) (v : AV) : Prop := ∃ (ln tn un vn : Bool) (R T : List (List UInt8)) (O I : List (Bool × List Int)),
  v = .tup [.agg [.int .i64 g.nodes.length, .int .i64 g.edges.length, .sl ln (vs CN.av (cnts (cntL g.nodes) R)), .sl tn (vs CN.av (cnts (cntT g.edges) T)), .sl un (vs slI O), .sl vn (vs slI I)], .int .i64 0] ∧
  Inc R ∧ (∀ x, x ∈ R ↔ x ∈ labelsOf g.nodes) ∧ Inc T ∧ (∀ x, x ∈ T ↔ x ∈ typesOf g.edges) ∧ SeqsOf g 1 T O ∧ SeqsOf g 2 T I

theorem inc_nodup {R : List (List UInt8)} (h : Inc R) : R.Nodup := by
  refine List.Pairwise.imp (fun h e => ?_) h
  subst e
  rw [ltS_swo.irrefl] at h; exact Bool.noConfusion h

theorem labs_len {R : List (List UInt8)} : ∀ {N : List GN}, (∀ n ∈ N, n.labels.length ≤ 2000) → (labelsOf N).length ≤ N.length * 2000
  | [], _ => by simp [labelsOf]
  | n :: N, h => by
    have h1 := h n (List.mem_cons_self ..)
    have h2 := labs_len (R := R) (N := N) fun m hm => h m (List.mem_cons_of_mem _ hm)
    simp only [labelsOf, List.flatMap_cons, List.length_append, List.length_cons] at *
    omega

theorem snap_own {α : Type} {f : α → AV} {L : List α} {σ : List Obj} {n o g es len : Nat} {nn : Bool} (h : nth σ o = some (.arr g es nn true (vs f L))) (hl : len = L.length) : snap σ (n + 1) (.own o g 0 len) = some (.sl nn (vs f L)) := by
  subst hl
  simp only [snap, h]
  rw [if_pos ⟨trivial, by rw [lV]; omega⟩, if_pos trivial, sub_vs, List.drop_zero, List.take_length]
theorem snapL_c {σ : List Obj} {n : Nat} {v a : AV} {vs b : List AV} (h1 : snap σ n v = some a) (h2 : snapL σ n vs = some b) : snapL σ (n + 1) (v :: vs) = some (a :: b) := by
  rw [snapL, h1, h2]
theorem snap_int {σ : List Obj} {n : Nat} {k : IntKind} {z : Int} : snap σ (n + 1) (.int k z) = some (.int k z) := by simp only [snap]
theorem snap_agg {σ : List Obj} {n : Nat} {l l' : List AV} (h : snapL σ n l = some l') : snap σ (n + 1) (.agg l) = some (.agg l') := by simp only [snap, h, Option.map]
theorem snap6 {σ : List Obj} {N E : Int} {a b c d a' b' c' d' : AV} (ha : ∀ n, snap σ (n + 1) a = some a') (hb : ∀ n, snap σ (n + 1) b = some b') (hc : ∀ n, snap σ (n + 1) c = some c') (hd : ∀ n, snap σ (n + 1) d = some d') {m : Nat} :
    snap σ (m + 20) (.agg [.int .i64 N, .int .i64 E, a, b, c, d]) = some (.agg [.int .i64 N, .int .i64 E, a', b', c', d']) :=
  snap_agg (n := m + 19) (snapL_c (n := m + 18) snap_int (snapL_c (n := m + 17) snap_int (snapL_c (n := m + 16) (ha _) (snapL_c (n := m + 15) (hb _) (snapL_c (n := m + 14) (hc _) (snapL_c (n := m + 13) (hd _) (by rw [snapL])))))))

theorem snapS {σ : List Obj} {N E : Int} {i j k ga gb gc n : Nat} {lab lab' : AV} {L : List CN} {O I : List (Bool × List Int)} (hl : ∀ n, snap σ (n + 1) lab = some lab')
    (h1 : nth σ i = some (.arr ga 2 true true (vs CN.av L))) (h2 : nth σ j = some (.arr gb 1 true true (vs slI O))) (h3 : nth σ k = some (.arr gc 1 true true (vs slI I))) (e1 : n = L.length) (e2 : n = O.length) (e3 : n = I.length) :
    snap σ 38 (.agg [.int .i64 N, .int .i64 E, lab, .own i ga 0 n, .own j gb 0 n, .own k gc 0 n]) = some (.agg [.int .i64 N, .int .i64 E, lab', .sl true (vs CN.av L), .sl true (vs slI O), .sl true (vs slI I)]) :=
  snap6 (m := 18) hl (fun _ => snap_own h1 e1) (fun _ => snap_own h2 e2) (fun _ => snap_own h3 e3)

theorem ofP0 {g : GG} (hg : g.ok) (hc0 : checkE g ≠ 0) : PureP (findFn tab) 8 [g.av] (· = .tup [.agg [.int .i64 0, .int .i64 0, .sl false [], .sl false [], .sl false [], .sl false []], .int .i64 (checkE g)]) := by
  refine pureP_of rfl rfl ?_
  (conv => whnf); repeat' (first | (refine callK_of (checkG hg) ?_; rintro _ rfl; conv => whnf) | ((with_reducible first | apply kN | apply kW | apply kX | apply kG | apply kQ); (· exact sd); conv => whnf) | (refine pcase.mk ?_ ?_ <;> intro hc <;> (try rw [List.length_nil] at hc) <;> first | (exfalso; omega) | (exact absurd rfl hc) | conv => whnf) | (refine bcase_intro ?_ ?_ <;> intro hc <;> conv => whnf))
  rfl

set_option maxHeartbeats 1000000 in
theorem ofP {g : GG} (hg : g.ok) (hN : g.nodes.length ≤ 2000) (hE : g.edges.length ≤ 4000) (hc0 : checkE g = 0) (hL : ∀ n ∈ g.nodes, n.labels.length ≤ 2000) : PureP (findFn tab) 8 [g.av] (OfOk g) := by
  refine pureP_of rfl rfl ?_
  (conv => whnf); repeat' (first | (refine callK_of (checkG hg) ?_; rintro _ rfl; conv => whnf) | ((with_reducible first | apply kN | apply kW | apply kX | apply kG | apply kQ); (· exact sd); conv => whnf) | (refine pcase.mk ?_ ?_ <;> intro hc <;> (try rw [List.length_nil] at hc) <;> first | (exfalso; omega) | (exact absurd rfl hc) | conv => whnf) | (refine bcase_intro ?_ ?_ <;> intro hc <;> conv => whnf))
  refine callK_of (labelsP hg hN hL) ?_
  rintro _ ⟨nn, R, rfl, hi, hm⟩
  have hR : R.length ≤ 100000000 := by
    have h1 := nodup_len (inc_nodup hi) fun x hx => (hm x).1 hx
    have h2 := labs_len (R := R) hL
    omega
  (conv => whnf); repeat' (first  | ((with_reducible first | apply kN | apply kW | apply kX | apply kG | apply kQ); (· exact sd); conv => whnf) | (refine pcase.mk ?_ ?_ <;> intro hc <;> (try rw [List.length_nil] at hc) <;> first | (exfalso; omega) | (exact absurd rfl hc) | conv => whnf) | (refine bcase_intro ?_ ?_ <;> intro hc <;> conv => whnf))
  refine labO hg hN hR ?_ ?_
  · intro hR0 c' tl
    (conv => whnf); repeat' (first  | ((with_reducible first | apply kN | apply kW | apply kX | apply kG | apply kQ); (· exact sd); conv => whnf) | (refine pcase.mk ?_ ?_ <;> intro hc <;> (try rw [List.length_nil] at hc) <;> first | (exfalso; omega) | (exact absurd rfl hc) | conv => whnf) | (refine bcase_intro ?_ ?_ <;> intro hc <;> conv => whnf))
    refine callK_of (typesP hg hE) ?_
    rintro _ ⟨nt, T, rfl, ti, tm⟩
    have hT : T.length ≤ 100000000 := by
      have h1 := nodup_len (inc_nodup ti) fun x hx => (tm x).1 hx
      simp only [typesOf, List.length_map] at h1
      omega
    (conv => whnf); repeat' (first  | ((with_reducible first | apply kN | apply kW | apply kX | apply kG | apply kQ); (· exact sd); conv => whnf) | (refine pcase.mk ?_ ?_ <;> intro hc <;> (try rw [List.length_nil] at hc) <;> first | (exfalso; omega) | (exact absurd rfl hc) | conv => whnf) | (refine bcase_intro ?_ ?_ <;> intro hc <;> conv => whnf))
    refine tyO0 hN hE hT ?_ ?_
    · intro hT0 c' tl
      (conv => whnf); repeat' (first  | ((with_reducible first | apply kN | apply kW | apply kX | apply kG | apply kQ); (· exact sd); conv => whnf) | (refine pcase.mk ?_ ?_ <;> intro hc <;> (try rw [List.length_nil] at hc) <;> first | (exfalso; omega) | (exact absurd rfl hc) | conv => whnf) | (refine bcase_intro ?_ ?_ <;> intro hc <;> conv => whnf))
      exact ⟨_, _, _, _, [], [], [], [], rfl, hR0 ▸ hi, hR0 ▸ hm, hT0 ▸ ti, hT0 ▸ tm, ⟨rfl, fun p hp => by simp at hp⟩, ⟨rfl, fun p hp => by simp at hp⟩⟩
    · intro hT0 c' ga gb gc n O I tl hn hO hI
      have l1 := seqsOf_len hO
      have l2 := seqsOf_len hI
      (conv => whnf); repeat' (first  | ((with_reducible first | apply kN | apply kW | apply kX | apply kG | apply kQ); (· exact sd); conv => whnf) | (refine pcase.mk ?_ ?_ <;> intro hc <;> (try rw [List.length_nil] at hc) <;> first | (exfalso; omega) | (exact absurd rfl hc) | conv => whnf) | (refine bcase_intro ?_ ?_ <;> intro hc <;> conv => whnf))
      have e1 : n = (cnts (cntT g.edges) T).length := by simp [cnts]; omega
      refine getK_intro (x := .agg [.int .i64 g.nodes.length, .int .i64 g.edges.length, .sl false [], .sl true (vs CN.av (cnts (cntT g.edges) T)), .sl true (vs slI O), .sl true (vs slI I)]) ?_ ?_
      · refine snapS (N := g.nodes.length) (E := g.edges.length) (i := 3) (j := 4) (k := 5) (ga := ga) (gb := gb) (gc := gc) (lab := .sl false []) (lab' := .sl false []) ?_ ?_ ?_ ?_ e1 (hn.trans l1.symm) (hn.trans l2.symm)
        · exact fun n => rfl
        all_goals rfl
      (conv => whnf); repeat' (first  | ((with_reducible first | apply kN | apply kW | apply kX | apply kG | apply kQ); (· exact sd); conv => whnf) | (refine pcase.mk ?_ ?_ <;> intro hc <;> (try rw [List.length_nil] at hc) <;> first | (exfalso; omega) | (exact absurd rfl hc) | conv => whnf) | (refine bcase_intro ?_ ?_ <;> intro hc <;> conv => whnf))
      exact ⟨_, _, _, _, [], T, O, I, rfl, hR0 ▸ hi, hR0 ▸ hm, ti, tm, hO, hI⟩
  · intro hR0 c' g3 tl
    have e0 : R.length = (cnts (cntL g.nodes) R).length := by simp [cnts]
    (conv => whnf); repeat' (first  | ((with_reducible first | apply kN | apply kW | apply kX | apply kG | apply kQ); (· exact sd); conv => whnf) | (refine pcase.mk ?_ ?_ <;> intro hc <;> (try rw [List.length_nil] at hc) <;> first | (exfalso; omega) | (exact absurd rfl hc) | conv => whnf) | (refine bcase_intro ?_ ?_ <;> intro hc <;> conv => whnf))
    refine callK_of (typesP hg hE) ?_
    rintro _ ⟨nt, T, rfl, ti, tm⟩
    have hT : T.length ≤ 100000000 := by
      have h1 := nodup_len (inc_nodup ti) fun x hx => (tm x).1 hx
      simp only [typesOf, List.length_map] at h1
      omega
    (conv => whnf); repeat' (first  | ((with_reducible first | apply kN | apply kW | apply kX | apply kG | apply kQ); (· exact sd); conv => whnf) | (refine pcase.mk ?_ ?_ <;> intro hc <;> (try rw [List.length_nil] at hc) <;> first | (exfalso; omega) | (exact absurd rfl hc) | conv => whnf) | (refine bcase_intro ?_ ?_ <;> intro hc <;> conv => whnf))
    refine tyO1 hN hE hT ?_ ?_
    · intro hT0 c' tl
      (conv => whnf); repeat' (first  | ((with_reducible first | apply kN | apply kW | apply kX | apply kG | apply kQ); (· exact sd); conv => whnf) | (refine pcase.mk ?_ ?_ <;> intro hc <;> (try rw [List.length_nil] at hc) <;> first | (exfalso; omega) | (exact absurd rfl hc) | conv => whnf) | (refine bcase_intro ?_ ?_ <;> intro hc <;> conv => whnf))
      refine getK_intro (x := .agg [.int .i64 g.nodes.length, .int .i64 g.edges.length, .sl true (vs CN.av (cnts (cntL g.nodes) R)), .sl false [], .sl false [], .sl false []]) ?_ ?_
      · refine snap6 (m := 18) (N := g.nodes.length) (E := g.edges.length) (a := .own 3 g3 0 R.length) (b := .sl false []) (c := .sl false []) (d := .sl false []) ?_ ?_ ?_ ?_
        · exact fun _ => snap_own rfl e0
        all_goals exact fun n => rfl
      (conv => whnf); repeat' (first  | ((with_reducible first | apply kN | apply kW | apply kX | apply kG | apply kQ); (· exact sd); conv => whnf) | (refine pcase.mk ?_ ?_ <;> intro hc <;> (try rw [List.length_nil] at hc) <;> first | (exfalso; omega) | (exact absurd rfl hc) | conv => whnf) | (refine bcase_intro ?_ ?_ <;> intro hc <;> conv => whnf))
      exact ⟨_, _, _, _, R, [], [], [], rfl, hi, hm, hT0 ▸ ti, hT0 ▸ tm, ⟨rfl, fun p hp => by simp at hp⟩, ⟨rfl, fun p hp => by simp at hp⟩⟩
    · intro hT0 c' ga gb gc n O I tl hn hO hI
      have l1 := seqsOf_len hO
      have l2 := seqsOf_len hI
      (conv => whnf); repeat' (first  | ((with_reducible first | apply kN | apply kW | apply kX | apply kG | apply kQ); (· exact sd); conv => whnf) | (refine pcase.mk ?_ ?_ <;> intro hc <;> (try rw [List.length_nil] at hc) <;> first | (exfalso; omega) | (exact absurd rfl hc) | conv => whnf) | (refine bcase_intro ?_ ?_ <;> intro hc <;> conv => whnf))
      have e1 : n = (cnts (cntT g.edges) T).length := by simp [cnts]; omega
      refine getK_intro (x := .agg [.int .i64 g.nodes.length, .int .i64 g.edges.length, .sl true (vs CN.av (cnts (cntL g.nodes) R)), .sl true (vs CN.av (cnts (cntT g.edges) T)), .sl true (vs slI O), .sl true (vs slI I)]) ?_ ?_
      · refine snapS (N := g.nodes.length) (E := g.edges.length) (i := 4) (j := 5) (k := 6) (ga := ga) (gb := gb) (gc := gc) (lab := .own 3 g3 0 R.length) (lab' := .sl true (vs CN.av (cnts (cntL g.nodes) R))) ?_ ?_ ?_ ?_ e1 (hn.trans l1.symm) (hn.trans l2.symm)
        · exact fun _ => snap_own rfl e0
        all_goals rfl
      (conv => whnf); repeat' (first  | ((with_reducible first | apply kN | apply kW | apply kX | apply kG | apply kQ); (· exact sd); conv => whnf) | (refine pcase.mk ?_ ?_ <;> intro hc <;> (try rw [List.length_nil] at hc) <;> first | (exfalso; omega) | (exact absurd rfl hc) | conv => whnf) | (refine bcase_intro ?_ ?_ <;> intro hc <;> conv => whnf))
      exact ⟨_, _, _, _, R, T, O, I, rfl, hi, hm, ti, tm, hO, hI⟩


end AI
end Go.Proofs.YtokdbmakkoleiaaGreat
