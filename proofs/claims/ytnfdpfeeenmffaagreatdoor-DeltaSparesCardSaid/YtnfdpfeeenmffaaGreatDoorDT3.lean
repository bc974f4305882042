/- The worked example in the laws about scripts: reckoned by the kernel. The law DeltaSpares, about the evaluator. -/
import Derived.Test.YtnfdpfeeenmffaaGreatDoorGrCode
import Derived.Test.YtnfdpfeeenmffaaGreatDoorDT2
import Derived.Test.YtnfdpfeeenmffaaGreatDoorDtI
import Derived.Test.YtnfdpfeeenmffaaGreatDoorGrB
namespace Go.Proofs.YtnfdpfeeenmffaaGreatDoor
namespace AI

set_option maxRecDepth 100000 in
theorem alive_call : pureCall (run (findFn tab) 80) 6 [] = some (.bool true) := by kernel_rfl

end AI
end Go.Proofs.YtnfdpfeeenmffaaGreatDoor
set_option linter.unusedVariables false
set_option maxRecDepth 4000
namespace Go.Proofs.YtnfdpfeeenmffaaGreatDoor
namespace AI

theorem aliveD : PureP (findFn tab) 6 [] (· = .bool (decide True)) := ⟨.bool true, ⟨80, alive_call⟩, rfl⟩

theorem smallD {g : GG} (hg : g.ok) : PureP (findFn tab) 4 [g.av, g.av] (fun v => ∃ b, v = .bool b ∧ (b = true → SmG g 24 30)) := by
  obtain ⟨_, ⟨b, rfl, hb⟩, hp⟩ := (small hg (n := 24) (e := 30)).det
  cases b
  all_goals
    refine pureP_of rfl rfl ?_
    (conv => whnf); repeat' (first | (refine callK_of hp ?_; rintro _ rfl; conv => whnf) | ((with_reducible first | apply kN | apply kW | apply kX | apply kG | apply kQ); (· exact sd); conv => whnf) | (refine pcase.mk ?_ ?_ <;> intro hc <;> (try rw [List.length_nil] at hc) <;> first | (exfalso; omega) | (exact absurd rfl hc) | conv => whnf) | (refine bcase_intro ?_ ?_ <;> intro hc <;> conv => whnf))
  all_goals first | exact ⟨_, rfl, hb⟩ | exact ⟨_, rfl, fun h => Bool.noConfusion h⟩ | exact ⟨_, rfl, fun _ => hb rfl⟩ | (trace_state; fail "smallD")

theorem few_of {g : GG} (hg : g.ok) (hs : SmG g 24 30) : FewG 100 100 g :=
  ⟨hg, by have := hs.1; omega, by have := hs.2.1; omega, fun n hn => ⟨hg.2.2.1 n hn, (hs.2.2.1 n hn).1, (hs.2.2.1 n hn).2.2.1⟩, fun e he => ⟨hg.2.2.2.2.2.1 e he, (hs.2.2.2 e he).2.1⟩⟩
theorem goodN_of {g : GG} (hg : g.ok) (hs : SmG g 24 30) : ∀ n ∈ g.nodes, GoodN n := fun n hn => by
  obtain ⟨o1, o2, o3, o4, o5, o6, o7⟩ := hg.2.2.1 n hn
  obtain ⟨s1, s2, s3⟩ := hs.2.2.1 n hn
  exact ⟨s1, o3, o6, s3.1, fun p hp => ⟨o7 p hp, (s3.2 p hp).2⟩⟩
theorem goodE_of {g : GG} (hg : g.ok) (hs : SmG g 24 30) : ∀ e ∈ g.edges, GoodE e := fun n hn => by
  obtain ⟨o1, o2, o3, o4, o5, o6, o7⟩ := hg.2.2.2.2.2.1 n hn
  obtain ⟨s1, s3⟩ := hs.2.2.2 n hn
  exact ⟨o6, s3.1, fun p hp => ⟨o7 p hp, (s3.2 p hp).2⟩⟩

set_option maxRecDepth 10000 in
set_option maxHeartbeats 2000000 in
theorem law_spares : ∀ xs, likes Tryz.prog [25, 26] xs → Calls1 (findFn tab) 3 xs ⟨[], 0⟩ fun out _ => out = .ok (.bool true) := by
  intro xs h
  match xs, h with
  | [a, b], h =>
    obtain ⟨h1, h2, _⟩ := h
    obtain ⟨g, rfl, hg⟩ := like_graph h1
    obtain ⟨nn, L, rfl, hL, hc⟩ := like_changes h2
    obtain ⟨_, ⟨b1, rfl, q1⟩, p1⟩ := (smallD hg).det
    obtain ⟨_, ⟨b2, rfl, q2⟩, p2⟩ := (fewC (nn := nn) hL hc).det
    refine calls1_of rfl rfl ?_
    cases b1 with
    | false =>
      (conv => whnf); repeat' (first | (refine callK_of p1 ?_; rintro _ rfl; conv => whnf) | (refine callB aliveD (fun _ => ?_) (fun h => absurd trivial h); conv => whnf) | ((with_reducible first | apply kN | apply kW | apply kX | apply kG | apply kQ); (· exact sd); conv => whnf) | (refine pcase.mk ?_ ?_ <;> intro hc <;> (try rw [List.length_nil] at hc) <;> first | (exfalso; omega) | (exact absurd rfl hc) | conv => whnf) | (refine bcase_intro ?_ ?_ <;> intro hc <;> conv => whnf))
      all_goals rfl
    | true => cases b2 with
      | false =>
        (conv => whnf); repeat' (first | (refine callK_of p1 ?_; rintro _ rfl; conv => whnf) | (refine callK_of p2 ?_; rintro _ rfl; conv => whnf) | (refine callB aliveD (fun _ => ?_) (fun h => absurd trivial h); conv => whnf) | ((with_reducible first | apply kN | apply kW | apply kX | apply kG | apply kQ); (· exact sd); conv => whnf) | (refine pcase.mk ?_ ?_ <;> intro hc <;> (try rw [List.length_nil] at hc) <;> first | (exfalso; omega) | (exact absurd rfl hc) | conv => whnf) | (refine bcase_intro ?_ ?_ <;> intro hc <;> conv => whnf))
        all_goals rfl
      | true =>
        have hs := q1 rfl
        have hL3 := q2 rfl
        have hf := few_of hg hs
        obtain ⟨_, ⟨d1, R1, d2, R2, rfl, l1, l2, m1, m2⟩, pT⟩ := (touchedP (L := L) (nn := nn) (by omega)).det
        have hw : ∀ c ∈ L, Within R1 R2 c := fun c hc => ⟨fun h => (m1 _).2 (List.mem_flatMap.2 ⟨c, hc, by rw [tN_1 h]; simp⟩), fun h => (m2 _).2 (List.mem_flatMap.2 ⟨c, hc, by rw [tE_y h]; simp⟩)⟩
        obtain ⟨_, ⟨h, k, e, rfl, hh⟩, pA⟩ := (applyR (nn := nn) hf hL3 hc hw).det
        by_cases he : e = 0
        case neg =>
          (conv => whnf); repeat' (first | (refine callK_of p1 ?_; rintro _ rfl; conv => whnf) | (refine callK_of p2 ?_; rintro _ rfl; conv => whnf) | (refine callK_of pA ?_; rintro _ rfl; conv => whnf) | (refine callB aliveD (fun _ => ?_) (fun h => absurd trivial h); conv => whnf) | ((with_reducible first | apply kN | apply kW | apply kX | apply kG | apply kQ); (· exact sd); conv => whnf) | (refine pcase.mk ?_ ?_ <;> intro hc <;> (try rw [List.length_nil] at hc) <;> first | (exfalso; omega) | (exact absurd rfl hc) | conv => whnf) | (refine bcase_intro ?_ ?_ <;> intro hc <;> conv => whnf))
          all_goals first | rfl | (exfalso; omega) | (trace_state; fail "lawD1")
        obtain ⟨hfh, s1, s2⟩ := hh he
        obtain ⟨_, ⟨x1, x2, rfl⟩, w1⟩ := (withoutP (bn := d1) (be := d2) (hf.mono (by omega) (by omega)) (ns := R1) (es := R2) (by omega) (by omega)).det
        obtain ⟨_, ⟨y1, y2, rfl⟩, w2⟩ := (withoutP (bn := d1) (be := d2) (hfh.mono (by omega) (by omega)) (ns := R1) (es := R2) (by omega) (by omega)).det
        rw [s1, s2] at w2
        have lN9 : (keepN R1 g.nodes).length ≤ g.nodes.length := List.length_filter_le _ _
        have lE9 : (keepE R2 g.edges).length ≤ g.edges.length := List.length_filter_le _ _
        have gN := hf.2.1
        have gE := hf.2.2.1
        have pS := alikeA (a1 := x1) (a2 := x2) (b1 := y1) (b2 := y2) (N := keepN R1 g.nodes) (E := keepE R2 g.edges) (by omega) (by omega) (fun n hn => goodN_of hg hs n (List.mem_filter.1 hn).1) (fun n hn => goodE_of hg hs n (List.mem_filter.1 hn).1)
        (conv => whnf); repeat' (first | (refine callK_of p1 ?_; rintro _ rfl; conv => whnf) | (refine callK_of p2 ?_; rintro _ rfl; conv => whnf) | (refine callK_of pA ?_; rintro _ rfl; conv => whnf) | (refine callK_of pT ?_; rintro _ rfl; conv => whnf) | (refine callK_of w1 ?_; rintro _ rfl; conv => whnf) | (refine callK_of w2 ?_; rintro _ rfl; conv => whnf) | (refine callB pS (fun _ => ?_) (fun h => absurd trivial h); conv => whnf) | (refine callB aliveD (fun _ => ?_) (fun h => absurd trivial h); conv => whnf) | ((with_reducible first | apply kN | apply kW | apply kX | apply kG | apply kQ); (· exact sd); conv => whnf) | (refine pcase.mk ?_ ?_ <;> intro hc <;> (try rw [List.length_nil] at hc) <;> first | (exfalso; omega) | (exact absurd rfl hc) | conv => whnf) | (refine bcase_intro ?_ ?_ <;> intro hc <;> conv => whnf))
        all_goals first | rfl | (exfalso; omega) | (trace_state; fail "lawD2")

end AI
end Go.Proofs.YtnfdpfeeenmffaaGreatDoor
