/- The law DeltaTells, about the evaluator. -/
import Derived.Test.YtkknpgebiihkfaaGreatDoorDeS
import Derived.Test.YtkknpgebiihkfaaGreatDoorDeX
import Derived.Test.YtkknpgebiihkfaaGreatDoorDeLives
set_option linter.unusedVariables false
set_option maxRecDepth 4000
namespace Go.Proofs.YtkknpgebiihkfaaGreatDoor
namespace AI

theorem aliveD : PureP (findFn tab) 5 [] (· = .bool (decide True)) := ⟨.bool true, ⟨80, alive_call⟩, rfl⟩

theorem smallD {a b : GG} (ha : a.ok) (hb : b.ok) : PureP (findFn tab) 4 [a.av, b.av] (fun v => ∃ t, v = .bool t ∧ (t = true → SmG a 24 30 ∧ SmG b 24 30)) := by
  obtain ⟨_, ⟨t1, rfl, h1⟩, p1⟩ := (small ha (n := 24) (e := 30)).det
  obtain ⟨_, ⟨t2, rfl, h2⟩, p2⟩ := (small hb (n := 24) (e := 30)).det
  cases t1 <;> cases t2
  all_goals
    refine pureP_of rfl rfl ?_
    (conv => whnf); repeat' (first | (refine callK_of p1 ?_; rintro _ rfl; conv => whnf) | (refine callK_of p2 ?_; rintro _ rfl; conv => whnf) | ((with_reducible first | apply kN | apply kW | apply kX | apply kG | apply kQ); (· exact sd); conv => whnf) | (refine pcase.mk ?_ ?_ <;> intro hc <;> (try rw [List.length_nil] at hc) <;> first | (exfalso; omega) | (exact absurd rfl hc) | conv => whnf) | (refine bcase_intro ?_ ?_ <;> intro hc <;> conv => whnf))
    all_goals first | exact ⟨_, rfl, fun _ => ⟨h1 rfl, h2 rfl⟩⟩ | exact ⟨_, rfl, fun h => Bool.noConfusion h⟩ | (trace_state; fail "smallD")

theorem sameCh {c : GC} (h : FineV c.v) : PureP (findFn tab) 24 [c.av, c.av] (· = .bool true) := by
  have ho := ordR h h
  have h0 : cmpV 12 c.v c.v = 0 := by have := (pc_cmpV 12).anti c.v c.v; omega
  rw [h0] at ho
  refine pureP_of rfl rfl ?_
  (conv => whnf); repeat' (first | (refine callK_of ho ?_; rintro _ rfl; conv => whnf) | ((with_reducible first | apply kN | apply kW | apply kX | apply kG | apply kQ); (· exact sd); conv => whnf) | (refine pcase.mk ?_ ?_ <;> intro hc <;> (try rw [List.length_nil] at hc) <;> first | (exfalso; omega) | (exact absurd rfl hc) | conv => whnf) | (refine bcase_intro ?_ ?_ <;> intro hc <;> conv => whnf))
  all_goals first | rfl | exact absurd rfl (by assumption) | (exfalso; omega) | (trace_state; fail "sameCh")
theorem sameAllD {L : List GC} {n1 n2 : Bool} (hl : L.length < 2^62) (h : ∀ c ∈ L, FineV c.v) : PureP (findFn tab) 10 [.sl n1 (vs GC.av L), .sl n2 (vs GC.av L)] (· = .bool true) := by
  refine pureP_of rfl rfl ?_
  (conv => whnf); repeat' (first  | ((with_reducible first | apply kN | apply kW | apply kX | apply kG | apply kQ); (· exact sd); conv => whnf) | (refine pcase.mk ?_ ?_ <;> intro hc <;> (try rw [List.length_nil] at hc) <;> first | (exfalso; omega) | (exact absurd rfl hc) | conv => whnf) | (refine bcase_intro ?_ ?_ <;> intro hc <;> conv => whnf))
  all_goals first | (exfalso; omega) | skip
  refine loop_inv (fun m env s => ∃ i : Nat, m = L.length - i ∧ env = [(0, .sl n1 (vs GC.av L)), (1, .sl n2 (vs GC.av L)), (5, .int .i64 i)] ∧ s = ⟨[], 0⟩) ?_ _ _ _ ⟨0, rfl, rfl, rfl⟩
  rintro _ _ _ ⟨i, rfl, rfl, rfl⟩
  refine ⟨rfl, ?_⟩
  by_cases hlt : i < L.length
  · have hp := sameCh (h _ (List.getElem_mem hlt))
    (conv => whnf); repeat' (first | (refine callK_of hp ?_; rintro _ rfl; conv => whnf) | ((with_reducible first | apply kN | apply kW | apply kX | apply kG | apply kQ); (· exact sd); conv => whnf) | (refine pcase.mk ?_ ?_ <;> intro hc <;> (try rw [List.length_nil] at hc) <;> first | (exfalso; omega) | (exact absurd rfl hc) | conv => whnf) | (refine bcase_intro ?_ ?_ <;> intro hc <;> conv => whnf))
    all_goals first | exact again.mk ⟨_, by omega, i + 1, rfl, rfl, rfl⟩ | (exfalso; omega) | (trace_state; fail "sameAll1")
  · (conv => whnf); repeat' (first  | ((with_reducible first | apply kN | apply kW | apply kX | apply kG | apply kQ); (· exact sd); conv => whnf) | (refine pcase.mk ?_ ?_ <;> intro hc <;> (try rw [List.length_nil] at hc) <;> first | (exfalso; omega) | (exact absurd rfl hc) | conv => whnf) | (refine bcase_intro ?_ ?_ <;> intro hc <;> conv => whnf))
    all_goals first | rfl | (exfalso; omega) | (trace_state; fail "sameAll2")

theorem fine0 {op id fr to : Int} {k : List UInt8} : FineV (GC.mk op id fr to k Z0).v := Z0_ok
theorem names_fine {op id : Int} {l m : List (List UInt8)} : ∀ c ∈ namesL op id l m, FineV c.v := fun c hc => by
  obtain ⟨x, _, rfl⟩ := List.mem_map.1 hc
  exact fine0
theorem values_fine {op id : Int} {a b : List GP} (h : GoodP b) : ∀ c ∈ valuesL op id a b, FineV c.v := fun c hc => by
  obtain ⟨x, hx, rfl⟩ := List.mem_map.1 hc
  have := h.2 x (List.mem_filter.1 hx).1
  exact ⟨this.1.2, this.2⟩
theorem script_fine {a b : GG} (hb : PlainG b) : ∀ c ∈ scriptL a b, FineV c.v := fun c hc => by
  rcases List.mem_append.1 hc with h | h
  · rcases List.mem_append.1 h with h | h <;> (obtain ⟨x, _, rfl⟩ := List.mem_map.1 h; exact fine0)
  · rcases List.mem_append.1 h with h | h
    · rcases List.mem_append.1 h with h | h
      · obtain ⟨x, _, rfl⟩ := List.mem_map.1 h; exact fine0
      · obtain ⟨n, hn, h⟩ := List.mem_flatMap.1 h
        have hg := (hb.nodes n hn).2.2.2.1
        rcases List.mem_append.1 h with h | h
        · exact names_fine c h
        · rcases List.mem_append.1 h with h | h
          · exact names_fine c h
          · rcases List.mem_append.1 h with h | h
            · exact names_fine c h
            · exact values_fine hg c h
    · rcases List.mem_append.1 h with h | h
      · obtain ⟨x, _, rfl⟩ := List.mem_map.1 h; exact fine0
      · obtain ⟨n, hn, h⟩ := List.mem_flatMap.1 h
        rcases List.mem_append.1 h with h | h
        · exact names_fine c h
        · exact values_fine (hb.edges n hn).2.2.1 c h
theorem ofL_fine {a b : GG} (hb : b.ok) (sb : SmG b 24 30) : ∀ c ∈ ofL a b, FineV c.v := by
  unfold ofL
  split
  · split
    · exact script_fine (plain_of hb sb (by assumption))
    · intro c hc; cases hc
  · intro c hc; cases hc
theorem flm_len {α β : Type} {f : α → List β} {l : List α} {k : Nat} (h : ∀ x ∈ l, (f x).length ≤ k) : (l.flatMap f).length ≤ k * l.length := by
  induction l with
  | nil => simp
  | cons a l ih =>
    have h1 := h a (by simp)
    have h2 := ih fun x hx => h x (by simp [hx])
    rw [List.flatMap_cons, List.length_append, List.length_cons, Nat.mul_add]
    omega
theorem ofL_len {a b : GG} (ha : a.ok) (hb : b.ok) (sa : SmG a 24 30) (sb : SmG b 24 30) : (ofL a b).length < 2^62 := by
  unfold ofL
  split
  · rename_i h1
    split
    · rename_i h2
      have pa := plain_of ha sa h1
      have pb := plain_of hb sb h2
      obtain ⟨_, ⟨_, _, g2⟩, _⟩ := (nodesRq pa pb).det
      obtain ⟨_, ⟨_, _, g3⟩, _⟩ := (edgesRq pa pb).det
      have g1 := goneL_len (b := b) pa
      unfold scriptL
      rw [List.length_append, List.length_append]
      omega
    · decide
  · decide

set_option maxRecDepth 10000 in
set_option maxHeartbeats 2000000 in
theorem law_tells : ∀ xs, likes Tryz.prog [25, 25] xs → Calls1 (findFn tab) 3 xs ⟨[], 0⟩ fun out _ => out = .ok (.bool true) := by
  intro xs h
  match xs, h with
  | [x, y], h =>
    obtain ⟨h1, h2, _⟩ := h
    obtain ⟨a, rfl, ha⟩ := like_graph h1
    obtain ⟨b, rfl, hb⟩ := like_graph h2
    obtain ⟨_, ⟨b1, rfl, q1⟩, p1⟩ := (smallD ha hb).det
    refine calls1_of rfl rfl ?_
    cases b1 with
    | false =>
      (conv => whnf); repeat' (first | (refine callK_of p1 ?_; rintro _ rfl; conv => whnf) | (refine callB aliveD (fun _ => ?_) (fun h => absurd trivial h); conv => whnf) | ((with_reducible first | apply kN | apply kW | apply kX | apply kG | apply kQ); (· exact sd); conv => whnf) | (refine pcase.mk ?_ ?_ <;> intro hc <;> (try rw [List.length_nil] at hc) <;> first | (exfalso; omega) | (exact absurd rfl hc) | conv => whnf) | (refine bcase_intro ?_ ?_ <;> intro hc <;> conv => whnf))
      all_goals rfl
    | true =>
      obtain ⟨sa, sb⟩ := q1 rfl
      obtain ⟨_, ⟨n1, rfl⟩, pP⟩ := (ofP ha hb sa sb).det
      obtain ⟨_, ⟨n2, rfl⟩, pR⟩ := (ofR ha hb sa sb).det
      have hS := sameAllD (n1 := n1) (n2 := n2) (ofL_len ha hb sa sb) (ofL_fine hb sb)
      have aP := alikeP (fine_of ha sa) (fine_of hb sb)
      have aR := alikeR (fine_of ha sa) (fine_of hb sb)
      obtain ⟨t, ht⟩ : ∃ t, decide (SG a b) = t := ⟨_, rfl⟩
      rw [ht] at aP aR
      cases t
      all_goals
        (conv => whnf); repeat' (first | (refine callK_of p1 ?_; rintro _ rfl; conv => whnf) | (refine callK_of pP ?_; rintro _ rfl; conv => whnf) | (refine callK_of pR ?_; rintro _ rfl; conv => whnf) | (refine callK_of aP ?_; rintro _ rfl; conv => whnf) | (refine callK_of aR ?_; rintro _ rfl; conv => whnf) | (refine callK_of hS ?_; rintro _ rfl; conv => whnf) | (refine callB aliveD (fun _ => ?_) (fun h => absurd trivial h); conv => whnf) | ((with_reducible first | apply kN | apply kW | apply kX | apply kG | apply kQ); (· exact sd); conv => whnf) | (refine pcase.mk ?_ ?_ <;> intro hc <;> (try rw [List.length_nil] at hc) <;> first | (exfalso; omega) | (exact absurd rfl hc) | conv => whnf) | (refine bcase_intro ?_ ?_ <;> intro hc <;> conv => whnf))
        all_goals first | rfl | exact absurd rfl (by assumption) | (exfalso; omega) | (trace_state; fail "lawD")

end AI
end Go.Proofs.YtkknpgebiihkfaaGreatDoor
