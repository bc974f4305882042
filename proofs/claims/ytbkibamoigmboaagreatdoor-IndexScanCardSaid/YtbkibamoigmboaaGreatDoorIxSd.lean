/- The law about scanning, put together. -/
import Derived.Test.YtbkibamoigmboaaGreatDoorIxSc
set_option linter.unusedVariables false
set_option maxRecDepth 4000
namespace Go.Proofs.YtbkibamoigmboaaGreatDoor
namespace AI
open Go.Sort

theorem sel_set {label key : List UInt8} {ok : GV → Bool} {N : List GN} (hf : Fit N) (hN : N.length ≤ 40) {M : List GT} (hM : M.Perm (ents N)) {b : Bool} {A : List Int} (hA : A = sel label key ok N) : SetI (hits label key ok M) (.sl b (vs (.int .i64) A)) := by
  subst hA
  have := sel_len (label := label) (key := key) (ok := ok) (N := N)
  exact ⟨b, _, rfl, sel_rise hf, by omega, fun y => sel_hits hf hM⟩
theorem hits_congr {label key : List UInt8} {ok ok' : GV → Bool} {M : List GT} (h : ∀ e, ok e = ok' e) : hits label key ok M = hits label key ok' M := by
  have : ok = ok' := funext h
  rw [this]

set_option maxRecDepth 10000 in
set_option maxHeartbeats 8000000 in
theorem law_scan : ∀ xs, likes Tryz.prog [45] xs → Calls1 (findFn tab) 9 xs ⟨[], 0⟩ fun out _ => out = .ok (.bool true) := by
  intro xs h
  match xs, h with
  | [a], h =>
    obtain ⟨h1, _⟩ := h
    obtain ⟨q, rfl, hq⟩ := like_ask h1
    obtain ⟨hl, hn, hoke, hg, hl1, hl2, hlo, hhi⟩ := hq
    obtain ⟨_, ⟨b, rfl, hb⟩, ps⟩ := (smallP hg).det
    have pc := checkG hg
    refine calls1_of rfl rfl ?_
    cases b with
    | false =>
      (conv => whnf); repeat' (first | (refine callK_of ps ?_; rintro _ rfl; conv => whnf) | (refine callB livesI (fun _ => ?_) (fun h => absurd trivial h); conv => whnf) | ((with_reducible first | apply kN | apply kW | apply kX | apply kG | apply kQ); (· exact sd); conv => whnf) | (refine pcase.mk ?_ ?_ <;> intro hc <;> (try rw [List.length_nil] at hc) <;> first | (exfalso; omega) | (exact absurd rfl hc) | conv => whnf) | (refine bcase_intro ?_ ?_ <;> intro hc <;> conv => whnf))
      all_goals first | rfl | (exfalso; omega) | (trace_state; fail "law1")
    | true =>
      by_cases h0 : checkE q.g = 0
      case neg =>
        generalize checkE q.g = z at *
        (conv => whnf); repeat' (first | (refine callK_of ps ?_; rintro _ rfl; conv => whnf) | (refine callK_of pc ?_; rintro _ rfl; conv => whnf) | (refine callB livesI (fun _ => ?_) (fun h => absurd trivial h); conv => whnf) | ((with_reducible first | apply kN | apply kW | apply kX | apply kG | apply kQ); (· exact sd); conv => whnf) | (refine pcase.mk ?_ ?_ <;> intro hc <;> (try rw [List.length_nil] at hc) <;> first | (exfalso; omega) | (exact absurd rfl hc) | conv => whnf) | (refine bcase_intro ?_ ?_ <;> intro hc <;> conv => whnf))
        all_goals first | rfl | (exfalso; omega) | (trace_state; fail "law2")
      obtain ⟨b1, b2⟩ := hb rfl
      have hck : chk q.g = q.g := if_pos h0
      have ht := tame_of h0
      have hf := fit_of h0
      have hokn := hg.2.2.1
      obtain ⟨v, ⟨y, W, rfl, hW, -⟩, pb⟩ := (buildP hg (by rw [hck]; omega)).det
      rw [hck] at hW
      rw [h0] at pc
      have hM := ents_len ht q.g.nodes.length
      rw [List.take_length] at hM
      have hWl : (W.map GX.e).length ≤ 100000 := by rw [hW.length_eq]; omega
      have hWo : ∀ e ∈ W.map GX.e, e.v.ok := fun e he => by
        obtain ⟨x, _, rfl⟩ := List.mem_map.1 he
        exact x.h.1.2.2.1
      obtain ⟨vF, sF, pF⟩ := (findV (nn := y) (label := q.label) (key := q.key) hlo hWl hWo).det
      obtain ⟨v0, s0, p0⟩ := (rangeV (nn := y) (label := q.label) (key := q.key) gv0_ok gv0_ok hWl hWo).det
      obtain ⟨vR, sR, pR⟩ := (rangeV (nn := y) (label := q.label) (key := q.key) hlo hhi hWl hWo).det
      rw [← vs_lift] at pF p0 pR
      obtain ⟨_, ⟨zl, rfl, el⟩, ol⟩ := (orderPN hlo).det
      obtain ⟨_, ⟨zh, rfl, eh⟩, oh⟩ := (orderPN hhi).det
      rw [hits_congr (ok' := okA) (fun e => by unfold okR okA; rw [decide_eq_true null_gv0]; rfl)] at s0
      have eR : ¬ isNull q.lo → ¬ isNull q.hi → hits q.label q.key (okR q.lo q.hi) (W.map GX.e) = hits q.label q.key (okW q.lo q.hi) (W.map GX.e) := fun h1 h2 => hits_congr (fun e => by unfold okR okW; rw [decide_eq_false h1, decide_eq_false h2, Bool.false_or, Bool.false_or])
      clear hl hn hoke hl1 hl2 hb hck hM hWl hWo
      (conv => whnf); repeat' (first | (refine callK_of ps ?_; rintro _ rfl; conv => whnf) | (refine callK_of pc ?_; rintro _ rfl; conv => whnf) | (refine callK_of pb ?_; rintro _ rfl; conv => whnf) | ((with_reducible first | apply kN | apply kW | apply kX | apply kG | apply kQ); (· exact sd); conv => whnf) | (refine pcase.mk ?_ ?_ <;> intro hc <;> (try rw [List.length_nil] at hc) <;> first | (exfalso; omega) | (exact absurd rfl hc) | conv => whnf) | (refine bcase_intro ?_ ?_ <;> intro hc <;> conv => whnf))
      all_goals first | (exfalso; omega) | skip
      refine scanL rfl b1 hokn ht hf hlo hhi ?_
      intro c ga gb gc n1 n2 n3 fa fb fc A B C tl hA hB hC e1 e2 e3
      subst e1 e2 e3
      have cF := SetI_eq sF (sel_set (b := fa) hf b1 hW hA)
      have c0 := SetI_eq s0 (sel_set (b := fc) hf b1 hW hC)
      have cR : ¬ isNull q.lo → ¬ isNull q.hi → PureP (findFn tab) 12 [vR, .sl fb (vs (.int .i64) B)] (· = .bool true) := fun h1 h2 => by
        rw [eR h1 h2] at sR
        exact SetI_eq sR (sel_set (b := fb) hf b1 hW hB)
      obtain ⟨bF, WF, rfl, -⟩ := sF
      obtain ⟨b0, W0, rfl, -⟩ := s0
      obtain ⟨bR, WR, rfl, -⟩ := sR
      clear hA hB hC eR hf ht hokn hW
      by_cases hnl : isNull q.lo
      · obtain rfl := el.2 hnl
        (conv => whnf); repeat' (first | (refine callK_of nullP ?_; rintro _ rfl; conv => whnf) | (refine callK_of pF ?_; rintro _ rfl; conv => whnf) | (refine callK_of cF ?_; rintro _ rfl; conv => whnf) | (refine callK_of p0 ?_; rintro _ rfl; conv => whnf) | (refine callK_of c0 ?_; rintro _ rfl; conv => whnf) | (refine callK_of ol ?_; rintro _ rfl; conv => whnf) | (refine callB livesI (fun _ => ?_) (fun h => absurd trivial h); conv => whnf) | ((with_reducible first | apply kN | apply kW | apply kX | apply kG | apply kQ); (· exact sd); conv => whnf) | (refine pcase.mk ?_ ?_ <;> intro hc <;> (try rw [List.length_nil] at hc) <;> first | (exfalso; omega) | (exact absurd rfl hc) | conv => whnf) | (refine bcase_intro ?_ ?_ <;> intro hc <;> conv => whnf))
        all_goals first | rfl | (exfalso; omega) | (trace_state; fail "law3")
      · have zl0 : ¬ zl = 0 := fun h => hnl (el.1 h)
        by_cases hnh : isNull q.hi
        · obtain rfl := eh.2 hnh
          clear el
          (conv => whnf); repeat' (first | (refine callK_of nullP ?_; rintro _ rfl; conv => whnf) | (refine callK_of pF ?_; rintro _ rfl; conv => whnf) | (refine callK_of cF ?_; rintro _ rfl; conv => whnf) | (refine callK_of p0 ?_; rintro _ rfl; conv => whnf) | (refine callK_of c0 ?_; rintro _ rfl; conv => whnf) | (refine callK_of ol ?_; rintro _ rfl; conv => whnf) | (refine callK_of oh ?_; rintro _ rfl; conv => whnf) | (refine callB livesI (fun _ => ?_) (fun h => absurd trivial h); conv => whnf) | ((with_reducible first | apply kN | apply kW | apply kX | apply kG | apply kQ); (· exact sd); conv => whnf) | (refine pcase.mk ?_ ?_ <;> intro hc <;> (try rw [List.length_nil] at hc) <;> first | (exfalso; omega) | (exact absurd rfl hc) | conv => whnf) | (refine bcase_intro ?_ ?_ <;> intro hc <;> conv => whnf))
          all_goals first | rfl | (exfalso; omega) | (trace_state; fail "law4")
        · have zh0 : ¬ zh = 0 := fun h => hnh (eh.1 h)
          have cR := cR hnl hnh
          clear el eh
          (conv => whnf); repeat' (first | (refine callK_of nullP ?_; rintro _ rfl; conv => whnf) | (refine callK_of pF ?_; rintro _ rfl; conv => whnf) | (refine callK_of cF ?_; rintro _ rfl; conv => whnf) | (refine callK_of p0 ?_; rintro _ rfl; conv => whnf) | (refine callK_of c0 ?_; rintro _ rfl; conv => whnf) | (refine callK_of ol ?_; rintro _ rfl; conv => whnf) | (refine callK_of oh ?_; rintro _ rfl; conv => whnf) | (refine callK_of pR ?_; rintro _ rfl; conv => whnf) | (refine callK_of cR ?_; rintro _ rfl; conv => whnf) | (refine callB livesI (fun _ => ?_) (fun h => absurd trivial h); conv => whnf) | ((with_reducible first | apply kN | apply kW | apply kX | apply kG | apply kQ); (· exact sd); conv => whnf) | (refine pcase.mk ?_ ?_ <;> intro hc <;> (try rw [List.length_nil] at hc) <;> first | (exfalso; omega) | (exact absurd rfl hc) | conv => whnf) | (refine bcase_intro ?_ ?_ <;> intro hc <;> conv => whnf))
          all_goals first | rfl | (exfalso; omega) | (trace_state; fail "law5")

end AI
end Go.Proofs.YtbkibamoigmboaaGreatDoor
