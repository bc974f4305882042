/- degree.Of: the loop over the types. -/
import Derived.Test.YtokdbmakkoleiaaGreatMO
import Derived.Test.YtokdbmakkoleiaaGreatMW
import Derived.Test.YtokdbmakkoleiaaGreatDsAll
set_option linter.unusedVariables false
namespace Go.Proofs.YtokdbmakkoleiaaGreat
namespace AI

/-- the degree sequence -/
def seqL (g : GG) (dir : Int) (x : List UInt8) : List Int := sortB id (degs x dir g.nodes g.edges)
theorem seqL_eq {g : GG} {dir : Int} {x : List UInt8} {W : List Int} (h1 : desc W) (h2 : W.Perm (degs x dir g.nodes g.edges)) : W = seqL g dir x :=
  desc_unique (h2.trans (sortB_perm (k := id)).symm) h1 sortB_desc

def slI (p : Bool × List Int) : AV := .sl p.1 (vi p.2)
theorem cellsSl : ∀ p, (slI p).cells.length = 1 := fun _ => rfl
/-- sequences, with flags that are false only for none -/
def SeqsOf (g : GG) (dir : Int) (R : List (List UInt8)) (O : List (Bool × List Int)) : Prop := O.map Prod.snd = R.map (seqL g dir) ∧ ∀ p ∈ O, p.1 = false → p.2 = []
theorem seqsOf_succ {g : GG} {dir : Int} {R : List (List UInt8)} {O : List (Bool × List Int)} {i : Nat} (hi : i < R.length) (h : SeqsOf g dir (R.take i) O) {b : Bool} {W : List Int} (h1 : desc W) (h2 : W.Perm (degs R[i] dir g.nodes g.edges)) (h3 : b = false → W = []) :
    SeqsOf g dir (R.take (i + 1)) (O ++ [(b, W)]) := by
  refine ⟨?_, fun p hp => ?_⟩
  · rw [List.take_succ_eq_append_getElem hi, List.map_append, List.map_append, h.1, seqL_eq h1 h2]; rfl
  · rcases List.mem_append.1 hp with hp | hp
    · exact h.2 p hp
    · obtain rfl := List.mem_singleton.1 hp; exact h3
theorem seqsOf_len {g : GG} {dir : Int} {R : List (List UInt8)} {O : List (Bool × List Int)} (h : SeqsOf g dir R O) : O.length = R.length := by
  have := congrArg List.length h.1
  simpa using this

set_option maxHeartbeats 1000000 in
theorem tyO0 {g : GG} (hN : g.nodes.length ≤ 2000) (hE : g.edges.length ≤ 4000) {R : List (List UInt8)} (hR : R.length ≤ 100000000) {nn : Bool} {N E : Int} {o1 : Obj} {c : Nat} {Q : AExit → Env → Sto → Prop}
    (hQ0 : R = [] → ∀ c' tl, Q (.exit 4) ([(1, .ref 0 0 0 0), (2, .ref 1 1 0 0), (5, .ref 2 2 0 0)] ++ tl) ⟨[.arr 0 4 true true [g.av], o1, .arr 2 6 true true [.agg [.int .i64 N, .int .i64 E, .sl false [], .sl false [], .sl false [], .sl false []]]], c'⟩)
    (hQ1 : R ≠ [] → ∀ c' ga gb gc n O I tl, n = R.length → SeqsOf g 1 R O → SeqsOf g 2 R I → Q (.exit 4) ([(1, .ref 0 0 0 0), (2, .ref 1 1 0 0), (5, .ref 2 2 0 0)] ++ tl) ⟨[.arr 0 4 true true [g.av], o1, .arr 2 6 true false [.agg [.int .i64 N, .int .i64 E, .sl false [], .own 3 ga 0 n, .own 4 gb 0 n, .own 5 gc 0 n]], .arr ga 2 true true (vs CN.av (cnts (cntT g.edges) R)), .arr gb 1 true true (vs slI O), .arr gc 1 true true (vs slI I)], c'⟩) :
    Run (findFn tab) (.loop l8_3_h l8_3_b) [(1, .ref 0 0 0 0), (2, .ref 1 1 0 0), (5, .ref 2 2 0 0), (59, .sl nn (vs .str R)), (60, .int .i64 R.length), (61, .int .i64 0)] ⟨[.arr 0 4 true true [g.av], o1, .arr 2 6 true true [.agg [.int .i64 N, .int .i64 E, .sl false [], .sl false [], .sl false [], .sl false []]]], c⟩ Q := by
  refine loop_inv (fun m env s => ∃ (i c : Nat), m = R.length - i ∧ i ≤ R.length ∧ env = [(1, .ref 0 0 0 0), (2, .ref 1 1 0 0), (5, .ref 2 2 0 0), (59, .sl nn (vs .str R)), (60, .int .i64 R.length), (61, .int .i64 i)] ∧
    (i = 0 ∧ s = ⟨[.arr 0 4 true true [g.av], o1, .arr 2 6 true true [.agg [.int .i64 N, .int .i64 E, .sl false [], .sl false [], .sl false [], .sl false []]]], c⟩ ∨
     0 < i ∧ ∃ ga gb gc n na nb nc L O I, n = i ∧ L = cnts (cntT g.edges) (R.take i) ∧ SeqsOf g 1 (R.take i) O ∧ SeqsOf g 2 (R.take i) I ∧ na = n ∧ nb = n ∧ nc = n ∧ n = L.length ∧ n = O.length ∧ n = I.length ∧ s = ⟨[.arr 0 4 true true [g.av], o1, .arr 2 6 true false [.agg [.int .i64 N, .int .i64 E, .sl false [], .own 3 ga 0 na, .own 4 gb 0 nb, .own 5 gc 0 nc]], .arr ga 2 true true (vs CN.av L), .arr gb 1 true true (vs slI O), .arr gc 1 true true (vs slI I)], c⟩)) ?_ _ _ _ ⟨0, c, rfl, by omega, rfl, .inl ⟨rfl, rfl⟩⟩
  rintro _ _ _ ⟨i, c, rfl, hi, rfl, h⟩
  rcases h with ⟨rfl, rfl⟩ | ⟨hpos, ga, gb, gc, n, na, nb, nc, L, O, I, hni, hLe, hO, hI, rfl, hb2, hc2, hn, hnO, hnI, rfl⟩
  · refine ⟨rfl, ?_⟩
    by_cases hlt : 0 < R.length
    · have hs := @cnts_succ (cntT g.edges) R 0 hlt
      (conv => whnf); repeat' (first  | ((with_reducible first | apply kN | apply kW | apply kX | apply kG | apply kQ); (· exact sd); conv => whnf) | (refine pcase.mk ?_ ?_ <;> intro hc <;> (try rw [List.length_nil] at hc) <;> first | (exfalso; omega) | (exact absurd rfl hc) | conv => whnf) | (refine bcase_intro ?_ ?_ <;> intro hc <;> conv => whnf))
      refine inT00 hE ?_
      intro c' tl
      (conv => whnf); repeat' (first | (refine apV1 (l := []) (x := (⟨R[0], cntT g.edges R[0]⟩ : CN)) cellsC rfl (by simp) ?_; conv => whnf) | ((with_reducible first | apply kN | apply kW | apply kX | apply kG | apply kQ); (· exact sd); conv => whnf) | (refine pcase.mk ?_ ?_ <;> intro hc <;> (try rw [List.length_nil] at hc) <;> first | (exfalso; omega) | (exact absurd rfl hc) | conv => whnf) | (refine bcase_intro ?_ ?_ <;> intro hc <;> conv => whnf))
      refine callK_of (seqP (typ := R[0]) (dir := 1) hN hE) ?_
      rintro _ ⟨b1, W1, rfl, w1, p1, z1⟩
      (conv => whnf); repeat' (first | (refine apV1 (l := []) (f := slI) (x := (b1, W1)) cellsSl rfl (by simp) ?_; conv => whnf) | ((with_reducible first | apply kN | apply kW | apply kX | apply kG | apply kQ); (· exact sd); conv => whnf) | (refine pcase.mk ?_ ?_ <;> intro hc <;> (try rw [List.length_nil] at hc) <;> first | (exfalso; omega) | (exact absurd rfl hc) | conv => whnf) | (refine bcase_intro ?_ ?_ <;> intro hc <;> conv => whnf))
      refine callK_of (seqP (typ := R[0]) (dir := 2) hN hE) ?_
      rintro _ ⟨b2, W2, rfl, w2, p2, z2⟩
      (conv => whnf); repeat' (first | (refine apV1 (l := []) (f := slI) (x := (b2, W2)) cellsSl rfl (by simp) ?_; conv => whnf) | ((with_reducible first | apply kN | apply kW | apply kX | apply kG | apply kQ); (· exact sd); conv => whnf) | (refine pcase.mk ?_ ?_ <;> intro hc <;> (try rw [List.length_nil] at hc) <;> first | (exfalso; omega) | (exact absurd rfl hc) | conv => whnf) | (refine bcase_intro ?_ ?_ <;> intro hc <;> conv => whnf))
      exact again.mk ⟨_, by omega, 1, _, rfl, by omega, rfl, .inr ⟨by omega, _, _, _, _, _, _, _, _, _, _, rfl, hs.symm, seqsOf_succ (O := []) hlt ⟨rfl, fun p hp => by simp at hp⟩ w1 p1 z1, seqsOf_succ (O := []) hlt ⟨rfl, fun p hp => by simp at hp⟩ w2 p2 z2, rfl, rfl, rfl, rfl, rfl, rfl, rfl⟩⟩
    · (conv => whnf); repeat' (first  | ((with_reducible first | apply kN | apply kW | apply kX | apply kG | apply kQ); (· exact sd); conv => whnf) | (refine pcase.mk ?_ ?_ <;> intro hc <;> (try rw [List.length_nil] at hc) <;> first | (exfalso; omega) | (exact absurd rfl hc) | conv => whnf) | (refine bcase_intro ?_ ?_ <;> intro hc <;> conv => whnf))
      exact hQ0 (List.eq_nil_of_length_eq_zero (by omega)) _ _
  · refine ⟨rfl, ?_⟩
    by_cases hlt : i < R.length
    · have hs := @cnts_succ (cntT g.edges) R i hlt
      (conv => whnf); repeat' (first  | ((with_reducible first | apply kN | apply kW | apply kX | apply kG | apply kQ); (· exact sd); conv => whnf) | (refine pcase.mk ?_ ?_ <;> intro hc <;> (try rw [List.length_nil] at hc) <;> first | (exfalso; omega) | (exact absurd rfl hc) | conv => whnf) | (refine bcase_intro ?_ ?_ <;> intro hc <;> conv => whnf))
      refine inT01 hE ?_
      intro c' tl
      (conv => whnf); repeat' (first | (refine apV1 (x := (⟨R[i], cntT g.edges R[i]⟩ : CN)) cellsC hn (by omega) ?_; conv => whnf) | ((with_reducible first | apply kN | apply kW | apply kX | apply kG | apply kQ); (· exact sd); conv => whnf) | (refine pcase.mk ?_ ?_ <;> intro hc <;> (try rw [List.length_nil] at hc) <;> first | (exfalso; omega) | (exact absurd rfl hc) | conv => whnf) | (refine bcase_intro ?_ ?_ <;> intro hc <;> conv => whnf))
      refine callK_of (seqP (typ := R[i]) (dir := 1) hN hE) ?_
      rintro _ ⟨b1, W1, rfl, w1, p1, z1⟩
      (conv => whnf); repeat' (first | (refine apV1 (f := slI) (x := (b1, W1)) cellsSl (by omega) (by omega) ?_; conv => whnf) | ((with_reducible first | apply kN | apply kW | apply kX | apply kG | apply kQ); (· exact sd); conv => whnf) | (refine pcase.mk ?_ ?_ <;> intro hc <;> (try rw [List.length_nil] at hc) <;> first | (exfalso; omega) | (exact absurd rfl hc) | conv => whnf) | (refine bcase_intro ?_ ?_ <;> intro hc <;> conv => whnf))
      refine callK_of (seqP (typ := R[i]) (dir := 2) hN hE) ?_
      rintro _ ⟨b2, W2, rfl, w2, p2, z2⟩
      (conv => whnf); repeat' (first | (refine apV1 (f := slI) (x := (b2, W2)) cellsSl (by omega) (by omega) ?_; conv => whnf) | ((with_reducible first | apply kN | apply kW | apply kX | apply kG | apply kQ); (· exact sd); conv => whnf) | (refine pcase.mk ?_ ?_ <;> intro hc <;> (try rw [List.length_nil] at hc) <;> first | (exfalso; omega) | (exact absurd rfl hc) | conv => whnf) | (refine bcase_intro ?_ ?_ <;> intro hc <;> conv => whnf))
      rw [← hLe] at hs
      exact again.mk ⟨_, by omega, i + 1, _, rfl, by omega, rfl, .inr ⟨by omega, _, _, _, _, _, _, _, _, _, _, rfl, hs.symm, seqsOf_succ hlt hO w1 p1 z1, seqsOf_succ hlt hI w2 p2 z2, by first | omega | (simp; omega), by first | omega | (simp; omega), by first | omega | (simp; omega), by simp; omega, by simp; omega, by simp; omega, rfl⟩⟩
    · rw [List.take_of_length_le (by omega)] at hLe hO hI
      subst hb2 hc2
      (conv => whnf); repeat' (first  | ((with_reducible first | apply kN | apply kW | apply kX | apply kG | apply kQ); (· exact sd); conv => whnf) | (refine pcase.mk ?_ ?_ <;> intro hc <;> (try rw [List.length_nil] at hc) <;> first | (exfalso; omega) | (exact absurd rfl hc) | conv => whnf) | (refine bcase_intro ?_ ?_ <;> intro hc <;> conv => whnf))
      subst hLe
      exact hQ1 (fun h => by rw [h] at hlt; simp at hlt; rw [h] at hi; simp at hi; omega) _ _ _ _ _ _ _ _ (by omega) hO hI

set_option maxHeartbeats 1000000 in
theorem tyO1 {g : GG} (hN : g.nodes.length ≤ 2000) (hE : g.edges.length ≤ 4000) {R : List (List UInt8)} (hR : R.length ≤ 100000000) {nn : Bool} {N E : Int} {o1 : Obj} {o3 : Obj} {g3 n3 : Nat} {c : Nat} {Q : AExit → Env → Sto → Prop}
    (hQ0 : R = [] → ∀ c' tl, Q (.exit 4) ([(1, .ref 0 0 0 0), (2, .ref 1 1 0 0), (5, .ref 2 2 0 0)] ++ tl) ⟨[.arr 0 4 true true [g.av], o1, .arr 2 6 true false [.agg [.int .i64 N, .int .i64 E, .own 3 g3 0 n3, .sl false [], .sl false [], .sl false []]], o3], c'⟩)
    (hQ1 : R ≠ [] → ∀ c' ga gb gc n O I tl, n = R.length → SeqsOf g 1 R O → SeqsOf g 2 R I → Q (.exit 4) ([(1, .ref 0 0 0 0), (2, .ref 1 1 0 0), (5, .ref 2 2 0 0)] ++ tl) ⟨[.arr 0 4 true true [g.av], o1, .arr 2 6 true false [.agg [.int .i64 N, .int .i64 E, .own 3 g3 0 n3, .own 4 ga 0 n, .own 5 gb 0 n, .own 6 gc 0 n]], o3, .arr ga 2 true true (vs CN.av (cnts (cntT g.edges) R)), .arr gb 1 true true (vs slI O), .arr gc 1 true true (vs slI I)], c'⟩) :
    Run (findFn tab) (.loop l8_3_h l8_3_b) [(1, .ref 0 0 0 0), (2, .ref 1 1 0 0), (5, .ref 2 2 0 0), (59, .sl nn (vs .str R)), (60, .int .i64 R.length), (61, .int .i64 0)] ⟨[.arr 0 4 true true [g.av], o1, .arr 2 6 true false [.agg [.int .i64 N, .int .i64 E, .own 3 g3 0 n3, .sl false [], .sl false [], .sl false []]], o3], c⟩ Q := by
  refine loop_inv (fun m env s => ∃ (i c : Nat), m = R.length - i ∧ i ≤ R.length ∧ env = [(1, .ref 0 0 0 0), (2, .ref 1 1 0 0), (5, .ref 2 2 0 0), (59, .sl nn (vs .str R)), (60, .int .i64 R.length), (61, .int .i64 i)] ∧
    (i = 0 ∧ s = ⟨[.arr 0 4 true true [g.av], o1, .arr 2 6 true false [.agg [.int .i64 N, .int .i64 E, .own 3 g3 0 n3, .sl false [], .sl false [], .sl false []]], o3], c⟩ ∨
     0 < i ∧ ∃ ga gb gc n na nb nc L O I, n = i ∧ L = cnts (cntT g.edges) (R.take i) ∧ SeqsOf g 1 (R.take i) O ∧ SeqsOf g 2 (R.take i) I ∧ na = n ∧ nb = n ∧ nc = n ∧ n = L.length ∧ n = O.length ∧ n = I.length ∧ s = ⟨[.arr 0 4 true true [g.av], o1, .arr 2 6 true false [.agg [.int .i64 N, .int .i64 E, .own 3 g3 0 n3, .own 4 ga 0 na, .own 5 gb 0 nb, .own 6 gc 0 nc]], o3, .arr ga 2 true true (vs CN.av L), .arr gb 1 true true (vs slI O), .arr gc 1 true true (vs slI I)], c⟩)) ?_ _ _ _ ⟨0, c, rfl, by omega, rfl, .inl ⟨rfl, rfl⟩⟩
  rintro _ _ _ ⟨i, c, rfl, hi, rfl, h⟩
  rcases h with ⟨rfl, rfl⟩ | ⟨hpos, ga, gb, gc, n, na, nb, nc, L, O, I, hni, hLe, hO, hI, rfl, hb2, hc2, hn, hnO, hnI, rfl⟩
  · refine ⟨rfl, ?_⟩
    by_cases hlt : 0 < R.length
    · have hs := @cnts_succ (cntT g.edges) R 0 hlt
      (conv => whnf); repeat' (first  | ((with_reducible first | apply kN | apply kW | apply kX | apply kG | apply kQ); (· exact sd); conv => whnf) | (refine pcase.mk ?_ ?_ <;> intro hc <;> (try rw [List.length_nil] at hc) <;> first | (exfalso; omega) | (exact absurd rfl hc) | conv => whnf) | (refine bcase_intro ?_ ?_ <;> intro hc <;> conv => whnf))
      refine inT10 hE ?_
      intro c' tl
      (conv => whnf); repeat' (first | (refine apV1 (l := []) (x := (⟨R[0], cntT g.edges R[0]⟩ : CN)) cellsC rfl (by simp) ?_; conv => whnf) | ((with_reducible first | apply kN | apply kW | apply kX | apply kG | apply kQ); (· exact sd); conv => whnf) | (refine pcase.mk ?_ ?_ <;> intro hc <;> (try rw [List.length_nil] at hc) <;> first | (exfalso; omega) | (exact absurd rfl hc) | conv => whnf) | (refine bcase_intro ?_ ?_ <;> intro hc <;> conv => whnf))
      refine callK_of (seqP (typ := R[0]) (dir := 1) hN hE) ?_
      rintro _ ⟨b1, W1, rfl, w1, p1, z1⟩
      (conv => whnf); repeat' (first | (refine apV1 (l := []) (f := slI) (x := (b1, W1)) cellsSl rfl (by simp) ?_; conv => whnf) | ((with_reducible first | apply kN | apply kW | apply kX | apply kG | apply kQ); (· exact sd); conv => whnf) | (refine pcase.mk ?_ ?_ <;> intro hc <;> (try rw [List.length_nil] at hc) <;> first | (exfalso; omega) | (exact absurd rfl hc) | conv => whnf) | (refine bcase_intro ?_ ?_ <;> intro hc <;> conv => whnf))
      refine callK_of (seqP (typ := R[0]) (dir := 2) hN hE) ?_
      rintro _ ⟨b2, W2, rfl, w2, p2, z2⟩
      (conv => whnf); repeat' (first | (refine apV1 (l := []) (f := slI) (x := (b2, W2)) cellsSl rfl (by simp) ?_; conv => whnf) | ((with_reducible first | apply kN | apply kW | apply kX | apply kG | apply kQ); (· exact sd); conv => whnf) | (refine pcase.mk ?_ ?_ <;> intro hc <;> (try rw [List.length_nil] at hc) <;> first | (exfalso; omega) | (exact absurd rfl hc) | conv => whnf) | (refine bcase_intro ?_ ?_ <;> intro hc <;> conv => whnf))
      exact again.mk ⟨_, by omega, 1, _, rfl, by omega, rfl, .inr ⟨by omega, _, _, _, _, _, _, _, _, _, _, rfl, hs.symm, seqsOf_succ (O := []) hlt ⟨rfl, fun p hp => by simp at hp⟩ w1 p1 z1, seqsOf_succ (O := []) hlt ⟨rfl, fun p hp => by simp at hp⟩ w2 p2 z2, rfl, rfl, rfl, rfl, rfl, rfl, rfl⟩⟩
    · (conv => whnf); repeat' (first  | ((with_reducible first | apply kN | apply kW | apply kX | apply kG | apply kQ); (· exact sd); conv => whnf) | (refine pcase.mk ?_ ?_ <;> intro hc <;> (try rw [List.length_nil] at hc) <;> first | (exfalso; omega) | (exact absurd rfl hc) | conv => whnf) | (refine bcase_intro ?_ ?_ <;> intro hc <;> conv => whnf))
      exact hQ0 (List.eq_nil_of_length_eq_zero (by omega)) _ _
  · refine ⟨rfl, ?_⟩
    by_cases hlt : i < R.length
    · have hs := @cnts_succ (cntT g.edges) R i hlt
      (conv => whnf); repeat' (first  | ((with_reducible first | apply kN | apply kW | apply kX | apply kG | apply kQ); (· exact sd); conv => whnf) | (refine pcase.mk ?_ ?_ <;> intro hc <;> (try rw [List.length_nil] at hc) <;> first | (exfalso; omega) | (exact absurd rfl hc) | conv => whnf) | (refine bcase_intro ?_ ?_ <;> intro hc <;> conv => whnf))
      refine inT11 hE ?_
      intro c' tl
      (conv => whnf); repeat' (first | (refine apV1 (x := (⟨R[i], cntT g.edges R[i]⟩ : CN)) cellsC hn (by omega) ?_; conv => whnf) | ((with_reducible first | apply kN | apply kW | apply kX | apply kG | apply kQ); (· exact sd); conv => whnf) | (refine pcase.mk ?_ ?_ <;> intro hc <;> (try rw [List.length_nil] at hc) <;> first | (exfalso; omega) | (exact absurd rfl hc) | conv => whnf) | (refine bcase_intro ?_ ?_ <;> intro hc <;> conv => whnf))
      refine callK_of (seqP (typ := R[i]) (dir := 1) hN hE) ?_
      rintro _ ⟨b1, W1, rfl, w1, p1, z1⟩
      (conv => whnf); repeat' (first | (refine apV1 (f := slI) (x := (b1, W1)) cellsSl (by omega) (by omega) ?_; conv => whnf) | ((with_reducible first | apply kN | apply kW | apply kX | apply kG | apply kQ); (· exact sd); conv => whnf) | (refine pcase.mk ?_ ?_ <;> intro hc <;> (try rw [List.length_nil] at hc) <;> first | (exfalso; omega) | (exact absurd rfl hc) | conv => whnf) | (refine bcase_intro ?_ ?_ <;> intro hc <;> conv => whnf))
      refine callK_of (seqP (typ := R[i]) (dir := 2) hN hE) ?_
      rintro _ ⟨b2, W2, rfl, w2, p2, z2⟩
      (conv => whnf); repeat' (first | (refine apV1 (f := slI) (x := (b2, W2)) cellsSl (by omega) (by omega) ?_; conv => whnf) | ((with_reducible first | apply kN | apply kW | apply kX | apply kG | apply kQ); (· exact sd); conv => whnf) | (refine pcase.mk ?_ ?_ <;> intro hc <;> (try rw [List.length_nil] at hc) <;> first | (exfalso; omega) | (exact absurd rfl hc) | conv => whnf) | (refine bcase_intro ?_ ?_ <;> intro hc <;> conv => whnf))
      rw [← hLe] at hs
      exact again.mk ⟨_, by omega, i + 1, _, rfl, by omega, rfl, .inr ⟨by omega, _, _, _, _, _, _, _, _, _, _, rfl, hs.symm, seqsOf_succ hlt hO w1 p1 z1, seqsOf_succ hlt hI w2 p2 z2, by first | omega | (simp; omega), by first | omega | (simp; omega), by first | omega | (simp; omega), by simp; omega, by simp; omega, by simp; omega, rfl⟩⟩
    · rw [List.take_of_length_le (by omega)] at hLe hO hI
      subst hb2 hc2
      (conv => whnf); repeat' (first  | ((with_reducible first | apply kN | apply kW | apply kX | apply kG | apply kQ); (· exact sd); conv => whnf) | (refine pcase.mk ?_ ?_ <;> intro hc <;> (try rw [List.length_nil] at hc) <;> first | (exfalso; omega) | (exact absurd rfl hc) | conv => whnf) | (refine bcase_intro ?_ ?_ <;> intro hc <;> conv => whnf))
      subst hLe
      exact hQ1 (fun h => by rw [h] at hlt; simp at hlt; rw [h] at hi; simp at hi; omega) _ _ _ _ _ _ _ _ (by omega) hO hI

end AI
end Go.Proofs.YtokdbmakkoleiaaGreat
