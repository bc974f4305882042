/- The entries of a graph: the program sorts them, the reference puts them in one by one. -/
import Derived.Test.YtbkibamoigmboaaGreatDoorPqE
import Derived.Test.YtbkibamoigmboaaGreatDoorIxC
set_option linter.unusedVariables false
set_option maxRecDepth 4000
namespace Go.Proofs.YtbkibamoigmboaaGreatDoor
namespace AI
open Go.Sort

def mkT (lb : List UInt8) (id : Int) (p : GP) : GT := ⟨lb, p.key, p.v, id⟩
def entL (n : GN) (lb : List UInt8) : List GT := n.props.map (mkT lb n.id)
def entN (n : GN) : List GT := n.labels.flatMap (entL n)
def ents (N : List GN) : List GT := N.flatMap entN
theorem fm_step {α β : Type} {f : α → List β} {l : List α} {i : Nat} (h : i < l.length) : (l.take (i + 1)).flatMap f = (l.take i).flatMap f ++ f l[i] := by
  rw [List.take_succ_eq_append_getElem h, List.flatMap_append]; simp
theorem map_step {α β : Type} {f : α → β} {l : List α} {i : Nat} (h : i < l.length) : (l.take (i + 1)).map f = (l.take i).map f ++ [f l[i]] := by
  rw [List.take_succ_eq_append_getElem h, List.map_append]; rfl

/-- few labels and properties, no lists -/
def TameN (n : GN) : Prop := n.labels.length ≤ 8 ∧ n.props.length ≤ 16 ∧ ∀ p ∈ n.props, leafV p.v

theorem tame_of {g : GG} (h : checkE g = 0) : ∀ n ∈ g.nodes, TameN n := by
  intro n hn
  obtain ⟨_, _, h1, _⟩ := check_ok h
  obtain ⟨k, hk, rfl⟩ := List.getElem_of_mem hn
  have h2 := h1 k hk
  unfold nodeE at h2
  rw [List.getElem?_eq_getElem hk] at h2
  dsimp only at h2
  split at h2
  · omega
  · split at h2
    · omega
    · unfold partsE at h2
      split at h2
      · omega
      · rename_i h3
        split at h2
        · omega
        · split at h2
          · omega
          · split at h2
            · omega
            · rename_i h4
              refine ⟨by omega, by omega, fun p hp => ?_⟩
              have h5 := Decidable.not_not.1 h4
              have h6 := h5 p hp
              exact h6
theorem tame_chk {g : GG} : ∀ n ∈ (chk g).nodes, TameN n := by
  intro n hn
  unfold chk at hn
  split at hn
  · rename_i h; exact tame_of h n hn
  · simp at hn
theorem chk_ok {g : GG} (hg : g.ok) : (chk g).ok := by
  unfold chk
  split
  · exact hg
  · exact ⟨by simp [Ln], fun _ => rfl, by simp, by simp [Ln], fun _ => rfl, by simp, by unfold I64; dsimp only; omega, by unfold I64; dsimp only; omega⟩

theorem entN_len {n : GN} (h : TameN n) : ∀ j, ((n.labels.take j).flatMap (entL n)).length ≤ j * 16
  | 0 => by simp
  | j + 1 => by
    by_cases hj : j < n.labels.length
    · rw [fm_step hj, List.length_append]
      have := entN_len h j
      have h2 := h.2.1
      simp only [entL, List.length_map]
      omega
    · rw [List.take_of_length_le (by omega), ← List.take_of_length_le (l := n.labels) (i := j) (by omega)]
      have := entN_len h j
      omega
theorem entN_len' {n : GN} (h : TameN n) : (entN n).length ≤ 128 := by
  have := entN_len h n.labels.length
  rw [List.take_length] at this
  have h1 := h.1
  unfold entN
  omega
theorem ents_len {N : List GN} (h : ∀ n ∈ N, TameN n) : ∀ i, (ents (N.take i)).length ≤ i * 128
  | 0 => by simp [ents]
  | i + 1 => by
    by_cases hi : i < N.length
    · have := ents_len h i
      have h2 := entN_len' (h _ (List.getElem_mem hi))
      unfold ents at *
      rw [fm_step hi, List.length_append]
      omega
    · rw [List.take_of_length_le (by omega), ← List.take_of_length_le (l := N) (i := i) (by omega)]
      have := ents_len h i
      omega

/-- entries as entries without lists -/
theorem lift_ents {A : List GT} (h : ∀ e ∈ A, e.ok ∧ leafV e.v) : ∃ L : List GX, L.map GX.e = A := by
  induction A with
  | nil => exact ⟨[], rfl⟩
  | cons a A ih =>
    obtain ⟨L, rfl⟩ := ih fun e he => h e (List.mem_cons_of_mem _ he)
    exact ⟨⟨a, h a (List.mem_cons_self ..)⟩ :: L, rfl⟩
theorem vs_lift {L : List GX} : vs GX.av L = vs GT.av (L.map GX.e) := by
  unfold vs
  rw [List.map_map]
  rfl
theorem mem_ents {N : List GN} {e : GT} : e ∈ ents N ↔ ∃ n ∈ N, ∃ lb ∈ n.labels, ∃ p ∈ n.props, e = mkT lb n.id p := by
  unfold ents entN entL
  simp only [List.mem_flatMap, List.mem_map]
  constructor
  · rintro ⟨n, hn, lb, hlb, p, hp, rfl⟩; exact ⟨n, hn, lb, hlb, p, hp, rfl⟩
  · rintro ⟨n, hn, lb, hlb, p, hp, rfl⟩; exact ⟨n, hn, lb, hlb, p, hp, rfl⟩
theorem ents_ok {N : List GN} (hN : ∀ n ∈ N, n.ok) (ht : ∀ n ∈ N, TameN n) : ∀ e ∈ ents N, e.ok ∧ leafV e.v := by
  intro e he
  obtain ⟨n, hn, lb, hlb, p, hp, rfl⟩ := mem_ents.1 he
  obtain ⟨n1, n2, n3, n4, n5, n6, n7⟩ := hN n hn
  exact ⟨⟨n4 lb hlb, (n7 p hp).1, (n7 p hp).2, n1⟩, (ht n hn).2.2 p hp⟩

/-- sorted, these entries -/
def SortT (M : List GT) (v : AV) : Prop := ∃ b W, v = .sl b (vs GX.av W) ∧ (W.map GX.e).Perm M ∧ W.Pairwise (fun x y => ltT y x = false)

set_option maxHeartbeats 4000000 in
theorem buildP {g : GG} (hg : g.ok) (hN : (chk g).nodes.length ≤ 2000) : PureP (findFn tab) 21 [g.av] (SortT (ents (chk g).nodes)) := by
  obtain ⟨L, hL⟩ := lift_ents (ents_ok (chk_ok hg).2.2.1 tame_chk)
  have hc := checkedP hg
  have ht := tame_chk (g := g)
  generalize chk g = h at *
  obtain ⟨hn, N, hen, E, z1, z2⟩ := h
  dsimp only at hN hL ht ⊢
  refine pureP_of rfl rfl ?_
  (conv => whnf); repeat' (first | (refine callK_of hc ?_; rintro _ rfl; conv => whnf) | ((with_reducible first | apply kN | apply kW | apply kX | apply kG | apply kQ); (· exact sd); conv => whnf) | (refine pcase.mk ?_ ?_ <;> intro hc <;> (try rw [List.length_nil] at hc) <;> first | (exfalso; omega) | (exact absurd rfl hc) | conv => whnf) | (refine bcase_intro ?_ ?_ <;> intro hc <;> conv => whnf))
  refine loop_inv (fun z env s => ∃ (i c ga n : Nat) (fa : Bool) (A : List GT), z = N.length - i ∧ i ≤ N.length ∧ A = ents (N.take i) ∧ n = A.length ∧ env = [(3, .own 1 ga 0 n), (12, .sl hn (vs GN.av N)), (13, .int .i64 N.length), (14, .int .i64 i)] ∧ s = ⟨[.arr 0 4 true true [g.av], .arr ga 8 fa true (vs GT.av A)], c⟩) ?_ _ _ _ ⟨0, _, _, _, _, [], rfl, by omega, rfl, rfl, by first | rfl | (rw [← lV (f := GN.av) N]; rfl), rfl⟩
  rintro _ _ _ ⟨i, c, ga, n, fa, A, rfl, hi, hA, hnA, rfl, rfl⟩
  refine ⟨rfl, ?_⟩
  by_cases hlt : i < N.length
  · have htn := ht N[i] (List.getElem_mem hlt)
    have hs : ents (N.take (i + 1)) = ents (N.take i) ++ entN N[i] := fm_step hlt
    have hb := ents_len ht i
    have hll := htn.1
    have hpl := htn.2.1
    rw [← hA] at hs hb
    clear hL
    (conv => whnf); repeat' (first  | ((with_reducible first | apply kN | apply kW | apply kX | apply kG | apply kQ); (· exact sd); conv => whnf) | (refine pcase.mk ?_ ?_ <;> intro hc <;> (try rw [List.length_nil] at hc) <;> first | (exfalso; omega) | (exact absurd rfl hc) | conv => whnf) | (refine bcase_intro ?_ ?_ <;> intro hc <;> conv => whnf))
    refine loop_inv (fun z env s => ∃ (j c2 ga n : Nat) (fa : Bool) (B : List GT), z = N[i].labels.length - j ∧ j ≤ N[i].labels.length ∧ B = A ++ (N[i].labels.take j).flatMap (entL N[i]) ∧ n = B.length ∧ env = [(3, .own 1 ga 0 n), (5, .ref 2 c 0 0), (12, .sl hn (vs GN.av N)), (13, .int .i64 N.length), (14, .int .i64 i), (19, .sl N[i].ln (vs .str N[i].labels)), (20, .int .i64 N[i].labels.length), (21, .int .i64 j)] ∧ s = ⟨[.arr 0 4 true true [g.av], .arr ga 8 fa true (vs GT.av B), .arr c 3 true true [N[i].av]], c2⟩) ?_ _ _ _ ⟨0, _, _, _, _, A, rfl, by omega, by simp, hnA, by first | rfl | (rw [← lV (f := AV.str) N[i].labels]; rfl), rfl⟩
    rintro _ _ _ ⟨j, c2, gb, n2, fb, B, rfl, hj, hB, hn2, rfl, rfl⟩
    refine ⟨rfl, ?_⟩
    clear hnA
    by_cases hjl : j < N[i].labels.length
    · have hs2 := fm_step (f := entL N[i]) hjl
      have hb2 := entN_len htn j
      have hBl : B.length ≤ i * 128 + j * 16 := by rw [hB, List.length_append]; omega
      have hB2 : B ++ entL N[i] N[i].labels[j] = A ++ (N[i].labels.take (j + 1)).flatMap (entL N[i]) := by rw [hs2, hB, List.append_assoc]
      clear hs2 hb2
      (conv => whnf); repeat' (first  | ((with_reducible first | apply kN | apply kW | apply kX | apply kG | apply kQ); (· exact sd); conv => whnf) | (refine pcase.mk ?_ ?_ <;> intro hc <;> (try rw [List.length_nil] at hc) <;> first | (exfalso; omega) | (exact absurd rfl hc) | conv => whnf) | (refine bcase_intro ?_ ?_ <;> intro hc <;> conv => whnf))
      refine loop_inv (fun z env s => ∃ (k c3 ga n : Nat) (fa : Bool) (D : List GT), z = N[i].props.length - k ∧ k ≤ N[i].props.length ∧ D = B ++ (N[i].props.take k).map (mkT N[i].labels[j] N[i].id) ∧ n = D.length ∧ D.length = B.length + k ∧ env = [(3, .own 1 ga 0 n), (5, .ref 2 c 0 0), (7, .str N[i].labels[j]), (12, .sl hn (vs GN.av N)), (13, .int .i64 N.length), (14, .int .i64 i), (19, .sl N[i].ln (vs .str N[i].labels)), (20, .int .i64 N[i].labels.length), (21, .int .i64 j), (26, .sl N[i].pn (vs GP.av N[i].props)), (27, .int .i64 N[i].props.length), (28, .int .i64 k)] ∧ s = ⟨[.arr 0 4 true true [g.av], .arr ga 8 fa true (vs GT.av D), .arr c 3 true true [N[i].av]], c3⟩) ?_ _ _ _ ⟨0, _, _, _, _, B, rfl, by omega, by simp, hn2, rfl, by first | rfl | (rw [← lV (f := GP.av) N[i].props]; rfl), rfl⟩
      rintro _ _ _ ⟨k, c3, gc, n3, fc, D, rfl, hk, hD, hn3, hDl, rfl, rfl⟩
      refine ⟨rfl, ?_⟩
      clear hn2
      by_cases hkl : k < N[i].props.length
      · have hs3 := map_step (f := mkT N[i].labels[j] N[i].id) hkl
        have hD2 : D ++ [mkT N[i].labels[j] N[i].id N[i].props[k]] = B ++ (N[i].props.take (k + 1)).map (mkT N[i].labels[j] N[i].id) := by rw [hs3, hD, List.append_assoc]
        clear hs3
        (conv => whnf); repeat' (first | (refine apV1 (f := GT.av) (l := D) (x := mkT N[i].labels[j] N[i].id N[i].props[k]) cellsGT hn3 (by omega) ?_; conv => whnf) | ((with_reducible first | apply kN | apply kW | apply kX | apply kG | apply kQ); (· exact sd); conv => whnf) | (refine pcase.mk ?_ ?_ <;> intro hc <;> (try rw [List.length_nil] at hc) <;> first | (exfalso; omega) | (exact absurd rfl hc) | conv => whnf) | (refine bcase_intro ?_ ?_ <;> intro hc <;> conv => whnf))
        all_goals first
          | exact again.mk ⟨_, by omega, k + 1, _, _, _, _, D ++ [mkT N[i].labels[j] N[i].id N[i].props[k]], rfl, by omega, hD2, by simp, by simp; omega, rfl, rfl⟩
          | (exfalso; omega)
          | (trace_state; fail "build3")
      · have hwh : (N[i].props.take k).map (mkT N[i].labels[j] N[i].id) = entL N[i] N[i].labels[j] := by rw [List.take_of_length_le (by omega)]; rfl
        rw [hwh] at hD
        rw [← hD] at hB2
        (conv => whnf); repeat' (first  | ((with_reducible first | apply kN | apply kW | apply kX | apply kG | apply kQ); (· exact sd); conv => whnf) | (refine pcase.mk ?_ ?_ <;> intro hc <;> (try rw [List.length_nil] at hc) <;> first | (exfalso; omega) | (exact absurd rfl hc) | conv => whnf) | (refine bcase_intro ?_ ?_ <;> intro hc <;> conv => whnf))
        all_goals first
          | exact again.mk ⟨_, by omega, j + 1, _, _, _, _, D, rfl, by omega, hB2, hn3, rfl, rfl⟩
          | (exfalso; omega)
          | (trace_state; fail "build2")
    · have hwh : (N[i].labels.take j).flatMap (entL N[i]) = entN N[i] := by rw [List.take_of_length_le (by omega)]; rfl
      rw [hwh, ← hs] at hB
      (conv => whnf); repeat' (first  | ((with_reducible first | apply kN | apply kW | apply kX | apply kG | apply kQ); (· exact sd); conv => whnf) | (refine pcase.mk ?_ ?_ <;> intro hc <;> (try rw [List.length_nil] at hc) <;> first | (exfalso; omega) | (exact absurd rfl hc) | conv => whnf) | (refine bcase_intro ?_ ?_ <;> intro hc <;> conv => whnf))
      all_goals first
        | exact again.mk ⟨_, by omega, i + 1, _, _, _, _, B, rfl, by omega, hB, hn2, rfl, rfl⟩
        | (exfalso; omega)
        | (trace_state; fail "build1")
  · rw [List.take_of_length_le (by omega)] at hA
    have e : vs GT.av A = vs GX.av L := by rw [vs_lift, hL, hA]
    have hlen : A.length = L.length := by rw [hA, ← hL, List.length_map]
    have hb := ents_len ht N.length
    rw [List.take_length, ← hA] at hb
    rw [e]
    (conv => whnf); repeat' (first  | ((with_reducible first | apply kN | apply kW | apply kX | apply kG | apply kQ); (· exact sd); conv => whnf) | (refine pcase.mk ?_ ?_ <;> intro hc <;> (try rw [List.length_nil] at hc) <;> first | (exfalso; omega) | (exact absurd rfl hc) | conv => whnf) | (refine bcase_intro ?_ ?_ <;> intro hc <;> conv => whnf))
    refine (pqsort (L := L) (by omega) (by omega)).mono ?_
    rintro _ _ ⟨c1, W, rfl, rfl, p1, p2⟩
    have hw := p1.length_eq
    conv => whnf
    apply getK_intro rfl
    (conv => whnf); repeat' (first  | ((with_reducible first | apply kN | apply kW | apply kX | apply kG | apply kQ); (· exact sd); conv => whnf) | (refine pcase.mk ?_ ?_ <;> intro hc <;> (try rw [List.length_nil] at hc) <;> first | (exfalso; omega) | (exact absurd rfl hc) | conv => whnf) | (refine bcase_intro ?_ ?_ <;> intro hc <;> conv => whnf))
    refine ⟨fa, W, ?_, by rw [← hL]; exact p1.map _, p2⟩
    rw [show n = W.length by omega, sub_vs]; simp

end AI
end Go.Proofs.YtbkibamoigmboaaGreatDoor
