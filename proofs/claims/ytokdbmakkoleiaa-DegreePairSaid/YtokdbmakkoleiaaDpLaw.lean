/- The law DegreePair, about the evaluator. -/
import Derived.Test.YtokdbmakkoleiaaDpB
import Derived.Test.YtokdbmakkoleiaaDgLives
import Derived.Test.YtokdbmakkoleiaaEnK
set_option linter.unusedVariables false
namespace Go.Proofs.Ytokdbmakkoleiaa
namespace AI

theorem aliveD : PureP (findFn tab) 6 [] (· = .bool (decide True)) := ⟨.bool true, ⟨60, alive_call⟩, rfl⟩

theorem like_ints {a : AV} (h : Like Try.prog 33 a) : ∃ nn l, a = .sl nn (vi l) ∧ (nn = false → l = []) ∧ l.length ≤ maxLen := by
  obtain ⟨d, h⟩ := h
  obtain ⟨nn, l, e, h1, h2, _⟩ := like_map (f := AV.int .i64) (Q := fun _ => True) Try.underlying33 (fun d x h => by obtain ⟨n, e, _⟩ := like_int Try.underlying3 h; exact ⟨n, e, trivial⟩) h
  exact ⟨nn, l, e, h1, h2⟩

theorem pair_eq {a b a' b' X Y X' Y' : List Int} (hx : desc X) (px : X.Perm (a.map m0)) (hy : desc Y) (py : Y.Perm (b.map m0)) (hx' : desc X') (px' : X'.Perm (a'.map m0)) (hy' : desc Y') (py' : Y'.Perm (b'.map m0)) (ha : a.Perm a') (hb : b.Perm b') : pairV X Y = pairV X' Y' := by
  rw [desc_unique (px.trans ((ha.map m0).trans px'.symm)) hx hx', desc_unique (py.trans ((hb.map m0).trans py'.symm)) hy hy']

set_option maxRecDepth 10000 in
theorem law_pair : ∀ xs, likes Try.prog [33, 33] xs → Calls1 (findFn tab) 4 xs ⟨[], 0⟩ fun out _ => out = .ok (.bool true) := by
  intro xs h
  match xs, h with
  | [x, y], h =>
    obtain ⟨h1, h2, _⟩ := h
    obtain ⟨na, a, rfl, ha0, hal⟩ := like_ints h1
    obtain ⟨nb, b, rfl, hb0, hbl⟩ := like_ints h2
    have := maxLen_lt
    refine calls1_of rfl rfl ?_
    (conv => whnf); repeat' (first | (refine callB aliveD (fun _ => ?_) (fun h => absurd trivial h); conv => whnf) | ((with_reducible show need _ _); refine needA ?_; conv => whnf) | ((with_reducible show wrapK _ _ _); refine wrapA ?_; conv => whnf) | ((with_reducible show nthK _ _ _); refine nthA ?_; conv => whnf) | ((with_reducible show getK _ _); refine getA ?_; conv => whnf) | ((with_reducible show eqK _ _); refine eqA ?_; conv => whnf) | (refine pcase.mk (fun hc => ?_) (fun hc => ?_) <;> (try rw [List.length_nil] at hc) <;> first | (exfalso; omega) | (exact absurd rfl hc) | conv => whnf) | (refine bcase_intro (fun hc => ?_) (fun hc => ?_) <;> conv => whnf))
    · rfl
    · rfl
    have hal' : a.length ≤ 60 := by omega
    have hbl' : b.length ≤ 60 := by omega
    refine loop_inv (fun m env s => ∃ (k c g n : Nat) (z : Int) (nn : Bool) (C : List Int), m = a.length - k ∧ n = k ∧ k ≤ a.length ∧ z = a.length - 1 - k ∧ C = a.reverse.take k ∧ C.length = k ∧ (nn = false → C = []) ∧ env = [(0, .sl na (vi a)), (1, .sl nb (vi b)), (5, .own 0 g 0 n), (6, .int .i64 z)] ∧ s = ⟨[.arr g 1 nn true (vi C)], c⟩) ?_ _ _ _ ⟨0, _, _, 0, (a.length : Int) - 1, false, [], rfl, rfl, by omega, by omega, by simp, rfl, fun _ => rfl, rfl, rfl⟩
    rintro _ _ _ ⟨k, c, g, n, z, nn, C, rfl, hnk, hk, hz, hC, hCl, hnn, rfl, rfl⟩
    refine ⟨rfl, ?_⟩
    by_cases hlt : k < a.length
    · have hget : nth (vi a) z.toNat = some (.int .i64 a[a.length - 1 - k]) := nVz (a.length - 1 - k) (by omega) (by omega)
      (conv => whnf); repeat' (first | ((with_reducible show nthK _ _ _); apply nthK_intro hget; conv => whnf) | (refine apV1 (x := a[a.length - 1 - k]) cellsI (by omega) (by omega) ?_; conv => whnf) | ((with_reducible show need _ _); refine needA ?_; conv => whnf) | ((with_reducible show wrapK _ _ _); refine wrapA ?_; conv => whnf) | ((with_reducible show nthK _ _ _); refine nthA ?_; conv => whnf) | ((with_reducible show getK _ _); refine getA ?_; conv => whnf) | ((with_reducible show eqK _ _); refine eqA ?_; conv => whnf) | (refine pcase.mk (fun hc => ?_) (fun hc => ?_) <;> (try rw [List.length_nil] at hc) <;> first | (exfalso; omega) | (exact absurd rfl hc) | conv => whnf) | (refine bcase_intro (fun hc => ?_) (fun hc => ?_) <;> conv => whnf))
      refine again.mk ⟨_, by omega, k + 1, _, _, _, z - 1, true, _, rfl, by omega, by omega, by omega, ?_, ?_, fun h => (Bool.noConfusion h), rfl, rfl⟩
      · rw [List.take_succ_eq_append_getElem (by simpa using hlt), List.getElem_reverse, ← hC]
      · simp [hCl]
    · have hC' : C = a.reverse := by rw [hC, List.take_of_length_le (by simp; omega)]
      have hCa : C.Perm a := by rw [hC']; exact List.reverse_perm a
      obtain ⟨v1, ⟨X1, Y1, x1, p1, y1, q1, rfl⟩, d1⟩ := (pairP (a := a) (b := b) (by omega) (by omega) ha0 hb0).det
      obtain ⟨v2, ⟨X2, Y2, x2, p2, y2, q2, rfl⟩, d2⟩ := (pairR (a := a) (b := b) (na := na) (nb := nb) (by omega) (by omega)).det
      obtain ⟨v3, ⟨X3, Y3, x3, p3, y3, q3, rfl⟩, d3⟩ := (pairP (a := b) (b := a) (by omega) (by omega) hb0 ha0).det
      obtain ⟨v4, ⟨X4, Y4, x4, p4, y4, q4, rfl⟩, d4⟩ := (pairP (a := C) (b := b) (by omega) (by omega) hnn hb0).det
      have e2 : pairV X1 Y1 = pairV X2 Y2 := pair_eq x1 p1 y1 q1 x2 p2 y2 q2 (List.Perm.refl _) (List.Perm.refl _)
      have e3 : pairV X1 Y1 = pairV X3 Y3 := by rw [pairV_comm X3]; exact pair_eq x1 p1 y1 q1 y3 q3 x3 p3 (List.Perm.refl _) (List.Perm.refl _)
      have e4 : pairV X1 Y1 = pairV X4 Y4 := pair_eq x1 p1 y1 q1 x4 p4 y4 q4 hCa.symm (List.Perm.refl _)
      rw [← e2] at d2
      rw [← e3] at d3
      rw [← e4] at d4
      have hsub : sub (vi C) 0 n = vi C := by rw [sub_vs, List.drop_zero, List.take_of_length_le (by omega)]
      (conv => whnf); repeat' (first | ((with_reducible show eqK _ _); apply eqK_intro hsub; conv => whnf) | (refine callK_of d1 ?_; rintro _ rfl; conv => whnf) | (refine callK_of d2 ?_; rintro _ rfl; conv => whnf) | (refine callK_of d3 ?_; rintro _ rfl; conv => whnf) | (refine callK_of d4 ?_; rintro _ rfl; conv => whnf) | (refine callB aliveD (fun _ => ?_) (fun h => absurd trivial h); conv => whnf) | ((with_reducible show need _ _); refine needA ?_; conv => whnf) | ((with_reducible show wrapK _ _ _); refine wrapA ?_; conv => whnf) | ((with_reducible show nthK _ _ _); refine nthA ?_; conv => whnf) | ((with_reducible show getK _ _); refine getA ?_; conv => whnf) | ((with_reducible show eqK _ _); refine eqA ?_; conv => whnf) | (refine pcase.mk (fun hc => ?_) (fun hc => ?_) <;> (try rw [List.length_nil] at hc) <;> first | (exfalso; omega) | (exact absurd rfl hc) | conv => whnf) | (refine bcase_intro (fun hc => ?_) (fun hc => ?_) <;> conv => whnf))
      rfl

end AI
end Go.Proofs.Ytokdbmakkoleiaa
