/- The stable sort of entries: swapping. -/
import Derived.Test.YtnakgkibjlcjlaaGrC
set_option linter.unusedVariables false
namespace Go.Proofs.Ytnakgkibjlcjlaa
namespace AI

def A0 : Adj := ⟨0, 0, 0⟩
/-- two places swapped -/
def sw (l : List Adj) (i j : Nat) : List Adj := (l.set i (l.getD j A0)).set j (l.getD i A0)
@[simp] theorem sw_length (l : List Adj) (i j : Nat) : (sw l i j).length = l.length := by simp [sw]
def swp (l : List Adj) (a b : Nat) : Nat → List Adj
  | 0 => l
  | i + 1 => sw (swp l a b i) (a + i) (b + i)
@[simp] theorem swp_length (l : List Adj) (a b : Nat) : ∀ i, (swp l a b i).length = l.length
  | 0 => rfl
  | i + 1 => by simp [swp, swp_length l a b i]

theorem nA {l : List Adj} {z : Int} (i : Nat) (hz : z = i) (h : i < l.length) : nth (vs Adj.av l) (Int.toNat z) = some (l.getD i A0).av := by
  rw [nVz i hz h]; simp [h]
theorem tA {l : List Adj} {z : Int} (i : Nat) (hz : z = i) {x y : Adj} : (vs Adj.av l).set (Int.toNat z) (writeCells y.av 0 (.agg (List.take 3 (List.drop 0 x.av.cells)))) = vs Adj.av (l.set i x) := by
  subst hz
  show (vs Adj.av l).set i x.av = _
  simp [vs, List.map_set]

theorem swapR {ob0 : Obj} {g c len : Nat} {nn cl : Bool} {fv : AV} {l : List Adj} {a b n : Nat} (hl : len = l.length) (hab : a < b) (h2 : b + n ≤ len) (hs : len < 2^61) :
    Calls1 (findFn tab) 125 [.own 1 g 0 len, .int .i64 a, .int .i64 b, .int .i64 n, fv] ⟨[ob0, .arr g 3 nn cl (vs Adj.av l)], c⟩ fun out s' => ∃ c', out = .ok (.tup []) ∧ s' = ⟨[ob0, .arr g 3 nn cl (vs Adj.av (swp l a b n))], c'⟩ := by
  refine calls1_of rfl rfl ?_
  (conv => whnf); repeat' (first | (refine need.mk ?_ ?_; (· (first | with_reducible rfl | omega | rfl | decide | trivial | exact ⟨rfl, rfl, by omega, by omega⟩ | exact ⟨by omega, by omega, roomy_of (by omega)⟩ | (refine ⟨rfl, rfl, ?_⟩; first | ((first | rw [lI] | rw [lS] | rw [lB] | rw [lV]); omega) | (simp; done) | (simp; omega)) | (refine ⟨rfl, ?_⟩; first | ((first | rw [lI] | rw [lS] | rw [lB] | rw [lV]); omega) | (simp; done) | (simp; omega)) | fail)); conv => whnf) | (refine pcase.mk (fun hc => ?_) (fun hc => ?_) <;> (try rw [List.length_nil] at hc) <;> first | (exfalso; omega) | (exact absurd rfl hc) | conv => whnf) | (apply wrapK_intro; (· exact wrap_i64 (by omega) (by omega)); conv => whnf) | (apply nthK_intro; (· (first | ((with_reducible first | refine nIN ?_ | refine nI ?_ | refine nSN ?_ | refine nS ?_ | refine nBN ?_ | refine nB ?_ | refine nYN ?_ | refine nY ?_ | refine nY0 ?_ | refine nVN ?_ | refine nV ?_); (first | omega | (simp; omega))) | rfl)); conv => whnf) | (apply getK_intro; (· rfl); conv => whnf) | (apply eqK_intro; (· (first | (with_reducible first | exact lI _ | exact lS _ | exact lB _ | exact uI | exact uS | exact uIS | exact uSS | exact rIN _ _ | exact rI _ _ | exact tIN | exact tI | exact tBN | exact tB | exact uB | exact rBN _ _ | exact lV _ | exact uV | exact uVS) | rfl)); conv => whnf) | ((first | apply apI | apply apS); (· first | rfl | (simp; done)); (· (first | omega | (simp; omega))); conv => whnf) | (refine fkI (fun hm => ?_) (fun _ v hm => ?_) <;> conv => whnf) | (apply msI; conv => whnf)  | (refine bcase_intro (fun hc => ?_) (fun hc => ?_) <;> conv => whnf))
  refine loop_inv (fun m env s => ∃ (i c : Nat) (L : List Adj), i ≤ n ∧ L = swp l a b i ∧ m = n - i ∧ env = [(0, .own 1 g 0 len), (1, .int .i64 a), (2, .int .i64 b), (3, .int .i64 n), (10, .int .i64 i)] ∧ s = ⟨[ob0, .arr g 3 nn cl (vs Adj.av L)], c⟩) ?_ _ _ _ ⟨0, c, l, by omega, rfl, rfl, rfl, rfl⟩
  rintro _ _ _ ⟨i, c, L, hi, hL, rfl, rfl, rfl⟩
  refine ⟨rfl, ?_⟩
  have hll : L.length = len := by rw [hL, swp_length, hl]
  (conv => whnf); repeat' (first | (apply nthK_intro; (· first | exact nA (a + i) (by omega) (by first | omega | (simp; omega))); conv => whnf) | (apply nthK_intro; (· first | exact nA (b + i) (by omega) (by first | omega | (simp; omega))); conv => whnf) | (apply eqK_intro; (· exact tA (a + i) (by omega)); conv => whnf) | (apply eqK_intro; (· exact tA (b + i) (by omega)); conv => whnf) | (refine need.mk ?_ ?_; (· (first | with_reducible rfl | omega | rfl | decide | trivial | exact ⟨rfl, rfl, by omega, by omega⟩ | exact ⟨by omega, by omega, roomy_of (by omega)⟩ | (refine ⟨rfl, rfl, ?_⟩; first | ((first | rw [lI] | rw [lS] | rw [lB] | rw [lV]); omega) | (simp; done) | (simp; omega)) | (refine ⟨rfl, ?_⟩; first | ((first | rw [lI] | rw [lS] | rw [lB] | rw [lV]); omega) | (simp; done) | (simp; omega)) | fail)); conv => whnf) | (refine pcase.mk (fun hc => ?_) (fun hc => ?_) <;> (try rw [List.length_nil] at hc) <;> first | (exfalso; omega) | (exact absurd rfl hc) | conv => whnf) | (apply wrapK_intro; (· exact wrap_i64 (by omega) (by omega)); conv => whnf) | (apply nthK_intro; (· (first | ((with_reducible first | refine nIN ?_ | refine nI ?_ | refine nSN ?_ | refine nS ?_ | refine nBN ?_ | refine nB ?_ | refine nYN ?_ | refine nY ?_ | refine nY0 ?_ | refine nVN ?_ | refine nV ?_); (first | omega | (simp; omega))) | rfl)); conv => whnf) | (apply getK_intro; (· rfl); conv => whnf) | (apply eqK_intro; (· (first | (with_reducible first | exact lI _ | exact lS _ | exact lB _ | exact uI | exact uS | exact uIS | exact uSS | exact rIN _ _ | exact rI _ _ | exact tIN | exact tI | exact tBN | exact tB | exact uB | exact rBN _ _ | exact lV _ | exact uV | exact uVS) | rfl)); conv => whnf) | ((first | apply apI | apply apS); (· first | rfl | (simp; done)); (· (first | omega | (simp; omega))); conv => whnf) | (refine fkI (fun hm => ?_) (fun _ v hm => ?_) <;> conv => whnf) | (apply msI; conv => whnf) | (refine bcase_intro (fun hc => ?_) (fun hc => ?_) <;> conv => whnf))
  · exact again.mk ⟨_, by omega, i + 1, _, _, by omega, by rw [hL]; rfl, rfl, rfl, rfl⟩
  · obtain rfl : i = n := by omega
    exact ⟨_, rfl, by rw [hL]⟩

theorem sw_app {X Y Z : List Adj} {x y : Adj} {i j : Nat} (hi : i = X.length) (hj : j = X.length + 1 + Y.length) : sw (X ++ x :: (Y ++ y :: Z)) i j = X ++ y :: (Y ++ x :: Z) := by
  subst hi hj
  have e1 : (X ++ x :: (Y ++ y :: Z)).getD X.length A0 = x := by simp [List.getD]
  have e2 : (X ++ x :: (Y ++ y :: Z)).getD (X.length + 1 + Y.length) A0 = y := by
    rw [List.getD, List.getElem?_append_right (by omega), show X.length + 1 + Y.length - X.length = Y.length + 1 by omega]
    simp
  unfold sw
  rw [e1, e2, List.set_append_right _ _ (Nat.le_refl _), Nat.sub_self, List.set_cons_zero, List.set_append_right _ _ (by omega), show X.length + 1 + Y.length - X.length = Y.length + 1 by omega, List.set_cons_succ, List.set_append_right _ _ (Nat.le_refl _), Nat.sub_self, List.set_cons_zero]

theorem swp_app {A P M Q B : List Adj} (hpq : P.length = Q.length) : ∀ i, i ≤ P.length →
    swp (A ++ (P ++ (M ++ (Q ++ B)))) A.length (A.length + P.length + M.length) i = A ++ (Q.take i ++ (P.drop i ++ (M ++ (P.take i ++ (Q.drop i ++ B)))))
  | 0, _ => by simp [swp]
  | i + 1, h => by
    rw [swp, swp_app hpq i (by omega), List.drop_eq_getElem_cons (by omega : i < P.length), List.drop_eq_getElem_cons (by omega : i < Q.length), List.take_succ_eq_append_getElem (by omega : i < P.length), List.take_succ_eq_append_getElem (by omega : i < Q.length)]
    have := sw_app (X := A ++ Q.take i) (Y := P.drop (i + 1) ++ (M ++ P.take i)) (Z := Q.drop (i + 1) ++ B) (x := P[i]) (y := Q[i]) (i := A.length + i) (j := A.length + P.length + M.length + i) (by simp; omega) (by simp; omega)
    simp only [List.append_assoc, List.cons_append, List.nil_append] at this ⊢
    exact this

/-- swapping two ranges -/
theorem swapQ {ob0 : Obj} {g c len : Nat} {nn cl : Bool} {fv : AV} {A P M Q B : List Adj} {a b n : Int} (hl : len = (A ++ (P ++ (M ++ (Q ++ B)))).length) (ha : a = A.length) (hb : b = A.length + P.length + M.length) (hn : n = P.length) (hq : P.length = Q.length) (hp : 0 < P.length) (hs : len < 2^61) :
    Calls1 (findFn tab) 125 [.own 1 g 0 len, .int .i64 a, .int .i64 b, .int .i64 n, fv] ⟨[ob0, .arr g 3 nn cl (vs Adj.av (A ++ (P ++ (M ++ (Q ++ B)))))], c⟩ fun out s' => ∃ c', out = .ok (.tup []) ∧ s' = ⟨[ob0, .arr g 3 nn cl (vs Adj.av (A ++ (Q ++ (M ++ (P ++ B)))))], c'⟩ := by
  subst ha hn
  obtain rfl : b = ((A.length + P.length + M.length : Nat) : Int) := by omega
  have := swapR (ob0 := ob0) (g := g) (c := c) (nn := nn) (cl := cl) (fv := fv) (l := A ++ (P ++ (M ++ (Q ++ B)))) (a := A.length) (b := A.length + P.length + M.length) (n := P.length) hl (by omega) (by simp at hl; omega) hs
  rw [swp_app hq _ (Nat.le_refl _)] at this
  have h1 : Q.take P.length = Q := by rw [hq]; exact List.take_length
  have h2 : Q.drop P.length = [] := by rw [hq]; exact List.drop_length
  rw [h1, h2, List.drop_length, List.take_length] at this
  exact this

end AI
end Go.Proofs.Ytnakgkibjlcjlaa
