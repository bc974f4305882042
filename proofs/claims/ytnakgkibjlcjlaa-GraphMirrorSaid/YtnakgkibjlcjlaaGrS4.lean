/- The stable sort of entries: merging in place, the general case. -/
import Derived.Test.YtnakgkibjlcjlaaGrS3
set_option linter.unusedVariables false
namespace Go.Proofs.Ytnakgkibjlcjlaa
namespace AI

theorem Calls1.mono' {AP : Nat → Option AFn} {f : Nat} {args : List AV} {ob0 : Obj} {g c : Nat} {nn cl : Bool} {l l' : List Adj} {K K' : AOut → Sto → Prop} (h : Calls1 AP f args ⟨[ob0, .arr g 3 nn cl (vs Adj.av l)], c⟩ K) (e : l' = l) (hk : ∀ out s, K out s → K' out s) : Calls1 AP f args ⟨[ob0, .arr g 3 nn cl (vs Adj.av l')], c⟩ K' := by
  subst e; exact h.mono hk

def SymOK (ob0 : Obj) (g len : Nat) (nn cl : Bool) (A X Y Z : List Adj) (c : Nat) (a m b : Int) : Prop :=
  Calls1 (findFn tab) 89 [.own 1 g 0 len, .int .i64 a, .int .i64 m, .int .i64 b, .fn 37 []] ⟨[ob0, .arr g 3 nn cl (vs Adj.av (A ++ (X ++ (Y ++ Z))))], c⟩ fun out s' => ∃ c' W, out = .ok (.tup []) ∧ s' = ⟨[ob0, .arr g 3 nn cl (vs Adj.av (A ++ (W ++ Z)))], c'⟩ ∧ W.Perm (X ++ Y) ∧ Srt W

def sR : ACode → ACode
  | .seq _ b => b
  | c => c
/-- what stands behind the search -/
def tail1 : ACode := sR (sR (sR (sR (sR (sR (sR (sR c89)))))))
def tail2 : ACode := sR (sR tail1)
def tail3 : ACode := sR tail2

theorem symT3 {ob0 : Obj} {g len N : Nat} {nn cl : Bool} (ih : ∀ (A X' Y' Z : List Adj) (c : Nat) (a m b : Int), X'.length + Y'.length < N → len = (A ++ (X' ++ (Y' ++ Z))).length → a = A.length → m = A.length + X'.length → b = A.length + X'.length + Y'.length → 0 < X'.length → 0 < Y'.length → Srt X' → Srt Y' → SymOK ob0 g len nn cl A X' Y' Z c a m b)
    {A X Y Z L : List Adj} {c : Nat} {mid e b : Int} {K : AOut → Sto → Prop} (hN : X.length + Y.length < N) (hL : L = A ++ (X ++ (Y ++ Z))) (hl : len = L.length) (hs : len < 2^61) (ha : mid = A.length) (hm : e = A.length + X.length) (hb : b = A.length + X.length + Y.length) (sx : Srt X) (sy : Srt Y)
    (hK : ∀ c' W, W.Perm (X ++ Y) → Srt W → K (.ok (.tup [])) ⟨[ob0, .arr g 3 nn cl (vs Adj.av (A ++ (W ++ Z)))], c'⟩) :
    vC (findFn tab) tail3 [(0, .own 1 g 0 len), (3, .int .i64 b), (4, .fn 37 []), (18, .int .i64 mid), (24, .int .i64 e)] ⟨[ob0, .arr g 3 nn cl (vs Adj.av L)], c⟩ (vRes a89 K) := by
  (conv => whnf); repeat' (first | (refine need.mk ?_ ?_; (· (first | with_reducible rfl | omega | rfl | decide | trivial | exact ⟨rfl, rfl, by omega, by omega⟩ | exact ⟨by omega, by omega, roomy_of (by omega)⟩ | (refine ⟨rfl, rfl, ?_⟩; first | ((first | rw [lI] | rw [lS] | rw [lB] | rw [lV]); omega) | (simp; done) | (simp; omega)) | (refine ⟨rfl, ?_⟩; first | ((first | rw [lI] | rw [lS] | rw [lB] | rw [lV]); omega) | (simp; done) | (simp; omega)) | fail)); conv => whnf) | (refine pcase.mk (fun hc => ?_) (fun hc => ?_) <;> (try rw [List.length_nil] at hc) <;> first | (exfalso; omega) | (exact absurd rfl hc) | conv => whnf) | (apply wrapK_intro; (· exact wrap_i64 (by omega) (by omega)); conv => whnf) | (apply nthK_intro; (· (first | ((with_reducible first | refine nIN ?_ | refine nI ?_ | refine nSN ?_ | refine nS ?_ | refine nBN ?_ | refine nB ?_ | refine nYN ?_ | refine nY ?_ | refine nY0 ?_ | refine nVN ?_ | refine nV ?_); (first | omega | (simp; omega))) | rfl)); conv => whnf) | (apply getK_intro; (· rfl); conv => whnf) | (apply eqK_intro; (· (first | (with_reducible first | exact lI _ | exact lS _ | exact lB _ | exact uI | exact uS | exact uIS | exact uSS | exact rIN _ _ | exact rI _ _ | exact tIN | exact tI | exact tBN | exact tB | exact uB | exact rBN _ _ | exact lV _ | exact uV | exact uVS) | rfl)); conv => whnf) | ((first | apply apI | apply apS); (· first | rfl | (simp; done)); (· (first | omega | (simp; omega))); conv => whnf) | (refine fkI (fun hm => ?_) (fun _ v hm => ?_) <;> conv => whnf) | (apply msI; conv => whnf)  | (refine bcase_intro (fun hc => ?_) (fun hc => ?_) <;> conv => whnf))
  · subst hL
    refine (ih A X Y Z c mid e b hN hl ha hm hb (by omega) (by omega) sx sy).mono ?_
    rintro _ _ ⟨c', W, rfl, rfl, h1, h2⟩
    (conv => whnf); repeat' (first | (refine need.mk ?_ ?_; (· (first | with_reducible rfl | omega | rfl | decide | trivial | exact ⟨rfl, rfl, by omega, by omega⟩ | exact ⟨by omega, by omega, roomy_of (by omega)⟩ | (refine ⟨rfl, rfl, ?_⟩; first | ((first | rw [lI] | rw [lS] | rw [lB] | rw [lV]); omega) | (simp; done) | (simp; omega)) | (refine ⟨rfl, ?_⟩; first | ((first | rw [lI] | rw [lS] | rw [lB] | rw [lV]); omega) | (simp; done) | (simp; omega)) | fail)); conv => whnf) | (refine pcase.mk (fun hc => ?_) (fun hc => ?_) <;> (try rw [List.length_nil] at hc) <;> first | (exfalso; omega) | (exact absurd rfl hc) | conv => whnf) | (apply wrapK_intro; (· exact wrap_i64 (by omega) (by omega)); conv => whnf) | (apply nthK_intro; (· (first | ((with_reducible first | refine nIN ?_ | refine nI ?_ | refine nSN ?_ | refine nS ?_ | refine nBN ?_ | refine nB ?_ | refine nYN ?_ | refine nY ?_ | refine nY0 ?_ | refine nVN ?_ | refine nV ?_); (first | omega | (simp; omega))) | rfl)); conv => whnf) | (apply getK_intro; (· rfl); conv => whnf) | (apply eqK_intro; (· (first | (with_reducible first | exact lI _ | exact lS _ | exact lB _ | exact uI | exact uS | exact uIS | exact uSS | exact rIN _ _ | exact rI _ _ | exact tIN | exact tI | exact tBN | exact tB | exact uB | exact rBN _ _ | exact lV _ | exact uV | exact uVS) | rfl)); conv => whnf) | ((first | apply apI | apply apS); (· first | rfl | (simp; done)); (· (first | omega | (simp; omega))); conv => whnf) | (refine fkI (fun hm => ?_) (fun _ v hm => ?_) <;> conv => whnf) | (apply msI; conv => whnf)  | (refine bcase_intro (fun hc => ?_) (fun hc => ?_) <;> conv => whnf))
    exact hK _ _ h1 h2
  · have h0 : Y = [] := List.length_eq_zero_iff.1 (by omega)
    subst h0 hL
    have := hK c (X ++ []) (List.Perm.refl _) (by simpa using sx)
    rw [List.append_nil] at this
    exact this
  · have h0 : X = [] := List.length_eq_zero_iff.1 (by omega)
    subst h0 hL
    exact hK c ([] ++ Y) (List.Perm.refl _) (by simpa using sy)

theorem symT2 {ob0 : Obj} {g len N : Nat} {nn cl : Bool} (ih : ∀ (A X' Y' Z : List Adj) (c : Nat) (a m b : Int), X'.length + Y'.length < N → len = (A ++ (X' ++ (Y' ++ Z))).length → a = A.length → m = A.length + X'.length → b = A.length + X'.length + Y'.length → 0 < X'.length → 0 < Y'.length → Srt X' → Srt Y' → SymOK ob0 g len nn cl A X' Y' Z c a m b)
    {A X1 Y1 X2 Y2 Z L : List Adj} {c : Nat} {a st mid e b : Int} {K : AOut → Sto → Prop} (hN1 : X1.length + Y1.length < N) (hN2 : X2.length + Y2.length < N) (hL : L = A ++ (X1 ++ (Y1 ++ (X2 ++ (Y2 ++ Z))))) (hl : len = L.length) (hs : len < 2^61) (ha : a = A.length) (hst : st = A.length + X1.length) (hmid : mid = A.length + X1.length + Y1.length) (hm : e = A.length + X1.length + Y1.length + X2.length) (hb : b = A.length + X1.length + Y1.length + X2.length + Y2.length)
    (sx1 : Srt X1) (sy1 : Srt Y1) (sx2 : Srt X2) (sy2 : Srt Y2)
    (hK : ∀ c' W1 W2, W1.Perm (X1 ++ Y1) → Srt W1 → W2.Perm (X2 ++ Y2) → Srt W2 → K (.ok (.tup [])) ⟨[ob0, .arr g 3 nn cl (vs Adj.av (A ++ (W1 ++ (W2 ++ Z))))], c'⟩) :
    vC (findFn tab) tail2 [(0, .own 1 g 0 len), (1, .int .i64 a), (3, .int .i64 b), (4, .fn 37 []), (18, .int .i64 mid), (20, .int .i64 st), (24, .int .i64 e)] ⟨[ob0, .arr g 3 nn cl (vs Adj.av L)], c⟩ (vRes a89 K) := by
  have go3 : ∀ (c : Nat) (W1 L : List Adj), L = A ++ (W1 ++ (X2 ++ (Y2 ++ Z))) → W1.Perm (X1 ++ Y1) → Srt W1 →
      vC (findFn tab) tail3 [(0, .own 1 g 0 len), (3, .int .i64 b), (4, .fn 37 []), (18, .int .i64 mid), (24, .int .i64 e)] ⟨[ob0, .arr g 3 nn cl (vs Adj.av L)], c⟩ (vRes a89 K) := by
    intro c W1 L' hL' hp hs1
    have hw : W1.length = X1.length + Y1.length := by rw [hp.length_eq, List.length_append]
    refine symT3 ih (A := A ++ W1) (X := X2) (Y := Y2) (Z := Z) hN2 (by rw [hL']; simp only [List.append_assoc]) (by rw [hl, hL, hL']; simp only [List.length_append]; omega) hs (by simp only [List.length_append]; omega) (by simp only [List.length_append]; omega) (by simp only [List.length_append]; omega) sx2 sy2 ?_
    intro c' W2 h1 h2
    have := hK c' W1 W2 hp hs1 h1 h2
    rw [List.append_assoc]
    exact this
  have go3' : X1.length = 0 ∨ Y1.length = 0 → vC (findFn tab) tail3 [(0, .own 1 g 0 len), (3, .int .i64 b), (4, .fn 37 []), (18, .int .i64 mid), (24, .int .i64 e)] ⟨[ob0, .arr g 3 nn cl (vs Adj.av L)], c⟩ (vRes a89 K) := by
    intro h
    refine go3 c (X1 ++ Y1) L (by rw [hL]; simp only [List.append_assoc]) (List.Perm.refl _) ?_
    rcases h with h | h
    · rw [List.length_eq_zero_iff.1 h]; exact sy1
    · rw [List.length_eq_zero_iff.1 h, List.append_nil]; exact sx1
  (conv => whnf); repeat' (first | exact go3' (by omega) | (refine need.mk ?_ ?_; (· (first | with_reducible rfl | omega | rfl | decide | trivial | exact ⟨rfl, rfl, by omega, by omega⟩ | exact ⟨by omega, by omega, roomy_of (by omega)⟩ | (refine ⟨rfl, rfl, ?_⟩; first | ((first | rw [lI] | rw [lS] | rw [lB] | rw [lV]); omega) | (simp; done) | (simp; omega)) | (refine ⟨rfl, ?_⟩; first | ((first | rw [lI] | rw [lS] | rw [lB] | rw [lV]); omega) | (simp; done) | (simp; omega)) | fail)); conv => whnf) | (refine pcase.mk (fun hc => ?_) (fun hc => ?_) <;> (try rw [List.length_nil] at hc) <;> first | (exfalso; omega) | (exact absurd rfl hc) | conv => whnf) | (apply wrapK_intro; (· exact wrap_i64 (by omega) (by omega)); conv => whnf) | (apply nthK_intro; (· (first | ((with_reducible first | refine nIN ?_ | refine nI ?_ | refine nSN ?_ | refine nS ?_ | refine nBN ?_ | refine nB ?_ | refine nYN ?_ | refine nY ?_ | refine nY0 ?_ | refine nVN ?_ | refine nV ?_); (first | omega | (simp; omega))) | rfl)); conv => whnf) | (apply getK_intro; (· rfl); conv => whnf) | (apply eqK_intro; (· (first | (with_reducible first | exact lI _ | exact lS _ | exact lB _ | exact uI | exact uS | exact uIS | exact uSS | exact rIN _ _ | exact rI _ _ | exact tIN | exact tI | exact tBN | exact tB | exact uB | exact rBN _ _ | exact lV _ | exact uV | exact uVS) | rfl)); conv => whnf) | ((first | apply apI | apply apS); (· first | rfl | (simp; done)); (· (first | omega | (simp; omega))); conv => whnf) | (refine fkI (fun hm => ?_) (fun _ v hm => ?_) <;> conv => whnf) | (apply msI; conv => whnf) | (refine bcase_intro (fun hc => ?_) (fun hc => ?_) <;> conv => whnf))
  subst hL
  refine (ih A X1 Y1 (X2 ++ (Y2 ++ Z)) c a st mid hN1 hl ha hst hmid (by omega) (by omega) sx1 sy1).mono ?_
  rintro _ _ ⟨c', W, rfl, rfl, h1, h2⟩
  conv => whnf
  apply getK_intro rfl
  conv => whnf
  exact go3 c' W _ rfl h1 h2

theorem symT1 {ob0 : Obj} {g len N : Nat} {nn cl : Bool} (ih : ∀ (A X' Y' Z : List Adj) (c : Nat) (a m b : Int), X'.length + Y'.length < N → len = (A ++ (X' ++ (Y' ++ Z))).length → a = A.length → m = A.length + X'.length → b = A.length + X'.length + Y'.length → 0 < X'.length → 0 < Y'.length → Srt X' → Srt Y' → SymOK ob0 g len nn cl A X' Y' Z c a m b)
    {A X1 Y1 X2 Y2 Z L : List Adj} {c : Nat} {a m b mid n st r pp : Int} {K : AOut → Sto → Prop} (hN1 : X1.length + Y1.length < N) (hN2 : X2.length + Y2.length < N) (hL : L = A ++ (X1 ++ (X2 ++ (Y1 ++ (Y2 ++ Z))))) (hl : len = L.length) (hs : len < 2^61) (ha : a = A.length) (hst : st = A.length + X1.length) (hm : m = A.length + X1.length + X2.length) (hmid : mid = A.length + X1.length + Y1.length) (hn : n = mid + m) (hb : b = A.length + X1.length + X2.length + Y1.length + Y2.length)
    (sx1 : Srt X1) (sy1 : Srt Y1) (sx2 : Srt X2) (sy2 : Srt Y2)
    (hK : ∀ c' W1 W2, W1.Perm (X1 ++ Y1) → Srt W1 → W2.Perm (X2 ++ Y2) → Srt W2 → K (.ok (.tup [])) ⟨[ob0, .arr g 3 nn cl (vs Adj.av (A ++ (W1 ++ (W2 ++ Z))))], c'⟩) :
    vC (findFn tab) tail1 [(0, .own 1 g 0 len), (1, .int .i64 a), (2, .int .i64 m), (3, .int .i64 b), (4, .fn 37 []), (18, .int .i64 mid), (19, .int .i64 n), (20, .int .i64 st), (21, .int .i64 r), (22, .int .i64 pp), (151, .bool false)] ⟨[ob0, .arr g 3 nn cl (vs Adj.av L)], c⟩ (vRes a89 K) := by
  have hl2 : len = A.length + (X1.length + (X2.length + (Y1.length + (Y2.length + Z.length)))) := by rw [hl, hL]; simp only [List.length_append]
  have go2 : ∀ (c : Nat) (L : List Adj), L = A ++ (X1 ++ (Y1 ++ (X2 ++ (Y2 ++ Z)))) →
      vC (findFn tab) tail2 [(0, .own 1 g 0 len), (1, .int .i64 a), (3, .int .i64 b), (4, .fn 37 []), (18, .int .i64 mid), (20, .int .i64 st), (24, .int .i64 (n - st))] ⟨[ob0, .arr g 3 nn cl (vs Adj.av L)], c⟩ (vRes a89 K) := by
    intro c L' hL'
    exact symT2 ih hN1 hN2 hL' (by rw [hl2, hL']; simp only [List.length_append]; omega) hs ha hst hmid (by omega) (by omega) sx1 sy1 sx2 sy2 hK
  have go2' : X2.length = 0 ∨ Y1.length = 0 → vC (findFn tab) tail2 [(0, .own 1 g 0 len), (1, .int .i64 a), (3, .int .i64 b), (4, .fn 37 []), (18, .int .i64 mid), (20, .int .i64 st), (24, .int .i64 (n - st))] ⟨[ob0, .arr g 3 nn cl (vs Adj.av L)], c⟩ (vRes a89 K) := by
    intro h
    refine go2 c L ?_
    rcases h with h | h
    · rw [hL, List.length_eq_zero_iff.1 h]; rfl
    · rw [hL, List.length_eq_zero_iff.1 h]; rfl
  (conv => whnf); repeat' (first | exact go2' (by omega) | (refine need.mk ?_ ?_; (· (first | with_reducible rfl | omega | rfl | decide | trivial | exact ⟨rfl, rfl, by omega, by omega⟩ | exact ⟨by omega, by omega, roomy_of (by omega)⟩ | (refine ⟨rfl, rfl, ?_⟩; first | ((first | rw [lI] | rw [lS] | rw [lB] | rw [lV]); omega) | (simp; done) | (simp; omega)) | (refine ⟨rfl, ?_⟩; first | ((first | rw [lI] | rw [lS] | rw [lB] | rw [lV]); omega) | (simp; done) | (simp; omega)) | fail)); conv => whnf) | (refine pcase.mk (fun hc => ?_) (fun hc => ?_) <;> (try rw [List.length_nil] at hc) <;> first | (exfalso; omega) | (exact absurd rfl hc) | conv => whnf) | (apply wrapK_intro; (· exact wrap_i64 (by omega) (by omega)); conv => whnf) | (apply nthK_intro; (· (first | ((with_reducible first | refine nIN ?_ | refine nI ?_ | refine nSN ?_ | refine nS ?_ | refine nBN ?_ | refine nB ?_ | refine nYN ?_ | refine nY ?_ | refine nY0 ?_ | refine nVN ?_ | refine nV ?_); (first | omega | (simp; omega))) | rfl)); conv => whnf) | (apply getK_intro; (· rfl); conv => whnf) | (apply eqK_intro; (· (first | (with_reducible first | exact lI _ | exact lS _ | exact lB _ | exact uI | exact uS | exact uIS | exact uSS | exact rIN _ _ | exact rI _ _ | exact tIN | exact tI | exact tBN | exact tB | exact uB | exact rBN _ _ | exact lV _ | exact uV | exact uVS) | rfl)); conv => whnf) | ((first | apply apI | apply apS); (· first | rfl | (simp; done)); (· (first | omega | (simp; omega))); conv => whnf) | (refine fkI (fun hm => ?_) (fun _ v hm => ?_) <;> conv => whnf) | (apply msI; conv => whnf) | (refine bcase_intro (fun hc => ?_) (fun hc => ?_) <;> conv => whnf))
  refine (rotQ (A := A ++ X1) (U := X2) (V := Y1) (B := Y2 ++ Z) (by simp only [List.length_append]; omega) (by simp only [List.length_append]; omega) (by simp only [List.length_append]; omega) (by simp only [List.length_append]; omega) (by omega) (by omega) hs).mono' (by rw [hL]; simp only [List.append_assoc]) ?_
  rintro _ _ ⟨c', rfl, rfl⟩
  conv => whnf
  apply getK_intro rfl
  conv => whnf
  exact go2 c' _ (by simp only [List.append_assoc])

/-- the search -/
theorem symL {ob0 : Obj} {g len M c : Nat} {nn cl : Bool} {A X Y Z L : List Adj} {a m b mid n st r pp : Int} {Q : AExit → Env → Sto → Prop} (hL : L = A ++ (X ++ (Y ++ Z))) (hLl : L.length = len) (hl : len = A.length + (X.length + (Y.length + Z.length))) (hs : len < 2^61) (sx : Srt X) (sy : Srt Y) (hm : m = A.length + X.length)
    (p1 : M ≤ X.length + Y.length) (h1 : mid = A.length + M) (h2 : n = mid + m) (h3 : st = A.length + (M - Y.length : Nat)) (h4 : r = A.length + (min M X.length : Nat)) (h5 : pp = n - 1)
    (hQ : ∀ (P : Nat) (r : Int), M ≤ P + Y.length → P ≤ M → P ≤ X.length → (M - P = Y.length ∨ P = 0 ∨ le (X.getD (P - 1) A0) (Y.getD (M - P) A0)) → (P = X.length ∨ M - P = 0 ∨ le (Y.getD (M - P - 1) A0) (X.getD P A0)) →
      Q (.exit 8) [(0, .own 1 g 0 len), (1, .int .i64 a), (2, .int .i64 m), (3, .int .i64 b), (4, .fn 37 []), (18, .int .i64 mid), (19, .int .i64 n), (20, .int .i64 (A.length + P)), (21, .int .i64 r), (22, .int .i64 pp), (151, .bool false)] ⟨[ob0, .arr g 3 nn cl (vs Adj.av L)], c⟩) :
    Run (findFn tab) (.loop l89_4_h l89_4_b) [(0, .own 1 g 0 len), (1, .int .i64 a), (2, .int .i64 m), (3, .int .i64 b), (4, .fn 37 []), (18, .int .i64 mid), (19, .int .i64 n), (20, .int .i64 st), (21, .int .i64 r), (22, .int .i64 pp)] ⟨[ob0, .arr g 3 nn cl (vs Adj.av L)], c⟩ Q := by
  refine loop_inv (fun k env s => ∃ (P R : Nat) (st r : Int), k = R - P ∧ M ≤ P + Y.length ∧ P ≤ R ∧ R ≤ M ∧ R ≤ X.length ∧ (M - P = Y.length ∨ P = 0 ∨ le (X.getD (P - 1) A0) (Y.getD (M - P) A0)) ∧ (R = X.length ∨ M - R = 0 ∨ le (Y.getD (M - R - 1) A0) (X.getD R A0)) ∧ st = A.length + P ∧ r = A.length + R ∧
      env = [(0, .own 1 g 0 len), (1, .int .i64 a), (2, .int .i64 m), (3, .int .i64 b), (4, .fn 37 []), (18, .int .i64 mid), (19, .int .i64 n), (20, .int .i64 st), (21, .int .i64 r), (22, .int .i64 pp)] ∧ s = ⟨[ob0, .arr g 3 nn cl (vs Adj.av L)], c⟩) ?_ _ _ _ ⟨M - Y.length, min M X.length, _, _, rfl, by omega, by omega, by omega, by omega, by omega, by omega, by omega, by omega, rfl, rfl⟩
  clear h3 h4
  rintro _ _ _ ⟨P, R, st, r, rfl, p1, p2, p3, p4, i1, i2, q3, q4, rfl, rfl⟩
  refine ⟨rfl, ?_⟩
  (conv => whnf); repeat' (first | (refine wrapU (2 * A.length + P + R) (by omega) (by omega) ?_; conv => whnf) | (apply eqK_intro; (· exact shrE _); conv => whnf) | (apply nthK_intro; (· first | exact nAt2 hL (M - (P + R) / 2 - 1) (by omega) (by omega) | exact nAt hL ((P + R) / 2) (by omega) (by omega)); conv => whnf) | (refine callK_of steps1 ?_; rintro _ rfl; conv => whnf) | (refine need.mk ?_ ?_; (· (first | with_reducible rfl | omega | rfl | decide | trivial | exact ⟨rfl, rfl, by omega, by omega⟩ | exact ⟨by omega, by omega, roomy_of (by omega)⟩ | (refine ⟨rfl, rfl, ?_⟩; first | ((first | rw [lI] | rw [lS] | rw [lB] | rw [lV]); omega) | (simp; done) | (simp; omega)) | (refine ⟨rfl, ?_⟩; first | ((first | rw [lI] | rw [lS] | rw [lB] | rw [lV]); omega) | (simp; done) | (simp; omega)) | fail)); conv => whnf) | (refine pcase.mk (fun hc => ?_) (fun hc => ?_) <;> (try rw [List.length_nil] at hc) <;> first | (exfalso; omega) | (exact absurd rfl hc) | conv => whnf) | (apply wrapK_intro; (· exact wrap_i64 (by omega) (by omega)); conv => whnf) | (apply nthK_intro; (· (first | ((with_reducible first | refine nIN ?_ | refine nI ?_ | refine nSN ?_ | refine nS ?_ | refine nBN ?_ | refine nB ?_ | refine nYN ?_ | refine nY ?_ | refine nY0 ?_ | refine nVN ?_ | refine nV ?_); (first | omega | (simp; omega))) | rfl)); conv => whnf) | (apply getK_intro; (· rfl); conv => whnf) | (apply eqK_intro; (· (first | (with_reducible first | exact lI _ | exact lS _ | exact lB _ | exact uI | exact uS | exact uIS | exact uSS | exact rIN _ _ | exact rI _ _ | exact tIN | exact tI | exact tBN | exact tB | exact uB | exact rBN _ _ | exact lV _ | exact uV | exact uVS) | rfl)); conv => whnf) | ((first | apply apI | apply apS); (· first | rfl | (simp; done)); (· (first | omega | (simp; omega))); conv => whnf) | (refine fkI (fun hm => ?_) (fun _ v hm => ?_) <;> conv => whnf) | (apply msI; conv => whnf) | (refine bcase_intro (fun hc => ?_) (fun hc => ?_) <;> conv => whnf))
  · exact again.mk ⟨_, by omega, P, (P + R) / 2, _, _, rfl, by omega, by omega, by omega, by omega, i1, Or.inr (Or.inr (lt_le (cmpA_lt.1 hc))), by omega, by omega, rfl, rfl⟩
  · exact again.mk ⟨_, by omega, (P + R) / 2 + 1, R, _, _, rfl, by omega, by omega, by omega, by omega, Or.inr (Or.inr (by rw [show M - ((P + R) / 2 + 1) = M - (P + R) / 2 - 1 by omega]; exact fun h => hc (cmpA_lt.2 h))), i2, by omega, by omega, rfl, rfl⟩
  · obtain rfl : P = R := by omega
    subst q3
    exact hQ P r p1 p3 p4 i1 i2

theorem srt_split {X : List Adj} (h : Srt X) (P : Nat) : ∀ u ∈ X.take P, ∀ v ∈ X.drop P, le u v := by
  have h1 := h
  rw [← List.take_append_drop P X] at h1
  exact (List.pairwise_append.1 h1).2.2

theorem symC {ob0 : Obj} {g len : Nat} {nn cl : Bool} (hs : len < 2^61) {A X Y Z : List Adj} {c : Nat} {a m b : Int} (hl : len = (A ++ (X ++ (Y ++ Z))).length) (ha : a = A.length) (hm : m = A.length + X.length) (hb : b = A.length + X.length + Y.length) (hx : 0 < X.length) (hy : 0 < Y.length) (sx : Srt X) (sy : Srt Y) (h1x : X.length ≠ 1) (h1y : Y.length ≠ 1) {N : Nat} (hN : X.length + Y.length ≤ N) (ih : ∀ (A X' Y' Z : List Adj) (c : Nat) (a m b : Int), X'.length + Y'.length < N → len = (A ++ (X' ++ (Y' ++ Z))).length → a = A.length → m = A.length + X'.length → b = A.length + X'.length + Y'.length → 0 < X'.length → 0 < Y'.length → Srt X' → Srt Y' → SymOK ob0 g len nn cl A X' Y' Z c a m b) :
    SymOK ob0 g len nn cl A X Y Z c a m b := by
  unfold SymOK
  have hl0 := hl
  simp only [List.length_append] at hl
  obtain ⟨L, hL⟩ : ∃ L, L = A ++ (X ++ (Y ++ Z)) := ⟨_, rfl⟩
  rw [← hL]
  have hLl : L.length = len := by rw [hL, ← hl0]
  obtain ⟨M, hM⟩ : ∃ M, M = (X.length + Y.length) / 2 := ⟨_, rfl⟩
  refine calls1_of rfl rfl ?_
  (conv => whnf); repeat' (first | (refine wrapU (2 * A.length + X.length + Y.length) (by omega) (by omega) ?_; conv => whnf) | (apply eqK_intro; (· exact shrE _); conv => whnf) | (refine need.mk ?_ ?_; (· (first | with_reducible rfl | omega | rfl | decide | trivial | exact ⟨rfl, rfl, by omega, by omega⟩ | exact ⟨by omega, by omega, roomy_of (by omega)⟩ | (refine ⟨rfl, rfl, ?_⟩; first | ((first | rw [lI] | rw [lS] | rw [lB] | rw [lV]); omega) | (simp; done) | (simp; omega)) | (refine ⟨rfl, ?_⟩; first | ((first | rw [lI] | rw [lS] | rw [lB] | rw [lV]); omega) | (simp; done) | (simp; omega)) | fail)); conv => whnf) | (refine pcase.mk (fun hc => ?_) (fun hc => ?_) <;> (try rw [List.length_nil] at hc) <;> first | (exfalso; omega) | (exact absurd rfl hc) | conv => whnf) | (apply wrapK_intro; (· exact wrap_i64 (by omega) (by omega)); conv => whnf) | (apply nthK_intro; (· (first | ((with_reducible first | refine nIN ?_ | refine nI ?_ | refine nSN ?_ | refine nS ?_ | refine nBN ?_ | refine nB ?_ | refine nYN ?_ | refine nY ?_ | refine nY0 ?_ | refine nVN ?_ | refine nV ?_); (first | omega | (simp; omega))) | rfl)); conv => whnf) | (apply getK_intro; (· rfl); conv => whnf) | (apply eqK_intro; (· (first | (with_reducible first | exact lI _ | exact lS _ | exact lB _ | exact uI | exact uS | exact uIS | exact uSS | exact rIN _ _ | exact rI _ _ | exact tIN | exact tI | exact tBN | exact tB | exact uB | exact rBN _ _ | exact lV _ | exact uV | exact uVS) | rfl)); conv => whnf) | ((first | apply apI | apply apS); (· first | rfl | (simp; done)); (· (first | omega | (simp; omega))); conv => whnf) | (refine fkI (fun hm => ?_) (fun _ v hm => ?_) <;> conv => whnf) | (apply msI; conv => whnf) | (refine bcase_intro (fun hc => ?_) (fun hc => ?_) <;> conv => whnf))
  all_goals
    refine symL (M := M) hL hLl hl hs sx sy hm (by omega) (by omega) (by omega) (by omega) (by omega) (by omega) ?_
    intro P r p1 p2 p3 i1 i2
    refine symT1 ih (A := A) (X1 := X.take P) (X2 := X.drop P) (Y1 := Y.take (M - P)) (Y2 := Y.drop (M - P)) (Z := Z) (by simp only [List.length_take]; omega) (by simp only [List.length_drop]; omega)
      (by rw [hL, ← List.append_assoc (X.take P), List.take_append_drop, ← List.append_assoc (Y.take (M - P)), List.take_append_drop]) hLl.symm hs ha (by simp only [List.length_take]; omega) (by simp only [List.length_take, List.length_drop]; omega) (by simp only [List.length_take]; omega) (by omega) (by simp only [List.length_take, List.length_drop]; omega) (sx.take _) (sy.take _) (sx.drop _) (sy.drop _) ?_
    intro c' W1 W2 w1 s1 w2 s2
    refine ⟨c', W1 ++ W2, rfl, by rw [List.append_assoc], ?_, srt_app s1 s2 fun u hu v hv => ?_⟩
    · refine (List.Perm.append w1 w2).trans ?_
      have e : X ++ Y = (X.take P ++ X.drop P) ++ (Y.take (M - P) ++ Y.drop (M - P)) := by rw [List.take_append_drop, List.take_append_drop]
      rw [e]
      simp only [List.append_assoc]
      exact List.Perm.append_left _ (by rw [← List.append_assoc, ← List.append_assoc]; exact List.Perm.append_right _ List.perm_append_comm)
    · rcases List.mem_append.1 (w1.mem_iff.1 hu) with hu | hu <;> rcases List.mem_append.1 (w2.mem_iff.1 hv) with hv | hv
      · exact srt_split sx P u hu v hv
      · exact split_le sx sy p3 i1 u hu v hv
      · exact split_le sy sx (by omega) i2 u hu v hv
      · exact srt_split sy (M - P) u hu v hv

/-- merging in place -/
theorem symM {ob0 : Obj} {g len : Nat} {nn cl : Bool} (hs : len < 2^61) : ∀ (N : Nat) (A X Y Z : List Adj) (c : Nat) (a m b : Int), X.length + Y.length < N → len = (A ++ (X ++ (Y ++ Z))).length → a = A.length → m = A.length + X.length → b = A.length + X.length + Y.length → 0 < X.length → 0 < Y.length → Srt X → Srt Y → SymOK ob0 g len nn cl A X Y Z c a m b := by
  intro N
  induction N with
  | zero => intro A X Y Z c a m b h; omega
  | succ N ih =>
    intro A X Y Z c a m b hN hl ha hm hb hx hy sx sy
    by_cases h1 : X.length = 1
    · exact symA hs hl ha hm hb hx hy sx sy h1
    by_cases h2 : Y.length = 1
    · exact symB hs hl ha hm hb hx hy sx sy h1 h2
    exact symC hs hl ha hm hb hx hy sx sy h1 h2 (N := N) (by omega) ih

end AI
end Go.Proofs.Ytnakgkibjlcjlaa
