/- Sorting in place (CmpFunc[graphdb/api.Entry]): the whole. -/
import Derived.Test.YtbkibamoigmboaaGreatDoorPQ0
import Derived.Test.YtbkibamoigmboaaGreatDoorPqC
set_option linter.unusedVariables false
set_option maxRecDepth 4000
namespace Go.Proofs.YtbkibamoigmboaaGreatDoor
namespace AI
open Go.Sort

abbrev pqTop (ob0 : Obj) (g len : Nat) (nn cl : Bool) (a b : Nat) : Prop := ∀ (c : Nat) (limit : Int) (d : Array GX), d.size = len → b ≤ len → a ≤ b → 0 ≤ limit → limit < 2^62 → Below ltT a b d →
  Calls1 (findFn tab) 85 [.own 1 g 0 len, .int .i64 a, .int .i64 b, .int .i64 limit, .fn 29 []] ⟨[ob0, .arr g 8 nn cl (vs GX.av d.toList)], c⟩ fun out s' => ∃ c' D, out = .ok (.tup []) ∧ s' = ⟨[ob0, .arr g 8 nn cl (vs GX.av D.toList)], c'⟩ ∧ PermIn a b d D ∧ SortedIn ltT a b D

def pqsR1 : ACode → ACode
  | .seq _ b => b
  | c => c
def pqsL1 : ACode → ACode
  | .seq a _ => a
  | c => c
def pqbl1 : ACode → ACode
  | .block _ a => a
  | c => c
/-- behind the test of the length and of the limit, behind the choice of the pivot, behind the try -/
def pqt1 : ACode := pqsR1 (pqsR1 (pqsR1 (pqbl1 l85_0_b)))
def pqt2 : ACode := pqsR1 (pqsR1 (pqsR1 pqt1))
def pqt3 : ACode := pqsR1 pqt2
def pqt4 : ACode := pqsR1 pqt3

/-- the loop's invariant -/
abbrev pqInv (ob0 : Obj) (g len : Nat) (nn cl : Bool) (a b : Nat) (d : Array GX) (m : Nat) (env : Env) (s : Sto) : Prop :=
  ∃ (a' b' c : Nat) (limit : Int) (wb wp : Bool) (D : Array GX), m = b' - a' ∧ a' ≤ b' ∧ b' ≤ len ∧ b' - a' ≤ b - a ∧ 0 ≤ limit ∧ limit < 2^62 ∧ D.size = len ∧ Below ltT a' b' D ∧ (∀ R, PermIn a' b' D R → SortedIn ltT a' b' R → PermIn a b d R ∧ SortedIn ltT a b R) ∧
    env = [(0, .own 1 g 0 len), (1, .int .i64 a'), (2, .int .i64 b'), (3, .int .i64 limit), (4, .fn 29 []), (10, .bool wb), (11, .bool wp)] ∧ s = ⟨[ob0, .arr g 8 nn cl (vs GX.av D.toList)], c⟩

section
variable {ob0 : Obj} {g len : Nat} {nn cl : Bool} {a b : Nat} {d : Array GX}

/-- what a round ends in -/
def pqEnd (ob0 : Obj) (g len : Nat) (nn cl : Bool) (a b : Nat) (d : Array GX) (m : Nat) : AExit → Env → Sto → Prop :=
  vBlk 1 (vInv l85_0_h (again (pqInv ob0 g len nn cl a b d) m) (vBlk 0 (vRes a85 fun out s' => ∃ c' D, out = .ok (.tup []) ∧ s' = ⟨[ob0, .arr g 8 nn cl (vs GX.av D.toList)], c'⟩ ∧ PermIn a b d D ∧ SortedIn ltT a b D)))

set_option maxHeartbeats 2000000 in
/-- the partition and what follows -/
theorem pqtop4 {tl : Env} (hs : len < 2^61) (ih : ∀ x y, y - x < b - a → pqTop ob0 g len nn cl x y) {a' b' c p : Nat} {limit : Int} {wb wp : Bool} {D : Array GX} (hab : a' + 12 < b') (hb : b' ≤ len) (hle : b' - a' ≤ b - a) (hlim : 0 ≤ limit) (hlim2 : limit < 2^62) (hD : D.size = len) (hB : Below ltT a' b' D)
    (hR : ∀ R, PermIn a' b' D R → SortedIn ltT a' b' R → PermIn a b d R ∧ SortedIn ltT a b R) (hp1 : a' ≤ p) (hp2 : p < b') :
    vC (findFn tab) pqt4 ([(0, .own 1 g 0 len), (1, .int .i64 a'), (2, .int .i64 b'), (3, .int .i64 limit), (4, .fn 29 []), (10, .bool wb), (11, .bool wp), (12, .int .i64 (b' - a' : Nat)), (13, .int .i64 p)] ++ tl) ⟨[ob0, .arr g 8 nn cl (vs GX.av D.toList)], c⟩ (pqEnd ob0 g len nn cl a b d (b' - a')) := by
  unfold pqEnd
  (conv => whnf); repeat' (first  | ((with_reducible first | apply kN | apply kW | apply kX | apply kG | apply kQ); (· exact sd); conv => whnf) | (refine pcase.mk ?_ ?_ <;> intro hc <;> (try rw [List.length_nil] at hc) <;> first | (exfalso; omega) | (exact absurd rfl hc) | conv => whnf) | (refine bcase_intro ?_ ?_ <;> intro hc <;> conv => whnf))
  refine (pqpar hD hb hp1 hp2 hs).mono ?_
  rintro _ _ ⟨c1, rfl, rfl⟩
  generalize hx : partition ltT D a' b' p = R
  obtain ⟨mid, ap, E⟩ := R
  obtain ⟨m1, m2, hE, hBl, hBr, fl, fr⟩ := round_part ltT_swo (partition_holds ltT) hp1 hp2 (by omega) hB hx
  dsimp only
  conv => whnf
  apply getK_intro rfl
  (conv => whnf); repeat' (first | (refine wrapD (b' - a') 8 (by omega) (by omega) ?_; conv => whnf) | ((with_reducible first | apply kN | apply kW | apply kX | apply kG | apply kQ); (· exact sd); conv => whnf) | (refine pcase.mk ?_ ?_ <;> intro hc <;> (try rw [List.length_nil] at hc) <;> first | (exfalso; omega) | (exact absurd rfl hc) | conv => whnf) | (refine bcase_intro ?_ ?_ <;> intro hc <;> conv => whnf))
  all_goals first
    | (refine (ih a' mid (by omega) _ limit E (by omega) (by omega) m1 hlim hlim2 hBl).mono ?_
       rintro _ _ ⟨c2, L, rfl, rfl, q1, q2⟩
       obtain ⟨hBL, fin⟩ := fl L q1 q2
       conv => whnf
       apply getK_intro rfl
       (conv => whnf); repeat' (first  | ((with_reducible first | apply kN | apply kW | apply kX | apply kG | apply kQ); (· exact sd); conv => whnf) | (refine pcase.mk ?_ ?_ <;> intro hc <;> (try rw [List.length_nil] at hc) <;> first | (exfalso; omega) | (exact absurd rfl hc) | conv => whnf) | (refine bcase_intro ?_ ?_ <;> intro hc <;> conv => whnf))
       exact again.mk ⟨_, by omega, mid + 1, b', _, limit, _, _, L, rfl, by omega, hb, by omega, hlim, hlim2, by rw [q1.1, hE, hD], hBL, fun R h1 h2 => hR R (fin R h1 h2).1 (fin R h1 h2).2, rfl, rfl⟩)
    | (refine (ih (mid + 1) b' (by omega) _ limit E (by omega) hb (by omega) hlim hlim2 hBr).mono ?_
       rintro _ _ ⟨c2, L, rfl, rfl, q1, q2⟩
       obtain ⟨hBL, fin⟩ := fr L q1 q2
       conv => whnf
       apply getK_intro rfl
       (conv => whnf); repeat' (first  | ((with_reducible first | apply kN | apply kW | apply kX | apply kG | apply kQ); (· exact sd); conv => whnf) | (refine pcase.mk ?_ ?_ <;> intro hc <;> (try rw [List.length_nil] at hc) <;> first | (exfalso; omega) | (exact absurd rfl hc) | conv => whnf) | (refine bcase_intro ?_ ?_ <;> intro hc <;> conv => whnf))
       exact again.mk ⟨_, by omega, a', mid, _, limit, _, _, L, rfl, by omega, by omega, by omega, hlim, hlim2, by rw [q1.1, hE, hD], hBL, fun R h1 h2 => hR R (fin R h1 h2).1 (fin R h1 h2).2, rfl, rfl⟩)

/-- many equal ones -/
theorem pqtop3 {tl : Env} (hs : len < 2^61) {a' b' c p : Nat} {limit : Int} {wb wp : Bool} {D : Array GX} {K : Env → Sto → Prop} {Q : AExit → Env → Sto → Prop} (hab : a' + 12 < b') (hb : b' ≤ len) (hD : D.size = len) (hB : Below ltT a' b' D) (hp1 : a' ≤ p) (hp2 : p < b')
    (hK : ∀ tl, K ([(0, .own 1 g 0 len), (1, .int .i64 a'), (2, .int .i64 b'), (3, .int .i64 limit), (4, .fn 29 []), (10, .bool wb), (11, .bool wp), (12, .int .i64 (b' - a' : Nat)), (13, .int .i64 p)] ++ tl) ⟨[ob0, .arr g 8 nn cl (vs GX.av D.toList)], c⟩)
    (hQ : ∀ c' mid (E : Array GX), a' < mid → mid ≤ b' → E.size = len → Below ltT mid b' E → (∀ R, PermIn mid b' E R → SortedIn ltT mid b' R → PermIn a' b' D R ∧ SortedIn ltT a' b' R) →
      Q (.exit 1) [(0, .own 1 g 0 len), (1, .int .i64 mid), (2, .int .i64 b'), (3, .int .i64 limit), (4, .fn 29 []), (10, .bool wb), (11, .bool wp)] ⟨[ob0, .arr g 8 nn cl (vs GX.av E.toList)], c'⟩) :
    vC (findFn tab) (pqsL1 pqt3) ([(0, .own 1 g 0 len), (1, .int .i64 a'), (2, .int .i64 b'), (3, .int .i64 limit), (4, .fn 29 []), (10, .bool wb), (11, .bool wp), (12, .int .i64 (b' - a' : Nat)), (13, .int .i64 p)] ++ tl) ⟨[ob0, .arr g 8 nn cl (vs GX.av D.toList)], c⟩ (vSeq K Q) := by
  (conv => whnf); repeat' (first | exact hK _ | ((with_reducible show nthK _ _ _); refine nPK (a' - 1) ?_; conv => whnf) | ((with_reducible show nthK _ _ _); refine nPK (p) ?_; conv => whnf) | (refine callK_of orderPT ?_; rintro _ rfl; conv => whnf) | (refine pcaseT (fun hc => ?_) (fun hc => ?_) <;> conv => whnf) | ((with_reducible first | apply kN | apply kW | apply kX | apply kG | apply kQ); (· exact sd); conv => whnf) | (refine pcase.mk ?_ ?_ <;> intro hc <;> (try rw [List.length_nil] at hc) <;> first | (exfalso; omega) | (exact absurd rfl hc) | conv => whnf) | (refine bcase_intro ?_ ?_ <;> intro hc <;> conv => whnf))
  refine (pqqeq hD hb hp1 hp2 hs).mono ?_
  rintro _ _ ⟨c1, rfl, rfl⟩
  generalize hx : partitionEqual ltT D a' b' p = R
  obtain ⟨mid, E⟩ := R
  obtain ⟨m1, m2, hE, hBr, fin⟩ := round_eq ltT_swo (partitionEqual_holds ltT) (by omega) hp1 hp2 (by omega) hB hc hx
  dsimp only
  conv => whnf
  apply getK_intro rfl
  (conv => whnf); repeat' (first  | ((with_reducible first | apply kN | apply kW | apply kX | apply kG | apply kQ); (· exact sd); conv => whnf) | (refine pcase.mk ?_ ?_ <;> intro hc <;> (try rw [List.length_nil] at hc) <;> first | (exfalso; omega) | (exact absurd rfl hc) | conv => whnf) | (refine bcase_intro ?_ ?_ <;> intro hc <;> conv => whnf))
  exact hQ _ mid E m1 m2 (by omega) hBr fin

/-- nearly sorted -/
theorem pqtop2 {tl : Env} (hs : len < 2^61) {a' b' c p : Nat} {limit h : Int} {wb wp : Bool} {D : Array GX} {K : Env → Sto → Prop} {Q : AExit → Env → Sto → Prop} (hab : a' + 12 < b') (hb : b' ≤ len) (hD : D.size = len) (hB : Below ltT a' b' D)
    (hK : ∀ tl c (E : Array GX), PermIn a' b' D E → K ([(0, .own 1 g 0 len), (1, .int .i64 a'), (2, .int .i64 b'), (3, .int .i64 limit), (4, .fn 29 []), (10, .bool wb), (11, .bool wp), (12, .int .i64 (b' - a' : Nat)), (13, .int .i64 p)] ++ tl) ⟨[ob0, .arr g 8 nn cl (vs GX.av E.toList)], c⟩)
    (hQ : ∀ c (E : Array GX) env, PermIn a' b' D E → SortedIn ltT a' b' E → Q .ret env ⟨[ob0, .arr g 8 nn cl (vs GX.av E.toList)], c⟩) :
    vC (findFn tab) (pqsL1 pqt2) ([(0, .own 1 g 0 len), (1, .int .i64 a'), (2, .int .i64 b'), (3, .int .i64 limit), (4, .fn 29 []), (10, .bool wb), (11, .bool wp), (12, .int .i64 (b' - a' : Nat)), (13, .int .i64 p), (14, .int .i64 h)] ++ tl) ⟨[ob0, .arr g 8 nn cl (vs GX.av D.toList)], c⟩ (vSeq K Q) := by
  (conv => whnf); repeat' (first | exact hK _ _ _ (permIn_refl _ _ _) | ((with_reducible first | apply kN | apply kW | apply kX | apply kG | apply kQ); (· exact sd); conv => whnf) | (refine pcase.mk ?_ ?_ <;> intro hc <;> (try rw [List.length_nil] at hc) <;> first | (exfalso; omega) | (exact absurd rfl hc) | conv => whnf) | (refine bcase_intro ?_ ?_ <;> intro hc <;> conv => whnf))
  refine (pqpart hD hb (by omega) hs).mono ?_
  rintro _ _ ⟨c1, rfl, rfl⟩
  have hp := partialInsertionSort_holds ltT_swo D a' b' (by omega) (by omega) hB
  generalize partialInsertionSort ltT D a' b' = R at hp
  obtain ⟨E, r⟩ := R
  obtain ⟨q1, q2⟩ := hp
  dsimp only at q1 q2 ⊢
  conv => whnf
  apply getK_intro rfl
  cases r with
  | true =>
    (conv => whnf); repeat' (first  | ((with_reducible first | apply kN | apply kW | apply kX | apply kG | apply kQ); (· exact sd); conv => whnf) | (refine pcase.mk ?_ ?_ <;> intro hc <;> (try rw [List.length_nil] at hc) <;> first | (exfalso; omega) | (exact absurd rfl hc) | conv => whnf) | (refine bcase_intro ?_ ?_ <;> intro hc <;> conv => whnf))
    exact hQ _ E _ q1 (q2 rfl)
  | false =>
    (conv => whnf); repeat' (first | exact hK _ _ _ q1 | ((with_reducible first | apply kN | apply kW | apply kX | apply kG | apply kQ); (· exact sd); conv => whnf) | (refine pcase.mk ?_ ?_ <;> intro hc <;> (try rw [List.length_nil] at hc) <;> first | (exfalso; omega) | (exact absurd rfl hc) | conv => whnf) | (refine bcase_intro ?_ ?_ <;> intro hc <;> conv => whnf))

/-- reversing -/
theorem pqtop5 {tl : Env} (hs : len < 2^61) {a' b' c p : Nat} {limit h : Int} {wb wp : Bool} {D : Array GX} {K : Env → Sto → Prop} {Q : AExit → Env → Sto → Prop} (hab : a' + 12 < b') (hb : b' ≤ len) (hD : D.size = len) (hp1 : a' ≤ p) (hp2 : p < b')
    (hK : ∀ tl c (p : Nat) h (E : Array GX), PermIn a' b' D E → a' ≤ p → p < b' → K ([(0, .own 1 g 0 len), (1, .int .i64 a'), (2, .int .i64 b'), (3, .int .i64 limit), (4, .fn 29 []), (10, .bool wb), (11, .bool wp), (12, .int .i64 (b' - a' : Nat)), (13, .int .i64 p), (14, .int .i64 h)] ++ tl) ⟨[ob0, .arr g 8 nn cl (vs GX.av E.toList)], c⟩) :
    vC (findFn tab) (pqsL1 (pqsR1 (pqsR1 pqt1))) ([(0, .own 1 g 0 len), (1, .int .i64 a'), (2, .int .i64 b'), (3, .int .i64 limit), (4, .fn 29 []), (10, .bool wb), (11, .bool wp), (12, .int .i64 (b' - a' : Nat)), (13, .int .i64 p), (14, .int .i64 h)] ++ tl) ⟨[ob0, .arr g 8 nn cl (vs GX.av D.toList)], c⟩ (vSeq K Q) := by
  (conv => whnf); repeat' (first | exact hK _ _ _ _ _ (permIn_refl _ _ _) hp1 hp2 | ((with_reducible first | apply kN | apply kW | apply kX | apply kG | apply kQ); (· exact sd); conv => whnf) | (refine pcase.mk ?_ ?_ <;> intro hc <;> (try rw [List.length_nil] at hc) <;> first | (exfalso; omega) | (exact absurd rfl hc) | conv => whnf) | (refine bcase_intro ?_ ?_ <;> intro hc <;> conv => whnf))
  refine (pqrev hD hb (by omega) hs).mono ?_
  rintro _ _ ⟨c1, E, rfl, rfl, q1⟩
  conv => whnf
  apply getK_intro rfl
  have e : (b' : Int) - 1 - ((p : Int) - a') = ((b' - 1 - (p - a') : Nat) : Int) := by omega
  have hK' := fun tl => hK tl c1 (b' - 1 - (p - a')) 1 E q1 (by omega) (by omega)
  rw [← e] at hK'
  (conv => whnf); repeat' (first | exact hK' _ | ((with_reducible first | apply kN | apply kW | apply kX | apply kG | apply kQ); (· exact sd); conv => whnf) | (refine pcase.mk ?_ ?_ <;> intro hc <;> (try rw [List.length_nil] at hc) <;> first | (exfalso; omega) | (exact absurd rfl hc) | conv => whnf) | (refine bcase_intro ?_ ?_ <;> intro hc <;> conv => whnf))

/-- choosing -/
theorem pqtop6 {tl : Env} (hs : len < 2^61) {a' b' c : Nat} {limit : Int} {wb wp : Bool} {D : Array GX} {K : Env → Sto → Prop} {Q : AExit → Env → Sto → Prop} (hab : a' + 12 < b') (hb : b' ≤ len) (hD : D.size = len)
    (hK : ∀ tl c (p : Nat) h, a' ≤ p → p < b' → K ([(0, .own 1 g 0 len), (1, .int .i64 a'), (2, .int .i64 b'), (3, .int .i64 limit), (4, .fn 29 []), (10, .bool wb), (11, .bool wp), (12, .int .i64 (b' - a' : Nat)), (13, .int .i64 p), (14, .int .i64 h)] ++ tl) ⟨[ob0, .arr g 8 nn cl (vs GX.av D.toList)], c⟩) :
    vC (findFn tab) (pqsL1 (pqsR1 pqt1)) ([(0, .own 1 g 0 len), (1, .int .i64 a'), (2, .int .i64 b'), (3, .int .i64 limit), (4, .fn 29 []), (10, .bool wb), (11, .bool wp), (12, .int .i64 (b' - a' : Nat))] ++ tl) ⟨[ob0, .arr g 8 nn cl (vs GX.av D.toList)], c⟩ (vSeq K Q) := by
  (conv => whnf); repeat' (first  | ((with_reducible first | apply kN | apply kW | apply kX | apply kG | apply kQ); (· exact sd); conv => whnf) | (refine pcase.mk ?_ ?_ <;> intro hc <;> (try rw [List.length_nil] at hc) <;> first | (exfalso; omega) | (exact absurd rfl hc) | conv => whnf) | (refine bcase_intro ?_ ?_ <;> intro hc <;> conv => whnf))
  refine (pqpiv hD hb hab hs).mono ?_
  rintro _ _ ⟨c1, p, h, ob, rfl, rfl, q1, q2⟩
  conv => whnf
  apply getK_intro rfl
  (conv => whnf); repeat' (first | exact hK _ _ _ _ q1 q2 | ((with_reducible first | apply kN | apply kW | apply kX | apply kG | apply kQ); (· exact sd); conv => whnf) | (refine pcase.mk ?_ ?_ <;> intro hc <;> (try rw [List.length_nil] at hc) <;> first | (exfalso; omega) | (exact absurd rfl hc) | conv => whnf) | (refine bcase_intro ?_ ?_ <;> intro hc <;> conv => whnf))

/-- breaking patterns -/
theorem pqtop7 {tl : Env} (hs : len < 2^61) {a' b' c : Nat} {limit : Int} {wb wp : Bool} {D : Array GX} {K : Env → Sto → Prop} {Q : AExit → Env → Sto → Prop} (hab : a' + 12 < b') (hb : b' ≤ len) (hD : D.size = len) (hlim : 0 < limit)
    (hK : ∀ tl c wb limit (E : Array GX), 0 ≤ limit → limit < 2^62 → PermIn a' b' D E → K ([(0, .own 1 g 0 len), (1, .int .i64 a'), (2, .int .i64 b'), (3, .int .i64 limit), (4, .fn 29 []), (10, .bool wb), (11, .bool wp), (12, .int .i64 (b' - a' : Nat))] ++ tl) ⟨[ob0, .arr g 8 nn cl (vs GX.av E.toList)], c⟩) (hlim2 : limit < 2^62) :
    vC (findFn tab) (pqsL1 pqt1) ([(0, .own 1 g 0 len), (1, .int .i64 a'), (2, .int .i64 b'), (3, .int .i64 limit), (4, .fn 29 []), (10, .bool wb), (11, .bool wp), (12, .int .i64 (b' - a' : Nat))] ++ tl) ⟨[ob0, .arr g 8 nn cl (vs GX.av D.toList)], c⟩ (vSeq K Q) := by
  cases wb with
  | true => (conv => whnf); repeat' (first | exact hK _ _ _ _ _ (by omega) (by omega) (permIn_refl _ _ _) | ((with_reducible first | apply kN | apply kW | apply kX | apply kG | apply kQ); (· exact sd); conv => whnf) | (refine pcase.mk ?_ ?_ <;> intro hc <;> (try rw [List.length_nil] at hc) <;> first | (exfalso; omega) | (exact absurd rfl hc) | conv => whnf) | (refine bcase_intro ?_ ?_ <;> intro hc <;> conv => whnf))
  | false =>
    (conv => whnf); repeat' (first  | ((with_reducible first | apply kN | apply kW | apply kX | apply kG | apply kQ); (· exact sd); conv => whnf) | (refine pcase.mk ?_ ?_ <;> intro hc <;> (try rw [List.length_nil] at hc) <;> first | (exfalso; omega) | (exact absurd rfl hc) | conv => whnf) | (refine bcase_intro ?_ ?_ <;> intro hc <;> conv => whnf))
    refine (pqbrk hD hb hab hs).mono ?_
    rintro _ _ ⟨c1, E, ob, rfl, rfl, q1⟩
    conv => whnf
    apply getK_intro rfl
    (conv => whnf); repeat' (first | exact hK _ _ _ _ _ (by omega) (by omega) q1 | ((with_reducible first | apply kN | apply kW | apply kX | apply kG | apply kQ); (· exact sd); conv => whnf) | (refine pcase.mk ?_ ?_ <;> intro hc <;> (try rw [List.length_nil] at hc) <;> first | (exfalso; omega) | (exact absurd rfl hc) | conv => whnf) | (refine bcase_intro ?_ ?_ <;> intro hc <;> conv => whnf))

/-- the length -/
theorem pqtop8 {a' b' c : Nat} {limit : Int} {wb wp : Bool} {D : Array GX} {K : Env → Sto → Prop} {Q : AExit → Env → Sto → Prop} (hs : len < 2^61) (hab : a' ≤ b') (hb : b' ≤ len)
    (hK : ∀ tl, K ([(0, .own 1 g 0 len), (1, .int .i64 a'), (2, .int .i64 b'), (3, .int .i64 limit), (4, .fn 29 []), (10, .bool wb), (11, .bool wp), (12, .int .i64 (b' - a' : Nat))] ++ tl) ⟨[ob0, .arr g 8 nn cl (vs GX.av D.toList)], c⟩) :
    vC (findFn tab) (pqsL1 (pqbl1 l85_0_b)) [(0, .own 1 g 0 len), (1, .int .i64 a'), (2, .int .i64 b'), (3, .int .i64 limit), (4, .fn 29 []), (10, .bool wb), (11, .bool wp)] ⟨[ob0, .arr g 8 nn cl (vs GX.av D.toList)], c⟩ (vSeq K Q) := by
  rw [show ((b' - a' : Nat) : Int) = (b' : Int) - a' by omega] at hK
  (conv => whnf); repeat' (first | exact hK [] | ((with_reducible first | apply kN | apply kW | apply kX | apply kG | apply kQ); (· exact sd); conv => whnf) | (refine pcase.mk ?_ ?_ <;> intro hc <;> (try rw [List.length_nil] at hc) <;> first | (exfalso; omega) | (exact absurd rfl hc) | conv => whnf) | (refine bcase_intro ?_ ?_ <;> intro hc <;> conv => whnf))

/-- short -/
theorem pqtop9 {tl : Env} (hs : len < 2^61) {a' b' c : Nat} {limit : Int} {wb wp : Bool} {D : Array GX} {K : Env → Sto → Prop} {Q : AExit → Env → Sto → Prop} (hab : a' ≤ b') (hb : b' ≤ len) (hD : D.size = len)
    (hK : ∀ tl c, a' + 12 < b' → K ([(0, .own 1 g 0 len), (1, .int .i64 a'), (2, .int .i64 b'), (3, .int .i64 limit), (4, .fn 29 []), (10, .bool wb), (11, .bool wp), (12, .int .i64 (b' - a' : Nat))] ++ tl) ⟨[ob0, .arr g 8 nn cl (vs GX.av D.toList)], c⟩)
    (hQ : ∀ c (E : Array GX) env, PermIn a' b' D E → SortedIn ltT a' b' E → Q .ret env ⟨[ob0, .arr g 8 nn cl (vs GX.av E.toList)], c⟩) :
    vC (findFn tab) (pqsL1 (pqsR1 (pqbl1 l85_0_b))) ([(0, .own 1 g 0 len), (1, .int .i64 a'), (2, .int .i64 b'), (3, .int .i64 limit), (4, .fn 29 []), (10, .bool wb), (11, .bool wp), (12, .int .i64 (b' - a' : Nat))] ++ tl) ⟨[ob0, .arr g 8 nn cl (vs GX.av D.toList)], c⟩ (vSeq K Q) := by
  (conv => whnf); repeat' (first | exact hK _ _ (by omega) | ((with_reducible first | apply kN | apply kW | apply kX | apply kG | apply kQ); (· exact sd); conv => whnf) | (refine pcase.mk ?_ ?_ <;> intro hc <;> (try rw [List.length_nil] at hc) <;> first | (exfalso; omega) | (exact absurd rfl hc) | conv => whnf) | (refine bcase_intro ?_ ?_ <;> intro hc <;> conv => whnf))
  refine (pqins hD hb hs (by omega)).mono ?_
  rintro _ _ ⟨c1, rfl, rfl⟩
  conv => whnf
  apply getK_intro rfl
  (conv => whnf); repeat' (first  | ((with_reducible first | apply kN | apply kW | apply kX | apply kG | apply kQ); (· exact sd); conv => whnf) | (refine pcase.mk ?_ ?_ <;> intro hc <;> (try rw [List.length_nil] at hc) <;> first | (exfalso; omega) | (exact absurd rfl hc) | conv => whnf) | (refine bcase_intro ?_ ?_ <;> intro hc <;> conv => whnf))
  obtain ⟨q1, q2⟩ := insertionSort_holds ltT_swo D a' b' hab (by omega)
  exact hQ _ _ _ q1 q2

/-- too many bad choices -/
theorem pqtop10 {tl : Env} (hs : len < 2^61) {a' b' c : Nat} {limit : Int} {wb wp : Bool} {D : Array GX} {K : Env → Sto → Prop} {Q : AExit → Env → Sto → Prop} (hab : a' + 12 < b') (hb : b' ≤ len) (hD : D.size = len) (hlim : 0 ≤ limit)
    (hK : ∀ tl c, 0 < limit → K ([(0, .own 1 g 0 len), (1, .int .i64 a'), (2, .int .i64 b'), (3, .int .i64 limit), (4, .fn 29 []), (10, .bool wb), (11, .bool wp), (12, .int .i64 (b' - a' : Nat))] ++ tl) ⟨[ob0, .arr g 8 nn cl (vs GX.av D.toList)], c⟩)
    (hQ : ∀ c (E : Array GX) env, PermIn a' b' D E → SortedIn ltT a' b' E → Q .ret env ⟨[ob0, .arr g 8 nn cl (vs GX.av E.toList)], c⟩) :
    vC (findFn tab) (pqsL1 (pqsR1 (pqsR1 (pqbl1 l85_0_b)))) ([(0, .own 1 g 0 len), (1, .int .i64 a'), (2, .int .i64 b'), (3, .int .i64 limit), (4, .fn 29 []), (10, .bool wb), (11, .bool wp), (12, .int .i64 (b' - a' : Nat))] ++ tl) ⟨[ob0, .arr g 8 nn cl (vs GX.av D.toList)], c⟩ (vSeq K Q) := by
  (conv => whnf); repeat' (first | exact hK _ _ (by omega) | ((with_reducible first | apply kN | apply kW | apply kX | apply kG | apply kQ); (· exact sd); conv => whnf) | (refine pcase.mk ?_ ?_ <;> intro hc <;> (try rw [List.length_nil] at hc) <;> first | (exfalso; omega) | (exact absurd rfl hc) | conv => whnf) | (refine bcase_intro ?_ ?_ <;> intro hc <;> conv => whnf))
  refine (pqheap hD hb hs (by omega)).mono ?_
  rintro _ _ ⟨c1, rfl, rfl⟩
  conv => whnf
  apply getK_intro rfl
  (conv => whnf); repeat' (first  | ((with_reducible first | apply kN | apply kW | apply kX | apply kG | apply kQ); (· exact sd); conv => whnf) | (refine pcase.mk ?_ ?_ <;> intro hc <;> (try rw [List.length_nil] at hc) <;> first | (exfalso; omega) | (exact absurd rfl hc) | conv => whnf) | (refine bcase_intro ?_ ?_ <;> intro hc <;> conv => whnf))
  obtain ⟨q1, q2⟩ := heapSort_holds ltT_swo D a' b' (by omega) (by omega)
  exact hQ _ _ _ q1 q2

/-- a round -/
theorem pqround (hs : len < 2^61) (ih : ∀ x y, y - x < b - a → pqTop ob0 g len nn cl x y) {a' b' c : Nat} {limit : Int} {wb wp : Bool} {D : Array GX} (hab : a' ≤ b') (hb : b' ≤ len) (hle : b' - a' ≤ b - a) (hlim : 0 ≤ limit) (hlim2 : limit < 2^62) (hD : D.size = len) (hB : Below ltT a' b' D)
    (hR : ∀ R, PermIn a' b' D R → SortedIn ltT a' b' R → PermIn a b d R ∧ SortedIn ltT a b R) :
    vC (findFn tab) (pqbl1 l85_0_b) [(0, .own 1 g 0 len), (1, .int .i64 a'), (2, .int .i64 b'), (3, .int .i64 limit), (4, .fn 29 []), (10, .bool wb), (11, .bool wp)] ⟨[ob0, .arr g 8 nn cl (vs GX.av D.toList)], c⟩ (pqEnd ob0 g len nn cl a b d (b' - a')) := by
  have hret : ∀ c (E : Array GX) env, PermIn a b d E → SortedIn ltT a b E → pqEnd ob0 g len nn cl a b d (b' - a') .ret env ⟨[ob0, .arr g 8 nn cl (vs GX.av E.toList)], c⟩ := by
    intro c E env h1 h2
    unfold pqEnd
    conv => whnf
    apply getK_intro rfl
    exact ⟨_, E, rfl, rfl, h1, h2⟩
  refine vC_seq (a := pqsL1 (pqbl1 l85_0_b)) (b := pqsR1 (pqbl1 l85_0_b)) (pqtop8 hs hab hb fun tl1 => ?_)
  refine vC_seq (a := pqsL1 (pqsR1 (pqbl1 l85_0_b))) (b := pqsR1 (pqsR1 (pqbl1 l85_0_b))) (pqtop9 hs hab hb hD (fun tl2 c2 h12 => ?_) fun c E env h1 h2 => hret c E env (hR E h1 h2).1 (hR E h1 h2).2)
  refine vC_seq (a := pqsL1 (pqsR1 (pqsR1 (pqbl1 l85_0_b)))) (b := pqt1) (pqtop10 hs h12 hb hD hlim (fun tl3 c3 hl0 => ?_) fun c E env h1 h2 => hret c E env (hR E h1 h2).1 (hR E h1 h2).2)
  refine vC_seq (a := pqsL1 pqt1) (b := pqsR1 pqt1) (pqtop7 hs h12 hb hD hl0 (fun tl4 c4 wb4 lim4 E4 hl4 hl42 p4 => ?_) hlim2)
  have hD4 : E4.size = len := by rw [p4.1, hD]
  refine vC_seq (a := pqsL1 (pqsR1 pqt1)) (b := pqsR1 (pqsR1 pqt1)) (pqtop6 hs h12 hb hD4 fun tl5 c5 p h hp1 hp2 => ?_)
  refine vC_seq (a := pqsL1 (pqsR1 (pqsR1 pqt1))) (b := pqt2) (pqtop5 hs h12 hb hD4 hp1 hp2 fun tl6 c6 p6 h6 E6 q6 hp61 hp62 => ?_)
  have p6' := permIn_trans _ _ _ _ _ p4 q6
  have hD6 : E6.size = len := by rw [p6'.1, hD]
  have hB6 := hB.perm (by omega) p6'
  refine vC_seq (a := pqsL1 pqt2) (b := pqt3) (pqtop2 hs h12 hb hD6 hB6 (fun tl7 c7 E7 q7 => ?_) fun c E env h1 h2 => hret c E env (hR E (permIn_trans _ _ _ _ _ p6' h1) h2).1 (hR E (permIn_trans _ _ _ _ _ p6' h1) h2).2)
  have p7 := permIn_trans _ _ _ _ _ p6' q7
  have hD7 : E7.size = len := by rw [p7.1, hD]
  have hB7 := hB.perm (by omega) p7
  have hR7 : ∀ R, PermIn a' b' E7 R → SortedIn ltT a' b' R → PermIn a b d R ∧ SortedIn ltT a b R := fun R h1 h2 => hR R (permIn_trans _ _ _ _ _ p7 h1) h2
  refine vC_seq (a := pqsL1 pqt3) (b := pqt4) (pqtop3 hs h12 hb hD7 hB7 hp61 hp62 (fun tl8 => pqtop4 hs ih h12 hb hle hl4 hl42 hD7 hB7 hR7 hp61 hp62) fun c' mid E m1 m2 hE hBE fin => ?_)
  unfold pqEnd
  conv => whnf
  exact again.mk ⟨_, by omega, mid, b', _, lim4, _, _, E, rfl, by omega, hb, by omega, hl4, hl42, hE, hBE, fun R h1 h2 => hR7 R (fin R h1 h2).1 (fin R h1 h2).2, rfl, rfl⟩

end

theorem pqpdq {ob0 : Obj} {g len : Nat} {nn cl : Bool} (hs : len < 2^61) : ∀ n a b, b - a ≤ n → pqTop ob0 g len nn cl a b := by
  intro n
  induction n using Nat.strongRecOn with
  | ind n IH =>
    intro a b hn
    have ih : ∀ x y, y - x < b - a → pqTop ob0 g len nn cl x y := fun x y h => IH (y - x) (by omega) x y (Nat.le_refl _)
    clear IH hn
    intro c limit d hd hb hab hlim hlim2 hB
    refine calls1_of rfl rfl ?_
    (conv => whnf); repeat' (first  | ((with_reducible first | apply kN | apply kW | apply kX | apply kG | apply kQ); (· exact sd); conv => whnf) | (refine pcase.mk ?_ ?_ <;> intro hc <;> (try rw [List.length_nil] at hc) <;> first | (exfalso; omega) | (exact absurd rfl hc) | conv => whnf) | (refine bcase_intro ?_ ?_ <;> intro hc <;> conv => whnf))
    refine loop_inv (pqInv ob0 g len nn cl a b d) ?_ _ _ _ ⟨a, b, _, limit, true, true, d, rfl, hab, hb, Nat.le_refl _, hlim, hlim2, hd, hB, fun R h1 h2 => ⟨h1, h2⟩, rfl, rfl⟩
    rintro _ _ _ ⟨a', b', c, limit, wb, wp, D, rfl, hab', hb', hle, hlim, hlim2, hD, hB', hR, rfl, rfl⟩
    refine ⟨rfl, ?_⟩
    exact pqround hs ih hab' hb' hle hlim hlim2 hD hB' hR

/-- a slice sorted whole -/
theorem pqsortQ {ob0 : Obj} {g len c : Nat} {nn cl : Bool} {L : List GX} (hl : L.length = len) (hs : len < 2^61) {limit : Int} (h0 : 0 ≤ limit) (h1 : limit < 2^62) :
    Calls1 (findFn tab) 85 [.own 1 g 0 len, .int .i64 0, .int .i64 len, .int .i64 limit, .fn 29 []] ⟨[ob0, .arr g 8 nn cl (vs GX.av L)], c⟩ fun out s' => ∃ c' W, out = .ok (.tup []) ∧ s' = ⟨[ob0, .arr g 8 nn cl (vs GX.av W)], c'⟩ ∧ W.Perm L ∧ W.Pairwise (fun x y => ltT y x = false) := by
  have := pqpdq (ob0 := ob0) (g := g) (nn := nn) (cl := cl) hs len 0 len (by omega) c limit L.toArray (by simpa using hl) (Nat.le_refl _) (by omega) h0 h1 (Or.inl rfl)
  refine this.mono ?_
  rintro _ _ ⟨c', D, rfl, rfl, p1, p2⟩
  refine ⟨c', D.toList, rfl, rfl, perm_of hl p1, sorted_of (by rw [p1.1]; simpa using hl) p2⟩

end AI
end Go.Proofs.YtbkibamoigmboaaGreatDoor
