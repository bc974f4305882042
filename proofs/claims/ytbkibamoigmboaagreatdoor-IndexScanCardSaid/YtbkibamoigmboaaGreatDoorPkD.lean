/- Sorting in place (Ordered[int]): the whole. -/
import Derived.Test.YtbkibamoigmboaaGreatDoorPK0
import Derived.Test.YtbkibamoigmboaaGreatDoorPkC
set_option linter.unusedVariables false
set_option maxRecDepth 4000
namespace Go.Proofs.YtbkibamoigmboaaGreatDoor
namespace AI
open Go.Sort

abbrev pkTop  (g len : Nat) (nn cl : Bool) (a b : Nat) : Prop := ∀ (c : Nat) (limit : Int) (d : Array Int), d.size = len → b ≤ len → a ≤ b → 0 ≤ limit → limit < 2^62 → Below ltI a b d →
  Calls1 (findFn tab) 133 [.own 0 g 0 len, .int .i64 a, .int .i64 b, .int .i64 limit] ⟨[.arr g 1 nn cl (vs (.int .i64) d.toList)], c⟩ fun out s' => ∃ c' D, out = .ok (.tup []) ∧ s' = ⟨[.arr g 1 nn cl (vs (.int .i64) D.toList)], c'⟩ ∧ PermIn a b d D ∧ SortedIn ltI a b D

def pksR1 : ACode → ACode
  | .seq _ b => b
  | c => c
def pksL1 : ACode → ACode
  | .seq a _ => a
  | c => c
def pkbl1 : ACode → ACode
  | .block _ a => a
  | c => c
/-- behind the test of the length and of the limit, behind the choice of the pivot, behind the try -/
def pkt1 : ACode := pksR1 (pksR1 (pksR1 (pkbl1 l133_0_b)))
def pkt2 : ACode := pksR1 (pksR1 (pksR1 pkt1))
def pkt3 : ACode := pksR1 pkt2
def pkt4 : ACode := pksR1 pkt3

/-- the loop's invariant -/
abbrev pkInv  (g len : Nat) (nn cl : Bool) (a b : Nat) (d : Array Int) (m : Nat) (env : Env) (s : Sto) : Prop :=
  ∃ (a' b' c : Nat) (limit : Int) (wb wp : Bool) (D : Array Int), m = b' - a' ∧ a' ≤ b' ∧ b' ≤ len ∧ b' - a' ≤ b - a ∧ 0 ≤ limit ∧ limit < 2^62 ∧ D.size = len ∧ Below ltI a' b' D ∧ (∀ R, PermIn a' b' D R → SortedIn ltI a' b' R → PermIn a b d R ∧ SortedIn ltI a b R) ∧
    env = [(0, .own 0 g 0 len), (1, .int .i64 a'), (2, .int .i64 b'), (3, .int .i64 limit), (8, .bool wb), (9, .bool wp)] ∧ s = ⟨[.arr g 1 nn cl (vs (.int .i64) D.toList)], c⟩

section
variable  {g len : Nat} {nn cl : Bool} {a b : Nat} {d : Array Int}

/-- what a round ends in -/
def pkEnd  (g len : Nat) (nn cl : Bool) (a b : Nat) (d : Array Int) (m : Nat) : AExit → Env → Sto → Prop :=
  vBlk 1 (vInv l133_0_h (again (pkInv  g len nn cl a b d) m) (vBlk 0 (vRes a133 fun out s' => ∃ c' D, out = .ok (.tup []) ∧ s' = ⟨[.arr g 1 nn cl (vs (.int .i64) D.toList)], c'⟩ ∧ PermIn a b d D ∧ SortedIn ltI a b D)))

set_option maxHeartbeats 2000000 in
/-- the partition and what follows -/
theorem pktop4 {tl : Env} (hs : len < 2^61) (ih : ∀ x y, y - x < b - a → pkTop  g len nn cl x y) {a' b' c p : Nat} {limit : Int} {wb wp : Bool} {D : Array Int} (hab : a' + 12 < b') (hb : b' ≤ len) (hle : b' - a' ≤ b - a) (hlim : 0 ≤ limit) (hlim2 : limit < 2^62) (hD : D.size = len) (hB : Below ltI a' b' D)
    (hR : ∀ R, PermIn a' b' D R → SortedIn ltI a' b' R → PermIn a b d R ∧ SortedIn ltI a b R) (hp1 : a' ≤ p) (hp2 : p < b') :
    vC (findFn tab) pkt4 ([(0, .own 0 g 0 len), (1, .int .i64 a'), (2, .int .i64 b'), (3, .int .i64 limit), (8, .bool wb), (9, .bool wp), (10, .int .i64 (b' - a' : Nat)), (11, .int .i64 p)] ++ tl) ⟨[.arr g 1 nn cl (vs (.int .i64) D.toList)], c⟩ (pkEnd  g len nn cl a b d (b' - a')) := by
  unfold pkEnd
  (conv => whnf); repeat' (first  | ((with_reducible first | apply kN | apply kW | apply kX | apply kG | apply kQ); (· exact sd); conv => whnf) | (refine pcase.mk ?_ ?_ <;> intro hc <;> (try rw [List.length_nil] at hc) <;> first | (exfalso; omega) | (exact absurd rfl hc) | conv => whnf) | (refine bcase_intro ?_ ?_ <;> intro hc <;> conv => whnf))
  refine (pkpar hD hb hp1 hp2 hs).mono ?_
  rintro _ _ ⟨c1, rfl, rfl⟩
  generalize hx : partition ltI D a' b' p = R
  obtain ⟨mid, ap, E⟩ := R
  obtain ⟨m1, m2, hE, hBl, hBr, fl, fr⟩ := round_part ltI_swo (partition_holds ltI) hp1 hp2 (by omega) hB hx
  dsimp only
  conv => whnf
  apply getK_intro rfl
  (conv => whnf); repeat' (first | (refine wrapD (b' - a') 8 (by omega) (by omega) ?_; conv => whnf) | ((with_reducible first | apply kN | apply kW | apply kX | apply kG | apply kQ); (· exact sd); conv => whnf) | (refine pcase.mk ?_ ?_ <;> intro hc <;> (try rw [List.length_nil] at hc) <;> first | (exfalso; omega) | (exact absurd rfl hc) | conv => whnf) | (refine bcase_intro ?_ ?_ <;> intro hc <;> conv => whnf))
  all_goals first
    | (refine (ih a' mid (by omega) _ limit E (by omega) (by omega) m1 hlim hlim2 hBl).mono ?_
       rintro _ _ ⟨c2, L, rfl, rfl, q1, q2⟩
       obtain ⟨hBL, fin⟩ := fl L q1 q2
       conv => whnf
       apply getK_intro rfl
       (conv => whnf); repeat' (first  | ((with_reducible first | apply kN | apply kW | apply kX | apply kG | apply kQ); (· exact sd); conv => whnf) | (refine pcase.mk ?_ ?_ <;> intro hc <;> (try rw [List.length_nil] at hc) <;> first | (exfalso; omega) | (exact absurd rfl hc) | conv => whnf) | (refine bcase_intro ?_ ?_ <;> intro hc <;> conv => whnf))
       exact again.mk ⟨_, by omega, mid + 1, b', _, limit, _, _, L, rfl, by omega, hb, by omega, hlim, hlim2, by rw [q1.1, hE, hD], hBL, fun R h1 h2 => hR R (fin R h1 h2).1 (fin R h1 h2).2, rfl, rfl⟩)
    | (refine (ih (mid + 1) b' (by omega) _ limit E (by omega) hb (by omega) hlim hlim2 hBr).mono ?_
       rintro _ _ ⟨c2, L, rfl, rfl, q1, q2⟩
       obtain ⟨hBL, fin⟩ := fr L q1 q2
       conv => whnf
       apply getK_intro rfl
       (conv => whnf); repeat' (first  | ((with_reducible first | apply kN | apply kW | apply kX | apply kG | apply kQ); (· exact sd); conv => whnf) | (refine pcase.mk ?_ ?_ <;> intro hc <;> (try rw [List.length_nil] at hc) <;> first | (exfalso; omega) | (exact absurd rfl hc) | conv => whnf) | (refine bcase_intro ?_ ?_ <;> intro hc <;> conv => whnf))
       exact again.mk ⟨_, by omega, a', mid, _, limit, _, _, L, rfl, by omega, by omega, by omega, hlim, hlim2, by rw [q1.1, hE, hD], hBL, fun R h1 h2 => hR R (fin R h1 h2).1 (fin R h1 h2).2, rfl, rfl⟩)

/-- many equal ones -/
theorem pktop3 {tl : Env} (hs : len < 2^61) {a' b' c p : Nat} {limit : Int} {wb wp : Bool} {D : Array Int} {K : Env → Sto → Prop} {Q : AExit → Env → Sto → Prop} (hab : a' + 12 < b') (hb : b' ≤ len) (hD : D.size = len) (hB : Below ltI a' b' D) (hp1 : a' ≤ p) (hp2 : p < b')
    (hK : ∀ tl, K ([(0, .own 0 g 0 len), (1, .int .i64 a'), (2, .int .i64 b'), (3, .int .i64 limit), (8, .bool wb), (9, .bool wp), (10, .int .i64 (b' - a' : Nat)), (11, .int .i64 p)] ++ tl) ⟨[.arr g 1 nn cl (vs (.int .i64) D.toList)], c⟩)
    (hQ : ∀ c' mid (E : Array Int), a' < mid → mid ≤ b' → E.size = len → Below ltI mid b' E → (∀ R, PermIn mid b' E R → SortedIn ltI mid b' R → PermIn a' b' D R ∧ SortedIn ltI a' b' R) →
      Q (.exit 1) [(0, .own 0 g 0 len), (1, .int .i64 mid), (2, .int .i64 b'), (3, .int .i64 limit), (8, .bool wb), (9, .bool wp)] ⟨[.arr g 1 nn cl (vs (.int .i64) E.toList)], c'⟩) :
    vC (findFn tab) (pksL1 pkt3) ([(0, .own 0 g 0 len), (1, .int .i64 a'), (2, .int .i64 b'), (3, .int .i64 limit), (8, .bool wb), (9, .bool wp), (10, .int .i64 (b' - a' : Nat)), (11, .int .i64 p)] ++ tl) ⟨[.arr g 1 nn cl (vs (.int .i64) D.toList)], c⟩ (vSeq K Q) := by
  (conv => whnf); repeat' (first | exact hK _ | ((with_reducible show nthK _ _ _); refine nPK (a' - 1) ?_; conv => whnf) | ((with_reducible show nthK _ _ _); refine nPK (p) ?_; conv => whnf) | (refine callBb lessI (fun hc => ?_) (fun hc => ?_) <;> conv => whnf) | ((with_reducible first | apply kN | apply kW | apply kX | apply kG | apply kQ); (· exact sd); conv => whnf) | (refine pcase.mk ?_ ?_ <;> intro hc <;> (try rw [List.length_nil] at hc) <;> first | (exfalso; omega) | (exact absurd rfl hc) | conv => whnf) | (refine bcase_intro ?_ ?_ <;> intro hc <;> conv => whnf))
  refine (pkqeq hD hb hp1 hp2 hs).mono ?_
  rintro _ _ ⟨c1, rfl, rfl⟩
  generalize hx : partitionEqual ltI D a' b' p = R
  obtain ⟨mid, E⟩ := R
  obtain ⟨m1, m2, hE, hBr, fin⟩ := round_eq ltI_swo (partitionEqual_holds ltI) (by omega) hp1 hp2 (by omega) hB hc hx
  dsimp only
  conv => whnf
  apply getK_intro rfl
  (conv => whnf); repeat' (first  | ((with_reducible first | apply kN | apply kW | apply kX | apply kG | apply kQ); (· exact sd); conv => whnf) | (refine pcase.mk ?_ ?_ <;> intro hc <;> (try rw [List.length_nil] at hc) <;> first | (exfalso; omega) | (exact absurd rfl hc) | conv => whnf) | (refine bcase_intro ?_ ?_ <;> intro hc <;> conv => whnf))
  exact hQ _ mid E m1 m2 (by omega) hBr fin

/-- nearly sorted -/
theorem pktop2 {tl : Env} (hs : len < 2^61) {a' b' c p : Nat} {limit h : Int} {wb wp : Bool} {D : Array Int} {K : Env → Sto → Prop} {Q : AExit → Env → Sto → Prop} (hab : a' + 12 < b') (hb : b' ≤ len) (hD : D.size = len) (hB : Below ltI a' b' D)
    (hK : ∀ tl c (E : Array Int), PermIn a' b' D E → K ([(0, .own 0 g 0 len), (1, .int .i64 a'), (2, .int .i64 b'), (3, .int .i64 limit), (8, .bool wb), (9, .bool wp), (10, .int .i64 (b' - a' : Nat)), (11, .int .i64 p)] ++ tl) ⟨[.arr g 1 nn cl (vs (.int .i64) E.toList)], c⟩)
    (hQ : ∀ c (E : Array Int) env, PermIn a' b' D E → SortedIn ltI a' b' E → Q .ret env ⟨[.arr g 1 nn cl (vs (.int .i64) E.toList)], c⟩) :
    vC (findFn tab) (pksL1 pkt2) ([(0, .own 0 g 0 len), (1, .int .i64 a'), (2, .int .i64 b'), (3, .int .i64 limit), (8, .bool wb), (9, .bool wp), (10, .int .i64 (b' - a' : Nat)), (11, .int .i64 p), (12, .int .i64 h)] ++ tl) ⟨[.arr g 1 nn cl (vs (.int .i64) D.toList)], c⟩ (vSeq K Q) := by
  (conv => whnf); repeat' (first | exact hK _ _ _ (permIn_refl _ _ _) | ((with_reducible first | apply kN | apply kW | apply kX | apply kG | apply kQ); (· exact sd); conv => whnf) | (refine pcase.mk ?_ ?_ <;> intro hc <;> (try rw [List.length_nil] at hc) <;> first | (exfalso; omega) | (exact absurd rfl hc) | conv => whnf) | (refine bcase_intro ?_ ?_ <;> intro hc <;> conv => whnf))
  refine (pkpart hD hb (by omega) hs).mono ?_
  rintro _ _ ⟨c1, rfl, rfl⟩
  have hp := partialInsertionSort_holds ltI_swo D a' b' (by omega) (by omega) hB
  generalize partialInsertionSort ltI D a' b' = R at hp
  obtain ⟨E, r⟩ := R
  obtain ⟨q1, q2⟩ := hp
  dsimp only at q1 q2 ⊢
  conv => whnf
  apply getK_intro rfl
  cases r with
  | true =>
    (conv => whnf); repeat' (first  | ((with_reducible first | apply kN | apply kW | apply kX | apply kG | apply kQ); (· exact sd); conv => whnf) | (refine pcase.mk ?_ ?_ <;> intro hc <;> (try rw [List.length_nil] at hc) <;> first | (exfalso; omega) | (exact absurd rfl hc) | conv => whnf) | (refine bcase_intro ?_ ?_ <;> intro hc <;> conv => whnf))
    exact hQ _ E _ q1 (q2 rfl)
  | false =>
    (conv => whnf); repeat' (first | exact hK _ _ _ q1 | ((with_reducible first | apply kN | apply kW | apply kX | apply kG | apply kQ); (· exact sd); conv => whnf) | (refine pcase.mk ?_ ?_ <;> intro hc <;> (try rw [List.length_nil] at hc) <;> first | (exfalso; omega) | (exact absurd rfl hc) | conv => whnf) | (refine bcase_intro ?_ ?_ <;> intro hc <;> conv => whnf))

/-- reversing -/
theorem pktop5 {tl : Env} (hs : len < 2^61) {a' b' c p : Nat} {limit h : Int} {wb wp : Bool} {D : Array Int} {K : Env → Sto → Prop} {Q : AExit → Env → Sto → Prop} (hab : a' + 12 < b') (hb : b' ≤ len) (hD : D.size = len) (hp1 : a' ≤ p) (hp2 : p < b')
    (hK : ∀ tl c (p : Nat) h (E : Array Int), PermIn a' b' D E → a' ≤ p → p < b' → K ([(0, .own 0 g 0 len), (1, .int .i64 a'), (2, .int .i64 b'), (3, .int .i64 limit), (8, .bool wb), (9, .bool wp), (10, .int .i64 (b' - a' : Nat)), (11, .int .i64 p), (12, .int .i64 h)] ++ tl) ⟨[.arr g 1 nn cl (vs (.int .i64) E.toList)], c⟩) :
    vC (findFn tab) (pksL1 (pksR1 (pksR1 pkt1))) ([(0, .own 0 g 0 len), (1, .int .i64 a'), (2, .int .i64 b'), (3, .int .i64 limit), (8, .bool wb), (9, .bool wp), (10, .int .i64 (b' - a' : Nat)), (11, .int .i64 p), (12, .int .i64 h)] ++ tl) ⟨[.arr g 1 nn cl (vs (.int .i64) D.toList)], c⟩ (vSeq K Q) := by
  (conv => whnf); repeat' (first | exact hK _ _ _ _ _ (permIn_refl _ _ _) hp1 hp2 | ((with_reducible first | apply kN | apply kW | apply kX | apply kG | apply kQ); (· exact sd); conv => whnf) | (refine pcase.mk ?_ ?_ <;> intro hc <;> (try rw [List.length_nil] at hc) <;> first | (exfalso; omega) | (exact absurd rfl hc) | conv => whnf) | (refine bcase_intro ?_ ?_ <;> intro hc <;> conv => whnf))
  refine (pkrev hD hb (by omega) hs).mono ?_
  rintro _ _ ⟨c1, E, rfl, rfl, q1⟩
  conv => whnf
  apply getK_intro rfl
  have e : (b' : Int) - 1 - ((p : Int) - a') = ((b' - 1 - (p - a') : Nat) : Int) := by omega
  have hK' := fun tl => hK tl c1 (b' - 1 - (p - a')) 1 E q1 (by omega) (by omega)
  rw [← e] at hK'
  (conv => whnf); repeat' (first | exact hK' _ | ((with_reducible first | apply kN | apply kW | apply kX | apply kG | apply kQ); (· exact sd); conv => whnf) | (refine pcase.mk ?_ ?_ <;> intro hc <;> (try rw [List.length_nil] at hc) <;> first | (exfalso; omega) | (exact absurd rfl hc) | conv => whnf) | (refine bcase_intro ?_ ?_ <;> intro hc <;> conv => whnf))

/-- choosing -/
theorem pktop6 {tl : Env} (hs : len < 2^61) {a' b' c : Nat} {limit : Int} {wb wp : Bool} {D : Array Int} {K : Env → Sto → Prop} {Q : AExit → Env → Sto → Prop} (hab : a' + 12 < b') (hb : b' ≤ len) (hD : D.size = len)
    (hK : ∀ tl c (p : Nat) h, a' ≤ p → p < b' → K ([(0, .own 0 g 0 len), (1, .int .i64 a'), (2, .int .i64 b'), (3, .int .i64 limit), (8, .bool wb), (9, .bool wp), (10, .int .i64 (b' - a' : Nat)), (11, .int .i64 p), (12, .int .i64 h)] ++ tl) ⟨[.arr g 1 nn cl (vs (.int .i64) D.toList)], c⟩) :
    vC (findFn tab) (pksL1 (pksR1 pkt1)) ([(0, .own 0 g 0 len), (1, .int .i64 a'), (2, .int .i64 b'), (3, .int .i64 limit), (8, .bool wb), (9, .bool wp), (10, .int .i64 (b' - a' : Nat))] ++ tl) ⟨[.arr g 1 nn cl (vs (.int .i64) D.toList)], c⟩ (vSeq K Q) := by
  (conv => whnf); repeat' (first  | ((with_reducible first | apply kN | apply kW | apply kX | apply kG | apply kQ); (· exact sd); conv => whnf) | (refine pcase.mk ?_ ?_ <;> intro hc <;> (try rw [List.length_nil] at hc) <;> first | (exfalso; omega) | (exact absurd rfl hc) | conv => whnf) | (refine bcase_intro ?_ ?_ <;> intro hc <;> conv => whnf))
  refine (pkpiv hD hb hab hs).mono ?_
  rintro _ _ ⟨c1, p, h, ob, rfl, rfl, q1, q2⟩
  conv => whnf
  apply getK_intro rfl
  (conv => whnf); repeat' (first | exact hK _ _ _ _ q1 q2 | ((with_reducible first | apply kN | apply kW | apply kX | apply kG | apply kQ); (· exact sd); conv => whnf) | (refine pcase.mk ?_ ?_ <;> intro hc <;> (try rw [List.length_nil] at hc) <;> first | (exfalso; omega) | (exact absurd rfl hc) | conv => whnf) | (refine bcase_intro ?_ ?_ <;> intro hc <;> conv => whnf))

/-- breaking patterns -/
theorem pktop7 {tl : Env} (hs : len < 2^61) {a' b' c : Nat} {limit : Int} {wb wp : Bool} {D : Array Int} {K : Env → Sto → Prop} {Q : AExit → Env → Sto → Prop} (hab : a' + 12 < b') (hb : b' ≤ len) (hD : D.size = len) (hlim : 0 < limit)
    (hK : ∀ tl c wb limit (E : Array Int), 0 ≤ limit → limit < 2^62 → PermIn a' b' D E → K ([(0, .own 0 g 0 len), (1, .int .i64 a'), (2, .int .i64 b'), (3, .int .i64 limit), (8, .bool wb), (9, .bool wp), (10, .int .i64 (b' - a' : Nat))] ++ tl) ⟨[.arr g 1 nn cl (vs (.int .i64) E.toList)], c⟩) (hlim2 : limit < 2^62) :
    vC (findFn tab) (pksL1 pkt1) ([(0, .own 0 g 0 len), (1, .int .i64 a'), (2, .int .i64 b'), (3, .int .i64 limit), (8, .bool wb), (9, .bool wp), (10, .int .i64 (b' - a' : Nat))] ++ tl) ⟨[.arr g 1 nn cl (vs (.int .i64) D.toList)], c⟩ (vSeq K Q) := by
  cases wb with
  | true => (conv => whnf); repeat' (first | exact hK _ _ _ _ _ (by omega) (by omega) (permIn_refl _ _ _) | ((with_reducible first | apply kN | apply kW | apply kX | apply kG | apply kQ); (· exact sd); conv => whnf) | (refine pcase.mk ?_ ?_ <;> intro hc <;> (try rw [List.length_nil] at hc) <;> first | (exfalso; omega) | (exact absurd rfl hc) | conv => whnf) | (refine bcase_intro ?_ ?_ <;> intro hc <;> conv => whnf))
  | false =>
    (conv => whnf); repeat' (first  | ((with_reducible first | apply kN | apply kW | apply kX | apply kG | apply kQ); (· exact sd); conv => whnf) | (refine pcase.mk ?_ ?_ <;> intro hc <;> (try rw [List.length_nil] at hc) <;> first | (exfalso; omega) | (exact absurd rfl hc) | conv => whnf) | (refine bcase_intro ?_ ?_ <;> intro hc <;> conv => whnf))
    refine (pkbrk hD hb hab hs).mono ?_
    rintro _ _ ⟨c1, E, ob, rfl, rfl, q1⟩
    conv => whnf
    apply getK_intro rfl
    (conv => whnf); repeat' (first | exact hK _ _ _ _ _ (by omega) (by omega) q1 | ((with_reducible first | apply kN | apply kW | apply kX | apply kG | apply kQ); (· exact sd); conv => whnf) | (refine pcase.mk ?_ ?_ <;> intro hc <;> (try rw [List.length_nil] at hc) <;> first | (exfalso; omega) | (exact absurd rfl hc) | conv => whnf) | (refine bcase_intro ?_ ?_ <;> intro hc <;> conv => whnf))

/-- the length -/
theorem pktop8 {a' b' c : Nat} {limit : Int} {wb wp : Bool} {D : Array Int} {K : Env → Sto → Prop} {Q : AExit → Env → Sto → Prop} (hs : len < 2^61) (hab : a' ≤ b') (hb : b' ≤ len)
    (hK : ∀ tl, K ([(0, .own 0 g 0 len), (1, .int .i64 a'), (2, .int .i64 b'), (3, .int .i64 limit), (8, .bool wb), (9, .bool wp), (10, .int .i64 (b' - a' : Nat))] ++ tl) ⟨[.arr g 1 nn cl (vs (.int .i64) D.toList)], c⟩) :
    vC (findFn tab) (pksL1 (pkbl1 l133_0_b)) [(0, .own 0 g 0 len), (1, .int .i64 a'), (2, .int .i64 b'), (3, .int .i64 limit), (8, .bool wb), (9, .bool wp)] ⟨[.arr g 1 nn cl (vs (.int .i64) D.toList)], c⟩ (vSeq K Q) := by
  rw [show ((b' - a' : Nat) : Int) = (b' : Int) - a' by omega] at hK
  (conv => whnf); repeat' (first | exact hK [] | ((with_reducible first | apply kN | apply kW | apply kX | apply kG | apply kQ); (· exact sd); conv => whnf) | (refine pcase.mk ?_ ?_ <;> intro hc <;> (try rw [List.length_nil] at hc) <;> first | (exfalso; omega) | (exact absurd rfl hc) | conv => whnf) | (refine bcase_intro ?_ ?_ <;> intro hc <;> conv => whnf))

/-- short -/
theorem pktop9 {tl : Env} (hs : len < 2^61) {a' b' c : Nat} {limit : Int} {wb wp : Bool} {D : Array Int} {K : Env → Sto → Prop} {Q : AExit → Env → Sto → Prop} (hab : a' ≤ b') (hb : b' ≤ len) (hD : D.size = len)
    (hK : ∀ tl c, a' + 12 < b' → K ([(0, .own 0 g 0 len), (1, .int .i64 a'), (2, .int .i64 b'), (3, .int .i64 limit), (8, .bool wb), (9, .bool wp), (10, .int .i64 (b' - a' : Nat))] ++ tl) ⟨[.arr g 1 nn cl (vs (.int .i64) D.toList)], c⟩)
    (hQ : ∀ c (E : Array Int) env, PermIn a' b' D E → SortedIn ltI a' b' E → Q .ret env ⟨[.arr g 1 nn cl (vs (.int .i64) E.toList)], c⟩) :
    vC (findFn tab) (pksL1 (pksR1 (pkbl1 l133_0_b))) ([(0, .own 0 g 0 len), (1, .int .i64 a'), (2, .int .i64 b'), (3, .int .i64 limit), (8, .bool wb), (9, .bool wp), (10, .int .i64 (b' - a' : Nat))] ++ tl) ⟨[.arr g 1 nn cl (vs (.int .i64) D.toList)], c⟩ (vSeq K Q) := by
  (conv => whnf); repeat' (first | exact hK _ _ (by omega) | ((with_reducible first | apply kN | apply kW | apply kX | apply kG | apply kQ); (· exact sd); conv => whnf) | (refine pcase.mk ?_ ?_ <;> intro hc <;> (try rw [List.length_nil] at hc) <;> first | (exfalso; omega) | (exact absurd rfl hc) | conv => whnf) | (refine bcase_intro ?_ ?_ <;> intro hc <;> conv => whnf))
  refine (pkins hD hb hs (by omega)).mono ?_
  rintro _ _ ⟨c1, rfl, rfl⟩
  conv => whnf
  apply getK_intro rfl
  (conv => whnf); repeat' (first  | ((with_reducible first | apply kN | apply kW | apply kX | apply kG | apply kQ); (· exact sd); conv => whnf) | (refine pcase.mk ?_ ?_ <;> intro hc <;> (try rw [List.length_nil] at hc) <;> first | (exfalso; omega) | (exact absurd rfl hc) | conv => whnf) | (refine bcase_intro ?_ ?_ <;> intro hc <;> conv => whnf))
  obtain ⟨q1, q2⟩ := insertionSort_holds ltI_swo D a' b' hab (by omega)
  exact hQ _ _ _ q1 q2

/-- too many bad choices -/
theorem pktop10 {tl : Env} (hs : len < 2^61) {a' b' c : Nat} {limit : Int} {wb wp : Bool} {D : Array Int} {K : Env → Sto → Prop} {Q : AExit → Env → Sto → Prop} (hab : a' + 12 < b') (hb : b' ≤ len) (hD : D.size = len) (hlim : 0 ≤ limit)
    (hK : ∀ tl c, 0 < limit → K ([(0, .own 0 g 0 len), (1, .int .i64 a'), (2, .int .i64 b'), (3, .int .i64 limit), (8, .bool wb), (9, .bool wp), (10, .int .i64 (b' - a' : Nat))] ++ tl) ⟨[.arr g 1 nn cl (vs (.int .i64) D.toList)], c⟩)
    (hQ : ∀ c (E : Array Int) env, PermIn a' b' D E → SortedIn ltI a' b' E → Q .ret env ⟨[.arr g 1 nn cl (vs (.int .i64) E.toList)], c⟩) :
    vC (findFn tab) (pksL1 (pksR1 (pksR1 (pkbl1 l133_0_b)))) ([(0, .own 0 g 0 len), (1, .int .i64 a'), (2, .int .i64 b'), (3, .int .i64 limit), (8, .bool wb), (9, .bool wp), (10, .int .i64 (b' - a' : Nat))] ++ tl) ⟨[.arr g 1 nn cl (vs (.int .i64) D.toList)], c⟩ (vSeq K Q) := by
  (conv => whnf); repeat' (first | exact hK _ _ (by omega) | ((with_reducible first | apply kN | apply kW | apply kX | apply kG | apply kQ); (· exact sd); conv => whnf) | (refine pcase.mk ?_ ?_ <;> intro hc <;> (try rw [List.length_nil] at hc) <;> first | (exfalso; omega) | (exact absurd rfl hc) | conv => whnf) | (refine bcase_intro ?_ ?_ <;> intro hc <;> conv => whnf))
  refine (pkheap hD hb hs (by omega)).mono ?_
  rintro _ _ ⟨c1, rfl, rfl⟩
  conv => whnf
  apply getK_intro rfl
  (conv => whnf); repeat' (first  | ((with_reducible first | apply kN | apply kW | apply kX | apply kG | apply kQ); (· exact sd); conv => whnf) | (refine pcase.mk ?_ ?_ <;> intro hc <;> (try rw [List.length_nil] at hc) <;> first | (exfalso; omega) | (exact absurd rfl hc) | conv => whnf) | (refine bcase_intro ?_ ?_ <;> intro hc <;> conv => whnf))
  obtain ⟨q1, q2⟩ := heapSort_holds ltI_swo D a' b' (by omega) (by omega)
  exact hQ _ _ _ q1 q2

/-- a round -/
theorem pkround (hs : len < 2^61) (ih : ∀ x y, y - x < b - a → pkTop  g len nn cl x y) {a' b' c : Nat} {limit : Int} {wb wp : Bool} {D : Array Int} (hab : a' ≤ b') (hb : b' ≤ len) (hle : b' - a' ≤ b - a) (hlim : 0 ≤ limit) (hlim2 : limit < 2^62) (hD : D.size = len) (hB : Below ltI a' b' D)
    (hR : ∀ R, PermIn a' b' D R → SortedIn ltI a' b' R → PermIn a b d R ∧ SortedIn ltI a b R) :
    vC (findFn tab) (pkbl1 l133_0_b) [(0, .own 0 g 0 len), (1, .int .i64 a'), (2, .int .i64 b'), (3, .int .i64 limit), (8, .bool wb), (9, .bool wp)] ⟨[.arr g 1 nn cl (vs (.int .i64) D.toList)], c⟩ (pkEnd  g len nn cl a b d (b' - a')) := by
  have hret : ∀ c (E : Array Int) env, PermIn a b d E → SortedIn ltI a b E → pkEnd  g len nn cl a b d (b' - a') .ret env ⟨[.arr g 1 nn cl (vs (.int .i64) E.toList)], c⟩ := by
    intro c E env h1 h2
    unfold pkEnd
    conv => whnf
    apply getK_intro rfl
    exact ⟨_, E, rfl, rfl, h1, h2⟩
  refine vC_seq (a := pksL1 (pkbl1 l133_0_b)) (b := pksR1 (pkbl1 l133_0_b)) (pktop8 hs hab hb fun tl1 => ?_)
  refine vC_seq (a := pksL1 (pksR1 (pkbl1 l133_0_b))) (b := pksR1 (pksR1 (pkbl1 l133_0_b))) (pktop9 hs hab hb hD (fun tl2 c2 h12 => ?_) fun c E env h1 h2 => hret c E env (hR E h1 h2).1 (hR E h1 h2).2)
  refine vC_seq (a := pksL1 (pksR1 (pksR1 (pkbl1 l133_0_b)))) (b := pkt1) (pktop10 hs h12 hb hD hlim (fun tl3 c3 hl0 => ?_) fun c E env h1 h2 => hret c E env (hR E h1 h2).1 (hR E h1 h2).2)
  refine vC_seq (a := pksL1 pkt1) (b := pksR1 pkt1) (pktop7 hs h12 hb hD hl0 (fun tl4 c4 wb4 lim4 E4 hl4 hl42 p4 => ?_) hlim2)
  have hD4 : E4.size = len := by rw [p4.1, hD]
  refine vC_seq (a := pksL1 (pksR1 pkt1)) (b := pksR1 (pksR1 pkt1)) (pktop6 hs h12 hb hD4 fun tl5 c5 p h hp1 hp2 => ?_)
  refine vC_seq (a := pksL1 (pksR1 (pksR1 pkt1))) (b := pkt2) (pktop5 hs h12 hb hD4 hp1 hp2 fun tl6 c6 p6 h6 E6 q6 hp61 hp62 => ?_)
  have p6' := permIn_trans _ _ _ _ _ p4 q6
  have hD6 : E6.size = len := by rw [p6'.1, hD]
  have hB6 := hB.perm (by omega) p6'
  refine vC_seq (a := pksL1 pkt2) (b := pkt3) (pktop2 hs h12 hb hD6 hB6 (fun tl7 c7 E7 q7 => ?_) fun c E env h1 h2 => hret c E env (hR E (permIn_trans _ _ _ _ _ p6' h1) h2).1 (hR E (permIn_trans _ _ _ _ _ p6' h1) h2).2)
  have p7 := permIn_trans _ _ _ _ _ p6' q7
  have hD7 : E7.size = len := by rw [p7.1, hD]
  have hB7 := hB.perm (by omega) p7
  have hR7 : ∀ R, PermIn a' b' E7 R → SortedIn ltI a' b' R → PermIn a b d R ∧ SortedIn ltI a b R := fun R h1 h2 => hR R (permIn_trans _ _ _ _ _ p7 h1) h2
  refine vC_seq (a := pksL1 pkt3) (b := pkt4) (pktop3 hs h12 hb hD7 hB7 hp61 hp62 (fun tl8 => pktop4 hs ih h12 hb hle hl4 hl42 hD7 hB7 hR7 hp61 hp62) fun c' mid E m1 m2 hE hBE fin => ?_)
  unfold pkEnd
  conv => whnf
  exact again.mk ⟨_, by omega, mid, b', _, lim4, _, _, E, rfl, by omega, hb, by omega, hl4, hl42, hE, hBE, fun R h1 h2 => hR7 R (fin R h1 h2).1 (fin R h1 h2).2, rfl, rfl⟩

end

theorem pkpdq  {g len : Nat} {nn cl : Bool} (hs : len < 2^61) : ∀ n a b, b - a ≤ n → pkTop  g len nn cl a b := by
  intro n
  induction n using Nat.strongRecOn with
  | ind n IH =>
    intro a b hn
    have ih : ∀ x y, y - x < b - a → pkTop  g len nn cl x y := fun x y h => IH (y - x) (by omega) x y (Nat.le_refl _)
    clear IH hn
    intro c limit d hd hb hab hlim hlim2 hB
    refine calls1_of rfl rfl ?_
    (conv => whnf); repeat' (first  | ((with_reducible first | apply kN | apply kW | apply kX | apply kG | apply kQ); (· exact sd); conv => whnf) | (refine pcase.mk ?_ ?_ <;> intro hc <;> (try rw [List.length_nil] at hc) <;> first | (exfalso; omega) | (exact absurd rfl hc) | conv => whnf) | (refine bcase_intro ?_ ?_ <;> intro hc <;> conv => whnf))
    refine loop_inv (pkInv  g len nn cl a b d) ?_ _ _ _ ⟨a, b, _, limit, true, true, d, rfl, hab, hb, Nat.le_refl _, hlim, hlim2, hd, hB, fun R h1 h2 => ⟨h1, h2⟩, rfl, rfl⟩
    rintro _ _ _ ⟨a', b', c, limit, wb, wp, D, rfl, hab', hb', hle, hlim, hlim2, hD, hB', hR, rfl, rfl⟩
    refine ⟨rfl, ?_⟩
    exact pkround hs ih hab' hb' hle hlim hlim2 hD hB' hR

/-- a slice sorted whole -/
theorem pksortQ  {g len c : Nat} {nn cl : Bool} {L : List Int} (hl : L.length = len) (hs : len < 2^61) {limit : Int} (h0 : 0 ≤ limit) (h1 : limit < 2^62) :
    Calls1 (findFn tab) 133 [.own 0 g 0 len, .int .i64 0, .int .i64 len, .int .i64 limit] ⟨[.arr g 1 nn cl (vs (.int .i64) L)], c⟩ fun out s' => ∃ c' W, out = .ok (.tup []) ∧ s' = ⟨[.arr g 1 nn cl (vs (.int .i64) W)], c'⟩ ∧ W.Perm L ∧ W.Pairwise (fun x y => ltI y x = false) := by
  have := pkpdq  (g := g) (nn := nn) (cl := cl) hs len 0 len (by omega) c limit L.toArray (by simpa using hl) (Nat.le_refl _) (by omega) h0 h1 (Or.inl rfl)
  refine this.mono ?_
  rintro _ _ ⟨c', D, rfl, rfl, p1, p2⟩
  refine ⟨c', D.toList, rfl, rfl, perm_of hl p1, sorted_of (by rw [p1.1]; simpa using hl) p2⟩

end AI
end Go.Proofs.YtbkibamoigmboaaGreatDoor
