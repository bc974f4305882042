/- Valid values, exactly: the program's. The reference's bare values and strings. Valid values, exactly: the reference's. Numbers among values. -/
import Derived.Test.YtkknpgebiihkfaaGreatDoorMO
import Derived.Test.YtkknpgebiihkfaaGreatDoorMN
import Derived.Test.YtkknpgebiihkfaaGreatDoorFR1
import Derived.Test.YtkknpgebiihkfaaGreatDoorMV
import Derived.Test.YtkknpgebiihkfaaGreatDoorFR2
import Derived.Test.YtkknpgebiihkfaaGreatDoorMT
set_option linter.unusedVariables false
set_option maxRecDepth 4000
namespace Go.Proofs.YtkknpgebiihkfaaGreatDoor
namespace AI

theorem VB_k {g : GV} (h : VB g) : g.k ≤ 6 := by
  obtain ⟨_, h⟩ := h
  rcases h with ⟨h, _⟩ | ⟨h, _⟩ | ⟨h, _⟩ | ⟨h, _⟩ | ⟨h, _⟩ | ⟨h, _⟩ <;> omega
theorem VV_b {m : Nat} {g : GV} (h7 : g.k ≠ 7) (h8 : g.k ≠ 8) : VV m g ↔ VB g := by
  cases m with
  | zero => exact ⟨fun h => h.elim id fun h => absurd h.1 h7, .inl⟩
  | succ m => exact ⟨fun h => h.elim id fun h => h.elim (fun h => absurd h.1 h7) fun h => absurd h.1 h8, .inl⟩
theorem VV_7 {m : Nat} {g : GV} (hk : g.k = 7) : VV m g ↔ g.n = 0 ∧ g.d = 0 ∧ g.s = [] ∧ VPa g.l := by
  have hb : ¬ VB g := fun h => by have := VB_k h; omega
  cases m with
  | zero => exact ⟨fun h => h.elim (fun h => absurd h hb) fun h => h.2, fun h => .inr ⟨hk, h⟩⟩
  | succ m => exact ⟨fun h => h.elim (fun h => absurd h hb) fun h => h.elim (fun h => h.2) fun h => absurd h.1 (by omega), fun h => .inr (.inl ⟨hk, h⟩)⟩
/-- all are valid -/
def VLi (m : Nat) (l : List AV) : Prop := ∀ i (h : i < l.length), ∃ x : GV, l[i] = x.av ∧ VV m x
theorem VV_8 {m : Nat} {g : GV} (hk : g.k = 8) : VV (m + 1) g ↔ g.n = 0 ∧ g.d = 0 ∧ g.s = [] ∧ g.l.length ≤ 64 ∧ VLi m g.l := by
  have hb : ¬ VB g := fun h => by have := VB_k h; omega
  exact ⟨fun h => h.elim (fun h => absurd h hb) fun h => h.elim (fun h => absurd h.1 (by omega)) fun h => h.2, fun h => .inr (.inr ⟨hk, h⟩)⟩
theorem VV0_8 {g : GV} (hk : g.k = 8) : ¬ VV 0 g := fun h => h.elim (fun h => by have := VB_k h; omega) fun h => by have := h.1; omega

noncomputable instance (m : Nat) (g : GV) : Decidable (VV m g) := Classical.propDecidable _
noncomputable instance (l : List AV) : Decidable (VPa l) := Classical.propDecidable _
noncomputable instance (m : Nat) (l : List AV) : Decidable (VLi m l) := Classical.propDecidable _

theorem dec_iff {p q : Prop} [Decidable p] [Decidable q] (h : p ↔ q) : AV.bool (decide p) = AV.bool (decide q) := by
  by_cases hp : p
  · rw [decide_eq_true hp, decide_eq_true (h.1 hp)]
  · rw [decide_eq_false hp, decide_eq_false (mt h.2 hp)]

set_option maxHeartbeats 1000000 in
theorem vbP {g : GV} (hg : g.ok) (h7 : g.k ≠ 7) (h8 : g.k ≠ 8) {n : Int} : PureP (findFn tab) 127 [g.av, .int .i64 n] (· = .bool (decide (VB g))) := by
  obtain ⟨g1, g2, g3, g4, g5, g6, g7⟩ := hg
  unfold Ln at g4 g5
  refine pureP_of rfl rfl ?_
  (conv => whnf); repeat' (first | (refine callB (inP (n := g.n)) (fun hr => ?_) (fun hr => ?_) <;> conv => whnf) | (refine callB (fvP (n := g.n) (d := g.d)) (fun hr => ?_) (fun hr => ?_) <;> conv => whnf) | (refine callK_of (ixP (l := g.s)) ?_; rintro _ rfl; conv => whnf) | ((with_reducible first | apply kN | apply kW | apply kX | apply kG | apply kQ); (· exact sd); conv => whnf) | (refine pcase.mk ?_ ?_ <;> intro hc <;> (try rw [List.length_nil] at hc) <;> first | (exfalso; omega) | (exact absurd rfl hc) | conv => whnf) | (refine bcase_intro ?_ ?_ <;> intro hc <;> conv => whnf))
  all_goals clear g7 g6
  all_goals first
    | exact bool_f fun h => by have := h.1; omega
    | (refine bool_t ?_; unfold VB okS; rw [← firstBad_iff]; first | (simp_all; done) | (simp_all; omega))
    | (refine bool_f ?_; unfold VB okS; rw [← firstBad_iff]; first | (simp_all; done) | (simp_all; omega))
    | trace_state

theorem VPa_take {l : List AV} {i : Nat} (hi : i < l.length) {x : GV} (e : l[i] = x.av) (hk : x.k = 5 + (i : Int) % 2) (hv : VB x) (h : ∀ j (hj : j < l.length), j < i → ∃ x : GV, l[j] = x.av ∧ x.k = 5 + (j : Int) % 2 ∧ VB x) :
    ∀ j (hj : j < l.length), j < i + 1 → ∃ x : GV, l[j] = x.av ∧ x.k = 5 + (j : Int) % 2 ∧ VB x := by
  intro j hj hji
  rcases Nat.lt_or_ge j i with h1 | h1
  · exact h j hj h1
  · obtain rfl : j = i := by omega
    exact ⟨x, e, hk, hv⟩

set_option maxHeartbeats 1000000 in
theorem pathP {l : List AV} {nn : Bool} (hl : l.length < 2^63) (h : ∀ x ∈ l, Like Tryz.prog 43 x) : PureP (findFn tab) 147 [.sl nn l] (· = .bool (decide (VPa l))) := by
  have htm : (l.length : Int).tmod 2 = (l.length : Int) % 2 := Int.tmod_eq_emod_of_nonneg (by omega)
  by_cases hlen : l.length % 2 = 1 ∧ l.length ≤ 25
  · obtain ⟨hl1, hl2⟩ := hlen
    refine pureP_of rfl rfl ?_
    (conv => whnf); repeat' (first  | ((with_reducible first | apply kN | apply kW | apply kX | apply kG | apply kQ); (· exact sd); conv => whnf) | (refine pcase.mk ?_ ?_ <;> intro hc <;> (try rw [List.length_nil] at hc) <;> first | (exfalso; omega) | (exact absurd rfl hc) | conv => whnf) | (refine bcase_intro ?_ ?_ <;> intro hc <;> conv => whnf))
    refine loop_inv (fun m env s => ∃ i c : Nat, m = l.length - i ∧ i ≤ l.length ∧ (∀ j (hj : j < l.length), j < i → ∃ x : GV, l[j] = x.av ∧ x.k = 5 + (j : Int) % 2 ∧ VB x) ∧ env = [(15, .sl nn l), (16, .int .i64 l.length), (17, .int .i64 i)] ∧ s = ⟨[], c⟩) ?_ _ _ _ ⟨0, _, rfl, by omega, fun j _ hj => absurd hj (by omega), rfl, rfl⟩
    rintro _ _ _ ⟨i, c, rfl, hi, hx, rfl, rfl⟩
    refine ⟨rfl, ?_⟩
    by_cases hlt : i < l.length
    · obtain ⟨gx, hgx⟩ := like_at h i
      obtain ⟨hn, he, hok⟩ := hgx hlt
      have hno : ¬ (gx.k = 5 + (i : Int) % 2 ∧ VB gx) → ¬ VPa l := fun hh hv => by
        obtain ⟨x, e, hx2⟩ := hv.2.2 i hlt
        rw [he] at e
        rw [GV.av_inj e] at hh
        exact hh hx2
      have h2 : (i : Int).tmod 2 = (i : Int) % 2 := Int.tmod_eq_emod_of_nonneg (by omega)
      have hnth : nth [AV.int .i64 5, AV.int .i64 6] (Int.toNat ((i : Int).tmod 2)) = some (.int .i64 (5 + (i : Int) % 2)) := by
        rw [h2]
        rcases Nat.mod_two_eq_zero_or_one i with hm | hm
        · rw [show (i : Int) % 2 = 0 by omega]; rfl
        · rw [show (i : Int) % 2 = 1 by omega]; rfl
      (conv => whnf); repeat' (first | (apply nthK_intro; (· first | exact hn | exact hnth); conv => whnf) | (refine callB (vbP (g := gx) hok (by omega) (by omega) (n := 0)) (fun hr => ?_) (fun hr => ?_) <;> conv => whnf) | ((with_reducible first | apply kN | apply kW | apply kX | apply kG | apply kQ); (· exact sd); conv => whnf) | (refine pcase.mk ?_ ?_ <;> intro hc <;> (try rw [List.length_nil] at hc) <;> first | (exfalso; omega) | (exact absurd rfl hc) | conv => whnf) | (refine bcase_intro ?_ ?_ <;> intro hc <;> conv => whnf))
      all_goals first
        | exact again.mk ⟨_, by omega, i + 1, _, rfl, by omega, VPa_take hlt he (by omega) hr hx, rfl, rfl⟩
        | exact bool_f (hno fun hh => by have := hh.1; omega)
        | exact bool_f (hno fun hh => hr hh.2)
        | trace_state
    · rw [show i = l.length by omega] at hx
      (conv => whnf); repeat' (first  | ((with_reducible first | apply kN | apply kW | apply kX | apply kG | apply kQ); (· exact sd); conv => whnf) | (refine pcase.mk ?_ ?_ <;> intro hc <;> (try rw [List.length_nil] at hc) <;> first | (exfalso; omega) | (exact absurd rfl hc) | conv => whnf) | (refine bcase_intro ?_ ?_ <;> intro hc <;> conv => whnf))
      exact bool_t ⟨hl1, hl2, fun j hj => hx j hj hj⟩
  · have hno : ¬ VPa l := fun hv => hlen ⟨hv.1, hv.2.1⟩
    refine pureP_of rfl rfl ?_
    (conv => whnf); repeat' (first  | ((with_reducible first | apply kN | apply kW | apply kX | apply kG | apply kQ); (· exact sd); conv => whnf) | (refine pcase.mk ?_ ?_ <;> intro hc <;> (try rw [List.length_nil] at hc) <;> first | (exfalso; omega) | (exact absurd rfl hc) | conv => whnf) | (refine bcase_intro ?_ ?_ <;> intro hc <;> conv => whnf))
    all_goals first | exact bool_f hno | trace_state

theorem v7 {g : GV} (hg : g.ok) (hk : g.k = 7) {n : Int} : PureP (findFn tab) 127 [g.av, .int .i64 n] (· = .bool (decide (g.n = 0 ∧ g.d = 0 ∧ g.s = [] ∧ VPa g.l))) := by
  obtain ⟨g1, g2, g3, g4, g5, g6, g7⟩ := hg
  unfold Ln at g4 g5
  refine pureP_of rfl rfl ?_
  (conv => whnf); repeat' (first | (refine callB (pathP (l := g.l) (nn := g.nn) g5 g7) (fun hr => ?_) (fun hr => ?_) <;> conv => whnf) | ((with_reducible first | apply kN | apply kW | apply kX | apply kG | apply kQ); (· exact sd); conv => whnf) | (refine pcase.mk ?_ ?_ <;> intro hc <;> (try rw [List.length_nil] at hc) <;> first | (exfalso; omega) | (exact absurd rfl hc) | conv => whnf) | (refine bcase_intro ?_ ?_ <;> intro hc <;> conv => whnf))
  all_goals first
    | exact bool_t ⟨by omega, by omega, by assumption, hr⟩
    | exact bool_f fun h => hr h.2.2.2
    | exact bool_f fun h => by have := h.1; omega
    | exact bool_f fun h => by have := h.2.1; omega
    | exact bool_f fun h => absurd h.2.2.1 (by assumption)
    | trace_state

theorem VL_take {m : Nat} {l : List AV} {i : Nat} (hi : i < l.length) {x : GV} (e : l[i] = x.av) (hv : VV m x) (h : ∀ j (hj : j < l.length), j < i → ∃ x : GV, l[j] = x.av ∧ VV m x) :
    ∀ j (hj : j < l.length), j < i + 1 → ∃ x : GV, l[j] = x.av ∧ VV m x := by
  intro j hj hji
  rcases Nat.lt_or_ge j i with h1 | h1
  · exact h j hj h1
  · obtain rfl : j = i := by omega
    exact ⟨x, e, hv⟩

set_option maxHeartbeats 1000000 in
theorem v8 {g : GV} (hg : g.ok) (hk : g.k = 8) {z : Int} (hz : 0 ≤ z ∧ z < 8) {m : Nat} (ih : ∀ {x : GV}, x.ok → PureP (findFn tab) 127 [x.av, .int .i64 (z + 1)] (· = .bool (decide (VV m x)))) :
    PureP (findFn tab) 127 [g.av, .int .i64 z] (· = .bool (decide (g.n = 0 ∧ g.d = 0 ∧ g.s = [] ∧ g.l.length ≤ 64 ∧ VLi m g.l))) := by
  obtain ⟨g1, g2, g3, g4, g5, g6, g7⟩ := hg
  unfold Ln at g4 g5
  refine pureP_of rfl rfl ?_
  (conv => whnf); repeat' (first  | ((with_reducible first | apply kN | apply kW | apply kX | apply kG | apply kQ); (· exact sd); conv => whnf) | (refine pcase.mk ?_ ?_ <;> intro hc <;> (try rw [List.length_nil] at hc) <;> first | (exfalso; omega) | (exact absurd rfl hc) | conv => whnf) | (refine bcase_intro ?_ ?_ <;> intro hc <;> conv => whnf))
  all_goals first
    | exact bool_f fun h => by have := h.1; omega
    | exact bool_f fun h => by have := h.2.1; omega
    | exact bool_f fun h => by have := h.2.2.2.1; omega
    | exact bool_f fun h => absurd h.2.2.1 (by assumption)
    | skip
  have hs : g.s = [] := by assumption
  have hn0 : g.n = 0 := by omega
  have hd0 : g.d = 0 := by omega
  have hl0 : g.l.length ≤ 64 := by omega
  refine loop_inv (fun mm env s => ∃ i c : Nat, mm = g.l.length - i ∧ i ≤ g.l.length ∧ (∀ j (hj : j < g.l.length), j < i → ∃ x : GV, g.l[j] = x.av ∧ VV m x) ∧ env = [(1, .int .i64 z), (120, .sl g.nn g.l), (121, .int .i64 g.l.length), (122, .int .i64 i)] ∧ s = ⟨[.arr 0 5 true true [g.av]], c⟩) ?_ _ _ _ ⟨0, _, rfl, by omega, fun j _ hj => absurd hj (by omega), rfl, rfl⟩
  rintro _ _ _ ⟨i, c, rfl, hi, hx, rfl, rfl⟩
  refine ⟨rfl, ?_⟩
  by_cases hlt : i < g.l.length
  · obtain ⟨gx, hgx⟩ := like_at g7 i
    obtain ⟨hn, he, hok⟩ := hgx hlt
    (conv => whnf); repeat' (first | (apply nthK_intro; (· exact hn); conv => whnf) | (refine callB (ih hok) (fun hr => ?_) (fun hr => ?_) <;> conv => whnf) | ((with_reducible first | apply kN | apply kW | apply kX | apply kG | apply kQ); (· exact sd); conv => whnf) | (refine pcase.mk ?_ ?_ <;> intro hc <;> (try rw [List.length_nil] at hc) <;> first | (exfalso; omega) | (exact absurd rfl hc) | conv => whnf) | (refine bcase_intro ?_ ?_ <;> intro hc <;> conv => whnf))
    all_goals first
      | exact again.mk ⟨_, by omega, i + 1, _, rfl, by omega, VL_take hlt he hr hx, rfl, rfl⟩
      | exact bool_f fun hh => by
          obtain ⟨x, e, hv⟩ := hh.2.2.2.2 i hlt
          rw [he] at e
          rw [GV.av_inj e] at hr
          exact hr hv
      | trace_state
  · rw [show i = g.l.length by omega] at hx
    (conv => whnf); repeat' (first  | ((with_reducible first | apply kN | apply kW | apply kX | apply kG | apply kQ); (· exact sd); conv => whnf) | (refine pcase.mk ?_ ?_ <;> intro hc <;> (try rw [List.length_nil] at hc) <;> first | (exfalso; omega) | (exact absurd rfl hc) | conv => whnf) | (refine bcase_intro ?_ ?_ <;> intro hc <;> conv => whnf))
    exact bool_t ⟨hn0, hd0, hs, hl0, fun j hj => hx j hj hj⟩

theorem v8no {g : GV} (hg : g.ok) (hk : g.k = 8) : PureP (findFn tab) 127 [g.av, .int .i64 8] (· = .bool false) := by
  obtain ⟨g1, g2, g3, g4, g5, g6, g7⟩ := hg
  unfold Ln at g4 g5
  refine pureP_of rfl rfl ?_
  (conv => whnf); repeat' (first  | ((with_reducible first | apply kN | apply kW | apply kX | apply kG | apply kQ); (· exact sd); conv => whnf) | (refine pcase.mk ?_ ?_ <;> intro hc <;> (try rw [List.length_nil] at hc) <;> first | (exfalso; omega) | (exact absurd rfl hc) | conv => whnf) | (refine bcase_intro ?_ ?_ <;> intro hc <;> conv => whnf))
  all_goals rfl

theorem validP : ∀ (m : Nat), m ≤ 8 → ∀ {g : GV}, g.ok → PureP (findFn tab) 127 [g.av, .int .i64 (8 - (m : Int))] (· = .bool (decide (VV m g))) := by
  intro m
  induction m with
  | zero =>
    intro _ g hg
    by_cases h7 : g.k = 7
    · rw [show AV.bool (decide (VV 0 g)) = _ from dec_iff (VV_7 h7)]
      exact v7 hg h7
    by_cases h8 : g.k = 8
    · rw [decide_eq_false (VV0_8 h8)]
      exact v8no hg h8
    rw [show AV.bool (decide (VV 0 g)) = AV.bool (decide (VB g)) from dec_iff (VV_b h7 h8)]
    exact vbP hg h7 h8
  | succ m ih =>
    intro hm g hg
    by_cases h7 : g.k = 7
    · rw [show AV.bool (decide (VV (m + 1) g)) = _ from dec_iff (VV_7 h7)]
      exact v7 hg h7
    by_cases h8 : g.k = 8
    · rw [show AV.bool (decide (VV (m + 1) g)) = _ from dec_iff (VV_8 h8)]
      exact v8 hg h8 (by omega) fun {x} hx => by
        rw [show (8 - ((m + 1 : Nat) : Int)) + 1 = 8 - (m : Int) by omega]
        exact ih (by omega) hx
    rw [show AV.bool (decide (VV (m + 1) g)) = AV.bool (decide (VB g)) from dec_iff (VV_b h7 h8)]
    exact vbP hg h7 h8

/-- value.Valid, exactly -/
theorem ValidP {g : GV} (hg : g.ok) : PureP (findFn tab) 99 [g.av] (· = .bool (decide (VV 8 g))) := by
  have h := validP 8 (by omega) hg
  rw [show (8 - ((8 : Nat) : Int)) = 0 by omega] at h
  refine pureP_of rfl rfl ?_
  (conv => whnf); repeat' (first | (refine callB h (fun hr => ?_) (fun hr => ?_) <;> conv => whnf) | ((with_reducible first | apply kN | apply kW | apply kX | apply kG | apply kQ); (· exact sd); conv => whnf) | (refine pcase.mk ?_ ?_ <;> intro hc <;> (try rw [List.length_nil] at hc) <;> first | (exfalso; omega) | (exact absurd rfl hc) | conv => whnf) | (refine bcase_intro ?_ ?_ <;> intro hc <;> conv => whnf))
  all_goals first | exact bool_t hr | exact bool_f hr

end AI
end Go.Proofs.YtkknpgebiihkfaaGreatDoor
set_option linter.unusedVariables false
namespace Go.Proofs.YtkknpgebiihkfaaGreatDoor
namespace AI

def bareP (v : GV) (n d s l : Bool) : Prop := (n = true ∨ v.n = 0) ∧ (d = true ∨ v.d = 0) ∧ (s = true ∨ v.s = []) ∧ (l = true ∨ v.l.length = 0)
instance (v : GV) (n d s l : Bool) : Decidable (bareP v n d s l) := by unfold bareP; infer_instance

theorem bareE {v : GV} {n d s l : Bool} (hl : v.l.length < 2^63) : PureP (findFn tab) 133 [v.av, .bool n, .bool d, .bool s, .bool l] (· = .bool (decide (bareP v n d s l))) := by
  cases n <;> cases d <;> cases s <;> cases l
  all_goals
    refine pureP_of rfl rfl ?_
    (conv => whnf); repeat' (first | ((with_reducible first | apply kN | apply kW | apply kX | apply kG | apply kQ); (· exact sd); conv => whnf) | (refine pcase.mk ?_ ?_ <;> intro hc <;> (try rw [List.length_nil] at hc) <;> first | (exfalso; omega) | (exact absurd rfl hc) | conv => whnf)  | (refine bcase_intro ?_ ?_ <;> intro hc <;> conv => whnf))
  all_goals first
    | (refine bool_t ?_; unfold bareP; refine ⟨?_, ?_, ?_, ?_⟩ <;> first | (left; rfl) | (right; first | assumption | omega))
    | (refine bool_f ?_; unfold bareP; rintro ⟨h1, h2, h3, h4⟩; simp only [Bool.false_eq_true, false_or, true_or] at h1 h2 h3 h4; first | contradiction | omega)

theorem strE {s : List UInt8} (hl : s.length < 2^63) : PureP (findFn tab) 135 [.str s] (· = .bool (decide (okS s))) := by
  refine pureP_of rfl rfl ?_
  (conv => whnf); repeat' (first | ((with_reducible first | apply kN | apply kW | apply kX | apply kG | apply kQ); (· exact sd); conv => whnf) | (refine pcase.mk ?_ ?_ <;> intro hc <;> (try rw [List.length_nil] at hc) <;> first | (exfalso; omega) | (exact absurd rfl hc) | conv => whnf)  | (refine bcase_intro ?_ ?_ <;> intro hc <;> conv => whnf))
  refine loop_inv (fun m env s' => ∃ i : Nat, m = s.length - i ∧ env = [(0, .str s), (3, .int .i64 i)] ∧ s' = ⟨[], 0⟩ ∧ ∀ c ∈ s.take i, badB c = false) ?_ _ _ _ ⟨0, rfl, rfl, rfl, by simp⟩
  rintro _ _ _ ⟨i, rfl, rfl, rfl, hx⟩
  refine ⟨rfl, ?_⟩
  (conv => whnf); repeat' (first | ((with_reducible first | apply kN | apply kW | apply kX | apply kG | apply kQ); (· exact sd); conv => whnf) | (refine pcase.mk ?_ ?_ <;> intro hc <;> (try rw [List.length_nil] at hc) <;> first | (exfalso; omega) | (exact absurd rfl hc) | conv => whnf)  | (refine bcase_intro ?_ ?_ <;> intro hc <;> conv => whnf))
  all_goals first
    | exact again.mk ⟨_, by omega, i + 1, rfl, rfl, rfl, all_take_succ (by omega) hx (by unfold badB; simp; omega)⟩
    | (refine bool_f fun h => ?_; have := h.2 s[i] (List.getElem_mem (by omega)); unfold badB at this; simp at this; omega)
    | (rw [List.take_of_length_le (by omega)] at hx; exact bool_t ⟨by omega, hx⟩)
    | (refine bool_f fun h => ?_; have := h.1; omega)

end AI
end Go.Proofs.YtkknpgebiihkfaaGreatDoor
set_option linter.unusedVariables false
namespace Go.Proofs.YtkknpgebiihkfaaGreatDoor
namespace AI

set_option maxHeartbeats 1000000 in
theorem vbR {g : GV} (hg : g.ok) (h7 : g.k ≠ 7) (h8 : g.k ≠ 8) {n : Int} : PureP (findFn tab) 114 [g.av, .int .i64 n] (· = .bool (decide (VB g))) := by
  obtain ⟨g1, g2, g3, g4, g5, g6, g7⟩ := hg
  unfold Ln at g4 g5
  refine pureP_of rfl rfl ?_
  (conv => whnf); repeat' (first | (refine callB (bareE (v := g) g5) (fun hb => ?_) (fun hb => ?_) <;> conv => whnf) | (refine callB (inP2 (n := g.n)) (fun hr => ?_) (fun hr => ?_) <;> conv => whnf) | (refine callB (fvR (n := g.n) (d := g.d)) (fun hr => ?_) (fun hr => ?_) <;> conv => whnf) | (refine callB (strE (s := g.s) g4) (fun hr => ?_) (fun hr => ?_) <;> conv => whnf) | ((with_reducible first | apply kN | apply kW | apply kX | apply kG | apply kQ); (· exact sd); conv => whnf) | (refine pcase.mk ?_ ?_ <;> intro hc <;> (try rw [List.length_nil] at hc) <;> first | (exfalso; omega) | (exact absurd rfl hc) | conv => whnf) | (refine bcase_intro ?_ ?_ <;> intro hc <;> conv => whnf))
  all_goals clear g7 g6
  all_goals try unfold bareP at hb
  all_goals try simp only [Bool.false_eq_true, false_or, true_or] at hb
  all_goals first
    | (refine bool_t ?_; unfold VB; first | (simp_all; done) | (simp_all; omega))
    | (refine bool_f fun h => hb ?_; obtain ⟨h0, h⟩ := h; rcases h with h | h | h | h | h | h <;> first | (exfalso; omega) | (simp_all; done) | (simp_all; omega) | (refine ⟨?_, ?_, ?_, ?_⟩ <;> first | omega | simp_all))
    | (refine bool_f ?_; unfold VB; first | (simp_all; done) | (simp_all; omega))
    | trace_state

set_option maxHeartbeats 1000000 in
theorem pathRf {l : List AV} {nn : Bool} (hl : l.length < 2^63) (h : ∀ x ∈ l, Like Tryz.prog 43 x) : PureP (findFn tab) 136 [.sl nn l] (· = .bool (decide (VPa l))) := by
  have htm : (l.length : Int).tmod 2 = (l.length : Int) % 2 := Int.tmod_eq_emod_of_nonneg (by omega)
  by_cases hlen : l.length % 2 = 1 ∧ l.length ≤ 25
  · obtain ⟨hl1, hl2⟩ := hlen
    refine pureP_of rfl rfl ?_
    (conv => whnf); repeat' (first  | ((with_reducible first | apply kN | apply kW | apply kX | apply kG | apply kQ); (· exact sd); conv => whnf) | (refine pcase.mk ?_ ?_ <;> intro hc <;> (try rw [List.length_nil] at hc) <;> first | (exfalso; omega) | (exact absurd rfl hc) | conv => whnf) | (refine bcase_intro ?_ ?_ <;> intro hc <;> conv => whnf))
    refine loop_inv (fun m env s => ∃ i : Nat, m = l.length - i ∧ i ≤ l.length ∧ (∀ j (hj : j < l.length), j < i → ∃ x : GV, l[j] = x.av ∧ x.k = 5 + (j : Int) % 2 ∧ VB x) ∧ env = [(0, .sl nn l), (3, .int .i64 i)] ∧ s = ⟨[], 0⟩) ?_ _ _ _ ⟨0, rfl, by omega, fun j _ hj => absurd hj (by omega), rfl, rfl⟩
    rintro _ _ _ ⟨i, rfl, hi, hx, rfl, rfl⟩
    refine ⟨rfl, ?_⟩
    by_cases hlt : i < l.length
    · obtain ⟨gx, hgx⟩ := like_at h i
      obtain ⟨hn, he, hok⟩ := hgx hlt
      have hno : ¬ (gx.k = 5 + (i : Int) % 2 ∧ VB gx) → ¬ VPa l := fun hh hv => by
        obtain ⟨x, e, hx2⟩ := hv.2.2 i hlt
        rw [he] at e
        rw [GV.av_inj e] at hh
        exact hh hx2
      have h2 : (i : Int).tmod 2 = (i : Int) % 2 := Int.tmod_eq_emod_of_nonneg (by omega)
      (conv => whnf); repeat' (first | (apply nthK_intro; (· exact hn); conv => whnf) | (refine callB (vbR (g := gx) hok (by omega) (by omega) (n := 0)) (fun hr => ?_) (fun hr => ?_) <;> conv => whnf) | ((with_reducible first | apply kN | apply kW | apply kX | apply kG | apply kQ); (· exact sd); conv => whnf) | (refine pcase.mk ?_ ?_ <;> intro hc <;> (try rw [List.length_nil] at hc) <;> first | (exfalso; omega) | (exact absurd rfl hc) | conv => whnf) | (refine bcase_intro ?_ ?_ <;> intro hc <;> conv => whnf))
      all_goals first
        | exact again.mk ⟨_, by omega, i + 1, rfl, by omega, VPa_take hlt he (by omega) hr hx, rfl, rfl⟩
        | exact bool_f (hno fun hh => by have := hh.1; omega)
        | exact bool_f (hno fun hh => hr hh.2)
        | trace_state
    · rw [show i = l.length by omega] at hx
      (conv => whnf); repeat' (first  | ((with_reducible first | apply kN | apply kW | apply kX | apply kG | apply kQ); (· exact sd); conv => whnf) | (refine pcase.mk ?_ ?_ <;> intro hc <;> (try rw [List.length_nil] at hc) <;> first | (exfalso; omega) | (exact absurd rfl hc) | conv => whnf) | (refine bcase_intro ?_ ?_ <;> intro hc <;> conv => whnf))
      exact bool_t ⟨hl1, hl2, fun j hj => hx j hj hj⟩
  · have hno : ¬ VPa l := fun hv => hlen ⟨hv.1, hv.2.1⟩
    refine pureP_of rfl rfl ?_
    (conv => whnf); repeat' (first  | ((with_reducible first | apply kN | apply kW | apply kX | apply kG | apply kQ); (· exact sd); conv => whnf) | (refine pcase.mk ?_ ?_ <;> intro hc <;> (try rw [List.length_nil] at hc) <;> first | (exfalso; omega) | (exact absurd rfl hc) | conv => whnf) | (refine bcase_intro ?_ ?_ <;> intro hc <;> conv => whnf))
    all_goals first | exact bool_f hno | (exfalso; omega) | trace_state

theorem v7R {g : GV} (hg : g.ok) (hk : g.k = 7) {n : Int} : PureP (findFn tab) 114 [g.av, .int .i64 n] (· = .bool (decide (g.n = 0 ∧ g.d = 0 ∧ g.s = [] ∧ VPa g.l))) := by
  obtain ⟨g1, g2, g3, g4, g5, g6, g7⟩ := hg
  unfold Ln at g4 g5
  refine pureP_of rfl rfl ?_
  (conv => whnf); repeat' (first | (refine callB (bareE (v := g) g5) (fun hb => ?_) (fun hb => ?_) <;> conv => whnf) | (refine callB (pathRf (l := g.l) (nn := g.nn) g5 g7) (fun hr => ?_) (fun hr => ?_) <;> conv => whnf) | ((with_reducible first | apply kN | apply kW | apply kX | apply kG | apply kQ); (· exact sd); conv => whnf) | (refine pcase.mk ?_ ?_ <;> intro hc <;> (try rw [List.length_nil] at hc) <;> first | (exfalso; omega) | (exact absurd rfl hc) | conv => whnf) | (refine bcase_intro ?_ ?_ <;> intro hc <;> conv => whnf))
  all_goals try unfold bareP at hb
  all_goals try simp only [Bool.false_eq_true, false_or, true_or] at hb
  all_goals first
    | exact bool_t ⟨hb.1, hb.2.1, hb.2.2.1, hr⟩
    | exact bool_t ⟨hb.1, hb.2.1, hb.2.2, hr⟩
    | exact bool_f fun h => hr h.2.2.2
    | exact bool_f fun h => hb ⟨h.1, h.2.1, h.2.2.1, trivial⟩
    | exact bool_f fun h => hb ⟨h.1, h.2.1, h.2.2.1⟩
    | trace_state

set_option maxHeartbeats 1000000 in
theorem listRf {g : GV} (hg : g.ok) {z : Int} (hz : 1 ≤ z ∧ z ≤ 8) {m : Nat} (ih : ∀ {x : GV}, x.ok → PureP (findFn tab) 114 [x.av, .int .i64 (z - 1)] (· = .bool (decide (VV m x)))) :
    PureP (findFn tab) 137 [.sl g.nn g.l, .int .i64 z] (· = .bool (decide (g.l.length ≤ 64 ∧ VLi m g.l))) := by
  obtain ⟨g1, g2, g3, g4, g5, g6, g7⟩ := hg
  unfold Ln at g4 g5
  refine pureP_of rfl rfl ?_
  (conv => whnf); repeat' (first  | ((with_reducible first | apply kN | apply kW | apply kX | apply kG | apply kQ); (· exact sd); conv => whnf) | (refine pcase.mk ?_ ?_ <;> intro hc <;> (try rw [List.length_nil] at hc) <;> first | (exfalso; omega) | (exact absurd rfl hc) | conv => whnf) | (refine bcase_intro ?_ ?_ <;> intro hc <;> conv => whnf))
  all_goals first
    | exact bool_f fun h => by have := h.1; omega
    | (exfalso; omega)
    | skip
  have hl0 : g.l.length ≤ 64 := by omega
  refine loop_inv (fun mm env s => ∃ i : Nat, mm = g.l.length - i ∧ i ≤ g.l.length ∧ (∀ j (hj : j < g.l.length), j < i → ∃ x : GV, g.l[j] = x.av ∧ VV m x) ∧ env = [(0, .sl g.nn g.l), (1, .int .i64 z), (5, .int .i64 i)] ∧ s = ⟨[], 0⟩) ?_ _ _ _ ⟨0, rfl, by omega, fun j _ hj => absurd hj (by omega), rfl, rfl⟩
  rintro _ _ _ ⟨i, rfl, hi, hx, rfl, rfl⟩
  refine ⟨rfl, ?_⟩
  by_cases hlt : i < g.l.length
  · obtain ⟨gx, hgx⟩ := like_at g7 i
    obtain ⟨hn, he, hok⟩ := hgx hlt
    (conv => whnf); repeat' (first | (apply nthK_intro; (· exact hn); conv => whnf) | (refine callB (ih hok) (fun hr => ?_) (fun hr => ?_) <;> conv => whnf) | ((with_reducible first | apply kN | apply kW | apply kX | apply kG | apply kQ); (· exact sd); conv => whnf) | (refine pcase.mk ?_ ?_ <;> intro hc <;> (try rw [List.length_nil] at hc) <;> first | (exfalso; omega) | (exact absurd rfl hc) | conv => whnf) | (refine bcase_intro ?_ ?_ <;> intro hc <;> conv => whnf))
    all_goals first
      | exact again.mk ⟨_, by omega, i + 1, rfl, by omega, VL_take hlt he hr hx, rfl, rfl⟩
      | exact bool_f fun hh => by
          obtain ⟨x, e, hv⟩ := hh.2 i hlt
          rw [he] at e
          rw [GV.av_inj e] at hr
          exact hr hv
      | trace_state
  · rw [show i = g.l.length by omega] at hx
    (conv => whnf); repeat' (first  | ((with_reducible first | apply kN | apply kW | apply kX | apply kG | apply kQ); (· exact sd); conv => whnf) | (refine pcase.mk ?_ ?_ <;> intro hc <;> (try rw [List.length_nil] at hc) <;> first | (exfalso; omega) | (exact absurd rfl hc) | conv => whnf) | (refine bcase_intro ?_ ?_ <;> intro hc <;> conv => whnf))
    exact bool_t ⟨hl0, fun j hj => hx j hj hj⟩

theorem v8R {g : GV} (hg : g.ok) (hk : g.k = 8) {z : Int} {p : Prop} [Decidable p] (hlist : PureP (findFn tab) 137 [.sl g.nn g.l, .int .i64 z] (· = .bool (decide p))) :
    PureP (findFn tab) 114 [g.av, .int .i64 z] (· = .bool (decide (g.n = 0 ∧ g.d = 0 ∧ g.s = [] ∧ p))) := by
  obtain ⟨g1, g2, g3, g4, g5, g6, g7⟩ := hg
  unfold Ln at g4 g5
  refine pureP_of rfl rfl ?_
  (conv => whnf); repeat' (first | (refine callB (bareE (v := g) g5) (fun hb => ?_) (fun hb => ?_) <;> conv => whnf) | (refine callB hlist (fun hr => ?_) (fun hr => ?_) <;> conv => whnf) | ((with_reducible first | apply kN | apply kW | apply kX | apply kG | apply kQ); (· exact sd); conv => whnf) | (refine pcase.mk ?_ ?_ <;> intro hc <;> (try rw [List.length_nil] at hc) <;> first | (exfalso; omega) | (exact absurd rfl hc) | conv => whnf) | (refine bcase_intro ?_ ?_ <;> intro hc <;> conv => whnf))
  all_goals try unfold bareP at hb
  all_goals try simp only [Bool.false_eq_true, false_or, true_or] at hb
  all_goals first
    | exact bool_t ⟨hb.1, hb.2.1, hb.2.2.1, hr⟩
    | exact bool_t ⟨hb.1, hb.2.1, hb.2.2, hr⟩
    | exact bool_f fun h => hr h.2.2.2
    | exact bool_f fun h => hb ⟨h.1, h.2.1, h.2.2.1, trivial⟩
    | exact bool_f fun h => hb ⟨h.1, h.2.1, h.2.2.1⟩
    | trace_state

theorem list0R {l : List AV} {nn : Bool} (hl : l.length < 2^63) : PureP (findFn tab) 137 [.sl nn l, .int .i64 0] (· = .bool (decide False)) := by
  refine pureP_of rfl rfl ?_
  (conv => whnf); repeat' (first  | ((with_reducible first | apply kN | apply kW | apply kX | apply kG | apply kQ); (· exact sd); conv => whnf) | (refine pcase.mk ?_ ?_ <;> intro hc <;> (try rw [List.length_nil] at hc) <;> first | (exfalso; omega) | (exact absurd rfl hc) | conv => whnf) | (refine bcase_intro ?_ ?_ <;> intro hc <;> conv => whnf))
  all_goals rfl

theorem validRf : ∀ (m : Nat), m ≤ 8 → ∀ {g : GV}, g.ok → PureP (findFn tab) 114 [g.av, .int .i64 (m : Int)] (· = .bool (decide (VV m g))) := by
  intro m
  induction m with
  | zero =>
    intro _ g hg
    by_cases h7 : g.k = 7
    · rw [show AV.bool (decide (VV 0 g)) = _ from dec_iff (VV_7 h7)]
      exact v7R hg h7
    by_cases h8 : g.k = 8
    · rw [show AV.bool (decide (VV 0 g)) = AV.bool (decide (g.n = 0 ∧ g.d = 0 ∧ g.s = [] ∧ False)) from dec_iff ⟨fun h => absurd h (VV0_8 h8), fun h => h.2.2.2.elim⟩]
      exact v8R hg h8 (list0R hg.2.2.2.2.1)
    rw [show AV.bool (decide (VV 0 g)) = AV.bool (decide (VB g)) from dec_iff (VV_b h7 h8)]
    exact vbR hg h7 h8
  | succ m ih =>
    intro hm g hg
    by_cases h7 : g.k = 7
    · rw [show AV.bool (decide (VV (m + 1) g)) = _ from dec_iff (VV_7 h7)]
      exact v7R hg h7
    by_cases h8 : g.k = 8
    · rw [show AV.bool (decide (VV (m + 1) g)) = _ from dec_iff (VV_8 h8)]
      exact v8R hg h8 (listRf hg (by omega) fun {x} hx => by
        rw [show ((m + 1 : Nat) : Int) - 1 = (m : Int) by omega]
        exact ih (by omega) hx)
    rw [show AV.bool (decide (VV (m + 1) g)) = AV.bool (decide (VB g)) from dec_iff (VV_b h7 h8)]
    exact vbR hg h7 h8

/-- the reference's Valid, exactly -/
theorem ValidR {g : GV} (hg : g.ok) : PureP (findFn tab) 80 [g.av] (· = .bool (decide (VV 8 g))) := by
  have h := validRf 8 (by omega) hg
  refine pureP_of rfl rfl ?_
  (conv => whnf); repeat' (first | (refine callB h (fun hr => ?_) (fun hr => ?_) <;> conv => whnf) | ((with_reducible first | apply kN | apply kW | apply kX | apply kG | apply kQ); (· exact sd); conv => whnf) | (refine pcase.mk ?_ ?_ <;> intro hc <;> (try rw [List.length_nil] at hc) <;> first | (exfalso; omega) | (exact absurd rfl hc) | conv => whnf) | (refine bcase_intro ?_ ?_ <;> intro hc <;> conv => whnf))
  all_goals first | exact bool_t hr | exact bool_f hr

end AI
end Go.Proofs.YtkknpgebiihkfaaGreatDoor
set_option linter.unusedVariables false
namespace Go.Proofs.YtkknpgebiihkfaaGreatDoor
namespace AI

/-- a valid number -/
def isNm (g : GV) : Prop := VV 8 g ∧ (g.k = 2 ∨ g.k = 3)
noncomputable instance (g : GV) : Decidable (isNm g) := by unfold isNm; infer_instance
/-- its denominator -/
def dn (g : GV) : Int := if g.k = 2 then 1 else g.d
theorem isNm_VF {g : GV} (h : isNm g) : VF g.n (dn g) := by
  obtain ⟨hv, hk⟩ := h
  rw [VV_b (by omega) (by omega)] at hv
  obtain ⟨h1, h2⟩ := hv
  unfold dn
  rcases hk with hk | hk
  · rw [if_pos hk]
    rcases h2 with h | h | h | h | h | h <;> first | (exfalso; omega) | exact ⟨by omega, by omega, h.2.1, by simp⟩
  · rw [if_neg (by omega)]
    rcases h2 with h | h | h | h | h | h <;> first | (exfalso; omega) | exact h.2.2.1
theorem vP {g : GV} (hg : g.ok) (h : VV 8 g) : PureP (findFn tab) 99 [g.av] (· = .bool true) := by have := ValidP hg; rwa [decide_eq_true h] at this
theorem vPn {g : GV} (hg : g.ok) (h : ¬ VV 8 g) : PureP (findFn tab) 99 [g.av] (· = .bool false) := by have := ValidP hg; rwa [decide_eq_false h] at this
theorem vR {g : GV} (hg : g.ok) (h : VV 8 g) : PureP (findFn tab) 80 [g.av] (· = .bool true) := by have := ValidR hg; rwa [decide_eq_true h] at this
theorem vRn {g : GV} (hg : g.ok) (h : ¬ VV 8 g) : PureP (findFn tab) 80 [g.av] (· = .bool false) := by have := ValidR hg; rwa [decide_eq_false h] at this

theorem nP1 {g : GV} (hg : g.ok) (h : isNm g) : PureP (findFn tab) 130 [g.av] (· = .tup [.agg [.int .i64 g.n, .int .i64 (dn g)], .bool true]) := by
  have hv := vP hg h.1
  rcases h.2 with hk | hk
  · have e : dn g = 1 := if_pos hk
    rw [e]
    refine pureP_of rfl rfl ?_
    (conv => whnf); repeat' (first | (refine callK_of hv ?_; rintro _ rfl; conv => whnf) | ((with_reducible first | apply kN | apply kW | apply kX | apply kG | apply kQ); (· exact sd); conv => whnf) | (refine pcase.mk ?_ ?_ <;> intro hc <;> (try rw [List.length_nil] at hc) <;> first | (exfalso; omega) | (exact absurd rfl hc) | conv => whnf) | (refine bcase_intro ?_ ?_ <;> intro hc <;> conv => whnf))
    all_goals first | rfl | (trace_state; fail "nP1")
  · have e : dn g = g.d := if_neg (by omega)
    rw [e]
    refine pureP_of rfl rfl ?_
    (conv => whnf); repeat' (first | (refine callK_of hv ?_; rintro _ rfl; conv => whnf) | ((with_reducible first | apply kN | apply kW | apply kX | apply kG | apply kQ); (· exact sd); conv => whnf) | (refine pcase.mk ?_ ?_ <;> intro hc <;> (try rw [List.length_nil] at hc) <;> first | (exfalso; omega) | (exact absurd rfl hc) | conv => whnf) | (refine bcase_intro ?_ ?_ <;> intro hc <;> conv => whnf))
    all_goals first | rfl | (trace_state; fail "nP1")
theorem nP0 {g : GV} (hg : g.ok) (h : ¬ isNm g) : PureP (findFn tab) 130 [g.av] (· = .tup [.agg [.int .i64 0, .int .i64 0], .bool false]) := by
  by_cases hk : g.k = 2 ∨ g.k = 3
  · have hv := vPn hg (fun hv => h ⟨hv, hk⟩)
    refine pureP_of rfl rfl ?_
    (conv => whnf); repeat' (first | (refine callK_of hv ?_; rintro _ rfl; conv => whnf) | ((with_reducible first | apply kN | apply kW | apply kX | apply kG | apply kQ); (· exact sd); conv => whnf) | (refine pcase.mk ?_ ?_ <;> intro hc <;> (try rw [List.length_nil] at hc) <;> first | (exfalso; omega) | (exact absurd rfl hc) | conv => whnf) | (refine bcase_intro ?_ ?_ <;> intro hc <;> conv => whnf))
    all_goals first | rfl | (trace_state; fail "nP0")
  · refine pureP_of rfl rfl ?_
    (conv => whnf); repeat' (first  | ((with_reducible first | apply kN | apply kW | apply kX | apply kG | apply kQ); (· exact sd); conv => whnf) | (refine pcase.mk ?_ ?_ <;> intro hc <;> (try rw [List.length_nil] at hc) <;> first | (exfalso; omega) | (exact absurd rfl hc) | conv => whnf) | (refine bcase_intro ?_ ?_ <;> intro hc <;> conv => whnf))
    all_goals first | rfl | (trace_state; fail "nP0")
theorem nR1 {g : GV} (hg : g.ok) (h : isNm g) : PureP (findFn tab) 85 [g.av] (· = .tup [.agg [.int .i64 g.n, .int .i64 (dn g)], .bool true]) := by
  have hv := vR hg h.1
  rcases h.2 with hk | hk
  · have e : dn g = 1 := if_pos hk
    rw [e]
    refine pureP_of rfl rfl ?_
    (conv => whnf); repeat' (first | (refine callK_of hv ?_; rintro _ rfl; conv => whnf) | ((with_reducible first | apply kN | apply kW | apply kX | apply kG | apply kQ); (· exact sd); conv => whnf) | (refine pcase.mk ?_ ?_ <;> intro hc <;> (try rw [List.length_nil] at hc) <;> first | (exfalso; omega) | (exact absurd rfl hc) | conv => whnf) | (refine bcase_intro ?_ ?_ <;> intro hc <;> conv => whnf))
    all_goals first | rfl | (trace_state; fail "nR1")
  · have e : dn g = g.d := if_neg (by omega)
    rw [e]
    refine pureP_of rfl rfl ?_
    (conv => whnf); repeat' (first | (refine callK_of hv ?_; rintro _ rfl; conv => whnf) | ((with_reducible first | apply kN | apply kW | apply kX | apply kG | apply kQ); (· exact sd); conv => whnf) | (refine pcase.mk ?_ ?_ <;> intro hc <;> (try rw [List.length_nil] at hc) <;> first | (exfalso; omega) | (exact absurd rfl hc) | conv => whnf) | (refine bcase_intro ?_ ?_ <;> intro hc <;> conv => whnf))
    all_goals first | rfl | (trace_state; fail "nR1")
theorem nR0 {g : GV} (hg : g.ok) (h : ¬ isNm g) : PureP (findFn tab) 85 [g.av] (· = .tup [.agg [.int .i64 0, .int .i64 0], .bool false]) := by
  by_cases hV : VV 8 g
  · have hv := vR hg hV
    have hk : ¬ (g.k = 2 ∨ g.k = 3) := fun hk => h ⟨hV, hk⟩
    refine pureP_of rfl rfl ?_
    (conv => whnf); repeat' (first | (refine callK_of hv ?_; rintro _ rfl; conv => whnf) | ((with_reducible first | apply kN | apply kW | apply kX | apply kG | apply kQ); (· exact sd); conv => whnf) | (refine pcase.mk ?_ ?_ <;> intro hc <;> (try rw [List.length_nil] at hc) <;> first | (exfalso; omega) | (exact absurd rfl hc) | conv => whnf) | (refine bcase_intro ?_ ?_ <;> intro hc <;> conv => whnf))
    all_goals first | rfl | (trace_state; fail "nR0")
  · have hv := vRn hg hV
    refine pureP_of rfl rfl ?_
    (conv => whnf); repeat' (first | (refine callK_of hv ?_; rintro _ rfl; conv => whnf) | ((with_reducible first | apply kN | apply kW | apply kX | apply kG | apply kQ); (· exact sd); conv => whnf) | (refine pcase.mk ?_ ?_ <;> intro hc <;> (try rw [List.length_nil] at hc) <;> first | (exfalso; omega) | (exact absurd rfl hc) | conv => whnf) | (refine bcase_intro ?_ ?_ <;> intro hc <;> conv => whnf))
    all_goals first | rfl | (trace_state; fail "nR0")

theorem VV_up : ∀ {m k : Nat} {g : GV}, m ≤ k → VV m g → VV k g
  | m, 0, g, h, hv => by obtain rfl : m = 0 := by omega
                         exact hv
  | m, k + 1, g, h, hv => by
    rcases Nat.lt_or_ge m (k + 1) with h1 | h1
    · exact VV_mono (VV_up (by omega) hv)
    · obtain rfl : m = k + 1 := by omega
      exact hv

theorem yesT : PureP (findFn tab) 81 [.bool true] (· = .int .i64 2) := ⟨_, ⟨20, by kernel_rfl⟩, rfl⟩
theorem yesF' : PureP (findFn tab) 81 [.bool false] (· = .int .i64 0) := ⟨_, ⟨20, by kernel_rfl⟩, rfl⟩
theorem kindR {a : GV} (h : VV 8 a) (h7 : a.k ≠ 7) (h8 : a.k ≠ 8) : (a.k = 4 → a.n = 0) ∧ (a.k ≠ 4 → a.s = []) := by
  rw [VV_b h7 h8] at h
  obtain ⟨_, h⟩ := h
  rcases h with h | h | h | h | h | h <;> exact ⟨fun hk => by first | omega | exact h.2.1, fun hk => by first | exact h.2.2.2 | exact h.2.2.2.2 | (exfalso; omega)⟩

end AI
end Go.Proofs.YtkknpgebiihkfaaGreatDoor
