/- Valid values, and values that are alike: plain. Valid fractions: the program's. Valid values, exactly: the program's. -/
import Derived.Test.YtbkibamoigmboaaGreatDoorMN
set_option linter.unusedVariables false
set_option maxRecDepth 4000
namespace Go.Proofs.YtbkibamoigmboaaGreatDoor
namespace AI

theorem frac_eq {a b c d : Nat} (hb : 0 < b) (hd : 0 < d) (h1 : Nat.gcd a b = 1) (h2 : Nat.gcd c d = 1) (h : a * d = c * b) : a = c ∧ b = d := by
  have e1 : b ∣ d := (Nat.Coprime.dvd_of_dvd_mul_left (k := b) (m := a) (n := d) (by rw [Nat.Coprime, Nat.gcd_comm]; exact h1) ⟨c, by rw [h, Nat.mul_comm]⟩)
  have e2 : d ∣ b := (Nat.Coprime.dvd_of_dvd_mul_left (k := d) (m := c) (n := b) (by rw [Nat.Coprime, Nat.gcd_comm]; exact h2) ⟨a, by rw [← h, Nat.mul_comm]⟩)
  have e3 := Nat.dvd_antisymm e1 e2
  subst e3
  exact ⟨Nat.eq_of_mul_eq_mul_right hb h, rfl⟩

/-- a valid fraction -/
def VF (n d : Int) : Prop := 1 ≤ d ∧ d ≤ 1000000000000000 ∧ inR n ∧ Nat.gcd n.natAbs d.natAbs = 1
instance (n d : Int) : Decidable (VF n d) := by unfold VF; infer_instance

/-- a valid value that has no others in it -/
def VB (g : GV) : Prop := g.l.length = 0 ∧ (g.k = 0 ∧ g.n = 0 ∧ g.d = 0 ∧ g.s = [] ∨ g.k = 1 ∧ (g.n = 0 ∨ g.n = 1) ∧ g.d = 0 ∧ g.s = [] ∨ g.k = 2 ∧ inR g.n ∧ g.d = 0 ∧ g.s = [] ∨
  g.k = 3 ∧ 2 ≤ g.d ∧ VF g.n g.d ∧ g.s = [] ∨ g.k = 4 ∧ g.n = 0 ∧ g.d = 0 ∧ okS g.s ∨ (g.k = 5 ∨ g.k = 6) ∧ 1 ≤ g.n ∧ g.n ≤ 1000000 ∧ g.d = 0 ∧ g.s = [])
instance (g : GV) : Decidable (VB g) := by unfold VB; infer_instance

/-- nodes and edges in turn -/
def VPa (l : List AV) : Prop := l.length % 2 = 1 ∧ l.length ≤ 25 ∧ ∀ i (h : i < l.length), ∃ x : GV, l[i] = x.av ∧ x.k = 5 + i % 2 ∧ VB x
/-- a valid value, inside of so many lists at most -/
def VV : Nat → GV → Prop
  | 0, g => VB g ∨ g.k = 7 ∧ g.n = 0 ∧ g.d = 0 ∧ g.s = [] ∧ VPa g.l
  | m + 1, g => VB g ∨ g.k = 7 ∧ g.n = 0 ∧ g.d = 0 ∧ g.s = [] ∧ VPa g.l ∨ g.k = 8 ∧ g.n = 0 ∧ g.d = 0 ∧ g.s = [] ∧ g.l.length ≤ 64 ∧ ∀ i (h : i < g.l.length), ∃ x : GV, g.l[i] = x.av ∧ VV m x

theorem VV_mono : ∀ {m : Nat} {g : GV}, VV m g → VV (m + 1) g
  | 0, g, h => by
    rcases h with h | h
    · exact .inl h
    · exact .inr (.inl h)
  | m + 1, g, h => by
    rcases h with h | h | ⟨h1, h2, h3, h4, h5, h6⟩
    · exact .inl h
    · exact .inr (.inl h)
    · exact .inr (.inr ⟨h1, h2, h3, h4, h5, fun i hi => by obtain ⟨x, e, hx⟩ := h6 i hi; exact ⟨x, e, VV_mono hx⟩⟩)

theorem GV.av_inj {g h : GV} (e : g.av = h.av) : g = h := by
  obtain ⟨k, n, d, s, nn, l⟩ := g
  obtain ⟨k', n', d', s', nn', l'⟩ := h
  simp only [GV.av, AV.agg.injEq, List.cons.injEq, AV.int.injEq, AV.str.injEq, AV.sl.injEq, true_and, and_true] at e
  obtain ⟨rfl, rfl, rfl, rfl, rfl, rfl⟩ := e
  rfl

/-- alike: the same, however their lists came to be empty -/
def Alk : Nat → GV → GV → Prop
  | 0, _, _ => False
  | d + 1, g, h => g.k = h.k ∧ g.n = h.n ∧ g.d = h.d ∧ g.s = h.s ∧ g.l.length = h.l.length ∧ ∀ (i : Nat) (x y : GV), g.l[i]? = some x.av → h.l[i]? = some y.av → Alk d x y

end AI
end Go.Proofs.YtbkibamoigmboaaGreatDoor
set_option linter.unusedVariables false
namespace Go.Proofs.YtbkibamoigmboaaGreatDoor
namespace AI

theorem gcd_step (x y : Nat) : Nat.gcd y (x % y) = Nat.gcd x y := by
  rw [Nat.gcd_comm x y, Nat.gcd_rec y x, Nat.gcd_comm]

theorem absP {n : Int} (h : inR n) : PureP (findFn tab) 228 [.int .i64 n] (· = .int .i64 n.natAbs) := by
  unfold inR at h
  have e : (if 0 - n > n then 0 - n else n) = (n.natAbs : Int) := by split <;> omega
  refine pureP_of rfl rfl ?_
  (conv => whnf); repeat' (first  | ((with_reducible first | apply kN | apply kW | apply kX | apply kG | apply kQ); (· exact sd); conv => whnf) | (refine pcase.mk ?_ ?_ <;> intro hc <;> (try rw [List.length_nil] at hc) <;> first | (exfalso; omega) | (exact absurd rfl hc) | conv => whnf) | (refine bcase_intro ?_ ?_ <;> intro hc <;> conv => whnf))
  rw [← e]; rfl

theorem gcdP {n d : Int} (hn : inR n) (hd : inR d) : PureP (findFn tab) 161 [.int .i64 n, .int .i64 d] (· = .int .i64 (Nat.gcd n.natAbs d.natAbs)) := by
  have hn' := hn
  have hd' := hd
  unfold inR at hn' hd'
  refine pureP_of rfl rfl ?_
  (conv => whnf); repeat' (first | (refine callB (inP (n := n)) (fun hr => ?_) (fun hr => absurd hn hr); conv => whnf) | (refine callB (inP (n := d)) (fun hr => ?_) (fun hr => absurd hd hr); conv => whnf) | (refine callK_of (absP hn) ?_; rintro _ rfl; conv => whnf) | (refine callK_of (absP hd) ?_; rintro _ rfl; conv => whnf) | ((with_reducible first | apply kN | apply kW | apply kX | apply kG | apply kQ); (· exact sd); conv => whnf) | (refine pcase.mk ?_ ?_ <;> intro hc <;> (try rw [List.length_nil] at hc) <;> first | (exfalso; omega) | (exact absurd rfl hc) | conv => whnf) | (refine bcase_intro ?_ ?_ <;> intro hc <;> conv => whnf))
  refine loop_inv (fun m env s => ∃ (x y : Nat), m = 1 * y ∧ x < 2^63 ∧ y < 2^63 ∧ Nat.gcd x y = Nat.gcd n.natAbs d.natAbs ∧ env = [(0, .int .i64 x), (1, .int .i64 y)] ∧ s = ⟨[], 0⟩) ?_ _ _ _ ⟨n.natAbs, d.natAbs, (Nat.one_mul _).symm, by omega, by omega, rfl, rfl, rfl⟩
  clear hn hd hn' hd'
  rintro m _ _ ⟨x, y, hm, hx, hy, hg, rfl, rfl⟩
  have hm2 : y = m := by omega
  subst hm2
  refine ⟨rfl, ?_⟩
  (conv => whnf); repeat' (first  | ((with_reducible first | apply kN | apply kW | apply kX | apply kG | apply kQ); (· exact sd); conv => whnf) | (refine pcase.mk ?_ ?_ <;> intro hc <;> (try rw [List.length_nil] at hc) <;> first | (exfalso; omega) | (exact absurd rfl hc) | conv => whnf) | (refine bcase_intro ?_ ?_ <;> intro hc <;> conv => whnf))
  · have h0 : y = 0 := by omega
    subst h0
    rw [Nat.gcd_zero_right] at hg
    rw [← hg]; rfl
  · have h0 : 0 < y := by omega
    have := Nat.mod_lt x h0
    exact again.mk ⟨_, this, y, x % y, (Nat.one_mul _).symm, hy, by omega, by rw [gcd_step]; exact hg, by rw [Int.ofNat_tmod], rfl⟩

theorem VF_no1 {n d : Int} (h : ¬ (1 ≤ d ∧ d ≤ 1000000000000000 ∧ inR n)) : ¬ VF n d := fun hv => h ⟨hv.1, hv.2.1, hv.2.2.1⟩

theorem fvP {n d : Int} : PureP (findFn tab) 112 [.agg [.int .i64 n, .int .i64 d]] (· = .bool (decide (VF n d))) := by
  by_cases h : 1 ≤ d ∧ d ≤ 1000000000000000 ∧ inR n
  · obtain ⟨h1, h2, h3⟩ := h
    have hg := gcdP h3 (show inR d by unfold inR; omega)
    refine pureP_of rfl rfl ?_
    (conv => whnf); repeat' (first | (refine callB (inP (n := n)) (fun hr => ?_) (fun hr => absurd h3 hr); conv => whnf) | (refine callK_of hg ?_; rintro _ rfl; conv => whnf) | ((with_reducible first | apply kN | apply kW | apply kX | apply kG | apply kQ); (· exact sd); conv => whnf) | (refine pcase.mk ?_ ?_ <;> intro hc <;> (try rw [List.length_nil] at hc) <;> first | (exfalso; omega) | (exact absurd rfl hc) | conv => whnf) | (refine bcase_intro ?_ ?_ <;> intro hc <;> conv => whnf))
    all_goals first
      | exact bool_t ⟨h1, h2, h3, by omega⟩
      | exact bool_f fun hv => by have := hv.2.2.2; omega
      | trace_state
  · have hno := VF_no1 h
    have hnr : ¬ inR n ∨ ¬ (1 ≤ d ∧ d ≤ 1000000000000000) := by
      by_cases h3 : inR n
      · exact .inr fun h12 => h ⟨h12.1, h12.2, h3⟩
      · exact .inl h3
    refine pureP_of rfl rfl ?_
    (conv => whnf); repeat' (first | (refine callB (inP (n := n)) (fun hr => ?_) (fun hr => ?_) <;> conv => whnf) | ((with_reducible first | apply kN | apply kW | apply kX | apply kG | apply kQ); (· exact sd); conv => whnf) | (refine pcase.mk ?_ ?_ <;> intro hc <;> (try rw [List.length_nil] at hc) <;> first | (exfalso; omega) | (exact absurd rfl hc) | conv => whnf) | (refine bcase_intro ?_ ?_ <;> intro hc <;> conv => whnf))
    all_goals first
      | exact bool_f hno
      | (exfalso; rcases hnr with h | h; exact h hr; omega)
      | trace_state

end AI
end Go.Proofs.YtbkibamoigmboaaGreatDoor
set_option linter.unusedVariables false
namespace Go.Proofs.YtbkibamoigmboaaGreatDoor
namespace AI

theorem VB_k {g : GV} (h : VB g) : g.k ≤ 6 := by
  obtain ⟨_, h⟩ := h
  rcases h with ⟨h, _⟩ | ⟨h, _⟩ | ⟨h, _⟩ | ⟨h, _⟩ | ⟨h, _⟩ | ⟨h, _⟩ <;> omega
theorem VV_b {m : Nat} {g : GV} (h7 : g.k ≠ 7) (h8 : g.k ≠ 8) : VV m g ↔ VB g := by
  cases m with
  | zero => exact ⟨fun h => h.elim id fun h => absurd h.1 h7, .inl⟩
  | succ m => exact ⟨fun h => h.elim id fun h => h.elim (fun h => absurd h.1 h7) fun h => absurd h.1 h8, .inl⟩
theorem VV_7 {m : Nat} {g : GV} (hk : g.k = 7) : VV m g ↔ g.n = 0 ∧ g.d = 0 ∧ g.s = [] ∧ VPa g.l := by
  have hb : ¬ VB g := fun h => by have := VB_k h; omega
  cases m with
  | zero => exact ⟨fun h => h.elim (fun h => absurd h hb) fun h => h.2, fun h => .inr ⟨hk, h⟩⟩
  | succ m => exact ⟨fun h => h.elim (fun h => absurd h hb) fun h => h.elim (fun h => h.2) fun h => absurd h.1 (by omega), fun h => .inr (.inl ⟨hk, h⟩)⟩
/-- all are valid -/
def VLi (m : Nat) (l : List AV) : Prop := ∀ i (h : i < l.length), ∃ x : GV, l[i] = x.av ∧ VV m x
theorem VV_8 {m : Nat} {g : GV} (hk : g.k = 8) : VV (m + 1) g ↔ g.n = 0 ∧ g.d = 0 ∧ g.s = [] ∧ g.l.length ≤ 64 ∧ VLi m g.l := by
  have hb : ¬ VB g := fun h => by have := VB_k h; omega
  exact ⟨fun h => h.elim (fun h => absurd h hb) fun h => h.elim (fun h => absurd h.1 (by omega)) fun h => h.2, fun h => .inr (.inr ⟨hk, h⟩)⟩
theorem VV0_8 {g : GV} (hk : g.k = 8) : ¬ VV 0 g := fun h => h.elim (fun h => by have := VB_k h; omega) fun h => by have := h.1; omega

noncomputable instance (m : Nat) (g : GV) : Decidable (VV m g) := Classical.propDecidable _
noncomputable instance (l : List AV) : Decidable (VPa l) := Classical.propDecidable _
noncomputable instance (m : Nat) (l : List AV) : Decidable (VLi m l) := Classical.propDecidable _

theorem dec_iff {p q : Prop} [Decidable p] [Decidable q] (h : p ↔ q) : AV.bool (decide p) = AV.bool (decide q) := by
  by_cases hp : p
  · rw [decide_eq_true hp, decide_eq_true (h.1 hp)]
  · rw [decide_eq_false hp, decide_eq_false (mt h.2 hp)]

set_option maxHeartbeats 1000000 in
theorem vbP {g : GV} (hg : g.ok) (h7 : g.k ≠ 7) (h8 : g.k ≠ 8) {n : Int} : PureP (findFn tab) 98 [g.av, .int .i64 n] (· = .bool (decide (VB g))) := by
  obtain ⟨g1, g2, g3, g4, g5, g6, g7⟩ := hg
  unfold Ln at g4 g5
  refine pureP_of rfl rfl ?_
  (conv => whnf); repeat' (first | (refine callB (inP (n := g.n)) (fun hr => ?_) (fun hr => ?_) <;> conv => whnf) | (refine callB (fvP (n := g.n) (d := g.d)) (fun hr => ?_) (fun hr => ?_) <;> conv => whnf) | (refine callK_of (ixP (l := g.s)) ?_; rintro _ rfl; conv => whnf) | ((with_reducible first | apply kN | apply kW | apply kX | apply kG | apply kQ); (· exact sd); conv => whnf) | (refine pcase.mk ?_ ?_ <;> intro hc <;> (try rw [List.length_nil] at hc) <;> first | (exfalso; omega) | (exact absurd rfl hc) | conv => whnf) | (refine bcase_intro ?_ ?_ <;> intro hc <;> conv => whnf))
  all_goals clear g7 g6
  all_goals first
    | exact bool_f fun h => by have := h.1; omega
    | (refine bool_t ?_; unfold VB okS; rw [← firstBad_iff]; first | (simp_all; done) | (simp_all; omega))
    | (refine bool_f ?_; unfold VB okS; rw [← firstBad_iff]; first | (simp_all; done) | (simp_all; omega))
    | trace_state

theorem VPa_take {l : List AV} {i : Nat} (hi : i < l.length) {x : GV} (e : l[i] = x.av) (hk : x.k = 5 + (i : Int) % 2) (hv : VB x) (h : ∀ j (hj : j < l.length), j < i → ∃ x : GV, l[j] = x.av ∧ x.k = 5 + (j : Int) % 2 ∧ VB x) :
    ∀ j (hj : j < l.length), j < i + 1 → ∃ x : GV, l[j] = x.av ∧ x.k = 5 + (j : Int) % 2 ∧ VB x := by
  intro j hj hji
  rcases Nat.lt_or_ge j i with h1 | h1
  · exact h j hj h1
  · obtain rfl : j = i := by omega
    exact ⟨x, e, hk, hv⟩

set_option maxHeartbeats 1000000 in
theorem pathP {l : List AV} {nn : Bool} (hl : l.length < 2^63) (h : ∀ x ∈ l, Like Tryz.prog 43 x) : PureP (findFn tab) 150 [.sl nn l] (· = .bool (decide (VPa l))) := by
  have htm : (l.length : Int).tmod 2 = (l.length : Int) % 2 := Int.tmod_eq_emod_of_nonneg (by omega)
  by_cases hlen : l.length % 2 = 1 ∧ l.length ≤ 25
  · obtain ⟨hl1, hl2⟩ := hlen
    refine pureP_of rfl rfl ?_
    (conv => whnf); repeat' (first  | ((with_reducible first | apply kN | apply kW | apply kX | apply kG | apply kQ); (· exact sd); conv => whnf) | (refine pcase.mk ?_ ?_ <;> intro hc <;> (try rw [List.length_nil] at hc) <;> first | (exfalso; omega) | (exact absurd rfl hc) | conv => whnf) | (refine bcase_intro ?_ ?_ <;> intro hc <;> conv => whnf))
    refine loop_inv (fun m env s => ∃ i c : Nat, m = l.length - i ∧ i ≤ l.length ∧ (∀ j (hj : j < l.length), j < i → ∃ x : GV, l[j] = x.av ∧ x.k = 5 + (j : Int) % 2 ∧ VB x) ∧ env = [(15, .sl nn l), (16, .int .i64 l.length), (17, .int .i64 i)] ∧ s = ⟨[], c⟩) ?_ _ _ _ ⟨0, _, rfl, by omega, fun j _ hj => absurd hj (by omega), rfl, rfl⟩
    rintro _ _ _ ⟨i, c, rfl, hi, hx, rfl, rfl⟩
    refine ⟨rfl, ?_⟩
    by_cases hlt : i < l.length
    · obtain ⟨gx, hgx⟩ := like_at h i
      obtain ⟨hn, he, hok⟩ := hgx hlt
      have hno : ¬ (gx.k = 5 + (i : Int) % 2 ∧ VB gx) → ¬ VPa l := fun hh hv => by
        obtain ⟨x, e, hx2⟩ := hv.2.2 i hlt
        rw [he] at e
        rw [GV.av_inj e] at hh
        exact hh hx2
      have h2 : (i : Int).tmod 2 = (i : Int) % 2 := Int.tmod_eq_emod_of_nonneg (by omega)
      have hnth : nth [AV.int .i64 5, AV.int .i64 6] (Int.toNat ((i : Int).tmod 2)) = some (.int .i64 (5 + (i : Int) % 2)) := by
        rw [h2]
        rcases Nat.mod_two_eq_zero_or_one i with hm | hm
        · rw [show (i : Int) % 2 = 0 by omega]; rfl
        · rw [show (i : Int) % 2 = 1 by omega]; rfl
      (conv => whnf); repeat' (first | (apply nthK_intro; (· first | exact hn | exact hnth); conv => whnf) | (refine callB (vbP (g := gx) hok (by omega) (by omega) (n := 0)) (fun hr => ?_) (fun hr => ?_) <;> conv => whnf) | ((with_reducible first | apply kN | apply kW | apply kX | apply kG | apply kQ); (· exact sd); conv => whnf) | (refine pcase.mk ?_ ?_ <;> intro hc <;> (try rw [List.length_nil] at hc) <;> first | (exfalso; omega) | (exact absurd rfl hc) | conv => whnf) | (refine bcase_intro ?_ ?_ <;> intro hc <;> conv => whnf))
      all_goals first
        | exact again.mk ⟨_, by omega, i + 1, _, rfl, by omega, VPa_take hlt he (by omega) hr hx, rfl, rfl⟩
        | exact bool_f (hno fun hh => by have := hh.1; omega)
        | exact bool_f (hno fun hh => hr hh.2)
        | trace_state
    · rw [show i = l.length by omega] at hx
      (conv => whnf); repeat' (first  | ((with_reducible first | apply kN | apply kW | apply kX | apply kG | apply kQ); (· exact sd); conv => whnf) | (refine pcase.mk ?_ ?_ <;> intro hc <;> (try rw [List.length_nil] at hc) <;> first | (exfalso; omega) | (exact absurd rfl hc) | conv => whnf) | (refine bcase_intro ?_ ?_ <;> intro hc <;> conv => whnf))
      exact bool_t ⟨hl1, hl2, fun j hj => hx j hj hj⟩
  · have hno : ¬ VPa l := fun hv => hlen ⟨hv.1, hv.2.1⟩
    refine pureP_of rfl rfl ?_
    (conv => whnf); repeat' (first  | ((with_reducible first | apply kN | apply kW | apply kX | apply kG | apply kQ); (· exact sd); conv => whnf) | (refine pcase.mk ?_ ?_ <;> intro hc <;> (try rw [List.length_nil] at hc) <;> first | (exfalso; omega) | (exact absurd rfl hc) | conv => whnf) | (refine bcase_intro ?_ ?_ <;> intro hc <;> conv => whnf))
    all_goals first | exact bool_f hno | trace_state

theorem v7 {g : GV} (hg : g.ok) (hk : g.k = 7) {n : Int} : PureP (findFn tab) 98 [g.av, .int .i64 n] (· = .bool (decide (g.n = 0 ∧ g.d = 0 ∧ g.s = [] ∧ VPa g.l))) := by
  obtain ⟨g1, g2, g3, g4, g5, g6, g7⟩ := hg
  unfold Ln at g4 g5
  refine pureP_of rfl rfl ?_
  (conv => whnf); repeat' (first | (refine callB (pathP (l := g.l) (nn := g.nn) g5 g7) (fun hr => ?_) (fun hr => ?_) <;> conv => whnf) | ((with_reducible first | apply kN | apply kW | apply kX | apply kG | apply kQ); (· exact sd); conv => whnf) | (refine pcase.mk ?_ ?_ <;> intro hc <;> (try rw [List.length_nil] at hc) <;> first | (exfalso; omega) | (exact absurd rfl hc) | conv => whnf) | (refine bcase_intro ?_ ?_ <;> intro hc <;> conv => whnf))
  all_goals first
    | exact bool_t ⟨by omega, by omega, by assumption, hr⟩
    | exact bool_f fun h => hr h.2.2.2
    | exact bool_f fun h => by have := h.1; omega
    | exact bool_f fun h => by have := h.2.1; omega
    | exact bool_f fun h => absurd h.2.2.1 (by assumption)
    | trace_state

theorem VL_take {m : Nat} {l : List AV} {i : Nat} (hi : i < l.length) {x : GV} (e : l[i] = x.av) (hv : VV m x) (h : ∀ j (hj : j < l.length), j < i → ∃ x : GV, l[j] = x.av ∧ VV m x) :
    ∀ j (hj : j < l.length), j < i + 1 → ∃ x : GV, l[j] = x.av ∧ VV m x := by
  intro j hj hji
  rcases Nat.lt_or_ge j i with h1 | h1
  · exact h j hj h1
  · obtain rfl : j = i := by omega
    exact ⟨x, e, hv⟩

set_option maxHeartbeats 1000000 in
theorem v8 {g : GV} (hg : g.ok) (hk : g.k = 8) {z : Int} (hz : 0 ≤ z ∧ z < 8) {m : Nat} (ih : ∀ {x : GV}, x.ok → PureP (findFn tab) 98 [x.av, .int .i64 (z + 1)] (· = .bool (decide (VV m x)))) :
    PureP (findFn tab) 98 [g.av, .int .i64 z] (· = .bool (decide (g.n = 0 ∧ g.d = 0 ∧ g.s = [] ∧ g.l.length ≤ 64 ∧ VLi m g.l))) := by
  obtain ⟨g1, g2, g3, g4, g5, g6, g7⟩ := hg
  unfold Ln at g4 g5
  refine pureP_of rfl rfl ?_
  (conv => whnf); repeat' (first  | ((with_reducible first | apply kN | apply kW | apply kX | apply kG | apply kQ); (· exact sd); conv => whnf) | (refine pcase.mk ?_ ?_ <;> intro hc <;> (try rw [List.length_nil] at hc) <;> first | (exfalso; omega) | (exact absurd rfl hc) | conv => whnf) | (refine bcase_intro ?_ ?_ <;> intro hc <;> conv => whnf))
  all_goals first
    | exact bool_f fun h => by have := h.1; omega
    | exact bool_f fun h => by have := h.2.1; omega
    | exact bool_f fun h => by have := h.2.2.2.1; omega
    | exact bool_f fun h => absurd h.2.2.1 (by assumption)
    | skip
  have hs : g.s = [] := by assumption
  have hn0 : g.n = 0 := by omega
  have hd0 : g.d = 0 := by omega
  have hl0 : g.l.length ≤ 64 := by omega
  refine loop_inv (fun mm env s => ∃ i c : Nat, mm = g.l.length - i ∧ i ≤ g.l.length ∧ (∀ j (hj : j < g.l.length), j < i → ∃ x : GV, g.l[j] = x.av ∧ VV m x) ∧ env = [(1, .int .i64 z), (120, .sl g.nn g.l), (121, .int .i64 g.l.length), (122, .int .i64 i)] ∧ s = ⟨[.arr 0 5 true true [g.av]], c⟩) ?_ _ _ _ ⟨0, _, rfl, by omega, fun j _ hj => absurd hj (by omega), rfl, rfl⟩
  rintro _ _ _ ⟨i, c, rfl, hi, hx, rfl, rfl⟩
  refine ⟨rfl, ?_⟩
  by_cases hlt : i < g.l.length
  · obtain ⟨gx, hgx⟩ := like_at g7 i
    obtain ⟨hn, he, hok⟩ := hgx hlt
    (conv => whnf); repeat' (first | (apply nthK_intro; (· exact hn); conv => whnf) | (refine callB (ih hok) (fun hr => ?_) (fun hr => ?_) <;> conv => whnf) | ((with_reducible first | apply kN | apply kW | apply kX | apply kG | apply kQ); (· exact sd); conv => whnf) | (refine pcase.mk ?_ ?_ <;> intro hc <;> (try rw [List.length_nil] at hc) <;> first | (exfalso; omega) | (exact absurd rfl hc) | conv => whnf) | (refine bcase_intro ?_ ?_ <;> intro hc <;> conv => whnf))
    all_goals first
      | exact again.mk ⟨_, by omega, i + 1, _, rfl, by omega, VL_take hlt he hr hx, rfl, rfl⟩
      | exact bool_f fun hh => by
          obtain ⟨x, e, hv⟩ := hh.2.2.2.2 i hlt
          rw [he] at e
          rw [GV.av_inj e] at hr
          exact hr hv
      | trace_state
  · rw [show i = g.l.length by omega] at hx
    (conv => whnf); repeat' (first  | ((with_reducible first | apply kN | apply kW | apply kX | apply kG | apply kQ); (· exact sd); conv => whnf) | (refine pcase.mk ?_ ?_ <;> intro hc <;> (try rw [List.length_nil] at hc) <;> first | (exfalso; omega) | (exact absurd rfl hc) | conv => whnf) | (refine bcase_intro ?_ ?_ <;> intro hc <;> conv => whnf))
    exact bool_t ⟨hn0, hd0, hs, hl0, fun j hj => hx j hj hj⟩

theorem v8no {g : GV} (hg : g.ok) (hk : g.k = 8) : PureP (findFn tab) 98 [g.av, .int .i64 8] (· = .bool false) := by
  obtain ⟨g1, g2, g3, g4, g5, g6, g7⟩ := hg
  unfold Ln at g4 g5
  refine pureP_of rfl rfl ?_
  (conv => whnf); repeat' (first  | ((with_reducible first | apply kN | apply kW | apply kX | apply kG | apply kQ); (· exact sd); conv => whnf) | (refine pcase.mk ?_ ?_ <;> intro hc <;> (try rw [List.length_nil] at hc) <;> first | (exfalso; omega) | (exact absurd rfl hc) | conv => whnf) | (refine bcase_intro ?_ ?_ <;> intro hc <;> conv => whnf))
  all_goals rfl

theorem validP : ∀ (m : Nat), m ≤ 8 → ∀ {g : GV}, g.ok → PureP (findFn tab) 98 [g.av, .int .i64 (8 - (m : Int))] (· = .bool (decide (VV m g))) := by
  intro m
  induction m with
  | zero =>
    intro _ g hg
    by_cases h7 : g.k = 7
    · rw [show AV.bool (decide (VV 0 g)) = _ from dec_iff (VV_7 h7)]
      exact v7 hg h7
    by_cases h8 : g.k = 8
    · rw [decide_eq_false (VV0_8 h8)]
      exact v8no hg h8
    rw [show AV.bool (decide (VV 0 g)) = AV.bool (decide (VB g)) from dec_iff (VV_b h7 h8)]
    exact vbP hg h7 h8
  | succ m ih =>
    intro hm g hg
    by_cases h7 : g.k = 7
    · rw [show AV.bool (decide (VV (m + 1) g)) = _ from dec_iff (VV_7 h7)]
      exact v7 hg h7
    by_cases h8 : g.k = 8
    · rw [show AV.bool (decide (VV (m + 1) g)) = _ from dec_iff (VV_8 h8)]
      exact v8 hg h8 (by omega) fun {x} hx => by
        rw [show (8 - ((m + 1 : Nat) : Int)) + 1 = 8 - (m : Int) by omega]
        exact ih (by omega) hx
    rw [show AV.bool (decide (VV (m + 1) g)) = AV.bool (decide (VB g)) from dec_iff (VV_b h7 h8)]
    exact vbP hg h7 h8

/-- value.Valid, exactly -/
theorem ValidP {g : GV} (hg : g.ok) : PureP (findFn tab) 62 [g.av] (· = .bool (decide (VV 8 g))) := by
  have h := validP 8 (by omega) hg
  rw [show (8 - ((8 : Nat) : Int)) = 0 by omega] at h
  refine pureP_of rfl rfl ?_
  (conv => whnf); repeat' (first | (refine callB h (fun hr => ?_) (fun hr => ?_) <;> conv => whnf) | ((with_reducible first | apply kN | apply kW | apply kX | apply kG | apply kQ); (· exact sd); conv => whnf) | (refine pcase.mk ?_ ?_ <;> intro hc <;> (try rw [List.length_nil] at hc) <;> first | (exfalso; omega) | (exact absurd rfl hc) | conv => whnf) | (refine bcase_intro ?_ ?_ <;> intro hc <;> conv => whnf))
  all_goals first | exact bool_t hr | exact bool_f hr

end AI
end Go.Proofs.YtbkibamoigmboaaGreatDoor
