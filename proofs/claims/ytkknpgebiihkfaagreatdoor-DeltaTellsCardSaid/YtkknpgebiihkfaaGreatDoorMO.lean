/- Valid values, and values that are alike: plain. Valid fractions: the program's. The reference's validity of values: it answers. Valid fractions: the reference's. -/
import Derived.Test.YtkknpgebiihkfaaGreatDoorMN
import Derived.Test.YtkknpgebiihkfaaGreatDoorMT
set_option linter.unusedVariables false
set_option maxRecDepth 4000
namespace Go.Proofs.YtkknpgebiihkfaaGreatDoor
namespace AI

theorem frac_eq {a b c d : Nat} (hb : 0 < b) (hd : 0 < d) (h1 : Nat.gcd a b = 1) (h2 : Nat.gcd c d = 1) (h : a * d = c * b) : a = c ∧ b = d := by
  have e1 : b ∣ d := (Nat.Coprime.dvd_of_dvd_mul_left (k := b) (m := a) (n := d) (by rw [Nat.Coprime, Nat.gcd_comm]; exact h1) ⟨c, by rw [h, Nat.mul_comm]⟩)
  have e2 : d ∣ b := (Nat.Coprime.dvd_of_dvd_mul_left (k := d) (m := c) (n := b) (by rw [Nat.Coprime, Nat.gcd_comm]; exact h2) ⟨a, by rw [← h, Nat.mul_comm]⟩)
  have e3 := Nat.dvd_antisymm e1 e2
  subst e3
  exact ⟨Nat.eq_of_mul_eq_mul_right hb h, rfl⟩

/-- a valid fraction -/
def VF (n d : Int) : Prop := 1 ≤ d ∧ d ≤ 1000000000000000 ∧ inR n ∧ Nat.gcd n.natAbs d.natAbs = 1
instance (n d : Int) : Decidable (VF n d) := by unfold VF; infer_instance

/-- a valid value that has no others in it -/
def VB (g : GV) : Prop := g.l.length = 0 ∧ (g.k = 0 ∧ g.n = 0 ∧ g.d = 0 ∧ g.s = [] ∨ g.k = 1 ∧ (g.n = 0 ∨ g.n = 1) ∧ g.d = 0 ∧ g.s = [] ∨ g.k = 2 ∧ inR g.n ∧ g.d = 0 ∧ g.s = [] ∨
  g.k = 3 ∧ 2 ≤ g.d ∧ VF g.n g.d ∧ g.s = [] ∨ g.k = 4 ∧ g.n = 0 ∧ g.d = 0 ∧ okS g.s ∨ (g.k = 5 ∨ g.k = 6) ∧ 1 ≤ g.n ∧ g.n ≤ 1000000 ∧ g.d = 0 ∧ g.s = [])
instance (g : GV) : Decidable (VB g) := by unfold VB; infer_instance

/-- nodes and edges in turn -/
def VPa (l : List AV) : Prop := l.length % 2 = 1 ∧ l.length ≤ 25 ∧ ∀ i (h : i < l.length), ∃ x : GV, l[i] = x.av ∧ x.k = 5 + i % 2 ∧ VB x
/-- a valid value, inside of so many lists at most -/
def VV : Nat → GV → Prop
  | 0, g => VB g ∨ g.k = 7 ∧ g.n = 0 ∧ g.d = 0 ∧ g.s = [] ∧ VPa g.l
  | m + 1, g => VB g ∨ g.k = 7 ∧ g.n = 0 ∧ g.d = 0 ∧ g.s = [] ∧ VPa g.l ∨ g.k = 8 ∧ g.n = 0 ∧ g.d = 0 ∧ g.s = [] ∧ g.l.length ≤ 64 ∧ ∀ i (h : i < g.l.length), ∃ x : GV, g.l[i] = x.av ∧ VV m x

theorem VV_mono : ∀ {m : Nat} {g : GV}, VV m g → VV (m + 1) g
  | 0, g, h => by
    rcases h with h | h
    · exact .inl h
    · exact .inr (.inl h)
  | m + 1, g, h => by
    rcases h with h | h | ⟨h1, h2, h3, h4, h5, h6⟩
    · exact .inl h
    · exact .inr (.inl h)
    · exact .inr (.inr ⟨h1, h2, h3, h4, h5, fun i hi => by obtain ⟨x, e, hx⟩ := h6 i hi; exact ⟨x, e, VV_mono hx⟩⟩)

theorem GV.av_inj {g h : GV} (e : g.av = h.av) : g = h := by
  obtain ⟨k, n, d, s, nn, l⟩ := g
  obtain ⟨k', n', d', s', nn', l'⟩ := h
  simp only [GV.av, AV.agg.injEq, List.cons.injEq, AV.int.injEq, AV.str.injEq, AV.sl.injEq, true_and, and_true] at e
  obtain ⟨rfl, rfl, rfl, rfl, rfl, rfl⟩ := e
  rfl

/-- alike: the same, however their lists came to be empty -/
def Alk : Nat → GV → GV → Prop
  | 0, _, _ => False
  | d + 1, g, h => g.k = h.k ∧ g.n = h.n ∧ g.d = h.d ∧ g.s = h.s ∧ g.l.length = h.l.length ∧ ∀ (i : Nat) (x y : GV), g.l[i]? = some x.av → h.l[i]? = some y.av → Alk d x y

end AI
end Go.Proofs.YtkknpgebiihkfaaGreatDoor
set_option linter.unusedVariables false
namespace Go.Proofs.YtkknpgebiihkfaaGreatDoor
namespace AI

theorem gcd_step (x y : Nat) : Nat.gcd y (x % y) = Nat.gcd x y := by
  rw [Nat.gcd_comm x y, Nat.gcd_rec y x, Nat.gcd_comm]

theorem absP {n : Int} (h : inR n) : PureP (findFn tab) 158 [.int .i64 n] (· = .int .i64 n.natAbs) := by
  unfold inR at h
  have e : (if 0 - n > n then 0 - n else n) = (n.natAbs : Int) := by split <;> omega
  refine pureP_of rfl rfl ?_
  (conv => whnf); repeat' (first  | ((with_reducible first | apply kN | apply kW | apply kX | apply kG | apply kQ); (· exact sd); conv => whnf) | (refine pcase.mk ?_ ?_ <;> intro hc <;> (try rw [List.length_nil] at hc) <;> first | (exfalso; omega) | (exact absurd rfl hc) | conv => whnf) | (refine bcase_intro ?_ ?_ <;> intro hc <;> conv => whnf))
  rw [← e]; rfl

theorem gcdP {n d : Int} (hn : inR n) (hd : inR d) : PureP (findFn tab) 151 [.int .i64 n, .int .i64 d] (· = .int .i64 (Nat.gcd n.natAbs d.natAbs)) := by
  have hn' := hn
  have hd' := hd
  unfold inR at hn' hd'
  refine pureP_of rfl rfl ?_
  (conv => whnf); repeat' (first | (refine callB (inP (n := n)) (fun hr => ?_) (fun hr => absurd hn hr); conv => whnf) | (refine callB (inP (n := d)) (fun hr => ?_) (fun hr => absurd hd hr); conv => whnf) | (refine callK_of (absP hn) ?_; rintro _ rfl; conv => whnf) | (refine callK_of (absP hd) ?_; rintro _ rfl; conv => whnf) | ((with_reducible first | apply kN | apply kW | apply kX | apply kG | apply kQ); (· exact sd); conv => whnf) | (refine pcase.mk ?_ ?_ <;> intro hc <;> (try rw [List.length_nil] at hc) <;> first | (exfalso; omega) | (exact absurd rfl hc) | conv => whnf) | (refine bcase_intro ?_ ?_ <;> intro hc <;> conv => whnf))
  refine loop_inv (fun m env s => ∃ (x y : Nat), m = 1 * y ∧ x < 2^63 ∧ y < 2^63 ∧ Nat.gcd x y = Nat.gcd n.natAbs d.natAbs ∧ env = [(0, .int .i64 x), (1, .int .i64 y)] ∧ s = ⟨[], 0⟩) ?_ _ _ _ ⟨n.natAbs, d.natAbs, (Nat.one_mul _).symm, by omega, by omega, rfl, rfl, rfl⟩
  clear hn hd hn' hd'
  rintro m _ _ ⟨x, y, hm, hx, hy, hg, rfl, rfl⟩
  have hm2 : y = m := by omega
  subst hm2
  refine ⟨rfl, ?_⟩
  (conv => whnf); repeat' (first  | ((with_reducible first | apply kN | apply kW | apply kX | apply kG | apply kQ); (· exact sd); conv => whnf) | (refine pcase.mk ?_ ?_ <;> intro hc <;> (try rw [List.length_nil] at hc) <;> first | (exfalso; omega) | (exact absurd rfl hc) | conv => whnf) | (refine bcase_intro ?_ ?_ <;> intro hc <;> conv => whnf))
  · have h0 : y = 0 := by omega
    subst h0
    rw [Nat.gcd_zero_right] at hg
    rw [← hg]; rfl
  · have h0 : 0 < y := by omega
    have := Nat.mod_lt x h0
    exact again.mk ⟨_, this, y, x % y, (Nat.one_mul _).symm, hy, by omega, by rw [gcd_step]; exact hg, by rw [Int.ofNat_tmod], rfl⟩

theorem VF_no1 {n d : Int} (h : ¬ (1 ≤ d ∧ d ≤ 1000000000000000 ∧ inR n)) : ¬ VF n d := fun hv => h ⟨hv.1, hv.2.1, hv.2.2.1⟩

theorem fvP {n d : Int} : PureP (findFn tab) 144 [.agg [.int .i64 n, .int .i64 d]] (· = .bool (decide (VF n d))) := by
  by_cases h : 1 ≤ d ∧ d ≤ 1000000000000000 ∧ inR n
  · obtain ⟨h1, h2, h3⟩ := h
    have hg := gcdP h3 (show inR d by unfold inR; omega)
    refine pureP_of rfl rfl ?_
    (conv => whnf); repeat' (first | (refine callB (inP (n := n)) (fun hr => ?_) (fun hr => absurd h3 hr); conv => whnf) | (refine callK_of hg ?_; rintro _ rfl; conv => whnf) | ((with_reducible first | apply kN | apply kW | apply kX | apply kG | apply kQ); (· exact sd); conv => whnf) | (refine pcase.mk ?_ ?_ <;> intro hc <;> (try rw [List.length_nil] at hc) <;> first | (exfalso; omega) | (exact absurd rfl hc) | conv => whnf) | (refine bcase_intro ?_ ?_ <;> intro hc <;> conv => whnf))
    all_goals first
      | exact bool_t ⟨h1, h2, h3, by omega⟩
      | exact bool_f fun hv => by have := hv.2.2.2; omega
      | trace_state
  · have hno := VF_no1 h
    have hnr : ¬ inR n ∨ ¬ (1 ≤ d ∧ d ≤ 1000000000000000) := by
      by_cases h3 : inR n
      · exact .inr fun h12 => h ⟨h12.1, h12.2, h3⟩
      · exact .inl h3
    refine pureP_of rfl rfl ?_
    (conv => whnf); repeat' (first | (refine callB (inP (n := n)) (fun hr => ?_) (fun hr => ?_) <;> conv => whnf) | ((with_reducible first | apply kN | apply kW | apply kX | apply kG | apply kQ); (· exact sd); conv => whnf) | (refine pcase.mk ?_ ?_ <;> intro hc <;> (try rw [List.length_nil] at hc) <;> first | (exfalso; omega) | (exact absurd rfl hc) | conv => whnf) | (refine bcase_intro ?_ ?_ <;> intro hc <;> conv => whnf))
    all_goals first
      | exact bool_f hno
      | (exfalso; rcases hnr with h | h; exact h hr; omega)
      | trace_state

end AI
end Go.Proofs.YtkknpgebiihkfaaGreatDoor
set_option linter.unusedVariables false
namespace Go.Proofs.YtkknpgebiihkfaaGreatDoor
namespace AI

theorem bare {g : GV} {n d s l : Bool} : PureP (findFn tab) 133 [g.av, .bool n, .bool d, .bool s, .bool l] (fun v => ∃ b, v = .bool b) := by
  cases n <;> cases d <;> cases s <;> cases l <;> (
  refine pureP_of rfl rfl ?_
  (conv => whnf); repeat' (first | ((with_reducible first | apply kN | apply kW | apply kX | apply kG | apply kQ); (· exact sd); conv => whnf) | (refine pcase.mk ?_ ?_ <;> intro hc <;> (try rw [List.length_nil] at hc) <;> first | (exfalso; omega) | (exact absurd rfl hc) | conv => whnf)  | (refine bcase_intro ?_ ?_ <;> intro hc <;> conv => whnf))
  all_goals exact ⟨_, rfl⟩)

theorem inRB {n : Int} : PureP (findFn tab) 134 [.int .i64 n] (fun v => ∃ b, v = .bool b) := by
  refine pureP_of rfl rfl ?_
  (conv => whnf); repeat' (first | ((with_reducible first | apply kN | apply kW | apply kX | apply kG | apply kQ); (· exact sd); conv => whnf) | (refine pcase.mk ?_ ?_ <;> intro hc <;> (try rw [List.length_nil] at hc) <;> first | (exfalso; omega) | (exact absurd rfl hc) | conv => whnf)  | (refine bcase_intro ?_ ?_ <;> intro hc <;> conv => whnf))
  all_goals exact ⟨_, rfl⟩

theorem size {n : Int} (h1 : -2^62 ≤ n) (h2 : n ≤ 2^62) : PureP (findFn tab) 121 [.int .i64 n] (fun v => ∃ z, v = .int .i64 z ∧ 0 ≤ z ∧ (z = n ∨ z = -n)) := by
  refine pureP_of rfl rfl ?_
  (conv => whnf); repeat' (first | ((with_reducible first | apply kN | apply kW | apply kX | apply kG | apply kQ); (· exact sd); conv => whnf) | (refine pcase.mk ?_ ?_ <;> intro hc <;> (try rw [List.length_nil] at hc) <;> first | (exfalso; omega) | (exact absurd rfl hc) | conv => whnf)  | (refine bcase_intro ?_ ?_ <;> intro hc <;> conv => whnf))
  all_goals exact ⟨_, rfl, by omega, by omega⟩

theorem gcd {a b : Int} (h1 : 0 ≤ a) (h2 : 0 ≤ b) : PureP (findFn tab) 138 [.int .i64 a, .int .i64 b] (fun v => ∃ z, v = .int .i64 z) := by
  refine pureP_of rfl rfl ?_
  (conv => whnf); repeat' (first | ((with_reducible first | apply kN | apply kW | apply kX | apply kG | apply kQ); (· exact sd); conv => whnf) | (refine pcase.mk ?_ ?_ <;> intro hc <;> (try rw [List.length_nil] at hc) <;> first | (exfalso; omega) | (exact absurd rfl hc) | conv => whnf)  | (refine bcase_intro ?_ ?_ <;> intro hc <;> conv => whnf))
  refine loop_inv (fun m env s => ∃ (a b : Int), m = b.toNat ∧ 0 ≤ a ∧ 0 ≤ b ∧ env = [(0, .int .i64 a), (1, .int .i64 b)] ∧ s = ⟨[], 0⟩) ?_ _ _ _ ⟨a, b, rfl, h1, h2, rfl, rfl⟩
  clear h1 h2 a b
  rintro _ _ _ ⟨a, b, rfl, h1, h2, rfl, rfl⟩
  refine ⟨rfl, ?_⟩
  (conv => whnf); repeat' (first | ((with_reducible first | apply kN | apply kW | apply kX | apply kG | apply kQ); (· exact sd); conv => whnf) | (refine pcase.mk ?_ ?_ <;> intro hc <;> (try rw [List.length_nil] at hc) <;> first | (exfalso; omega) | (exact absurd rfl hc) | conv => whnf)  | (refine bcase_intro ?_ ?_ <;> intro hc <;> conv => whnf))
  · have e : a.tmod b = a % b := Int.tmod_eq_emod_of_nonneg h1
    have := Int.emod_lt_of_pos a (by omega : 0 < b)
    have := Int.emod_nonneg a (by omega : b ≠ 0)
    exact again.mk ⟨_, by rw [e]; omega, _, _, rfl, h2, by rw [e]; omega, rfl, rfl⟩
  · exact ⟨_, rfl⟩

/-- a valid fraction is in range -/
theorem fvalid {n d : Int} : PureP (findFn tab) 117 [.agg [.int .i64 n, .int .i64 d]] (fun v => ∃ b, v = .bool b ∧ (b = true → 1 ≤ d ∧ d ≤ 1000000000000000 ∧ -1000000000000000 ≤ n ∧ n ≤ 1000000000000000)) := by
  refine pureP_of rfl rfl ?_
  (conv => whnf); repeat' (first | ((with_reducible first | apply kN | apply kW | apply kX | apply kG | apply kQ); (· exact sd); conv => whnf) | (refine pcase.mk ?_ ?_ <;> intro hc <;> (try rw [List.length_nil] at hc) <;> first | (exfalso; omega) | (exact absurd rfl hc) | conv => whnf) | (refine callK_of (size (n := n) (by omega) (by omega)) ?_; rintro _ ⟨z, rfl, hz1, hz2⟩; conv => whnf) | (refine callK_of (gcd (by omega) (by omega)) ?_; rintro _ ⟨z2, rfl⟩; conv => whnf) | (refine bcase_intro ?_ ?_ <;> intro hc <;> conv => whnf))
  all_goals first | exact ⟨_, rfl, fun _ => by omega⟩ | exact ⟨_, rfl, fun h => absurd h Bool.false_ne_true⟩

theorem strOk {s : List UInt8} (hl : s.length < 2^63) : PureP (findFn tab) 135 [.str s] (fun v => ∃ b, v = .bool b) := by
  refine pureP_of rfl rfl ?_
  (conv => whnf); repeat' (first | ((with_reducible first | apply kN | apply kW | apply kX | apply kG | apply kQ); (· exact sd); conv => whnf) | (refine pcase.mk ?_ ?_ <;> intro hc <;> (try rw [List.length_nil] at hc) <;> first | (exfalso; omega) | (exact absurd rfl hc) | conv => whnf)  | (refine bcase_intro ?_ ?_ <;> intro hc <;> conv => whnf))
  refine loop_inv (fun m env s' => ∃ i : Nat, m = s.length - i ∧ env = [(0, .str s), (3, .int .i64 i)] ∧ s' = ⟨[], 0⟩) ?_ _ _ _ ⟨0, rfl, rfl, rfl⟩
  rintro _ _ _ ⟨i, rfl, rfl, rfl⟩
  refine ⟨rfl, ?_⟩
  (conv => whnf); repeat' (first | ((with_reducible first | apply kN | apply kW | apply kX | apply kG | apply kQ); (· exact sd); conv => whnf) | (refine pcase.mk ?_ ?_ <;> intro hc <;> (try rw [List.length_nil] at hc) <;> first | (exfalso; omega) | (exact absurd rfl hc) | conv => whnf)  | (refine bcase_intro ?_ ?_ <;> intro hc <;> conv => whnf))
  all_goals first | exact ⟨_, rfl⟩ | exact again.mk ⟨_, by omega, i + 1, rfl, rfl, rfl⟩

/-- nodes and edges need no other value -/
theorem validLeaf {g : GV} {n : Int} (h : g.k = 5 ∨ g.k = 6) : PureP (findFn tab) 114 [g.av, .int .i64 n] (fun v => ∃ b, v = .bool b) := by
  refine pureP_of rfl rfl ?_
  (conv => whnf); repeat' (first | ((with_reducible first | apply kN | apply kW | apply kX | apply kG | apply kQ); (· exact sd); conv => whnf) | (refine pcase.mk ?_ ?_ <;> intro hc <;> (try rw [List.length_nil] at hc) <;> first | (exfalso; omega) | (exact absurd rfl hc) | conv => whnf) | (refine callK_of (bare (g := g)) ?_; rintro _ ⟨b, rfl⟩; conv => whnf) | (refine bcase_intro ?_ ?_ <;> intro hc <;> conv => whnf))
  all_goals exact ⟨_, rfl⟩

theorem pathOk {l : List AV} {nn : Bool} (hl : l.length < 2^63) (h : ∀ x ∈ l, Like Tryz.prog 43 x) : PureP (findFn tab) 136 [.sl nn l] (fun v => ∃ b, v = .bool b) := by
  refine pureP_of rfl rfl ?_
  (conv => whnf); repeat' (first | ((with_reducible first | apply kN | apply kW | apply kX | apply kG | apply kQ); (· exact sd); conv => whnf) | (refine pcase.mk ?_ ?_ <;> intro hc <;> (try rw [List.length_nil] at hc) <;> first | (exfalso; omega) | (exact absurd rfl hc) | conv => whnf)  | (refine bcase_intro ?_ ?_ <;> intro hc <;> conv => whnf))
  all_goals first | exact ⟨_, rfl⟩ | skip
  refine loop_inv (fun m env s' => ∃ i : Nat, m = l.length - i ∧ env = [(0, .sl nn l), (3, .int .i64 i)] ∧ s' = ⟨[], 0⟩) ?_ _ _ _ ⟨0, rfl, rfl, rfl⟩
  rintro _ _ _ ⟨i, rfl, rfl, rfl⟩
  refine ⟨rfl, ?_⟩
  obtain ⟨gx, hgx⟩ := like_at h i
  (conv => whnf); repeat' (first | ((with_reducible first | apply kN | apply kW | apply kX | apply kG | apply kQ); (· exact sd); conv => whnf) | (refine pcase.mk ?_ ?_ <;> intro hc <;> (try rw [List.length_nil] at hc) <;> first | (exfalso; omega) | (exact absurd rfl hc) | conv => whnf) | (apply nthK_intro; (· exact (hgx (by omega)).1); conv => whnf) | (refine callK_of (validLeaf (g := gx) (by omega)) ?_; rintro _ ⟨b, rfl⟩; conv => whnf) | (refine bcase_intro ?_ ?_ <;> intro hc <;> conv => whnf))
  all_goals first | exact ⟨_, rfl⟩ | exact again.mk ⟨_, by omega, i + 1, rfl, rfl, rfl⟩

end AI
end Go.Proofs.YtkknpgebiihkfaaGreatDoor
set_option linter.unusedVariables false
namespace Go.Proofs.YtkknpgebiihkfaaGreatDoor
namespace AI

theorem gcdN {a b : Nat} (ha : a < 2^63) (hb : b < 2^63) : PureP (findFn tab) 138 [.int .i64 a, .int .i64 b] (· = .int .i64 (Nat.gcd a b)) := by
  refine pureP_of rfl rfl ?_
  (conv => whnf); repeat' (first  | ((with_reducible first | apply kN | apply kW | apply kX | apply kG | apply kQ); (· exact sd); conv => whnf) | (refine pcase.mk ?_ ?_ <;> intro hc <;> (try rw [List.length_nil] at hc) <;> first | (exfalso; omega) | (exact absurd rfl hc) | conv => whnf) | (refine bcase_intro ?_ ?_ <;> intro hc <;> conv => whnf))
  refine loop_inv (fun m env s => ∃ (x y : Nat), m = 1 * y ∧ x < 2^63 ∧ y < 2^63 ∧ Nat.gcd x y = Nat.gcd a b ∧ env = [(0, .int .i64 x), (1, .int .i64 y)] ∧ s = ⟨[], 0⟩) ?_ _ _ _ ⟨a, b, (Nat.one_mul _).symm, ha, hb, rfl, rfl, rfl⟩
  clear ha hb
  rintro m _ _ ⟨x, y, hm, hx, hy, hg, rfl, rfl⟩
  have hm2 : y = m := by omega
  subst hm2
  refine ⟨rfl, ?_⟩
  (conv => whnf); repeat' (first  | ((with_reducible first | apply kN | apply kW | apply kX | apply kG | apply kQ); (· exact sd); conv => whnf) | (refine pcase.mk ?_ ?_ <;> intro hc <;> (try rw [List.length_nil] at hc) <;> first | (exfalso; omega) | (exact absurd rfl hc) | conv => whnf) | (refine bcase_intro ?_ ?_ <;> intro hc <;> conv => whnf))
  · have h0 : 0 < y := by omega
    have := Nat.mod_lt x h0
    exact again.mk ⟨_, this, y, x % y, (Nat.one_mul _).symm, hy, by omega, by rw [gcd_step]; exact hg, by rw [Int.ofNat_tmod], rfl⟩
  · have h0 : y = 0 := by omega
    subst h0
    rw [Nat.gcd_zero_right] at hg
    rw [← hg]; rfl

theorem fvR {n d : Int} : PureP (findFn tab) 117 [.agg [.int .i64 n, .int .i64 d]] (· = .bool (decide (VF n d))) := by
  by_cases h : 1 ≤ d ∧ d ≤ 1000000000000000 ∧ inR n
  · obtain ⟨h1, h2, h3⟩ := h
    have h3' := h3
    unfold inR at h3'
    obtain ⟨dn, rfl⟩ : ∃ k : Nat, d = k := ⟨d.toNat, by omega⟩
    obtain ⟨_, ⟨z, rfl, z0, z1⟩, hz⟩ := (size (n := n) (by omega) (by omega)).det
    obtain ⟨zn, rfl⟩ : ∃ k : Nat, z = k := ⟨z.toNat, by omega⟩
    have hzn : zn = n.natAbs := by omega
    have hg := gcdN (a := zn) (b := dn) (by omega) (by omega)
    refine pureP_of rfl rfl ?_
    (conv => whnf); repeat' (first | (refine callK_of hz ?_; rintro _ rfl; conv => whnf) | (refine callK_of hg ?_; rintro _ rfl; conv => whnf) | ((with_reducible first | apply kN | apply kW | apply kX | apply kG | apply kQ); (· exact sd); conv => whnf) | (refine pcase.mk ?_ ?_ <;> intro hc <;> (try rw [List.length_nil] at hc) <;> first | (exfalso; omega) | (exact absurd rfl hc) | conv => whnf) | (refine bcase_intro ?_ ?_ <;> intro hc <;> conv => whnf))
    all_goals first
      | exact bool_t ⟨h1, h2, h3, by rw [← hzn, Int.natAbs_natCast]; omega⟩
      | exact bool_f fun hv => by have := hv.2.2.2; rw [← hzn] at this; simp only [Int.natAbs_natCast] at this; omega
      | trace_state
  · have hno := VF_no1 h
    refine pureP_of rfl rfl ?_
    (conv => whnf); repeat' (first  | ((with_reducible first | apply kN | apply kW | apply kX | apply kG | apply kQ); (· exact sd); conv => whnf) | (refine pcase.mk ?_ ?_ <;> intro hc <;> (try rw [List.length_nil] at hc) <;> first | (exfalso; omega) | (exact absurd rfl hc) | conv => whnf) | (refine bcase_intro ?_ ?_ <;> intro hc <;> conv => whnf))
    all_goals first
      | exact bool_f hno
      | (exfalso; refine h ⟨by omega, by omega, ?_⟩; unfold inR; omega)
      | trace_state

end AI
end Go.Proofs.YtkknpgebiihkfaaGreatDoor
