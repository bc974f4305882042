/- The law about the order of entries: any three entries. -/
import Derived.Test.YtbkibamoigmboaaGreatDoorPt0
import Derived.Test.YtbkibamoigmboaaGreatDoorIxLives
set_option linter.unusedVariables false
set_option maxRecDepth 4000
namespace Go.Proofs.YtbkibamoigmboaaGreatDoor
namespace AI
open Go.Sort

/-- a value, with a bound of its depth -/
theorem likeC_valueD {d : Nat} {cs : List AV} (h : likeC Tryz.prog d 43 cs) : ∃ v : GV, cs = [.int .i64 v.k, .int .i64 v.n, .int .i64 v.d, .str v.s, .sl v.nn v.l] ∧ v.ok ∧ ∃ e, e < d ∧ ∀ x ∈ v.l, like Tryz.prog e 43 x := by
  obtain ⟨d', rfl, g1, g2⟩ := likeC_struct Tryz.underlying43 h
  rw [c_value] at g1
  obtain ⟨a, b, c, e, f, rfl⟩ := len5 g1
  clear g1
  simp only [List.forall_mem_cons] at g2
  obtain ⟨f1, f2, f3, f4, f5, _⟩ := g2
  simp only [c_int, c_string, c_values, List.drop_zero, List.drop_succ_cons, List.take_succ_cons, List.take_zero] at f1 f2 f3 f4 f5
  obtain ⟨k, e1, h1⟩ := likeC_i f1
  obtain ⟨n, e2, h2⟩ := likeC_i f2
  obtain ⟨m, e3, h3⟩ := likeC_i f3
  obtain ⟨s, e4, h4⟩ := likeC_s f4
  obtain ⟨d'', hd, nl, xs, e5, h5, h6, h7⟩ := likeC_slice Tryz.underlying41 f5
  cases e1; cases e2; cases e3; cases e4; cases e5
  exact ⟨⟨k, n, m, s, nl, xs⟩, rfl, ⟨h1, h2, h3, h4, ln_of h6, h5, fun x hx => ⟨_, h7 x hx⟩⟩, d'', by omega, h7⟩
theorem like_dep : ∀ (n d : Nat), d ≤ n → ∀ {a : AV}, like Tryz.prog d 43 a → ∃ v : GV, a = v.av ∧ v.ok ∧ dep (n + 1) v
  | 0, d, hd, a, h => by
    obtain ⟨cs, rfl, h0⟩ := like_struct Tryz.underlying43 h
    obtain ⟨v, rfl, h1, e, he, _⟩ := likeC_valueD h0
    omega
  | n + 1, d, hd, a, h => by
    obtain ⟨cs, rfl, h0⟩ := like_struct Tryz.underlying43 h
    obtain ⟨v, rfl, h1, e, he, h2⟩ := likeC_valueD h0
    exact ⟨v, rfl, h1, fun x hx => like_dep n e (by omega) (h2 x hx)⟩
theorem like_entryD {a : AV} (h : Like Tryz.prog 56 a) : ∃ v : GT, a = v.av ∧ v.v.ok ∧ ∃ m, dep m v.v := by
  obtain ⟨d, h⟩ := h
  obtain ⟨cs, rfl, h0⟩ := like_struct Tryz.underlying56 h
  obtain ⟨d', rfl, g1, g2⟩ := likeC_struct Tryz.underlying56 h0
  rw [c_entry] at g1
  obtain ⟨a, b, c, e, f, g, i, j, rfl⟩ := len8 g1
  clear g1
  simp only [List.forall_mem_cons] at g2
  obtain ⟨f1, f2, f3, f4, _⟩ := g2
  simp only [c_string, c_value, c_int, List.drop_zero, List.drop_succ_cons, List.take_succ_cons, List.take_zero] at f1 f2 f3 f4
  obtain ⟨s, e1, h1⟩ := likeC_s f1
  obtain ⟨t, e2, h2⟩ := likeC_s f2
  obtain ⟨v, e3, h3, k, hk, h5⟩ := likeC_valueD f3
  obtain ⟨n, e4, h4⟩ := likeC_i f4
  cases e1; cases e2; cases e3; cases e4
  exact ⟨⟨s, t, v, n⟩, rfl, h3, k + 2, fun x hx => like_dep k k (by omega) (h5 x hx)⟩

/-- a comparison answers -1, 0 or 1 -/
def Unit3 (z : Int) : Prop := -1 ≤ z ∧ z ≤ 1

theorem u_fst {a b : Int} (ha : Unit3 a) (hb : Unit3 b) : Unit3 (fst0 a b) := by unfold fst0; split <;> assumption
theorem u_int {a b : Int} : Unit3 (cmpI a b) := by
  unfold Unit3 cmpI
  repeat' split
  all_goals omega
theorem u_str {a b : List UInt8} : Unit3 (cS a b) := by
  unfold Unit3 cS
  repeat' split
  all_goals omega
theorem u_list {c : AV → AV → Int} (h : ∀ x y, Unit3 (c x y)) : ∀ x y, Unit3 (cmpLs c x y)
  | [], [] => by unfold Unit3 cmpLs; omega
  | [], _ :: _ => by unfold Unit3 cmpLs; omega
  | _ :: _, [] => by unfold Unit3 cmpLs; omega
  | a :: x, b :: y => u_fst (h a b) (u_list h x y)
theorem u_frac {a b : GV} : Unit3 (fracC a b) := sgn_le _
theorem u_ord : ∀ (m : Nat) (a b : GV), Unit3 (ordS m a b)
  | 0, a, b => by unfold Unit3 ordS; omega
  | m + 1, a, b => by
    unfold ordS
    refine u_fst u_int ?_
    split
    · exact u_frac
    · exact u_fst u_str (u_fst u_int (u_list (fun x y => u_ord m _ _) _ _))
theorem u_val : ∀ (m : Nat) (a b : GV), Unit3 (cmpV m a b)
  | 0, a, b => by unfold Unit3 cmpV; omega
  | m + 1, a, b => by
    unfold cmpV
    split
    · split
      · exact u_ord _ _ _
      · unfold Unit3; omega
    · split
      · unfold Unit3; omega
      · exact u_fst u_int (u_fst u_int (u_fst u_int (u_fst u_str (u_list (fun x y => u_val m _ _) _ _))))
theorem u_ent {m : Nat} {x y : GT} : Unit3 (cmpT m x y) := u_fst u_str (u_fst u_str (u_fst (u_val _ _ _) u_int))

theorem cmpT_zero {m : Nat} {x y : GT} (h : cmpT m x y = 0) : x.label = y.label ∧ x.key = y.key ∧ x.id = y.id ∧ cmpV m x.v y.v = 0 := by
  unfold cmpT at h
  simp only [fst0_zero, cmpI_zero, cS_zero] at h
  exact ⟨h.1, h.2.1, h.2.2.2, h.2.2.1⟩

set_option maxRecDepth 10000 in
set_option maxHeartbeats 2000000 in
theorem law_order : ∀ xs, likes Tryz.prog [56, 56, 56] xs → Calls1 (findFn tab) 7 xs ⟨[], 0⟩ fun out _ => out = .ok (.bool true) := by
  intro xs h
  match xs, h with
  | [a, b, c], h =>
    obtain ⟨h1, h2, h3, _⟩ := h
    obtain ⟨x, rfl, hx, m1, dx⟩ := like_entryD h1
    obtain ⟨y, rfl, hy, m2, dy⟩ := like_entryD h2
    obtain ⟨z, rfl, hz, m3, dz⟩ := like_entryD h3
    obtain ⟨m, hm⟩ : ∃ m, m = m1 + m2 + m3 := ⟨_, rfl⟩
    replace dx := dep_up (k := m) (by omega) dx
    replace dy := dep_up (k := m) (by omega) dy
    replace dz := dep_up (k := m) (by omega) dz
    have p1 := orderTP hx hy dx dy
    have p2 := orderTP hy hx dy dx
    have p3 := orderTP hx hx dx dx
    have p4 := orderTP hy hz dy dz
    have p5 := orderTP hx hz dx dz
    have p6 := orderVP m hx hy dx dy
    have u1 : Unit3 (cmpT m x y) := u_ent
    have a1 := (pc_cmpT m).anti x y
    have a2 := (pc_cmpT m).anti x x
    have a3 := (pc_cmpT m).trans x y z
    have z1 := cmpT_zero (m := m) (x := x) (y := y)
    rw [a1] at p2
    rw [show cmpT m x x = 0 by omega] at p3
    generalize cmpT m x y = k1 at *
    generalize cmpT m y z = k2 at *
    generalize cmpT m x z = k3 at *
    generalize cmpV m x.v y.v = k4 at *
    unfold Unit3 at u1
    clear a1 a2 hx hy hz dx dy dz h1 h2 h3 hm
    refine calls1_of rfl rfl ?_
    by_cases k0 : k1 = 0
    · obtain ⟨e1, e2, e3, e4⟩ := z1 k0
      subst k0 e4
      rw [Int.neg_zero] at p2
      (conv => whnf); repeat' (first | (refine callK_of p1 ?_; rintro _ rfl; conv => whnf) | (refine callK_of p2 ?_; rintro _ rfl; conv => whnf) | (refine callK_of p3 ?_; rintro _ rfl; conv => whnf) | (refine callK_of p4 ?_; rintro _ rfl; conv => whnf) | (refine callK_of p5 ?_; rintro _ rfl; conv => whnf) | (refine callK_of p6 ?_; rintro _ rfl; conv => whnf) | (refine callB livesI (fun _ => ?_) (fun h => absurd trivial h); conv => whnf) | ((with_reducible first | apply kN | apply kW | apply kX | apply kG | apply kQ); (· exact sd); conv => whnf) | (refine pcase.mk ?_ ?_ <;> intro hc <;> (try rw [List.length_nil] at hc) <;> first | (exfalso; omega) | (exact absurd rfl hc) | conv => whnf) | (refine bcase_intro ?_ ?_ <;> intro hc <;> conv => whnf))
      all_goals first | rfl | (exfalso; omega) | exact absurd e1 (by assumption) | exact absurd e2 (by assumption) | (trace_state; fail "order1")
    · clear z1
      (conv => whnf); repeat' (first | (refine callK_of p1 ?_; rintro _ rfl; conv => whnf) | (refine callK_of p2 ?_; rintro _ rfl; conv => whnf) | (refine callK_of p3 ?_; rintro _ rfl; conv => whnf) | (refine callK_of p4 ?_; rintro _ rfl; conv => whnf) | (refine callK_of p5 ?_; rintro _ rfl; conv => whnf) | (refine callB livesI (fun _ => ?_) (fun h => absurd trivial h); conv => whnf) | ((with_reducible first | apply kN | apply kW | apply kX | apply kG | apply kQ); (· exact sd); conv => whnf) | (refine pcase.mk ?_ ?_ <;> intro hc <;> (try rw [List.length_nil] at hc) <;> first | (exfalso; omega) | (exact absurd rfl hc) | conv => whnf) | (refine bcase_intro ?_ ?_ <;> intro hc <;> conv => whnf))
      all_goals first | rfl | (exfalso; omega) | (trace_state; fail "order2")

end AI
end Go.Proofs.YtbkibamoigmboaaGreatDoor
