/- Entries with plain values: the program's order of them. -/
import Derived.Test.YtbkibamoigmboaaGreatDoorFP1
import Derived.Test.YtbkibamoigmboaaGreatDoorPO1
import Derived.Test.YtbkibamoigmboaaGreatDoorIxT
set_option linter.unusedVariables false
set_option maxRecDepth 4000
namespace Go.Proofs.YtbkibamoigmboaaGreatDoor
namespace AI
open Go.Sort

theorem vv_leaf {v : GV} (h : leafV v) : VV 8 v := by
  have hk := leaf_kind h
  unfold kindP at hk
  rw [VV_b (by omega) (by omega)]
  obtain ⟨h1, h2, h3⟩ := h
  refine ⟨h2, ?_⟩
  rcases h3 with ⟨a, b, c⟩ | ⟨a, b, c⟩ | ⟨a, b, c⟩
  · exact .inr (.inl ⟨a, c, h1, b⟩)
  · exact .inr (.inr (.inl ⟨a, c, h1, b⟩))
  · exact .inr (.inr (.inr (.inr (.inl ⟨a, b, h1, c⟩))))

theorem vf1 {n : Int} (h : inR n) : VF n 1 := ⟨by omega, by omega, h, by simp⟩
theorem cmp1 {n1 n2 : Int} (h1 : inR n1) (h2 : inR n2) : PureP (findFn tab) 74 [.agg [.int .i64 n1, .int .i64 1], .agg [.int .i64 n2, .int .i64 1]] (· = .int .i64 (cmpI n1 n2)) := by
  have v1 : PureP (findFn tab) 112 [.agg [.int .i64 n1, .int .i64 1]] (· = .bool true) := by have := fvP (n := n1) (d := 1); rwa [decide_eq_true (vf1 h1)] at this
  have v2 : PureP (findFn tab) 112 [.agg [.int .i64 n2, .int .i64 1]] (· = .bool true) := by have := fvP (n := n2) (d := 1); rwa [decide_eq_true (vf1 h2)] at this
  have e1 : inR 1 := by unfold inR; omega
  have e3 : inR (0 - n2) := by unfold inR at *; omega
  have r2 : -1000000000000000 ≤ n2 ∧ n2 ≤ 1000000000000000 := h2
  have m1 := inR_nat h1
  have m2 := inR_nat e3
  have p1 := productP h1 e1
  have p2 := productP e3 e1
  have p3 := plusP (a := decide (n1 < 0) != decide ((1 : Int) < 0)) (m := n1.natAbs * (1 : Int).natAbs) (b := decide (0 - n2 < 0) != decide ((1 : Int) < 0)) (n := (0 - n2).natAbs * (1 : Int).natAbs) (by simp; omega) (by simp; omega)
  obtain ⟨a, m, e4, e5, e6⟩ : ∃ a m, addW (decide (n1 < 0) != decide ((1 : Int) < 0)) (n1.natAbs * (1 : Int).natAbs) (decide (0 - n2 < 0) != decide ((1 : Int) < 0)) ((0 - n2).natAbs * (1 : Int).natAbs) = wd a m ∧ m < 2^127 ∧ sgW a m = cmpI n1 n2 := by
    have k1 : decide ((1 : Int) < 0) = false := rfl
    have k2 : (1 : Int).natAbs = 1 := rfl
    rw [k1, k2, Bool.bne_false, Bool.bne_false, Nat.mul_one, Nat.mul_one]
    unfold addW
    split
    · rename_i hh
      rw [decide_eq_decide] at hh
      refine ⟨_, _, rfl, by omega, ?_⟩
      unfold sgW cmpI
      simp only [decide_eq_true_eq]
      repeat' split
      all_goals omega
    · rename_i hh
      rw [decide_eq_decide] at hh
      split
      · refine ⟨_, _, rfl, by omega, ?_⟩
        unfold sgW cmpI
        simp only [decide_eq_true_eq]
        repeat' split
        all_goals omega
      · refine ⟨_, _, rfl, by omega, ?_⟩
        unfold sgW cmpI
        simp only [decide_eq_true_eq]
        repeat' split
        all_goals omega
  rw [e4] at p3
  have p4 := signP (a := a) e5
  rw [e6] at p4
  refine pureP_of rfl rfl ?_
  (conv => whnf); repeat' (first | (refine callK_of v1 ?_; rintro _ rfl; conv => whnf) | (refine callK_of v2 ?_; rintro _ rfl; conv => whnf) | (refine callK_of p1 ?_; rintro _ rfl; conv => whnf) | (refine callK_of p2 ?_; rintro _ rfl; conv => whnf) | (refine callK_of p3 ?_; rintro _ rfl; conv => whnf) | (refine callK_of p4 ?_; rintro _ rfl; conv => whnf) | ((with_reducible first | apply kN | apply kW | apply kX | apply kG | apply kQ); (· exact sd); conv => whnf) | (refine pcase.mk ?_ ?_ <;> intro hc <;> (try rw [List.length_nil] at hc) <;> first | (exfalso; omega) | (exact absurd rfl hc) | conv => whnf) | (refine bcase_intro ?_ ?_ <;> intro hc <;> conv => whnf))
  all_goals first | rfl | (trace_state; fail "cmp1")

theorem cmpFe {nn nn' : Bool} {f : Nat} : PureP (findFn tab) 64 [.sl nn [], .sl nn' [], .fn f []] (· = .int .i64 0) := by
  refine pureP_of rfl rfl ?_
  (conv => whnf); repeat' (first  | ((with_reducible first | apply kN | apply kW | apply kX | apply kG | apply kQ); (· exact sd); conv => whnf) | (refine pcase.mk ?_ ?_ <;> intro hc <;> (try rw [List.length_nil] at hc) <;> first | (exfalso; omega) | (exact absurd rfl hc) | conv => whnf) | (refine bcase_intro ?_ ?_ <;> intro hc <;> conv => whnf))
  refine loop_inv (fun m env s => m = 0 ∧ env = [(0, .sl nn []), (1, .sl nn' []), (2, .fn f []), (11, .sl nn []), (12, .int .i64 0), (13, .int .i64 0)] ∧ s = ⟨[], 0⟩) ?_ _ _ _ ⟨rfl, rfl, rfl⟩
  rintro _ _ _ ⟨rfl, rfl, rfl⟩
  refine ⟨rfl, ?_⟩
  (conv => whnf); repeat' (first  | ((with_reducible first | apply kN | apply kW | apply kX | apply kG | apply kQ); (· exact sd); conv => whnf) | (refine pcase.mk ?_ ?_ <;> intro hc <;> (try rw [List.length_nil] at hc) <;> first | (exfalso; omega) | (exact absurd rfl hc) | conv => whnf) | (refine bcase_intro ?_ ?_ <;> intro hc <;> conv => whnf))
  all_goals first | rfl | (exfalso; simp_all) | (trace_state; fail "cmpFe")

theorem fnz3 {a b c : Int} : fnz [a, b, c] = fst0 a (fst0 b c) := by
  simp only [fnz]; congr 1; congr 1; unfold fst0; split <;> omega
theorem fnz4 {a b c d : Int} : fnz [a, b, c, d] = fst0 a (fst0 b (fst0 c d)) := by
  simp only [fnz]; congr 1; congr 1; congr 1; unfold fst0; split <;> omega
theorem or3P {a b c : Int} : PureP (findFn tab) 59 [.sl true [.int .i64 a, .int .i64 b, .int .i64 c]] (· = .int .i64 (fst0 a (fst0 b c))) := by
  have h := orV (l := [a, b, c]) (nn := true) (by simp)
  rw [fnz3] at h
  exact h
theorem or4P {a b c d : Int} : PureP (findFn tab) 59 [.sl true [.int .i64 a, .int .i64 b, .int .i64 c, .int .i64 d]] (· = .int .i64 (fst0 a (fst0 b (fst0 c d)))) := by
  have h := orV (l := [a, b, c, d]) (nn := true) (by simp)
  rw [fnz4] at h
  exact h

/-- plain values compared -/
def vOrd (a b : GV) : Int := fst0 (cmpI (clsP a.k) (clsP b.k)) (if clsP a.k = 2 then cmpI a.n b.n else fst0 (cS a.s b.s) (fst0 (cmpI a.n b.n) 0))
theorem vOrd_P {a b : GV} (ha : a.ok) (hb : b.ok) (la : leafV a) (lb : leafV b) : PureP (findFn tab) 30 [a.av, b.av] (· = .int .i64 (vOrd a b)) := by
  have va := vP ha (vv_leaf la)
  have vb := vP hb (vv_leaf lb)
  have ka := leaf_kind la
  have kb := leaf_kind lb
  unfold kindP at ka kb
  have na : a.l = [] := List.eq_nil_of_length_eq_zero la.2.1
  have nb : b.l = [] := List.eq_nil_of_length_eq_zero lb.2.1
  have k1 := classP (v := a)
  have k2 := classP (v := b)
  have k3 : PureP (findFn tab) 61 [.int .i64 (clsP a.k), .int .i64 (clsP b.k)] (· = .int .i64 (cmpI (clsP a.k) (clsP b.k))) := compare
  have ho : PureP (findFn tab) 63 [a.av, b.av] (· = .int .i64 (vOrd a b)) := by
    unfold vOrd
    by_cases h0 : cmpI (clsP a.k) (clsP b.k) = 0
    · rw [h0, show ∀ z, fst0 0 z = z from fun z => if_pos rfl]
      rw [h0] at k3
      have he := cmpI_zero.1 h0
      by_cases h2 : clsP a.k = 2
      · rw [if_pos h2]
        have a2 : a.k = 2 := by unfold clsP at h2; repeat' split at h2
                                all_goals omega
        have b2 : b.k = 2 := by rw [he] at h2; unfold clsP at h2; repeat' split at h2
                                all_goals omega
        have p1 := nP1 ha ⟨vv_leaf la, .inl a2⟩
        have p2 := nP1 hb ⟨vv_leaf lb, .inl b2⟩
        rw [show dn a = 1 from if_pos a2] at p1
        rw [show dn b = 1 from if_pos b2] at p2
        have i1 : inR a.n := by rcases la.2.2 with h | h | h <;> first | (exfalso; omega) | exact h.2.2
        have i2 : inR b.n := by rcases lb.2.2 with h | h | h <;> first | (exfalso; omega) | exact h.2.2
        have p3 := cmp1 i1 i2
        refine pureP_of rfl rfl ?_
        (conv => whnf); repeat' (first | (refine callK_of k1 ?_; rintro _ rfl; conv => whnf) | (refine callK_of k2 ?_; rintro _ rfl; conv => whnf) | (refine callK_of k3 ?_; rintro _ rfl; conv => whnf) | (refine callK_of p1 ?_; rintro _ rfl; conv => whnf) | (refine callK_of p2 ?_; rintro _ rfl; conv => whnf) | (refine callK_of p3 ?_; rintro _ rfl; conv => whnf) | ((with_reducible first | apply kN | apply kW | apply kX | apply kG | apply kQ); (· exact sd); conv => whnf) | (refine pcase.mk ?_ ?_ <;> intro hc <;> (try rw [List.length_nil] at hc) <;> first | (exfalso; omega) | (exact absurd rfl hc) | conv => whnf) | (refine bcase_intro ?_ ?_ <;> intro hc <;> conv => whnf))
        all_goals first | rfl | (exfalso; omega) | (trace_state; fail "vOrd1")
      · rw [if_neg h2]
        have p1 := compareS (x := a.s) (y := b.s)
        have p2 : PureP (findFn tab) 61 [.int .i64 a.n, .int .i64 b.n] (· = .int .i64 (cmpI a.n b.n)) := compare
        have p3 := cmpFe (nn := a.nn) (nn' := b.nn) (f := 63)
        rw [show (AV.sl a.nn [] : AV) = .sl a.nn a.l by rw [na], show (AV.sl b.nn [] : AV) = .sl b.nn b.l by rw [nb]] at p3
        have p4 := or3P (a := cS a.s b.s) (b := cmpI a.n b.n) (c := 0)
        refine pureP_of rfl rfl ?_
        (conv => whnf); repeat' (first | (refine callK_of k1 ?_; rintro _ rfl; conv => whnf) | (refine callK_of k2 ?_; rintro _ rfl; conv => whnf) | (refine callK_of k3 ?_; rintro _ rfl; conv => whnf) | (refine callK_of p1 ?_; rintro _ rfl; conv => whnf) | (refine callK_of p2 ?_; rintro _ rfl; conv => whnf) | (refine callK_of p3 ?_; rintro _ rfl; conv => whnf) | (refine callK_of p4 ?_; rintro _ rfl; conv => whnf) | ((with_reducible first | apply kN | apply kW | apply kX | apply kG | apply kQ); (· exact sd); conv => whnf) | (refine pcase.mk ?_ ?_ <;> intro hc <;> (try rw [List.length_nil] at hc) <;> first | (exfalso; omega) | (exact absurd rfl hc) | conv => whnf) | (refine bcase_intro ?_ ?_ <;> intro hc <;> conv => whnf))
        all_goals first | rfl | (exfalso; omega) | (trace_state; fail "vOrd2")
    · rw [show ∀ z, fst0 (cmpI (clsP a.k) (clsP b.k)) z = cmpI (clsP a.k) (clsP b.k) from fun z => if_neg h0]
      refine pureP_of rfl rfl ?_
      (conv => whnf); repeat' (first | (refine callK_of k1 ?_; rintro _ rfl; conv => whnf) | (refine callK_of k2 ?_; rintro _ rfl; conv => whnf) | (refine callK_of k3 ?_; rintro _ rfl; conv => whnf) | ((with_reducible first | apply kN | apply kW | apply kX | apply kG | apply kQ); (· exact sd); conv => whnf) | (refine pcase.mk ?_ ?_ <;> intro hc <;> (try rw [List.length_nil] at hc) <;> first | (exfalso; omega) | (exact absurd rfl hc) | conv => whnf) | (refine bcase_intro ?_ ?_ <;> intro hc <;> conv => whnf))
      all_goals first | rfl | (exfalso; omega) | (trace_state; fail "vOrd3")
  refine pureP_of rfl rfl ?_
  (conv => whnf); repeat' (first | (refine callK_of va ?_; rintro _ rfl; conv => whnf) | (refine callK_of vb ?_; rintro _ rfl; conv => whnf) | (refine callK_of ho ?_; rintro _ rfl; conv => whnf) | ((with_reducible first | apply kN | apply kW | apply kX | apply kG | apply kQ); (· exact sd); conv => whnf) | (refine pcase.mk ?_ ?_ <;> intro hc <;> (try rw [List.length_nil] at hc) <;> first | (exfalso; omega) | (exact absurd rfl hc) | conv => whnf) | (refine bcase_intro ?_ ?_ <;> intro hc <;> conv => whnf))
  all_goals first | rfl | (trace_state; fail "vOrd")

/-- an entry with a plain value -/
structure GX where
  e : GT
  h : e.ok ∧ leafV e.v
def GX.av (x : GX) : AV := x.e.av
theorem cellsGX (x : GX) : x.av.cells.length = 8 := rfl
theorem gx0_ok : (GT.mk [] [] ⟨2, 0, 0, [], false, []⟩ 0).ok ∧ leafV (GT.mk [] [] ⟨2, 0, 0, [], false, []⟩ 0).v :=
  ⟨⟨by simp [Ln], by simp [Ln], ⟨by unfold I64; dsimp only; omega, by unfold I64; dsimp only; omega, by unfold I64; dsimp only; omega, by simp [Ln], by simp [Ln], fun _ => rfl, by simp⟩, by unfold I64; dsimp only; omega⟩, rfl, rfl, .inr (.inl ⟨rfl, rfl, by unfold inR; dsimp only; omega⟩)⟩
instance : Inhabited GX := ⟨⟨_, gx0_ok⟩⟩
def cmpX (x y : GX) : Int := fst0 (cS x.e.label y.e.label) (fst0 (cS x.e.key y.e.key) (fst0 (vOrd x.e.v y.e.v) (cmpI x.e.id y.e.id)))
theorem pc_zer {α : Type} : PC fun _ _ : α => 0 := ⟨fun _ _ => rfl, fun _ _ _ _ _ => Int.le_refl 0⟩
theorem PC.lexIf {α : Type} {c d e : α → α → Int} {p : α → Prop} [DecidablePred p] (hc : PC c) (hd : PC d) (he : PC e) (hp : ∀ x y, c x y = 0 → (p x ↔ p y)) : PC fun x y => fst0 (c x y) (if p x then d x y else e x y) where
  anti x y := by
    have h1 := hc.anti x y
    have h2 := hd.anti x y
    have h3 := he.anti x y
    have h4 := hp x y
    unfold fst0
    by_cases h0 : c x y = 0
    · rw [if_pos (by omega), if_pos h0]
      by_cases hx : p x
      · rw [if_pos hx, if_pos ((h4 h0).1 hx)]; exact h2
      · rw [if_neg hx, if_neg (fun h => hx ((h4 h0).2 h))]; exact h3
    · rw [if_neg (by omega), if_neg h0]; exact h1
  trans x y z h1 h2 := by
    have a0 := hc.trans z y x
    have a1 := hc.trans x y z
    have a2 := hc.trans y z x
    have a3 := hc.trans z x y
    have b1 := hc.anti x y
    have b2 := hc.anti y z
    have b3 := hc.anti x z
    have d1 := hd.trans x y z
    have e1 := he.trans x y z
    have p1 := hp x y
    have p2 := hp y z
    unfold fst0 at *
    by_cases h0 : c x y = 0
    · rw [if_pos h0] at h1
      by_cases h00 : c y z = 0
      · rw [if_pos h00] at h2
        rw [if_pos (by omega)]
        by_cases hx : p x
        · rw [if_pos hx] at h1 ⊢
          rw [if_pos ((p1 h0).1 hx)] at h2
          exact d1 h1 h2
        · rw [if_neg hx] at h1 ⊢
          rw [if_neg (fun h => hx ((p1 h0).2 h))] at h2
          exact e1 h1 h2
      · rw [if_neg h00] at h2
        rw [if_neg (by omega)]
        omega
    · rw [if_neg h0] at h1
      by_cases h00 : c y z = 0
      · rw [if_neg (by omega)]
        omega
      · rw [if_neg h00] at h2
        rw [if_neg (by omega)]
        omega
theorem pc_vOrd : PC vOrd := PC.lexIf (p := fun a : GV => clsP a.k = 2) (pc_int.on fun a : GV => clsP a.k) (pc_int.on GV.n) ((pc_str.on GV.s).lex ((pc_int.on GV.n).lex pc_zer)) fun x y h => by
    have h : cmpI (clsP x.k) (clsP y.k) = 0 := h
    rw [cmpI_zero] at h
    show clsP x.k = 2 ↔ clsP y.k = 2
    rw [h]
theorem pc_cmpX : PC cmpX := (pc_str.on fun x : GX => x.e.label).lex ((pc_str.on fun x : GX => x.e.key).lex ((pc_vOrd.on fun x : GX => x.e.v).lex (pc_int.on fun x : GX => x.e.id)))
def ltT (x y : GX) : Bool := decide (cmpX x y < 0)
theorem ltT_swo : SWO ltT := pc_cmpX.swo
theorem orderPT {x y : GX} : PureP (findFn tab) 29 [x.av, y.av] (· = .int .i64 (cmpX x y)) := by
  obtain ⟨x, hx, lx⟩ := x
  obtain ⟨y, hy, ly⟩ := y
  have q1 := compareS (x := x.label) (y := y.label)
  have q2 := compareS (x := x.key) (y := y.key)
  have q3 := vOrd_P hx.2.2.1 hy.2.2.1 lx ly
  have q4 : PureP (findFn tab) 61 [.int .i64 x.id, .int .i64 y.id] (· = .int .i64 (cmpI x.id y.id)) := compare
  have q5 := or4P (a := cS x.label y.label) (b := cS x.key y.key) (c := vOrd x.v y.v) (d := cmpI x.id y.id)
  show PureP (findFn tab) 29 [x.av, y.av] (· = .int .i64 (fst0 (cS x.label y.label) (fst0 (cS x.key y.key) (fst0 (vOrd x.v y.v) (cmpI x.id y.id)))))
  refine pureP_of rfl rfl ?_
  (conv => whnf); repeat' (first | (refine callK_of q1 ?_; rintro _ rfl; conv => whnf) | (refine callK_of q2 ?_; rintro _ rfl; conv => whnf) | (refine callK_of q3 ?_; rintro _ rfl; conv => whnf) | (refine callK_of q4 ?_; rintro _ rfl; conv => whnf) | (refine callK_of q5 ?_; rintro _ rfl; conv => whnf) | ((with_reducible first | apply kN | apply kW | apply kX | apply kG | apply kQ); (· exact sd); conv => whnf) | (refine pcase.mk ?_ ?_ <;> intro hc <;> (try rw [List.length_nil] at hc) <;> first | (exfalso; omega) | (exact absurd rfl hc) | conv => whnf) | (refine bcase_intro ?_ ?_ <;> intro hc <;> conv => whnf))
  all_goals first | rfl | (trace_state; fail "orderPT")
theorem pcaseT {x y : GX} {A B : Prop} (h1 : ltT x y = true → A) (h2 : ltT x y = false → B) : pcase (cmpX x y < 0) A B :=
  ⟨fun h => h1 (decide_eq_true h), fun h => h2 (decide_eq_false h)⟩

attribute [irreducible] ltT cmpX

end AI
end Go.Proofs.YtbkibamoigmboaaGreatDoor
