/- Lists of rules: which are valid; looking for a rule. Adding a rule and leaving one out: the program's Add and Drop. Adding a rule and leaving one out: the reference's Add and Drop. -/
import Derived.Test.YtdlkcancogpafaaGreatDoorPr0
import Derived.Test.YtdlkcancogpafaaGreatDoorEX1
import Derived.Test.YtdlkcancogpafaaGreatDoorMP
set_option linter.unusedVariables false
set_option maxRecDepth 4000
namespace Go.Proofs.YtdlkcancogpafaaGreatDoor
namespace AI

theorem like_rules {a : AV} (h : Like Tryz.prog 22 a) : ∃ nn l, a = .sl nn (vs GR.av l) ∧ (nn = false → l = []) ∧ Ln l ∧ ∀ y ∈ l, y.ok := by
  obtain ⟨d, h⟩ := h
  obtain ⟨d', _, nn, xs, rfl, h1, h2, h3⟩ := like_slice Tryz.underlying22 h
  obtain ⟨l, rfl, h4⟩ := exists_map (f := GR.av) (Q := GR.ok) fun x hx => by
    obtain ⟨cs, rfl, h0⟩ := like_struct Tryz.underlying27 (h3 x hx)
    obtain ⟨r, rfl, hr⟩ := likeC_rule h0
    exact ⟨r, rfl, hr⟩
  exact ⟨nn, l, rfl, fun h => by have := h1 h; simpa using this, ln_of (by simpa using h2), h4⟩

/-- a rule of a list stands where it should -/
def okR (l : List GR) (j : Nat) : Prop := ∀ h : j < l.length, ruleE l[j] = 0 ∧ (0 < j → cmpR (l[j - 1]'(by omega)) l[j] < 0)
def validR (l : List GR) : Prop := l.length ≤ 40 ∧ ∀ j, j < l.length → okR l j
noncomputable instance (l : List GR) : Decidable (validR l) := Classical.propDecidable _

theorem vldP {l : List GR} {nn : Bool} (hl : l.length < 2^62) (hok : ∀ r ∈ l, r.ok) : PureP (findFn tab) 19 [.sl nn (vs GR.av l)] (· = .bool (decide (validR l))) := by
  refine pureP_of rfl rfl ?_
  (conv => whnf); repeat' (first  | ((with_reducible first | apply kN | apply kW | apply kX | apply kG | apply kQ); (· exact sd); conv => whnf) | (refine pcase.mk ?_ ?_ <;> intro hc <;> (try rw [List.length_nil] at hc) <;> first | (exfalso; omega) | (exact absurd rfl hc) | conv => whnf) | (refine bcase_intro ?_ ?_ <;> intro hc <;> conv => whnf))
  refine loop_inv (fun m env s => ∃ i c : Nat, m = l.length - i ∧ env = [(0, .sl nn (vs GR.av l)), (5, .sl nn (vs GR.av l)), (6, .int .i64 l.length), (7, .int .i64 i)] ∧ s = ⟨[], c⟩ ∧ ∀ j, j < i → okR l j) ?_ _ _ _ ⟨0, 0, rfl, rfl, rfl, fun j h => absurd h (by omega)⟩
  rintro _ _ _ ⟨i, c, rfl, rfl, rfl, hx⟩
  refine ⟨rfl, ?_⟩
  by_cases hlt : i < l.length
  · have hr := ruleP (hok _ (List.getElem_mem hlt))
    by_cases h0 : i = 0
    · subst h0
      (conv => whnf); repeat' (first | (refine callK_of hr ?_; rintro _ rfl; conv => whnf) | ((with_reducible first | apply kN | apply kW | apply kX | apply kG | apply kQ); (· exact sd); conv => whnf) | (refine pcase.mk ?_ ?_ <;> intro hc <;> (try rw [List.length_nil] at hc) <;> first | (exfalso; omega) | (exact absurd rfl hc) | conv => whnf) | (refine bcase_intro ?_ ?_ <;> intro hc <;> conv => whnf))
      all_goals first
        | exact again.mk ⟨_, by omega, 1, _, rfl, rfl, rfl, fun j hj => by
            obtain rfl : j = 0 := by omega
            exact fun _ => ⟨by omega, fun h => absurd h (by omega)⟩⟩
        | exact bool_f fun h => absurd (h.2 0 hlt hlt).1 (by omega)
        | (exfalso; omega)
        | (trace_state; fail "validP0")
    · have ho := orderPR (x := l[i - 1]'(by omega)) (y := l[i])
      (conv => whnf); repeat' (first | (refine callK_of hr ?_; rintro _ rfl; conv => whnf) | (refine callK_of ho ?_; rintro _ rfl; conv => whnf) | (apply nthK_intro; (· exact nVz (i - 1) (by omega) (by omega)); conv => whnf) | ((with_reducible first | apply kN | apply kW | apply kX | apply kG | apply kQ); (· exact sd); conv => whnf) | (refine pcase.mk ?_ ?_ <;> intro hc <;> (try rw [List.length_nil] at hc) <;> first | (exfalso; omega) | (exact absurd rfl hc) | conv => whnf) | (refine bcase_intro ?_ ?_ <;> intro hc <;> conv => whnf))
      all_goals first
        | exact again.mk ⟨_, by omega, i + 1, _, rfl, rfl, rfl, fun j hj => by
            rcases Nat.lt_or_ge j i with h | h
            · exact hx j h
            · obtain rfl : j = i := by omega
              exact fun _ => ⟨by omega, fun _ => by omega⟩⟩
        | exact bool_f fun h => by have := h.2 i hlt hlt; omega
        | (exfalso; omega)
        | (trace_state; fail "validP1")
  · (conv => whnf); repeat' (first  | ((with_reducible first | apply kN | apply kW | apply kX | apply kG | apply kQ); (· exact sd); conv => whnf) | (refine pcase.mk ?_ ?_ <;> intro hc <;> (try rw [List.length_nil] at hc) <;> first | (exfalso; omega) | (exact absurd rfl hc) | conv => whnf) | (refine bcase_intro ?_ ?_ <;> intro hc <;> conv => whnf))
    all_goals first
      | exact bool_t ⟨by omega, fun j hj => hx j (by omega)⟩
      | exact bool_f fun h => absurd h.1 (by omega)
      | exact bool_eq ⟨fun h => ⟨by omega, fun j hj => hx j (by omega)⟩, fun h => by have := h.1; omega⟩
      | (trace_state; fail "validP2")

theorem vldQ {l : List GR} {nn : Bool} (hl : l.length < 2^62) (hok : ∀ r ∈ l, r.ok) : PureP (findFn tab) 26 [.sl nn (vs GR.av l)] (· = .bool (decide (validR l))) := by
  refine pureP_of rfl rfl ?_
  (conv => whnf); repeat' (first  | ((with_reducible first | apply kN | apply kW | apply kX | apply kG | apply kQ); (· exact sd); conv => whnf) | (refine pcase.mk ?_ ?_ <;> intro hc <;> (try rw [List.length_nil] at hc) <;> first | (exfalso; omega) | (exact absurd rfl hc) | conv => whnf) | (refine bcase_intro ?_ ?_ <;> intro hc <;> conv => whnf))
  · exact bool_f fun h => by have := h.1; omega
  refine loop_inv (fun m env s => ∃ i : Nat, m = l.length - i ∧ env = [(0, .sl nn (vs GR.av l)), (3, .int .i64 i)] ∧ s = ⟨[], 0⟩ ∧ ∀ j, j < i → okR l j) ?_ _ _ _ ⟨0, rfl, rfl, rfl, fun j h => absurd h (by omega)⟩
  rintro _ _ _ ⟨i, rfl, rfl, rfl, hx⟩
  refine ⟨rfl, ?_⟩
  by_cases hlt : i < l.length
  · have hr := ruleR (hok _ (List.getElem_mem hlt))
    by_cases h0 : i = 0
    · subst h0
      (conv => whnf); repeat' (first | (refine callK_of hr ?_; rintro _ rfl; conv => whnf) | ((with_reducible first | apply kN | apply kW | apply kX | apply kG | apply kQ); (· exact sd); conv => whnf) | (refine pcase.mk ?_ ?_ <;> intro hc <;> (try rw [List.length_nil] at hc) <;> first | (exfalso; omega) | (exact absurd rfl hc) | conv => whnf) | (refine bcase_intro ?_ ?_ <;> intro hc <;> conv => whnf))
      all_goals first
        | exact again.mk ⟨_, by omega, 1, rfl, rfl, rfl, fun j hj => by
            obtain rfl : j = 0 := by omega
            exact fun _ => ⟨by omega, fun h => absurd h (by omega)⟩⟩
        | exact bool_f fun h => absurd (h.2 0 hlt hlt).1 (by omega)
        | (exfalso; omega)
        | (trace_state; fail "validQ0")
    · have ho := orderRR (x := l[i - 1]'(by omega)) (y := l[i])
      (conv => whnf); repeat' (first | (refine callK_of hr ?_; rintro _ rfl; conv => whnf) | (refine callK_of ho ?_; rintro _ rfl; conv => whnf) | (apply nthK_intro; (· exact nVz (i - 1) (by omega) (by omega)); conv => whnf) | ((with_reducible first | apply kN | apply kW | apply kX | apply kG | apply kQ); (· exact sd); conv => whnf) | (refine pcase.mk ?_ ?_ <;> intro hc <;> (try rw [List.length_nil] at hc) <;> first | (exfalso; omega) | (exact absurd rfl hc) | conv => whnf) | (refine bcase_intro ?_ ?_ <;> intro hc <;> conv => whnf))
      all_goals first
        | exact again.mk ⟨_, by omega, i + 1, rfl, rfl, rfl, fun j hj => by
            rcases Nat.lt_or_ge j i with h | h
            · exact hx j h
            · obtain rfl : j = i := by omega
              exact fun _ => ⟨by omega, fun _ => by omega⟩⟩
        | exact bool_f fun h => by have := h.2 i hlt hlt; omega
        | (exfalso; omega)
        | (trace_state; fail "validQ1")
  · (conv => whnf); repeat' (first  | ((with_reducible first | apply kN | apply kW | apply kX | apply kG | apply kQ); (· exact sd); conv => whnf) | (refine pcase.mk ?_ ?_ <;> intro hc <;> (try rw [List.length_nil] at hc) <;> first | (exfalso; omega) | (exact absurd rfl hc) | conv => whnf) | (refine bcase_intro ?_ ?_ <;> intro hc <;> conv => whnf))
    all_goals first
      | exact bool_t ⟨by omega, fun j hj => hx j (by omega)⟩
      | (trace_state; fail "validQ2")

theorem hasQ {l : List GR} {nn : Bool} {x : GR} (hl : l.length < 2^62) : PureP (findFn tab) 70 [.sl nn (vs GR.av l), x.av] (· = .bool (decide (x ∈ l))) := by
  refine pureP_of rfl rfl ?_
  (conv => whnf); repeat' (first  | ((with_reducible first | apply kN | apply kW | apply kX | apply kG | apply kQ); (· exact sd); conv => whnf) | (refine pcase.mk ?_ ?_ <;> intro hc <;> (try rw [List.length_nil] at hc) <;> first | (exfalso; omega) | (exact absurd rfl hc) | conv => whnf) | (refine bcase_intro ?_ ?_ <;> intro hc <;> conv => whnf))
  refine loop_inv (fun m env s => ∃ i : Nat, m = l.length - i ∧ env = [(0, .sl nn (vs GR.av l)), (3, .ref 0 0 0 0), (5, .int .i64 i)] ∧ s = ⟨[.arr 0 6 true true [x.av]], 1⟩ ∧ x ∉ l.take i) ?_ _ _ _ ⟨0, rfl, rfl, rfl, by simp⟩
  rintro _ _ _ ⟨i, rfl, rfl, rfl, hx⟩
  refine ⟨rfl, ?_⟩
  by_cases hlt : i < l.length
  · have ho := orderRR (x := l[i]) (y := x)
    (conv => whnf); repeat' (first | (refine callK_of ho ?_; rintro _ rfl; conv => whnf) | ((with_reducible first | apply kN | apply kW | apply kX | apply kG | apply kQ); (· exact sd); conv => whnf) | (refine pcase.mk ?_ ?_ <;> intro hc <;> (try rw [List.length_nil] at hc) <;> first | (exfalso; omega) | (exact absurd rfl hc) | conv => whnf) | (refine bcase_intro ?_ ?_ <;> intro hc <;> conv => whnf))
    all_goals first
      | exact bool_t (by rw [← cmpR_zero.1 hc]; exact List.getElem_mem hlt)
      | exact again.mk ⟨_, by omega, i + 1, rfl, rfl, rfl, nms hlt hx fun h => hc (cmpR_zero.2 h)⟩
      | (trace_state; fail "hasQ")
  · rw [List.take_of_length_le (by omega)] at hx
    (conv => whnf); repeat' (first  | ((with_reducible first | apply kN | apply kW | apply kX | apply kG | apply kQ); (· exact sd); conv => whnf) | (refine pcase.mk ?_ ?_ <;> intro hc <;> (try rw [List.length_nil] at hc) <;> first | (exfalso; omega) | (exact absurd rfl hc) | conv => whnf) | (refine bcase_intro ?_ ?_ <;> intro hc <;> conv => whnf))
    exact bool_f hx

theorem srtR {l : List GR} (h : validR l) {j : Nat} (h1 : j + 1 < l.length) : ltR l[j] l[j + 1] = true := ltR_iff.2 ((h.2 (j + 1) h1 h1).2 (by omega))
theorem strR {l : List GR} (h : validR l) : l.Pairwise fun x y => ltR x y = true := by
  rw [List.pairwise_iff_getElem]
  have : ∀ d i (hd : i + d + 1 < l.length), ltR l[i] l[i + d + 1] = true := by
    intro d
    induction d with
    | zero => exact fun i hd => srtR h hd
    | succ d ih => exact fun i hd => ltR_swo.trans _ _ _ (ih i (by omega)) (srtR h (j := i + d + 1) hd)
  intro i j hi hj hij
  obtain ⟨d, rfl⟩ : ∃ d, j = i + d + 1 := ⟨j - i - 1, by omega⟩
  exact this d i hj

/-- where a rule stands, or would stand -/
structure PosR (l : List GR) (x : GR) (z : Nat) : Prop where
  le : z ≤ l.length
  lo : ∀ k (h : k < l.length), k < z → ltR l[k] x = true
  hi : ∀ k (h : k < l.length), z ≤ k → ltR l[k] x = false
theorem PosR.uniq {l : List GR} {x : GR} {a b : Nat} (h : PosR l x a) (k : PosR l x b) : a = b := by
  have h1 : ¬ a < b := fun e => by
    have p := h.hi a (by have := k.le; omega) (by omega)
    have q := k.lo a (by have := k.le; omega) e
    rw [p] at q; cases q
  have h2 : ¬ b < a := fun e => by
    have p := k.hi b (by have := h.le; omega) (by omega)
    have q := h.lo b (by have := h.le; omega) e
    rw [p] at q; cases q
  omega
theorem PosR.mem {l : List GR} {x : GR} {z : Nat} (h : PosR l x z) (hs : l.Pairwise fun x y => ltR x y = true) : x ∈ l ↔ ∃ h : z < l.length, l[z] = x := by
  constructor
  · intro hx
    obtain ⟨k, hk, e⟩ := List.getElem_of_mem hx
    have h1 : ¬ k < z := fun hlt => by have := h.lo k hk hlt; rw [e, ltR_swo.irrefl] at this; cases this
    have h2 : ¬ z < k := fun hlt => by
      have a := List.pairwise_iff_getElem.1 hs z k (by omega) hk hlt
      rw [e] at a
      have b := h.hi z (by omega) (by omega)
      rw [a] at b; cases b
    obtain rfl : k = z := by omega
    exact ⟨hk, e⟩
  · rintro ⟨h1, e⟩
    rw [← e]; exact List.getElem_mem h1

theorem bsR {l : List GR} {nn : Bool} {x : GR} (hl : l.length < 2^61) (hs : l.Pairwise fun x y => ltR x y = true) : PureP (findFn tab) 58 [.sl nn (vs GR.av l), x.av, .fn 24 []] (fun v => ∃ (z : Nat) (b : Bool), v = .tup [.int .i64 z, .bool b] ∧ PosR l x z ∧ (b = true ↔ x ∈ l)) := by
  refine pureP_of rfl rfl ?_
  (conv => whnf); repeat' (first  | ((with_reducible first | apply kN | apply kW | apply kX | apply kG | apply kQ); (· exact sd); conv => whnf) | (refine pcase.mk ?_ ?_ <;> intro hc <;> (try rw [List.length_nil] at hc) <;> first | (exfalso; omega) | (exact absurd rfl hc) | conv => whnf) | (refine bcase_intro ?_ ?_ <;> intro hc <;> conv => whnf))
  refine loop_inv (fun m env s => ∃ (i j : Nat), m = j - i ∧ i ≤ j ∧ j ≤ l.length ∧ env = [(0, .sl nn (vs GR.av l)), (2, .fn 24 []), (4, .ref 0 0 0 0), (8, .int .i64 l.length), (9, .int .i64 i), (10, .int .i64 j)] ∧ s = ⟨[.arr 0 6 true true [x.av]], 1⟩ ∧
    (∀ k (h : k < l.length), k < i → ltR l[k] x = true) ∧ (∀ k (h : k < l.length), j ≤ k → ltR l[k] x = false)) ?_ _ _ _ ⟨0, l.length, rfl, by omega, by omega, by simp, rfl, fun k _ h => absurd h (by omega), fun k h1 h => absurd h (by omega)⟩
  rintro _ _ _ ⟨i, j, rfl, hij, hj, rfl, rfl, h1, h2⟩
  refine ⟨rfl, ?_⟩
  by_cases hlt : i < j
  · have ho := orderPR (x := l[(i + j) / 2]'(by omega)) (y := x)
    (conv => whnf); repeat' (first | (refine wrapU (i + j) (by omega) (by omega) ?_; conv => whnf) | (apply eqK_intro; (· exact shrE _); conv => whnf) | (refine callK_of ho ?_; rintro _ rfl; conv => whnf) | ((with_reducible first | apply kN | apply kW | apply kX | apply kG | apply kQ); (· exact sd); conv => whnf) | (refine pcase.mk ?_ ?_ <;> intro hc <;> (try rw [List.length_nil] at hc) <;> first | (exfalso; omega) | (exact absurd rfl hc) | conv => whnf) | (refine bcase_intro ?_ ?_ <;> intro hc <;> conv => whnf))
    all_goals first
      | (have hm := ltR_iff.2 hc
         exact again.mk ⟨_, by omega, (i + j) / 2 + 1, j, rfl, by omega, hj, rfl, rfl, fun k hk hlt => by
          rcases Nat.lt_or_ge k ((i + j) / 2) with h | h
          · exact ltR_swo.trans _ _ _ (List.pairwise_iff_getElem.1 hs k ((i + j) / 2) hk (by omega) h) hm
          · obtain rfl : k = (i + j) / 2 := by omega
            exact hm, h2⟩)
      | (have hm : ltR (l[(i + j) / 2]'(by omega)) x = false := ltR_no.2 (by omega)
         exact again.mk ⟨_, by omega, i, (i + j) / 2, rfl, by omega, by omega, rfl, rfl, h1, fun k hk hle => by
          rcases Nat.lt_or_ge ((i + j) / 2) k with h | h
          · have a := List.pairwise_iff_getElem.1 hs ((i + j) / 2) k (by omega) hk h
            cases e : ltR l[k] x with
            | false => rfl
            | true => rw [ltR_swo.trans _ _ _ a e] at hm; cases hm
          · obtain rfl : k = (i + j) / 2 := by omega
            exact hm⟩)
      | (trace_state; fail "bsR1")
  · obtain rfl : i = j := by omega
    have hp : PosR l x i := ⟨hj, h1, fun k hk h => h2 k hk h⟩
    by_cases hi : i < l.length
    · have ho := orderPR (x := l[i]) (y := x)
      (conv => whnf); repeat' (first | (refine callK_of ho ?_; rintro _ rfl; conv => whnf) | ((with_reducible first | apply kN | apply kW | apply kX | apply kG | apply kQ); (· exact sd); conv => whnf) | (refine pcase.mk ?_ ?_ <;> intro hc <;> (try rw [List.length_nil] at hc) <;> first | (exfalso; omega) | (exact absurd rfl hc) | conv => whnf) | (refine bcase_intro ?_ ?_ <;> intro hc <;> conv => whnf))
      all_goals first
        | exact ⟨_, _, rfl, hp, fun _ => (hp.mem hs).2 ⟨hi, cmpR_zero.1 hc⟩, fun _ => rfl⟩
        | exact ⟨_, _, rfl, hp, fun h => (Bool.noConfusion h), fun h => absurd (cmpR_zero.2 ((hp.mem hs).1 h).2) hc⟩
        | (trace_state; fail "bsR2")
    · (conv => whnf); repeat' (first  | ((with_reducible first | apply kN | apply kW | apply kX | apply kG | apply kQ); (· exact sd); conv => whnf) | (refine pcase.mk ?_ ?_ <;> intro hc <;> (try rw [List.length_nil] at hc) <;> first | (exfalso; omega) | (exact absurd rfl hc) | conv => whnf) | (refine bcase_intro ?_ ?_ <;> intro hc <;> conv => whnf))
      all_goals first
        | exact ⟨_, _, rfl, hp, fun h => (Bool.noConfusion h), fun h => absurd ((hp.mem hs).1 h).1 hi⟩
        | (trace_state; fail "bsR3")

end AI
end Go.Proofs.YtdlkcancogpafaaGreatDoor
set_option linter.unusedVariables false
namespace Go.Proofs.YtdlkcancogpafaaGreatDoor
namespace AI

theorem calls_ext {AP : Nat → Option AFn} {f : Nat} {sp : List AV → Sto → Option (AOut × Sto)} {args : List AV} {s s' : Sto} {out : AOut} {K : AOut → Sto → Prop} (hf : AP f = some (.ext sp)) (h : sp args s = some (out, s')) (hK : K out s') : Calls1 AP f args s K :=
  ⟨1, out, s', by simp only [run, hf]; exact h, hK⟩

/-- an increasing list of rules and a number -/
def SetR (M : GR → Prop) (v : AV) : Prop := ∃ b W, v = .tup [.sl b (vs GR.av W), .int .i64 0] ∧ W.Pairwise (fun x y => ltR x y = true) ∧ W.length < 2^61 ∧ ∀ y, y ∈ W ↔ M y
/-- what a function of rules answers -/
def outR (e : Int) (M : GR → Prop) (v : AV) : Prop := (e ≠ 0 → v = .tup [.sl false [], .int .i64 e]) ∧ (e = 0 → SetR M v)
theorem outR_e {e k : Int} {M : GR → Prop} (h : k = e) (h0 : k ≠ 0) : outR e M (.tup [.sl false [], .int .i64 k]) := by subst h; exact ⟨fun _ => rfl, fun h => absurd h h0⟩
theorem outR_0 {e : Int} {M : GR → Prop} {v : AV} (h : e = 0) (h2 : SetR M v) : outR e M v := ⟨fun k => absurd h k, fun _ => h2⟩

noncomputable def addE (l : List GR) (x : GR) : Int := by
  classical exact if ¬ validR l then 19 else if ruleE x ≠ 0 then ruleE x else if x ∈ l then 7 else if l.length = 40 then 20 else 0
noncomputable def dropE (l : List GR) (x : GR) : Int := by
  classical exact if ¬ validR l then 19 else if ruleE x ≠ 0 then ruleE x else if x ∉ l then 23 else 0

theorem insAt_set {l : List GR} {x : GR} {z : Nat} (hs : l.Pairwise fun x y => ltR x y = true) (hp : PosR l x z) (hx : x ∉ l) :
    (l.take z ++ x :: l.drop z).Pairwise (fun x y => ltR x y = true) ∧ ∀ y, y ∈ l.take z ++ x :: l.drop z ↔ y ∈ l ∨ y = x := by
  constructor
  · have h0 := List.take_append_drop z l
    rw [← h0] at hs
    rw [List.pairwise_append] at hs ⊢
    obtain ⟨a, b, c⟩ := hs
    have lo : ∀ y ∈ l.take z, ltR y x = true := fun y hy => by
      obtain ⟨k, hk, e⟩ := List.getElem_of_mem hy
      rw [List.length_take] at hk
      rw [List.getElem_take] at e
      rw [← e]; exact hp.lo k (by omega) (by omega)
    have hi : ∀ y ∈ l.drop z, ltR x y = true := fun y hy => by
      obtain ⟨k, hk, e⟩ := List.getElem_of_mem hy
      rw [List.length_drop] at hk
      rw [List.getElem_drop] at e
      have h1 := hp.hi (z + k) (by omega) (by omega)
      rw [e] at h1
      cases h2 : ltR x y with
      | true => rfl
      | false => exact absurd (ltR_tot _ _ h1 h2) (fun e2 => hx (by rw [← e2, ← e]; exact List.getElem_mem _))
    refine ⟨a, List.pairwise_cons.2 ⟨hi, b⟩, fun y hy w hw => ?_⟩
    rcases List.mem_cons.1 hw with rfl | hw
    · exact lo y hy
    · exact c y hy w hw
  · intro y
    conv => rhs; rw [← List.take_append_drop z l]
    simp only [List.mem_append, List.mem_cons]
    constructor
    · rintro (h | h | h) <;> simp [h]
    · rintro ((h | h) | h) <;> simp [h]

theorem delAt_set {l : List GR} {x : GR} {z : Nat} (hs : l.Pairwise fun x y => ltR x y = true) (hz : z < l.length) (hx : l[z] = x) :
    (l.take z ++ l.drop (z + 1)).Pairwise (fun x y => ltR x y = true) ∧ ∀ y, y ∈ l.take z ++ l.drop (z + 1) ↔ y ∈ l ∧ y ≠ x := by
  have h0 : l = l.take z ++ x :: l.drop (z + 1) := by rw [← hx, ← List.drop_eq_getElem_cons hz, List.take_append_drop]
  have hs2 := hs
  rw [h0] at hs2
  rw [List.pairwise_append, List.pairwise_cons] at hs2
  obtain ⟨a, ⟨b1, b2⟩, c⟩ := hs2
  constructor
  · exact List.pairwise_append.2 ⟨a, b2, fun y hy w hw => c y hy w (by simp [hw])⟩
  · intro y
    have n1 : y ∈ l.take z → y ≠ x := fun h e => by have := c y h x (by simp); rw [e, ltR_swo.irrefl] at this; cases this
    have n2 : y ∈ l.drop (z + 1) → y ≠ x := fun h e => by have := b1 y h; rw [e, ltR_swo.irrefl] at this; cases this
    constructor
    · intro h
      rcases List.mem_append.1 h with h | h
      · exact ⟨List.mem_of_mem_take h, n1 h⟩
      · exact ⟨List.mem_of_mem_drop h, n2 h⟩
    · rintro ⟨h, hne⟩
      rw [h0] at h
      simp only [List.mem_append, List.mem_cons] at h
      rcases h with h | h | h
      · exact List.mem_append.2 (.inl h)
      · exact absurd h hne
      · exact List.mem_append.2 (.inr h)

theorem appNewR {g es : Nat} {ys : List AV} {bytes : Nat} {K : Nat → Bool → Bool → List AV → Prop} (hs : AllSize es ys) (hr : ys.length * bytes ≤ 2 ^ 46) (h : K ys.length true true ys) :
    appendK g g es es 0 true true true [] ys bytes K := by
  refine ⟨⟨rfl, rfl, by simp, hs, ?_⟩, ?_⟩
  · rw [Nat.zero_add]; exact hr
  · rw [Nat.zero_add]; exact h
theorem cloneRn : Calls1 (findFn tab) 60 [.sl false []] ⟨[], 0⟩ fun out _ => out = .ok (.sl false []) := by
  refine calls1_of rfl rfl ?_
  (conv => whnf); repeat' (first  | ((with_reducible first | apply kN | apply kW | apply kX | apply kG | apply kQ); (· exact sd); conv => whnf) | (refine pcase.mk ?_ ?_ <;> intro hc <;> (try rw [List.length_nil] at hc) <;> first | (exfalso; omega) | (exact absurd rfl hc) | conv => whnf) | (refine bcase_intro ?_ ?_ <;> intro hc <;> conv => whnf))
  rfl
theorem cloneR {l : List GR} (hl : l.length ≤ 2000) : Calls1 (findFn tab) 60 [.sl true (vs GR.av l)] ⟨[], 0⟩ fun out s' => ∃ o g, out = .ok (.own o g 0 (vs GR.av l).length) ∧ nth s'.σ o = some (.arr g 6 true true (vs GR.av l)) := by
  refine calls1_of rfl rfl ?_
  (conv => whnf); repeat' (first  | ((with_reducible first | apply kN | apply kW | apply kX | apply kG | apply kQ); (· exact sd); conv => whnf) | (refine pcase.mk ?_ ?_ <;> intro hc <;> (try rw [List.length_nil] at hc) <;> first | (exfalso; omega) | (exact absurd rfl hc) | conv => whnf) | (refine bcase_intro ?_ ?_ <;> intro hc <;> conv => whnf))
  refine appNewR (allSize_vs (f := GR.av) (fun _ => rfl) l) (by rw [lV]; omega) ?_
  (conv => whnf); repeat' (first  | ((with_reducible first | apply kN | apply kW | apply kX | apply kG | apply kQ); (· exact sd); conv => whnf) | (refine pcase.mk ?_ ?_ <;> intro hc <;> (try rw [List.length_nil] at hc) <;> first | (exfalso; omega) | (exact absurd rfl hc) | conv => whnf) | (refine bcase_intro ?_ ?_ <;> intro hc <;> conv => whnf))
  exact ⟨_, _, rfl, rfl⟩

theorem insN {ob0 : Obj} {g1 g2 c : Nat} {z : Int} (hz : z = 0) {x : GR} {K : AOut → Sto → Prop} (hK : K (.ok (.own 3 c 0 1)) ⟨[ob0, .arr g1 1 false true [], .arr g2 6 true true [x.av], .arr c 6 true true [x.av]], c + 1⟩) :
    Calls1 (findFn tab) 59 [.own 1 g1 0 0, .int .i64 z, .own 2 g2 0 1] ⟨[ob0, .arr g1 1 false true [], .arr g2 6 true true [x.av]], c⟩ K :=
  calls_ext rfl (by subst hz; simp [insSpec, nth, push]) hK
theorem insL {ob0 : Obj} {g1 g2 c n z : Nat} {l : List GR} (hz : z ≤ l.length) (hl : l.length ≤ 2000) (hn : n = l.length) {x : GR} {K : AOut → Sto → Prop} (hK : K (.ok (.own 1 c 0 (n + 1))) ⟨[ob0, .arr c 6 true true (vs GR.av (l.take z ++ x :: l.drop z)), .arr g2 6 true true [x.av]], c + 1⟩) :
    Calls1 (findFn tab) 59 [.own 1 g1 0 n, .int .i64 z, .own 2 g2 0 1] ⟨[ob0, .arr g1 6 true true (vs GR.av l), .arr g2 6 true true [x.av]], c⟩ K := by
  subst hn
  have e : List.take z (vs GR.av l) ++ [x.av] ++ List.drop z (vs GR.av l) = vs GR.av (l.take z ++ x :: l.drop z) := by simp [vs, List.map_take, List.map_drop]
  refine calls_ext rfl ?_ hK
  unfold insSpec
  simp only [nth, lV, List.length_singleton, Int.toNat_natCast]
  rw [if_pos ⟨trivial, trivial, trivial, trivial, by omega, by omega, hz, Nat.le_refl _, Nat.le_refl _, by omega⟩]
  rw [← e, List.take_of_length_le (show (vs GR.av l).length ≤ l.length by simp)]
  rfl
theorem delL {ob0 : Obj} {g1 c n z : Nat} {y : Int} {l : List GR} (hz : z < l.length) (hy : y = (z : Int) + 1) (hn : n = l.length) {K : AOut → Sto → Prop} (hK : K (.ok (.own 1 c 0 (n - 1))) ⟨[ob0, .arr c 6 true true (vs GR.av (l.take z ++ l.drop (z + 1)))], c + 1⟩) :
    Calls1 (findFn tab) 61 [.own 1 g1 0 n, .int .i64 z, .int .i64 y] ⟨[ob0, .arr g1 6 true true (vs GR.av l)], c⟩ K := by
  subst hn
  have e : List.take z (vs GR.av l) ++ List.drop (z + 1) (vs GR.av l) = vs GR.av (l.take z ++ l.drop (z + 1)) := by simp [vs, List.map_take, List.map_drop]
  have hy2 : y.toNat = z + 1 := by omega
  refine calls_ext rfl ?_ hK
  unfold delSpec
  simp only [nth, lV, Int.toNat_natCast, hy2]
  rw [if_pos ⟨trivial, trivial, by omega, by omega, by omega, Nat.le_refl _⟩]
  rw [← e, List.take_of_length_le (show (vs GR.av l).length ≤ l.length by simp), show z + (l.length - (z + 1)) = l.length - 1 by omega]
  rfl

theorem addP {l : List GR} {nn : Bool} {x : GR} (hn : nn = false → l = []) (hl : l.length < 2^61) (hok : ∀ r ∈ l, r.ok) (hx : x.ok) : PureP (findFn tab) 20 [.sl nn (vs GR.av l), x.av] (outR (addE l x) fun y => y ∈ l ∨ y = x) := by
  have hv := vldP (nn := nn) (l := l) (by omega) hok
  have hr := ruleP hx
  by_cases h1 : validR l
  case neg =>
    rw [decide_eq_false h1] at hv
    refine pureP_of rfl rfl ?_
    (conv => whnf); repeat' (first | (refine callK_of hv ?_; rintro _ rfl; conv => whnf) | ((with_reducible first | apply kN | apply kW | apply kX | apply kG | apply kQ); (· exact sd); conv => whnf) | (refine pcase.mk ?_ ?_ <;> intro hc <;> (try rw [List.length_nil] at hc) <;> first | (exfalso; omega) | (exact absurd rfl hc) | conv => whnf) | (refine bcase_intro ?_ ?_ <;> intro hc <;> conv => whnf))
    all_goals exact outR_e (by unfold addE; simp [h1]) (by omega)
  rw [decide_eq_true h1] at hv
  by_cases h2 : ruleE x = 0
  case neg =>
    refine pureP_of rfl rfl ?_
    (conv => whnf); repeat' (first | (refine callK_of hv ?_; rintro _ rfl; conv => whnf) | (refine callK_of hr ?_; rintro _ rfl; conv => whnf) | ((with_reducible first | apply kN | apply kW | apply kX | apply kG | apply kQ); (· exact sd); conv => whnf) | (refine pcase.mk ?_ ?_ <;> intro hc <;> (try rw [List.length_nil] at hc) <;> first | (exfalso; omega) | (exact absurd rfl hc) | conv => whnf) | (refine bcase_intro ?_ ?_ <;> intro hc <;> conv => whnf))
    all_goals first | exact outR_e (by unfold addE; simp [h1, h2]) (by omega) | (exfalso; omega) | (trace_state; fail "addP2")
  rw [h2] at hr
  obtain ⟨_, ⟨z, b, rfl, hp, hb⟩, hbs⟩ := (bsR (nn := nn) (x := x) hl (strR h1)).det
  cases b with
  | true =>
    refine pureP_of rfl rfl ?_
    (conv => whnf); repeat' (first | (refine callK_of hv ?_; rintro _ rfl; conv => whnf) | (refine callK_of hr ?_; rintro _ rfl; conv => whnf) | (refine callK_of hbs ?_; rintro _ rfl; conv => whnf) | ((with_reducible first | apply kN | apply kW | apply kX | apply kG | apply kQ); (· exact sd); conv => whnf) | (refine pcase.mk ?_ ?_ <;> intro hc <;> (try rw [List.length_nil] at hc) <;> first | (exfalso; omega) | (exact absurd rfl hc) | conv => whnf) | (refine bcase_intro ?_ ?_ <;> intro hc <;> conv => whnf))
    all_goals first | exact outR_e (by unfold addE; simp [h1, h2, hb.1 rfl]) (by omega) | (exfalso; omega) | (trace_state; fail "addP3")
  | false =>
    have h3 : x ∉ l := fun h => Bool.noConfusion (hb.2 h)
    have hle := hp.le
    have h40 := h1.1
    obtain ⟨s1, s2⟩ := insAt_set (strR h1) hp h3
    by_cases h4 : l.length = 40
    · refine pureP_of rfl rfl ?_
      (conv => whnf); repeat' (first | (refine callK_of hv ?_; rintro _ rfl; conv => whnf) | (refine callK_of hr ?_; rintro _ rfl; conv => whnf) | (refine callK_of hbs ?_; rintro _ rfl; conv => whnf) | ((with_reducible first | apply kN | apply kW | apply kX | apply kG | apply kQ); (· exact sd); conv => whnf) | (refine pcase.mk ?_ ?_ <;> intro hc <;> (try rw [List.length_nil] at hc) <;> first | (exfalso; omega) | (exact absurd rfl hc) | conv => whnf) | (refine bcase_intro ?_ ?_ <;> intro hc <;> conv => whnf))
      all_goals first | exact outR_e (by unfold addE; simp [h1, h2, h3, h4]) (by omega) | (exfalso; omega) | (trace_state; fail "addP4")
    · have he : addE l x = 0 := by unfold addE; simp [h1, h2, h3, h4]
      cases nn with
      | false =>
        obtain rfl := hn rfl
        refine pureP_of rfl rfl ?_
        (conv => whnf); repeat' (first | (refine callK_of hv ?_; rintro _ rfl; conv => whnf) | (refine callK_of hr ?_; rintro _ rfl; conv => whnf) | (refine callK_of hbs ?_; rintro _ rfl; conv => whnf) | (refine ownK_nil rfl cloneRn ?_; conv => whnf) | ((with_reducible first | apply kN | apply kW | apply kX | apply kG | apply kQ); (· exact sd); conv => whnf) | (refine pcase.mk ?_ ?_ <;> intro hc <;> (try rw [List.length_nil] at hc) <;> first | (exfalso; omega) | (exact absurd rfl hc) | conv => whnf) | (refine bcase_intro ?_ ?_ <;> intro hc <;> conv => whnf))
        refine insN (by simp at hle; omega) ?_
        (conv => whnf); repeat' (first  | ((with_reducible first | apply kN | apply kW | apply kX | apply kG | apply kQ); (· exact sd); conv => whnf) | (refine pcase.mk ?_ ?_ <;> intro hc <;> (try rw [List.length_nil] at hc) <;> first | (exfalso; omega) | (exact absurd rfl hc) | conv => whnf) | (refine bcase_intro ?_ ?_ <;> intro hc <;> conv => whnf))
        refine outR_0 he ⟨true, [] ++ [x], rfl, ?_, by simp, fun y => by simp⟩
        simp
      | true =>
        refine pureP_of rfl rfl ?_
        (conv => whnf); repeat' (first | (refine callK_of hv ?_; rintro _ rfl; conv => whnf) | (refine callK_of hr ?_; rintro _ rfl; conv => whnf) | (refine callK_of hbs ?_; rintro _ rfl; conv => whnf) | (refine ownK rfl (cloneR (by omega)) ?_; conv => whnf) | ((with_reducible first | apply kN | apply kW | apply kX | apply kG | apply kQ); (· exact sd); conv => whnf) | (refine pcase.mk ?_ ?_ <;> intro hc <;> (try rw [List.length_nil] at hc) <;> first | (exfalso; omega) | (exact absurd rfl hc) | conv => whnf) | (refine bcase_intro ?_ ?_ <;> intro hc <;> conv => whnf))
        refine insL (by omega) (by omega) (lV _) ?_
        (conv => whnf); repeat' (first  | ((with_reducible first | apply kN | apply kW | apply kX | apply kG | apply kQ); (· exact sd); conv => whnf) | (refine pcase.mk ?_ ?_ <;> intro hc <;> (try rw [List.length_nil] at hc) <;> first | (exfalso; omega) | (exact absurd rfl hc) | conv => whnf) | (refine bcase_intro ?_ ?_ <;> intro hc <;> conv => whnf))
        have e : sub (vs GR.av (l.take z ++ x :: l.drop z)) 0 ((vs GR.av l).length + 1) = vs GR.av (l.take z ++ x :: l.drop z) := by
          rw [sub_vs, List.drop_zero, List.take_of_length_le (by simp; omega)]
        refine outR_0 he ⟨true, l.take z ++ x :: l.drop z, ?_, s1, by simp; omega, s2⟩
        show AV.tup [.sl true (sub (vs GR.av (l.take z ++ x :: l.drop z)) 0 ((vs GR.av l).length + 1)), .int .i64 0] = _
        rw [e]

theorem dropP {l : List GR} {nn : Bool} {x : GR} (hn : nn = false → l = []) (hl : l.length < 2^61) (hok : ∀ r ∈ l, r.ok) (hx : x.ok) : PureP (findFn tab) 21 [.sl nn (vs GR.av l), x.av] (outR (dropE l x) fun y => y ∈ l ∧ y ≠ x) := by
  have hv := vldP (nn := nn) (l := l) (by omega) hok
  have hr := ruleP hx
  by_cases h1 : validR l
  case neg =>
    rw [decide_eq_false h1] at hv
    refine pureP_of rfl rfl ?_
    (conv => whnf); repeat' (first | (refine callK_of hv ?_; rintro _ rfl; conv => whnf) | ((with_reducible first | apply kN | apply kW | apply kX | apply kG | apply kQ); (· exact sd); conv => whnf) | (refine pcase.mk ?_ ?_ <;> intro hc <;> (try rw [List.length_nil] at hc) <;> first | (exfalso; omega) | (exact absurd rfl hc) | conv => whnf) | (refine bcase_intro ?_ ?_ <;> intro hc <;> conv => whnf))
    all_goals exact outR_e (by unfold dropE; simp [h1]) (by omega)
  rw [decide_eq_true h1] at hv
  by_cases h2 : ruleE x = 0
  case neg =>
    refine pureP_of rfl rfl ?_
    (conv => whnf); repeat' (first | (refine callK_of hv ?_; rintro _ rfl; conv => whnf) | (refine callK_of hr ?_; rintro _ rfl; conv => whnf) | ((with_reducible first | apply kN | apply kW | apply kX | apply kG | apply kQ); (· exact sd); conv => whnf) | (refine pcase.mk ?_ ?_ <;> intro hc <;> (try rw [List.length_nil] at hc) <;> first | (exfalso; omega) | (exact absurd rfl hc) | conv => whnf) | (refine bcase_intro ?_ ?_ <;> intro hc <;> conv => whnf))
    all_goals first | exact outR_e (by unfold dropE; simp [h1, h2]) (by omega) | (exfalso; omega) | (trace_state; fail "dropP2")
  rw [h2] at hr
  obtain ⟨_, ⟨z, b, rfl, hp, hb⟩, hbs⟩ := (bsR (nn := nn) (x := x) hl (strR h1)).det
  cases b with
  | false =>
    have h3 : x ∉ l := fun h => Bool.noConfusion (hb.2 h)
    refine pureP_of rfl rfl ?_
    (conv => whnf); repeat' (first | (refine callK_of hv ?_; rintro _ rfl; conv => whnf) | (refine callK_of hr ?_; rintro _ rfl; conv => whnf) | (refine callK_of hbs ?_; rintro _ rfl; conv => whnf) | ((with_reducible first | apply kN | apply kW | apply kX | apply kG | apply kQ); (· exact sd); conv => whnf) | (refine pcase.mk ?_ ?_ <;> intro hc <;> (try rw [List.length_nil] at hc) <;> first | (exfalso; omega) | (exact absurd rfl hc) | conv => whnf) | (refine bcase_intro ?_ ?_ <;> intro hc <;> conv => whnf))
    all_goals first | exact outR_e (by unfold dropE; simp [h1, h2, h3]) (by omega) | (exfalso; omega) | (trace_state; fail "dropP3")
  | true =>
    have h3 := hb.1 rfl
    obtain ⟨hz, hz2⟩ := (hp.mem (strR h1)).1 h3
    obtain ⟨s1, s2⟩ := delAt_set (strR h1) hz hz2
    have h40 := h1.1
    have he : dropE l x = 0 := by unfold dropE; simp [h1, h2, h3]
    obtain rfl : nn = true := by
      cases nn with
      | true => rfl
      | false => rw [hn rfl] at hz; simp at hz
    refine pureP_of rfl rfl ?_
    (conv => whnf); repeat' (first | (refine callK_of hv ?_; rintro _ rfl; conv => whnf) | (refine callK_of hr ?_; rintro _ rfl; conv => whnf) | (refine callK_of hbs ?_; rintro _ rfl; conv => whnf) | (refine ownK rfl (cloneR (by omega)) ?_; conv => whnf) | ((with_reducible first | apply kN | apply kW | apply kX | apply kG | apply kQ); (· exact sd); conv => whnf) | (refine pcase.mk ?_ ?_ <;> intro hc <;> (try rw [List.length_nil] at hc) <;> first | (exfalso; omega) | (exact absurd rfl hc) | conv => whnf) | (refine bcase_intro ?_ ?_ <;> intro hc <;> conv => whnf))
    refine delL hz rfl (lV _) ?_
    (conv => whnf); repeat' (first  | ((with_reducible first | apply kN | apply kW | apply kX | apply kG | apply kQ); (· exact sd); conv => whnf) | (refine pcase.mk ?_ ?_ <;> intro hc <;> (try rw [List.length_nil] at hc) <;> first | (exfalso; omega) | (exact absurd rfl hc) | conv => whnf) | (refine bcase_intro ?_ ?_ <;> intro hc <;> conv => whnf))
    have e : sub (vs GR.av (l.take z ++ l.drop (z + 1))) 0 ((vs GR.av l).length - 1) = vs GR.av (l.take z ++ l.drop (z + 1)) := by
      rw [sub_vs, List.drop_zero, List.take_of_length_le (by simp; omega)]
    refine outR_0 he ⟨true, l.take z ++ l.drop (z + 1), ?_, s1, by simp; omega, s2⟩
    show AV.tup [.sl true (sub (vs GR.av (l.take z ++ l.drop (z + 1))) 0 ((vs GR.av l).length - 1)), .int .i64 0] = _
    rw [e]

end AI
end Go.Proofs.YtdlkcancogpafaaGreatDoor
set_option linter.unusedVariables false
namespace Go.Proofs.YtdlkcancogpafaaGreatDoor
namespace AI

theorem take_snoc {α : Type} {l : List α} {i : Nat} (h : i < l.length) : l.take i ++ [l[i]] = l.take (i + 1) := (List.take_succ_eq_append_getElem h).symm

theorem addL2 {l L0 : List GR} {nn : Bool} {z n g c : Nat} {b : Bool} {ob0 : Obj} (hz : z ≤ l.length) (hl : l.length ≤ 40) (h0 : L0.length ≤ 41) (hn : n = L0.length) {Q : AExit → Env → Sto → Prop}
    (hQ : ∀ c' g b n tl, n = (L0 ++ l.drop z).length → Q (.exit 2) ([(0, .sl nn (vs GR.av l)), (7, .own 1 g 0 n)] ++ tl) ⟨[ob0, .arr g 6 b true (vs GR.av (L0 ++ l.drop z))], c'⟩) :
    Run (findFn tab) (.loop l27_1_h l27_1_b) [(0, .sl nn (vs GR.av l)), (7, .own 1 g 0 n), (10, .int .i64 z)] ⟨[ob0, .arr g 6 b true (vs GR.av L0)], c⟩ Q := by
  refine loop_inv (fun m env s => ∃ (i n g c : Nat) (b : Bool) (L : List GR), m = l.length - i ∧ z ≤ i ∧ i ≤ l.length ∧ L = L0 ++ (l.drop z).take (i - z) ∧ n = L.length ∧ env = [(0, .sl nn (vs GR.av l)), (7, .own 1 g 0 n), (10, .int .i64 i)] ∧ s = ⟨[ob0, .arr g 6 b true (vs GR.av L)], c⟩) ?_ _ _ _ ⟨z, _, _, _, _, L0, rfl, by omega, hz, by simp, hn, rfl, rfl⟩
  rintro _ _ _ ⟨i, n, g, c, b, L, rfl, hzi, hi, hL, hn, rfl, rfl⟩
  refine ⟨rfl, ?_⟩
  have hLl : L.length = L0.length + (i - z) := by rw [hL, List.length_append, List.length_take, List.length_drop]; omega
  by_cases hlt : i < l.length
  · have e : L ++ [l[i]] = L0 ++ (l.drop z).take (i + 1 - z) := by
      have h2 : (l.drop z)[i - z]'(by simp; omega) = l[i] := by rw [List.getElem_drop]; congr 1; omega
      rw [hL, show i + 1 - z = (i - z) + 1 by omega, List.take_succ_eq_append_getElem (by simp; omega), h2, List.append_assoc]
    (conv => whnf); repeat' (first | (refine apV1 (x := l[i]) cellsR hn (by omega) ?_; conv => whnf) | ((with_reducible first | apply kN | apply kW | apply kX | apply kG | apply kQ); (· exact sd); conv => whnf) | (refine pcase.mk ?_ ?_ <;> intro hc <;> (try rw [List.length_nil] at hc) <;> first | (exfalso; omega) | (exact absurd rfl hc) | conv => whnf) | (refine bcase_intro ?_ ?_ <;> intro hc <;> conv => whnf))
    exact again.mk ⟨_, by omega, i + 1, _, _, _, _, _, rfl, by omega, by omega, e, by simp, rfl, rfl⟩
  · have e : L = L0 ++ l.drop z := by rw [hL, List.take_of_length_le (by simp; omega)]
    subst e
    (conv => whnf); repeat' (first  | ((with_reducible first | apply kN | apply kW | apply kX | apply kG | apply kQ); (· exact sd); conv => whnf) | (refine pcase.mk ?_ ?_ <;> intro hc <;> (try rw [List.length_nil] at hc) <;> first | (exfalso; omega) | (exact absurd rfl hc) | conv => whnf) | (refine bcase_intro ?_ ?_ <;> intro hc <;> conv => whnf))
    exact hQ _ _ _ _ _ hn

set_option maxHeartbeats 1000000 in
theorem addQ {l : List GR} {nn : Bool} {x : GR} (hl : l.length < 2^61) (hok : ∀ r ∈ l, r.ok) (hx : x.ok) : PureP (findFn tab) 27 [.sl nn (vs GR.av l), x.av] (outR (addE l x) fun y => y ∈ l ∨ y = x) := by
  have hv := vldQ (nn := nn) (l := l) (by omega) hok
  have hr := ruleR hx
  have hh := hasQ (nn := nn) (l := l) (x := x) (by omega)
  by_cases h1 : validR l
  case neg =>
    rw [decide_eq_false h1] at hv
    refine pureP_of rfl rfl ?_
    (conv => whnf); repeat' (first | (refine callK_of hv ?_; rintro _ rfl; conv => whnf) | ((with_reducible first | apply kN | apply kW | apply kX | apply kG | apply kQ); (· exact sd); conv => whnf) | (refine pcase.mk ?_ ?_ <;> intro hc <;> (try rw [List.length_nil] at hc) <;> first | (exfalso; omega) | (exact absurd rfl hc) | conv => whnf) | (refine bcase_intro ?_ ?_ <;> intro hc <;> conv => whnf))
    all_goals exact outR_e (by unfold addE; simp [h1]) (by omega)
  rw [decide_eq_true h1] at hv
  by_cases h2 : ruleE x = 0
  case neg =>
    refine pureP_of rfl rfl ?_
    (conv => whnf); repeat' (first | (refine callK_of hv ?_; rintro _ rfl; conv => whnf) | (refine callK_of hr ?_; rintro _ rfl; conv => whnf) | ((with_reducible first | apply kN | apply kW | apply kX | apply kG | apply kQ); (· exact sd); conv => whnf) | (refine pcase.mk ?_ ?_ <;> intro hc <;> (try rw [List.length_nil] at hc) <;> first | (exfalso; omega) | (exact absurd rfl hc) | conv => whnf) | (refine bcase_intro ?_ ?_ <;> intro hc <;> conv => whnf))
    all_goals first | exact outR_e (by unfold addE; simp [h1, h2]) (by omega) | (exfalso; omega) | (trace_state; fail "addQ2")
  rw [h2] at hr
  by_cases h3 : x ∈ l
  · rw [decide_eq_true h3] at hh
    refine pureP_of rfl rfl ?_
    (conv => whnf); repeat' (first | (refine callK_of hv ?_; rintro _ rfl; conv => whnf) | (refine callK_of hr ?_; rintro _ rfl; conv => whnf) | (refine callK_of hh ?_; rintro _ rfl; conv => whnf) | ((with_reducible first | apply kN | apply kW | apply kX | apply kG | apply kQ); (· exact sd); conv => whnf) | (refine pcase.mk ?_ ?_ <;> intro hc <;> (try rw [List.length_nil] at hc) <;> first | (exfalso; omega) | (exact absurd rfl hc) | conv => whnf) | (refine bcase_intro ?_ ?_ <;> intro hc <;> conv => whnf))
    all_goals first | exact outR_e (by unfold addE; simp [h1, h2, h3]) (by omega) | (exfalso; omega) | (trace_state; fail "addQ3")
  rw [decide_eq_false h3] at hh
  have h40 := h1.1
  by_cases h4 : l.length = 40
  · refine pureP_of rfl rfl ?_
    (conv => whnf); repeat' (first | (refine callK_of hv ?_; rintro _ rfl; conv => whnf) | (refine callK_of hr ?_; rintro _ rfl; conv => whnf) | (refine callK_of hh ?_; rintro _ rfl; conv => whnf) | ((with_reducible first | apply kN | apply kW | apply kX | apply kG | apply kQ); (· exact sd); conv => whnf) | (refine pcase.mk ?_ ?_ <;> intro hc <;> (try rw [List.length_nil] at hc) <;> first | (exfalso; omega) | (exact absurd rfl hc) | conv => whnf) | (refine bcase_intro ?_ ?_ <;> intro hc <;> conv => whnf))
    all_goals first | exact outR_e (by unfold addE; simp [h1, h2, h3, h4]) (by omega) | (exfalso; omega) | (trace_state; fail "addQ4")
  have he : addE l x = 0 := by unfold addE; simp [h1, h2, h3, h4]
  refine pureP_of rfl rfl ?_
  (conv => whnf); repeat' (first | (refine callK_of hv ?_; rintro _ rfl; conv => whnf) | (refine callK_of hr ?_; rintro _ rfl; conv => whnf) | (refine callK_of hh ?_; rintro _ rfl; conv => whnf) | ((with_reducible first | apply kN | apply kW | apply kX | apply kG | apply kQ); (· exact sd); conv => whnf) | (refine pcase.mk ?_ ?_ <;> intro hc <;> (try rw [List.length_nil] at hc) <;> first | (exfalso; omega) | (exact absurd rfl hc) | conv => whnf) | (refine bcase_intro ?_ ?_ <;> intro hc <;> conv => whnf))
  all_goals first | (exfalso; omega) | skip
  refine loop_inv (fun m env s => ∃ (i n g c : Nat) (b : Bool) (L : List GR), m = l.length - i ∧ i ≤ l.length ∧ L = l.take i ∧ n = L.length ∧ env = [(0, .sl nn (vs GR.av l)), (3, .ref 0 0 0 0), (7, .own 1 g 0 n), (8, .int .i64 i)] ∧ s = ⟨[.arr 0 6 true true [x.av], .arr g 6 b true (vs GR.av L)], c⟩ ∧ ∀ k (h : k < l.length), k < i → ltR l[k] x = true) ?_ _ _ _ ⟨0, 0, _, _, _, [], rfl, by omega, rfl, rfl, rfl, rfl, fun k _ h => absurd h (by omega)⟩
  rintro _ _ _ ⟨i, n, g, c, b, L, rfl, hi, hL, hn, rfl, rfl, hx1⟩
  refine ⟨rfl, ?_⟩
  have hLl : L.length = i := by rw [hL, List.length_take]; omega
  have hni : i = n := by omega
  subst hni
  have fin : ∀ b, PosR l x i → outR (addE l x) (fun y => y ∈ l ∨ y = x) (.tup [.sl b (vs GR.av (L ++ [x] ++ l.drop i)), .int .i64 0])   := fun b hp => by
    obtain ⟨s1, s2⟩ := insAt_set (strR h1) hp h3
    have e : L ++ [x] ++ l.drop i = l.take i ++ x :: l.drop i := by rw [hL]; simp
    rw [e]
    exact outR_0 he ⟨b, _, rfl, s1, by simp; omega, s2⟩
  by_cases hlt : i < l.length
  · have ho := orderRR (x := l[i]) (y := x)
    (conv => whnf); repeat' (first | (refine callK_of ho ?_; rintro _ rfl; conv => whnf) | (refine apV1 (x := l[i]) cellsR hn (by omega) ?_; conv => whnf) | (refine apV1 (x := x) cellsR hn (by omega) ?_; conv => whnf) | ((with_reducible first | apply kN | apply kW | apply kX | apply kG | apply kQ); (· exact sd); conv => whnf) | (refine pcase.mk ?_ ?_ <;> intro hc <;> (try rw [List.length_nil] at hc) <;> first | (exfalso; omega) | (exact absurd rfl hc) | conv => whnf) | (refine bcase_intro ?_ ?_ <;> intro hc <;> conv => whnf))
    all_goals first
      | exact again.mk ⟨_, by omega, i + 1, _, _, _, _, _, rfl, by omega, by rw [hL]; exact take_snoc hlt, by simp, rfl, rfl, fun k hk hlt2 => by
          rcases Nat.lt_or_ge k i with h | h
          · exact hx1 k hk h
          · obtain rfl : k = i := by omega
            exact ltR_iff.2 hc⟩
      | (refine addL2 (z := i) (L0 := L ++ [x]) (by omega) (by omega) (by simp; omega) (by simp) ?_
         intro c' g b n tl hn2
         have hf := fin b ⟨hi, hx1, fun k hk hle => by
          have h0 : ltR l[i] x = false := ltR_no.2 (by omega)
          rcases Nat.lt_or_ge i k with h | h
          · cases e : ltR l[k] x with
            | false => rfl
            | true => rw [ltR_swo.trans _ _ _ (List.pairwise_iff_getElem.1 (strR h1) i k hlt hk h) e] at h0; cases h0
          · obtain rfl : k = i := by omega
            exact h0⟩
         (conv => whnf); repeat' (first  | ((with_reducible first | apply kN | apply kW | apply kX | apply kG | apply kQ); (· exact sd); conv => whnf) | (refine pcase.mk ?_ ?_ <;> intro hc <;> (try rw [List.length_nil] at hc) <;> first | (exfalso; omega) | (exact absurd rfl hc) | conv => whnf) | (refine bcase_intro ?_ ?_ <;> intro hc <;> conv => whnf))
         rw [hn2, sub_vs, List.drop_zero, List.take_length]
         exact hf)
      | (trace_state; fail "addQ5")
  · (conv => whnf); repeat' (first | (refine apV1 (x := x) cellsR hn (by omega) ?_; conv => whnf) | ((with_reducible first | apply kN | apply kW | apply kX | apply kG | apply kQ); (· exact sd); conv => whnf) | (refine pcase.mk ?_ ?_ <;> intro hc <;> (try rw [List.length_nil] at hc) <;> first | (exfalso; omega) | (exact absurd rfl hc) | conv => whnf) | (refine bcase_intro ?_ ?_ <;> intro hc <;> conv => whnf))
    all_goals first
      | (refine addL2 (z := i) (L0 := L ++ [x]) (by omega) (by omega) (by simp; omega) (by simp) ?_
         intro c' g b n tl hn2
         have hf := fin b ⟨hi, hx1, fun k hk hle => absurd hk (by omega)⟩
         (conv => whnf); repeat' (first  | ((with_reducible first | apply kN | apply kW | apply kX | apply kG | apply kQ); (· exact sd); conv => whnf) | (refine pcase.mk ?_ ?_ <;> intro hc <;> (try rw [List.length_nil] at hc) <;> first | (exfalso; omega) | (exact absurd rfl hc) | conv => whnf) | (refine bcase_intro ?_ ?_ <;> intro hc <;> conv => whnf))
         rw [hn2, sub_vs, List.drop_zero, List.take_length]
         exact hf)
      | (trace_state; fail "addQ6")

theorem filt_snoc {l : List GR} {x : GR} {i : Nat} (h : i < l.length) : (l.take (i + 1)).filter (fun y => decide (y ≠ x)) = (l.take i).filter (fun y => decide (y ≠ x)) ++ if l[i] = x then [] else [l[i]] := by
  rw [List.take_succ_eq_append_getElem h, List.filter_append]
  by_cases e : l[i] = x <;> simp [e]

set_option maxHeartbeats 1000000 in
theorem dropQ {l : List GR} {nn : Bool} {x : GR} (hl : l.length < 2^61) (hok : ∀ r ∈ l, r.ok) (hx : x.ok) : PureP (findFn tab) 28 [.sl nn (vs GR.av l), x.av] (outR (dropE l x) fun y => y ∈ l ∧ y ≠ x) := by
  have hv := vldQ (nn := nn) (l := l) (by omega) hok
  have hr := ruleR hx
  have hh := hasQ (nn := nn) (l := l) (x := x) (by omega)
  by_cases h1 : validR l
  case neg =>
    rw [decide_eq_false h1] at hv
    refine pureP_of rfl rfl ?_
    (conv => whnf); repeat' (first | (refine callK_of hv ?_; rintro _ rfl; conv => whnf) | ((with_reducible first | apply kN | apply kW | apply kX | apply kG | apply kQ); (· exact sd); conv => whnf) | (refine pcase.mk ?_ ?_ <;> intro hc <;> (try rw [List.length_nil] at hc) <;> first | (exfalso; omega) | (exact absurd rfl hc) | conv => whnf) | (refine bcase_intro ?_ ?_ <;> intro hc <;> conv => whnf))
    all_goals exact outR_e (by unfold dropE; simp [h1]) (by omega)
  rw [decide_eq_true h1] at hv
  by_cases h2 : ruleE x = 0
  case neg =>
    refine pureP_of rfl rfl ?_
    (conv => whnf); repeat' (first | (refine callK_of hv ?_; rintro _ rfl; conv => whnf) | (refine callK_of hr ?_; rintro _ rfl; conv => whnf) | ((with_reducible first | apply kN | apply kW | apply kX | apply kG | apply kQ); (· exact sd); conv => whnf) | (refine pcase.mk ?_ ?_ <;> intro hc <;> (try rw [List.length_nil] at hc) <;> first | (exfalso; omega) | (exact absurd rfl hc) | conv => whnf) | (refine bcase_intro ?_ ?_ <;> intro hc <;> conv => whnf))
    all_goals first | exact outR_e (by unfold dropE; simp [h1, h2]) (by omega) | (exfalso; omega) | (trace_state; fail "dropQ2")
  rw [h2] at hr
  by_cases h3 : x ∈ l
  case neg =>
    rw [decide_eq_false h3] at hh
    refine pureP_of rfl rfl ?_
    (conv => whnf); repeat' (first | (refine callK_of hv ?_; rintro _ rfl; conv => whnf) | (refine callK_of hr ?_; rintro _ rfl; conv => whnf) | (refine callK_of hh ?_; rintro _ rfl; conv => whnf) | ((with_reducible first | apply kN | apply kW | apply kX | apply kG | apply kQ); (· exact sd); conv => whnf) | (refine pcase.mk ?_ ?_ <;> intro hc <;> (try rw [List.length_nil] at hc) <;> first | (exfalso; omega) | (exact absurd rfl hc) | conv => whnf) | (refine bcase_intro ?_ ?_ <;> intro hc <;> conv => whnf))
    all_goals first | exact outR_e (by unfold dropE; simp [h1, h2, h3]) (by omega) | (exfalso; omega) | (trace_state; fail "dropQ3")
  rw [decide_eq_true h3] at hh
  have h40 := h1.1
  have he : dropE l x = 0 := by unfold dropE; simp [h1, h2, h3]
  refine pureP_of rfl rfl ?_
  (conv => whnf); repeat' (first | (refine callK_of hv ?_; rintro _ rfl; conv => whnf) | (refine callK_of hr ?_; rintro _ rfl; conv => whnf) | (refine callK_of hh ?_; rintro _ rfl; conv => whnf) | ((with_reducible first | apply kN | apply kW | apply kX | apply kG | apply kQ); (· exact sd); conv => whnf) | (refine pcase.mk ?_ ?_ <;> intro hc <;> (try rw [List.length_nil] at hc) <;> first | (exfalso; omega) | (exact absurd rfl hc) | conv => whnf) | (refine bcase_intro ?_ ?_ <;> intro hc <;> conv => whnf))
  all_goals first | (exfalso; omega) | skip
  refine loop_inv (fun m env s => ∃ (i n g c : Nat) (b : Bool) (L : List GR), m = l.length - i ∧ i ≤ l.length ∧ L = (l.take i).filter (fun y => decide (y ≠ x)) ∧ n = L.length ∧ L.length ≤ i ∧ env = [(0, .sl nn (vs GR.av l)), (3, .ref 0 0 0 0), (7, .own 1 g 0 n), (8, .int .i64 i)] ∧ s = ⟨[.arr 0 6 true true [x.av], .arr g 6 b true (vs GR.av L)], c⟩) ?_ _ _ _ ⟨0, 0, _, _, _, [], rfl, by omega, by simp, rfl, by simp, rfl, rfl⟩
  rintro _ _ _ ⟨i, n, g, c, b, L, rfl, hi, hL, hn, hLl, rfl, rfl⟩
  refine ⟨rfl, ?_⟩
  by_cases hlt : i < l.length
  · have ho := orderRR (x := l[i]) (y := x)
    have hs := filt_snoc (x := x) hlt
    rw [← hL] at hs
    (conv => whnf); repeat' (first | (refine callK_of ho ?_; rintro _ rfl; conv => whnf) | (refine apV1 (x := l[i]) cellsR hn (by omega) ?_; conv => whnf) | ((with_reducible first | apply kN | apply kW | apply kX | apply kG | apply kQ); (· exact sd); conv => whnf) | (refine pcase.mk ?_ ?_ <;> intro hc <;> (try rw [List.length_nil] at hc) <;> first | (exfalso; omega) | (exact absurd rfl hc) | conv => whnf) | (refine bcase_intro ?_ ?_ <;> intro hc <;> conv => whnf))
    all_goals first
      | (rw [if_neg fun e => absurd (cmpR_zero.2 e) (by assumption)] at hs
         exact again.mk ⟨_, by omega, i + 1, _, _, _, _, _, rfl, by omega, hs.symm, by simp, by simp; omega, rfl, rfl⟩)
      | (rw [if_pos (cmpR_zero.1 (by omega)), List.append_nil] at hs
         exact again.mk ⟨_, by omega, i + 1, _, _, _, _, _, rfl, by omega, hs.symm, hn, by omega, rfl, rfl⟩)
      | (trace_state; fail "dropQ5")
  · rw [List.take_of_length_le (by omega)] at hL
    (conv => whnf); repeat' (first  | ((with_reducible first | apply kN | apply kW | apply kX | apply kG | apply kQ); (· exact sd); conv => whnf) | (refine pcase.mk ?_ ?_ <;> intro hc <;> (try rw [List.length_nil] at hc) <;> first | (exfalso; omega) | (exact absurd rfl hc) | conv => whnf) | (refine bcase_intro ?_ ?_ <;> intro hc <;> conv => whnf))
    rw [hn, sub_vs, List.drop_zero, List.take_length]
    exact outR_0 he ⟨b, L, rfl, by rw [hL]; exact (strR h1).filter _, by omega, fun y => by rw [hL]; simp⟩

end AI
end Go.Proofs.YtdlkcancogpafaaGreatDoor
