/- The properties of a node of a valid graph; what a migration changes at a node. What a migration changes at a node and at an edge: the program's and the reference's. -/
import Derived.Test.YtdlkcancogpafaaGreatDoorMZ
import Derived.Test.YtdlkcancogpafaaGreatDoorMH
import Derived.Test.YtdlkcancogpafaaGreatDoorMK
import Derived.Test.YtdlkcancogpafaaGreatDoorDtA
import Derived.Test.YtdlkcancogpafaaGreatDoorEX1
import Derived.Test.YtdlkcancogpafaaGreatDoorEX2
set_option linter.unusedVariables false
set_option maxRecDepth 4000
namespace Go.Proofs.YtdlkcancogpafaaGreatDoor
namespace AI

/-- values that may be stored -/
def Leafy (l : List GP) : Prop := ∀ p ∈ l, leafV p.v
def hasK (l : List GP) (k : List UInt8) : Prop := ∃ p ∈ l, p.key = k
instance (l : List GP) (k : List UInt8) : Decidable (hasK l k) := by unfold hasK; infer_instance
def valP (l : List GP) (k : List UInt8) : GV := match l.find? (isK k) with
  | some p => p.v
  | none => V0
theorem propR_val (l : List GP) (k : List UInt8) : propR l k = (valP l k).av := by
  unfold propR valP; cases l.find? (isK k) <;> rfl
theorem leaf_k {v : GV} (h : leafV v) : v.k ≠ 0 := by have := leaf_kind h; unfold kindP at this; omega
theorem valP_k {l : List GP} (h : Leafy l) (k : List UInt8) : (valP l k).k = 0 ↔ ¬ hasK l k := by
  unfold valP hasK
  cases hf : l.find? (isK k) with
  | none =>
    refine ⟨fun _ => ?_, fun _ => rfl⟩
    rintro ⟨p, hp, rfl⟩
    have := List.find?_eq_none.1 hf p hp
    simp [isK] at this
  | some p =>
    have h1 := List.mem_of_find?_eq_some hf
    have h2 := List.find?_some hf
    refine ⟨fun h0 => absurd h0 (leaf_k (h p h1)), fun h0 => absurd ⟨p, h1, of_decide_eq_true h2⟩ h0⟩
theorem valP_good {l : List GP} (hg : ∀ p ∈ l, p.ok ∧ Lite 12 p.v.av) (k : List UInt8) : (valP l k).ok ∧ Lite 12 (valP l k).av := by
  unfold valP
  cases h : l.find? (isK k) with
  | none => exact v0_ok
  | some p => exact ⟨(hg p (List.mem_of_find?_eq_some h)).1.2, (hg p (List.mem_of_find?_eq_some h)).2⟩

/-- the properties that a migration meets -/
def FairP (l : List GP) : Prop := GoodP l ∧ Leafy l
theorem FairP.len {l : List GP} (h : FairP l) : l.length < 2^63 := by have := h.1.1; omega

theorem hasEv {l : List GP} {nn : Bool} (h : FairP l) {k : List UInt8} : PureP (findFn tab) 81 [.sl nn (vs GP.av l), .str k] (· = .bool (decide (hasK l k))) := by
  have hp := propA (nn := nn) h.len h.1.2 (k := k)
  rw [propR_val] at hp
  have hk := valP_k h.2 k
  refine pureP_of rfl rfl ?_
  (conv => whnf); repeat' (first | (refine callK_of hp ?_; rintro _ rfl; conv => whnf) | ((with_reducible first | apply kN | apply kW | apply kX | apply kG | apply kQ); (· exact sd); conv => whnf) | (refine pcase.mk ?_ ?_ <;> intro hc <;> (try rw [List.length_nil] at hc) <;> first | (exfalso; omega) | (exact absurd rfl hc) | conv => whnf) | (refine bcase_intro ?_ ?_ <;> intro hc <;> conv => whnf))
  all_goals first | exact bool_t (by grind) | exact bool_f (by grind) | (trace_state; fail "hasEv")

theorem hasRf {n : GN} (hl : n.props.length < 2^63) {k : List UInt8} : PureP (findFn tab) 87 [n.av, .str k] (· = .bool (decide (hasK n.props k))) := by
  refine pureP_of rfl rfl ?_
  (conv => whnf); repeat' (first  | ((with_reducible first | apply kN | apply kW | apply kX | apply kG | apply kQ); (· exact sd); conv => whnf) | (refine pcase.mk ?_ ?_ <;> intro hc <;> (try rw [List.length_nil] at hc) <;> first | (exfalso; omega) | (exact absurd rfl hc) | conv => whnf) | (refine bcase_intro ?_ ?_ <;> intro hc <;> conv => whnf))
  refine loop_inv (fun m env s => ∃ i c : Nat, m = n.props.length - i ∧ (∀ x ∈ n.props.take i, ¬ x.key = k) ∧ env = [(1, .str k), (2, .ref 0 0 0 0), (5, .int .i64 i)] ∧ s = ⟨[.arr 0 3 true true [n.av]], c⟩) ?_ _ _ _ ⟨0, _, rfl, by simp, rfl, rfl⟩
  rintro _ _ _ ⟨i, c, rfl, hx, rfl, rfl⟩
  refine ⟨rfl, ?_⟩
  (conv => whnf); repeat' (first  | ((with_reducible first | apply kN | apply kW | apply kX | apply kG | apply kQ); (· exact sd); conv => whnf) | (refine pcase.mk ?_ ?_ <;> intro hc <;> (try rw [List.length_nil] at hc) <;> first | (exfalso; omega) | (exact absurd rfl hc) | conv => whnf) | (refine bcase_intro ?_ ?_ <;> intro hc <;> conv => whnf))
  · exact bool_t ⟨_, List.getElem_mem (by omega), hc⟩
  · exact again.mk ⟨_, by omega, i + 1, _, rfl, all_take_succ (by omega) hx hc, rfl, rfl⟩
  · rw [take_all hc] at hx
    exact bool_f fun ⟨p, hp, h⟩ => hx p hp h

/-- a change of a node or an edge -/
def chg (op id : Int) (k : List UInt8) (v : GV) : GC := ⟨op, id, 0, 0, k, v⟩

/-- what a migration changes at a node -/
def nodeG (n : GN) (m : GM) : List GC :=
  if m.k = 1 then if m.fr ∈ n.labels then [chg 4 n.id m.fr V0, chg 3 n.id m.to V0] else []
  else if ¬ m.label ∈ n.labels then []
  else if m.k = 3 then if hasK n.props m.fr then [chg 5 n.id m.fr V0, chg 5 n.id m.to (valP n.props m.fr)] else []
  else if m.k = 4 then if hasK n.props m.fr then [chg 5 n.id m.fr V0] else []
  else if m.k = 5 then if hasK n.props m.to then [] else [chg 5 n.id m.to m.v]
  else []
/-- what a migration changes at an edge -/
def edgeG (e : GE) (m : GM) : List GC :=
  if m.k = 2 ∧ e.ty = m.fr then ⟨7, e.id, 0, 0, [], V0⟩ :: ⟨6, e.id, e.fr, e.to, m.to, V0⟩ :: e.props.map fun p => chg 8 e.id p.key p.v else []

theorem nodeG_1 {n : GN} {m : GM} (h : m.k = 1) (h1 : m.fr ∈ n.labels) : nodeG n m = [chg 4 n.id m.fr V0, chg 3 n.id m.to V0] := by simp [nodeG, h, h1]
theorem nodeG_1n {n : GN} {m : GM} (h : m.k = 1) (h1 : m.fr ∉ n.labels) : nodeG n m = [] := by simp [nodeG, h, h1]
theorem nodeG_l {n : GN} {m : GM} (h : m.k ≠ 1) (h1 : m.label ∉ n.labels) : nodeG n m = [] := by simp [nodeG, h, h1]
theorem nodeG_3 {n : GN} {m : GM} (h : m.k = 3) (h1 : m.label ∈ n.labels) (h2 : hasK n.props m.fr) : nodeG n m = [chg 5 n.id m.fr V0, chg 5 n.id m.to (valP n.props m.fr)] := by simp [nodeG, h, h1, h2]
theorem nodeG_3n {n : GN} {m : GM} (h : m.k = 3) (h2 : ¬ hasK n.props m.fr) : nodeG n m = [] := by simp [nodeG, h, h2]
theorem nodeG_4 {n : GN} {m : GM} (h : m.k = 4) (h1 : m.label ∈ n.labels) (h2 : hasK n.props m.fr) : nodeG n m = [chg 5 n.id m.fr V0] := by simp [nodeG, h, h1, h2]
theorem nodeG_4n {n : GN} {m : GM} (h : m.k = 4) (h2 : ¬ hasK n.props m.fr) : nodeG n m = [] := by simp [nodeG, h, h2]
theorem nodeG_5 {n : GN} {m : GM} (h : m.k = 5) (h1 : m.label ∈ n.labels) (h2 : ¬ hasK n.props m.to) : nodeG n m = [chg 5 n.id m.to m.v] := by simp [nodeG, h, h1, h2]
theorem nodeG_5n {n : GN} {m : GM} (h : m.k = 5) (h2 : hasK n.props m.to) : nodeG n m = [] := by simp [nodeG, h, h2]
theorem nodeG_o {n : GN} {m : GM} (h : m.k ≠ 1) (h3 : m.k ≠ 3) (h4 : m.k ≠ 4) (h5 : m.k ≠ 5) : nodeG n m = [] := by simp [nodeG, h, h3, h4, h5]
theorem nodeG_len (n : GN) (m : GM) : (nodeG n m).length ≤ 2 := by unfold nodeG; grind
theorem edgeG_y {e : GE} {m : GM} (h : m.k = 2) (h1 : e.ty = m.fr) : edgeG e m = ⟨7, e.id, 0, 0, [], V0⟩ :: ⟨6, e.id, e.fr, e.to, m.to, V0⟩ :: e.props.map fun p => chg 8 e.id p.key p.v := by simp [edgeG, h, h1]
theorem edgeG_n {e : GE} {m : GM} (h : ¬ (m.k = 2 ∧ e.ty = m.fr)) : edgeG e m = [] := by simp [edgeG, h]
theorem edgeG_len (e : GE) (m : GM) : (edgeG e m).length ≤ e.props.length + 2 := by unfold edgeG; split <;> simp

theorem nodesG_nil {m : GM} (h : m.k ≠ 1) (h3 : m.k ≠ 3) (h4 : m.k ≠ 4) (h5 : m.k ≠ 5) (N : List GN) : N.flatMap (nodeG · m) = [] := by
  rw [List.flatMap_eq_nil_iff]; intro n _; exact nodeG_o h h3 h4 h5
theorem edgesG_nil {m : GM} (h : m.k ≠ 2) (E : List GE) : E.flatMap (edgeG · m) = [] := by
  rw [List.flatMap_eq_nil_iff]; intro n _; exact edgeG_n fun h0 => h h0.1
theorem fm_succ {α β : Type} {f : α → List β} {l : List α} {i : Nat} (h : i < l.length) : (l.take (i + 1)).flatMap f = (l.take i).flatMap f ++ f l[i] := by
  rw [List.take_succ_eq_append_getElem h, List.flatMap_append]; simp

end AI
end Go.Proofs.YtdlkcancogpafaaGreatDoor
set_option linter.unusedVariables false
namespace Go.Proofs.YtdlkcancogpafaaGreatDoor
namespace AI

theorem cellsG : ∀ c : GC, c.av.cells.length = 10 := fun _ => rfl
theorem labG {k : Int} : PureP (findFn tab) 49 [.int .i64 k] (· = .bool (decide (labK k))) := by
  refine pureP_of rfl rfl ?_
  (conv => whnf); repeat' (first  | ((with_reducible first | apply kN | apply kW | apply kX | apply kG | apply kQ); (· exact sd); conv => whnf) | (refine pcase.mk ?_ ?_ <;> intro hc <;> (try rw [List.length_nil] at hc) <;> first | (exfalso; omega) | (exact absurd rfl hc) | conv => whnf) | (refine bcase_intro ?_ ?_ <;> intro hc <;> conv => whnf))
  all_goals first | exact bool_t (by unfold labK; omega) | exact bool_f (by unfold labK; omega) | (trace_state; fail "labG")

theorem setP {id : Int} {k : List UInt8} {v : GV} : PureP (findFn tab) 82 [.int .i64 id, .str k, v.av] (· = (chg 5 id k v).av) := by
  refine pureP_of rfl rfl ?_
  (conv => whnf); repeat' (first  | ((with_reducible first | apply kN | apply kW | apply kX | apply kG | apply kQ); (· exact sd); conv => whnf) | (refine pcase.mk ?_ ?_ <;> intro hc <;> (try rw [List.length_nil] at hc) <;> first | (exfalso; omega) | (exact absurd rfl hc) | conv => whnf) | (refine bcase_intro ?_ ?_ <;> intro hc <;> conv => whnf))
  rfl

set_option maxHeartbeats 4000000 in
theorem nodeEv {n : GN} {m : GM} (hl : n.labels.length < 2^63) (hp : FairP n.props) : PureP (findFn tab) 36 [n.av, m.av] (fun w => ∃ b, w = .sl b (vs GC.av (nodeG n m)) ∧ (b = false → nodeG n m = [])) := by
  have hpr := propA (nn := n.pn) hp.len hp.1.2 (k := m.fr)
  rw [propR_val] at hpr
  refine pureP_of rfl rfl ?_
  (conv => whnf); repeat' (first | (refine callB (hasLabel1 (n := n) (s := m.fr) hl) (fun ha => ?_) (fun ha => ?_) <;> conv => whnf) | (refine callB (hasLabel1 (n := n) (s := m.label) hl) (fun hb => ?_) (fun hb => ?_) <;> conv => whnf) | (refine callB (hasEv (nn := n.pn) hp (k := m.fr)) (fun hd => ?_) (fun hd => ?_) <;> conv => whnf) | (refine callB (hasEv (nn := n.pn) hp (k := m.to)) (fun he => ?_) (fun he => ?_) <;> conv => whnf) | (refine callK_of null0 ?_; rintro _ rfl; conv => whnf) | (refine callK_of (setP (v := V0)) ?_; rintro _ rfl; conv => whnf) | (refine callK_of (setP (v := m.v)) ?_; rintro _ rfl; conv => whnf) | (refine callK_of (setP (v := valP n.props m.fr)) ?_; rintro _ rfl; conv => whnf) | (refine callK_of hpr ?_; rintro _ rfl; conv => whnf) | ((with_reducible first | apply kN | apply kW | apply kX | apply kG | apply kQ); (· exact sd); conv => whnf) | (refine pcase.mk ?_ ?_ <;> intro hc <;> (try rw [List.length_nil] at hc) <;> first | (exfalso; omega) | (exact absurd rfl hc) | conv => whnf) | (refine bcase_intro ?_ ?_ <;> intro hc <;> conv => whnf))
  all_goals first
    | (rw [nodeG_1 (by omega) ha]; exact ⟨true, rfl, fun h => Bool.noConfusion h⟩)
    | (rw [nodeG_1n (by omega) ha]; exact ⟨false, rfl, fun _ => rfl⟩)
    | (rw [nodeG_l (by omega) hb]; exact ⟨false, rfl, fun _ => rfl⟩)
    | (rw [nodeG_3 (by omega) hb hd]; exact ⟨true, rfl, fun h => Bool.noConfusion h⟩)
    | (rw [nodeG_4 (by omega) hb hd]; exact ⟨true, rfl, fun h => Bool.noConfusion h⟩)
    | (rw [nodeG_5 (by omega) hb he]; exact ⟨true, rfl, fun h => Bool.noConfusion h⟩)
    | (rw [nodeG_3n (by omega) hd]; exact ⟨false, rfl, fun _ => rfl⟩)
    | (rw [nodeG_4n (by omega) hd]; exact ⟨false, rfl, fun _ => rfl⟩)
    | (rw [nodeG_5n (by omega) he]; exact ⟨false, rfl, fun _ => rfl⟩)
    | (rw [nodeG_o (by omega) (by omega) (by omega) (by omega)]; exact ⟨false, rfl, fun _ => rfl⟩)
    | (trace_state; fail "nodeEv")

set_option maxHeartbeats 4000000 in
theorem nodeRf {n : GN} {m : GM} (hl : n.labels.length < 2^63) (hp : FairP n.props) : PureP (findFn tab) 39 [n.av, m.av] (fun w => ∃ b, w = .sl b (vs GC.av (nodeG n m)) ∧ (b = false → nodeG n m = [])) := by
  have hpr := propB (l := n.props) (nn := n.pn) hp.len (k := m.fr)
  rw [propR_val] at hpr
  refine pureP_of rfl rfl ?_
  (conv => whnf); repeat' (first | (refine callB (hasLabel2 (n := n) (s := m.fr) hl) (fun ha => ?_) (fun ha => ?_) <;> conv => whnf) | (refine callB (hasLabel2 (n := n) (s := m.label) hl) (fun hb => ?_) (fun hb => ?_) <;> conv => whnf) | (refine callB (labG (k := m.k)) (fun hk => ?_) (fun hk => ?_) <;> conv => whnf) | (refine callB (hasRf (n := n) hp.len (k := m.fr)) (fun hd => ?_) (fun hd => ?_) <;> conv => whnf) | (refine callB (hasRf (n := n) hp.len (k := m.to)) (fun he => ?_) (fun he => ?_) <;> conv => whnf) | (refine callK_of hpr ?_; rintro _ rfl; conv => whnf) | (refine apV1 (l := []) (x := chg 4 n.id m.fr V0) cellsG rfl (by simp) ?_; conv => whnf) | (refine apV1 (l := [chg 4 n.id m.fr V0]) (x := chg 3 n.id m.to V0) cellsG rfl (by simp) ?_; conv => whnf) | (refine apV1 (l := []) (x := chg 5 n.id m.fr V0) cellsG rfl (by simp) ?_; conv => whnf) | (refine apV1 (l := [chg 5 n.id m.fr V0]) (x := chg 5 n.id m.to (valP n.props m.fr)) cellsG rfl (by simp) ?_; conv => whnf) | (refine apV1 (l := []) (x := chg 5 n.id m.to m.v) cellsG rfl (by simp) ?_; conv => whnf) | ((with_reducible first | apply kN | apply kW | apply kX | apply kG | apply kQ); (· exact sd); conv => whnf) | (refine pcase.mk ?_ ?_ <;> intro hc <;> (try rw [List.length_nil] at hc) <;> first | (exfalso; omega) | (exact absurd rfl hc) | conv => whnf) | (refine bcase_intro ?_ ?_ <;> intro hc <;> conv => whnf))
  all_goals try unfold labK at hk
  all_goals first
    | (exfalso; omega)
    | (rw [nodeG_1 (by omega) ha]; exact ⟨true, rfl, fun h => Bool.noConfusion h⟩)
    | (rw [nodeG_1n (by omega) ha]; exact ⟨false, rfl, fun _ => rfl⟩)
    | (rw [nodeG_l (by omega) hb]; exact ⟨false, rfl, fun _ => rfl⟩)
    | (rw [nodeG_3 (by omega) hb hd]; exact ⟨true, rfl, fun h => Bool.noConfusion h⟩)
    | (rw [nodeG_4 (by omega) hb hd]; exact ⟨true, rfl, fun h => Bool.noConfusion h⟩)
    | (rw [nodeG_5 (by omega) hb he]; exact ⟨true, rfl, fun h => Bool.noConfusion h⟩)
    | (rw [nodeG_5n (by omega) he]; exact ⟨false, rfl, fun _ => rfl⟩)
    | (rw [nodeG_o (by omega) (by omega) (by omega) (by omega)]; exact ⟨false, rfl, fun _ => rfl⟩)
    | (have hk34 : m.k = 3 ∨ m.k = 4 := by omega
       rcases hk34 with h3 | h3
       · rw [nodeG_3n h3 hd]; exact ⟨false, rfl, fun _ => rfl⟩
       · rw [nodeG_4n h3 hd]; exact ⟨false, rfl, fun _ => rfl⟩)
    | (trace_state; fail "nodeRf")

/-- an edge of the type -/
def edgeL (e : GE) (to : List UInt8) (i : Nat) : List GC := ⟨7, e.id, 0, 0, [], V0⟩ :: ⟨6, e.id, e.fr, e.to, to, V0⟩ :: (e.props.take i).map fun p => chg 8 e.id p.key p.v
theorem edgeL_len {e : GE} {to : List UInt8} {i : Nat} (h : i ≤ e.props.length) : (edgeL e to i).length = i + 2 := by simp [edgeL]; omega
theorem edgeL_succ {e : GE} {to : List UInt8} {i : Nat} (h : i < e.props.length) : edgeL e to i ++ [chg 8 e.id e.props[i].key e.props[i].v] = edgeL e to (i + 1) := by
  unfold edgeL; rw [List.take_succ_eq_append_getElem h]; simp only [List.map_append, List.map_cons, List.map_nil, List.cons_append]

theorem edgeEv {e : GE} {to : List UInt8} (hp : e.props.length ≤ 2000) : PureP (findFn tab) 35 [e.av, .str to] (· = .sl true (vs GC.av (edgeL e to e.props.length))) := by
  refine pureP_of rfl rfl ?_
  (conv => whnf); repeat' (first  | ((with_reducible first | apply kN | apply kW | apply kX | apply kG | apply kQ); (· exact sd); conv => whnf) | (refine pcase.mk ?_ ?_ <;> intro hc <;> (try rw [List.length_nil] at hc) <;> first | (exfalso; omega) | (exact absurd rfl hc) | conv => whnf) | (refine bcase_intro ?_ ?_ <;> intro hc <;> conv => whnf))
  refine loop_inv (fun m env s => ∃ (i c n go : Nat) (L : List GC), m = e.props.length - i ∧ i ≤ e.props.length ∧ L = edgeL e to i ∧ n = L.length ∧ env = [(2, .ref 0 0 0 0), (5, .own 1 go 0 n), (21, .sl e.pn (vs GP.av e.props)), (22, .int .i64 e.props.length), (23, .int .i64 i)] ∧ s = ⟨[.arr 0 5 true true [e.av], .arr go 10 true true (vs GC.av L)], c⟩) ?_ _ _ _ ⟨0, _, _, _, _, rfl, by omega, rfl, rfl, by rw [← lV (f := GP.av) e.props]; rfl, rfl⟩
  rintro _ _ _ ⟨i, c, n, go, L, rfl, hi, hL, hn, rfl, rfl⟩
  have hlen := edgeL_len (e := e) (to := to) hi
  rw [← hL] at hlen
  refine ⟨rfl, ?_⟩
  by_cases hlt : i < e.props.length
  · have hs := edgeL_succ (to := to) hlt
    rw [← hL] at hs
    (conv => whnf); repeat' (first | (refine apV1 (x := chg 8 e.id e.props[i].key e.props[i].v) cellsG hn (by omega) ?_; conv => whnf) | ((with_reducible first | apply kN | apply kW | apply kX | apply kG | apply kQ); (· exact sd); conv => whnf) | (refine pcase.mk ?_ ?_ <;> intro hc <;> (try rw [List.length_nil] at hc) <;> first | (exfalso; omega) | (exact absurd rfl hc) | conv => whnf) | (refine bcase_intro ?_ ?_ <;> intro hc <;> conv => whnf))
    exact again.mk ⟨_, by omega, i + 1, _, _, _, _, rfl, by omega, hs, by simp, rfl, rfl⟩
  · obtain rfl : i = e.props.length := by omega
    (conv => whnf); repeat' (first  | ((with_reducible first | apply kN | apply kW | apply kX | apply kG | apply kQ); (· exact sd); conv => whnf) | (refine pcase.mk ?_ ?_ <;> intro hc <;> (try rw [List.length_nil] at hc) <;> first | (exfalso; omega) | (exact absurd rfl hc) | conv => whnf) | (refine bcase_intro ?_ ?_ <;> intro hc <;> conv => whnf))
    all_goals first | (subst hL; rw [hn, sub_vs]; simp; done) | (trace_state; fail "edgeEv")

theorem edgeRf {e : GE} {to : List UInt8} (hp : e.props.length ≤ 2000) : PureP (findFn tab) 40 [e.av, .str to] (· = .sl true (vs GC.av (edgeL e to e.props.length))) := by
  refine pureP_of rfl rfl ?_
  (conv => whnf); repeat' (first | (refine apV1 (l := []) (x := (⟨7, e.id, 0, 0, [], V0⟩ : GC)) cellsG rfl (by simp) ?_; conv => whnf) | (refine apV1 (l := [(⟨7, e.id, 0, 0, [], V0⟩ : GC)]) (x := (⟨6, e.id, e.fr, e.to, to, V0⟩ : GC)) cellsG rfl (by simp) ?_; conv => whnf) | ((with_reducible first | apply kN | apply kW | apply kX | apply kG | apply kQ); (· exact sd); conv => whnf) | (refine pcase.mk ?_ ?_ <;> intro hc <;> (try rw [List.length_nil] at hc) <;> first | (exfalso; omega) | (exact absurd rfl hc) | conv => whnf) | (refine bcase_intro ?_ ?_ <;> intro hc <;> conv => whnf))
  refine loop_inv (fun m env s => ∃ (i c n go : Nat) (L : List GC), m = e.props.length - i ∧ i ≤ e.props.length ∧ L = edgeL e to i ∧ n = L.length ∧ env = [(2, .ref 0 0 0 0), (5, .own 1 go 0 n), (6, .int .i64 i)] ∧ s = ⟨[.arr 0 5 true true [e.av], .arr go 10 true true (vs GC.av L)], c⟩) ?_ _ _ _ ⟨0, _, _, _, _, rfl, by omega, rfl, rfl, rfl, rfl⟩
  rintro _ _ _ ⟨i, c, n, go, L, rfl, hi, hL, hn, rfl, rfl⟩
  have hlen := edgeL_len (e := e) (to := to) hi
  rw [← hL] at hlen
  refine ⟨rfl, ?_⟩
  by_cases hlt : i < e.props.length
  · have hs := edgeL_succ (to := to) hlt
    rw [← hL] at hs
    (conv => whnf); repeat' (first | (refine apV1 (x := chg 8 e.id e.props[i].key e.props[i].v) cellsG hn (by omega) ?_; conv => whnf) | ((with_reducible first | apply kN | apply kW | apply kX | apply kG | apply kQ); (· exact sd); conv => whnf) | (refine pcase.mk ?_ ?_ <;> intro hc <;> (try rw [List.length_nil] at hc) <;> first | (exfalso; omega) | (exact absurd rfl hc) | conv => whnf) | (refine bcase_intro ?_ ?_ <;> intro hc <;> conv => whnf))
    exact again.mk ⟨_, by omega, i + 1, _, _, _, _, rfl, by omega, hs, by simp, rfl, rfl⟩
  · obtain rfl : i = e.props.length := by omega
    (conv => whnf); repeat' (first  | ((with_reducible first | apply kN | apply kW | apply kX | apply kG | apply kQ); (· exact sd); conv => whnf) | (refine pcase.mk ?_ ?_ <;> intro hc <;> (try rw [List.length_nil] at hc) <;> first | (exfalso; omega) | (exact absurd rfl hc) | conv => whnf) | (refine bcase_intro ?_ ?_ <;> intro hc <;> conv => whnf))
    all_goals first | (subst hL; rw [hn, sub_vs]; simp; done) | (trace_state; fail "edgeRf")
theorem edgeL_all {e : GE} {m : GM} (h : m.k = 2) (h1 : e.ty = m.fr) : edgeL e m.to e.props.length = edgeG e m := by
  rw [edgeG_y h h1, edgeL, List.take_length]

end AI
end Go.Proofs.YtdlkcancogpafaaGreatDoor
