/- Properties looked up. Scripts between graphs: what they are, in plain lists. -/
import Derived.Test.YtkknpgebiihkfaaGreatDoorME
import Derived.Test.YtkknpgebiihkfaaGreatDoorDtA
import Derived.Test.YtkknpgebiihkfaaGreatDoorVO1
import Derived.Test.YtkknpgebiihkfaaGreatDoorMK
import Derived.Test.YtkknpgebiihkfaaGreatDoorGrB
set_option linter.unusedVariables false
set_option maxRecDepth 4000
namespace Go.Proofs.YtkknpgebiihkfaaGreatDoor
namespace AI
def V0 : GV := ⟨0, 0, 0, [], false, []⟩
def isK (k : List UInt8) (p : GP) : Bool := decide (p.key = k)
def propR (l : List GP) (k : List UInt8) : AV := match l.find? (isK k) with
  | some n => n.v.av
  | none => V0.av

theorem propB {l : List GP} {nn : Bool} (hl : l.length < 2^63) {k : List UInt8} : PureP (findFn tab) 75 [.sl nn (vs GP.av l), .str k] (· = propR l k) := by
  refine pureP_of rfl rfl ?_
  (conv => whnf); repeat' (first | ((with_reducible first | apply kN | apply kW | apply kX | apply kG | apply kQ); (· exact sd); conv => whnf) | (refine pcase.mk ?_ ?_ <;> intro hc <;> (try rw [List.length_nil] at hc) <;> first | (exfalso; omega) | (exact absurd rfl hc) | conv => whnf)  | (refine bcase_intro ?_ ?_ <;> intro hc <;> conv => whnf))
  refine loop_inv (fun m env s => ∃ i : Nat, m = l.length - i ∧ (∀ x ∈ l.take i, isK k x = false) ∧ env = [(0, .sl nn (vs GP.av l)), (1, .str k), (4, .ref 0 0 0 0), (5, .int .i64 i)] ∧ s = ⟨[.arr 0 5 true true [.agg [.int .i64 0, .int .i64 0, .int .i64 0, .str [], .sl false []]]], 1⟩) ?_ _ _ _ ⟨0, rfl, by simp, rfl, rfl⟩
  rintro _ _ _ ⟨i, rfl, hx, rfl, rfl⟩
  refine ⟨rfl, ?_⟩
  (conv => whnf); repeat' (first | ((with_reducible first | apply kN | apply kW | apply kX | apply kG | apply kQ); (· exact sd); conv => whnf) | (refine pcase.mk ?_ ?_ <;> intro hc <;> (try rw [List.length_nil] at hc) <;> first | (exfalso; omega) | (exact absurd rfl hc) | conv => whnf)  | (refine bcase_intro ?_ ?_ <;> intro hc <;> conv => whnf))
  · rw [propR, find_at (by omega) hx (decide_eq_true hc)]; rfl
  · exact again.mk ⟨_, by omega, i + 1, rfl, take_no (by omega) hx (decide_eq_false hc), rfl, rfl⟩
  · rw [take_all hc] at hx
    rw [propR, find_no hx]; rfl

theorem null0 : PureP (findFn tab) 108 [] (· = V0.av) := by
  refine pureP_of rfl rfl ?_
  (conv => whnf); repeat' (first | ((with_reducible first | apply kN | apply kW | apply kX | apply kG | apply kQ); (· exact sd); conv => whnf) | (refine pcase.mk ?_ ?_ <;> intro hc <;> (try rw [List.length_nil] at hc) <;> first | (exfalso; omega) | (exact absurd rfl hc) | conv => whnf)  | (refine bcase_intro ?_ ?_ <;> intro hc <;> conv => whnf))
  rfl

theorem propA {l : List GP} {nn : Bool} (hl : l.length < 2^63) (hg : ∀ p ∈ l, p.ok ∧ Lite 12 p.v.av) {k : List UInt8} : PureP (findFn tab) 69 [.sl nn (vs GP.av l), .str k] (· = propR l k) := by
  refine pureP_of rfl rfl ?_
  (conv => whnf); repeat' (first | ((with_reducible first | apply kN | apply kW | apply kX | apply kG | apply kQ); (· exact sd); conv => whnf) | (refine pcase.mk ?_ ?_ <;> intro hc <;> (try rw [List.length_nil] at hc) <;> first | (exfalso; omega) | (exact absurd rfl hc) | conv => whnf)  | (refine bcase_intro ?_ ?_ <;> intro hc <;> conv => whnf))
  refine loop_inv (fun m env s => ∃ i c : Nat, m = l.length - i ∧ (∀ x ∈ l.take i, isK k x = false) ∧ env = [(1, .str k), (4, .ref 0 0 0 0), (7, .sl nn (vs GP.av l)), (8, .int .i64 l.length), (9, .int .i64 i)] ∧ s = ⟨[.arr 0 5 true true [.agg [.int .i64 0, .int .i64 0, .int .i64 0, .str [], .sl false []]]], c⟩) ?_ _ _ _ ⟨0, _, rfl, by simp, by rw [← lV (f := GP.av) l]; rfl, rfl⟩
  rintro _ _ _ ⟨i, c, rfl, hx, rfl, rfl⟩
  refine ⟨rfl, ?_⟩
  have ho : ∀ h : i < l.length, (l[i]).v.ok ∧ Lite 12 (l[i]).v.av := fun h => ⟨(hg _ (List.getElem_mem h)).1.2, (hg _ (List.getElem_mem h)).2⟩
  (conv => whnf); repeat' (first | ((with_reducible first | apply kN | apply kW | apply kX | apply kG | apply kQ); (· exact sd); conv => whnf) | (refine pcase.mk ?_ ?_ <;> intro hc <;> (try rw [List.length_nil] at hc) <;> first | (exfalso; omega) | (exact absurd rfl hc) | conv => whnf) | (refine callK_of (cloneVal 12 (g := l[i].v) (ho (by omega)).1 (ho (by omega)).2) ?_; rintro _ rfl; conv => whnf) | (refine callK_of null0 ?_; rintro _ rfl; conv => whnf) | (refine bcase_intro ?_ ?_ <;> intro hc <;> conv => whnf))
  · rw [propR, find_at (by omega) hx (decide_eq_true hc)]; rfl
  · exact again.mk ⟨_, by omega, i + 1, _, rfl, take_no (by omega) hx (decide_eq_false hc), rfl, rfl⟩
  · rw [take_all hc] at hx
    rw [propR, find_no hx]; rfl

theorem v0_ok : V0.ok ∧ Lite 12 V0.av := by
  have h0 : V0.ok := ⟨⟨by decide, by decide⟩, ⟨by decide, by decide⟩, ⟨by decide, by decide⟩, by unfold Ln; decide, by unfold Ln; decide, fun _ => rfl, fun x hx => by cases hx⟩
  exact ⟨h0, V0, rfl, h0, by decide, by decide, fun x hx => by cases hx⟩

theorem propR_good {l : List GP} (hg : ∀ p ∈ l, p.ok ∧ Lite 12 p.v.av) (k : List UInt8) : ∃ g : GV, propR l k = g.av ∧ g.ok ∧ Lite 12 g.av := by
  unfold propR
  cases h : l.find? (isK k) with
  | none => exact ⟨V0, rfl, v0_ok⟩
  | some p => exact ⟨p.v, rfl, (hg p (List.mem_of_find?_eq_some h)).1.2, (hg p (List.mem_of_find?_eq_some h)).2⟩


end AI
end Go.Proofs.YtkknpgebiihkfaaGreatDoor
set_option linter.unusedVariables false
namespace Go.Proofs.YtkknpgebiihkfaaGreatDoor
namespace AI

def Z0 : GV := ⟨0, 0, 0, [], false, []⟩
def mkC (op id : Int) (name : List UInt8) : GC := ⟨op, id, 0, 0, name, Z0⟩
def isKy (k : List UInt8) (p : GP) : Bool := decide (p.key = k)
def propG (l : List GP) (k : List UInt8) : GV := match l.find? (isKy k) with
  | some q => q.v
  | none => Z0
def movedB (x y : GE) : Bool := decide (¬ (x.fr = y.fr ∧ x.to = y.to ∧ x.ty = y.ty))
/-- an edge that is not among those, or another there -/
def goneE (E : List GE) (x : GE) : Bool := match E.find? (isE x.id) with
  | none => true
  | some y => movedB x y
def noNd (N : List GN) (n : GN) : Bool := (N.find? (isN n.id)).isNone
def goneL (a b : GG) : List GC := (a.edges.filter (goneE b.edges)).map (fun x => mkC 7 x.id []) ++ (a.nodes.filter (noNd b.nodes)).map (fun n => mkC 2 n.id [])
def namesL (op id : Int) (l m : List (List UInt8)) : List GC := (l.filter fun x => decide (x ∉ m)).map (mkC op id)
noncomputable def valuesL (op id : Int) (a b : List GP) : List GC := (b.filter fun p => decide (cmpV 12 (propG a p.key) p.v ≠ 0)).map fun p => ⟨op, id, 0, 0, p.key, p.v⟩
def wasN (N : List GN) (n : GN) : GN := match N.find? (isN n.id) with
  | some m => m
  | none => N0
noncomputable def nodeL (N : List GN) (n : GN) : List GC := namesL 4 n.id (wasN N n).labels n.labels ++ (namesL 5 n.id (keysOf (wasN N n).props) (keysOf n.props) ++ (namesL 3 n.id n.labels (wasN N n).labels ++ valuesL 5 n.id (wasN N n).props n.props))
noncomputable def ndsL (a b : GG) : List GC := (b.nodes.filter (noNd a.nodes)).map (fun n => mkC 1 n.id []) ++ b.nodes.flatMap (nodeL a.nodes)
def wasP (E : List GE) (x : GE) : List GP := match E.find? (isE x.id) with
  | none => []
  | some y => if movedB x y = true then [] else y.props
noncomputable def edgeL (E : List GE) (x : GE) : List GC := namesL 8 x.id (keysOf (wasP E x)) (keysOf x.props) ++ valuesL 8 x.id (wasP E x) x.props
def newE (x : GE) : GC := ⟨6, x.id, x.fr, x.to, x.ty, Z0⟩
noncomputable def edsL (a b : GG) : List GC := (b.edges.filter (goneE a.edges)).map newE ++ b.edges.flatMap (edgeL a.edges)
noncomputable def scriptL (a b : GG) : List GC := goneL a b ++ (ndsL a b ++ edsL a b)

/-- a cell as it is made, or written -/
def cl (b : Bool) (x : AV) : AV := bif b then .agg [x] else x
theorem cellsC (c : GC) : c.av.cells.length = 10 := rfl
theorem fmap_step {α β : Type} {p : α → Bool} {f : α → β} {l : List α} {i : Nat} (h : i < l.length) : ((l.take (i + 1)).filter p).map f = ((l.take i).filter p).map f ++ if p l[i] = true then [f l[i]] else [] := by
  rw [filter_take_succ h, List.map_append]
  congr 1
  split <;> rfl
theorem flm_step {α β : Type} {f : α → List β} {l : List α} {i : Nat} (h : i < l.length) : (l.take (i + 1)).flatMap f = (l.take i).flatMap f ++ f l[i] := by
  rw [List.take_succ_eq_append_getElem h, List.flatMap_append]; simp

/-- plain graphs: what a checked small one is -/
structure PlainG (g : GG) : Prop where
  ok : g.ok
  nn : g.nodes.length ≤ 24
  en : g.edges.length ≤ 30
  nodes : ∀ n ∈ g.nodes, n.ok ∧ n.labels.length ≤ 8 ∧ n.props.length ≤ 16 ∧ GoodP n.props ∧ allPlain n.props
  edges : ∀ e ∈ g.edges, e.ok ∧ e.props.length ≤ 16 ∧ GoodP e.props ∧ allPlain e.props
theorem parts_plain {L : List (List UInt8)} {P : List GP} (h : partsE L P = 0) : L.length ≤ 8 ∧ P.length ≤ 16 ∧ allPlain P := by
  by_cases h1 : 8 < L.length ∨ 16 < P.length
  · have := parts_4 h1; rw [h] at this; cases this
  by_cases h2 : allNames L ∧ allNames (keysOf P)
  case neg => have := parts_6 h1 h2; rw [h] at this; cases this
  by_cases h3 : rises L ∧ rises (keysOf P)
  case neg => have := parts_26 h1 h2 h3; rw [h] at this; cases this
  by_cases h4 : allPlain P
  case neg => have := parts_8 h1 h2 h3 h4; rw [h] at this; cases this
  exact ⟨by omega, by omega, h4⟩
theorem plain_of {g : GG} (hg : g.ok) (hs : SmG g 24 30) (h : checkE g = 0) : PlainG g := by
  obtain ⟨c1, c2, c3, c4⟩ := check_ok h
  have hg' := hg
  obtain ⟨g1, g2, g3, g4, g5, g6, g7, g8⟩ := hg'
  have s1 := hs.1
  have s2 := hs.2.1
  refine ⟨hg, by omega, by omega, fun x hx => ?_, fun x hx => ?_⟩
  · obtain ⟨s1, s2, s3⟩ := hs.2.2.1 x hx
    obtain ⟨i, hi, e⟩ := List.mem_iff_getElem.1 hx
    have hp := (node_ok hi (c3 i hi)).2.2.2
    rw [e] at hp
    obtain ⟨p1, p2, p3⟩ := parts_plain hp
    exact ⟨g3 x hx, p1, p2, ⟨s3.1, fun p hp => ⟨(g3 x hx).2.2.2.2.2.2 p hp, (s3.2 p hp).2⟩⟩, p3⟩
  · obtain ⟨s1, s3⟩ := hs.2.2.2 x hx
    obtain ⟨i, hi, e⟩ := List.mem_iff_getElem.1 hx
    have hp := (edge_ok hi (c4 i hi)).2.2.2.2.2.2
    rw [e] at hp
    obtain ⟨p1, p2, p3⟩ := parts_plain hp
    exact ⟨g6 x hx, p2, ⟨s3.1, fun p hp => ⟨(g6 x hx).2.2.2.2.2.2 p hp, (s3.2 p hp).2⟩⟩, p3⟩

/-- small values are not deep -/
theorem lite_dep : ∀ {d : Nat} {v : GV}, Lite d v.av → dep d v
  | 0, _, h => h.elim
  | d + 1, v, h => fun x hx => by
    obtain ⟨g, e, h1, _, _, h2⟩ := h
    have e2 : v.l = g.l := by
      have := congrArg gvOf e
      rw [gvOf_av, gvOf_av] at this
      rw [this]
    rw [e2] at hx
    have h3 := h2 x hx
    cases d with
    | zero => exact h3.elim
    | succ d =>
      have h4 := h3
      obtain ⟨g', e', k1, _⟩ := h4
      exact ⟨g', e', k1, lite_dep (e' ▸ h3)⟩

/-- keys laid one by one -/
def kset (l : List GP) (i : Nat) : List (List UInt8) := (keysOf l).take i ++ List.replicate (l.length - i) []
theorem kset_len {l : List GP} {i : Nat} (h : i ≤ l.length) : (kset l i).length = l.length := by unfold kset; simp; omega
theorem kset_step {l : List GP} {i : Nat} (h : i < l.length) : (kset l i).set i l[i].key = kset l (i + 1) := by
  have h0 : i < (keysOf l).length := by simpa using h
  have h2 : ((keysOf l).take i).length = i := by simp; omega
  unfold kset
  rw [List.set_append_right _ _ (by omega), h2, Nat.sub_self, show l.length - i = (l.length - (i + 1)) + 1 by omega, List.replicate_succ, List.set_cons_zero, List.take_succ_eq_append_getElem h0, List.append_assoc]
  simp [keysOf]
theorem kset_end {l : List GP} : kset l l.length = keysOf l := by unfold kset; rw [Nat.sub_self, List.replicate_zero, List.append_nil]; exact List.take_of_length_le (by simp)
theorem kset_0 {l : List GP} : vs AV.str (kset l 0) = List.replicate l.length (.str []) := by simp [kset, vs]

theorem Z0_ok : Z0.ok ∧ Lite 12 Z0.av := by
  have h0 : Z0.ok := ⟨⟨by decide, by decide⟩, ⟨by decide, by decide⟩, ⟨by decide, by decide⟩, by unfold Ln; decide, by unfold Ln; decide, fun _ => rfl, fun x hx => by cases hx⟩
  exact ⟨h0, Z0, rfl, h0, by decide, by decide, fun x hx => by cases hx⟩
theorem propG_good {l : List GP} (hg : ∀ p ∈ l, p.ok ∧ Lite 12 p.v.av) (k : List UInt8) : (propG l k).ok ∧ Lite 12 (propG l k).av := by
  unfold propG
  cases h : l.find? (isKy k) with
  | none => exact Z0_ok
  | some q => exact ⟨(hg q (List.mem_of_find?_eq_some h)).1.2, (hg q (List.mem_of_find?_eq_some h)).2⟩
theorem propG_no {l : List GP} {k : List UInt8} (h : k ∉ keysOf l) : propG l k = Z0 := by
  unfold propG
  cases e : l.find? (isKy k) with
  | none => rfl
  | some q => exact absurd (List.mem_map.2 ⟨q, List.mem_of_find?_eq_some e, of_decide_eq_true (show decide (q.key = k) = true from List.find?_some (p := isKy k) e)⟩) h
/-- no valid plain value is nothing -/
theorem leaf_vv {v : GV} (h : leafV v) : VV 8 v := by
  obtain ⟨h1, h2, h3⟩ := h
  refine .inl ⟨h2, ?_⟩
  rcases h3 with ⟨a, b, c⟩ | ⟨a, b, c⟩ | ⟨a, b, c⟩
  · exact .inr (.inl ⟨a, c, h1, b⟩)
  · exact .inr (.inr (.inl ⟨a, c, h1, b⟩))
  · exact .inr (.inr (.inr (.inr (.inl ⟨a, b, h1, c⟩))))
theorem cmp_leaf {v : GV} (h : leafV v) : cmpV 12 Z0 v ≠ 0 := by
  have h0 : VV 8 Z0 := .inl ⟨rfl, .inl ⟨rfl, rfl, rfl, rfl⟩⟩
  have h1 : cmpI (clsP Z0.k) (clsP v.k) ≠ 0 := by
    intro e
    rw [cmpI_zero] at e
    have e0 : clsP Z0.k = 0 := rfl
    rw [e0] at e
    unfold clsP at e
    rcases h.2.2 with ⟨a, _⟩ | ⟨a, _⟩ | ⟨a, _⟩ <;> rw [a] at e <;> revert e <;> decide
  unfold cmpV
  rw [if_pos h0, if_pos (leaf_vv h)]
  unfold ordS
  rw [show fst0 (cmpI (clsP Z0.k) (clsP v.k)) _ = _ from if_neg h1]
  exact h1

end AI
end Go.Proofs.YtkknpgebiihkfaaGreatDoor
