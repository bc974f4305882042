/- What a change leaves alone: plain. Changes as arguments. Changes as data; the ids that changes name: plain. The reference: lists of labels with one more, one less. The reference puts nodes and edges into a graph. -/
import Derived.Test.YtnfdpfeeenmffaaGreatDoorMT
set_option linter.unusedVariables false
set_option maxRecDepth 4000
namespace Go.Proofs.YtnfdpfeeenmffaaGreatDoor
namespace AI

/-- a change -/
structure GC where
  op : Int
  id : Int
  fr : Int
  to : Int
  name : List UInt8
  v : GV
def GC.av (c : GC) : AV := .agg [.int .i64 c.op, .int .i64 c.id, .int .i64 c.fr, .int .i64 c.to, .str c.name, .int .i64 c.v.k, .int .i64 c.v.n, .int .i64 c.v.d, .str c.v.s, .sl c.v.nn c.v.l]
def GC.ok (c : GC) : Prop := I64 c.op ∧ I64 c.id ∧ I64 c.fr ∧ I64 c.to ∧ Ln c.name ∧ c.v.ok

/-- the nodes that are not among those -/
def keepN (ns : List Int) (N : List GN) : List GN := N.filter fun n => decide (n.id ∉ ns)
def keepE (es : List Int) (E : List GE) : List GE := E.filter fun e => decide (e.id ∉ es)

theorem keepN_app {ns : List Int} {A B : List GN} : keepN ns (A ++ B) = keepN ns A ++ keepN ns B := List.filter_append ..
theorem keepE_app {ns : List Int} {A B : List GE} : keepE ns (A ++ B) = keepE ns A ++ keepE ns B := List.filter_append ..
theorem keepN_in {ns : List Int} {n : GN} (h : n.id ∈ ns) : keepN ns [n] = [] := by simp [keepN, h]
theorem keepE_in {ns : List Int} {n : GE} (h : n.id ∈ ns) : keepE ns [n] = [] := by simp [keepE, h]
theorem keepN_succ {ns : List Int} {N : List GN} {i : Nat} (h : i < N.length) : keepN ns (N.take (i + 1)) = keepN ns (N.take i) ++ keepN ns [N[i]] := by
  rw [List.take_succ_eq_append_getElem h, keepN_app]
theorem keepE_succ {ns : List Int} {N : List GE} {i : Nat} (h : i < N.length) : keepE ns (N.take (i + 1)) = keepE ns (N.take i) ++ keepE ns [N[i]] := by
  rw [List.take_succ_eq_append_getElem h, keepE_app]
/-- one more that is not kept -/
theorem keepN_no {ns : List Int} {L N : List GN} {n : GN} (h : keepN ns L = keepN ns N) (hn : n.id ∈ ns) : keepN ns (L ++ [n]) = keepN ns N := by
  rw [keepN_app, keepN_in hn, List.append_nil, h]
theorem keepE_no {ns : List Int} {L N : List GE} {n : GE} (h : keepE ns L = keepE ns N) (hn : n.id ∈ ns) : keepE ns (L ++ [n]) = keepE ns N := by
  rw [keepE_app, keepE_in hn, List.append_nil, h]
/-- one more of the old ones -/
theorem keepN_yes {ns : List Int} {L N : List GN} {i : Nat} (hi : i < N.length) (h : keepN ns L = keepN ns (N.take i)) : keepN ns (L ++ [N[i]]) = keepN ns (N.take (i + 1)) := by
  rw [keepN_app, keepN_succ hi, h]
theorem keepE_yes {ns : List Int} {L N : List GE} {i : Nat} (hi : i < N.length) (h : keepE ns L = keepE ns (N.take i)) : keepE ns (L ++ [N[i]]) = keepE ns (N.take (i + 1)) := by
  rw [keepE_app, keepE_succ hi, h]
/-- one of the old ones is left out -/
theorem keepN_out {ns : List Int} {L N : List GN} {i : Nat} (hi : i < N.length) (h : keepN ns L = keepN ns (N.take i)) (hn : (N[i]).id ∈ ns) : keepN ns L = keepN ns (N.take (i + 1)) := by
  rw [keepN_succ hi, keepN_in hn, List.append_nil, h]
theorem keepE_out {ns : List Int} {L N : List GE} {i : Nat} (hi : i < N.length) (h : keepE ns L = keepE ns (N.take i)) (hn : (N[i]).id ∈ ns) : keepE ns L = keepE ns (N.take (i + 1)) := by
  rw [keepE_succ hi, keepE_in hn, List.append_nil, h]

theorem cellsN : ∀ n : GN, n.av.cells.length = 3 := fun _ => rfl
theorem cellsE : ∀ n : GE, n.av.cells.length = 5 := fun _ => rfl
theorem cellsP : ∀ n : GP, n.av.cells.length = 6 := fun _ => rfl

/-- few labels and properties -/
def FewN (n : GN) : Prop := n.ok ∧ n.labels.length ≤ 2000 ∧ n.props.length ≤ 2000
def FewE (n : GE) : Prop := n.ok ∧ n.props.length ≤ 2000
/-- few of all -/
def FewG (a b : Nat) (g : GG) : Prop := g.ok ∧ g.nodes.length ≤ a ∧ g.edges.length ≤ b ∧ (∀ n ∈ g.nodes, FewN n) ∧ ∀ e ∈ g.edges, FewE e

/-- what holds between a graph and the next -/
def Spares (ns es : List Int) (g h : GG) : Prop := keepN ns h.nodes = keepN ns g.nodes ∧ keepE es h.edges = keepE es g.edges
theorem Spares.refl (ns es : List Int) (g : GG) : Spares ns es g g := ⟨rfl, rfl⟩
theorem Spares.trans {ns es : List Int} {g h k : GG} (h1 : Spares ns es g h) (h2 : Spares ns es h k) : Spares ns es g k := ⟨h2.1.trans h1.1, h2.2.trans h1.2⟩

end AI
end Go.Proofs.YtnfdpfeeenmffaaGreatDoor
set_option linter.unusedVariables false
namespace Go.Proofs.YtnfdpfeeenmffaaGreatDoor
namespace AI

theorem c_change : Tryz.prog.cellsOf 44 = 10 := by kernel_rfl
theorem len_succ {l : List AV} {n : Nat} (h : l.length = n + 1) : ∃ a r, l = a :: r ∧ r.length = n := by
  cases l with
  | nil => simp at h
  | cons a r => exact ⟨a, r, rfl, by simpa using h⟩
theorem like_change {d : Nat} {a : AV} (h : like Tryz.prog d 44 a) : ∃ c : GC, a = c.av ∧ c.ok := by
  obtain ⟨cs, rfl, h0⟩ := like_struct Tryz.underlying44 h
  obtain ⟨d', rfl, g1, g2⟩ := likeC_struct Tryz.underlying44 h0
  rw [c_change] at g1
  obtain ⟨a1, r1, rfl, q1⟩ := len_succ g1
  obtain ⟨a2, r2, rfl, q2⟩ := len_succ q1
  obtain ⟨a3, r3, rfl, q3⟩ := len_succ q2
  obtain ⟨a4, r4, rfl, q4⟩ := len_succ q3
  obtain ⟨b1, b2, b3, b4, b5, b6, rfl⟩ := len6 q4
  clear g1 q1 q2 q3 q4
  simp only [List.forall_mem_cons] at g2
  obtain ⟨f1, f2, f3, f4, f5, f6, _⟩ := g2
  simp only [c_int, c_string, c_value, List.drop_zero, List.drop_succ_cons, List.take_succ_cons, List.take_zero] at f1 f2 f3 f4 f5 f6
  obtain ⟨k, e1, h1⟩ := likeC_i f1
  obtain ⟨i, e2, h2⟩ := likeC_i f2
  obtain ⟨fr, e3, h3⟩ := likeC_i f3
  obtain ⟨to, e4, h4⟩ := likeC_i f4
  obtain ⟨s, e5, h5⟩ := likeC_s f5
  obtain ⟨v, e6, h6⟩ := likeC_value f6
  cases e1; cases e2; cases e3; cases e4; cases e5; cases e6
  exact ⟨⟨k, i, fr, to, s, v⟩, rfl, h1, h2, h3, h4, h5, h6⟩
theorem like_changes {a : AV} (h : Like Tryz.prog 26 a) : ∃ nn L, a = .sl nn (vs GC.av L) ∧ Ln L ∧ ∀ c ∈ L, c.ok := by
  obtain ⟨d, h⟩ := h
  obtain ⟨nn, l, e, _, h2, h3⟩ := like_map (f := GC.av) (Q := GC.ok) Tryz.underlying26 (fun d x h => like_change h) h
  exact ⟨nn, l, e, ln_of h2, h3⟩

/-- the nodes and edges that a change names -/
def tN (c : GC) : List Int := (if 1 ≤ c.op ∧ c.op ≤ 5 then [c.id] else []) ++ (if c.op = 6 then [c.fr, c.to] else [])
def tE (c : GC) : List Int := if ¬ (1 ≤ c.op ∧ c.op ≤ 5) ∧ 6 ≤ c.op ∧ c.op ≤ 8 then [c.id] else []
theorem tN_len (c : GC) : (tN c).length ≤ 2 := by unfold tN; split <;> split <;> simp; omega
theorem tE_len (c : GC) : (tE c).length ≤ 1 := by unfold tE; split <;> simp
theorem fm_succ {α β : Type} {f : α → List β} {l : List α} {i : Nat} (h : i < l.length) : (l.take (i + 1)).flatMap f = (l.take i).flatMap f ++ f l[i] := by
  rw [List.take_succ_eq_append_getElem h, List.flatMap_append]; simp

end AI
end Go.Proofs.YtnfdpfeeenmffaaGreatDoor
set_option linter.unusedVariables false
namespace Go.Proofs.YtnfdpfeeenmffaaGreatDoor
namespace AI

theorem apVf {α : Type} {f : α → AV} {es g len : Nat} {nn cl : Bool} {l l' : List α} {ys : List AV} {bytes : Nat} {K : Nat → Bool → Bool → List AV → Prop} (he : ys = vs f l') (hf : ∀ x, (f x).cells.length = es) (hl : len = l.length) (hr : (l.length + l'.length) * bytes ≤ 2 ^ 46) (hn : nn = false → l = []) (h : ∀ b, (b = false → l ++ l' = []) → K (l.length + l'.length) b cl (vs f (l ++ l'))) :
    appendK g g es es len nn cl true (vs f l) ys bytes K := by
  subst hl he
  refine ⟨⟨rfl, rfl, by simp, allSize_vs hf l', by rw [lV]; exact roomy_of hr⟩, ?_⟩
  rw [lV, Bool.and_true, List.take_of_length_le (by simp)]
  have := h (nn || !(vs f l').isEmpty) (fun hb => by
    simp [vs] at hb
    rw [hn hb.1, hb.2]; rfl)
  simpa [vs] using this

theorem takeAll {α : Type} {A B : List α} : List.take (A.length + B.length) (List.drop 0 (A ++ B)) = A ++ B := by
  rw [List.drop_zero, List.take_of_length_le (Nat.le_of_eq List.length_append)]

theorem cellsW (x : List UInt8) : (AV.str x).cells.length = 1 := rfl

/-- labels without one -/
theorem withoutR {l : List (List UInt8)} {nn : Bool} {x : List UInt8} (hl : l.length ≤ 100000) : PureP (findFn tab) 70 [.sl nn (vs .str l), .str x] (fun v => ∃ b r, v = .sl b (vs .str r) ∧ (b = false → r = []) ∧ r.length ≤ l.length ∧ ∀ y ∈ r, y ∈ l) := by
  refine pureP_of rfl rfl ?_
  (conv => whnf); repeat' (first  | ((with_reducible first | apply kN | apply kW | apply kX | apply kG | apply kQ); (· exact sd); conv => whnf) | (refine pcase.mk ?_ ?_ <;> intro hc <;> (try rw [List.length_nil] at hc) <;> first | (exfalso; omega) | (exact absurd rfl hc) | conv => whnf) | (refine bcase_intro ?_ ?_ <;> intro hc <;> conv => whnf))
  refine loop_inv (fun m env s => ∃ (i c go k : Nat) (b : Bool) (r : List (List UInt8)), m = l.length - i ∧ i ≤ l.length ∧ k = r.length ∧ r.length ≤ i ∧ (b = false → r = []) ∧ (∀ y ∈ r, y ∈ l) ∧ env = [(0, .sl nn (vs .str l)), (1, .str x), (5, .own 0 go 0 k), (6, .int .i64 i)] ∧ s = ⟨[.arr go 1 b true (vs .str r)], c⟩) ?_ _ _ _ ⟨0, _, _, 0, _, [], rfl, by omega, rfl, by simp, fun _ => rfl, by simp, rfl, rfl⟩
  rintro _ _ _ ⟨i, c, go, k, b, r, rfl, hi, hk, hr, hb, hx, rfl, rfl⟩
  refine ⟨rfl, ?_⟩
  by_cases hlt : i < l.length
  · (conv => whnf); repeat' (first | (refine apV1 (x := l[i]) (fun _ => rfl) hk (by omega) ?_; conv => whnf) | ((with_reducible first | apply kN | apply kW | apply kX | apply kG | apply kQ); (· exact sd); conv => whnf) | (refine pcase.mk ?_ ?_ <;> intro hc <;> (try rw [List.length_nil] at hc) <;> first | (exfalso; omega) | (exact absurd rfl hc) | conv => whnf) | (refine bcase_intro ?_ ?_ <;> intro hc <;> conv => whnf))
    · exact again.mk ⟨_, by omega, i + 1, _, _, _, _, r, rfl, by omega, hk, by omega, hb, hx, rfl, rfl⟩
    · exact again.mk ⟨_, by omega, i + 1, _, _, _, _, r ++ [l[i]], rfl, by omega, by simp, by simp; omega, fun h => Bool.noConfusion h, fun y hy => by
        rcases List.mem_append.1 hy with hy | hy
        · exact hx y hy
        · obtain rfl := List.mem_singleton.1 hy; exact List.getElem_mem hlt, rfl, rfl⟩
  · subst hk
    (conv => whnf); repeat' (first  | ((with_reducible first | apply kN | apply kW | apply kX | apply kG | apply kQ); (· exact sd); conv => whnf) | (refine pcase.mk ?_ ?_ <;> intro hc <;> (try rw [List.length_nil] at hc) <;> first | (exfalso; omega) | (exact absurd rfl hc) | conv => whnf) | (refine bcase_intro ?_ ?_ <;> intro hc <;> conv => whnf))
    exact ⟨b, r, by first | rfl | (rw [uV]), hb, by omega, hx⟩

/-- labels with one more -/
theorem putStrR {l : List (List UInt8)} {nn : Bool} {x : List UInt8} (hl : l.length ≤ 100000) : PureP (findFn tab) 69 [.sl nn (vs .str l), .str x] (fun v => ∃ b r, v = .sl b (vs .str r) ∧ (b = false → r = []) ∧ r.length ≤ l.length + 1 ∧ ∀ y ∈ r, y = x ∨ y ∈ l) := by
  have hres : ∀ i, i ≤ l.length → ∀ (b : Bool) (r : List (List UInt8)), (r = l.take i ++ l.drop i ∨ r = l.take i ++ [x] ++ l.drop i) → r.length ≤ l.length + 1 ∧ ∀ y ∈ r, y = x ∨ y ∈ l := by
    rintro i hi b r (rfl | rfl)
    · rw [List.take_append_drop]; exact ⟨by omega, fun y hy => .inr hy⟩
    · refine ⟨by simp; omega, fun y hy => ?_⟩
      rcases List.mem_append.1 hy with hy | hy
      · rcases List.mem_append.1 hy with hy | hy
        · exact .inr (List.mem_of_mem_take hy)
        · exact .inl (List.mem_singleton.1 hy)
      · exact .inr (List.mem_of_mem_drop hy)
  refine pureP_of rfl rfl ?_
  (conv => whnf); repeat' (first  | ((with_reducible first | apply kN | apply kW | apply kX | apply kG | apply kQ); (· exact sd); conv => whnf) | (refine pcase.mk ?_ ?_ <;> intro hc <;> (try rw [List.length_nil] at hc) <;> first | (exfalso; omega) | (exact absurd rfl hc) | conv => whnf) | (refine bcase_intro ?_ ?_ <;> intro hc <;> conv => whnf))
  refine loop_inv (fun m env s => ∃ (i c go : Nat) (b : Bool), m = l.length - i ∧ i ≤ l.length ∧ env = [(0, .sl nn (vs .str l)), (1, .str x), (5, .own 0 go 0 0), (6, .int .i64 i)] ∧ s = ⟨[.arr go 1 b true (vs .str [])], c⟩) ?_ _ _ _ ⟨0, _, _, _, rfl, by omega, rfl, rfl⟩
  rintro _ _ _ ⟨i, c, go, b, rfl, hi, rfl, rfl⟩
  refine ⟨rfl, ?_⟩
  have h1 := hres i hi
  (conv => whnf); repeat' (first | ((with_reducible show need _ _); refine need.mk ⟨by (try rw [lV]); omega, by (try rw [lV]); omega⟩ ?_; conv => whnf) | ((with_reducible show need _ _); refine need.mk (allSize_vs cellsW _) ?_; conv => whnf) | ((with_reducible show eqK _ _); apply eqK_intro; (· exact sub_vs _ _ _); conv => whnf) | (refine apVf rfl cellsW (by first | rfl | (simp; done) | (simp; omega)) (by simp; omega) (by first | assumption | exact fun _ => rfl | exact fun h => Bool.noConfusion h) ?_; intro b1 hb1; conv => whnf) | (refine apV1 (x := x) cellsW (by first | rfl | (simp; done) | (simp; omega)) (by simp; omega) ?_; conv => whnf) | ((with_reducible first | apply kN | apply kW | apply kX | apply kG | apply kQ); (· exact sd); conv => whnf) | (refine pcase.mk ?_ ?_ <;> intro hc <;> (try rw [List.length_nil] at hc) <;> first | (exfalso; omega) | (exact absurd rfl hc) | conv => whnf) | (refine bcase_intro ?_ ?_ <;> intro hc <;> conv => whnf))
  all_goals first
    | exact again.mk ⟨_, by omega, i + 1, _, _, _, rfl, by omega, rfl, rfl⟩
    | (refine ⟨b1, _, rfl, fun h => by rw [takeAll]; exact hb1 h, ?_⟩
       rw [takeAll]
       exact h1 b1 _ (by first | (left; simp [List.take_of_length_le]; done) | (right; simp [List.take_of_length_le]; done)))
    | trace_state

end AI
end Go.Proofs.YtnfdpfeeenmffaaGreatDoor
set_option linter.unusedVariables false
namespace Go.Proofs.YtnfdpfeeenmffaaGreatDoor
namespace AI

/-- what comes of putting a node -/
def PutN (ns : List Int) (g : GG) (n : GN) (v : AV) : Prop := ∃ (b : Bool) (l : List GN) (z : Int), v = GG.av ⟨b, l, g.en, g.edges, z, g.nextE⟩ ∧ (b = false → l = []) ∧ I64 z ∧ l.length ≤ g.nodes.length + 1 ∧ (∀ x ∈ l, x = n ∨ x ∈ g.nodes) ∧ keepN ns l = keepN ns g.nodes
def PutE (es : List Int) (g : GG) (n : GE) (v : AV) : Prop := ∃ (b : Bool) (l : List GE) (z : Int), v = GG.av ⟨g.nn, g.nodes, b, l, g.nextN, z⟩ ∧ (b = false → l = []) ∧ I64 z ∧ l.length ≤ g.edges.length + 1 ∧ (∀ x ∈ l, x = n ∨ x ∈ g.edges) ∧ keepE es l = keepE es g.edges

theorem or_snoc {α : Type} {l : List α} {n x : α} {N : List α} (h : ∀ y ∈ l, y = n ∨ y ∈ N) (hx : x = n ∨ x ∈ N) : ∀ y ∈ l ++ [x], y = n ∨ y ∈ N := by
  intro y hy
  rcases List.mem_append.1 hy with hy | hy
  · exact h y hy
  · obtain rfl := List.mem_singleton.1 hy; exact hx

set_option maxHeartbeats 1000000 in
theorem putN {g : GG} {n : GN} {ns : List Int} (hg : g.ok) (hN : g.nodes.length ≤ 3000) (hi1 : 1 ≤ n.id) (hi2 : n.id ≤ 1000000) (hm : n.id ∈ ns) : PureP (findFn tab) 35 [g.av, n.av] (PutN ns g n) := by
  obtain ⟨g1, g2, g3, g4, g5, g6, g7, g8⟩ := hg
  unfold I64 at g7
  refine pureP_of rfl rfl ?_
  (conv => whnf); repeat' (first  | ((with_reducible first | apply kN | apply kW | apply kX | apply kG | apply kQ); (· exact sd); conv => whnf) | (refine pcase.mk ?_ ?_ <;> intro hc <;> (try rw [List.length_nil] at hc) <;> first | (exfalso; omega) | (exact absurd rfl hc) | conv => whnf) | (refine bcase_intro ?_ ?_ <;> intro hc <;> conv => whnf))
  refine loop_inv (fun m env s => ∃ (i c go k : Nat) (b d : Bool) (l : List GN), m = g.nodes.length - i ∧ i ≤ g.nodes.length ∧ k = l.length ∧ (d = false → l.length ≤ i) ∧ l.length ≤ i + 1 ∧ (b = false → l = []) ∧ (∀ x ∈ l, x = n ∨ x ∈ g.nodes) ∧ keepN ns l = keepN ns (g.nodes.take i) ∧ env = [(2, .ref 0 0 0 0), (3, .ref 1 1 0 0), (4, .ref 2 2 0 0), (5, .own 3 go 0 k), (6, .bool d), (7, .int .i64 i)] ∧
    s = ⟨[.arr 0 4 true true [g.av], .arr 1 3 true true [n.av], .arr 2 4 true true [.agg [.sl false [], .sl false [], .int .i64 0, .int .i64 0]], .arr go 3 b true (vs GN.av l)], c⟩) ?_ _ _ _ ⟨0, _, _, 0, _, _, [], rfl, by omega, rfl, fun _ => by simp, by simp, fun _ => rfl, by simp, rfl, rfl, rfl⟩
  rintro _ _ _ ⟨i, c, go, k, b, d, l, rfl, hi, hk, hd, hl, hb, hx, hkeep, rfl, rfl⟩
  refine ⟨rfl, ?_⟩
  subst hk
  by_cases hlt : i < g.nodes.length
  · have hNi : g.nodes[i] ∈ g.nodes := List.getElem_mem hlt
    cases d
    all_goals
      (conv => whnf); repeat' (first | (refine apV1 (x := n) cellsN (by simp) (by simp; omega) ?_; conv => whnf) | (refine apV1 (x := g.nodes[i]) cellsN (by simp) (by simp; omega) ?_; conv => whnf) | ((with_reducible first | apply kN | apply kW | apply kX | apply kG | apply kQ); (· exact sd); conv => whnf) | (refine pcase.mk ?_ ?_ <;> intro hc <;> (try rw [List.length_nil] at hc) <;> first | (exfalso; omega) | (exact absurd rfl hc) | conv => whnf) | (refine bcase_intro ?_ ?_ <;> intro hc <;> conv => whnf))
    all_goals first
      | exact again.mk ⟨_, by omega, i + 1, _, _, _, _, _, l ++ [n] ++ [g.nodes[i]], rfl, by omega, by simp, fun h => Bool.noConfusion h, by simp; have := hd rfl; omega, fun h => Bool.noConfusion h, or_snoc (or_snoc hx (.inl rfl)) (.inr hNi), keepN_yes hlt (keepN_no hkeep hm), rfl, rfl⟩
      | exact again.mk ⟨_, by omega, i + 1, _, _, _, _, _, l ++ [g.nodes[i]], rfl, by omega, by simp, fun _ => by simp; have := hd rfl; omega, by simp; have := hd rfl; omega, fun h => Bool.noConfusion h, or_snoc hx (.inr hNi), keepN_yes hlt hkeep, rfl, rfl⟩
      | exact again.mk ⟨_, by omega, i + 1, _, _, _, _, _, l ++ [g.nodes[i]], rfl, by omega, by simp, fun h => Bool.noConfusion h, by simp; omega, fun h => Bool.noConfusion h, or_snoc hx (.inr hNi), keepN_yes hlt hkeep, rfl, rfl⟩
      | (have hin : (g.nodes[i]).id ∈ ns := by rw [show (g.nodes[i]).id = n.id by omega]; exact hm
         first
          | exact again.mk ⟨_, by omega, i + 1, _, _, _, _, _, l ++ [n], rfl, by omega, by simp, fun h => Bool.noConfusion h, by simp; have := hd rfl; omega, fun h => Bool.noConfusion h, or_snoc hx (.inl rfl), keepN_out hlt (keepN_no hkeep hm) hin, rfl, rfl⟩
          | exact again.mk ⟨_, by omega, i + 1, _, _, _, _, _, l, rfl, by omega, rfl, fun h => Bool.noConfusion h, by omega, hb, hx, keepN_out hlt hkeep hin, rfl, rfl⟩)
  · rw [show i = g.nodes.length by omega] at hd hl hkeep
    rw [List.take_length] at hkeep
    cases d
    all_goals
      (conv => whnf); repeat' (first | (refine apV1 (x := n) cellsN (by simp) (by simp; omega) ?_; conv => whnf) | ((with_reducible first | apply kN | apply kW | apply kX | apply kG | apply kQ); (· exact sd); conv => whnf) | (refine pcase.mk ?_ ?_ <;> intro hc <;> (try rw [List.length_nil] at hc) <;> first | (exfalso; omega) | (exact absurd rfl hc) | conv => whnf) | (refine bcase_intro ?_ ?_ <;> intro hc <;> conv => whnf))
    · exact ⟨_, l ++ [n], (if n.id + 1 > g.nextN then n.id + 1 else g.nextN), rfl, fun h => Bool.noConfusion h, by unfold I64; split <;> omega, by have := hd rfl; simp; omega, or_snoc hx (.inl rfl), keepN_no hkeep hm⟩
    · exact ⟨b, l, (if n.id + 1 > g.nextN then n.id + 1 else g.nextN), rfl, hb, by unfold I64; split <;> omega, hl, hx, hkeep⟩


set_option maxHeartbeats 1000000 in
theorem putE {g : GG} {n : GE} {ns : List Int} (hg : g.ok) (hN : g.edges.length ≤ 3000) (hi1 : 1 ≤ n.id) (hi2 : n.id ≤ 1000000) (hm : n.id ∈ ns) : PureP (findFn tab) 36 [g.av, n.av] (PutE ns g n) := by
  obtain ⟨g1, g2, g3, g4, g5, g6, g7, g8⟩ := hg
  unfold I64 at g8
  refine pureP_of rfl rfl ?_
  (conv => whnf); repeat' (first  | ((with_reducible first | apply kN | apply kW | apply kX | apply kG | apply kQ); (· exact sd); conv => whnf) | (refine pcase.mk ?_ ?_ <;> intro hc <;> (try rw [List.length_nil] at hc) <;> first | (exfalso; omega) | (exact absurd rfl hc) | conv => whnf) | (refine bcase_intro ?_ ?_ <;> intro hc <;> conv => whnf))
  refine loop_inv (fun m env s => ∃ (i c go k : Nat) (b d : Bool) (l : List GE), m = g.edges.length - i ∧ i ≤ g.edges.length ∧ k = l.length ∧ (d = false → l.length ≤ i) ∧ l.length ≤ i + 1 ∧ (b = false → l = []) ∧ (∀ x ∈ l, x = n ∨ x ∈ g.edges) ∧ keepE ns l = keepE ns (g.edges.take i) ∧ env = [(2, .ref 0 0 0 0), (3, .ref 1 1 0 0), (4, .ref 2 2 0 0), (5, .own 3 go 0 k), (6, .bool d), (7, .int .i64 i)] ∧
    s = ⟨[.arr 0 4 true true [g.av], .arr 1 5 true true [n.av], .arr 2 4 true true [.agg [.sl false [], .sl false [], .int .i64 0, .int .i64 0]], .arr go 5 b true (vs GE.av l)], c⟩) ?_ _ _ _ ⟨0, _, _, 0, _, _, [], rfl, by omega, rfl, fun _ => by simp, by simp, fun _ => rfl, by simp, rfl, rfl, rfl⟩
  rintro _ _ _ ⟨i, c, go, k, b, d, l, rfl, hi, hk, hd, hl, hb, hx, hkeep, rfl, rfl⟩
  refine ⟨rfl, ?_⟩
  subst hk
  by_cases hlt : i < g.edges.length
  · have hEi : g.edges[i] ∈ g.edges := List.getElem_mem hlt
    cases d
    all_goals
      (conv => whnf); repeat' (first | (refine apV1 (x := n) cellsE (by simp) (by simp; omega) ?_; conv => whnf) | (refine apV1 (x := g.edges[i]) cellsE (by simp) (by simp; omega) ?_; conv => whnf) | ((with_reducible first | apply kN | apply kW | apply kX | apply kG | apply kQ); (· exact sd); conv => whnf) | (refine pcase.mk ?_ ?_ <;> intro hc <;> (try rw [List.length_nil] at hc) <;> first | (exfalso; omega) | (exact absurd rfl hc) | conv => whnf) | (refine bcase_intro ?_ ?_ <;> intro hc <;> conv => whnf))
    all_goals first
      | exact again.mk ⟨_, by omega, i + 1, _, _, _, _, _, l ++ [n] ++ [g.edges[i]], rfl, by omega, by simp, fun h => Bool.noConfusion h, by simp; have := hd rfl; omega, fun h => Bool.noConfusion h, or_snoc (or_snoc hx (.inl rfl)) (.inr hEi), keepE_yes hlt (keepE_no hkeep hm), rfl, rfl⟩
      | exact again.mk ⟨_, by omega, i + 1, _, _, _, _, _, l ++ [g.edges[i]], rfl, by omega, by simp, fun _ => by simp; have := hd rfl; omega, by simp; have := hd rfl; omega, fun h => Bool.noConfusion h, or_snoc hx (.inr hEi), keepE_yes hlt hkeep, rfl, rfl⟩
      | exact again.mk ⟨_, by omega, i + 1, _, _, _, _, _, l ++ [g.edges[i]], rfl, by omega, by simp, fun h => Bool.noConfusion h, by simp; omega, fun h => Bool.noConfusion h, or_snoc hx (.inr hEi), keepE_yes hlt hkeep, rfl, rfl⟩
      | (have hin : (g.edges[i]).id ∈ ns := by rw [show (g.edges[i]).id = n.id by omega]; exact hm
         first
          | exact again.mk ⟨_, by omega, i + 1, _, _, _, _, _, l ++ [n], rfl, by omega, by simp, fun h => Bool.noConfusion h, by simp; have := hd rfl; omega, fun h => Bool.noConfusion h, or_snoc hx (.inl rfl), keepE_out hlt (keepE_no hkeep hm) hin, rfl, rfl⟩
          | exact again.mk ⟨_, by omega, i + 1, _, _, _, _, _, l, rfl, by omega, rfl, fun h => Bool.noConfusion h, by omega, hb, hx, keepE_out hlt hkeep hin, rfl, rfl⟩)
  · rw [show i = g.edges.length by omega] at hd hl hkeep
    rw [List.take_length] at hkeep
    cases d
    all_goals
      (conv => whnf); repeat' (first | (refine apV1 (x := n) cellsE (by simp) (by simp; omega) ?_; conv => whnf) | ((with_reducible first | apply kN | apply kW | apply kX | apply kG | apply kQ); (· exact sd); conv => whnf) | (refine pcase.mk ?_ ?_ <;> intro hc <;> (try rw [List.length_nil] at hc) <;> first | (exfalso; omega) | (exact absurd rfl hc) | conv => whnf) | (refine bcase_intro ?_ ?_ <;> intro hc <;> conv => whnf))
    · exact ⟨_, l ++ [n], (if n.id + 1 > g.nextE then n.id + 1 else g.nextE), rfl, fun h => Bool.noConfusion h, by unfold I64; split <;> omega, by have := hd rfl; simp; omega, or_snoc hx (.inl rfl), keepE_no hkeep hm⟩
    · exact ⟨b, l, (if n.id + 1 > g.nextE then n.id + 1 else g.nextE), rfl, hb, by unfold I64; split <;> omega, hl, hx, hkeep⟩


end AI
end Go.Proofs.YtnfdpfeeenmffaaGreatDoor
