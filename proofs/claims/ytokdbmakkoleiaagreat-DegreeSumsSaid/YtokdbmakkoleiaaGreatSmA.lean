/- Sums of degree sequences: plain. -/
import Derived.Test.YtokdbmakkoleiaaGreatOfD
set_option linter.unusedVariables false
namespace Go.Proofs.YtokdbmakkoleiaaGreat
namespace AI

theorem incr_nd {l : List Int} (h : incr l) : l.Nodup := by
  rw [List.nodup_iff_pairwise_ne, List.pairwise_iff_getElem]
  intro i j hi hj hij
  have := incr_mono h hij hj
  omega

theorem sum_pos : ∀ {l : List Int}, (∀ x ∈ l, 0 ≤ x) → sumI (l.filter (fun x => decide (0 < x))) = sumI l
  | [], _ => rfl
  | x :: l, h => by
    have ih := sum_pos (l := l) fun y hy => h y (List.mem_cons_of_mem _ hy)
    have h0 := h x (List.mem_cons_self ..)
    by_cases hx : 0 < x
    · rw [List.filter_cons_of_pos (by simpa using hx)]; simp only [sumI, ih]
    · rw [List.filter_cons_of_neg (by simpa using hx)]; simp only [sumI, ih]; omega

/-- does an edge count? -/
def tyJ (x : List UInt8) (e : GE) : Int := if x = [] ∨ e.ty = x then 1 else 0
/-- the end of an edge -/
def endp (dir : Int) (e : GE) : Int := if dir = 1 then e.fr else e.to

theorem hit_sum {typ : List UInt8} {dir : Int} {e : GE} {l : List Int} (hd : dir = 1 ∨ dir = 2) (hn : l.Nodup) (hm : endp dir e ∈ l) : sumI (l.map fun n => hitI typ dir n e) = tyJ typ e := by
  unfold tyJ
  by_cases ht : typ = [] ∨ e.ty = typ
  · rw [if_pos ht, ← sumI_one (c := 1) hn hm]
    refine sumI_congr fun n _ => ?_
    by_cases he : endp dir e = n
    · rw [if_pos he]
      refine if_pos (show hits typ dir n e from ⟨ht, ?_⟩)
      unfold endp at he
      rcases hd with rfl | rfl
      · exact .inl ⟨rfl, by simpa using he⟩
      · exact .inr ⟨rfl, by simpa using he⟩
    · rw [if_neg he]
      refine if_neg (show ¬ hits typ dir n e from ?_)
      rintro ⟨_, ⟨rfl, h⟩ | ⟨rfl, h⟩⟩
      · exact he (by simpa [endp] using h)
      · exact he (by simpa [endp] using h)
  · rw [if_neg ht]
    exact (sumI_congr (g := fun _ => 0) fun n _ => if_neg (show ¬ hits typ dir n e from fun h => ht h.1)).trans sumI_zero

theorem sumI_const : ∀ {α : Type} {l : List α}, sumI (l.map fun _ => (1 : Int)) = l.length
  | _, [] => rfl
  | _, x :: l => by simp only [List.map_cons, sumI, sumI_const (l := l), List.length_cons]; omega

theorem degs_sum {g : GG} (hc : checkE g = 0) {dir : Int} (hd : dir = 1 ∨ dir = 2) {x : List UInt8} : sumI (degs x dir g.nodes g.edges) = sumI (g.edges.map (tyJ x)) := by
  obtain ⟨c1, c2, c3, c4⟩ := check_ok hc
  have hnd := incr_nd (incr_nodes c3)
  unfold degs
  rw [sum_pos fun y hy => by obtain ⟨n, _, rfl⟩ := List.mem_map.1 hy; exact degI_bound.1]
  have e : (g.nodes.map fun n => degI x dir g.edges n.id) = (nids g.nodes).map fun v => sumI (g.edges.map fun e => hitI x dir v e) := by unfold nids; rw [List.map_map]; rfl
  rw [e, sumI_swap]
  refine sumI_congr fun e he => hit_sum hd hnd ?_
  obtain ⟨k, hk, rfl⟩ := List.getElem_of_mem he
  have := edge_ok hk (c4 k hk)
  unfold endp
  split
  · exact this.2.2.2.1
  · exact this.2.2.2.2.1

theorem sum_perm {a b : List Int} (h : a.Perm b) : sumI a = sumI b := by
  have := sumI_perm (f := id) h
  simpa using this

theorem seqL_sum {g : GG} (hc : checkE g = 0) {dir : Int} (hd : dir = 1 ∨ dir = 2) {x : List UInt8} (hx : x ≠ []) : sumI (seqL g dir x) = cntT g.edges x := by
  unfold seqL
  rw [sum_perm sortB_perm, degs_sum hc hd]
  refine sumI_congr fun e _ => ?_
  unfold tyJ tyI
  by_cases h : e.ty = x
  · rw [if_pos (.inr h), if_pos h]
  · rw [if_neg (fun h1 => h1.elim hx h), if_neg h]

theorem seq0_sum {g : GG} (hc : checkE g = 0) {dir : Int} (hd : dir = 1 ∨ dir = 2) {W : List Int} (h : W.Perm (degs [] dir g.nodes g.edges)) : sumI W = g.edges.length := by
  rw [sum_perm h, degs_sum hc hd, ← sumI_const]
  refine sumI_congr fun e _ => ?_
  exact if_pos (.inl rfl)

theorem sumS_one {x : List UInt8} : ∀ {l : List (List UInt8)}, l.Nodup → x ∈ l → sumI (l.map fun n => if x = n then (1 : Int) else 0) = 1
  | [], _, h => by simp at h
  | y :: l, hn, h => by
    have hn' := List.nodup_cons.1 hn
    simp only [List.map_cons, sumI]
    by_cases e : x = y
    · subst e
      have : sumI (l.map fun n => if x = n then (1 : Int) else 0) = 0 := by
        rw [sumI_congr (g := fun _ => 0) fun z hz => if_neg fun (e : x = z) => hn'.1 (e ▸ hz)]
        exact sumI_zero
      rw [this, if_pos rfl]; rfl
    · rw [if_neg e, sumS_one hn'.2 ((List.mem_cons.1 h).resolve_left e)]; rfl

theorem types_sum {E : List GE} {T : List (List UInt8)} (hT : T.Nodup) (hm : ∀ e ∈ E, e.ty ∈ T) : sumI (T.map (cntT E)) = E.length := by
  have e : T.map (cntT E) = T.map fun x => sumI (E.map fun e => tyI x e) := rfl
  rw [e, sumI_swap, ← sumI_const (l := E)]
  refine sumI_congr fun e he => ?_
  exact sumS_one hT (hm e he)

/-- types of a valid graph are not empty -/
theorem type_ne {g : GG} (hc : checkE g = 0) {x : List UInt8} (h : x ∈ typesOf g.edges) : x ≠ [] := by
  obtain ⟨e, he, rfl⟩ := List.mem_map.1 h
  obtain ⟨k, hk, rfl⟩ := List.getElem_of_mem he
  have := (edge_ok hk ((check_ok hc).2.2.2 k hk)).2.2.2.2.2.1
  intro h0
  have h1 := this.1
  rw [h0] at h1
  simp at h1

theorem seqL_in {g : GG} (hE : g.edges.length ≤ 4000) {dir : Int} {x : List UInt8} {W : List Int} (hW : W.Perm (degs x dir g.nodes g.edges)) : ∀ y ∈ W, 1 ≤ y ∧ y ≤ 4000 := by
  intro y hy
  have h := hW.mem_iff.1 hy
  unfold degs at h
  obtain ⟨h1, h2⟩ := List.mem_filter.1 h
  obtain ⟨n, _, rfl⟩ := List.mem_map.1 h1
  have := degI_bound (typ := x) (dir := dir) (n := n.id) (E := g.edges)
  have := of_decide_eq_true h2
  omega

end AI
end Go.Proofs.YtokdbmakkoleiaaGreat
