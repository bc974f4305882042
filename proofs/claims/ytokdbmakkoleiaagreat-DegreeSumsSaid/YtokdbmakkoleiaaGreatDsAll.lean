/- Sorting (slices.SortFunc[[]int,int]), leaving out what repeats (none). Degrees of nodes: plain. Degree sequences: the program's. Degree sequences: the reference's; both, of any graph. -/
import Derived.Test.YtokdbmakkoleiaaGreatPgD
import Derived.Test.YtokdbmakkoleiaaGreatMP
import Derived.Test.YtokdbmakkoleiaaGreatMW
import Derived.Test.YtokdbmakkoleiaaGreatMT
import Derived.Test.YtokdbmakkoleiaaGreatMG
import Derived.Test.YtokdbmakkoleiaaGreatDsR
set_option linter.unusedVariables false
namespace Go.Proofs.YtokdbmakkoleiaaGreat
namespace AI
open Go.Sort

theorem pgsort {ob0 ob1 : Obj} {g len c : Nat} {nn cl : Bool} {L : List Int} (hl : L.length = len) (hs : len < 2^61) :
    Calls1 (findFn tab) 46 [.own 2 g 0 len, .fn 47 []] ⟨[ob0, ob1, .arr g 1 nn cl (vs (.int .i64) L)], c⟩ fun out s' => ∃ c' W, out = .ok (.tup []) ∧ s' = ⟨[ob0, ob1, .arr g 1 nn cl (vs (.int .i64) W)], c'⟩ ∧ W.Perm L ∧ W.Pairwise (fun x y => ltF y x = false) := by
  have hb : bitsLen len ≤ 62 := (bitsLen_le_iff len 62).2 (by omega)
  refine calls1_of rfl rfl ?_
  (conv => whnf); repeat' (first | (refine wrapN len rfl rfl (by show _ < 2^64; omega) ?_; conv => whnf) | (refine callK_of (bitsLenP (n := len) (by omega)) ?_; rintro _ rfl; conv => whnf) | ((with_reducible first | apply kN | apply kW | apply kX | apply kG | apply kQ); (· exact sd); conv => whnf) | (refine pcase.mk ?_ ?_ <;> intro hc <;> (try rw [List.length_nil] at hc) <;> first | (exfalso; omega) | (exact absurd rfl hc) | conv => whnf) | (refine bcase_intro ?_ ?_ <;> intro hc <;> conv => whnf))
  refine (pgsortQ hl hs (by omega) (by omega)).mono ?_
  rintro _ _ ⟨c', W, rfl, rfl, h1, h2⟩
  conv => whnf
  apply getK_intro rfl
  (conv => whnf); repeat' (first  | ((with_reducible first | apply kN | apply kW | apply kX | apply kG | apply kQ); (· exact sd); conv => whnf) | (refine pcase.mk ?_ ?_ <;> intro hc <;> (try rw [List.length_nil] at hc) <;> first | (exfalso; omega) | (exact absurd rfl hc) | conv => whnf) | (refine bcase_intro ?_ ?_ <;> intro hc <;> conv => whnf))
  exact ⟨_, W, rfl, rfl, h1, h2⟩

end AI
end Go.Proofs.YtokdbmakkoleiaaGreat

set_option linter.unusedVariables false
namespace Go.Proofs.YtokdbmakkoleiaaGreat
namespace AI

/-- does an edge count at a node? -/
def hits (typ : List UInt8) (dir n : Int) (e : GE) : Prop := (typ = [] ∨ e.ty = typ) ∧ (dir = 1 ∧ e.fr = n ∨ dir = 2 ∧ e.to = n)
instance (typ : List UInt8) (dir n : Int) (e : GE) : Decidable (hits typ dir n e) := by unfold hits; infer_instance

def hitI (typ : List UInt8) (dir n : Int) (e : GE) : Int := if hits typ dir n e then 1 else 0
/-- the degree of a node -/
def degI (typ : List UInt8) (dir : Int) (E : List GE) (n : Int) : Int := sumI (E.map (hitI typ dir n))

theorem degI_take {typ : List UInt8} {dir n : Int} {E : List GE} {i : Nat} (h : i < E.length) : degI typ dir (E.take (i + 1)) n = degI typ dir (E.take i) n + hitI typ dir n E[i] := sumI_take h
theorem degI_bound {typ : List UInt8} {dir n : Int} {E : List GE} : 0 ≤ degI typ dir E n ∧ degI typ dir E n ≤ E.length := by
  have := sumI_bound (l := E) (f := hitI typ dir n) (c := 1) fun x _ => by unfold hitI; split <;> omega
  unfold degI; omega
theorem degI_bad {typ : List UInt8} {dir n : Int} {E : List GE} (h : dir ≠ 1) (h2 : dir ≠ 2) : degI typ dir E n = 0 := by
  unfold degI
  refine (sumI_congr (g := fun _ => 0) fun e _ => ?_).trans sumI_zero
  exact if_neg fun hh => by unfold hits at hh; omega

/-- the degrees that count -/
def degs (typ : List UInt8) (dir : Int) (N : List GN) (E : List GE) : List Int := (N.map fun n => degI typ dir E n.id).filter (fun x => decide (0 < x))

theorem degs_succ {typ : List UInt8} {dir : Int} {N : List GN} {E : List GE} {i : Nat} (h : i < N.length) :
    degs typ dir (N.take (i + 1)) E = degs typ dir (N.take i) E ++ (if 0 < degI typ dir E (N[i]).id then [degI typ dir E (N[i]).id] else []) := by
  unfold degs
  rw [List.take_succ_eq_append_getElem h, List.map_append, List.filter_append]
  congr 1
  by_cases hd : 0 < degI typ dir E (N[i]).id
  · rw [if_pos hd]; simp [hd]
  · rw [if_neg hd]; simp [hd]
theorem degs_len {typ : List UInt8} {dir : Int} {N : List GN} {E : List GE} : (degs typ dir N E).length ≤ N.length := by
  unfold degs
  have := List.length_filter_le (fun x => decide (0 < x)) (N.map fun n => degI typ dir E n.id)
  simpa using this
theorem degs_bad {typ : List UInt8} {dir : Int} {N : List GN} {E : List GE} (h : dir ≠ 1) (h2 : dir ≠ 2) : degs typ dir N E = [] := by
  unfold degs
  rw [List.filter_eq_nil_iff]
  intro x hx
  obtain ⟨n, _, rfl⟩ := List.mem_map.1 hx
  rw [degI_bad h h2]
  decide

/-- what a degree sequence is -/
def SeqOf (c : Int) (typ : List UInt8) (dir : Int) (N : List GN) (E : List GE) (W : List Int) : Prop := (c ≠ 0 → W = []) ∧ (c = 0 → desc W ∧ W.Perm (degs typ dir N E))
theorem seqOf_eq {c : Int} {typ : List UInt8} {dir : Int} {N : List GN} {E : List GE} {W W' : List Int} (h : SeqOf c typ dir N E W) (h' : SeqOf c typ dir N E W') : W = W' := by
  by_cases hc : c = 0
  · obtain ⟨d1, p1⟩ := h.2 hc
    obtain ⟨d2, p2⟩ := h'.2 hc
    exact desc_unique (p1.trans p2.symm) d1 d2
  · rw [h.1 hc, h'.1 hc]
theorem seqOf_len {c : Int} {typ : List UInt8} {dir : Int} {N : List GN} {E : List GE} {W : List Int} (h : SeqOf c typ dir N E W) : W.length ≤ N.length := by
  by_cases hc : c = 0
  · rw [(h.2 hc).2.length_eq]; exact degs_len
  · rw [h.1 hc]; simp

end AI
end Go.Proofs.YtokdbmakkoleiaaGreat

set_option linter.unusedVariables false
namespace Go.Proofs.YtokdbmakkoleiaaGreat
namespace AI

theorem desc_of {W : List Int} (h : W.Pairwise (fun x y => ltF y x = false)) : desc W := List.Pairwise.imp (fun h => by have := ltF_no.1 h; omega) h

/-- the direction that the counting takes -/
def dirE (dir : Int) : Int := if dir = 1 then 1 else 2

theorem hit1 {typ : List UInt8} {dir : Int} {e : GE} (ht : typ = [] ∨ e.ty = typ) (hd : dir = 1) (n : Int) : hitI typ (dirE dir) n e = if n = e.fr then 1 else 0 := by
  rw [show dirE dir = 1 from if_pos hd]
  by_cases h : n = e.fr
  · rw [if_pos h]; exact if_pos ⟨ht, .inl ⟨rfl, h.symm⟩⟩
  · rw [if_neg h]; exact if_neg fun hh => by have := hh.2; omega
theorem hit2 {typ : List UInt8} {dir : Int} {e : GE} (ht : typ = [] ∨ e.ty = typ) (hd : ¬ dir = 1) (n : Int) : hitI typ (dirE dir) n e = if n = e.to then 1 else 0 := by
  rw [show dirE dir = 2 from if_neg hd]
  by_cases h : n = e.to
  · rw [if_pos h]; exact if_pos ⟨ht, .inr ⟨rfl, h.symm⟩⟩
  · rw [if_neg h]; exact if_neg fun hh => by have := hh.2; omega
theorem hit0 {typ : List UInt8} {dir : Int} {e : GE} (ht : ¬ typ = []) (ht2 : ¬ e.ty = typ) (n : Int) : hitI typ dir n e = 0 := if_neg fun h => h.1.elim ht ht2

set_option maxHeartbeats 1000000 in
theorem countL {g : GG} (hl : g.edges.length ≤ 4000) {typ : List UInt8} {dir : Int} {c gm : Nat} {Q : AExit → Env → Sto → Prop}
    (hQ : ∀ c' M tl, (∀ n, (mget M n).getD 0 = degI typ (dirE dir) g.edges n) → Q (.exit 0) ([(1, .str typ), (2, .int .i64 dir), (3, .ref 0 0 0 0), (7, .map 1 gm)] ++ tl) ⟨[.arr 0 4 true true [g.av], .mp gm true (mints M)], c'⟩) :
    Run (findFn tab) (.loop l25_0_h l25_0_b) [(1, .str typ), (2, .int .i64 dir), (3, .ref 0 0 0 0), (7, .map 1 gm), (16, .sl g.en (vs GE.av g.edges)), (17, .int .i64 g.edges.length), (18, .int .i64 0)] ⟨[.arr 0 4 true true [g.av], .mp gm true []], c⟩ Q := by
  refine loop_inv (fun m env s => ∃ (i c : Nat) (M : List (Int × Int)), m = g.edges.length - i ∧ i ≤ g.edges.length ∧ (∀ n, (mget M n).getD 0 = degI typ (dirE dir) (g.edges.take i) n) ∧ env = [(1, .str typ), (2, .int .i64 dir), (3, .ref 0 0 0 0), (7, .map 1 gm), (16, .sl g.en (vs GE.av g.edges)), (17, .int .i64 g.edges.length), (18, .int .i64 i)] ∧ s = ⟨[.arr 0 4 true true [g.av], .mp gm true (mints M)], c⟩) ?_ _ _ _ ⟨0, c, [], rfl, by omega, fun n => rfl, rfl, rfl⟩
  rintro _ _ _ ⟨i, c, M, rfl, hi, hM, rfl, rfl⟩
  refine ⟨rfl, ?_⟩
  by_cases hlt : i < g.edges.length
  · have hb : ∀ n, 0 ≤ (mget M n).getD 0 ∧ (mget M n).getD 0 ≤ 4000 := fun n => by
      rw [hM]; have := @degI_bound typ (dirE dir) n (g.edges.take i); rw [List.length_take] at this; omega
    have b1 := hb (g.edges[i]).fr
    have b2 := hb (g.edges[i]).to
    have hstep : ∀ (k v : Int) (hk : ∀ n, hitI typ (dirE dir) n g.edges[i] = if n = k then 1 else 0) (hv : v = (mget M k).getD 0 + 1), ∀ n, (mget (mset M k v) n).getD 0 = degI typ (dirE dir) (g.edges.take (i + 1)) n := by
      intro k v hk hv n
      rw [degI_take hlt, ← hM, hk, mget_mset]
      by_cases hn : n = k
      · rw [if_pos hn, if_pos hn, hn, hv]; rfl
      · rw [if_neg hn, if_neg hn, Int.add_zero]
    have hskip : (¬ typ = []) → (¬ (g.edges[i]).ty = typ) → ∀ n, (mget M n).getD 0 = degI typ (dirE dir) (g.edges.take (i + 1)) n := by
      intro h1 h2 n
      rw [degI_take hlt, ← hM, hit0 h1 h2, Int.add_zero]
    (conv => whnf); repeat' (first | (refine fkI (fun hm => ?_) (fun _ v hm => ?_) <;> (simp only [hm, Option.getD_none, Option.getD_some] at b1 b2) <;> conv => whnf) | (apply msI; conv => whnf) | ((with_reducible first | apply kN | apply kW | apply kX | apply kG | apply kQ); (· exact sd); conv => whnf) | (refine pcase.mk ?_ ?_ <;> intro hc <;> (try rw [List.length_nil] at hc) <;> first | (exfalso; omega) | (exact absurd rfl hc) | conv => whnf) | (refine bcase_intro ?_ ?_ <;> intro hc <;> conv => whnf))
    all_goals first
      | exact again.mk ⟨_, by omega, i + 1, _, _, rfl, by omega, hstep _ _ (hit1 (by first | (left; assumption) | (right; assumption)) (by assumption)) (by rw [hm]; rfl), rfl, rfl⟩
      | exact again.mk ⟨_, by omega, i + 1, _, _, rfl, by omega, hstep _ _ (hit2 (by first | (left; assumption) | (right; assumption)) (by assumption)) (by rw [hm]; rfl), rfl, rfl⟩
      | exact again.mk ⟨_, by omega, i + 1, _, M, rfl, by omega, hskip (by assumption) (by assumption), rfl, rfl⟩
  · rw [List.take_of_length_le (by omega)] at hM
    (conv => whnf); repeat' (first  | ((with_reducible first | apply kN | apply kW | apply kX | apply kG | apply kQ); (· exact sd); conv => whnf) | (refine pcase.mk ?_ ?_ <;> intro hc <;> (try rw [List.length_nil] at hc) <;> first | (exfalso; omega) | (exact absurd rfl hc) | conv => whnf) | (refine bcase_intro ?_ ?_ <;> intro hc <;> conv => whnf))
    exact hQ _ _ _ hM

set_option maxHeartbeats 1000000 in
theorem seqP {g : GG} (hN : g.nodes.length ≤ 2000) (hl : g.edges.length ≤ 4000) {typ : List UInt8} {dir : Int} : PureP (findFn tab) 25 [g.av, .str typ, .int .i64 dir] (fun v => ∃ b W, v = .sl b (vi W) ∧ desc W ∧ W.Perm (degs typ (dirE dir) g.nodes g.edges) ∧ (b = false → W = [])) := by
  refine pureP_of rfl rfl ?_
  (conv => whnf); repeat' (first  | ((with_reducible first | apply kN | apply kW | apply kX | apply kG | apply kQ); (· exact sd); conv => whnf) | (refine pcase.mk ?_ ?_ <;> intro hc <;> (try rw [List.length_nil] at hc) <;> first | (exfalso; omega) | (exact absurd rfl hc) | conv => whnf) | (refine bcase_intro ?_ ?_ <;> intro hc <;> conv => whnf))
  refine countL hl ?_
  intro c0 M tl hM
  (conv => whnf); repeat' (first  | ((with_reducible first | apply kN | apply kW | apply kX | apply kG | apply kQ); (· exact sd); conv => whnf) | (refine pcase.mk ?_ ?_ <;> intro hc <;> (try rw [List.length_nil] at hc) <;> first | (exfalso; omega) | (exact absurd rfl hc) | conv => whnf) | (refine bcase_intro ?_ ?_ <;> intro hc <;> conv => whnf))
  refine loop_inv (fun m env s => ∃ (i c go n gm : Nat) (b : Bool) (L : List Int), m = g.nodes.length - i ∧ i ≤ g.nodes.length ∧ L = degs typ (dirE dir) (g.nodes.take i) g.edges ∧ n = L.length ∧ n ≤ i ∧ (b = false → L = []) ∧ env = [(7, .map 1 gm), (10, .own 2 go 0 n), (44, .sl g.nn (vs GN.av g.nodes)), (45, .int .i64 g.nodes.length), (46, .int .i64 i)] ∧ s = ⟨[.arr 0 4 true true [g.av], .mp gm true (mints M), .arr go 1 b true (vi L)], c⟩) ?_ _ _ _ ⟨0, _, _, 0, _, _, [], rfl, by omega, rfl, rfl, by omega, fun _ => rfl, rfl, rfl⟩
  rintro _ _ _ ⟨i, c, go, n, gm, b, L, rfl, hi, hL, hn, hni, hnil, rfl, rfl⟩
  refine ⟨rfl, ?_⟩
  by_cases hlt : i < g.nodes.length
  · have hs := @degs_succ typ (dirE dir) g.nodes g.edges i hlt
    have hd := hM (g.nodes[i]).id
    rw [← hd, ← hL] at hs
    have hfin : ∀ z, z = (mget M (g.nodes[i]).id).getD 0 → 0 < z → L ++ [z] = degs typ (dirE dir) (g.nodes.take (i + 1)) g.edges := fun z hz h => by rw [hs, ← hz, if_pos h]
    have hfin0 : ∀ z, z = (mget M (g.nodes[i]).id).getD 0 → ¬ 0 < z → L = degs typ (dirE dir) (g.nodes.take (i + 1)) g.edges := fun z hz h => by rw [hs, ← hz, if_neg h, List.append_nil]
    (conv => whnf); repeat' (first | (refine fkI (fun hm => ?_) (fun _ v hm => ?_) <;> conv => whnf) | (refine apV1 (x := v) cellsI hn (by omega) ?_; conv => whnf) | ((with_reducible first | apply kN | apply kW | apply kX | apply kG | apply kQ); (· exact sd); conv => whnf) | (refine pcase.mk ?_ ?_ <;> intro hc <;> (try rw [List.length_nil] at hc) <;> first | (exfalso; omega) | (exact absurd rfl hc) | conv => whnf) | (refine bcase_intro ?_ ?_ <;> intro hc <;> conv => whnf))
    all_goals first
      | exact again.mk ⟨_, by omega, i + 1, _, _, _, _, _, _, rfl, by omega, hfin _ (by simp [hm]) (by assumption), by simp, by omega, fun h => Bool.noConfusion h, rfl, rfl⟩
      | exact again.mk ⟨_, by omega, i + 1, _, _, n, _, _, L, rfl, by omega, hfin0 _ rfl (by simp only [hm, Option.getD_none, Option.getD_some]; first | assumption | omega), hn, by omega, hnil, rfl, rfl⟩
  · rw [List.take_of_length_le (by omega)] at hL
    (conv => whnf); repeat' (first  | ((with_reducible first | apply kN | apply kW | apply kX | apply kG | apply kQ); (· exact sd); conv => whnf) | (refine pcase.mk ?_ ?_ <;> intro hc <;> (try rw [List.length_nil] at hc) <;> first | (exfalso; omega) | (exact absurd rfl hc) | conv => whnf) | (refine bcase_intro ?_ ?_ <;> intro hc <;> conv => whnf))
    refine (pgsort (L := L) hn.symm (by omega)).mono ?_
    rintro _ _ ⟨c1, W, rfl, rfl, h1, h2⟩
    have hw : W.length = n := by rw [h1.length_eq, hn]
    conv => whnf
    apply getK_intro rfl
    (conv => whnf); repeat' (first  | ((with_reducible first | apply kN | apply kW | apply kX | apply kG | apply kQ); (· exact sd); conv => whnf) | (refine pcase.mk ?_ ?_ <;> intro hc <;> (try rw [List.length_nil] at hc) <;> first | (exfalso; omega) | (exact absurd rfl hc) | conv => whnf) | (refine bcase_intro ?_ ?_ <;> intro hc <;> conv => whnf))
    refine ⟨b, W, ?_, desc_of h2, by rw [← hL]; exact h1, fun h => by have := hnil h; subst this; exact h1.eq_nil⟩
    rw [sub_vs, List.drop_zero, List.take_of_length_le (by omega)]

end AI
end Go.Proofs.YtokdbmakkoleiaaGreat

set_option linter.unusedVariables false
namespace Go.Proofs.YtokdbmakkoleiaaGreat
namespace AI

theorem degR {g : GG} (hl : g.edges.length ≤ 4000) {typ : List UInt8} {n dir : Int} : PureP (findFn tab) 31 [g.av, .int .i64 n, .str typ, .int .i64 dir] (· = .int .i64 (degI typ dir g.edges n)) := by
  refine pureP_of rfl rfl ?_
  (conv => whnf); repeat' (first  | ((with_reducible first | apply kN | apply kW | apply kX | apply kG | apply kQ); (· exact sd); conv => whnf) | (refine pcase.mk ?_ ?_ <;> intro hc <;> (try rw [List.length_nil] at hc) <;> first | (exfalso; omega) | (exact absurd rfl hc) | conv => whnf) | (refine bcase_intro ?_ ?_ <;> intro hc <;> conv => whnf))
  refine loop_inv (fun m env s => ∃ (i c : Nat), m = g.edges.length - i ∧ i ≤ g.edges.length ∧ env = [(1, .int .i64 n), (2, .str typ), (3, .int .i64 dir), (4, .ref 0 0 0 0), (9, .int .i64 (degI typ dir (g.edges.take i) n)), (10, .int .i64 i)] ∧ s = ⟨[.arr 0 4 true true [g.av]], c⟩) ?_ _ _ _ ⟨0, _, rfl, by omega, rfl, rfl⟩
  rintro _ _ _ ⟨i, c, rfl, hi, rfl, rfl⟩
  refine ⟨rfl, ?_⟩
  by_cases hlt : i < g.edges.length
  · have hb := @degI_bound typ dir n (g.edges.take i)
    rw [List.length_take] at hb
    have h1 : ∀ z, hits typ dir n g.edges[i] → z = degI typ dir (g.edges.take i) n + 1 → z = degI typ dir (g.edges.take (i + 1)) n := fun z h hz => by
      rw [degI_take hlt, hz, show hitI typ dir n g.edges[i] = 1 from if_pos h]
    have h0 : ¬ hits typ dir n g.edges[i] → degI typ dir (g.edges.take i) n = degI typ dir (g.edges.take (i + 1)) n := fun h => by
      rw [degI_take hlt, show hitI typ dir n g.edges[i] = 0 from if_neg h, Int.add_zero]
    generalize degI typ dir (g.edges.take i) n = x at *
    (conv => whnf); repeat' (first  | ((with_reducible first | apply kN | apply kW | apply kX | apply kG | apply kQ); (· exact sd); conv => whnf) | (refine pcase.mk ?_ ?_ <;> intro hc <;> (try rw [List.length_nil] at hc) <;> first | (exfalso; omega) | (exact absurd rfl hc) | conv => whnf) | (refine bcase_intro ?_ ?_ <;> intro hc <;> conv => whnf))
    all_goals first
      | exact again.mk ⟨_, by omega, i + 1, _, rfl, by omega, by rw [← h1 _ ⟨by first | (left; assumption) | (right; assumption), by omega⟩ rfl]; rfl, rfl⟩
      | exact again.mk ⟨_, by omega, i + 1, _, rfl, by omega, by rw [← h0 (by rintro ⟨ha, hb⟩; first | omega | (rcases ha with ha | ha <;> contradiction))]; rfl, rfl⟩
  · obtain rfl : i = g.edges.length := by omega
    rw [List.take_length]
    (conv => whnf); repeat' (first  | ((with_reducible first | apply kN | apply kW | apply kX | apply kG | apply kQ); (· exact sd); conv => whnf) | (refine pcase.mk ?_ ?_ <;> intro hc <;> (try rw [List.length_nil] at hc) <;> first | (exfalso; omega) | (exact absurd rfl hc) | conv => whnf) | (refine bcase_intro ?_ ?_ <;> intro hc <;> conv => whnf))
    rfl

theorem seqR {g : GG} (hg : g.ok) (hN : g.nodes.length ≤ 2000) (hl : g.edges.length ≤ 4000) {typ : List UInt8} {dir : Int} : PureP (findFn tab) 13 [g.av, .str typ, .int .i64 dir] (fun v => ∃ b W, v = .sl b (vi W) ∧ SeqOf (checkE g) typ dir g.nodes g.edges W) := by
  refine pureP_of rfl rfl ?_
  (conv => whnf); repeat' (first | (refine callK_of (checkR hg) ?_; rintro _ rfl; conv => whnf) | ((with_reducible first | apply kN | apply kW | apply kX | apply kG | apply kQ); (· exact sd); conv => whnf) | (refine pcase.mk ?_ ?_ <;> intro hc <;> (try rw [List.length_nil] at hc) <;> first | (exfalso; omega) | (exact absurd rfl hc) | conv => whnf) | (refine bcase_intro ?_ ?_ <;> intro hc <;> conv => whnf))
  rotate_left
  · exact ⟨false, [], rfl, fun _ => rfl, fun h => absurd h hc⟩
  have hck : checkE g = 0 := hc
  refine loop_inv (fun m env s => ∃ (i c go n : Nat) (b : Bool) (L : List Int), m = g.nodes.length - i ∧ i ≤ g.nodes.length ∧ L = degs typ dir (g.nodes.take i) g.edges ∧ n = L.length ∧ n ≤ i ∧ env = [(1, .str typ), (2, .int .i64 dir), (3, .ref 0 0 0 0), (7, .own 1 go 0 n), (8, .int .i64 i)] ∧ s = ⟨[.arr 0 4 true true [g.av], .arr go 1 b true (vi L)], c⟩) ?_ _ _ _ ⟨0, _, _, 0, _, [], rfl, by omega, rfl, rfl, by omega, rfl, rfl⟩
  rintro _ _ _ ⟨i, c, go, n, b, L, rfl, hi, hL, hn, hni, rfl, rfl⟩
  refine ⟨rfl, ?_⟩
  by_cases hlt : i < g.nodes.length
  · have hs := @degs_succ typ dir g.nodes g.edges i hlt
    (conv => whnf); repeat' (first | (refine callK_of (degR (g := g) (n := (g.nodes[i]).id) hl) ?_; rintro _ rfl; conv => whnf) | (refine apV1 (x := degI typ dir g.edges (g.nodes[i]).id) cellsI hn (by omega) ?_; conv => whnf) | ((with_reducible first | apply kN | apply kW | apply kX | apply kG | apply kQ); (· exact sd); conv => whnf) | (refine pcase.mk ?_ ?_ <;> intro hc <;> (try rw [List.length_nil] at hc) <;> first | (exfalso; omega) | (exact absurd rfl hc) | conv => whnf) | (refine bcase_intro ?_ ?_ <;> intro hc <;> conv => whnf))
    · rw [if_pos hc, ← hL] at hs
      exact again.mk ⟨_, by omega, i + 1, _, _, _, _, _, rfl, by omega, hs.symm, by simp, by omega, rfl, rfl⟩
    · rw [if_neg hc, ← hL, List.append_nil] at hs
      exact again.mk ⟨_, by omega, i + 1, _, _, n, _, L, rfl, by omega, hs.symm, hn, by omega, rfl, rfl⟩
  · rw [List.take_of_length_le (by omega)] at hL
    have hsub : sub (vi L) 0 n = vi L := by rw [sub_vs, List.drop_zero, List.take_of_length_le (by omega)]
    (conv => whnf); repeat' (first | ((with_reducible show eqK _ _); apply eqK_intro hsub; conv => whnf) | ((with_reducible first | apply kN | apply kW | apply kX | apply kG | apply kQ); (· exact sd); conv => whnf) | (refine pcase.mk ?_ ?_ <;> intro hc <;> (try rw [List.length_nil] at hc) <;> first | (exfalso; omega) | (exact absurd rfl hc) | conv => whnf) | (refine bcase_intro ?_ ?_ <;> intro hc <;> conv => whnf))
    refine callK_of (sortedR (l := L) (by omega)) ?_
    rintro _ ⟨b2, W, rfl, w1, w2⟩
    (conv => whnf); repeat' (first  | ((with_reducible first | apply kN | apply kW | apply kX | apply kG | apply kQ); (· exact sd); conv => whnf) | (refine pcase.mk ?_ ?_ <;> intro hc <;> (try rw [List.length_nil] at hc) <;> first | (exfalso; omega) | (exact absurd rfl hc) | conv => whnf) | (refine bcase_intro ?_ ?_ <;> intro hc <;> conv => whnf))
    exact ⟨b2, W, rfl, fun h => absurd hck h, fun _ => ⟨w1, by rw [← hL]; exact w2⟩⟩

/-- the program's Seq -/
theorem seqA {g : GG} (hg : g.ok) (hN : g.nodes.length ≤ 2000) (hl : g.edges.length ≤ 4000) {typ : List UInt8} {dir : Int} : PureP (findFn tab) 12 [g.av, .str typ, .int .i64 dir] (fun v => ∃ b W, v = .sl b (vi W) ∧ SeqOf (checkE g) typ dir g.nodes g.edges W ∧ (b = false → W = [])) := by
  by_cases hd : dir = 1 ∨ dir = 2
  · have he : dirE dir = dir := by unfold dirE; split <;> omega
    refine pureP_of rfl rfl ?_
    (conv => whnf); repeat' (first | (refine callK_of (checkG hg) ?_; rintro _ rfl; conv => whnf) | (refine callK_of (seqP (g := g) hN hl) ?_; rintro _ ⟨b, W, rfl, w1, w2, w3⟩; conv => whnf) | ((with_reducible first | apply kN | apply kW | apply kX | apply kG | apply kQ); (· exact sd); conv => whnf) | (refine pcase.mk ?_ ?_ <;> intro hc <;> (try rw [List.length_nil] at hc) <;> first | (exfalso; omega) | (exact absurd rfl hc) | conv => whnf) | (refine bcase_intro ?_ ?_ <;> intro hc <;> conv => whnf))
    all_goals first
      | exact ⟨_, _, rfl, ⟨fun h => absurd (by first | assumption | omega) h, fun _ => ⟨w1, by rw [he] at w2; exact w2⟩⟩, w3⟩
      | exact ⟨false, [], rfl, ⟨fun _ => rfl, fun h => absurd h (by first | assumption | omega)⟩, fun _ => rfl⟩
  · refine pureP_of rfl rfl ?_
    (conv => whnf); repeat' (first | (refine callK_of (checkG hg) ?_; rintro _ rfl; conv => whnf) | ((with_reducible first | apply kN | apply kW | apply kX | apply kG | apply kQ); (· exact sd); conv => whnf) | (refine pcase.mk ?_ ?_ <;> intro hc <;> (try rw [List.length_nil] at hc) <;> first | (exfalso; omega) | (exact absurd rfl hc) | conv => whnf) | (refine bcase_intro ?_ ?_ <;> intro hc <;> conv => whnf))
    all_goals first
      | (exfalso; omega)
      | exact ⟨false, [], rfl, ⟨fun _ => rfl, fun _ => ⟨List.Pairwise.nil, by rw [degs_bad (by omega) (by omega)]⟩⟩, fun _ => rfl⟩

end AI
end Go.Proofs.YtokdbmakkoleiaaGreat
