/- Products of two lists are greatest when both are sorted: plain. Walks of two edges, counted by their middle: plain. The worked examples in the degree laws: reckoned by the kernel. The law DegreeWalks, about the evaluator. -/
import Derived.Test.YtokdbmakkoleiaaGreatDsA
import Derived.Test.YtokdbmakkoleiaaGreatSu
import Derived.Test.YtokdbmakkoleiaaGreatDsAll
import Derived.Test.YtokdbmakkoleiaaGreatCk5
import Derived.Test.YtokdbmakkoleiaaGreatGrCode
import Derived.Test.YtokdbmakkoleiaaGreatDpAll
import Derived.Test.YtokdbmakkoleiaaGreatEnK

set_option linter.unusedVariables false
namespace Go.Proofs.YtokdbmakkoleiaaGreat
namespace AI

def dot : List Int → List Int → Int
  | x :: X, y :: Y => x * y + dot X Y
  | _, _ => 0
@[simp] theorem dot_nil (Y : List Int) : dot [] Y = 0 := by cases Y <;> rfl
@[simp] theorem dot_nil2 (X : List Int) : dot X [] = 0 := by cases X <;> rfl

/-- put in by a key -/
def insB {α : Type} (k : α → Int) (a : α) : List α → List α
  | [] => [a]
  | b :: l => if k b ≤ k a then a :: b :: l else b :: insB k a l
def sortB {α : Type} (k : α → Int) : List α → List α
  | [] => []
  | a :: l => insB k a (sortB k l)

theorem insB_perm {α : Type} {k : α → Int} {a : α} : ∀ {l : List α}, (insB k a l).Perm (a :: l)
  | [] => List.Perm.refl _
  | b :: l => by
    unfold insB
    split
    · exact List.Perm.refl _
    · exact (List.Perm.cons b insB_perm).trans (List.Perm.swap a b l)
theorem sortB_perm {α : Type} {k : α → Int} : ∀ {l : List α}, (sortB k l).Perm l
  | [] => List.Perm.refl _
  | a :: l => insB_perm.trans (List.Perm.cons a sortB_perm)
theorem insB_desc {α : Type} {k : α → Int} {a : α} : ∀ {l : List α}, l.Pairwise (fun x y => k y ≤ k x) → (insB k a l).Pairwise (fun x y => k y ≤ k x)
  | [], _ => List.pairwise_singleton ..
  | b :: l, h => by
    have h' := List.pairwise_cons.1 h
    unfold insB
    split
    · rename_i hc
      refine List.pairwise_cons.2 ⟨fun y hy => ?_, h⟩
      rcases List.mem_cons.1 hy with rfl | hy
      · exact hc
      · have := h'.1 y hy; omega
    · rename_i hc
      refine List.pairwise_cons.2 ⟨fun y hy => ?_, insB_desc h'.2⟩
      rcases List.mem_cons.1 (insB_perm.mem_iff.1 hy) with rfl | hy
      · omega
      · exact h'.1 y hy
theorem sortB_desc {α : Type} {k : α → Int} : ∀ {l : List α}, (sortB k l).Pairwise (fun x y => k y ≤ k x)
  | [] => List.Pairwise.nil
  | a :: l => insB_desc sortB_desc

theorem dot_ins : ∀ {S X : List Int} {x q : Int}, desc (x :: X) → X.length = S.length → dot (x :: X) (q :: S) ≤ dot (x :: X) (insB id q S)
  | [], X, x, q, _, _ => Int.le_refl _
  | s :: S, X, x, q, hx, hl => by
    unfold insB
    split
    · exact Int.le_refl _
    · rename_i hc
      simp only [id] at hc
      match X, hx, hl with
      | x2 :: X, hx, hl =>
        have h2 := List.pairwise_cons.1 hx
        have h3 := h2.1 x2 (List.mem_cons_self ..)
        have ih := dot_ins (S := S) (X := X) (x := x2) (q := q) h2.2 (by simpa using hl)
        have e : 0 ≤ (x - x2) * (s - q) := Int.mul_nonneg (by omega) (by omega)
        rw [Int.sub_mul, Int.mul_sub, Int.mul_sub] at e
        show x * q + (x2 * s + dot X S) ≤ x * s + dot (x2 :: X) (insB id q S)
        have : dot (x2 :: X) (q :: S) = x2 * q + dot X S := rfl
        omega

theorem dot_sort : ∀ {X Q : List Int}, desc X → X.length = Q.length → dot X Q ≤ dot X (sortB id Q)
  | [], [], _, _ => Int.le_refl _
  | x :: X, q :: Q, hx, hl => by
    have h2 := List.pairwise_cons.1 hx
    have hl' : X.length = Q.length := by simpa using hl
    have hS : X.length = (sortB id Q).length := by rw [(sortB_perm (k := id)).length_eq]; exact hl'
    refine Int.le_trans ?_ (dot_ins (S := sortB id Q) (q := q) hx hS)
    show x * q + dot X Q ≤ x * q + dot X (sortB id Q)
    have := dot_sort h2.2 hl'
    omega

theorem dot_map {α : Type} {f g : α → Int} : ∀ {l : List α}, dot (l.map f) (l.map g) = sumI (l.map fun a => f a * g a)
  | [] => rfl
  | a :: l => by
    show f a * g a + dot (l.map f) (l.map g) = f a * g a + sumI (l.map fun a => f a * g a)
    rw [dot_map]

theorem dot_zeros : ∀ {A B : List Int} {a b : Nat}, dot (A ++ List.replicate a 0) (B ++ List.replicate b 0) = dot A B
  | [], B, a, b => by
    rw [List.nil_append, dot_nil]
    induction a generalizing B b with
    | zero => simp
    | succ a ih =>
      rw [List.replicate_succ]
      cases B with
      | nil =>
        cases b with
        | zero => rfl
        | succ b =>
          rw [List.nil_append, List.replicate_succ]
          show 0 * 0 + dot (List.replicate a 0) (List.replicate b 0) = 0
          have := ih (B := []) (b := b)
          rw [List.nil_append] at this
          rw [this]; rfl
      | cons y B =>
        rw [List.cons_append]
        show 0 * y + dot (List.replicate a 0) (B ++ List.replicate b 0) = 0
        rw [ih]; omega
  | x :: A, [], a, b => by
    rw [List.nil_append, List.cons_append, dot_nil2]
    have key : ∀ (A : List Int) (b : Nat), dot A (List.replicate b 0) = 0 := by
      intro A
      induction A with
      | nil => intro b; exact dot_nil _
      | cons x A ih =>
        intro b
        cases b with
        | zero => rfl
        | succ b =>
          rw [List.replicate_succ]
          show x * 0 + dot A (List.replicate b 0) = 0
          rw [ih]; omega
    exact key (x :: (A ++ List.replicate a 0)) b
  | x :: A, y :: B, a, b => by
    show x * y + dot (A ++ List.replicate a 0) (B ++ List.replicate b 0) = x * y + dot A B
    rw [dot_zeros]

/-- the sum of products of two functions over a list is at most the product of the sorted lists -/
theorem dot_top {α : Type} {f g : α → Int} {l : List α} {X Y : List Int} (hX : desc X) (pX : X.Perm (l.map f)) (hY : desc Y) (pY : Y.Perm (l.map g)) :
    sumI (l.map fun a => f a * g a) ≤ dot X Y := by
  have e1 : (sortB f l).map f = X := by
    refine desc_unique (((sortB_perm (k := f)).map f).trans pX.symm) ?_ hX
    exact List.pairwise_map.2 sortB_desc
  have e2 : sortB id ((sortB f l).map g) = Y := by
    refine desc_unique ((sortB_perm (k := id)).trans ((((sortB_perm (k := f)).map g)).trans pY.symm)) ?_ hY
    have := sortB_desc (k := id) (l := (sortB f l).map g)
    exact this
  rw [← sumI_perm (sortB_perm (k := f)), ← dot_map, e1, ← e2]
  refine dot_sort hX ?_
  rw [← e1, List.length_map, List.length_map]

theorem desc_app {W : List Int} {n : Nat} (h : desc W) (h0 : ∀ x ∈ W, 0 ≤ x) : desc (W ++ List.replicate n 0) := by
  refine List.pairwise_append.2 ⟨h, List.pairwise_replicate.2 (.inr (Int.le_refl _)), fun x hx y hy => ?_⟩
  rw [(List.mem_replicate.1 hy).2]; exact h0 x hx

theorem filter_perm : ∀ {l : List Int}, (∀ x ∈ l, 0 ≤ x) → ∃ n, (l.filter (fun x => decide (0 < x)) ++ List.replicate n 0).Perm l
  | [], _ => ⟨0, List.Perm.refl _⟩
  | x :: l, h => by
    obtain ⟨n, p⟩ := filter_perm (l := l) fun y hy => h y (List.mem_cons_of_mem _ hy)
    by_cases hx : 0 < x
    · refine ⟨n, ?_⟩
      rw [List.filter_cons_of_pos (by simpa using hx)]
      exact List.Perm.cons x p
    · have hx0 : x = 0 := by have := h x (List.mem_cons_self ..); omega
      refine ⟨n + 1, ?_⟩
      rw [List.filter_cons_of_neg (by simpa using hx), List.replicate_succ, hx0]
      exact List.perm_middle.trans (List.Perm.cons 0 p)

/-- the same with the zeros left out -/
theorem dot_pos {α : Type} {f g : α → Int} {l : List α} {X Y : List Int} (hf : ∀ a ∈ l, 0 ≤ f a) (hg : ∀ a ∈ l, 0 ≤ g a)
    (hX : desc X) (pX : X.Perm ((l.map f).filter (fun x => decide (0 < x)))) (hY : desc Y) (pY : Y.Perm ((l.map g).filter (fun x => decide (0 < x)))) :
    sumI (l.map fun a => f a * g a) ≤ dot X Y := by
  obtain ⟨n, p⟩ := filter_perm (l := l.map f) (fun x hx => by obtain ⟨a, ha, rfl⟩ := List.mem_map.1 hx; exact hf a ha)
  obtain ⟨m, q⟩ := filter_perm (l := l.map g) (fun x hx => by obtain ⟨a, ha, rfl⟩ := List.mem_map.1 hx; exact hg a ha)
  have mX : ∀ x ∈ X, 0 ≤ x := fun x hx => by have := of_decide_eq_true (List.mem_filter.1 (pX.mem_iff.1 hx)).2; omega
  have mY : ∀ x ∈ Y, 0 ≤ x := fun x hx => by have := of_decide_eq_true (List.mem_filter.1 (pY.mem_iff.1 hx)).2; omega
  have := dot_top (f := f) (g := g) (l := l) (desc_app (n := n) hX mX) ((pX.append_right _).trans p) (desc_app (n := m) hY mY) ((pY.append_right _).trans q)
  rwa [dot_zeros] at this

end AI
end Go.Proofs.YtokdbmakkoleiaaGreat

set_option linter.unusedVariables false
namespace Go.Proofs.YtokdbmakkoleiaaGreat
namespace AI

theorem incr_nodup : ∀ {l : List Int}, incr l → l.Nodup := by
  intro l h
  rw [List.nodup_iff_pairwise_ne, List.pairwise_iff_getElem]
  intro i j hi hj hij
  have := incr_mono h hij hj
  omega

def walk2 (t u : List UInt8) (e f : GE) : Prop := (t = [] ∨ e.ty = t) ∧ (u = [] ∨ f.ty = u) ∧ e.to = f.fr
instance (t u : List UInt8) (e f : GE) : Decidable (walk2 t u e f) := by unfold walk2; infer_instance
def w2 (t u : List UInt8) (e f : GE) : Int := if walk2 t u e f then 1 else 0
/-- the walks that begin with e -/
def wkE (t u : List UInt8) (F : List GE) (e : GE) : Int := sumI (F.map (w2 t u e))

theorem sumI_mulL {α : Type} {c : Int} {g : α → Int} : ∀ {l : List α}, sumI (l.map fun x => c * g x) = c * sumI (l.map g)
  | [] => by simp [sumI]
  | x :: l => by
    simp only [List.map_cons, sumI, sumI_mulL (l := l)]
    rw [Int.mul_add]
theorem sumI_mulR {α : Type} {c : Int} {g : α → Int} : ∀ {l : List α}, sumI (l.map fun x => g x * c) = sumI (l.map g) * c
  | [] => by simp [sumI]
  | x :: l => by
    simp only [List.map_cons, sumI, sumI_mulR (l := l)]
    rw [Int.add_mul]

theorem w2_mid {t u : List UInt8} {e f : GE} {I : List Int} (hI : I.Nodup) (he : e.to ∈ I) : w2 t u e f = sumI (I.map fun v => hitI t 2 v e * hitI u 1 v f) := by
  rw [← sumI_one (c := w2 t u e f) hI he]
  refine sumI_congr fun v _ => ?_
  by_cases hv : e.to = v
  · rw [if_pos hv]
    unfold w2 hitI
    by_cases h1 : t = [] ∨ e.ty = t
    · rw [if_pos (show hits t 2 v e from ⟨h1, .inr ⟨rfl, hv⟩⟩)]
      by_cases h2 : walk2 t u e f
      · rw [if_pos h2, if_pos (show hits u 1 v f from ⟨h2.2.1, .inl ⟨rfl, by rw [← h2.2.2, hv]⟩⟩)]; rfl
      · rw [if_neg h2, if_neg]; rfl
        rintro ⟨a, b⟩
        rcases b with ⟨_, b⟩ | ⟨b, _⟩
        · exact h2 ⟨h1, a, by rw [hv, b]⟩
        · omega
    · rw [if_neg (fun h : walk2 t u e f => h1 h.1), if_neg (fun h : hits t 2 v e => h1 h.1)]; omega
  · rw [if_neg hv]
    unfold hitI
    rw [if_neg (show ¬ hits t 2 v e from ?_)]; omega
    rintro ⟨a, b⟩
    rcases b with ⟨b, _⟩ | ⟨_, b⟩
    · omega
    · exact hv b

theorem walks_mid {t u : List UInt8} {E F : List GE} {I : List Int} (hI : I.Nodup) (he : ∀ e ∈ E, e.to ∈ I) :
    sumI (E.map (wkE t u F)) = sumI (I.map fun v => degI t 2 E v * degI u 1 F v) := by
  have h1 : sumI (E.map (wkE t u F)) = sumI (E.map fun e => sumI (I.map fun v => hitI t 2 v e * degI u 1 F v)) := by
    refine sumI_congr fun e hm => ?_
    unfold wkE degI
    rw [sumI_congr (g := fun f => sumI (I.map fun v => hitI t 2 v e * hitI u 1 v f)) fun f _ => w2_mid hI (he e hm), sumI_swap]
    exact sumI_congr fun v _ => sumI_mulL
  rw [h1, sumI_swap]
  exact sumI_congr fun v _ => sumI_mulR

theorem w2_bound {t u : List UInt8} {e f : GE} : 0 ≤ w2 t u e f ∧ w2 t u e f ≤ 1 := by unfold w2; split <;> omega
theorem wkE_bound {t u : List UInt8} {F : List GE} {e : GE} : 0 ≤ wkE t u F e ∧ wkE t u F e ≤ F.length := by
  have := sumI_bound (l := F) (f := w2 t u e) (c := 1) fun x _ => w2_bound
  unfold wkE; omega

/-- no wrap for small numbers -/
theorem pw_dot : ∀ (X Y : List Int) (i : Nat), (∀ x ∈ X, 0 ≤ x ∧ x ≤ 100) → (∀ x ∈ Y, 0 ≤ x ∧ x ≤ 100) → i ≤ 2000 → pwN X Y i = dot (X.take i) (Y.take i) ∧ 0 ≤ pwN X Y i ∧ pwN X Y i ≤ 10000 * i := by
  have dsnoc : ∀ (X Y : List Int) (i : Nat), dot (X.take (i + 1)) (Y.take (i + 1)) = dot (X.take i) (Y.take i) + X.getD i 0 * Y.getD i 0 := by
    intro X
    induction X with
    | nil => intro Y i; simp
    | cons x X ih =>
      intro Y i
      cases Y with
      | nil => simp
      | cons y Y =>
        cases i with
        | zero => simp [dot]
        | succ i =>
          rw [List.take_succ_cons, List.take_succ_cons, List.take_succ_cons, List.take_succ_cons]
          show x * y + dot (X.take (i + 1)) (Y.take (i + 1)) = x * y + dot (X.take i) (Y.take i) + X.getD i 0 * Y.getD i 0
          rw [ih]; omega
  have gb : ∀ (X : List Int) (i : Nat), (∀ x ∈ X, 0 ≤ x ∧ x ≤ 100) → 0 ≤ X.getD i 0 ∧ X.getD i 0 ≤ 100 := by
    intro X i h
    by_cases hi : i < X.length
    · rw [List.getD, List.getElem?_eq_getElem hi]; exact h _ (List.getElem_mem hi)
    · rw [List.getD, List.getElem?_eq_none (by omega)]; decide
  intro X Y i hX hY
  induction i with
  | zero => intro _; simp [pwN]
  | succ i ih =>
    intro hi
    obtain ⟨e, h0, h1⟩ := ih (by omega)
    have a := gb X i hX
    have b := gb Y i hY
    have m0 : 0 ≤ X.getD i 0 * Y.getD i 0 := Int.mul_nonneg a.1 b.1
    have m1 : X.getD i 0 * Y.getD i 0 ≤ 100 * 100 := Int.mul_le_mul a.2 b.2 b.1 (by omega)
    have e1 : w64 (X.getD i 0 * Y.getD i 0) = X.getD i 0 * Y.getD i 0 := w64_id (by omega)
    have e2 : pwN X Y (i + 1) = pwN X Y i + X.getD i 0 * Y.getD i 0 := by
      rw [pwN, e1, w64_id (by omega)]
    refine ⟨?_, by omega, by omega⟩
    rw [e2, dsnoc, e]

theorem dot_min : ∀ {X Y : List Int}, dot (X.take (min X.length Y.length)) (Y.take (min X.length Y.length)) = dot X Y
  | [], Y => by simp
  | x :: X, [] => by simp
  | x :: X, y :: Y => by
    have : min (x :: X).length (y :: Y).length = min X.length Y.length + 1 := by simp only [List.length_cons]; omega
    rw [this, List.take_succ_cons, List.take_succ_cons]
    show x * y + dot _ _ = x * y + dot X Y
    rw [dot_min]

theorem pairV_dot {X Y : List Int} (hX : ∀ x ∈ X, 0 ≤ x ∧ x ≤ 100) (hY : ∀ x ∈ Y, 0 ≤ x ∧ x ≤ 100) (hl : X.length ≤ 2000) : pairV X Y = dot X Y := by
  unfold pairV
  rw [(pw_dot X Y _ hX hY (by omega)).1, dot_min]

theorem m0_pos {W : List Int} (h : ∀ x ∈ W, 0 ≤ x) : W.map m0 = W := by
  refine (List.map_congr_left fun x hx => ?_).trans (List.map_id _)
  have := h x hx
  unfold m0; rw [if_neg (by omega)]; rfl

theorem degs_in {t : List UInt8} {dir : Int} {N : List GN} {E : List GE} : ∀ x ∈ degs t dir N E, 0 < x ∧ x ≤ E.length := by
  intro x hx
  unfold degs at hx
  obtain ⟨h1, h2⟩ := List.mem_filter.1 hx
  obtain ⟨n, _, rfl⟩ := List.mem_map.1 h1
  have := degI_bound (typ := t) (dir := dir) (n := n.id) (E := E)
  have := of_decide_eq_true h2
  omega

/-- the plain law -/
theorem walks_pair {t u : List UInt8} {g : GG} (hc : checkE g = 0) (hN : g.nodes.length ≤ 60) (hE : g.edges.length ≤ 100) {A B X Y : List Int}
    (hA : SeqOf (checkE g) t 2 g.nodes g.edges A) (hB : SeqOf (checkE g) u 1 g.nodes g.edges B) (hX : desc X) (pX : X.Perm (A.map m0)) (hY : desc Y) (pY : Y.Perm (B.map m0)) :
    sumI (g.edges.map (wkE t u g.edges)) ≤ pairV X Y := by
  obtain ⟨a1, a2⟩ := hA.2 hc
  obtain ⟨b1, b2⟩ := hB.2 hc
  have bA : ∀ x ∈ A, 0 < x ∧ x ≤ 100 := fun x hx => by have := degs_in x (a2.mem_iff.1 hx); omega
  have bB : ∀ x ∈ B, 0 < x ∧ x ≤ 100 := fun x hx => by have := degs_in x (b2.mem_iff.1 hx); omega
  rw [m0_pos fun x hx => by have := bA x hx; omega] at pX
  rw [m0_pos fun x hx => by have := bB x hx; omega] at pY
  obtain rfl := desc_unique pX hX a1
  obtain rfl := desc_unique pY hY b1
  have hl : X.length ≤ 2000 := by have := seqOf_len hA; omega
  rw [pairV_dot (fun x hx => by have := bA x hx; omega) (fun x hx => by have := bB x hx; omega) hl]
  obtain ⟨c1, c2, c3, c4⟩ := check_ok hc
  have hnd := incr_nodup (incr_nodes c3)
  rw [walks_mid hnd fun e he => ?_]
  · have e : (fun n : GN => degI t 2 g.edges n.id) = (fun v => degI t 2 g.edges v) ∘ GN.id := rfl
    have hx : degs t 2 g.nodes g.edges = ((nids g.nodes).map fun v => degI t 2 g.edges v).filter (fun x => decide (0 < x)) := by unfold degs nids; rw [List.map_map]; rfl
    have hy : degs u 1 g.nodes g.edges = ((nids g.nodes).map fun v => degI u 1 g.edges v).filter (fun x => decide (0 < x)) := by unfold degs nids; rw [List.map_map]; rfl
    rw [hx] at a2
    rw [hy] at b2
    exact dot_pos (fun a _ => degI_bound.1) (fun a _ => degI_bound.1) hX a2 hY b2
  · obtain ⟨k, hk, rfl⟩ := List.getElem_of_mem he
    exact (edge_ok hk (c4 k hk)).2.2.2.2.1

end AI
end Go.Proofs.YtokdbmakkoleiaaGreat

namespace Go.Proofs.YtokdbmakkoleiaaGreat
namespace AI

set_option maxRecDepth 100000 in
theorem alive_call : pureCall (run (findFn tab) 60) 7 [] = some (.bool true) := by kernel_rfl

end AI
end Go.Proofs.YtokdbmakkoleiaaGreat

set_option linter.unusedVariables false
namespace Go.Proofs.YtokdbmakkoleiaaGreat
namespace AI

theorem aliveW : PureP (findFn tab) 7 [] (· = .bool (decide True)) := ⟨.bool true, ⟨60, alive_call⟩, rfl⟩

theorem fewG {g : GG} (hg : g.ok) : PureP (findFn tab) 6 [g.av] (fun v => ∃ b, v = .bool b ∧ (b = true → g.nodes.length ≤ 60 ∧ g.edges.length ≤ 100)) := by
  have h1 := hg.1
  have h2 := hg.2.2.2.1
  unfold Ln at h1 h2
  refine pureP_of rfl rfl ?_
  (conv => whnf); repeat' (first  | ((with_reducible show need _ _); refine needA ?_; conv => whnf) | ((with_reducible show wrapK _ _ _); refine wrapA ?_; conv => whnf) | ((with_reducible show nthK _ _ _); refine nthA ?_; conv => whnf) | ((with_reducible show getK _ _); refine getA ?_; conv => whnf) | ((with_reducible show eqK _ _); refine eqA ?_; conv => whnf) | (refine pcase.mk (fun hc => ?_) (fun hc => ?_) <;> (try rw [List.length_nil] at hc) <;> first | (exfalso; omega) | (exact absurd rfl hc) | conv => whnf) | (refine bcase_intro (fun hc => ?_) (fun hc => ?_) <;> conv => whnf))
  all_goals first
    | exact ⟨_, rfl, fun _ => ⟨by omega, by omega⟩⟩
    | exact ⟨_, rfl, fun h => Bool.noConfusion h⟩
    | exact ⟨_, rfl, fun h => ⟨by omega, by have := of_decide_eq_true h; omega⟩⟩

theorem wkE_take {t u : List UInt8} {F : List GE} {e : GE} {k : Nat} (h : k < F.length) : wkE t u (F.take (k + 1)) e = wkE t u (F.take k) e + w2 t u e F[k] := sumI_take h

/-- the inner loop -/
theorem innerW {g : GG} (hE : g.edges.length ≤ 100) {t u : List UInt8} {i c : Nat} (hi : i < g.edges.length) {n0 : Int} (h0 : 0 ≤ n0 ∧ n0 ≤ 100000) {Q : AExit → Env → Sto → Prop}
    (hQ : ∀ c' tl, Q (.exit 2) ([(1, .str t), (2, .str u), (3, .ref 0 0 0 0), (7, .int .i64 (n0 + wkE t u g.edges g.edges[i])), (8, .int .i64 i)] ++ tl) ⟨[.arr 0 4 true true [g.av]], c'⟩) :
    Run (findFn tab) (.loop l5_0_h l5_0_b) [(1, .str t), (2, .str u), (3, .ref 0 0 0 0), (7, .int .i64 n0), (8, .int .i64 i), (9, .int .i64 0)] ⟨[.arr 0 4 true true [g.av]], c⟩ Q := by
  refine loop_inv (fun m env s => ∃ (k c : Nat) (x : Int), m = g.edges.length - k ∧ k ≤ g.edges.length ∧ x = n0 + wkE t u (g.edges.take k) g.edges[i] ∧ env = [(1, .str t), (2, .str u), (3, .ref 0 0 0 0), (7, .int .i64 x), (8, .int .i64 i), (9, .int .i64 k)] ∧ s = ⟨[.arr 0 4 true true [g.av]], c⟩) ?_ _ _ _ ⟨0, c, n0, rfl, by omega, by simp [wkE, sumI], rfl, rfl⟩
  rintro _ _ _ ⟨k, c, x, rfl, hk, hx, rfl, rfl⟩
  refine ⟨rfl, ?_⟩
  by_cases hlt : k < g.edges.length
  · have hb := @wkE_bound t u (g.edges.take k) g.edges[i]
    rw [List.length_take] at hb
    have hx0 : 0 ≤ x ∧ x ≤ 200000 := by omega
    have h1 : ∀ z, walk2 t u g.edges[i] g.edges[k] → z = x + 1 → z = n0 + wkE t u (g.edges.take (k + 1)) g.edges[i] := fun z h hz => by
      rw [wkE_take hlt, hz, hx, show w2 t u g.edges[i] g.edges[k] = 1 from if_pos h]; omega
    have hn : ¬ walk2 t u g.edges[i] g.edges[k] → x = n0 + wkE t u (g.edges.take (k + 1)) g.edges[i] := fun h => by
      rw [wkE_take hlt, hx, show w2 t u g.edges[i] g.edges[k] = 0 from if_neg h]; omega
    clear hb hx
    (conv => whnf); repeat' (first  | ((with_reducible show need _ _); refine needA ?_; conv => whnf) | ((with_reducible show wrapK _ _ _); refine wrapA ?_; conv => whnf) | ((with_reducible show nthK _ _ _); refine nthA ?_; conv => whnf) | ((with_reducible show getK _ _); refine getA ?_; conv => whnf) | ((with_reducible show eqK _ _); refine eqA ?_; conv => whnf) | (refine pcase.mk (fun hc => ?_) (fun hc => ?_) <;> (try rw [List.length_nil] at hc) <;> first | (exfalso; omega) | (exact absurd rfl hc) | conv => whnf) | (refine bcase_intro (fun hc => ?_) (fun hc => ?_) <;> conv => whnf))
    all_goals first
      | exact again.mk ⟨_, by omega, k + 1, _, _, rfl, by omega, h1 _ ⟨by first | (left; assumption) | (right; assumption), by first | (left; assumption) | (right; assumption), by assumption⟩ rfl, rfl, rfl⟩
      | exact again.mk ⟨_, by omega, k + 1, _, x, rfl, by omega, hn (by rintro ⟨ha, hb, hc⟩; first | omega | contradiction | (rcases ha with ha | ha <;> contradiction) | (rcases hb with hb | hb <;> contradiction)), rfl, rfl⟩
  · rw [List.take_of_length_le (by omega)] at hx
    subst hx
    (conv => whnf); repeat' (first  | ((with_reducible show need _ _); refine needA ?_; conv => whnf) | ((with_reducible show wrapK _ _ _); refine wrapA ?_; conv => whnf) | ((with_reducible show nthK _ _ _); refine nthA ?_; conv => whnf) | ((with_reducible show getK _ _); refine getA ?_; conv => whnf) | ((with_reducible show eqK _ _); refine eqA ?_; conv => whnf) | (refine pcase.mk (fun hc => ?_) (fun hc => ?_) <;> (try rw [List.length_nil] at hc) <;> first | (exfalso; omega) | (exact absurd rfl hc) | conv => whnf) | (refine bcase_intro (fun hc => ?_) (fun hc => ?_) <;> conv => whnf))
    exact hQ _ _

set_option maxRecDepth 10000 in
theorem law_walks : ∀ xs, likes Tryz.prog [25, 9, 9] xs → Calls1 (findFn tab) 5 xs ⟨[], 0⟩ fun out _ => out = .ok (.bool true) := by
  intro xs h
  match xs, h with
  | [a, b, c], h =>
    obtain ⟨h1, h2, h3, _⟩ := h
    obtain ⟨g, rfl, hg⟩ := like_graph h1
    obtain ⟨_, h2⟩ := h2
    obtain ⟨t, rfl, ht⟩ := like_str h2
    obtain ⟨_, h3⟩ := h3
    obtain ⟨u, rfl, hu⟩ := like_str h3
    refine calls1_of rfl rfl ?_
    (conv => whnf); repeat' (first  | ((with_reducible show need _ _); refine needA ?_; conv => whnf) | ((with_reducible show wrapK _ _ _); refine wrapA ?_; conv => whnf) | ((with_reducible show nthK _ _ _); refine nthA ?_; conv => whnf) | ((with_reducible show getK _ _); refine getA ?_; conv => whnf) | ((with_reducible show eqK _ _); refine eqA ?_; conv => whnf) | (refine pcase.mk (fun hc => ?_) (fun hc => ?_) <;> (try rw [List.length_nil] at hc) <;> first | (exfalso; omega) | (exact absurd rfl hc) | conv => whnf) | (refine bcase_intro (fun hc => ?_) (fun hc => ?_) <;> conv => whnf))
    refine callK_of (fewG hg) ?_
    rintro _ ⟨b, rfl, hb⟩
    cases b with
    | false =>
      (conv => whnf); repeat' (first | (refine callB aliveW (fun _ => ?_) (fun h => absurd trivial h); conv => whnf) | ((with_reducible show need _ _); refine needA ?_; conv => whnf) | ((with_reducible show wrapK _ _ _); refine wrapA ?_; conv => whnf) | ((with_reducible show nthK _ _ _); refine nthA ?_; conv => whnf) | ((with_reducible show getK _ _); refine getA ?_; conv => whnf) | ((with_reducible show eqK _ _); refine eqA ?_; conv => whnf) | (refine pcase.mk (fun hc => ?_) (fun hc => ?_) <;> (try rw [List.length_nil] at hc) <;> first | (exfalso; omega) | (exact absurd rfl hc) | conv => whnf) | (refine bcase_intro (fun hc => ?_) (fun hc => ?_) <;> conv => whnf))
      rfl
    | true =>
    obtain ⟨hN, hE⟩ := hb rfl
    (conv => whnf); repeat' (first | (refine callK_of (checkR hg) ?_; rintro _ rfl; conv => whnf) | (refine callB aliveW (fun _ => ?_) (fun h => absurd trivial h); conv => whnf) | ((with_reducible show need _ _); refine needA ?_; conv => whnf) | ((with_reducible show wrapK _ _ _); refine wrapA ?_; conv => whnf) | ((with_reducible show nthK _ _ _); refine nthA ?_; conv => whnf) | ((with_reducible show getK _ _); refine getA ?_; conv => whnf) | ((with_reducible show eqK _ _); refine eqA ?_; conv => whnf) | (refine pcase.mk (fun hc => ?_) (fun hc => ?_) <;> (try rw [List.length_nil] at hc) <;> first | (exfalso; omega) | (exact absurd rfl hc) | conv => whnf) | (refine bcase_intro (fun hc => ?_) (fun hc => ?_) <;> conv => whnf))
    rotate_left
    · rfl
    have hck : checkE g = 0 := hc
    refine loop_inv (fun m env s => ∃ (i c : Nat) (x : Int), m = g.edges.length - i ∧ i ≤ g.edges.length ∧ x = sumI ((g.edges.take i).map (wkE t u g.edges)) ∧ env = [(1, .str t), (2, .str u), (3, .ref 0 0 0 0), (7, .int .i64 x), (8, .int .i64 i)] ∧ s = ⟨[.arr 0 4 true true [g.av]], c⟩) ?_ _ _ _ ⟨0, _, 0, rfl, by omega, rfl, rfl, rfl⟩
    rintro _ _ _ ⟨i, c, x, rfl, hi, hx, rfl, rfl⟩
    refine ⟨rfl, ?_⟩
    by_cases hlt : i < g.edges.length
    · have hb := sumI_bound (l := g.edges.take i) (f := wkE t u g.edges) (c := 100) fun e _ => by have := @wkE_bound t u g.edges e; omega
      rw [List.length_take, ← hx] at hb
      have hx0 : 0 ≤ x ∧ x ≤ 100000 := by omega
      have hs : x + wkE t u g.edges g.edges[i] = sumI ((g.edges.take (i + 1)).map (wkE t u g.edges)) := by rw [sumI_take hlt, hx]
      (conv => whnf); repeat' (first  | ((with_reducible show need _ _); refine needA ?_; conv => whnf) | ((with_reducible show wrapK _ _ _); refine wrapA ?_; conv => whnf) | ((with_reducible show nthK _ _ _); refine nthA ?_; conv => whnf) | ((with_reducible show getK _ _); refine getA ?_; conv => whnf) | ((with_reducible show eqK _ _); refine eqA ?_; conv => whnf) | (refine pcase.mk (fun hc => ?_) (fun hc => ?_) <;> (try rw [List.length_nil] at hc) <;> first | (exfalso; omega) | (exact absurd rfl hc) | conv => whnf) | (refine bcase_intro (fun hc => ?_) (fun hc => ?_) <;> conv => whnf))
      refine innerW hE hlt hx0 ?_
      intro c' tl
      rw [hs]
      (conv => whnf); repeat' (first  | ((with_reducible show need _ _); refine needA ?_; conv => whnf) | ((with_reducible show wrapK _ _ _); refine wrapA ?_; conv => whnf) | ((with_reducible show nthK _ _ _); refine nthA ?_; conv => whnf) | ((with_reducible show getK _ _); refine getA ?_; conv => whnf) | ((with_reducible show eqK _ _); refine eqA ?_; conv => whnf) | (refine pcase.mk (fun hc => ?_) (fun hc => ?_) <;> (try rw [List.length_nil] at hc) <;> first | (exfalso; omega) | (exact absurd rfl hc) | conv => whnf) | (refine bcase_intro (fun hc => ?_) (fun hc => ?_) <;> conv => whnf))
      exact again.mk ⟨_, by omega, i + 1, _, _, rfl, by omega, rfl, rfl, rfl⟩
    · rw [List.take_of_length_le (by omega)] at hx
      (conv => whnf); repeat' (first  | ((with_reducible show need _ _); refine needA ?_; conv => whnf) | ((with_reducible show wrapK _ _ _); refine wrapA ?_; conv => whnf) | ((with_reducible show nthK _ _ _); refine nthA ?_; conv => whnf) | ((with_reducible show getK _ _); refine getA ?_; conv => whnf) | ((with_reducible show eqK _ _); refine eqA ?_; conv => whnf) | (refine pcase.mk (fun hc => ?_) (fun hc => ?_) <;> (try rw [List.length_nil] at hc) <;> first | (exfalso; omega) | (exact absurd rfl hc) | conv => whnf) | (refine bcase_intro (fun hc => ?_) (fun hc => ?_) <;> conv => whnf))
      refine callK_of (seqA (typ := t) (dir := 2) hg (by omega) (by omega)) ?_
      rintro _ ⟨b1, A, rfl, hA, nA⟩
      (conv => whnf); repeat' (first  | ((with_reducible show need _ _); refine needA ?_; conv => whnf) | ((with_reducible show wrapK _ _ _); refine wrapA ?_; conv => whnf) | ((with_reducible show nthK _ _ _); refine nthA ?_; conv => whnf) | ((with_reducible show getK _ _); refine getA ?_; conv => whnf) | ((with_reducible show eqK _ _); refine eqA ?_; conv => whnf) | (refine pcase.mk (fun hc => ?_) (fun hc => ?_) <;> (try rw [List.length_nil] at hc) <;> first | (exfalso; omega) | (exact absurd rfl hc) | conv => whnf) | (refine bcase_intro (fun hc => ?_) (fun hc => ?_) <;> conv => whnf))
      refine callK_of (seqA (typ := u) (dir := 1) hg (by omega) (by omega)) ?_
      rintro _ ⟨b2, B, rfl, hB, nB⟩
      have lA := seqOf_len hA
      have lB := seqOf_len hB
      (conv => whnf); repeat' (first  | ((with_reducible show need _ _); refine needA ?_; conv => whnf) | ((with_reducible show wrapK _ _ _); refine wrapA ?_; conv => whnf) | ((with_reducible show nthK _ _ _); refine nthA ?_; conv => whnf) | ((with_reducible show getK _ _); refine getA ?_; conv => whnf) | ((with_reducible show eqK _ _); refine eqA ?_; conv => whnf) | (refine pcase.mk (fun hc => ?_) (fun hc => ?_) <;> (try rw [List.length_nil] at hc) <;> first | (exfalso; omega) | (exact absurd rfl hc) | conv => whnf) | (refine bcase_intro (fun hc => ?_) (fun hc => ?_) <;> conv => whnf))
      refine callK_of (pairP (by omega) (by omega) nA nB) ?_
      rintro _ ⟨X, Y, dX, pX, dY, pY, rfl⟩
      have key := walks_pair (t := t) (u := u) hck hN hE hA hB dX pX dY pY
      rw [← hx] at key
      (conv => whnf); repeat' (first | (refine callB aliveW (fun _ => ?_) (fun h => absurd trivial h); conv => whnf) | ((with_reducible show need _ _); refine needA ?_; conv => whnf) | ((with_reducible show wrapK _ _ _); refine wrapA ?_; conv => whnf) | ((with_reducible show nthK _ _ _); refine nthA ?_; conv => whnf) | ((with_reducible show getK _ _); refine getA ?_; conv => whnf) | ((with_reducible show eqK _ _); refine eqA ?_; conv => whnf) | (refine pcase.mk (fun hc => ?_) (fun hc => ?_) <;> (try rw [List.length_nil] at hc) <;> first | (exfalso; omega) | (exact absurd rfl hc) | conv => whnf) | (refine bcase_intro (fun hc => ?_) (fun hc => ?_) <;> conv => whnf))
      all_goals first | rfl | omega

end AI
end Go.Proofs.YtokdbmakkoleiaaGreat
