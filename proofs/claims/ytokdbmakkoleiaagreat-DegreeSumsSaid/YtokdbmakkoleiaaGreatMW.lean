/- Sums over lists: plain. Sequences in descending order, products of two sequences: plain. Products of two lists are greatest when both are sorted: plain. -/
import Derived.Test.YtokdbmakkoleiaaGreatVb
import Derived.Test.YtokdbmakkoleiaaGreatMV
set_option linter.unusedVariables false
namespace Go.Proofs.YtokdbmakkoleiaaGreat
namespace AI

def sumI : List Int → Int
  | [] => 0
  | x :: l => x + sumI l
theorem sumI_append : ∀ {a b : List Int}, sumI (a ++ b) = sumI a + sumI b
  | [], b => by simp [sumI]
  | x :: a, b => by simp only [List.cons_append, sumI, sumI_append (a := a)]; omega
theorem sumI_add {α : Type} {f g : α → Int} : ∀ {l : List α}, sumI (l.map fun x => f x + g x) = sumI (l.map f) + sumI (l.map g)
  | [] => by simp [sumI]
  | x :: l => by simp only [List.map_cons, sumI, sumI_add (l := l)]; omega
theorem sumI_sub {α : Type} {f g : α → Int} : ∀ {l : List α}, sumI (l.map fun x => f x - g x) = sumI (l.map f) - sumI (l.map g)
  | [] => by simp [sumI]
  | x :: l => by simp only [List.map_cons, sumI, sumI_sub (l := l)]; omega
theorem sumI_zero {α : Type} : ∀ {l : List α}, sumI (l.map fun _ => 0) = 0
  | [] => rfl
  | x :: l => by simp only [List.map_cons, sumI, sumI_zero (l := l)]; omega
theorem sumI_congr {α : Type} {f g : α → Int} {l : List α} (h : ∀ x ∈ l, f x = g x) : sumI (l.map f) = sumI (l.map g) := by
  rw [List.map_congr_left h]
theorem sumI_swap {α β : Type} {f : α → β → Int} : ∀ {l : List α} {m : List β}, sumI (l.map fun a => sumI (m.map fun b => f a b)) = sumI (m.map fun b => sumI (l.map fun a => f a b))
  | [], m => by simp only [List.map_nil, sumI]; exact sumI_zero.symm
  | a :: l, m => by simp only [List.map_cons, sumI, sumI_swap (l := l) (m := m)]; rw [← sumI_add]
theorem sumI_take {α : Type} {f : α → Int} {l : List α} {i : Nat} (h : i < l.length) : sumI ((l.take (i + 1)).map f) = sumI ((l.take i).map f) + f l[i] := by
  rw [List.take_succ_eq_append_getElem h, List.map_append, sumI_append]
  simp [sumI]
/-- each once -/
theorem sumI_one {c : Int} {x : Int} : ∀ {l : List Int}, l.Nodup → x ∈ l → sumI (l.map fun n => if x = n then c else 0) = c
  | [], _, h => by simp at h
  | y :: l, hn, h => by
    have hn' := List.nodup_cons.1 hn
    simp only [List.map_cons, sumI]
    by_cases e : x = y
    · subst e
      have : sumI (l.map fun n => if x = n then c else 0) = 0 := by
        rw [sumI_congr (g := fun _ => 0) fun z hz => if_neg fun (e : x = z) => hn'.1 (e ▸ hz)]
        exact sumI_zero
      rw [this, if_pos rfl]; omega
    · rw [if_neg e, sumI_one hn'.2 ((List.mem_cons.1 h).resolve_left e)]; omega
theorem sumI_bound {α : Type} {f : α → Int} {c : Int} : ∀ {l : List α}, (∀ x ∈ l, 0 ≤ f x ∧ f x ≤ c) → 0 ≤ sumI (l.map f) ∧ sumI (l.map f) ≤ l.length * c
  | [], _ => by simp [sumI]
  | x :: l, h => by
    have h1 := sumI_bound (l := l) fun y hy => h y (List.mem_cons_of_mem _ hy)
    have h2 := h x (List.mem_cons_self ..)
    simp only [List.map_cons, sumI, List.length_cons]
    rw [Int.natCast_add, Int.add_mul]
    omega

theorem sumI_perm {α : Type} {f : α → Int} {a b : List α} (h : a.Perm b) : sumI (a.map f) = sumI (b.map f) := by
  induction h with
  | nil => rfl
  | cons x _ ih => simp only [List.map_cons, sumI, ih]
  | swap x y l => simp only [List.map_cons, sumI]; omega
  | trans _ _ h1 h2 => exact h1.trans h2
end AI
end Go.Proofs.YtokdbmakkoleiaaGreat
set_option linter.unusedVariables false
namespace Go.Proofs.YtokdbmakkoleiaaGreat
namespace AI

abbrev vi (l : List Int) : List AV := vs (.int .i64) l

/-- descending -/
def desc (l : List Int) : Prop := l.Pairwise (fun x y => y ≤ x)

theorem desc_unique : ∀ {a b : List Int}, a.Perm b → desc a → desc b → a = b
  | [], b, hp, _, _ => (List.nil_perm.1 hp).symm
  | x :: a, [], hp, _, _ => absurd (List.perm_nil.1 hp) (by simp)
  | x :: a, y :: b, hp, h1, h2 => by
    have h1' := List.pairwise_cons.1 h1
    have h2' := List.pairwise_cons.1 h2
    have hxy : x = y := by
      rcases List.mem_cons.1 (hp.mem_iff.1 (List.mem_cons_self ..)) with e | h
      · exact e
      rcases List.mem_cons.1 (hp.mem_iff.2 (List.mem_cons_self ..)) with e | h'
      · exact e.symm
      have := h1'.1 y h'
      have := h2'.1 x h
      omega
    subst hxy
    rw [desc_unique (List.Perm.cons_inv hp) h1'.2 h2'.2]

/-- the greater of a number and 0 -/
def m0 (x : Int) : Int := if x < 0 then 0 else x
theorem m0_mono {x y : Int} (h : x ≤ y) : m0 x ≤ m0 y := by unfold m0; split <;> split <;> omega
theorem desc_m0 {l : List Int} (h : desc l) : desc (l.map m0) := by
  rw [desc, List.pairwise_map]
  exact List.Pairwise.imp (fun h => m0_mono h) h

/-- an int of 64 bits -/
def w64 (z : Int) : Int := IntKind.i64.wrap z
theorem w64_in (z : Int) : -2^63 ≤ w64 z ∧ w64 z < 2^63 := by
  unfold w64
  simp [IntKind.wrap, IntKind.bits, IntKind.signed]
  split <;> omega
theorem w64_id {z : Int} (h : -2^63 ≤ z ∧ z < 2^63) : w64 z = z := wrap_i64 h.1 h.2

/-- the sum of products, place by place -/
def pwN (X Y : List Int) : Nat → Int
  | 0 => 0
  | i + 1 => w64 (pwN X Y i + w64 (X.getD i 0 * Y.getD i 0))
theorem pwN_comm (X Y : List Int) : ∀ i, pwN X Y i = pwN Y X i
  | 0 => rfl
  | i + 1 => by rw [pwN, pwN, pwN_comm X Y i, Int.mul_comm]
theorem pwN_in (X Y : List Int) : ∀ i, -2^63 ≤ pwN X Y i ∧ pwN X Y i < 2^63
  | 0 => by unfold pwN; omega
  | i + 1 => w64_in _

/-- the same, where only positive ones count -/
def prN (X Y : List Int) : Nat → Int
  | 0 => 0
  | i + 1 => if 0 < X.getD i 0 ∧ 0 < Y.getD i 0 then w64 (prN X Y i + w64 (X.getD i 0 * Y.getD i 0)) else prN X Y i

theorem getD_m0 (X : List Int) (i : Nat) : (X.map m0).getD i 0 = m0 (X.getD i 0) := by
  rw [List.getD, List.getD, List.getElem?_map]
  cases X[i]? with
  | none => rfl
  | some x => rfl

theorem pr_pw (X Y : List Int) : ∀ i, prN X Y i = pwN (X.map m0) (Y.map m0) i
  | 0 => rfl
  | i + 1 => by
    rw [prN, pwN, getD_m0, getD_m0, ← pr_pw X Y i]
    by_cases h1 : 0 < X.getD i 0
    · by_cases h2 : 0 < Y.getD i 0
      · rw [if_pos ⟨h1, h2⟩, show m0 (X.getD i 0) = X.getD i 0 from if_neg (by omega), show m0 (Y.getD i 0) = Y.getD i 0 from if_neg (by omega)]
      · rw [if_neg (fun h => h2 h.2)]
        have e : m0 (Y.getD i 0) = 0 := by unfold m0; split <;> omega
        rw [e, Int.mul_zero, show w64 0 = 0 from w64_id (by omega), Int.add_zero, w64_id]
        rw [pr_pw X Y i]; exact pwN_in _ _ _
    · rw [if_neg (fun h => h1 h.1)]
      have e : m0 (X.getD i 0) = 0 := by unfold m0; split <;> omega
      rw [e, Int.zero_mul, show w64 0 = 0 from w64_id (by omega), Int.add_zero, w64_id]
      rw [pr_pw X Y i]; exact pwN_in _ _ _

/-- the value of Pair -/
def pairV (X Y : List Int) : Int := pwN X Y (min X.length Y.length)
theorem pairV_comm (X Y : List Int) : pairV X Y = pairV Y X := by unfold pairV; rw [pwN_comm, Nat.min_comm]

end AI
end Go.Proofs.YtokdbmakkoleiaaGreat
set_option linter.unusedVariables false
namespace Go.Proofs.YtokdbmakkoleiaaGreat
namespace AI

def dot : List Int → List Int → Int
  | x :: X, y :: Y => x * y + dot X Y
  | _, _ => 0
@[simp] theorem dot_nil (Y : List Int) : dot [] Y = 0 := by cases Y <;> rfl
@[simp] theorem dot_nil2 (X : List Int) : dot X [] = 0 := by cases X <;> rfl

/-- put in by a key -/
def insB {α : Type} (k : α → Int) (a : α) : List α → List α
  | [] => [a]
  | b :: l => if k b ≤ k a then a :: b :: l else b :: insB k a l
def sortB {α : Type} (k : α → Int) : List α → List α
  | [] => []
  | a :: l => insB k a (sortB k l)

theorem insB_perm {α : Type} {k : α → Int} {a : α} : ∀ {l : List α}, (insB k a l).Perm (a :: l)
  | [] => List.Perm.refl _
  | b :: l => by
    unfold insB
    split
    · exact List.Perm.refl _
    · exact (List.Perm.cons b insB_perm).trans (List.Perm.swap a b l)
theorem sortB_perm {α : Type} {k : α → Int} : ∀ {l : List α}, (sortB k l).Perm l
  | [] => List.Perm.refl _
  | a :: l => insB_perm.trans (List.Perm.cons a sortB_perm)
theorem insB_desc {α : Type} {k : α → Int} {a : α} : ∀ {l : List α}, l.Pairwise (fun x y => k y ≤ k x) → (insB k a l).Pairwise (fun x y => k y ≤ k x)
  | [], _ => List.pairwise_singleton ..
  | b :: l, h => by
    have h' := List.pairwise_cons.1 h
    unfold insB
    split
    · rename_i hc
      refine List.pairwise_cons.2 ⟨fun y hy => ?_, h⟩
      rcases List.mem_cons.1 hy with rfl | hy
      · exact hc
      · have := h'.1 y hy; omega
    · rename_i hc
      refine List.pairwise_cons.2 ⟨fun y hy => ?_, insB_desc h'.2⟩
      rcases List.mem_cons.1 (insB_perm.mem_iff.1 hy) with rfl | hy
      · omega
      · exact h'.1 y hy
theorem sortB_desc {α : Type} {k : α → Int} : ∀ {l : List α}, (sortB k l).Pairwise (fun x y => k y ≤ k x)
  | [] => List.Pairwise.nil
  | a :: l => insB_desc sortB_desc

theorem dot_ins : ∀ {S X : List Int} {x q : Int}, desc (x :: X) → X.length = S.length → dot (x :: X) (q :: S) ≤ dot (x :: X) (insB id q S)
  | [], X, x, q, _, _ => Int.le_refl _
  | s :: S, X, x, q, hx, hl => by
    unfold insB
    split
    · exact Int.le_refl _
    · rename_i hc
      simp only [id] at hc
      match X, hx, hl with
      | x2 :: X, hx, hl =>
        have h2 := List.pairwise_cons.1 hx
        have h3 := h2.1 x2 (List.mem_cons_self ..)
        have ih := dot_ins (S := S) (X := X) (x := x2) (q := q) h2.2 (by simpa using hl)
        have e : 0 ≤ (x - x2) * (s - q) := Int.mul_nonneg (by omega) (by omega)
        rw [Int.sub_mul, Int.mul_sub, Int.mul_sub] at e
        show x * q + (x2 * s + dot X S) ≤ x * s + dot (x2 :: X) (insB id q S)
        have : dot (x2 :: X) (q :: S) = x2 * q + dot X S := rfl
        omega

theorem dot_sort : ∀ {X Q : List Int}, desc X → X.length = Q.length → dot X Q ≤ dot X (sortB id Q)
  | [], [], _, _ => Int.le_refl _
  | x :: X, q :: Q, hx, hl => by
    have h2 := List.pairwise_cons.1 hx
    have hl' : X.length = Q.length := by simpa using hl
    have hS : X.length = (sortB id Q).length := by rw [(sortB_perm (k := id)).length_eq]; exact hl'
    refine Int.le_trans ?_ (dot_ins (S := sortB id Q) (q := q) hx hS)
    show x * q + dot X Q ≤ x * q + dot X (sortB id Q)
    have := dot_sort h2.2 hl'
    omega

theorem dot_map {α : Type} {f g : α → Int} : ∀ {l : List α}, dot (l.map f) (l.map g) = sumI (l.map fun a => f a * g a)
  | [] => rfl
  | a :: l => by
    show f a * g a + dot (l.map f) (l.map g) = f a * g a + sumI (l.map fun a => f a * g a)
    rw [dot_map]

theorem dot_zeros : ∀ {A B : List Int} {a b : Nat}, dot (A ++ List.replicate a 0) (B ++ List.replicate b 0) = dot A B
  | [], B, a, b => by
    rw [List.nil_append, dot_nil]
    induction a generalizing B b with
    | zero => simp
    | succ a ih =>
      rw [List.replicate_succ]
      cases B with
      | nil =>
        cases b with
        | zero => rfl
        | succ b =>
          rw [List.nil_append, List.replicate_succ]
          show 0 * 0 + dot (List.replicate a 0) (List.replicate b 0) = 0
          have := ih (B := []) (b := b)
          rw [List.nil_append] at this
          rw [this]; rfl
      | cons y B =>
        rw [List.cons_append]
        show 0 * y + dot (List.replicate a 0) (B ++ List.replicate b 0) = 0
        rw [ih]; omega
  | x :: A, [], a, b => by
    rw [List.nil_append, List.cons_append, dot_nil2]
    have key : ∀ (A : List Int) (b : Nat), dot A (List.replicate b 0) = 0 := by
      intro A
      induction A with
      | nil => intro b; exact dot_nil _
      | cons x A ih =>
        intro b
        cases b with
        | zero => rfl
        | succ b =>
          rw [List.replicate_succ]
          show x * 0 + dot A (List.replicate b 0) = 0
          rw [ih]; omega
    exact key (x :: (A ++ List.replicate a 0)) b
  | x :: A, y :: B, a, b => by
    show x * y + dot (A ++ List.replicate a 0) (B ++ List.replicate b 0) = x * y + dot A B
    rw [dot_zeros]

/-- the sum of products of two functions over a list is at most the product of the sorted lists -/
theorem dot_top {α : Type} {f g : α → Int} {l : List α} {X Y : List Int} (hX : desc X) (pX : X.Perm (l.map f)) (hY : desc Y) (pY : Y.Perm (l.map g)) :
    sumI (l.map fun a => f a * g a) ≤ dot X Y := by
  have e1 : (sortB f l).map f = X := by
    refine desc_unique (((sortB_perm (k := f)).map f).trans pX.symm) ?_ hX
    exact List.pairwise_map.2 sortB_desc
  have e2 : sortB id ((sortB f l).map g) = Y := by
    refine desc_unique ((sortB_perm (k := id)).trans ((((sortB_perm (k := f)).map g)).trans pY.symm)) ?_ hY
    have := sortB_desc (k := id) (l := (sortB f l).map g)
    exact this
  rw [← sumI_perm (sortB_perm (k := f)), ← dot_map, e1, ← e2]
  refine dot_sort hX ?_
  rw [← e1, List.length_map, List.length_map]

theorem desc_app {W : List Int} {n : Nat} (h : desc W) (h0 : ∀ x ∈ W, 0 ≤ x) : desc (W ++ List.replicate n 0) := by
  refine List.pairwise_append.2 ⟨h, List.pairwise_replicate.2 (.inr (Int.le_refl _)), fun x hx y hy => ?_⟩
  rw [(List.mem_replicate.1 hy).2]; exact h0 x hx

theorem filter_perm : ∀ {l : List Int}, (∀ x ∈ l, 0 ≤ x) → ∃ n, (l.filter (fun x => decide (0 < x)) ++ List.replicate n 0).Perm l
  | [], _ => ⟨0, List.Perm.refl _⟩
  | x :: l, h => by
    obtain ⟨n, p⟩ := filter_perm (l := l) fun y hy => h y (List.mem_cons_of_mem _ hy)
    by_cases hx : 0 < x
    · refine ⟨n, ?_⟩
      rw [List.filter_cons_of_pos (by simpa using hx)]
      exact List.Perm.cons x p
    · have hx0 : x = 0 := by have := h x (List.mem_cons_self ..); omega
      refine ⟨n + 1, ?_⟩
      rw [List.filter_cons_of_neg (by simpa using hx), List.replicate_succ, hx0]
      exact List.perm_middle.trans (List.Perm.cons 0 p)

/-- the same with the zeros left out -/
theorem dot_pos {α : Type} {f g : α → Int} {l : List α} {X Y : List Int} (hf : ∀ a ∈ l, 0 ≤ f a) (hg : ∀ a ∈ l, 0 ≤ g a)
    (hX : desc X) (pX : X.Perm ((l.map f).filter (fun x => decide (0 < x)))) (hY : desc Y) (pY : Y.Perm ((l.map g).filter (fun x => decide (0 < x)))) :
    sumI (l.map fun a => f a * g a) ≤ dot X Y := by
  obtain ⟨n, p⟩ := filter_perm (l := l.map f) (fun x hx => by obtain ⟨a, ha, rfl⟩ := List.mem_map.1 hx; exact hf a ha)
  obtain ⟨m, q⟩ := filter_perm (l := l.map g) (fun x hx => by obtain ⟨a, ha, rfl⟩ := List.mem_map.1 hx; exact hg a ha)
  have mX : ∀ x ∈ X, 0 ≤ x := fun x hx => by have := of_decide_eq_true (List.mem_filter.1 (pX.mem_iff.1 hx)).2; omega
  have mY : ∀ x ∈ Y, 0 ≤ x := fun x hx => by have := of_decide_eq_true (List.mem_filter.1 (pY.mem_iff.1 hx)).2; omega
  have := dot_top (f := f) (g := g) (l := l) (desc_app (n := n) hX mX) ((pX.append_right _).trans p) (desc_app (n := m) hY mY) ((pY.append_right _).trans q)
  rwa [dot_zeros] at this

end AI
end Go.Proofs.YtokdbmakkoleiaaGreat
