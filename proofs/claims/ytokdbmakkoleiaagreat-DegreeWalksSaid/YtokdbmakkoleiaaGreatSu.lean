/- Sums over lists: plain. -/
import Derived.Test.YtokdbmakkoleiaaGreatVb
set_option linter.unusedVariables false
namespace Go.Proofs.YtokdbmakkoleiaaGreat
namespace AI

def sumI : List Int → Int
  | [] => 0
  | x :: l => x + sumI l
theorem sumI_append : ∀ {a b : List Int}, sumI (a ++ b) = sumI a + sumI b
  | [], b => by simp [sumI]
  | x :: a, b => by simp only [List.cons_append, sumI, sumI_append (a := a)]; omega
theorem sumI_add {α : Type} {f g : α → Int} : ∀ {l : List α}, sumI (l.map fun x => f x + g x) = sumI (l.map f) + sumI (l.map g)
  | [] => by simp [sumI]
  | x :: l => by simp only [List.map_cons, sumI, sumI_add (l := l)]; omega
theorem sumI_sub {α : Type} {f g : α → Int} : ∀ {l : List α}, sumI (l.map fun x => f x - g x) = sumI (l.map f) - sumI (l.map g)
  | [] => by simp [sumI]
  | x :: l => by simp only [List.map_cons, sumI, sumI_sub (l := l)]; omega
theorem sumI_zero {α : Type} : ∀ {l : List α}, sumI (l.map fun _ => 0) = 0
  | [] => rfl
  | x :: l => by simp only [List.map_cons, sumI, sumI_zero (l := l)]; omega
theorem sumI_congr {α : Type} {f g : α → Int} {l : List α} (h : ∀ x ∈ l, f x = g x) : sumI (l.map f) = sumI (l.map g) := by
  rw [List.map_congr_left h]
theorem sumI_swap {α β : Type} {f : α → β → Int} : ∀ {l : List α} {m : List β}, sumI (l.map fun a => sumI (m.map fun b => f a b)) = sumI (m.map fun b => sumI (l.map fun a => f a b))
  | [], m => by simp only [List.map_nil, sumI]; exact sumI_zero.symm
  | a :: l, m => by simp only [List.map_cons, sumI, sumI_swap (l := l) (m := m)]; rw [← sumI_add]
theorem sumI_take {α : Type} {f : α → Int} {l : List α} {i : Nat} (h : i < l.length) : sumI ((l.take (i + 1)).map f) = sumI ((l.take i).map f) + f l[i] := by
  rw [List.take_succ_eq_append_getElem h, List.map_append, sumI_append]
  simp [sumI]
/-- each once -/
theorem sumI_one {c : Int} {x : Int} : ∀ {l : List Int}, l.Nodup → x ∈ l → sumI (l.map fun n => if x = n then c else 0) = c
  | [], _, h => by simp at h
  | y :: l, hn, h => by
    have hn' := List.nodup_cons.1 hn
    simp only [List.map_cons, sumI]
    by_cases e : x = y
    · subst e
      have : sumI (l.map fun n => if x = n then c else 0) = 0 := by
        rw [sumI_congr (g := fun _ => 0) fun z hz => if_neg fun (e : x = z) => hn'.1 (e ▸ hz)]
        exact sumI_zero
      rw [this, if_pos rfl]; omega
    · rw [if_neg e, sumI_one hn'.2 ((List.mem_cons.1 h).resolve_left e)]; omega
theorem sumI_bound {α : Type} {f : α → Int} {c : Int} : ∀ {l : List α}, (∀ x ∈ l, 0 ≤ f x ∧ f x ≤ c) → 0 ≤ sumI (l.map f) ∧ sumI (l.map f) ≤ l.length * c
  | [], _ => by simp [sumI]
  | x :: l, h => by
    have h1 := sumI_bound (l := l) fun y hy => h y (List.mem_cons_of_mem _ hy)
    have h2 := h x (List.mem_cons_self ..)
    simp only [List.map_cons, sumI, List.length_cons]
    rw [Int.natCast_add, Int.add_mul]
    omega

theorem sumI_perm {α : Type} {f : α → Int} {a b : List α} (h : a.Perm b) : sumI (a.map f) = sumI (b.map f) := by
  induction h with
  | nil => rfl
  | cons x _ ih => simp only [List.map_cons, sumI, ih]
  | swap x y l => simp only [List.map_cons, sumI]; omega
  | trans _ _ h1 h2 => exact h1.trans h2
end AI
end Go.Proofs.YtokdbmakkoleiaaGreat
