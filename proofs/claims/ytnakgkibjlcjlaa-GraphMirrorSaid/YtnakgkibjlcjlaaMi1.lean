/- Plain counting: entries of all nodes, edge by edge. -/
import Derived.Test.YtnakgkibjlcjlaaGrT3
import Derived.Test.YtnakgkibjlcjlaaCk4
set_option linter.unusedVariables false
namespace Go.Proofs.Ytnakgkibjlcjlaa
namespace AI

def sumI : List Int → Int
  | [] => 0
  | x :: l => x + sumI l
theorem sumI_append : ∀ {a b : List Int}, sumI (a ++ b) = sumI a + sumI b
  | [], b => by simp [sumI]
  | x :: a, b => by simp only [List.cons_append, sumI, sumI_append (a := a)]; omega
theorem sumI_add {α : Type} {f g : α → Int} : ∀ {l : List α}, sumI (l.map fun x => f x + g x) = sumI (l.map f) + sumI (l.map g)
  | [] => by simp [sumI]
  | x :: l => by simp only [List.map_cons, sumI, sumI_add (l := l)]; omega
theorem sumI_sub {α : Type} {f g : α → Int} : ∀ {l : List α}, sumI (l.map fun x => f x - g x) = sumI (l.map f) - sumI (l.map g)
  | [] => by simp [sumI]
  | x :: l => by simp only [List.map_cons, sumI, sumI_sub (l := l)]; omega
theorem sumI_zero {α : Type} : ∀ {l : List α}, sumI (l.map fun _ => 0) = 0
  | [] => rfl
  | x :: l => by simp only [List.map_cons, sumI, sumI_zero (l := l)]; omega
theorem sumI_congr {α : Type} {f g : α → Int} {l : List α} (h : ∀ x ∈ l, f x = g x) : sumI (l.map f) = sumI (l.map g) := by
  rw [List.map_congr_left h]
theorem sumI_swap {α β : Type} {f : α → β → Int} : ∀ {l : List α} {m : List β}, sumI (l.map fun a => sumI (m.map fun b => f a b)) = sumI (m.map fun b => sumI (l.map fun a => f a b))
  | [], m => by simp only [List.map_nil, sumI]; exact sumI_zero.symm
  | a :: l, m => by simp only [List.map_cons, sumI, sumI_swap (l := l) (m := m)]; rw [← sumI_add]
theorem sumI_take {α : Type} {f : α → Int} {l : List α} {i : Nat} (h : i < l.length) : sumI ((l.take (i + 1)).map f) = sumI ((l.take i).map f) + f l[i] := by
  rw [List.take_succ_eq_append_getElem h, List.map_append, sumI_append]
  simp [sumI]
/-- each once -/
theorem sumI_one {c : Int} {x : Int} : ∀ {l : List Int}, l.Nodup → x ∈ l → sumI (l.map fun n => if x = n then c else 0) = c
  | [], _, h => by simp at h
  | y :: l, hn, h => by
    have hn' := List.nodup_cons.1 hn
    simp only [List.map_cons, sumI]
    by_cases e : x = y
    · subst e
      have : sumI (l.map fun n => if x = n then c else 0) = 0 := by
        rw [sumI_congr (g := fun _ => 0) fun z hz => if_neg fun (e : x = z) => hn'.1 (e ▸ hz)]
        exact sumI_zero
      rw [this, if_pos rfl]; omega
    · rw [if_neg e, sumI_one hn'.2 ((List.mem_cons.1 h).resolve_left e)]; omega
theorem sumI_bound {α : Type} {f : α → Int} {c : Int} : ∀ {l : List α}, (∀ x ∈ l, 0 ≤ f x ∧ f x ≤ c) → 0 ≤ sumI (l.map f) ∧ sumI (l.map f) ≤ l.length * c
  | [], _ => by simp [sumI]
  | x :: l, h => by
    have h1 := sumI_bound (l := l) fun y hy => h y (List.mem_cons_of_mem _ hy)
    have h2 := h x (List.mem_cons_self ..)
    simp only [List.map_cons, sumI, List.length_cons]
    rw [Int.natCast_add, Int.add_mul]
    omega

theorem incr_nodup : ∀ {l : List Int}, incr l → l.Nodup := by
  intro l h
  rw [List.nodup_iff_pairwise_ne, List.pairwise_iff_getElem]
  intro i j hi hj hij
  have := incr_mono h hij hj
  omega

section
variable (types : List (List UInt8))

def d1 (n : Int) (e : GE) : Int := if HT types e ∧ e.fr = n then 1 else 0
def d2 (n : Int) (e : GE) : Int := if HT types e ∧ e.to = n then 1 else 0
def d3 (n : Int) (e : GE) : Int := if HT types e ∧ (e.fr = n ∨ e.to = n) then 1 else 0
def dL (n : Int) (e : GE) : Int := if HT types e ∧ e.fr = n ∧ e.to = n then 1 else 0
def dH (e : GE) : Int := if HT types e then 1 else 0

variable {types} {n : Int} {e : GE} {E : List GE}

theorem outs_cons {dir : Int} : outs types n dir (e :: E) = (outOf types n dir e).toList ++ outs types n dir E := by
  unfold outs
  rw [List.filterMap_cons]
  cases outOf types n dir e <;> rfl

theorem len_outs {dir : Int} {d : Int → GE → Int} (h : ∀ e, ((outOf types n dir e).toList.length : Int) = d n e) : ∀ {E : List GE}, ((outs types n dir E).length : Int) = sumI (E.map (d n))
  | [] => rfl
  | e :: E => by
    rw [outs_cons, List.length_append, Int.natCast_add, h, len_outs h]
    rfl

theorem lenD1 : ((outs types n 1 E).length : Int) = sumI (E.map (d1 types n)) := by
  refine len_outs fun e => ?_
  unfold outOf d1 stepOf
  by_cases h : HT types e
  · by_cases h1 : e.fr = n <;> simp [h, h1]
  · simp [h]
theorem lenD2 : ((outs types n 2 E).length : Int) = sumI (E.map (d2 types n)) := by
  refine len_outs fun e => ?_
  unfold outOf d2 stepOf
  by_cases h : HT types e
  · by_cases h1 : e.to = n <;> simp [h, h1]
  · simp [h]
theorem lenD3 : ((outs types n 3 E).length : Int) = sumI (E.map (d3 types n)) := by
  refine len_outs fun e => ?_
  unfold outOf d3 stepOf
  by_cases h : HT types e
  · by_cases h1 : e.fr = n <;> by_cases h2 : e.to = n <;> simp [h, h1, h2]
  · simp [h]

/-- the loops among entries -/
def lp (n : Int) (a : Adj) : Int := if a.to = n then 1 else 0
theorem sumI_perm {α : Type} {f : α → Int} {a b : List α} (h : a.Perm b) : sumI (a.map f) = sumI (b.map f) := by
  induction h with
  | nil => rfl
  | cons x _ ih => simp only [List.map_cons, sumI, ih]
  | swap x y l => simp only [List.map_cons, sumI]; omega
  | trans _ _ h1 h2 => exact h1.trans h2
theorem lenL : ∀ {E : List GE}, sumI ((outs types n 1 E).map (lp n)) = sumI (E.map (dL types n))
  | [] => rfl
  | e :: E => by
    rw [outs_cons, List.map_append, sumI_append, lenL]
    simp only [List.map_cons, sumI]
    congr 1
    unfold outOf dL stepOf lp
    by_cases h : HT types e
    · by_cases h1 : e.fr = n
      · by_cases h2 : e.to = n <;> simp [h, h1, h2, sumI]
      · simp [h, h1, sumI]
    · simp [h, sumI]

theorem d3_eq : d3 types n e = d1 types n e + d2 types n e - dL types n e := by
  unfold d1 d2 d3 dL
  by_cases h : HT types e
  · by_cases h1 : e.fr = n <;> by_cases h2 : e.to = n <;> simp [h, h1, h2]
  · simp [h]

theorem sum1 {ids : List Int} (hn : ids.Nodup) (h : e.fr ∈ ids) : sumI (ids.map fun n => d1 types n e) = dH types e := by
  unfold d1 dH
  by_cases ht : HT types e
  · rw [if_pos ht]
    refine (sumI_congr fun n _ => ?_).trans (sumI_one (c := 1) hn h)
    simp [ht]
  · rw [if_neg ht]
    refine (sumI_congr fun n _ => ?_).trans sumI_zero
    simp [ht]
theorem sum2 {ids : List Int} (hn : ids.Nodup) (h : e.to ∈ ids) : sumI (ids.map fun n => d2 types n e) = dH types e := by
  unfold d2 dH
  by_cases ht : HT types e
  · rw [if_pos ht]
    refine (sumI_congr fun n _ => ?_).trans (sumI_one (c := 1) hn h)
    simp [ht]
  · rw [if_neg ht]
    refine (sumI_congr fun n _ => ?_).trans sumI_zero
    simp [ht]

/-- all edges that count -/
def cntH (types : List (List UInt8)) (E : List GE) : Int := sumI (E.map (dH types))

theorem tot1 {ids : List Int} (hn : ids.Nodup) (h : ∀ e ∈ E, e.fr ∈ ids) : sumI (ids.map fun n => ((outs types n 1 E).length : Int)) = cntH types E := by
  rw [sumI_congr (g := fun n => sumI (E.map (d1 types n))) fun n _ => lenD1, sumI_swap]
  exact sumI_congr fun e he => sum1 hn (h e he)
theorem tot2 {ids : List Int} (hn : ids.Nodup) (h : ∀ e ∈ E, e.to ∈ ids) : sumI (ids.map fun n => ((outs types n 2 E).length : Int)) = cntH types E := by
  rw [sumI_congr (g := fun n => sumI (E.map (d2 types n))) fun n _ => lenD2, sumI_swap]
  exact sumI_congr fun e he => sum2 hn (h e he)
theorem tot3 {ids : List Int} (hn : ids.Nodup) (h : ∀ e ∈ E, e.fr ∈ ids ∧ e.to ∈ ids) :
    sumI (ids.map fun n => ((outs types n 3 E).length : Int)) = 2 * cntH types E - sumI (ids.map fun n => sumI ((outs types n 1 E).map (lp n))) := by
  have e1 := tot1 (types := types) hn fun e he => (h e he).1
  have e2 := tot2 (types := types) hn fun e he => (h e he).2
  have e3 : sumI (ids.map fun n => ((outs types n 3 E).length : Int)) = sumI (ids.map fun n => (((outs types n 1 E).length : Int) + ((outs types n 2 E).length : Int)) - sumI ((outs types n 1 E).map (lp n))) := by
    refine sumI_congr fun n _ => ?_
    rw [lenD1, lenD2, lenD3, lenL, ← sumI_add, ← sumI_sub]
    exact sumI_congr fun e _ => d3_eq
  rw [e3, sumI_sub, sumI_add, e1, e2]
  omega

/-- an outgoing entry is an incoming one of its other end -/
theorem mirror {a : Adj} (h : a ∈ outs types n 1 E) : (⟨a.to, n, a.ed⟩ : Adj) ∈ outs types a.to 2 E := by
  unfold outs at h ⊢
  obtain ⟨e, he, h1⟩ := List.mem_filterMap.1 h
  refine List.mem_filterMap.2 ⟨e, he, ?_⟩
  unfold outOf at h1 ⊢
  split at h1
  · rename_i ht
    rw [if_pos ht]
    unfold stepOf at h1 ⊢
    split at h1
    · rename_i h2
      cases h1
      simp [h2.2]
    · simp at h1
  · cases h1

end
end AI
end Go.Proofs.Ytnakgkibjlcjlaa
