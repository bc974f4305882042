/- A sorted list without its repeated elements. -/
import Derived.Test.YtokdbmakkoleiaaGreatPd1
set_option linter.unusedVariables false
namespace Go.Proofs.YtokdbmakkoleiaaGreat
namespace AI
open Go.Sort

theorem clr {C : CallF} {es o g off n : Nat} {nn cl : Bool} {x : AO} {env : Env} {σ : List Obj} {c : Nat} {elems : List AV} (hx : x.val env = .own o g off n) (ho : nth σ o = some (.arr g es nn cl elems)) (h : off + n ≤ elems.length) (hn : n ≠ 0) :
    evOp C (.clear es x) env ⟨σ, c⟩ = some (.ok .undef, ⟨σ.set o (.arr g es nn cl (elems.take off)), c⟩) := by
  simp [evOp, hx, ho, h, hn]

section
variable {α : Type} [Inhabited α]

theorem nPn {f : α → AV} {d : Array α} {m : Nat} (i : Nat) (hm : m = i) (h : i < d.size) : nth (vs f d.toList) m = some (f d[i]!) := by
  subst hm
  have := nP (f := f) (d := d) (z := (m : Int)) m rfl h
  exact this

open Classical in
/-- the first n elements, each that repeats its forerunner left out -/
noncomputable def cpn (d : Array α) : Nat → List α
  | 0 => []
  | n + 1 => if 0 < n ∧ d[n]! = d[n - 1]! then cpn d n else cpn d n ++ [d[n]!]

theorem cpn_same {d : Array α} {n : Nat} (h0 : 0 < n) (h : d[n]! = d[n - 1]!) : cpn d (n + 1) = cpn d n := if_pos ⟨h0, h⟩
theorem cpn_more {d : Array α} {n : Nat} (h : 0 < n → ¬ d[n]! = d[n - 1]!) : cpn d (n + 1) = cpn d n ++ [d[n]!] := if_neg fun h1 => h h1.1 h1.2
theorem cpn_len (d : Array α) : ∀ n, (cpn d n).length ≤ n
  | 0 => by simp [cpn]
  | n + 1 => by
    have := cpn_len d n
    unfold cpn
    split
    · omega
    · simp; omega

/-- nothing repeats: the elements themselves -/
theorem cpn_all {d : Array α} : ∀ n, n ≤ d.size → (∀ j, 0 < j → j < n → ¬ d[j]! = d[j - 1]!) → cpn d n = d.toList.take n
  | 0, _, _ => by simp [cpn]
  | n + 1, hn, h => by
    rw [cpn_more (fun h0 => h n h0 (by omega)), cpn_all n (by omega) fun j h0 hj => h j h0 (by omega), List.take_succ_eq_append_getElem (by simp; omega)]
    congr 2
    rw [getElem!_pos d n (by omega)]
    simp

theorem mem_cpn {d : Array α} {x : α} : ∀ n, n ≤ d.size → (x ∈ cpn d n ↔ x ∈ d.toList.take n)
  | 0, _ => by simp [cpn]
  | n + 1, hn => by
    have e : d[n]! = d.toList[n]'(by simp; omega) := by rw [getElem!_pos d n (by omega)]; simp
    rw [List.take_succ_eq_append_getElem (by simp; omega), List.mem_append, List.mem_singleton, ← e]
    by_cases h : 0 < n ∧ d[n]! = d[n - 1]!
    · rw [cpn_same h.1 h.2, mem_cpn n (by omega)]
      refine ⟨Or.inl, fun h1 => h1.elim id ?_⟩
      rintro rfl
      rw [h.2, getElem!_pos d (n - 1) (by omega)]
      rw [List.mem_take_iff_getElem]
      exact ⟨n - 1, by simp; omega, by simp⟩
    · rw [cpn_more (fun h0 h1 => h ⟨h0, h1⟩), List.mem_append, List.mem_singleton, mem_cpn n (by omega)]

/-- strictly increasing -/
theorem cpn_lt {lt : α → α → Bool} (hS : SWO lt) (htot : ∀ x y, lt x y = false → lt y x = false → x = y) {d : Array α} (hs : SortedIn lt 0 d.size d) : ∀ n, n ≤ d.size → (cpn d n).Pairwise (fun x y => lt x y = true)
  | 0, _ => by simp [cpn]
  | n + 1, hn => by
    have ih := cpn_lt hS htot hs n (by omega)
    by_cases h : 0 < n ∧ d[n]! = d[n - 1]!
    · rw [cpn_same h.1 h.2]; exact ih
    · rw [cpn_more (fun h0 h1 => h ⟨h0, h1⟩)]
      refine List.pairwise_append.2 ⟨ih, List.pairwise_singleton .., fun x hx y hy => ?_⟩
      obtain rfl := List.mem_singleton.1 hy
      rw [mem_cpn n (by omega), List.mem_take_iff_getElem] at hx
      obtain ⟨j, hj, rfl⟩ := hx
      simp only [Array.length_toList] at hj
      have ej : d.toList[j]'(by simp; omega) = d[j]! := by rw [getElem!_pos d j (by omega)]; simp
      rw [ej]
      cases hc : lt d[j]! d[n]! with
      | true => rfl
      | false =>
        exfalso
        have h1 := hs j n (by omega) (by omega) (by omega)
        have e1 := htot _ _ hc h1
        refine h ⟨by omega, ?_⟩
        rcases Nat.lt_or_ge j (n - 1) with h2 | h2
        · have h3 := hs j (n - 1) (by omega) h2 (by omega)
          have h4 := hs (n - 1) n (by omega) (by omega) (by omega)
          rw [e1] at h3
          exact htot _ _ h4 h3
        · obtain rfl : j = n - 1 := by omega
          exact e1.symm

omit [Inhabited α] in
/-- one strictly increasing list -/
theorem strict_unique {lt : α → α → Bool} (hS : SWO lt) : ∀ {a b : List α}, a.Pairwise (fun x y => lt x y = true) → b.Pairwise (fun x y => lt x y = true) → (∀ x, x ∈ a ↔ x ∈ b) → a = b
  | [], [], _, _, _ => rfl
  | [], y :: b, _, _, h => absurd ((h y).2 (List.mem_cons_self ..)) (by simp)
  | x :: a, [], _, _, h => absurd ((h x).1 (List.mem_cons_self ..)) (by simp)
  | x :: a, y :: b, ha, hb, h => by
    have ha' := List.pairwise_cons.1 ha
    have hb' := List.pairwise_cons.1 hb
    have hxy : x = y := by
      rcases List.mem_cons.1 ((h x).1 (List.mem_cons_self ..)) with e | hx
      · exact e
      rcases List.mem_cons.1 ((h y).2 (List.mem_cons_self ..)) with e | hy
      · exact e.symm
      have := hS.trans _ _ _ (ha'.1 y hy) (hb'.1 x hx)
      rw [hS.irrefl] at this; cases this
    subst hxy
    rw [strict_unique hS ha'.2 hb'.2 fun z => ?_]
    have hn1 : x ∉ a := fun h1 => by have := ha'.1 x h1; rw [hS.irrefl] at this; cases this
    have hn2 : x ∉ b := fun h1 => by have := hb'.1 x h1; rw [hS.irrefl] at this; cases this
    have := h z
    simp only [List.mem_cons] at this
    constructor
    · intro hz
      rcases this.1 (Or.inr hz) with rfl | h2
      · exact absurd hz hn1
      · exact h2
    · intro hz
      rcases this.2 (Or.inr hz) with rfl | h2
      · exact absurd hz hn2
      · exact h2

end
end AI
end Go.Proofs.YtokdbmakkoleiaaGreat
