/- Lists of numbers as abstract values; small facts that the steps need. -/
import Derived.Test.YtocgbgffpdphdaaVc4
namespace Go.Proofs.Ytocgbgffpdphdaa
namespace AI

def ints (l : List Int) : List AV := l.map (.int .i64)
/-- a slice of numbers -/
abbrev isl (nn : Bool) (l : List Int) : AV := .sl nn (ints l)

@[simp] theorem len_ints (l : List Int) : (ints l).length = l.length := by simp [ints]
theorem nth_ints {l : List Int} {i : Nat} {x : Int} (h : l[i]? = some x) : nth (ints l) i = some (.int .i64 x) := by simp [ints, nth_eq, h]
theorem nth_ints' {l : List Int} {i : Nat} (h : i < l.length) : nth (ints l) i = some (.int .i64 l[i]) := nth_ints (List.getElem?_eq_getElem h)

theorem wrap_i64 {z : Int} (h : -2^63 ≤ z) (h2 : z < 2^63) : IntKind.i64.wrap z = z := by
  rw [IntKind.wrap_i64]; omega

theorem nth_intsN {l : List Int} {i : Nat} (h : i < l.length) : nth (ints l) (Int.toNat (Nat.cast i)) = some (.int .i64 l[i]) := nth_ints' h
theorem allSize_one {es : Nat} {x : AV} (h : x.cells.length = es) : AllSize es [x] := by intro y hy; simp at hy; exact hy ▸ h
theorem allSize_ints (l : List Int) : AllSize 1 (ints l) := by
  intro y hy
  simp only [ints, List.mem_map] at hy
  obtain ⟨z, _, rfl⟩ := hy
  rfl
theorem roomy_of {b n : Nat} (h : n * b ≤ 2 ^ 46) : roomy b n := h
theorem snoc_ints {l : List Int} {x : Int} : (ints l).take l.length ++ [.int .i64 x] = ints (l ++ [x]) := by
  rw [List.take_of_length_le (by simp)]; simp [ints]

/-- slices of numbers, each with its flag -/
def iss (E : List (Bool × List Int)) : List AV := E.map fun p => .sl p.1 (ints p.2)
@[simp] theorem len_iss (E : List (Bool × List Int)) : (iss E).length = E.length := by simp [iss]
theorem nth_iss {E : List (Bool × List Int)} {i : Nat} (h : i < E.length) : nth (iss E) i = some (.sl E[i].1 (ints E[i].2)) := by simp [iss, nth_eq, h]
theorem nth_issN {E : List (Bool × List Int)} {i : Nat} (h : i < E.length) : nth (iss E) (Int.toNat (Nat.cast i)) = some (.sl E[i].1 (ints E[i].2)) := nth_iss h

theorem take_mem_iff {x : Int} {l : List Int} {i : Nat} (h : i < l.length) : x ∈ l.take (i + 1) ↔ x ∈ l.take i ∨ x = l[i] := by
  rw [List.take_succ_eq_append_getElem h]; simp only [List.mem_append, List.mem_singleton]
theorem not_mem_take_succ {x : Int} {l : List Int} {i : Nat} (h : i < l.length) (h1 : x ∉ l.take i) (h2 : ¬ l[i] = x) : x ∉ l.take (i + 1) := by
  rw [take_mem_iff h]; rintro (h | h); exact h1 h; exact h2 h.symm
theorem take_all {α : Type} {l : List α} {i : Nat} (h : ¬ (i : Int) < (l.length : Int)) : l.take i = l := List.take_of_length_le (by omega)

theorem take_eq_succ {α : Type} {a b : List α} {i : Nat} (ha : i < a.length) (hb : i < b.length) (h : a.take i = b.take i) (h2 : a[i] = b[i]) : a.take (i + 1) = b.take (i + 1) := by
  rw [List.take_succ_eq_append_getElem ha, List.take_succ_eq_append_getElem hb, h, h2]
theorem eq_of_take {α : Type} {a b : List α} {i : Nat} (hl : (a.length : Int) = (b.length : Int)) (hi : ¬ (i : Int) < (a.length : Int)) (h : a.take i = b.take i) : a = b := by
  rwa [List.take_of_length_le (by omega), List.take_of_length_le (by omega)] at h
theorem ne_of_get {α : Type} {a b : List α} {i : Nat} {ha : i < a.length} {hb : i < b.length} (h : a[i] ≠ b[i]) : a ≠ b := by rintro rfl; exact h rfl
theorem all_take_succ {α : Type} {p : α → Prop} {l : List α} {i : Nat} (h : i < l.length) (h1 : ∀ x ∈ l.take i, p x) (h2 : p l[i]) : ∀ x ∈ l.take (i + 1), p x := by
  intro x hx
  rw [List.take_succ_eq_append_getElem h, List.mem_append, List.mem_singleton] at hx
  rcases hx with hx | rfl
  · exact h1 x hx
  · exact h2

theorem set_intsN {l : List Int} {i : Nat} {x y : Int} : (ints l).set (Int.toNat (Nat.cast i)) (writeCells (.int .i64 x) 0 (.int .i64 y)) = ints (l.set i y) := by
  simp [ints, writeCells, AV.cells, List.map_set]
theorem set_ints {l : List Int} {i : Nat} {x y : Int} : (ints l).set i (writeCells (.int .i64 x) 0 (.int .i64 y)) = ints (l.set i y) := set_intsN
theorem sub_ints {l : List Int} : sub (ints l) 0 l.length = ints l := by
  unfold sub; rw [List.drop_zero, List.take_of_length_le (by simp)]
theorem sub_iss {l : List (Bool × List Int)} : sub (iss l) 0 l.length = iss l := by
  unfold sub; rw [List.drop_zero, List.take_of_length_le (by simp)]
theorem snoc_iss {l : List (Bool × List Int)} {b : Bool} {x : List Int} : (iss l).take l.length ++ [.sl b (ints x)] = iss (l ++ [(b, x)]) := by
  rw [List.take_of_length_le (by simp)]; simp [iss]
theorem snoc_nil (x : Int) : ([] : List AV).take 0 ++ [.int .i64 x] = ints [x] := rfl
theorem appendK_ints {g len : Nat} {nn cl : Bool} {l : List Int} {x : Int} {bytes : Nat} {K : Nat → Bool → Bool → List AV → Prop} (hl : len = l.length) (hr : (l.length + 1) * bytes ≤ 2 ^ 46) (h : K (l.length + 1) true cl (ints (l ++ [x]))) :
    appendK g g 1 1 len nn cl true (ints l) [.int .i64 x] bytes K := by
  subst hl
  refine ⟨⟨rfl, rfl, by simp, allSize_one rfl, hr⟩, ?_⟩
  rw [snoc_ints, Bool.and_true]
  simpa using h
theorem appendK_iss {g len : Nat} {nn cl : Bool} {l : List (Bool × List Int)} {b : Bool} {x : List Int} {bytes : Nat} {K : Nat → Bool → Bool → List AV → Prop} (hl : len = l.length) (hr : (l.length + 1) * bytes ≤ 2 ^ 46) (h : K (l.length + 1) true cl (iss (l ++ [(b, x)]))) :
    appendK g g 1 1 len nn cl true (iss l) [.sl b (ints x)] bytes K := by
  subst hl
  refine ⟨⟨rfl, rfl, by simp, allSize_one rfl, hr⟩, ?_⟩
  rw [snoc_iss, Bool.and_true]
  simpa using h
theorem rep_intsN (n : Nat) (z : Int) : List.replicate (Int.toNat (Nat.cast n)) (AV.int .i64 z) = ints (List.replicate n z) := by simp [ints]
theorem rep_ints (n : Nat) (z : Int) : List.replicate n (AV.int .i64 z) = ints (List.replicate n z) := by simp [ints]
theorem or_true_eq (b : Bool) : (b || true) = true := by cases b <;> rfl

end AI
end Go.Proofs.Ytocgbgffpdphdaa
