/- Steps of the symbolic walk whose side conditions are tried by themselves. More on lists of things: appending, parts. -/
import Derived.Test.YtkknpgebiihkfaaGreatDoorVb
set_option linter.unusedVariables false
set_option maxRecDepth 4000
namespace Go.Proofs.YtkknpgebiihkfaaGreatDoor
namespace AI

theorem needA {p t : Prop} (k : t) (h : p := by first | with_reducible rfl | omega | rfl | decide | trivial | exact ⟨rfl, rfl, by omega, by omega⟩ | exact ⟨by omega, by omega, roomy_of (by omega)⟩ | (refine ⟨rfl, rfl, ?_⟩; first | ((first | rw [lI] | rw [lS] | rw [lB] | rw [lV]); omega) | (simp; done) | (simp; omega)) | (refine ⟨rfl, ?_⟩; first | ((first | rw [lI] | rw [lS] | rw [lB] | rw [lV]); omega) | (simp; done) | (simp; omega)) | exact ⟨by (try rw [lV]); omega, by (try rw [lV]); omega⟩) : need p t := ⟨h, k⟩
theorem wrapA {z : Int} {K : AV → Prop} (k : K (.int .i64 z)) (h1 : -2^63 ≤ z := by omega) (h2 : z < 2^63 := by omega) : wrapK .i64 z K := wrapK_intro (wrap_i64 h1 h2) k
theorem nthA {α : Type} {xs : List α} {i : Nat} {x : α} {K : α → Prop} (k : K x) (h : nth xs i = some x := by first | ((with_reducible first | refine nIN ?_ | refine nI ?_ | refine nSN ?_ | refine nS ?_ | refine nBN ?_ | refine nB ?_ | refine nYN ?_ | refine nY ?_ | refine nY0 ?_ | refine nVN ?_ | refine nV ?_); first | omega | (simp; omega)) | rfl) : nthK xs i K := ⟨x, h, k⟩
theorem getA {α : Type} {o : Option α} {K : α → Prop} {x : α} (k : K x) (h : o = some x := by rfl) : getK o K := ⟨x, h, k⟩
theorem eqA {α : Type} {a b : α} {K : α → Prop} (k : K b) (h : a = b := by first | (with_reducible first | exact lI _ | exact lS _ | exact lB _ | exact uI | exact uS | exact uIS | exact uSS | exact rIN _ _ | exact rI _ _ | exact tIN | exact tI | exact tBN | exact tB | exact uB | exact rBN _ _ | exact lV _ | exact uV | exact uVS) | rfl) : eqK a K := ⟨b, h, k⟩

/-- side conditions of steps, told apart -/
structure Sn (p : Prop) : Prop where
  h : p
structure Sw (p : Prop) : Prop where
  h : p
structure Sx (p : Prop) : Prop where
  h : p
structure Sg (p : Prop) : Prop where
  h : p
structure Sq (p : Prop) : Prop where
  h : p
theorem kN {p t : Prop} (h : Sn p) (k : t) : need p t := ⟨h.1, k⟩
theorem kW {z : Int} {K : AV → Prop} (h : Sw (-2^63 ≤ z ∧ z < 2^63)) (k : K (.int .i64 z)) : wrapK .i64 z K := wrapK_intro (wrap_i64 h.1.1 h.1.2) k
theorem kX {α : Type} {xs : List α} {i : Nat} {x : α} {K : α → Prop} (h : Sx (nth xs i = some x)) (k : K x) : nthK xs i K := ⟨x, h.1, k⟩
theorem kG {α : Type} {o : Option α} {K : α → Prop} {x : α} (h : Sg (o = some x)) (k : K x) : getK o K := ⟨x, h.1, k⟩
theorem kQ {α : Type} {a b : α} {K : α → Prop} (h : Sq (a = b)) (k : K b) : eqK a K := ⟨b, h.1, k⟩
/-- tries a side condition by itself -/
theorem sd {P : Prop} (h : P := by first | ((with_reducible apply Sn.mk); first | with_reducible rfl | omega | rfl | decide | trivial | exact ⟨rfl, rfl, by omega, by omega⟩ | exact ⟨by omega, by omega, roomy_of (by omega)⟩ | (refine ⟨rfl, rfl, ?_⟩; first | ((first | rw [lI] | rw [lS] | rw [lB] | rw [lV]); omega) | (simp; done) | (simp; omega)) | (refine ⟨rfl, ?_⟩; first | ((first | rw [lI] | rw [lS] | rw [lB] | rw [lV]); omega) | (simp; done) | (simp; omega)) | exact ⟨by (try rw [lV]); omega, by (try rw [lV]); omega⟩) | ((with_reducible apply Sw.mk); exact ⟨by omega, by omega⟩) | ((with_reducible apply Sx.mk); first | ((with_reducible first | refine nIN ?_ | refine nI ?_ | refine nSN ?_ | refine nS ?_ | refine nBN ?_ | refine nB ?_ | refine nYN ?_ | refine nY ?_ | refine nY0 ?_ | refine nVN ?_ | refine nV ?_); first | omega | (simp; omega)) | rfl) | ((with_reducible apply Sg.mk); rfl) | ((with_reducible apply Sq.mk); first | (with_reducible first | exact lI _ | exact lS _ | exact lB _ | exact uI | exact uS | exact uIS | exact uSS | exact rIN _ _ | exact rI _ _ | exact tIN | exact tI | exact tBN | exact tB | exact uB | exact rBN _ _ | exact lV _ | exact uV | exact uVS) | rfl)) : P := h

end AI
end Go.Proofs.YtkknpgebiihkfaaGreatDoor
set_option linter.unusedVariables false
namespace Go.Proofs.YtkknpgebiihkfaaGreatDoor
namespace AI

section
variable {α : Type} {f : α → AV}

theorem allSize_vs {es : Nat} (hf : ∀ x, (f x).cells.length = es) (l : List α) : AllSize es (vs f l) := by
  intro y hy
  simp only [vs, List.mem_map] at hy
  obtain ⟨z, _, rfl⟩ := hy
  exact hf z

theorem sub_vs (l : List α) (a n : Nat) : sub (vs f l) a n = vs f ((l.drop a).take n) := by simp [sub, vs, List.map_drop, List.map_take]

theorem apV1 {es g len : Nat} {nn cl : Bool} {l : List α} {x : α} {bytes : Nat} {K : Nat → Bool → Bool → List AV → Prop} (hf : ∀ x, (f x).cells.length = es) (hl : len = l.length) (hr : (l.length + 1) * bytes ≤ 2 ^ 46) (h : K (l.length + 1) true cl (vs f (l ++ [x]))) :
    appendK g g es es len nn cl true (vs f l) [f x] bytes K := by
  subst hl
  refine ⟨⟨rfl, rfl, by simp, by intro y hy; simp at hy; subst hy; exact hf x, roomy_of hr⟩, ?_⟩
  have e1 : (nn || !([f x] : List AV).isEmpty) = true := by simp
  have e2 : (cl && true) = cl := by simp
  rw [e1, e2, snoc_vs]
  exact h

theorem apVm {es g len : Nat} {nn cl : Bool} {l l' : List α} {ys : List AV} {bytes : Nat} {K : Nat → Bool → Bool → List AV → Prop} (he : ys = vs f l') (hf : ∀ x, (f x).cells.length = es) (hl : len = l.length) (hr : (l.length + l'.length) * bytes ≤ 2 ^ 46) (h : ∀ b, K (l.length + l'.length) b cl (vs f (l ++ l'))) :
    appendK g g es es len nn cl true (vs f l) ys bytes K := by
  subst hl he
  refine ⟨⟨rfl, rfl, by simp, allSize_vs hf l', by rw [lV]; exact roomy_of hr⟩, ?_⟩
  rw [lV, Bool.and_true, List.take_of_length_le (by simp)]
  have := h (nn || !(vs f l').isEmpty)
  simpa [vs] using this

theorem apVt {es g len : Nat} {cl : Bool} {l l' : List α} {ys : List AV} {bytes : Nat} {K : Nat → Bool → Bool → List AV → Prop} (he : ys = vs f l') (hf : ∀ x, (f x).cells.length = es) (hl : len = l.length) (hr : (l.length + l'.length) * bytes ≤ 2 ^ 46) (h : K (l.length + l'.length) true cl (vs f (l ++ l'))) :
    appendK g g es es len true cl true (vs f l) ys bytes K := by
  subst hl he
  refine ⟨⟨rfl, rfl, by simp, allSize_vs hf l', by rw [lV]; exact roomy_of hr⟩, ?_⟩
  rw [lV, Bool.and_true, List.take_of_length_le (by simp), Bool.true_or]
  simpa [vs] using h

theorem tV {es : Nat} (hf : ∀ x, (f x).cells.length = es) {l : List α} {z : Int} {x y : α} {K : List AV → Prop} (i : Nat) (k : K (vs f (l.set i x))) (hz : z = i := by omega) : eqK ((vs f l).set (Int.toNat z) (writeCells (f y) 0 (f x))) K := by
  subst hz
  refine eqK_intro ?_ k
  have e : writeCells (f y) 0 (f x) = f x := by unfold writeCells; rw [if_pos ⟨rfl, by rw [hf, hf]⟩]
  rw [e]
  show (vs f l).set i (f x) = _
  simp [vs, List.map_set]

end
end AI
end Go.Proofs.YtkknpgebiihkfaaGreatDoor
