/- Soundness, second part: the invariant over a new object, over a changed object. -/
import Derived.Test.YtocgbgffpdphdaaSnd1
namespace Go.Proofs.Ytocgbgffpdphdaa
namespace AI
open Go.RowKit

variable {B : Nat} {w w' w0 : World} {Z Z' : Cold} {φ φ' : Phi} {ctr ctr' : Nat} {s s' : Sto}

theorem Holds.later (hL : Later B w Z φ ctr w' Z' φ' ctr') {c : Array Value} {es : Nat} {cl : Bool} {elems : List AV} (h : Holds w Z φ ctr c es cl elems) : Holds w' Z' φ' ctr' c es cl elems := by
  intro i x hx
  obtain ⟨h1, h2⟩ := h i x hx
  refine ⟨h1, fun j y hy => ?_⟩
  obtain ⟨v, h3, h4, h5, h6⟩ := h2 j y hy
  exact ⟨v, h3, h4.later hL, h5, h6⟩

theorem ObjRep.place {ob : Obj} (h : ObjRep w Z φ ctr B ob) {g b e n : Nat} (hg : ob.gen = some g) (hφ : φ g = .row b e n) : b < w.heap.size ∧ B ≤ b := by
  cases ob with
  | arr g' es nn cl elems =>
    simp only [Obj.gen, Option.some.injEq] at hg
    subst hg
    obtain ⟨_, _, h3⟩ := h
    rw [hφ] at h3
    obtain ⟨_, _, h4, _, _, c, t, h5, _⟩ := h3
    refine ⟨?_, h4⟩
    exact (Array.getElem?_eq_some_iff.1 h5).1
  | mp g' cl ents =>
    simp only [Obj.gen, Option.some.injEq] at hg
    subst hg
    obtain ⟨_, b', es, size, h3, h4, c, t, h5, _⟩ := h
    rw [hφ] at h3
    simp only [Plc.row.injEq] at h3
    obtain ⟨rfl, _⟩ := h3
    exact ⟨(Array.getElem?_eq_some_iff.1 h5).1, h4⟩
  | dead => simp [Obj.gen] at hg

theorem ObjRep.gen_lt {ob : Obj} (h : ObjRep w Z φ ctr B ob) {g : Nat} (hg : ob.gen = some g) : g < ctr := by
  cases ob with
  | arr g' es nn cl elems => simp only [Obj.gen, Option.some.injEq] at hg; subst hg; exact h.1
  | mp g' cl ents => simp only [Obj.gen, Option.some.injEq] at hg; subst hg; exact h.1
  | dead => simp [Obj.gen] at hg

theorem ObjRep.step {ob : Obj} (h : ObjRep w Z φ ctr B ob) (hL : Later B w Z φ ctr w' Z' φ' ctr')
    (hblk : ∀ g b e n, ob.gen = some g → φ g = .row b e n → w'.heap[b]? = w.heap[b]? ∧ ∀ i, Z' b i → Z b i) : ObjRep w' Z' φ' ctr' B ob := by
  cases ob with
  | arr g es nn cl elems =>
    obtain ⟨h1, h2, h3⟩ := h
    refine ⟨Nat.lt_of_lt_of_le h1 hL.mono, h2, ?_⟩
    rw [hL.phi g h1]
    cases hφ : φ g with
    | nil => rw [hφ] at h3; exact h3
    | zc => rw [hφ] at h3; exact h3
    | pend => rw [hφ] at h3; exact h3
    | row b e n =>
      rw [hφ] at h3
      obtain ⟨h4, h5, h6, h7, h8, c, t, h9, h10, h11⟩ := h3
      obtain ⟨hb1, hb2⟩ := hblk g b e n rfl hφ
      exact ⟨h4, h5, h6, fun i hz => h7 i (hb2 i hz), h8, c, t, hb1.trans h9, h10, h11.later hL⟩
  | mp g cl ents =>
    obtain ⟨h1, b, es, size, h3, h4, es', clock, h5, h6, h7⟩ := h
    refine ⟨Nat.lt_of_lt_of_le h1 hL.mono, b, es, size, (hL.phi g h1).trans h3, h4, es', clock, (hblk g b es size rfl h3).1.trans h5, h6, fun i e he => ?_⟩
    obtain ⟨e', k1, k2, k3, k4, k5⟩ := h7 i e he
    exact ⟨e', k1, k2.later hL, k3.later hL, k4, k5⟩
  | dead => trivial

theorem Inv.push (hI : Inv w0 B s Z φ w) (hbel : Below w.heap.size w w') (hL : Later B w Z φ s.ctr w' Z' φ' (s.ctr + 1))
    (hZ : ∀ b i, Z' b i → Z b i ∨ w.heap.size ≤ b) (hlive : ∀ b i, Z' b i → b < w'.heap.size) {ob : Obj} (hob : ObjRep w' Z' φ' (s.ctr + 1) B ob)
    (hgen : ob.gen = some s.ctr) (hnew : ∀ b e n, φ' s.ctr = .row b e n → w.heap.size ≤ b) : Inv w0 B (AI.push s ob) Z' φ' w' := by
  have old : ∀ (o : Nat) (ob' : Obj), s.σ[o]? = some ob' → ObjRep w' Z' φ' (s.ctr + 1) B ob' := by
    intro o ob' ho
    refine (hI.objs o ob' ho).step hL fun g b e n hg hφ => ?_
    have hb := ((hI.objs o ob' ho).place hg hφ).1
    refine ⟨hbel.block b hb, fun i hz => ?_⟩
    rcases hZ b i hz with h | h
    · exact h
    · omega
  have look : ∀ (o : Nat) (ob' : Obj), (AI.push s ob).σ[o]? = some ob' → s.σ[o]? = some ob' ∨ (o = s.σ.length ∧ ob' = ob) := by
    intro o ob' ho
    simp only [AI.push] at ho
    rcases Nat.lt_trichotomy o s.σ.length with h | h | h
    · rw [List.getElem?_append_left h] at ho; exact .inl ho
    · subst h; simp at ho; exact .inr ⟨rfl, ho.symm⟩
    · rw [List.getElem?_eq_none (by simp; omega)] at ho; cases ho
  refine ⟨hI.below.trans (hbel.mono hI.base), Nat.le_trans hI.base hbel.size, fun o ob' ho => ?_, fun o o' ob1 ob2 g g' b e n e' n' h1 h2 hg hg' hp hp' => ?_, hlive⟩
  · rcases look o ob' ho with h | ⟨_, rfl⟩
    · exact old o ob' h
    · exact hob
  · have oldφ : ∀ (o : Nat) (ob' : Obj) (g b e n : Nat), s.σ[o]? = some ob' → ob'.gen = some g → φ' g = .row b e n → φ g = .row b e n ∧ b < w.heap.size := by
      intro o ob' g b e n ho hg hp
      have hlt := (hI.objs o ob' ho).gen_lt hg
      rw [hL.phi g hlt] at hp
      exact ⟨hp, ((hI.objs o ob' ho).place hg hp).1⟩
    rcases look o ob1 h1 with k | ⟨ko, kb⟩ <;> rcases look o' ob2 h2 with k' | ⟨ko', kb'⟩
    · exact hI.apart o o' ob1 ob2 g g' b e n e' n' k k' hg hg' (oldφ _ _ _ _ _ _ k hg hp).1 (oldφ _ _ _ _ _ _ k' hg' hp').1
    · subst kb'
      rw [hgen] at hg'
      cases hg'
      have := hnew b e' n' hp'
      have := (oldφ _ _ _ _ _ _ k hg hp).2
      omega
    · subst kb
      rw [hgen] at hg
      cases hg
      have := hnew b e n hp
      have := (oldφ _ _ _ _ _ _ k' hg' hp').2
      omega
    · rw [ko, ko']

theorem Inv.set (hI : Inv w0 B s Z φ w) {o : Nat} {old ob : Obj} (hold : s.σ[o]? = some old) (hbel : Below B w w') (hL : Later B w Z φ s.ctr w' Z' φ' ctr')
    (hlive : ∀ b i, Z' b i → b < w'.heap.size)
    (hblk : ∀ (o' : Nat) (ob' : Obj) (g b e n : Nat), o' ≠ o → s.σ[o']? = some ob' → ob'.gen = some g → φ g = .row b e n → w'.heap[b]? = w.heap[b]? ∧ ∀ i, Z' b i → Z b i)
    (hob : ObjRep w' Z' φ' ctr' B ob)
    (hplace : ∀ g b e n, ob.gen = some g → φ' g = .row b e n → w.heap.size ≤ b ∨ ∃ g' e' n', old.gen = some g' ∧ φ g' = .row b e' n') :
    Inv w0 B ⟨s.σ.set o ob, ctr'⟩ Z' φ' w' := by
  have ho : o < s.σ.length := (List.getElem?_eq_some_iff.1 hold).1
  have look : ∀ (o' : Nat) (ob' : Obj), (s.σ.set o ob)[o']? = some ob' → (o' ≠ o ∧ s.σ[o']? = some ob') ∨ (o' = o ∧ ob' = ob) := by
    intro o' ob' h
    by_cases e : o' = o
    · subst e
      rw [List.getElem?_set_self ho] at h
      exact .inr ⟨rfl, (Option.some.inj h).symm⟩
    · rw [List.getElem?_set_ne (fun h => e h.symm)] at h
      exact .inl ⟨e, h⟩
  refine ⟨hI.below.trans hbel, Nat.le_trans hI.base hbel.size, fun o' ob' h => ?_, fun o1 o2 ob1 ob2 g g' b e n e' n' h1 h2 hg hg' hp hp' => ?_, hlive⟩
  · rcases look o' ob' h with ⟨hne, k⟩ | ⟨_, rfl⟩
    · exact (hI.objs o' ob' k).step hL fun g b e n hg hφ => hblk o' ob' g b e n hne k hg hφ
    · exact hob
  · have oldφ : ∀ (o : Nat) (ob' : Obj) (g b e n : Nat), s.σ[o]? = some ob' → ob'.gen = some g → φ' g = .row b e n → φ g = .row b e n ∧ b < w.heap.size := by
      intro o ob' g b e n ho hg hp
      have hlt := (hI.objs o ob' ho).gen_lt hg
      rw [hL.phi g hlt] at hp
      exact ⟨hp, ((hI.objs o ob' ho).place hg hp).1⟩
    rcases look o1 ob1 h1 with ⟨n1, k⟩ | ⟨ko, kb⟩ <;> rcases look o2 ob2 h2 with ⟨n2, k'⟩ | ⟨ko', kb'⟩
    · exact hI.apart o1 o2 ob1 ob2 g g' b e n e' n' k k' hg hg' (oldφ _ _ _ _ _ _ k hg hp).1 (oldφ _ _ _ _ _ _ k' hg' hp').1
    · subst kb'
      have hq := oldφ _ _ _ _ _ _ k hg hp
      rcases hplace g' b e' n' hg' hp' with hh | ⟨g2, e2, n2', hg2, hp2⟩
      · omega
      · exact absurd (hI.apart o1 o ob1 old g g2 b e n e2 n2' k hold hg hg2 hq.1 hp2) n1
    · subst kb
      have hq := oldφ _ _ _ _ _ _ k' hg' hp'
      rcases hplace g b e n hg hp with hh | ⟨g2, e2, n2', hg2, hp2⟩
      · omega
      · exact absurd (hI.apart o2 o ob2 old g' g2 b e' n' e2 n2' k' hold hg' hg2 hq.1 hp2) n2
    · rw [ko, ko']

/-- Old blocks alone matter: a step that makes new blocks. -/
theorem later_new (hI : Inv w0 B s Z φ w) (hbel : Below w.heap.size w w') (hZ : ∀ b i, Z b i → Z' b i) (hnew : ∀ b i, Z' b i → Z b i ∨ w.heap.size ≤ b)
    (hφ : ∀ g, g < s.ctr → φ' g = φ g) (hc : s.ctr ≤ ctr') : Later B w Z φ s.ctr w' Z' φ' ctr' :=
  ⟨fun b i h => (hnew b i h).imp id fun h => Nat.le_trans hI.base h, hc, hZ, fun b i h => hbel.cell (p := ⟨b, i, none⟩) (hI.live b i h), hφ⟩

/-- The store may keep its objects while new blocks come. -/
theorem Inv.grow (hI : Inv w0 B s Z φ w) (hbel : Below w.heap.size w w') (hZ : ∀ b i, Z b i → Z' b i) (hnew : ∀ b i, Z' b i → Z b i ∨ w.heap.size ≤ b)
    (hlive : ∀ b i, Z' b i → b < w'.heap.size) : Inv w0 B s Z' φ w' ∧ Later B w Z φ s.ctr w' Z' φ s.ctr := by
  have hL : Later B w Z φ s.ctr w' Z' φ s.ctr := later_new hI hbel hZ hnew (fun _ _ => rfl) (Nat.le_refl _)
  refine ⟨⟨hI.below.trans (hbel.mono hI.base), Nat.le_trans hI.base hbel.size, fun o ob ho => ?_, hI.apart, hlive⟩, hL⟩
  refine (hI.objs o ob ho).step hL fun g b e n hg hφ => ?_
  have hb := ((hI.objs o ob ho).place hg hφ).1
  refine ⟨hbel.block b hb, fun i hz => ?_⟩
  rcases hnew b i hz with h | h
  · exact h
  · omega

def phiSet (φ : Phi) (g : Nat) (p : Plc) : Phi := fun h => if h = g then p else φ h

theorem phiSet_self (φ : Phi) (g : Nat) (p : Plc) : phiSet φ g p g = p := by simp [phiSet]
theorem phiSet_lt (φ : Phi) {g h : Nat} (p : Plc) (hlt : h < g) : phiSet φ g p h = φ h := by
  unfold phiSet; rw [if_neg (by omega)]

theorem below_alloc (w : World) (o : Go.Obj) : Below w.heap.size w (w.alloc o) := (Below.refl _ _).alloc (Nat.le_refl _) o

/-- A new row of cells as a new object. -/
theorem Inv.newRow (hI : Inv w0 B s Z φ w) (hbel : Below w.heap.size w w') {c : Array Value} {t : TypeId} {b : Nat} (hb : w.heap.size ≤ b) (hw : w'.heap[b]? = some (.cells c t (0, 0))) {es : Nat} {cl : Bool} {elems : List AV} (hes : 0 < es) (hsz : elems.length * es ≤ c.size)
    (hH : Holds w Z φ s.ctr c es cl elems) :
    Inv w0 B (AI.push s (.arr s.ctr es true cl elems)) Z (phiSet φ s.ctr (.row b es c.size)) w' ∧
    Later B w Z φ s.ctr w' Z (phiSet φ s.ctr (.row b es c.size)) (s.ctr + 1) := by
  have hL : Later B w Z φ s.ctr w' Z (phiSet φ s.ctr (.row b es c.size)) (s.ctr + 1) :=
    later_new hI hbel (fun _ _ h => h) (fun _ _ h => .inl h) (fun g hg => phiSet_lt φ _ hg) (by omega)
  refine ⟨hI.push hbel hL (fun _ _ h => .inl h) (fun b i h => Nat.lt_of_lt_of_le (hI.live b i h) hbel.size) ?_ rfl ?_, hL⟩
  · refine ⟨by omega, hes, ?_⟩
    rw [phiSet_self]
    refine ⟨rfl, rfl, Nat.le_trans hI.base hb, fun i hz => ?_, hsz, c, t, hw, rfl, hH.later hL⟩
    have := hI.live _ i hz
    omega
  · intro b' e n h
    rw [phiSet_self] at h
    simp only [Plc.row.injEq] at h
    omega

end AI
end Go.Proofs.Ytocgbgffpdphdaa
