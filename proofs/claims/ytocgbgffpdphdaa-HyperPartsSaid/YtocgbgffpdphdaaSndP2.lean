/- Regions whose operations commute, second part: reserved generations; the effects of a set of operations. -/
import Derived.Test.YtocgbgffpdphdaaSndP1
namespace Go.Proofs.Ytocgbgffpdphdaa
namespace AI
open Go.RowKit

variable {P : Program} {B : Nat} {w w' w0 : World} {Z Z' : Cold} {φ φ' : Phi} {ctr ctr' : Nat} {s s' : Sto}

/-- a reserved generation gets its place -/
theorem Rep.fill (h : ∀ g, g < ctr → φ g ≠ .pend → φ' g = φ g) (hc : ctr ≤ ctr') {a : AV} {v : Value} (r : Rep w Z φ ctr a v) : Rep w Z φ' ctr' a v := by
  have ne : ∀ {g : Nat} {p : Plc}, p ≠ .pend → g < ctr → φ g = p → φ' g = p := fun hp hg e => (h _ hg (by rw [e]; exact hp)).trans e
  induction r with
  | bool b => exact .bool b
  | int k n => exact .int k n
  | str s l hs => exact .str s l hs
  | nilsl => exact .nilsl
  | sl xs n b off cap es f hn hcap hes hsz hcell hr ih => exact .sl xs n b off cap es f hn hcap hes hsz hcell ih
  | sl0 a0 => exact .sl0 a0
  | zc a0 => exact .zc a0
  | own o g off len b es size cap a hg hφ hcap ha hs => exact .own o g off len b es size cap a (Nat.lt_of_lt_of_le hg hc) (ne (by simp) hg hφ) hcap ha hs
  | ownNil o g hg hφ => exact .ownNil o g (Nat.lt_of_lt_of_le hg hc) (ne (by simp) hg hφ)
  | ownZc o g a0 hg hφ => exact .ownZc o g a0 (Nat.lt_of_lt_of_le hg hc) (ne (by simp) hg hφ)
  | agg cs vs hl ho hr ih => exact .agg cs vs hl ho ih
  | tup cs vs hl hr ih => exact .tup cs vs hl ih
  | ref o g i off b es size hg hφ => exact .ref o g i off b es size (Nat.lt_of_lt_of_le hg hc) (ne (by simp) hg hφ)
  | fref cs b off f hcell hr ih => exact .fref cs b off f hcell ih
  | fn f cs vs hl hr ih => exact .fn f cs vs hl ih
  | map o g b es size hg hφ => exact .map o g b es size (Nat.lt_of_lt_of_le hg hc) (ne (by simp) hg hφ)
  | iface t v x hr ih => exact .iface t v x ih
  | nilp => exact .nilp
  | nilmap => exact .nilmap
  | nilfn => exact .nilfn
  | nilif => exact .nilif
  | undef => exact .undef
  | junk v => exact .junk v

theorem Holds.fill (h : ∀ g, g < ctr → φ g ≠ .pend → φ' g = φ g) (hc : ctr ≤ ctr') {c : Array Value} {es : Nat} {cl : Bool} {elems : List AV} (hH : Holds w Z φ ctr c es cl elems) : Holds w Z φ' ctr' c es cl elems := by
  intro i x hx
  obtain ⟨h1, h2⟩ := hH i x hx
  refine ⟨h1, fun j y hy => ?_⟩
  obtain ⟨v, h3, h4, h5, h6⟩ := h2 j y hy
  exact ⟨v, h3, h4.fill h hc, h5, h6⟩

theorem ObjRep.not_pend {ob : Obj} (h : ObjRep w Z φ ctr B ob) {g : Nat} (hg : ob.gen = some g) : g < ctr ∧ φ g ≠ .pend := by
  cases ob with
  | arr g' es nn cl elems =>
    simp only [Obj.gen, Option.some.injEq] at hg
    subst hg
    refine ⟨h.1, fun e => ?_⟩
    have := h.2.2
    rw [e] at this
    exact this
  | mp g' cl ents =>
    simp only [Obj.gen, Option.some.injEq] at hg
    subst hg
    obtain ⟨h1, b, es, size, h3, _⟩ := h
    exact ⟨h1, fun e => by rw [e] at h3; cases h3⟩
  | dead => simp [Obj.gen] at hg

theorem ObjRep.fill (h : ∀ g, g < ctr → φ g ≠ .pend → φ' g = φ g) (hc : ctr ≤ ctr') {ob : Obj} (hO : ObjRep w Z φ ctr B ob) : ObjRep w Z φ' ctr' B ob := by
  cases ob with
  | arr g es nn cl elems =>
    have hp := hO.not_pend rfl
    obtain ⟨h1, h2, h3⟩ := hO
    refine ⟨Nat.lt_of_lt_of_le h1 hc, h2, ?_⟩
    rw [h g h1 hp.2]
    cases hφ : φ g with
    | nil => rw [hφ] at h3; exact h3
    | zc => rw [hφ] at h3; exact h3
    | pend => rw [hφ] at h3; exact h3
    | row b e n =>
      rw [hφ] at h3
      obtain ⟨h4, h5, h6, h7, h8, c, t, h9, h10, h11⟩ := h3
      exact ⟨h4, h5, h6, h7, h8, c, t, h9, h10, h11.fill h hc⟩
  | mp g cl ents =>
    have hp := hO.not_pend rfl
    obtain ⟨h1, b, es, size, h3, h4, es', clock, h5, h6, h7⟩ := hO
    refine ⟨Nat.lt_of_lt_of_le h1 hc, b, es, size, (h g h1 hp.2).trans h3, h4, es', clock, h5, h6, fun i e he => ?_⟩
    obtain ⟨e', k1, k2, k3, k4, k5⟩ := h7 i e he
    exact ⟨e', k1, k2.fill h hc, k3.fill h hc, k4, k5⟩
  | dead => trivial

theorem Inv.fill (h : ∀ g, g < s.ctr → φ g ≠ .pend → φ' g = φ g) (hc : s.ctr ≤ ctr') (hI : Inv w0 B s Z φ w) : Inv w0 B ⟨s.σ, ctr'⟩ Z φ' w := by
  refine ⟨hI.below, hI.base, fun o ob ho => (hI.objs o ob ho).fill h hc, fun o o' ob ob' g g' b e n e' n' h1 h2 hg hg' hp hp' => ?_, hI.live⟩
  have q := (hI.objs o ob h1).not_pend hg
  have q' := (hI.objs o' ob' h2).not_pend hg'
  exact hI.apart o o' ob ob' g g' b e n e' n' h1 h2 hg hg' ((h g q.1 q.2).symm.trans hp) ((h g' q'.1 q'.2).symm.trans hp')

/-- places are reserved -/
theorem Inv.reserve (hI : Inv w0 B s Z φ w) (k m : Nat) : Inv w0 B ⟨s.σ ++ List.replicate k .dead, s.ctr + m⟩ Z (fun g => if g < s.ctr then φ g else .pend) w := by
  have hf := hI.fill (φ' := fun g => if g < s.ctr then φ g else .pend) (ctr' := s.ctr + m) (fun g hg _ => if_pos hg) (by omega)
  have look : ∀ (o : Nat) (ob : Obj), (s.σ ++ List.replicate k Obj.dead)[o]? = some ob → s.σ[o]? = some ob ∨ ob = .dead := by
    intro o ob ho
    rcases Nat.lt_or_ge o s.σ.length with h | h
    · rw [List.getElem?_append_left h] at ho; exact .inl ho
    · rw [List.getElem?_append_right h] at ho
      exact .inr (List.eq_of_mem_replicate (List.mem_of_getElem? ho))
  refine ⟨hf.below, hf.base, fun o ob ho => ?_, fun o o' ob ob' g g' b e n e' n' h1 h2 hg hg' hp hp' => ?_, hf.live⟩
  · rcases look o ob ho with h | rfl
    · exact hf.objs o ob h
    · trivial
  · rcases look o ob h1 with h | rfl
    · rcases look o' ob' h2 with h' | rfl
      · exact hf.apart o o' ob ob' g g' b e n e' n' h h' hg hg' hp hp'
      · simp [Obj.gen] at hg'
    · simp [Obj.gen] at hg

theorem Made.gen {mk : Nat → Nat → AV} {ob : Nat → Obj} (h : Made mk ob) (g : Nat) : (ob g).gen = some g := by cases h <;> rfl
theorem Made.regen {mk : Nat → Nat → AV} {ob : Nat → Obj} (h : Made mk ob) (g g' : Nat) : (ob g).regen g' = ob g' := by cases h <;> rfl
theorem Made.moved {mk : Nat → Nat → AV} {ob : Nat → Obj} (h : Made mk ob) (t g t' g' : Nat) : (mk t g).moved t' g' = mk t' g' := by cases h <;> rfl
theorem Made.idx {mk : Nat → Nat → AV} {ob : Nat → Obj} (h : Made mk ob) (t g : Nat) : (mk t g).idx = t := by cases h <;> rfl
theorem Made.notDead {mk : Nat → Nat → AV} {ob : Nat → Obj} (h : Made mk ob) (g : Nat) : ob g ≠ .dead := by cases h <;> simp

theorem Made.rep {mk : Nat → Nat → AV} {ob : Nat → Obj} (h : Made mk ob) {i c t g : Nat} {x : Value} (hc : g < ctr) (hr : Rep w Z φ ctr (mk i c) x) (hφ : φ' g = φ c) : Rep w Z φ' ctr (mk t g) x := by
  cases h with
  | own off len es nn cl elems =>
    cases hr with
    | own _ _ _ _ b es size cap a hg hp hcap ha hs => exact .own _ _ _ _ b es size cap a hc (hφ.trans hp) hcap ha hs
    | ownNil _ _ hg hp => exact .ownNil _ _ hc (hφ.trans hp)
    | ownZc _ _ a0 hg hp => exact .ownZc _ _ a0 hc (hφ.trans hp)
  | ref es nn cl elems =>
    cases hr with
    | ref _ _ _ _ b es size hg hp =>
      have : Rep w Z φ' ctr (.ref t g 0 0) (.pointer (some ⟨b, 0 * es + 0, none⟩)) := .ref _ _ _ _ b es size hc (hφ.trans hp)
      exact this
  | map cl ents =>
    cases hr with
    | map _ _ b es size hg hp => exact .map _ _ b es size hc (hφ.trans hp)

/-- what was made moves to the place that was reserved for it -/
theorem Inv.moved {mk : Nat → Nat → AV} {ob : Nat → Obj} (hm : Made mk ob) {i t c g : Nat} (hI : Inv w0 B ⟨if i = s.σ.length then s.σ ++ [ob c] else s.σ.set i (ob c), c + 1⟩ Z φ w) (hg : g < c) (hpend : φ g = .pend)
    (hi : i = s.σ.length ∧ nth s.σ t = some .dead ∨ i < s.σ.length ∧ t = i) : Inv w0 B ⟨s.σ.set t (ob g), c + 1⟩ Z (phiSet φ g (φ c)) w := by
  have ht : t < s.σ.length := by
    rcases hi with ⟨_, h⟩ | ⟨h, rfl⟩
    · exact nth_lt h
    · exact h
  have hfill := hI.fill (φ' := phiSet φ g (φ c)) (ctr' := c + 1) (fun g' _ hp => by
    unfold phiSet
    split
    · rename_i e; exact absurd (e ▸ hpend) hp
    · rfl) (Nat.le_refl _)
  have hφg : phiSet φ g (φ c) g = φ c := phiSet_self _ _ _
  have hφc : phiSet φ g (φ c) c = φ c := by unfold phiSet; split <;> rfl
  have hnew : (if i = s.σ.length then s.σ ++ [ob c] else s.σ.set i (ob c))[i]? = some (ob c) := by
    rcases hi with ⟨h, _⟩ | ⟨h, _⟩
    · rw [if_pos h, h]; simp
    · rw [if_neg (by omega), List.getElem?_set_self h]
  have hold : ∀ (o : Nat) (ob' : Obj), o ≠ t → s.σ[o]? = some ob' → (if i = s.σ.length then s.σ ++ [ob c] else s.σ.set i (ob c))[o]? = some ob' := by
    intro o ob' hne ho
    have hlt := (List.getElem?_eq_some_iff.1 ho).1
    rcases hi with ⟨h, _⟩ | ⟨h, rfl⟩
    · rw [if_pos h, List.getElem?_append_left hlt]; exact ho
    · rw [if_neg (by omega), List.getElem?_set_ne (fun e => hne e.symm)]; exact ho
  have look : ∀ (o : Nat) (ob' : Obj), (s.σ.set t (ob g))[o]? = some ob' → (o ≠ t ∧ s.σ[o]? = some ob') ∨ (o = t ∧ ob' = ob g) := by
    intro o ob' h
    by_cases e : o = t
    · subst e
      rw [List.getElem?_set_self ht] at h
      exact .inr ⟨rfl, (Option.some.inj h).symm⟩
    · rw [List.getElem?_set_ne (fun h => e h.symm)] at h
      exact .inl ⟨e, h⟩
  have hob : ObjRep w Z (phiSet φ g (φ c)) (c + 1) B (ob g) := by
    have := hfill.objs i _ hnew
    cases hm with
    | own off len es nn cl elems =>
      obtain ⟨_, h2, h3⟩ := this
      refine ⟨by omega, h2, ?_⟩
      rw [hφc] at h3
      rw [hφg]
      exact h3
    | ref es nn cl elems =>
      obtain ⟨_, h2, h3⟩ := this
      refine ⟨by omega, h2, ?_⟩
      rw [hφc] at h3
      rw [hφg]
      exact h3
    | map cl ents =>
      obtain ⟨_, b, es, size, h3, h4⟩ := this
      rw [hφc] at h3
      exact ⟨by omega, b, es, size, by rw [hφg]; exact h3, h4⟩
  have far : ∀ (o : Nat) (ob' : Obj) (g' b e n e' n' : Nat), o ≠ t → s.σ[o]? = some ob' → ob'.gen = some g' → phiSet φ g (φ c) g' = .row b e n → phiSet φ g (φ c) g = .row b e' n' → False := by
    intro o ob' g' b e n e' n' hne ho hg' hp hp'
    have := hfill.apart o i ob' (ob c) g' c b e n e' n' (hold o ob' hne ho) hnew hg' (hm.gen c) hp (by rw [hφc]; rw [hφg] at hp'; exact hp')
    have hlt := (List.getElem?_eq_some_iff.1 ho).1
    rcases hi with ⟨h, _⟩ | ⟨h, rfl⟩
    · omega
    · exact hne this
  refine ⟨hfill.below, hfill.base, fun o ob' ho => ?_, fun o o' ob1 ob2 g1 g2 b e n e' n' h1 h2 hg1 hg2 hp hp' => ?_, hfill.live⟩
  · rcases look o ob' ho with ⟨hne, h⟩ | ⟨_, rfl⟩
    · exact hfill.objs o ob' (hold o ob' hne h)
    · exact hob
  · rcases look o ob1 h1 with ⟨n1, k⟩ | ⟨ko, kb⟩ <;> rcases look o' ob2 h2 with ⟨n2, k'⟩ | ⟨ko', kb'⟩
    · exact hfill.apart o o' ob1 ob2 g1 g2 b e n e' n' (hold o ob1 n1 k) (hold o' ob2 n2 k') hg1 hg2 hp hp'
    · subst kb'
      rw [hm.gen] at hg2
      cases hg2
      exact (far o ob1 g1 b e n e' n' n1 k hg1 hp hp').elim
    · subst kb
      rw [hm.gen] at hg1
      cases hg1
      exact (far o' ob2 g2 b e' n' e n n2 k' hg2 hp' hp).elim
    · rw [ko, ko']

end AI
end Go.Proofs.Ytocgbgffpdphdaa
