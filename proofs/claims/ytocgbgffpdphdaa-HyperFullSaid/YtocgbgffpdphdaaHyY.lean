/- The ears as steps of the reduction: the program's forest is whole exactly if the hypergraph reduces to nothing. -/
import Derived.Test.YtocgbgffpdphdaaHyX
set_option linter.unusedVariables false
namespace Go.Proofs.Ytocgbgffpdphdaa
namespace AI

/-- the edges that are still there -/
def lvI (L : Fam) (G : List Bool) : List Nat := (List.range L.length).filter fun i => !on G i
def lv (L : Fam) (G : List Bool) : Fam := (lvI L G).map (nthL L)

theorem filter_perm_cons {p q : Nat → Bool} {i : Nat} : ∀ {l : List Nat}, l.Nodup → i ∈ l → p i = true → (∀ j ∈ l, j ≠ i → q j = p j) → q i = false → (l.filter p).Perm (i :: l.filter q)
  | [], _, h, _, _, _ => by simp at h
  | a :: l, hn, h, hp, hq, hqi => by
    rw [List.nodup_cons] at hn
    by_cases ha : a = i
    · subst ha
      rw [List.filter_cons_of_pos hp, List.filter_cons_of_neg (by simp [hqi])]
      refine List.Perm.cons _ (List.Perm.of_eq (List.filter_congr fun j hj => ?_))
      exact (hq j (List.mem_cons_of_mem _ hj) (by rintro rfl; exact hn.1 hj)).symm
    · have hi : i ∈ l := (List.mem_cons.1 h).resolve_left fun e => ha e.symm
      have ih := filter_perm_cons hn.2 hi hp (fun j hj => hq j (List.mem_cons_of_mem _ hj)) hqi
      have hqa := hq a (List.mem_cons_self ..) ha
      cases hpa : p a
      · rw [List.filter_cons_of_neg (by simp [hpa]), List.filter_cons_of_neg (by simp [hqa, hpa])]; exact ih
      · rw [List.filter_cons_of_pos hpa, List.filter_cons_of_pos (by rw [hqa, hpa])]
        exact (ih.cons a).trans (List.Perm.swap _ _ _)

theorem on_set {G : List Bool} {i j : Nat} (hi : i < G.length) : on (G.set i true) j = if j = i then true else on G j := by
  simp only [on, List.getD_eq_getElem?_getD, List.getElem?_set]
  split
  · rename_i h; subst h; simp
  · rename_i h; rw [if_neg fun e => h e.symm]

theorem lv_perm {L : Fam} {G : List Bool} {i : Nat} (hi : i < L.length) (hG : G.length = L.length) (h : on G i = false) : (lv L G).Perm (nthL L i :: lv L (G.set i true)) := by
  unfold lv lvI
  rw [← List.map_cons]
  refine List.Perm.map _ (filter_perm_cons List.nodup_range (by simpa using hi) (by show (!on G i) = true; rw [h]; rfl) (fun j _ hj => ?_) ?_)
  · rw [on_set (by omega), if_neg hj]
  · rw [on_set (by omega), if_pos rfl]; rfl

theorem mem_lv {L : Fam} {G : List Bool} {f : List Int} : f ∈ lv L G ↔ ∃ k, k < L.length ∧ on G k = false ∧ f = nthL L k := by
  unfold lv lvI
  simp only [List.mem_map, List.mem_filter, List.mem_range, Bool.not_eq_true']
  constructor
  · rintro ⟨k, ⟨h1, h2⟩, rfl⟩; exact ⟨k, h1, h2, rfl⟩
  · rintro ⟨k, h1, h2, rfl⟩; exact ⟨k, ⟨h1, h2⟩, rfl⟩

/-- the other edges that are still there -/
theorem mem_lv_set {L : Fam} {G : List Bool} {i : Nat} {f : List Int} (hi : i < L.length) (hG : G.length = L.length) : f ∈ lv L (G.set i true) ↔ ∃ k, live L G i k ∧ f = nthL L k := by
  rw [mem_lv]
  constructor
  · rintro ⟨k, h1, h2, rfl⟩
    rw [on_set (by omega)] at h2
    by_cases hk : k = i
    · rw [if_pos hk] at h2; cases h2
    · rw [if_neg hk] at h2; exact ⟨k, ⟨h1, hk, h2⟩, rfl⟩
  · rintro ⟨k, ⟨h1, h2, h3⟩, rfl⟩
    exact ⟨k, h1, by rw [on_set (by omega), if_neg h2]; exact h3, rfl⟩

open Classical in
theorem stps_tak {L : Fam} {G : List Bool} {i : Nat} (hi : i < L.length) (hG : G.length = L.length) (h : on G i = false) (he : (∀ x, ¬ com L G i x) ∨ ∃ k, tak L G i k) : Stps (lv L G) (lv L (G.set i true)) := by
  refine Stps.perm ?_ (lv_perm hi hG h)
  have h1 : Stps (nthL L i :: lv L (G.set i true)) ((nthL L i).filter (fun x => decide (∃ f ∈ lv L (G.set i true), x ∈ f)) :: lv L (G.set i true)) :=
    stps_filter fun v _ hv f hf hvf => by
      have : ¬ ∃ f ∈ lv L (G.set i true), v ∈ f := by simpa using hv
      exact this ⟨f, hf, hvf⟩
  refine h1.trans (.step (.edge (.refl _) ?_ (.refl _)) (.refl (.refl _)))
  have hcom : ∀ x, x ∈ (nthL L i).filter (fun x => decide (∃ f ∈ lv L (G.set i true), x ∈ f)) → com L G i x := by
    intro x hx
    rw [List.mem_filter] at hx
    obtain ⟨f, hf, hxf⟩ := of_decide_eq_true hx.2
    obtain ⟨k, hk, rfl⟩ := (mem_lv_set hi hG).1 hf
    exact ⟨hx.1, k, hk, hxf⟩
  rcases he with hno | ⟨k, hk, htak⟩
  · exact .inl (List.eq_nil_iff_forall_not_mem.2 fun x hx => hno x (hcom x hx))
  · exact .inr ⟨nthL L k, (mem_lv_set hi hG).2 ⟨k, hk, rfl⟩, fun x hx => htak x (hcom x hx)⟩

theorem stps_ear {L : Fam} {G : List Bool} {i : Nat} {p : Int} (hi : i < L.length) (hG : G.length = L.length) (h : on G i = false) (he : IsEar L G i p) : Stps (lv L G) (lv L (G.set i true)) :=
  stps_tak hi hG h (he.imp (fun h => h.2) fun ⟨k, _, _, h, _⟩ => ⟨k, h⟩)

/-- what reduces has an ear -/
theorem ear_of_red {n : Nat} {F : Fam} (h : Red n F) (hne : F ≠ []) : ∃ e R, F.Perm (e :: R) ∧ ((∀ x ∈ e, ∀ f ∈ R, x ∉ f) ∨ ∃ k ∈ R, ∀ x ∈ e, (∃ f ∈ R, x ∈ f) → x ∈ k) := by
  induction h with
  | nil => exact absurd rfl hne
  | @step n F F' h1 _ ih =>
    cases h1 with
    | @edge R e a b c =>
      refine ⟨e, R, a, ?_⟩
      rcases b with rfl | ⟨k, hk, hs⟩
      · exact .inl fun x hx => by simp at hx
      · exact .inr ⟨k, hk, fun x hx _ => hs x hx⟩
    | @vert R e v a b c d =>
      obtain ⟨f, R', h2, h3⟩ := ih (by rintro rfl; exact absurd d.symm.eq_nil (by simp))
      rcases perm_inv (d.symm.trans h2) with ⟨he, hR⟩ | ⟨C, hR, hR'⟩
      · refine ⟨e, R, a, ?_⟩
        have hx' : ∀ x ∈ e, (∃ g ∈ R, x ∈ g) → x ∈ f := fun x hx ⟨g, hg, hxg⟩ => by
          rw [← he]; exact mem_cut.2 ⟨hx, by rintro rfl; exact c g hg hxg⟩
        rcases h3 with h3 | ⟨k, hk, h3⟩
        · exact .inl fun x hx g hg hxg => h3 x (hx' x hx ⟨g, hg, hxg⟩) g (hR.subset hg) hxg
        · refine .inr ⟨k, hR.symm.subset hk, fun x hx hs => ?_⟩
          obtain ⟨g, hg, hxg⟩ := hs
          exact h3 x (hx' x hx ⟨g, hg, hxg⟩) ⟨g, hR.subset hg, hxg⟩
      · -- f is another edge
        have hfR : f ∈ R := (mem_perm hR).2 (.inl rfl)
        refine ⟨f, e :: C, a.trans ((hR.cons e).trans (List.Perm.swap _ _ _)), ?_⟩
        have hsh : ∀ x ∈ f, (∃ g ∈ e :: C, x ∈ g) → ∃ g ∈ R', x ∈ g := fun x hx ⟨g, hg, hxg⟩ => by
          rcases List.mem_cons.1 hg with rfl | hg
          · exact ⟨cut g v, (mem_perm hR').2 (.inl rfl), mem_cut.2 ⟨hxg, by rintro rfl; exact c f hfR hx⟩⟩
          · exact ⟨g, (mem_perm hR').2 (.inr hg), hxg⟩
        rcases h3 with h3 | ⟨k, hk, h3⟩
        · refine .inl fun x hx g hg hxg => ?_
          obtain ⟨g', hg', hxg'⟩ := hsh x hx ⟨g, hg, hxg⟩
          exact h3 x hx g' hg' hxg'
        · rcases (mem_perm hR').1 hk with rfl | hk
          · exact .inr ⟨e, List.mem_cons_self .., fun x hx hs => (mem_cut.1 (h3 x hx (hsh x hx hs))).1⟩
          · exact .inr ⟨k, List.mem_cons_of_mem _ hk, fun x hx hs => h3 x hx (hsh x hx hs)⟩

theorem not_stuck {L : Fam} {G : List Bool} (hG : G.length = L.length) (hr : Reds (lv L G)) (hne : lv L G ≠ []) : ¬ Stuck L G := by
  intro hs
  obtain ⟨n, hr⟩ := hr
  obtain ⟨e, R, hp, h⟩ := ear_of_red hr hne
  obtain ⟨i, hi, hon, rfl⟩ := mem_lv.1 (hp.symm.subset (List.mem_cons_self ..))
  have hR : R.Perm (lv L (G.set i true)) := (hp.symm.trans (lv_perm hi hG hon)).cons_inv
  obtain ⟨⟨x, hx, k, hk, hxk⟩, hno⟩ := hs i hi hon
  have hmem : ∀ {f}, f ∈ R ↔ ∃ k, live L G i k ∧ f = nthL L k := fun {f} => by rw [hR.mem_iff, mem_lv_set hi hG]
  rcases h with h | ⟨f, hf, h⟩
  · exact h x hx (nthL L k) (hmem.2 ⟨k, hk, rfl⟩) hxk
  · obtain ⟨j, hj, rfl⟩ := hmem.1 hf
    exact hno j ⟨hj, fun y hy => by
      obtain ⟨hy1, k', hk', hyk'⟩ := hy
      exact h y hy1 ⟨nthL L k', hmem.2 ⟨k', hk', rfl⟩, hyk'⟩⟩

theorem lv_all (L : Fam) : lv L (List.replicate L.length false) = L := by
  unfold lv lvI
  have : (List.range L.length).filter (fun i => !on (List.replicate L.length false) i) = List.range L.length := by
    rw [List.filter_eq_self]
    intro i hi
    rw [List.mem_range] at hi
    rw [on_eq (by simpa using hi)]; simp
  rw [this]
  apply List.ext_getElem (by simp)
  intro i h1 h2
  rw [List.getElem_map, List.getElem_range, nthL_eq h2]

theorem trun_lv {L : Fam} {k : Nat} {G : List Bool} {P : List Int} (h : TRun L k G P) : (lv L G).length + k = L.length ∧ Stps L (lv L G) := by
  induction h with
  | zero => rw [lv_all]; exact ⟨rfl, .refl (.refl _)⟩
  | @succ k G G' P P' h1 h2 ih =>
    obtain ⟨i, p, hi, hon, he, _, rfl, _⟩ := h2
    have hG := h1.len.1
    have hp := (lv_perm hi hG hon).length_eq
    rw [List.length_cons] at hp
    exact ⟨by omega, ih.2.trans (stps_ear hi hG hon he)⟩

theorem exists_least {p : Nat → Prop} : ∀ {n : Nat}, p n → ∃ k, p k ∧ ∀ j < k, ¬ p j := by
  intro n
  induction n using Nat.strongRecOn with
  | ind n ih =>
    intro h
    by_cases hn : ∃ j < n, p j
    · obtain ⟨j, hj, hpj⟩ := hn
      exact ih j hj hpj
    · exact ⟨n, h, fun j hj hpj => hn ⟨j, hj, hpj⟩⟩

theorem isEar_of {L : Fam} {G : List Bool} {i : Nat} (h : ¬ NoEar L G i) : ∃ p, IsEar L G i p := by
  by_cases hc : ∃ x, com L G i x
  · have : ∃ k, tak L G i k := Classical.byContradiction fun hn => h ⟨hc, fun k hk => hn ⟨k, hk⟩⟩
    obtain ⟨k, hk⟩ := this
    obtain ⟨k', h1, h2⟩ := exists_least (p := tak L G i) hk
    exact ⟨k', .inr ⟨k', rfl, hc, h1, h2⟩⟩
  · exact ⟨-1, .inl ⟨rfl, fun x hx => hc ⟨x, hx⟩⟩⟩

theorem takes_of {L : Fam} {G : List Bool} {P : List Int} (h : ¬ Stuck L G) : ∃ G' P', Takes L G P G' P' := by
  have : ∃ i, i < L.length ∧ on G i = false ∧ ¬ NoEar L G i := by
    refine Classical.byContradiction fun hn => h fun i hi ho => Classical.byContradiction fun hne => hn ⟨i, hi, ho, hne⟩
  obtain ⟨i, hi⟩ := this
  obtain ⟨k, ⟨h1, h2, h3⟩, h4⟩ := exists_least (p := fun i => i < L.length ∧ on G i = false ∧ ¬ NoEar L G i) hi
  obtain ⟨p, hp⟩ := isEar_of h3
  exact ⟨_, _, k, p, h1, h2, hp, fun j hj ho => Classical.byContradiction fun hne => h4 j hj ⟨by omega, ho, hne⟩, rfl, rfl⟩

theorem trun_reds {L : Fam} {G : List Bool} {P : List Int} (h : TRun L L.length G P) : Reds L := by
  obtain ⟨h1, h2⟩ := trun_lv h
  have : lv L G = [] := List.eq_nil_of_length_eq_zero (by omega)
  rw [this] at h2
  exact Reds.of_stps h2 .nil

theorem stuck_not_reds {L : Fam} (hs : Srt L) {k : Nat} {G : List Bool} {P : List Int} (h : TRun L k G P) (hk : k < L.length) (hst : Stuck L G) : ¬ Reds L := by
  intro hr
  obtain ⟨h1, h2⟩ := trun_lv h
  exact not_stuck h.len.1 (Reds.stps h2 hs hr) (by intro h0; rw [h0] at h1; simp at h1; omega) hst

end AI
end Go.Proofs.Ytocgbgffpdphdaa
