/- The rounds and the ears, as steps of the reduction. -/
import Derived.Test.YtocgbgffpdphdaaHyW
set_option linter.unusedVariables false
namespace Go.Proofs.Ytocgbgffpdphdaa
namespace AI

theorem stps_cut {R : Fam} : ∀ {vs : List Int} {e : List Int}, (∀ v ∈ vs, ∀ f ∈ R, v ∉ f) → Stps (e :: R) (e.filter (fun x => decide (x ∉ vs)) :: R)
  | [], e, _ => by
    have : e.filter (fun x => decide (x ∉ ([] : List Int))) = e := List.filter_eq_self.2 (by simp)
    rw [this]; exact .refl (.refl _)
  | v :: vs, e, h => by
    have ih := stps_cut (vs := vs) (e := cut e v) fun w hw => h w (List.mem_cons_of_mem _ hw)
    have he : (cut e v).filter (fun x => decide (x ∉ vs)) = e.filter (fun x => decide (x ∉ v :: vs)) := by
      simp only [cut, List.filter_filter]
      exact List.filter_congr fun x _ => by simp [Bool.and_comm]
    rw [he] at ih
    by_cases hv : v ∈ e
    · exact .step (.vert (.refl _) hv (h v (List.mem_cons_self ..)) (.refl _)) ih
    · have hc : cut e v = e := List.filter_eq_self.2 fun x hx => by simp; rintro rfl; exact hv hx
      rwa [hc] at ih

theorem stps_filter {R : Fam} {e : List Int} {p : Int → Bool} (h : ∀ v ∈ e, p v = false → ∀ f ∈ R, v ∉ f) : Stps (e :: R) (e.filter p :: R) := by
  have := stps_cut (R := R) (vs := e.filter fun x => !p x) (e := e) fun v hv => by
    rw [List.mem_filter] at hv
    exact h v hv.1 (by simpa using hv.2)
  have he : e.filter (fun x => decide (x ∉ e.filter fun x => !p x)) = e.filter p := List.filter_congr fun x hx => by
    cases hp : p x <;> simp [hx, hp]
  rwa [he] at this

theorem stps_shr {L : Fam} : ∀ (B A : Fam), A ++ B = L → Stps (A.map (shr L) ++ B) (L.map (shr L))
  | [], A, h => by subst h; simp only [List.append_nil]; exact .refl (.refl _)
  | e :: B, A, h => by
    have ih := stps_shr (L := L) B (A ++ [e]) (by rw [List.append_assoc]; exact h)
    rw [List.map_append, List.append_assoc] at ih
    refine Stps.trans (Stps.perm (F := e :: (A.map (shr L) ++ B)) (F' := shr L e :: (A.map (shr L) ++ B)) (stps_filter fun v hv hp f hf => ?_) List.perm_middle) (ih.perm List.perm_middle.symm)
    have ho : occ L v ≤ 1 := by simpa using hp
    rw [← h] at ho
    unfold occ at ho
    rw [List.countP_append, List.countP_cons_of_pos (by simpa using hv)] at ho
    rcases List.mem_append.1 hf with hf | hf
    · obtain ⟨a, ha, rfl⟩ := List.mem_map.1 hf
      intro hva
      have : v ∈ a := (shr_sub L a).subset hva
      have := (List.countP_pos_iff (p := fun f => decide (v ∈ f))).2 ⟨a, ha, by simpa using this⟩
      omega
    · intro hvf
      have := (List.countP_pos_iff (p := fun f => decide (v ∈ f))).2 ⟨f, hf, by simpa using hvf⟩
      omega

theorem nthL_mem {K : Fam} {i : Nat} (h : i < K.length) : nthL K i ∈ K := by rw [nthL_eq h]; exact List.getElem_mem h

theorem sub_len {a b : List Int} (ha : a.Nodup) (h : Sub a b) : a.length ≤ b.length := by
  induction a generalizing b with
  | nil => exact Nat.zero_le _
  | cons x a ih =>
    rw [List.nodup_cons] at ha
    have hx := h x (List.mem_cons_self ..)
    obtain ⟨X, Y, rfl⟩ := List.append_of_mem hx
    have := ih (b := X ++ Y) ha.2 fun y hy => by
      have := h y (List.mem_cons_of_mem _ hy)
      rw [List.mem_append, List.mem_cons] at this
      rw [List.mem_append]
      rcases this with h | rfl | h
      · exact .inl h
      · exact absurd hy ha.1
      · exact .inr h
    rw [List.length_append] at this
    rw [List.length_append, List.length_cons, List.length_cons]
    omega

theorem Srt.nodup {K : Fam} (h : Srt K) {e : List Int} (he : e ∈ K) : e.Nodup := (h e he).imp (by intro a b h; omega)

theorem nthL_nodup {K : Fam} (h : Srt K) (i : Nat) : (nthL K i).Nodup := by
  rcases Nat.lt_or_ge i K.length with hi | hi
  · exact h.nodup (nthL_mem hi)
  · simp [nthL, List.getD_eq_getElem?_getD, hi]

theorem nthL_out {K : Fam} {i : Nat} (h : nthL K i ≠ []) : i < K.length := by
  rcases Nat.lt_or_ge i K.length with hi | hi
  · exact hi
  · exact absurd (by simp [nthL, List.getD_eq_getElem?_getD, hi]) h

/-- what does not stay lies within what stays -/
theorem dominated {K : Fam} (hs : Srt K) {B : Nat} (hB : ∀ i, (nthL K i).length ≤ B) : ∀ (d i : Nat), B - (nthL K i).length ≤ d → nthL K i ≠ [] → ∃ k, k < K.length ∧ stays K k K.length ∧ Sub (nthL K i) (nthL K k) := by
  intro d
  induction d using Nat.strongRecOn with
  | ind d ihd =>
    intro i
    induction i using Nat.strongRecOn with
    | ind i ihi =>
      intro hd hne
      by_cases hst : stays K i K.length
      · exact ⟨i, nthL_out hne, hst, fun x hx => hx⟩
      · have : ∃ k, k < K.length ∧ falls K i k := by
          refine Classical.byContradiction fun hn => hst ⟨hne, fun j hj hf => hn ⟨j, hj, hf⟩⟩
        obtain ⟨k, hk, hki, hsub, hor⟩ := this
        have hle := sub_len (nthL_nodup hs i) hsub
        have hkB := hB k
        have hnek : nthL K k ≠ [] := fun h => by
          rw [h] at hle; simp at hle; exact hne hle
        rcases Nat.lt_or_ge (nthL K i).length (nthL K k).length with hl | hl
        · obtain ⟨k', h1, h2, h3⟩ := ihd (B - (nthL K k).length) (by omega) k (Nat.le_refl _) hnek
          exact ⟨k', h1, h2, fun x hx => h3 x (hsub x hx)⟩
        · obtain ⟨k', h1, h2, h3⟩ := ihi k (by omega) (by omega) hnek
          exact ⟨k', h1, h2, fun x hx => h3 x (hsub x hx)⟩

theorem exists_bound (K : Fam) : ∃ B, ∀ i, (nthL K i).length ≤ B := by
  induction K with
  | nil => exact ⟨0, fun i => by simp [nthL]⟩
  | cons e K ih =>
    obtain ⟨B, hB⟩ := ih
    refine ⟨max e.length B, fun i => ?_⟩
    cases i with
    | zero => simp [nthL]; omega
    | succ i => have := hB i; simp [nthL] at this ⊢; omega

theorem kept_mem {K : Fam} {j k : Nat} (hk : k < j) (hs : stays K k K.length) : nthL K k ∈ kept K j := by
  unfold kept
  exact List.mem_map.2 ⟨k, List.mem_filter.2 ⟨by simpa using hk, by simpa using hs⟩, rfl⟩

theorem stps_kept {K : Fam} (hs : Srt K) : ∀ j, j ≤ K.length → Stps K (kept K j ++ K.drop j)
  | 0, _ => by simpa [kept] using Stps.refl (.refl K)
  | j + 1, h => by
    obtain ⟨B, hB⟩ := exists_bound K
    refine (stps_kept hs j (by omega)).trans ?_
    rw [List.drop_eq_getElem_cons (by omega), kept_succ, ← nthL_eq (by omega)]
    by_cases hst : stays K j K.length
    · rw [if_pos hst, List.append_assoc]; exact .refl (.refl _)
    · rw [if_neg hst, List.append_nil]
      refine .step (.edge List.perm_middle ?_ (.refl _)) (.refl (.refl _))
      by_cases hne : nthL K j = []
      · exact .inl hne
      · obtain ⟨k, h1, h2, h3⟩ := dominated hs hB _ j (Nat.le_refl _) hne
        refine .inr ⟨nthL K k, List.mem_append.2 ?_, h3⟩
        rcases Nat.lt_trichotomy k j with hkj | hkj | hkj
        · exact .inl (kept_mem hkj h2)
        · subst hkj; exact absurd h2 hst
        · refine .inr ?_
          rw [nthL_eq h1]
          have : K[k] = (K.drop (j + 1))[k - (j + 1)]'(by rw [List.length_drop]; omega) := by
            rw [List.getElem_drop]; congr 1; omega
          rw [this]; exact List.getElem_mem _

theorem shr_srt {L : Fam} (hs : Srt L) : Srt (L.map (shr L)) := fun e he => by
  obtain ⟨f, hf, rfl⟩ := List.mem_map.1 he
  exact (hs f hf).sublist (shr_sub L f)

theorem stps_rnd {L : Fam} (hs : Srt L) : Stps L (rnd L) := by
  have h1 := stps_shr L [] (rfl : [] ++ L = L)
  have h2 := stps_kept (shr_srt hs) (L.map (shr L)).length (Nat.le_refl _)
  rw [List.drop_length, List.append_nil, List.length_map] at h2
  exact h1.trans h2

theorem stps_rnds {L : Fam} (hs : Srt L) : ∀ k, Stps L (rnds L k)
  | 0 => .refl (.refl _)
  | k + 1 => (stps_rnds hs k).trans (stps_rnd ((stps_rnds hs k).srt hs))

theorem rnd_rest_nil {L : Fam} (hs : Srt L) (hr : Reds L) (h : rnd L = L) : L = [] := by
  have hmap : L.map (shr L) = L := by
    have h1 := rnd_sub L
    rw [h] at h1
    exact (h1.eq_of_length (by simp)).symm
  have hall : ∀ j < L.length, stays L j L.length := by
    have h1 : kept L L.length = L := by have := h; unfold rnd at this; rwa [hmap] at this
    have h2 := congrArg List.length h1
    unfold kept at h2
    rw [List.length_map] at h2
    intro j hj
    have h3 : (List.range L.length).filter (fun j => decide (stays L j L.length)) = List.range L.length :=
      List.filter_sublist.eq_of_length (by rw [h2, List.length_range])
    have h4 := List.filter_eq_self.1 h3 j (by simpa using hj)
    simpa using h4
  obtain ⟨n, hr⟩ := hr
  cases hr with
  | nil => rfl
  | step h1 _ =>
    exfalso
    cases h1 with
    | @vert R e v a b c d =>
      have he : e ∈ L := a.symm.subset (List.mem_cons_self ..)
      have hse : shr L e = e := List.map_inj_left.1 (hmap.trans (List.map_id L).symm) e he
      have hv : v ∈ shr L e := by rw [hse]; exact b
      unfold shr at hv
      rw [List.mem_filter] at hv
      have hocc : 1 < occ L v := by simpa using hv.2
      unfold occ at hocc
      rw [a.countP_eq, List.countP_cons_of_pos (by simpa using b)] at hocc
      have : R.countP (fun f => decide (v ∈ f)) = 0 := List.countP_eq_zero.2 fun f hf => by simpa using c f hf
      omega
    | @edge R e a b c =>
      obtain ⟨X, Y, rfl⟩ := List.append_of_mem (a.symm.subset (List.mem_cons_self ..))
      have hR : (X ++ Y).Perm R := (List.perm_middle.symm.trans a).cons_inv
      have hi : nthL (X ++ e :: Y) X.length = e := by simp [nthL]
      rcases b with rfl | ⟨k, hk, hsub⟩
      · exact (hall X.length (by simp)).1 hi
      · have hk' : k ∈ X ++ Y := hR.symm.subset hk
        have hj : ∃ j, j ≠ X.length ∧ j < (X ++ e :: Y).length ∧ nthL (X ++ e :: Y) j = k := by
          rcases List.mem_append.1 hk' with hk | hk
          · obtain ⟨j, hj, rfl⟩ := List.mem_iff_getElem.1 hk
            exact ⟨j, by omega, by simp; omega, by rw [nthL_eq (by simp; omega), List.getElem_append_left hj]⟩
          · obtain ⟨j, hj, rfl⟩ := List.mem_iff_getElem.1 hk
            refine ⟨X.length + 1 + j, by omega, by simp; omega, ?_⟩
            rw [nthL_eq (by simp; omega), List.getElem_append_right (by omega)]
            simp only [show X.length + 1 + j - X.length = j + 1 by omega, List.getElem_cons_succ]
        obtain ⟨j, hji, hjl, hjk⟩ := hj
        have hle := sub_len (hs.nodup (e := e) (by simp)) hsub
        by_cases hf : falls (X ++ e :: Y) X.length j
        · exact (hall X.length (by simp)).2 j hjl hf
        · have hlen : k.length ≤ e.length ∧ X.length < j := by
            unfold falls at hf
            rw [hi, hjk] at hf
            refine Classical.byContradiction fun hn => hf ⟨hji, hsub, by omega⟩
          have hsub' : Sub k e := by
            -- as many vertices, all of e's in k
            intro x hx
            refine Classical.byContradiction fun hxe => ?_
            have hke : k ∈ X ++ e :: Y := by rw [← hjk]; exact nthL_mem hjl
            have := sub_len (a := x :: e) (b := k) (List.nodup_cons.2 ⟨hxe, hs.nodup (by simp)⟩) fun y hy => by
              rcases List.mem_cons.1 hy with rfl | hy
              · exact hx
              · exact hsub y hy
            rw [List.length_cons] at this
            omega
          refine (hall j hjl).2 X.length (by simp) ⟨fun h => hji h.symm, ?_, .inr hlen.2⟩
          rw [hi, hjk]; exact hsub'

theorem rest_exists (L : Fam) : ∃ k, rnd (rnds L k) = rnds L k := by
  have : ∀ s L, size L ≤ s → ∃ k, rnd (rnds L k) = rnds L k := by
    intro s
    induction s with
    | zero =>
      intro L hs
      refine ⟨0, ?_⟩
      rcases rnd_size L with h | h
      · exact h
      · omega
    | succ s ih =>
      intro L hs
      rcases rnd_size L with h | h
      · exact ⟨0, h⟩
      · obtain ⟨k, hk⟩ := ih (rnd L) (by omega)
        have e : ∀ k, rnds (rnd L) k = rnds L (k + 1) := by
          intro k
          induction k with
          | zero => rfl
          | succ k ihk => simp only [rnds] at ihk ⊢; rw [ihk]
        exact ⟨k + 1, by rw [e] at hk; exact hk⟩
  exact this _ L (Nat.le_refl _)

theorem reds_rnds {L : Fam} (hs : Srt L) : Reds L ↔ ∃ k, rnds L k = [] := by
  constructor
  · intro h
    obtain ⟨k, hk⟩ := rest_exists L
    have h1 := stps_rnds hs k
    exact ⟨k, rnd_rest_nil (h1.srt hs) (Reds.stps h1 hs h) hk⟩
  · rintro ⟨k, hk⟩
    have h1 := stps_rnds hs k
    rw [hk] at h1
    exact Reds.of_stps h1 .nil

end AI
end Go.Proofs.Ytocgbgffpdphdaa
