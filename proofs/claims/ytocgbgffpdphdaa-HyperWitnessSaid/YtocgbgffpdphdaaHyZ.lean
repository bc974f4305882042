/- Join forests and reduction. -/
import Derived.Test.YtocgbgffpdphdaaHyY
import Derived.Test.YtocgbgffpdphdaaHyU
set_option linter.unusedVariables false
namespace Go.Proofs.Ytocgbgffpdphdaa
namespace AI

theorem up_shift {P : List Int} {x : Int} (hx : ¬ x < 0) : ∀ k, up P (k + 1) x = up P k (lb P x.toNat)
  | 0 => by
    show (if x < 0 then x else lb P x.toNat) = lb P x.toNat
    rw [if_neg hx]
  | k + 1 => by
    have ih := up_shift (P := P) hx k
    show (if up P (k + 1) x < 0 then up P (k + 1) x else lb P (up P (k + 1) x).toNat) = (if up P k (lb P x.toNat) < 0 then up P k (lb P x.toNat) else lb P (up P k (lb P x.toNat)).toNat)
    rw [ih]

theorem nodup_inj {l : List Nat} (h : l.Nodup) {a b : Nat} {ha : a < l.length} {hb : b < l.length} (e : l[a] = l[b]) : a = b := by
  rcases Nat.lt_trichotomy a b with hl | hl | hl
  · exact absurd e (List.pairwise_iff_getElem.1 h a b ha hb hl)
  · exact hl
  · exact absurd e.symm (List.pairwise_iff_getElem.1 h b a hb ha hl)

theorem countP_one {p : Nat → Bool} : ∀ {l : List Nat}, l.Nodup → ∀ {i}, i ∈ l → p i = true → (∀ j ∈ l, p j = true → j = i) → l.countP p = 1
  | [], _, _, h, _, _ => by simp at h
  | a :: l, hn, i, h, hp, hu => by
    rw [List.nodup_cons] at hn
    by_cases ha : a = i
    · subst ha
      rw [List.countP_cons_of_pos hp]
      have : l.countP p = 0 := List.countP_eq_zero.2 fun j hj hpj => hn.1 ((hu j (List.mem_cons_of_mem _ hj) hpj) ▸ hj)
      omega
    · have hi : i ∈ l := (List.mem_cons.1 h).resolve_left fun e => ha e.symm
      rw [List.countP_cons_of_neg (by intro hpa; exact ha (hu a (List.mem_cons_self ..) hpa))]
      exact countP_one hn.2 hi hp fun j hj => hu j (List.mem_cons_of_mem _ hj)

theorem countP_unique {p : Nat → Bool} {l : List Nat} (h : l.countP p = 1) {i j : Nat} (hi : i ∈ l) (hj : j ∈ l) (hpi : p i = true) (hpj : p j = true) : i = j := by
  rw [List.countP_eq_length_filter] at h
  obtain ⟨a, ha⟩ := List.length_eq_one_iff.1 h
  have h1 : i ∈ l.filter p := List.mem_filter.2 ⟨hi, hpi⟩
  have h2 : j ∈ l.filter p := List.mem_filter.2 ⟨hj, hpj⟩
  rw [ha, List.mem_singleton] at h1 h2
  rw [h1, h2]

theorem exists_max {d : Nat → Nat} : ∀ {l : List Nat}, l ≠ [] → ∃ i ∈ l, ∀ j ∈ l, d j ≤ d i
  | [], h => absurd rfl h
  | [a], _ => ⟨a, by simp, by simp⟩
  | a :: b :: l, _ => by
    obtain ⟨i, hi, hm⟩ := exists_max (d := d) (l := b :: l) (by simp)
    rcases Nat.le_total (d a) (d i) with h | h
    · exact ⟨i, List.mem_cons_of_mem _ hi, fun j hj => (List.mem_cons.1 hj).elim (fun e => e ▸ h) (hm j)⟩
    · exact ⟨a, List.mem_cons_self .., fun j hj => (List.mem_cons.1 hj).elim (fun e => e ▸ Nat.le_refl _) fun hj => Nat.le_trans (hm j hj) h⟩

/-- a join forest lets everything go -/
theorem isT_reds {n : Int} {L : Fam} {P : List Int} (h : IsT n L P) : Reds L := by
  obtain ⟨hv, hlen, hgood, hroot, htop⟩ := h
  have hd0 : ∀ i : Nat, ∃ k : Nat, i < P.length → up P k i < 0 ∧ ∀ j < k, ¬ up P j i < 0 := by
    intro i
    by_cases hi : i < P.length
    · obtain ⟨k, h1, h2⟩ := exists_least (p := fun k => up P k i < 0) (hroot i hi)
      exact ⟨k, fun _ => ⟨h1, h2⟩⟩
    · exact ⟨0, fun h => absurd h hi⟩
  obtain ⟨d, hd⟩ := Classical.axiomOfChoice hd0
  -- a child is deeper
  have hdep : ∀ c i : Nat, c < P.length → i < P.length → lb P c = i → d i < d c := by
    intro c i hc hi hci
    obtain ⟨c1, c2⟩ := hd c hc
    obtain ⟨i1, i2⟩ := hd i hi
    have hpos : d c ≠ 0 := fun h0 => by rw [h0] at c1; simp only [up] at c1; omega
    obtain ⟨k, hk⟩ : ∃ k, d c = k + 1 := ⟨d c - 1, by omega⟩
    rw [hk, up_shift (by omega), Int.toNat_natCast, hci] at c1
    refine Classical.byContradiction fun hn => i2 k (by omega) c1
  have key : ∀ c G, G.length = L.length → (lv L G).length = c → (∀ i < L.length, on G i = false → 0 ≤ lb P i → on G (lb P i).toNat = false) → Reds (lv L G) := by
    intro c
    induction c with
    | zero => intro G _ h0 _; rw [List.eq_nil_of_length_eq_zero h0]; exact .nil
    | succ c ih =>
      intro G hG hc hcl
      have hne : lvI L G ≠ [] := by rintro h0; simp [lv, h0] at hc
      obtain ⟨i, hi, hmax⟩ := exists_max (d := d) hne
      have hmem : ∀ j, j ∈ lvI L G ↔ j < L.length ∧ on G j = false := fun j => by simp [lvI]
      obtain ⟨hil, hon⟩ := (hmem i).1 hi
      have hnochild : ∀ j, j < L.length → on G j = false → lb P j ≠ i := fun j hj hoj hji => by
        have := hdep j i (by omega) (by omega) hji
        have := hmax j ((hmem j).2 ⟨hj, hoj⟩)
        omega
      -- whatever it shares, its parent has
      have hshare : ∀ x, com L G i x → 0 ≤ lb P i ∧ x ∈ nthL L (lb P i).toNat := by
        rintro x ⟨hx, k, hk, hxk⟩
        have hxv := (hv.2.2.2 _ (nthL_mem hil)).2.1 x hx
        obtain ⟨v, rfl⟩ : ∃ v : Nat, x = v := ⟨x.toNat, by omega⟩
        refine Classical.byContradiction fun hn => ?_
        have htopi : top L P v i := ⟨hx, by
          rcases Int.lt_or_le (lb P i) 0 with h | h
          · exact .inl h
          · exact .inr fun hm => hn ⟨h, hm⟩⟩
        have h1 := htop v (by omega) ⟨i, hil, hx⟩
        have huniq : ∀ j, j < L.length → top L P v j → j = i := fun j hj htj =>
          countP_unique h1 (by simpa using hj) (by simpa using hil) (by simpa using htj) (by simpa using htopi)
        have hclimb : ∀ b j, d j ≤ b → live L G i j → (v : Int) ∈ nthL L j → False := by
          intro b
          induction b with
          | zero =>
            intro j hb hj hvj
            have := (hd j (by have := hj.1; omega)).1
            rw [show d j = 0 by omega] at this
            simp only [up] at this
            omega
          | succ b ihb =>
            intro j hb hj hvj
            have hnt : ¬ top L P v j := fun ht => hj.2.1 (huniq j hj.1 ht)
            have hpos : 0 ≤ lb P j ∧ (v : Int) ∈ nthL L (lb P j).toNat := by
              refine Classical.byContradiction fun hn => hnt ⟨hvj, ?_⟩
              rcases Int.lt_or_le (lb P j) 0 with h | h
              · exact .inl h
              · exact .inr fun hm => hn ⟨h, hm⟩
            have hg := hgood j (by have := hj.1; omega)
            have hj1 := hj.1
            have hne : (lb P j).toNat ≠ i := fun e => hnochild j hj.1 hj.2.2 (by omega)
            have hdj := hdep j (lb P j).toNat (by omega) (by omega) (by omega)
            exact ihb (lb P j).toNat (by omega) ⟨by omega, hne, hcl j hj.1 hj.2.2 hpos.1⟩ hpos.2
        exact hclimb _ k (Nat.le_refl _) hk hxk
      have hst : Stps (lv L G) (lv L (G.set i true)) := by
        refine stps_tak hil hG hon ?_
        by_cases hc : ∃ x, com L G i x
        · obtain ⟨x, hx⟩ := hc
          have hp := (hshare x hx).1
          have hg := hgood i (by omega)
          exact .inr ⟨(lb P i).toNat, ⟨by omega, by omega, hcl i hil hon hp⟩, fun y hy => (hshare y hy).2⟩
        · exact .inl fun x hx => hc ⟨x, hx⟩
      have hlp := (lv_perm hil hG hon).length_eq
      rw [List.length_cons] at hlp
      refine Reds.of_stps hst (ih (G.set i true) (by simpa using hG) (by omega) fun j hj hoj hpj => ?_)
      rw [on_set (by omega)] at hoj ⊢
      by_cases hji : j = i
      · rw [if_pos hji] at hoj; cases hoj
      · rw [if_neg hji] at hoj
        rw [if_neg (fun e => hnochild j hj hoj (by omega))]
        exact hcl j hj hoj hpj
  have h0 := key _ (List.replicate L.length false) (by simp) rfl fun i hi _ hp => by
    have hg := hgood i (by omega)
    rw [on_eq (by simp; omega)]; simp
  rwa [lv_all] at h0

/-- the ears in their order -/
theorem trun_ord {L : Fam} {k : Nat} {G : List Bool} {P : List Int} (h : TRun L k G P) :
    ∃ ord : List Nat, ord.length = k ∧ ord.Nodup ∧ (∀ i ∈ ord, i < L.length) ∧ (∀ j < L.length, on G j = true ↔ j ∈ ord) ∧
      ∀ a (ha : a < ord.length), ∃ Ga, (∀ j < L.length, on Ga j = true ↔ j ∈ ord.take a) ∧ IsEar L Ga ord[a] (lb P ord[a]) := by
  induction h with
  | zero => exact ⟨[], rfl, by simp, by simp, fun j hj => by rw [on_eq (by simpa using hj)]; simp, fun a ha => by simp at ha⟩
  | @succ k G G' P P' h1 h2 ih =>
    obtain ⟨ord, o1, o2, o3, o4, o5⟩ := ih
    obtain ⟨i, p, hi, hon, he, _, rfl, rfl⟩ := h2
    obtain ⟨hG, hP⟩ := h1.len
    have hni : i ∉ ord := fun hm => by have := (o4 i hi).2 hm; rw [hon] at this; cases this
    refine ⟨ord ++ [i], by simp [o1], ?_, ?_, ?_, ?_⟩
    · rw [List.nodup_append]
      exact ⟨o2, by simp, fun a ha b hb => by rw [List.mem_singleton] at hb; subst hb; rintro rfl; exact hni ha⟩
    · intro j hj
      rcases List.mem_append.1 hj with hj | hj
      · exact o3 j hj
      · rw [List.mem_singleton] at hj; subst hj; exact hi
    · intro j hj
      rw [on_set (by omega), List.mem_append, List.mem_singleton]
      by_cases hji : j = i
      · simp [hji]
      · rw [if_neg hji, o4 j hj]; simp [hji]
    · intro a ha
      rw [List.length_append, List.length_singleton] at ha
      have hlbP : ∀ j, j ≠ i → lb (P.set i p) j = lb P j := fun j hj => by
        simp only [lb, List.getD_eq_getElem?_getD, List.getElem?_set, if_neg (show ¬ i = j from fun e => hj e.symm)]
      rcases Nat.lt_or_ge a ord.length with h | h
      · obtain ⟨Ga, g1, g2⟩ := o5 a h
        refine ⟨Ga, ?_, ?_⟩
        · rw [List.take_append_of_le_length (by omega)]; exact g1
        · rw [List.getElem_append_left h, hlbP _ fun e => hni (e ▸ List.getElem_mem h)]; exact g2
      · obtain rfl : a = ord.length := by omega
        refine ⟨G, ?_, ?_⟩
        · rw [List.take_left']; exact o4; rfl
        · rw [List.getElem_append_right (Nat.le_refl _)]
          simp only [Nat.sub_self, List.getElem_cons_zero]
          have : lb (P.set i p) i = p := by
            simp only [lb, List.getD_eq_getElem?_getD, List.getElem?_set, if_true]
            rw [if_pos (by omega)]; rfl
          rw [this]; exact he

/-- the forest that the ears make is a join forest -/
theorem trun_isT {n : Int} {L : Fam} {G : List Bool} {P : List Int} (hv : Vld n L) (h : TRun L L.length G P) : IsT n L P := by
  obtain ⟨hGl, hPl⟩ := h.len
  obtain ⟨ord, o1, o2, o3, o4, o5⟩ := trun_ord h
  have hall : ∀ j < L.length, j ∈ ord := by
    intro j hj
    rw [← o4 j hj]
    have h1 := (trun_lv h).1
    cases hon : on G j
    · have : nthL L j ∈ lv L G := mem_lv.2 ⟨j, hj, hon, rfl⟩
      rw [List.eq_nil_of_length_eq_zero (l := lv L G) (by omega)] at this
      simp at this
    · rfl
  have hpos : ∀ j < L.length, ∃ a, ∃ ha : a < ord.length, ord[a] = j := fun j hj => by
    obtain ⟨a, ha, e⟩ := List.mem_iff_getElem.1 (hall j hj)
    exact ⟨a, ha, e⟩
  have htake : ∀ a b (ha : a < ord.length) (hb : b < ord.length), ord[b] ∈ ord.take a ↔ b < a := by
    intro a b ha hb
    constructor
    · intro hm
      obtain ⟨c, hc, e⟩ := List.mem_iff_getElem.1 hm
      rw [List.length_take] at hc
      rw [List.getElem_take] at e
      have hcb : c = b := nodup_inj o2 e
      omega
    · intro hba
      exact List.mem_iff_getElem.2 ⟨b, by rw [List.length_take]; omega, by rw [List.getElem_take]⟩
  -- the parent of the ear at a place
  have hpar : ∀ a (ha : a < ord.length), lb P ord[a] = -1 ∨ ∃ b, ∃ hb : b < ord.length, a < b ∧ lb P ord[a] = ord[b] := by
    intro a ha
    obtain ⟨Ga, g1, g2⟩ := o5 a ha
    rcases g2 with ⟨h1, _⟩ | ⟨k, h1, _, ⟨⟨k1, k2, k3⟩, _⟩, _⟩
    · exact .inl h1
    · obtain ⟨b, hb, rfl⟩ := hpos k k1
      refine .inr ⟨b, hb, ?_, h1⟩
      have hnm : ord[b] ∉ ord.take a := fun hm => by
        have := (g1 _ k1).2 hm
        rw [k3] at this; cases this
      rw [htake a b ha hb] at hnm
      have : b ≠ a := fun e => k2 (by subst e; rfl)
      omega
  have hgood : PGood P := by
    intro i hi
    obtain ⟨a, ha, rfl⟩ := hpos i (by omega)
    rcases hpar a ha with h1 | ⟨b, hb, hab, h1⟩
    · rw [h1]; exact ⟨by omega, by omega, by omega⟩
    · rw [h1]
      have := o3 _ (List.getElem_mem hb)
      refine ⟨by omega, by omega, fun e => ?_⟩
      have := nodup_inj o2 (Int.ofNat_inj.1 e)
      omega
  have hin : PIn P := fun i hi => ⟨(hgood i hi).1, (hgood i hi).2.1⟩
  refine ⟨hv, hPl, hgood, ?_, ?_⟩
  · have hup : ∀ c a (ha : a < ord.length), ord.length - a ≤ c → ∃ k, up P k ord[a] < 0 := by
      intro c
      induction c with
      | zero => intro a ha hc; omega
      | succ c ih =>
        intro a ha hc
        rcases hpar a ha with h1 | ⟨b, hb, hab, h1⟩
        · exact ⟨1, by rw [up_shift (by omega), Int.toNat_natCast, h1]; simp [up]⟩
        · obtain ⟨k, hk⟩ := ih b hb (by omega)
          exact ⟨k + 1, by rw [up_shift (by omega), Int.toNat_natCast, h1]; exact hk⟩
    intro i hi
    obtain ⟨a, ha, rfl⟩ := hpos i (by omega)
    obtain ⟨k, hk⟩ := hup _ a ha (Nat.le_refl _)
    exact up_bound hin hi hk
  · rintro v hvn ⟨i, hi, hvi⟩
    -- the last ear with v
    obtain ⟨a0, ha0, rfl⟩ := hpos i hi
    obtain ⟨dd, ⟨a, ha, hva, hda⟩, hleast⟩ := exists_least (p := fun dd => ∃ a, ∃ ha : a < ord.length, (v : Int) ∈ nthL L ord[a] ∧ dd = ord.length - a) ⟨a0, ha0, hvi, rfl⟩
    have hmax : ∀ b (hb : b < ord.length), a < b → (v : Int) ∉ nthL L ord[b] := fun b hb hab hvb => hleast (ord.length - b) (by omega) ⟨b, hb, hvb, rfl⟩
    refine countP_one List.nodup_range (i := ord[a]) (by simpa using o3 _ (List.getElem_mem ha)) ?_ ?_
    · rw [decide_eq_true_eq]
      refine ⟨hva, ?_⟩
      rcases hpar a ha with h1 | ⟨b, hb, hab, h1⟩
      · exact .inl (by omega)
      · exact .inr (by rw [h1, Int.toNat_natCast]; exact hmax b hb hab)
    · intro j hj htj
      rw [decide_eq_true_eq] at htj
      rw [List.mem_range] at hj
      obtain ⟨b, hb, rfl⟩ := hpos j hj
      rcases Nat.lt_trichotomy b a with hba | hba | hba
      · exfalso
        obtain ⟨Gb, g1, g2⟩ := o5 b hb
        have hla : ord[a] < L.length := o3 _ (List.getElem_mem ha)
        have hcom : com L Gb ord[b] v := by
          refine ⟨htj.1, ord[a], ⟨hla, fun e => ?_, ?_⟩, hva⟩
          · have := nodup_inj o2 e; omega
          · cases hon : on Gb ord[a]
            · rfl
            · have := (htake b a hb ha).1 ((g1 _ hla).1 hon); omega
        rcases g2 with ⟨_, h1⟩ | ⟨k, h1, _, ⟨_, h2⟩, _⟩
        · exact h1 _ hcom
        · rcases htj.2 with h3 | h3
          · omega
          · rw [h1, Int.toNat_natCast] at h3; exact h3 (h2 _ hcom)
      · subst hba; rfl
      · exact absurd htj.1 (hmax b hb hba)

end AI
end Go.Proofs.Ytocgbgffpdphdaa
