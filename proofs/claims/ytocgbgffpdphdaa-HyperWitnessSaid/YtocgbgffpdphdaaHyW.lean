/- Reduction of hypergraphs as a relation: it is confluent. -/
import Derived.Test.YtocgbgffpdphdaaHyT
set_option linter.unusedVariables false
namespace Go.Proofs.Ytocgbgffpdphdaa
namespace AI

abbrev Fam := List (List Int)

def Sub (e k : List Int) : Prop := ∀ x ∈ e, x ∈ k
def cut (e : List Int) (v : Int) : List Int := e.filter fun x => decide (x ≠ v)

theorem mem_cut {e : List Int} {v x : Int} : x ∈ cut e v ↔ x ∈ e ∧ x ≠ v := by simp [cut]

/-- one step: a lone vertex goes, or an edge that is empty or within another one -/
inductive Stp : Fam → Fam → Prop
  | vert {F F' R : Fam} {e : List Int} {v : Int} : F.Perm (e :: R) → v ∈ e → (∀ f ∈ R, v ∉ f) → F'.Perm (cut e v :: R) → Stp F F'
  | edge {F F' R : Fam} {e : List Int} : F.Perm (e :: R) → (e = [] ∨ ∃ k ∈ R, Sub e k) → F'.Perm R → Stp F F'

theorem Stp.perm {F F' H H' : Fam} (h : Stp F F') (h1 : F.Perm H) (h2 : F'.Perm H') : Stp H H' := by
  cases h with
  | vert a b c d => exact .vert (h1.symm.trans a) b c (h2.symm.trans d)
  | edge a b c => exact .edge (h1.symm.trans a) b (h2.symm.trans c)

theorem perm_inv {α : Type} {a b : α} {A B : List α} (h : (a :: A).Perm (b :: B)) : (a = b ∧ A.Perm B) ∨ ∃ C, A.Perm (b :: C) ∧ B.Perm (a :: C) := by
  have ha : a ∈ b :: B := h.subset (List.mem_cons_self ..)
  rcases List.mem_cons.1 ha with rfl | ha
  · exact .inl ⟨rfl, h.cons_inv⟩
  · obtain ⟨X, Y, rfl⟩ := List.append_of_mem ha
    refine .inr ⟨X ++ Y, ?_, List.perm_middle⟩
    have h1 : (b :: (X ++ a :: Y)).Perm (a :: b :: (X ++ Y)) := (List.perm_middle.cons b).trans (List.Perm.swap a b _)
    exact (h.trans h1).cons_inv

/-- sorted edges -/
def Srt (F : Fam) : Prop := ∀ e ∈ F, e.Pairwise (· < ·)

theorem srt_ext : ∀ {a b : List Int}, a.Pairwise (· < ·) → b.Pairwise (· < ·) → Sub a b → Sub b a → a = b
  | [], [], _, _, _, _ => rfl
  | [], y :: b, _, _, _, h => by have := h y (List.mem_cons_self ..); simp at this
  | x :: a, [], _, _, h, _ => by have := h x (List.mem_cons_self ..); simp at this
  | x :: a, y :: b, ha, hb, h, h' => by
    rw [List.pairwise_cons] at ha hb
    have hxy : x = y := by
      rcases List.mem_cons.1 (h x (List.mem_cons_self ..)) with e | e
      · exact e
      · rcases List.mem_cons.1 (h' y (List.mem_cons_self ..)) with e' | e'
        · exact e'.symm
        · have := hb.1 x e; have := ha.1 y e'; omega
    subst hxy
    rw [srt_ext ha.2 hb.2 (fun z hz => ?_) (fun z hz => ?_)]
    · rcases List.mem_cons.1 (h z (List.mem_cons_of_mem _ hz)) with e | e
      · have := ha.1 z hz; omega
      · exact e
    · rcases List.mem_cons.1 (h' z (List.mem_cons_of_mem _ hz)) with e | e
      · have := hb.1 z hz; omega
      · exact e

theorem Srt.perm {F H : Fam} (h : Srt F) (hp : F.Perm H) : Srt H := fun e he => h e (hp.symm.subset he)

theorem cut_srt {e : List Int} {v : Int} (h : e.Pairwise (· < ·)) : (cut e v).Pairwise (· < ·) := h.sublist List.filter_sublist

theorem Stp.srt {F F' : Fam} (h : Stp F F') (hs : Srt F) : Srt F' := by
  cases h with
  | vert a b c d =>
    intro f hf
    have hs' := hs.perm a
    rcases List.mem_cons.1 (d.subset hf) with rfl | hf
    · exact cut_srt (hs' _ (List.mem_cons_self ..))
    · exact hs' _ (List.mem_cons_of_mem _ hf)
  | edge a b c =>
    intro f hf
    exact (hs.perm a) _ (List.mem_cons_of_mem _ (c.subset hf))

theorem cut_comm (e : List Int) (v w : Int) : cut (cut e v) w = cut (cut e w) v := by
  simp only [cut, List.filter_filter, Bool.and_comm]

theorem mem_perm {R C : Fam} {f : List Int} (h : R.Perm (f :: C)) {g : List Int} : g ∈ R ↔ g = f ∨ g ∈ C := by
  rw [h.mem_iff, List.mem_cons]

/-- the diamond -/
theorem diamond {F Y Z : Fam} (hs : Srt F) (h1 : Stp F Y) (h2 : Stp F Z) : Y.Perm Z ∨ ∃ W, Stp Y W ∧ Stp Z W := by
  cases h1 with
  | @vert R e v a b c d =>
    cases h2 with
    | @vert R' f w a' b' c' d' =>
      rcases perm_inv (a.symm.trans a') with ⟨rfl, hR⟩ | ⟨C, hR, hR'⟩
      · by_cases hvw : v = w
        · subst hvw; exact .inl (d.trans ((hR.cons _).trans d'.symm))
        · refine .inr ⟨cut (cut e v) w :: R, .vert d (mem_cut.2 ⟨b', fun h => hvw h.symm⟩) (fun g hg => c' g (hR.subset hg)) (.refl _), .vert d' (mem_cut.2 ⟨b, hvw⟩) (fun g hg => c g (hR.symm.subset hg)) ?_⟩
          rw [cut_comm]; exact hR.cons _
      · refine .inr ⟨cut e v :: cut f w :: C, ?_, ?_⟩
        · refine .vert (e := f) (v := w) (R := cut e v :: C) (d.trans (((hR.cons _)).trans (List.Perm.swap _ _ _))) b' (fun g hg => ?_) (List.Perm.swap _ _ _)
          rcases List.mem_cons.1 hg with rfl | hg
          · exact fun h => c' e ((mem_perm hR').2 (.inl rfl)) (mem_cut.1 h).1
          · exact c' g ((mem_perm hR').2 (.inr hg))
        · refine .vert (e := e) (v := v) (R := cut f w :: C) (d'.trans ((hR'.cons _).trans (List.Perm.swap _ _ _))) b (fun g hg => ?_) (.refl _)
          rcases List.mem_cons.1 hg with rfl | hg
          · exact fun h => c f ((mem_perm hR).2 (.inl rfl)) (mem_cut.1 h).1
          · exact c g ((mem_perm hR).2 (.inr hg))
    | @edge R' f a' b' c' =>
      rcases perm_inv (a.symm.trans a') with ⟨rfl, hR⟩ | ⟨C, hR, hR'⟩
      · exfalso
        rcases b' with rfl | ⟨k, hk, hs⟩
        · simp at b
        · exact c k (hR.symm.subset hk) (hs v b)
      · refine .inr ⟨cut e v :: C, ?_, ?_⟩
        · refine .edge (e := f) (R := cut e v :: C) (d.trans ((hR.cons _).trans (List.Perm.swap _ _ _))) ?_ (.refl _)
          rcases b' with h | ⟨k, hk, hsub⟩
          · exact .inl h
          · rcases (mem_perm hR').1 hk with rfl | hk
            · exact .inr ⟨_, List.mem_cons_self .., fun x hx => mem_cut.2 ⟨hsub x hx, fun h => c f ((mem_perm hR).2 (.inl rfl)) (h ▸ hx)⟩⟩
            · exact .inr ⟨k, List.mem_cons_of_mem _ hk, hsub⟩
        · exact .vert (c'.trans hR') b (fun g hg => c g ((mem_perm hR).2 (.inr hg))) (.refl _)
  | @edge R e a b c =>
    cases h2 with
    | @vert R' f w a' b' c' d' =>
      rcases perm_inv (a.symm.trans a') with ⟨rfl, hR⟩ | ⟨C, hR, hR'⟩
      · exfalso
        rcases b with rfl | ⟨k, hk, hs⟩
        · simp at b'
        · exact c' k (hR.subset hk) (hs w b')
      · refine .inr ⟨cut f w :: C, ?_, ?_⟩
        · exact .vert (c.trans hR) b' (fun g hg => c' g ((mem_perm hR').2 (.inr hg))) (.refl _)
        · refine .edge (e := e) (R := cut f w :: C) (d'.trans ((hR'.cons _).trans (List.Perm.swap _ _ _))) ?_ (.refl _)
          rcases b with h | ⟨k, hk, hsub⟩
          · exact .inl h
          · rcases (mem_perm hR).1 hk with rfl | hk
            · exact .inr ⟨_, List.mem_cons_self .., fun x hx => mem_cut.2 ⟨hsub x hx, fun h => c' e ((mem_perm hR').2 (.inl rfl)) (h ▸ hx)⟩⟩
            · exact .inr ⟨k, List.mem_cons_of_mem _ hk, hsub⟩
    | @edge R' f a' b' c' =>
      rcases perm_inv (a.symm.trans a') with ⟨rfl, hR⟩ | ⟨C, hR, hR'⟩
      · exact .inl (c.trans (hR.trans c'.symm))
      · have he : e.Pairwise (· < ·) := hs e (a.symm.subset (List.mem_cons_self ..))
        have hf : f.Pairwise (· < ·) := hs f (a'.symm.subset (List.mem_cons_self ..))
        by_cases hef : Sub e f ∧ Sub f e
        · obtain rfl := srt_ext he hf hef.1 hef.2
          exact .inl (c.trans (hR.trans (hR'.symm.trans c'.symm)))
        · have h3 : (e = [] ∨ ∃ k ∈ C, Sub e k) ∧ (f = [] ∨ ∃ k ∈ C, Sub f k) := by
            have q1 : e = [] ∨ Sub e f ∨ ∃ k ∈ C, Sub e k := by
              rcases b with h | ⟨k, hk, h⟩
              · exact .inl h
              · rcases (mem_perm hR).1 hk with rfl | hk
                · exact .inr (.inl h)
                · exact .inr (.inr ⟨k, hk, h⟩)
            have q2 : f = [] ∨ Sub f e ∨ ∃ k ∈ C, Sub f k := by
              rcases b' with h | ⟨k, hk, h⟩
              · exact .inl h
              · rcases (mem_perm hR').1 hk with rfl | hk
                · exact .inr (.inl h)
                · exact .inr (.inr ⟨k, hk, h⟩)
            have nil_of : ∀ {x y : List Int}, Sub x y → y = [] → x = [] := by
              intro x y h hy
              subst hy
              exact List.eq_nil_iff_forall_not_mem.2 fun z hz => by have := h z hz; simp at this
            rcases q1 with q1 | q1 | ⟨k, hk, q1⟩
            · refine ⟨.inl q1, ?_⟩
              rcases q2 with q2 | q2 | q2
              · exact .inl q2
              · exact .inl (nil_of q2 q1)
              · exact .inr q2
            · rcases q2 with q2 | q2 | ⟨k, hk, q2⟩
              · exact ⟨.inl (nil_of q1 q2), .inl q2⟩
              · exact absurd ⟨q1, q2⟩ hef
              · exact ⟨.inr ⟨k, hk, fun x hx => q2 x (q1 x hx)⟩, .inr ⟨k, hk, q2⟩⟩
            · refine ⟨.inr ⟨k, hk, q1⟩, ?_⟩
              rcases q2 with q2 | q2 | q2
              · exact .inl q2
              · exact .inr ⟨k, hk, fun x hx => q1 x (q2 x hx)⟩
              · exact .inr q2
          exact .inr ⟨C, .edge (c.trans hR) h3.2 (.refl _), .edge (c'.trans hR') h3.1 (.refl _)⟩

/-- at most n steps lead to nothing -/
inductive Red : Nat → Fam → Prop
  | nil (n : Nat) : Red n []
  | step {n : Nat} {F F' : Fam} : Stp F F' → Red n F' → Red (n + 1) F

theorem Red.perm {n : Nat} {F H : Fam} (h : Red n F) (hp : F.Perm H) : Red n H := by
  cases h with
  | nil => rw [hp.symm.eq_nil]; exact .nil n
  | step h1 h2 => exact .step (h1.perm hp (.refl _)) h2

theorem Red.succ {n : Nat} {F : Fam} (h : Red n F) : Red (n + 1) F := by
  induction h with
  | nil n => exact .nil _
  | step h1 _ ih => exact .step h1 ih

theorem red_step {n : Nat} {F F' : Fam} (hs : Srt F) (h : Red n F) (h1 : Stp F F') : Red n F' := by
  induction h generalizing F' with
  | nil n =>
    exfalso
    cases h1 with
    | vert a _ _ _ => exact absurd a.symm.eq_nil (by simp)
    | edge a _ _ => exact absurd a.symm.eq_nil (by simp)
  | @step n F Y h2 h3 ih =>
    rcases diamond hs h2 h1 with hp | ⟨W, h4, h5⟩
    · exact (h3.perm hp).succ
    · exact .step h5 (ih (h2.srt hs) h4)

/-- any number of steps -/
inductive Stps : Fam → Fam → Prop
  | refl {F F' : Fam} : F.Perm F' → Stps F F'
  | step {F F' H : Fam} : Stp F F' → Stps F' H → Stps F H

theorem Stps.perm {F F' H : Fam} (h : Stps F F') (hp : H.Perm F) : Stps H F' := by
  cases h with
  | refl h => exact .refl (hp.trans h)
  | step h1 h2 => exact .step (h1.perm hp.symm (.refl _)) h2

theorem Stps.trans {F F' H : Fam} (h : Stps F F') (h' : Stps F' H) : Stps F H := by
  induction h with
  | refl hp => exact h'.perm hp
  | step h1 _ ih => exact .step h1 (ih h')

theorem Stps.srt {F F' : Fam} (h : Stps F F') (hs : Srt F) : Srt F' := by
  induction h with
  | refl hp => exact hs.perm hp
  | step h1 _ ih => exact ih (h1.srt hs)

def Reds (F : Fam) : Prop := ∃ n, Red n F

theorem Reds.stps {F F' : Fam} (h : Stps F F') (hs : Srt F) (hr : Reds F) : Reds F' := by
  induction h with
  | refl hp => obtain ⟨n, hr⟩ := hr; exact ⟨n, hr.perm hp⟩
  | step h1 _ ih => obtain ⟨n, hr⟩ := hr; exact ih (h1.srt hs) ⟨n, red_step hs hr h1⟩

theorem Reds.of_stps {F F' : Fam} (h : Stps F F') (hr : Reds F') : Reds F := by
  induction h with
  | refl hp => obtain ⟨n, hr⟩ := hr; exact ⟨n, hr.perm hp.symm⟩
  | step h1 _ ih => obtain ⟨n, hr⟩ := ih hr; exact ⟨n + 1, .step h1 hr⟩

theorem Reds.nil : Reds [] := ⟨0, .nil 0⟩

end AI
end Go.Proofs.Ytocgbgffpdphdaa
