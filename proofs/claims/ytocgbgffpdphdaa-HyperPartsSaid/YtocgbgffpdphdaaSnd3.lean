/- Soundness, third part: reading operations. -/
import Derived.Test.YtocgbgffpdphdaaSnd2
namespace Go.Proofs.Ytocgbgffpdphdaa
namespace AI
open Go.RowKit

variable {P : Program} {B : Nat} {w w' w0 : World} {Z Z' : Cold} {φ φ' : Phi} {ctr ctr' : Nat} {s s' : Sto}

/-- what an operation that yields 'v' has come to -/
def OpOk (w0 : World) (B : Nat) (w : World) (Z : Cold) (φ : Phi) (ctr : Nat) (s' : Sto) (v : AV) (r : Result Next) : Prop :=
  ∃ x w' Z' φ', (r = .ok (.value x) w' ∨ (r = .ok .skip w' ∧ x = undef)) ∧ Inv w0 B s' Z' φ' w' ∧ Rep w' Z' φ' s'.ctr v x ∧ Later B w Z φ ctr w' Z' φ' s'.ctr

theorem OpOk.same (hI : Inv w0 B s Z φ w) {v : AV} {x : Value} (hr : Rep w Z φ s.ctr v x) : OpOk w0 B w Z φ s.ctr s v (.ok (.value x) w) :=
  ⟨x, w, Z, φ, .inl rfl, hI, hr, Later.refl _ _ _ _ _⟩

theorem cellsT_some {t : TypeId} {n : Nat} (h : cellsT P t = some n) : ∃ i, P.info? t = some i ∧ i.size = n ∧ 0 < n := by
  unfold cellsT at h
  split at h
  · rename_i i hi
    split at h
    · simp only [Option.some.injEq] at h; subst h; exact ⟨i, hi, rfl, by assumption⟩
    · cases h
  · cases h

theorem run_sizeOf {t : TypeId} {n : Nat} (h : cellsT P t = some n) (w : World) : (sizeOf t).run P w = .ok n w := by
  obtain ⟨i, hi, hn, _⟩ := cellsT_some h
  simp [sizeOf, typeInfo, hi, hn]

/-- cells that are read from a place on -/
def At (w : World) (Z : Cold) (φ : Phi) (ctr : Nat) (cs : List AV) (b off : Nat) : Prop :=
  ∀ (j : Nat) (c : AV), cs[j]? = some c → ∃ x, w.cell? ⟨b, off + j, none⟩ = some x ∧ Rep w Z φ ctr c x ∧ c.one = true

theorem At.drop {cs : List AV} {b off n : Nat} (h : At w Z φ ctr cs b off) : At w Z φ ctr (cs.drop n) b (off + n) := by
  intro j c hj
  rw [List.getElem?_drop] at hj
  obtain ⟨x, h1, h2, h3⟩ := h (n + j) c hj
  exact ⟨x, by rw [Nat.add_assoc]; exact h1, h2, h3⟩

theorem run_loadVar_rep {t : TypeId} {sz : Option Nat} (ht : szT P t = some sz) {cs : List AV} {b off : Nat} (h : At w Z φ ctr cs b off) {v : AV} (hv : AI.loadCells cs sz = some v) :
    ∃ x, (loadVar t ⟨b, off, none⟩).run P w = .ok x w ∧ Rep w Z φ ctr v x := by
  have agg : ∀ n d, P.underlying t = some d → isAggT P t = true → cellsT P t = some n → sz = some n → ∃ x, (loadVar t ⟨b, off, none⟩).run P w = .ok x w ∧ Rep w Z φ ctr v x := by
    intro n d hu ha hc hsz
    subst hsz
    simp only [AI.loadCells] at hv
    split at hv
    · rename_i hn
      simp only [Option.some.injEq] at hv
      subst hv
      let f : Nat → Value := fun j => (w.cell? ⟨b, off + j, none⟩).getD undef
      have hf : ∀ j, j < n → w.cell? ((⟨b, off, none⟩ : Addr).add j) = some (f j) := by
        intro j hj
        obtain ⟨x, h1, _, _⟩ := h j cs[j] (List.getElem?_eq_getElem (by omega))
        rw [Addr.add_lit]
        simp [f, h1]
      refine ⟨.agg ((List.range n).map f).toArray, ?_, ?_⟩
      · have hag : (isAgg t).run P w = .ok true w := by
          simp only [isAgg, Sem.run_bind, run_underlying hu, Result.andThen_ok]
          unfold isAggT at ha
          rw [hu] at ha
          split at ha
          · rename_i h2; simp only [Option.some.injEq] at h2; subst h2; rfl
          · rename_i h2; simp only [Option.some.injEq] at h2; subst h2; rfl
          · cases ha
        simp [loadVar, hag, run_sizeOf hc, run_loadCells w ⟨b, off, none⟩ n f hf]
      · refine .agg _ _ (by simp; omega) (fun i c hi => ?_) (fun i c hi => ?_)
        all_goals
          have hi' : i < n := by
            have := (List.getElem?_eq_some_iff.1 hi).1
            simp at this; omega
          rw [List.getElem?_take_of_lt hi'] at hi
          obtain ⟨x, h1, h2, h3⟩ := h i c hi
        · exact h3
        · have : ((List.range n).map f).toArray.getD i undef = x := by
            simp [Array.getD_eq_getD_getElem?, hi', f, h1]
          rw [this]; exact h2
    · cases hv
  unfold szT at ht
  split at ht
  · rename_i fs n hu hc
    simp only [Option.some.injEq] at ht
    exact agg n _ hu (by simp [isAggT, hu]) hc ht.symm
  · rename_i k e n hu hc
    simp only [Option.some.injEq] at ht
    exact agg n _ hu (by simp [isAggT, hu]) hc ht.symm
  · rename_i d hns hna hu hc
    simp only [Option.some.injEq] at ht
    subst ht
    simp only [AI.loadCells, nth_eq] at hv
    obtain ⟨x, h1, h2, _⟩ := h 0 v hv
    refine ⟨x, ?_, h2⟩
    have hag : (isAgg t).run P w = .ok false w := by
      simp only [isAgg, Sem.run_bind, run_underlying hu, Result.andThen_ok]
      rfl
    simp only [Nat.add_zero] at h1
    simp [loadVar, hag, h1]
  · cases ht

theorem ObjRep.at {g es : Nat} {nn cl : Bool} {elems : List AV} (h : ObjRep w Z φ ctr B (.arr g es nn cl elems)) {b e n : Nat} (hφ : φ g = .row b e n) {i : Nat} {x : AV} (hx : elems[i]? = some x) :
    e = es ∧ At w Z φ ctr x.cells b (i * es) := by
  obtain ⟨_, _, h3⟩ := h
  rw [hφ] at h3
  obtain ⟨_, h4, _, _, _, c, t, h5, _, h6⟩ := h3
  refine ⟨h4, fun j y hj => ?_⟩
  obtain ⟨v, h7, h8, h9, _⟩ := (h6 i x hx).2 j y hj
  exact ⟨v, by simp [World.cell?, h5, h7], h8, h9⟩

/-- what an address leads to -/
theorem ref_at (hI : Inv w0 B s Z φ w) {o g i off : Nat} {v : Value} (hr : Rep w Z φ s.ctr (.ref o g i off) v) {es : Nat} {nn cl : Bool} {elems : List AV} (ho : s.σ[o]? = some (.arr g es nn cl elems)) {x : AV} (hx : elems[i]? = some x) :
    ∃ b, v = .pointer (some ⟨b, i * es + off, none⟩) ∧ At w Z φ s.ctr (x.cells.drop off) b (i * es + off) := by
  cases hr with
  | ref _ _ _ _ b e n hg hφ =>
    obtain ⟨he, hat⟩ := (hI.objs o _ ho).at hφ hx
    subst he
    exact ⟨b, rfl, hat.drop⟩

theorem fref_at {cs : List AV} {v : Value} (hr : Rep w Z φ ctr (.fref cs) v) : ∃ b off, v = .pointer (some ⟨b, off, none⟩) ∧ At w Z φ ctr cs b off := by
  cases hr with
  | fref _ b off f hc hr => exact ⟨b, off, rfl, fun j c hj => ⟨f j, (hc j c hj).2.1, hr j c hj, (hc j c hj).2.2.2⟩⟩

variable {a : Act} {o : Oper} {env : Env}

theorem snd_load (hI : Inv w0 B s Z φ w) {t : TypeId} {sz : Option Nat} {x : Value} {y v : AV} (ht : szT P t = some sz) (hr : Rep w Z φ s.ctr y x) {C : CallF} {s' : Sto} {ao : AO} (hao : ao.val env = y) (hev : evOp C (.load sz ao) env s = some (.ok v, s')) :
    ∃ z, (Instr.loadAt t x).run P w = .ok z w ∧ Rep w Z φ s.ctr v z ∧ s' = s := by
  simp only [evOp, hao] at hev
  split at hev
  · rename_i cs
    unfold ok at hev
    cases hl : AI.loadCells cs sz with
    | none => simp [hl] at hev
    | some v' =>
      simp only [hl, Option.map_some, Option.some.injEq, Prod.mk.injEq, AOut.ok.injEq] at hev
      obtain ⟨rfl, rfl⟩ := hev
      obtain ⟨b, off, rfl, hat⟩ := fref_at hr
      obtain ⟨z, h1, h2⟩ := run_loadVar_rep (P := P) ht hat hl
      exact ⟨z, by simp [Instr.loadAt, Instr.sureAddr, h1], h2, rfl⟩
  · rename_i o g i off
    split at hev
    · rename_i g' es nn cl elems ho
      split at hev
      · rename_i hg; subst hg
        split at hev
        · rename_i x' hx
          rw [nth_eq] at ho hx
          unfold ok at hev
          cases hl : AI.loadCells (x'.cells.drop off) sz with
          | none => simp [hl] at hev
          | some v' =>
            simp only [hl, Option.map_some, Option.some.injEq, Prod.mk.injEq, AOut.ok.injEq] at hev
            obtain ⟨rfl, rfl⟩ := hev
            obtain ⟨b, rfl, hat⟩ := ref_at hI hr ho hx
            obtain ⟨z, h1, h2⟩ := run_loadVar_rep (P := P) ht hat hl
            exact ⟨z, by simp [Instr.loadAt, Instr.sureAddr, h1], h2, rfl⟩
        · cases hev
      · cases hev
    · cases hev
  · cases hev

theorem Rep.fref_drop {cs : List AV} {b off : Nat} (hr : Rep w Z φ ctr (.fref cs) (.pointer (some ⟨b, off, none⟩))) (n : Nat) : Rep w Z φ ctr (.fref (cs.drop n)) (.pointer (some ⟨b, off + n, none⟩)) := by
  cases hr with
  | fref _ _ _ f hc hr =>
    refine .fref _ b (off + n) (fun j => f (n + j)) (fun j c hj => ?_) (fun j c hj => ?_)
    · rw [List.getElem?_drop] at hj
      have := hc (n + j) c hj
      rw [Nat.add_assoc]; exact this
    · rw [List.getElem?_drop] at hj
      exact hr (n + j) c hj

theorem snd_faddr {t : TypeId} {fs : Array Field} {f off n : Nat} {fd : Field} {x : Value} {y v : AV} (hu : P.underlying t = some (.struct fs)) (hf : fs[f]? = some fd) (hn : cellsT P fd.type = some n) (hr : Rep w Z φ s.ctr y x) {C : CallF} {s' : Sto} {ao : AO} (hao : ao.val env = y) (hoff : fd.offset = off)
    (hev : evOp C (.faddr off ao) env s = some (.ok v, s')) :
    ∃ z, (Instr.fieldAt t x f).run P w = .ok z w ∧ Rep w Z φ s.ctr v z ∧ s' = s := by
  subst hoff
  obtain ⟨i, hi, hin, h0⟩ := cellsT_some hn
  have h0' : i.size ≠ 0 := by omega
  simp only [evOp, hao] at hev
  split at hev
  · rename_i cs
    simp only [Option.some.injEq, Prod.mk.injEq, AOut.ok.injEq] at hev
    obtain ⟨rfl, rfl⟩ := hev
    obtain ⟨b, off, rfl, hat⟩ := fref_at hr
    refine ⟨.pointer (some ⟨b, off + fd.offset, none⟩), ?_, hr.fref_drop _, rfl⟩
    simp [Instr.fieldAt, run_underlying hu, hf, Instr.sureAddr, fieldPlace, run_sizeOf hn, Addr.add_lit, show n ≠ 0 from by omega]
  · rename_i o g j off'
    simp only [Option.some.injEq, Prod.mk.injEq, AOut.ok.injEq] at hev
    obtain ⟨rfl, rfl⟩ := hev
    cases hr with
    | ref _ _ _ _ b es size hg hφ =>
      refine ⟨.pointer (some ⟨b, j * es + (off' + fd.offset), none⟩), ?_, .ref _ _ _ _ b es size hg hφ, rfl⟩
      simp [Instr.fieldAt, run_underlying hu, hf, Instr.sureAddr, fieldPlace, run_sizeOf hn, Addr.add_lit, show n ≠ 0 from by omega, Nat.add_assoc]
  · cases hev

end AI
end Go.Proofs.Ytocgbgffpdphdaa
