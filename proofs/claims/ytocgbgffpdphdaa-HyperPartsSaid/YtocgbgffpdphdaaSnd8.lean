/- Soundness, eighth part: structs, literals, made slices. -/
import Derived.Test.YtocgbgffpdphdaaSnd7
namespace Go.Proofs.Ytocgbgffpdphdaa
namespace AI
open Go.RowKit

variable {P : Program} {B : Nat} {w w' w0 : World} {Z Z' : Cold} {φ φ' : Phi} {ctr ctr' : Nat} {s s' : Sto}

/-- a row of cells, cell by cell -/
def CellsRep (w : World) (Z : Cold) (φ : Phi) (ctr : Nat) (cs : List AV) (vs : Array Value) : Prop :=
  cs.length = vs.size ∧ ∀ (i : Nat) (c : AV), cs[i]? = some c → ∃ v, vs[i]? = some v ∧ Rep w Z φ ctr c v ∧ c.one = true

theorem Rep.cellsRep {a : AV} {v : Value} (r : Rep w Z φ ctr a v) (hs : a.storable = true) : CellsRep w Z φ ctr a.cells v.cells :=
  r.cells_get hs

theorem CellsRep.agg {cs : List AV} {vs : Array Value} (h : CellsRep w Z φ ctr cs vs) : Rep w Z φ ctr (.agg cs) (.agg vs) :=
  .agg cs vs h.1 (fun i c hi => by obtain ⟨_, _, _, h3⟩ := h.2 i c hi; exact h3) (fun i c hi => by
    obtain ⟨v, h1, h2, _⟩ := h.2 i c hi
    rw [getD_of_list (v := v) (by simpa using h1)]; exact h2)

theorem foldl_set (off : Nat) : ∀ (l : List Value) (n : Nat) (cs : Array Value), off + n + l.length ≤ cs.size →
    ((l.zipIdx n).foldl (fun cs p => cs.setIfInBounds (off + p.2) p.1) cs).size = cs.size ∧
    ∀ k, ((l.zipIdx n).foldl (fun cs p => cs.setIfInBounds (off + p.2) p.1) cs)[k]? = if off + n ≤ k ∧ k < off + n + l.length then l[k - (off + n)]? else cs[k]?
  | [], n, cs, h => ⟨rfl, fun k => by rw [if_neg (by simp)]; rfl⟩
  | v :: l, n, cs, h => by
    simp only [List.length_cons] at h
    obtain ⟨h1, h2⟩ := foldl_set off l (n + 1) (cs.setIfInBounds (off + n) v) (by simp; omega)
    simp only [List.zipIdx_cons, List.foldl_cons]
    refine ⟨by rw [h1]; simp, fun k => ?_⟩
    rw [h2]
    simp only [List.length_cons]
    by_cases hk : off + (n + 1) ≤ k ∧ k < off + (n + 1) + l.length
    · rw [if_pos hk, if_pos (by omega), show k - (off + n) = (k - (off + (n + 1))) + 1 by omega, List.getElem?_cons_succ]
    · rw [if_neg hk]
      by_cases he : k = off + n
      · subst he
        rw [if_pos (by omega)]
        simp only [Nat.sub_self, List.getElem?_cons_zero]
        rw [Array.getElem?_setIfInBounds_self_of_lt (by omega)]
      · rw [if_neg (by omega), Array.getElem?_setIfInBounds_ne (by omega)]

theorem fold_splice {cs : List AV} {vs : Array Value} (h : CellsRep w Z φ ctr cs vs) {v : AV} {x : Value} (hr : CellsRep w Z φ ctr v.cells x.cells) {off : Nat} (hoff : off + v.cells.length ≤ cs.length) :
    CellsRep w Z φ ctr (cs.take off ++ v.cells ++ cs.drop (off + v.cells.length)) (x.cells.zipIdx.foldl (fun cs (c, j) => cs.setIfInBounds (off + j) c) vs) := by
  have e : (x.cells.zipIdx.foldl (fun cs (c, j) => cs.setIfInBounds (off + j) c) vs) = ((x.cells.toList.zipIdx 0).foldl (fun cs p => cs.setIfInBounds (off + p.2) p.1) vs) := by
    rw [← Array.foldl_toList]
    congr 1
    simp
  rw [e]
  have hxl : x.cells.toList.length = v.cells.length := by simp [hr.1]
  obtain ⟨h1, h2⟩ := foldl_set off x.cells.toList 0 vs (by rw [hxl, ← h.1]; omega)
  refine ⟨by rw [h1, ← h.1]; simp; omega, fun i c hi => ?_⟩
  rw [getElem_splice _ _ _ hoff] at hi
  rw [h2, hxl, Nat.add_zero]
  by_cases hin : off ≤ i ∧ i < off + v.cells.length
  · rw [if_pos hin] at hi
    rw [if_pos hin]
    obtain ⟨u, k1, k2, k3⟩ := hr.2 _ c hi
    exact ⟨u, by simpa using k1, k2, k3⟩
  · rw [if_neg hin] at hi
    rw [if_neg hin]
    exact h.2 i c hi

/-- the parts of a struct or an array, by place -/
def PartsRep (w : World) (Z : Cold) (φ : Phi) (ctr : Nat) (place : Nat → Option (Nat × Nat)) : List (Nat × Value) → List (Nat × Nat × AV) → Prop
  | [], [] => True
  | (i, x) :: ps, (off, sz, v) :: qs => place i = some (off, sz) ∧ Rep w Z φ ctr v x ∧ PartsRep w Z φ ctr place ps qs
  | _, _ => False

theorem fill_build {place : Nat → Option (Nat × Nat)} : ∀ {ps : List (Nat × Value)} {qs : List (Nat × Nat × AV)} {z out : List AV} {zc : Array Value}, PartsRep w Z φ ctr place ps qs → CellsRep w Z φ ctr z zc → buildCells z qs = some out →
    ∃ outc, Instr.fill place zc ps = some outc ∧ CellsRep w Z φ ctr out outc
  | [], [], z, out, zc, _, hz, hb => by
    simp only [buildCells, Option.some.injEq] at hb
    subst hb
    exact ⟨zc, rfl, hz⟩
  | [], _ :: _, _, _, _, h, _, _ => h.elim
  | _ :: _, [], _, _, _, h, _, _ => h.elim
  | (i, x) :: ps, (off, sz, v) :: qs, z, out, zc, h, hz, hb => by
    obtain ⟨h1, h2, h3⟩ := h
    simp only [buildCells] at hb
    split at hb
    · rename_i hc
      simp only [Bool.and_eq_true, beq_iff_eq, decide_eq_true_eq] at hc
      obtain ⟨⟨hs, hl⟩, hfit⟩ := hc
      subst hl
      have hcr := h2.cellsRep hs
      have hsp := fold_splice hz hcr hfit
      obtain ⟨outc, k1, k2⟩ := fill_build h3 hsp hb
      refine ⟨outc, ?_, k2⟩
      have n1 : x.cells.size = v.cells.length := hcr.1.symm
      have n2 : ¬ (off + v.cells.length > zc.size) := by rw [← hz.1]; omega
      simp only [Instr.fill, h1, n1, n2]
      simpa using k1
    · cases hb

theorem cellsRep_of_agg {z : List AV} {zv : Value} (h : ofValue zv = some (.agg z)) : CellsRep w Z φ ctr z zv.cells := by
  obtain ⟨hr, _, hs⟩ := ofValue_rep (w := w) (Z := Z) (φ := φ) (ctr := ctr) h
  exact hr.cellsRep hs

theorem partsT_rep {fs : List Field} {env : Env} {a : Act} (hE : EnvRep w Z φ ctr env a.tmps) {place : Nat → Option (Nat × Nat)} (hp : ∀ i f n, nth fs i = some f → cellsT P f.type = some n → place i = some (f.offset, n)) :
    ∀ {ps : List (Nat × Operand)} {qs : List (Nat × Nat × AO)}, partsT P fs ps = some qs → PartsRep w Z φ ctr place (ps.map fun (i, x) => (i, a.eval x)) (vparts env qs)
  | [], qs, h => by
    simp only [partsT, Option.some.injEq] at h
    subst h
    trivial
  | (i, x) :: ps, qs, h => by
    simp only [partsT] at h
    split at h
    · rename_i f ax r hf hx hr
      split at h
      · rename_i n hn
        simp only [Option.some.injEq] at h
        subst h
        exact ⟨hp i f n hf hn, ofOperand_rep hE hx, partsT_rep hE hp hr⟩
      · cases h
    · cases h

theorem arrParts_rep {es : Nat} {env : Env} {a : Act} (hE : EnvRep w Z φ ctr env a.tmps) :
    ∀ {ps : List (Nat × Operand)} {qs : List (Nat × Nat × AO)}, arrParts es ps = some qs → PartsRep w Z φ ctr (fun i => some (i * es, es)) (ps.map fun (i, x) => (i, a.eval x)) (vparts env qs)
  | [], qs, h => by
    simp only [arrParts, Option.some.injEq] at h
    subst h
    trivial
  | (i, x) :: ps, qs, h => by
    simp only [arrParts] at h
    split at h
    · rename_i ax r hx hr
      simp only [Option.some.injEq] at h
      subst h
      exact ⟨rfl, ofOperand_rep hE hx, arrParts_rep hE hr⟩
    · cases h

theorem mapM_places : ∀ (fs : List Field), fs.all (fun f => (cellsT P f.type).isSome) = true →
    ∃ places, fs.mapM (fun f => (P.info? f.type).map fun i => (f.offset, i.size)) = some places ∧ ∀ i f n, nth fs i = some f → cellsT P f.type = some n → places[i]? = some (f.offset, n)
  | [], _ => ⟨[], rfl, fun i f n h => by simp [nth] at h⟩
  | f :: fs, h => by
    simp only [List.all_cons, Bool.and_eq_true] at h
    obtain ⟨places, h1, h2⟩ := mapM_places fs h.2
    obtain ⟨m, hm⟩ := Option.isSome_iff_exists.1 h.1
    obtain ⟨i, hi, hn, _⟩ := cellsT_some hm
    refine ⟨(f.offset, m) :: places, by simp [List.mapM_cons, h1, hi, hn], fun k g n hk hg => ?_⟩
    cases k with
    | zero =>
      simp only [nth, Option.some.injEq] at hk
      subst hk
      rw [hm] at hg
      cases hg
      rfl
    | succ k => exact h2 k g n (by simpa [nth] using hk) hg

theorem snd_build {t : TypeId} {n : Nat} {z : List AV} {env : Env} {a : Act} (hE : EnvRep w Z φ s.ctr env a.tmps) (hz : zeroT P t = some (n, .agg z)) {parts : Array (Nat × Operand)} {qs : List (Nat × Nat × AO)}
    (hp : (∃ fs : Array Field, P.underlying t = some (.struct fs) ∧ fs.toList.all (fun f => (cellsT P f.type).isSome) = true ∧ partsT P fs.toList parts.toList = some qs) ∨
      (∃ len e es, P.underlying t = some (.array len e) ∧ cellsT P e = some es ∧ arrParts es parts.toList = some qs)) {C : CallF} {v : AV} (hev : evOp C (.build z qs) env s = some (.ok v, s')) :
    ∃ x, (Instr.build t (parts.map fun (i, x) => (i, a.eval x))).run P w = .ok x w ∧ Rep w Z φ s.ctr v x ∧ s' = s := by
  simp only [evOp] at hev
  cases hb : buildCells z (vparts env qs) with
  | none => simp [hb] at hev
  | some out =>
    simp only [hb, Option.map_some, Option.some.injEq, Prod.mk.injEq, AOut.ok.injEq] at hev
    obtain ⟨rfl, rfl⟩ := hev
    obtain ⟨it, zv, hi, hn, h0, hzv, hov, hl, _⟩ := zeroT_some hz
    have hzc := cellsRep_of_agg (w := w) (Z := Z) (φ := φ) (ctr := s.ctr) hov
    rcases hp with ⟨fs, hu, hall, hpt⟩ | ⟨len, e, es, hu, hes, hpt⟩
    · obtain ⟨places, hm, hpl⟩ := mapM_places (P := P) fs.toList hall
      obtain ⟨outc, k1, k2⟩ := fill_build (partsT_rep (P := P) hE (place := fun i => places[i]?) hpl hpt) hzc hb
      refine ⟨.agg outc, run_build w t _ outc ?_, k2.agg, rfl⟩
      simp only [Program.built, hi, hu, hzv, hm]
      rw [← k1]
      congr 1
      · funext x; simp
      · exact Array.toList_map
    · obtain ⟨ie, hie, hse, _⟩ := cellsT_some hes
      obtain ⟨outc, k1, k2⟩ := fill_build (arrParts_rep hE hpt) hzc hb
      refine ⟨.agg outc, run_build w t _ outc ?_, k2.agg, rfl⟩
      simp only [Program.built, hi, hu, hzv, hie, hse]
      rw [← k1]
      congr 1
      exact Array.toList_map

/-! ### rows of elements, flat -/

def flat (xs : List AV) : List AV := xs.flatMap AV.cells

theorem flat_length {es : Nat} : ∀ {xs : List AV}, AllSize es xs → (flat xs).length = xs.length * es
  | [], _ => by simp [flat]
  | x :: xs, h => by
    have h1 := h x (by simp)
    have h2 := flat_length (xs := xs) (fun y hy => h y (by simp [hy]))
    simp only [flat, List.flatMap_cons, List.length_append, List.length_cons] at h2 ⊢
    rw [h1, h2, Nat.add_mul]; omega

theorem flat_get {es : Nat} : ∀ {xs : List AV}, AllSize es xs → ∀ {i j : Nat} {x : AV}, xs[i]? = some x → j < es → (flat xs)[i * es + j]? = x.cells[j]?
  | [], _, i, j, x, hx, _ => by simp at hx
  | y :: ys, h, i, j, x, hx, hj => by
    have h1 := h y (by simp)
    have h2 : AllSize es ys := fun z hz => h z (by simp [hz])
    simp only [flat, List.flatMap_cons]
    cases i with
    | zero =>
      simp only [List.getElem?_cons_zero, Option.some.injEq] at hx
      subst hx
      rw [Nat.zero_mul, Nat.zero_add, List.getElem?_append_left (by omega)]
    | succ i =>
      have := flat_get h2 (i := i) (by simpa using hx) hj
      rw [List.getElem?_append_right (by rw [h1, Nat.add_mul]; omega), h1, show (i + 1) * es + j - es = i * es + j by rw [Nat.add_mul]; omega]
      exact this

theorem CellsRep.holds {es : Nat} {xs : List AV} (hsz : AllSize es xs) {c : Array Value} (h : CellsRep w Z φ ctr (flat xs) c) {cl : Bool} (hcl : cl = true → ∀ x ∈ xs, x.closed = true) : Holds w Z φ ctr c es cl xs := by
  intro i x hx
  have hm : x ∈ xs := List.mem_of_getElem? hx
  refine ⟨hsz x hm, fun j y hy => ?_⟩
  have hj : j < es := by
    have := (List.getElem?_eq_some_iff.1 hy).1
    rw [hsz x hm] at this; exact this
  obtain ⟨v, h1, h2, h3⟩ := h.2 (i * es + j) y (by rw [flat_get hsz hx hj]; exact hy)
  exact ⟨v, h1, h2, h3, fun k => cells_closed (hcl k x hm) j y hy⟩

def shiftP (es : Nat) : List (Nat × AV) → List (Nat × Nat × AV)
  | [] => []
  | (j, v) :: ps => (j * es, es, v) :: shiftP es ps

theorem litElems_nil (z : AV) : ∀ n i, litElems z n [] i = List.replicate n z
  | 0, i => rfl
  | n + 1, i => by simp [litElems, litElems_nil z n, List.replicate_succ]

theorem build_lit {es : Nat} {z : AV} (hz : z.cells.length = es) : ∀ (n : Nat) (ps : List (Nat × AV)) (pre : List AV), AllSize es pre → litOk es (pre.length + n) ps pre.length = true →
    buildCells (flat (pre ++ List.replicate n z)) (shiftP es ps) = some (flat (pre ++ litElems z n ps pre.length)) ∧ AllSize es (litElems z n ps pre.length)
  | n, [], pre, hpre, hok => by
    rw [litElems_nil]
    refine ⟨rfl, fun x hx => ?_⟩
    rw [List.eq_of_mem_replicate hx]; exact hz
  | 0, (j, v) :: ps, pre, hpre, hok => by
    simp only [litOk, Bool.and_eq_true, decide_eq_true_eq] at hok
    omega
  | n + 1, (j, v) :: ps, pre, hpre, hok => by
    have hok' := hok
    simp only [litOk, Bool.and_eq_true, decide_eq_true_eq, beq_iff_eq] at hok
    obtain ⟨⟨⟨⟨h1, h2⟩, h3⟩, h4⟩, h5⟩ := hok
    by_cases hj : pre.length = j
    · subst hj
      have hb : Nat.beq pre.length pre.length = true := Nat.beq_refl _
      have hpre' : AllSize es (pre ++ [v]) := by
        intro x hx
        rcases List.mem_append.1 hx with h | h
        · exact hpre x h
        · simp only [List.mem_singleton] at h; subst h; exact h4
      have ih := build_lit hz n ps (pre ++ [v]) hpre' (by simpa [Nat.add_assoc, Nat.add_comm 1 n] using h5)
      simp only [List.length_append, List.length_singleton, List.append_assoc, List.singleton_append] at ih
      simp only [litElems, hb, cond_true]
      refine ⟨?_, fun x hx => ?_⟩
      · simp only [shiftP, buildCells]
        have hfl : (flat pre).length = pre.length * es := flat_length hpre
        have hlen : (flat (pre ++ List.replicate (n + 1) z)).length = (pre.length + (n + 1)) * es := by
          rw [flat_length (es := es)]
          · simp
          · intro x hx
            rcases List.mem_append.1 hx with h | h
            · exact hpre x h
            · rw [List.eq_of_mem_replicate h]; exact hz
        have hfit : pre.length * es + es ≤ (flat (pre ++ List.replicate (n + 1) z)).length := by
          rw [hlen, Nat.add_mul, Nat.add_mul]; omega
        rw [if_pos (by simp [h3, h4, hfit])]
        have e : (flat (pre ++ List.replicate (n + 1) z)).take (pre.length * es) ++ v.cells ++ (flat (pre ++ List.replicate (n + 1) z)).drop (pre.length * es + es) = flat (pre ++ v :: List.replicate n z) := by
          simp only [flat, List.flatMap_append, List.replicate_succ, List.flatMap_cons] at hfl ⊢
          rw [List.take_left' hfl, List.append_assoc, ← List.append_assoc (List.flatMap AV.cells pre) z.cells, List.drop_left' (by simp [hfl, hz])]
        rw [e]
        exact ih.1
      · rcases List.mem_cons.1 hx with h | h
        · subst h; exact h4
        · exact ih.2 x h
    · have hb : Nat.beq pre.length j = false := by
        cases h : Nat.beq pre.length j
        · rfl
        · exact absurd (Nat.eq_of_beq_eq_true h) hj
      have hpre' : AllSize es (pre ++ [z]) := by
        intro x hx
        rcases List.mem_append.1 hx with h | h
        · exact hpre x h
        · simp only [List.mem_singleton] at h; subst h; exact hz
      have ih := build_lit hz n ((j, v) :: ps) (pre ++ [z]) hpre' (by
        simp only [List.length_append, List.length_singleton, litOk, Bool.and_eq_true, decide_eq_true_eq, beq_iff_eq]
        refine ⟨⟨⟨⟨by omega, by omega⟩, h3⟩, h4⟩, ?_⟩
        rw [show pre.length + 1 + n = pre.length + (n + 1) by omega]
        exact h5)
      simp only [List.length_append, List.length_singleton, List.append_assoc, List.singleton_append] at ih
      simp only [litElems, hb, cond_false]
      refine ⟨?_, fun x hx => ?_⟩
      · rw [List.replicate_succ]; exact ih.1
      · rcases List.mem_cons.1 hx with h | h
        · subst h; exact hz
        · exact ih.2 x h

theorem litElems_length (z : AV) : ∀ (n : Nat) (ps : List (Nat × AV)) (i : Nat), (litElems z n ps i).length = n
  | 0, ps, i => by simp [litElems]
  | n + 1, [], i => by simp [litElems, litElems_length z n]
  | n + 1, (j, v) :: ps, i => by
    simp only [litElems]
    cases Nat.beq i j <;> simp [litElems_length z n]

theorem litElems_closed {z : AV} (hz : z.closed = true) : ∀ (n : Nat) (ps : List (Nat × AV)) (i : Nat), closedP ps = true → ∀ x ∈ litElems z n ps i, x.closed = true
  | 0, ps, i, _, x, hx => by simp [litElems] at hx
  | n + 1, [], i, h, x, hx => by
    simp only [litElems, List.mem_cons] at hx
    rcases hx with rfl | hx
    · exact hz
    · exact litElems_closed hz n [] (i + 1) h x hx
  | n + 1, (j, v) :: ps, i, h, x, hx => by
    simp only [litElems] at hx
    have h' := h
    simp only [closedP, Bool.and_eq_true] at h'
    cases hb : Nat.beq i j
    · simp only [hb, cond_false, List.mem_cons] at hx
      rcases hx with rfl | hx
      · exact hz
      · exact litElems_closed hz n _ (i + 1) h x hx
    · simp only [hb, cond_true, List.mem_cons] at hx
      rcases hx with rfl | hx
      · exact h'.1
      · exact litElems_closed hz n ps (i + 1) h'.2 x hx

theorem litParts_rep {es : Nat} {env : Env} {a : Act} (hE : EnvRep w Z φ ctr env a.tmps) :
    ∀ {ps : List (Nat × Operand)} {qs : List (Nat × AO)}, litParts ps = some qs → PartsRep w Z φ ctr (fun i => some (i * es, es)) (ps.map fun (i, x) => (i, a.eval x)) (shiftP es (vlit env qs))
  | [], qs, h => by
    simp only [litParts, Option.some.injEq] at h
    subst h
    trivial
  | (i, x) :: ps, qs, h => by
    simp only [litParts] at h
    split at h
    · rename_i ax r hx hr
      simp only [Option.some.injEq] at h
      subst h
      exact ⟨rfl, ofOperand_rep hE hx, litParts_rep hE hr⟩
    · cases h

/-- the cells of so many zero elements -/
theorem zero_cells {z : AV} {zv : Value} (h : ofValue zv = some z) {es : Nat} (hz : z.cells.length = es) (hes : 0 < es) (m : Nat) :
    CellsRep w Z φ ctr (flat (List.replicate m z)) ((Array.range (m * es)).map (zv.cells[· % zv.cells.size]!)) := by
  obtain ⟨hr, _, hs⟩ := ofValue_rep (w := w) (Z := Z) (φ := φ) (ctr := ctr) h
  have hcr := hr.cellsRep hs
  have hsz : AllSize es (List.replicate m z) := fun x hx => by rw [List.eq_of_mem_replicate hx]; exact hz
  have hl : (flat (List.replicate m z)).length = m * es := by rw [flat_length hsz]; simp
  refine ⟨by rw [hl]; simp, fun k c hk => ?_⟩
  have hkl : k < m * es := by rw [← hl]; exact (List.getElem?_eq_some_iff.1 hk).1
  have hdm : k = (k / es) * es + k % es := by rw [Nat.mul_comm]; exact (Nat.div_add_mod k es).symm
  have hmod : k % es < es := Nat.mod_lt _ hes
  have hdiv : k / es < m := (Nat.div_lt_iff_lt_mul hes).2 hkl
  have hg := flat_get hsz (i := k / es) (j := k % es) (x := z) (by simp [hdiv]) hmod
  rw [← hdm] at hg
  rw [hg] at hk
  obtain ⟨v, h1, h2, h3⟩ := hcr.2 _ c hk
  refine ⟨v, ?_, h2, h3⟩
  have hzs : zv.cells.size = es := by rw [← hcr.1, hz]
  simp only [Array.getElem?_map, Array.getElem?_range, hkl, if_true, Option.map_some, Option.some.injEq, hzs]
  have hlt : k % es < zv.cells.size := by omega
  rw [getElem!_pos zv.cells _ hlt]
  rw [Array.getElem?_eq_getElem hlt] at h1
  exact Option.some.inj h1

end AI
end Go.Proofs.Ytocgbgffpdphdaa
