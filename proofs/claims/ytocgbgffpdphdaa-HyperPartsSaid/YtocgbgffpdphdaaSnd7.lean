/- Soundness, seventh part: new variables, stores. -/
import Derived.Test.YtocgbgffpdphdaaSnd6
namespace Go.Proofs.Ytocgbgffpdphdaa
namespace AI
open Go.RowKit

variable {P : Program} {B : Nat} {w w' w0 : World} {Z Z' : Cold} {φ φ' : Phi} {ctr ctr' : Nat} {s s' : Sto}

/-- what an instruction that gives a value has come to -/
def ValOk (w0 : World) (B : Nat) (w : World) (Z : Cold) (φ : Phi) (ctr : Nat) (s' : Sto) (v : AV) (r : Result Value) : Prop :=
  ∃ x w' Z' φ', r = .ok x w' ∧ Inv w0 B s' Z' φ' w' ∧ Rep w' Z' φ' s'.ctr v x ∧ Later B w Z φ ctr w' Z' φ' s'.ctr

theorem holds_one {v : AV} {x : Value} (hr : Rep w Z φ ctr v x) (hs : v.storable = true) : Holds w Z φ ctr x.cells v.cells.length v.closed [v] := by
  obtain ⟨hl, hc⟩ := hr.cells_get hs
  intro i y hy
  cases i with
  | zero =>
    simp only [List.getElem?_cons_zero, Option.some.injEq] at hy
    subst hy
    refine ⟨rfl, fun j c hj => ?_⟩
    obtain ⟨u, h1, h2, h3⟩ := hc j c hj
    exact ⟨u, by simpa using h1, h2, h3, fun h => cells_closed h j c hj⟩
  | succ i => simp at hy

theorem Holds.weaken {c : Array Value} {es : Nat} {cl : Bool} {elems : List AV} (h : Holds w Z φ ctr c es cl elems) {cl' : Bool} (hcl : cl' = true → cl = true) : Holds w Z φ ctr c es cl' elems := by
  intro i x hx
  obtain ⟨h1, h2⟩ := h i x hx
  refine ⟨h1, fun j y hy => ?_⟩
  obtain ⟨u, a, b, c, d⟩ := h2 j y hy
  exact ⟨u, a, b, c, fun k => d (hcl k)⟩

/-- a new variable -/
theorem snd_newVar (hI : Inv w0 B s Z φ w) (t : TypeId) {es : Nat} (hes : 0 < es) {v : AV} {x : Value} (hr : Rep w Z φ s.ctr v x) (hs : v.storable = true) (hl : v.cells.length = es) :
    ∃ w' φ', (newVar t x).run P w = .ok ⟨w.heap.size, 0, none⟩ w' ∧ Inv w0 B (push s (.arr s.ctr es true v.closed [v])) Z φ' w' ∧
      Rep w' Z φ' (s.ctr + 1) (.ref s.σ.length s.ctr 0 0) (.pointer (some ⟨w.heap.size, 0, none⟩)) ∧ Later B w Z φ s.ctr w' Z φ' (s.ctr + 1) := by
  have hlen := (hr.cells_get hs).1
  have hH := holds_one hr hs
  rw [hl] at hH
  obtain ⟨h1, h2⟩ := hI.newRow (below_alloc w (.cells x.cells t)) (Nat.le_refl _) (c := x.cells) (t := t) (heap_alloc_new w _) hes (by simp; omega) hH
  refine ⟨_, _, ?_, h1, ?_, h2⟩
  · simp [newVar, Go.newRow]
  · have := Rep.ref (w := w.alloc (.cells x.cells t)) (Z := Z) (φ := phiSet φ s.ctr (.row w.heap.size es x.cells.size)) (ctr := s.ctr + 1) s.σ.length s.ctr 0 0 w.heap.size es x.cells.size (by omega) (phiSet_self _ _ _)
    simpa using this

theorem zeroT_some {t : TypeId} {n : Nat} {z : AV} (h : zeroT P t = some (n, z)) : ∃ i zv, P.info? t = some i ∧ i.size = n ∧ 0 < n ∧ i.zero = some zv ∧ ofValue zv = some z ∧ z.cells.length = n ∧ cellsT P t = some n := by
  unfold zeroT at h
  split at h
  · rename_i i m hi hc
    split at h
    · rename_i zv hz
      split at h
      · rename_i v hv
        split at h
        · rename_i hl
          simp only [Option.some.injEq, Prod.mk.injEq] at h
          obtain ⟨rfl, rfl⟩ := h
          obtain ⟨i', hi', hn, h0⟩ := cellsT_some hc
          rw [hi] at hi'
          cases hi'
          exact ⟨i, zv, hi, hn, h0, hz, hv, hl, hc⟩
        · cases h
      · cases h
    · cases h
  · cases h

theorem run_zeroValue {t : TypeId} {i : TypeInfo} {zv : Value} (hi : P.info? t = some i) (hz : i.zero = some zv) (w : World) : (zeroValue t).run P w = .ok zv w := by
  simp [zeroValue, typeInfo, hi, hz]

theorem snd_alloc (hI : Inv w0 B s Z φ w) {t : TypeId} {es : Nat} {z v : AV} (hz : zeroT P t = some (es, z)) {C : CallF} {env : Env} (hev : evOp C (.alloc es z) env s = some (.ok v, s')) (old : Value) :
    ValOk w0 B w Z φ s.ctr s' v ((Instr.alloc t true old).run P w) := by
  simp only [evOp, Option.some.injEq, Prod.mk.injEq, AOut.ok.injEq] at hev
  obtain ⟨rfl, rfl⟩ := hev
  obtain ⟨i, zv, hi, hn, h0, hzv, hov, hl, _⟩ := zeroT_some hz
  obtain ⟨hr, _, hs⟩ := ofValue_rep (w := w) (Z := Z) (φ := φ) (ctr := s.ctr) hov
  obtain ⟨w', φ', h1, h2, h3, h4⟩ := snd_newVar (P := P) hI t h0 hr hs hl
  refine ⟨_, w', Z, φ', ?_, h2, h3, h4⟩
  simp [Instr.alloc, run_zeroValue hi hzv, h1]

theorem snd_box (hI : Inv w0 B s Z φ w) {t : TypeId} {es : Nat} (hes : cellsT P t = some es) {x v : AV} {vx : Value} (hx : Rep w Z φ s.ctr x vx) {C : CallF} {env : Env} {ax : AO} (h1 : ax.val env = x) (hev : evOp C (.box es ax) env s = some (.ok v, s')) :
    ValOk w0 B w Z φ s.ctr s' v ((Instr.box t vx).run P w) := by
  simp only [evOp, h1] at hev
  split at hev
  · rename_i hc
    simp only [Bool.and_eq_true, beq_iff_eq] at hc
    simp only [Option.some.injEq, Prod.mk.injEq, AOut.ok.injEq] at hev
    obtain ⟨rfl, rfl⟩ := hev
    obtain ⟨_, _, _, h0⟩ := cellsT_some hes
    obtain ⟨w', φ', k1, k2, k3, k4⟩ := snd_newVar (P := P) hI t h0 hx hc.1 hc.2
    exact ⟨_, w', Z, φ', by simp [Instr.box, k1], k2, k3, k4⟩
  · cases hev

/-! ### a store -/

theorem getElem_splice {α : Type} (cur news : List α) (o : Nat) (ho : o + news.length ≤ cur.length) (k : Nat) :
    (cur.take o ++ news ++ cur.drop (o + news.length))[k]? = if o ≤ k ∧ k < o + news.length then news[k - o]? else cur[k]? := by
  have hto : (cur.take o).length = o := by simp; omega
  by_cases h1 : k < o
  · rw [if_neg (by omega), List.append_assoc, List.getElem?_append_left (by omega), List.getElem?_take_of_lt h1]
  · by_cases h2 : k < o + news.length
    · rw [if_pos ⟨by omega, h2⟩, List.append_assoc, List.getElem?_append_right (by omega), hto, List.getElem?_append_left (by omega)]
    · rw [if_neg (by omega), List.getElem?_append_right (by simp; omega), List.getElem?_drop]
      congr 1
      simp; omega

theorem writeCells_cells {x y : AV} {off : Nat} (h : off + y.cells.length ≤ x.cells.length) : (writeCells x off y).cells = x.cells.take off ++ y.cells ++ x.cells.drop (off + y.cells.length) := by
  unfold writeCells
  split
  · rename_i hc
    obtain ⟨rfl, hl⟩ := hc
    rw [Nat.zero_add, hl]
    simp
  · rfl

theorem writeCells_length {x y : AV} {off : Nat} (h : off + y.cells.length ≤ x.cells.length) : (writeCells x off y).cells.length = x.cells.length := by
  rw [writeCells_cells h]; simp; omega

theorem run_storeVar_at {t ty : TypeId} {b off n : Nat} {cur : Array Value} {x : Value} (hb : w.heap[b]? = some (.cells cur t (0, 0))) (hn : cellsT P ty = some n) (hx : x.cells.size = n) (h1 : ∀ v ∈ x.cells.toList, v.oneCell' = true) (hfit : off + n ≤ cur.size) :
    (storeVar ty ⟨b, off, none⟩ x).run P w = .ok () (w.setRow b (cur.toList.take off ++ x.cells.toList ++ cur.toList.drop (off + n)).toArray) := by
  have := run_storeCells_at P b off t x.cells.toList 0 cur w hb (by simpa [hx] using hfit) h1
  simp only [Nat.add_zero, Array.length_toList, hx] at this
  simp [storeVar, run_sizeOf hn, hx, this]

theorem later_setRow {b : Nat} (hB : B ≤ b) (hz : ∀ i, ¬ Z b i) (cs : Array Value) : Later B w Z φ s.ctr (w.setRow b cs) Z φ s.ctr ∧ Below B w (w.setRow b cs) := by
  have hbel : Below B w (w.setRow b cs) := ⟨rfl, rfl, rfl, by simp, fun k hk => setRow_other w b k cs (by omega)⟩
  refine ⟨⟨fun _ _ h => .inl h, Nat.le_refl _, fun _ _ h => h, fun b' i h => ?_, fun _ _ => rfl⟩, hbel⟩
  refine World.cell?_of_block (w := w) (setRow_other w b b' cs ?_)
  rintro rfl
  exact hz i h

/-- a store into an element of an object -/
theorem Inv.store (hI : Inv w0 B s Z φ w) {o g es : Nat} {nn cl : Bool} {elems : List AV} (ho : s.σ[o]? = some (.arr g es nn cl elems)) {b e size : Nat} (hφ : φ g = .row b e size)
    {i off : Nat} {y v : AV} {x : Value} (hy : elems[i]? = some y) (hr : Rep w Z φ s.ctr v x) (hs : v.storable = true) (hoff : off + v.cells.length ≤ es) {cur : Array Value} {t : TypeId} (hcur : w.heap[b]? = some (.cells cur t (0, 0))) :
    let w' := w.setRow b (cur.toList.take (i * es + off) ++ x.cells.toList ++ cur.toList.drop (i * es + off + v.cells.length)).toArray
    Inv w0 B ⟨s.σ.set o (.arr g es nn (cl && v.closed) (elems.set i (writeCells y off v))), s.ctr⟩ Z φ w' ∧ Later B w Z φ s.ctr w' Z φ s.ctr ∧ i * es + off + v.cells.length ≤ cur.size := by
  intro w'
  have hob := hI.objs o _ ho
  obtain ⟨k1, k2, k3⟩ := hob
  rw [hφ] at k3
  obtain ⟨k4, k5, k6, k7, k8, c, t', k9, k10, k11⟩ := k3
  rw [hcur] at k9
  simp only [Option.some.injEq, Obj.cells.injEq, and_true] at k9
  obtain ⟨rfl, rfl⟩ := k9
  subst k5
  have hi : i < elems.length := (List.getElem?_eq_some_iff.1 hy).1
  have hyl := (k11 i y hy).1
  obtain ⟨hxl, hxc⟩ := hr.cells_get hs
  have hfit : i * e + off + v.cells.length ≤ cur.size := by
    have : (i + 1) * e ≤ elems.length * e := Nat.mul_le_mul_right e hi
    rw [Nat.add_mul] at this
    omega
  obtain ⟨hL, hbel⟩ := later_setRow (w := w) (φ := φ) (s := s) k6 k7 (cur.toList.take (i * e + off) ++ x.cells.toList ++ cur.toList.drop (i * e + off + v.cells.length)).toArray
  have hxl' : x.cells.toList.length = v.cells.length := by simp [hxl]
  have look : ∀ k, (cur.toList.take (i * e + off) ++ x.cells.toList ++ cur.toList.drop (i * e + off + v.cells.length)).toArray[k]? = if i * e + off ≤ k ∧ k < i * e + off + v.cells.length then x.cells[k - (i * e + off)]? else cur[k]? := by
    intro k
    have := getElem_splice cur.toList x.cells.toList (i * e + off) (by simp [hxl']; omega) k
    rw [hxl'] at this
    simpa using this
  refine ⟨hI.set ho hbel hL (fun b' j hz => by simpa [w'] using hI.live b' j hz) (fun o' ob' g' b' e' n' hne ho' hg' hφ' => ?_) ?_ (fun g' b' e' n' hg' hφ' => ?_), hL, hfit⟩
  · refine ⟨setRow_other w b b' _ ?_, fun j h => h⟩
    rintro rfl
    exact hne (hI.apart o' o ob' _ g' g _ _ _ _ _ ho' ho hg' rfl hφ' hφ)
  · refine ⟨k1, k2, ?_⟩
    rw [hφ]
    refine ⟨k4, rfl, k6, k7, by simpa using k8, _, t, setRow_heap w b cur _ t _ hcur, ?_, ?_⟩
    · simp [hxl']; omega
    · intro i' x' hx'
      by_cases hii : i' = i
      · subst hii
        rw [List.getElem?_set_self hi] at hx'
        simp only [Option.some.injEq] at hx'
        subst hx'
        refine ⟨by rw [writeCells_length (by omega), hyl], fun j c hj => ?_⟩
        rw [writeCells_cells (by omega), getElem_splice _ _ _ (by omega)] at hj
        rw [look]
        by_cases hin : off ≤ j ∧ j < off + v.cells.length
        · rw [if_pos hin] at hj
          rw [if_pos (by omega)]
          obtain ⟨u, h1, h2, h3⟩ := hxc _ c hj
          refine ⟨u, by rw [show i' * e + j - (i' * e + off) = j - off by omega]; exact h1, h2.later hL, h3, fun h => ?_⟩
          simp only [Bool.and_eq_true] at h
          exact cells_closed h.2 _ c hj
        · rw [if_neg hin] at hj
          rw [if_neg (by omega)]
          obtain ⟨u, h1, h2, h3, h4⟩ := (k11 i' y hy).2 j c hj
          refine ⟨u, h1, h2.later hL, h3, fun h => ?_⟩
          simp only [Bool.and_eq_true] at h
          exact h4 h.1
      · rw [List.getElem?_set_ne (fun h => hii h.symm)] at hx'
        obtain ⟨hl', hc'⟩ := k11 i' x' hx'
        refine ⟨hl', fun j c hj => ?_⟩
        obtain ⟨u, h1, h2, h3, h4⟩ := hc' j c hj
        have hj' : j < e := by
          have := (List.getElem?_eq_some_iff.1 hj).1
          omega
        refine ⟨u, ?_, h2.later hL, h3, fun h => ?_⟩
        · rw [look, if_neg ?_]
          · exact h1
          · rintro ⟨ha, hb⟩
            rcases Nat.lt_or_gt_of_ne hii with hlt | hgt
            · have : (i' + 1) * e ≤ i * e := Nat.mul_le_mul_right e hlt
              rw [Nat.add_mul] at this
              omega
            · have : (i + 1) * e ≤ i' * e := Nat.mul_le_mul_right e hgt
              rw [Nat.add_mul] at this
              omega
        · simp only [Bool.and_eq_true] at h
          exact h4 h.1
  · simp only [Obj.gen, Option.some.injEq] at hg'
    subst hg'
    rw [hφ] at hφ'
    simp only [Plc.row.injEq] at hφ'
    obtain ⟨rfl, _⟩ := hφ'
    exact .inr ⟨g, e, size, rfl, hφ⟩

theorem snd_store (hI : Inv w0 B s Z φ w) {t : TypeId} {n : Nat} (hn : cellsT P t = some n) {a x v : AV} {va vx : Value} (ha : Rep w Z φ s.ctr a va) (hx : Rep w Z φ s.ctr x vx) {C : CallF} {env : Env} {aa ax : AO} (h1 : aa.val env = a) (h2 : ax.val env = x)
    (hev : evOp C (.store n aa ax) env s = some (.ok v, s')) :
    v = .undef ∧ ∃ w', (Instr.storeAt t va vx).run P w = .ok () w' ∧ Inv w0 B s' Z φ w' ∧ Later B w Z φ s.ctr w' Z φ s'.ctr := by
  simp only [evOp, h1, h2] at hev
  split at hev
  · rename_i o g i off
    split at hev
    · rename_i g' es nn cl elems ho
      split at hev
      · rename_i hg; subst hg
        split at hev
        · rename_i y hy
          split at hev
          · rename_i hc
            simp only [Bool.and_eq_true, beq_iff_eq, decide_eq_true_eq] at hc
            obtain ⟨⟨hs, hl⟩, hfit⟩ := hc
            simp only [Option.some.injEq, Prod.mk.injEq, AOut.ok.injEq] at hev
            obtain ⟨rfl, rfl⟩ := hev
            rw [nth_eq] at ho hy
            cases ha with
            | ref _ _ _ _ b e size hg hφ =>
              obtain ⟨_, _, k3⟩ := hI.objs o _ ho
              rw [hφ] at k3
              obtain ⟨_, he, _, _, _, cur, t', hcur, _, _⟩ := k3
              subst he
              obtain ⟨hI', hL, hsz⟩ := hI.store (off := off) ho hφ hy hx hs (by omega) hcur
              refine ⟨rfl, _, ?_, hI', hL⟩
              have h1c : ∀ u ∈ vx.cells.toList, u.oneCell' = true := by
                intro u hu
                obtain ⟨j, hj⟩ := List.mem_iff_getElem?.1 hu
                obtain ⟨hxl, hxc⟩ := hx.cells_get hs
                have hjl : j < x.cells.length := by
                  have := (List.getElem?_eq_some_iff.1 hj).1
                  simp at this; omega
                obtain ⟨u', k1, k2, k3⟩ := hxc j _ (List.getElem?_eq_getElem hjl)
                have : u = u' := by
                  have hj' : vx.cells[j]? = some u := by simpa using hj
                  rw [k1] at hj'
                  exact (Option.some.inj hj').symm
                subst this
                exact (k2.oneCell k3).1
              have := run_storeVar_at (P := P) (ty := t) (off := i * e + off) (x := vx) hcur hn (by rw [← (hx.cells_get hs).1, hl]) h1c (by omega)
              simp only [Instr.storeAt, Instr.sureAddr, Sem.run_bind, Sem.run_pure, Result.andThen_ok, this, hl]
          · cases hev
        · cases hev
      · cases hev
    · cases hev
  · cases hev

end AI
end Go.Proofs.Ytocgbgffpdphdaa
