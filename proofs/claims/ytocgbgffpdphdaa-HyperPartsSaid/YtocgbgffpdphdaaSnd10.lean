/- Soundness, tenth part: append. -/
import Derived.Test.YtocgbgffpdphdaaSnd9
namespace Go.Proofs.Ytocgbgffpdphdaa
namespace AI
open Go.RowKit

variable {P : Program} {B : Nat} {w w' w0 : World} {Z Z' : Cold} {φ φ' : Phi} {ctr ctr' : Nat} {s s' : Sto}

/-- elements that are read from a place on -/
def RowAt (w : World) (Z : Cold) (φ : Phi) (ctr : Nat) (es : Nat) (ys : List AV) (b off : Nat) : Prop :=
  ∀ (i : Nat) (x : AV), ys[i]? = some x → At w Z φ ctr x.cells b (off + i * es)

theorem RowAt.news {es : Nat} (hes : 0 < es) {ys : List AV} {b off : Nat} (h : RowAt w Z φ ctr es ys b off) (hsz : AllSize es ys) :
    ∃ news : List Value, news.length = ys.length * es ∧ (∀ (j : Nat) (u : Value), news[j]? = some u → w.cell? ((⟨b, off, none⟩ : Addr).add j) = some u) ∧ CellsRep w Z φ ctr (flat ys) news.toArray := by
  have hl := flat_length hsz
  have key : ∀ k, k < ys.length * es → ∃ c v, (flat ys)[k]? = some c ∧ w.cell? ⟨b, off + k, none⟩ = some v ∧ Rep w Z φ ctr c v ∧ c.one = true := by
    intro k hk
    have hdm : k = (k / es) * es + k % es := by rw [Nat.mul_comm]; exact (Nat.div_add_mod k es).symm
    have hmod : k % es < es := Nat.mod_lt _ hes
    have hdiv : k / es < ys.length := (Nat.div_lt_iff_lt_mul hes).2 hk
    have hx := List.getElem?_eq_getElem hdiv
    have hj : k % es < ys[k / es].cells.length := by rw [hsz _ (List.getElem_mem hdiv)]; exact hmod
    have hg := flat_get hsz hx hmod
    rw [← hdm, List.getElem?_eq_getElem hj] at hg
    obtain ⟨v, h1, h2, h3⟩ := h _ _ hx _ _ (List.getElem?_eq_getElem hj)
    refine ⟨_, v, hg, ?_, h2, h3⟩
    rw [show off + k = off + k / es * es + k % es by omega]
    exact h1
  let f : Nat → Value := fun k => (w.cell? ⟨b, off + k, none⟩).getD Go.undef
  have hf : ∀ k, k < ys.length * es → w.cell? ⟨b, off + k, none⟩ = some (f k) := by
    intro k hk
    obtain ⟨_, v, _, h2, _⟩ := key k hk
    simp [f, h2]
  refine ⟨(List.range (ys.length * es)).map f, by simp, fun j u hu => ?_, by simp [hl], fun i c hi => ?_⟩
  · rw [List.getElem?_map] at hu
    have hj : j < ys.length * es := by
      cases h : (List.range (ys.length * es))[j]? with
      | none => simp [h] at hu
      | some q => have := (List.getElem?_eq_some_iff.1 h).1; simpa using this
    rw [List.getElem?_range hj] at hu
    simp only [Option.map_some, Option.some.injEq] at hu
    rw [Addr.add_lit, ← hu]
    exact hf j hj
  · have hi' : i < ys.length * es := by
      have := (List.getElem?_eq_some_iff.1 hi).1
      rw [hl] at this; exact this
    obtain ⟨c', v, h1, h2, h3, h4⟩ := key i hi'
    rw [h1] at hi
    cases hi
    refine ⟨v, ?_, h3, h4⟩
    have : f i = v := by simp [f, h2]
    simp [hi', this]

theorem AllSize.sub {es : Nat} {xs : List AV} (h : AllSize es xs) (l n : Nat) : AllSize es (sub xs l n) := fun x hx => h x (List.mem_of_mem_drop (List.mem_of_mem_take hx))

/-- the elements of a slice that is read -/
theorem elemsOf_rep (hI : Inv w0 B s Z φ w) {es : Nat} {x : AV} {vx : Value} (hx : Rep w Z φ s.ctr x vx) {ys : List AV} {cl : Bool} (h : elemsOf s es x = some (ys, cl)) (hsz : AllSize es ys) :
    ∃ base m c, vx = .slice base m c ∧ m = ys.length ∧ (base = none → ys = []) ∧ (∀ a, base = some a → ys ≠ [] → a.spot = none ∧ RowAt w Z φ s.ctr es ys a.block a.off) ∧ (cl = true → ∀ y ∈ ys, y.closed = true) := by
  unfold elemsOf at h
  split at h
  · rename_i nn xs
    simp only [Option.some.injEq, Prod.mk.injEq] at h
    obtain ⟨rfl, rfl⟩ := h
    cases hx with
    | nilsl => exact ⟨none, 0, 0, rfl, rfl, fun _ => rfl, fun a ha => (by cases ha), fun _ y hy => (by simp at hy)⟩
    | sl0 a0 => exact ⟨some a0, 0, 0, rfl, rfl, fun h => (by cases h), fun a ha => (by cases ha; exact fun h => (h rfl).elim), fun _ y hy => (by simp at hy)⟩
    | sl _ n b off cap es' f hn hcap hes' hsz' hc hr =>
      refine ⟨_, _, _, rfl, hn, fun h => (by cases h), fun a ha => ?_, fun _ y hy => ?_⟩
      · cases ha
        refine fun hne => ⟨rfl, fun i x hx j c hj => ?_⟩
        have he : es' = es := by
          rw [← hsz' _ _ hx]
          exact hsz x (List.mem_of_getElem? hx)
        subst he
        exact ⟨f i j, (hc i x j c hx hj).2.1, hr i x j c hx hj, (hc i x j c hx hj).2.2.2⟩
      · obtain ⟨i, hi⟩ := List.mem_iff_getElem?.1 hy
        have hone : ∀ (j : Nat) (c : AV), y.cells[j]? = some c → c.closed = true := fun j c hj => (hc i y j c hi hj).2.2.1
        cases y with
        | agg cs => simp only [AV.closed]; exact closedL_of_mem hone
        | _ => exact hone 0 _ rfl
  · simp only [Option.some.injEq, Prod.mk.injEq] at h
    obtain ⟨rfl, rfl⟩ := h
    cases hx with
    | zc a0 => exact ⟨_, _, _, rfl, rfl, fun h => (by cases h), fun a ha => (by cases ha; exact fun h => (h rfl).elim), fun _ y hy => (by simp at hy)⟩
  · rename_i o g off len
    split at h
    · rename_i g' es' nn cl' elems ho
      split at h
      · rename_i hc
        obtain ⟨rfl, rfl, hfit⟩ := hc
        simp only [Option.some.injEq, Prod.mk.injEq] at h
        obtain ⟨rfl, rfl⟩ := h
        rw [nth_eq] at ho
        have hlen : (sub elems off len).length = len := length_sub hfit
        have hob := hI.objs o _ ho
        have hcl : cl' = true → ∀ y ∈ sub elems off len, y.closed = true := by
          intro hcl y hy
          have hy' : y ∈ elems := List.mem_of_mem_drop (List.mem_of_mem_take hy)
          obtain ⟨i, hi⟩ := List.mem_iff_getElem?.1 hy'
          obtain ⟨_, _, h3⟩ := hob
          cases hφ : φ g with
          | nil => rw [hφ] at h3; rw [h3.2] at hi; simp at hi
          | zc => rw [hφ] at h3; rw [h3.2] at hi; simp at hi
          | pend => rw [hφ] at h3; exact h3.elim
          | row b e n =>
            rw [hφ] at h3
            obtain ⟨_, _, _, _, _, c, t, _, _, hH⟩ := h3
            have hone : ∀ (j : Nat) (c : AV), y.cells[j]? = some c → c.closed = true := by
              intro j c hj
              obtain ⟨_, _, _, _, k⟩ := (hH i y hi).2 j c hj
              exact k hcl
            cases y with
            | agg cs => simp only [AV.closed]; exact closedL_of_mem hone
            | _ => exact hone 0 _ rfl
        cases hx with
        | own _ _ _ _ b e size cap a hg hφ hcap ha hs =>
          refine ⟨_, _, _, rfl, hlen.symm, fun h => (by cases h), fun a' ha' => ?_, hcl⟩
          cases ha'
          refine fun hne => ⟨hs, ?_⟩
          have hl0 : 0 < len := by
            rcases Nat.eq_zero_or_pos len with h | h
            · exact (hne (List.eq_nil_of_length_eq_zero (hlen.trans h))).elim
            · exact h
          obtain ⟨rfl, _⟩ := ha (.inl hl0)
          intro i x hx
          obtain ⟨hx', _⟩ := getElem_sub hx
          obtain ⟨he, hat⟩ := hob.at hφ hx'
          subst he
          rw [show off * e + i * e = (off + i) * e by rw [Nat.add_mul]]
          exact hat
        | ownNil _ _ hg hφ => exact ⟨none, 0, 0, rfl, hlen.symm, fun _ => List.eq_nil_of_length_eq_zero hlen, fun a ha => (by cases ha), hcl⟩
        | ownZc _ _ a0 hg hφ => exact ⟨_, _, _, rfl, hlen.symm, fun h => (by cases h), fun a ha => (by cases ha; exact fun h => (h (List.eq_nil_of_length_eq_zero hlen)).elim), hcl⟩
      · cases h
    · cases h
  · cases h

theorem cellsRep_one {cs : List AV} {news : List Value} (h : CellsRep w Z φ ctr cs news.toArray) : ∀ u ∈ news, u.oneCell' = true := by
  intro u hu
  obtain ⟨j, hj⟩ := List.mem_iff_getElem?.1 hu
  have hjl : j < cs.length := by
    have := (List.getElem?_eq_some_iff.1 hj).1
    have h1 := h.1
    simp at h1; omega
  obtain ⟨v, k1, k2, k3⟩ := h.2 j _ (List.getElem?_eq_getElem hjl)
  have : u = v := by
    have : news[j]? = some v := by simpa using k1
    rw [hj] at this; exact Option.some.inj this
  subst this
  exact (k2.oneCell k3).1

theorem run_append_zero {t ty e : TypeId} {i : TypeInfo} (ht : P.underlying t = some (.slice e)) (hi : P.info? e = some i) (base : Option Addr) (sLen sCap : Nat) (h : sLen ≤ sCap) (b' : Option Addr) (c : Nat) :
    (Builtin.append_ #[t, t] ty #[.slice base sLen sCap, .slice b' 0 c]).run P w = .ok (.slice base sLen sCap) w := by
  cases base <;> cases b' <;> simp [Builtin.append_, run_underlying ht, sizeOf, typeInfo, hi, Builtin.lenOf, h, Builtin.firstCells, Go.loadCells, loadCellsFrom, storeCells]

theorem run_append_room' {t ty e : TypeId} {i : TypeInfo} (ht : P.underlying t = some (.slice e)) (hi : P.info? e = some i)
    (g sLen sCap : Nat) (cur : Array Value) (t' : TypeId) (hg : w.heap[g]? = some (.cells cur t' (0, 0)))
    (a : Addr) (m c : Nat) (news : List Value) (hl : news.length = m * i.size) (hnews : ∀ (j : Nat) (u : Value), news[j]? = some u → w.cell? (a.add j) = some u) (h1 : ∀ u ∈ news, u.oneCell' = true)
    (hroom : sLen + m ≤ sCap) (hfit : sLen * i.size + news.length ≤ cur.size) :
    (Builtin.append_ #[t, t] ty #[.slice (some ⟨g, 0, none⟩) sLen sCap, .slice (some a) m c]).run P w =
      .ok (.slice (some ⟨g, 0, none⟩) (sLen + m) sCap) (w.setRow g (cur.toList.take (sLen * i.size) ++ news ++ cur.toList.drop (sLen * i.size + news.length)).toArray) := by
  have hf := run_firstCells_some (P := P) w i.size m a m c news hl hnews
  have hst := run_storeCells_at P g (sLen * i.size) t' news 0 cur w hg (by simpa using hfit) h1
  simp only [Nat.add_zero] at hst
  simp [Builtin.append_, run_underlying ht, sizeOf, typeInfo, hi, Builtin.lenOf, hroom, hf, Addr.add_lit, hst]

theorem flat_append (xs ys : List AV) : flat (xs ++ ys) = flat xs ++ flat ys := by simp [flat]

theorem CellsRep.append {cs ds : List AV} {xs ys : List Value} (h : CellsRep w Z φ ctr cs xs.toArray) (k : CellsRep w Z φ ctr ds ys.toArray) : CellsRep w Z φ ctr (cs ++ ds) (xs ++ ys).toArray := by
  have h1 : cs.length = xs.length := by simpa using h.1
  have k1 : ds.length = ys.length := by simpa using k.1
  refine ⟨by simp [h1, k1], fun i c hi => ?_⟩
  by_cases hlt : i < cs.length
  · rw [List.getElem?_append_left hlt] at hi
    obtain ⟨v, a, b⟩ := h.2 i c hi
    refine ⟨v, ?_, b⟩
    have : xs[i]? = some v := by simpa using a
    simp [List.getElem?_append_left (show i < xs.length by omega), this]
  · rw [List.getElem?_append_right (by omega)] at hi
    obtain ⟨v, a, b⟩ := k.2 _ c hi
    refine ⟨v, ?_, b⟩
    have : ys[i - xs.length]? = some v := by rw [← h1]; simpa using a
    simp [List.getElem?_append_right (show xs.length ≤ i by omega), this]

theorem Holds.extend {es : Nat} {cl : Bool} {xs : List AV} {cs : List Value} {c : Array Value} (h : Holds w Z φ ctr cs.toArray es cl xs) (hc : ∀ k, k < cs.length → c[k]? = cs[k]?) : Holds w Z φ ctr c es cl xs := by
  intro i x hx
  obtain ⟨h1, h2⟩ := h i x hx
  refine ⟨h1, fun j y hy => ?_⟩
  obtain ⟨v, a, b⟩ := h2 j y hy
  have a' : cs[i * es + j]? = some v := by simpa using a
  exact ⟨v, by rw [hc _ (List.getElem?_eq_some_iff.1 a').1]; exact a', b⟩

/-- the first elements of an object, as cells -/
theorem Holds.flat_take {c : Array Value} {es : Nat} {cl : Bool} {elems : List AV} (hes : 0 < es) (h : Holds w Z φ ctr c es cl elems) {n : Nat} (hn : n ≤ elems.length) (hfit : elems.length * es ≤ c.size) :
    CellsRep w Z φ ctr (flat (elems.take n)) (c.toList.take (n * es)).toArray ∧ AllSize es (elems.take n) := by
  have hsz : AllSize es (elems.take n) := by
    intro x hx
    obtain ⟨i, hi⟩ := List.mem_iff_getElem?.1 (List.mem_of_mem_take hx)
    exact (h i x hi).1
  have hl := flat_length hsz
  have hnl : (elems.take n).length = n := by simp; omega
  have hne : n * es ≤ c.size := Nat.le_trans (Nat.mul_le_mul_right es hn) hfit
  refine ⟨⟨by rw [hl, hnl]; simp; omega, fun k y hk => ?_⟩, hsz⟩
  have hk' : k < n * es := by
    have := (List.getElem?_eq_some_iff.1 hk).1
    rw [hl, hnl] at this; exact this
  have hdm : k = (k / es) * es + k % es := by rw [Nat.mul_comm]; exact (Nat.div_add_mod k es).symm
  have hmod : k % es < es := Nat.mod_lt _ hes
  have hdiv : k / es < n := (Nat.div_lt_iff_lt_mul hes).2 hk'
  have hx : (elems.take n)[k / es]? = some elems[k / es] := by
    rw [List.getElem?_take_of_lt hdiv]; exact List.getElem?_eq_getElem (by omega)
  have hg := flat_get hsz hx hmod
  rw [← hdm] at hg
  rw [hg] at hk
  obtain ⟨v, k1, k2, k3, _⟩ := (h _ _ (List.getElem?_eq_getElem (show k / es < elems.length by omega))).2 _ y hk
  refine ⟨v, ?_, k2, k3⟩
  rw [← hdm] at k1
  have k1' : c.toList[k]? = some v := by simpa using k1
  simp [List.getElem?_take_of_lt hk', k1]

theorem snd_append (hI : Inv w0 B s Z φ w) {t ty e : TypeId} (hu : P.underlying t = some (.slice e)) {es bytes : Nat} {z : AV} (hz : zeroT P e = some (es, z)) {ie : TypeInfo} (hie : P.info? e = some ie) (hby : ie.bytes = bytes) (hby0 : 0 < bytes)
    {a x : AV} {va vx : Value} (ha : Rep w Z φ s.ctr a va) (hx : Rep w Z φ s.ctr x vx) {ys : List AV} {cl : Bool} (hys : elemsOf s es x = some (ys, cl)) {v : AV} (hev : evAppend es bytes s a ys cl = some (v, s')) :
    ValOk w0 B w Z φ s.ctr s' v ((Builtin.append_ #[t, t] ty #[va, vx]).run P w) := by
  obtain ⟨ie', zv, hi, hn, h0, hzv, hov, hzl, hcT⟩ := zeroT_some hz
  rw [hie] at hi
  cases hi
  have hzs : zv.cells.size = es := by
    obtain ⟨hr, _, hs⟩ := ofValue_rep (w := w) (Z := Z) (φ := φ) (ctr := s.ctr) hov
    rw [← (hr.cells_get hs).1, hzl]
  subst hn
  -- what is common: fresh memory for 'olds' and the new elements
  have fresh : ∀ (pre : List AV) (olds : List Value) (news : List Value) (clp : Bool) (old : Nat), AllSize ie.size pre → CellsRep w Z φ s.ctr (flat pre) olds.toArray → (clp = true → ∀ y ∈ pre, y.closed = true) → AllSize ie.size ys → CellsRep w Z φ s.ctr (flat ys) news.toArray → (cl = true → ∀ y ∈ ys, y.closed = true) →
      roomy bytes (pre.length + ys.length) → old < pre.length + ys.length →
      Below w.heap.size w (w.drew.alloc (.cells (olds.toArray ++ news.toArray ++ Builtin.zeroCells zv.cells (grownCap w (pre.length + ys.length) old e - (pre.length + ys.length))) e)) ∧
      Holds w Z φ s.ctr (olds.toArray ++ news.toArray ++ Builtin.zeroCells zv.cells (grownCap w (pre.length + ys.length) old e - (pre.length + ys.length))) ie.size (clp && cl) (pre ++ ys) ∧
      grownCap w (pre.length + ys.length) old e * ie.size = (olds.toArray ++ news.toArray ++ Builtin.zeroCells zv.cells (grownCap w (pre.length + ys.length) old e - (pre.length + ys.length))).size ∧
      (pre ++ ys).length ≤ grownCap w (pre.length + ys.length) old e ∧ grownCap w (pre.length + ys.length) old e ≤ maxLen := by
    intro pre olds news clp old hp1 hp2 hp3 hy1 hy2 hy3 hroom hold
    have hmax : pre.length + ys.length ≤ maxLen := by
      unfold roomy at hroom
      unfold maxLen
      have := Nat.le_mul_of_pos_right (pre.length + ys.length) hby0
      omega
    have hge := grownCap_ge w (pre.length + ys.length) old e
    have hol : olds.length = pre.length * ie.size := by
      have := hp2.1; rw [flat_length hp1] at this; simpa using this.symm
    have hnl : news.length = ys.length * ie.size := by
      have := hy2.1; rw [flat_length hy1] at this; simpa using this.symm
    refine ⟨(Below.refl w.heap.size w).drew.alloc (Nat.le_refl _) _, ?_, ?_, by simpa using hge, grownCap_le_maxLen w _ _ _ hmax⟩
    · have hH : Holds w Z φ s.ctr (olds ++ news).toArray ie.size (clp && cl) (pre ++ ys) := by
        refine CellsRep.holds (fun y hy => ?_) (by rw [flat_append]; exact hp2.append hy2) (fun hc y hy => ?_)
        · rcases List.mem_append.1 hy with h | h
          · exact hp1 y h
          · exact hy1 y h
        · simp only [Bool.and_eq_true] at hc
          rcases List.mem_append.1 hy with h | h
          · exact hp3 hc.1 y h
          · exact hy3 hc.2 y h
      refine hH.extend fun k hk => ?_
      rw [Array.getElem?_append_left (by simpa using hk)]
      simp
    · simp only [Array.size_append, List.size_toArray, size_zeroCells, hzs, hol, hnl, ← Nat.add_mul]
      congr 1
      omega
  have hfits : ∀ n, roomy bytes n → ∀ old, old < n → Builtin.nextslicecap n old * ie.bytes ≤ 281474976710656 := by
    intro n hr old ho
    refine growslice_fits ho ?_
    unfold roomy at hr
    rw [hby]; omega
  have hmaxn : ∀ n, roomy bytes n → ((n : Nat) : Int) ≤ 9223372036854775807 := by
    intro n hr
    unfold roomy at hr
    have := Nat.le_mul_of_pos_right n hby0
    omega
  have hL1 : ∀ (p : Plc), Later B w Z φ s.ctr w Z (phiSet φ s.ctr p) (s.ctr + 1) := fun p => later_new hI (Below.refl _ _) (fun _ _ h => h) (fun _ _ h => .inl h) (fun g hg => phiSet_lt φ _ hg) (by omega)
  unfold evAppend at hev
  split at hev
  · -- nil
    split at hev
    · rename_i hc
      obtain ⟨hsz, hroom⟩ := hc
      simp only [Option.some.injEq, Prod.mk.injEq] at hev
      obtain ⟨rfl, rfl⟩ := hev
      obtain ⟨base, m, c, rfl, rfl, hb0, hb1, hcl⟩ := elemsOf_rep hI hx hys hsz
      cases ha
      by_cases hne : ys = []
      · subst hne
        refine ⟨.slice none 0 0, w, Z, phiSet φ s.ctr .nil, run_append_zero hu hie none 0 0 (Nat.le_refl _) base c, ?_, .ownNil _ _ (Nat.lt_succ_self _) (phiSet_self _ _ _), hL1 _⟩
        refine hI.push (Below.refl _ _) (hL1 _) (fun _ _ h => .inl h) (fun b i h => hI.live b i h) ⟨by omega, h0, ?_⟩ rfl (fun b e n h => ?_)
        · rw [phiSet_self]; exact ⟨rfl, rfl⟩
        · rw [phiSet_self] at h; cases h
      · cases base with
        | none => exact (hne (hb0 rfl)).elim
        | some ad =>
          obtain ⟨ab, ao, asp⟩ := ad
          obtain ⟨hsp, hrow⟩ := hb1 _ rfl hne
          simp only at hsp
          subst hsp
          obtain ⟨news, n1, n2, n3⟩ := hrow.news h0 hsz
          have hpos : 0 < ys.length := List.length_pos_iff.2 hne
          obtain ⟨f1, f2, f3, f4, f5⟩ := fresh [] [] news true 0 (fun y hy => by simp at hy) ⟨rfl, fun i c h => by simp [flat] at h⟩ (fun _ y hy => by simp at hy) hsz n3 hcl (by simpa using hroom) (by simpa using hpos)
          have run := run_append_nil (P := P) w t ty e ie zv hu hie hzv ⟨ab, ao, none⟩ ys.length c news n1 n2 hpos (hmaxn _ hroom) (by have := hfits _ hroom 0 hpos; rwa [nextslicecap_zero hpos] at this)
          simp only [List.length_nil, Nat.zero_add, List.nil_append, Array.empty_append, Bool.true_and] at f1 f2 f3 f4 f5
          obtain ⟨φ', k1, k2, k3⟩ := own_of_row hI f1 (Nat.le_refl _) (heap_alloc_new w.drew _) h0 f2 f3 f4 f5
          have e1 : (!ys.isEmpty) = true := by simp [hne]
          rw [e1]
          exact ⟨_, _, Z, φ', run, k1, k2, k3⟩
    · cases hev
  · -- no cells
    split at hev
    · rename_i hc
      obtain ⟨hsz, hroom⟩ := hc
      simp only [Option.some.injEq, Prod.mk.injEq] at hev
      obtain ⟨rfl, rfl⟩ := hev
      obtain ⟨base, m, c, rfl, rfl, hb0, hb1, hcl⟩ := elemsOf_rep hI hx hys hsz
      cases ha with
      | zc za =>
        by_cases hne : ys = []
        · subst hne
          refine ⟨.slice (some za) 0 0, w, Z, phiSet φ s.ctr .zc, run_append_zero hu hie _ 0 0 (Nat.le_refl _) base c, ?_, .ownZc _ _ _ (Nat.lt_succ_self _) (phiSet_self _ _ _), hL1 _⟩
          refine hI.push (Below.refl _ _) (hL1 _) (fun _ _ h => .inl h) (fun b i h => hI.live b i h) ⟨by omega, h0, ?_⟩ rfl (fun b e n h => ?_)
          · rw [phiSet_self]; exact ⟨rfl, rfl⟩
          · rw [phiSet_self] at h; cases h
        · cases base with
          | none => exact (hne (hb0 rfl)).elim
          | some ad =>
            obtain ⟨ab, ao, asp⟩ := ad
            obtain ⟨hsp, hrow⟩ := hb1 _ rfl hne
            simp only at hsp
            subst hsp
            obtain ⟨news, n1, n2, n3⟩ := hrow.news h0 hsz
            have hpos : 0 < ys.length := List.length_pos_iff.2 hne
            obtain ⟨f1, f2, f3, f4, f5⟩ := fresh [] [] news true 0 (fun y hy => by simp at hy) ⟨rfl, fun i c h => by simp [flat] at h⟩ (fun _ y hy => by simp at hy) hsz n3 hcl (by simpa using hroom) (by simpa using hpos)
            have run := run_append_grow (P := P) w t ty e ie zv hu hie hzv za 0 0 [] (by simp) (fun j v h => by simp at h) ⟨ab, ao, none⟩ ys.length c news n1 n2 (by omega) (by simpa using hmaxn _ hroom) (by simpa using hfits _ hroom 0 hpos)
            simp only [List.length_nil, Nat.zero_add, List.nil_append, Bool.true_and] at f1 f2 f3 f4 f5 run
            obtain ⟨φ', k1, k2, k3⟩ := own_of_row hI f1 (Nat.le_refl _) (heap_alloc_new w.drew _) h0 f2 f3 f4 f5
            exact ⟨_, _, Z, φ', run, k1, k2, k3⟩
    · cases hev
  · -- own
    rename_i o g len
    split at hev
    · rename_i g' es' nn cl' elems ho
      split at hev
      · rename_i hc
        obtain ⟨rfl, rfl, hlen, hsz, hroom⟩ := hc
        simp only [Option.some.injEq, Prod.mk.injEq] at hev
        obtain ⟨rfl, rfl⟩ := hev
        rw [nth_eq] at ho
        obtain ⟨base, m, c, rfl, rfl, hb0, hb1, hcl⟩ := elemsOf_rep hI hx hys hsz
        have hob := hI.objs o _ ho
        obtain ⟨og, _, h3⟩ := hob
        -- a fresh block in the object's place
        have setFresh : ∀ (w1 : World) (cells : Array Value) (cap : Nat) (clp : Bool), Below w.heap.size w w1 → w1.heap[w.heap.size]? = some (.cells cells e (0, 0)) → Holds w Z φ s.ctr cells ie.size clp (elems.take len ++ ys) → cap * ie.size = cells.size → (elems.take len ++ ys).length ≤ cap → cap ≤ maxLen →
            ∃ φ', Inv w0 B ⟨s.σ.set o (.arr s.ctr ie.size true clp (elems.take len ++ ys)), s.ctr + 1⟩ Z φ' w1 ∧ Rep w1 Z φ' (s.ctr + 1) (.own o s.ctr 0 (elems.take len ++ ys).length) (.slice (some ⟨w.heap.size, 0, none⟩) (elems.take len ++ ys).length cap) ∧ Later B w Z φ s.ctr w1 Z φ' (s.ctr + 1) := by
          intro w1 cells cap clp hbel hw1 hH hcap hle hmx
          have hL : Later B w Z φ s.ctr w1 Z (phiSet φ s.ctr (.row w.heap.size ie.size cells.size)) (s.ctr + 1) := later_new hI hbel (fun _ _ h => h) (fun _ _ h => .inl h) (fun g hg => phiSet_lt φ _ hg) (by omega)
          refine ⟨_, hI.set ho (hbel.mono hI.base) hL (fun b i h => Nat.lt_of_lt_of_le (hI.live b i h) hbel.size) (fun o' ob' g' b' e' n' _ ho' hg' hφ' => ⟨hbel.block b' ((hI.objs o' ob' ho').place hg' hφ').1, fun i h => h⟩) ?_ (fun g' b' e' n' hg' hφ' => ?_), ?_, hL⟩
          · refine ⟨by omega, h0, ?_⟩
            rw [phiSet_self]
            refine ⟨rfl, rfl, hI.base, fun i hz => ?_, ?_, cells, e, hw1, rfl, hH.later hL⟩
            · have := hI.live _ i hz; omega
            · rw [← hcap]; exact Nat.mul_le_mul_right _ hle
          · simp only [Obj.gen, Option.some.injEq] at hg'
            subst hg'
            rw [phiSet_self] at hφ'
            simp only [Plc.row.injEq] at hφ'
            exact .inl (by omega)
          · exact .own _ _ _ _ w.heap.size ie.size cells.size cap _ (by omega) (phiSet_self _ _ _) hle (fun _ => ⟨by simp, by simpa using hcap, hmx⟩) rfl
        have htl : (elems.take len).length = len := by simp; omega
        have htl' : (elems.take len ++ ys).length = len + ys.length := by simp; omega
        cases ha with
        | ownNil _ _ hg hφ =>
          rw [hφ] at h3
          obtain ⟨rfl, rfl⟩ := h3
          simp only [Bool.false_or, Nat.zero_add, List.take_nil, List.nil_append] at *
          by_cases hne : ys = []
          · subst hne
            refine ⟨.slice none 0 0, w, Z, phiSet φ s.ctr .nil, run_append_zero hu hie none 0 0 (Nat.le_refl _) base c, ?_, .ownNil _ _ (Nat.lt_succ_self _) (phiSet_self _ _ _), hL1 _⟩
            refine hI.set ho (Below.refl _ _) (hL1 _) (fun b i h => hI.live b i h) (fun _ _ _ _ _ _ _ _ _ _ => ⟨rfl, fun i h => h⟩) ⟨by omega, h0, ?_⟩ (fun g' b' e' n' hg' hφ' => ?_)
            · rw [phiSet_self]; exact ⟨rfl, rfl⟩
            · simp only [Obj.gen, Option.some.injEq] at hg'
              subst hg'
              rw [phiSet_self] at hφ'; cases hφ'
          · cases base with
            | none => exact (hne (hb0 rfl)).elim
            | some ad =>
              obtain ⟨ab, ao, asp⟩ := ad
              obtain ⟨hsp, hrow⟩ := hb1 _ rfl hne
              simp only at hsp
              subst hsp
              obtain ⟨news, n1, n2, n3⟩ := hrow.news h0 hsz
              have hpos : 0 < ys.length := List.length_pos_iff.2 hne
              obtain ⟨f1, f2, f3, f4, f5⟩ := fresh [] [] news cl' 0 (fun y hy => by simp at hy) ⟨rfl, fun i c h => by simp [flat] at h⟩ (fun _ y hy => by simp at hy) hsz n3 hcl (by simpa using hroom) (by simpa using hpos)
              have run := run_append_nil (P := P) w t ty e ie zv hu hie hzv ⟨ab, ao, none⟩ ys.length c news n1 n2 hpos (hmaxn _ hroom) (by have := hfits _ hroom 0 hpos; rwa [nextslicecap_zero hpos] at this)
              simp only [List.length_nil, Nat.zero_add, List.nil_append, Array.empty_append] at f1 f2 f3 f4 f5
              obtain ⟨φ', k1, k2, k3⟩ := setFresh _ _ _ _ f1 (heap_alloc_new w.drew _) f2 f3 f4 f5
              have e1 : (!ys.isEmpty) = true := by simp [hne]
              rw [e1]
              exact ⟨_, _, Z, φ', run, k1, k2, k3⟩
        | ownZc _ _ za hg hφ =>
          rw [hφ] at h3
          obtain ⟨rfl, rfl⟩ := h3
          simp only [Bool.true_or, Nat.zero_add, List.take_nil, List.nil_append] at *
          by_cases hne : ys = []
          · subst hne
            refine ⟨.slice (some za) 0 0, w, Z, phiSet φ s.ctr .zc, run_append_zero hu hie _ 0 0 (Nat.le_refl _) base c, ?_, .ownZc _ _ _ (Nat.lt_succ_self _) (phiSet_self _ _ _), hL1 _⟩
            refine hI.set ho (Below.refl _ _) (hL1 _) (fun b i h => hI.live b i h) (fun _ _ _ _ _ _ _ _ _ _ => ⟨rfl, fun i h => h⟩) ⟨by omega, h0, ?_⟩ (fun g' b' e' n' hg' hφ' => ?_)
            · rw [phiSet_self]; exact ⟨rfl, rfl⟩
            · simp only [Obj.gen, Option.some.injEq] at hg'
              subst hg'
              rw [phiSet_self] at hφ'; cases hφ'
          · cases base with
            | none => exact (hne (hb0 rfl)).elim
            | some ad =>
              obtain ⟨ab, ao, asp⟩ := ad
              obtain ⟨hsp, hrow⟩ := hb1 _ rfl hne
              simp only at hsp
              subst hsp
              obtain ⟨news, n1, n2, n3⟩ := hrow.news h0 hsz
              have hpos : 0 < ys.length := List.length_pos_iff.2 hne
              obtain ⟨f1, f2, f3, f4, f5⟩ := fresh [] [] news cl' 0 (fun y hy => by simp at hy) ⟨rfl, fun i c h => by simp [flat] at h⟩ (fun _ y hy => by simp at hy) hsz n3 hcl (by simpa using hroom) (by simpa using hpos)
              have run := run_append_grow (P := P) w t ty e ie zv hu hie hzv za 0 0 [] (by simp) (fun j v h => by simp at h) ⟨ab, ao, none⟩ ys.length c news n1 n2 (by omega) (by simpa using hmaxn _ hroom) (by simpa using hfits _ hroom 0 hpos)
              simp only [List.length_nil, Nat.zero_add, List.nil_append] at f1 f2 f3 f4 f5 run
              obtain ⟨φ', k1, k2, k3⟩ := setFresh _ _ _ _ f1 (heap_alloc_new w.drew _) f2 f3 f4 f5
              exact ⟨_, _, Z, φ', run, k1, k2, k3⟩
        | own _ _ _ _ b es'' size cap ad hg hφ hcap ha hs =>
          obtain ⟨rfl, hsize, hcm⟩ := ha (.inr rfl)
          rw [hφ] at h3
          obtain ⟨rfl, he, hB, hnz, hfitS, cur, t', hcur, hcs, hH⟩ := h3
          subst he
          simp only [Nat.zero_add, Nat.zero_mul] at hsize hcur ⊢
          simp only [Bool.true_or]
          obtain ⟨p1, p2⟩ := hH.flat_take h0 hlen (by rw [hcs]; exact hfitS)
          have p3 : cl' = true → ∀ y ∈ elems.take len, y.closed = true := by
            intro hc y hy
            obtain ⟨i, hi⟩ := List.mem_iff_getElem?.1 (List.mem_of_mem_take hy)
            have hone : ∀ (j : Nat) (c : AV), y.cells[j]? = some c → c.closed = true := by
              intro j c hj
              obtain ⟨_, _, _, _, k⟩ := (hH i y hi).2 j c hj
              exact k hc
            cases y with
            | agg cs => simp only [AV.closed]; exact closedL_of_mem hone
            | _ => exact hone 0 _ rfl
          by_cases hne : ys = []
          · subst hne
            refine ⟨.slice (some ⟨b, 0, none⟩) len cap, w, Z, phiSet φ s.ctr (.row b ie.size size), run_append_zero hu hie _ len cap hcap base c, ?_, ?_, hL1 _⟩
            · refine hI.set ho (Below.refl _ _) (hL1 _) (fun b i h => hI.live b i h) (fun _ _ _ _ _ _ _ _ _ _ => ⟨rfl, fun i h => h⟩) ⟨by omega, h0, ?_⟩ (fun g' b' e' n' hg' hφ' => ?_)
              · rw [phiSet_self]
                refine ⟨rfl, rfl, hB, hnz, ?_, cur, t', hcur, hcs, ?_⟩
                · rw [htl']
                  exact Nat.le_trans (Nat.mul_le_mul_right _ (by simpa using hlen)) hfitS
                · intro i x hx
                  simp only [List.append_nil] at hx
                  have hx' : elems[i]? = some x := by
                    have hlt : i < len := by
                      have := (List.getElem?_eq_some_iff.1 hx).1
                      simp at this; omega
                    rwa [List.getElem?_take_of_lt hlt] at hx
                  obtain ⟨q1, q2⟩ := hH i x hx'
                  refine ⟨q1, fun j y hy => ?_⟩
                  obtain ⟨u, r1, r2, r3, r4⟩ := q2 j y hy
                  exact ⟨u, r1, r2.later (hL1 _), r3, fun h => r4 (by simp only [Bool.and_eq_true] at h; exact h.1)⟩
              · simp only [Obj.gen, Option.some.injEq] at hg'
                subst hg'
                rw [phiSet_self] at hφ'
                simp only [Plc.row.injEq] at hφ'
                obtain ⟨rfl, _⟩ := hφ'
                exact .inr ⟨g, _, _, rfl, hφ⟩
            · simp only [List.length_nil, Nat.add_zero]
              exact .own _ _ _ _ b ie.size size cap _ (Nat.lt_succ_self _) (phiSet_self _ _ _) hcap (fun _ => ⟨by simp, by simpa using hsize, hcm⟩) rfl
          · cases base with
            | none => exact (hne (hb0 rfl)).elim
            | some ad =>
              obtain ⟨ab, ao, asp⟩ := ad
              obtain ⟨hsp, hrow⟩ := hb1 _ rfl hne
              simp only at hsp
              subst hsp
              obtain ⟨news, n1, n2, n3⟩ := hrow.news h0 hsz
              have hpos : 0 < ys.length := List.length_pos_iff.2 hne
              by_cases hrm : len + ys.length ≤ cap
              · -- in place
                have hfit : len * ie.size + news.length ≤ cur.size := by
                  rw [n1, ← Nat.add_mul, hcs, ← hsize]
                  exact Nat.mul_le_mul_right _ hrm
                have run := run_append_room' (P := P) (ty := ty) hu hie b len cap cur t' hcur ⟨ab, ao, none⟩ ys.length c news n1 n2 (cellsRep_one n3) hrm hfit
                have hbel : Below B w (w.setRow b (cur.toList.take (len * ie.size) ++ news ++ cur.toList.drop (len * ie.size + news.length)).toArray) := ⟨rfl, rfl, rfl, by simp, fun k hk => setRow_other w b k _ (by omega)⟩
                have hL : Later B w Z φ s.ctr (w.setRow b (cur.toList.take (len * ie.size) ++ news ++ cur.toList.drop (len * ie.size + news.length)).toArray) Z (phiSet φ s.ctr (.row b ie.size size)) (s.ctr + 1) := by
                  refine ⟨fun _ _ h => .inl h, by omega, fun _ _ h => h, fun b' i h => ?_, fun g hg => phiSet_lt φ _ hg⟩
                  refine World.cell?_of_block (w := w) (setRow_other w b b' _ ?_)
                  rintro rfl
                  exact hnz i h
                refine ⟨_, _, Z, _, run, hI.set ho hbel hL (fun b' i h => by simpa using hI.live b' i h) (fun o' ob' g' b' e' n' hne' ho' hg' hφ' => ⟨setRow_other w b b' _ ?_, fun i h => h⟩) ⟨by omega, h0, ?_⟩ (fun g' b' e' n' hg' hφ' => ?_), ?_, hL⟩
                · rintro rfl
                  exact hne' (hI.apart o' o ob' _ g' g _ _ _ _ _ ho' ho hg' rfl hφ' hφ)
                · rw [phiSet_self]
                  refine ⟨rfl, rfl, hB, hnz, ?_, _, t', setRow_heap w b cur _ t' _ hcur, ?_, ?_⟩
                  · rw [htl', ← hsize]; exact Nat.mul_le_mul_right _ hrm
                  · simp; omega
                  · have hHn : Holds w Z φ s.ctr (cur.toList.take (len * ie.size) ++ news).toArray ie.size (cl' && cl) (elems.take len ++ ys) := by
                      refine CellsRep.holds (fun y hy => ?_) (by rw [flat_append]; exact p1.append n3) (fun hc y hy => ?_)
                      · rcases List.mem_append.1 hy with h | h
                        · exact p2 y h
                        · exact hsz y h
                      · simp only [Bool.and_eq_true] at hc
                        rcases List.mem_append.1 hy with h | h
                        · exact p3 hc.1 y h
                        · exact hcl hc.2 y h
                    refine (hHn.extend fun k hk => ?_).later hL
                    show (cur.toList.take (len * ie.size) ++ news ++ cur.toList.drop (len * ie.size + news.length)).toArray[k]? = _
                    rw [List.getElem?_toArray, List.getElem?_append_left hk]
                · simp only [Obj.gen, Option.some.injEq] at hg'
                  subst hg'
                  rw [phiSet_self] at hφ'
                  simp only [Plc.row.injEq] at hφ'
                  obtain ⟨rfl, _⟩ := hφ'
                  exact .inr ⟨g, _, _, rfl, hφ⟩
                · exact .own _ _ _ _ b ie.size size cap _ (Nat.lt_succ_self _) (phiSet_self _ _ _) hrm (fun _ => ⟨by simp, by simpa using hsize, hcm⟩) rfl
              · -- a new block
                have hol : (cur.toList.take (len * ie.size)).length = len * ie.size := by
                  have := p1.1
                  rw [flat_length p2, htl] at this
                  simpa using this.symm
                have hroom' : roomy bytes ((elems.take len).length + ys.length) := by rw [htl]; exact hroom
                obtain ⟨f1, f2, f3, f4, f5⟩ := fresh (elems.take len) (cur.toList.take (len * ie.size)) news cl' cap p2 p1 p3 hsz n3 hcl hroom' (by rw [htl]; omega)
                have run := run_append_grow (P := P) w t ty e ie zv hu hie hzv ⟨b, 0, none⟩ len cap (cur.toList.take (len * ie.size)) hol (fun j u h => by
                  rw [Addr.add_lit]
                  have hj : j < len * ie.size := by
                    have := (List.getElem?_eq_some_iff.1 h).1
                    rw [hol] at this; exact this
                  rw [List.getElem?_take_of_lt hj] at h
                  have h' : cur[j]? = some u := by simpa using h
                  simp [World.cell?, hcur, h']) ⟨ab, ao, none⟩ ys.length c news n1 n2 (by omega) (hmaxn _ hroom) (hfits _ hroom cap (by omega))
                rw [htl] at f1 f2 f3 f4 f5
                obtain ⟨φ', k1, k2, k3⟩ := setFresh _ _ _ _ f1 (heap_alloc_new w.drew _) f2 f3 f4 f5
                rw [htl'] at k2
                exact ⟨_, _, Z, φ', run, k1, k2, k3⟩
      · cases hev
    · cases hev
  · cases hev

end AI
end Go.Proofs.Ytocgbgffpdphdaa
