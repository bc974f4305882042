/- Soundness, ninth part: slices that the call makes. -/
import Derived.Test.YtocgbgffpdphdaaSnd8
namespace Go.Proofs.Ytocgbgffpdphdaa
namespace AI
open Go.RowKit

variable {P : Program} {B : Nat} {w w' w0 : World} {Z Z' : Cold} {φ φ' : Phi} {ctr ctr' : Nat} {s s' : Sto}

theorem snd_newown (hI : Inv w0 B s Z φ w) {es : Nat} (hes : 0 < es) {C : CallF} {env : Env} {v : AV} (hev : evOp C (.newown es) env s = some (.ok v, s')) :
    ∃ φ', Inv w0 B s' Z φ' w ∧ Rep w Z φ' s'.ctr v (.slice none 0 0) ∧ Later B w Z φ s.ctr w Z φ' s'.ctr := by
  simp only [evOp, Option.some.injEq, Prod.mk.injEq, AOut.ok.injEq] at hev
  obtain ⟨rfl, rfl⟩ := hev
  have hbel : Below w.heap.size w w := Below.refl _ _
  have hL : Later B w Z φ s.ctr w Z (phiSet φ s.ctr .nil) (s.ctr + 1) :=
    later_new hI hbel (fun _ _ h => h) (fun _ _ h => .inl h) (fun g hg => phiSet_lt φ _ hg) (by omega)
  refine ⟨phiSet φ s.ctr .nil, hI.push hbel hL (fun _ _ h => .inl h) (fun b i h => hI.live b i h) ⟨by omega, hes, ?_⟩ rfl (fun b e n h => ?_), ?_, hL⟩
  · rw [phiSet_self]; exact ⟨rfl, rfl⟩
  · rw [phiSet_self] at h; cases h
  · exact .ownNil _ _ (by simp [push]) (phiSet_self _ _ _)

/-- a row of cells that the call itself made, as an own slice -/
theorem own_of_row (hI : Inv w0 B s Z φ w) (hbel : Below w.heap.size w w') {c : Array Value} {t : TypeId} {b : Nat} (hb : w.heap.size ≤ b) (hw : w'.heap[b]? = some (.cells c t (0, 0))) {es : Nat} {cl : Bool} {elems : List AV} (hes : 0 < es)
    (hH : Holds w Z φ s.ctr c es cl elems) {cap : Nat} (hcap : cap * es = c.size) (hlen : elems.length ≤ cap) (hm : cap ≤ maxLen) :
    ∃ φ', Inv w0 B (push s (.arr s.ctr es true cl elems)) Z φ' w' ∧ Rep w' Z φ' (s.ctr + 1) (.own s.σ.length s.ctr 0 elems.length) (.slice (some ⟨b, 0, none⟩) elems.length cap) ∧ Later B w Z φ s.ctr w' Z φ' (s.ctr + 1) := by
  obtain ⟨h1, h2⟩ := hI.newRow hbel hb hw hes (by rw [← hcap]; exact Nat.mul_le_mul_right es hlen) hH
  refine ⟨_, h1, .own _ _ _ _ b es c.size cap _ (by omega) (phiSet_self _ _ _) hlen (fun _ => ⟨by simp, by simpa using hcap, hm⟩) rfl, h2⟩

/-- cells that turn cold: a frozen slice -/
theorem sl_of_row (hI : Inv w0 B s Z φ w) (hbel : Below w.heap.size w w') {c : Array Value} {t : TypeId} {b : Nat} (hb : w.heap.size ≤ b) (hw : w'.heap[b]? = some (.cells c t (0, 0))) {es : Nat} {elems : List AV} (hes : 0 < es)
    (hH : Holds w Z φ s.ctr c es true elems) {cap : Nat} (hlen : elems.length ≤ cap) :
    ∃ Z', Inv w0 B s Z' φ w' ∧ Rep w' Z' φ s.ctr (.sl true elems) (.slice (some ⟨b, 0, none⟩) elems.length cap) ∧ Later B w Z φ s.ctr w' Z' φ s.ctr := by
  let Z' : Cold := fun b' i => Z b' i ∨ b' = b
  have hblt : b < w'.heap.size := (Array.getElem?_eq_some_iff.1 hw).1
  obtain ⟨h1, h2⟩ := hI.grow (Z' := Z') hbel (fun _ _ h => .inl h) (fun b' i h => h.imp id fun e => by omega) (fun b' i h => h.elim (fun h => Nat.lt_of_lt_of_le (hI.live b' i h) hbel.size) fun e => by omega)
  refine ⟨Z', h1, ?_, h2⟩
  let f : Nat → Nat → Value := fun i j => (c[i * es + j]?).getD Go.undef
  refine .sl _ _ b 0 cap es f rfl hlen hes (fun i x hx => (hH i x hx).1) (fun i x j y hx hj => ?_) (fun i x j y hx hj => ?_)
  · obtain ⟨v, k1, k2, k3, k4⟩ := (hH i x hx).2 j y hj
    refine ⟨.inr rfl, ?_, k4 rfl, k3⟩
    simp [World.cell?, hw, f, k1]
  · obtain ⟨v, k1, k2, k3, k4⟩ := (hH i x hx).2 j y hj
    have : f i j = v := by simp [f, k1]
    rw [this]
    exact k2.later h2

theorem snd_lit (hI : Inv w0 B s Z φ w) {t e : TypeId} (hu : P.underlying t = some (.slice e)) {es len : Nat} {z : AV} (hz : zeroT P e = some (es, z)) (hlen : len * es ≤ 16777216) {env : Env} {a : Act} (hE : EnvRep w Z φ s.ctr env a.tmps)
    {parts : Array (Nat × Operand)} {ps : List (Nat × AO)} (hp : litParts parts.toList = some ps) {own : Bool} {C : CallF} {v : AV} (hev : evOp C (.lit own es z len ps) env s = some (.ok v, s')) :
    ValOk w0 B w Z φ s.ctr s' v ((Instr.buildSlice t len (parts.map fun (i, x) => (i, a.eval x))).run P w) := by
  obtain ⟨ie, zv, hi, hn, h0, hzv, hov, hl, hc⟩ := zeroT_some hz
  simp only [evOp] at hev
  split at hev
  · rename_i hok
    have hcl0 : z.closed = true := (ofValue_rep (w := w) (Z := Z) (φ := φ) (ctr := s.ctr) hov).2.1
    obtain ⟨hb, hsz⟩ := build_lit hl len (vlit env ps) [] (by intro x hx; simp at hx) (by simpa using hok)
    simp only [List.nil_append, List.length_nil] at hb hsz
    obtain ⟨outc, k1, k2⟩ := fill_build (litParts_rep (es := es) hE hp) (zero_cells (w := w) (Z := Z) (φ := φ) (ctr := s.ctr) hov hl h0 len) hb
    have hlel : (litElems z len (vlit env ps) 0).length = len := litElems_length _ _ _ _
    have hcs : outc.size = len * es := by rw [← k2.1, flat_length hsz, hlel]
    have run : (Instr.buildSlice t len (parts.map fun (i, x) => (i, a.eval x))).run P w = .ok (.slice (some ⟨w.heap.size, 0, none⟩) len len) (w.alloc (.cells outc e)) := by
      have hnl : ¬ (16777216 < len * es) := by omega
      by_cases hle : len * es = 0
      · have hl0 : len = 0 := by
          rcases Nat.mul_eq_zero.1 hle with h | h
          · exact h
          · omega
        subst hl0
        have k1' : Instr.fill (fun i => some (i * es, es)) (Array.map (fun _ => (default : Value)) (Array.range 0)) (parts.toList.map fun x => (x.1, a.eval x.2)) = some outc := by
          rw [← k1]
          congr 1
          simp
        simp only [Instr.buildSlice, Sem.run_bind, run_underlying hu, Result.andThen_ok, run_sizeOf hc]
        simp [k1', Go.newRow]
      · simp only [Instr.buildSlice, Sem.run_bind, run_underlying hu, Result.andThen_ok, run_sizeOf hc]
        have k1' : Instr.fill (fun i => some (i * es, es)) ((Array.range (len * es)).map (zv.cells[· % zv.cells.size]!)) (parts.toList.map fun x => (x.1, a.eval x.2)) = some outc := k1
        simp [hnl, hle, run_zeroValue hi hzv, k1', Go.newRow]
    split at hev
    · simp only [Option.some.injEq, Prod.mk.injEq, AOut.ok.injEq] at hev
      obtain ⟨rfl, rfl⟩ := hev
      obtain ⟨φ', h1, h2, h3⟩ := own_of_row hI (below_alloc w _) (Nat.le_refl _) (heap_alloc_new w (.cells outc e)) h0 (k2.holds (cl := closedP (vlit env ps)) hsz (fun h => litElems_closed hcl0 _ _ _ h)) (cap := len) hcs.symm (by omega) (by unfold maxLen; have := Nat.le_mul_of_pos_right len h0; omega)
      rw [hlel] at h2
      exact ⟨_, _, Z, φ', run, h1, h2, h3⟩
    · split at hev
      · rename_i hl0
        subst hl0
        simp only [Option.some.injEq, Prod.mk.injEq, AOut.ok.injEq] at hev
        obtain ⟨rfl, rfl⟩ := hev
        obtain ⟨h1, h2⟩ := hI.grow (Z' := Z) (below_alloc w (.cells outc e)) (fun _ _ h => h) (fun _ _ h => .inl h) (fun b i h => by have := hI.live b i h; simp; omega)
        exact ⟨_, _, Z, φ, run, h1, .zc _, h2⟩
      · split at hev
        · rename_i hclp
          simp only [Option.some.injEq, Prod.mk.injEq, AOut.ok.injEq] at hev
          obtain ⟨rfl, rfl⟩ := hev
          obtain ⟨Z', h1, h2, h3⟩ := sl_of_row hI (below_alloc w _) (Nat.le_refl _) (heap_alloc_new w (.cells outc e)) h0 (k2.holds (cl := true) hsz (fun _ => litElems_closed hcl0 _ _ _ hclp)) (cap := len) (by omega)
          rw [hlel] at h2
          exact ⟨_, _, Z', φ, run, h1, h2, h3⟩
        · cases hev
  · cases hev

theorem snd_mkslice (hI : Inv w0 B s Z φ w) {t e : TypeId} (hu : P.underlying t = some (.slice e)) {es bytes : Nat} {z : AV} (hz : zeroT P e = some (es, z)) {ie : TypeInfo} (hie : P.info? e = some ie) (hby : ie.bytes = bytes) (hby0 : 0 < bytes) {l c : AV} {vl vc : Value} (hl : Rep w Z φ s.ctr l vl) (hc : Rep w Z φ s.ctr c vc)
    {env : Env} {al ac : AO} (h1 : al.val env = l) (h2 : ac.val env = c) {C : CallF} {v : AV} (hev : evOp C (.mkslice es bytes z al ac) env s = some (.ok v, s')) :
    ValOk w0 B w Z φ s.ctr s' v ((Instr.makeSlice t vl vc).run P w) := by
  obtain ⟨ie', zv, hi, hn, h0, hzv, hov, hzl, hcT⟩ := zeroT_some hz
  rw [hie] at hi
  cases hi
  simp only [evOp, h1, h2] at hev
  split at hev
  · rename_i k n k' m
    split at hev
    · rename_i hcond
      obtain ⟨h3, h4, h5⟩ := hcond
      simp only [Option.some.injEq, Prod.mk.injEq, AOut.ok.injEq] at hev
      obtain ⟨rfl, rfl⟩ := hev
      cases hl; cases hc
      unfold roomy at h5
      have hm : m.toNat ≤ 2 ^ 46 := Nat.le_trans (Nat.le_mul_of_pos_right _ hby0) h5
      have hmb : (ie.bytes : Int) * m ≤ 281474976710656 := by
        have : ((m.toNat * bytes : Nat) : Int) ≤ 2 ^ 46 := by exact_mod_cast h5
        rw [Int.natCast_mul, Int.toNat_of_nonneg (by omega), Int.mul_comm] at this
        rw [hby]; omega
      have run := run_make (P := P) w t e ie zv hu hie hzv k k' n m h3 h4 hmb (by omega)
      have hsz : AllSize es (List.replicate m.toNat z) := fun x hx => by rw [List.eq_of_mem_replicate hx]; exact hzl
      have hH := (zero_cells (w := w) (Z := Z) (φ := φ) (ctr := s.ctr) hov hzl h0 m.toNat).holds (cl := z.closed) hsz (fun h x hx => by rw [List.eq_of_mem_replicate hx]; exact h)
      have hH' : Holds w Z φ s.ctr (madeCells zv.cells (m.toNat * ie.size)) es z.closed (List.replicate n.toNat z) := by
        intro i x hx
        have hin : i < n.toNat := by
          have := (List.getElem?_eq_some_iff.1 hx).1
          simpa using this
        refine hn ▸ hH i x ?_
        rw [List.getElem?_replicate, if_pos (by omega)]
        rw [List.getElem?_replicate, if_pos hin] at hx
        exact hx
      have hlen : (List.replicate n.toNat z).length = n.toNat := List.length_replicate
      obtain ⟨φ', k1, k2, k3⟩ := own_of_row hI (below_alloc w _) (Nat.le_refl _) (heap_alloc_new w (.cells (madeCells zv.cells (m.toNat * ie.size)) e)) h0 hH' (cap := m.toNat) (by rw [size_madeCells, hn]) (by rw [hlen]; omega) (by unfold maxLen; omega)
      rw [hlen] at k2
      exact ⟨_, _, Z, φ', run, k1, k2, k3⟩
    · cases hev
  · cases hev

end AI
end Go.Proofs.Ytocgbgffpdphdaa
