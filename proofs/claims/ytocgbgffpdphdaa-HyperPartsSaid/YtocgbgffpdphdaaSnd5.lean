/- Soundness, fifth part: the other operations that leave the world alone. -/
import Derived.Test.YtocgbgffpdphdaaSnd4
namespace Go.Proofs.Ytocgbgffpdphdaa
namespace AI
open Go.RowKit

variable {P : Program} {B : Nat} {w w' w0 : World} {Z Z' : Cold} {φ φ' : Phi} {ctr ctr' : Nat} {s s' : Sto}

theorem run_isAgg {t : TypeId} {sz : Option Nat} (ht : szT P t = some sz) : (isAgg t).run P w = .ok sz.isSome w ∧ ∀ n, sz = some n → cellsT P t = some n := by
  unfold szT at ht
  split at ht
  · rename_i fs n hu hc
    simp only [Option.some.injEq] at ht
    subst ht
    exact ⟨by simp [isAgg, run_underlying hu], fun m hm => by simp only [Option.some.injEq] at hm; subst hm; exact hc⟩
  · rename_i k e n hu hc
    simp only [Option.some.injEq] at ht
    subst ht
    exact ⟨by simp [isAgg, run_underlying hu], fun m hm => by simp only [Option.some.injEq] at hm; subst hm; exact hc⟩
  · rename_i d hns hna hu hc
    simp only [Option.some.injEq] at ht
    subst ht
    exact ⟨by simp only [isAgg, Sem.run_bind, run_underlying hu, Result.andThen_ok]; rfl, fun m hm => by cases hm⟩
  · cases ht

theorem run_part_rep {t : TypeId} {sz : Option Nat} (ht : szT P t = some sz) {cs : List AV} {vs : Array Value} {off : Nat} {v : AV} (hl : cs.length = vs.size) (ho : ∀ (i : Nat) (c : AV), cs[i]? = some c → c.one = true)
    (hr : ∀ (i : Nat) (c : AV), cs[i]? = some c → Rep w Z φ ctr c (vs.getD i undef)) (hv : AI.loadCells (cs.drop off) sz = some v) :
    ∃ x, (part t vs off).run P w = .ok x w ∧ Rep w Z φ ctr v x := by
  obtain ⟨hag, hsz⟩ := run_isAgg (w := w) ht
  cases sz with
  | none =>
    simp only [AI.loadCells, nth_eq, List.getElem?_drop, Nat.add_zero] at hv
    have hlt : off < vs.size := by
      have := (List.getElem?_eq_some_iff.1 hv).1
      omega
    refine ⟨vs[off], ?_, ?_⟩
    · simp [part, hag, Array.getElem?_eq_getElem hlt]
    · have := hr off v hv
      simpa [Array.getD_eq_getD_getElem?, Array.getElem?_eq_getElem hlt] using this
  | some n =>
    simp only [AI.loadCells] at hv
    split at hv
    · rename_i hn
      simp only [Option.some.injEq] at hv
      subst hv
      simp only [List.length_drop] at hn
      have hc := hsz n rfl
      obtain ⟨_, _, _, h0⟩ := cellsT_some hc
      refine ⟨.agg (vs.extract off (off + n)), ?_, ?_⟩
      · simp [part, hag, run_sizeOf hc]
      · refine .agg _ _ (by simp; omega) (fun i c hi => ?_) (fun i c hi => ?_)
        all_goals
          have hi' : i < n := by
            have := (List.getElem?_eq_some_iff.1 hi).1
            simp at this; omega
          rw [List.getElem?_take_of_lt hi', List.getElem?_drop] at hi
        · exact ho _ c hi
        · have := hr _ c hi
          have e : (vs.extract off (off + n)).getD i undef = vs.getD (off + i) undef := by
            simp only [Array.getD_eq_getD_getElem?, Array.getElem?_extract]
            rw [if_pos (by omega)]
          rw [e]; exact this
    · cases hv

theorem run_index_in {w : World} (t e : TypeId) (b : Addr) (len cap es : Nat) (k : IntKind) (i : Int) (hu : P.underlying t = some (.slice e)) (hes : cellsT P e = some es) (h0 : 0 ≤ i) (h1 : i < len) :
    (Instr.indexAt t (.slice (some b) len cap) (.int k i)).run P w = .ok (.pointer (some (b.add (i.toNat * es)))) w := by
  simp [Instr.indexAt, asIntOf, run_underlying hu, h0, h1, run_sizeOf hes]

theorem fref_of_sl {xs : List AV} {b off es : Nat} {f : Nat → Nat → Value}
    (hc : ∀ (i : Nat) (x : AV) (j : Nat) (c : AV), xs[i]? = some x → x.cells[j]? = some c → Z b (off + i * es + j) ∧ w.cell? ⟨b, off + i * es + j, none⟩ = some (f i j) ∧ c.closed = true ∧ c.one = true)
    (hr : ∀ (i : Nat) (x : AV) (j : Nat) (c : AV), xs[i]? = some x → x.cells[j]? = some c → Rep w Z φ ctr c (f i j)) {i : Nat} {x : AV} (hx : xs[i]? = some x) :
    Rep w Z φ ctr (.fref x.cells) (.pointer (some ⟨b, off + i * es, none⟩)) :=
  .fref _ b (off + i * es) (f i) (fun j c hj => hc i x j c hx hj) (fun j c hj => hr i x j c hx hj)

theorem snd_iaddr (hI : Inv w0 B s Z φ w) {t e : TypeId} {es : Nat} (hu : P.underlying t = some (.slice e)) (hes : cellsT P e = some es) {x i v : AV} {vx vi : Value} (hx : Rep w Z φ s.ctr x vx) (hi : Rep w Z φ s.ctr i vi)
    {C : CallF} {env : Env} {ax ai : AO} (h1 : ax.val env = x) (h2 : ai.val env = i) (hev : evOp C (.iaddr es ax ai) env s = some (.ok v, s')) :
    ∃ z, (Instr.indexAt t vx vi).run P w = .ok z w ∧ Rep w Z φ s.ctr v z ∧ s' = s := by
  simp only [evOp, h1, h2] at hev
  split at hev
  · rename_i nn xs k i
    split at hev
    · rename_i h0
      split at hev
      · rename_i y hy
        split at hev
        · rename_i hsz
          simp only [Option.some.injEq, Prod.mk.injEq, AOut.ok.injEq] at hev
          obtain ⟨rfl, rfl⟩ := hev
          rw [nth_eq] at hy
          have hlt := (List.getElem?_eq_some_iff.1 hy).1
          cases hi
          cases hx with
          | nilsl => simp at hlt
          | sl0 => simp at hlt
          | sl _ n b off cap es' f hn hcap hes' hsz' hc hr =>
            have he : es' = es := by rw [← hsz' _ _ hy, hsz]
            subst he
            refine ⟨_, run_index_in t e _ _ _ _ _ _ hu hes h0 (by omega), ?_, rfl⟩
            rw [Addr.add_lit]
            exact fref_of_sl hc hr hy
        · cases hev
      · cases hev
    · cases hev
  · rename_i o g off len k i
    split at hev
    · rename_i g' es' nn cl elems ho
      split at hev
      · rename_i hc
        obtain ⟨rfl, rfl, h0, h1⟩ := hc
        simp only [Option.some.injEq, Prod.mk.injEq, AOut.ok.injEq] at hev
        obtain ⟨rfl, rfl⟩ := hev
        rw [nth_eq] at ho
        cases hi
        cases hx with
        | own _ _ _ _ b es'' size cap a hg hφ hcap ha hs =>
          obtain ⟨rfl, hsize, _⟩ := ha (.inl (by omega))
          have hob := hI.objs o _ ho
          obtain ⟨_, _, h3⟩ := hob
          rw [hφ] at h3
          obtain ⟨_, he, _⟩ := h3
          subst he
          refine ⟨_, run_index_in t e _ _ _ _ _ _ hu hes h0 h1, ?_, rfl⟩
          rw [Addr.add_lit, ← Nat.add_mul]
          exact .ref _ _ _ 0 b es'' size hg hφ
        | ownNil => omega
        | ownZc => omega
      · cases hev
    · cases hev
  · cases hev

theorem snd_aaddr {t e : TypeId} {es n : Nat} (hu : P.underlying t = some (.array n e)) (hes : cellsT P e = some es) {x i v : AV} {vx vi : Value} (hx : Rep w Z φ s.ctr x vx) (hi : Rep w Z φ s.ctr i vi)
    {C : CallF} {env : Env} {ax ai : AO} (h1 : ax.val env = x) (h2 : ai.val env = i) (hev : evOp C (.aaddr es n ax ai) env s = some (.ok v, s')) :
    ∃ z, (Instr.indexAt t vx vi).run P w = .ok z w ∧ Rep w Z φ s.ctr v z ∧ s' = s := by
  have run : ∀ (a : Addr) (k : IntKind) (i : Int), 0 ≤ i → i < n → (Instr.indexAt t (.pointer (some a)) (.int k i)).run P w = .ok (.pointer (some (a.add (i.toNat * es)))) w := by
    intro a k i h0 h1
    simp [Instr.indexAt, asIntOf, run_underlying hu, Instr.sureAddr, h0, h1, run_sizeOf hes]
  simp only [evOp, h1, h2] at hev
  split at hev
  · rename_i cs k i
    split at hev
    · rename_i hc
      simp only [Option.some.injEq, Prod.mk.injEq, AOut.ok.injEq] at hev
      obtain ⟨rfl, rfl⟩ := hev
      obtain ⟨b, off, rfl, _⟩ := fref_at hx
      cases hi
      refine ⟨_, run _ _ _ hc.1 hc.2, ?_, rfl⟩
      rw [Addr.add_lit]
      exact hx.fref_drop _
    · cases hev
  · rename_i o g j off k i
    split at hev
    · rename_i hc
      simp only [Option.some.injEq, Prod.mk.injEq, AOut.ok.injEq] at hev
      obtain ⟨rfl, rfl⟩ := hev
      cases hi
      cases hx with
      | ref _ _ _ _ b es' size hg hφ =>
        refine ⟨_, run _ _ _ hc.1 hc.2, ?_, rfl⟩
        rw [Addr.add_lit, Nat.add_assoc]
        exact .ref _ _ _ _ b es' size hg hφ
    · cases hev
  · cases hev

theorem snd_aidx {t e : TypeId} {es n : Nat} {sz : Option Nat} (hu : P.underlying t = some (.array n e)) (hes : cellsT P e = some es) (ht : szT P e = some sz) {x i v : AV} {vx vi : Value} (hx : Rep w Z φ s.ctr x vx) (hi : Rep w Z φ s.ctr i vi)
    {C : CallF} {env : Env} {ax ai : AO} (h1 : ax.val env = x) (h2 : ai.val env = i) (hev : evOp C (.aidx es n sz ax ai) env s = some (.ok v, s')) :
    ∃ z, (Instr.index t vx vi).run P w = .ok z w ∧ Rep w Z φ s.ctr v z ∧ s' = s := by
  simp only [evOp, h1, h2] at hev
  split at hev
  · rename_i cs k i
    split at hev
    · rename_i hc
      unfold ok at hev
      cases hl : AI.loadCells (cs.drop (i.toNat * es)) sz with
      | none => simp [hl] at hev
      | some v' =>
        simp only [hl, Option.map_some, Option.some.injEq, Prod.mk.injEq, AOut.ok.injEq] at hev
        obtain ⟨rfl, rfl⟩ := hev
        obtain ⟨vs, rfl, hlen, ho, hr⟩ := rep_agg hx
        cases hi
        obtain ⟨z, hz1, hz2⟩ := run_part_rep (P := P) ht hlen ho hr hl
        exact ⟨z, by simp [Instr.index, asIntOf, run_underlying hu, hc.1, hc.2, run_sizeOf hes, hz1], hz2, rfl⟩
    · cases hev
  · cases hev

theorem snd_sidx {t : TypeId} (hu : P.underlying t = some .string) {x i v : AV} {vx vi : Value} (hx : Rep w Z φ s.ctr x vx) (hi : Rep w Z φ s.ctr i vi)
    {C : CallF} {env : Env} {ax ai : AO} (h1 : ax.val env = x) (h2 : ai.val env = i) (hev : evOp C (.sidx ax ai) env s = some (.ok v, s')) :
    ∃ z, (Instr.index t vx vi).run P w = .ok z w ∧ Rep w Z φ s.ctr v z ∧ s' = s := by
  simp only [evOp, h1, h2] at hev
  split at hev
  · rename_i bs k i
    split at hev
    · rename_i h0
      split at hev
      · rename_i b hb
        simp only [Option.some.injEq, Prod.mk.injEq, AOut.ok.injEq] at hev
        obtain ⟨rfl, rfl⟩ := hev
        rw [nth_eq] at hb
        cases hi
        cases hx with
        | str s _ h =>
          subst h
          have hlt : i.toNat < s.size := by
            have := (List.getElem?_eq_some_iff.1 hb).1
            simpa using this
          have hg : s[i.toNat]? = some b := by
            rw [ByteArray.getElem?_lt' s _ hlt]
            have := (List.getElem?_eq_some_iff.1 hb).2
            simp only [Option.some.injEq]
            rw [← this]; simp; rfl
          refine ⟨.int .u8 b.toNat, ?_, .int _ _, rfl⟩
          simp [Instr.index, asIntOf, run_underlying hu, h0, hg]
      · cases hev
    · cases hev
  · cases hev

end AI
end Go.Proofs.Ytocgbgffpdphdaa
