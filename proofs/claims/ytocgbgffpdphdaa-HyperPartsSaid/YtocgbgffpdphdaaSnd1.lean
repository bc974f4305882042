/- Soundness, first part: constants, operands, how the invariant outlives an allocation and a store. -/
import Derived.Test.YtocgbgffpdphdaaRep
import Derived.ProofKit
namespace Go.Proofs.Ytocgbgffpdphdaa
namespace AI
open Go.RowKit

variable {B : Nat} {w w' w0 : World} {Z Z' : Cold} {φ φ' : Phi} {ctr ctr' : Nat}

theorem ofValue1_rep {v : Value} {a : AV} (h : ofValue1 v = some a) : Rep w Z φ ctr a v ∧ a.one = true ∧ a.closed = true := by
  unfold ofValue1 at h
  split at h
  case h_9 f fs cs =>
    split at h
    · rename_i hz
      simp only [Option.some.injEq] at h
      subst h
      obtain rfl : fs = #[] := by simpa using hz.1
      obtain rfl : cs = #[] := by simpa using hz.2
      exact ⟨.fn _ [] #[] rfl (fun i c hi => by simp at hi), rfl, rfl⟩
    · cases h
  all_goals (simp only [Option.some.injEq, reduceCtorEq] at h <;> subst h)
  · exact ⟨.bool _, rfl, rfl⟩
  · exact ⟨.int _ _, rfl, rfl⟩
  · exact ⟨.str _ _ rfl, rfl, rfl⟩
  · exact ⟨.nilsl, rfl, rfl⟩
  · exact ⟨.nilp, rfl, rfl⟩
  · exact ⟨.nilmap, rfl, rfl⟩
  · exact ⟨.nilfn, rfl, rfl⟩
  · exact ⟨.nilif, rfl, rfl⟩


theorem ofValues_rep : ∀ {vs : List Value} {as : List AV}, ofValues vs = some as → as.length = vs.length ∧ ∀ (i : Nat) (a : AV), as[i]? = some a → ∃ v, vs[i]? = some v ∧ Rep w Z φ ctr a v ∧ a.one = true ∧ a.closed = true
  | [], as, h => by
    simp only [ofValues, Option.some.injEq] at h
    subst h
    exact ⟨rfl, fun i a hi => by simp at hi⟩
  | v :: vs, as, h => by
    simp only [ofValues] at h
    split at h
    · rename_i a r h1 h2
      simp only [Option.some.injEq] at h
      subst h
      obtain ⟨hl, hr⟩ := ofValues_rep h2
      refine ⟨by simp [hl], fun i x hi => ?_⟩
      cases i with
      | zero =>
        simp only [List.getElem?_cons_zero, Option.some.injEq] at hi
        subst hi
        exact ⟨v, rfl, ofValue1_rep h1⟩
      | succ i => exact hr i x (by simpa using hi)
    · cases h

theorem getD_of_list {vs : Array Value} {i : Nat} {v : Value} (h : vs.toList[i]? = some v) : vs.getD i undef = v := by
  have h' : vs[i]? = some v := by simpa using h
  simp [Array.getD_eq_getD_getElem?, h']

theorem ofValue_rep {v : Value} {a : AV} (h : ofValue v = some a) : Rep w Z φ ctr a v ∧ a.closed = true ∧ a.storable = true := by
  unfold ofValue at h
  split at h
  · rename_i cs
    cases h2 : ofValues cs.toList with
    | none => simp [h2] at h
    | some as =>
      simp only [h2, Option.map_some, Option.some.injEq] at h
      subst h
      obtain ⟨hl, hr⟩ := ofValues_rep (w := w) (Z := Z) (φ := φ) (ctr := ctr) h2
      refine ⟨.agg as cs (by simpa using hl) (fun i c hi => ?_) (fun i c hi => ?_), closedL_of_mem fun i c hi => ?_, rfl⟩
      · obtain ⟨_, _, _, h3, _⟩ := hr i c hi; exact h3
      · obtain ⟨v, h1, h3, _⟩ := hr i c hi; rw [getD_of_list h1]; exact h3
      · obtain ⟨_, _, _, _, h3⟩ := hr i c hi; exact h3
  · obtain ⟨h1, h2, h3⟩ := ofValue1_rep (w := w) (Z := Z) (φ := φ) (ctr := ctr) h
    refine ⟨h1, h3, ?_⟩
    cases a <;> simp_all [AV.one, AV.storable]

theorem ofOperand_rep {env : Env} {a : Act} (hE : EnvRep w Z φ ctr env a.tmps) {x : Operand} {y : AO} (h : ofOperand x = some y) : Rep w Z φ ctr (y.val env) (a.eval x) := by
  unfold ofOperand at h
  split at h
  · simp only [Option.some.injEq] at h; subst h; exact hE _
  · rename_i v
    cases h2 : ofValue v with
    | none => simp [h2] at h
    | some av =>
      simp only [h2, Option.map_some, Option.some.injEq] at h
      subst h
      exact (ofValue_rep h2).1
  · simp only [Option.some.injEq] at h; subst h
    exact .fn _ [] #[] rfl (fun i c hi => by simp at hi)
  · cases h

theorem ofOperands_rep {env : Env} {a : Act} (hE : EnvRep w Z φ ctr env a.tmps) : ∀ {xs : List Operand} {ys : List AO}, ofOperands xs = some ys →
    (vals env ys).length = (xs.map a.eval).length ∧ ∀ (i : Nat) (y : AV), (vals env ys)[i]? = some y → ∃ v, (xs.map a.eval)[i]? = some v ∧ Rep w Z φ ctr y v
  | [], ys, h => by
    simp only [ofOperands, Option.some.injEq] at h
    subst h
    exact ⟨rfl, fun i y hi => by simp [vals] at hi⟩
  | x :: xs, ys, h => by
    simp only [ofOperands] at h
    split at h
    · rename_i y r h1 h2
      simp only [Option.some.injEq] at h
      subst h
      obtain ⟨hl, hr⟩ := ofOperands_rep hE h2
      refine ⟨by simp [vals, hl], fun i z hi => ?_⟩
      cases i with
      | zero =>
        simp only [vals, List.getElem?_cons_zero, Option.some.injEq] at hi
        subst hi
        exact ⟨_, by simp, ofOperand_rep hE h1⟩
      | succ i => exact hr i z (by simpa [vals] using hi)
    · cases h

/-! ### cells of a value -/

theorem Rep.cells_get {a : AV} {v : Value} (r : Rep w Z φ ctr a v) (hs : a.storable = true) :
    a.cells.length = v.cells.size ∧ ∀ (j : Nat) (c : AV), a.cells[j]? = some c → ∃ x, v.cells[j]? = some x ∧ Rep w Z φ ctr c x ∧ c.one = true := by
  cases r with
  | agg cs vs hl ho hr =>
    refine ⟨hl, fun j c hj => ⟨vs.getD j Go.undef, ?_, hr j c hj, ho j c hj⟩⟩
    have : j < vs.size := by
      have := (List.getElem?_eq_some_iff.1 hj).1
      simp only [AV.cells] at this; omega
    simp [Value.cells, Array.getD_eq_getD_getElem?, Array.getElem?_eq_getElem this]
  | tup => simp [AV.storable] at hs
  | undef => simp [AV.storable] at hs
  | junk => simp [AV.storable] at hs
  | bool b => exact ⟨rfl, fun j c hj => by cases j <;> simp [AV.cells] at hj; subst hj; exact ⟨_, rfl, .bool b, rfl⟩⟩
  | int k n => exact ⟨rfl, fun j c hj => by cases j <;> simp [AV.cells] at hj; subst hj; exact ⟨_, rfl, .int k n, rfl⟩⟩
  | str s l h => exact ⟨rfl, fun j c hj => by cases j <;> simp [AV.cells] at hj; subst hj; exact ⟨_, rfl, .str s l h, rfl⟩⟩
  | nilsl => exact ⟨rfl, fun j c hj => by cases j <;> simp [AV.cells] at hj; subst hj; exact ⟨_, rfl, .nilsl, rfl⟩⟩
  | sl xs n b off cap es f hn hcap hes hsz hc hr => exact ⟨rfl, fun j c hj => by cases j <;> simp [AV.cells] at hj; subst hj; exact ⟨_, rfl, .sl xs n b off cap es f hn hcap hes hsz hc hr, rfl⟩⟩
  | sl0 a0 => exact ⟨rfl, fun j c hj => by cases j <;> simp [AV.cells] at hj; subst hj; exact ⟨_, rfl, .sl0 a0, rfl⟩⟩
  | zc a0 => exact ⟨rfl, fun j c hj => by cases j <;> simp [AV.cells] at hj; subst hj; exact ⟨_, rfl, .zc a0, rfl⟩⟩
  | own o g off len b es size cap a hg hφ hcap ha hs' => exact ⟨rfl, fun j c hj => by cases j <;> simp [AV.cells] at hj; subst hj; exact ⟨_, rfl, .own o g off len b es size cap a hg hφ hcap ha hs', rfl⟩⟩
  | ownNil o g hg hφ => exact ⟨rfl, fun j c hj => by cases j <;> simp [AV.cells] at hj; subst hj; exact ⟨_, rfl, .ownNil o g hg hφ, rfl⟩⟩
  | ownZc o g a0 hg hφ => exact ⟨rfl, fun j c hj => by cases j <;> simp [AV.cells] at hj; subst hj; exact ⟨_, rfl, .ownZc o g a0 hg hφ, rfl⟩⟩
  | ref o g i off b es size hg hφ => exact ⟨rfl, fun j c hj => by cases j <;> simp [AV.cells] at hj; subst hj; exact ⟨_, rfl, .ref o g i off b es size hg hφ, rfl⟩⟩
  | fref cs b off f hc hr => exact ⟨rfl, fun j c hj => by cases j <;> simp [AV.cells] at hj; subst hj; exact ⟨_, rfl, .fref cs b off f hc hr, rfl⟩⟩
  | fn f cs vs hl hr => exact ⟨rfl, fun j c hj => by cases j <;> simp [AV.cells] at hj; subst hj; exact ⟨_, rfl, .fn f cs vs hl hr, rfl⟩⟩
  | map o g b es size hg hφ => exact ⟨rfl, fun j c hj => by cases j <;> simp [AV.cells] at hj; subst hj; exact ⟨_, rfl, .map o g b es size hg hφ, rfl⟩⟩
  | iface t v x hr => exact ⟨rfl, fun j c hj => by cases j <;> simp [AV.cells] at hj; subst hj; exact ⟨_, rfl, .iface t v x hr, rfl⟩⟩
  | nilp => exact ⟨rfl, fun j c hj => by cases j <;> simp [AV.cells] at hj; subst hj; exact ⟨_, rfl, .nilp, rfl⟩⟩
  | nilmap => exact ⟨rfl, fun j c hj => by cases j <;> simp [AV.cells] at hj; subst hj; exact ⟨_, rfl, .nilmap, rfl⟩⟩
  | nilfn => exact ⟨rfl, fun j c hj => by cases j <;> simp [AV.cells] at hj; subst hj; exact ⟨_, rfl, .nilfn, rfl⟩⟩
  | nilif => exact ⟨rfl, fun j c hj => by cases j <;> simp [AV.cells] at hj; subst hj; exact ⟨_, rfl, .nilif, rfl⟩⟩

theorem Rep.oneCell {a : AV} {v : Value} (r : Rep w Z φ ctr a v) (h : a.one = true) : v.oneCell' = true ∧ v.cells = #[v] := by
  cases r <;> simp_all [AV.one, Value.oneCell', Value.cells]

theorem cells_closed {a : AV} (h : a.closed = true) : ∀ (j : Nat) (c : AV), a.cells[j]? = some c → c.closed = true := by
  intro j c hj
  cases a <;> simp only [AV.cells] at hj
  case agg cs => exact closedL_mem (by simpa [AV.closed] using h) j c hj
  all_goals (cases j <;> simp at hj; subst hj; exact h)

end AI
end Go.Proofs.Ytocgbgffpdphdaa
