/- The evaluator, step by step on symbols: what must hold for it to end in 'Q'. -/
import Derived.Test.YtocgbgffpdphdaaTab
namespace Go.Proofs.Ytocgbgffpdphdaa
namespace AI
open Go.RowKit

variable {AP : Nat → Option AFn}

/-! ## What is meant -/

/-- the text ends in 'Q' -/
structure Run (AP : Nat → Option AFn) (c : ACode) (env : Env) (s : Sto) (Q : AExit → Env → Sto → Prop) : Prop where
  mk :: (h : ∃ N e env' s', evC (run AP N) N c env s = some (e, env', s') ∧ Q e env' s')

/-- the operation yields what 'K' holds of -/
def Op1 (AP : Nat → Option AFn) (o : AOp) (env : Env) (s : Sto) (K : AOut → Sto → Prop) : Prop :=
  ∃ N out s', evOp (run AP N) o env s = some (out, s') ∧ K out s'

def Ops (AP : Nat → Option AFn) (os : List AOper) (env : Env) (s : Sto) (Q : AExit → Env → Sto → Prop) : Prop :=
  ∃ N e env' s', evOps (run AP N) os env s = some (e, env', s') ∧ Q e env' s'

/-- a call on a store of its own yields 'v' -/
structure Pure (AP : Nat → Option AFn) (f : Nat) (args : List AV) (v : AV) : Prop where
  mk :: (h : ∃ N, pureCall (run AP N) f args = some v)

/-- a call in the caller's store -/
structure Calls1 (AP : Nat → Option AFn) (f : Nat) (args : List AV) (s : Sto) (K : AOut → Sto → Prop) : Prop where
  mk :: (h : ∃ N out s', run AP N f args s = some (out, s') ∧ K out s')

theorem le_call {n n' : Nat} (h : n ≤ n') : CallLe (run AP n) (run AP n') := run_mono h

theorem Run.mono {c : ACode} {env : Env} {s : Sto} {Q Q' : AExit → Env → Sto → Prop} (h : Run AP c env s Q) (hq : ∀ e env s, Q e env s → Q' e env s) : Run AP c env s Q' := by
  obtain ⟨N, e, env', s', h1, h2⟩ := h
  exact ⟨N, e, env', s', h1, hq _ _ _ h2⟩

/-! ## Forms that the reckoning stops at -/

/-- the value's kind is known -/
def AV.force {R : Sort _} (v : AV) (f : AV → R) : R :=
  match v with
  | .bool b => f (.bool b)
  | .int k n => f (.int k n)
  | .str s => f (.str s)
  | .sl nn xs => f (.sl nn xs)
  | .zc => f .zc
  | .own o g a b => f (.own o g a b)
  | .agg cs => f (.agg cs)
  | .tup cs => f (.tup cs)
  | .ref o g i a => f (.ref o g i a)
  | .fref cs => f (.fref cs)
  | .fn g cs => f (.fn g cs)
  | .map o g => f (.map o g)
  | .iface t v => f (.iface t v)
  | .nilp => f .nilp
  | .nilmap => f .nilmap
  | .nilfn => f .nilfn
  | .nilif => f .nilif
  | .undef => f .undef
  | .junk => f .junk

theorem force_eq {R : Sort _} (v : AV) (f : AV → R) : v.force f = f v := by cases v <;> rfl

/-- two ways, by a truth value -/
def bcase (b : Bool) (t e : Prop) : Prop := match b with
  | true => t
  | false => e

theorem bcase_intro {b : Bool} {t e : Prop} (h1 : b = true → t) (h2 : b = false → e) : bcase b t e := by
  cases b
  · exact h2 rfl
  · exact h1 rfl

/-- two ways, by a statement -/
structure pcase (p t e : Prop) : Prop where
  mk :: (yes : p → t) (no : ¬p → e)

theorem pcase_intro {p t e : Prop} (h1 : p → t) (h2 : ¬p → e) : pcase p t e := ⟨h1, h2⟩

/-- something to show on the way -/
structure need (p t : Prop) : Prop where
  mk :: (l : p) (r : t)

theorem need_intro {p t : Prop} (h1 : p) (h2 : t) : need p t := ⟨h1, h2⟩

/-- a number in its range -/
structure wrapK (k : IntKind) (z : Int) (K : AV → Prop) : Prop where
  mk :: (h : ∃ y, k.wrap z = y ∧ K (.int k y))

theorem wrapK_intro {k : IntKind} {z y : Int} {K : AV → Prop} (h : k.wrap z = y) (h2 : K (.int k y)) : wrapK k z K := ⟨y, h, h2⟩

/-- an element -/
structure nthK {α : Type} (xs : List α) (i : Nat) (K : α → Prop) : Prop where
  mk :: (h : ∃ x, nth xs i = some x ∧ K x)

theorem nthK_intro {α : Type} {xs : List α} {i : Nat} {K : α → Prop} {x : α} (h : nth xs i = some x) (h2 : K x) : nthK xs i K := ⟨x, h, h2⟩

/-- what a partial reckoning yields -/
structure getK {α : Type} (o : Option α) (K : α → Prop) : Prop where
  mk :: (h : ∃ x, o = some x ∧ K x)

theorem getK_intro {α : Type} {o : Option α} {K : α → Prop} {x : α} (h : o = some x) (h2 : K x) : getK o K := ⟨x, h, h2⟩

/-- a call whose value is known -/
structure callK (AP : Nat → Option AFn) (f : Nat) (args : List AV) (K : AV → Prop) : Prop where
  mk :: (h : ∃ v, Pure AP f args v ∧ K v)

theorem callK_intro {f : Nat} {args : List AV} {K : AV → Prop} {v : AV} (h : Pure AP f args v) (h2 : K v) : callK AP f args K := ⟨v, h, h2⟩

/-- a truth value is looked at at once -/
def settle (v : AV) (K : AV → Prop) : Prop := match v with
  | .bool b => bcase b (K (.bool true)) (K (.bool false))
  | v => v.force K

theorem settle_iff (v : AV) (K : AV → Prop) : settle v K ↔ K v := by
  cases v <;> first | exact Iff.rfl | skip
  rename_i b
  cases b <;> exact Iff.rfl

/-! ## Operations -/

def setK {α : Type} : List α → Nat → α → (List α → Prop) → Prop
  | [], _, _, K => K []
  | _ :: xs, 0, y, K => K (y :: xs)
  | x :: xs, n + 1, y, K => setK xs n y fun ys => K (x :: ys)

theorem setK_iff {α : Type} : ∀ (l : List α) (n : Nat) (y : α) (K : List α → Prop), setK l n y K ↔ K (l.set n y)
  | [], _, _, _ => Iff.rfl
  | _ :: _, 0, _, _ => Iff.rfl
  | x :: xs, n + 1, y, K => setK_iff xs n y fun ys => K (x :: ys)

def snocK {α : Type} : List α → α → (List α → Prop) → Prop
  | [], y, K => K [y]
  | x :: xs, y, K => snocK xs y fun ys => K (x :: ys)

theorem snocK_iff {α : Type} : ∀ (l : List α) (y : α) (K : List α → Prop), snocK l y K ↔ K (l ++ [y])
  | [], _, _ => Iff.rfl
  | x :: xs, y, K => snocK_iff xs y fun ys => K (x :: ys)

/-- a new object -/
def newK (s : Sto) (mk : Nat → Nat → AV) (ob : Nat → Obj) (K : AOut → Sto → Prop) : Prop :=
  snocK s.σ (ob s.ctr) fun σ => K (.ok (mk s.σ.length s.ctr)) ⟨σ, s.ctr + 1⟩

def vBinInt (op : BinOp) (k : IntKind) (a b : Int) (K : AV → Prop) : Prop :=
  match op with
  | .add => wrapK k (a + b) K
  | .sub => wrapK k (a - b) K
  | .mul => wrapK k (a * b) K
  | .quo => need (b ≠ 0) (wrapK k (a.tdiv b) K)
  | .rem => need (b ≠ 0) (K (.int k (a.tmod b)))
  | .eql => pcase (a = b) (K (.bool true)) (K (.bool false))
  | .neq => pcase (a = b) (K (.bool false)) (K (.bool true))
  | .lss => pcase (a < b) (K (.bool true)) (K (.bool false))
  | .leq => pcase (a ≤ b) (K (.bool true)) (K (.bool false))
  | .gtr => pcase (b < a) (K (.bool true)) (K (.bool false))
  | .geq => pcase (b ≤ a) (K (.bool true)) (K (.bool false))
  | _ => False

def vBinStr (op : BinOp) (a b : List UInt8) (K : AV → Prop) : Prop :=
  match op with
  | .eql => pcase (a = b) (K (.bool true)) (K (.bool false))
  | .neq => pcase (a = b) (K (.bool false)) (K (.bool true))
  | .lss => bcase (Op.bytesLess a b) (K (.bool true)) (K (.bool false))
  | .leq => bcase (Op.bytesLess a b || a == b) (K (.bool true)) (K (.bool false))
  | .gtr => bcase (Op.bytesLess a b || a == b) (K (.bool false)) (K (.bool true))
  | .geq => bcase (Op.bytesLess a b) (K (.bool false)) (K (.bool true))
  | .add => need (a.length + b.length < 2 ^ 63) (K (.str (a ++ b)))
  | _ => False

def vBin (op : BinOp) (t : EqT) (x y : AV) (K : AV → Prop) : Prop :=
  match x, y with
  | .int k a, .int k' b => need (k = k') (vBinInt op k a b K)
  | .str a, .str b => vBinStr op a b K
  | x, y => getK (bin op t x y) fun v => settle v K

theorem vBin_sound {op : BinOp} {t : EqT} {x y : AV} {K : AV → Prop} (h : vBin op t x y K) : ∃ v, bin op t x y = some v ∧ K v := by
  unfold vBin at h
  split at h
  · rename_i k a k' b
    obtain ⟨rfl, h⟩ := h
    simp only [bin, if_true]
    unfold vBinInt at h
    cases op <;> simp only at h
    case add => obtain ⟨y, h1, h2⟩ := h; exact ⟨_, rfl, by rw [h1]; exact h2⟩
    case sub => obtain ⟨y, h1, h2⟩ := h; exact ⟨_, rfl, by rw [h1]; exact h2⟩
    case mul => obtain ⟨y, h1, h2⟩ := h; exact ⟨_, rfl, by rw [h1]; exact h2⟩
    case quo => obtain ⟨h0, y, h1, h2⟩ := h; exact ⟨_, by simp only [binInt, if_neg h0]; rfl, by rw [h1]; exact h2⟩
    case rem => obtain ⟨h0, h2⟩ := h; exact ⟨_, by simp only [binInt, if_neg h0], h2⟩
    case eql =>
      by_cases c : a = b
      · exact ⟨_, rfl, by have := h.1 c; simpa only [c, beq_self_eq_true, bne_self_eq_false, Bool.not_true] using this⟩
      · exact ⟨_, rfl, by have := h.2 c; simpa only [bne, beq_false_of_ne c, Bool.not_false] using this⟩
    case neq =>
      by_cases c : a = b
      · exact ⟨_, rfl, by have := h.1 c; simpa only [c, beq_self_eq_true, bne_self_eq_false, Bool.not_true] using this⟩
      · exact ⟨_, rfl, by have := h.2 c; simpa only [bne, beq_false_of_ne c, Bool.not_false] using this⟩
    case lss =>
      by_cases c : a < b
      · exact ⟨_, rfl, by simpa [c] using h.1 c⟩
      · exact ⟨_, rfl, by simpa [c] using h.2 c⟩
    case leq =>
      by_cases c : a ≤ b
      · exact ⟨_, rfl, by simpa [c] using h.1 c⟩
      · exact ⟨_, rfl, by simpa [c] using h.2 c⟩
    case gtr =>
      by_cases c : b < a
      · exact ⟨_, rfl, by simpa [c] using h.1 c⟩
      · exact ⟨_, rfl, by simpa [c] using h.2 c⟩
    case geq =>
      by_cases c : b ≤ a
      · exact ⟨_, rfl, by simpa [c] using h.1 c⟩
      · exact ⟨_, rfl, by simpa [c] using h.2 c⟩
  · rename_i a b
    simp only [bin]
    unfold vBinStr at h
    cases op <;> simp only at h
    case add => obtain ⟨h0, h2⟩ := h; exact ⟨_, by simp only [binStr, if_pos h0], h2⟩
    case eql =>
      by_cases c : a = b
      · exact ⟨_, rfl, by have := h.1 c; simpa only [c, beq_self_eq_true, bne_self_eq_false, Bool.not_true] using this⟩
      · exact ⟨_, rfl, by have := h.2 c; simpa only [bne, beq_false_of_ne c, Bool.not_false] using this⟩
    case neq =>
      by_cases c : a = b
      · exact ⟨_, rfl, by have := h.1 c; simpa only [c, beq_self_eq_true, bne_self_eq_false, Bool.not_true] using this⟩
      · exact ⟨_, rfl, by have := h.2 c; simpa only [bne, beq_false_of_ne c, Bool.not_false] using this⟩
    case lss => cases c : Op.bytesLess a b <;> rw [c] at h <;> exact ⟨_, rfl, by rw [c]; exact h⟩
    case leq => cases c : (Op.bytesLess a b || a == b) <;> rw [c] at h <;> exact ⟨_, rfl, by rw [c]; exact h⟩
    case gtr => cases c : (Op.bytesLess a b || a == b) <;> rw [c] at h <;> exact ⟨_, rfl, by rw [c]; exact h⟩
    case geq => cases c : Op.bytesLess a b <;> rw [c] at h <;> exact ⟨_, rfl, by rw [c]; exact h⟩
  · obtain ⟨v, h1, h2⟩ := h
    exact ⟨v, h1, (settle_iff v K).1 h2⟩

end AI
end Go.Proofs.Ytocgbgffpdphdaa
