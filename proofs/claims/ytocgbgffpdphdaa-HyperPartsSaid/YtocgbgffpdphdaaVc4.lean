/- Loops by an invariant; what a function answers, as a predicate. -/
import Derived.Test.YtocgbgffpdphdaaVc3
namespace Go.Proofs.Ytocgbgffpdphdaa
namespace AI
open Go.RowKit

variable {AP : Nat → Option AFn}

/-- what a round must end in -/
def vInv (live : List Nat) (I : Env → Sto → Prop) (Q : AExit → Env → Sto → Prop) (e : AExit) (env : Env) (s : Sto) : Prop := match e with
  | .normal => commitK live env fun env => I env s
  | e => Q e env s

structure again (I : Nat → Env → Sto → Prop) (m : Nat) (env : Env) (s : Sto) : Prop where
  mk :: (h : ∃ m', m' < m ∧ I m' env s)

theorem loop_inv {live : List Nat} {a : ACode} {Q : AExit → Env → Sto → Prop} (I : Nat → Env → Sto → Prop)
    (hI : ∀ m env s, I m env s → commit env live = env ∧ vC AP a env s (vInv live (again I m) Q)) :
    ∀ m env s, I m env s → Run AP (.loop live a) env s Q := by
  intro m
  induction m using Nat.strongRecOn with
  | ind m ih =>
    intro env s h
    obtain ⟨hc, h1⟩ := hI m env s h
    obtain ⟨N, e, env1, s1, h2, h3⟩ := vC_sound h1
    have hr : Run AP a env s (vRound AP live a Q) := by
      refine ⟨N, e, env1, s1, h2, ?_⟩
      cases e with
      | normal =>
        simp only [vInv, vRound, commitK_iff] at h3 ⊢
        obtain ⟨m', hm, h4⟩ := h3
        exact ih m' hm _ _ h4
      | exit id => exact h3
      | ret => exact h3
      | pan v => exact h3
    obtain ⟨N, e, env1, s1, h1, h2⟩ := hr
    cases e with
    | normal =>
      obtain ⟨N', e', env2, s2, h3, h4⟩ := loop_commit ((commitK_iff _ _ _).1 h2)
      refine ⟨max N N' + 1, e', env2, s2, ?_, h4⟩
      have h1' := evC_mono (le_call (AP := AP) (show N ≤ max N N' + 1 by omega)) (show N ≤ max N N' + 1 by omega) h1
      simp only [evC] at h3 ⊢
      rw [iter.eq_2]
      rw [hc, h1']
      exact iter_mono (fun env s r hr => evC_mono (le_call (by omega)) (by omega) hr) (by omega) h3
    | exit id => exact ⟨N + 1, _, _, _, by simp only [evC, iter.eq_2, hc, evC_mono (le_call (AP := AP) (Nat.le_succ N)) (Nat.le_succ N) h1], h2⟩
    | ret => exact ⟨N + 1, _, _, _, by simp only [evC, iter.eq_2, hc, evC_mono (le_call (AP := AP) (Nat.le_succ N)) (Nat.le_succ N) h1], h2⟩
    | pan v => exact ⟨N + 1, _, _, _, by simp only [evC, iter.eq_2, hc, evC_mono (le_call (AP := AP) (Nat.le_succ N)) (Nat.le_succ N) h1], h2⟩

/-- a call on a store of its own yields a value of which 'R' holds -/
structure PureP (AP : Nat → Option AFn) (f : Nat) (args : List AV) (R : AV → Prop) : Prop where
  mk :: (h : ∃ v, Pure AP f args v ∧ R v)

/-- what is handed back -/
def snapK (σ : List Obj) (r : AV) (R : AV → Prop) : Prop := match r with
  | .own o g off len => match nth σ o with
    | some (.arr g' _ nn cl elems) => match cl with
      | true => need (g = g' ∧ off + len ≤ elems.length) (eqK (sub elems off len) fun xs => R (.sl nn xs))
      | false => getK (snap σ snapDepth (.own o g off len)) R
    | _ => False
  | r => getK (snap σ snapDepth r) R

theorem snapK_sound {σ : List Obj} {r : AV} {R : AV → Prop} (h : snapK σ r R) : ∃ v, snap σ snapDepth r = some v ∧ R v := by
  unfold snapK at h
  split at h
  · rename_i o g off len
    split at h
    · rename_i g' es nn cl elems ho
      split at h
      · obtain ⟨h1, xs, rfl, h2⟩ := h
        refine ⟨_, ?_, h2⟩
        simp only [snapDepth, snap, ho, if_pos h1, if_true]
      · obtain ⟨v, h1, h2⟩ := h; exact ⟨v, h1, h2⟩
    · cases h
  · obtain ⟨v, h1, h2⟩ := h; exact ⟨v, h1, h2⟩

def vPureP (R : AV → Prop) (out : AOut) (s : Sto) : Prop := match out with
  | .ok r => snapK s.σ r R
  | .pan _ => False

theorem pureP_of {f : Nat} {fn : AFunc} {args : List AV} {R : AV → Prop} (hf : AP f = some (.code fn)) (hl : args.length = fn.np) (h : vC AP fn.body (params args 0) ⟨[], 0⟩ (vRes fn (vPureP R))) : PureP AP f args R := by
  obtain ⟨N, out, s', h1, h2⟩ := calls_of hf hl (vC_sound h)
  cases out with
  | ok r =>
    obtain ⟨v, h3, h4⟩ := snapK_sound h2
    exact ⟨v, ⟨N, by simp only [pureCall, h1]; exact h3⟩, h4⟩
  | pan r => cases h2

theorem callK_of {f : Nat} {args : List AV} {R : AV → Prop} {K : AV → Prop} (h : PureP AP f args R) (h2 : ∀ v, R v → K v) : callK AP f args K := by
  obtain ⟨v, h3, h4⟩ := h
  exact ⟨v, h3, h2 v h4⟩

theorem callB {f : Nat} {args : List AV} {p : Prop} [Decidable p] {K : AV → Prop} (h : PureP AP f args (· = .bool (decide p))) (h1 : p → K (.bool true)) (h2 : ¬ p → K (.bool false)) : callK AP f args K := by
  refine callK_of h ?_
  rintro _ rfl
  by_cases hp : p
  · rw [decide_eq_true hp]; exact h1 hp
  · rw [decide_eq_false hp]; exact h2 hp

theorem bool_eq {p q : Prop} [Decidable p] [Decidable q] (h : p ↔ q) : AV.bool (decide p) = AV.bool (decide q) := by rw [decide_eq_decide.2 h]
theorem bool_t {p : Prop} [Decidable p] (h : p) : AV.bool true = AV.bool (decide p) := by rw [decide_eq_true h]
theorem bool_f {p : Prop} [Decidable p] (h : ¬ p) : AV.bool false = AV.bool (decide p) := by rw [decide_eq_false h]

theorem PureP.mono {f : Nat} {args : List AV} {R R' : AV → Prop} (h : PureP AP f args R) (h2 : ∀ v, R v → R' v) : PureP AP f args R' := by
  obtain ⟨v, h3, h4⟩ := h
  exact ⟨v, h3, h2 v h4⟩

/-- the law's own call -/
theorem calls1_of {f : Nat} {fn : AFunc} {args : List AV} {s : Sto} {K : AOut → Sto → Prop} (hf : AP f = some (.code fn)) (hl : args.length = fn.np) (h : vC AP fn.body (params args 0) s (vRes fn K)) : Calls1 AP f args s K :=
  calls_of hf hl (vC_sound h)

end AI
end Go.Proofs.Ytocgbgffpdphdaa
