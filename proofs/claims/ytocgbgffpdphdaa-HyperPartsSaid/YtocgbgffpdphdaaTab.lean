/- Tables of functions; the evaluator grows with its fuel. -/
import Derived.Test.YtocgbgffpdphdaaSnd17
namespace Go.Proofs.Ytocgbgffpdphdaa
namespace AI
open Go.RowKit

def findFn : List (Nat × AFn) → Nat → Option AFn
  | [], _ => none
  | (k, a) :: r, f => bif Nat.beq k f then some a else findFn r f

def EntryOk (P : Program) (f : Nat) : AFn → Prop
  | .code af => ∃ fn an, P.funcs[f]? = some fn ∧ (fn.name == "runtime.NumGoroutine") = false ∧ compF P an fn = some af
  | .ext sp => CallSound P fun f' args s => if f' = f then sp args s else none

def AllOk (P : Program) : List (Nat × AFn) → Prop
  | [] => True
  | (f, a) :: r => EntryOk P f a ∧ AllOk P r

theorem tableOk_of {P : Program} : ∀ {tab : List (Nat × AFn)}, AllOk P tab → TableOk P (findFn tab)
  | [], _, f, a, h => by simp [findFn] at h
  | (k, a0) :: r, hall, f, a, h => by
    simp only [findFn] at h
    cases hb : Nat.beq k f
    · rw [hb, cond_false] at h
      exact tableOk_of hall.2 f a h
    · rw [hb, cond_true] at h
      have := Nat.eq_of_beq_eq_true hb
      subst this
      cases h
      cases a0 with
      | code af => exact hall.1
      | ext sp => exact hall.1

/-! ### more fuel, the same answer -/

def CallLe (C C' : CallF) : Prop := ∀ f args s r, C f args s = some r → C' f args s = some r

theorem pureCall_mono {C C' : CallF} (h : CallLe C C') {f : Nat} {args : List AV} {v : AV} (hv : pureCall C f args = some v) : pureCall C' f args = some v := by
  unfold pureCall at hv ⊢
  split at hv
  · rename_i r s' hc
    rw [h _ _ _ _ hc]
    exact hv
  · cases hv

theorem callMode_mono {C C' : CallF} (h : CallLe C C') {m : Mode} {f : Nat} {args : List AV} {s : Sto} {r : AOut × Sto} (he : callMode C m f args s = some r) : callMode C' m f args s = some r := by
  have hp : ∀ {f args v}, pureCall C f args = some v → pureCall C' f args = some v := by
    intro f args v hv
    unfold pureCall at hv ⊢
    split at hv
    · rename_i r s' hc
      rw [h _ _ _ _ hc]
      exact hv
    · cases hv
  cases m
  · simp only [callMode] at he ⊢
    split at he
    · rename_i hcl
      rw [if_pos hcl]
      rw [Option.map_eq_some_iff] at he ⊢
      obtain ⟨v, h1, h2⟩ := he
      exact ⟨v, hp h1, h2⟩
    · cases he
  · simp only [callMode] at he ⊢
    split at he
    · split at he
      · rename_i v hv
        rw [hp hv]
        exact he
      · cases he
    · cases he
  · simp only [callMode] at he ⊢
    split at he
    · rename_i v s' hc
      rw [h _ _ _ _ hc]
      exact he
    · rename_i v s' hc
      rw [h _ _ _ _ hc]
      exact he
    · cases he
  · simp only [callMode] at he ⊢
    split at he
    · rename_i hcl
      rw [if_pos hcl]
      split at he
      · rename_i o g off len s' hc
        rw [h _ _ _ _ hc]
        exact he
      · cases he
    · cases he

theorem evOp_mono {C C' : CallF} (h : CallLe C C') {o : AOp} {env : Env} {s : Sto} {r : AOut × Sto} (he : evOp C o env s = some r) : evOp C' o env s = some r := by
  cases o
  case call m f args => exact callMode_mono h he
  case callv m x args =>
    simp only [evOp] at he ⊢
    split at he
    · exact callMode_mono h he
    · cases he
  all_goals exact he

theorem evOps_mono {C C' : CallF} (h : CallLe C C') : ∀ {os : List AOper} {env : Env} {s : Sto} {r : AExit × Env × Sto}, evOps C os env s = some r → evOps C' os env s = some r
  | [], _, _, _, he => he
  | o :: os, env, s, r, he => by
    simp only [evOps] at he ⊢
    split at he
    · cases he
    · exact evOps_mono h he
    · split at he
      · rename_i v s' hop
        rw [evOp_mono h hop]
        exact evOps_mono h he
      · rename_i v s' hop
        rw [evOp_mono h hop]
        exact he
      · cases he

theorem parOp_mono {C C' : CallF} (h : CallLe C C') {o : AOp} {r g : Nat} {env : Env} {s : Sto} {x : AV × Option (Nat × Obj) × Nat} (he : parOp C o r g env s = some x) : parOp C' o r g env s = some x := by
  unfold parOp at he ⊢
  cases hev : evOp C o env s with
  | none => rw [hev] at he; cases hc : o.cls with
    | none => rw [hc] at he; cases he
    | some c => rw [hc] at he; cases c <;> cases he
  | some out =>
    rw [evOp_mono h hev]
    rw [hev] at he
    exact he

theorem evPar_mono {C C' : CallF} (h : CallLe C C') : ∀ {os : List AOper} {r g : Nat} {env : Env} {s : Sto} {es : List Eff}, evPar C os r g env s = some es → evPar C' os r g env s = some es
  | [], _, _, _, _, _, he => he
  | o :: os, r, g, env, s, es, he => by
    simp only [evPar] at he ⊢
    split at he
    · cases he
    · split at he
      · rename_i es' ht
        rw [evPar_mono h ht]
        exact he
      · cases he
    · split at he
      · rename_i v u b hop
        rw [parOp_mono h hop]
        simp only
        split at he
        · rename_i es' ht
          rw [evPar_mono h ht]
          exact he
        · cases he
      · cases he

theorem iter_mono {f f' : Env → Sto → Option (AExit × Env × Sto)} (h : ∀ env s r, f env s = some r → f' env s = some r) : ∀ {n n' : Nat} {env : Env} {s : Sto} {r : AExit × Env × Sto}, n ≤ n' → iter f n env s = some r → iter f' n' env s = some r
  | 0, _, _, _, _, _, he => by simp [iter] at he
  | n + 1, 0, _, _, _, hn, _ => by omega
  | n + 1, n' + 1, env, s, r, hn, he => by
    simp only [iter] at he ⊢
    split at he
    · rename_i env' s' hf
      rw [h _ _ _ hf]
      exact iter_mono h (by omega) he
    · rename_i r' hne
      have := h _ _ _ he
      rw [this]
      split
      · rename_i env' s' heq
        rw [heq] at this
        exact absurd (he.trans heq) (hne env' s')
      · rfl

theorem evC_mono {C C' : CallF} (h : CallLe C C') {N N' : Nat} (hN : N ≤ N') : ∀ {c : ACode} {env : Env} {s : Sto} {r : AExit × Env × Sto}, evC C N c env s = some r → evC C' N' c env s = some r := by
  intro c
  induction c with
  | skip => intro env s r he; exact he
  | exit id => intro env s r he; exact he
  | ret => intro env s r he; exact he
  | region head frz ops live trunc =>
    intro env s r he
    simp only [evC] at he ⊢
    split at he
    · split at he
      · rename_i hops
        rw [evOps_mono h hops]
        exact he
      · rename_i r' hne
        have := evOps_mono h he
        rw [this]
        split
        · rename_i e1 s1 heq
          cases heq
          exact absurd he (hne _ _)
        · rfl
    · cases he
  | par m un frz ops live trunc =>
    intro env s r he
    simp only [evC] at he ⊢
    split at he
    · rename_i envf sf hfz
      split at he
      · rename_i env1 s1 hh
        have hh' : evHead C' m un ops envf sf = some (env1, s1) := by
          unfold evHead at hh ⊢
          split at hh
          · rename_i es hes
            rw [evPar_mono h hes]
            exact hh
          · cases hh
        rw [hh']
        simp only
        split at he
        · rename_i hops
          rw [evOps_mono h hops]
          exact he
        · rename_i r' hne
          have := evOps_mono h he
          rw [this]
          split
          · rename_i e1 s1 heq
            cases heq
            exact absurd he (hne _ _)
          · rfl
      · cases he
    · cases he
  | seq a b iha ihb =>
    intro env s r he
    simp only [evC] at he ⊢
    split at he
    · rename_i env' s' ha
      rw [iha ha]
      exact ihb he
    · rename_i r' hne
      have := iha he
      rw [this]
      split
      · rename_i e1 s1 heq
        cases heq
        exact absurd he (hne _ _)
      · rfl
  | cond c a b iha ihb =>
    intro env s r he
    simp only [evC] at he ⊢
    split at he
    · exact iha he
    · exact ihb he
    · cases he
  | block id a iha =>
    intro env s r he
    simp only [evC] at he ⊢
    split at he
    · rename_i j env' s' ha
      rw [iha ha]
      exact he
    · rename_i r' hne
      have := iha he
      rw [this]
      split
      · rename_i j e1 s1 heq
        cases heq
        exact absurd he (hne _ _ _)
      · rfl
  | loop live a iha =>
    intro env s r he
    simp only [evC] at he ⊢
    exact iter_mono (fun env s r he => iha he) hN he

theorem evF_mono {C C' : CallF} (h : CallLe C C') {N N' : Nat} (hN : N ≤ N') {fn : AFunc} {args : List AV} {s : Sto} {r : AOut × Sto} (he : evF C N fn args s = some r) : evF C' N' fn args s = some r := by
  unfold evF at he ⊢
  cases hc : evC C N fn.body (params args 0) s with
  | none => rw [hc] at he; cases he
  | some x =>
    rw [evC_mono h hN hc]
    rw [hc] at he
    exact he

theorem run_mono {AP : Nat → Option AFn} : ∀ {n n' : Nat}, n ≤ n' → CallLe (run AP n) (run AP n')
  | 0, _, _, _, _, _, _, he => by simp [run] at he
  | n + 1, 0, h, _, _, _, _, _ => by omega
  | n + 1, n' + 1, h, f, args, s, r, he => by
    simp only [run] at he ⊢
    split at he
    · rename_i fn hf
      split at he
      · rename_i hl
        rw [if_pos hl]
        exact evF_mono (run_mono (by omega)) (by omega) he
      · cases he
    · exact he
    · cases he

end AI
end Go.Proofs.Ytocgbgffpdphdaa
