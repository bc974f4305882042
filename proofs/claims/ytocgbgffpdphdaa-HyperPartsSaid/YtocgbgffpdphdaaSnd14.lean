/- Soundness, fourteenth part: a region, in the order of the text and in whatever order is drawn. -/
import Derived.Test.YtocgbgffpdphdaaSnd13
namespace Go.Proofs.Ytocgbgffpdphdaa
namespace AI
open Go.RowKit

variable {P : Program} {B : Nat} {w w' w0 : World} {Z Z' : Cold} {φ φ' : Phi} {ctr ctr' : Nat} {s s' : Sto}

theorem get_put (d : Option Nat) (v : AV) (env : Env) (t : Nat) : (put d v env).get t = if d = some t then v else env.get t := by
  cases d with
  | none => simp [put]
  | some d =>
    simp only [put, Env.get, Option.some.injEq]
    by_cases h : d = t
    · subst h; simp
    · have : Nat.beq d t = false := by
        cases hb : Nat.beq d t
        · rfl
        · exact absurd (Nat.eq_of_beq_eq_true hb) h
      simp [this, h]

theorem put_getD (a : Act) (d : Option Nat) (x : Value) (t : Nat) (h : ∀ k, d = some k → k < a.tmps.size) : (a.put d x).tmps.getD t undef = if d = some t then x else a.tmps.getD t undef := by
  cases d with
  | none => simp [Act.put]
  | some d =>
    have hd := h d rfl
    simp only [Act.put, Option.some.injEq]
    by_cases he : d = t
    · subst he; simp [Array.getD_eq_getD_getElem?, hd]
    · rw [if_neg he]
      simp [Array.getD_eq_getD_getElem?, Array.getElem?_setIfInBounds_ne he]

theorem size_put (a : Act) (d : Option Nat) (x : Value) : (a.put d x).tmps.size = a.tmps.size ∧ (a.put d x).defers = a.defers := by
  cases d <;> simp [Act.put]

theorem EnvRep.later {env : Env} {tmps : Array Value} (h : EnvRep w Z φ ctr env tmps) (hL : Later B w Z φ ctr w' Z' φ' ctr') : EnvRep w' Z' φ' ctr' env tmps := fun t => (h t).later hL

theorem EnvRep.put {env : Env} {a : Act} (h : EnvRep w Z φ ctr env a.tmps) {d : Option Nat} (hd : ∀ k, d = some k → k < a.tmps.size) {v : AV} {x : Value} (hr : Rep w Z φ ctr v x) : EnvRep w Z φ ctr (AI.put d v env) (a.put d x).tmps := by
  intro t
  rw [get_put, put_getD a d x t hd]
  split
  · exact hr
  · exact h t

/-- a guard, here and there -/
theorem wanted_eq {ops : Array Oper} {n : Nat} {o : Oper} {g : Option (Nat × Bool)} (hg : compGuard ops n o.guard = some g) {env : Env} {a : Act} (hE : EnvRep w Z φ ctr env a.tmps) (hn : a.tmps.size = n) {b : Bool} (hw : AI.wanted g env = some b) :
    Region.wanted o (yielded ops a.tmps) = b := by
  unfold compGuard at hg
  split at hg
  · rename_i hgd
    simp only [Option.some.injEq] at hg
    subst hg
    simp only [AI.wanted, Option.some.injEq] at hw
    simp [Region.wanted, hgd, ← hw]
  · rename_i j want hgd
    split at hg
    · rename_i t ht
      split at hg
      · rename_i htn
        simp only [Option.some.injEq] at hg
        subst hg
        have hr := hE t
        have hget : a.tmps[t]? = some (a.tmps.getD t undef) := by
          have hlt : t < a.tmps.size := hn.symm ▸ htn
          simp [Array.getD_eq_getD_getElem?, Array.getElem?_eq_getElem hlt]
        simp only [AI.wanted] at hw
        split at hw
        · rename_i b' hb'
          simp only [Option.some.injEq] at hw
          rw [hb'] at hr
          generalize hq : a.tmps.getD t undef = q at hr hget
          cases hr
          simp [Region.wanted, hgd, yielded, ht, hget, ← hw]
        · rename_i hb'
          simp only [Option.some.injEq] at hw
          rw [hb'] at hr
          generalize hq : a.tmps.getD t undef = q at hr hget
          cases hr
          simp [Region.wanted, hgd, yielded, ht, hget, undef, ← hw]
        · cases hw
      · cases hg
    · cases hg

def ExitRep (w : World) (Z : Cold) (φ : Phi) (ctr : Nat) : AExit → Exit → Prop
  | .normal, e => e = .normal
  | .exit id, e => e = .exit id
  | .ret, e => e = .ret
  | .pan v, e => ∃ x, e = .panic [{ v := x, recovered := false }] ∧ Rep w Z φ ctr v x

/-- what is asked of the post -/
def Post (w0 : World) (B : Nat) (w : World) (Z : Cold) (φ : Phi) (ctr : Nat) (n : Nat) (ds : List Deferred) (e : AExit) (env' : Env) (s' : Sto) (Q : Exit → Act → World → Prop) : Prop :=
  ∀ e' a' w' Z' φ', ExitRep w' Z' φ' s'.ctr e e' → a'.tmps.size = n → a'.defers = ds → Inv w0 B s' Z' φ' w' → EnvRep w' Z' φ' s'.ctr env' a'.tmps → Later B w Z φ ctr w' Z' φ' s'.ctr → Q e' a' w'

theorem Post.later {n : Nat} {ds : List Deferred} {e : AExit} {env' : Env} {Q : Exit → Act → World → Prop} (h : Post w0 B w Z φ ctr n ds e env' s' Q) (hL : Later B w Z φ ctr w' Z' φ' ctr') : Post w0 B w' Z' φ' ctr' n ds e env' s' Q :=
  fun e' a' w'' Z'' φ'' h1 h2 h3 h4 h5 h6 => h e' a' w'' Z'' φ'' h1 h2 h3 h4 h5 (hL.trans h6)

theorem compOps_get {ops : Array Oper} {n : Nat} {an : List (Nat × OAnn)} : ∀ {os : List Oper} {i : Nat} {aos : List AOper}, compOps P ops n an os i = some aos → aos.length = os.length ∧ ∀ (k : Nat) (o : Oper), os[k]? = some o → ∃ ao, aos[k]? = some ao ∧ compOp P o (annOf an (i + k)) = some ao.op ∧ compGuard ops n o.guard = some ao.guard ∧ ao.dst = o.dst ∧ (∀ d, o.dst = some d → d < n)
  | [], i, aos, h => by
    simp only [compOps, Option.some.injEq] at h
    subst h
    exact ⟨rfl, fun k o hk => by simp at hk⟩
  | o :: os, i, aos, h => by
    simp only [compOps] at h
    split at h
    · rename_i ao g r h1 h2 h3
      split at h
      · rename_i hd
        simp only [Option.some.injEq] at h
        subst h
        obtain ⟨hl, hr⟩ := compOps_get h3
        refine ⟨by simp [hl], fun k o' hk => ?_⟩
        cases k with
        | zero =>
          simp only [List.getElem?_cons_zero, Option.some.injEq] at hk
          subst hk
          refine ⟨_, rfl, h1, h2, rfl, fun d hd' => ?_⟩
          rw [hd'] at hd
          simpa [dstOk] using hd
        | succ k =>
          obtain ⟨ao', q1, q2⟩ := hr k o' (by simpa using hk)
          exact ⟨ao', by simpa using q1, by rw [show i + (k + 1) = i + 1 + k by omega]; exact q2⟩
      · cases h
    · cases h

/-- one operation of a region, its guard with it -/
theorem wpOp_sound {C : CallF} (hC : CallSound P C) {ops : Array Oper} {n : Nat} {i : Nat} {o : Oper} (ho : ops[i]? = some o) {ann : Option OAnn} {ao : AOper} (h1 : compOp P o ann = some ao.op) (h2 : compGuard ops n o.guard = some ao.guard) (h3 : ao.dst = o.dst) (h4 : ∀ d, o.dst = some d → d < n)
    {a : Act} {env : Env} (hI : Inv w0 B s Z φ w) (hE : EnvRep w Z φ s.ctr env a.tmps) (hn : a.tmps.size = n) {K : Act → World → Prop} {Q : Exit → Act → World → Prop}
    (h : (AI.wanted ao.guard env = some false ∧ ∀ a', a'.tmps.size = n → a'.defers = a.defers → EnvRep w Z φ s.ctr (AI.put ao.dst .undef env) a'.tmps → K a' w) ∨
      (AI.wanted ao.guard env = some true ∧ ∃ out s', evOp C ao.op env s = some (out, s') ∧
        (∀ v, out = .ok v → ∀ a' x w' Z' φ', a' = a.put o.dst x → Rep w' Z' φ' s'.ctr v x → Inv w0 B s' Z' φ' w' → EnvRep w' Z' φ' s'.ctr (AI.put ao.dst v env) a'.tmps → Later B w Z φ s.ctr w' Z' φ' s'.ctr → K a' w') ∧
        (∀ v, out = .pan v → Post w0 B w Z φ s.ctr n a.defers (.pan v) env s' Q))) :
    wpOp P ops Q i K a w := by
  unfold wpOp
  rw [ho]
  have hd : ∀ k, o.dst = some k → k < a.tmps.size := fun k hk => by rw [hn]; exact h4 k hk
  rcases h with ⟨hw, hK⟩ | ⟨hw, out, s', hev, hok, hpan⟩
  · have := wanted_eq h2 hE hn hw
    simp only [this, Bool.false_eq_true, if_false]
    obtain ⟨z1, z2⟩ := size_put a o.dst undef
    exact hK _ (by rw [z1, hn]) z2 (by rw [h3]; exact hE.put hd .undef)
  · have := wanted_eq h2 hE hn hw
    simp only [this, if_true]
    refine .inl (op_sound hC h1 hI hE hev (fun v hv x w' Z' φ' k1 k2 k3 => ?_) (fun v hv x w' Z' φ' k1 k2 k3 => ?_))
    · exact hok v hv _ x w' Z' φ' rfl k2 k1 (by rw [h3]; exact (hE.later k3).put hd k2) k3
    · exact hpan v hv _ a w' Z' φ' ⟨x, rfl, k2⟩ hn rfl k1 (hE.later k3) k3

theorem ops_sound {C : CallF} (hC : CallSound P C) {ops : Array Oper} {n : Nat} {an : List (Nat × OAnn)} {Q : Exit → Act → World → Prop} : ∀ (os : List Oper) (i : Nat) (aos : List AOper) (env : Env) (s : Sto) (a : Act) (w : World) (Z : Cold) (φ : Phi) (e : AExit) (env' : Env) (s' : Sto),
    (∀ k, os[k]? = ops[i + k]?) → compOps P ops n an os i = some aos → evOps C aos env s = some (e, env', s') → Inv w0 B s Z φ w → EnvRep w Z φ s.ctr env a.tmps → a.tmps.size = n → Post w0 B w Z φ s.ctr n a.defers e env' s' Q → wpOps P ops Q (List.range' i os.length) a w
  | [], i, aos, env, s, a, w, Z, φ, e, env', s', hos, hc, hev, hI, hE, hn, hp => by
    simp only [compOps, Option.some.injEq] at hc
    subst hc
    simp only [evOps, Option.some.injEq, Prod.mk.injEq] at hev
    obtain ⟨rfl, rfl, rfl⟩ := hev
    exact hp .normal a w Z φ rfl hn rfl hI hE (Later.refl _ _ _ _ _)
  | o :: os, i, aos, env, s, a, w, Z, φ, e, env', s', hos, hc, hev, hI, hE, hn, hp => by
    have ho : ops[i]? = some o := by have := hos 0; simpa using this.symm
    have hos' : ∀ k, os[k]? = ops[i + 1 + k]? := fun k => by
      have := hos (k + 1)
      rw [show i + 1 + k = i + (k + 1) by omega]
      simpa using this
    simp only [compOps] at hc
    split at hc
    · rename_i ao g r h1 h2 h3
      split at hc
      · rename_i hd
        simp only [Option.some.injEq] at hc
        subst hc
        have h4 : ∀ d, o.dst = some d → d < n := fun d hd' => by rw [hd'] at hd; simpa [dstOk] using hd
        rw [List.length_cons, List.range'_succ, wpOps_cons]
        simp only [evOps] at hev
        refine wpOp_sound hC ho (ao := ⟨o.dst, ao, g⟩) h1 h2 rfl h4 hI hE hn ?_
        split at hev
        · cases hev
        · rename_i hw
          exact .inl ⟨hw, fun a' z1 z2 z3 => ops_sound hC os (i + 1) r _ s a' w Z φ e env' s' hos' h3 hev hI z3 z1 (z2 ▸ hp)⟩
        · rename_i hw
          refine .inr ⟨hw, ?_⟩
          split at hev
          · rename_i v s1 hop
            refine ⟨.ok v, s1, hop, fun v' hv a' x w' Z' φ' ha' hr hI' hE' hL => ?_, (fun v' hv => by cases hv)⟩
            cases hv
            subst ha'
            obtain ⟨z1, z2⟩ := size_put a o.dst x
            exact ops_sound hC os (i + 1) r _ s1 _ w' Z' φ' e env' s' hos' h3 hev hI' hE' (z1.trans hn) (by rw [z2]; exact hp.later hL)
          · rename_i v s1 hop
            simp only [Option.some.injEq, Prod.mk.injEq] at hev
            obtain ⟨rfl, rfl, rfl⟩ := hev
            refine ⟨.pan v, s1, hop, (fun v' hv => by cases hv), fun v' hv => ?_⟩
            cases hv
            exact hp
          · cases hev
      · cases hc
    · cases hc

end AI
end Go.Proofs.Ytocgbgffpdphdaa
