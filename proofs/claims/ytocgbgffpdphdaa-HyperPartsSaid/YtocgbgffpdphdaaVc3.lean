/- The evaluator, step by step on symbols: regions, code, loops, functions. -/
import Derived.Test.YtocgbgffpdphdaaVc2
namespace Go.Proofs.Ytocgbgffpdphdaa
namespace AI
open Go.RowKit

variable {AP : Nat → Option AFn}

def vWanted (g : Option (Nat × Bool)) (env : Env) (t e : Prop) : Prop := match g with
  | none => t
  | some (r, b) => match env.get r with
    | .bool b' => bcase (b' == b) t e
    | .undef => e
    | _ => False

def vNext (k : Env → Sto → Prop) (d : Option Nat) (env : Env) (Q : AExit → Env → Sto → Prop) (out : AOut) (s : Sto) : Prop := match out with
  | .ok v => k (put d v env) s
  | .pan v => Q (.pan v) env s

def vOps (AP : Nat → Option AFn) : List AOper → Env → Sto → (AExit → Env → Sto → Prop) → Prop
  | [], env, s, Q => Q .normal env s
  | o :: os, env, s, Q => vWanted o.guard env
      (vOp AP o.op env s (vNext (fun env s => vOps AP os env s Q) o.dst env Q))
      (vOps AP os (put o.dst .undef env) s Q)

theorem vOps_sound : ∀ {os : List AOper} {env : Env} {s : Sto} {Q : AExit → Env → Sto → Prop}, vOps AP os env s Q → Ops AP os env s Q
  | [], env, s, Q, h => ⟨0, _, _, _, rfl, h⟩
  | o :: os, env, s, Q, h => by
    have hskip : wanted o.guard env = some false → vOps AP os (put o.dst .undef env) s Q → Ops AP (o :: os) env s Q := by
      intro hw h
      obtain ⟨N, e, env', s', h1, h2⟩ := vOps_sound h
      exact ⟨N, e, env', s', by simp only [evOps, hw]; exact h1, h2⟩
    have hdo : wanted o.guard env = some true → vOp AP o.op env s (vNext (fun env s => vOps AP os env s Q) o.dst env Q) → Ops AP (o :: os) env s Q := by
      intro hw h
      obtain ⟨N, out, s1, h1, h2⟩ := vOp_sound h
      cases out with
      | ok v =>
        obtain ⟨N', e, env', s', h3, h4⟩ := vOps_sound h2
        refine ⟨max N N', e, env', s', ?_, h4⟩
        simp only [evOps, hw, evOp_mono (le_call (Nat.le_max_left N N')) h1]
        exact evOps_mono (le_call (Nat.le_max_right N N')) h3
      | pan v => exact ⟨N, _, _, _, by simp only [evOps, hw, h1], h2⟩
    simp only [vOps] at h
    unfold vWanted at h
    split at h
    · rename_i hg
      exact hdo (by rw [hg]; rfl) h
    · rename_i r b hg
      split at h
      · rename_i b' hb
        cases hbb : (b' == b)
        · rw [hbb] at h
          exact hskip (by rw [hg]; simp only [wanted, hb, hbb]) h
        · rw [hbb] at h
          exact hdo (by rw [hg]; simp only [wanted, hb, hbb]) h
      · rename_i hb
        exact hskip (by rw [hg]; simp only [wanted, hb]) h
      · cases h

def commitK : List Nat → Env → (Env → Prop) → Prop
  | [], _, K => K []
  | t :: ts, env, K => (env.get t).force fun v => commitK ts env fun e => K ((t, v) :: e)

theorem commitK_iff : ∀ (ts : List Nat) (env : Env) (K : Env → Prop), commitK ts env K ↔ K (commit env ts)
  | [], _, _ => Iff.rfl
  | t :: ts, env, K => by
    simp only [commitK, force_eq, commit]
    exact commitK_iff ts env _

def vFrz : List Nat → Env → Sto → (Env → Sto → Prop) → Prop
  | [], env, s, K => K env s
  | t :: ts, env, s, K => match env.get t with
    | .own o g off len => match nth s.σ o with
      | some (.arr g' _ nn cl elems) => need (g = g' ∧ cl = true ∧ off + len ≤ elems.length) (eqK (sub elems off len) fun xs => setK s.σ o .dead fun σ => vFrz ts ((t, .sl nn xs) :: env) ⟨σ, s.ctr⟩ K)
      | _ => False
    | .sl nn xs => vFrz ts ((t, .sl nn xs) :: env) s K
    | .zc => vFrz ts ((t, .zc) :: env) s K
    | _ => False

theorem vFrz_sound : ∀ {ts : List Nat} {env : Env} {s : Sto} {K : Env → Sto → Prop}, vFrz ts env s K → ∃ env' s', evFrz ts env s = some (env', s') ∧ K env' s'
  | [], env, s, K, h => ⟨env, s, rfl, h⟩
  | t :: ts, env, s, K, h => by
    simp only [vFrz] at h
    split at h
    · rename_i o g off len hv
      split at h
      · rename_i g' es nn cl elems ho
        obtain ⟨⟨rfl, rfl, hf⟩, xs, rfl, h⟩ := h
        rw [setK_iff] at h
        obtain ⟨env', s', h1, h2⟩ := vFrz_sound h
        exact ⟨env', s', by simp only [evFrz, hv, ho, true_and, if_pos hf]; exact h1, h2⟩
      · cases h
    · rename_i nn xs hv
      obtain ⟨env', s', h1, h2⟩ := vFrz_sound h
      exact ⟨env', s', by simp only [evFrz, hv]; exact h1, h2⟩
    · rename_i hv
      obtain ⟨env', s', h1, h2⟩ := vFrz_sound h
      exact ⟨env', s', by simp only [evFrz, hv]; exact h1, h2⟩
    · cases h

def takeK {α : Type} : Nat → List α → (List α → Prop) → Prop
  | 0, _, K => K []
  | _ + 1, [], K => K []
  | n + 1, x :: xs, K => takeK n xs fun ys => K (x :: ys)

theorem takeK_iff {α : Type} : ∀ (n : Nat) (l : List α) (K : List α → Prop), takeK n l K ↔ K (l.take n)
  | 0, _, _ => by simp [takeK]
  | _ + 1, [], _ => by simp [takeK]
  | n + 1, x :: xs, K => takeK_iff n xs fun ys => K (x :: ys)

def truncK (tr : Option Nat) (s : Sto) (K : Sto → Prop) : Prop := match tr with
  | none => K s
  | some k => takeK k s.σ fun σ => K ⟨σ, s.ctr⟩

theorem truncK_iff (tr : Option Nat) (s : Sto) (K : Sto → Prop) : truncK tr s K ↔ K (truncate tr s) := by
  cases tr with
  | none => exact Iff.rfl
  | some k => exact takeK_iff k s.σ _

def vTail (live : List Nat) (tr : Option Nat) (Q : AExit → Env → Sto → Prop) (e : AExit) (env : Env) (s : Sto) : Prop := match e with
  | .normal => commitK live env fun env => truncK tr s fun s => Q .normal env s
  | e => Q e env s

def vSeq (k : Env → Sto → Prop) (Q : AExit → Env → Sto → Prop) (e : AExit) (env : Env) (s : Sto) : Prop := match e with
  | .normal => k env s
  | e => Q e env s

def vBlk (id : Nat) (Q : AExit → Env → Sto → Prop) (e : AExit) (env : Env) (s : Sto) : Prop := match e with
  | .exit j => bcase (Nat.beq j id) (Q .normal env s) (Q (.exit j) env s)
  | e => Q e env s

structure parK (AP : Nat → Option AFn) (m : Nat) (un : List (Nat × Nat)) (ops : List AOper) (env : Env) (s : Sto) (K : Env → Sto → Prop) : Prop where
  mk :: (h : ∃ N env1 s1, evHead (run AP N) m un ops env s = some (env1, s1) ∧ K env1 s1)

def vC (AP : Nat → Option AFn) : ACode → Env → Sto → (AExit → Env → Sto → Prop) → Prop
  | .skip, env, s, Q => Q .normal env s
  | .region _ frz ops live tr, env, s, Q => vFrz frz env s fun env s => vOps AP ops env s (vTail live tr Q)
  | .par m un frz ops live tr, env, s, Q => vFrz frz env s fun env s => parK AP m un ops env s fun env1 s1 => vOps AP (ops.drop m) env1 s1 (vTail live tr Q)
  | .seq a b, env, s, Q => vC AP a env s (vSeq (fun env s => vC AP b env s Q) Q)
  | .cond c a b, env, s, Q => match c.val env with
    | .bool c => bcase c (vC AP a env s Q) (vC AP b env s Q)
    | _ => False
  | .block id a, env, s, Q => vC AP a env s (vBlk id Q)
  | .loop live a, env, s, Q => commitK live env fun env => Run AP (.loop live a) env s Q
  | .exit id, env, s, Q => Q (.exit id) env s
  | .ret, env, s, Q => Q .ret env s

theorem commit_mem {env : Env} {t : Nat} : ∀ {ts : List Nat}, t ∈ ts → (commit env ts).get t = env.get t
  | [], h => by simp at h
  | t' :: ts, h => by
    simp only [commit, Env.get]
    cases hb : Nat.beq t' t
    · have hne : t ≠ t' := fun e => by subst e; simp at hb
      rw [cond_false]
      exact commit_mem ((List.mem_cons.1 h).resolve_left hne)
    · rw [cond_true, Nat.eq_of_beq_eq_true hb]

theorem commit_congr {env env' : Env} : ∀ {ts : List Nat}, (∀ t ∈ ts, env.get t = env'.get t) → commit env ts = commit env' ts
  | [], _ => rfl
  | t :: ts, h => by simp only [commit]; rw [h t (by simp), commit_congr fun t' h' => h t' (by simp [h'])]

theorem commit_commit (env : Env) (ts : List Nat) : commit (commit env ts) ts = commit env ts := commit_congr fun _ h => commit_mem h

theorem loop_commit {live : List Nat} {a : ACode} {env : Env} {s : Sto} {Q : AExit → Env → Sto → Prop} (h : Run AP (.loop live a) (commit env live) s Q) : Run AP (.loop live a) env s Q := by
  obtain ⟨N, e, env', s', h1, h2⟩ := h
  refine ⟨N, e, env', s', ?_, h2⟩
  simp only [evC] at h1 ⊢
  cases N with
  | zero => simp [iter] at h1
  | succ N =>
    simp only [iter, commit_commit] at h1 ⊢
    exact h1

theorem vC_sound : ∀ {c : ACode} {env : Env} {s : Sto} {Q : AExit → Env → Sto → Prop}, vC AP c env s Q → Run AP c env s Q := by
  intro c
  induction c with
  | skip => intro env s Q h; exact ⟨0, _, _, _, rfl, h⟩
  | exit id => intro env s Q h; exact ⟨0, _, _, _, rfl, h⟩
  | ret => intro env s Q h; exact ⟨0, _, _, _, rfl, h⟩
  | region hd frz ops live tr =>
    intro env s Q h
    obtain ⟨env1, s1, h1, h2⟩ := vFrz_sound h
    obtain ⟨N, e, env2, s2, h3, h4⟩ := vOps_sound h2
    cases e with
    | normal => exact ⟨N, _, _, _, by simp only [evC, h1, h3], (truncK_iff _ _ _).1 ((commitK_iff _ _ _).1 h4)⟩
    | exit id => exact ⟨N, _, _, _, by simp only [evC, h1, h3], h4⟩
    | ret => exact ⟨N, _, _, _, by simp only [evC, h1, h3], h4⟩
    | pan v => exact ⟨N, _, _, _, by simp only [evC, h1, h3], h4⟩
  | par m un frz ops live tr =>
    intro env s Q h
    obtain ⟨env1, s1, h1, N', env1', s1', hh, h2⟩ := vFrz_sound h
    obtain ⟨N, e, env2, s2, h3, h4⟩ := vOps_sound h2
    have hh' : evHead (run AP (max N N')) m un ops env1 s1 = some (env1', s1') := by
      unfold evHead at hh ⊢
      split at hh
      · rename_i es hes
        rw [evPar_mono (le_call (Nat.le_max_right N N')) hes]
        exact hh
      · cases hh
    have h3' := evOps_mono (le_call (AP := AP) (Nat.le_max_left N N')) h3
    cases e with
    | normal => exact ⟨max N N', _, _, _, by simp only [evC, h1, hh', h3'], (truncK_iff _ _ _).1 ((commitK_iff _ _ _).1 h4)⟩
    | exit id => exact ⟨max N N', _, _, _, by simp only [evC, h1, hh', h3'], h4⟩
    | ret => exact ⟨max N N', _, _, _, by simp only [evC, h1, hh', h3'], h4⟩
    | pan v => exact ⟨max N N', _, _, _, by simp only [evC, h1, hh', h3'], h4⟩
  | seq a b iha ihb =>
    intro env s Q h
    obtain ⟨N, e, env1, s1, h1, h2⟩ := iha h
    cases e with
    | normal =>
      obtain ⟨N', e', env2, s2, h3, h4⟩ := ihb h2
      have h1' := evC_mono (le_call (AP := AP) (Nat.le_max_left N N')) (Nat.le_max_left N N') h1
      have h3' := evC_mono (le_call (AP := AP) (Nat.le_max_right N N')) (Nat.le_max_right N N') h3
      exact ⟨max N N', e', env2, s2, by simp only [evC, h1', h3'], h4⟩
    | exit id => exact ⟨N, _, _, _, by simp only [evC, h1], h2⟩
    | ret => exact ⟨N, _, _, _, by simp only [evC, h1], h2⟩
    | pan v => exact ⟨N, _, _, _, by simp only [evC, h1], h2⟩
  | cond c a b iha ihb =>
    intro env s Q h
    simp only [vC] at h
    split at h
    · rename_i c' hc
      cases c'
      · obtain ⟨N, e, env1, s1, h1, h2⟩ := ihb h
        exact ⟨N, e, env1, s1, by simp only [evC, hc, h1], h2⟩
      · obtain ⟨N, e, env1, s1, h1, h2⟩ := iha h
        exact ⟨N, e, env1, s1, by simp only [evC, hc, h1], h2⟩
    · cases h
  | block id a iha =>
    intro env s Q h
    obtain ⟨N, e, env1, s1, h1, h2⟩ := iha h
    cases e with
    | normal => exact ⟨N, _, _, _, by simp only [evC, h1], h2⟩
    | exit j =>
      simp only [vBlk] at h2
      cases hb : Nat.beq j id
      · rw [hb] at h2
        have hne : j ≠ id := fun e => by subst e; simp at hb
        exact ⟨N, _, _, _, by simp only [evC, h1, if_neg hne], h2⟩
      · rw [hb] at h2
        exact ⟨N, _, _, _, by simp only [evC, h1, if_pos (Nat.eq_of_beq_eq_true hb)], h2⟩
    | ret => exact ⟨N, _, _, _, by simp only [evC, h1], h2⟩
    | pan v => exact ⟨N, _, _, _, by simp only [evC, h1], h2⟩
  | loop live a iha =>
    intro env s Q h
    exact loop_commit ((commitK_iff _ _ _).1 h)

/-- what stands behind a round -/
def vRound (AP : Nat → Option AFn) (live : List Nat) (a : ACode) (Q : AExit → Env → Sto → Prop) (e : AExit) (env : Env) (s : Sto) : Prop := match e with
  | .normal => commitK live env fun env => Run AP (.loop live a) env s Q
  | e => Q e env s

/-- one round -/
theorem loop_step {live : List Nat} {a : ACode} {env : Env} {s : Sto} {Q : AExit → Env → Sto → Prop} (h : vC AP a env s (vRound AP live a Q)) (hc : commit env live = env) : Run AP (.loop live a) env s Q := by
  obtain ⟨N, e, env1, s1, h1, h2⟩ := vC_sound h
  cases e with
  | normal =>
    obtain ⟨N', e', env2, s2, h3, h4⟩ := loop_commit ((commitK_iff _ _ _).1 h2)
    refine ⟨max N N' + 1, e', env2, s2, ?_, h4⟩
    have h1' := evC_mono (le_call (AP := AP) (show N ≤ max N N' + 1 by omega)) (show N ≤ max N N' + 1 by omega) h1
    simp only [evC] at h3 ⊢
    rw [iter.eq_2]
    rw [hc, h1']
    exact iter_mono (fun env s r hr => evC_mono (le_call (by omega)) (by omega) hr) (by omega) h3
  | exit id => exact ⟨N + 1, _, _, _, by simp only [evC, iter.eq_2, hc, evC_mono (le_call (AP := AP) (Nat.le_succ N)) (Nat.le_succ N) h1], h2⟩
  | ret => exact ⟨N + 1, _, _, _, by simp only [evC, iter.eq_2, hc, evC_mono (le_call (AP := AP) (Nat.le_succ N)) (Nat.le_succ N) h1], h2⟩
  | pan v => exact ⟨N + 1, _, _, _, by simp only [evC, iter.eq_2, hc, evC_mono (le_call (AP := AP) (Nat.le_succ N)) (Nat.le_succ N) h1], h2⟩

/-- what a function's text must end in -/
def vRes (fn : AFunc) (K : AOut → Sto → Prop) (e : AExit) (env : Env) (s : Sto) : Prop := match e with
  | .normal => getK (evRess env s fn.results) fun vs => K (.ok (tupOf vs)) s
  | .ret => getK (evRess env s fn.results) fun vs => K (.ok (tupOf vs)) s
  | .pan v => K (.pan v) s
  | .exit _ => False

theorem calls_of {f : Nat} {fn : AFunc} {args : List AV} {s : Sto} {K : AOut → Sto → Prop} (hf : AP f = some (.code fn)) (hl : args.length = fn.np) (h : Run AP fn.body (params args 0) s (vRes fn K)) : Calls1 AP f args s K := by
  obtain ⟨N, e, env, s', h1, h2⟩ := h
  cases e with
  | normal =>
    obtain ⟨vs, h3, h4⟩ := h2
    exact ⟨N + 1, _, _, by simp only [run, hf, if_pos hl, evF, h1, h3, Option.map_some], h4⟩
  | ret =>
    obtain ⟨vs, h3, h4⟩ := h2
    exact ⟨N + 1, _, _, by simp only [run, hf, if_pos hl, evF, h1, h3, Option.map_some], h4⟩
  | pan v => exact ⟨N + 1, _, _, by simp only [run, hf, if_pos hl, evF, h1], h2⟩
  | exit id => cases h2

/-- a call on a store of its own -/
def vPure (v : AV) (out : AOut) (s : Sto) : Prop := match out with
  | .ok r => snap s.σ snapDepth r = some v
  | .pan _ => False

theorem pure_of {f : Nat} {fn : AFunc} {args : List AV} {v : AV} (hf : AP f = some (.code fn)) (hl : args.length = fn.np) (h : Run AP fn.body (params args 0) ⟨[], 0⟩ (vRes fn (vPure v))) : Pure AP f args v := by
  obtain ⟨N, out, s', h1, h2⟩ := calls_of hf hl h
  cases out with
  | ok r => exact ⟨N, by simp only [pureCall, h1]; exact h2⟩
  | pan r => cases h2

end AI
end Go.Proofs.Ytocgbgffpdphdaa
