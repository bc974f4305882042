/- Soundness, seventeenth part: code, functions, the evaluator. -/
import Derived.Test.YtocgbgffpdphdaaSndP4
import Derived.LoopN
namespace Go.Proofs.Ytocgbgffpdphdaa
namespace AI
open Go.RowKit

variable {P : Program} {B : Nat} {w w' w0 : World} {Z Z' : Cold} {φ φ' : Phi} {ctr ctr' : Nat} {s s' : Sto}

/-- objects that turn cold -/
theorem frz_sound : ∀ {ts : List Nat} {env : Env} {s : Sto} {env1 : Env} {s1 : Sto} {Z : Cold} {tmps : Array Value}, evFrz ts env s = some (env1, s1) → Inv w0 B s Z φ w → EnvRep w Z φ s.ctr env tmps →
    ∃ Z', Inv w0 B s1 Z' φ w ∧ EnvRep w Z' φ s1.ctr env1 tmps ∧ Later B w Z φ s.ctr w Z' φ s1.ctr
  | [], env, s, env1, s1, Z, tmps, h, hI, hE => by
    simp only [evFrz, Option.some.injEq, Prod.mk.injEq] at h
    obtain ⟨rfl, rfl⟩ := h
    exact ⟨Z, hI, hE, Later.refl _ _ _ _ _⟩
  | t :: ts, env, s, env1, s1, Z, tmps, h, hI, hE => by
    simp only [evFrz] at h
    have same : ∀ {v : AV}, env.get t = v → EnvRep w Z φ s.ctr ((t, v) :: env) tmps := by
      intro v hv t'
      simp only [Env.get]
      cases hb : Nat.beq t t'
      · exact hE t'
      · have := Nat.eq_of_beq_eq_true hb
        subst this
        rw [← hv]; exact hE t
    split at h
    · rename_i o g off len hv
      split at h
      · rename_i g' es nn elems ho
        split at h
        · rename_i hc
          obtain ⟨rfl, hfit⟩ := hc
          rw [nth_eq] at ho
          have hob := hI.objs o _ ho
          obtain ⟨og, hes, h3⟩ := hob
          have hr := hE t
          rw [hv] at hr
          have hlen : (sub elems off len).length = len := length_sub hfit
          -- the cold cells behind it
          have step : ∀ (Z' : Cold), (∀ b i, Z b i → Z' b i) → (∀ b i, Z' b i → Z b i ∨ (B ≤ b ∧ b < w.heap.size ∧ ∃ e n, φ g = .row b e n)) → Rep w Z' φ s.ctr (.sl nn (sub elems off len)) (tmps.getD t undef) →
              ∃ Z'', Inv w0 B s1 Z'' φ w ∧ EnvRep w Z'' φ s1.ctr env1 tmps ∧ Later B w Z φ s.ctr w Z'' φ s1.ctr := by
            intro Z' hZ1 hZ2 hrep
            have hL : Later B w Z φ s.ctr w Z' φ s.ctr := ⟨fun b i h => (hZ2 b i h).imp id fun h => h.1, Nat.le_refl _, hZ1, fun _ _ _ => rfl, fun _ _ => rfl⟩
            have hI' : Inv w0 B ⟨s.σ.set o .dead, s.ctr⟩ Z' φ w := by
              refine hI.set ho (Below.refl _ _) hL (fun b i h => (hZ2 b i h).elim (hI.live b i) fun h => h.2.1) (fun o' ob' g' b' e' n' hne ho' hg' hφ' => ⟨rfl, fun i h => ?_⟩) trivial (fun g' b' e' n' hg' => by simp [Obj.gen] at hg')
              rcases hZ2 b' i h with h | ⟨_, _, e2, n2, hφ2⟩
              · exact h
              · exact absurd (hI.apart o' o ob' _ g' g _ _ _ _ _ ho' ho hg' rfl hφ' hφ2) hne
            have hE' : EnvRep w Z' φ s.ctr ((t, .sl nn (sub elems off len)) :: env) tmps := by
              intro t'
              simp only [Env.get]
              cases hb : Nat.beq t t'
              · exact (hE t').later hL
              · have := Nat.eq_of_beq_eq_true hb
                subst this
                exact hrep
            obtain ⟨Z2, k1, k2, k3⟩ := frz_sound h hI' hE'
            exact ⟨Z2, k1, k2, hL.trans k3⟩
          generalize hq : tmps.getD t undef = q at hr step
          cases hr with
          | ownNil _ _ hg hφ =>
            rw [hφ] at h3
            obtain ⟨rfl, _⟩ := h3
            exact step Z (fun _ _ h => h) (fun _ _ h => .inl h) (by rw [List.eq_nil_of_length_eq_zero hlen]; exact .nilsl)
          | ownZc _ _ a0 hg hφ =>
            rw [hφ] at h3
            obtain ⟨rfl, _⟩ := h3
            exact step Z (fun _ _ h => h) (fun _ _ h => .inl h) (by
              rw [List.eq_nil_of_length_eq_zero hlen]
              exact .sl0 a0)
          | own _ _ _ _ b e size cap ad hg hφ hcap ha hs =>
            rw [hφ] at h3
            obtain ⟨rfl, he, hB, hnz, hfs, c, ty, hw, hcs, hH⟩ := h3
            subst he
            have hblt : b < w.heap.size := (Array.getElem?_eq_some_iff.1 hw).1
            refine step (fun b' i => Z b' i ∨ b' = b) (fun _ _ h => .inl h) (fun b' i h => h.imp id fun e => by subst e; exact ⟨hB, hblt, _, _, hφ⟩) ?_
            by_cases hl0 : len = 0
            · have hnil : sub elems off len = [] := List.eq_nil_of_length_eq_zero (by omega)
              rw [hnil]
              obtain ⟨ab, ao, asp⟩ := ad
              simp only at hs
              subst hs
              rw [hl0]
              exact .sl [] 0 ab ao cap 1 (fun _ _ => Go.undef) rfl (by omega) (by omega) (fun i x hx => by simp at hx) (fun i x j c hx => by simp at hx) (fun i x j c hx => by simp at hx)
            · obtain ⟨rfl, hsize, _⟩ := ha (.inl (by omega))
              have hL : Later B w Z φ s.ctr w (fun b' i => Z b' i ∨ b' = b) φ s.ctr := ⟨fun b' i h => h.imp id fun e => by omega, Nat.le_refl _, fun _ _ h => .inl h, fun _ _ _ => rfl, fun _ _ => rfl⟩
              refine .sl _ len b (off * e) cap e (fun i j => (c[(off + i) * e + j]?).getD Go.undef) hlen.symm hcap hes (fun i y hy => (hH _ _ (getElem_sub hy).1).1) (fun i y j q hy hq => ?_) (fun i y j q hy hq => ?_)
              · obtain ⟨u, r1, r2, r3, r4⟩ := (hH _ _ (getElem_sub hy).1).2 j q hq
                refine ⟨.inr rfl, ?_, r4 rfl, r3⟩
                rw [show off * e + i * e + j = (off + i) * e + j by rw [Nat.add_mul]]
                simp [World.cell?, hw, r1]
              · obtain ⟨u, r1, r2, r3, r4⟩ := (hH _ _ (getElem_sub hy).1).2 j q hq
                simp only [r1, Option.getD_some]
                exact r2.later hL
        · cases h
      · cases h
    · rename_i nn xs hv
      exact frz_sound h hI (same hv)
    · rename_i hv
      exact frz_sound h hI (same hv)
    · cases h

theorem commit_get (env : Env) : ∀ (ts : List Nat) (t : Nat), (commit env ts).get t = env.get t ∨ (commit env ts).get t = .junk
  | [], t => .inr rfl
  | t' :: ts, t => by
    simp only [commit, Env.get]
    cases hb : Nat.beq t' t
    · exact commit_get env ts t
    · have := Nat.eq_of_beq_eq_true hb
      subst this
      exact .inl rfl

theorem EnvRep.commit {env : Env} {tmps : Array Value} (h : EnvRep w Z φ ctr env tmps) (ts : List Nat) : EnvRep w Z φ ctr (AI.commit env ts) tmps := by
  intro t
  rcases commit_get env ts t with h1 | h1 <;> rw [h1]
  · exact h t
  · exact .junk _

theorem Inv.truncate (hI : Inv w0 B s Z φ w) (t : Option Nat) : Inv w0 B (AI.truncate t s) Z φ w ∧ (AI.truncate t s).ctr = s.ctr := by
  cases t with
  | none => exact ⟨hI, rfl⟩
  | some k => exact ⟨hI.take k, rfl⟩

set_option maxHeartbeats 1000000 in
theorem code_sound {C : CallF} (hC : CallSound P C) (hm : P.follows .mixedOrders = true) {n : Nat} {an : List RAnn} (N : Nat) : ∀ (c : Code) (ac : ACode), compC P n an c = some ac → ∀ (env : Env) (s : Sto) (a : Act) (w : World) (Z : Cold) (φ : Phi) (e : AExit) (env' : Env) (s' : Sto) (Q : Exit → Act → World → Prop),
    evC C N ac env s = some (e, env', s') → Inv w0 B s Z φ w → EnvRep w Z φ s.ctr env a.tmps → a.tmps.size = n → Post w0 B w Z φ s.ctr n a.defers e env' s' Q → c.wp P Q a w := by
  intro c
  induction c with
  | skip =>
    intro ac hc env s a w Z φ e env' s' Q hev hI hE hn hp
    simp only [compC, Option.some.injEq] at hc
    subst hc
    simp only [evC, Option.some.injEq, Prod.mk.injEq] at hev
    obtain ⟨rfl, rfl, rfl⟩ := hev
    exact wp_skip (hp .normal a w Z φ rfl hn rfl hI hE (Later.refl _ _ _ _ _))
  | region id ops draw =>
    intro ac hc env s a w Z φ e env' s' Q hev hI hE hn hp
    simp only [compC] at hc
    split at hc
    · rename_i os hos
      -- what stands behind the operations
      have key : ∀ (head : Option Nat), evC C N (.region head (rannOf an id).frz os (rannOf an id).live (rannOf an id).trunc) env s = some (e, env', s') →
          ∃ env1 s1 Z1 e1 env2 s2, evOps C os env1 s1 = some (e1, env2, s2) ∧ Inv w0 B s1 Z1 φ w ∧ EnvRep w Z1 φ s1.ctr env1 a.tmps ∧ Post w0 B w Z1 φ s1.ctr n a.defers e1 env2 s2 Q := by
        intro head hev
        simp only [evC] at hev
        split at hev
        · rename_i env1 s1 hfz
          obtain ⟨Z1, k1, k2, k3⟩ := frz_sound hfz hI hE
          split at hev
          · rename_i env2 s2 hops
            simp only [Option.some.injEq, Prod.mk.injEq] at hev
            obtain ⟨rfl, rfl, rfl⟩ := hev
            refine ⟨env1, s1, Z1, _, env2, s2, hops, k1, k2, fun e' a' w' Z' φ' h1 h2 h3 h4 h5 h6 => ?_⟩
            obtain ⟨t1, t2⟩ := h4.truncate (rannOf an id).trunc
            refine hp e' a' w' Z' φ' (by cases h1; rfl) h2 h3 t1 (by rw [t2]; exact h5.commit _) (by rw [t2]; exact k3.trans h6)
          · rename_i r hne
            exact ⟨env1, s1, Z1, e, env', s', hev, k1, k2, hp.later k3⟩
        · cases hev
      split at hc
      · rename_i hdraw
        subst hdraw
        have hl0 : ∀ i, Lst (Array.replicate ops.size false) i = false := fun i => by simp [Lst, Array.getD_eq_getD_getElem?, Array.getElem?_replicate]; split <;> simp
        split at hc
        · split at hc
          · rename_i hchk
            simp only [Bool.and_eq_true, decide_eq_true_eq] at hchk
            simp only [Option.some.injEq] at hc
            subst hc
            generalize hmm : (rannOf an id).head.getD os.length = m at hchk hev
            have hok := drawOk_spec hchk.1.1
            simp only [evC] at hev
            split at hev
            · rename_i env1 s1 hfz
              obtain ⟨Z1, k1, k2, k3⟩ := frz_sound hfz hI hE
              split at hev
              · rename_i env2 s2 hhd
                have tail : ∃ e1 env3 s3, evOps C (os.drop m) env2 s2 = some (e1, env3, s3) ∧ Post w0 B w Z1 φ s1.ctr n a.defers e1 env3 s3 Q := by
                  split at hev
                  · rename_i env3 s3 hops
                    simp only [Option.some.injEq, Prod.mk.injEq] at hev
                    obtain ⟨rfl, rfl, rfl⟩ := hev
                    refine ⟨_, env3, s3, hops, fun e' a' w' Z' φ' h1 h2 h3 h4 h5 h6 => ?_⟩
                    obtain ⟨t1, t2⟩ := h4.truncate (rannOf an id).trunc
                    exact hp e' a' w' Z' φ' (by cases h1; rfl) h2 h3 t1 (by rw [t2]; exact h5.commit _) (by rw [t2]; exact k3.trans h6)
                  · exact ⟨e, env', s', hev, hp.later k3⟩
                obtain ⟨e1, env3, s3, hops, hp1⟩ := tail
                unfold evHead at hhd
                split at hhd
                · rename_i es hes
                  split at hhd
                  · rename_i hap
                    simp only [Option.some.injEq, Prod.mk.injEq] at hhd
                    obtain ⟨rfl, rfl⟩ := hhd
                    refine wp_region_any hm ?_
                    have hI1 : Inv w0 B s1 Z1 φ { w with drawn := w.drawn + 1 } ∧ Later B w Z1 φ s1.ctr { w with drawn := w.drawn + 1 } Z1 φ s1.ctr :=
                      k1.grow (Z' := Z1) (Below.refl _ _).drew (fun _ _ h => h) (fun _ _ h => .inl h) (fun b i h => k1.live b i h)
                    have hres := hI1.1.reserve (ranks (os.take m)) m
                    have hst0 : stoL (Lst (Array.replicate ops.size false)) es 0 ⟨s1.σ ++ List.replicate (ranks (os.take m)) .dead, s1.ctr + m⟩ = ⟨s1.σ ++ List.replicate (ranks (os.take m)) .dead, s1.ctr + m⟩ := by
                      have : ∀ (es : List Eff) (i : Nat) (s : Sto), stoL (Lst (Array.replicate ops.size false)) es i s = s := by
                        intro es
                        induction es with
                        | nil => intro i s; rfl
                        | cons e es ih =>
                          intro i s
                          simp only [stoL]
                          rw [if_neg (by rw [hl0]; simp)]
                          exact ih (i + 1) s
                      exact this es 0 _
                    refine parHead_sound hC hos hok hchk.2 hes hap (Nat.le_refl _) hops (Nat.le_refl _) (hp1.later hI1.2) ops.size _ a _ Z1 (fun g => if g < s1.ctr then φ g else .pend) (by omega) (by simp) (fun j o _ hl => by rw [hl0] at hl; cases hl) (fun i hl => by rw [hl0] at hl; cases hl) (by rw [hst0]; exact hres) ?_ hn rfl (fun i _ _ => if_neg (Nat.not_lt.2 (Nat.le_add_right _ _))) ?_
                    · rw [hst0, envL_none _ 0 env1 fun k _ => hl0 _]
                      exact fun t => ((k2.later hI1.2) t).fill (fun g hg _ => if_pos hg) (by simp)
                    · rw [hst0]
                      exact ⟨fun b i h => .inl h, by simp, fun b i h => h, fun _ _ _ => rfl, fun g hg => if_pos hg⟩
                  · cases hhd
                · cases hhd
              · cases hev
            · cases hev
          · cases hc
        split at hc
        · rename_i hchk
          simp only [Bool.and_eq_true] at hchk
          simp only [Option.some.injEq] at hc
          subst hc
          obtain ⟨env1, s1, Z1, e1, env2, s2, hops, k1, k2, k3⟩ := key _ hev
          have hlen : os.length = ops.size := by have := (compOps_get hos).1; simpa using this
          have hok := drawOk_spec hchk.1
          -- a head longer than the region is the region
          generalize hmm : (rannOf an id).head.getD os.length = m at hchk hok
          have hok' : DrawOk ops os (min m ops.size) := ⟨hok.fwd, hok.tmp, fun j hj hmj i hi => hok.tail j hj (by omega) i hi⟩
          have htk : os.take m = os.take (min m ops.size) := by
            rcases Nat.le_total m ops.size with h | h
            · rw [Nat.min_eq_left h]
            · rw [Nat.min_eq_right h, List.take_of_length_le (by omega), List.take_of_length_le (by omega)]
          have hpure : pureHead (min m ops.size) os = true := by
            have := hchk.2
            unfold pureHead at this ⊢
            rw [← htk]; exact this
          have hsplit : os = os.take (min m ops.size) ++ os.drop (min m ops.size) := (List.take_append_drop _ _).symm
          rw [hsplit] at hops
          obtain ⟨vs, htr, htl⟩ := evOps_trace (by unfold pureHead at hpure; exact hpure) hops
          refine wp_region_any hm ?_
          have hI1 : Inv w0 B s1 Z1 φ { w with drawn := w.drawn + 1 } ∧ Later B w Z1 φ s1.ctr { w with drawn := w.drawn + 1 } Z1 φ s1.ctr :=
            k1.grow (Z' := Z1) (Below.refl _ _).drew (fun _ _ h => h) (fun _ _ h => .inl h) (fun b i h => k1.live b i h)
          have hcnt0 : cnt (Lst (Array.replicate ops.size false)) ops.size + ops.size ≥ ops.size := by omega
          refine head_sound hC hos hok' (Nat.min_le_right _ _) hpure htr (htl 0) ops.size _ a _ Z1 φ hcnt0 (by simp) (fun j o _ hl => by rw [hl0] at hl; cases hl) (fun i hl => by rw [hl0] at hl; cases hl) hI1.1 ?_ hn (k3.later hI1.2)
          rw [envL_none vs 0 env1 fun k _ => hl0 _]
          exact k2.later hI1.2
        · cases hc
      · rename_i hdraw
        simp only [Bool.not_eq_true] at hdraw
        subst hdraw
        simp only [Option.some.injEq] at hc
        subst hc
        obtain ⟨env1, s1, Z1, e1, env2, s2, hops, k1, k2, k3⟩ := key _ hev
        refine wp_region ?_
        have := ops_sound hC ops.toList 0 os env1 s1 a w Z1 φ e1 env2 s2 (fun k => by simp) hos hops k1 k2 hn k3
        rw [List.range_eq_range']
        simpa using this
    · cases hc
  | seq x y ihx ihy =>
    intro ac hc env s a w Z φ e env' s' Q hev hI hE hn hp
    simp only [compC] at hc
    split at hc
    · rename_i ax ay hx hy
      simp only [Option.some.injEq] at hc
      subst hc
      simp only [evC] at hev
      refine wp_seq ?_
      split at hev
      · rename_i env1 s1 h1
        refine ihx ax hx env s a w Z φ _ env1 s1 _ h1 hI hE hn fun e' a' w' Z' φ' q1 q2 q3 q4 q5 q6 => ?_
        cases q1
        exact ihy ay hy env1 s1 a' w' Z' φ' e env' s' Q hev q4 q5 q2 (q3 ▸ hp.later q6)
      · rename_i r hne
        refine ihx ax hx env s a w Z φ e env' s' _ hev hI hE hn fun e' a' w' Z' φ' q1 q2 q3 q4 q5 q6 => ?_
        have := hp e' a' w' Z' φ' q1 q2 q3 q4 q5 q6
        cases e' <;> first | exact this | skip
        cases e <;> first | (cases q1; done) | skip
        · exact absurd hev (hne env' s')
        · obtain ⟨x, hx, _⟩ := q1; cases hx
    · cases hc
  | cond c x y ihx ihy =>
    intro ac hc env s a w Z φ e env' s' Q hev hI hE hn hp
    simp only [compC] at hc
    split at hc
    · rename_i ao ax ay ho hx hy
      simp only [Option.some.injEq] at hc
      subst hc
      have hr := ofOperand_rep hE ho
      simp only [evC] at hev
      split at hev
      · rename_i hb
        rw [hb] at hr
        generalize hq : a.eval c = q at hr
        cases hr
        exact wp_cond_true hq (ihx ax hx env s a w Z φ e env' s' Q hev hI hE hn hp)
      · rename_i hb
        rw [hb] at hr
        generalize hq : a.eval c = q at hr
        cases hr
        exact wp_cond_false hq (ihy ay hy env s a w Z φ e env' s' Q hev hI hE hn hp)
      · cases hev
    · cases hc
  | block id x ihx =>
    intro ac hc env s a w Z φ e env' s' Q hev hI hE hn hp
    simp only [compC, Option.map_eq_some_iff] at hc
    obtain ⟨ax, hx, rfl⟩ := hc
    simp only [evC] at hev
    refine wp_block ?_
    split at hev
    · rename_i j env1 s1 h1
      refine ihx ax hx env s a w Z φ _ env1 s1 _ h1 hI hE hn fun e' a' w' Z' φ' q1 q2 q3 q4 q5 q6 => ?_
      cases q1
      split at hev
      · rename_i hj
        simp only [Option.some.injEq, Prod.mk.injEq] at hev
        obtain ⟨rfl, rfl, rfl⟩ := hev
        simp only [Exit.inBlock, hj, if_true]
        exact hp .normal a' w' Z' φ' rfl q2 q3 q4 q5 q6
      · rename_i hj
        simp only [Option.some.injEq, Prod.mk.injEq] at hev
        obtain ⟨rfl, rfl, rfl⟩ := hev
        simp only [Exit.inBlock, hj, if_false]
        exact hp (.exit j) a' w' Z' φ' rfl q2 q3 q4 q5 q6
    · rename_i r hne
      refine ihx ax hx env s a w Z φ e env' s' _ hev hI hE hn fun e' a' w' Z' φ' q1 q2 q3 q4 q5 q6 => ?_
      have := hp e' a' w' Z' φ' q1 q2 q3 q4 q5 q6
      cases e' <;> first | exact this | skip
      rename_i j
      cases e <;> first | (cases q1; done) | skip
      · exact absurd hev (hne _ env' s')
      · obtain ⟨x, hx, _⟩ := q1; cases hx
  | loop x ihx =>
    intro ac hc env s a w Z φ e env' s' Q hev hI hE hn hp
    simp only [compC, Option.map_eq_some_iff] at hc
    obtain ⟨ax, hx, rfl⟩ := hc
    simp only [evC] at hev
    have rounds : ∀ (M : Nat) (env : Env) (s : Sto) (a : Act) (w : World) (Z : Cold) (φ : Phi), iter (fun env s => evC C N ax (AI.commit env (rannOf an (firstId x)).hdr) s) M env s = some (e, env', s') → Inv w0 B s Z φ w → EnvRep w Z φ s.ctr env a.tmps → a.tmps.size = n → Post w0 B w Z φ s.ctr n a.defers e env' s' Q → Code.rounds P x Q M a w := by
      intro M
      induction M with
      | zero => intro env s a w Z φ h; simp [iter] at h
      | succ M ihM =>
        intro env s a w Z φ h hI hE hn hp
        rw [rounds_succ]
        simp only [iter] at h
        split at h
        · rename_i env1 s1 h1
          refine ihx ax hx _ s a w Z φ _ env1 s1 _ h1 hI (hE.commit _) hn fun e' a' w' Z' φ' q1 q2 q3 q4 q5 q6 => ?_
          cases q1
          exact ihM env1 s1 a' w' Z' φ' h q4 q5 q2 (q3 ▸ hp.later q6)
        · rename_i r hne
          refine ihx ax hx _ s a w Z φ e env' s' _ h hI (hE.commit _) hn fun e' a' w' Z' φ' q1 q2 q3 q4 q5 q6 => ?_
          have := hp e' a' w' Z' φ' q1 q2 q3 q4 q5 q6
          cases e' <;> first | exact this | skip
          cases e <;> first | (cases q1; done) | skip
          · exact absurd h (hne env' s')
          · obtain ⟨x, hx, _⟩ := q1; cases hx
    exact wp_loop_rounds N (rounds N env s a w Z φ hev hI hE hn hp)
  | exit id =>
    intro ac hc env s a w Z φ e env' s' Q hev hI hE hn hp
    simp only [compC, Option.some.injEq] at hc
    subst hc
    simp only [evC, Option.some.injEq, Prod.mk.injEq] at hev
    obtain ⟨rfl, rfl, rfl⟩ := hev
    exact wp_exit (hp (.exit id) a w Z φ rfl hn rfl hI hE (Later.refl _ _ _ _ _))
  | ret =>
    intro ac hc env s a w Z φ e env' s' Q hev hI hE hn hp
    simp only [compC, Option.some.injEq] at hc
    subst hc
    simp only [evC, Option.some.injEq, Prod.mk.injEq] at hev
    obtain ⟨rfl, rfl, rfl⟩ := hev
    exact wp_ret (hp .ret a w Z φ rfl hn rfl hI hE (Later.refl _ _ _ _ _))
  | rangeFunc f ps as b _ _ => intro ac hc; simp [compC] at hc
  | scope b _ => intro ac hc; simp [compC] at hc
  | label l => intro ac hc; simp [compC] at hc
  | goto l => intro ac hc; simp [compC] at hc
  | refuse why => intro ac hc; simp [compC] at hc

/-- how a result is read -/
def readRes (tmps : Array Value) : ResultVar → Sem Value
  | .tmp t => pure (tmps.getD t undef)
  | .cell a t => do loadVar t (← asAddr (tmps.getD a undef))

theorem results_read (fn : Func) (tmps : Array Value) : results fn tmps = (do
    let vs ← fn.results.mapM (readRes tmps)
    pure (if h : vs.size = 1 then vs[0] else .tuple vs)) := rfl

theorem ress_sound (hI : Inv w0 B s Z φ w) {n : Nat} {env : Env} {tmps : Array Value} (hE : EnvRep w Z φ s.ctr env tmps) : ∀ {rs : List ResultVar} {ars : List ARes} {vs : List AV}, compRes P n rs = some ars → evRess env s ars = some vs →
    ∃ xs : List Value, (rs.mapM (readRes tmps)).run P w = .ok xs w ∧ xs.length = vs.length ∧ ∀ (i : Nat) (v : AV), vs[i]? = some v → ∃ x, xs[i]? = some x ∧ Rep w Z φ s.ctr v x
  | [], ars, vs, hc, hev => by
    simp only [compRes, Option.some.injEq] at hc
    subst hc
    simp only [evRess, Option.some.injEq] at hev
    subst hev
    exact ⟨[], by simp, rfl, fun i v hi => by simp at hi⟩
  | r :: rs, ars, vs, hc, hev => by
    have fin : ∀ {ar : ARes} {ars' : List ARes} {x : Value} {v : AV}, ars = ar :: ars' → compRes P n rs = some ars' → evRes1 env s ar = some v → (readRes tmps r).run P w = .ok x w → Rep w Z φ s.ctr v x →
        ∃ xs : List Value, ((r :: rs).mapM (readRes tmps)).run P w = .ok xs w ∧ xs.length = vs.length ∧ ∀ (i : Nat) (v : AV), vs[i]? = some v → ∃ x, xs[i]? = some x ∧ Rep w Z φ s.ctr v x := by
      intro ar ars' x v hars hc' h1 hrun hrep
      subst hars
      simp only [evRess, h1] at hev
      split at hev
      · rename_i v' vs' hv' hvs'
        simp only [Option.some.injEq] at hv' hev
        subst hv'; subst hev
        obtain ⟨xs, k1, k2, k3⟩ := ress_sound hI hE hc' hvs'
        refine ⟨x :: xs, ?_, by simp [k2], fun i u hi => ?_⟩
        · simp only [List.mapM_cons, Sem.run_bind, hrun, Result.andThen_ok, k1, Sem.run_pure]
        · cases i with
          | zero =>
            simp only [List.getElem?_cons_zero, Option.some.injEq] at hi
            subst hi
            exact ⟨x, rfl, hrep⟩
          | succ i => exact k3 i u (by simpa using hi)
      · cases hev
    cases r with
    | tmp t =>
      simp only [compRes] at hc
      split at hc
      · simp only [Option.map_eq_some_iff] at hc
        obtain ⟨ars', hc', rfl⟩ := hc
        exact fin rfl hc' rfl rfl (hE t)
      · cases hc
    | cell a t =>
      simp only [compRes] at hc
      split at hc
      · rename_i sz ars' hsz hc'
        simp only [Option.some.injEq] at hc
        subst hc
        cases h1 : evRes1 env s (.cell a sz) with
        | none => simp [evRess, h1] at hev
        | some v =>
          have h1' := h1
          simp only [evRes1] at h1
          split at h1
          · rename_i o g i off hv
            split at h1
            · rename_i g' es nn cl elems ho
              split at h1
              · rename_i hg; subst hg
                split at h1
                · rename_i y hy
                  rw [nth_eq] at ho hy
                  have hr := hE a
                  rw [hv] at hr
                  obtain ⟨b, hb, hat⟩ := ref_at hI hr ho hy
                  obtain ⟨x, q1, q2⟩ := run_loadVar_rep (P := P) hsz hat h1
                  exact fin rfl hc' h1' (by simp only [readRes, hb, asAddr, Sem.run_bind, Sem.run_pure, Result.andThen_ok, q1]) q2
                · cases h1
              · cases h1
            · cases h1
          · cases h1
      · cases hc

theorem params_get : ∀ (args : List AV) (i t : Nat), (params args i).get t = if i ≤ t ∧ t < i + args.length then (args[t - i]?).getD .junk else .junk
  | [], i, t => by simp [params, Env.get]
  | v :: vs, i, t => by
    simp only [params, Env.get]
    by_cases h : i = t
    · subst h; simp
    · have : Nat.beq i t = false := by
        cases hb : Nat.beq i t
        · rfl
        · exact absurd (Nat.eq_of_beq_eq_true hb) h
      rw [this, cond_false, params_get vs (i + 1) t]
      simp only [List.length_cons]
      by_cases h2 : i + 1 ≤ t ∧ t < i + 1 + vs.length
      · rw [if_pos h2, if_pos (by omega), show t - i = (t - (i + 1)) + 1 by omega, List.getElem?_cons_succ]
      · rw [if_neg h2, if_neg (by omega)]

/-- a function's text, compiled -/
theorem func_sound {C : CallF} (hC : CallSound P C) (hm : P.follows .mixedOrders = true) {an : List RAnn} {f : Nat} {fn : Func} {af : AFunc} (hf : P.funcs[f]? = some fn) (hcomp : compF P an fn = some af) (N : Nat) {args : List AV} {out : AOut} (hlen : args.length = af.np) (hev : evF C N af args s = some (out, s'))
    (hI : Inv w0 B s Z φ w) {vs : Array Value} (hargs : ArgsRep w Z φ s.ctr args vs) :
    Calls P f vs w fun e w' => ∃ Z' φ', Inv w0 B s' Z' φ' w' ∧ Later B w Z φ s.ctr w' Z' φ' s'.ctr ∧ OutRep w' Z' φ' s'.ctr out e := by
  unfold compF at hcomp
  split at hcomp
  · rename_i b hb
    split at hcomp
    · rename_i c rs hcc hrs
      split at hcomp
      · rename_i hnp
        simp only [Option.some.injEq] at hcomp
        subst hcomp
        have hvs : vs.size = fn.params.size + fn.nfree := by rw [← hargs.1]; exact hlen
        have hsz : (vs ++ Array.replicate (fn.ntmps - vs.size) undef).size = fn.ntmps := by simp; omega
        have hE : EnvRep w Z φ s.ctr (params args 0) (vs ++ Array.replicate (fn.ntmps - vs.size) undef) := by
          intro t
          rw [params_get]
          split
          · rename_i ht
            have hlt : t < args.length := by omega
            obtain ⟨v, h1, h2⟩ := hargs.2 t _ (List.getElem?_eq_getElem hlt)
            have hvt : t < vs.size := by rw [← hargs.1]; exact hlt
            have : (vs ++ Array.replicate (fn.ntmps - vs.size) undef).getD t undef = v := by
              rw [Array.getD_eq_getD_getElem?, Array.getElem?_append_left hvt, h1]; rfl
            rw [this]
            simpa [List.getElem?_eq_getElem hlt] using h2
          · exact .junk _
        have fin : ∀ (e : AExit), (e = .normal ∨ e = .ret) → ∀ env' s1, evC C N c (params args 0) s = some (e, env', s1) → ((evRess env' s1 rs).map fun vs => (AOut.ok (tupOf vs), s1)) = some (out, s') →
            Calls P f vs w fun e w' => ∃ Z' φ', Inv w0 B s' Z' φ' w' ∧ Later B w Z φ s.ctr w' Z' φ' s'.ctr ∧ OutRep w' Z' φ' s'.ctr out e := by
          intro e he env' s1 hevc hres
          simp only [Option.map_eq_some_iff, Prod.mk.injEq] at hres
          obtain ⟨rvs, hr, rfl, rfl⟩ := hres
          refine calls_of_wp hf hb (code_sound hC hm N b c hcc (params args 0) s _ w Z φ e env' s1 _ hevc hI hE hsz fun e' a' w' Z' φ' q1 q2 q3 q4 q5 q6 => ?_)
          obtain ⟨xs, k1, k2, k3⟩ := ress_sound (P := P) q4 q5 hrs hr
          have hres : ∃ v, (results fn a'.tmps).run P w' = .ok v w' ∧ Rep w' Z' φ' s1.ctr (tupOf rvs) v := by
            have hrun : (results fn a'.tmps).run P w' = .ok (if h : xs.toArray.size = 1 then xs.toArray[0] else .tuple xs.toArray) w' := by
              rw [results_read, Array.mapM_eq_mapM_toList]
              simp only [Sem.run_bind, Sem.run_map, k1, Result.andThen_ok, Sem.run_pure]
            refine ⟨_, hrun, ?_⟩
            by_cases h1 : xs.length = 1
            · obtain ⟨x, rfl⟩ : ∃ x, xs = [x] := List.length_eq_one_iff.1 h1
              obtain ⟨v, rfl⟩ : ∃ v, rvs = [v] := List.length_eq_one_iff.1 (by omega)
              obtain ⟨x', g1, g2⟩ := k3 0 v rfl
              simp only [List.getElem?_cons_zero, Option.some.injEq] at g1
              subst g1
              simpa [tupOf] using g2
            · have ht : tupOf rvs = .tup rvs := by
                unfold tupOf
                split
                · rename_i v; simp at k2; omega
                · rfl
              rw [ht, dif_neg (by simpa using h1)]
              refine .tup _ _ (by simp [k2]) fun i c hi => ?_
              obtain ⟨x', g1, g2⟩ := k3 i c hi
              have : xs.toArray.getD i undef = x' := getD_of_list (by simpa using g1)
              rw [this]; exact g2
          obtain ⟨v, hv1, hv2⟩ := hres
          have hfin : a'.defers = [] ∧ ∃ v, (results fn a'.tmps).run P w' = .ok v w' ∧ (∃ Z'' φ'', Inv w0 B s1 Z'' φ'' w' ∧ Later B w Z φ s.ctr w' Z'' φ'' s1.ctr ∧ OutRep w' Z'' φ'' s1.ctr (.ok (tupOf rvs)) (.returned v)) :=
            ⟨q3, v, hv1, Z', φ', q4, q6, v, rfl, hv2⟩
          rcases he with rfl | rfl
          · cases q1; exact hfin
          · cases q1; exact hfin
        unfold evF at hev
        split at hev
        · rename_i env' s1 hevc
          exact fin .normal (.inl rfl) env' s1 hevc hev
        · rename_i env' s1 hevc
          exact fin .ret (.inr rfl) env' s1 hevc hev
        · rename_i v env' s1 hevc
          simp only [Option.some.injEq, Prod.mk.injEq] at hev
          obtain ⟨rfl, rfl⟩ := hev
          refine calls_of_wp hf hb (code_sound hC hm N b c hcc (params args 0) s _ w Z φ _ env' s1 _ hevc hI hE hsz fun e' a' w' Z' φ' q1 q2 q3 q4 q5 q6 => ?_)
          obtain ⟨x, rfl, hx⟩ := q1
          exact ⟨q3, Z', φ', q4, q6, x, rfl, hx⟩
        · cases hev
      · cases hcomp
    · cases hcomp
  · cases hcomp

/-- what is asked of the table of functions -/
def TableOk (P : Program) (AP : Nat → Option AFn) : Prop :=
  ∀ f a, AP f = some a → match a with
    | .code af => ∃ fn an, P.funcs[f]? = some fn ∧ (fn.name == "runtime.NumGoroutine") = false ∧ compF P an fn = some af
    | .ext sp => CallSound P fun f' args s => if f' = f then sp args s else none

/-- ████ THE EVALUATOR IS SOUND ████ -/
theorem run_sound {AP : Nat → Option AFn} (hm : P.follows .mixedOrders = true) (hAP : TableOk P AP) : ∀ n, CallSound P (run AP n)
  | 0 => fun f args s out s' h => by simp [run] at h
  | n + 1 => fun f args s out s' h => by
    simp only [run] at h
    split at h
    · rename_i fn hf
      obtain ⟨gf, an, h1, h2, h3⟩ := hAP f _ hf
      split at h
      · rename_i hl
        refine ⟨⟨gf, h1, ?_, h2⟩, fun w0 B Z φ w vs hI hargs => func_sound (run_sound hm hAP n) hm h1 h3 n hl h hI hargs⟩
        unfold compF at h3
        cases hb : gf.body with
        | none => simp [hb] at h3
        | some b => rfl
      · cases h
    · rename_i sp hf
      have := hAP f _ hf
      exact this f args s out s' (by simpa using h)
    · cases h

end AI
end Go.Proofs.Ytocgbgffpdphdaa
