/- Soundness, sixteenth part: any order that is drawn; code; functions; the evaluator. -/
import Derived.Test.YtocgbgffpdphdaaSnd15
namespace Go.Proofs.Ytocgbgffpdphdaa
namespace AI
open Go.RowKit

variable {P : Program} {B : Nat} {w w' w0 : World} {Z Z' : Cold} {φ φ' : Phi} {ctr ctr' : Nat} {s s' : Sto}

theorem vals_congr {env env' : Env} : ∀ {xs : List AO}, (∀ x ∈ xs, x.val env = x.val env') → vals env xs = vals env' xs
  | [], _ => rfl
  | x :: xs, h => by simp only [vals]; rw [h x (by simp), vals_congr fun y hy => h y (by simp [hy])]

theorem vparts_congr {env env' : Env} : ∀ {ps : List (Nat × Nat × AO)}, (∀ x ∈ ps.map (fun (_, _, x) => x), x.val env = x.val env') → vparts env ps = vparts env' ps
  | [], _ => rfl
  | (o, n, x) :: ps, h => by simp only [vparts]; rw [h x (by simp), vparts_congr fun y hy => h y (by simp only [List.map_cons, List.mem_cons]; exact .inr hy)]

theorem vlit_congr {env env' : Env} : ∀ {ps : List (Nat × AO)}, (∀ x ∈ ps.map (fun (_, x) => x), x.val env = x.val env') → vlit env ps = vlit env' ps
  | [], _ => rfl
  | (o, x) :: ps, h => by simp only [vlit]; rw [h x (by simp), vlit_congr fun y hy => h y (by simp only [List.map_cons, List.mem_cons]; exact .inr hy)]

theorem bounds_congr {env env' : Env} {n : Nat} {lo hi : Option AO} (h : ∀ x ∈ optL lo ++ optL hi, x.val env = x.val env') : bounds env n lo hi = bounds env' n lo hi := by
  cases lo <;> cases hi <;> simp only [bounds]
  · rw [h _ (by simp [optL])]
  · rw [h _ (by simp [optL])]
  · rename_i a b
    rw [h a (by simp [optL]), h b (by simp [optL])]

theorem ev_congr {C : CallF} {ao : AOp} {env env' : Env} (h : ∀ x ∈ ao.aos, x.val env = x.val env') : evOp C ao env s = evOp C ao env' s := by
  cases ao
  case build z ps => simp only [evOp, vparts_congr (env := env) (env' := env') (by simpa only [AOp.aos] using h)]
  case lit o es z n ps => simp only [evOp, vlit_congr (env := env) (env' := env') (by simpa only [AOp.aos] using h)]
  case slice es x lo hi =>
    have hx := h x (by simp [AOp.aos])
    have hb : ∀ n, bounds env n lo hi = bounds env' n lo hi := fun n => bounds_congr fun y hy => h y (by simp only [AOp.aos, List.mem_cons]; exact .inr hy)
    simp only [evOp, hx, hb]
  case sslice x lo hi =>
    have hx := h x (by simp [AOp.aos])
    have hb : ∀ n, bounds env n lo hi = bounds env' n lo hi := fun n => bounds_congr fun y hy => h y (by simp only [AOp.aos, List.mem_cons]; exact .inr hy)
    simp only [evOp, hx, hb]
  case mkfn f xs => simp only [evOp, vals_congr (env := env) (env' := env') (by simpa only [AOp.aos] using h)]
  case call m f xs => simp only [evOp, vals_congr (env := env) (env' := env') (by simpa only [AOp.aos] using h)]
  case callv m x xs =>
    have hx := h x (by simp [AOp.aos])
    simp only [evOp, hx, vals_congr (env := env) (env' := env') fun y hy => h y (by simp only [AOp.aos, List.mem_cons]; exact .inr hy)]
  all_goals
    simp only [AOp.aos, List.mem_cons, List.not_mem_nil, or_false, forall_eq_or_imp, forall_eq] at h
    simp only [evOp, h]

theorem val_of_slots {env env' : Env} {x : AO} (h : ∀ t ∈ x.slots, env.get t = env'.get t) : x.val env = x.val env' := by
  cases x with
  | tmp t => exact h t (by simp [AO.slots])
  | cst v => rfl

theorem wanted_congr {env env' : Env} {g : Option (Nat × Bool)} (h : ∀ t b, g = some (t, b) → env.get t = env'.get t) : wanted g env = wanted g env' := by
  cases g with
  | none => rfl
  | some p => obtain ⟨t, b⟩ := p; simp only [wanted, h t b rfl]

/-! ### what the check says -/

structure DrawOk (ops : Array Oper) (aos : List AOper) (m : Nat) : Prop where
  fwd : ∀ (j : Nat) (o : Oper), ops[j]? = some o → ∀ e ∈ o.after, Region.binds .any e = true → e.on < j
  tmp : ∀ (j : Nat) (ao : AOper), aos[j]? = some ao → j < ops.size → ∀ (i : Nat) (oi : Oper) (t : Nat), i ≠ j → ops[i]? = some oi → oi.dst = some t → t ∈ slotsOf ao → if i < j then ((Region.before ops).getD j 0).testBit i = true else ((Region.before ops).getD i 0).testBit j = true
  tail : ∀ j, j < ops.size → m ≤ j → ∀ i, i < j → ((Region.before ops).getD j 0).testBit i = true

theorem drawOk_spec {ops : Array Oper} {aos : List AOper} {m : Nat} (h : drawOk ops aos m = true) : DrawOk ops aos m := by
  unfold drawOk at h
  simp only [List.all_eq_true, List.mem_range] at h
  refine ⟨fun j o ho e he hb => ?_, fun j ao hao hj i oi t hij hoi hd ht => ?_, fun j hj hm i hi => ?_⟩
  · have hj := (Array.getElem?_eq_some_iff.1 ho).1
    have := h j hj
    rw [ho] at this
    cases hao : aos[j]? with
    | none => simp [hao] at this
    | some ao =>
      simp only [hao, Bool.and_eq_true, List.all_eq_true] at this
      have := this.1.1 e (by simpa using he)
      simp only [hb, Bool.not_true, Bool.false_or, decide_eq_true_eq] at this
      exact this
  · have ho : ops[j]? = some ops[j] := Array.getElem?_eq_getElem hj
    have := h j hj
    rw [ho, hao] at this
    simp only [Bool.and_eq_true, List.all_eq_true, List.mem_range] at this
    have := this.1.2 i (Array.getElem?_eq_some_iff.1 hoi).1
    simp only [Bool.or_eq_true, beq_iff_eq, hij, false_or, hoi, Option.bind_some, hd, Bool.not_eq_true', List.contains_eq_mem, decide_eq_false_iff_not, ht, not_true_eq_false] at this
    split
    · rename_i hlt; rw [if_pos hlt] at this; exact this
    · rename_i hlt; rw [if_neg hlt] at this; exact this
  · have ho : ops[j]? = some ops[j] := Array.getElem?_eq_getElem hj
    have := h j hj
    rw [ho] at this
    cases hao : aos[j]? with
    | none => simp [hao] at this
    | some ao =>
      simp only [hao, Bool.and_eq_true, Bool.or_eq_true, decide_eq_true_eq, List.all_eq_true, List.mem_range] at this
      rcases this.2 with h1 | h1
      · omega
      · exact h1 i hi

/-- the forced tail -/
theorem tail_sound {C : CallF} (hC : CallSound P C) {ops : Array Oper} {n : Nat} {an : List (Nat × OAnn)} {aos : List AOper} (hcomp : compOps P ops n an ops.toList 0 = some aos) {m : Nat} (hok : DrawOk ops aos m) {Q : Exit → Act → World → Prop} {e : AExit} {env' : Env} {s' : Sto} :
    ∀ (fuel j : Nat) (listed : Array Bool) (env : Env) (s : Sto) (a : Act) (w : World) (Z : Cold) (φ : Phi), m ≤ j → j ≤ ops.size → ops.size ≤ j + fuel → listed.size = ops.size → (∀ i, i < ops.size → (Lst listed i = true ↔ i < j)) → evOps C (aos.drop j) env s = some (e, env', s') → Inv w0 B s Z φ w → EnvRep w Z φ s.ctr env a.tmps → a.tmps.size = n → Post w0 B w Z φ s.ctr n a.defers e env' s' Q →
      wpAny P .any ops Q fuel listed a w := by
  obtain ⟨hlen, hget⟩ := compOps_get hcomp
  have hlen' : aos.length = ops.size := by simpa using hlen
  intro fuel
  induction fuel with
  | zero =>
    intro j listed env s a w Z φ hm hj hf hsz hL hev hI hE hn hp
    have hje : j = ops.size := by omega
    subst hje
    have : aos.drop ops.size = [] := by rw [List.drop_eq_nil_iff]; omega
    rw [this] at hev
    simp only [evOps, Option.some.injEq, Prod.mk.injEq] at hev
    obtain ⟨rfl, rfl, rfl⟩ := hev
    refine ⟨?_, hp .normal a w Z φ rfl hn rfl hI hE (Later.refl _ _ _ _ _)⟩
    rw [List.eq_nil_iff_forall_not_mem]
    intro i hi
    obtain ⟨o, ho, hl, _⟩ := (ready_iff hsz).1 hi
    have hlt := (Array.getElem?_eq_some_iff.1 ho).1
    rw [(hL i hlt).2 hlt] at hl; cases hl
  | succ fuel ih =>
    intro j listed env s a w Z φ hm hj hf hsz hL hev hI hE hn hp
    by_cases hje : j = ops.size
    · subst hje
      have : aos.drop ops.size = [] := by rw [List.drop_eq_nil_iff]; omega
      rw [this] at hev
      simp only [evOps, Option.some.injEq, Prod.mk.injEq] at hev
      obtain ⟨rfl, rfl, rfl⟩ := hev
      refine ⟨fun _ => hp .normal a w Z φ rfl hn rfl hI hE (Later.refl _ _ _ _ _), fun i hi => ?_⟩
      obtain ⟨o, ho, hl, _⟩ := (ready_iff hsz).1 hi
      have hlt := (Array.getElem?_eq_some_iff.1 ho).1
      rw [(hL i hlt).2 hlt] at hl; cases hl
    · have hjlt : j < ops.size := by omega
      have hoj : ops[j]? = some ops[j] := Array.getElem?_eq_getElem hjlt
      refine ⟨fun hr => ?_, fun i hi => ?_⟩
      · exfalso
        have : j ∈ Region.ready .any ops listed := by
          refine (ready_iff hsz).2 ⟨_, hoj, ?_, fun e' he' hb => ?_⟩
          · cases hl : Lst listed j
            · rfl
            · have := (hL j hjlt).1 hl; omega
          · have := hok.fwd j _ hoj e' he' hb
            exact (hL _ (by omega)).2 this
        rw [hr] at this
        cases this
      · obtain ⟨o, ho, hl, hdep⟩ := (ready_iff hsz).1 hi
        have hilt := (Array.getElem?_eq_some_iff.1 ho).1
        have hcl : Closed ops (Lst listed) := by
          intro k ok hk hlk e' he' hb
          have hkl := (hL k (Array.getElem?_eq_some_iff.1 hk).1).1 hlk
          have := hok.fwd k ok hk e' he' hb
          exact (hL _ (by omega)).2 (by omega)
        have hij : i = j := by
          have hge : ¬ i < j := fun h => by rw [(hL i hilt).2 h] at hl; cases hl
          rcases Nat.lt_or_ge j i with h | h
          · exfalso
            have hb := hok.tail i hilt (by omega) j h
            have := closed_bit hok.fwd hcl i o ho hdep hb
            have := (hL j hjlt).1 this
            omega
          · omega
        subst hij
        rw [hoj] at ho
        cases ho
        obtain ⟨ao, hao, h1, h2, h3, h4⟩ := hget i _ (by rw [Array.getElem?_toList]; exact hoj)
        have hdrop : aos.drop i = ao :: aos.drop (i + 1) := by
          rw [List.drop_eq_getElem_cons (by omega)]
          congr 1
          exact (List.getElem?_eq_some_iff.1 hao).2
        rw [hdrop] at hev
        simp only [evOps] at hev
        have hsz' : (listed.setIfInBounds i true).size = ops.size := by simpa using hsz
        have hL' : ∀ k, k < ops.size → (Lst (listed.setIfInBounds i true) k = true ↔ k < i + 1) := by
          intro k hk
          rw [lst_set (by omega)]
          by_cases he : k = i
          · subst he; simp
          · rw [if_neg he, hL k hk]; omega
        refine wpOp_sound hC hoj h1 h2 h3 h4 hI hE hn ?_
        split at hev
        · cases hev
        · rename_i hw
          exact .inl ⟨hw, fun a' z1 z2 z3 => ih (i + 1) _ _ s a' w Z φ (by omega) (by omega) (by omega) hsz' hL' hev hI z3 z1 (z2 ▸ hp)⟩
        · rename_i hw
          refine .inr ⟨hw, ?_⟩
          split at hev
          · rename_i v s1 hop
            refine ⟨.ok v, s1, hop, fun v' hv a' x w' Z' φ' ha' hr hI' hE' hLt => ?_, (fun v' hv => by cases hv)⟩
            cases hv
            subst ha'
            obtain ⟨z1, z2⟩ := size_put a ops[i].dst x
            exact ih (i + 1) _ _ s1 _ w' Z' φ' (by omega) (by omega) (by omega) hsz' hL' hev hI' hE' (z1.trans hn) (by rw [z2]; exact hp.later hLt)
          · rename_i v s1 hop
            simp only [Option.some.injEq, Prod.mk.injEq] at hev
            obtain ⟨rfl, rfl, rfl⟩ := hev
            refine ⟨.pan v, s1, hop, (fun v' hv => by cases hv), fun v' hv => ?_⟩
            cases hv
            exact hp
          · cases hev

theorem envL_congr {L L' : Nat → Bool} : ∀ (vs : List (Option Nat × AV)) (i : Nat) (env : Env), (∀ k, k < vs.length → L (i + k) = L' (i + k)) → envL L vs i env = envL L' vs i env
  | [], i, env, _ => rfl
  | (d, v) :: vs, i, env, h => by
    have h0 := h 0 (by simp)
    simp only [Nat.add_zero] at h0
    simp only [envL, h0]
    exact envL_congr vs (i + 1) _ fun k hk => by rw [show i + 1 + k = i + (k + 1) by omega]; exact h (k + 1) (by simp; omega)

/-- the head, in whatever order -/
theorem head_sound {C : CallF} (hC : CallSound P C) {ops : Array Oper} {n : Nat} {an : List (Nat × OAnn)} {aos : List AOper} (hcomp : compOps P ops n an ops.toList 0 = some aos) {m : Nat} (hok : DrawOk ops aos m) (hm : m ≤ ops.size) (hpure : pureHead m aos = true) {Q : Exit → Act → World → Prop}
    {e : AExit} {env env' : Env} {s s' : Sto} {vs : List (Option Nat × AV)} (htr : trace C s (aos.take m) env = some vs) (hev : evOps C (aos.drop m) (envL (fun _ => true) vs 0 env) s = some (e, env', s')) :
    ∀ (fuel : Nat) (listed : Array Bool) (a : Act) (w : World) (Z : Cold) (φ : Phi), ops.size ≤ cnt (Lst listed) ops.size + fuel → listed.size = ops.size → Closed ops (Lst listed) → (∀ i, Lst listed i = true → i < m) → Inv w0 B s Z φ w → EnvRep w Z φ s.ctr (envL (Lst listed) vs 0 env) a.tmps → a.tmps.size = n → Post w0 B w Z φ s.ctr n a.defers e env' s' Q →
      wpAny P .any ops Q fuel listed a w := by
  obtain ⟨hlen, hget⟩ := compOps_get hcomp
  have hlen' : aos.length = ops.size := by simpa using hlen
  obtain ⟨hvl, hvs⟩ := trace_get htr
  have hvl' : vs.length = m := by rw [hvl]; simp; omega
  intro fuel
  induction fuel with
  | zero =>
    intro listed a w Z φ hf hsz hcl hLm hI hE hn hp
    have hfull := cnt_full (L := Lst listed) (n := ops.size) (by have := cnt_le (Lst listed) ops.size; omega)
    have hmE : m = ops.size := by
      rcases Nat.lt_or_ge m ops.size with h | h
      · have := hLm m (hfull m h); omega
      · omega
    have hE' : EnvRep w Z φ s.ctr (envL (fun _ => true) vs 0 env) a.tmps := by
      rw [envL_congr (L' := Lst listed) vs 0 env fun k hk => by rw [Nat.zero_add, hfull k (by omega)]]
      exact hE
    exact tail_sound hC hcomp hok 0 m listed _ s a w Z φ (Nat.le_refl _) hm (by omega) hsz (fun i hi => ⟨fun _ => by omega, fun _ => hfull i hi⟩) hev hI hE' hn hp
  | succ fuel ih =>
    intro listed a w Z φ hf hsz hcl hLm hI hE hn hp
    by_cases hall : ∀ i, i < m → Lst listed i = true
    · have hE' : EnvRep w Z φ s.ctr (envL (fun _ => true) vs 0 env) a.tmps := by
        rw [envL_congr (L' := Lst listed) vs 0 env fun k hk => by rw [Nat.zero_add, hall k (by omega)]]
        exact hE
      have hL : ∀ i, i < ops.size → (Lst listed i = true ↔ i < m) := fun i _ => ⟨hLm i, hall i⟩
      have hc : cnt (Lst listed) ops.size ≤ m := by
        have : ∀ k, cnt (Lst listed) k ≤ m := by
          intro k
          have : ∀ k, k ≤ m → cnt (Lst listed) k ≤ k := fun k _ => cnt_le _ k
          induction k with
          | zero => simp [cnt]
          | succ k ihk =>
            by_cases hk : k < m
            · exact Nat.le_trans (cnt_le _ _) hk
            · have : Lst listed k = false := by
                cases h : Lst listed k
                · rfl
                · exact absurd (hLm k h) hk
              simp only [cnt, this, Bool.false_eq_true, if_false, Nat.add_zero]
              exact ihk
        exact this _
      exact tail_sound hC hcomp hok (fuel + 1) m listed _ s a w Z φ (Nat.le_refl _) hm (by omega) hsz hL hev hI hE' hn hp
    · -- an operation of the head is left
      have hleast : ∃ j, j < m ∧ Lst listed j = false ∧ ∀ i, i < j → Lst listed i = true := by
        have : ∃ j, j < m ∧ Lst listed j = false := by
          rcases Classical.em (∃ j, j < m ∧ Lst listed j = false) with h | h
          · exact h
          · exfalso
            refine hall fun i hi => ?_
            cases hl : Lst listed i
            · exact (h ⟨i, hi, hl⟩).elim
            · rfl
        obtain ⟨j, hj, hlj⟩ := this
        induction j using Nat.strongRecOn with
        | _ j ihj =>
          rcases Classical.em (∃ i, i < j ∧ Lst listed i = false) with ⟨i, hi, hli⟩ | h
          · exact ihj i hi (by omega) hli
          · refine ⟨j, hj, hlj, fun i hi => ?_⟩
            cases hl : Lst listed i
            · exact (h ⟨i, hi, hl⟩).elim
            · rfl
      obtain ⟨j0, hj0, hl0, hbelow⟩ := hleast
      refine ⟨fun hr => ?_, fun i hi => ?_⟩
      · exfalso
        have hoj : ops[j0]? = some ops[j0] := Array.getElem?_eq_getElem (by omega)
        have : j0 ∈ Region.ready .any ops listed := (ready_iff hsz).2 ⟨_, hoj, hl0, fun e' he' hb => hbelow _ (hok.fwd j0 _ hoj e' he' hb)⟩
        rw [hr] at this
        cases this
      · obtain ⟨o, ho, hl, hdep⟩ := (ready_iff hsz).1 hi
        have hilt := (Array.getElem?_eq_some_iff.1 ho).1
        have bit : ∀ k, ((Region.before ops).getD i 0).testBit k = true → Lst listed k = true := fun k hb => closed_bit hok.fwd hcl i o ho hdep hb
        have him : i < m := by
          rcases Nat.lt_or_ge i m with h | h
          · exact h
          · exfalso
            have := bit j0 (hok.tail i hilt h j0 (by omega))
            rw [hl0] at this; cases this
        obtain ⟨ao, hao, h1, h2, h3, h4⟩ := hget i o (by simpa using ho)
        obtain ⟨v, hv, hvw⟩ := hvs i ao (by rw [List.getElem?_take_of_lt him]; exact hao)
        have hvw := hvw 0
        simp only [Nat.zero_add] at hvw
        -- the slots that the operation looks at hold what they hold in the text's order
        have same : ∀ t ∈ slotsOf ao, (envL (Lst listed) vs 0 env).get t = (envL (fun q => decide (q < i)) vs 0 env).get t := by
          intro t ht
          rw [envL_get, envL_get]
          refine lastW_congr vs 0 _ fun k d u hk hd => ?_
          rw [Nat.zero_add]
          have hkm : k < m := by rw [← hvl']; exact (List.getElem?_eq_some_iff.1 hk).1
          have hok' : ops[k]? = some ops[k] := Array.getElem?_eq_getElem (by omega)
          obtain ⟨aok, haok, _, _, hdk, _⟩ := hget k _ (by rw [Array.getElem?_toList]; exact hok')
          obtain ⟨vk, hvk, _⟩ := hvs k aok (by rw [List.getElem?_take_of_lt hkm]; exact haok)
          rw [hk] at hvk
          simp only [Option.some.injEq, Prod.mk.injEq] at hvk
          have hdst : ops[k].dst = some t := by rw [← hdk, ← hvk.1, hd]
          by_cases hki : k = i
          · subst hki; rw [hl]; simp
          · have := hok.tmp i ao hao hilt k _ t hki hok' hdst ht
            split at this
            · rename_i hlt
              rw [bit k this]; simp [hlt]
            · rename_i hlt
              have hnl : Lst listed k = false := by
                cases hq : Lst listed k
                · rfl
                · have := closed_bit hok.fwd hcl k _ hok' (fun e' he' hb => hcl k _ hok' hq e' he' hb) this
                  rw [hl] at this; cases this
              rw [hnl]; simp [hlt]
        have hwc : wanted ao.guard (envL (Lst listed) vs 0 env) = wanted ao.guard (envL (fun q => decide (q < i)) vs 0 env) := wanted_congr fun t b hg => same t (by simp [slotsOf, hg])
        have hec : evOp C ao.op (envL (Lst listed) vs 0 env) s = evOp C ao.op (envL (fun q => decide (q < i)) vs 0 env) s := ev_congr fun x hx => val_of_slots fun t ht => same t (by simp only [slotsOf, List.mem_append, List.mem_flatMap]; exact .inl (.inr ⟨x, hx, ht⟩))
        have hsz' : (listed.setIfInBounds i true).size = ops.size := by simpa using hsz
        have hset : ∀ k, Lst (listed.setIfInBounds i true) k = if k = i then true else Lst listed k := lst_set (by omega)
        have hcl' : Closed ops (Lst (listed.setIfInBounds i true)) := by
          intro k ok hk hlk e' he' hb
          rw [hset] at hlk ⊢
          by_cases hki : k = i
          · subst hki
            rw [ho] at hk
            cases hk
            split
            · rfl
            · exact hdep e' he' hb
          · rw [if_neg hki] at hlk
            split
            · rfl
            · exact hcl k ok hk hlk e' he' hb
        have hLm' : ∀ k, Lst (listed.setIfInBounds i true) k = true → k < m := by
          intro k hk
          rw [hset] at hk
          split at hk
          · omega
          · exact hLm k hk
        have hcnt : ops.size ≤ cnt (Lst (listed.setIfInBounds i true)) ops.size + fuel := by
          rw [cnt_add (i := i) hl (by rw [hset]; simp) (fun k hk => by rw [hset, if_neg hk])]
          simp [hilt]; omega
        -- the frame behind it
        have frame : ∀ t, (AI.put ao.dst v (envL (Lst listed) vs 0 env)).get t = (envL (Lst (listed.setIfInBounds i true)) vs 0 env).get t := by
          intro t
          rw [get_put, envL_get, envL_get]
          by_cases hd : ao.dst = some t
          · rw [if_pos hd]
            refine (lastW_set (j := i) vs 0 _ (by rw [hv, hd]) (by rw [Nat.zero_add, hset]; simp) fun k d u hk hdk hlt => ?_).symm
            rw [Nat.zero_add, hset, if_neg (by omega)]
            have hkm : k < m := by rw [← hvl']; exact (List.getElem?_eq_some_iff.1 hk).1
            have hok' : ops[k]? = some ops[k] := Array.getElem?_eq_getElem (by omega)
            obtain ⟨aok, haok, _, _, hdk', _⟩ := hget k _ (by rw [Array.getElem?_toList]; exact hok')
            obtain ⟨vk, hvk, _⟩ := hvs k aok (by rw [List.getElem?_take_of_lt hkm]; exact haok)
            rw [hk] at hvk
            simp only [Option.some.injEq, Prod.mk.injEq] at hvk
            have hdst : ops[k].dst = some t := by rw [← hdk', ← hvk.1, hdk]
            have := hok.tmp i ao hao hilt k _ t (by omega) hok' hdst (by simp [slotsOf, hd])
            rw [if_neg (by omega)] at this
            cases hq : Lst listed k
            · rfl
            · have := closed_bit hok.fwd hcl k _ hok' (fun e' he' hb => hcl k _ hok' hq e' he' hb) this
              rw [hl] at this; cases this
          · rw [if_neg hd]
            refine lastW_congr vs 0 _ fun k d u hk hdk => ?_
            rw [Nat.zero_add, hset]
            by_cases hki : k = i
            · subst hki
              rw [hv] at hk
              simp only [Option.some.injEq, Prod.mk.injEq] at hk
              exact absurd (hk.1.trans hdk) hd
            · rw [if_neg hki]
        have hEput : ∀ {w' : World} {Z' : Cold} {φ' : Phi} {a' : Act}, EnvRep w' Z' φ' s.ctr (AI.put ao.dst v (envL (Lst listed) vs 0 env)) a'.tmps → EnvRep w' Z' φ' s.ctr (envL (Lst (listed.setIfInBounds i true)) vs 0 env) a'.tmps := by
          intro w' Z' φ' a' h t
          rw [← frame t]
          exact h t
        refine wpOp_sound hC ho h1 h2 h3 h4 hI hE hn ?_
        rcases hvw with ⟨hw, rfl⟩ | ⟨hw, s1, hop⟩
        · exact .inl ⟨by rw [hwc]; exact hw, fun a' z1 z2 z3 => ih _ a' w Z φ hcnt hsz' hcl' hLm' hI (hEput z3) z1 (z2 ▸ hp)⟩
        · have hpo : ao.op.pureOp = true := by
            have := hpure
            unfold pureHead at this
            rw [List.all_eq_true] at this
            exact this ao (List.mem_of_getElem? (by rw [List.getElem?_take_of_lt him]; exact hao))
          have hs1 := (pure_same hpo hop).1
          subst hs1
          refine .inr ⟨by rw [hwc]; exact hw, .ok v, s1, by rw [hec]; exact hop, fun v' hv' a' x w' Z' φ' ha' hr hI' hE' hLt => ?_, (fun v' hv' => by cases hv')⟩
          cases hv'
          subst ha'
          obtain ⟨z1, z2⟩ := size_put a o.dst x
          exact ih _ _ w' Z' φ' hcnt hsz' hcl' hLm' hI' (hEput hE') (z1.trans hn) (by rw [z2]; exact hp.later hLt)

end AI
end Go.Proofs.Ytocgbgffpdphdaa
