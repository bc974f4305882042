/- Regions whose operations commute, fourth part: the head in whatever order. -/
import Derived.Test.YtocgbgffpdphdaaSndP3
namespace Go.Proofs.Ytocgbgffpdphdaa
namespace AI
open Go.RowKit

variable {P : Program} {B : Nat} {w w' w0 : World} {Z Z' : Cold} {φ φ' : Phi} {ctr ctr' : Nat} {s s' : Sto}

theorem reads_congr {o : AOp} {r : Nat} {env env' : Env} (h : ∀ x ∈ o.aos, x.val env = x.val env') : o.reads r env = o.reads r env' := by
  have : ∀ {xs : List AO}, (∀ x ∈ xs, x.val env = x.val env') → objsOf env xs = objsOf env' xs := by
    intro xs
    induction xs with
    | nil => intro _; rfl
    | cons x xs ih => intro h; simp only [objsOf]; rw [h x (by simp), ih fun y hy => h y (by simp [hy])]
  unfold AOp.reads
  rw [this h]

/-- what one operation does to the store, and what the world makes of it -/
theorem parOp_step {C : CallF} {o : AOp} {r g : Nat} {env : Env} {sT sL : Sto} {v : AV} {u : Option (Nat × Obj)} {b : Nat} (h : parOp C o r g env sT = some (v, u, b)) (hlen : sL.σ.length = sT.σ.length)
    (hag : ∀ t ∈ o.reads r env, nth sL.σ t = nth sT.σ t) :
    ∃ v0 s2, evOp C o env sL = some (.ok v0, s2) ∧ (∀ t ob, u = some (t, ob) → t ∈ o.writes r env) ∧
      ((v0 = v ∧ applyU u b sL = s2) ∨ ∃ mk ob i t, Made mk ob ∧ v0 = mk i sL.ctr ∧ v = mk t g ∧ s2 = ⟨if i = sL.σ.length then sL.σ ++ [ob sL.ctr] else sL.σ.set i (ob sL.ctr), sL.ctr + 1⟩ ∧ applyU u b sL = ⟨sL.σ.set t (ob g), sL.ctr + 1⟩ ∧
        (i = sL.σ.length ∧ nth sL.σ t = some .dead ∨ i < sL.σ.length ∧ t = i)) := by
  simp only [parOp] at h
  split at h
  · rename_i v' s1 hc hev
    simp only [Option.some.injEq, Prod.mk.injEq] at h
    obtain ⟨rfl, rfl, rfl⟩ := h
    exact ⟨v', sL, evOp_e hc hev sL, fun t ob e => (by cases e), .inl ⟨rfl, rfl⟩⟩
  · rename_i v' s1 hc hev
    simp only [Option.some.injEq, Prod.mk.injEq] at h
    obtain ⟨rfl, rfl, rfl⟩ := h
    exact ⟨v', sL, evOp_r hc hev sL (by simpa only [AOp.reads, hc] using hag), fun t ob e => (by cases e), .inl ⟨rfl, rfl⟩⟩
  · rename_i v' s1 hc hev
    obtain ⟨t, ob, h1, h2, h3, h4⟩ := evOp_w hc hev r
    have hs1 := h4 sT fun _ _ => rfl
    rw [hev] at hs1
    simp only [Option.some.injEq, Prod.mk.injEq] at hs1
    rw [h1] at h
    simp only [hs1.2, nth_eq, List.getElem?_set_self h3, Option.some.injEq, Prod.mk.injEq] at h
    obtain ⟨rfl, rfl, rfl⟩ := h
    exact ⟨v', _, h4 sL (by simpa only [AOp.reads, hc] using hag), fun t' ob' e => (by cases e; rw [h1]; simp), .inl ⟨rfl, rfl⟩⟩
  · rename_i v' s1 hc hev
    obtain ⟨i, mk, ob, hm, hi, hr, h4⟩ := evOp_a hc hev r
    have hs1 := h4 sT rfl fun _ _ => rfl
    rw [hev] at hs1
    simp only [Option.some.injEq, Prod.mk.injEq, AOut.ok.injEq] at hs1
    obtain ⟨rfl, rfl⟩ := hs1
    have hag' : (∀ t ∈ objsOf env o.aos, nth sL.σ t = nth sT.σ t) ∧ nth sL.σ r = nth sT.σ r := by
      simp only [AOp.reads, hc, List.mem_cons, forall_eq_or_imp] at hag
      exact ⟨hag.2, hag.1⟩
    have hnth : nth (if i = sT.σ.length then sT.σ ++ [ob sT.ctr] else sT.σ.set i (ob sT.ctr)) i = some (ob sT.ctr) := by
      rw [nth_eq]
      rcases hi with h | ⟨h, _⟩
      · rw [if_pos h, h]; simp
      · rw [if_neg (by omega), List.getElem?_set_self h]
    simp only [hm.idx, hnth] at h
    refine ⟨_, _, h4 sL hlen hag'.1, ?_⟩
    split at h
    · rename_i hlt
      simp only [Option.some.injEq, Prod.mk.injEq, hm.moved, hm.regen] at h
      obtain ⟨rfl, rfl, rfl⟩ := h
      refine ⟨fun t ob' e => ?_, .inr ⟨mk, ob, i, i, hm, rfl, rfl, by rw [hlen], rfl, .inr ⟨by rw [hlen]; exact hlt, rfl⟩⟩⟩
      cases e
      rcases hi with h | ⟨_, h, _⟩
      · omega
      · exact h
    · rename_i hlt
      split at h
      · rename_i hd
        simp only [Option.some.injEq, Prod.mk.injEq, hm.moved, hm.regen] at h
        obtain ⟨rfl, rfl, rfl⟩ := h
        refine ⟨fun t ob' e => (by cases e; exact hr), .inr ⟨mk, ob, i, r, hm, rfl, rfl, by rw [hlen], rfl, .inl ⟨?_, hag'.2.trans hd⟩⟩⟩
        rcases hi with h | ⟨h, _⟩
        · rw [hlen]; exact h
        · exact absurd h hlt
      · cases h
  · cases h

theorem mem_unPairs {ops : Array Oper} {os : List AOper} {m i j : Nat} {oi oj : AOper} (hij : i < j) (hj : j < m) (hi' : os[i]? = some oi) (hj' : os[j]? = some oj) (hb : ((Region.before ops).getD j 0).testBit i = false)
    (h0 : clsN oi ≠ 0) (h0' : clsN oj ≠ 0) (h1 : clsN oi ≠ 1 ∨ clsN oj ≠ 1) : (i, j) ∈ unPairs ops os m := by
  unfold unPairs
  simp only [List.mem_flatMap, List.mem_range, List.mem_map, List.mem_filter, Prod.mk.injEq]
  refine ⟨j, hj, i, ⟨hij, ?_⟩, rfl, rfl⟩
  simp only [hi', hj', hb, Bool.not_false, Bool.true_and, Bool.and_eq_true, bne_iff_ne, ne_eq, Bool.or_eq_true]
  exact ⟨⟨h0, h0'⟩, h1⟩

theorem parHead_sound {C : CallF} (hC : CallSound P C) {ops : Array Oper} {n : Nat} {an : List (Nat × OAnn)} {aos : List AOper} (hcomp : compOps P ops n an ops.toList 0 = some aos) {m : Nat} (hok : DrawOk ops aos m) (hm : m ≤ ops.size) {Q : Exit → Act → World → Prop}
    {e : AExit} {env env' : Env} {s1 s' : Sto} {es : List Eff} {r0 g0 : Nat} (hes : evPar C (aos.take m) r0 g0 env s1 = some es) (hap : allApart es (unPairs ops aos m) = true) (hg0 : g0 + m ≤ s1.ctr)
    (hev : evOps C (aos.drop m) (effEnv es env) (effSto es s1) = some (e, env', s')) {wS : World} {ZS : Cold} {φS : Phi} {cS : Nat} (hcS : cS ≤ g0) {ds : List Deferred} (hp : Post w0 B wS ZS φS cS n ds e env' s' Q) :
    ∀ (fuel : Nat) (listed : Array Bool) (a : Act) (w : World) (Z : Cold) (φ : Phi), ops.size ≤ cnt (Lst listed) ops.size + fuel → listed.size = ops.size → Closed ops (Lst listed) → (∀ i, Lst listed i = true → i < m) → Inv w0 B (stoL (Lst listed) es 0 s1) Z φ w →
      EnvRep w Z φ (stoL (Lst listed) es 0 s1).ctr (envL (Lst listed) (es.map Eff.dv) 0 env) a.tmps → a.tmps.size = n → a.defers = ds → (∀ i, i < m → Lst listed i = false → φ (g0 + i) = .pend) → Later B wS ZS φS cS w Z φ (stoL (Lst listed) es 0 s1).ctr →
      wpAny P .any ops Q fuel listed a w := by
  obtain ⟨hlen, hget⟩ := compOps_get hcomp
  have hlen' : aos.length = ops.size := by simpa using hlen
  obtain ⟨hvl, hvs⟩ := evPar_get hes
  have hvl' : es.length = m := by rw [hvl]; simp; omega
  have hdl : (es.map Eff.dv).length = m := by simpa using hvl'
  have stoCongr : ∀ {L L' : Nat → Bool} (es : List Eff) (i : Nat) (s : Sto), (∀ k, k < es.length → L (i + k) = L' (i + k)) → stoL L es i s = stoL L' es i s := by
    intro L L' es
    induction es with
    | nil => intro i s _; rfl
    | cons e es ih =>
      intro i s h
      have h0 := h 0 (by simp)
      simp only [Nat.add_zero] at h0
      simp only [stoL, h0]
      exact ih (i + 1) _ fun k hk => by rw [show i + 1 + k = i + (k + 1) by omega]; exact h (k + 1) (by simp; omega)
  have finish : ∀ (fuel : Nat) (listed : Array Bool) (a : Act) (w : World) (Z : Cold) (φ : Phi), ops.size ≤ m + fuel → listed.size = ops.size → (∀ i, i < ops.size → (Lst listed i = true ↔ i < m)) → Inv w0 B (stoL (Lst listed) es 0 s1) Z φ w →
      EnvRep w Z φ (stoL (Lst listed) es 0 s1).ctr (envL (Lst listed) (es.map Eff.dv) 0 env) a.tmps → a.tmps.size = n → a.defers = ds → Later B wS ZS φS cS w Z φ (stoL (Lst listed) es 0 s1).ctr → wpAny P .any ops Q fuel listed a w := by
    intro fuel listed a w Z φ hf hsz hL hI hE hn hds hLt
    have e1 : stoL (Lst listed) es 0 s1 = effSto es s1 := by
      rw [effSto_all es 0 s1]
      exact stoCongr es 0 s1 fun k hk => by rw [Nat.zero_add]; exact (hL k (by omega)).2 (by omega)
    have e2 : envL (Lst listed) (es.map Eff.dv) 0 env = effEnv es env := by
      rw [effEnv_all es 0 env]
      exact envL_congr _ 0 env fun k hk => by rw [Nat.zero_add]; exact (hL k (by omega)).2 (by omega)
    rw [e1] at hI hE hLt
    rw [e2] at hE
    exact tail_sound hC hcomp hok fuel m listed _ _ a w Z φ (Nat.le_refl _) hm (by omega) hsz hL hev hI hE hn (by rw [hds]; exact hp.later hLt)
  have ctrge : ∀ L, s1.ctr ≤ (stoL L es 0 s1).ctr := fun L => by rw [stoL_ctr]; omega
  -- two operations: ordered, or apart
  have cls : ∀ (k : Nat) (ek : Eff) (ok : AOper), k < m → es[k]? = some ek → aos[k]? = some ok → (clsN ok = 0 → ek.rd = [] ∧ ek.wr = []) ∧ (clsN ok = 1 → ek.wr = []) := by
    intro k ek ok hk hek hok'
    obtain ⟨e', q1, _, q3⟩ := hvs k ok (by rw [List.getElem?_take_of_lt hk]; exact hok')
    rw [hek] at q1
    cases q1
    rcases q3 0 with ⟨_, _, z1, z2, _⟩ | ⟨_, r', _, z1, z2⟩
    · exact ⟨fun _ => ⟨z1, z2⟩, fun _ => z2⟩
    · obtain ⟨d, op, gd⟩ := ok
      exact ⟨fun h => by rw [z1, z2]; exact cls0 h _ _, fun h => by rw [z2]; exact cls1 h _ _⟩
  have meet : ∀ (i j : Nat) (ei ej : Eff), i < j → j < m → es[i]? = some ei → es[j]? = some ej → ((Region.before ops).getD j 0).testBit i = true ∨ NoMeet ei ej := by
    intro i j ei ej hij hj hei hej
    cases hb : ((Region.before ops).getD j 0).testBit i
    · refine .inr ?_
      have hoi : aos[i]? = some aos[i] := List.getElem?_eq_getElem (by omega)
      have hoj : aos[j]? = some aos[j] := List.getElem?_eq_getElem (by omega)
      have ci := cls i ei _ (by omega) hei hoi
      have cj := cls j ej _ hj hej hoj
      by_cases h0 : clsN aos[i] = 0
      · obtain ⟨z1, z2⟩ := ci.1 h0
        exact ⟨fun t h => by simp [z2] at h, fun t h => by simp [z2] at h, fun t h => by simp [z1] at h⟩
      by_cases h0' : clsN aos[j] = 0
      · obtain ⟨z1, z2⟩ := cj.1 h0'
        exact ⟨fun t _ h => by simp [z1] at h, fun t _ h => by simp [z2] at h, fun t _ h => by simp [z2] at h⟩
      by_cases h1 : clsN aos[i] = 1 ∧ clsN aos[j] = 1
      · have z1 := ci.2 h1.1
        have z2 := cj.2 h1.2
        exact ⟨fun t h => by simp [z1] at h, fun t h => by simp [z1] at h, fun t _ h => by simp [z2] at h⟩
      exact allApart_spec hap i j (mem_unPairs hij hj hoi hoj hb h0 h0' (by omega)) ei ej hei hej
    · exact .inl rfl
  intro fuel
  induction fuel with
  | zero =>
    intro listed a w Z φ hf hsz hcl hLm hI hE hn hds hpd hLt
    have hfull := cnt_full (L := Lst listed) (n := ops.size) (by have := cnt_le (Lst listed) ops.size; omega)
    have hmE : m = ops.size := by
      rcases Nat.lt_or_ge m ops.size with h | h
      · have := hLm m (hfull m h); omega
      · omega
    exact finish 0 listed a w Z φ (by omega) hsz (fun i hi => ⟨fun _ => by omega, fun _ => hfull i hi⟩) hI hE hn hds hLt
  | succ fuel ih =>
    intro listed a w Z φ hf hsz hcl hLm hI hE hn hds hpd hLt
    by_cases hall : ∀ i, i < m → Lst listed i = true
    · have hL : ∀ i, i < ops.size → (Lst listed i = true ↔ i < m) := fun i _ => ⟨hLm i, hall i⟩
      have hc : cnt (Lst listed) ops.size ≤ m := by
        have : ∀ k, cnt (Lst listed) k ≤ m := by
          intro k
          induction k with
          | zero => simp [cnt]
          | succ k ihk =>
            by_cases hk : k < m
            · exact Nat.le_trans (cnt_le _ _) hk
            · have : Lst listed k = false := by
                cases h : Lst listed k
                · rfl
                · exact absurd (hLm k h) hk
              simp only [cnt, this, Bool.false_eq_true, if_false, Nat.add_zero]
              exact ihk
        exact this _
      exact finish (fuel + 1) listed a w Z φ (by omega) hsz hL hI hE hn hds hLt
    · have hleast : ∃ j, j < m ∧ Lst listed j = false ∧ ∀ i, i < j → Lst listed i = true := by
        have : ∃ j, j < m ∧ Lst listed j = false := by
          rcases Classical.em (∃ j, j < m ∧ Lst listed j = false) with h | h
          · exact h
          · exfalso
            refine hall fun i hi => ?_
            cases hl : Lst listed i
            · exact (h ⟨i, hi, hl⟩).elim
            · rfl
        obtain ⟨j, hj, hlj⟩ := this
        induction j using Nat.strongRecOn with
        | _ j ihj =>
          rcases Classical.em (∃ i, i < j ∧ Lst listed i = false) with ⟨i, hi, hli⟩ | h
          · exact ihj i hi (by omega) hli
          · refine ⟨j, hj, hlj, fun i hi => ?_⟩
            cases hl : Lst listed i
            · exact (h ⟨i, hi, hl⟩).elim
            · rfl
      obtain ⟨j0, hj0, hl0, hbelow⟩ := hleast
      refine ⟨fun hr => ?_, fun i hi => ?_⟩
      · exfalso
        have hoj : ops[j0]? = some ops[j0] := Array.getElem?_eq_getElem (by omega)
        have : j0 ∈ Region.ready .any ops listed := (ready_iff hsz).2 ⟨_, hoj, hl0, fun e' he' hb => hbelow _ (hok.fwd j0 _ hoj e' he' hb)⟩
        rw [hr] at this
        cases this
      · obtain ⟨o, ho, hl, hdep⟩ := (ready_iff hsz).1 hi
        have hilt := (Array.getElem?_eq_some_iff.1 ho).1
        have bit : ∀ k, ((Region.before ops).getD i 0).testBit k = true → Lst listed k = true := fun k hb => closed_bit hok.fwd hcl i o ho hdep hb
        -- what stands behind it is not done
        have later : ∀ k, k < ops.size → ((Region.before ops).getD k 0).testBit i = true → Lst listed k = false := by
          intro k hk hb
          have hok' : ops[k]? = some ops[k] := Array.getElem?_eq_getElem hk
          cases hq : Lst listed k
          · rfl
          · have := closed_bit hok.fwd hcl k _ hok' (fun e' he' hb => hcl k _ hok' hq e' he' hb) hb
            rw [hl] at this; cases this
        have him : i < m := by
          rcases Nat.lt_or_ge i m with h | h
          · exact h
          · exfalso
            have := bit j0 (hok.tail i hilt h j0 (by omega))
            rw [hl0] at this; cases this
        obtain ⟨ao, hao, h1, h2, h3, h4⟩ := hget i o (by simpa using ho)
        obtain ⟨ei, hei, hdi, hvw⟩ := hvs i ao (by rw [List.getElem?_take_of_lt him]; exact hao)
        have hvw := hvw 0
        simp only [Nat.zero_add] at hvw
        have hdv : (es.map Eff.dv)[i]? = some (ei.dst, ei.v) := by simp [hei, Eff.dv]
        have dvk : ∀ k d u, (es.map Eff.dv)[k]? = some (d, u) → k < m ∧ ∃ hk : k < ops.size, ops[k].dst = d := by
          intro k d u hk
          have hkm : k < m := by rw [← hdl]; exact (List.getElem?_eq_some_iff.1 hk).1
          have hok' : ops[k]? = some ops[k] := Array.getElem?_eq_getElem (by omega)
          obtain ⟨aok, haok, _, _, hdk, _⟩ := hget k _ (by rw [Array.getElem?_toList]; exact hok')
          obtain ⟨ek, hek, hdk2, _⟩ := hvs k aok (by rw [List.getElem?_take_of_lt hkm]; exact haok)
          rw [List.getElem?_map, hek] at hk
          simp only [Option.map_some, Eff.dv, Option.some.injEq, Prod.mk.injEq] at hk
          exact ⟨hkm, by omega, by rw [← hdk, ← hdk2, hk.1]⟩
        -- the slots that the operation looks at hold what they hold in the text's order
        have same : ∀ t ∈ slotsOf ao, (envL (Lst listed) (es.map Eff.dv) 0 env).get t = (envL (fun q => decide (q < i)) (es.map Eff.dv) 0 env).get t := by
          intro t ht
          rw [envL_get, envL_get]
          refine lastW_congr _ 0 _ fun k d u hk hd => ?_
          rw [Nat.zero_add]
          obtain ⟨hkm, hks, hdst⟩ := dvk k d u hk
          rw [hd] at hdst
          have hok' : ops[k]? = some ops[k] := Array.getElem?_eq_getElem hks
          by_cases hki : k = i
          · subst hki; rw [hl]; simp
          · have := hok.tmp i ao hao hilt k _ t hki hok' hdst ht
            split at this
            · rename_i hlt
              rw [bit k this]; simp [hlt]
            · rename_i hlt
              rw [later k hks this]; simp [hlt]
        have hwc : wanted ao.guard (envL (Lst listed) (es.map Eff.dv) 0 env) = wanted ao.guard (envL (fun q => decide (q < i)) (es.map Eff.dv) 0 env) := wanted_congr fun t b hg => same t (by simp [slotsOf, hg])
        have hxs : ∀ x ∈ ao.op.aos, x.val (envL (Lst listed) (es.map Eff.dv) 0 env) = x.val (envL (fun q => decide (q < i)) (es.map Eff.dv) 0 env) := fun x hx => val_of_slots fun t ht => same t (by simp only [slotsOf, List.mem_append, List.mem_flatMap]; exact .inl (.inr ⟨x, hx, ht⟩))
        have hec : ∀ s, evOp C ao.op (envL (Lst listed) (es.map Eff.dv) 0 env) s = evOp C ao.op (envL (fun q => decide (q < i)) (es.map Eff.dv) 0 env) s := fun s => ev_congr hxs
        have hsz' : (listed.setIfInBounds i true).size = ops.size := by simpa using hsz
        have hset : ∀ k, Lst (listed.setIfInBounds i true) k = if k = i then true else Lst listed k := lst_set (by omega)
        have hcl' : Closed ops (Lst (listed.setIfInBounds i true)) := by
          intro k ok hk hlk e' he' hb
          rw [hset] at hlk ⊢
          by_cases hki : k = i
          · subst hki
            rw [ho] at hk
            cases hk
            split
            · rfl
            · exact hdep e' he' hb
          · rw [if_neg hki] at hlk
            split
            · rfl
            · exact hcl k ok hk hlk e' he' hb
        have hLm' : ∀ k, Lst (listed.setIfInBounds i true) k = true → k < m := by
          intro k hk
          rw [hset] at hk
          split at hk
          · omega
          · exact hLm k hk
        have hcnt : ops.size ≤ cnt (Lst (listed.setIfInBounds i true)) ops.size + fuel := by
          rw [cnt_add (i := i) hl (by rw [hset]; simp) (fun k hk => by rw [hset, if_neg hk])]
          simp [hilt]; omega
        -- the frame behind it
        have frame : ∀ t, (AI.put ao.dst ei.v (envL (Lst listed) (es.map Eff.dv) 0 env)).get t = (envL (Lst (listed.setIfInBounds i true)) (es.map Eff.dv) 0 env).get t := by
          intro t
          rw [get_put, envL_get, envL_get]
          by_cases hd : ao.dst = some t
          · rw [if_pos hd]
            refine (lastW_set (j := i) _ 0 _ (by rw [hdv, hdi, hd]) (by rw [Nat.zero_add, hset]; simp) fun k d u hk hdk hlt => ?_).symm
            rw [Nat.zero_add, hset, if_neg (by omega)]
            obtain ⟨hkm, hks, hdst⟩ := dvk k d u hk
            rw [hdk] at hdst
            have hok' : ops[k]? = some ops[k] := Array.getElem?_eq_getElem hks
            have := hok.tmp i ao hao hilt k _ t (by omega) hok' hdst (by simp [slotsOf, hd])
            rw [if_neg (by omega)] at this
            exact later k hks this
          · rw [if_neg hd]
            refine lastW_congr _ 0 _ fun k d u hk hdk => ?_
            rw [Nat.zero_add, hset]
            by_cases hki : k = i
            · subst hki
              rw [hdv] at hk
              simp only [Option.some.injEq, Prod.mk.injEq] at hk
              rw [hdi] at hk
              exact absurd (hk.1.trans hdk) hd
            · rw [if_neg hki]
        have hpd' : ∀ {φ' : Phi}, (∀ k, k < m → k ≠ i → φ (g0 + k) = .pend → φ' (g0 + k) = .pend) → ∀ k, k < m → Lst (listed.setIfInBounds i true) k = false → φ' (g0 + k) = .pend := by
          intro φ' h k hk hlk
          rw [hset] at hlk
          by_cases hki : k = i
          · rw [if_pos hki] at hlk; cases hlk
          · rw [if_neg hki] at hlk; exact h k hk hki (hpd k hk hlk)
        -- the store behind it
        have hupk : ∀ (k : Nat) (ek : Eff), k < m → es[k]? = some ek → ∀ t ob, ek.upd = some (t, ob) → t ∈ ek.wr := by
          intro k ek hk hek t ob hu
          have hok' : aos[k]? = some aos[k] := List.getElem?_eq_getElem (by omega)
          obtain ⟨e', q1, _, q3⟩ := hvs k _ (by rw [List.getElem?_take_of_lt hk]; exact hok')
          rw [hek] at q1
          cases q1
          rcases q3 0 with ⟨_, _, _, _, z, _⟩ | ⟨_, r', z0, _, z2⟩
          · rw [hu] at z; cases z
          · obtain ⟨_, _, _, h, _⟩ := parOp_step z0 rfl fun _ _ => rfl
            rw [z2]; exact h t ob hu
        have hstep : stoL (Lst (listed.setIfInBounds i true)) es 0 s1 = applyU ei.upd ei.bump (stoL (Lst listed) es 0 s1) := by
          refine stoL_step hei hl (by rw [hset]; simp) (fun k hk => by rw [hset, if_neg hk]) (fun k e' t ob ob' hlt he' hu hu' => ?_) s1
          have hkm : k < m := by rw [← hvl']; exact (List.getElem?_eq_some_iff.1 he').1
          rcases meet i k ei e' hlt hkm hei he' with hb | hno
          · exact later k (by omega) hb
          · exact (hno.ww t (hupk i ei him hei t ob hu) (hupk k e' hkm he' t ob' hu')).elim
        refine wpOp_sound hC ho h1 h2 h3 h4 hI hE hn ?_
        rcases hvw with ⟨hw, hv, _, _, hu, hb⟩ | ⟨hw, r', hpar, hrd, hwr⟩
        · rw [hv] at frame
          have hst : stoL (Lst (listed.setIfInBounds i true)) es 0 s1 = stoL (Lst listed) es 0 s1 := by rw [hstep, hu, hb]; rfl
          refine .inl ⟨by rw [hwc]; exact hw, fun a' z1 z2 z3 => ih _ a' w Z φ hcnt hsz' hcl' hLm' (by rw [hst]; exact hI) ?_ z1 (z2.trans hds) (hpd' fun k _ _ h => h) (by rw [hst]; exact hLt)⟩
          intro t
          rw [hst, ← frame t]
          exact z3 t
        · have hag : ∀ t ∈ ao.op.reads r' (envL (fun q => decide (q < i)) (es.map Eff.dv) 0 env), nth (stoL (Lst listed) es 0 s1).σ t = nth (stoL (fun q => decide (q < i)) es 0 s1).σ t := by
            intro t ht
            rw [← hrd] at ht
            rcases Nat.lt_or_ge t s1.σ.length with htl | htl
            · rw [stoL_get _ t es 0 s1 htl, stoL_get _ t es 0 s1 htl]
              refine lastW_congr _ 0 _ fun k d u hk hd => ?_
              rw [Nat.zero_add]
              rw [List.getElem?_map, Option.map_eq_some_iff] at hk
              obtain ⟨ek, hek, huk⟩ := hk
              have hkm : k < m := by rw [← hvl']; exact (List.getElem?_eq_some_iff.1 hek).1
              have hwk : t ∈ ek.wr := by
                cases hu2 : ek.upd with
                | none => simp [Eff.up, hu2] at huk; rw [← huk.1] at hd; cases hd
                | some q =>
                  obtain ⟨t2, ob'⟩ := q
                  simp only [Eff.up, hu2, Prod.mk.injEq] at huk
                  rw [← huk.1] at hd
                  cases hd
                  exact hupk k ek hkm hek _ _ hu2
              rcases Nat.lt_trichotomy k i with hki | hki | hki
              · rcases meet k i ek ei hki him hek hei with hb | hno
                · rw [bit k hb]; simp [hki]
                · exact (hno.wr t hwk ht).elim
              · subst hki; rw [hl]; simp
              · rcases meet i k ei ek hki hkm hei hek with hb | hno
                · rw [later k (by omega) hb]; simp; omega
                · exact (hno.rw t ht hwk).elim
            · rw [nth_eq, nth_eq, List.getElem?_eq_none (by rw [stoL_len]; exact htl), List.getElem?_eq_none (by rw [stoL_len]; exact htl)]
          obtain ⟨v0, s2, hop, _, hor⟩ := parOp_step hpar (sL := stoL (Lst listed) es 0 s1) (by rw [stoL_len, stoL_len]) hag
          refine .inr ⟨by rw [hwc]; exact hw, .ok v0, s2, by rw [hec]; exact hop, fun v' hv' a' x w' Z' φ' ha' hr hI' hE' hL' => ?_, (fun v' hv' => by cases hv')⟩
          cases hv'
          subst ha'
          obtain ⟨z1, z2⟩ := size_put a o.dst x
          have hge := ctrge (Lst listed)
          rcases hor with ⟨rfl, hs2⟩ | ⟨mk, ob, j, t, hmade, rfl, hvt, hs2, hap2, hcase⟩
          · have hst : stoL (Lst (listed.setIfInBounds i true)) es 0 s1 = s2 := hstep.trans hs2
            refine ih _ _ w' Z' φ' hcnt hsz' hcl' hLm' (by rw [hst]; exact hI') ?_ (z1.trans hn) (z2.trans hds) (hpd' fun k hk _ h => (hL'.phi _ (by omega)).trans h) ?_
            · intro t
              rw [hst, ← frame t]
              exact hE' t
            · rw [hst]
              exact ⟨fun b q h => (hL'.new b q h).elim (hLt.new b q) .inr, Nat.le_trans hLt.mono hL'.mono, fun b q z => hL'.cold b q (hLt.cold b q z), fun b q z => (hL'.cell b q (hLt.cold b q z)).trans (hLt.cell b q z), fun q hq => (hL'.phi q (Nat.lt_of_lt_of_le hq hLt.mono)).trans (hLt.phi q hq)⟩
          · subst hs2
            have hgi : g0 + i < (stoL (Lst listed) es 0 s1).ctr := by omega
            have hpi : φ' (g0 + i) = .pend := (hL'.phi _ hgi).trans (hpd i him hl)
            have hst : stoL (Lst (listed.setIfInBounds i true)) es 0 s1 = ⟨(stoL (Lst listed) es 0 s1).σ.set t (ob (g0 + i)), (stoL (Lst listed) es 0 s1).ctr + 1⟩ := hstep.trans hap2
            have hI2 := Inv.moved hmade hI' hgi hpi hcase
            have hφne : ∀ q, q ≠ g0 + i → phiSet φ' (g0 + i) (φ' (stoL (Lst listed) es 0 s1).ctr) q = φ' q := fun q hq => if_neg hq
            have hfill : ∀ q, φ' q ≠ .pend → phiSet φ' (g0 + i) (φ' (stoL (Lst listed) es 0 s1).ctr) q = φ' q := fun q hq => hφne q fun e => hq (e ▸ hpi)
            refine ih _ _ w' Z' _ hcnt hsz' hcl' hLm' (by rw [hst]; exact hI2) ?_ (z1.trans hn) (z2.trans hds) (hpd' fun k hk hne h => (hφne _ (by omega)).trans ((hL'.phi _ (by omega)).trans h)) ?_
            · intro q
              rw [hst, ← frame q]
              have hq := hE' q
              rw [get_put] at hq ⊢
              by_cases hd : ao.dst = some q
              · rw [if_pos hd] at hq ⊢
                rw [hvt]
                exact hmade.rep (Nat.lt_succ_of_lt hgi) hq (phiSet_self _ _ _)
              · rw [if_neg hd] at hq ⊢
                exact hq.fill (fun g _ hg => hfill g hg) (Nat.le_refl _)
            · rw [hst]
              exact ⟨fun b q h => (hL'.new b q h).elim (hLt.new b q) .inr, Nat.le_trans hLt.mono (Nat.le_succ _), fun b q z => hL'.cold b q (hLt.cold b q z), fun b q z => (hL'.cell b q (hLt.cold b q z)).trans (hLt.cell b q z), fun q hq => (hφne q (by omega)).trans ((hL'.phi q (Nat.lt_of_lt_of_le hq hLt.mono)).trans (hLt.phi q hq))⟩

end AI
end Go.Proofs.Ytocgbgffpdphdaa
