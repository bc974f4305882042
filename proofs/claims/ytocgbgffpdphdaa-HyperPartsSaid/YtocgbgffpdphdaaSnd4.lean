/- Soundness, fourth part: comparisons and arithmetic. -/
import Derived.Test.YtocgbgffpdphdaaSnd3
import Derived.Laws.StructEq
namespace Go.Proofs.Ytocgbgffpdphdaa
namespace AI
open Go.RowKit

variable {P : Program} {B : Nat} {w w' w0 : World} {Z Z' : Cold} {φ φ' : Phi} {ctr ctr' : Nat} {s s' : Sto}

theorem leafT_some {t : TypeId} {k : EqT} (h : leafT P t = some k) : (k = .bool ∧ P.underlying t = some .bool) ∨ (k = .int ∧ ∃ i, P.underlying t = some (.int i)) ∨ (k = .str ∧ P.underlying t = some .string) := by
  unfold leafT at h
  split at h
  · rename_i hu; cases h; exact .inl ⟨rfl, hu⟩
  · rename_i i hu; cases h; exact .inr (.inl ⟨rfl, i, hu⟩)
  · rename_i hu; cases h; exact .inr (.inr ⟨rfl, hu⟩)
  · cases h

/-- two leaves, as the model compares them -/
theorem run_eqLeaf {t : TypeId} {k : EqT} (h : leafT P t = some k) {x y : AV} {vx vy : Value} (hx : Rep w Z φ ctr x vx) (hy : Rep w Z φ ctr y vy) {r : Bool} (hr : eqLeaf k x y = some r) (d : Nat) :
    (Op.equalIn (d + 1) t vx vy).run P w = .ok r w := by
  rcases leafT_some h with ⟨rfl, hu⟩ | ⟨rfl, i, hu⟩ | ⟨rfl, hu⟩
  · cases x <;> cases y <;> simp only [eqLeaf, Option.some.injEq, reduceCtorEq] at hr
    cases hx; cases hy
    subst hr
    exact run_equalIn_bool' w d t _ _ hu
  · cases x <;> cases y <;> simp only [eqLeaf, reduceCtorEq] at hr
    split at hr
    · rename_i hk; subst hk
      simp only [Option.some.injEq] at hr
      cases hx; cases hy
      subst hr
      exact run_equalIn_int w d t _ i _ _ hu
    · cases hr
  · cases x <;> cases y <;> simp only [eqLeaf, Option.some.injEq, reduceCtorEq] at hr
    rename_i l1 l2
    cases hx with
    | str s1 _ h1 => cases hy with
      | str s2 _ h2 =>
        subst hr
        rw [run_equalIn_string w d t _ _ hu, ByteArray.toList_eq, ByteArray.toList_eq, h1, h2]

theorem run_part1 {t : TypeId} {k : EqT} (h : leafT P t = some k) {vs : Array Value} {i : Nat} (hi : i < vs.size) : (part t vs i).run P w = .ok (vs.getD i undef) w := by
  have : (isAgg t).run P w = .ok false w := by
    rcases leafT_some h with ⟨rfl, hu⟩ | ⟨rfl, i, hu⟩ | ⟨rfl, hu⟩ <;> simp [isAgg, run_underlying hu]
  simp [part, this, hi, Array.getD_eq_getD_getElem?]

theorem run_eqFlat (d : Nat) : ∀ {fs : List Field} {i : Nat} {ks : List EqT}, flatT P fs i = some ks → ∀ {xs ys : List AV} {vx vy : Array Value} {r : Bool},
    (∀ (j : Nat) (c : AV), xs[j]? = some c → Rep w Z φ ctr c (vx.getD (i + j) undef) ∧ i + j < vx.size) →
    (∀ (j : Nat) (c : AV), ys[j]? = some c → Rep w Z φ ctr c (vy.getD (i + j) undef) ∧ i + j < vy.size) →
    eqFlat ks xs ys = some r → (Op.eqFields (d + 1) vx vy fs).run P w = .ok r w
  | [], i, ks, h, xs, ys, vx, vy, r, hx, hy, hr => by
    simp only [flatT, Option.some.injEq] at h
    subst h
    cases xs <;> cases ys <;> simp only [eqFlat, Option.some.injEq, reduceCtorEq] at hr
    subst hr
    simp [Op.eqFields]
  | f :: fs, i, ks, h, xs, ys, vx, vy, r, hx, hy, hr => by
    simp only [flatT] at h
    split at h
    · rename_i k ks' hk hks
      split at h
      · rename_i hc
        simp only [Option.some.injEq] at h
        subst h
        cases xs with
        | nil => simp [eqFlat] at hr
        | cons x xs =>
          cases ys with
          | nil => simp [eqFlat] at hr
          | cons y ys =>
            simp only [eqFlat] at hr
            obtain ⟨hx0, hx1⟩ := hx 0 x rfl
            obtain ⟨hy0, hy1⟩ := hy 0 y rfl
            have hnm : f.name ≠ "_" := by
              have := hc.2.1
              simpa using this
            have hxs : ∀ (j : Nat) (c : AV), xs[j]? = some c → Rep w Z φ ctr c (vx.getD (i + 1 + j) undef) ∧ i + 1 + j < vx.size := by
              intro j c hj
              have := hx (j + 1) c (by simpa using hj)
              rwa [show i + (j + 1) = i + 1 + j from by omega] at this
            have hys : ∀ (j : Nat) (c : AV), ys[j]? = some c → Rep w Z φ ctr c (vy.getD (i + 1 + j) undef) ∧ i + 1 + j < vy.size := by
              intro j c hj
              have := hy (j + 1) c (by simpa using hj)
              rwa [show i + (j + 1) = i + 1 + j from by omega] at this
            simp only [Nat.add_zero] at hx0 hx1 hy0 hy1
            cases he : eqLeaf k x y with
            | none => simp [he] at hr
            | some b =>
              have hl := run_eqLeaf hk hx0 hy0 he d
              simp only [Op.eqFields, hnm, if_true, ne_eq, not_false_eq_true, Sem.run_bind, hc.1, run_part1 hk hx1, run_part1 hk hy1, Result.andThen_ok, hl]
              cases b with
              | true =>
                simp only [he] at hr
                have ih := run_eqFlat d hks hxs hys hr
                simp [ih]
              | false =>
                simp only [he, Option.some.injEq] at hr
                subst hr
                simp
      · cases h
    · cases h

theorem guard_match (a b : Value) (x : Sem Unit) (y : Array Value → Array Value → Sem Unit) (hn : a = .nilIface → b = .nilIface → False) (hag : ¬ ∃ xs ys, a = .agg xs ∧ b = .agg ys) :
    (match (generalizing := false) a, b with | .nilIface, .nilIface => x | .agg xs, .agg ys => y xs ys | _, _ => pure () : Sem Unit).run P w = .ok () w := by
  split
  · exact (hn rfl rfl).elim
  · exact (hag ⟨_, _, rfl, rfl⟩).elim
  · rfl

theorem eqGuard_plain (op : BinOp) (t : TypeId) (ox oy : Operand) (a b : Value) (h : ∀ xs ys, a = .agg xs → b = .agg ys → P.eqGuardType P.depth t = false) (hn : a = .nilIface → b = .nilIface → False) :
    (eqGuard op t ox oy a b).run P w = .ok () w := by
  by_cases hag : ∃ xs ys, a = .agg xs ∧ b = .agg ys
  · obtain ⟨xs, ys, rfl, rfl⟩ := hag
    exact run_eqGuard_agg w op t ox oy xs ys (h _ _ rfl rfl)
  · cases op <;> first | rfl | exact guard_match a b _ _ hn hag

theorem rep_agg {cs : List AV} {v : Value} (h : Rep w Z φ ctr (.agg cs) v) : ∃ vs, v = .agg vs ∧ cs.length = vs.size ∧ (∀ (i : Nat) (c : AV), cs[i]? = some c → c.one = true) ∧ ∀ (i : Nat) (c : AV), cs[i]? = some c → Rep w Z φ ctr c (vs.getD i undef) := by
  cases h with
  | agg _ vs hl ho hr => exact ⟨vs, rfl, hl, ho, hr⟩

theorem eqT_kind {t : TypeId} : (eqT P t = .bool → P.underlying t = some .bool) ∧ (eqT P t = .int → ∃ k, P.underlying t = some (.int k)) ∧ (eqT P t = .str → P.underlying t = some .string) ∧
    (eqT P t = .slice → ∃ e, P.underlying t = some (.slice e)) ∧ (eqT P t = .ptr → ∃ e, P.underlying t = some (.pointer e)) ∧ (eqT P t = .func → ∃ a b c, P.underlying t = some (.func a b c)) ∧
    (eqT P t = .map → ∃ a b, P.underlying t = some (.map a b)) ∧
    (∀ ks, eqT P t = .flat ks → ∃ fs, P.underlying t = some (.struct fs) ∧ flatT P fs.toList 0 = some ks ∧ P.eqGuardType P.depth t = false ∧ P.stoodInHeld t = false) := by
  unfold eqT
  split
  all_goals (rename_i hu; refine ⟨?_, ?_, ?_, ?_, ?_, ?_, ?_, ?_⟩)
  all_goals try (intro h; cases h; done)
  all_goals try (intro ks h; cases h; done)
  all_goals try (intro _; exact hu)
  all_goals try (intro _; exact ⟨_, hu⟩)
  all_goals try (intro _; exact ⟨_, _, hu⟩)
  all_goals try (intro _; exact ⟨_, _, _, hu⟩)
  all_goals try (intro h; split at h <;> (try split at h) <;> cases h; done)
  · intro ks h
    split at h
    · rename_i ks' hf
      split at h
      · rename_i hc
        cases h
        exact ⟨_, hu, hf, hc.1, hc.2.1⟩
      · cases h
    · cases h

theorem run_eq_slice (d : Nat) {t e : TypeId} (hu : P.underlying t = some (.slice e)) (a b : Option Addr) (n c n' c' : Nat) (h : a = none ∨ b = none) :
    (Op.equalIn (d + 1) t (.slice a n c) (.slice b n' c')).run P w = .ok (a.isNone && b.isNone) w := by
  rcases h with rfl | rfl
  · simp [Op.equalIn, run_underlying hu]
  · cases a <;> simp [Op.equalIn, run_underlying hu]

theorem run_eq_ptr (d : Nat) {t e : TypeId} (hu : P.underlying t = some (.pointer e)) (a : Option Addr) :
    (Op.equalIn (d + 1) t (.pointer a) (.pointer none)).run P w = .ok a.isNone w := by
  cases a <;> simp [Op.equalIn, run_underlying hu]

theorem run_eq_func (d : Nat) {t : TypeId} {x y : Array TypeId} {z : Bool} (hu : P.underlying t = some (.func x y z)) :
    (Op.equalIn (d + 1) t .nilFunc .nilFunc).run P w = .ok true w ∧ ∀ f a b, (Op.equalIn (d + 1) t (.func f a b) .nilFunc).run P w = .ok false w := by
  simp [Op.equalIn, run_underlying hu]

theorem run_eq_map (d : Nat) {t x y : TypeId} (hu : P.underlying t = some (.map x y)) (a : Option Nat) :
    (Op.equalIn (d + 1) t (.map a) (.map none)).run P w = .ok a.isNone w := by
  cases a <;> simp [Op.equalIn, run_underlying hu]

set_option maxHeartbeats 1000000 in
/-- equality of what is neither an integer nor a string -/
theorem run_eqAV {t : TypeId} {x y : AV} {vx vy : Value} (hx : Rep w Z φ ctr x vx) (hy : Rep w Z φ ctr y vy) {r : Bool} (hr : eqAV (eqT P t) x y = some r)
    (hni : ∀ k a k' b, x = .int k a → y = .int k' b → False) (hns : ∀ a b, x = .str a → y = .str b → False) :
    (Op.equal t vx vy).run P w = .ok r w ∧ (∀ xs ys, vx = .agg xs → vy = .agg ys → P.eqGuardType P.depth t = false) ∧ (vx = .nilIface → vy = .nilIface → False) ∧
    binOp .eql t vx vy = (do pure (.bool (← Op.equal t vx vy)) : Sem Value) ∧ binOp .neq t vx vy = (do pure (.bool (!(← Op.equal t vx vy))) : Sem Value) := by
  obtain ⟨k1, k2, k3, k4, k5, k6, k7, k8⟩ := eqT_kind (P := P) (t := t)
  unfold Op.equal
  rw [show Op.maxDepth = 9999 + 1 from rfl]
  unfold eqAV at hr
  split at hr
  · rename_i ks hk
    obtain ⟨fs, hu, hf, hg, hs⟩ := k8 ks hk
    split at hr
    · rename_i xs ys
      obtain ⟨vs, rfl, hl, _, hrs⟩ := rep_agg hx
      obtain ⟨us, rfl, hl', _, hrs'⟩ := rep_agg hy
      refine ⟨?_, fun _ _ _ _ => hg, fun h => (by cases h), rfl, rfl⟩
      have hfo : P.fieldsOf t = fs := by simp [Program.fieldsOf, hu]
      rw [run_equalIn_struct w 9999 t vs us (by rw [hfo]; exact hu) hs, hfo]
      refine run_eqFlat (w := w) (Z := Z) (φ := φ) (ctr := ctr) 9998 hf (fun j c hj => ?_) (fun j c hj => ?_) hr
      · have := (List.getElem?_eq_some_iff.1 hj).1
        rw [Nat.zero_add]
        exact ⟨hrs j c hj, by omega⟩
      · have := (List.getElem?_eq_some_iff.1 hj).1
        rw [Nat.zero_add]
        exact ⟨hrs' j c hj, by omega⟩
    · cases hr
  · rename_i hk
    obtain ⟨e, hu⟩ := k4 hk
    split at hr <;> (try cases hr)
    all_goals (cases hx <;> cases hy <;> refine ⟨?_, fun _ _ h => (by cases h), fun h => (by cases h), rfl, rfl⟩ <;> exact run_eq_slice 9999 hu _ _ _ _ _ _ (by simp))
  · rename_i hk
    obtain ⟨e, hu⟩ := k5 hk
    split at hr <;> (try cases hr)
    all_goals (cases hx <;> cases hy <;> refine ⟨?_, fun _ _ h => (by cases h), fun h => (by cases h), rfl, rfl⟩ <;> exact run_eq_ptr 9999 hu _)
  · rename_i hk
    obtain ⟨_, _, _, hu⟩ := k6 hk
    split at hr <;> (try cases hr)
    all_goals (cases hx <;> cases hy <;> refine ⟨?_, fun _ _ h => (by cases h), fun h => (by cases h), rfl, rfl⟩ <;> first | exact (run_eq_func 9999 hu).1 | exact (run_eq_func 9999 hu).2 _ _ _)
  · rename_i hk
    obtain ⟨_, _, hu⟩ := k7 hk
    split at hr <;> (try cases hr)
    all_goals (cases hx <;> cases hy <;> refine ⟨?_, fun _ _ h => (by cases h), fun h => (by cases h), rfl, rfl⟩ <;> exact run_eq_map 9999 hu _)
  · generalize hq : eqT P t = q at *
    cases x <;> cases y <;> cases q <;> simp only [eqLeaf, reduceCtorEq] at hr
    · have hu := k1 rfl
      have hl := run_eqLeaf (P := P) (t := t) (k := .bool) (by simp [leafT, hu]) hx hy (by simpa [eqLeaf] using hr) 9999
      cases hx; cases hy
      exact ⟨hl, fun _ _ h => (by cases h), fun h => (by cases h), rfl, rfl⟩
    · exact (hni _ _ _ _ rfl rfl).elim
    · exact (hns _ _ rfl rfl).elim

theorem snd_bin {op : BinOp} {t : TypeId} {ox oy : Operand} {x y v : AV} {vx vy : Value} (hx : Rep w Z φ ctr x vx) (hy : Rep w Z φ ctr y vy) (hev : bin op (eqT P t) x y = some v) :
    ∃ z, (do eqGuard op t ox oy vx vy; binOp op t vx vy : Sem Value).run P w = .ok z w ∧ Rep w Z φ ctr v z := by
  unfold bin at hev
  split at hev
  · rename_i k a k' b
    cases hx; cases hy
    split at hev
    · rename_i hk; subst hk
      have hg : (eqGuard op t ox oy (.int k a) (.int k b)).run P w = .ok () w := eqGuard_plain op t ox oy _ _ (fun _ _ h => by cases h) (fun h => by cases h)
      simp only [Sem.run_bind, hg, Result.andThen_ok]
      cases op <;> simp only [binInt, Option.some.injEq, reduceCtorEq] at hev
      all_goals try (subst hev; refine ⟨_, ?_, .int _ _⟩; simp [binOp, Op.intArith]; done)
      all_goals try (subst hev; refine ⟨_, ?_, .bool _⟩; simp [binOp, Op.intCmp]; done)
      all_goals (split at hev; · cases hev)
      all_goals (rename_i h0; cases hev; refine ⟨_, ?_, .int _ _⟩; simp [binOp, Op.intDiv, h0])
    · cases hev
  · rename_i l1 l2
    cases hx with
    | str s1 _ h1 => cases hy with
      | str s2 _ h2 =>
        have hg : (eqGuard op t ox oy (.string s1) (.string s2)).run P w = .ok () w := eqGuard_plain op t ox oy _ _ (fun _ _ h => by cases h) (fun h => by cases h)
        simp only [Sem.run_bind, hg, Result.andThen_ok]
        cases op <;> simp only [binStr, Option.some.injEq, reduceCtorEq] at hev
        all_goals try (subst hev; refine ⟨_, ?_, .bool _⟩; simp [binOp, Op.stringOp, ByteArray.toList_eq, h1, h2]; done)
        split at hev
        · rename_i hlt
          cases hev
          have e1 : s1.size = l1.length := by rw [← h1]; simp
          have e2 : s2.size = l2.length := by rw [← h2]; simp
          refine ⟨.string (s1 ++ s2), ?_, .str _ _ ?_⟩
          · have : (s1.size : Int) + (s2.size : Int) ≤ 9223372036854775807 := by omega
            simp [binOp, Op.stringOp, this]
          · rw [← h1, ← h2]; simp
        · cases hev
  · rename_i h1 h2
    split at hev
    all_goals first | cases hev; done | skip
    all_goals
      cases he : eqAV (eqT P t) x y with
      | none => simp [he] at hev
      | some r =>
        simp only [he, Option.map_some, Option.some.injEq] at hev
        subst hev
        obtain ⟨hr, hg1, hg2, hb1, hb2⟩ := run_eqAV hx hy he h1 h2
        refine ⟨_, ?_, .bool _⟩
        simp only [Sem.run_bind, eqGuard_plain _ t ox oy vx vy hg1 hg2, Result.andThen_ok, hb1, hb2, hr, Sem.run_pure]

end AI
end Go.Proofs.Ytocgbgffpdphdaa
