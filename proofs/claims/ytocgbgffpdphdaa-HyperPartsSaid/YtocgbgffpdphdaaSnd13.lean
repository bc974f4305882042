/- Soundness, thirteenth part: one operation. -/
import Derived.Test.YtocgbgffpdphdaaSnd12
namespace Go.Proofs.Ytocgbgffpdphdaa
namespace AI
open Go.RowKit

variable {P : Program} {B : Nat} {w w' w0 : World} {Z Z' : Cold} {φ φ' : Phi} {ctr ctr' : Nat} {s s' : Sto}

theorem wp_of_value {o : Oper} {a : Act} {next : Act → World → Prop} {Q : Exit → Act → World → Prop} {x : Value} (h : (execOp a.eval o).run P w = .ok (.value x) w') (hn : next (a.put o.dst x) w') : o.wp P a w next Q := by
  unfold Oper.wp; rw [h]; exact hn

theorem wp_of_skip {o : Oper} {a : Act} {next : Act → World → Prop} {Q : Exit → Act → World → Prop} (h : (execOp a.eval o).run P w = .ok .skip w') (hn : next (a.put o.dst undef) w') : o.wp P a w next Q := by
  unfold Oper.wp; rw [h]; exact hn

/-- what follows an operation that went well -/
def Next1 (w0 : World) (B : Nat) (w : World) (Z : Cold) (φ : Phi) (ctr : Nat) (s' : Sto) (v : AV) (next : Value → World → Prop) : Prop :=
  ∀ x w' Z' φ', Inv w0 B s' Z' φ' w' → Rep w' Z' φ' s'.ctr v x → Later B w Z φ ctr w' Z' φ' s'.ctr → next x w'

theorem Next1.same {v : AV} {next : Value → World → Prop} (h : Next1 w0 B w Z φ s.ctr s v next) (hI : Inv w0 B s Z φ w) {x : Value} (hr : Rep w Z φ s.ctr v x) : next x w :=
  h x w Z φ hI hr (Later.refl _ _ _ _ _)

theorem args_of {env : Env} {a : Act} (hE : EnvRep w Z φ ctr env a.tmps) {xs : Array Operand} {ys : List AO} (h : ofOperands xs.toList = some ys) : ArgsRep w Z φ ctr (vals env ys) (xs.map a.eval) := by
  obtain ⟨h1, h2⟩ := ofOperands_rep hE h
  refine ⟨by simpa using h1, fun i y hi => ?_⟩
  obtain ⟨v, k1, k2⟩ := h2 i y hi
  exact ⟨v, by simpa using k1, k2⟩

theorem ArgsRep.append {as bs : List AV} {vs us : Array Value} (h : ArgsRep w Z φ ctr as vs) (k : ArgsRep w Z φ ctr bs us) : ArgsRep w Z φ ctr (as ++ bs) (vs ++ us) := by
  refine ⟨by simp [h.1, k.1], fun i y hi => ?_⟩
  by_cases hlt : i < as.length
  · rw [List.getElem?_append_left hlt] at hi
    obtain ⟨v, a, b⟩ := h.2 i y hi
    exact ⟨v, by rw [Array.getElem?_append_left (by have := h.1; omega)]; exact a, b⟩
  · rw [List.getElem?_append_right (by omega)] at hi
    obtain ⟨v, a, b⟩ := k.2 _ y hi
    exact ⟨v, by rw [Array.getElem?_append_right (by have := h.1; omega), ← h.1]; exact a, b⟩

theorem run_callFunc {f : Nat} (hf : FnOk P f) (args : Array Value) (w : World) : (callFunc f args).run P w = .ok (.enter f args) w := by
  obtain ⟨fn, h1, h2, h3⟩ := hf
  have h4 : ¬ fn.body = none := by intro h; rw [h] at h2; cases h2
  have h5 : ¬ fn.name = "runtime.NumGoroutine" := by simpa using h3
  simp [callFunc, h1, h4, h5]

theorem two_of {xs : List Operand} {x y : AO} (h : ofOperands xs = some [x, y]) : ∃ ox oy, xs = [ox, oy] ∧ ofOperand ox = some x ∧ ofOperand oy = some y := by
  rcases xs with _ | ⟨a, _ | ⟨b, _ | ⟨c, l⟩⟩⟩
  · simp [ofOperands] at h
  · simp only [ofOperands] at h
    split at h <;> simp_all
  · simp only [ofOperands] at h
    split at h
    · rename_i p q h1 h2
      split at h2
      · rename_i p' q' h3 h4
        simp only [Option.some.injEq] at h2 h4 h
        subst h4; subst h2
        simp only [List.cons.injEq, and_true] at h
        obtain ⟨rfl, rfl⟩ := h
        exact ⟨a, b, rfl, h1, h3⟩
      · cases h2
    · cases h
  · exfalso
    have : (ofOperands (a :: b :: c :: l)).all (fun r => r.length ≥ 3) := by
      simp only [ofOperands]
      split
      · rename_i p q h1 h2
        split at h2
        · rename_i p' q' h3 h4
          split at h4
          · simp only [Option.some.injEq] at h2 h4; subst h4; subst h2; simp
          · cases h4
        · cases h2
      · rfl
    rw [h] at this
    simp at this

theorem one_of {xs : List Operand} {x : AO} (h : ofOperands xs = some [x]) : ∃ ox, xs = [ox] ∧ ofOperand ox = some x := by
  rcases xs with _ | ⟨a, _ | ⟨b, l⟩⟩
  · simp [ofOperands] at h
  · simp only [ofOperands] at h
    split at h
    · rename_i p q h1 h2
      simp only [Option.some.injEq] at h2
      subst h2
      simp only [Option.some.injEq, List.cons.injEq, and_true] at h
      exact ⟨a, rfl, by rw [h1, h]⟩
    · cases h
  · exfalso
    have : (ofOperands (a :: b :: l)).all (fun r => r.length ≥ 2) := by
      simp only [ofOperands]
      split
      · rename_i p q h1 h2
        split at h2
        · simp only [Option.some.injEq] at h2; subst h2; simp
        · cases h2
      · rfl
    rw [h] at this
    simp at this

theorem optOperand_rep {env : Env} {a : Act} (hE : EnvRep w Z φ ctr env a.tmps) {x : Option Operand} {y : Option AO} (h : optOperand x = some y) : OptRep w Z φ ctr env y (x.map a.eval) := by
  cases x with
  | none => simp only [optOperand, Option.some.injEq] at h; subst h; trivial
  | some x =>
    simp only [optOperand, Option.map_eq_some_iff] at h
    obtain ⟨y', hy, rfl⟩ := h
    exact ofOperand_rep hE hy

theorem array_two {xs : Array Operand} {a b : Operand} (h : xs.toList = [a, b]) : xs = #[a, b] := by
  apply Array.ext'; simpa using h
theorem array_one {xs : Array Operand} {a : Operand} (h : xs.toList = [a]) : xs = #[a] := by
  apply Array.ext'; simpa using h

/-- a call in the text -/
theorem call_wp {C : CallF} (hC : CallSound P C) {o : Oper} {a : Act} {next : Act → World → Prop} {Q : Exit → Act → World → Prop} {f : Nat} {args : List AV} {vs : Array Value} {out : AOut} {m : Mode}
    (hI : Inv w0 B s Z φ w) (hargs : ArgsRep w Z φ s.ctr args vs) (hev : callMode C m f args s = some (out, s')) (hrun : ∀ _ : FnOk P f, (execOp a.eval o).run P w = .ok (.enter f vs) w)
    (hok : ∀ v, out = .ok v → Next1 w0 B w Z φ s.ctr s' v fun x w' => next (a.put o.dst x) w')
    (hpan : ∀ v, out = .pan v → Next1 w0 B w Z φ s.ctr s' v fun x w' => Q (.panic [{ v := x, recovered := false }]) a w') : o.wp P a w next Q := by
  obtain ⟨hf, hs⟩ := callMode_sound hC m f args s out s' hev
  unfold Oper.wp
  rw [hrun hf]
  refine Calls.mono (hs w0 B Z φ w vs hI hargs) fun e w' ⟨Z', φ', h1, h2, h3⟩ => ?_
  cases out with
  | ok v =>
    obtain ⟨x, rfl, hr⟩ := h3
    exact hok v rfl x w' Z' φ' h1 hr h2
  | pan v =>
    obtain ⟨x, rfl, hr⟩ := h3
    exact hpan v rfl x w' Z' φ' h1 hr h2

theorem val_ok {r : Result Value} {v : AV} (h : ValOk w0 B w Z φ s.ctr s' v r) {next : Value → World → Prop} (hn : Next1 w0 B w Z φ s.ctr s' v next) : ∃ x w', r = .ok x w' ∧ next x w' := by
  obtain ⟨x, w', Z', φ', h1, h2, h3, h4⟩ := h
  exact ⟨x, w', h1, hn x w' Z' φ' h2 h3 h4⟩

/-- operations that cannot panic -/
def AOp.plain : AOp → Bool
  | .panic _ | .call .. | .callv .. => false
  | _ => true

theorem ev_ok {C : CallF} {ao : AOp} {env : Env} {out : AOut} (hp : ao.plain = true) (hev : evOp C ao env s = some (out, s')) : ∃ v, out = .ok v := by
  cases out with
  | ok v => exact ⟨v, rfl⟩
  | pan v =>
    exfalso
    cases ao <;> simp only [AOp.plain, Bool.false_eq_true] at hp <;> simp only [evOp, ok] at hev
    all_goals (repeat' split at hev)
    all_goals first
      | (simp at hev; done)
      | (simp only [Option.map_eq_some_iff, Prod.mk.injEq, reduceCtorEq, false_and, and_false, exists_false] at hev; done)

set_option maxHeartbeats 4000000 in
theorem op_sound {C : CallF} (hC : CallSound P C) {o : Oper} {ann : Option OAnn} {ao : AOp} (hc : compOp P o ann = some ao) {a : Act} {env : Env} (hI : Inv w0 B s Z φ w) (hE : EnvRep w Z φ s.ctr env a.tmps) {out : AOut} (hev : evOp C ao env s = some (out, s'))
    {next : Act → World → Prop} {Q : Exit → Act → World → Prop}
    (hok : ∀ v, out = .ok v → Next1 w0 B w Z φ s.ctr s' v fun x w' => next (a.put o.dst x) w')
    (hpan : ∀ v, out = .pan v → Next1 w0 B w Z φ s.ctr s' v fun x w' => Q (.panic [{ v := x, recovered := false }]) a w') : o.wp P a w next Q := by
  have run1 : ∀ {x : Value} (_ : (execOp a.eval o).run P w = .ok (.value x) w) {v : AV} (_ : out = .ok v) (_ : s' = s) (_ : Rep w Z φ s.ctr v x), o.wp P a w next Q := by
    intro x h1 v h2 h3 h4
    subst h3
    exact wp_of_value h1 ((hok v h2).same hI h4)
  unfold compOp at hc
  split at hc
  · -- move
    rename_i x ho
    simp only [Option.map_eq_some_iff] at hc
    obtain ⟨y, hy, rfl⟩ := hc
    simp only [evOp, Option.some.injEq, Prod.mk.injEq] at hev
    exact run1 (by simp [execOp, ho]) hev.1.symm hev.2.symm (ofOperand_rep hE hy)
  · -- assign
    rename_i x ho
    split at hc
    · split at hc
      · rename_i e hx hu
        simp only [Option.map_eq_some_iff] at hc
        obtain ⟨es, hes, rfl⟩ := hc
        obtain ⟨_, _, _, h0⟩ := cellsT_some hes
        obtain ⟨v, rfl⟩ := ev_ok rfl hev
        obtain ⟨φ', k1, k2, k3⟩ := snd_newown hI h0 hev
        exact wp_of_value (x := .slice none 0 0) (w' := w) (by simp [execOp, ho, Act.eval]) (hok v rfl _ _ _ _ k1 k2 k3)
      · cases hc
    · simp only [Option.map_eq_some_iff] at hc
      obtain ⟨y, hy, rfl⟩ := hc
      simp only [evOp, Option.some.injEq, Prod.mk.injEq] at hev
      exact run1 (by simp [execOp, ho]) hev.1.symm hev.2.symm (ofOperand_rep hE hy)
  · -- pick
    rename_i c x y ho
    split at hc
    · rename_i c' x' y' h1 h2 h3
      simp only [Option.some.injEq] at hc
      subst hc
      have hrc := ofOperand_rep hE h1
      simp only [evOp] at hev
      split at hev
      · rename_i hb
        rw [hb] at hrc
        simp only [Option.some.injEq, Prod.mk.injEq] at hev
        generalize hq : a.eval c = q at hrc
        cases hrc
        exact run1 (x := a.eval x) (by simp [execOp, ho, hq, asBool]) hev.1.symm hev.2.symm (ofOperand_rep hE h2)
      · rename_i hb
        rw [hb] at hrc
        simp only [Option.some.injEq, Prod.mk.injEq] at hev
        generalize hq : a.eval c = q at hrc
        cases hrc
        exact run1 (x := a.eval y) (by simp [execOp, ho, hq, asBool]) hev.1.symm hev.2.symm (ofOperand_rep hE h3)
      · cases hev
    · cases hc
  · -- alloc
    rename_i t ho
    simp only [Option.map_eq_some_iff, Prod.exists] at hc
    obtain ⟨n, z, hz, rfl⟩ := hc
    obtain ⟨v, rfl⟩ := ev_ok rfl hev
    obtain ⟨x, w', hr, hn⟩ := val_ok (snd_alloc (P := P) hI hz hev (.tuple #[])) (hok v rfl)
    exact wp_of_value (by simp [execOp, ho, hr]) hn
  · -- box
    rename_i t x ho
    split at hc
    · rename_i n y h1 h2
      simp only [Option.some.injEq] at hc
      subst hc
      obtain ⟨v, rfl⟩ := ev_ok rfl hev
      obtain ⟨z, w', hr, hn⟩ := val_ok (snd_box (P := P) hI h1 (ofOperand_rep hE h2) rfl hev) (hok v rfl)
      exact wp_of_value (by simp [execOp, ho, hr]) hn
    · cases hc
  · -- build
    rename_i t parts ho
    split at hc
    · rename_i n z hz
      have hshape : ∃ qs, ao = .build z qs ∧ ((∃ fs : Array Field, P.underlying t = some (.struct fs) ∧ fs.toList.all (fun f => (cellsT P f.type).isSome) = true ∧ partsT P fs.toList parts.toList = some qs) ∨
          (∃ len e es, P.underlying t = some (.array len e) ∧ cellsT P e = some es ∧ arrParts es parts.toList = some qs)) := by
        split at hc
        · rename_i fs hu
          split at hc
          · rename_i hall
            simp only [Option.map_eq_some_iff] at hc
            obtain ⟨qs, hq, rfl⟩ := hc
            exact ⟨qs, rfl, .inl ⟨fs, hu, hall, hq⟩⟩
          · cases hc
        · rename_i k e hu
          split at hc
          · rename_i es hes
            simp only [Option.map_eq_some_iff] at hc
            obtain ⟨qs, hq, rfl⟩ := hc
            exact ⟨qs, rfl, .inr ⟨k, e, es, hu, hes, hq⟩⟩
          · cases hc
        · cases hc
      obtain ⟨qs, rfl, hp⟩ := hshape
      obtain ⟨v, rfl⟩ := ev_ok rfl hev
      obtain ⟨x, k1, k2, k3⟩ := snd_build hE hz hp hev
      exact run1 (by simp only [execOp, ho, Sem.run_bind, k1, Result.andThen_ok, Sem.run_pure]) rfl k3 k2
    · cases hc
  · -- buildSlice
    rename_i t len parts ho
    split at hc
    · rename_i e hu
      split at hc
      · rename_i es z ps h1 h2
        split at hc
        · rename_i hlen
          simp only [Option.some.injEq] at hc
          subst hc
          generalize hown : (match ann with | some OAnn.own => true | _ => false) = own at hev
          obtain ⟨v, rfl⟩ := ev_ok rfl hev
          obtain ⟨x, w', hr, hn⟩ := val_ok (snd_lit hI hu h1 hlen hE h2 hev) (hok v rfl)
          exact wp_of_value (by simp only [execOp, ho, Sem.run_bind, hr, Result.andThen_ok, Sem.run_pure]) hn
        · cases hc
      · cases hc
    · cases hc
  · -- load
    rename_i t x ho
    split at hc
    · rename_i sz y h1 h2
      simp only [Option.some.injEq] at hc
      subst hc
      obtain ⟨v, rfl⟩ := ev_ok rfl hev
      obtain ⟨z, k1, k2, k3⟩ := snd_load hI h1 (ofOperand_rep hE h2) rfl hev
      exact run1 (by simp [execOp, ho, k1]) rfl k3 k2
    · cases hc
  · -- store
    rename_i t x y ho
    split at hc
    · rename_i n x' y' h1 h2 h3
      simp only [Option.some.injEq] at hc
      subst hc
      obtain ⟨v, rfl⟩ := ev_ok rfl hev
      obtain ⟨rfl, w', k1, k2, k3⟩ := snd_store hI h1 (ofOperand_rep hE h2) (ofOperand_rep hE h3) rfl rfl hev
      exact wp_of_skip (w' := w') (by simp [execOp, ho, k1]) (hok _ rfl undef w' Z φ k2 .undef k3)
    · cases hc
  · -- nilCheck
    rename_i x ho
    simp only [Option.map_eq_some_iff] at hc
    obtain ⟨y, hy, rfl⟩ := hc
    have hr := ofOperand_rep hE hy
    simp only [evOp] at hev
    split at hev
    · rename_i hv
      rw [hv] at hr
      simp only [Option.some.injEq, Prod.mk.injEq] at hev
      generalize hq : a.eval x = q at hr
      have hr' := hr
      cases hr
      exact run1 (by simp [execOp, ho, hq]) hev.1.symm hev.2.symm hr'
    · rename_i hv
      rw [hv] at hr
      simp only [Option.some.injEq, Prod.mk.injEq] at hev
      generalize hq : a.eval x = q at hr
      have hr' := hr
      cases hr
      exact run1 (by simp [execOp, ho, hq]) hev.1.symm hev.2.symm hr'
    · rename_i hv
      rw [hv] at hr
      simp only [Option.some.injEq, Prod.mk.injEq] at hev
      generalize hq : a.eval x = q at hr
      have hr' := hr
      cases hr
      exact run1 (by simp [execOp, ho, hq]) hev.1.symm hev.2.symm hr'
    · cases hev
  · -- binOp
    rename_i op t x y yt ho
    split at hc
    · rename_i x' y' h1 h2
      simp only [Option.some.injEq] at hc
      subst hc
      simp only [evOp, ok, Option.map_eq_some_iff, Prod.mk.injEq] at hev
      obtain ⟨v, hb, rfl, rfl⟩ := hev
      obtain ⟨z, k1, k2⟩ := snd_bin (P := P) (ox := x) (oy := y) (ofOperand_rep hE h1) (ofOperand_rep hE h2) hb
      exact run1 (by simp only [execOp, ho]; simp only [Sem.run_bind] at k1 ⊢; rw [k1]; rfl) rfl rfl k2
    · cases hc
  · -- unOp
    rename_i op t x ho
    simp only [Option.map_eq_some_iff] at hc
    obtain ⟨y, hy, rfl⟩ := hc
    obtain ⟨v, rfl⟩ := ev_ok rfl hev
    obtain ⟨z, k1, k2, k3⟩ := snd_un (P := P) (ofOperand_rep hE hy) rfl hev
    exact run1 (by simp [execOp, ho, k1]) rfl k3 k2
  · -- convert
    rename_i src dst x ho
    split at hc
    · rename_i k' k x' h1 h2 h3
      simp only [Option.some.injEq] at hc
      subst hc
      obtain ⟨v, rfl⟩ := ev_ok rfl hev
      obtain ⟨z, k1, k2, k3⟩ := snd_conv h1 h2 (ofOperand_rep hE h3) rfl hev
      exact run1 (by simp [execOp, ho, k1]) rfl k3 k2
    · rename_i x' h1 h2 h3
      simp only [Option.some.injEq] at hc
      subst hc
      obtain ⟨v, rfl⟩ := ev_ok rfl hev
      obtain ⟨z, k1, k2, k3⟩ := snd_convs h1 h2 (ofOperand_rep hE h3) rfl hev
      exact run1 (by simp [execOp, ho, k1]) rfl k3 k2
    · cases hc
  · -- makeInterface
    rename_i t x ho
    split at hc
    · cases hc
    · rename_i d hd hu
      simp only [Option.map_eq_some_iff] at hc
      obtain ⟨y, hy, rfl⟩ := hc
      simp only [evOp] at hev
      split at hev
      · simp only [Option.some.injEq, Prod.mk.injEq] at hev
        refine run1 (x := .iface t (a.eval x)) ?_ hev.1.symm hev.2.symm (.iface _ _ _ (ofOperand_rep hE hy))
        simp only [execOp, ho, Sem.run_bind, Instr.makeInterface, run_underlying hu, Result.andThen_ok]
        cases d <;> first | rfl | exact (hd _ rfl).elim
      · cases hev
    · cases hc
  · -- makeFunc
    rename_i f fs caps ho
    split at hc
    · rename_i hz
      simp only [Option.map_eq_some_iff] at hc
      obtain ⟨ys, hy, rfl⟩ := hc
      simp only [evOp, Option.some.injEq, Prod.mk.injEq] at hev
      obtain rfl : fs = #[] := by simpa using hz
      have hargs := args_of hE hy
      refine run1 (x := .func (.func f) #[] (caps.map a.eval)) (by simp [execOp, ho, Instr.makeFunc]) hev.1.symm hev.2.symm (.fn _ _ _ hargs.1 fun i c hi => ?_)
      obtain ⟨v, k1, k2⟩ := hargs.2 i c hi
      rw [getD_of_list (v := v) (by simpa using k1)]
      exact k2
    · cases hc
  · -- makeMap
    rename_i t ho
    simp only [Option.some.injEq] at hc
    subst hc
    obtain ⟨v, rfl⟩ := ev_ok rfl hev
    obtain ⟨x, w', hr, hn⟩ := val_ok (snd_mkmap (P := P) hI t hev) (hok v rfl)
    exact wp_of_value (by simp [execOp, ho, hr]) hn
  · -- makeSlice
    rename_i t l c ho
    split at hc
    · rename_i e hu
      split at hc
      · rename_i es z i l' c' h1 h2 h3 h4
        split at hc
        · rename_i hb0
          simp only [Option.some.injEq] at hc
          subst hc
          obtain ⟨v, rfl⟩ := ev_ok rfl hev
          obtain ⟨x, w', hr, hn⟩ := val_ok (snd_mkslice hI hu h1 h2 rfl hb0 (ofOperand_rep hE h3) (ofOperand_rep hE h4) rfl rfl hev) (hok v rfl)
          exact wp_of_value (by simp [execOp, ho, hr]) hn
        · cases hc
      · cases hc
    · cases hc
  · -- slice
    rename_i t x lo hi mx ho
    split at hc
    · rename_i e x' hu hx
      split at hc
      · rename_i es lo' hi' hes hlo hhi
        simp only [Option.some.injEq] at hc
        subst hc
        obtain ⟨v, rfl⟩ := ev_ok rfl hev
        obtain ⟨z, k1, k2, k3⟩ := snd_slice hI hu hes (ofOperand_rep hE hx) (optOperand_rep hE hlo) (optOperand_rep hE hhi) rfl hev
        exact run1 (by simp [execOp, ho, k1]) rfl k3 k2
      · cases hc
    · rename_i x' hu hx
      split at hc
      · rename_i lo' hi' hlo hhi
        simp only [Option.some.injEq] at hc
        subst hc
        obtain ⟨v, rfl⟩ := ev_ok rfl hev
        obtain ⟨z, k1, k2, k3⟩ := snd_sslice hu (ofOperand_rep hE hx) (optOperand_rep hE hlo) (optOperand_rep hE hhi) rfl hev
        exact run1 (by simp [execOp, ho, k1]) rfl k3 k2
      · cases hc
    · rename_i e x' mx' hu hx
      split at hc
      · rename_i hz
        simp only [Option.some.injEq] at hc
        subst hc
        simp only [Bool.and_eq_true, Bool.or_eq_true] at hz
        obtain ⟨⟨⟨hz1, hz2⟩, hz3⟩, hz4⟩ := hz
        obtain ⟨es, hes⟩ := Option.isSome_iff_exists.1 hz4
        have zero : ∀ {x : Option Operand}, isZero x = true → ∃ k, x = some (.const (.int k 0)) := by
          intro x h
          unfold isZero at h
          split at h
          · exact ⟨_, rfl⟩
          · cases h
        obtain ⟨k1, rfl⟩ := zero hz2
        obtain ⟨k2, hk2⟩ := zero hz3
        simp only [Option.some.injEq] at hk2
        subst hk2
        obtain ⟨v, rfl⟩ := ev_ok rfl hev
        have hlo : lo.map a.eval = none ∨ ∃ k, lo.map a.eval = some (.int k 0) := by
          rcases hz1 with h | h
          · left; cases lo <;> simp_all
          · right; obtain ⟨k, rfl⟩ := zero h; exact ⟨k, rfl⟩
        obtain ⟨z, q1, q2, q3⟩ := snd_slice0 hI hu hes (ofOperand_rep hE hx) (vhi := some (.int k1 0)) (k1 := k1) (k2 := k2) (vmx := .int k2 0) hlo rfl rfl rfl hev
        have e1 : a.eval (.const (.int k1 0)) = .int k1 0 := rfl
        have e2 : a.eval (.const (.int k2 0)) = .int k2 0 := rfl
        exact run1 (by simp only [execOp, ho, Option.map_some, e1, e2, Sem.run_bind, q1, Result.andThen_ok, Sem.run_pure]) rfl q3 q2
      · cases hc
    · cases hc
  · -- fieldAddr
    rename_i t x f ho
    split at hc
    · rename_i fs x' hu hx
      split at hc
      · rename_i fd hf
        simp only [Option.map_eq_some_iff] at hc
        obtain ⟨n, hn, rfl⟩ := hc
        obtain ⟨v, rfl⟩ := ev_ok rfl hev
        obtain ⟨z, k1, k2, k3⟩ := snd_faddr hu (by rw [nth_eq] at hf; simpa using hf) hn (ofOperand_rep hE hx) rfl rfl hev
        exact run1 (by simp [execOp, ho, k1]) rfl k3 k2
      · cases hc
    · cases hc
  · -- field
    rename_i t x f ho
    split at hc
    · rename_i fs x' hu hx
      split at hc
      · rename_i fd hf
        simp only [Option.map_eq_some_iff] at hc
        obtain ⟨sz, hn, rfl⟩ := hc
        obtain ⟨v, rfl⟩ := ev_ok rfl hev
        obtain ⟨z, k1, k2, k3⟩ := snd_field hu (by rw [nth_eq] at hf; simpa using hf) hn (ofOperand_rep hE hx) rfl hev
        exact run1 (by simp [execOp, ho, k1]) rfl k3 k2
      · cases hc
    · cases hc
  · -- indexAddr
    rename_i t x i ho
    split at hc
    · rename_i e x' i' hu hx hi
      simp only [Option.map_eq_some_iff] at hc
      obtain ⟨es, hes, rfl⟩ := hc
      obtain ⟨v, rfl⟩ := ev_ok rfl hev
      obtain ⟨z, k1, k2, k3⟩ := snd_iaddr hI hu hes (ofOperand_rep hE hx) (ofOperand_rep hE hi) rfl rfl hev
      exact run1 (by simp [execOp, ho, k1]) rfl k3 k2
    · rename_i n e x' i' hu hx hi
      simp only [Option.map_eq_some_iff] at hc
      obtain ⟨es, hes, rfl⟩ := hc
      obtain ⟨v, rfl⟩ := ev_ok rfl hev
      obtain ⟨z, k1, k2, k3⟩ := snd_aaddr hu hes (ofOperand_rep hE hx) (ofOperand_rep hE hi) rfl rfl hev
      exact run1 (by simp [execOp, ho, k1]) rfl k3 k2
    · cases hc
  · -- index
    rename_i t x i ho
    split at hc
    · rename_i x' i' hu hx hi
      simp only [Option.some.injEq] at hc
      subst hc
      obtain ⟨v, rfl⟩ := ev_ok rfl hev
      obtain ⟨z, k1, k2, k3⟩ := snd_sidx hu (ofOperand_rep hE hx) (ofOperand_rep hE hi) rfl rfl hev
      exact run1 (by simp [execOp, ho, k1]) rfl k3 k2
    · rename_i n e x' i' hu hx hi
      split at hc
      · rename_i es sz hes hsz
        simp only [Option.some.injEq] at hc
        subst hc
        obtain ⟨v, rfl⟩ := ev_ok rfl hev
        obtain ⟨z, k1, k2, k3⟩ := snd_aidx hu hes hsz (ofOperand_rep hE hx) (ofOperand_rep hE hi) rfl rfl hev
        exact run1 (by simp [execOp, ho, k1]) rfl k3 k2
      · cases hc
    · cases hc
  · -- lookup
    rename_i t m k okk ho
    split at hc
    · rename_i kt e m' k' hu hm hk
      split at hc
      · rename_i l n z hl hz
        simp only [Option.some.injEq] at hc
        subst hc
        obtain ⟨v, rfl⟩ := ev_ok rfl hev
        obtain ⟨x, k1, k2, k3⟩ := snd_lookup hI hu hl hz (ofOperand_rep hE hm) (ofOperand_rep hE hk) rfl rfl hev
        exact run1 (by simp [execOp, ho, k1]) rfl k3 k2
      · cases hc
    · cases hc
  · -- mapUpdate
    rename_i t m k x ho
    split at hc
    · rename_i kt e m' k' x' hu hm hk hx
      simp only [Option.map_eq_some_iff] at hc
      obtain ⟨l, hl, rfl⟩ := hc
      obtain ⟨v, rfl⟩ := ev_ok rfl hev
      obtain ⟨rfl, w', k1, k2, k3⟩ := snd_mapset hI hu hl (ofOperand_rep hE hm) (ofOperand_rep hE hk) (ofOperand_rep hE hx) rfl rfl rfl hev
      exact wp_of_skip (w' := w') (by simp [execOp, ho, k1]) (hok _ rfl undef w' Z φ k2 .undef k3)
    · cases hc
  · -- insert
    rename_i t m k x ho
    split at hc
    · rename_i kt e m' k' x' hu hm hk hx
      simp only [Option.map_eq_some_iff] at hc
      obtain ⟨l, hl, rfl⟩ := hc
      obtain ⟨v, rfl⟩ := ev_ok rfl hev
      obtain ⟨rfl, w', k1, k2, k3⟩ := snd_mapset hI hu hl (ofOperand_rep hE hm) (ofOperand_rep hE hk) (ofOperand_rep hE hx) rfl rfl rfl hev
      exact wp_of_skip (w' := w') (by simp [execOp, ho, k1]) (hok _ rfl undef w' Z φ k2 .undef k3)
    · cases hc
  · -- extract
    rename_i x i ho
    simp only [Option.map_eq_some_iff] at hc
    obtain ⟨y, hy, rfl⟩ := hc
    obtain ⟨v, rfl⟩ := ev_ok rfl hev
    obtain ⟨z, k1, k2, k3⟩ := snd_ext (P := P) (ofOperand_rep hE hy) rfl hev
    exact run1 (by simp [execOp, ho, k1]) rfl k3 k2
  · -- panic
    rename_i x ho
    simp only [Option.map_eq_some_iff] at hc
    obtain ⟨y, hy, rfl⟩ := hc
    have hr := ofOperand_rep hE hy
    simp only [evOp] at hev
    split at hev
    · rename_i t u hv
      rw [hv] at hr
      simp only [Option.some.injEq, Prod.mk.injEq] at hev
      obtain ⟨rfl, rfl⟩ := hev
      generalize hq : a.eval x = q at hr
      have hr' := hr
      cases hr with
      | iface _ _ u' hu =>
        have := (hpan _ rfl).same hI hr'
        unfold Oper.wp
        have hrun : (execOp a.eval o).run P w = .halt (.panic (.iface t u')) w := by simp [execOp, ho, hq, Instr.panic]
        rw [hrun]
        exact this
    · cases hev
  · -- call
    rename_i c ho
    unfold compCall at hc
    split at hc
    · -- a function
      rename_i f args hcal hargs
      simp only [Option.some.injEq] at hc
      subst hc
      simp only [evOp] at hev
      exact call_wp hC hI (args_of hE hargs) hev (fun hf => by
        simp only [execOp, ho, resolve, hcal, Act.eval, Deferred.ofValue, Sem.run_bind, Sem.run_pure, Result.andThen_ok, invoke, Array.empty_append, Array.append_empty]
        exact run_callFunc hf _ _) hok hpan
    · -- a function value
      rename_i t args hcal hargs
      simp only [Option.some.injEq] at hc
      subst hc
      have hr := hE t
      simp only [evOp, AO.val] at hev
      split at hev
      · rename_i f caps hv
        rw [hv] at hr
        have hr2 := hr
        generalize hq : a.tmps.getD t undef = q at hr
        cases hr with
        | fn _ _ vs hl hrs =>
          have hcaps : ArgsRep w Z φ s.ctr caps vs := ⟨hl, fun i y hi => by
            have hlt : i < vs.size := by
              have := (List.getElem?_eq_some_iff.1 hi).1
              omega
            refine ⟨vs[i], Array.getElem?_eq_getElem hlt, ?_⟩
            have := hrs i y hi
            simpa [Array.getD_eq_getD_getElem?, Array.getElem?_eq_getElem hlt] using this⟩
          exact call_wp hC hI ((args_of hE hargs).append hcaps) hev (fun hf => by
            simp only [execOp, ho, resolve, hcal, Act.eval, hq, Deferred.ofValue, Sem.run_bind, Sem.run_pure, Result.andThen_ok, invoke, Array.empty_append]
            exact run_callFunc hf _ _) hok hpan
      · cases hev
    · -- len
      rename_i x hcal hargs
      obtain ⟨ox, hl, hx⟩ := one_of hargs
      have hca := array_one hl
      split at hc
      · rename_i t ht
        have key : ∀ k, ((k = .str ∧ P.underlying t = some .string) ∨ (k = .slice ∧ ∃ e, P.underlying t = some (.slice e)) ∨ (k = .map ∧ ∃ a e, P.underlying t = some (.map a e))) → ao = .len k x → o.wp P a w next Q := by
          intro k hk hao
          subst hao
          obtain ⟨v, rfl⟩ := ev_ok rfl hev
          obtain ⟨z, k1, k2, k3⟩ := snd_len (ty := o.type) hI hk (ofOperand_rep hE hx) rfl hev
          have hat : c.argTypes[0]? = some t := by rw [nth_eq] at ht; simpa using ht
          refine run1 (x := z) ?_ rfl k3 k2
          simp only [execOp, ho, resolve, hcal, Sem.run_bind, Sem.run_pure, Result.andThen_ok, invoke, builtin, hca]
          have : (Builtin.len_ c.argTypes o.type (#[ox].map a.eval)).run P w = .ok z w := by
            rw [← k1]
            simp [Builtin.len_, hat]
          rw [this]; rfl
        split at hc
        · rename_i hu
          simp only [Option.some.injEq] at hc
          exact key .str (.inl ⟨rfl, hu⟩) hc.symm
        · rename_i e hu
          simp only [Option.some.injEq] at hc
          exact key .slice (.inr (.inl ⟨rfl, e, hu⟩)) hc.symm
        · rename_i k e hu
          simp only [Option.some.injEq] at hc
          exact key .map (.inr (.inr ⟨rfl, k, e, hu⟩)) hc.symm
        · cases hc
      · cases hc
    · -- min
      rename_i x y hcal hargs
      obtain ⟨ox, oy, hl, hx, hy⟩ := two_of hargs
      have hca := array_two hl
      simp only [Option.some.injEq] at hc
      subst hc
      obtain ⟨v, rfl⟩ := ev_ok rfl hev
      obtain ⟨z, k1, k2, k3⟩ := (snd_minmax (P := P) (ofOperand_rep hE hx) (ofOperand_rep hE hy) rfl rfl c.argTypes o.type).1 hev
      refine run1 (x := z) ?_ rfl k3 k2
      simp only [execOp, ho, resolve, hcal, Sem.run_bind, Sem.run_pure, Result.andThen_ok, invoke, builtin, hca]
      have : (Builtin.min_ c.argTypes o.type (#[ox, oy].map a.eval)).run P w = .ok z w := by rw [← k1]; simp
      rw [this]; rfl
    · -- max
      rename_i x y hcal hargs
      obtain ⟨ox, oy, hl, hx, hy⟩ := two_of hargs
      have hca := array_two hl
      simp only [Option.some.injEq] at hc
      subst hc
      obtain ⟨v, rfl⟩ := ev_ok rfl hev
      obtain ⟨z, k1, k2, k3⟩ := (snd_minmax (P := P) (ofOperand_rep hE hx) (ofOperand_rep hE hy) rfl rfl c.argTypes o.type).2 hev
      refine run1 (x := z) ?_ rfl k3 k2
      simp only [execOp, ho, resolve, hcal, Sem.run_bind, Sem.run_pure, Result.andThen_ok, invoke, builtin, hca]
      have : (Builtin.max_ c.argTypes o.type (#[ox, oy].map a.eval)).run P w = .ok z w := by rw [← k1]; simp
      rw [this]; rfl
    · -- append
      rename_i x y hcal hargs
      obtain ⟨ox, oy, hl, hx, hy⟩ := two_of hargs
      have hca := array_two hl
      split at hc
      · rename_i t t' hat
        split at hc
        · rename_i e hu
          split at hc
          · rename_i es z i hz hi
            split at hc
            · rename_i hcond
              obtain ⟨hb0, rfl⟩ := hcond
              simp only [Option.some.injEq] at hc
              subst hc
              obtain ⟨v, rfl⟩ := ev_ok rfl hev
              have hats : c.argTypes = #[t, t] := by apply Array.ext'; simpa using hat
              simp only [evOp] at hev
              split at hev
              · rename_i ys cl hys
                simp only [Option.map_eq_some_iff, Prod.mk.injEq, AOut.ok.injEq, Prod.exists] at hev
                obtain ⟨v', s1, hap, rfl, rfl⟩ := hev
                obtain ⟨x', w', hr, hn⟩ := val_ok (snd_append (ty := o.type) hI hu hz hi rfl hb0 (ofOperand_rep hE hx) (ofOperand_rep hE hy) hys hap) (hok _ rfl)
                refine wp_of_value (x := x') (w' := w') ?_ hn
                simp only [execOp, ho, resolve, hcal, Sem.run_bind, Sem.run_pure, Result.andThen_ok, invoke, builtin, hca, hats]
                have : (Builtin.append_ #[t, t] o.type (#[ox, oy].map a.eval)).run P w = .ok x' w' := by rw [← hr]; simp
                rw [this]; rfl
              · cases hev
            · cases hc
          · cases hc
        · cases hc
      · cases hc
    · -- delete
      rename_i m k hcal hargs
      obtain ⟨om, ok', hl, hm, hk⟩ := two_of hargs
      have hca := array_two hl
      split at hc
      · rename_i t ts hat
        split at hc
        · rename_i kt e hu
          simp only [Option.map_eq_some_iff] at hc
          obtain ⟨l, hlf, rfl⟩ := hc
          obtain ⟨v, rfl⟩ := ev_ok rfl hev
          have hat0 : c.argTypes[0]? = some t := by
            have : c.argTypes.toList[0]? = some t := by rw [hat]; rfl
            simpa using this
          obtain ⟨rfl, w', k1, k2, k3⟩ := snd_delete (ty := o.type) hI hu hat0 hlf (ofOperand_rep hE hm) (ofOperand_rep hE hk) rfl rfl hev
          refine wp_of_value (x := undef) (w' := w') ?_ (hok _ rfl undef w' Z φ k2 .undef k3)
          simp only [execOp, ho, resolve, hcal, Sem.run_bind, Sem.run_pure, Result.andThen_ok, invoke, builtin, hca]
          have : (Builtin.delete_ c.argTypes o.type (#[om, ok'].map a.eval)).run P w = .ok undef w' := by rw [← k1]; simp
          rw [this]; rfl
        · cases hc
      · cases hc
    · cases hc
  · cases hc

end AI
end Go.Proofs.Ytocgbgffpdphdaa
