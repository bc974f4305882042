/- Soundness, fifteenth part: a region whose order is drawn. -/
import Derived.Test.YtocgbgffpdphdaaSnd14
namespace Go.Proofs.Ytocgbgffpdphdaa
namespace AI
open Go.RowKit

variable {P : Program} {B : Nat} {w w' w0 : World} {Z Z' : Cold} {φ φ' : Phi} {ctr ctr' : Nat} {s s' : Sto}

/-! ### 'before', bit by bit -/

def befStep (acc : Array Nat) (o : Oper) : Nat := o.after.foldl (fun s e => if Region.binds .any e then s ||| 2 ^ e.on ||| acc.getD e.on 0 else s) 0

theorem before_def (ops : Array Oper) : Region.before ops = ops.foldl (init := #[]) fun acc o => acc.push (befStep acc o) := rfl

theorem fold_push : ∀ (l : List Oper) (acc : Array Nat), (∀ k, k < acc.size → (l.foldl (fun acc o => acc.push (befStep acc o)) acc)[k]? = acc[k]?) ∧
    ∀ (k : Nat) (o : Oper), l[k]? = some o → ∃ A : Array Nat, (l.foldl (fun acc o => acc.push (befStep acc o)) acc)[acc.size + k]? = some (befStep A o) ∧ A.size = acc.size + k ∧ ∀ q, q < A.size → A[q]? = (l.foldl (fun acc o => acc.push (befStep acc o)) acc)[q]?
  | [], acc => ⟨fun _ _ => rfl, fun k o h => by simp at h⟩
  | o :: l, acc => by
    obtain ⟨h1, h2⟩ := fold_push l (acc.push (befStep acc o))
    simp only [List.foldl_cons]
    have hlow : ∀ k, k < acc.size → (l.foldl (fun acc o => acc.push (befStep acc o)) (acc.push (befStep acc o)))[k]? = acc[k]? := by
      intro k hk
      rw [h1 k (by simp; omega), Array.getElem?_push_lt hk]
      simp [hk]
    refine ⟨hlow, fun k o' hk => ?_⟩
    cases k with
    | zero =>
      simp only [List.getElem?_cons_zero, Option.some.injEq] at hk
      subst hk
      refine ⟨acc, ?_, rfl, fun q hq => (hlow q hq).symm⟩
      rw [Nat.add_zero, h1 _ (by simp)]
      simp
    | succ k =>
      obtain ⟨A, a1, a2, a3⟩ := h2 k o' (by simpa using hk)
      refine ⟨A, ?_, ?_, a3⟩
      · simp only [Array.size_push] at a1
        rw [show acc.size + (k + 1) = acc.size + 1 + k by omega]; exact a1
      · simp only [Array.size_push] at a2; omega

theorem fold_bits (acc : Array Nat) (i : Nat) : ∀ (es : List Edge) (n : Nat), (es.foldl (fun s e => if Region.binds .any e then s ||| 2 ^ e.on ||| acc.getD e.on 0 else s) n).testBit i = true →
    n.testBit i = true ∨ ∃ e ∈ es, Region.binds .any e = true ∧ (e.on = i ∨ (acc.getD e.on 0).testBit i = true)
  | [], n, h => .inl h
  | e :: es, n, h => by
    simp only [List.foldl_cons] at h
    rcases fold_bits acc i es _ h with h1 | ⟨e', he', hb⟩
    · by_cases hb : Region.binds .any e = true
      · simp only [hb, if_true, Nat.testBit_or, Bool.or_eq_true, Nat.testBit_two_pow, decide_eq_true_eq] at h1
        rcases h1 with (h1 | h1) | h1
        · exact .inl h1
        · exact .inr ⟨e, by simp, hb, .inl h1⟩
        · exact .inr ⟨e, by simp, hb, .inr h1⟩
      · simp only [hb] at h1
        exact .inl h1
    · exact .inr ⟨e', by simp [he'], hb⟩

theorem before_bit {ops : Array Oper} (hfwd : ∀ (j : Nat) (o : Oper), ops[j]? = some o → ∀ e ∈ o.after, Region.binds .any e = true → e.on < j) {j : Nat} {o : Oper} (ho : ops[j]? = some o) {i : Nat} (h : ((Region.before ops).getD j 0).testBit i = true) :
    ∃ e ∈ o.after, Region.binds .any e = true ∧ (e.on = i ∨ ((Region.before ops).getD e.on 0).testBit i = true) := by
  rw [before_def, ← Array.foldl_toList] at h ⊢
  obtain ⟨_, h2⟩ := fold_push ops.toList #[]
  obtain ⟨A, a1, a2, a3⟩ := h2 j o (by simpa using ho)
  simp only [List.size_toArray, List.length_nil, Nat.zero_add] at a1 a2
  have e1 : (ops.toList.foldl (fun acc o => acc.push (befStep acc o)) #[]).getD j 0 = befStep A o := by
    simp only [Array.getD_eq_getD_getElem?]
    rw [a1]; rfl
  rw [e1] at h
  unfold befStep at h
  rw [← Array.foldl_toList] at h
  rcases fold_bits A i _ _ h with h0 | ⟨e, he, hb, hor⟩
  · simp at h0
  · have he' : e ∈ o.after := by simpa using he
    have hlt := hfwd j o ho e he' hb
    refine ⟨e, he', hb, hor.imp id fun hh => ?_⟩
    have : A.getD e.on 0 = (ops.toList.foldl (fun acc o => acc.push (befStep acc o)) #[]).getD e.on 0 := by
      simp only [Array.getD_eq_getD_getElem?]
      rw [a3 e.on (by omega)]
    rw [← this]; exact hh

/-! ### which operations have been carried out -/

def Lst (listed : Array Bool) (i : Nat) : Bool := listed.getD i false

def Closed (ops : Array Oper) (L : Nat → Bool) : Prop := ∀ (j : Nat) (o : Oper), ops[j]? = some o → L j = true → ∀ e ∈ o.after, Region.binds .any e = true → L e.on = true

theorem closed_bit {ops : Array Oper} (hfwd : ∀ (j : Nat) (o : Oper), ops[j]? = some o → ∀ e ∈ o.after, Region.binds .any e = true → e.on < j) {L : Nat → Bool} (hL : Closed ops L) {i : Nat} :
    ∀ (j : Nat) (o : Oper), ops[j]? = some o → (∀ e ∈ o.after, Region.binds .any e = true → L e.on = true) → ((Region.before ops).getD j 0).testBit i = true → L i = true := by
  intro j
  induction j using Nat.strongRecOn with
  | _ j ih =>
    intro o ho hd hb
    obtain ⟨e, he, hbe, hor⟩ := before_bit hfwd ho hb
    have hle := hd e he hbe
    rcases hor with rfl | hb'
    · exact hle
    · have hlt := hfwd j o ho e he hbe
      have hj : j < ops.size := (Array.getElem?_eq_some_iff.1 ho).1
      have ho' : ops[e.on]? = some ops[e.on] := Array.getElem?_eq_getElem (by omega)
      exact ih e.on hlt _ ho' (fun e' he' hb' => hL e.on _ ho' hle e' he' hb') hb'

def cnt (L : Nat → Bool) : Nat → Nat
  | 0 => 0
  | n + 1 => cnt L n + (if L n then 1 else 0)

theorem cnt_le (L : Nat → Bool) : ∀ n, cnt L n ≤ n
  | 0 => Nat.le_refl _
  | n + 1 => by have := cnt_le L n; simp only [cnt]; split <;> omega

theorem cnt_full {L : Nat → Bool} : ∀ {n : Nat}, cnt L n = n → ∀ i, i < n → L i = true
  | 0, _, i, h => by omega
  | n + 1, h, i, hi => by
    have hle := cnt_le L n
    simp only [cnt] at h
    split at h
    · rename_i hl
      by_cases he : i = n
      · subst he; exact hl
      · exact cnt_full (n := n) (by omega) i (by omega)
    · omega

theorem cnt_add {L L' : Nat → Bool} {i : Nat} (h0 : L i = false) (h1 : L' i = true) (h : ∀ k, k ≠ i → L' k = L k) : ∀ n, cnt L' n = cnt L n + (if i < n then 1 else 0)
  | 0 => by simp [cnt]
  | n + 1 => by
    have ih := cnt_add h0 h1 h n
    simp only [cnt, ih]
    by_cases he : n = i
    · subst he; simp [h0, h1]
    · rw [h n he]
      by_cases hlt : i < n
      · simp [hlt, Nat.lt_succ_of_lt hlt]; omega
      · simp [hlt, show ¬ i < n + 1 by omega]

theorem lst_set {listed : Array Bool} {i : Nat} (hi : i < listed.size) (k : Nat) : Lst (listed.setIfInBounds i true) k = if k = i then true else Lst listed k := by
  unfold Lst
  by_cases h : k = i
  · subst h; simp [Array.getD_eq_getD_getElem?, hi]
  · rw [if_neg h]
    simp [Array.getD_eq_getD_getElem?, Array.getElem?_setIfInBounds_ne (Ne.symm h)]

theorem ready_iff {ops : Array Oper} {listed : Array Bool} (hsz : listed.size = ops.size) {j : Nat} : j ∈ Region.ready .any ops listed ↔ ∃ o, ops[j]? = some o ∧ Lst listed j = false ∧ ∀ e ∈ o.after, Region.binds .any e = true → Lst listed e.on = true := by
  unfold Region.ready
  simp only [List.mem_filter, List.mem_range, Bool.and_eq_true, Bool.not_eq_true']
  constructor
  · rintro ⟨hj, hl, ho⟩
    have hoj : ops[j]? = some ops[j] := Array.getElem?_eq_getElem hj
    refine ⟨_, hoj, ?_, fun e he hb => ?_⟩
    · have : j < listed.size := by omega
      simp only [Array.getD_eq_getD_getElem?, Array.getElem?_eq_getElem this, Option.getD_some] at hl
      simp [Lst, Array.getD_eq_getD_getElem?, Array.getElem?_eq_getElem this, hl]
    · rw [hoj] at ho
      simp only [Option.map_some, Option.getD_some, Array.all_eq_true_iff_forall_mem] at ho
      have := ho e he
      simp only [hb, Bool.not_true, Bool.false_or] at this
      exact this
  · rintro ⟨o, ho, hl, he⟩
    have hj : j < ops.size := (Array.getElem?_eq_some_iff.1 ho).1
    refine ⟨hj, ?_, ?_⟩
    · have : j < listed.size := by omega
      simp only [Lst, Array.getD_eq_getD_getElem?, Array.getElem?_eq_getElem this, Option.getD_some] at hl
      simp [Array.getD_eq_getD_getElem?, Array.getElem?_eq_getElem this, hl]
    · rw [ho]
      simp only [Option.map_some, Option.getD_some, Array.all_eq_true_iff_forall_mem]
      intro e hem
      by_cases hb : Region.binds .any e = true
      · have := he e hem hb
        simp only [Lst] at this
        simp [this]
      · simp [hb]

/-! ### the frame after some of the operations -/

def envL (L : Nat → Bool) : List (Option Nat × AV) → Nat → Env → Env
  | [], _, env => env
  | (d, v) :: vs, i, env => envL L vs (i + 1) (if L i then put d v env else env)

def lastW {α : Type} (L : Nat → Bool) (t : Nat) : List (Option Nat × α) → Nat → α → α
  | [], _, x => x
  | (d, v) :: vs, i, x => lastW L t vs (i + 1) (if L i = true ∧ d = some t then v else x)

theorem envL_get (L : Nat → Bool) (t : Nat) : ∀ (vs : List (Option Nat × AV)) (i : Nat) (env : Env), (envL L vs i env).get t = lastW L t vs i (env.get t)
  | [], i, env => rfl
  | (d, v) :: vs, i, env => by
    simp only [envL, lastW]
    rw [envL_get L t vs (i + 1)]
    congr 1
    by_cases hL : L i = true
    · simp only [hL, if_true, true_and, get_put]
    · simp [hL]

theorem lastW_congr {α : Type} {L L' : Nat → Bool} {t : Nat} : ∀ (vs : List (Option Nat × α)) (i : Nat) (x : α), (∀ k d v, vs[k]? = some (d, v) → d = some t → L (i + k) = L' (i + k)) → lastW L t vs i x = lastW L' t vs i x
  | [], i, x, _ => rfl
  | (d, v) :: vs, i, x, h => by
    simp only [lastW]
    have h0 := h 0 d v rfl
    simp only [Nat.add_zero] at h0
    have e : (if L i = true ∧ d = some t then v else x) = (if L' i = true ∧ d = some t then v else x) := by
      by_cases hd : d = some t
      · rw [h0 hd]
      · simp [hd]
    rw [e]
    refine lastW_congr vs (i + 1) _ fun k d' v' hk hd => ?_
    rw [show i + 1 + k = i + (k + 1) by omega]
    exact h (k + 1) d' v' (by simpa using hk) hd

/-- the last writer of a slot gives its value -/
theorem lastW_set {α : Type} {L : Nat → Bool} {t j : Nat} {v : α} : ∀ (vs : List (Option Nat × α)) (i : Nat) (x : α), vs[j]? = some (some t, v) → L (i + j) = true → (∀ k d v', vs[k]? = some (d, v') → d = some t → j < k → L (i + k) = false) → lastW L t vs i x = v := by
  induction j with
  | zero =>
    intro vs i x hj hL hno
    cases vs with
    | nil => simp at hj
    | cons p vs =>
      simp only [List.getElem?_cons_zero, Option.some.injEq] at hj
      subst hj
      simp only [Nat.add_zero] at hL
      simp only [lastW, hL, and_self, if_true]
      have none : ∀ (vs : List (Option Nat × α)) (i : Nat) (x : α), (∀ k d v', vs[k]? = some (d, v') → d = some t → L (i + k) = false) → lastW L t vs i x = x := by
        intro vs
        induction vs with
        | nil => intro i x _; rfl
        | cons p vs ih =>
          intro i x h
          obtain ⟨d, v'⟩ := p
          simp only [lastW]
          have h0 := h 0 d v' rfl
          simp only [Nat.add_zero] at h0
          rw [if_neg (by rintro ⟨a, b⟩; rw [h0 b] at a; cases a)]
          exact ih (i + 1) x fun k d v' hk hd => by rw [show i + 1 + k = i + (k + 1) by omega]; exact h (k + 1) d v' (by simpa using hk) hd
      exact none vs (i + 1) v fun k d v' hk hd => by rw [show i + 1 + k = i + (k + 1) by omega]; exact hno (k + 1) d v' (by simpa using hk) hd (by omega)
  | succ j ih =>
    intro vs i x hj hL hno
    cases vs with
    | nil => simp at hj
    | cons p vs =>
      obtain ⟨d, v'⟩ := p
      simp only [lastW]
      exact ih vs (i + 1) _ (by simpa using hj) (by rw [show i + 1 + j = i + (j + 1) by omega]; exact hL) fun k d v' hk hd hlt => by
        rw [show i + 1 + k = i + (k + 1) by omega]
        exact hno (k + 1) d v' (by simpa using hk) hd (by omega)

theorem envL_none {L : Nat → Bool} : ∀ (vs : List (Option Nat × AV)) (i : Nat) (env : Env), (∀ k, k < vs.length → L (i + k) = false) → envL L vs i env = env
  | [], i, env, _ => rfl
  | (d, v) :: vs, i, env, h => by
    have h0 := h 0 (by simp)
    simp only [Nat.add_zero] at h0
    simp only [envL, h0, Bool.false_eq_true, if_false]
    exact envL_none vs (i + 1) env fun k hk => by rw [show i + 1 + k = i + (k + 1) by omega]; exact h (k + 1) (by simp; omega)

/-- what the operations of the head yield, in the order of the text -/
def trace (C : CallF) (s : Sto) : List AOper → Env → Option (List (Option Nat × AV))
  | [], _ => some []
  | o :: os, env => match wanted o.guard env with
    | some false => (trace C s os (put o.dst .undef env)).map ((o.dst, .undef) :: ·)
    | some true => match evOp C o.op env s with
      | some (.ok v, _) => (trace C s os (put o.dst v env)).map ((o.dst, v) :: ·)
      | _ => none
    | none => none

theorem pure_same {C : CallF} {ao : AOp} {env : Env} {out : AOut} (hp : ao.pureOp = true) (hev : evOp C ao env s = some (out, s')) : s' = s ∧ ∃ v, out = .ok v := by
  have hpc : ∀ {m : Mode} {f : Nat} {args : List AV}, (m == .pure || m == .borrow) = true → callMode C m f args s = some (out, s') → s' = s ∧ ∃ v, out = .ok v := by
    intro m f args hm h
    cases m <;> simp at hm
    · simp only [callMode] at h
      split at h
      · simp only [Option.map_eq_some_iff, Prod.mk.injEq] at h
        obtain ⟨r, _, h1, h2⟩ := h
        exact ⟨h2.symm, r, h1.symm⟩
      · cases h
    · simp only [callMode] at h
      split at h
      · split at h
        · split at h
          · simp only [Option.some.injEq, Prod.mk.injEq] at h
            exact ⟨h.2.symm, _, h.1.symm⟩
          · cases h
        · cases h
      · cases h
  cases ao <;> simp only [AOp.pureOp, Bool.false_eq_true] at hp
  case call m f args => exact hpc hp (by simpa only [evOp] using hev)
  case callv m x args =>
    simp only [evOp] at hev
    split at hev
    · exact hpc hp hev
    · cases hev
  case lit own es z len parts =>
    simp only [Bool.not_eq_true'] at hp
    subst hp
    simp only [evOp, Bool.false_eq_true, if_false] at hev
    (repeat' split at hev) <;> simp only [Option.some.injEq, Prod.mk.injEq, reduceCtorEq] at hev <;> exact ⟨hev.2.symm, _, hev.1.symm⟩
  all_goals
    simp only [evOp, ok] at hev
    (repeat' split at hev) <;> first
      | (simp only [Option.some.injEq, Prod.mk.injEq] at hev; exact ⟨hev.2.symm, _, hev.1.symm⟩)
      | (simp only [Option.map_eq_some_iff, Prod.mk.injEq] at hev; obtain ⟨r, _, h1, h2⟩ := hev; exact ⟨h2.symm, _, h1.symm⟩)
      | cases hev

theorem evOps_trace {C : CallF} : ∀ {hd : List AOper} {tl : List AOper} {env : Env} {r : AExit × Env × Sto}, (hd.all fun o => o.op.pureOp) = true → evOps C (hd ++ tl) env s = some r →
    ∃ vs, trace C s hd env = some vs ∧ ∀ i, evOps C tl (envL (fun _ => true) vs i env) s = some r
  | [], tl, env, r, _, h => ⟨[], rfl, fun _ => h⟩
  | o :: hd, tl, env, r, hp, h => by
    simp only [List.all_cons, Bool.and_eq_true] at hp
    simp only [List.cons_append, evOps] at h
    split at h
    · cases h
    · rename_i hw
      obtain ⟨vs, h1, h2⟩ := evOps_trace hp.2 h
      exact ⟨(o.dst, .undef) :: vs, by simp [trace, hw, h1], fun i => by simp only [envL, if_true]; exact h2 (i + 1)⟩
    · rename_i hw
      split at h
      · rename_i v s1 hop
        rw [(pure_same hp.1 hop).1] at h
        obtain ⟨vs, h1, h2⟩ := evOps_trace hp.2 h
        exact ⟨(o.dst, v) :: vs, by simp [trace, hw, hop, h1], fun i => by simp only [envL, if_true]; exact h2 (i + 1)⟩
      · rename_i v s1 hop
        obtain ⟨_, v', hv'⟩ := pure_same hp.1 hop
        cases hv'
      · cases h

theorem trace_get {C : CallF} : ∀ {hd : List AOper} {env : Env} {vs : List (Option Nat × AV)}, trace C s hd env = some vs → vs.length = hd.length ∧ ∀ (k : Nat) (o : AOper), hd[k]? = some o → ∃ v, vs[k]? = some (o.dst, v) ∧
    ∀ i, (wanted o.guard (envL (fun q => decide (q < i + k)) vs i env) = some false ∧ v = .undef) ∨ (wanted o.guard (envL (fun q => decide (q < i + k)) vs i env) = some true ∧ ∃ s', evOp C o.op (envL (fun q => decide (q < i + k)) vs i env) s = some (.ok v, s'))
  | [], env, vs, h => by
    simp only [trace, Option.some.injEq] at h
    subst h
    exact ⟨rfl, fun k o hk => by simp at hk⟩
  | o :: hd, env, vs, h => by
    have step : ∀ v vs', trace C s hd (put o.dst v env) = some vs' → vs = (o.dst, v) :: vs' → ((wanted o.guard env = some false ∧ v = .undef) ∨ (wanted o.guard env = some true ∧ ∃ s', evOp C o.op env s = some (.ok v, s'))) →
        vs.length = (o :: hd).length ∧ ∀ (k : Nat) (o' : AOper), (o :: hd)[k]? = some o' → ∃ v, vs[k]? = some (o'.dst, v) ∧
    ∀ i, (wanted o'.guard (envL (fun q => decide (q < i + k)) vs i env) = some false ∧ v = .undef) ∨ (wanted o'.guard (envL (fun q => decide (q < i + k)) vs i env) = some true ∧ ∃ s', evOp C o'.op (envL (fun q => decide (q < i + k)) vs i env) s = some (.ok v, s')) := by
      intro v vs' ht hvs hor
      obtain ⟨hl, hg⟩ := trace_get ht
      subst hvs
      refine ⟨by simp [hl], fun k o' hk => ?_⟩
      cases k with
      | zero =>
        simp only [List.getElem?_cons_zero, Option.some.injEq] at hk
        subst hk
        refine ⟨v, rfl, fun i => ?_⟩
        have : envL (fun q => decide (q < i + 0)) ((o.dst, v) :: vs') i env = env := envL_none _ i env fun k _ => by simp
        rw [this]
        exact hor
      | succ k =>
        obtain ⟨v', q1, q2⟩ := hg k o' (by simpa using hk)
        refine ⟨v', by simpa using q1, fun i => ?_⟩
        have := q2 (i + 1)
        have e : envL (fun q => decide (q < i + (k + 1))) ((o.dst, v) :: vs') i env = envL (fun q => decide (q < i + 1 + k)) vs' (i + 1) (put o.dst v env) := by
          simp only [envL]
          rw [if_pos (by simp)]
          congr 1
          funext q
          rw [show i + (k + 1) = i + 1 + k by omega]
        rw [e]
        exact this
    simp only [trace] at h
    split at h
    · rename_i hw
      simp only [Option.map_eq_some_iff] at h
      obtain ⟨vs', ht, rfl⟩ := h
      exact step .undef vs' ht rfl (.inl ⟨hw, rfl⟩)
    · rename_i hw
      split at h
      · rename_i v s1 hop
        simp only [Option.map_eq_some_iff] at h
        obtain ⟨vs', ht, rfl⟩ := h
        exact step v vs' ht rfl (.inr ⟨hw, s1, hop⟩)
      · cases h
    · cases h

end AI
end Go.Proofs.Ytocgbgffpdphdaa
