/- Regions whose operations commute, third part: the effects of a set of operations; the head in whatever order. -/
import Derived.Test.YtocgbgffpdphdaaSndP2
namespace Go.Proofs.Ytocgbgffpdphdaa
namespace AI
open Go.RowKit

variable {P : Program} {B : Nat} {w w' w0 : World} {Z Z' : Cold} {φ φ' : Phi} {ctr ctr' : Nat} {s s' : Sto}

def Eff.dv (e : Eff) : Option Nat × AV := (e.dst, e.v)
def Eff.up (e : Eff) : Option Nat × Option Obj := match e.upd with
  | some (t, ob) => (some t, some ob)
  | none => (none, none)

def stoL (L : Nat → Bool) : List Eff → Nat → Sto → Sto
  | [], _, s => s
  | e :: es, i, s => stoL L es (i + 1) (if L i then applyU e.upd e.bump s else s)

def sumB (L : Nat → Bool) : List Eff → Nat → Nat
  | [], _ => 0
  | e :: es, i => (if L i then e.bump else 0) + sumB L es (i + 1)

theorem applyU_len (u : Option (Nat × Obj)) (b : Nat) (s : Sto) : (applyU u b s).σ.length = s.σ.length := by
  cases u with
  | none => rfl
  | some p => simp [applyU]

theorem applyU_ctr (u : Option (Nat × Obj)) (b : Nat) (s : Sto) : (applyU u b s).ctr = s.ctr + b := by
  cases u <;> rfl

theorem stoL_len (L : Nat → Bool) : ∀ (es : List Eff) (i : Nat) (s : Sto), (stoL L es i s).σ.length = s.σ.length
  | [], _, _ => rfl
  | e :: es, i, s => by
    simp only [stoL]
    rw [stoL_len L es]
    split
    · exact applyU_len _ _ _
    · rfl

theorem stoL_ctr (L : Nat → Bool) : ∀ (es : List Eff) (i : Nat) (s : Sto), (stoL L es i s).ctr = s.ctr + sumB L es i
  | [], _, _ => rfl
  | e :: es, i, s => by
    simp only [stoL, sumB]
    rw [stoL_ctr L es]
    split
    · rw [applyU_ctr]; omega
    · omega

theorem stoL_get (L : Nat → Bool) (t : Nat) : ∀ (es : List Eff) (i : Nat) (s : Sto), t < s.σ.length → nth (stoL L es i s).σ t = lastW L t (es.map Eff.up) i (nth s.σ t)
  | [], _, _, _ => rfl
  | e :: es, i, s, ht => by
    simp only [stoL, List.map_cons]
    rw [show (e.up :: es.map Eff.up) = ((e.up.1, e.up.2) :: es.map Eff.up) from rfl]
    simp only [lastW]
    rw [stoL_get L t es (i + 1)]
    · congr 1
      by_cases hL : L i = true
      · simp only [hL, if_true, true_and]
        unfold applyU Eff.up
        split
        · rename_i t' ob hu
          simp only [hu, nth_eq, Option.some.injEq]
          by_cases e : t' = t
          · subst e
            rw [if_pos rfl, List.getElem?_set_self ht]
          · rw [if_neg e, List.getElem?_set_ne e]
        · rename_i hu
          simp [hu]
      · simp [hL]
    · split
      · rw [applyU_len]; exact ht
      · exact ht

theorem sumB_congr {L L' : Nat → Bool} : ∀ (es : List Eff) (i : Nat), (∀ k, i ≤ k → L' k = L k) → sumB L' es i = sumB L es i
  | [], _, _ => rfl
  | e :: es, i, h => by
    simp only [sumB]
    rw [h i (Nat.le_refl _), sumB_congr es (i + 1) fun k hk => h k (by omega)]

theorem sumB_set {L L' : Nat → Bool} : ∀ (es : List Eff) (i j : Nat) (e : Eff), es[j]? = some e → L (i + j) = false → L' (i + j) = true → (∀ k, k ≠ i + j → L' k = L k) → sumB L' es i = sumB L es i + e.bump
  | [], _, _, _, h, _, _, _ => by simp at h
  | e0 :: es, i, 0, e, h, h0, h1, hk => by
    simp only [List.getElem?_cons_zero, Option.some.injEq] at h
    subst h
    simp only [Nat.add_zero] at h0 h1
    simp only [sumB, h0, h1, if_true, Bool.false_eq_true, if_false]
    rw [sumB_congr es (i + 1) fun k hk' => hk k (by omega)]
    omega
  | e0 :: es, i, j + 1, e, h, h0, h1, hk => by
    simp only [sumB]
    rw [hk i (by omega), sumB_set es (i + 1) j e (by simpa using h) (by rw [← h0]; congr 1; omega) (by rw [← h1]; congr 1; omega) fun k hk' => hk k (by omega)]
    omega

theorem sto_ext {a b : Sto} (hl : a.σ.length = b.σ.length) (h : ∀ t, t < a.σ.length → nth a.σ t = nth b.σ t) (hc : a.ctr = b.ctr) : a = b := by
  obtain ⟨σ, c⟩ := a
  obtain ⟨σ', c'⟩ := b
  simp only at hl h hc
  subst hc
  congr 1
  refine List.ext_getElem? fun t => ?_
  rcases Nat.lt_or_ge t σ.length with ht | ht
  · have := h t ht
    rw [nth_eq, nth_eq] at this
    exact this
  · rw [List.getElem?_eq_none ht, List.getElem?_eq_none (by omega)]

/-- one operation more -/
theorem stoL_step {L L' : Nat → Bool} {es : List Eff} {i : Nat} {e : Eff} (he : es[i]? = some e) (h0 : L i = false) (h1 : L' i = true) (hk : ∀ k, k ≠ i → L' k = L k)
    (hno : ∀ (k : Nat) (e' : Eff) (t : Nat) (ob ob' : Obj), i < k → es[k]? = some e' → e.upd = some (t, ob) → e'.upd = some (t, ob') → L k = false) (s : Sto) :
    stoL L' es 0 s = applyU e.upd e.bump (stoL L es 0 s) := by
  refine sto_ext (by rw [stoL_len, applyU_len, stoL_len]) (fun t ht => ?_) (by rw [stoL_ctr, applyU_ctr, stoL_ctr, sumB_set es 0 i e he (by simpa using h0) (by simpa using h1) (by simpa using hk)]; omega)
  rw [stoL_len] at ht
  rw [stoL_get L' t es 0 s ht]
  have hup : (es.map Eff.up)[i]? = some e.up := by simp [he]
  cases hu : e.upd with
  | none =>
    have hue : e.up = (none, none) := by simp [Eff.up, hu]
    rw [show applyU none e.bump (stoL L es 0 s) = ⟨(stoL L es 0 s).σ, (stoL L es 0 s).ctr + e.bump⟩ from rfl, stoL_get L t es 0 s ht]
    refine lastW_congr _ 0 _ fun k d v hkv hd => ?_
    rw [Nat.zero_add]
    refine hk k fun e' => ?_
    subst e'
    rw [hup, hue] at hkv
    simp only [Option.some.injEq, Prod.mk.injEq] at hkv
    rw [← hkv.1] at hd; cases hd
  | some p =>
    obtain ⟨t', ob⟩ := p
    have hue : e.up = (some t', some ob) := by simp [Eff.up, hu]
    rw [hue] at hup
    rw [show (applyU (some (t', ob)) e.bump (stoL L es 0 s)).σ = (stoL L es 0 s).σ.set t' ob from rfl, nth_eq ((stoL L es 0 s).σ.set t' ob)]
    by_cases e2 : t' = t
    · subst e2
      rw [List.getElem?_set_self (by rw [stoL_len]; exact ht)]
      refine lastW_set (j := i) _ 0 _ hup (by rw [Nat.zero_add]; exact h1) fun k d v hkv hd hlt => ?_
      rw [Nat.zero_add, hk k (by omega)]
      rw [List.getElem?_map, Option.map_eq_some_iff] at hkv
      obtain ⟨e', he', hu'⟩ := hkv
      subst hd
      cases hu2 : e'.upd with
      | none => simp [Eff.up, hu2] at hu'
      | some q =>
        obtain ⟨t2, ob'⟩ := q
        simp only [Eff.up, hu2, Prod.mk.injEq, Option.some.injEq] at hu'
        obtain ⟨rfl, _⟩ := hu'
        exact hno k e' t2 ob ob' hlt he' hu hu2
    · rw [List.getElem?_set_ne e2, ← nth_eq, stoL_get L t es 0 s ht]
      refine lastW_congr _ 0 _ fun k d v hkv hd => ?_
      rw [Nat.zero_add]
      refine hk k fun e' => ?_
      subst e'
      rw [hup] at hkv
      simp only [Option.some.injEq, Prod.mk.injEq] at hkv
      rw [← hkv.1] at hd
      exact e2 (Option.some.inj hd)

/-- what the head's evaluation tells of each operation -/
theorem evPar_get {C : CallF} : ∀ {hd : List AOper} {r g : Nat} {env : Env} {s : Sto} {es : List Eff}, evPar C hd r g env s = some es → es.length = hd.length ∧ ∀ (k : Nat) (o : AOper), hd[k]? = some o → ∃ e, es[k]? = some e ∧ e.dst = o.dst ∧
    ∀ i, (wanted o.guard (envL (fun q => decide (q < i + k)) (es.map Eff.dv) i env) = some false ∧ e.v = .undef ∧ e.rd = [] ∧ e.wr = [] ∧ e.upd = none ∧ e.bump = 0) ∨
      (wanted o.guard (envL (fun q => decide (q < i + k)) (es.map Eff.dv) i env) = some true ∧ ∃ r', parOp C o.op r' (g + k) (envL (fun q => decide (q < i + k)) (es.map Eff.dv) i env) (stoL (fun q => decide (q < i + k)) es i s) = some (e.v, e.upd, e.bump) ∧
        e.rd = o.op.reads r' (envL (fun q => decide (q < i + k)) (es.map Eff.dv) i env) ∧ e.wr = o.op.writes r' (envL (fun q => decide (q < i + k)) (es.map Eff.dv) i env))
  | [], r, g, env, s, es, h => by
    simp only [evPar, Option.some.injEq] at h
    subst h
    exact ⟨rfl, fun k o hk => by simp at hk⟩
  | o :: hd, r, g, env, s, es, h => by
    have z : ∀ (e : Eff) (es' : List Eff) (i : Nat), envL (fun q => decide (q < i + 0)) ((e :: es').map Eff.dv) i env = env := fun e es' i => envL_none _ i env fun k _ => by simp
    have zs : ∀ (es' : List Eff) (i j : Nat) (s : Sto), j ≤ i → stoL (fun q => decide (q < j)) es' i s = s := by
      intro es'
      induction es' with
      | nil => intro i j s _; rfl
      | cons e es' ih =>
        intro i j s hj
        simp only [stoL]
        rw [if_neg (by simp; omega)]
        exact ih (i + 1) j s (by omega)
    have step : ∀ (e : Eff) (es' : List Eff), evPar C hd (r + rank o.op) (g + 1) (put o.dst e.v env) (applyU e.upd e.bump s) = some es' → es = e :: es' → e.dst = o.dst →
        ((wanted o.guard env = some false ∧ e.v = .undef ∧ e.rd = [] ∧ e.wr = [] ∧ e.upd = none ∧ e.bump = 0) ∨ (wanted o.guard env = some true ∧ ∃ r', parOp C o.op r' (g + 0) env s = some (e.v, e.upd, e.bump) ∧ e.rd = o.op.reads r' env ∧ e.wr = o.op.writes r' env)) →
        es.length = (o :: hd).length ∧ ∀ (k : Nat) (o' : AOper), (o :: hd)[k]? = some o' → ∃ e, es[k]? = some e ∧ e.dst = o'.dst ∧
    ∀ i, (wanted o'.guard (envL (fun q => decide (q < i + k)) (es.map Eff.dv) i env) = some false ∧ e.v = .undef ∧ e.rd = [] ∧ e.wr = [] ∧ e.upd = none ∧ e.bump = 0) ∨
      (wanted o'.guard (envL (fun q => decide (q < i + k)) (es.map Eff.dv) i env) = some true ∧ ∃ r', parOp C o'.op r' (g + k) (envL (fun q => decide (q < i + k)) (es.map Eff.dv) i env) (stoL (fun q => decide (q < i + k)) es i s) = some (e.v, e.upd, e.bump) ∧
        e.rd = o'.op.reads r' (envL (fun q => decide (q < i + k)) (es.map Eff.dv) i env) ∧ e.wr = o'.op.writes r' (envL (fun q => decide (q < i + k)) (es.map Eff.dv) i env)) := by
      intro e es' ht hes hdst hor
      obtain ⟨hl, hg⟩ := evPar_get ht
      subst hes
      refine ⟨by simp [hl], fun k o' hk => ?_⟩
      cases k with
      | zero =>
        simp only [List.getElem?_cons_zero, Option.some.injEq] at hk
        subst hk
        refine ⟨e, rfl, hdst, fun i => ?_⟩
        rw [z e es' i, zs (e :: es') i (i + 0) s (by omega)]
        exact hor
      | succ k =>
        obtain ⟨e', q1, q2, q3⟩ := hg k o' (by simpa using hk)
        refine ⟨e', by simpa using q1, q2, fun i => ?_⟩
        have := q3 (i + 1)
        have e1 : envL (fun q => decide (q < i + (k + 1))) ((e :: es').map Eff.dv) i env = envL (fun q => decide (q < i + 1 + k)) (es'.map Eff.dv) (i + 1) (put o.dst e.v env) := by
          simp only [List.map_cons]
          rw [show e.dv :: es'.map Eff.dv = (e.dst, e.v) :: es'.map Eff.dv from rfl]
          simp only [envL]
          rw [if_pos (by simp), hdst]
          congr 1
          funext q
          rw [show i + (k + 1) = i + 1 + k by omega]
        have e2 : stoL (fun q => decide (q < i + (k + 1))) (e :: es') i s = stoL (fun q => decide (q < i + 1 + k)) es' (i + 1) (applyU e.upd e.bump s) := by
          simp only [stoL]
          rw [if_pos (by simp)]
          congr 1
          funext q
          rw [show i + (k + 1) = i + 1 + k by omega]
        rw [e1, e2, show g + (k + 1) = g + 1 + k by omega]
        exact this
    simp only [evPar] at h
    split at h
    · cases h
    · rename_i hw
      split at h
      · rename_i es' ht
        simp only [Option.some.injEq] at h
        exact step ⟨o.dst, .undef, [], [], none, 0⟩ es' ht h.symm rfl <| .inl ⟨hw, rfl, rfl, rfl, rfl, rfl⟩
      · cases h
    · rename_i hw
      split at h
      · rename_i v u b hop
        split at h
        · rename_i es' ht
          simp only [Option.some.injEq] at h
          exact step ⟨o.dst, v, o.op.reads r env, o.op.writes r env, u, b⟩ es' ht h.symm rfl <| .inr ⟨hw, r, hop, rfl, rfl⟩
        · cases h
      · cases h

theorem effEnv_all : ∀ (es : List Eff) (i : Nat) (env : Env), effEnv es env = envL (fun _ => true) (es.map Eff.dv) i env
  | [], _, _ => rfl
  | e :: es, i, env => by
    simp only [effEnv, List.map_cons]
    rw [show e.dv :: es.map Eff.dv = (e.dst, e.v) :: es.map Eff.dv from rfl]
    simp only [envL, if_true]
    exact effEnv_all es (i + 1) _

theorem effSto_all : ∀ (es : List Eff) (i : Nat) (s : Sto), effSto es s = stoL (fun _ => true) es i s
  | [], _, _ => rfl
  | e :: es, i, s => by
    simp only [effSto, stoL, if_true]
    exact effSto_all es (i + 1) _

/-! ### operations that do not meet -/

theorem memN_iff {x : Nat} : ∀ {l : List Nat}, memN x l = true ↔ x ∈ l
  | [] => by simp [memN]
  | y :: l => by
    simp only [memN]
    cases h : Nat.beq x y
    · have : x ≠ y := fun e => by subst e; simp at h
      simp [memN_iff (l := l), this]
    · have := Nat.eq_of_beq_eq_true h
      simp [this]

theorem apartN_spec {ys : List Nat} : ∀ {xs : List Nat}, apartN xs ys = true → ∀ t, t ∈ xs → t ∈ ys → False
  | [], _, t, h, _ => by simp at h
  | x :: xs, h, t, h1, h2 => by
    simp only [apartN] at h
    cases hm : memN x ys
    · rw [hm, cond_false] at h
      rcases List.mem_cons.1 h1 with rfl | h1
      · rw [memN_iff.2 h2] at hm; cases hm
      · exact apartN_spec h t h1 h2
    · rw [hm, cond_true] at h; cases h

/-- two operations leave each other alone -/
structure NoMeet (a b : Eff) : Prop where
  wr : ∀ t, t ∈ a.wr → t ∈ b.rd → False
  ww : ∀ t, t ∈ a.wr → t ∈ b.wr → False
  rw : ∀ t, t ∈ a.rd → t ∈ b.wr → False

theorem allApart_spec {es : List Eff} : ∀ {un : List (Nat × Nat)}, allApart es un = true → ∀ i j, (i, j) ∈ un → ∀ a b, es[i]? = some a → es[j]? = some b → NoMeet a b
  | [], _, i, j, h, _, _, _, _ => by simp at h
  | (i0, j0) :: un, h, i, j, hm, a, b, ha, hb => by
    simp only [allApart, nth_eq] at h
    split at h
    · rename_i a0 b0 ha0 hb0
      simp only [Bool.and_eq_true] at h
      rcases List.mem_cons.1 hm with e | hm
      · cases e
        rw [ha] at ha0; cases ha0
        rw [hb] at hb0; cases hb0
        have := h.1
        simp only [effApart, Bool.and_eq_true] at this
        exact ⟨apartN_spec this.1, apartN_spec this.2.1, apartN_spec this.2.2⟩
      · exact allApart_spec h.2 i j hm a b ha hb
    · cases h

theorem cls0 {o : AOp} {g : Option (Nat × Bool)} {d : Option Nat} (h : clsN ⟨d, o, g⟩ = 0) (r : Nat) (env : Env) : o.reads r env = [] ∧ o.writes r env = [] := by
  cases o <;> simp only [clsN, AOp.cls] at h <;> first
    | exact ⟨rfl, rfl⟩
    | (cases h; done)
    | (rename_i m f xs; cases m <;> first | exact ⟨rfl, rfl⟩ | cases h)
    | (rename_i m f xs ys; cases m <;> first | exact ⟨rfl, rfl⟩ | cases h)
    | (rename_i own es z n ps; cases own <;> first | exact ⟨rfl, rfl⟩ | cases h)

theorem cls1 {o : AOp} {g : Option (Nat × Bool)} {d : Option Nat} (h : clsN ⟨d, o, g⟩ = 1) (r : Nat) (env : Env) : o.writes r env = [] := by
  cases o <;> simp only [clsN, AOp.cls] at h <;> first
    | rfl
    | (cases h; done)
    | (rename_i m f xs; cases m <;> first | rfl | cases h)
    | (rename_i m f xs ys; cases m <;> first | rfl | cases h)
    | (rename_i own es z n ps; cases own <;> first | rfl | cases h)

end AI
end Go.Proofs.Ytocgbgffpdphdaa
