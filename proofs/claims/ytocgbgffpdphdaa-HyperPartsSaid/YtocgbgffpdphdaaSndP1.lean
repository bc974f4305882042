/- Regions whose operations commute, first part: an operation looks at its footprint alone. -/
import Derived.Test.YtocgbgffpdphdaaSnd16
namespace Go.Proofs.Ytocgbgffpdphdaa
namespace AI
open Go.RowKit

variable {s s2 s' : Sto} {env : Env} {C : CallF}

theorem evOp_e {o : AOp} (hc : o.cls = some .e) {out : AOut} (h : evOp C o env s = some (out, s')) (s2 : Sto) : evOp C o env s2 = some (out, s2) := by
  have hcall : ∀ {f : Nat} {args : List AV}, callMode C .pure f args s = some (out, s') → callMode C .pure f args s2 = some (out, s2) := by
    intro f args h
    simp only [callMode] at h ⊢
    split at h
    · rename_i hcl
      rw [if_pos hcl]
      rw [Option.map_eq_some_iff] at h ⊢
      obtain ⟨r, h1, h2⟩ := h
      rw [Prod.mk.injEq] at h2
      exact ⟨r, h1, by rw [h2.1]⟩
    · cases h
  cases o <;> simp only [AOp.cls, Option.some.injEq, reduceCtorEq] at hc
  case call m f args =>
    cases m <;> simp only [reduceCtorEq, Option.some.injEq] at hc
    exact hcall h
  case callv m x args =>
    cases m <;> simp only [reduceCtorEq, Option.some.injEq] at hc
    simp only [evOp] at h ⊢
    split at h
    · rename_i hv
      exact hcall h
    · cases h
  case lit own es z len parts =>
    cases own
    · simp only [evOp] at h ⊢
      (repeat' split at h) <;> simp_all
    · simp at hc
  case min x y =>
    simp only [evOp] at h ⊢
    split at h
    · simp only [Option.some.injEq, Prod.mk.injEq] at h ⊢
      exact ⟨h.1, trivial⟩
    · cases h
  case max x y =>
    simp only [evOp] at h ⊢
    split at h
    · simp only [Option.some.injEq, Prod.mk.injEq] at h ⊢
      exact ⟨h.1, trivial⟩
    · cases h
  all_goals
    simp only [evOp, ok] at h ⊢
    (repeat' split at h) <;> first | (simp_all; done) | (simp_all; obtain ⟨a, h1, h2, _⟩ := h; exact ⟨a, h1, h2⟩)

theorem evOp_r {o : AOp} (hc : o.cls = some .r) {out : AOut} (h : evOp C o env s = some (out, s')) (s2 : Sto) (hag : ∀ t ∈ objsOf env o.aos, nth s2.σ t = nth s.σ t) : evOp C o env s2 = some (out, s2) := by
  cases o <;> simp only [AOp.cls, Option.some.injEq, reduceCtorEq] at hc
  case call m f args => cases m <;> simp at hc
  case callv m f args => cases m <;> simp at hc
  case lit own es z len parts => cases own <;> simp at hc
  case lookup t z okk m k =>
    simp only [AOp.aos, objsOf, List.mem_append, List.append_nil] at hag
    have fin : ∀ {r : Option (Option (Nat × AV))}, (match r with
        | some r => some (AOut.ok (if okk = true then .tup [(match r with | some (_, v) => v | none => z), .bool r.isSome] else (match r with | some (_, v) => v | none => z)), s)
        | none => none) = some (out, s') → (match r with
        | some r => some (AOut.ok (if okk = true then .tup [(match r with | some (_, v) => v | none => z), .bool r.isSome] else (match r with | some (_, v) => v | none => z)), s2)
        | none => none) = some (out, s2) := by
      intro r h
      cases r with
      | none => cases h
      | some r => simp only [Option.some.injEq, Prod.mk.injEq] at h ⊢; exact ⟨h.1, trivial⟩
    simp only [evOp] at h ⊢
    cases hm : m.val env with
    | map o g =>
      have := hag o (.inl (by simp [hm, AV.obj]))
      simp only [hm, this] at h ⊢
      exact fin h
    | nilmap => simp only [hm] at h ⊢; exact fin h
    | _ => simp only [hm] at h; cases h
  all_goals
    simp only [AOp.aos, objsOf, List.mem_append, List.append_nil] at hag
    simp only [evOp, ok] at h ⊢
    (repeat' split at h) <;> first | (simp_all [AV.obj]; done) | (simp_all [AV.obj]; obtain ⟨a, h1, h2, _⟩ := h; exact ⟨a, h1, h2⟩)

theorem set_same {l : List Obj} {t : Nat} {ob : Obj} (h : nth l t = some ob) : l.set t ob = l := by
  rw [nth_eq] at h
  obtain ⟨hlt, rfl⟩ := List.getElem?_eq_some_iff.1 h
  exact List.set_getElem_self hlt

theorem nth_lt {α : Type} {l : List α} {t : Nat} {x : α} (h : nth l t = some x) : t < l.length := by
  rw [nth_eq] at h
  exact (List.getElem?_eq_some_iff.1 h).1

/-- an operation that writes an object in its place -/
theorem evOp_w {o : AOp} (hc : o.cls = some .w) {v : AV} (h : evOp C o env s = some (.ok v, s')) (r : Nat) :
    ∃ t ob, o.writes r env = [t] ∧ t ∈ objsOf env o.aos ∧ t < s.σ.length ∧ ∀ s2 : Sto, (∀ t ∈ objsOf env o.aos, nth s2.σ t = nth s.σ t) → evOp C o env s2 = some (.ok v, ⟨s2.σ.set t ob, s2.ctr⟩) := by
  cases o <;> simp only [AOp.cls, Option.some.injEq, reduceCtorEq] at hc
  case call m f args => cases m <;> simp at hc
  case callv m f args => cases m <;> simp at hc
  case lit own es z len parts => cases own <;> simp at hc
  case store sz a x =>
    simp only [evOp] at h
    split at h
    · rename_i o g i off hv
      have hmem : o ∈ objsOf env (AOp.store sz a x).aos := by simp [AOp.aos, objsOf, hv, AV.obj]
      split at h
      · rename_i g' es nn cl elems ho
        split at h
        · rename_i hg
          split at h
          · rename_i y hy
            split at h
            · rename_i hcond
              simp only [Option.some.injEq, Prod.mk.injEq, AOut.ok.injEq] at h
              obtain ⟨rfl, _⟩ := h
              refine ⟨o, (.arr g' es nn (cl && (x.val env).closed) (elems.set i (writeCells y off (x.val env)))), by simp [AOp.writes, hv, AV.obj], hmem, nth_lt ho, fun s2 hag => ?_⟩
              simp only [evOp, hv, hag o hmem, ho, if_pos hg, hy, hcond, if_true]
            · cases h
          · cases h
        · cases h
      · cases h
    · cases h
  case mapset t m k x =>
    simp only [evOp] at h
    split at h
    · rename_i o g hv
      have hmem : o ∈ objsOf env (AOp.mapset t m k x).aos := by simp [AOp.aos, objsOf, hv, AV.obj]
      split at h
      · rename_i g' cl ents ho
        split at h
        · rename_i hcond
          split at h
          · rename_i i u hf
            simp only [Option.some.injEq, Prod.mk.injEq, AOut.ok.injEq] at h
            obtain ⟨rfl, _⟩ := h
            refine ⟨o, (.mp g' (cl && (x.val env).closed) (ents.set i (k.val env, x.val env))), by simp [AOp.writes, hv, AV.obj], hmem, nth_lt ho, fun s2 hag => ?_⟩
            simp only [evOp, hv, hag o hmem, ho, if_pos hcond, hf]
          · rename_i hf
            simp only [Option.some.injEq, Prod.mk.injEq, AOut.ok.injEq] at h
            obtain ⟨rfl, _⟩ := h
            refine ⟨o, (.mp g' (cl && (x.val env).closed) (ents ++ [(k.val env, x.val env)])), by simp [AOp.writes, hv, AV.obj], hmem, nth_lt ho, fun s2 hag => ?_⟩
            simp only [evOp, hv, hag o hmem, ho, if_pos hcond, hf]
          · cases h
        · cases h
      · cases h
    · cases h
  case delete t m k =>
    simp only [evOp] at h
    split at h
    · rename_i o g hv
      have hmem : o ∈ objsOf env (AOp.delete t m k).aos := by simp [AOp.aos, objsOf, hv, AV.obj]
      split at h
      · rename_i g' cl ents ho
        split at h
        · rename_i hcond
          split at h
          · rename_i i u hf
            simp only [Option.some.injEq, Prod.mk.injEq, AOut.ok.injEq] at h
            obtain ⟨rfl, _⟩ := h
            refine ⟨o, (.mp g' cl (ents.eraseIdx i)), by simp [AOp.writes, hv, AV.obj], hmem, nth_lt ho, fun s2 hag => ?_⟩
            simp only [evOp, hv, hag o hmem, ho, if_pos hcond, hf]
          · rename_i hf
            simp only [Option.some.injEq, Prod.mk.injEq, AOut.ok.injEq] at h
            obtain ⟨rfl, _⟩ := h
            refine ⟨o, .mp g' cl ents, by simp [AOp.writes, hv, AV.obj], hmem, nth_lt ho, fun s2 hag => ?_⟩
            have h2 := hag o hmem
            simp only [evOp, hv, h2, ho, if_pos hcond, hf]
            rw [set_same (h2.trans ho)]
          · cases h
        · cases h
      · cases h
    · cases h

/-- how a made value is named -/
inductive Made : (Nat → Nat → AV) → (Nat → Obj) → Prop where
  | own (off len es : Nat) (nn cl : Bool) (elems : List AV) : Made (fun t g => .own t g off len) (fun g => .arr g es nn cl elems)
  | ref (es : Nat) (nn cl : Bool) (elems : List AV) : Made (fun t g => .ref t g 0 0) (fun g => .arr g es nn cl elems)
  | map (cl : Bool) (ents : List (AV × AV)) : Made (fun t g => .map t g) (fun g => .mp g cl ents)

/-- an operation that makes an object, or a new generation of one -/
theorem evOp_a {o : AOp} (hc : o.cls = some .a) {v : AV} (h : evOp C o env s = some (.ok v, s')) (r : Nat) :
    ∃ i mk ob, Made mk ob ∧ (i = s.σ.length ∨ (i < s.σ.length ∧ i ∈ o.writes r env ∧ i ∈ objsOf env o.aos)) ∧ r ∈ o.writes r env ∧
      ∀ s2 : Sto, s2.σ.length = s.σ.length → (∀ t ∈ objsOf env o.aos, nth s2.σ t = nth s.σ t) → evOp C o env s2 = some (.ok (mk i s2.ctr), ⟨if i = s.σ.length then s2.σ ++ [ob s2.ctr] else s2.σ.set i (ob s2.ctr), s2.ctr + 1⟩) := by
  have hown : ∀ {f : Nat} {args : List AV}, callMode C .own f args s = some (.ok v, s') → ∃ mk ob, Made mk ob ∧ ∀ s2 : Sto, s2.σ.length = s.σ.length → callMode C .own f args s2 = some (.ok (mk s.σ.length s2.ctr), ⟨s2.σ ++ [ob s2.ctr], s2.ctr + 1⟩) := by
    intro f args h
    simp only [callMode] at h
    split at h
    · rename_i hcl
      split at h
      · rename_i o g off len s1 hcall
        split at h
        · rename_i g' es nn cl elems ho
          split at h
          · rename_i hcond
            refine ⟨_, _, .own 0 len es nn cl elems, fun s2 hl => ?_⟩
            simp only [callMode, if_pos hcl, hcall, ho, if_pos hcond, hl]
            rfl
          · cases h
        · cases h
      · cases h
    · cases h
  cases o <;> simp only [AOp.cls, Option.some.injEq, reduceCtorEq] at hc
  case call m f args =>
    cases m <;> simp only [reduceCtorEq, Option.some.injEq] at hc
    simp only [evOp] at h
    obtain ⟨mk, ob, hm, hk⟩ := hown h
    exact ⟨_, mk, ob, hm, .inl rfl, by simp [AOp.writes, AOp.cls], fun s2 hl _ => by simp only [evOp, hk s2 hl, if_true]⟩
  case callv m x args =>
    cases m <;> simp only [reduceCtorEq, Option.some.injEq] at hc
    simp only [evOp] at h
    split at h
    · rename_i hv
      obtain ⟨mk, ob, hm, hk⟩ := hown h
      exact ⟨_, mk, ob, hm, .inl rfl, by simp [AOp.writes, AOp.cls], fun s2 hl _ => by simp only [evOp, hv, hk s2 hl, if_true]⟩
    · cases h
  case lit own es z len parts =>
    cases own
    · simp at hc
    · simp only [evOp] at h
      split at h
      · rename_i hl
        exact ⟨_, _, _, .own 0 len es true (closedP (vlit env parts)) (litElems z len (vlit env parts) 0), .inl rfl, by simp [AOp.writes, AOp.cls], fun s2 hl2 _ => by simp only [evOp, if_pos hl, if_true, hl2, push]⟩
      · cases h
  case newown es =>
    exact ⟨_, _, _, .own 0 0 es false true [], .inl rfl, by simp [AOp.writes, AOp.cls], fun s2 hl2 _ => by simp only [evOp, if_true, hl2, push]⟩
  case alloc es z =>
    exact ⟨_, _, _, .ref es true z.closed [z], .inl rfl, by simp [AOp.writes, AOp.cls], fun s2 hl2 _ => by simp only [evOp, if_true, hl2, push]⟩
  case box es x =>
    simp only [evOp] at h
    split at h
    · rename_i hl
      exact ⟨_, _, _, .ref es true (x.val env).closed [x.val env], .inl rfl, by simp [AOp.writes, AOp.cls], fun s2 hl2 _ => by simp only [evOp, if_pos hl, if_true, hl2, push]⟩
    · cases h
  case mkmap =>
    exact ⟨_, _, _, .map true [], .inl rfl, by simp [AOp.writes, AOp.cls], fun s2 hl2 _ => by simp only [evOp, if_true, hl2, push]⟩
  case mkslice es bytes z len cap =>
    simp only [evOp] at h
    split at h
    · rename_i k l k' c hl hcp
      split at h
      · rename_i hcond
        exact ⟨_, _, _, .own 0 l.toNat es true z.closed (List.replicate l.toNat z), .inl rfl, by simp [AOp.writes, AOp.cls], fun s2 hl2 _ => by simp only [evOp, hl, hcp, if_pos hcond, if_true, hl2, push]⟩
      · cases h
    · cases h
  case append es bytes a x =>
    have hr : r ∈ (AOp.append es bytes a x).writes r env := by simp [AOp.writes]
    simp only [evOp] at h
    split at h
    · rename_i ys cl hel
      have hel2 : ∀ s2 : Sto, (∀ t ∈ objsOf env (AOp.append es bytes a x).aos, nth s2.σ t = nth s.σ t) → elemsOf s2 es (x.val env) = some (ys, cl) := by
        intro s2 hag
        simp only [AOp.aos, objsOf, List.mem_append, List.append_nil] at hag
        generalize hx : x.val env = xv at hel hag
        cases xv with
        | own o g off len => simp only [elemsOf] at hel ⊢; rw [hag o (.inr (by simp [AV.obj]))]; exact hel
        | sl nn xs => exact hel
        | zc => exact hel
        | _ => cases hel
      rw [Option.map_eq_some_iff] at h
      obtain ⟨⟨v1, s1⟩, h1, h2⟩ := h
      have hv1 : v1 = v := by simpa using (Prod.mk.inj h2).1
      clear h2
      subst hv1
      generalize ha : a.val env = av at h1
      simp only [evAppend] at h1
      split at h1
      · split at h1
        · rename_i hcond
          exact ⟨_, _, _, .own 0 ys.length es (!ys.isEmpty) cl ys, .inl rfl, hr, fun s2 hl2 hag => by simp only [evOp, hel2 s2 hag, ha, evAppend, if_pos hcond, if_true, hl2, push, Option.map_some]⟩
        · cases h1
      · split at h1
        · rename_i hcond
          exact ⟨_, _, _, .own 0 ys.length es true cl ys, .inl rfl, hr, fun s2 hl2 hag => by simp only [evOp, hel2 s2 hag, ha, evAppend, if_pos hcond, if_true, hl2, push, Option.map_some]⟩
        · cases h1
      · rename_i o g len
        have hmem : o ∈ objsOf env (AOp.append es bytes a x).aos := by simp [AOp.aos, objsOf, ha, AV.obj]
        split at h1
        · rename_i g' es' nn cl' elems ho
          split at h1
          · rename_i hcond
            have hlt := nth_lt ho
            refine ⟨o, _, _, .own 0 (len + ys.length) es (nn || !ys.isEmpty) (cl' && cl) (elems.take len ++ ys), .inr ⟨hlt, by simp [AOp.writes, ha, AV.obj], hmem⟩, hr, fun s2 hl2 hag => ?_⟩
            have hne : o ≠ s.σ.length := by omega
            simp only [evOp, hel2 s2 hag, ha, evAppend, hag o hmem, ho, if_pos hcond, if_neg hne, Option.map_some]
          · cases h1
        · cases h1
      · cases h1
    · cases h

end AI
end Go.Proofs.Ytocgbgffpdphdaa
