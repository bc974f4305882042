/- The evaluator, step by step on symbols: operations. -/
import Derived.Test.YtocgbgffpdphdaaVc
namespace Go.Proofs.Ytocgbgffpdphdaa
namespace AI
open Go.RowKit

variable {AP : Nat → Option AFn}

/-- a value, its kind and its truth known -/
def done (v : AV) (s : Sto) (K : AOut → Sto → Prop) : Prop := settle v fun v => K (.ok v) s

def noCall : CallF := fun _ _ _ => none

/-- any other operation -/
def vRest (o : AOp) (env : Env) (s : Sto) (K : AOut → Sto → Prop) : Prop :=
  getK (evOp noCall o env s) fun r => match r with
    | (.ok v, s') => done v s' K
    | (.pan v, s') => K (.pan v) s'

def vCall (AP : Nat → Option AFn) (m : Mode) (f : Nat) (args : List AV) (s : Sto) (K : AOut → Sto → Prop) : Prop :=
  match m with
  | .pure => need (closedL args = true) (callK AP f args fun v => done v s K)
  | .borrow => getK (snapL s.σ snapDepth args) fun args' => callK AP f args' fun v => need (v.scalar = true) (done v s K)
  | .share => Calls1 AP f args s fun out s' => match out with
    | .ok r => getK (compact s.σ.length r s') fun r => done r.1 r.2 K
    | .pan v => need (v.closed = true) (K (.pan v) ⟨s'.σ.take s.σ.length, s'.ctr⟩)
  | .own => ∃ N r s', callMode (run AP N) .own f args s = some (.ok r, s') ∧ done r s' K

/-- an append to what the frame owns -/
structure appendK (g g' es es' len : Nat) (nn cl c : Bool) (elems ys : List AV) (bytes : Nat) (K : Nat → Bool → Bool → List AV → Prop) : Prop where
  mk :: (h : (g = g' ∧ es = es' ∧ len ≤ elems.length ∧ AllSize es ys ∧ roomy bytes (len + ys.length)) ∧ K (len + ys.length) (nn || !ys.isEmpty) (cl && c) (elems.take len ++ ys))

def andK (a b : Bool) (K : Bool → Prop) : Prop := match b with
  | true => K a
  | false => K false

theorem andK_iff (a b : Bool) (K : Bool → Prop) : andK a b K ↔ K (a && b) := by cases a <;> cases b <;> exact Iff.rfl

def forceB (b : Bool) (K : Bool → Prop) : Prop := match b with
  | true => K true
  | false => K false

theorem forceB_iff (b : Bool) (K : Bool → Prop) : forceB b K ↔ K b := by cases b <;> exact Iff.rfl

def vlitK (env : Env) : List (Nat × AO) → (List (Nat × AV) → Prop) → Prop
  | [], K => K []
  | (j, x) :: ps, K => (x.val env).force fun v => vlitK env ps fun r => K ((j, v) :: r)

theorem vlitK_iff (env : Env) : ∀ (ps : List (Nat × AO)) (K : List (Nat × AV) → Prop), vlitK env ps K ↔ K (vlit env ps)
  | [], _ => Iff.rfl
  | (j, x) :: ps, K => by simp only [vlitK, force_eq, vlit]; exact vlitK_iff env ps _

def litElemsK (z : AV) : Nat → List (Nat × AV) → Nat → (List AV → Prop) → Prop
  | 0, _, _, K => K []
  | n + 1, [], i, K => litElemsK z n [] (i + 1) fun r => K (z :: r)
  | n + 1, (j, v) :: ps, i, K => bif Nat.beq i j then litElemsK z n ps (i + 1) fun r => K (v :: r) else litElemsK z n ((j, v) :: ps) (i + 1) fun r => K (z :: r)

theorem litElemsK_iff (z : AV) : ∀ (n : Nat) (ps : List (Nat × AV)) (i : Nat) (K : List AV → Prop), litElemsK z n ps i K ↔ K (litElems z n ps i)
  | 0, _, _, _ => by simp only [litElemsK, litElems]
  | n + 1, [], i, K => by simp only [litElemsK, litElems]; exact litElemsK_iff z n [] (i + 1) _
  | n + 1, (j, v) :: ps, i, K => by
    simp only [litElemsK, litElems]
    cases Nat.beq i j
    · exact litElemsK_iff z n _ (i + 1) _
    · exact litElemsK_iff z n _ (i + 1) _

/-- the elements of a slice that is read -/
def elemsK (es : Nat) (v : AV) (s : Sto) (K : List AV → Bool → Prop) : Prop := match v with
  | .sl _ xs => K xs true
  | .zc => K [] true
  | v => getK (elemsOf s es v) fun r => K r.1 r.2

theorem elemsK_sound {es : Nat} {v : AV} {s : Sto} {K : List AV → Bool → Prop} (h : elemsK es v s K) : ∃ ys c, elemsOf s es v = some (ys, c) ∧ K ys c := by
  unfold elemsK at h
  split at h
  · exact ⟨_, _, rfl, h⟩
  · exact ⟨_, _, rfl, h⟩
  · obtain ⟨⟨ys, c⟩, h1, h2⟩ := h
    exact ⟨ys, c, h1, h2⟩

structure eqK {α : Type} (a : α) (K : α → Prop) : Prop where
  mk :: (h : ∃ b, a = b ∧ K b)

theorem eqK_intro {α : Type} {a b : α} {K : α → Prop} (h1 : a = b) (h : K b) : eqK a K := ⟨_, h1, h⟩

/-- a place behind an offset -/
def offK (off j : Nat) (K : Nat → Prop) : Prop := match off with
  | 0 => K j
  | n + 1 => K (n + 1 + j)

theorem offK_iff (off j : Nat) (K : Nat → Prop) : offK off j K ↔ K (off + j) := by
  cases off with
  | zero => simp [offK]
  | succ n => exact Iff.rfl

def vOp (AP : Nat → Option AFn) (o : AOp) (env : Env) (s : Sto) (K : AOut → Sto → Prop) : Prop :=
  match o with
  | .mov x => done (x.val env) s K
  | .newown es => newK s (fun o g => .own o g 0 0) (fun g => .arr g es false true []) K
  | .pick c a b => match c.val env with
    | .bool c => bcase c (done (a.val env) s K) (done (b.val env) s K)
    | _ => False
  | .alloc es z => newK s (fun o g => .ref o g 0 0) (fun g => .arr g es true z.closed [z]) K
  | .box es x => (x.val env).force fun v => need ((v.storable && v.cells.length == es) = true) (newK s (fun o g => .ref o g 0 0) (fun g => .arr g es true v.closed [v]) K)
  | .build z parts => getK (buildCells z (vparts env parts)) fun cs => K (.ok (.agg cs)) s
  | .load sz a => match a.val env with
    | .fref cs => getK (loadCells cs sz) fun v => done v s K
    | .ref o g i off => match nth s.σ o with
      | some (.arr g' _ _ _ elems) => need (g = g') (nthK elems i fun x => getK (loadCells (x.cells.drop off) sz) fun v => done v s K)
      | _ => False
    | _ => False
  | .store sz a x => match a.val env with
    | .ref o g i off => match nth s.σ o with
      | some (.arr g' es nn cl elems) => need (g = g') (nthK elems i fun y => (x.val env).force fun v => need ((v.storable && v.cells.length == sz && off + sz ≤ es) = true)
          (andK cl v.closed fun cl' => eqK (elems.set i (writeCells y off v)) fun es' => setK s.σ o (.arr g' es nn cl' es') fun σ => K (.ok .undef) ⟨σ, s.ctr⟩))
      | _ => False
    | _ => False
  | .nilchk x => match x.val env with
    | .ref o g i off => K (.ok (.ref o g i off)) s
    | .fref cs => K (.ok (.fref cs)) s
    | .fn f cs => K (.ok (.fn f cs)) s
    | _ => False
  | .bin op t x y => vBin op t (x.val env) (y.val env) fun v => K (.ok v) s
  | .un op x => match op, x.val env with
    | .not, .bool b => bcase b (K (.ok (.bool false)) s) (K (.ok (.bool true)) s)
    | .neg, .int k n => wrapK k (0 - n) fun v => K (.ok v) s
    | _, _ => False
  | .conv k x => match x.val env with
    | .int _ n => wrapK k n fun v => K (.ok v) s
    | _ => False
  | .field off sz x => match x.val env with
    | .agg cs => getK (loadCells (cs.drop off) sz) fun v => done v s K
    | _ => False
  | .faddr off x => match x.val env with
    | .fref cs => K (.ok (.fref (cs.drop off))) s
    | .ref o g i off' => K (.ok (.ref o g i (off' + off))) s
    | _ => False
  | .iaddr es x i => match x.val env, i.val env with
    | .sl _ xs, .int _ i => need (0 ≤ i) (nthK xs i.toNat fun v => need (v.cells.length = es) (K (.ok (.fref v.cells)) s))
    | .own o g off len, .int _ i => match nth s.σ o with
      | some (.arr g' es' _ _ _) => need (g = g' ∧ es = es' ∧ 0 ≤ i ∧ i < len) (offK off i.toNat fun j => K (.ok (.ref o g j 0)) s)
      | _ => False
    | _, _ => False
  | .len k x => match k, x.val env with
    | .slice, .sl _ xs => K (.ok (.int .i64 xs.length)) s
    | .slice, .own _ _ _ n => K (.ok (.int .i64 n)) s
    | .str, .str bs => K (.ok (.int .i64 bs.length)) s
    | _, _ => vRest (.len k x) env s K
  | .lit own es z len parts => vlitK env parts fun ps => need (litOk es len ps 0 = true) (litElemsK z len ps 0 fun xs =>
      bif own then forceB (closedP ps) fun c => newK s (fun o g => .own o g 0 len) (fun g => .arr g es true c xs) K
      else bif Nat.beq len 0 then K (.ok .zc) s else need (closedP ps = true) (K (.ok (.sl true xs)) s))
  | .append es bytes a x => elemsK es (x.val env) s fun ys c => match a.val env with
    | .own o g 0 len => match nth s.σ o with
      | some (.arr g' es' nn cl' elems) => appendK g g' es es' len nn cl' c elems ys bytes fun n nn cl es' => setK s.σ o (.arr s.ctr es nn cl es') fun σ => K (.ok (.own o s.ctr 0 n)) ⟨σ, s.ctr + 1⟩
      | _ => False
    | v => getK (evAppend es bytes s v ys c) fun r => done r.1 r.2 K
  | .mkslice es bytes z len cap => match len.val env, cap.val env with
    | .int _ l, .int _ c => need (0 ≤ l ∧ l ≤ c ∧ roomy bytes c.toNat) (eqK (List.replicate l.toNat z) fun xs => newK s (fun o g => .own o g 0 l.toNat) (fun g => .arr g es true z.closed xs) K)
    | _, _ => False
  | .ext x i => match x.val env with
    | .tup cs => getK (nth cs i) fun v => done v s K
    | _ => False
  | .call m f args => vCall AP m f (vals env args) s K
  | .callv m x args => match x.val env with
    | .fn f caps => vCall AP m f (vals env args ++ caps) s K
    | _ => False
  | o => vRest o env s K

theorem noCall_le (C : CallF) : CallLe noCall C := fun _ _ _ _ h => by cases h

theorem done_iff (v : AV) (s : Sto) (K : AOut → Sto → Prop) : done v s K ↔ K (.ok v) s := settle_iff v _

theorem vRest_sound {o : AOp} {env : Env} {s : Sto} {K : AOut → Sto → Prop} (h : vRest o env s K) : Op1 AP o env s K := by
  obtain ⟨⟨out, s'⟩, h1, h2⟩ := h
  refine ⟨0, out, s', evOp_mono (noCall_le _) h1, ?_⟩
  cases out with
  | ok v => exact (done_iff v s' K).1 h2
  | pan v => exact h2

theorem vCall_sound {m : Mode} {f : Nat} {args : List AV} {s : Sto} {K : AOut → Sto → Prop} (h : vCall AP m f args s K) : ∃ N out s', callMode (run AP N) m f args s = some (out, s') ∧ K out s' := by
  cases m with
  | pure =>
    obtain ⟨hc, v, ⟨N, hp⟩, hk⟩ := h
    exact ⟨N, .ok v, s, by simp only [callMode, if_pos hc, hp, Option.map_some], (done_iff v s K).1 hk⟩
  | borrow =>
    obtain ⟨args', ha, v, ⟨N, hp⟩, hs, hk⟩ := h
    exact ⟨N, .ok v, s, by simp only [callMode, ha, hp, if_pos hs], (done_iff v s K).1 hk⟩
  | share =>
    obtain ⟨N, out, s', hr, hk⟩ := h
    cases out with
    | ok r =>
      obtain ⟨⟨r', s''⟩, h1, h2⟩ := hk
      exact ⟨N, .ok r', s'', by simp only [callMode, hr, h1, Option.map_some], (done_iff r' s'' K).1 h2⟩
    | pan v =>
      obtain ⟨h1, h2⟩ := hk
      exact ⟨N, .pan v, _, by simp only [callMode, hr, if_pos h1], h2⟩
  | own =>
    obtain ⟨N, r, s', h1, h2⟩ := h
    exact ⟨N, .ok r, s', h1, (done_iff r s' K).1 h2⟩

theorem newK_iff {s : Sto} {mk : Nat → Nat → AV} {ob : Nat → Obj} {K : AOut → Sto → Prop} : newK s mk ob K ↔ K (.ok (mk s.σ.length s.ctr)) (push s (ob s.ctr)) := snocK_iff _ _ _

theorem vOp_sound {o : AOp} {env : Env} {s : Sto} {K : AOut → Sto → Prop} (h : vOp AP o env s K) : Op1 AP o env s K := by
  cases o
  case mov x => exact ⟨0, _, _, rfl, (done_iff _ _ _).1 h⟩
  case newown es => simp only [vOp] at h; exact ⟨0, _, _, rfl, newK_iff.1 h⟩
  case pick c a b =>
    simp only [vOp] at h
    split at h
    · rename_i c' hc
      cases c'
      · exact ⟨0, _, _, by simp only [evOp, hc], (done_iff _ _ _).1 h⟩
      · exact ⟨0, _, _, by simp only [evOp, hc], (done_iff _ _ _).1 h⟩
    · cases h
  case alloc es z => simp only [vOp] at h; exact ⟨0, _, _, rfl, newK_iff.1 h⟩
  case box es x =>
    simp only [vOp, force_eq] at h
    obtain ⟨h1, h2⟩ := h
    exact ⟨0, _, _, by simp only [evOp, if_pos h1], newK_iff.1 h2⟩
  case build z ps =>
    obtain ⟨cs, h1, h2⟩ := h
    exact ⟨0, _, _, by simp only [evOp, h1, Option.map_some], h2⟩
  case load sz a =>
    simp only [vOp] at h
    split at h
    · rename_i cs hv
      obtain ⟨v, h1, h2⟩ := h
      exact ⟨0, _, _, by simp only [evOp, hv, ok, h1, Option.map_some], (done_iff _ _ _).1 h2⟩
    · rename_i o g i off hv
      split at h
      · rename_i g' es nn cl elems ho
        obtain ⟨hg, x, hx, v, h1, h2⟩ := h
        exact ⟨0, _, _, by simp only [evOp, hv, ho, if_pos hg, hx, ok, h1, Option.map_some], (done_iff _ _ _).1 h2⟩
      · cases h
    · cases h
  case store sz a x =>
    simp only [vOp] at h
    split at h
    · rename_i o g i off hv
      split at h
      · rename_i g' es nn cl elems ho
        obtain ⟨hg, y, hy, h⟩ := h
        rw [force_eq] at h
        obtain ⟨h1, h2⟩ := h
        rw [andK_iff] at h2
        obtain ⟨es', rfl, h2⟩ := h2
        rw [setK_iff] at h2
        exact ⟨0, _, _, by simp only [evOp, hv, ho, if_pos hg, hy, h1, if_true], h2⟩
      · cases h
    · cases h
  case nilchk x =>
    simp only [vOp] at h
    split at h
    · rename_i hv; exact ⟨0, _, _, by simp only [evOp, hv], h⟩
    · rename_i hv; exact ⟨0, _, _, by simp only [evOp, hv], h⟩
    · rename_i hv; exact ⟨0, _, _, by simp only [evOp, hv], h⟩
    · cases h
  case bin op t x y =>
    obtain ⟨v, h1, h2⟩ := vBin_sound h
    exact ⟨0, _, _, by simp only [evOp, ok, h1, Option.map_some], h2⟩
  case un op x =>
    simp only [vOp] at h
    split at h
    · rename_i b hv
      cases b
      · exact ⟨0, _, _, by simp only [evOp, hv, Bool.not_false], h⟩
      · exact ⟨0, _, _, by simp only [evOp, hv, Bool.not_true], h⟩
    · rename_i k n hv
      obtain ⟨y, h1, h2⟩ := h
      exact ⟨0, _, _, by simp only [evOp, hv, h1], h2⟩
    · cases h
  case conv k x =>
    simp only [vOp] at h
    split at h
    · rename_i k' n hv
      obtain ⟨y, h1, h2⟩ := h
      exact ⟨0, _, _, by simp only [evOp, hv, h1], h2⟩
    · cases h
  case field off sz x =>
    simp only [vOp] at h
    split at h
    · rename_i cs hv
      obtain ⟨v, h1, h2⟩ := h
      exact ⟨0, _, _, by simp only [evOp, hv, ok, h1, Option.map_some], (done_iff _ _ _).1 h2⟩
    · cases h
  case faddr off x =>
    simp only [vOp] at h
    split at h
    · rename_i hv; exact ⟨0, _, _, by simp only [evOp, hv], h⟩
    · rename_i hv; exact ⟨0, _, _, by simp only [evOp, hv], h⟩
    · cases h
  case iaddr es x i =>
    simp only [vOp] at h
    split at h
    · rename_i nn xs k n hx hi
      obtain ⟨h0, v, h1, h2, h3⟩ := h
      exact ⟨0, _, _, by simp only [evOp, hx, hi, if_pos h0, h1, if_pos h2], h3⟩
    · rename_i o g off len k n hx hi
      split at h
      · rename_i g' es' nn cl elems ho
        obtain ⟨h1, h2⟩ := h
        rw [offK_iff] at h2
        exact ⟨0, _, _, by simp only [evOp, hx, hi, ho, if_pos h1], h2⟩
      · cases h
    · cases h
  case len k x =>
    simp only [vOp] at h
    split at h
    · rename_i hv; exact ⟨0, _, _, by simp only [evOp, hv], h⟩
    · rename_i hv; exact ⟨0, _, _, by simp only [evOp, hv], h⟩
    · rename_i hv; exact ⟨0, _, _, by simp only [evOp, hv], h⟩
    · exact vRest_sound h
  case lit own es z len parts =>
    simp only [vOp, vlitK_iff] at h
    obtain ⟨h1, h2⟩ := h
    rw [litElemsK_iff] at h2
    cases own
    · rw [cond_false] at h2
      cases hb : Nat.beq len 0
      · rw [hb, cond_false] at h2
        have hne : len ≠ 0 := fun e => by subst e; simp at hb
        exact ⟨0, _, _, by simp only [evOp, if_pos h1, if_neg hne, if_pos h2.1]; rfl, h2.2⟩
      · rw [hb, cond_true] at h2
        have he : len = 0 := Nat.eq_of_beq_eq_true hb
        exact ⟨0, _, _, by simp only [evOp, if_pos h1, if_pos he]; rfl, h2⟩
    · rw [cond_true, forceB_iff] at h2
      exact ⟨0, _, _, by simp only [evOp, if_pos h1, if_true], newK_iff.1 h2⟩
  case append es bytes a x =>
    simp only [vOp] at h
    obtain ⟨ys, cl, h1, h⟩ := elemsK_sound h
    split at h
    · rename_i o g len hv
      split at h
      · rename_i g' es' nn cl' elems ho
        obtain ⟨h2, h3⟩ := h
        rw [setK_iff] at h3
        exact ⟨0, _, _, by simp only [evOp, h1, hv, evAppend, ho, if_pos h2, Option.map_some], h3⟩
      · cases h
    · obtain ⟨⟨v, s'⟩, h2, h3⟩ := h
      exact ⟨0, _, _, by simp only [evOp, h1, h2, Option.map_some], (done_iff _ _ _).1 h3⟩
  case mkslice es bytes z len cap =>
    simp only [vOp] at h
    split at h
    · rename_i k l k' c hl hc
      obtain ⟨h1, xs, rfl, h2⟩ := h
      exact ⟨0, _, _, by simp only [evOp, hl, hc, if_pos h1], newK_iff.1 h2⟩
    · cases h
  case ext x i =>
    simp only [vOp] at h
    split at h
    · rename_i cs hv
      obtain ⟨v, h1, h2⟩ := h
      exact ⟨0, _, _, by simp only [evOp, hv, ok, h1, Option.map_some], (done_iff _ _ _).1 h2⟩
    · cases h
  case call m f args => exact vCall_sound h
  case callv m x args =>
    simp only [vOp] at h
    split at h
    · rename_i f caps hv
      obtain ⟨N, out, s', h1, h2⟩ := vCall_sound h
      exact ⟨N, out, s', by simp only [evOp, hv]; exact h1, h2⟩
    · cases h
  all_goals exact vRest_sound h

end AI
end Go.Proofs.Ytocgbgffpdphdaa
