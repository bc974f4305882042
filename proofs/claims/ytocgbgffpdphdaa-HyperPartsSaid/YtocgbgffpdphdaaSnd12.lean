/- Soundness, twelfth part: values that leave a call; the modes of a call. -/
import Derived.Test.YtocgbgffpdphdaaSnd11
namespace Go.Proofs.Ytocgbgffpdphdaa
namespace AI
open Go.RowKit

variable {P : Program} {B : Nat} {w w' w0 : World} {Z Z' : Cold} {φ φ' : Phi} {ctr ctr' : Nat} {s s' : Sto}

def ArgsRep (w : World) (Z : Cold) (φ : Phi) (ctr : Nat) (args : List AV) (vs : Array Value) : Prop :=
  args.length = vs.size ∧ ∀ (i : Nat) (a : AV), args[i]? = some a → ∃ v, vs[i]? = some v ∧ Rep w Z φ ctr a v

def OutRep (w : World) (Z : Cold) (φ : Phi) (ctr : Nat) : AOut → Ending → Prop
  | .ok r, e => ∃ x, e = .returned x ∧ Rep w Z φ ctr r x
  | .pan v, e => ∃ x, e = .panicked [{ v := x, recovered := false }] ∧ Rep w Z φ ctr v x

/-- a function that may be entered -/
def FnOk (P : Program) (f : Nat) : Prop := ∃ fn, P.funcs[f]? = some fn ∧ fn.body.isSome = true ∧ (fn.name == "runtime.NumGoroutine") = false

def CallSound (P : Program) (C : CallF) : Prop :=
  ∀ f args s out s', C f args s = some (out, s') → FnOk P f ∧ ∀ w0 B Z φ w vs, Inv w0 B s Z φ w → ArgsRep w Z φ s.ctr args vs →
    Calls P f vs w fun e w' => ∃ Z' φ', Inv w0 B s' Z' φ' w' ∧ Later B w Z φ s.ctr w' Z' φ' s'.ctr ∧ OutRep w' Z' φ' s'.ctr out e

/-! ### snapshots -/

theorem snap_one {σ : List Obj} : ∀ {n : Nat} {v v' : AV}, snap σ n v = some v' → v'.one = v.one
  | 0, v, v', h => by simp [snap] at h
  | n + 1, v, v', h => by
    cases v <;> simp only [snap, Option.map_eq_some_iff, Option.some.injEq] at h
    case own o g off len =>
      split at h
      · split at h
        · split at h
          · simp only [Option.some.injEq] at h; subst h; rfl
          · simp only [Option.map_eq_some_iff] at h; obtain ⟨_, _, rfl⟩ := h; rfl
        · cases h
      · cases h
    case ref o g i off =>
      split at h
      · split at h
        · split at h
          · split at h
            · simp only [Option.some.injEq] at h; subst h; rfl
            · simp only [Option.map_eq_some_iff] at h; obtain ⟨_, _, rfl⟩ := h; rfl
          · cases h
        · cases h
      · cases h
    case map => cases h
    case agg => obtain ⟨_, _, rfl⟩ := h; rfl
    case tup => obtain ⟨_, _, rfl⟩ := h; rfl
    case fn => obtain ⟨_, _, rfl⟩ := h; rfl
    case iface => obtain ⟨_, _, rfl⟩ := h; rfl
    all_goals (subst h; rfl)

theorem snapL_get {σ : List Obj} : ∀ {n : Nat} {vs vs' : List AV}, snapL σ n vs = some vs' → vs'.length = vs.length ∧ ∀ (i : Nat) (v' : AV), vs'[i]? = some v' → ∃ v m, vs[i]? = some v ∧ m < n ∧ snap σ m v = some v'
  | n, [], vs', h => by
    cases n <;> simp only [snapL, Option.some.injEq] at h <;> subst h <;> exact ⟨rfl, fun i v' hi => by simp at hi⟩
  | 0, _ :: _, vs', h => by simp [snapL] at h
  | n + 1, v :: vs, vs', h => by
    simp only [snapL] at h
    split at h
    · rename_i a b h1 h2
      simp only [Option.some.injEq] at h
      subst h
      obtain ⟨hl, hr⟩ := snapL_get h2
      refine ⟨by simp [hl], fun i v' hi => ?_⟩
      cases i with
      | zero =>
        simp only [List.getElem?_cons_zero, Option.some.injEq] at hi
        subst hi
        exact ⟨v, n, rfl, by omega, h1⟩
      | succ i =>
        obtain ⟨u, m, k1, k2, k3⟩ := hr i v' (by simpa using hi)
        exact ⟨u, m, by simpa using k1, by omega, k3⟩
    · cases h

/-- cold cells and all cells of the call's own blocks -/
def ZAll (Z : Cold) (B : Nat) (w : World) : Cold := fun b i => Z b i ∨ (B ≤ b ∧ b < w.heap.size)

set_option maxHeartbeats 2000000 in
theorem snap_rep (hI : Inv w0 B s Z φ w) : ∀ (n : Nat) (v v' : AV) (x : Value), snap s.σ n v = some v' → Rep w Z φ s.ctr v x → Rep w (ZAll Z B w) φ s.ctr v' x ∧ v'.closed = true := by
  intro n
  induction n using Nat.strongRecOn with
  | _ n ih =>
    intro v v' x h hr
    cases n with
    | zero => simp [snap] at h
    | succ n =>
      have widen : ∀ {a : AV} {y : Value}, Rep w Z φ s.ctr a y → a.closed = true → Rep w (ZAll Z B w) φ s.ctr a y := fun r hc => r.shift (fun b i z => ⟨.inl z, rfl⟩) hc
      have list : ∀ {cs cs' : List AV} {vs : Array Value}, snapL s.σ n cs = some cs' → (∀ (i : Nat) (c : AV), cs[i]? = some c → Rep w Z φ s.ctr c (vs.getD i undef)) →
          cs'.length = cs.length ∧ (∀ (i : Nat) (c : AV), cs'[i]? = some c → Rep w (ZAll Z B w) φ s.ctr c (vs.getD i undef) ∧ c.closed = true ∧ ∃ c0, cs[i]? = some c0 ∧ c.one = c0.one) := by
        intro cs cs' vs hs hrs
        obtain ⟨hl, hg⟩ := snapL_get hs
        refine ⟨hl, fun i c hi => ?_⟩
        obtain ⟨u, m, k1, k2, k3⟩ := hg i c hi
        obtain ⟨q1, q2⟩ := ih m (by omega) u c _ k3 (hrs i u k1)
        exact ⟨q1, q2, u, k1, snap_one k3⟩
      cases v
      case own o g off len =>
        simp only [snap] at h
        split at h
        · rename_i g' es nn cl elems ho
          split at h
          · rename_i hc
            obtain ⟨rfl, hfit⟩ := hc
            rw [nth_eq] at ho
            have hob := hI.objs o _ ho
            have hlen : (sub elems off len).length = len := length_sub hfit
            obtain ⟨_, hes, h3⟩ := hob
            -- the elements, snapped
            have elem : ∀ (xs : List AV), xs.length = len → (∀ (i : Nat) (c : AV), xs[i]? = some c → ∃ c0, (sub elems off len)[i]? = some c0 ∧ ((c = c0 ∧ cl = true) ∨ ∃ m, m < n ∧ snap s.σ m c0 = some c)) →
                Rep w (ZAll Z B w) φ s.ctr (.sl nn xs) x := by
              intro xs hxl hxs
              cases hr with
              | ownNil _ _ hg hφ =>
                rw [hφ] at h3
                obtain ⟨rfl, _⟩ := h3
                have : xs = [] := List.eq_nil_of_length_eq_zero hxl
                subst this
                exact .nilsl
              | ownZc _ _ a0 hg hφ =>
                rw [hφ] at h3
                obtain ⟨rfl, _⟩ := h3
                have : xs = [] := List.eq_nil_of_length_eq_zero hxl
                subst this
                exact .sl0 a0
              | own _ _ _ _ b e size cap ad hg hφ hcap ha hs =>
                rw [hφ] at h3
                obtain ⟨rfl, he, hB, hnz, hfs, c, t, hw, hcs, hH⟩ := h3
                subst he
                have hblt : b < w.heap.size := (Array.getElem?_eq_some_iff.1 hw).1
                by_cases hl0 : len = 0
                · have : xs = [] := List.eq_nil_of_length_eq_zero (by omega)
                  subst this
                  obtain ⟨ab, ao, asp⟩ := ad
                  simp only at hs
                  subst hs
                  rw [hl0]
                  exact .sl [] 0 ab ao cap 1 (fun _ _ => Go.undef) rfl (by omega) (by omega) (fun i x hx => by simp at hx) (fun i x j c hx => by simp at hx) (fun i x j c hx => by simp at hx)
                · obtain ⟨rfl, hsize, _⟩ := ha (.inl (by omega))
                  let f : Nat → Nat → Value := fun i j => (c[(off + i) * e + j]?).getD Go.undef
                  -- each element's cells
                  have key : ∀ (i : Nat) (y : AV), xs[i]? = some y → y.cells.length = e ∧ ∀ (j : Nat) (q : AV), y.cells[j]? = some q → w.cell? ⟨b, off * e + i * e + j, none⟩ = some (f i j) ∧ Rep w (ZAll Z B w) φ s.ctr q (f i j) ∧ q.closed = true ∧ q.one = true := by
                    intro i y hy
                    obtain ⟨c0, hc0, hor⟩ := hxs i y hy
                    obtain ⟨hc0', _⟩ := getElem_sub hc0
                    obtain ⟨k1, k2⟩ := hH _ _ hc0'
                    have cellAt : ∀ (j : Nat) (q0 : AV), c0.cells[j]? = some q0 → w.cell? ⟨b, off * e + i * e + j, none⟩ = some (f i j) ∧ Rep w Z φ s.ctr q0 (f i j) ∧ q0.one = true ∧ (cl = true → q0.closed = true) := by
                      intro j q0 hq0
                      obtain ⟨u, r1, r2, r3, r4⟩ := k2 j q0 hq0
                      have hf : f i j = u := by simp [f, r1]
                      rw [hf]
                      refine ⟨?_, r2, r3, r4⟩
                      rw [show off * e + i * e + j = (off + i) * e + j by rw [Nat.add_mul]]
                      simp [World.cell?, hw, r1]
                    rcases hor with ⟨rfl, hcl⟩ | ⟨m, hm, hsn⟩
                    · refine ⟨k1, fun j q hq => ?_⟩
                      obtain ⟨r1, r2, r3, r4⟩ := cellAt j q hq
                      exact ⟨r1, widen r2 (r4 hcl), r4 hcl, r3⟩
                    · cases m with
                      | zero => simp [snap] at hsn
                      | succ m =>
                        by_cases hagg : ∃ cs, c0 = .agg cs
                        · obtain ⟨cs, rfl⟩ := hagg
                          simp only [snap, Option.map_eq_some_iff] at hsn
                          obtain ⟨cs', hcs', rfl⟩ := hsn
                          obtain ⟨hl', hg'⟩ := snapL_get hcs'
                          refine ⟨by simp only [AV.cells] at k1 ⊢; omega, fun j q hq => ?_⟩
                          obtain ⟨u, m', r1, r2, r3⟩ := hg' j q hq
                          obtain ⟨t1, t2, t3, t4⟩ := cellAt j u r1
                          obtain ⟨p1, p2⟩ := ih m' (by omega) u q _ r3 t2
                          exact ⟨t1, p1, p2, by rw [snap_one r3]; exact t3⟩
                        · have hc1 : c0.cells = [c0] := by cases c0 <;> first | rfl | exact (hagg ⟨_, rfl⟩).elim
                          obtain ⟨t1, t2, t3, t4⟩ := cellAt 0 c0 (by rw [hc1]; rfl)
                          obtain ⟨p1, p2⟩ := ih (m + 1) (by omega) c0 y _ hsn t2
                          have hone := snap_one hsn
                          have hy1 : y.cells = [y] := by
                            have : y.one = true := by rw [hone]; exact t3
                            cases y <;> simp_all [AV.one, AV.cells]
                          refine ⟨by rw [hy1]; rw [hc1] at k1; exact k1, fun j q hq => ?_⟩
                          rw [hy1] at hq
                          cases j with
                          | zero =>
                            simp only [List.getElem?_cons_zero, Option.some.injEq] at hq
                            subst hq
                            exact ⟨t1, p1, p2, by rw [hone]; exact t3⟩
                          | succ j => simp at hq
                  exact .sl xs len b (off * e) cap e f hxl.symm hcap hes (fun i y hy => (key i y hy).1) (fun i y j q hy hq => by
                    obtain ⟨r1, r2, r3, r4⟩ := (key i y hy).2 j q hq
                    exact ⟨.inr ⟨hB, hblt⟩, r1, r3, r4⟩) (fun i y j q hy hq => ((key i y hy).2 j q hq).2.1)
            split at h
            · rename_i hcl
              simp only [Option.some.injEq] at h
              subst h
              exact ⟨elem _ hlen fun i c hi => ⟨c, hi, .inl ⟨rfl, hcl⟩⟩, rfl⟩
            · simp only [Option.map_eq_some_iff] at h
              obtain ⟨xs, hxs, rfl⟩ := h
              obtain ⟨hl, hg⟩ := snapL_get hxs
              refine ⟨elem xs (by omega) fun i c hi => ?_, rfl⟩
              obtain ⟨u, m, k1, k2, k3⟩ := hg i c hi
              exact ⟨u, k1, .inr ⟨m, k2, k3⟩⟩
          · cases h
        · cases h
      case ref o g i off =>
        simp only [snap] at h
        split at h
        · rename_i g' es nn cl elems ho
          split at h
          · rename_i hg; subst hg
            split at h
            · rename_i y hy
              rw [nth_eq] at ho hy
              cases hr with
              | ref _ _ _ _ b e size hg hφ =>
                have hob := hI.objs o _ ho
                obtain ⟨_, hes, h3⟩ := hob
                rw [hφ] at h3
                obtain ⟨_, he, hB, hnz, hfs, c, t, hw, hcs, hH⟩ := h3
                subst he
                have hblt : b < w.heap.size := (Array.getElem?_eq_some_iff.1 hw).1
                obtain ⟨k1, k2⟩ := hH i y hy
                let f : Nat → Value := fun j => (c[i * e + (off + j)]?).getD Go.undef
                have cellAt : ∀ (j : Nat) (q0 : AV), (y.cells.drop off)[j]? = some q0 → w.cell? ⟨b, i * e + off + j, none⟩ = some (f j) ∧ Rep w Z φ s.ctr q0 (f j) ∧ q0.one = true ∧ (cl = true → q0.closed = true) := by
                  intro j q0 hq0
                  rw [List.getElem?_drop] at hq0
                  obtain ⟨u, r1, r2, r3, r4⟩ := k2 _ q0 hq0
                  have hf : f j = u := by simp [f, r1]
                  rw [hf]
                  refine ⟨?_, r2, r3, r4⟩
                  rw [show i * e + off + j = i * e + (off + j) by omega]
                  simp [World.cell?, hw, r1]
                split at h
                · rename_i hcl
                  simp only [Option.some.injEq] at h
                  subst h
                  refine ⟨.fref _ b _ f (fun j q hq => ?_) (fun j q hq => ?_), rfl⟩
                  · obtain ⟨r1, r2, r3, r4⟩ := cellAt j q hq
                    exact ⟨.inr ⟨hB, hblt⟩, r1, r4 hcl, r3⟩
                  · obtain ⟨r1, r2, r3, r4⟩ := cellAt j q hq
                    exact widen r2 (r4 hcl)
                · simp only [Option.map_eq_some_iff] at h
                  obtain ⟨xs, hxs, rfl⟩ := h
                  obtain ⟨hl, hg'⟩ := snapL_get hxs
                  have each : ∀ (j : Nat) (q : AV), xs[j]? = some q → w.cell? ⟨b, i * e + off + j, none⟩ = some (f j) ∧ Rep w (ZAll Z B w) φ s.ctr q (f j) ∧ q.closed = true ∧ q.one = true := by
                    intro j q hq
                    obtain ⟨u, m, r1, r2, r3⟩ := hg' j q hq
                    obtain ⟨t1, t2, t3, t4⟩ := cellAt j u r1
                    obtain ⟨p1, p2⟩ := ih m (by omega) u q _ r3 t2
                    exact ⟨t1, p1, p2, by rw [snap_one r3]; exact t3⟩
                  refine ⟨.fref _ b _ f (fun j q hq => ?_) (fun j q hq => (each j q hq).2.1), rfl⟩
                  obtain ⟨r1, r2, r3, r4⟩ := each j q hq
                  exact ⟨.inr ⟨hB, hblt⟩, r1, r3, r4⟩
            · cases h
          · cases h
        · cases h
      case map => simp [snap] at h
      case agg cs =>
        simp only [snap, Option.map_eq_some_iff] at h
        obtain ⟨cs', hs, rfl⟩ := h
        cases hr with
        | agg _ vs hl ho hr =>
          obtain ⟨k1, k2⟩ := list hs hr
          exact ⟨.agg cs' vs (by omega) (fun i c hi => by obtain ⟨_, _, c0, h1, h2⟩ := k2 i c hi; rw [h2]; exact ho i c0 h1) (fun i c hi => (k2 i c hi).1), by simp only [AV.closed]; exact closedL_of_mem fun i c hi => (k2 i c hi).2.1⟩
      case tup cs =>
        simp only [snap, Option.map_eq_some_iff] at h
        obtain ⟨cs', hs, rfl⟩ := h
        cases hr with
        | tup _ vs hl hr =>
          obtain ⟨k1, k2⟩ := list hs hr
          exact ⟨.tup cs' vs (by omega) (fun i c hi => (k2 i c hi).1), by simp only [AV.closed]; exact closedL_of_mem fun i c hi => (k2 i c hi).2.1⟩
      case fn f cs =>
        simp only [snap, Option.map_eq_some_iff] at h
        obtain ⟨cs', hs, rfl⟩ := h
        cases hr with
        | fn _ _ vs hl hr =>
          obtain ⟨k1, k2⟩ := list hs hr
          exact ⟨.fn f cs' vs (by omega) (fun i c hi => (k2 i c hi).1), by simp only [AV.closed]; exact closedL_of_mem fun i c hi => (k2 i c hi).2.1⟩
      case iface t u =>
        simp only [snap, Option.map_eq_some_iff] at h
        obtain ⟨u', hs, rfl⟩ := h
        cases hr with
        | iface _ _ y hr =>
          obtain ⟨p1, p2⟩ := ih n (by omega) u u' y hs hr
          exact ⟨.iface _ _ _ p1, p2⟩
      all_goals (simp only [snap, Option.some.injEq] at h; subst h; exact ⟨widen hr rfl, rfl⟩)

theorem snapL_args (hI : Inv w0 B s Z φ w) {n : Nat} {args args' : List AV} {vs : Array Value} (h : snapL s.σ n args = some args') (hr : ArgsRep w Z φ s.ctr args vs) :
    ArgsRep w (ZAll Z B w) φ s.ctr args' vs ∧ ∀ (i : Nat) (a : AV), args'[i]? = some a → a.closed = true := by
  obtain ⟨hl, hg⟩ := snapL_get h
  refine ⟨⟨hl.trans hr.1, fun i a hi => ?_⟩, fun i a hi => ?_⟩
  · obtain ⟨u, m, k1, _, k3⟩ := hg i a hi
    obtain ⟨v, q1, q2⟩ := hr.2 i u k1
    exact ⟨v, q1, (snap_rep hI m u a v k3 q2).1⟩
  · obtain ⟨u, m, k1, _, k3⟩ := hg i a hi
    obtain ⟨v, q1, q2⟩ := hr.2 i u k1
    exact (snap_rep hI m u a v k3 q2).2

theorem scalar_rep : ∀ {a : AV} {v : Value}, Rep w Z φ ctr a v → a.scalar = true → ∀ {w' : World} {Z' : Cold} {φ' : Phi} {ctr' : Nat}, Rep w' Z' φ' ctr' a v := by
  intro a v hr
  induction hr with
  | bool b => intro _ _ _ _ _; exact .bool b
  | int k n => intro _ _ _ _ _; exact .int k n
  | str s l h => intro _ _ _ _ _; exact .str s l h
  | nilsl => intro _ _ _ _ _; exact .nilsl
  | agg cs vs hl ho hr ih =>
    intro h w' Z' φ' ctr'
    have hs : ∀ (i : Nat) (c : AV), cs[i]? = some c → c.scalar = true := by
      have : scalarL cs = true := by simpa [AV.scalar] using h
      clear hl ho hr ih h
      induction cs with
      | nil => intro i c hi; simp at hi
      | cons x xs ihx =>
        simp only [scalarL, Bool.and_eq_true] at this
        intro i c hi
        cases i with
        | zero => simp at hi; exact hi ▸ this.1
        | succ i => exact ihx this.2 i c (by simpa using hi)
    exact .agg cs vs hl ho fun i c hi => ih i c hi (hs i c hi)
  | tup cs vs hl hr ih =>
    intro h w' Z' φ' ctr'
    have hs : ∀ (i : Nat) (c : AV), cs[i]? = some c → c.scalar = true := by
      have : scalarL cs = true := by simpa [AV.scalar] using h
      clear hl hr ih h
      induction cs with
      | nil => intro i c hi; simp at hi
      | cons x xs ihx =>
        simp only [scalarL, Bool.and_eq_true] at this
        intro i c hi
        cases i with
        | zero => simp at hi; exact hi ▸ this.1
        | succ i => exact ihx this.2 i c (by simpa using hi)
    exact .tup cs vs hl fun i c hi => ih i c hi (hs i c hi)
  | nilp => intro _ _ _ _ _; exact .nilp
  | nilmap => intro _ _ _ _ _; exact .nilmap
  | nilfn => intro _ _ _ _ _; exact .nilfn
  | nilif => intro _ _ _ _ _; exact .nilif
  | undef => intro _ _ _ _ _; exact .undef
  | sl => intro h; simp [AV.scalar] at h
  | sl0 => intro h; simp [AV.scalar] at h
  | zc => intro h; simp [AV.scalar] at h
  | own => intro h; simp [AV.scalar] at h
  | ownNil => intro h; simp [AV.scalar] at h
  | ownZc => intro h; simp [AV.scalar] at h
  | ref => intro h; simp [AV.scalar] at h
  | fref => intro h; simp [AV.scalar] at h
  | fn => intro h; simp [AV.scalar] at h
  | map => intro h; simp [AV.scalar] at h
  | iface => intro h; simp [AV.scalar] at h
  | junk => intro h; simp [AV.scalar] at h

theorem Inv.take (hI : Inv w0 B s Z φ w) (n : Nat) : Inv w0 B ⟨s.σ.take n, s.ctr⟩ Z φ w := by
  have look : ∀ (o : Nat) (ob : Obj), (s.σ.take n)[o]? = some ob → s.σ[o]? = some ob := by
    intro o ob h
    rw [List.getElem?_take] at h
    split at h
    · exact h
    · cases h
  exact ⟨hI.below, hI.base, fun o ob h => hI.objs o ob (look o ob h), fun o o' ob ob' g g' b e n' e' n'' h h' hg hg' hp hp' => hI.apart o o' ob ob' g g' b e n' e' n'' (look _ _ h) (look _ _ h') hg hg' hp hp', hI.live⟩

theorem Inv.keep (hI : Inv w0 B s Z φ w) {n o : Nat} (hn : n ≤ o) {ob : Obj} (ho : s.σ[o]? = some ob) : Inv w0 B ⟨s.σ.take n ++ [ob], s.ctr⟩ Z φ w := by
  have hlt : o < s.σ.length := (List.getElem?_eq_some_iff.1 ho).1
  have hl : (s.σ.take n).length = n := by simp; omega
  have look : ∀ (o' : Nat) (ob' : Obj), (s.σ.take n ++ [ob])[o']? = some ob' → (o' < n ∧ s.σ[o']? = some ob') ∨ (o' = n ∧ ob' = ob) := by
    intro o' ob' h
    rcases Nat.lt_trichotomy o' n with h1 | h1 | h1
    · rw [List.getElem?_append_left (by omega), List.getElem?_take_of_lt h1] at h
      exact .inl ⟨h1, h⟩
    · subst h1
      rw [List.getElem?_append_right (by omega), hl] at h
      simp at h
      exact .inr ⟨rfl, h.symm⟩
    · rw [List.getElem?_eq_none (by simp; omega)] at h; cases h
  refine ⟨hI.below, hI.base, fun o' ob' h => ?_, fun o1 o2 ob1 ob2 g g' b e n' e' n'' h1 h2 hg hg' hp hp' => ?_, hI.live⟩
  · rcases look o' ob' h with ⟨_, k⟩ | ⟨_, rfl⟩
    · exact hI.objs _ _ k
    · exact hI.objs _ _ ho
  · rcases look o1 ob1 h1 with ⟨l1, k1⟩ | ⟨e1, rfl⟩ <;> rcases look o2 ob2 h2 with ⟨l2, k2⟩ | ⟨e2, rfl⟩
    · exact hI.apart o1 o2 ob1 ob2 g g' b e n' e' n'' k1 k2 hg hg' hp hp'
    · have := hI.apart o1 o ob1 _ g g' b e n' e' n'' k1 ho hg hg' hp hp'
      omega
    · have := hI.apart o o2 _ ob2 g g' b e n' e' n'' ho k2 hg hg' hp hp'
      omega
    · omega

/-- an empty store -/
theorem Inv.empty {Z : Cold} (h : ∀ b i, Z b i → b < w.heap.size) : Inv w w.heap.size ⟨[], 0⟩ Z (fun _ => .nil) w :=
  ⟨Below.refl _ _, Nat.le_refl _, fun o ob h => by simp at h, fun o o' ob ob' g g' b e n e' n' h => by simp at h, h⟩

theorem ArgsRep.closed {args : List AV} {vs : Array Value} (h : ArgsRep w Z φ ctr args vs) (hc : ∀ (i : Nat) (a : AV), args[i]? = some a → a.closed = true) : ArgsRep w Z φ' ctr' args vs :=
  ⟨h.1, fun i a hi => by obtain ⟨v, h1, h2⟩ := h.2 i a hi; exact ⟨v, h1, h2.shift (fun b i z => ⟨z, rfl⟩) (hc i a hi)⟩⟩

/-- what a call on a store of its own has come to, for its caller -/
theorem pure_sound {C : CallF} (hC : CallSound P C) {f : Nat} {args : List AV} {r : AV} (h : pureCall C f args = some r) : FnOk P f ∧ ∀ w Z (φ : Phi) (ctr : Nat) vs, (∀ b i, Z b i → b < w.heap.size) → ArgsRep w Z φ ctr args vs → (∀ (i : Nat) (a : AV), args[i]? = some a → a.closed = true) →
    Calls P f vs w fun e w' => ∃ Z', Below w.heap.size w w' ∧ (∀ b i, Z b i → Z' b i) ∧ (∀ b i, Z' b i → Z b i ∨ w.heap.size ≤ b) ∧ (∀ b i, Z' b i → b < w'.heap.size) ∧ r.closed = true ∧ ∃ x, e = .returned x ∧ ∀ (φ : Phi) (ctr : Nat), Rep w' Z' φ ctr r x := by
  unfold pureCall at h
  split at h
  · rename_i r0 s' hc
    obtain ⟨hf, hs⟩ := hC f args _ _ _ hc
    refine ⟨hf, fun w Z φ ctr vs hlive hargs hcl => ?_⟩
    refine (hs w w.heap.size Z (fun _ => .nil) w vs (Inv.empty hlive) (hargs.closed hcl)).mono fun e w' ⟨Z', φ', hI, hL, x, he, hr⟩ => ?_
    obtain ⟨k1, k2⟩ := snap_rep hI _ _ _ _ h hr
    refine ⟨ZAll Z' w.heap.size w', hI.below, fun b i z => .inl (hL.cold b i z), fun b i z => ?_, fun b i z => ?_, k2, x, he, fun φ ctr => k1.shift (fun b i z => ⟨z, rfl⟩) k2⟩
    · rcases z with z | ⟨z, _⟩
      · exact hL.new b i z
      · exact .inr z
    · rcases z with z | ⟨_, z⟩
      · exact hI.live b i z
      · exact z
  · cases h

theorem callMode_sound {C : CallF} (hC : CallSound P C) (m : Mode) : CallSound P (callMode C m) := by
  intro f args s out s' h
  cases m with
  | pure =>
    simp only [callMode] at h
    split at h
    · rename_i hcl
      simp only [Option.map_eq_some_iff, Prod.mk.injEq] at h
      obtain ⟨r, hr, rfl, rfl⟩ := h
      obtain ⟨hf, hs⟩ := pure_sound hC hr
      refine ⟨hf, fun w0 B Z φ w vs hI hargs => ?_⟩
      refine (hs w Z φ s.ctr vs hI.live hargs (closedL_mem hcl)).mono fun e w' ⟨Z', hb, hZ1, hZ2, hZ3, hrc, x, he, hrep⟩ => ?_
      obtain ⟨k1, k2⟩ := hI.grow hb hZ1 hZ2 hZ3
      exact ⟨Z', φ, k1, k2, x, he, hrep _ _⟩
    · cases h
  | borrow =>
    simp only [callMode] at h
    split at h
    · rename_i args' hargs'
      split at h
      · rename_i r hr
        split at h
        · rename_i hsc
          simp only [Option.some.injEq, Prod.mk.injEq] at h
          obtain ⟨rfl, rfl⟩ := h
          obtain ⟨hf, hs⟩ := pure_sound hC hr
          refine ⟨hf, fun w0 B Z φ w vs hI hargs => ?_⟩
          obtain ⟨q1, q2⟩ := snapL_args hI hargs' hargs
          refine (hs w (ZAll Z B w) φ s.ctr vs (fun b i z => z.elim (hI.live b i) fun z => z.2) q1 q2).mono fun e w' ⟨Z', hb, hZ1, hZ2, hZ3, hrc, x, he, hrep⟩ => ?_
          obtain ⟨k1, k2⟩ := hI.grow (Z' := Z) hb (fun _ _ h => h) (fun _ _ h => .inl h) (fun b i z => Nat.lt_of_lt_of_le (hI.live b i z) hb.size)
          exact ⟨Z, φ, k1, k2, x, he, scalar_rep (hrep φ s.ctr) hsc⟩
        · cases h
      · cases h
    · cases h
  | own =>
    simp only [callMode] at h
    split at h
    · rename_i hcl
      split at h
      · rename_i o g off len s1 hc
        split at h
        · rename_i g' es nn cl elems ho
          split at h
          · rename_i hcond
            obtain ⟨rfl, rfl, rfl, hlen⟩ := hcond
            simp only [Option.some.injEq, Prod.mk.injEq] at h
            obtain ⟨rfl, rfl⟩ := h
            obtain ⟨hf, hs⟩ := hC f args _ _ _ hc
            refine ⟨hf, fun w0 B Z φ w vs hI hargs => ?_⟩
            refine (hs w w.heap.size Z (fun _ => .nil) w vs (Inv.empty hI.live) (hargs.closed (closedL_mem hcl))).mono fun e w' ⟨Z', φ', hI', hL', x, he, hr⟩ => ?_
            rw [nth_eq] at ho
            have hob := hI'.objs o _ ho
            obtain ⟨o1, o2, o3⟩ := hob
            have hL : Later B w Z φ s.ctr w' Z' (phiSet φ s.ctr (φ' g)) (s.ctr + 1) :=
              later_new hI hI'.below hL'.cold (fun b i z => hL'.new b i z) (fun g hg => phiSet_lt φ _ hg) (by omega)
            have conv : ∀ {y : AV} {v : Value}, Rep w' Z' φ' s1.ctr y v → y.closed = true → Rep w' Z' (phiSet φ s.ctr (φ' g)) (s.ctr + 1) y v := fun r hc => r.shift (fun b i z => ⟨z, rfl⟩) hc
            refine ⟨Z', phiSet φ s.ctr (φ' g), hI.push hI'.below hL (fun b i z => hL'.new b i z) hI'.live ?_ rfl (fun b e n hp => ?_), hL, x, he, ?_⟩
            · refine ⟨by omega, o2, ?_⟩
              rw [phiSet_self]
              cases hφ : φ' g with
              | nil => rw [hφ] at o3; exact o3
              | zc => rw [hφ] at o3; exact o3
              | pend => rw [hφ] at o3; exact o3
              | row b e n =>
                rw [hφ] at o3
                obtain ⟨k1, k2, k3, k4, k5, c, t, k6, k7, k8⟩ := o3
                refine ⟨k1, k2, Nat.le_trans hI.base k3, k4, k5, c, t, k6, k7, fun i y hy => ?_⟩
                obtain ⟨q1, q2⟩ := k8 i y hy
                refine ⟨q1, fun j z hz => ?_⟩
                obtain ⟨v, r1, r2, r3, r4⟩ := q2 j z hz
                rw [hφ] at conv
                exact ⟨v, r1, conv r2 (r4 rfl), r3, r4⟩
            · rw [phiSet_self] at hp
              exact (ObjRep.place (hI'.objs o _ ho) rfl hp).2
            · cases hr with
              | own _ _ _ _ b e size cap a hg hφ hcap ha hsp => exact .own _ _ _ _ b e size cap a (Nat.lt_succ_self _) (by rw [phiSet_self]; exact hφ) hcap ha hsp
              | ownNil _ _ hg hφ => exact .ownNil _ _ (Nat.lt_succ_self _) (by rw [phiSet_self]; exact hφ)
              | ownZc _ _ a0 hg hφ => exact .ownZc _ _ a0 (Nat.lt_succ_self _) (by rw [phiSet_self]; exact hφ)
          · cases h
        · cases h
      · cases h
    · cases h
  | share =>
    simp only [callMode] at h
    split at h
    · rename_i r s1 hc
      obtain ⟨hf, hs⟩ := hC f args _ _ _ hc
      refine ⟨hf, fun w0 B Z φ w vs hI hargs => ?_⟩
      simp only [Option.map_eq_some_iff, Prod.mk.injEq, Prod.exists] at h
      obtain ⟨r', s2, hcp, rfl, rfl⟩ := h
      refine (hs w0 B Z φ w vs hI hargs).mono fun e w' ⟨Z', φ', hI', hL', x, he, hr⟩ => ?_
      unfold compact at hcp
      split at hcp
      · rename_i o g off len
        split at hcp
        · simp only [Option.some.injEq, Prod.mk.injEq] at hcp
          obtain ⟨rfl, rfl⟩ := hcp
          exact ⟨Z', φ', hI'.take _, hL', x, he, hr⟩
        · split at hcp
          · rename_i hlt ob ho
            simp only [Option.some.injEq, Prod.mk.injEq] at hcp
            obtain ⟨rfl, rfl⟩ := hcp
            rw [nth_eq] at ho
            refine ⟨Z', φ', hI'.keep (by omega) ho, hL', x, he, ?_⟩
            cases hr with
            | own _ _ _ _ b e size cap a hg hφ hcap ha hsp => exact .own _ _ _ _ b e size cap a hg hφ hcap ha hsp
            | ownNil _ _ hg hφ => exact .ownNil _ _ hg hφ
            | ownZc _ _ a0 hg hφ => exact .ownZc _ _ a0 hg hφ
          · cases hcp
      · split at hcp
        · simp only [Option.some.injEq, Prod.mk.injEq] at hcp
          obtain ⟨rfl, rfl⟩ := hcp
          exact ⟨Z', φ', hI'.take _, hL', x, he, hr⟩
        · simp only [Option.some.injEq, Prod.mk.injEq] at hcp
          obtain ⟨rfl, rfl⟩ := hcp
          exact ⟨Z', φ', hI', hL', x, he, hr⟩
    · rename_i v s1 hc
      obtain ⟨hf, hs⟩ := hC f args _ _ _ hc
      split at h
      · simp only [Option.some.injEq, Prod.mk.injEq] at h
        obtain ⟨rfl, rfl⟩ := h
        refine ⟨hf, fun w0 B Z φ w vs hI hargs => ?_⟩
        exact (hs w0 B Z φ w vs hI hargs).mono fun e w' ⟨Z', φ', hI', hL', x, he, hr⟩ => ⟨Z', φ', hI'.take _, hL', x, he, hr⟩
      · cases h
    · cases h

end AI
end Go.Proofs.Ytocgbgffpdphdaa
