/- Soundness, sixth part: slices and the small operations. -/
import Derived.Test.YtocgbgffpdphdaaSnd5
namespace Go.Proofs.Ytocgbgffpdphdaa
namespace AI
open Go.RowKit

variable {P : Program} {B : Nat} {w w' w0 : World} {Z Z' : Cold} {φ φ' : Phi} {ctr ctr' : Nat} {s s' : Sto}

theorem run_bound {x : AV} {v : Value} (hr : Rep w Z φ ctr x v) {n m : Nat} (hb : bound x = some n) (hm : n ≤ m) (code : BoundsCode) : (Instr.sliceBound v m code).run P w = .ok n w := by
  unfold bound at hb
  split at hb
  · rename_i k i
    split at hb
    · rename_i h0
      simp only [Option.some.injEq] at hb
      subst hb
      cases hr
      have : i ≤ m := by omega
      simp [Instr.sliceBound, asIntOf, h0, this]
    · cases hb
  · cases hb

def OptRep (w : World) (Z : Cold) (φ : Phi) (ctr : Nat) (env : Env) : Option AO → Option Value → Prop
  | none, none => True
  | some x, some v => Rep w Z φ ctr (x.val env) v
  | _, _ => False

theorem run_bounds {env : Env} {lo hi : Option AO} {vlo vhi : Option Value} (hlo : OptRep w Z φ ctr env lo vlo) (hhi : OptRep w Z φ ctr env hi vhi) {len cap l h : Nat} (hb : bounds env len lo hi = some (l, h)) (hcap : len ≤ cap) (isS : Bool) (_hs : isS = false → len = cap) :
    (Instr.sliceBounds isS len cap vlo vhi none).run P w = .ok (l, h, cap) w ∧ l ≤ h ∧ h ≤ len := by
  unfold bounds at hb
  split at hb
  · rename_i h' l' e1 e2
    split at hb
    · rename_i hc
      simp only [Option.some.injEq, Prod.mk.injEq] at hb
      obtain ⟨rfl, rfl⟩ := hb
      refine ⟨?_, hc⟩
      have hi' : (match vhi, (none : Option Value) with | some v, some _ => Instr.sliceBound v cap .slice3B | some v, none => Instr.sliceBound v cap (if isS then .sliceAcap else .sliceAlen) | none, none => pure len | none, some _ => stuck "Slice: max without high" : Sem Nat).run P w = .ok h' w := by
        cases hi with
        | none => cases vhi with
          | none => simp only [Option.some.injEq] at e1; subst e1; rfl
          | some v => exact hhi.elim
        | some x => cases vhi with
          | none => exact hhi.elim
          | some v => exact run_bound hhi e1 (by omega) _
      have lo' : (match vlo with | some v => Instr.sliceBound v h' .sliceB | none => pure 0 : Sem Nat).run P w = .ok l' w := by
        cases lo with
        | none => cases vlo with
          | none => simp only [Option.some.injEq] at e2; subst e2; rfl
          | some v => exact hlo.elim
        | some x => cases vlo with
          | none => exact hlo.elim
          | some v => exact run_bound hlo e2 hc.1 _
      unfold Instr.sliceBounds
      cases vhi <;> cases vlo <;> simp only [Sem.run_pure, Result.ok.injEq, and_true] at hi' lo' <;> simp [hi', lo'] <;> simp_all
    · cases hb
  · cases hb

theorem getElem_sub {xs : List AV} {l n i : Nat} {x : AV} (h : (sub xs l n)[i]? = some x) : xs[l + i]? = some x ∧ i < n := by
  unfold sub at h
  rw [List.getElem?_take] at h
  split at h
  · rename_i hn
    rw [List.getElem?_drop] at h
    exact ⟨h, hn⟩
  · cases h

theorem length_sub {xs : List AV} {l n : Nat} (h : l + n ≤ xs.length) : (sub xs l n).length = n := by
  unfold sub; simp; omega

/-- a part of a slice that is never written again -/
theorem Rep.sl_sub {xs : List AV} {n b off cap es : Nat} (hr : Rep w Z φ ctr (.sl true xs) (.slice (some ⟨b, off, none⟩) n cap)) (hsz : AllSize es xs) (l h : Nat) (hl : l ≤ h) (hh : h ≤ xs.length) (_hlc : l < cap ∨ l = h) :
    Rep w Z φ ctr (.sl true (sub xs l (h - l))) (.slice (some (if cap = l then ⟨b, off, none⟩ else ⟨b, off + l * es, none⟩)) (h - l) (cap - l)) := by
  cases hr with
  | sl0 =>
    obtain rfl : h = 0 := by simpa using hh
    obtain rfl : l = 0 := by omega
    simpa [sub] using Rep.sl0 (w := w) (Z := Z) (φ := φ) (ctr := ctr) ⟨b, off, none⟩
  | sl _ _ _ _ _ es' f hn hcap hes hsz' hc hr =>
    have hln : (sub xs l (h - l)).length = h - l := length_sub (by omega)
    by_cases hcl : cap = l
    · rw [if_pos hcl]
      have h0 : h - l = 0 := by omega
      have hnil : sub xs l (h - l) = [] := List.eq_nil_of_length_eq_zero (by omega)
      rw [hnil, h0]
      exact .sl [] 0 b off (cap - l) 1 (fun _ _ => Go.undef) rfl (by omega) (by omega) (fun i x hx => by simp at hx) (fun i x j c hx => by simp at hx) (fun i x j c hx => by simp at hx)
    · rw [if_neg hcl]
      by_cases hne : xs = []
      · subst hne
        have hnil : sub [] l (h - l) = ([] : List AV) := by simp [sub]
        have h0 : h - l = 0 := by rw [hnil] at hln; simpa using hln.symm
        rw [hnil, h0]
        exact .sl [] 0 b _ (cap - l) 1 (fun _ _ => Go.undef) rfl (by omega) (by omega) (fun i x hx => by simp at hx) (fun i x j c hx => by simp at hx) (fun i x j c hx => by simp at hx)
      · have he : es' = es := by
          obtain ⟨x, xs', rfl⟩ := List.exists_cons_of_ne_nil hne
          rw [← hsz' 0 x rfl]
          exact hsz x (by simp)
        subst he
        refine .sl _ _ b (off + l * es') (cap - l) es' (fun i j => f (l + i) j) hln.symm (by omega) hes (fun i x hx => hsz' _ x (getElem_sub hx).1) (fun i x j c hx hj => ?_) (fun i x j c hx hj => hr _ x j c (getElem_sub hx).1 hj)
        have := hc _ x j c (getElem_sub hx).1 hj
        rw [show off + l * es' + i * es' + j = off + (l + i) * es' + j by rw [Nat.add_mul]; omega]
        exact this

theorem snd_slice (hI : Inv w0 B s Z φ w) {t e : TypeId} {es : Nat} (hu : P.underlying t = some (.slice e)) (hes : cellsT P e = some es) {x v : AV} {vx : Value} (hx : Rep w Z φ s.ctr x vx)
    {C : CallF} {env : Env} {ax : AO} {lo hi : Option AO} {vlo vhi : Option Value} (hlo : OptRep w Z φ s.ctr env lo vlo) (hhi : OptRep w Z φ s.ctr env hi vhi) (h1 : ax.val env = x) (hev : evOp C (.slice es ax lo hi) env s = some (.ok v, s')) :
    ∃ z, (Instr.sliceAt t vx vlo vhi none).run P w = .ok z w ∧ Rep w Z φ s.ctr v z ∧ s' = s := by
  have run : ∀ (a : Option Addr) (len cap l h : Nat), (Instr.sliceBounds true len cap vlo vhi none).run P w = .ok (l, h, cap) w →
      (Instr.sliceAt t (.slice a len cap) vlo vhi none).run P w = .ok (.slice (if cap = l then a else a.map (·.add (l * es))) (h - l) (cap - l)) w := by
    intro a len cap l h hb
    simp [Instr.sliceAt, Instr.slice, run_underlying hu, hb, run_sizeOf hes]
  simp only [evOp, h1] at hev
  split at hev
  · rename_i nn xs
    split at hev
    · rename_i l h hb
      split at hev
      · rename_i hsz
        simp only [Option.some.injEq, Prod.mk.injEq, AOut.ok.injEq] at hev
        obtain ⟨rfl, rfl⟩ := hev
        cases hx with
        | nilsl =>
          obtain ⟨hb', hl, hh⟩ := run_bounds (P := P) hlo hhi hb (Nat.le_refl _) true (fun h => by cases h)
          simp only [List.length_nil, Nat.le_zero_eq] at hh hb'
          subst hh
          simp only [Nat.le_zero_eq] at hl
          subst hl
          exact ⟨_, run _ _ _ _ _ hb', by simpa [sub] using Rep.nilsl, rfl⟩
        | sl0 a0 =>
          obtain ⟨hb', hl, hh⟩ := run_bounds (P := P) hlo hhi hb (Nat.le_refl _) true (fun h => by cases h)
          simp only [List.length_nil, Nat.le_zero_eq] at hh hb'
          subst hh
          simp only [Nat.le_zero_eq] at hl
          subst hl
          exact ⟨_, run _ _ _ _ _ hb', by simpa [sub] using Rep.sl0 a0, rfl⟩
        | sl _ n b off cap es' f hn hcap hes' hsz' hc hr =>
          obtain ⟨hb', hl, hh⟩ := run_bounds (P := P) (cap := cap) hlo hhi hb (by omega) true (fun h => by cases h)
          refine ⟨_, run _ _ _ _ _ (hn ▸ hb'), ?_, rfl⟩
          have := (Rep.sl xs n b off cap es' f hn hcap hes' hsz' hc hr).sl_sub hsz l h hl hh (by omega)
          by_cases hcl : cap = l
          · simpa [hcl] using this
          · simpa [hcl, Addr.add_lit] using this
      · cases hev
    · cases hev
  · split at hev
    · rename_i p hb
      obtain ⟨l, h⟩ := p
      simp only [Option.some.injEq, Prod.mk.injEq, AOut.ok.injEq] at hev
      obtain ⟨rfl, rfl⟩ := hev
      cases hx with
      | zc a0 =>
        obtain ⟨hb', hl, hh⟩ := run_bounds (P := P) hlo hhi hb (Nat.le_refl _) true (fun h => by cases h)
        simp only [Nat.le_zero_eq] at hh
        subst hh
        simp only [Nat.le_zero_eq] at hl
        subst hl
        exact ⟨_, run _ _ _ _ _ hb', by simpa using Rep.zc a0, rfl⟩
    · cases hev
  · rename_i o g off len
    split at hev
    · rename_i g' es' nn cl elems ho
      split at hev
      · rename_i hc
        obtain ⟨rfl, rfl⟩ := hc
        split at hev
        · rename_i l h hb
          simp only [Option.some.injEq, Prod.mk.injEq, AOut.ok.injEq] at hev
          obtain ⟨rfl, rfl⟩ := hev
          rw [nth_eq] at ho
          cases hx with
          | own _ _ _ _ b es' size cap a hg hφ hcap ha hs =>
            obtain ⟨hb', hl, hh⟩ := run_bounds (P := P) (cap := cap) hlo hhi hb hcap true (fun h => by cases h)
            have hob := hI.objs o _ ho
            obtain ⟨_, _, h3⟩ := hob
            rw [hφ] at h3
            obtain ⟨_, he, _⟩ := h3
            subst he
            obtain ⟨ab, ao, asp⟩ := a
            simp only at hs
            subst hs
            refine ⟨_, run _ _ _ _ _ hb', ?_, rfl⟩
            by_cases hcl : cap = l
            · rw [if_pos hcl]
              refine .own _ _ _ _ b es' size _ _ hg hφ (by omega) (fun hor => ?_) rfl
              obtain ⟨ha1, ha2, ha3⟩ := ha (by omega)
              have hl0 : l = 0 := by omega
              subst hl0
              exact ⟨by simpa using ha1, by simpa using ha2, by omega⟩
            · rw [if_neg hcl]
              simp only [Option.map_some, Addr.add_lit]
              refine .own _ _ _ _ b es' size _ _ hg hφ (by omega) (fun hor => ?_) rfl
              obtain ⟨ha1, ha2, ha3⟩ := ha (by omega)
              simp only [Addr.mk.injEq, and_true] at ha1
              obtain ⟨rfl, rfl⟩ := ha1
              refine ⟨by rw [Nat.add_mul], ?_, by omega⟩
              rw [show off + l + (cap - l) = off + cap by omega]
              exact ha2
          | ownNil _ _ hg hφ =>
            obtain ⟨hb', hl, hh⟩ := run_bounds (P := P) hlo hhi hb (Nat.le_refl _) true (fun h => by cases h)
            simp only [Nat.le_zero_eq] at hh
            subst hh
            simp only [Nat.le_zero_eq] at hl
            subst hl
            exact ⟨_, run _ _ _ _ _ hb', by simpa using Rep.ownNil o g hg hφ, rfl⟩
          | ownZc _ _ a0 hg hφ =>
            obtain ⟨hb', hl, hh⟩ := run_bounds (P := P) hlo hhi hb (Nat.le_refl _) true (fun h => by cases h)
            simp only [Nat.le_zero_eq] at hh
            subst hh
            simp only [Nat.le_zero_eq] at hl
            subst hl
            exact ⟨_, run _ _ _ _ _ hb', by simpa using Rep.ownZc o g a0 hg hφ, rfl⟩
        · cases hev
      · cases hev
    · cases hev
  · cases hev

theorem snd_slice0 (hI : Inv w0 B s Z φ w) {t e : TypeId} {es : Nat} (hu : P.underlying t = some (.slice e)) (hes : cellsT P e = some es) {x v : AV} {vx : Value} (hx : Rep w Z φ s.ctr x vx)
    {C : CallF} {env : Env} {ax : AO} {vlo vhi : Option Value} {k1 k2 : IntKind} {vmx : Value} (hlo : vlo = none ∨ ∃ k, vlo = some (.int k 0)) (hhi : vhi = some (.int k1 0)) (hmx : vmx = .int k2 0) (h1 : ax.val env = x) (hev : evOp C (.slice0 ax) env s = some (.ok v, s')) :
    ∃ z, (Instr.sliceAt t vx vlo vhi (some vmx)).run P w = .ok z w ∧ Rep w Z φ s.ctr v z ∧ s' = s := by
  subst hhi hmx
  have run : ∀ (a : Option Addr) (len cap : Nat), (Instr.sliceAt t (.slice a len cap) vlo (some (.int k1 0)) (some (.int k2 0))).run P w = .ok (.slice a 0 0) w := by
    intro a len cap
    rcases hlo with rfl | ⟨k, rfl⟩ <;> simp [Instr.sliceAt, Instr.slice, Instr.sliceBounds, Instr.sliceBound, asIntOf, run_underlying hu, run_sizeOf hes]
  simp only [evOp, h1] at hev
  split at hev
  · simp only [Option.some.injEq, Prod.mk.injEq, AOut.ok.injEq] at hev
    obtain ⟨rfl, rfl⟩ := hev
    cases hx with
    | sl0 a0 => exact ⟨_, run _ _ _, .zc a0, rfl⟩
    | sl _ n b off cap es' f hn hcap hes' hsz' hc hr => exact ⟨_, run _ _ _, .zc ⟨b, off, none⟩, rfl⟩
  · simp only [Option.some.injEq, Prod.mk.injEq, AOut.ok.injEq] at hev
    obtain ⟨rfl, rfl⟩ := hev
    cases hx with
    | nilsl => exact ⟨_, run _ _ _, .nilsl, rfl⟩
  · simp only [Option.some.injEq, Prod.mk.injEq, AOut.ok.injEq] at hev
    obtain ⟨rfl, rfl⟩ := hev
    cases hx with
    | zc a0 => exact ⟨_, run _ _ _, .zc a0, rfl⟩
  · rename_i o g len
    split at hev
    · rename_i g' es' nn cl elems ho
      rw [nth_eq] at ho
      have hob := hI.objs o _ ho
      split at hev
      · rename_i hg; subst hg
        obtain ⟨_, _, h3⟩ := hob
        cases hx with
        | own _ _ _ _ b es' size cap a hg hφ hcap ha hs =>
          rw [hφ] at h3
          obtain ⟨hnn, _⟩ := h3
          subst hnn
          simp only [if_true, Option.some.injEq, Prod.mk.injEq, AOut.ok.injEq] at hev
          obtain ⟨rfl, rfl⟩ := hev
          obtain ⟨ab, ao, asp⟩ := a
          simp only at hs
          subst hs
          exact ⟨_, run _ _ _, .zc _, rfl⟩
        | ownNil _ _ hg hφ =>
          rw [hφ] at h3
          obtain ⟨hnn, _⟩ := h3
          subst hnn
          simp only [Bool.false_eq_true, if_false, Option.some.injEq, Prod.mk.injEq, AOut.ok.injEq] at hev
          obtain ⟨rfl, rfl⟩ := hev
          exact ⟨_, run _ _ _, .nilsl, rfl⟩
        | ownZc _ _ a0 hg hφ =>
          rw [hφ] at h3
          obtain ⟨hnn, _⟩ := h3
          subst hnn
          simp only [if_true, Option.some.injEq, Prod.mk.injEq, AOut.ok.injEq] at hev
          obtain ⟨rfl, rfl⟩ := hev
          exact ⟨_, run _ _ _, .zc _, rfl⟩
      · cases hev
    · cases hev
  · cases hev

theorem snd_sslice {t : TypeId} (hu : P.underlying t = some .string) {x v : AV} {vx : Value} (hx : Rep w Z φ s.ctr x vx)
    {C : CallF} {env : Env} {ax : AO} {lo hi : Option AO} {vlo vhi : Option Value} (hlo : OptRep w Z φ s.ctr env lo vlo) (hhi : OptRep w Z φ s.ctr env hi vhi) (h1 : ax.val env = x) (hev : evOp C (.sslice ax lo hi) env s = some (.ok v, s')) :
    ∃ z, (Instr.sliceAt t vx vlo vhi none).run P w = .ok z w ∧ Rep w Z φ s.ctr v z ∧ s' = s := by
  simp only [evOp, h1] at hev
  split at hev
  · rename_i bs
    split at hev
    · rename_i l h hb
      simp only [Option.some.injEq, Prod.mk.injEq, AOut.ok.injEq] at hev
      obtain ⟨rfl, rfl⟩ := hev
      cases hx with
      | str sb _ hs =>
        have hsz : sb.size = bs.length := by rw [← hs]; simp
        obtain ⟨hb', hl, hh⟩ := run_bounds (P := P) hlo hhi hb (Nat.le_refl _) false (fun _ => rfl)
        refine ⟨.string (sb.extract l h), ?_, .str _ _ ?_, rfl⟩
        · rw [← hsz] at hb'
          simp [Instr.sliceAt, Instr.slice, run_underlying hu, hb']
        · rw [← hs]
          simp [ByteArray.data_extract, List.extract_eq_take_drop]
    · cases hev
  · cases hev

theorem snd_len (hI : Inv w0 B s Z φ w) {t ty : TypeId} {k : EqT} (hu : (k = .str ∧ P.underlying t = some .string) ∨ (k = .slice ∧ ∃ e, P.underlying t = some (.slice e)) ∨ (k = .map ∧ ∃ a e, P.underlying t = some (.map a e))) {x v : AV} {vx : Value} (hx : Rep w Z φ s.ctr x vx)
    {C : CallF} {env : Env} {ax : AO} (h1 : ax.val env = x) (hev : evOp C (.len k ax) env s = some (.ok v, s')) :
    ∃ z, (Builtin.len_ #[t] ty #[vx]).run P w = .ok z w ∧ Rep w Z φ s.ctr v z ∧ s' = s := by
  rcases hu with ⟨rfl, hu⟩ | ⟨rfl, e, hu⟩ | ⟨rfl, a, e, hu⟩
  · simp only [evOp, h1] at hev
    cases x <;> simp only [Option.some.injEq, Prod.mk.injEq, AOut.ok.injEq, reduceCtorEq] at hev
    obtain ⟨rfl, rfl⟩ := hev
    cases hx with
    | str sb _ hs =>
      refine ⟨_, ?_, .int _ _, rfl⟩
      simp [Builtin.len_, run_underlying hu, goInt, ← hs]
  · simp only [evOp, h1] at hev
    cases x <;> simp only [Option.some.injEq, Prod.mk.injEq, AOut.ok.injEq, reduceCtorEq] at hev
    all_goals (obtain ⟨rfl, rfl⟩ := hev; cases hx <;> refine ⟨_, ?_, .int _ _, rfl⟩ <;> simp [Builtin.len_, run_underlying hu, goInt] <;> simp_all)
  · simp only [evOp, h1] at hev
    cases x <;> simp only [Option.some.injEq, Prod.mk.injEq, AOut.ok.injEq, reduceCtorEq] at hev
    · rename_i o g
      split at hev
      · rename_i g' cl ents ho
        split at hev
        · rename_i hg; subst hg
          simp only [Option.some.injEq, Prod.mk.injEq, AOut.ok.injEq] at hev
          obtain ⟨rfl, rfl⟩ := hev
          rw [nth_eq] at ho
          obtain ⟨_, b', es', size', h3, _, es2, clock, h5, h6, _⟩ := hI.objs o _ ho
          cases hx with
          | map _ _ b es size hg hφ =>
            rw [hφ] at h3
            simp only [Plc.row.injEq] at h3
            obtain ⟨rfl, _⟩ := h3
            refine ⟨_, ?_, .int _ _, rfl⟩
            have hgo : (getObj b).run P w = .ok (.map es2 clock) w := by simp [getObj, Sem.run, h5]
            simp [Builtin.len_, run_underlying hu, goInt, hgo, h6]
        · cases hev
      · cases hev
    · obtain ⟨rfl, rfl⟩ := hev
      cases hx
      exact ⟨_, by simp [Builtin.len_, run_underlying hu, goInt], .int _ _, rfl⟩

theorem snd_un {op : UnOp} {x v : AV} {vx : Value} (hx : Rep w Z φ s.ctr x vx) {C : CallF} {env : Env} {ax : AO} (h1 : ax.val env = x) (hev : evOp C (.un op ax) env s = some (.ok v, s')) :
    ∃ z, (Op.unary op vx).run P w = .ok z w ∧ Rep w Z φ s.ctr v z ∧ s' = s := by
  simp only [evOp, h1] at hev
  split at hev
  · simp only [Option.some.injEq, Prod.mk.injEq, AOut.ok.injEq] at hev
    obtain ⟨rfl, rfl⟩ := hev
    cases hx
    exact ⟨_, by simp [Op.unary], .bool _, rfl⟩
  · simp only [Option.some.injEq, Prod.mk.injEq, AOut.ok.injEq] at hev
    obtain ⟨rfl, rfl⟩ := hev
    cases hx
    rename_i k n
    exact ⟨.int k (k.wrap (0 - n)), by simp [Op.unary, Op.intArith], .int _ _, rfl⟩
  · cases hev

theorem snd_conv {src dst : TypeId} {k k' : IntKind} (hs : P.underlying src = some (.int k')) (hd : P.underlying dst = some (.int k)) {x v : AV} {vx : Value} (hx : Rep w Z φ s.ctr x vx) {C : CallF} {env : Env} {ax : AO} (h1 : ax.val env = x) (hev : evOp C (.conv k ax) env s = some (.ok v, s')) :
    ∃ z, (convert src dst vx).run P w = .ok z w ∧ Rep w Z φ s.ctr v z ∧ s' = s := by
  simp only [evOp, h1] at hev
  split at hev
  · simp only [Option.some.injEq, Prod.mk.injEq, AOut.ok.injEq] at hev
    obtain ⟨rfl, rfl⟩ := hev
    cases hx
    exact ⟨_, by simp [convert, run_underlying hs, run_underlying hd, Conv.intToInt], .int _ _, rfl⟩
  · cases hev

theorem snd_convs {src dst : TypeId} (hs : P.underlying src = some .string) (hd : P.underlying dst = some .string) {x v : AV} {vx : Value} (hx : Rep w Z φ s.ctr x vx) {C : CallF} {env : Env} {ax : AO} (h1 : ax.val env = x) (hev : evOp C (.convs ax) env s = some (.ok v, s')) :
    ∃ z, (convert src dst vx).run P w = .ok z w ∧ Rep w Z φ s.ctr v z ∧ s' = s := by
  simp only [evOp, h1] at hev
  split at hev
  · simp only [Option.some.injEq, Prod.mk.injEq, AOut.ok.injEq] at hev
    obtain ⟨rfl, rfl⟩ := hev
    cases hx with
    | str sb l h => exact ⟨_, by simp [convert, run_underlying hs, run_underlying hd], .str sb _ h, rfl⟩
  · cases hev

theorem snd_field {t : TypeId} {fs : Array Field} {f : Nat} {fd : Field} {sz : Option Nat} (hu : P.underlying t = some (.struct fs)) (hf : fs[f]? = some fd) (ht : szT P fd.type = some sz) {x v : AV} {vx : Value} (hx : Rep w Z φ s.ctr x vx)
    {C : CallF} {env : Env} {ax : AO} (h1 : ax.val env = x) (hev : evOp C (.field fd.offset sz ax) env s = some (.ok v, s')) :
    ∃ z, (Instr.field t vx f).run P w = .ok z w ∧ Rep w Z φ s.ctr v z ∧ s' = s := by
  simp only [evOp, h1] at hev
  split at hev
  · rename_i cs
    unfold ok at hev
    cases hl : AI.loadCells (cs.drop fd.offset) sz with
    | none => simp [hl] at hev
    | some v' =>
      simp only [hl, Option.map_some, Option.some.injEq, Prod.mk.injEq, AOut.ok.injEq] at hev
      obtain ⟨rfl, rfl⟩ := hev
      obtain ⟨vs, rfl, hlen, ho, hr⟩ := rep_agg hx
      obtain ⟨z, hz1, hz2⟩ := run_part_rep (P := P) ht hlen ho hr hl
      exact ⟨z, by simp [Instr.field, run_underlying hu, hf, asAgg, hz1], hz2, rfl⟩
  · cases hev

theorem snd_ext {i : Nat} {x v : AV} {vx : Value} (hx : Rep w Z φ s.ctr x vx) {C : CallF} {env : Env} {ax : AO} (h1 : ax.val env = x) (hev : evOp C (.ext ax i) env s = some (.ok v, s')) :
    ∃ z, (Instr.extract vx i).run P w = .ok z w ∧ Rep w Z φ s.ctr v z ∧ s' = s := by
  simp only [evOp, h1] at hev
  split at hev
  · rename_i cs
    unfold ok at hev
    cases hl : nth cs i with
    | none => simp [hl] at hev
    | some v' =>
      simp only [hl, Option.map_some, Option.some.injEq, Prod.mk.injEq, AOut.ok.injEq] at hev
      obtain ⟨rfl, rfl⟩ := hev
      rw [nth_eq] at hl
      cases hx with
      | tup _ vs hlen hr =>
        have hlt : i < vs.size := by
          have := (List.getElem?_eq_some_iff.1 hl).1
          omega
        refine ⟨vs[i], by simp [Instr.extract, Array.getElem?_eq_getElem hlt], ?_, rfl⟩
        have := hr i _ hl
        simpa [Array.getD_eq_getD_getElem?, Array.getElem?_eq_getElem hlt] using this
  · cases hev

theorem snd_minmax {x y v : AV} {vx vy : Value} (hx : Rep w Z φ s.ctr x vx) (hy : Rep w Z φ s.ctr y vy) {C : CallF} {env : Env} {ax ay : AO} (h1 : ax.val env = x) (h2 : ay.val env = y) (ts : Array TypeId) (ty : TypeId) :
    (evOp C (.min ax ay) env s = some (.ok v, s') → ∃ z, (Builtin.min_ ts ty #[vx, vy]).run P w = .ok z w ∧ Rep w Z φ s.ctr v z ∧ s' = s) ∧
    (evOp C (.max ax ay) env s = some (.ok v, s') → ∃ z, (Builtin.max_ ts ty #[vx, vy]).run P w = .ok z w ∧ Rep w Z φ s.ctr v z ∧ s' = s) := by
  constructor
  all_goals
    intro hev
    simp only [evOp, h1, h2] at hev
    split at hev
    · simp only [Option.some.injEq, Prod.mk.injEq, AOut.ok.injEq] at hev
      obtain ⟨rfl, rfl⟩ := hev
      cases hx; cases hy
      exact ⟨_, by simp [Builtin.min_, Builtin.max_, Builtin.min2, Builtin.max2, List.foldlM], .int _ _, rfl⟩
    · cases hev

end AI
end Go.Proofs.Ytocgbgffpdphdaa
