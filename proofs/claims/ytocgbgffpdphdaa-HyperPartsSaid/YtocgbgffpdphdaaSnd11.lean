/- Soundness, eleventh part: maps. -/
import Derived.Test.YtocgbgffpdphdaaSnd10
namespace Go.Proofs.Ytocgbgffpdphdaa
namespace AI
open Go.RowKit

variable {P : Program} {B : Nat} {w w' w0 : World} {Z Z' : Cold} {φ φ' : Phi} {ctr ctr' : Nat} {s s' : Sto}

/-- the entries of a map -/
def EntsRep (w : World) (Z : Cold) (φ : Phi) (ctr : Nat) (cl : Bool) (ents : List (AV × AV)) (es : Array MapEntry) : Prop :=
  es.size = ents.length ∧ ∀ (i : Nat) (e : AV × AV), ents[i]? = some e → ∃ e', es[i]? = some e' ∧ Rep w Z φ ctr e.1 e'.key ∧ Rep w Z φ ctr e.2 e'.val ∧ e.2.storable = true ∧ (cl = true → e.2.closed = true)

theorem EntsRep.later (hL : Later B w Z φ ctr w' Z' φ' ctr') {cl : Bool} {ents : List (AV × AV)} {es : Array MapEntry} (h : EntsRep w Z φ ctr cl ents es) : EntsRep w' Z' φ' ctr' cl ents es :=
  ⟨h.1, fun i e he => by obtain ⟨e', a, b, c, d⟩ := h.2 i e he; exact ⟨e', a, b.later hL, c.later hL, d⟩⟩

theorem map_obj (hI : Inv w0 B s Z φ w) {o g : Nat} {cl : Bool} {ents : List (AV × AV)} (ho : s.σ[o]? = some (.mp g cl ents)) {v : Value} (hr : Rep w Z φ s.ctr (.map o g) v) :
    ∃ b e n es clock, v = .map (some b) ∧ φ g = .row b e n ∧ B ≤ b ∧ w.heap[b]? = some (.map es clock) ∧ EntsRep w Z φ s.ctr cl ents es := by
  obtain ⟨_, b', e', n', h3, h4, es, clock, h5, h6, h7⟩ := hI.objs o _ ho
  cases hr with
  | map _ _ b e n hg hφ =>
    rw [hφ] at h3
    simp only [Plc.row.injEq] at h3
    obtain ⟨rfl, _⟩ := h3
    exact ⟨b, e, n, es, clock, rfl, hφ, h4, h5, h6, h7⟩

theorem run_checkKey {kt : TypeId} {l : EqT} (h : leafT P kt = some l) {k : AV} (hk : keyOk l k = true) {v : Value} (hr : Rep w Z φ ctr k v) (e : Bool) (n : Nat) : (Instr.checkKey e (n + 1) kt v).run P w = .ok () w := by
  rcases leafT_some h with ⟨rfl, hu⟩ | ⟨rfl, i, hu⟩ | ⟨rfl, hu⟩ <;> cases k <;> simp [keyOk] at hk <;> cases hr <;> simp [Instr.checkKey, run_underlying hu]

theorem sameNow_rep {kt : TypeId} {l : EqT} {d : TypeDesc} (h : leafT P kt = some l) (hu : P.underlying kt = some d) {x y : AV} {vx vy : Value} (hx : Rep w Z φ ctr x vx) (hy : Rep w Z φ ctr y vy) {b : Bool} (hb : eqLeaf l x y = some b) : Instr.sameNow d vx vy = some b := by
  rcases leafT_some h with ⟨rfl, hu'⟩ | ⟨rfl, i, hu'⟩ | ⟨rfl, hu'⟩ <;> rw [hu] at hu' <;> cases hu' <;> cases x <;> cases y <;> simp only [eqLeaf, Option.some.injEq, reduceCtorEq] at hb
  · cases hx; cases hy
    simp [Instr.sameNow, hb]
  · split at hb
    · rename_i hk; subst hk
      simp only [Option.some.injEq] at hb
      cases hx; cases hy
      simp [Instr.sameNow, hb]
    · cases hb
  · cases hx with
    | str s1 _ h1 => cases hy with
      | str s2 _ h2 =>
        simp only [Instr.sameNow, Option.some.injEq]
        rw [beq_toListBytes, ByteArray.toList_eq, ByteArray.toList_eq, h1, h2, hb]

theorem findNow_rep {kt : TypeId} {l : EqT} {d : TypeDesc} (h : leafT P kt = some l) (hu : P.underlying kt = some d) {k : AV} {vk : Value} (hk : Rep w Z φ ctr k vk) : ∀ {ents : List (AV × AV)} {es : List MapEntry} {i : Nat} {r : Option (Nat × AV)},
    ents.length = es.length → (∀ (j : Nat) (e : AV × AV), ents[j]? = some e → ∃ e', es[j]? = some e' ∧ Rep w Z φ ctr e.1 e'.key) → findKey l k ents i = some r →
    (r = none ∧ Instr.findNow d vk es i = some none) ∨ ∃ j v e', r = some (i + j, v) ∧ ents[j]? = some (((ents[j]?).getD default).1, v) ∧ es[j]? = some e' ∧ Instr.findNow d vk es i = some (some (i + j, e'.val)) ∧ eqLeaf l k (((ents[j]?).getD default).1) = some true
  | [], [], i, r, _, _, hf => by
    simp only [findKey, Option.some.injEq] at hf
    exact .inl ⟨hf.symm, rfl⟩
  | [], _ :: _, _, _, hl, _, _ => by simp at hl
  | _ :: _, [], _, _, hl, _, _ => by simp at hl
  | (k', v) :: ents, e :: es, i, r, hl, he, hf => by
    obtain ⟨e0, h1, h2⟩ := he 0 (k', v) rfl
    simp only [List.getElem?_cons_zero, Option.some.injEq] at h1
    subst h1
    simp only [findKey] at hf
    cases hb : eqLeaf l k k' with
    | none => simp [hb] at hf
    | some b =>
      have hs := sameNow_rep h hu hk h2 hb
      cases b with
      | true =>
        simp only [hb, Option.some.injEq] at hf
        refine .inr ⟨0, v, e, hf.symm, rfl, rfl, ?_, hb⟩
        simp [Instr.findNow, hs]
      | false =>
        simp only [hb] at hf
        have ih := findNow_rep h hu hk (ents := ents) (es := es) (i := i + 1) (by simpa using hl) (fun j e hj => by simpa using he (j + 1) e (by simpa using hj)) hf
        rcases ih with ⟨ha, hb'⟩ | ⟨j, v', e', ha, hb', hc, hd, hq⟩
        · exact .inl ⟨ha, by simp [Instr.findNow, hs, hb']⟩
        · refine .inr ⟨j + 1, v', e', by rw [ha]; congr 2; omega, by simpa using hb', by simpa using hc, ?_, by simpa using hq⟩
          simp only [Instr.findNow, hs, hd]
          congr 3; omega

theorem run_findKey {kt : TypeId} {l : EqT} (h : leafT P kt = some l) {k : AV} {vk : Value} (hk : Rep w Z φ ctr k vk) {cl : Bool} {ents : List (AV × AV)} {es : Array MapEntry} (he : EntsRep w Z φ ctr cl ents es) {r : Option (Nat × AV)} (hf : findKey l k ents 0 = some r) :
    (r = none ∧ (Instr.findKey kt vk es.toList).run P w = .ok none w) ∨ ∃ j k' v e', r = some (j, v) ∧ ents[j]? = some (k', v) ∧ es[j]? = some e' ∧ (Instr.findKey kt vk es.toList).run P w = .ok (some (j, e'.val)) w ∧ eqLeaf l k k' = some true := by
  have hd : ∃ d, P.underlying kt = some d := by
    rcases leafT_some h with ⟨_, hu⟩ | ⟨_, i, hu⟩ | ⟨_, hu⟩ <;> exact ⟨_, hu⟩
  obtain ⟨d, hu⟩ := hd
  rcases findNow_rep h hu hk (ents := ents) (es := es.toList) (by simpa using he.1.symm) (fun j e hj => by obtain ⟨e', a, b, _⟩ := he.2 j e hj; exact ⟨e', by simpa using a, b⟩) hf with ⟨ha, hb⟩ | ⟨j, v, e', ha, hb, hc, hd, hq⟩
  · exact .inl ⟨ha, by simp [Instr.findKey, run_underlying hu, hb]⟩
  · refine .inr ⟨j, _, v, e', by simpa using ha, hb, by simpa using hc, ?_, hq⟩
    simp only [Instr.findKey, Sem.run_bind, run_underlying hu, Result.andThen_ok, hd, Nat.zero_add, Sem.run_pure]

theorem run_getMap {b : Nat} {es : Array MapEntry} {clock : Nat} (h : w.heap[b]? = some (.map es clock)) : (getObj b).run P w = .ok (.map es clock) w := by
  simp [getObj, Sem.run, h]

theorem run_setMap {b : Nat} {es : Array MapEntry} {clock : Nat} (h : w.heap[b]? = some (.map es clock)) (o : Go.Obj) : (setObj b o).run P w = .ok () { w with heap := w.heap.setIfInBounds b o } := by
  simp [setObj, Sem.run, h]

theorem snd_lookup (hI : Inv w0 B s Z φ w) {t kt e : TypeId} (hu : P.underlying t = some (.map kt e)) {l : EqT} (hl : leafT P kt = some l) {n : Nat} {z : AV} (hz : zeroT P e = some (n, z)) {m k v : AV} {vm vk : Value} (hm : Rep w Z φ s.ctr m vm) (hk : Rep w Z φ s.ctr k vk)
    {C : CallF} {env : Env} {am ak : AO} (h1 : am.val env = m) (h2 : ak.val env = k) {okk : Bool} (hev : evOp C (.lookup l z okk am ak) env s = some (.ok v, s')) :
    ∃ x, (Instr.lookup t vm vk okk).run P w = .ok x w ∧ Rep w Z φ s.ctr v x ∧ s' = s := by
  obtain ⟨ie, zv, hie, hn, h0, hzv, hov, hzl, hcT⟩ := zeroT_some hz
  have hzr := (ofValue_rep (w := w) (Z := Z) (φ := φ) (ctr := s.ctr) hov).1
  have fin : ∀ (b : Bool) (x : AV) (vx : Value), Rep w Z φ s.ctr x vx → Rep w Z φ s.ctr (if okk then .tup [x, .bool b] else x) (if okk then .tuple #[vx, .bool b] else vx) := by
    intro b x vx hx
    cases okk
    · exact hx
    · refine .tup _ _ rfl (fun i c hi => ?_)
      rcases i with _ | _ | i
      · simp only [List.getElem?_cons_zero, Option.some.injEq] at hi; subst hi; simpa using hx
      · simp at hi; subst hi; simpa using Rep.bool b
      · simp at hi
  simp only [evOp, h1, h2] at hev
  cases m with
  | nilmap =>
    by_cases hko : keyOk l k = true
    · simp only [hko, if_true, Option.some.injEq, Prod.mk.injEq, AOut.ok.injEq, Option.isSome_none] at hev
      obtain ⟨rfl, rfl⟩ := hev
      cases hm
      have hck := run_checkKey (w := w) (Z := Z) (φ := φ) (ctr := s.ctr) hl hko hk true 9999
      have hfk : (Instr.findKey kt vk []).run P w = .ok none w := by
        have hd : ∃ d, P.underlying kt = some d := by
          rcases leafT_some hl with ⟨_, hu⟩ | ⟨_, i, hu⟩ | ⟨_, hu⟩ <;> exact ⟨_, hu⟩
        obtain ⟨d, hd⟩ := hd
        simp [Instr.findKey, run_underlying hd, Instr.findNow]
      refine ⟨_, ?_, fin false z zv hzr, rfl⟩
      simp only [Instr.lookup, Sem.run_bind, run_underlying hu, Result.andThen_ok, Sem.run_pure, Array.isEmpty_empty, hck, hfk, run_zeroValue hie hzv]
    · simp [hko] at hev
  | map o g =>
    simp only at hev
    cases ho : nth s.σ o with
    | none => simp [ho] at hev
    | some ob =>
      cases ob with
      | arr => simp [ho] at hev
      | dead => simp [ho] at hev
      | mp g' cl ents =>
        by_cases hc : g = g' ∧ keyOk l k = true
        · obtain ⟨rfl, hko⟩ := hc
          simp only [ho, hko, and_self, if_true] at hev
          cases hf : findKey l k ents 0 with
          | none => simp [hf] at hev
          | some r =>
            simp only [hf, Option.some.injEq, Prod.mk.injEq, AOut.ok.injEq] at hev
            obtain ⟨rfl, rfl⟩ := hev
            rw [nth_eq] at ho
            obtain ⟨b, _, _, es, clock, rfl, hφ, hB, hb, he⟩ := map_obj hI ho hm
            have hck := run_checkKey (w := w) (Z := Z) (φ := φ) (ctr := s.ctr) hl hko hk es.isEmpty 9999
            rcases run_findKey (P := P) hl hk he hf with ⟨rfl, hrun⟩ | ⟨j, k', x, e', rfl, hj, hj', hrun, _⟩
            · refine ⟨_, ?_, fin false z zv hzr, rfl⟩
              simp only [Instr.lookup, Sem.run_bind, run_underlying hu, Result.andThen_ok, run_getMap hb, Sem.run_pure, hck, hrun, run_zeroValue hie hzv]
            · obtain ⟨e'', q1, q2, q3, _⟩ := he.2 j _ hj
              rw [hj'] at q1
              cases q1
              refine ⟨_, ?_, fin true x e'.val q3, rfl⟩
              simp only [Instr.lookup, Sem.run_bind, run_underlying hu, Result.andThen_ok, run_getMap hb, Sem.run_pure, hck, hrun]
        · simp [ho, hc] at hev
  | _ => simp at hev

/-- a map object changes -/
theorem Inv.setMap (hI : Inv w0 B s Z φ w) {o g : Nat} {cl cl' : Bool} {ents ents' : List (AV × AV)} (ho : s.σ[o]? = some (.mp g cl ents)) {b e n : Nat} (hφ : φ g = .row b e n) {es es' : Array MapEntry} {clock clock' : Nat} (hb : w.heap[b]? = some (.map es clock)) (hB : B ≤ b)
    (he : EntsRep w Z φ s.ctr cl' ents' es') :
    Inv w0 B ⟨s.σ.set o (.mp g cl' ents'), s.ctr⟩ Z φ { w with heap := w.heap.setIfInBounds b (.map es' clock') } ∧ Later B w Z φ s.ctr { w with heap := w.heap.setIfInBounds b (.map es' clock') } Z φ s.ctr := by
  have hblt : b < w.heap.size := (Array.getElem?_eq_some_iff.1 hb).1
  have other : ∀ k, k ≠ b → (w.heap.setIfInBounds b (.map es' clock'))[k]? = w.heap[k]? := fun k hk => Array.getElem?_setIfInBounds_ne (Ne.symm hk)
  have hbel : Below B w { w with heap := w.heap.setIfInBounds b (.map es' clock') } := ⟨rfl, rfl, rfl, by simp, fun k hk => other k (by omega)⟩
  have hL : Later B w Z φ s.ctr { w with heap := w.heap.setIfInBounds b (.map es' clock') } Z φ s.ctr := by
    refine ⟨fun _ _ h => .inl h, Nat.le_refl _, fun _ _ h => h, fun b' i _ => ?_, fun _ _ => rfl⟩
    by_cases hbb : b' = b
    · subst hbb
      have hb2 : w.heap[b'] = .map es clock := by rw [Array.getElem?_eq_getElem hblt] at hb; exact Option.some.inj hb
      simp [World.cell?, hblt, hb2]
    · exact World.cell?_of_block (w := w) (other b' hbb)
  obtain ⟨k1, _⟩ := hI.objs o _ ho
  refine ⟨hI.set ho hbel hL (fun b' i h => by simpa using hI.live b' i h) (fun o' ob' g' b' e' n' hne ho' hg' hφ' => ⟨other b' ?_, fun i h => h⟩) ?_ (fun g' b' e' n' hg' hφ' => ?_), hL⟩
  · rintro rfl
    exact hne (hI.apart o' o ob' _ g' g _ _ _ _ _ ho' ho hg' rfl hφ' hφ)
  · have he' := he.later hL
    exact ⟨k1, b, e, n, hφ, hB, es', clock', by simp [hblt], he'.1, he'.2⟩
  · simp only [Obj.gen, Option.some.injEq] at hg'
    subst hg'
    rw [hφ] at hφ'
    simp only [Plc.row.injEq] at hφ'
    obtain ⟨rfl, _⟩ := hφ'
    exact .inr ⟨g, e, n, rfl, hφ⟩

theorem sameBits_rep {l : EqT} {k k' : AV} {v v' : Value} (hr : Rep w Z φ ctr k v) (hr' : Rep w Z φ ctr k' v') (h : eqLeaf l k k' = some true) : Instr.sameBits 10000 v' v = true := by
  cases l <;> cases k <;> cases k' <;> simp only [eqLeaf, Option.some.injEq, reduceCtorEq] at h
  · cases hr; cases hr'
    simp_all [Instr.sameBits]
  · split at h
    · rename_i hk; subst hk
      cases hr; cases hr'
      simp_all [Instr.sameBits]
    · cases h
  · cases hr with
    | str s1 _ h1 => cases hr' with
      | str s2 _ h2 =>
        simp only [Instr.sameBits, beq_toListBytes, ByteArray.toList_eq, h1, h2]
        simpa using (by simpa using h : _ = _).symm

theorem snd_mapset (hI : Inv w0 B s Z φ w) {t kt e : TypeId} (hu : P.underlying t = some (.map kt e)) {l : EqT} (hl : leafT P kt = some l) {m k x v : AV} {vm vk vx : Value} (hm : Rep w Z φ s.ctr m vm) (hk : Rep w Z φ s.ctr k vk) (hx : Rep w Z φ s.ctr x vx)
    {C : CallF} {env : Env} {am ak ax : AO} (h1 : am.val env = m) (h2 : ak.val env = k) (h3 : ax.val env = x) (hev : evOp C (.mapset l am ak ax) env s = some (.ok v, s')) :
    v = .undef ∧ ∃ w', (Instr.mapUpdate t vm vk vx).run P w = .ok () w' ∧ Inv w0 B s' Z φ w' ∧ Later B w Z φ s.ctr w' Z φ s'.ctr := by
  simp only [evOp, h1, h2, h3] at hev
  split at hev
  · rename_i o g
    split at hev
    · rename_i g' cl ents ho
      split at hev
      · rename_i hc
        obtain ⟨rfl, hko, hst⟩ := hc
        rw [nth_eq] at ho
        obtain ⟨b, e1, n1, es, clock, rfl, hφ, hB, hb, he⟩ := map_obj hI ho hm
        have hck := run_checkKey (w := w) (Z := Z) (φ := φ) (ctr := s.ctr) hl hko hk false 9999
        split at hev
        · rename_i i y hf
          simp only [Option.some.injEq, Prod.mk.injEq, AOut.ok.injEq] at hev
          obtain ⟨rfl, rfl⟩ := hev
          rcases run_findKey (P := P) hl hk he hf with ⟨h, _⟩ | ⟨j, k', y', e', h, hj, hj', hrun, hq⟩
          · cases h
          · simp only [Option.some.injEq, Prod.mk.injEq] at h
            obtain ⟨rfl, rfl⟩ := h
            obtain ⟨e'', q1, q2, q3, q4, q5⟩ := he.2 i _ hj
            rw [hj'] at q1
            cases q1
            have hsb := sameBits_rep hk q2 hq
            have hE : EntsRep w Z φ s.ctr (cl && x.closed) (ents.set i (k, x)) (es.modify i fun e => { e with key := vk, val := vx }) := by
              refine ⟨by simpa using he.1, fun j' e0 hj0 => ?_⟩
              by_cases hji : j' = i
              · subst hji
                have hlt : j' < ents.length := (List.getElem?_eq_some_iff.1 hj).1
                rw [List.getElem?_set_self hlt] at hj0
                simp only [Option.some.injEq] at hj0
                subst hj0
                refine ⟨{ e' with key := vk, val := vx }, by simp [Array.getElem?_modify, hj'], hk, hx, hst, fun h => ?_⟩
                simp only [Bool.and_eq_true] at h
                exact h.2
              · rw [List.getElem?_set_ne (fun h => hji h.symm)] at hj0
                obtain ⟨e2, r1, r2, r3, r4, r5⟩ := he.2 j' e0 hj0
                refine ⟨e2, by simp [Array.getElem?_modify, Ne.symm hji, r1], r2, r3, r4, fun h => ?_⟩
                simp only [Bool.and_eq_true] at h
                exact r5 h.1
            obtain ⟨k1, k2⟩ := hI.setMap (clock' := clock) ho hφ hb hB hE
            refine ⟨rfl, _, ?_, k1, k2⟩
            simp only [Instr.mapUpdate, Sem.run_bind, run_underlying hu, Result.andThen_ok, run_getMap hb, hck, hrun, hj', Option.map_some, Option.getD_some, Instr.keyThatStays, hsb, if_true, Sem.run_pure, run_setMap hb]
        · rename_i hf
          simp only [Option.some.injEq, Prod.mk.injEq, AOut.ok.injEq] at hev
          obtain ⟨rfl, rfl⟩ := hev
          rcases run_findKey (P := P) hl hk he hf with ⟨_, hrun⟩ | ⟨j, k', y', e', h, _⟩
          · have hE : EntsRep w Z φ s.ctr (cl && x.closed) (ents ++ [(k, x)]) (es.push { key := vk, val := vx, born := clock }) := by
              refine ⟨by simpa using he.1, fun j' e0 hj0 => ?_⟩
              by_cases hji : j' < ents.length
              · rw [List.getElem?_append_left hji] at hj0
                obtain ⟨e2, r1, r2, r3, r4, r5⟩ := he.2 j' e0 hj0
                refine ⟨e2, ?_, r2, r3, r4, fun h => ?_⟩
                · rw [Array.getElem?_push, if_neg (by have := he.1; omega)]; exact r1
                · simp only [Bool.and_eq_true] at h
                  exact r5 h.1
              · have hj1 : j' = ents.length := by
                  have := (List.getElem?_eq_some_iff.1 hj0).1
                  simp at this; omega
                subst hj1
                simp at hj0
                subst hj0
                refine ⟨{ key := vk, val := vx, born := clock }, ?_, hk, hx, hst, fun h => ?_⟩
                · rw [← he.1]; simp
                · simp only [Bool.and_eq_true] at h
                  exact h.2
            obtain ⟨k1, k2⟩ := hI.setMap (clock' := clock + 1) ho hφ hb hB hE
            refine ⟨rfl, _, ?_, k1, k2⟩
            simp only [Instr.mapUpdate, Sem.run_bind, run_underlying hu, Result.andThen_ok, run_getMap hb, hck, hrun, run_setMap hb]
          · cases h
        · cases hev
      · cases hev
    · cases hev
  · cases hev

theorem snd_delete (hI : Inv w0 B s Z φ w) {t kt e ty : TypeId} {t2 : Array TypeId} (hu : P.underlying t = some (.map kt e)) (ht : t2[0]? = some t) {l : EqT} (hl : leafT P kt = some l) {m k v : AV} {vm vk : Value} (hm : Rep w Z φ s.ctr m vm) (hk : Rep w Z φ s.ctr k vk)
    {C : CallF} {env : Env} {am ak : AO} (h1 : am.val env = m) (h2 : ak.val env = k) (hev : evOp C (.delete l am ak) env s = some (.ok v, s')) :
    v = .undef ∧ ∃ w', (Builtin.delete_ t2 ty #[vm, vk]).run P w = .ok undef w' ∧ Inv w0 B s' Z φ w' ∧ Later B w Z φ s.ctr w' Z φ s'.ctr := by
  simp only [evOp, h1, h2] at hev
  split at hev
  · rename_i o g
    split at hev
    · rename_i g' cl ents ho
      split at hev
      · rename_i hc
        obtain ⟨rfl, hko⟩ := hc
        rw [nth_eq] at ho
        obtain ⟨b, e1, n1, es, clock, rfl, hφ, hB, hb, he⟩ := map_obj hI ho hm
        have hck := run_checkKey (w := w) (Z := Z) (φ := φ) (ctr := s.ctr) hl hko hk es.isEmpty 9999
        split at hev
        · rename_i i y hf
          simp only [Option.some.injEq, Prod.mk.injEq, AOut.ok.injEq] at hev
          obtain ⟨rfl, rfl⟩ := hev
          rcases run_findKey (P := P) hl hk he hf with ⟨h, _⟩ | ⟨j, k', y', e', h, hj, hj', hrun, hq⟩
          · cases h
          · simp only [Option.some.injEq, Prod.mk.injEq] at h
            obtain ⟨rfl, rfl⟩ := h
            have hlt : i < es.size := by
              have := (List.getElem?_eq_some_iff.1 hj).1
              rw [he.1]; exact this
            have hE : EntsRep w Z φ s.ctr cl (ents.eraseIdx i) (es.eraseIdxIfInBounds i) := by
              have hll : (es.eraseIdxIfInBounds i).toList = es.toList.eraseIdx i := by
                simp [Array.eraseIdxIfInBounds, hlt]
              have hi2 : i < ents.length := (List.getElem?_eq_some_iff.1 hj).1
              refine ⟨?_, fun j' e0 hj0 => ?_⟩
              · rw [← Array.length_toList, hll, List.length_eraseIdx_of_lt (by simpa using hlt), List.length_eraseIdx_of_lt hi2]
                simp [he.1]
              · rw [List.getElem?_eraseIdx] at hj0
                have hes : ∀ q, (es.eraseIdxIfInBounds i)[q]? = if q < i then es[q]? else es[q + 1]? := by
                  intro q
                  rw [← Array.getElem?_toList, hll, List.getElem?_eraseIdx]
                  simp
                rw [hes]
                split at hj0
                · rename_i hlt'
                  rw [if_pos hlt']
                  exact he.2 j' e0 hj0
                · rename_i hlt'
                  rw [if_neg hlt']
                  exact he.2 (j' + 1) e0 hj0
            obtain ⟨k1, k2⟩ := hI.setMap (clock' := clock) ho hφ hb hB hE
            refine ⟨rfl, _, ?_, k1, k2⟩
            cases ht' : t2[1]? <;> simp only [Builtin.delete_, ht, List.getElem?_toArray, List.getElem?_cons_zero, List.getElem?_cons_succ, Sem.run_bind, run_underlying hu, Result.andThen_ok, run_getMap hb, hck, hrun, run_setMap hb, Sem.run_pure] <;> rfl
        · rename_i hf
          simp only [Option.some.injEq, Prod.mk.injEq, AOut.ok.injEq] at hev
          obtain ⟨rfl, rfl⟩ := hev
          rcases run_findKey (P := P) hl hk he hf with ⟨_, hrun⟩ | ⟨j, k', y', e', h, _⟩
          · have hself : ({ w with heap := w.heap.setIfInBounds b (.map es clock) } : World) = w := by
              have : w.heap.setIfInBounds b (.map es clock) = w.heap := by
                apply Array.ext_getElem?
                intro q
                by_cases hq : q = b
                · subst hq
                  have hlt : q < w.heap.size := (Array.getElem?_eq_some_iff.1 hb).1
                  rw [Array.getElem?_setIfInBounds_self_of_lt hlt, hb]
                · rw [Array.getElem?_setIfInBounds_ne (Ne.symm hq)]
              rw [this]
            refine ⟨rfl, w, ?_, hI, Later.refl _ _ _ _ _⟩
            simp only [Builtin.delete_, ht, List.getElem?_toArray, List.getElem?_cons_zero, List.getElem?_cons_succ, Sem.run_bind, run_underlying hu, Result.andThen_ok, run_getMap hb, hck, hrun, run_setMap hb, hself, Sem.run_pure]
            rfl
          · cases h
        · cases hev
      · cases hev
    · cases hev
  · cases hev

theorem snd_mkmap (hI : Inv w0 B s Z φ w) (t : TypeId) {v : AV} {C : CallF} {env : Env} (hev : evOp C .mkmap env s = some (.ok v, s')) :
    ValOk w0 B w Z φ s.ctr s' v ((Instr.makeMap t none).run P w) := by
  simp only [evOp, Option.some.injEq, Prod.mk.injEq, AOut.ok.injEq] at hev
  obtain ⟨rfl, rfl⟩ := hev
  have hL : Later B w Z φ s.ctr (w.alloc (.map #[] 0)) Z (phiSet φ s.ctr (.row w.heap.size 0 0)) (s.ctr + 1) :=
    later_new hI (below_alloc w _) (fun _ _ h => h) (fun _ _ h => .inl h) (fun g hg => phiSet_lt φ _ hg) (by omega)
  refine ⟨.map (some w.heap.size), w.alloc (.map #[] 0), Z, _, ?_, hI.push (below_alloc w _) hL (fun _ _ h => .inl h) (fun b i h => by have := hI.live b i h; simp; omega) ?_ rfl (fun b e n h => ?_), .map _ _ _ _ _ (Nat.lt_succ_self _) (phiSet_self _ _ _), hL⟩
  · simp [Instr.makeMap]
  · refine ⟨by omega, w.heap.size, 0, 0, phiSet_self _ _ _, hI.base, #[], 0, heap_alloc_new w _, rfl, fun i e h => by simp at h⟩
  · rw [phiSet_self] at h
    simp only [Plc.row.injEq] at h
    omega

end AI
end Go.Proofs.Ytocgbgffpdphdaa
