/- slices.Delete, as an entry of the table. -/
import Derived.Test.YtdlkcancogpafaaGreatDoorInB
set_option linter.unusedVariables false
set_option maxRecDepth 4000
set_option linter.unusedSimpArgs false
namespace Go.Proofs.YtdlkcancogpafaaGreatDoor
namespace AI
open Go.RowKit Go.Lib

theorem step_append_runI {P : Program} {ops : Array Oper} {o : Oper} {a : Act} {w : World} {K : Act → World → Prop} {Q : Exit → Act → World → Prop} {E : Prop}
    (hg : o.guard = none) (d x : Operand) (dT sT : TypeId) (hop : o.op = Op.call { callee := Callee.builtin Builtin.append, args := #[d, x], argTypes := #[dT, sT] })
    (v u : Value) (hd : a.eval d = v) (hx : a.eval x = u) {v' : Value} {w' : World} (hr : (Builtin.append_ #[dT, sT] o.type #[v, u]).run P w = .ok v' w') (hK : K (a.put o.dst v') w') :
    if Region.wanted o (yielded ops a.tmps) = true then Oper.wp P o a w K Q else E := by
  have hw : Region.wanted o (yielded ops a.tmps) = true := by simp [Region.wanted, hg]
  rw [if_pos hw]
  unfold Oper.wp
  simp [execOp, hop, resolve, invoke, builtin, hd, hx, hr, Result.andThen]
  exact hK

theorem wp_clear_runI {P : Program} (w : World) {o : Oper} {a : Act} {K : Act → World → Prop} {Q : Exit → Act → World → Prop} (d : Operand) (t : TypeId)
    (ho : o.op = .call { callee := .builtin .clear, args := #[d], argTypes := #[t] }) (v : Value) (hd : a.eval d = v) {v' : Value} {w' : World}
    (hr : (Builtin.clear_ #[t] o.type #[v]).run P w = .ok v' w') (h : K (a.put o.dst v') w') : o.wp P a w K Q := by
  unfold Oper.wp execOp
  simp only [ho, resolve, invoke, builtin, Sem.run_bind, Sem.run_pure, Result.andThen_ok, List.map_toArray, List.map_cons, List.map_nil, hd, hr]
  exact h
theorem wpList_clear_runI {P : Program} (w : World) {ops : Array Oper} {rest : List Oper} {o : Oper} {a : Act} {Q : Exit → Act → World → Prop} (hgd : o.guard = none) (d : Operand) (t : TypeId)
    (ho : o.op = .call { callee := .builtin .clear, args := #[d], argTypes := #[t] }) (v : Value) (hd : a.eval d = v) {v' : Value} {w' : World}
    (hr : (Builtin.clear_ #[t] o.type #[v]).run P w = .ok v' w') (h : wpList P ops Q rest (a.put o.dst v') w') : wpList P ops Q (o :: rest) a w :=
  wpList_plain hgd fun _ hK => wp_clear_runI w d t ho v hd hr (hK _ _ h)

theorem run_clear_rowE {P : Program} (w : World) {t ty e : TypeId} {inf : TypeInfo} {zv : Value} (hu : P.underlying t = some (.slice e)) (hi : P.info? e = some inf) (hz : inf.zero = some zv) (hzs : zv.cells.size = inf.size) (g o m cap : Nat) (hm : 0 < m) (cur : Array Value) (t' : TypeId)
    (hg : w.heap[g]? = some (.cells cur t' (0, 0))) (hfit : o + m * inf.size ≤ cur.size) (h1 : ∀ v ∈ (Builtin.zeroCells zv.cells m).toList, v.oneCell' = true) :
    (Builtin.clear_ #[t] ty #[.slice (some ⟨g, o, none⟩) m cap]).run P w = .ok (.tuple #[]) (w.setRow g (cur.toList.take o ++ (Builtin.zeroCells zv.cells m).toList ++ cur.toList.drop (o + m * inf.size)).toArray) := by
  have hl : (Builtin.zeroCells zv.cells m).toList.length = m * inf.size := by rw [Array.length_toList, size_zeroCells, hzs]
  have hst := run_storeCells_at P g o t' (Builtin.zeroCells zv.cells m).toList 0 cur w hg (by rw [hl]; simpa using hfit) h1
  obtain ⟨m, rfl⟩ : ∃ m', m = m' + 1 := ⟨m - 1, by omega⟩
  simp only [Nat.add_zero, hl] at hst
  simp [Builtin.clear_, run_underlying hu, run_zeroValue hi hz, hst]

set_option maxHeartbeats 4000000 in
set_option maxRecDepth 1000000 in
theorem delWalk (b n c i j : Nat) (cur : Array Value) (t : TypeId) (w : World) (hij : i < j) (hj : j ≤ n) (hnc : n ≤ c) (hc63 : c ≤ 9223372036854775807)
    (hb : w.heap[b]? = some (.cells cur t (0, 0))) (hcur : c * 6 = cur.size) (h1c : ∀ v ∈ cur.toList.take (n * 6), v.oneCell' = true) :
    Calls Tryz.prog 61 #[.slice (some ⟨b, 0, none⟩) n c, .int .i64 i, .int .i64 j] w fun e w' =>
      e = .returned (.slice (some ⟨b, 0, none⟩) (i + (n - j)) c) ∧ Below b w w' ∧ (∀ k, k ≠ b → w'.heap[k]? = w.heap[k]?) ∧
      ∃ rest : List Value, w'.heap[b]? = some (.cells ((cur.toList.take (n * 6)).take (i * 6) ++ (cur.toList.take (n * 6)).drop (j * 6) ++ rest).toArray t (0, 0)) ∧ rest.length = (c - (i + (n - j))) * 6 := by
  obtain ⟨i0, hi0, hz0, hzs, hzb⟩ := info_parts info_E
  have hu := Tryz.underlying22
  obtain ⟨cs, hcs⟩ : ∃ cs, cs = cur.toList.take (n * 6) := ⟨_, rfl⟩
  rw [← hcs] at h1c ⊢
  have hcl : cs.length = n * 6 := by rw [hcs]; simp; omega
  have hdl : (cs.drop (j * 6)).length = (n - j) * 6 := by rw [List.length_drop]; omega
  obtain ⟨R2, hR2⟩ : ∃ R2 : Array Value, R2 = (cur.toList.take (i * 6) ++ cs.drop (j * 6) ++ cur.toList.drop (i * 6 + (cs.drop (j * 6)).length)).toArray := ⟨_, rfl⟩
  have hR2s : R2.size = c * 6 := by rw [hR2]; simp; omega
  obtain ⟨zv, hzv⟩ : ∃ zv : Value, zv = Value.agg #[Value.int .i64 0, .int .i64 0, .string ⟨#[]⟩, .string ⟨#[]⟩, .string ⟨#[]⟩, .string ⟨#[]⟩] := ⟨_, rfl⟩
  rw [← hzv] at hz0
  have hzvs : zv.cells.size = i0.size := by rw [hzv, hzs]; rfl
  have h1z : ∀ v ∈ (Builtin.zeroCells zv.cells (j - i)).toList, v.oneCell' = true := by
    intro v hv
    have := mem_zeroCells (by rw [hzvs, hzs]; omega) hv
    rw [hzv] at this
    simp [Value.cells] at this
    rcases this with rfl | rfl <;> rfl
  obtain ⟨A, hA, hsrc⟩ : ∃ A : Addr, (if c = j then some (⟨b, 0, none⟩ : Addr) else some ⟨b, j * 6, none⟩) = some A ∧ Hid (∀ (q : Nat) (u : Value), (cs.drop (j * 6))[q]? = some u → w.drew.cell? (A.add q) = some u) := by
    by_cases h : c = j
    · refine ⟨⟨b, 0, none⟩, by simp [h], fun q u hu => ?_⟩
      have h0 : (cs.drop (j * 6)).length = 0 := by rw [hdl]; omega
      rw [List.length_eq_zero_iff.1 h0] at hu
      simp at hu
    · refine ⟨⟨b, j * 6, none⟩, by simp [h], fun q u hu => ?_⟩
      show w.cell? _ = _
      rw [Addr.add_lit, cell_of hb]
      rw [List.getElem?_drop, hcs, List.getElem?_take] at hu
      split at hu
      · simpa using hu
      · cases hu
  have hap : Hid (∀ ty, (Builtin.append_ #[22, 22] ty #[.slice (some ⟨b, 0, none⟩) i c, .slice (some A) (n - j) (c - j)]).run Tryz.prog w.drew = .ok (.slice (some ⟨b, 0, none⟩) (i + (n - j)) c) (w.drew.setRow b R2)) := fun ty => by
    have := run_append_room' (P := Tryz.prog) (ty := ty) (w := w.drew) hu hi0 b i c cur t hb A (n - j) (c - j) (cs.drop (j * 6)) (by rw [hzs, hdl]) hsrc.out (fun v hv => h1c v (List.mem_of_mem_drop hv)) (by omega) (by rw [hzs, hdl]; omega)
    rw [hzs, ← hR2] at this
    exact this
  have hB1 : (w.drew.setRow b R2).heap[b]? = some (.cells R2 t (0, 0)) := setRow_heap _ _ _ _ _ _ (show (w.drew).heap[b]? = _ from hb)
  obtain ⟨R3, hR3⟩ : ∃ R3 : Array Value, R3 = (R2.toList.take ((i + (n - j)) * 6) ++ (Builtin.zeroCells zv.cells (j - i)).toList ++ R2.toList.drop ((i + (n - j)) * 6 + (j - i) * i0.size)).toArray := ⟨_, rfl⟩
  have hcl2 : ∀ (W : World), W.heap[b]? = some (.cells R2 t (0, 0)) → ∀ ty, (Builtin.clear_ #[22] ty #[.slice (some ⟨b, (i + (n - j)) * 6, none⟩) (n - (i + (n - j))) (c - (i + (n - j)))]).run Tryz.prog W = .ok (.tuple #[]) (W.setRow b R3) := fun W hW ty => by
    rw [show n - (i + (n - j)) = j - i by omega, hR3]
    exact run_clear_rowE (P := Tryz.prog) W hu hi0 hz0 hzvs b _ (j - i) _ (by omega) R2 t hW (by rw [hzs]; omega) h1z
  have hic : i ≤ c := by omega
  have hjc : j ≤ c := by omega
  have hcl3 : ¬ (c = i + (n - j)) := by omega
  have hle1 : i + (n - j) ≤ n := by omega
  have hne : ¬ ((i : Int) = (j : Int)) := by omega
  have kR2 : Hid (R2 = (cur.toList.take (i * 6) ++ cs.drop (j * 6) ++ cur.toList.drop (i * 6 + (cs.drop (j * 6)).length)).toArray) := hR2
  have kR3 : Hid (R3 = (R2.toList.take ((i + (n - j)) * 6) ++ (Builtin.zeroCells zv.cells (j - i)).toList ++ R2.toList.drop ((i + (n - j)) * 6 + (j - i) * i0.size)).toArray) := hR3
  have kcs : Hid (cs = cur.toList.take (n * 6)) := hcs
  have kdl : Hid ((cs.drop (j * 6)).length = (n - j) * 6) := hdl
  have kR2s : Hid (R2.size = c * 6) := hR2s
  have kcur : Hid (c * 6 = cur.size) := hcur
  have kzv : Hid (zv.cells.size = i0.size) := hzvs
  clear hdl hR2 hR3 hcs hR2s hcur hzv hzvs h1z
  go_enter Tryz.func61, Tryz.ntmps61
  go_wp2_with fail
  go_region_law (refine step_append_runI rfl _ _ 22 22 rfl (.slice (some ⟨b, 0, none⟩) i c) (.slice (some A) (n - j) (c - j)) (by simp [Act.eval, Act.put]) (by simp [Act.eval, Act.put]) (hap.out _) ?_)
  go_wp2_with (refine wpList_clear_runI _ rfl _ 22 rfl _ rfl (hcl2 _ hB1 _) ?_)
  go_ret
  refine ⟨rfl, ⟨rfl, rfl, rfl, ?_, fun k hk => ?_⟩, fun k hk => ?_, (Builtin.zeroCells zv.cells (j - i)).toList ++ R2.toList.drop ((i + (n - j)) * 6 + (j - i) * i0.size), ?_, ?_⟩
  · have h1 : ∀ (W : World) (g : Nat) (r : Array Value), (W.setRow g r).heap.size = W.heap.size := fun W g r => by simp
    rw [h1, h1]
    exact Nat.le_refl _
  · exact (setRow_other _ _ _ _ (by omega)).trans (setRow_other _ _ _ _ (by omega))
  · exact (setRow_other _ _ _ _ hk).trans (setRow_other _ _ _ _ hk)
  · rw [setRow_heap _ _ _ _ _ _ hB1]
    have e2 := kR2.out
    have e3 := kR3.out
    have e4 := kcs.out
    have e5 := kcur.out
    have e6 := kdl.out
    have a1 : cur.toList.take (i * 6) = cs.take (i * 6) := by rw [e4, List.take_take]; congr 1; omega
    have a2 : R2.toList.take ((i + (n - j)) * 6) = cs.take (i * 6) ++ cs.drop (j * 6) := by
      rw [e2, a1]
      exact List.take_left' (by rw [List.length_append, List.length_take, e6]; omega)
    rw [e3, a2]
    simp only [List.append_assoc]
  · have e5 := kR2s.out
    have e6 := kzv.out
    rw [List.length_append, List.length_drop, Array.length_toList, Array.length_toList, size_zeroCells, e5, e6, hzs]
    have := Nat.add_mul i (n - j) 6
    have := Nat.sub_mul c (i + (n - j)) 6
    omega

/-- what is asked of it -/
def delSpec : List AV → Sto → Option (AOut × Sto)
  | [.own o g 0 n, .int .i64 z, .int .i64 y], s => match nth s.σ o with
    | some (.arr g' es nn cl elems) =>
      if g = g' ∧ es = 6 ∧ 0 ≤ z ∧ z < y ∧ y.toNat ≤ n ∧ n ≤ elems.length then
        some (.ok (.own o s.ctr 0 (z.toNat + (n - y.toNat))), ⟨s.σ.set o (.arr s.ctr 6 true cl ((elems.take n).take z.toNat ++ (elems.take n).drop y.toNat)), s.ctr + 1⟩)
      else none
    | _ => none
  | _, _ => none

set_option maxHeartbeats 1000000 in
theorem del_ok : CallSound Tryz.prog fun f' args s => if f' = 61 then delSpec args s else none := by
  intro f args s out s' h
  replace h : (if f = 61 then delSpec args s else none) = some (out, s') := h
  rcases Decidable.em (f = 61) with hf | hf
  case inr => rw [if_neg hf] at h; cases h
  rw [if_pos hf] at h
  subst hf
  unfold delSpec at h
  split at h
  case h_2 => cases h
  rename_i o g n z y
  split at h
  case h_2 => cases h
  rename_i g' es nn cl elems ho
  split at h
  case isFalse => cases h
  rename_i hc
  obtain ⟨rfl, rfl, hz0, hzy, hyn, hlen⟩ := hc
  simp only [Option.some.injEq, Prod.mk.injEq] at h
  obtain ⟨rfl, rfl⟩ := h
  obtain ⟨z, rfl⟩ : ∃ z' : Nat, z = (z' : Int) := ⟨z.toNat, by omega⟩
  obtain ⟨y, rfl⟩ : ∃ y' : Nat, y = (y' : Int) := ⟨y.toNat, by omega⟩
  simp only [Int.toNat_natCast] at hyn ⊢
  refine ⟨⟨_, Tryz.func61, rfl, by decide⟩, fun w0 B Z φ w vs hI hargs => ?_⟩
  obtain ⟨hl, ha⟩ := hargs
  obtain ⟨v0, h0, r0⟩ := ha 0 _ rfl
  obtain ⟨v1, h1, r1⟩ := ha 1 _ rfl
  obtain ⟨v2, h2, r2⟩ := ha 2 _ rfl
  have hvs : vs = #[v0, v1, v2] := by
    apply Array.ext_getElem?
    intro i
    match i with
    | 0 => exact h0
    | 1 => exact h1
    | 2 => exact h2
    | i + 3 => rw [Array.getElem?_eq_none (by rw [← hl]; simp), Array.getElem?_eq_none (by simp)]
  subst hvs
  cases r1
  cases r2
  rw [nth_eq] at ho
  obtain ⟨og, hes, h3⟩ := hI.objs o _ ho
  obtain ⟨i0, hi0, hz1, hzs, hzb⟩ := info_parts info_E
  cases r0 with
  | ownNil => omega
  | ownZc => omega
  | own _ _ _ _ b es' size cap ad hg hφ hcap ha' hs =>
  obtain ⟨rfl, hsize, hcm⟩ := ha' (.inr rfl)
  rw [hφ] at h3
  obtain ⟨rfl, he, hB, hnz, hfit, cur, ct, hw, hcs, hH⟩ := h3
  subst he
  simp only [Nat.zero_mul, Nat.zero_add] at *
  obtain ⟨p1, p2⟩ := hH.flat_take (by omega) hlen (by omega)
  have hcl1 := holds_closed hH
  have hAl : ((elems.take n).take z).length = z := by rw [List.length_take, List.length_take]; omega
  have hAy : ((elems.take n).take y).length = y := by rw [List.length_take, List.length_take]; omega
  have hpA : AllSize 6 ((elems.take n).take z) := fun q hq => p2 q (List.mem_of_mem_take hq)
  have hpY : AllSize 6 ((elems.take n).take y) := fun q hq => p2 q (List.mem_of_mem_take hq)
  have hpB : AllSize 6 ((elems.take n).drop y) := fun q hq => p2 q (List.mem_of_mem_drop hq)
  have hfl : (flat ((elems.take n).take z)).length = z * 6 := by rw [flat_length hpA, hAl]
  have hfy : (flat ((elems.take n).take y)).length = y * 6 := by rw [flat_length hpY, hAy]
  have p1' : CellsRep w Z φ s.ctr (flat ((elems.take n).take z) ++ flat ((elems.take n).drop z)) (cur.toList.take (n * 6)).toArray := by
    rw [← flat_append, List.take_append_drop]; exact p1
  have p1y : CellsRep w Z φ s.ctr (flat ((elems.take n).take y) ++ flat ((elems.take n).drop y)) (cur.toList.take (n * 6)).toArray := by
    rw [← flat_append, List.take_append_drop]; exact p1
  have s1 := p1'.split.1
  have s2 := p1y.split.2
  rw [hfl] at s1
  rw [hfy] at s2
  have hHn : Holds w Z φ s.ctr ((cur.toList.take (n * 6)).take (z * 6) ++ (cur.toList.take (n * 6)).drop (y * 6)).toArray 6 cl ((elems.take n).take z ++ (elems.take n).drop y) := by
    refine CellsRep.holds (fun q hq => ?_) (by rw [flat_append]; exact s1.append s2) (fun hc q hq => ?_)
    · rcases List.mem_append.1 hq with hq | hq
      · exact hpA q hq
      · exact hpB q hq
    · rcases List.mem_append.1 hq with hq | hq
      · exact hcl1 hc q (List.mem_of_mem_take (List.mem_of_mem_take hq))
      · exact hcl1 hc q (List.mem_of_mem_take (List.mem_of_mem_drop hq))
  have hlen' : ((elems.take n).take z ++ (elems.take n).drop y).length = z + (n - y) := by
    simp only [List.length_append, List.length_take, List.length_drop]; omega
  have hnsz : ((cur.toList.take (n * 6)).take (z * 6) ++ (cur.toList.take (n * 6)).drop (y * 6)).length = (z + (n - y)) * 6 := by
    simp only [List.length_append, List.length_take, List.length_drop, Array.length_toList]; omega
  refine (delWalk b n cap z y cur ct w (by omega) hyn hcap (by unfold maxLen at hcm; omega) hw (by omega) (cellsRep_one p1)).mono ?_
  rintro e w' ⟨rfl, hbel, hoth, rest, hw', hrest⟩
  obtain ⟨φ', k1, k2, k3⟩ := inv_row hI ho (by omega) hφ hB hnz (hbel.mono (by omega)) hoth hw' (by
    rw [List.size_toArray, List.length_append, hnsz, hrest]; omega) (hHn.extend fun k hk => by
      rw [List.getElem?_toArray, List.getElem?_append_left hk]) hsize (by rw [hlen']; omega) hcm
  rw [hlen'] at k2
  exact ⟨Z, φ', k1, k3, _, rfl, k2⟩

end AI
end Go.Proofs.YtdlkcancogpafaaGreatDoor
