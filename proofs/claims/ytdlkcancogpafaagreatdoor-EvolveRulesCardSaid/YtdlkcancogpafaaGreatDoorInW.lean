/- slices.Insert of one element: the walks, at elements of several cells. -/
import Derived.Test.YtdlkcancogpafaaGreatDoorChecked
import Derived.Test.YtdlkcancogpafaaGreatDoorInA
import Derived.Shelf.Spec.SlicesInsertGrow
import Derived.WalkKit
import Derived.Deep.RegionLaw
set_option linter.unusedVariables false
set_option maxRecDepth 4000
set_option linter.unusedSimpArgs false
namespace Go.Proofs.YtdlkcancogpafaaGreatDoor
namespace AI
open Go.RowKit Go.Lib

theorem info_E : (Tryz.prog.info? 27).map (fun i => (i.zero, i.size, i.bytes)) = some (some (Value.agg #[.int .i64 0, .int .i64 0, .string ⟨#[]⟩, .string ⟨#[]⟩, .string ⟨#[]⟩, .string ⟨#[]⟩]), 6, 80) := by kernel_rfl

theorem cell_of {w : World} {b : Nat} {c : Array Value} {t : TypeId} (h : w.heap[b]? = some (.cells c t (0, 0))) (j : Nat) : w.cell? ⟨b, j, none⟩ = c[j]? := by
  simp [World.cell?, h]

set_option maxHeartbeats 4000000 in
set_option maxRecDepth 1000000 in
theorem insGrow (b n c i vb vc : Nat) (cur vcur : Array Value) (t tv : TypeId) (w : World) (hi : i < n) (hnc : n ≤ c) (hroom : c < n + 1) (hbig : (n + 1) * 80 ≤ 70368744177664)
    (hb : w.heap[b]? = some (.cells cur t (0, 0))) (hv : w.heap[vb]? = some (.cells vcur tv (0, 0))) (hcur : n * 6 ≤ cur.size) (hvcur : 6 ≤ vcur.size)
    (h1c : ∀ v ∈ cur.toList.take (n * 6), v.oneCell' = true) (h1v : ∀ v ∈ vcur.toList.take 6, v.oneCell' = true) :
    Calls Tryz.prog 59 #[.slice (some ⟨b, 0, none⟩) n c, .int .i64 i, .slice (some ⟨vb, 0, none⟩) 1 vc] w fun e w' =>
      e = .returned (.slice (some ⟨w.heap.size, 0, none⟩) (n + 1) (grownCap w (n + 1) c 27)) ∧ Below w.heap.size w w' ∧
      ∃ rest : List Value, rest.length = (grownCap w (n + 1) c 27 - (n + 1)) * 6 ∧ w'.heap[w.heap.size]? = some (.cells ((cur.toList.take (n * 6)).take (i * 6) ++ vcur.toList.take 6 ++ (cur.toList.take (n * 6)).drop (i * 6) ++ rest).toArray 27 (0, 0)) := by
  obtain ⟨i0, hi0, hz0, hzs, hzb⟩ := info_parts info_E
  have hu := Tryz.underlying22
  have hz1 : ¬ ((1 : Int) = 0) := by omega
  have hz2 : ¬ ((i : Int) = (n : Int)) := by omega
  have hz3 : (c : Int) < (n : Int) + 1 := by omega
  have hkk : (n : Int) + 1 - (i : Int) = ((n + 1 - i : Nat) : Int) := by omega
  obtain ⟨cs, hcs⟩ : ∃ cs, cs = cur.toList.take (n * 6) := ⟨_, rfl⟩
  obtain ⟨vs, hvs⟩ : ∃ vs, vs = vcur.toList.take 6 := ⟨_, rfl⟩
  rw [← hcs] at h1c ⊢
  rw [← hvs] at h1v ⊢
  have hcl : cs.length = n * 6 := by rw [hcs]; simp; omega
  have hvl : vs.length = 6 := by rw [hvs]; simp; omega
  obtain ⟨zc, hzc⟩ : ∃ zc : Array Value, zc = #[Value.int .i64 0, .int .i64 0, .string ⟨#[]⟩, .string ⟨#[]⟩, .string ⟨#[]⟩, .string ⟨#[]⟩] := ⟨_, rfl⟩
  have hzcs : zc.size = 6 := by rw [hzc]; rfl
  have hhold : (Builtin.firstCells i0.size i (.slice (some ⟨b, 0, none⟩) i c)).run Tryz.prog w.drew = .ok (cs.take (i * 6)).toArray w.drew := by
    rw [hzs]
    refine run_firstCells_some w.drew 6 i ⟨b, 0, none⟩ i c (cs.take (i * 6)) (by rw [List.length_take]; omega) (fun j v hj => ?_)
    rw [Addr.add_lit, Nat.zero_add]
    show w.cell? _ = _
    rw [cell_of hb]
    rw [List.getElem?_take] at hj
    split at hj
    · rw [hcs, List.getElem?_take] at hj
      split at hj
      · simpa using hj
      · cases hj
    · cases hj
  obtain ⟨G, hG⟩ : ∃ G, G = grownCap w (n + 1) c 27 := ⟨_, rfl⟩
  have hrz : ∀ ty, (Builtin.append_ #[22, 3] ty #[.slice (some ⟨b, 0, none⟩) i c, .int .i64 ((n : Int) + 1 - (i : Int))]).run Tryz.prog w =
      .ok (.slice (some ⟨w.heap.size, 0, none⟩) (n + 1) G) (w.drew.alloc (.cells ((cs.take (i * 6)).toArray ++ Builtin.zeroCells zc (n + 1 - i) ++ Builtin.zeroCells zc (G - (n + 1))) 27)) := fun ty => by
    have h := Lib.run_append_grow_zeros (P := Tryz.prog) w 22 3 ty 27 i0 _ .i64 .i64 hu Tryz.underlying3 hi0 hz0 (some ⟨b, 0, none⟩) i c (cs.take (i * 6)) hhold (n + 1 - i) (by omega) (by omega) (by omega) (by omega) (by rw [hzb]; omega) (by rw [hzb, show i + (n + 1 - i) = n + 1 by omega]; exact growslice_fits hroom (by omega))
    rw [show i + (n + 1 - i) = n + 1 by omega, ← hG] at h
    rw [hkk, hzc]
    exact h
  obtain ⟨ROW, hROW⟩ : ∃ ROW : Array Value, ROW = (cs.take (i * 6)).toArray ++ Builtin.zeroCells zc (n + 1 - i) ++ Builtin.zeroCells zc (G - (n + 1)) := ⟨_, rfl⟩
  rw [← hROW] at hrz
  have hGn : n + 1 ≤ G := by rw [hG]; exact grownCap_ge w _ _ _
  have hG63 : G ≤ 9223372036854775807 := by
    have := grownCap_le_maxLen w (n + 1) c 27 (by unfold maxLen; omega)
    rw [← hG] at this
    unfold maxLen at this
    omega
  have hRs : ROW.size = G * 6 := by
    rw [hROW]
    simp only [Array.size_append, List.size_toArray, size_zeroCells, hzcs, List.length_take]
    omega
  have hGi : ¬ (G = i) := by omega
  have hGi1 : ¬ (G = i + 1) := by omega
  have hci : ¬ (c = i) := by omega
  have hbw : b < w.heap.size := (Array.getElem?_eq_some_iff.1 hb).1
  have hvw : vb < w.heap.size := (Array.getElem?_eq_some_iff.1 hv).1
  have hA1 : ((w.alloc (.cells ROW 27)).drew).heap[w.heap.size]? = some (.cells ROW 27 (0, 0)) := heap_alloc_new w _
  have hA2 : ∀ k, k < w.heap.size → ((w.alloc (.cells ROW 27)).drew).heap[k]? = w.heap[k]? := fun k hk => by
    show (w.heap.push _)[k]? = _
    rw [Array.getElem?_push_lt (by omega)]
    exact (Array.getElem?_eq_getElem (by omega)).symm
  obtain ⟨R2, hR2⟩ : ∃ R2 : Array Value, R2 = (ROW.toList.take (i * 6) ++ vs ++ ROW.toList.drop (i * 6 + vs.length)).toArray := ⟨_, rfl⟩
  have hR2s : R2.size = G * 6 := by rw [hR2]; simp; omega
  obtain ⟨R3, hR3⟩ : ∃ R3 : Array Value, R3 = (R2.toList.take ((i + 1) * 6) ++ cs.drop (i * 6) ++ R2.toList.drop ((i + 1) * 6 + (cs.drop (i * 6)).length)).toArray := ⟨_, rfl⟩
  have hdl : (cs.drop (i * 6)).length = (n - i) * 6 := by rw [List.length_drop]; omega
  have hcpA : ∀ (W : World), W.heap[w.heap.size]? = some (.cells ROW 27 (0, 0)) → (∀ k, k < w.heap.size → W.heap[k]? = w.heap[k]?) → ∀ ty dc,
      (Builtin.copy_ #[22, 22] ty #[.slice (some ⟨w.heap.size, i * 6, none⟩) (n + 1 - i) dc, .slice (some ⟨vb, 0, none⟩) 1 vc]).run Tryz.prog W = .ok (goInt 1) (W.setRow w.heap.size R2) := fun W hWh hWo ty dc => by
    have hm : Nat.min 1 (n + 1 - i) = 1 := by simp only [Nat.min_def]; split <;> omega
    have := run_copy_rowE (P := Tryz.prog) (ty := ty) (sT := 22) W w.heap.size (i * 6) (n + 1 - i) dc ⟨vb, 0, none⟩ 1 vc ROW 27 vs hu hi0 hWh (by rw [hm, hzs]; omega) (fun j v hj => by
      rw [Addr.add_lit, Nat.zero_add, cell_of ((hWo vb hvw).trans hv)]
      rw [hvs, List.getElem?_take] at hj
      split at hj
      · simpa using hj
      · cases hj) (by omega) h1v
    rw [hm, ← hR2] at this
    exact this
  have hcpB : ∀ (W : World), W.heap[w.heap.size]? = some (.cells R2 27 (0, 0)) → (∀ k, k < w.heap.size → W.heap[k]? = w.heap[k]?) → ∀ ty dc sc,
      (Builtin.copy_ #[22, 22] ty #[.slice (some ⟨w.heap.size, (i + 1) * 6, none⟩) (n + 1 - (i + 1)) dc, .slice (some ⟨b, i * 6, none⟩) (n - i) sc]).run Tryz.prog W = .ok (goInt ((n - i : Nat) : Int)) (W.setRow w.heap.size R3) := fun W hWh hWo ty dc sc => by
    have hm : Nat.min (n - i) (n + 1 - (i + 1)) = n - i := by simp only [Nat.min_def]; split <;> omega
    have := run_copy_rowE (P := Tryz.prog) (ty := ty) (sT := 22) W w.heap.size ((i + 1) * 6) (n + 1 - (i + 1)) dc ⟨b, i * 6, none⟩ (n - i) sc R2 27 (cs.drop (i * 6)) hu hi0 hWh (by rw [hm, hzs, hdl]) (fun j v hj => by
      rw [Addr.add_lit, cell_of ((hWo b hbw).trans hb)]
      rw [List.getElem?_drop, hcs, List.getElem?_take] at hj
      split at hj
      · simpa using hj
      · cases hj) (by omega) (fun v hv => h1c v (List.mem_of_mem_drop hv))
    rw [hm, ← hR3] at this
    exact this
  have hB1 : ((((w.alloc (.cells ROW 27)).drew).setRow w.heap.size R2).drew).heap[w.heap.size]? = some (.cells R2 27 (0, 0)) := setRow_heap _ _ _ _ _ _ hA1
  have hB2 : ∀ k, k < w.heap.size → ((((w.alloc (.cells ROW 27)).drew).setRow w.heap.size R2).drew).heap[k]? = w.heap[k]? := fun k hk => (setRow_other _ _ _ _ (by omega)).trans (hA2 k hk)
  have hw1 : IntKind.i64.wrap ((i : Int) + 1) = (i : Int) + 1 := by rw [IntKind.wrap_i64]; omega
  have hw2 : IntKind.i64.wrap ((n : Int) + 1) = (n : Int) + 1 := by rw [IntKind.wrap_i64]; omega
  have hw3 : IntKind.i64.wrap ((n : Int) + 1 - (i : Int)) = (n : Int) + 1 - (i : Int) := by rw [IntKind.wrap_i64]; omega
  have hb1 : (0 : Int) ≤ (i : Int) + 1 := by omega
  have hin : i ≤ n := by omega
  have htn : ((i : Int) + 1).toNat = i + 1 := by omega
  have hb3 : (i : Int) ≤ (n : Int) := by omega
  have hb4 : (i : Int) + 1 ≤ (n : Int) + 1 := by omega
  have hic : i ≤ c := by omega
  have kROW : Hid (ROW = (cs.take (i * 6)).toArray ++ Builtin.zeroCells zc (n + 1 - i) ++ Builtin.zeroCells zc (G - (n + 1))) := hROW
  have kR2 : Hid (R2 = (ROW.toList.take (i * 6) ++ vs ++ ROW.toList.drop (i * 6 + vs.length)).toArray) := hR2
  have kR3 : Hid (R3 = (R2.toList.take ((i + 1) * 6) ++ cs.drop (i * 6) ++ R2.toList.drop ((i + 1) * 6 + (cs.drop (i * 6)).length)).toArray) := hR3
  have kcs : Hid (cs = cur.toList.take (n * 6)) := hcs
  have kvs : Hid (vs = vcur.toList.take 6) := hvs
  have kdl : Hid ((cs.drop (i * 6)).length = (n - i) * 6) := hdl
  have kRs : Hid (ROW.size = G * 6) := hRs
  have kR2s : Hid (R2.size = G * 6) := hR2s
  have kzc : Hid (zc.size = 6) := hzcs
  clear hkk hhold hROW hRs hdl hR2 hR3 hcs hvs hR2s hzc hzcs
  subst hG
  go_enter Tryz.func59, Tryz.ntmps59
  go_wp2_with (first
    | (at_builtin; refine Lib.wpList_append_run _ rfl _ _ _ _ rfl _ _ rfl rfl _ _ (hrz _) ?_)
    | (refine wpList_copy_runI _ rfl _ _ 22 22 rfl _ _ rfl rfl (hcpA _ hA1 hA2 _ _) ?_))
  go_region_law (refine step_copy_runI rfl _ _ 22 22 rfl (.slice (some ⟨w.heap.size, (i + 1) * 6, none⟩) (n + 1 - (i + 1)) (grownCap w (n + 1) c 27 - (i + 1))) (.slice (some ⟨b, i * 6, none⟩) (n - i) (c - i)) (by simp [Act.eval, Act.put]) (by simp [Act.eval, Act.put]) (hcpB _ hB1 hB2 _ _ _) ?_)
  go_wp2
  go_ret
  refine ⟨rfl, ⟨rfl, rfl, rfl, ?_, fun k hk => ?_⟩, R2.toList.drop ((i + 1) * 6 + (cs.drop (i * 6)).length), ?_, ?_⟩
  · have h1 : ∀ (W : World) (g : Nat) (r : Array Value), (W.setRow g r).heap.size = W.heap.size := fun W g r => by simp
    show w.heap.size ≤ ((((w.alloc (.cells ROW 27)).drew).setRow w.heap.size R2).drew.setRow w.heap.size R3).heap.size
    rw [h1]
    show w.heap.size ≤ (((w.alloc (.cells ROW 27)).drew).setRow w.heap.size R2).heap.size
    rw [h1]
    show w.heap.size ≤ (w.heap.push _).size
    simp
  · exact (setRow_other _ _ _ _ (by omega)).trans (hB2 k hk)
  · have e1 := kR2s.out
    have e2 := kdl.out
    rw [List.length_drop, Array.length_toList, e1, e2]
    omega
  · rw [setRow_heap _ _ _ _ _ _ hB1]
    have e1 := kROW.out
    have e2 := kR2.out
    have e3 := kR3.out
    have a1 : ROW.toList.take (i * 6) = cs.take (i * 6) := by
      rw [e1]
      simp only [Array.toList_append, List.append_assoc]
      exact List.take_left' (by rw [List.length_take]; omega)
    have a2 : R2.toList.take ((i + 1) * 6) = cs.take (i * 6) ++ vs := by
      rw [e2, a1]
      exact List.take_left' (by rw [List.length_append, List.length_take]; omega)
    rw [e3, a2]

theorem size_E (i0 : TypeInfo) (hi0 : Tryz.prog.info? 27 = some i0) (hzs : i0.size = 6) (w : World) : (Go.sizeOf 27).run Tryz.prog w = .ok 6 w := by
  simp [sizeOf, typeInfo, hi0, hzs]

set_option maxHeartbeats 4000000 in
set_option maxRecDepth 1000000 in
theorem insShift (b n c i vb vc : Nat) (cur vcur : Array Value) (t tv : TypeId) (w : World) (hi : i < n) (hroom : n + 1 ≤ c) (hc63 : c ≤ 9223372036854775807) (hne : vb ≠ b)
    (hb : w.heap[b]? = some (.cells cur t (0, 0))) (hv : w.heap[vb]? = some (.cells vcur tv (0, 0))) (hcur : c * 6 = cur.size) (hvcur : 6 ≤ vcur.size)
    (h1c : ∀ v ∈ cur.toList.take (n * 6), v.oneCell' = true) (h1v : ∀ v ∈ vcur.toList.take 6, v.oneCell' = true) :
    Calls Tryz.prog 59 #[.slice (some ⟨b, 0, none⟩) n c, .int .i64 i, .slice (some ⟨vb, 0, none⟩) 1 vc] w fun e w' =>
      e = .returned (.slice (some ⟨b, 0, none⟩) (n + 1) c) ∧ Below b w w' ∧ (∀ k, k ≠ b → w'.heap[k]? = w.heap[k]?) ∧
      ∃ rest : List Value, w'.heap[b]? = some (.cells ((cur.toList.take (n * 6)).take (i * 6) ++ vcur.toList.take 6 ++ (cur.toList.take (n * 6)).drop (i * 6) ++ rest).toArray t (0, 0)) ∧ rest.length = (c - (n + 1)) * 6 := by
  obtain ⟨i0, hi0, hz0, hzs, hzb⟩ := info_parts info_E
  have hu := Tryz.underlying22
  have hz1 : ¬ ((1 : Int) = 0) := by omega
  have hz2 : ¬ ((i : Int) = (n : Int)) := by omega
  have hz3 : ¬ ((c : Int) < (n : Int) + 1) := by omega
  obtain ⟨cs, hcs⟩ : ∃ cs, cs = cur.toList.take (n * 6) := ⟨_, rfl⟩
  obtain ⟨vs, hvs⟩ : ∃ vs, vs = vcur.toList.take 6 := ⟨_, rfl⟩
  rw [← hcs] at h1c ⊢
  rw [← hvs] at h1v ⊢
  have hcl : cs.length = n * 6 := by rw [hcs]; simp; omega
  have hvl : vs.length = 6 := by rw [hvs]; simp; omega
  have hdl : (cs.drop (i * 6)).length = (n - i) * 6 := by rw [List.length_drop]; omega
  obtain ⟨R2, hR2⟩ : ∃ R2 : Array Value, R2 = (cur.toList.take ((i + 1) * 6) ++ cs.drop (i * 6) ++ cur.toList.drop ((i + 1) * 6 + (cs.drop (i * 6)).length)).toArray := ⟨_, rfl⟩
  have hR2s : R2.size = c * 6 := by rw [hR2]; simp; omega
  obtain ⟨R3, hR3⟩ : ∃ R3 : Array Value, R3 = (R2.toList.take (i * 6) ++ vs ++ R2.toList.drop (i * 6 + vs.length)).toArray := ⟨_, rfl⟩
  have hov : ∀ lb cb, (callFunc 102 #[.slice (some ⟨vb, 0, none⟩) 1 vc, .slice (some ⟨b, (i + 1) * 6, none⟩) lb cb]).run Tryz.prog w = .ok (.value (.bool false)) w := fun lb cb => by
    rw [run_callFunc_extern Tryz.func102 (by kernel_rfl) (by kernel_rfl) (by kernel_rfl) (e := Extern.SlicesOverlaps.overlaps #[22, 22] #[4]) (by kernel_rfl),
      Lib.run_overlaps_apart w 22 4 27 hu 6 (size_E i0 hi0 hzs) ⟨vb, 0, none⟩ ⟨b, (i + 1) * 6, none⟩ 1 vc lb cb hne tv t vcur.size cur.size (by simp [World.shape?, hv]) (by simp [World.shape?, hb]) (by omega) (by simp [World.frozen?, hv]) (by simp [World.frozen?, hv])]
    rfl
  have hcpA : ∀ (W : World), W.heap[b]? = some (.cells cur t (0, 0)) → ∀ ty dc sc,
      (Builtin.copy_ #[22, 22] ty #[.slice (some ⟨b, (i + 1) * 6, none⟩) (n + 1 - (i + 1)) dc, .slice (some ⟨b, i * 6, none⟩) (n + 1 - i) sc]).run Tryz.prog W = .ok (goInt ((n - i : Nat) : Int)) (W.setRow b R2) := fun W hWh ty dc sc => by
    have hm : Nat.min (n + 1 - i) (n + 1 - (i + 1)) = n - i := by simp only [Nat.min_def]; split <;> omega
    have := run_copy_rowE (P := Tryz.prog) (ty := ty) (sT := 22) W b ((i + 1) * 6) (n + 1 - (i + 1)) dc ⟨b, i * 6, none⟩ (n + 1 - i) sc cur t (cs.drop (i * 6)) hu hi0 hWh (by rw [hm, hzs, hdl]) (fun j v hj => by
      rw [Addr.add_lit, cell_of hWh]
      rw [List.getElem?_drop, hcs, List.getElem?_take] at hj
      split at hj
      · simpa using hj
      · cases hj) (by omega) (fun v hv => h1c v (List.mem_of_mem_drop hv))
    rw [hm, ← hR2] at this
    exact this
  have hA1 : (w.drew).heap[b]? = some (.cells cur t (0, 0)) := hb
  have hB1 : (w.drew.setRow b R2).heap[b]? = some (.cells R2 t (0, 0)) := setRow_heap _ _ _ _ _ _ hA1
  have hB2 : (w.drew.setRow b R2).heap[vb]? = some (.cells vcur tv (0, 0)) := (setRow_other _ _ _ _ hne).trans hv
  have hcpB : ∀ (W : World), W.heap[b]? = some (.cells R2 t (0, 0)) → W.heap[vb]? = some (.cells vcur tv (0, 0)) → ∀ ty dc,
      (Builtin.copy_ #[22, 22] ty #[.slice (some ⟨b, i * 6, none⟩) (n + 1 - i) dc, .slice (some ⟨vb, 0, none⟩) 1 vc]).run Tryz.prog W = .ok (goInt 1) (W.setRow b R3) := fun W hWh hWv ty dc => by
    have hm : Nat.min 1 (n + 1 - i) = 1 := by simp only [Nat.min_def]; split <;> omega
    have := run_copy_rowE (P := Tryz.prog) (ty := ty) (sT := 22) W b (i * 6) (n + 1 - i) dc ⟨vb, 0, none⟩ 1 vc R2 t vs hu hi0 hWh (by rw [hm, hzs]; omega) (fun j v hj => by
      rw [Addr.add_lit, Nat.zero_add, cell_of hWv]
      rw [hvs, List.getElem?_take] at hj
      split at hj
      · simpa using hj
      · cases hj) (by omega) h1v
    rw [hm, ← hR3] at this
    exact this
  have hw1 : IntKind.i64.wrap ((i : Int) + 1) = (i : Int) + 1 := by rw [IntKind.wrap_i64]; omega
  have hw2 : IntKind.i64.wrap ((n : Int) + 1) = (n : Int) + 1 := by rw [IntKind.wrap_i64]; omega
  have hb1 : (0 : Int) ≤ (i : Int) + 1 := by omega
  have hb0 : (0 : Int) ≤ (n : Int) + 1 := by omega
  have hin : i ≤ n := by omega
  have htn : ((i : Int) + 1).toNat = i + 1 := by omega
  have htn2 : ((n : Int) + 1).toNat = n + 1 := by omega
  have hb3 : (i : Int) ≤ (n : Int) + 1 := by omega
  have hb4 : (i : Int) + 1 ≤ (n : Int) + 1 := by omega
  have hb5 : (n : Int) + 1 ≤ (c : Int) := by omega
  have hci : ¬ (c = i) := by omega
  have hci1 : ¬ (c = i + 1) := by omega
  have hic : i ≤ c := by omega
  have kR2 : Hid (R2 = (cur.toList.take ((i + 1) * 6) ++ cs.drop (i * 6) ++ cur.toList.drop ((i + 1) * 6 + (cs.drop (i * 6)).length)).toArray) := hR2
  have kR3 : Hid (R3 = (R2.toList.take (i * 6) ++ vs ++ R2.toList.drop (i * 6 + vs.length)).toArray) := hR3
  have kcs : Hid (cs = cur.toList.take (n * 6)) := hcs
  have kdl : Hid ((cs.drop (i * 6)).length = (n - i) * 6) := hdl
  have kR2s : Hid (R2.size = c * 6) := hR2s
  have kcur : Hid (c * 6 = cur.size) := hcur
  clear hdl hR2 hR3 hcs hvs hR2s hcur
  go_enter Tryz.func59, Tryz.ntmps59
  go_wp2_with (simp only [hov])
  go_region_law (refine step_copy_runI rfl _ _ 22 22 rfl (.slice (some ⟨b, (i + 1) * 6, none⟩) (n + 1 - (i + 1)) (c - (i + 1))) (.slice (some ⟨b, i * 6, none⟩) (n + 1 - i) (c - i)) (by simp [Act.eval, Act.put]) (by simp [Act.eval, Act.put]) (hcpA _ hA1 _ _ _) ?_)
  go_wp2_with (refine wpList_copy_runI _ rfl _ _ 22 22 rfl _ _ rfl rfl (hcpB _ hB1 hB2 _ _) ?_)
  go_ret
  refine ⟨rfl, ⟨rfl, rfl, rfl, ?_, fun k hk => ?_⟩, fun k hk => ?_, cur.toList.drop ((i + 1) * 6 + (cs.drop (i * 6)).length), ?_, ?_⟩
  · have h1 : ∀ (W : World) (g : Nat) (r : Array Value), (W.setRow g r).heap.size = W.heap.size := fun W g r => by simp
    rw [h1, h1]
    exact Nat.le_refl _
  · exact (setRow_other _ _ _ _ (by omega)).trans (setRow_other _ _ _ _ (by omega))
  · exact (setRow_other _ _ _ _ hk).trans (setRow_other _ _ _ _ hk)
  · rw [setRow_heap _ _ _ _ _ _ hB1]
    have e2 := kR2.out
    have e3 := kR3.out
    have e4 := kcs.out
    have e5 := kcur.out
    have a1 : cur.toList.take (i * 6) = cs.take (i * 6) := by rw [e4, List.take_take]; congr 1; omega
    have a2 : R2.toList.take (i * 6) = cs.take (i * 6) := by
      rw [e2]
      simp only [List.append_assoc]
      rw [List.take_append_of_le_length (by rw [List.length_take, Array.length_toList]; omega), List.take_take, ← a1]
      congr 1; omega
    have a3 : R2.toList.drop (i * 6 + vs.length) = cs.drop (i * 6) ++ cur.toList.drop ((i + 1) * 6 + (cs.drop (i * 6)).length) := by
      rw [e2, hvl]
      simp only [List.append_assoc]
      exact List.drop_left' (by rw [List.length_take, Array.length_toList]; omega)
    rw [e3, a2, a3]
    simp only [List.append_assoc]
  · have e2 := kdl.out
    have e5 := kcur.out
    rw [List.length_drop, Array.length_toList, e2]
    omega

set_option maxHeartbeats 4000000 in
set_option maxRecDepth 1000000 in
theorem insEnd (base : Option Addr) (n c vc : Nat) (va : Addr) (w w1 : World) (x : Value) (hnil : base = none → n = 0) (hnc : n ≤ c)
    (hrun : ∀ ty, (Builtin.append_ #[22, 22] ty #[.slice base n c, .slice (some va) 1 vc]).run Tryz.prog w = .ok x w1) :
    Calls Tryz.prog 59 #[.slice base n c, .int .i64 n, .slice (some va) 1 vc] w fun e w' => e = .returned x ∧ w' = w1 := by
  obtain ⟨i0, hi0, hz0, hzs, hzb⟩ := info_parts info_E
  have hu := Tryz.underlying22
  have hz1 : ¬ ((1 : Int) = 0) := by omega
  cases base with
  | none =>
    have h0 := hnil rfl
    subst h0
    go_enter Tryz.func59, Tryz.ntmps59
    go_wp2_with (at_builtin; refine Lib.wpList_append_run _ rfl _ _ _ _ rfl _ _ rfl rfl _ _ (hrun _) ?_)
    all_goals (go_ret; exact ⟨rfl, rfl⟩)
  | some a =>
    obtain ⟨ab, ao, asp⟩ := a
    go_enter Tryz.func59, Tryz.ntmps59
    go_wp2_with (at_builtin; refine Lib.wpList_append_run _ rfl _ _ _ _ rfl _ _ rfl rfl _ _ (hrun _) ?_)
    all_goals (go_ret; exact ⟨rfl, rfl⟩)

end AI
end Go.Proofs.YtdlkcancogpafaaGreatDoor
