/- slices.Insert of one element, as an entry of the table. -/
import Derived.Test.YtdlkcancogpafaaGreatDoorInW
set_option linter.unusedVariables false
set_option maxRecDepth 4000
namespace Go.Proofs.YtdlkcancogpafaaGreatDoor
namespace AI
open Go.RowKit

theorem CellsRep.split {w : World} {Z : Cold} {φ : Phi} {ctr : Nat} {xs ys : List AV} {vs : List Value} (h : CellsRep w Z φ ctr (xs ++ ys) vs.toArray) : CellsRep w Z φ ctr xs (vs.take xs.length).toArray ∧ CellsRep w Z φ ctr ys (vs.drop xs.length).toArray := by
  have hl : xs.length + ys.length = vs.length := by simpa using h.1
  refine ⟨⟨by simp; omega, fun i c hi => ?_⟩, ⟨by simp; omega, fun i c hi => ?_⟩⟩
  · have hlt := (List.getElem?_eq_some_iff.1 hi).1
    obtain ⟨v, a, b⟩ := h.2 i c (by rw [List.getElem?_append_left hlt]; exact hi)
    refine ⟨v, ?_, b⟩
    have : vs[i]? = some v := by simpa using a
    simp [List.getElem?_take_of_lt hlt, this]
  · obtain ⟨v, a, b⟩ := h.2 (xs.length + i) c (by rw [List.getElem?_append_right (by omega)]; simpa using hi)
    refine ⟨v, ?_, b⟩
    have : vs[xs.length + i]? = some v := by simpa using a
    simp [List.getElem?_drop, this]

theorem holds_closed {w : World} {Z : Cold} {φ : Phi} {ctr es : Nat} {c : Array Value} {cl : Bool} {elems : List AV} (hH : Holds w Z φ ctr c es cl elems) (hc : cl = true) : ∀ y ∈ elems, y.closed = true := by
  intro y hy
  obtain ⟨i, hi⟩ := List.mem_iff_getElem?.1 hy
  have hone : ∀ (j : Nat) (c : AV), y.cells[j]? = some c → c.closed = true := by
    intro j c hj
    obtain ⟨_, _, _, _, k⟩ := (hH i y hi).2 j c hj
    exact k hc
  cases y with
  | agg cs => simp only [AV.closed]; exact closedL_of_mem hone
  | _ => exact hone 0 _ rfl

/-- what is asked of it -/
def insSpec : List AV → Sto → Option (AOut × Sto)
  | [.own o g 0 n, .int .i64 z, .own o2 g2 0 1], s => match nth s.σ o, nth s.σ o2 with
    | some (.arr g' es nn cl elems), some (.arr g2' es2 _ cl2 elems2) =>
      if g = g' ∧ g2 = g2' ∧ es = 6 ∧ es2 = 6 ∧ o ≠ o2 ∧ 0 ≤ z ∧ z.toNat ≤ n ∧ n ≤ elems.length ∧ 1 ≤ elems2.length ∧ (n + 1) * 80 ≤ 2 ^ 46 then
        some (.ok (.own o s.ctr 0 (n + 1)), ⟨s.σ.set o (.arr s.ctr 6 true (cl && cl2) ((elems.take n).take z.toNat ++ elems2.take 1 ++ (elems.take n).drop z.toNat)), s.ctr + 1⟩)
      else if g = g' ∧ nn = false ∧ g2 = g2' ∧ es2 = 6 ∧ n = 0 ∧ z = 0 ∧ 1 ≤ elems2.length then
        some (.ok (.own s.σ.length s.ctr 0 1), push s (.arr s.ctr 6 true cl2 (elems2.take 1)))
      else none
    | _, _ => none
  | _, _ => none

set_option maxHeartbeats 1000000 in
theorem ins_ok : CallSound Tryz.prog fun f' args s => if f' = 59 then insSpec args s else none := by
  intro f args s out s' h
  replace h : (if f = 59 then insSpec args s else none) = some (out, s') := h
  rcases Decidable.em (f = 59) with hf | hf
  case inr => rw [if_neg hf] at h; cases h
  rw [if_pos hf] at h
  subst hf
  unfold insSpec at h
  split at h
  case h_2 => cases h
  rename_i o g n z o2 g2
  split at h
  case h_2 => cases h
  rename_i g' es nn cl elems g2' es2 nn2 cl2 elems2 ho ho2
  split at h
  case isFalse =>
    split at h
    case isFalse => cases h
    rename_i hc
    obtain ⟨rfl, rfl, rfl, rfl, rfl, rfl, hlen2⟩ := hc
    simp only [Option.some.injEq, Prod.mk.injEq] at h
    obtain ⟨rfl, rfl⟩ := h
    refine ⟨⟨_, Tryz.func59, rfl, by decide⟩, fun w0 B Z φ w vs hI hargs => ?_⟩
    obtain ⟨hl, ha⟩ := hargs
    obtain ⟨v0, h0, r0⟩ := ha 0 _ rfl
    obtain ⟨v1, h1, r1⟩ := ha 1 _ rfl
    obtain ⟨v2, h2, r2⟩ := ha 2 _ rfl
    have hvs : vs = #[v0, v1, v2] := by
      apply Array.ext_getElem?
      intro i
      match i with
      | 0 => exact h0
      | 1 => exact h1
      | 2 => exact h2
      | i + 3 => rw [Array.getElem?_eq_none (by rw [← hl]; simp), Array.getElem?_eq_none (by simp)]
    subst hvs
    cases r1
    have ho2' := ho2
    rw [nth_eq] at ho ho2
    obtain ⟨og, hes, h3⟩ := hI.objs o _ ho
    obtain ⟨og2, hes2, h32⟩ := hI.objs o2 _ ho2
    obtain ⟨i0, hi0, hz1, hzs, hzb⟩ := info_parts info_E
    have hu := Tryz.underlying22
    have r2' := r2
    cases r2 with
    | own _ _ _ _ vb ves vsize vcap vad vhg vhφ vhcap vha vhs =>
    obtain ⟨rfl, vhsize, vhcm⟩ := vha (.inl (by omega))
    rw [vhφ] at h32
    obtain ⟨rfl, hve, hvB, hvnz, hvfit, vcur, vt, hvw, hvcs, hvH⟩ := h32
    subst hve
    simp only [Nat.zero_mul, Nat.zero_add] at *
    cases r0 with
    | ownZc _ _ a0 hg hφ => rw [hφ] at h3; cases h3.1
    | own _ _ _ _ b es' size cap ad hg hφ hcap ha' hs => rw [hφ] at h3; cases h3.1
    | ownNil _ _ hg hφ =>
    have hsub : elemsOf s 6 (.own o2 g2 0 1) = some (elems2.take 1, cl2) := by simp [elemsOf, ho2', sub, hlen2]
    have hne : elems2.take 1 ≠ [] := by
      intro h0
      have := congrArg List.length h0
      rw [List.length_take, List.length_nil] at this
      omega
    have hl1 : (elems2.take 1).length = 1 := by rw [List.length_take]; omega
    have hall : AllSize 6 (elems2.take 1) := (hvH.flat_take (by omega) hlen2 (by omega)).2
    have hev : evAppend 6 80 s (.sl false []) (elems2.take 1) cl2 = some (.own s.σ.length s.ctr 0 1, push s (.arr s.ctr 6 true cl2 (elems2.take 1))) := by
      simp only [evAppend]
      rw [if_pos ⟨hall, by unfold roomy; rw [hl1]; omega⟩, hl1]
      have e1 : (!(elems2.take 1).isEmpty) = true := by
        cases h0 : elems2.take 1 with
        | nil => exact absurd h0 hne
        | cons a l => simp
      rw [e1]
    obtain ⟨x, w', Z', φ', hrun, k1, k2, k3⟩ := snd_append (ty := 0) hI hu (es := 6) (bytes := 80) (z := .agg [.int .i64 0, .int .i64 0, .str [], .str [], .str [], .str []]) (by kernel_rfl) hi0 hzb (by omega) (.nilsl) r2' hsub hev
    refine (insEnd none 0 0 vcap ⟨vb, 0, none⟩ w w' x (fun _ => rfl) (Nat.le_refl _) (fun ty => hrun)).mono ?_
    rintro e w1 ⟨rfl, rfl⟩
    exact ⟨Z', φ', k1, k3, x, rfl, k2⟩
  rename_i hc
  obtain ⟨rfl, rfl, rfl, rfl, hoo, hz0, hzn, hlen, hlen2, hroom⟩ := hc
  simp only [Option.some.injEq, Prod.mk.injEq] at h
  obtain ⟨rfl, rfl⟩ := h
  obtain ⟨z, rfl⟩ : ∃ z' : Nat, z = (z' : Int) := ⟨z.toNat, by omega⟩
  simp only [Int.toNat_natCast] at hzn ⊢
  refine ⟨⟨_, Tryz.func59, rfl, by decide⟩, fun w0 B Z φ w vs hI hargs => ?_⟩
  obtain ⟨hl, ha⟩ := hargs
  obtain ⟨v0, h0, r0⟩ := ha 0 _ rfl
  obtain ⟨v1, h1, r1⟩ := ha 1 _ rfl
  obtain ⟨v2, h2, r2⟩ := ha 2 _ rfl
  have hvs : vs = #[v0, v1, v2] := by
    apply Array.ext_getElem?
    intro i
    match i with
    | 0 => exact h0
    | 1 => exact h1
    | 2 => exact h2
    | i + 3 => rw [Array.getElem?_eq_none (by rw [← hl]; simp), Array.getElem?_eq_none (by simp)]
  subst hvs
  cases r1
  have ho' := ho
  have ho2' := ho2
  rw [nth_eq] at ho ho2
  obtain ⟨og, hes, h3⟩ := hI.objs o _ ho
  obtain ⟨og2, hes2, h32⟩ := hI.objs o2 _ ho2
  obtain ⟨i0, hi0, hz1, hzs, hzb⟩ := info_parts info_E
  have hu := Tryz.underlying22
  have r2' := r2
  cases r2 with
  | own _ _ _ _ vb ves vsize vcap vad vhg vhφ vhcap vha vhs =>
  obtain ⟨rfl, vhsize, vhcm⟩ := vha (.inl (by omega))
  have h32' := h32
  rw [vhφ] at h32
  obtain ⟨rfl, hve, hvB, hvnz, hvfit, vcur, vt, hvw, hvcs, hvH⟩ := h32
  subst hve
  simp only [Nat.zero_mul, Nat.zero_add] at *
  by_cases hzn' : z = n
  · subst hzn'
    have hsub : elemsOf s 6 (.own o2 g2 0 1) = some (elems2.take 1, cl2) := by simp [elemsOf, ho2', sub, hlen2]
    have hne : elems2.take 1 ≠ [] := by
      intro h0
      have := congrArg List.length h0
      rw [List.length_take, List.length_nil] at this
      omega
    have hl1 : (elems2.take 1).length = 1 := by rw [List.length_take]; omega
    have hall : AllSize 6 (elems2.take 1) := (hvH.flat_take (by omega) hlen2 (by omega)).2
    have hev : evAppend 6 80 s (.own o g 0 z) (elems2.take 1) cl2 = some (.own o s.ctr 0 (z + 1), ⟨s.σ.set o (.arr s.ctr 6 true (cl && cl2) ((elems.take z).take z ++ elems2.take 1 ++ (elems.take z).drop z)), s.ctr + 1⟩) := by
      simp only [evAppend, ho']
      rw [if_pos ⟨trivial, trivial, hlen, hall, by unfold roomy; rw [hl1]; exact hroom⟩, hl1]
      have e1 : (nn || !(elems2.take 1).isEmpty) = true := by
        cases h0 : elems2.take 1 with
        | nil => exact absurd h0 hne
        | cons a l => simp
      have e2 : (elems.take z).take z ++ elems2.take 1 ++ (elems.take z).drop z = elems.take z ++ elems2.take 1 := by
        rw [List.take_take, Nat.min_self, List.drop_eq_nil_of_le (by rw [List.length_take]; omega), List.append_nil]
      rw [e1, e2]
    obtain ⟨x, w', Z', φ', hrun, k1, k2, k3⟩ := snd_append (ty := 0) hI hu (es := 6) (bytes := 80) (z := .agg [.int .i64 0, .int .i64 0, .str [], .str [], .str [], .str []]) (by kernel_rfl) hi0 hzb (by omega) r0 r2' hsub hev
    have fin : ∀ (base : Option Addr) (c : Nat), v0 = .slice base z c → (base = none → z = 0) → z ≤ c → Calls Tryz.prog 59 #[v0, .int .i64 z, .slice (some ⟨vb, 0, none⟩) 1 vcap] w fun e w' => ∃ Z' φ', Inv w0 B ⟨s.σ.set o (.arr s.ctr 6 true (cl && cl2) ((elems.take z).take z ++ elems2.take 1 ++ (elems.take z).drop z)), s.ctr + 1⟩ Z' φ' w' ∧ Later B w Z φ s.ctr w' Z' φ' (s.ctr + 1) ∧ OutRep w' Z' φ' (s.ctr + 1) (.ok (.own o s.ctr 0 (z + 1))) e := by
      rintro base c rfl hb hzc
      refine (insEnd base z c vcap ⟨vb, 0, none⟩ w w' x hb hzc (fun ty => hrun)).mono ?_
      rintro e w1 ⟨rfl, rfl⟩
      exact ⟨Z', φ', k1, k3, x, rfl, k2⟩
    cases r0 with
    | ownNil => exact fin none 0 rfl (fun _ => rfl) (Nat.le_refl _)
    | ownZc _ _ a0 => exact fin (some a0) 0 rfl (fun h => by cases h) (Nat.le_refl _)
    | own _ _ _ _ b es' size cap ad hg hφ hcap ha' hs => exact fin (some ad) cap rfl (fun h => by cases h) hcap
  · have hlt : z < n := by omega
    cases r0 with
    | ownNil => omega
    | ownZc => omega
    | own _ _ _ _ b es' size cap ad hg hφ hcap ha' hs =>
    obtain ⟨rfl, hsize, hcm⟩ := ha' (.inr rfl)
    rw [hφ] at h3
    obtain ⟨rfl, he, hB, hnz, hfit, cur, ct, hw, hcs, hH⟩ := h3
    subst he
    simp only [Nat.zero_mul, Nat.zero_add] at *
    have hbne : vb ≠ b := by
      rintro rfl
      exact hoo (hI.apart o o2 _ _ g g2 _ _ _ _ _ ho ho2 rfl rfl hφ vhφ)
    obtain ⟨p1, p2⟩ := hH.flat_take (by omega) hlen (by omega)
    obtain ⟨q1, q2⟩ := hvH.flat_take (by omega) hlen2 (by omega)
    simp only [Nat.one_mul] at q1
    have hcl1 := holds_closed hH
    have hcl2 := holds_closed hvH
    have hAl : ((elems.take n).take z).length = z := by rw [List.length_take, List.length_take]; omega
    have hpA : AllSize 6 ((elems.take n).take z) := fun y hy => p2 y (List.mem_of_mem_take hy)
    have hpB : AllSize 6 ((elems.take n).drop z) := fun y hy => p2 y (List.mem_of_mem_drop hy)
    have hfl : (flat ((elems.take n).take z)).length = z * 6 := by rw [flat_length hpA, hAl]
    have p1' : CellsRep w Z φ s.ctr (flat ((elems.take n).take z) ++ flat ((elems.take n).drop z)) (cur.toList.take (n * 6)).toArray := by
      rw [← flat_append, List.take_append_drop]; exact p1
    obtain ⟨s1, s2⟩ := p1'.split
    rw [hfl] at s1 s2
    have hcells : CellsRep w Z φ s.ctr (flat ((elems.take n).take z ++ elems2.take 1 ++ (elems.take n).drop z)) ((cur.toList.take (n * 6)).take (z * 6) ++ vcur.toList.take 6 ++ (cur.toList.take (n * 6)).drop (z * 6)).toArray := by
      rw [flat_append, flat_append]
      exact (s1.append q1).append s2
    have hmem : ∀ y ∈ (elems.take n).take z ++ elems2.take 1 ++ (elems.take n).drop z, y ∈ elems ∨ y ∈ elems2 := by
      intro y hy
      rcases List.mem_append.1 hy with hy | hy
      · rcases List.mem_append.1 hy with hy | hy
        · exact .inl (List.mem_of_mem_take (List.mem_of_mem_take hy))
        · exact .inr (List.mem_of_mem_take hy)
      · exact .inl (List.mem_of_mem_take (List.mem_of_mem_drop hy))
    have hHn : Holds w Z φ s.ctr ((cur.toList.take (n * 6)).take (z * 6) ++ vcur.toList.take 6 ++ (cur.toList.take (n * 6)).drop (z * 6)).toArray 6 (cl && cl2) ((elems.take n).take z ++ elems2.take 1 ++ (elems.take n).drop z) := by
      refine CellsRep.holds (fun y hy => ?_) hcells (fun hc y hy => ?_)
      · rcases List.mem_append.1 hy with hy | hy
        · rcases List.mem_append.1 hy with hy | hy
          · exact hpA y hy
          · exact q2 y hy
        · exact hpB y hy
      · simp only [Bool.and_eq_true] at hc
        rcases hmem y hy with h | h
        · exact hcl1 hc.1 y h
        · exact hcl2 hc.2 y h
    have hlen' : ((elems.take n).take z ++ elems2.take 1 ++ (elems.take n).drop z).length = n + 1 := by
      simp only [List.length_append, List.length_take, List.length_drop]; omega
    have o1 : ∀ v ∈ cur.toList.take (n * 6), v.oneCell' = true := cellsRep_one p1
    have o2' : ∀ v ∈ vcur.toList.take 6, v.oneCell' = true := cellsRep_one q1
    have hext : ∀ rest : List Value, Holds w Z φ s.ctr ((cur.toList.take (n * 6)).take (z * 6) ++ vcur.toList.take 6 ++ (cur.toList.take (n * 6)).drop (z * 6) ++ rest).toArray 6 (cl && cl2) ((elems.take n).take z ++ elems2.take 1 ++ (elems.take n).drop z) := fun rest => hHn.extend fun k hk => by
      rw [List.getElem?_toArray, List.getElem?_append_left hk]
    have hnsz : ((cur.toList.take (n * 6)).take (z * 6) ++ vcur.toList.take 6 ++ (cur.toList.take (n * 6)).drop (z * 6)).length = (n + 1) * 6 := by
      simp only [List.length_append, List.length_take, List.length_drop, Array.length_toList]; omega
    by_cases hrm : n + 1 ≤ cap
    · refine (insShift b n cap z vb vcap cur vcur ct vt w hlt hrm (by unfold maxLen at hcm; omega) hbne hw hvw (by omega) (by omega) o1 o2').mono ?_
      rintro e w' ⟨rfl, hbel, hoth, rest, hw', hrest⟩
      obtain ⟨φ', k1, k2, k3⟩ := inv_row hI ho (by omega) hφ hB hnz (hbel.mono (by omega)) hoth hw' (by
        rw [List.size_toArray, List.length_append, hnsz, hrest]; omega) (hext rest) hsize (by rw [hlen']; exact hrm) hcm
      rw [hlen'] at k2
      exact ⟨Z, φ', k1, k3, _, rfl, k2⟩
    · refine (insGrow b n cap z vb vcap cur vcur ct vt w hlt hcap (by omega) (by omega) hw hvw (by omega) (by omega) o1 o2').mono ?_
      rintro e w' ⟨rfl, hbel, rest, hrest, hw'⟩
      have hge := grownCap_ge w (n + 1) cap 27
      obtain ⟨φ', k1, k2, k3⟩ := inv_fresh hI ho (by omega) (cap := grownCap w (n + 1) cap 27) hbel hw' (hext rest) (by
        rw [List.size_toArray, List.length_append, hnsz, hrest]; omega) (by rw [hlen']; exact hge) (grownCap_le_maxLen w _ _ _ (by unfold maxLen; omega))
      rw [hlen'] at k2
      exact ⟨Z, φ', k1, k3, _, rfl, k2⟩

end AI
end Go.Proofs.YtdlkcancogpafaaGreatDoor
