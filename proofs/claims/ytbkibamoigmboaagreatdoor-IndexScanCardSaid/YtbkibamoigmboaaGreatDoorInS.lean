/- slices.Insert of one string at the end, as an entry of the table. -/
import Derived.Test.YtbkibamoigmboaaGreatDoorChecked
import Derived.Test.YtbkibamoigmboaaGreatDoorSe
import Derived.Shelf.Spec.SlicesInsertGrow
import Derived.WalkKit
set_option linter.unusedVariables false
set_option maxRecDepth 4000
set_option linter.unusedSimpArgs false
namespace Go.Proofs.YtbkibamoigmboaaGreatDoor
namespace AI
open Go.RowKit Go.Lib

theorem info_St : (Tryz.prog.info? 9).map (fun i => (i.zero, i.size, i.bytes)) = some (some (Value.string ⟨#[]⟩), 1, 16) := by kernel_rfl

set_option maxHeartbeats 4000000 in
set_option maxRecDepth 1000000 in
theorem insEndS (base : Option Addr) (n c vc : Nat) (va : Addr) (w w1 : World) (x : Value) (hnil : base = none → n = 0) (hnc : n ≤ c)
    (hrun : ∀ ty, (Builtin.append_ #[26, 26] ty #[.slice base n c, .slice (some va) 1 vc]).run Tryz.prog w = .ok x w1) :
    Calls Tryz.prog 222 #[.slice base n c, .int .i64 n, .slice (some va) 1 vc] w fun e w' => e = .returned x ∧ w' = w1 := by
  obtain ⟨i0, hi0, hz0, hzs, hzb⟩ := info_parts info_St
  have hu := Tryz.underlying26
  have hz1 : ¬ ((1 : Int) = 0) := by omega
  cases base with
  | none =>
    have h0 := hnil rfl
    subst h0
    go_enter Tryz.func222, Tryz.ntmps222
    go_wp2_with (at_builtin; refine Lib.wpList_append_run _ rfl _ _ _ _ rfl _ _ rfl rfl _ _ (hrun _) ?_)
    all_goals (go_ret; exact ⟨rfl, rfl⟩)
  | some a =>
    obtain ⟨ab, ao, asp⟩ := a
    go_enter Tryz.func222, Tryz.ntmps222
    go_wp2_with (at_builtin; refine Lib.wpList_append_run _ rfl _ _ _ _ rfl _ _ rfl rfl _ _ (hrun _) ?_)
    all_goals (go_ret; exact ⟨rfl, rfl⟩)

/-- what is asked of it -/
def insSpecS : List AV → Sto → Option (AOut × Sto)
  | [.own o g 0 n, .int .i64 z, .sl true [x]], s => if z = n then (evAppend 1 16 s (.own o g 0 n) [x] true).map fun r => (.ok r.1, r.2) else none
  | _, _ => none

set_option maxHeartbeats 1000000 in
theorem ins_okS : CallSound Tryz.prog fun f' args s => if f' = 222 then insSpecS args s else none := by
  intro f args s out s' h
  replace h : (if f = 222 then insSpecS args s else none) = some (out, s') := h
  rcases Decidable.em (f = 222) with hf | hf
  case inr => rw [if_neg hf] at h; cases h
  rw [if_pos hf] at h
  subst hf
  unfold insSpecS at h
  split at h
  case h_2 => cases h
  rename_i o g n z y
  split at h
  case isFalse => cases h
  rename_i hz
  subst hz
  rw [Option.map_eq_some_iff] at h
  obtain ⟨⟨v, s1⟩, hev, h⟩ := h
  simp only [Prod.mk.injEq] at h
  obtain ⟨rfl, rfl⟩ := h
  refine fun w0 B Z φ w vs hI hargs => .inl ⟨⟨_, Tryz.func222, rfl, by decide⟩, ?_⟩
  obtain ⟨hl, ha⟩ := hargs
  obtain ⟨v0, h0, r0⟩ := ha 0 _ rfl
  obtain ⟨v1, h1, r1⟩ := ha 1 _ rfl
  obtain ⟨v2, h2, r2⟩ := ha 2 _ rfl
  have hvs : vs = #[v0, v1, v2] := by
    apply Array.ext_getElem?
    intro i
    match i with
    | 0 => exact h0
    | 1 => exact h1
    | 2 => exact h2
    | i + 3 => rw [Array.getElem?_eq_none (by rw [← hl]; simp), Array.getElem?_eq_none (by simp)]
  subst hvs
  cases r1
  obtain ⟨i0, hi0, hz1, hzs, hzb⟩ := info_parts info_St
  have hu := Tryz.underlying26
  obtain ⟨x, w', Z', φ', hrun, k1, k2, k3⟩ := snd_append (ty := 0) hI hu (es := 1) (bytes := 16) (z := .str []) (by kernel_rfl) hi0 hzb (by omega) r0 r2 (ys := [y]) (cl := true) rfl hev
  have fin : ∀ (base : Option Addr) (c : Nat) (va : Addr) (vc : Nat), v0 = .slice base n c → v2 = .slice (some va) 1 vc → (base = none → n = 0) → n ≤ c → Calls Tryz.prog 222 #[v0, .int .i64 n, v2] w fun e w' => ∃ Z' φ', Inv w0 B s1 Z' φ' w' ∧ Later B w Z φ s.ctr w' Z' φ' s1.ctr ∧ OutRep w' Z' φ' s1.ctr (.ok v) e := by
    rintro base c va vc rfl rfl hb hzc
    refine (insEndS base n c vc va w w' x hb hzc (fun ty => hrun)).mono ?_
    rintro e w1 ⟨rfl, rfl⟩
    exact ⟨Z', φ', k1, k3, x, rfl, k2⟩
  cases r2 with
  | sl _ n2 b2 off2 cap2 es2 f2 hn2 _ _ _ _ _ =>
    obtain rfl : n2 = 1 := hn2
    cases r0 with
    | ownNil => exact fin none 0 _ _ rfl rfl (fun _ => rfl) (Nat.le_refl _)
    | ownZc _ _ a0 => exact fin (some a0) 0 _ _ rfl rfl (fun h => by cases h) (Nat.le_refl _)
    | own _ _ _ _ b es' size cap ad hg hφ hcap ha' hs => exact fin (some ad) cap _ _ rfl rfl (fun h => by cases h) hcap

end AI
end Go.Proofs.YtbkibamoigmboaaGreatDoor
