/- Printed by a program of mine: the functions, compiled; the kernel checks each against the given form. -/
import Derived.Test.YtnfdpfeeenmffaaGreatDoorSe
import Derived.Test.YtnfdpfeeenmffaaGreatDoorProg
import Derived.Test.YtnfdpfeeenmffaaGreatDoorAb
import Derived.KernelRfl
import Derived.Test.YtnfdpfeeenmffaaGreatDoorIxF
namespace Go.Proofs.YtnfdpfeeenmffaaGreatDoor
namespace AI
/- graphdb/graphdbref03.sum -/
def c132 : ACode :=
 .seq (.region none [] [
 op 8 (.mov (ci (0))), op 9 (.mov (.cst (.sl false [])))] [0, 1, 2, 3] none)
 (.seq (.seq (.region none [] [
 mv 11 0, mv 12 2, op 13 (.bin .eql .int (tm 11) (tm 12)), mv 14 13, mg 15 2 14 false, ⟨some 16, .bin .eql .int (tm 15) (ci (0)), some (14, false)⟩, op 17 (.pick (tm 14) (.cst (.bool true)) (tm 16))] [0, 1, 2, 3, 17] none)
 (.cond (tm 17) (.seq (.region none [] [
 mv 18 0, mv 19 1, mv 20 3, op 21 (.call .pure 151 [(tm 19), (tm 20)]), mv 8 18, mv 9 21] [8, 9] none)
 (.ret))
 (.skip)))
 (.seq (.seq (.region none [] [
 mv 22 0, op 23 (.bin .eql .int (tm 22) (ci (0)))] [0, 1, 2, 3, 23] none)
 (.cond (tm 23) (.seq (.region none [] [
 mv 24 2, mv 25 3, mv 8 24, mv 9 25] [8, 9] none)
 (.ret))
 (.skip)))
 (.seq (.region none [] [
 mv 26 1, mv 27 3, op 28 (.call .pure 152 [(tm 26), (tm 27)]), mv 10 28] [0, 1, 2, 3, 10] none)
 (.seq (.seq (.region none [] [
 mv 29 10, op 30 (.bin .eql .int (tm 29) (ci (0)))] [0, 1, 2, 3, 10, 30] none)
 (.cond (tm 30) (.seq (.par 2 [(0, 1)] [] [
 op 31 (.mkslice 1 8 (.int .i64 0) (ci (14)) (ci (14))), op 32 (.mkslice 1 8 (.int .i64 0) (ci (14)) (ci (14))), op 33 (.call .share 151 [(tm 31), (tm 32)]), op 8 (.mov (ci (0))), mv 9 33] [8, 9] none)
 (.ret))
 (.skip)))
 (.seq (.seq (.region none [] [
 mv 34 10, op 35 (.bin .gtr .int (tm 34) (ci (0)))] [0, 1, 2, 3, 35] none)
 (.cond (tm 35) (.seq (.region none [] [
 mv 36 0, mv 37 1, mv 38 3, op 39 (.call .pure 153 [(tm 37), (tm 38)]), mv 8 36, mv 9 39] [8, 9] none)
 (.ret))
 (.skip)))
 (.seq (.region none [] [
 mv 40 2, mv 41 3, mv 42 1, op 43 (.call .pure 153 [(tm 41), (tm 42)]), mv 8 40, mv 9 43] [8, 9] none)
 (.ret)))))))

def a132 : AFunc := ⟨4, c132, [.tmp 8, .tmp 9]⟩

def an132 : List RAnn := [
 { id := 0, live := [0, 1, 2, 3] },
 { id := 1, live := [0, 1, 2, 3, 17] },
 { id := 2, live := [8, 9] },
 { id := 3, live := [0, 1, 2, 3, 23] },
 { id := 4, live := [8, 9] },
 { id := 5, live := [0, 1, 2, 3, 10] },
 { id := 6, live := [0, 1, 2, 3, 10, 30] },
 { id := 7, head := some 2, live := [8, 9], ops := [(2, .mode .share)], par := true },
 { id := 8, live := [0, 1, 2, 3, 35] },
 { id := 9, live := [8, 9] },
 { id := 10, live := [8, 9] }]

theorem comp132 : compF Tryz.prog an132 Tryz.f132 = some a132 := by kernel_rfl

/- graphdb/graphdbref03.sign -/
def c133 : ACode :=
 .seq (.region none [] [
 op 2 (.mov (ci (0)))] [0] none)
 (.seq (.seq (.region none [] [
 mv 3 0, op 4 (.bin .lss .int (tm 3) (ci (0)))] [0, 4] none)
 (.cond (tm 4) (.seq (.region none [] [
 op 2 (.mov (ci ((-1))))] [2] none)
 (.ret))
 (.skip)))
 (.seq (.seq (.region none [] [
 mv 5 0, op 6 (.bin .gtr .int (tm 5) (ci (0)))] [6] none)
 (.cond (tm 6) (.seq (.region none [] [
 op 2 (.mov (ci (1)))] [2] none)
 (.ret))
 (.skip)))
 (.seq (.region none [] [
 op 2 (.mov (ci (0)))] [2] none)
 (.ret))))

def a133 : AFunc := ⟨1, c133, [.tmp 2]⟩

def an133 : List RAnn := [
 { id := 0, live := [0] },
 { id := 1, live := [0, 4] },
 { id := 2, live := [2] },
 { id := 3, live := [6] },
 { id := 4, live := [2] },
 { id := 5, live := [2] }]

theorem comp133 : compF Tryz.prog an133 Tryz.f133 = some a133 := by kernel_rfl

/- graphdb/graphdbref03.times -/
/-- loop 0 of function 134 -/
def l134_0_h : List Nat := [0, 1, 5, 6, 7, 8, 9, 10]

def l134_0_b : ACode :=
 .seq (.seq (.region none [] [
 mv 22 8, op 23 (.bin .gtr .int (tm 22) (ci (0))), mv 24 23, mg 25 9 24 false, ⟨some 26, .bin .gtr .int (tm 25) (ci (0)), some (24, false)⟩, op 27 (.pick (tm 24) (.cst (.bool true)) (tm 26))] [0, 1, 5, 6, 7, 8, 9, 10, 27] none)
 (.cond (tm 27) (.skip)
 (.exit 2)))
 (.seq (.block 3 (.seq (.region none [] [
 mv 30 9, mv 31 5, mv 32 10, op 33 (.iaddr 1 (tm 31) (tm 32)), op 34 (.load none (tm 33)), op 35 (.bin .add .int (tm 30) (tm 34)), mv 36 7, mv 37 8, op 38 (.bin .rem .int (tm 37) (ci (1000))), op 39 (.bin .mul .int (tm 36) (tm 38)), op 40 (.bin .add .int (tm 35) (tm 39)), mv 9 40] [0, 1, 5, 6, 7, 8, 9, 10] none)
 (.seq (.region none [] [
 mv 41 8, op 42 (.bin .quo .int (tm 41) (ci (1000))), mv 8 42] [0, 1, 5, 6, 7, 8, 9, 10] none)
 (.seq (.region none [] [
 mv 43 5, mv 44 10, mv 45 9, op 46 (.bin .rem .int (tm 45) (ci (1000))), op 47 (.iaddr 1 (tm 43) (tm 44)), ⟨none, .store 1 (tm 47) (tm 46), none⟩] [0, 1, 5, 6, 7, 8, 9, 10] none)
 (.region none [] [
 mv 48 9, op 49 (.bin .quo .int (tm 48) (ci (1000))), mv 9 49] [0, 1, 5, 6, 7, 8, 9, 10] none)))))
 (.region none [] [
 mv 28 10, op 29 (.bin .add .int (tm 28) (ci (1))), mv 10 29] [0, 1, 5, 6, 7, 8, 9, 10] none))

/-- loop 1 of function 134 -/
def l134_1_h : List Nat := [0, 1, 5, 6]

def l134_1_b : ACode :=
 .seq (.seq (.region none [] [
 mv 12 0, op 13 (.bin .gtr .int (tm 12) (ci (0)))] [0, 1, 5, 6, 13] none)
 (.cond (tm 13) (.skip)
 (.exit 0)))
 (.seq (.block 1 (.seq (.region none [] [
 mv 16 0, op 17 (.bin .rem .int (tm 16) (ci (1000))), mv 7 17] [0, 1, 5, 6, 7] none)
 (.seq (.region none [] [
 mv 18 0, op 19 (.bin .quo .int (tm 18) (ci (1000))), mv 0 19] [0, 1, 5, 6, 7] none)
 (.seq (.region none [] [
 mv 20 1, mv 8 20] [0, 1, 5, 6, 7, 8] none)
 (.seq (.region none [] [
 op 9 (.mov (ci (0)))] [0, 1, 5, 6, 7, 8, 9] none)
 (.seq (.region none [] [
 mv 21 6, mv 10 21] [0, 1, 5, 6, 7, 8, 9, 10] none)
 (.block 2 (.loop l134_0_h l134_0_b))))))))
 (.region none [] [
 mv 14 6, op 15 (.bin .add .int (tm 14) (ci (1))), mv 6 15] [0, 1, 5, 6] none))

def c134 : ACode :=
 .seq (.region none [] [
 op 4 (.mov (.cst (.sl false [])))] [0, 1] none)
 (.seq (.region none [] [
 op 11 (.mkslice 1 8 (.int .i64 0) (ci (14)) (ci (14))), mv 5 11] [0, 1, 5] none)
 (.seq (.seq (.region none [] [
 op 6 (.mov (ci (0)))] [0, 1, 5, 6] none)
 (.block 0 (.loop l134_1_h l134_1_b)))
 (.seq (.region none [] [
 mv 50 5, mv 4 50] [4] none)
 (.ret))))

def a134 : AFunc := ⟨2, c134, [.tmp 4]⟩

def an134 : List RAnn := [
 { id := 0, live := [0, 1] },
 { id := 1, live := [0, 1, 5] },
 { id := 2, live := [0, 1, 5, 6] },
 { id := 3, live := [0, 1, 5, 6, 13], hdr := [0, 1, 5, 6] },
 { id := 5, live := [0, 1, 5, 6, 7] },
 { id := 6, live := [0, 1, 5, 6, 7] },
 { id := 7, live := [0, 1, 5, 6, 7, 8] },
 { id := 8, live := [0, 1, 5, 6, 7, 8, 9] },
 { id := 9, live := [0, 1, 5, 6, 7, 8, 9, 10] },
 { id := 10, live := [0, 1, 5, 6, 7, 8, 9, 10, 27], hdr := [0, 1, 5, 6, 7, 8, 9, 10] },
 { id := 12, live := [0, 1, 5, 6, 7, 8, 9, 10] },
 { id := 13, live := [0, 1, 5, 6, 7, 8, 9, 10] },
 { id := 14, live := [0, 1, 5, 6, 7, 8, 9, 10] },
 { id := 15, live := [0, 1, 5, 6, 7, 8, 9, 10] },
 { id := 11, live := [0, 1, 5, 6, 7, 8, 9, 10] },
 { id := 4, live := [0, 1, 5, 6] },
 { id := 16, live := [4] }]

theorem comp134 : compF Tryz.prog an134 Tryz.f134 = some a134 := by kernel_rfl

/- graphdb/graphdbref03.size -/
def c135 : ACode :=
 .seq (.region none [] [
 op 2 (.mov (ci (0)))] [0] none)
 (.seq (.seq (.region none [] [
 mv 3 0, op 4 (.bin .lss .int (tm 3) (ci (0)))] [0, 4] none)
 (.cond (tm 4) (.seq (.region none [] [
 mv 5 0, op 6 (.un .neg (tm 5)), mv 2 6] [2] none)
 (.ret))
 (.skip)))
 (.seq (.region none [] [
 mv 7 0, mv 2 7] [2] none)
 (.ret)))

def a135 : AFunc := ⟨1, c135, [.tmp 2]⟩

def an135 : List RAnn := [
 { id := 0, live := [0] },
 { id := 1, live := [0, 4] },
 { id := 2, live := [2] },
 { id := 3, live := [2] }]

theorem comp135 : compF Tryz.prog an135 Tryz.f135 = some a135 := by kernel_rfl

/- graphdb/graphdbref07.step -/
def c136 : ACode :=
 .seq (.region none [] [
 op 3 (.box 5 (tm 0)), op 6 (.alloc 3 (.agg [.int .i64 0, .int .i64 0, .int .i64 0])), op 7 (.mov (.cst (.bool false)))] [1, 2, 3, 6] none)
 (.seq (.seq (.region none [] [
 mv 8 2, op 9 (.bin .eql .int (tm 8) (ci (1))), mv 10 9, mg 11 2 10 false, ⟨some 12, .bin .eql .int (tm 11) (ci (3)), some (10, false)⟩, op 13 (.pick (tm 10) (.cst (.bool true)) (tm 12)), mv 14 13, ⟨some 15, .faddr 1 (tm 3), some (14, true)⟩, ⟨some 16, .load none (tm 15), some (14, true)⟩, mg 17 1 14 true, ⟨some 18, .bin .eql .int (tm 16) (tm 17), some (14, true)⟩, op 19 (.pick (tm 14) (tm 18) (.cst (.bool false)))] [1, 2, 3, 6, 19] none)
 (.cond (tm 19) (.seq (.region none [] [
 mv 20 1, op 21 (.faddr 2 (tm 3)), op 22 (.load none (tm 21)), op 23 (.faddr 0 (tm 3)), op 24 (.load none (tm 23)), op 25 (.build [.int .i64 0, .int .i64 0, .int .i64 0] [(0, 1, (tm 20)), (1, 1, (tm 22)), (2, 1, (tm 24))]), ⟨none, .store 3 (tm 6) (tm 25), none⟩, op 7 (.mov (.cst (.bool true)))] [6, 7] none)
 (.ret))
 (.skip)))
 (.seq (.seq (.region none [] [
 mv 26 2, op 27 (.bin .eql .int (tm 26) (ci (2))), mv 28 27, mg 29 2 28 false, ⟨some 30, .bin .eql .int (tm 29) (ci (3)), some (28, false)⟩, op 31 (.pick (tm 28) (.cst (.bool true)) (tm 30)), mv 32 31, ⟨some 33, .faddr 2 (tm 3), some (32, true)⟩, ⟨some 34, .load none (tm 33), some (32, true)⟩, mg 35 1 32 true, ⟨some 36, .bin .eql .int (tm 34) (tm 35), some (32, true)⟩, op 37 (.pick (tm 32) (tm 36) (.cst (.bool false)))] [1, 3, 6, 37] none)
 (.cond (tm 37) (.seq (.region none [] [
 mv 38 1, op 39 (.faddr 1 (tm 3)), op 40 (.load none (tm 39)), op 41 (.faddr 0 (tm 3)), op 42 (.load none (tm 41)), op 43 (.build [.int .i64 0, .int .i64 0, .int .i64 0] [(0, 1, (tm 38)), (1, 1, (tm 40)), (2, 1, (tm 42))]), ⟨none, .store 3 (tm 6) (tm 43), none⟩, op 7 (.mov (.cst (.bool true)))] [6, 7] none)
 (.ret))
 (.skip)))
 (.seq (.region none [] [
 op 44 (.build [.int .i64 0, .int .i64 0, .int .i64 0] []), ⟨none, .store 3 (tm 6) (tm 44), none⟩, op 7 (.mov (.cst (.bool false)))] [6, 7] none)
 (.ret))))

def a136 : AFunc := ⟨3, c136, [.cell 6 (some 3), .tmp 7]⟩

def an136 : List RAnn := [
 { id := 0, live := [1, 2, 3, 6] },
 { id := 1, live := [1, 2, 3, 6, 19] },
 { id := 2, live := [6, 7] },
 { id := 3, live := [1, 3, 6, 37] },
 { id := 4, live := [6, 7] },
 { id := 5, live := [6, 7] }]

theorem comp136 : compF Tryz.prog an136 Tryz.f136 = some a136 := by kernel_rfl

/- graphdb/graphdbref07.HasType -/
def c137 : ACode :=
 .seq (.region none [] [
 op 2 (.box 5 (tm 0)), op 4 (.mov (.cst (.bool false)))] [1, 2] none)
 (.seq (.region none [] [
 mv 5 1, op 6 (.len .slice (tm 5)), op 7 (.bin .eql .int (tm 6) (ci (0))), mv 8 7, mg 9 1 8 false, ⟨some 10, .faddr 3 (tm 2), some (8, false)⟩, ⟨some 11, .load none (tm 10), some (8, false)⟩, ⟨some 12, .call .pure 110 [(tm 9), (tm 11)], some (8, false)⟩, op 13 (.pick (tm 8) (.cst (.bool true)) (tm 12)), mv 4 13] [4] none)
 (.ret))

def a137 : AFunc := ⟨2, c137, [.tmp 4]⟩

def an137 : List RAnn := [
 { id := 0, live := [1, 2] },
 { id := 1, live := [4] }]

theorem comp137 : compF Tryz.prog an137 Tryz.f137 = some a137 := by kernel_rfl

/- slices.order2Ordered[int] -/
def c138 : ACode :=
 .seq (.region none [] [
 op 8 (.mov (ci (0))), op 9 (.mov (ci (0)))] [0, 1, 2, 3] none)
 (.seq (.seq (.region (some 9) [] [
 mv 10 0, mv 11 2, op 12 (.iaddr 1 (tm 10) (tm 11)), op 13 (.load none (tm 12)), mv 14 0, mv 15 1, op 16 (.iaddr 1 (tm 14) (tm 15)), op 17 (.load none (tm 16)), op 18 (.call .pure 77 [(tm 13), (tm 17)])] [1, 2, 3, 18] none)
 (.cond (tm 18) (.seq (.region none [] [
 mv 19 3, op 20 (.nilchk (tm 19)), op 21 (.load none (tm 20)), op 22 (.bin .add .int (tm 21) (ci (1))), op 23 (.nilchk (tm 19)), ⟨none, .store 1 (tm 23) (tm 22), none⟩] [1, 2] none)
 (.seq (.region none [] [
 mv 24 2, mv 25 1, mv 8 24, mv 9 25] [8, 9] none)
 (.ret)))
 (.skip)))
 (.seq (.region none [] [
 mv 26 1, mv 27 2, mv 8 26, mv 9 27] [8, 9] none)
 (.ret)))

def a138 : AFunc := ⟨4, c138, [.tmp 8, .tmp 9]⟩

def an138 : List RAnn := [
 { id := 0, live := [0, 1, 2, 3] },
 { id := 1, head := some 9, live := [1, 2, 3, 18] },
 { id := 2, live := [1, 2] },
 { id := 3, live := [8, 9] },
 { id := 4, live := [8, 9] }]

theorem comp138 : compF Tryz.prog an138 Tryz.f138 = some a138 := by kernel_rfl

/- graphdb/value.valid -/
/-- loop 0 of function 139 -/
def l139_0_h : List Nat := [1, 120, 121, 122]

def l139_0_b : ACode :=
 .seq (.region none [] [
 op 123 (.bin .lss .int (tm 122) (tm 121))] [1, 120, 121, 122, 123] none)
 (.seq (.cond (tm 123) (.skip)
 (.exit 1))
 (.seq (.block 2 (.seq (.region none [] [
 op 124 (.iaddr 5 (tm 120) (tm 122)), op 125 (.load (some 5) (tm 124)), op 6 (.alloc 5 (.agg [.int .i64 0, .int .i64 0, .int .i64 0, .str [], .sl false []])), ⟨none, .store 5 (tm 6) (tm 125), none⟩] [1, 6, 120, 121, 122] none)
 (.seq (.region none [] [
 op 126 (.load (some 5) (tm 6)), mv 127 1, op 128 (.bin .add .int (tm 127) (ci (1))), op 129 (.call .pure 139 [(tm 126), (tm 128)]), op 130 (.un .not (tm 129))] [1, 120, 121, 122, 130] none)
 (.cond (tm 130) (.seq (.region none [] [
 op 4 (.mov (.cst (.bool false)))] [4] none)
 (.ret))
 (.skip)))))
 (.region none [] [
 op 131 (.bin .add .int (tm 122) (ci (1))), mv 122 131] [1, 120, 121, 122] (some 1))))

def c139 : ACode :=
 .seq (.region none [] [
 op 2 (.box 5 (tm 0)), op 4 (.mov (.cst (.bool false)))] [1, 2] none)
 (.seq (.seq (.region none [] [
 op 7 (.faddr 0 (tm 2)), op 8 (.load none (tm 7)), op 9 (.bin .neq .int (tm 8) (ci (3))), mv 10 9, ⟨some 11, .faddr 2 (tm 2), some (10, true)⟩, ⟨some 12, .load none (tm 11), some (10, true)⟩, ⟨some 13, .bin .neq .int (tm 12) (ci (0)), some (10, true)⟩, op 14 (.pick (tm 10) (tm 13) (.cst (.bool false))), mv 15 14, ⟨some 16, .faddr 0 (tm 2), some (15, false)⟩, ⟨some 17, .load none (tm 16), some (15, false)⟩, ⟨some 18, .bin .neq .int (tm 17) (ci (4)), some (15, false)⟩, mg 19 18 15 false, ⟨some 20, .faddr 3 (tm 2), some (19, true)⟩, ⟨some 21, .load none (tm 20), some (19, true)⟩, ⟨some 22, .bin .neq .str (tm 21) (.cst (.str [])), some (19, true)⟩, ⟨some 23, .pick (tm 19) (tm 22) (.cst (.bool false)), some (15, false)⟩, op 24 (.pick (tm 15) (.cst (.bool true)) (tm 23)), mv 25 24, ⟨some 26, .faddr 0 (tm 2), some (25, false)⟩, ⟨some 27, .load none (tm 26), some (25, false)⟩, ⟨some 28, .bin .neq .int (tm 27) (ci (8)), some (25, false)⟩, mg 29 28 25 false, ⟨some 30, .faddr 0 (tm 2), some (29, true)⟩, ⟨some 31, .load none (tm 30), some (29, true)⟩, ⟨some 32, .bin .neq .int (tm 31) (ci (7)), some (29, true)⟩, ⟨some 33, .pick (tm 29) (tm 32) (.cst (.bool false)), some (25, false)⟩, mg 34 33 25 false, ⟨some 35, .faddr 4 (tm 2), some (34, true)⟩, ⟨some 36, .load none (tm 35), some (34, true)⟩, ⟨some 37, .len .slice (tm 36), some (34, true)⟩, ⟨some 38, .bin .gtr .int (tm 37) (ci (0)), some (34, true)⟩, ⟨some 39, .pick (tm 34) (tm 38) (.cst (.bool false)), some (25, false)⟩, op 40 (.pick (tm 25) (.cst (.bool true)) (tm 39))] [1, 2, 40] none)
 (.cond (tm 40) (.seq (.region none [] [
 op 4 (.mov (.cst (.bool false)))] [4] none)
 (.ret))
 (.skip)))
 (.seq (.seq (.region none [] [
 op 41 (.faddr 0 (tm 2)), op 42 (.load none (tm 41))] [1, 2, 42] none)
 (.block 0 (.seq (.region none [] [
 op 44 (.bin .eql .int (tm 42) (ci (0))), mv 43 44] [1, 2, 42, 43] none)
 (.cond (tm 43) (.seq (.region none [] [
 op 45 (.faddr 1 (tm 2)), op 46 (.load none (tm 45)), op 47 (.bin .eql .int (tm 46) (ci (0))), mv 4 47] [4] none)
 (.ret))
 (.seq (.region none [] [
 op 49 (.bin .eql .int (tm 42) (ci (1))), mv 48 49] [1, 2, 42, 48] none)
 (.cond (tm 48) (.seq (.region none [] [
 op 50 (.faddr 1 (tm 2)), op 51 (.load none (tm 50)), op 52 (.bin .eql .int (tm 51) (ci (0))), mv 53 52, ⟨some 54, .faddr 1 (tm 2), some (53, false)⟩, ⟨some 55, .load none (tm 54), some (53, false)⟩, ⟨some 56, .bin .eql .int (tm 55) (ci (1)), some (53, false)⟩, op 57 (.pick (tm 53) (.cst (.bool true)) (tm 56)), mv 4 57] [4] none)
 (.ret))
 (.seq (.region none [] [
 op 59 (.bin .eql .int (tm 42) (ci (2))), mv 58 59] [1, 2, 42, 58] none)
 (.cond (tm 58) (.seq (.region none [] [
 op 60 (.faddr 1 (tm 2)), op 61 (.load none (tm 60)), op 62 (.call .pure 154 [(tm 61)]), mv 4 62] [4] none)
 (.ret))
 (.seq (.region none [] [
 op 64 (.bin .eql .int (tm 42) (ci (3))), mv 63 64] [1, 2, 42, 63] none)
 (.cond (tm 63) (.seq (.region none [] [
 op 65 (.faddr 2 (tm 2)), op 66 (.load none (tm 65)), op 67 (.bin .geq .int (tm 66) (ci (2))), mv 68 67, ⟨some 69, .faddr 1 (tm 2), some (68, true)⟩, ⟨some 70, .load none (tm 69), some (68, true)⟩, ⟨some 71, .faddr 2 (tm 2), some (68, true)⟩, ⟨some 72, .load none (tm 71), some (68, true)⟩, ⟨some 73, .build [.int .i64 0, .int .i64 0] [(0, 1, (tm 70)), (1, 1, (tm 72))], some (68, true)⟩, ⟨some 74, .call .pure 155 [(tm 73)], some (68, true)⟩, op 75 (.pick (tm 68) (tm 74) (.cst (.bool false))), mv 4 75] [4] none)
 (.ret))
 (.seq (.region none [] [
 op 77 (.bin .eql .int (tm 42) (ci (4))), mv 76 77] [1, 2, 42, 76] none)
 (.cond (tm 76) (.seq (.region none [] [
 op 78 (.faddr 1 (tm 2)), op 79 (.load none (tm 78)), op 80 (.bin .eql .int (tm 79) (ci (0))), mv 81 80, ⟨some 82, .faddr 3 (tm 2), some (81, true)⟩, ⟨some 83, .load none (tm 82), some (81, true)⟩, ⟨some 84, .len .str (tm 83), some (81, true)⟩, ⟨some 85, .bin .leq .int (tm 84) (ci (100)), some (81, true)⟩, op 86 (.pick (tm 81) (tm 85) (.cst (.bool false))), mv 87 86, ⟨some 88, .faddr 3 (tm 2), some (87, true)⟩, ⟨some 89, .load none (tm 88), some (87, true)⟩, ⟨some 90, .call .pure 156 [(tm 89), (.cst (.fn 157 []))], some (87, true)⟩, ⟨some 91, .bin .lss .int (tm 90) (ci (0)), some (87, true)⟩, op 92 (.pick (tm 87) (tm 91) (.cst (.bool false))), mv 4 92] [4] none)
 (.ret))
 (.seq (.seq (.region none [] [
 op 94 (.bin .eql .int (tm 42) (ci (5))), mv 93 94] [1, 2, 42, 93] none)
 (.cond (tm 93) (.skip)
 (.region none [] [
 op 95 (.bin .eql .int (tm 42) (ci (6))), mv 93 95] [1, 2, 42, 93] none)))
 (.cond (tm 93) (.seq (.region none [] [
 op 96 (.faddr 1 (tm 2)), op 97 (.load none (tm 96)), op 98 (.bin .geq .int (tm 97) (ci (1))), mv 99 98, ⟨some 100, .faddr 1 (tm 2), some (99, true)⟩, ⟨some 101, .load none (tm 100), some (99, true)⟩, ⟨some 102, .bin .leq .int (tm 101) (ci (1000000)), some (99, true)⟩, op 103 (.pick (tm 99) (tm 102) (.cst (.bool false))), mv 4 103] [4] none)
 (.ret))
 (.seq (.region none [] [
 op 105 (.bin .eql .int (tm 42) (ci (8))), mv 104 105] [1, 2, 42, 104] none)
 (.cond (tm 104) (.seq (.seq (.region none [] [
 op 106 (.faddr 1 (tm 2)), op 107 (.load none (tm 106)), op 108 (.bin .neq .int (tm 107) (ci (0))), mv 109 108, ⟨some 110, .faddr 4 (tm 2), some (109, false)⟩, ⟨some 111, .load none (tm 110), some (109, false)⟩, ⟨some 112, .len .slice (tm 111), some (109, false)⟩, ⟨some 113, .bin .gtr .int (tm 112) (ci (64)), some (109, false)⟩, op 114 (.pick (tm 109) (.cst (.bool true)) (tm 113)), mv 115 114, mg 116 1 115 false, ⟨some 117, .bin .geq .int (tm 116) (ci (8)), some (115, false)⟩, op 118 (.pick (tm 115) (.cst (.bool true)) (tm 117))] [1, 2, 118] none)
 (.cond (tm 118) (.seq (.region none [] [
 op 4 (.mov (.cst (.bool false)))] [4] none)
 (.ret))
 (.skip)))
 (.seq (.seq (.region none [] [
 op 119 (.faddr 4 (tm 2)), op 120 (.load none (tm 119)), op 121 (.len .slice (tm 120)), op 122 (.mov (ci (0)))] [1, 120, 121, 122] none)
 (.block 1 (.loop l139_0_h l139_0_b)))
 (.seq (.region none [] [
 op 4 (.mov (.cst (.bool true)))] [4] none)
 (.ret))))
 (.seq (.region none [] [
 op 133 (.bin .eql .int (tm 42) (ci (7))), mv 132 133] [2, 132] none)
 (.cond (tm 132) (.seq (.region none [] [
 op 134 (.faddr 1 (tm 2)), op 135 (.load none (tm 134)), op 136 (.bin .eql .int (tm 135) (ci (0))), mv 137 136, ⟨some 138, .faddr 4 (tm 2), some (137, true)⟩, ⟨some 139, .load none (tm 138), some (137, true)⟩, ⟨some 140, .call .pure 158 [(tm 139)], some (137, true)⟩, op 141 (.pick (tm 137) (tm 140) (.cst (.bool false))), mv 4 141] [4] none)
 (.ret))
 (.skip)))))))))))))))))))
 (.seq (.region none [] [
 op 4 (.mov (.cst (.bool false)))] [4] none)
 (.ret))))

def a139 : AFunc := ⟨2, c139, [.tmp 4]⟩

def an139 : List RAnn := [
 { id := 0, live := [1, 2] },
 { id := 1, live := [1, 2, 40] },
 { id := 2, live := [4] },
 { id := 3, live := [1, 2, 42] },
 { id := 4, live := [1, 2, 42, 43] },
 { id := 5, live := [4] },
 { id := 6, live := [1, 2, 42, 48] },
 { id := 7, live := [4] },
 { id := 8, live := [1, 2, 42, 58] },
 { id := 9, live := [4] },
 { id := 10, live := [1, 2, 42, 63] },
 { id := 11, live := [4] },
 { id := 12, live := [1, 2, 42, 76] },
 { id := 13, live := [4] },
 { id := 14, live := [1, 2, 42, 93] },
 { id := 15, live := [1, 2, 42, 93] },
 { id := 16, live := [4] },
 { id := 17, live := [1, 2, 42, 104] },
 { id := 18, live := [1, 2, 118] },
 { id := 19, live := [4] },
 { id := 20, live := [1, 120, 121, 122] },
 { id := 21, live := [1, 120, 121, 122, 123], hdr := [1, 120, 121, 122] },
 { id := 22, live := [1, 6, 120, 121, 122] },
 { id := 23, live := [1, 120, 121, 122, 130] },
 { id := 24, live := [4] },
 { id := 25, live := [1, 120, 121, 122], trunc := some 1 },
 { id := 26, live := [4] },
 { id := 27, live := [2, 132] },
 { id := 28, live := [4] },
 { id := 29, live := [4] }]

theorem comp139 : compF Tryz.prog an139 Tryz.f139 = some a139 := by kernel_rfl

/- slices.Clone[[]graphdb/api.Value,graphdb/api.Value] -/
def c140 : ACode :=
 .seq (.region none [] [
 op 2 (.mov (.cst (.sl false [])))] [0] none)
 (.seq (.seq (.region none [] [
 mv 3 0, op 4 (.bin .eql .slice (tm 3) (.cst (.sl false [])))] [0, 4] none)
 (.cond (tm 4) (.seq (.region none [] [
 op 2 (.mov (.cst (.sl false [])))] [2] none)
 (.ret))
 (.skip)))
 (.seq (.region none [] [
 op 5 (.lit true 5 (.agg [.int .i64 0, .int .i64 0, .int .i64 0, .str [], .sl false []]) 0 []), mv 6 0, op 7 (.append 5 64 (tm 5) (tm 6)), mv 2 7] [2] none)
 (.ret)))

def a140 : AFunc := ⟨1, c140, [.tmp 2]⟩

def an140 : List RAnn := [
 { id := 0, live := [0] },
 { id := 1, live := [0, 4] },
 { id := 2, live := [2] },
 { id := 3, live := [2], ops := [(0, .own)] }]

theorem comp140 : compF Tryz.prog an140 Tryz.f140 = some a140 := by kernel_rfl

/- cmp.isNaN[string] -/
def c144 : ACode :=
 .seq (.region none [] [
 op 2 (.mov (.cst (.bool false)))] [0] none)
 (.seq (.region none [] [
 mv 3 0, mv 4 0, op 5 (.bin .neq .str (tm 3) (tm 4)), mv 2 5] [2] none)
 (.ret))

def a144 : AFunc := ⟨1, c144, [.tmp 2]⟩

def an144 : List RAnn := [
 { id := 0, live := [0] },
 { id := 1, live := [2] }]

theorem comp144 : compF Tryz.prog an144 Tryz.f144 = some a144 := by kernel_rfl

/- graphdb/graphdbref04.bare -/
def c145 : ACode :=
 .seq (.region none [] [
 op 5 (.box 5 (tm 0)), op 10 (.mov (.cst (.bool false)))] [1, 2, 3, 4, 5] none)
 (.seq (.region none [] [
 mv 11 1, mv 12 11, ⟨some 13, .faddr 1 (tm 5), some (12, false)⟩, ⟨some 14, .load none (tm 13), some (12, false)⟩, ⟨some 15, .bin .eql .int (tm 14) (ci (0)), some (12, false)⟩, op 16 (.pick (tm 12) (.cst (.bool true)) (tm 15)), mv 17 16, mg 18 2 17 true, mg 19 18 17 true, ⟨some 20, .faddr 2 (tm 5), some (19, false)⟩, ⟨some 21, .load none (tm 20), some (19, false)⟩, ⟨some 22, .bin .eql .int (tm 21) (ci (0)), some (19, false)⟩, ⟨some 23, .pick (tm 19) (.cst (.bool true)) (tm 22), some (17, true)⟩, op 24 (.pick (tm 17) (tm 23) (.cst (.bool false))), mv 25 24, mg 26 3 25 true, mg 27 26 25 true, ⟨some 28, .faddr 3 (tm 5), some (27, false)⟩, ⟨some 29, .load none (tm 28), some (27, false)⟩, ⟨some 30, .bin .eql .str (tm 29) (.cst (.str [])), some (27, false)⟩, ⟨some 31, .pick (tm 27) (.cst (.bool true)) (tm 30), some (25, true)⟩, op 32 (.pick (tm 25) (tm 31) (.cst (.bool false))), mv 33 32, mg 34 4 33 true, mg 35 34 33 true, ⟨some 36, .faddr 4 (tm 5), some (35, false)⟩, ⟨some 37, .load none (tm 36), some (35, false)⟩, ⟨some 38, .len .slice (tm 37), some (35, false)⟩, ⟨some 39, .bin .eql .int (tm 38) (ci (0)), some (35, false)⟩, ⟨some 40, .pick (tm 35) (.cst (.bool true)) (tm 39), some (33, true)⟩, op 41 (.pick (tm 33) (tm 40) (.cst (.bool false))), mv 10 41] [10] none)
 (.ret))

def a145 : AFunc := ⟨5, c145, [.tmp 10]⟩

def an145 : List RAnn := [
 { id := 0, live := [1, 2, 3, 4, 5] },
 { id := 1, live := [10] }]

theorem comp145 : compF Tryz.prog an145 Tryz.f145 = some a145 := by kernel_rfl

/- graphdb/graphdbref01.In -/
def c146 : ACode :=
 .seq (.region none [] [
 op 2 (.mov (.cst (.bool false)))] [0] none)
 (.seq (.region none [] [
 mv 3 0, op 4 (.bin .geq .int (tm 3) (ci ((-1000000000000000)))), mv 5 4, mg 6 0 5 true, ⟨some 7, .bin .leq .int (tm 6) (ci (1000000000000000)), some (5, true)⟩, op 8 (.pick (tm 5) (tm 7) (.cst (.bool false))), mv 2 8] [2] none)
 (.ret))

def a146 : AFunc := ⟨1, c146, [.tmp 2]⟩

def an146 : List RAnn := [
 { id := 0, live := [0] },
 { id := 1, live := [2] }]

theorem comp146 : compF Tryz.prog an146 Tryz.f146 = some a146 := by kernel_rfl

/- graphdb/graphdbref04.str -/
/-- loop 0 of function 147 -/
def l147_0_h : List Nat := [0, 3]

def l147_0_b : ACode :=
 .seq (.seq (.region none [] [
 mv 4 3, mv 5 0, op 6 (.len .str (tm 5)), op 7 (.bin .lss .int (tm 4) (tm 6))] [0, 3, 7] none)
 (.cond (tm 7) (.skip)
 (.exit 0)))
 (.seq (.block 1 (.seq (.region none [] [
 mv 10 0, mv 11 3, op 12 (.sidx (tm 10) (tm 11)), op 13 (.bin .lss .int (tm 12) (.cst (.int .u8 32))), mv 14 13, mg 15 0 14 false, mg 16 3 14 false, ⟨some 17, .sidx (tm 15) (tm 16), some (14, false)⟩, ⟨some 18, .bin .gtr .int (tm 17) (.cst (.int .u8 126)), some (14, false)⟩, op 19 (.pick (tm 14) (.cst (.bool true)) (tm 18))] [0, 3, 19] none)
 (.cond (tm 19) (.seq (.region none [] [
 op 2 (.mov (.cst (.bool false)))] [2] none)
 (.ret))
 (.skip))))
 (.region none [] [
 mv 8 3, op 9 (.bin .add .int (tm 8) (ci (1))), mv 3 9] [0, 3] none))

def c147 : ACode :=
 .seq (.region none [] [
 op 2 (.mov (.cst (.bool false)))] [0] none)
 (.seq (.seq (.region none [] [
 op 3 (.mov (ci (0)))] [0, 3] none)
 (.block 0 (.loop l147_0_h l147_0_b)))
 (.seq (.region none [] [
 mv 20 0, op 21 (.len .str (tm 20)), op 22 (.bin .leq .int (tm 21) (ci (100))), mv 2 22] [2] none)
 (.ret)))

def a147 : AFunc := ⟨1, c147, [.tmp 2]⟩

def an147 : List RAnn := [
 { id := 0, live := [0] },
 { id := 1, live := [0, 3] },
 { id := 2, live := [0, 3, 7], hdr := [0, 3] },
 { id := 4, live := [0, 3, 19] },
 { id := 5, live := [2] },
 { id := 3, live := [0, 3] },
 { id := 6, live := [2] }]

theorem comp147 : compF Tryz.prog an147 Tryz.f147 = some a147 := by kernel_rfl

/- graphdb/graphdbref04.path -/
/-- loop 0 of function 148 -/
def l148_0_h : List Nat := [0, 3]

def l148_0_b : ACode :=
 .seq (.seq (.region none [] [
 mv 14 3, mv 15 0, op 16 (.len .slice (tm 15)), op 17 (.bin .lss .int (tm 14) (tm 16))] [0, 3, 17] none)
 (.cond (tm 17) (.skip)
 (.exit 0)))
 (.seq (.block 1 (.seq (.region none [] [
 op 4 (.mov (ci (5)))] [0, 3, 4] none)
 (.seq (.seq (.region none [] [
 mv 20 3, op 21 (.bin .rem .int (tm 20) (ci (2))), op 22 (.bin .eql .int (tm 21) (ci (1)))] [0, 3, 4, 22] none)
 (.cond (tm 22) (.region none [] [
 op 4 (.mov (ci (6)))] [0, 3, 4] none)
 (.skip)))
 (.seq (.region none [] [
 mv 23 0, mv 24 3, op 25 (.iaddr 5 (tm 23) (tm 24)), op 26 (.faddr 0 (tm 25)), op 27 (.load none (tm 26)), mv 28 4, op 29 (.bin .neq .int (tm 27) (tm 28)), mv 30 29, mg 31 0 30 false, mg 32 3 30 false, ⟨some 33, .iaddr 5 (tm 31) (tm 32), some (30, false)⟩, ⟨some 34, .load (some 5) (tm 33), some (30, false)⟩, ⟨some 35, .call .pure 128 [(tm 34), (ci (0))], some (30, false)⟩, ⟨some 36, .un .not (tm 35), some (30, false)⟩, op 37 (.pick (tm 30) (.cst (.bool true)) (tm 36))] [0, 3, 37] none)
 (.cond (tm 37) (.seq (.region none [] [
 op 2 (.mov (.cst (.bool false)))] [2] none)
 (.ret))
 (.skip))))))
 (.region none [] [
 mv 18 3, op 19 (.bin .add .int (tm 18) (ci (1))), mv 3 19] [0, 3] none))

def c148 : ACode :=
 .seq (.region none [] [
 op 2 (.mov (.cst (.bool false)))] [0] none)
 (.seq (.seq (.region none [] [
 mv 5 0, op 6 (.len .slice (tm 5)), op 7 (.bin .rem .int (tm 6) (ci (2))), op 8 (.bin .eql .int (tm 7) (ci (0))), mv 9 8, mg 10 0 9 false, ⟨some 11, .len .slice (tm 10), some (9, false)⟩, ⟨some 12, .bin .gtr .int (tm 11) (ci (25)), some (9, false)⟩, op 13 (.pick (tm 9) (.cst (.bool true)) (tm 12))] [0, 13] none)
 (.cond (tm 13) (.seq (.region none [] [
 op 2 (.mov (.cst (.bool false)))] [2] none)
 (.ret))
 (.skip)))
 (.seq (.seq (.region none [] [
 op 3 (.mov (ci (0)))] [0, 3] none)
 (.block 0 (.loop l148_0_h l148_0_b)))
 (.seq (.region none [] [
 op 2 (.mov (.cst (.bool true)))] [2] none)
 (.ret))))

def a148 : AFunc := ⟨1, c148, [.tmp 2]⟩

def an148 : List RAnn := [
 { id := 0, live := [0] },
 { id := 1, live := [0, 13] },
 { id := 2, live := [2] },
 { id := 3, live := [0, 3] },
 { id := 4, live := [0, 3, 17], hdr := [0, 3] },
 { id := 6, live := [0, 3, 4] },
 { id := 7, live := [0, 3, 4, 22] },
 { id := 8, live := [0, 3, 4] },
 { id := 9, live := [0, 3, 37] },
 { id := 10, live := [2] },
 { id := 5, live := [0, 3] },
 { id := 11, live := [2] }]

theorem comp148 : compF Tryz.prog an148 Tryz.f148 = some a148 := by kernel_rfl

/- graphdb/graphdbref04.list -/
/-- loop 0 of function 149 -/
def l149_0_h : List Nat := [0, 1, 5]

def l149_0_b : ACode :=
 .seq (.seq (.region none [] [
 mv 13 5, mv 14 0, op 15 (.len .slice (tm 14)), op 16 (.bin .lss .int (tm 13) (tm 15))] [0, 1, 5, 16] none)
 (.cond (tm 16) (.skip)
 (.exit 0)))
 (.seq (.block 1 (.seq (.region none [] [
 mv 19 0, mv 20 5, op 21 (.iaddr 5 (tm 19) (tm 20)), op 22 (.load (some 5) (tm 21)), mv 23 1, op 24 (.bin .sub .int (tm 23) (ci (1))), op 25 (.call .pure 128 [(tm 22), (tm 24)]), op 26 (.un .not (tm 25))] [0, 1, 5, 26] none)
 (.cond (tm 26) (.seq (.region none [] [
 op 4 (.mov (.cst (.bool false)))] [4] none)
 (.ret))
 (.skip))))
 (.region none [] [
 mv 17 5, op 18 (.bin .add .int (tm 17) (ci (1))), mv 5 18] [0, 1, 5] none))

def c149 : ACode :=
 .seq (.region none [] [
 op 4 (.mov (.cst (.bool false)))] [0, 1] none)
 (.seq (.seq (.region none [] [
 mv 6 1, op 7 (.bin .lss .int (tm 6) (ci (1))), mv 8 7, mg 9 0 8 false, ⟨some 10, .len .slice (tm 9), some (8, false)⟩, ⟨some 11, .bin .gtr .int (tm 10) (ci (64)), some (8, false)⟩, op 12 (.pick (tm 8) (.cst (.bool true)) (tm 11))] [0, 1, 12] none)
 (.cond (tm 12) (.seq (.region none [] [
 op 4 (.mov (.cst (.bool false)))] [4] none)
 (.ret))
 (.skip)))
 (.seq (.seq (.region none [] [
 op 5 (.mov (ci (0)))] [0, 1, 5] none)
 (.block 0 (.loop l149_0_h l149_0_b)))
 (.seq (.region none [] [
 op 4 (.mov (.cst (.bool true)))] [4] none)
 (.ret))))

def a149 : AFunc := ⟨2, c149, [.tmp 4]⟩

def an149 : List RAnn := [
 { id := 0, live := [0, 1] },
 { id := 1, live := [0, 1, 12] },
 { id := 2, live := [4] },
 { id := 3, live := [0, 1, 5] },
 { id := 4, live := [0, 1, 5, 16], hdr := [0, 1, 5] },
 { id := 6, live := [0, 1, 5, 26] },
 { id := 7, live := [4] },
 { id := 5, live := [0, 1, 5] },
 { id := 8, live := [4] }]

theorem comp149 : compF Tryz.prog an149 Tryz.f149 = some a149 := by kernel_rfl

/- graphdb/graphdbref03.gcd -/
/-- loop 0 of function 150 -/
def l150_0_h : List Nat := [0, 1]

def l150_0_b : ACode :=
 .seq (.seq (.region none [] [
 mv 5 1, op 6 (.bin .gtr .int (tm 5) (ci (0)))] [0, 1, 6] none)
 (.cond (tm 6) (.skip)
 (.exit 0)))
 (.block 1 (.region (some 6) [] [
 mv 7 1, mv 8 0, mv 9 1, op 10 (.bin .rem .int (tm 8) (tm 9)), mv 0 7, mv 1 10] [0, 1] none))

def c150 : ACode :=
 .seq (.region none [] [
 op 4 (.mov (ci (0)))] [0, 1] none)
 (.seq (.block 0 (.loop l150_0_h l150_0_b))
 (.seq (.region none [] [
 mv 11 0, mv 4 11] [4] none)
 (.ret)))

def a150 : AFunc := ⟨2, c150, [.tmp 4]⟩

def an150 : List RAnn := [
 { id := 0, live := [0, 1] },
 { id := 1, live := [0, 1, 6], hdr := [0, 1] },
 { id := 2, head := some 6, live := [0, 1] },
 { id := 3, live := [4] }]

theorem comp150 : compF Tryz.prog an150 Tryz.f150 = some a150 := by kernel_rfl

/- graphdb/graphdbref03.plus -/
/-- loop 0 of function 151 -/
def l151_0_h : List Nat := [0, 1, 5, 6, 7]

def l151_0_b : ACode :=
 .seq (.seq (.region none [] [
 mv 11 7, mv 12 0, op 13 (.len .slice (tm 12)), op 14 (.bin .lss .int (tm 11) (tm 13))] [0, 1, 5, 6, 7, 14] none)
 (.cond (tm 14) (.skip)
 (.exit 0)))
 (.seq (.block 1 (.seq (.region (some 12) [] [
 mv 17 6, mv 18 0, mv 19 7, op 20 (.iaddr 1 (tm 18) (tm 19)), op 21 (.load none (tm 20)), op 22 (.bin .add .int (tm 17) (tm 21)), mv 23 1, mv 24 7, op 25 (.iaddr 1 (tm 23) (tm 24)), op 26 (.load none (tm 25)), op 27 (.bin .add .int (tm 22) (tm 26)), mv 6 27] [0, 1, 5, 6, 7] none)
 (.seq (.region none [] [
 mv 28 5, mv 29 7, mv 30 6, op 31 (.bin .rem .int (tm 30) (ci (1000))), op 32 (.iaddr 1 (tm 28) (tm 29)), ⟨none, .store 1 (tm 32) (tm 31), none⟩] [0, 1, 5, 6, 7] none)
 (.region none [] [
 mv 33 6, op 34 (.bin .quo .int (tm 33) (ci (1000))), mv 6 34] [0, 1, 5, 6, 7] none))))
 (.region none [] [
 mv 15 7, op 16 (.bin .add .int (tm 15) (ci (1))), mv 7 16] [0, 1, 5, 6, 7] none))

def c151 : ACode :=
 .seq (.region none [] [
 op 4 (.mov (.cst (.sl false [])))] [0, 1] none)
 (.seq (.region none [] [
 mv 8 0, op 9 (.len .slice (tm 8)), op 10 (.mkslice 1 8 (.int .i64 0) (tm 9) (tm 9)), mv 5 10] [0, 1, 5] none)
 (.seq (.region none [] [
 op 6 (.mov (ci (0)))] [0, 1, 5, 6] none)
 (.seq (.seq (.region none [] [
 op 7 (.mov (ci (0)))] [0, 1, 5, 6, 7] none)
 (.block 0 (.loop l151_0_h l151_0_b)))
 (.seq (.region none [] [
 mv 35 5, mv 4 35] [4] none)
 (.ret)))))

def a151 : AFunc := ⟨2, c151, [.tmp 4]⟩

def an151 : List RAnn := [
 { id := 0, live := [0, 1] },
 { id := 1, live := [0, 1, 5] },
 { id := 2, live := [0, 1, 5, 6] },
 { id := 3, live := [0, 1, 5, 6, 7] },
 { id := 4, live := [0, 1, 5, 6, 7, 14], hdr := [0, 1, 5, 6, 7] },
 { id := 6, head := some 12, live := [0, 1, 5, 6, 7] },
 { id := 7, live := [0, 1, 5, 6, 7] },
 { id := 8, live := [0, 1, 5, 6, 7] },
 { id := 5, live := [0, 1, 5, 6, 7] },
 { id := 9, live := [4] }]

theorem comp151 : compF Tryz.prog an151 Tryz.f151 = some a151 := by kernel_rfl

/- graphdb/graphdbref03.order -/
/-- loop 0 of function 152 -/
def l152_0_h : List Nat := [0, 1, 5]

def l152_0_b : ACode :=
 .seq (.seq (.region none [] [
 mv 9 5, op 10 (.bin .geq .int (tm 9) (ci (0)))] [0, 1, 5, 10] none)
 (.cond (tm 10) (.skip)
 (.exit 0)))
 (.seq (.block 1 (.seq (.seq (.region (some 9) [] [
 mv 13 0, mv 14 5, op 15 (.iaddr 1 (tm 13) (tm 14)), op 16 (.load none (tm 15)), mv 17 1, mv 18 5, op 19 (.iaddr 1 (tm 17) (tm 18)), op 20 (.load none (tm 19)), op 21 (.bin .lss .int (tm 16) (tm 20))] [0, 1, 5, 21] none)
 (.cond (tm 21) (.seq (.region none [] [
 op 4 (.mov (ci ((-1))))] [4] none)
 (.ret))
 (.skip)))
 (.seq (.region (some 9) [] [
 mv 22 0, mv 23 5, op 24 (.iaddr 1 (tm 22) (tm 23)), op 25 (.load none (tm 24)), mv 26 1, mv 27 5, op 28 (.iaddr 1 (tm 26) (tm 27)), op 29 (.load none (tm 28)), op 30 (.bin .gtr .int (tm 25) (tm 29))] [0, 1, 5, 30] none)
 (.cond (tm 30) (.seq (.region none [] [
 op 4 (.mov (ci (1)))] [4] none)
 (.ret))
 (.skip)))))
 (.region none [] [
 mv 11 5, op 12 (.bin .sub .int (tm 11) (ci (1))), mv 5 12] [0, 1, 5] none))

def c152 : ACode :=
 .seq (.region none [] [
 op 4 (.mov (ci (0)))] [0, 1] none)
 (.seq (.seq (.region none [] [
 mv 6 0, op 7 (.len .slice (tm 6)), op 8 (.bin .sub .int (tm 7) (ci (1))), mv 5 8] [0, 1, 5] none)
 (.block 0 (.loop l152_0_h l152_0_b)))
 (.seq (.region none [] [
 op 4 (.mov (ci (0)))] [4] none)
 (.ret)))

def a152 : AFunc := ⟨2, c152, [.tmp 4]⟩

def an152 : List RAnn := [
 { id := 0, live := [0, 1] },
 { id := 1, live := [0, 1, 5] },
 { id := 2, live := [0, 1, 5, 10], hdr := [0, 1, 5] },
 { id := 4, head := some 9, live := [0, 1, 5, 21] },
 { id := 5, live := [4] },
 { id := 6, head := some 9, live := [0, 1, 5, 30] },
 { id := 7, live := [4] },
 { id := 3, live := [0, 1, 5] },
 { id := 8, live := [4] }]

theorem comp152 : compF Tryz.prog an152 Tryz.f152 = some a152 := by kernel_rfl

/- graphdb/graphdbref03.minus -/
/-- loop 0 of function 153 -/
def l153_0_h : List Nat := [0, 1, 5, 6, 7]

def l153_0_b : ACode :=
 .seq (.seq (.region none [] [
 mv 11 7, mv 12 0, op 13 (.len .slice (tm 12)), op 14 (.bin .lss .int (tm 11) (tm 13))] [0, 1, 5, 6, 7, 14] none)
 (.cond (tm 14) (.skip)
 (.exit 0)))
 (.seq (.block 1 (.seq (.region (some 12) [] [
 mv 17 6, mv 18 0, mv 19 7, op 20 (.iaddr 1 (tm 18) (tm 19)), op 21 (.load none (tm 20)), op 22 (.bin .add .int (tm 17) (tm 21)), mv 23 1, mv 24 7, op 25 (.iaddr 1 (tm 23) (tm 24)), op 26 (.load none (tm 25)), op 27 (.bin .sub .int (tm 22) (tm 26)), mv 6 27] [0, 1, 5, 6, 7] none)
 (.seq (.region none [] [
 mv 28 6, op 29 (.bin .lss .int (tm 28) (ci (0)))] [0, 1, 5, 6, 7, 29] none)
 (.cond (tm 29) (.seq (.region none [] [
 mv 30 5, mv 31 7, mv 32 6, op 33 (.bin .add .int (tm 32) (ci (1000))), op 34 (.iaddr 1 (tm 30) (tm 31)), ⟨none, .store 1 (tm 34) (tm 33), none⟩] [0, 1, 5, 7] none)
 (.region none [] [
 op 6 (.mov (ci ((-1))))] [0, 1, 5, 6, 7] none))
 (.seq (.region none [] [
 mv 35 5, mv 36 7, mv 37 6, op 38 (.iaddr 1 (tm 35) (tm 36)), ⟨none, .store 1 (tm 38) (tm 37), none⟩] [0, 1, 5, 7] none)
 (.region none [] [
 op 6 (.mov (ci (0)))] [0, 1, 5, 6, 7] none))))))
 (.region none [] [
 mv 15 7, op 16 (.bin .add .int (tm 15) (ci (1))), mv 7 16] [0, 1, 5, 6, 7] none))

def c153 : ACode :=
 .seq (.region none [] [
 op 4 (.mov (.cst (.sl false [])))] [0, 1] none)
 (.seq (.region none [] [
 mv 8 0, op 9 (.len .slice (tm 8)), op 10 (.mkslice 1 8 (.int .i64 0) (tm 9) (tm 9)), mv 5 10] [0, 1, 5] none)
 (.seq (.region none [] [
 op 6 (.mov (ci (0)))] [0, 1, 5, 6] none)
 (.seq (.seq (.region none [] [
 op 7 (.mov (ci (0)))] [0, 1, 5, 6, 7] none)
 (.block 0 (.loop l153_0_h l153_0_b)))
 (.seq (.region none [] [
 mv 39 5, mv 4 39] [4] none)
 (.ret)))))

def a153 : AFunc := ⟨2, c153, [.tmp 4]⟩

def an153 : List RAnn := [
 { id := 0, live := [0, 1] },
 { id := 1, live := [0, 1, 5] },
 { id := 2, live := [0, 1, 5, 6] },
 { id := 3, live := [0, 1, 5, 6, 7] },
 { id := 4, live := [0, 1, 5, 6, 7, 14], hdr := [0, 1, 5, 6, 7] },
 { id := 6, head := some 12, live := [0, 1, 5, 6, 7] },
 { id := 7, live := [0, 1, 5, 6, 7, 29] },
 { id := 8, live := [0, 1, 5, 7] },
 { id := 9, live := [0, 1, 5, 6, 7] },
 { id := 10, live := [0, 1, 5, 7] },
 { id := 11, live := [0, 1, 5, 6, 7] },
 { id := 5, live := [0, 1, 5, 6, 7] },
 { id := 12, live := [4] }]

theorem comp153 : compF Tryz.prog an153 Tryz.f153 = some a153 := by kernel_rfl

/- graphdb/num.In -/
def c154 : ACode :=
 .seq (.region none [] [
 op 2 (.mov (.cst (.bool false)))] [0] none)
 (.seq (.region none [] [
 mv 3 0, op 4 (.bin .geq .int (tm 3) (ci ((-1000000000000000)))), mv 5 4, mg 6 0 5 true, ⟨some 7, .bin .leq .int (tm 6) (ci (1000000000000000)), some (5, true)⟩, op 8 (.pick (tm 5) (tm 7) (.cst (.bool false))), mv 2 8] [2] none)
 (.ret))

def a154 : AFunc := ⟨1, c154, [.tmp 2]⟩

def an154 : List RAnn := [
 { id := 0, live := [0] },
 { id := 1, live := [2] }]

theorem comp154 : compF Tryz.prog an154 Tryz.f154 = some a154 := by kernel_rfl

/- graphdb/frac.Valid -/
def c155 : ACode :=
 .seq (.region none [] [
 op 1 (.box 2 (tm 0)), op 2 (.mov (.cst (.bool false)))] [1] none)
 (.seq (.region none [] [
 op 3 (.faddr 1 (tm 1)), op 4 (.load none (tm 3)), op 5 (.bin .geq .int (tm 4) (ci (1))), mv 6 5, ⟨some 7, .faddr 1 (tm 1), some (6, true)⟩, ⟨some 8, .load none (tm 7), some (6, true)⟩, ⟨some 9, .bin .leq .int (tm 8) (ci (1000000000000000)), some (6, true)⟩, op 10 (.pick (tm 6) (tm 9) (.cst (.bool false))), mv 11 10, ⟨some 12, .faddr 0 (tm 1), some (11, true)⟩, ⟨some 13, .load none (tm 12), some (11, true)⟩, ⟨some 14, .call .pure 154 [(tm 13)], some (11, true)⟩, op 15 (.pick (tm 11) (tm 14) (.cst (.bool false))), mv 16 15, ⟨some 17, .faddr 0 (tm 1), some (16, true)⟩, ⟨some 18, .load none (tm 17), some (16, true)⟩, ⟨some 19, .faddr 1 (tm 1), some (16, true)⟩, ⟨some 20, .load none (tm 19), some (16, true)⟩, ⟨some 21, .call .pure 162 [(tm 18), (tm 20)], some (16, true)⟩, ⟨some 22, .bin .eql .int (tm 21) (ci (1)), some (16, true)⟩, op 23 (.pick (tm 16) (tm 22) (.cst (.bool false))), mv 2 23] [2] none)
 (.ret))

def a155 : AFunc := ⟨1, c155, [.tmp 2]⟩

def an155 : List RAnn := [
 { id := 0, live := [1] },
 { id := 1, live := [2] }]

theorem comp155 : compF Tryz.prog an155 Tryz.f155 = some a155 := by kernel_rfl

/- graphdb/value.valid$1 -/
def c157 : ACode :=
 .seq (.region none [] [
 op 2 (.mov (.cst (.bool false)))] [0] none)
 (.seq (.region none [] [
 mv 3 0, op 4 (.bin .lss .int (tm 3) (.cst (.int .i32 32))), mv 5 4, mg 6 0 5 false, ⟨some 7, .bin .gtr .int (tm 6) (.cst (.int .i32 126)), some (5, false)⟩, op 8 (.pick (tm 5) (.cst (.bool true)) (tm 7)), mv 2 8] [2] none)
 (.ret))

def a157 : AFunc := ⟨1, c157, [.tmp 2]⟩

def an157 : List RAnn := [
 { id := 0, live := [0] },
 { id := 1, live := [2] }]

theorem comp157 : compF Tryz.prog an157 Tryz.f157 = some a157 := by kernel_rfl

/- graphdb/value.path -/
/-- loop 0 of function 158 -/
def l158_0_h : List Nat := [15, 16, 17]

def l158_0_b : ACode :=
 .seq (.region none [] [
 op 18 (.bin .lss .int (tm 17) (tm 16))] [15, 16, 17, 18] none)
 (.seq (.cond (tm 18) (.skip)
 (.exit 0))
 (.seq (.block 1 (.seq (.region none [] [
 mv 19 17, op 20 (.iaddr 5 (tm 15) (tm 17)), op 21 (.load (some 5) (tm 20)), op 4 (.alloc 5 (.agg [.int .i64 0, .int .i64 0, .int .i64 0, .str [], .sl false []])), mv 3 19, ⟨none, .store 5 (tm 4) (tm 21), none⟩] [3, 4, 15, 16, 17] none)
 (.seq (.region none [] [
 op 22 (.lit false 1 (.int .i64 0) 2 [(0, (ci (5))), (1, (ci (6)))]), mv 23 3, op 24 (.bin .rem .int (tm 23) (ci (2))), op 25 (.iaddr 1 (tm 22) (tm 24)), op 26 (.load none (tm 25)), mv 5 26] [4, 5, 15, 16, 17] none)
 (.seq (.region none [] [
 op 27 (.faddr 0 (tm 4)), op 28 (.load none (tm 27)), mv 29 5, op 30 (.bin .neq .int (tm 28) (tm 29)), mv 31 30, ⟨some 32, .load (some 5) (tm 4), some (31, false)⟩, ⟨some 33, .call .pure 139 [(tm 32), (ci (0))], some (31, false)⟩, ⟨some 34, .un .not (tm 33), some (31, false)⟩, op 35 (.pick (tm 31) (.cst (.bool true)) (tm 34))] [15, 16, 17, 35] none)
 (.cond (tm 35) (.seq (.region none [] [
 op 2 (.mov (.cst (.bool false)))] [2] none)
 (.ret))
 (.skip))))))
 (.region none [] [
 op 36 (.bin .add .int (tm 17) (ci (1))), mv 17 36] [15, 16, 17] (some 0))))

def c158 : ACode :=
 .seq (.region none [] [
 op 2 (.mov (.cst (.bool false)))] [0] none)
 (.seq (.seq (.region none [] [
 mv 6 0, op 7 (.len .slice (tm 6)), op 8 (.bin .rem .int (tm 7) (ci (2))), op 9 (.bin .eql .int (tm 8) (ci (0))), mv 10 9, mg 11 0 10 false, ⟨some 12, .len .slice (tm 11), some (10, false)⟩, ⟨some 13, .bin .gtr .int (tm 12) (ci (25)), some (10, false)⟩, op 14 (.pick (tm 10) (.cst (.bool true)) (tm 13))] [0, 14] none)
 (.cond (tm 14) (.seq (.region none [] [
 op 2 (.mov (.cst (.bool false)))] [2] none)
 (.ret))
 (.skip)))
 (.seq (.seq (.region none [] [
 mv 15 0, op 16 (.len .slice (tm 15)), op 17 (.mov (ci (0)))] [15, 16, 17] none)
 (.block 0 (.loop l158_0_h l158_0_b)))
 (.seq (.region none [] [
 op 2 (.mov (.cst (.bool true)))] [2] none)
 (.ret))))

def a158 : AFunc := ⟨1, c158, [.tmp 2]⟩

def an158 : List RAnn := [
 { id := 0, live := [0] },
 { id := 1, live := [0, 14] },
 { id := 2, live := [2] },
 { id := 3, live := [15, 16, 17] },
 { id := 4, live := [15, 16, 17, 18], hdr := [15, 16, 17] },
 { id := 5, live := [3, 4, 15, 16, 17] },
 { id := 6, live := [4, 5, 15, 16, 17] },
 { id := 7, live := [15, 16, 17, 35] },
 { id := 8, live := [2] },
 { id := 9, live := [15, 16, 17], trunc := some 0 },
 { id := 10, live := [2] }]

theorem comp158 : compF Tryz.prog an158 Tryz.f158 = some a158 := by kernel_rfl

/- graphdb/num.Gcd -/
/-- loop 0 of function 162 -/
def l162_0_h : List Nat := [0, 1]

def l162_0_b : ACode :=
 .seq (.seq (.region none [] [
 mv 17 1, op 18 (.bin .neq .int (tm 17) (ci (0)))] [0, 1, 18] none)
 (.cond (tm 18) (.skip)
 (.exit 0)))
 (.block 1 (.region (some 6) [] [
 mv 19 1, mv 20 0, mv 21 1, op 22 (.bin .rem .int (tm 20) (tm 21)), mv 0 19, mv 1 22] [0, 1] none))

def c162 : ACode :=
 .seq (.region none [] [
 op 4 (.mov (ci (0)))] [0, 1] none)
 (.seq (.seq (.region none [] [
 mv 5 0, op 6 (.call .pure 154 [(tm 5)]), op 7 (.un .not (tm 6)), mv 8 7, mg 9 1 8 false, ⟨some 10, .call .pure 154 [(tm 9)], some (8, false)⟩, ⟨some 11, .un .not (tm 10), some (8, false)⟩, op 12 (.pick (tm 8) (.cst (.bool true)) (tm 11))] [0, 1, 12] none)
 (.cond (tm 12) (.seq (.region none [] [
 op 4 (.mov (ci (0)))] [4] none)
 (.ret))
 (.skip)))
 (.seq (.region none [] [
 mv 13 0, op 14 (.call .pure 169 [(tm 13)]), mv 15 1, op 16 (.call .pure 169 [(tm 15)]), mv 0 14, mv 1 16] [0, 1] none)
 (.seq (.block 0 (.loop l162_0_h l162_0_b))
 (.seq (.region none [] [
 mv 23 0, mv 4 23] [4] none)
 (.ret)))))

def a162 : AFunc := ⟨2, c162, [.tmp 4]⟩

def an162 : List RAnn := [
 { id := 0, live := [0, 1] },
 { id := 1, live := [0, 1, 12] },
 { id := 2, live := [4] },
 { id := 3, live := [0, 1] },
 { id := 4, live := [0, 1, 18], hdr := [0, 1] },
 { id := 5, head := some 6, live := [0, 1] },
 { id := 6, live := [4] }]

theorem comp162 : compF Tryz.prog an162 Tryz.f162 = some a162 := by kernel_rfl

/- graphdb/num.abs -/
def c169 : ACode :=
 .seq (.region none [] [
 op 2 (.mov (ci (0)))] [0] none)
 (.seq (.region none [] [
 mv 3 0, mv 4 0, op 5 (.un .neg (tm 4)), op 6 (.max (tm 3) (tm 5)), mv 2 6] [2] none)
 (.ret))

def a169 : AFunc := ⟨1, c169, [.tmp 2]⟩

def an169 : List RAnn := [
 { id := 0, live := [0] },
 { id := 1, live := [2] }]

theorem comp169 : compF Tryz.prog an169 Tryz.f169 = some a169 := by kernel_rfl

end AI
end Go.Proofs.YtnfdpfeeenmffaaGreatDoor
