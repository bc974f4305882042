/- Printed by a program of mine: the functions, compiled; the kernel checks each against the given form. -/
import Derived.Test.YtnfdpfeeenmffaaGreatDoorSe
import Derived.Test.YtnfdpfeeenmffaaGreatDoorProg
import Derived.Test.YtnfdpfeeenmffaaGreatDoorAb
import Derived.KernelRfl
import Derived.Test.YtnfdpfeeenmffaaGreatDoorIxF
namespace Go.Proofs.YtnfdpfeeenmffaaGreatDoor
namespace AI

/- graphdb/graphdblaw11.DeltaSpares -/
def c3 : ACode :=
 .seq (.region none [] [
 op 2 (.box 4 (tm 0)), op 4 (.mov (.cst (.bool false)))] [1, 2] none)
 (.seq (.seq (.region none [] [
 op 12 (.load (some 4) (tm 2)), op 13 (.load (some 4) (tm 2)), op 14 (.call .pure 4 [(tm 12), (tm 13)]), op 15 (.un .not (tm 14)), mv 16 15, mg 17 1 16 false, ⟨some 18, .call .pure 5 [(tm 17), (ci (30))], some (16, false)⟩, ⟨some 19, .un .not (tm 18), some (16, false)⟩, op 20 (.pick (tm 16) (.cst (.bool true)) (tm 19))] [1, 2, 20] none)
 (.cond (tm 20) (.seq (.region none [] [
 op 21 (.call .pure 6 []), mv 4 21] [4] none)
 (.ret))
 (.skip)))
 (.seq (.region none [] [
 op 23 (.load (some 4) (tm 2)), mv 24 1, op 25 (.call .pure 7 [(tm 23), (tm 24)]), mv 22 25, op 26 (.ext (tm 22) 0), op 27 (.ext (tm 22) 1), op 28 (.ext (tm 22) 2), op 5 (.alloc 4 (.agg [.sl false [], .sl false [], .int .i64 0, .int .i64 0])), ⟨none, .store 4 (tm 5) (tm 26), none⟩, mv 6 27, mv 7 28] [1, 2, 5, 7] none)
 (.seq (.seq (.region none [] [
 mv 29 7, op 30 (.bin .neq .int (tm 29) (ci (0)))] [1, 2, 5, 30] none)
 (.cond (tm 30) (.seq (.region none [] [
 op 31 (.call .pure 6 []), mv 4 31] [4] none)
 (.ret))
 (.skip)))
 (.seq (.region none [] [
 mv 33 1, op 34 (.call .pure 8 [(tm 33)]), mv 32 34, op 35 (.ext (tm 32) 0), op 36 (.ext (tm 32) 1), mv 8 35, mv 9 36] [2, 5, 8, 9] none)
 (.seq (.par 12 [(0, 8), (4, 8), (0, 9), (4, 9), (8, 9)] [] [
 op 37 (.load (some 4) (tm 2)), mv 38 8, mv 39 9, op 40 (.call .pure 9 [(tm 37), (tm 38), (tm 39)]), op 41 (.load (some 4) (tm 5)), mv 42 8, mv 43 9, op 44 (.call .pure 9 [(tm 41), (tm 42), (tm 43)]), op 10 (.alloc 4 (.agg [.sl false [], .sl false [], .int .i64 0, .int .i64 0])), op 11 (.alloc 4 (.agg [.sl false [], .sl false [], .int .i64 0, .int .i64 0])), ⟨none, .store 4 (tm 10) (tm 40), none⟩, ⟨none, .store 4 (tm 11) (tm 44), none⟩] [10, 11] none)
 (.seq (.region none [] [
 op 45 (.load (some 4) (tm 10)), op 46 (.load (some 4) (tm 11)), op 47 (.call .pure 10 [(tm 45), (tm 46)]), mv 48 47, ⟨some 49, .call .pure 6 [], some (48, true)⟩, op 50 (.pick (tm 48) (tm 49) (.cst (.bool false))), mv 4 50] [4] none)
 (.ret)))))))

def a3 : AFunc := ⟨2, c3, [.tmp 4]⟩

def an3 : List RAnn := [
 { id := 0, live := [1, 2] },
 { id := 1, live := [1, 2, 20] },
 { id := 2, live := [4] },
 { id := 3, live := [1, 2, 5, 7] },
 { id := 4, live := [1, 2, 5, 30] },
 { id := 5, live := [4] },
 { id := 6, live := [2, 5, 8, 9] },
 { id := 7, head := some 12, live := [10, 11], par := true },
 { id := 8, live := [4] }]

theorem comp3 : compF Tryz.prog an3 Tryz.f3 = some a3 := by kernel_rfl

/- graphdb/graphdblaw11.small -/
def c4 : ACode :=
 .seq (.region none [] [
 op 2 (.box 4 (tm 0)), op 3 (.box 4 (tm 1)), op 4 (.mov (.cst (.bool false)))] [2, 3] none)
 (.seq (.region none [] [
 op 5 (.load (some 4) (tm 2)), op 6 (.call .pure 11 [(tm 5), (ci (24)), (ci (30))]), mv 7 6, ⟨some 8, .load (some 4) (tm 3), some (7, true)⟩, ⟨some 9, .call .pure 11 [(tm 8), (ci (24)), (ci (30))], some (7, true)⟩, op 10 (.pick (tm 7) (tm 9) (.cst (.bool false))), mv 4 10] [4] none)
 (.ret))

def a4 : AFunc := ⟨2, c4, [.tmp 4]⟩

def an4 : List RAnn := [
 { id := 0, live := [2, 3] },
 { id := 1, live := [4] }]

theorem comp4 : compF Tryz.prog an4 Tryz.f4 = some a4 := by kernel_rfl

/- graphdb/graphdbref08.Few -/
/-- loop 0 of function 5 -/
def l5_0_h : List Nat := [0, 1, 5, 6]

def l5_0_b : ACode :=
 .seq (.seq (.region none [] [
 mv 9 6, mv 10 0, op 11 (.len .slice (tm 10)), op 12 (.bin .lss .int (tm 9) (tm 11)), mv 13 12, mg 14 5 13 true, ⟨some 15, .bin .geq .int (tm 14) (ci (0)), some (13, true)⟩, op 16 (.pick (tm 13) (tm 15) (.cst (.bool false)))] [0, 1, 5, 6, 16] none)
 (.cond (tm 16) (.skip)
 (.exit 0)))
 (.seq (.block 1 (.region (some 17) [] [
 mv 19 0, mv 20 6, op 21 (.iaddr 10 (tm 19) (tm 20)), op 22 (.faddr 5 (tm 21)), op 23 (.load (some 5) (tm 22)), mv 24 5, op 25 (.bin .sub .int (tm 24) (ci (3))), mv 26 0, mv 27 6, op 28 (.iaddr 10 (tm 26) (tm 27)), op 29 (.faddr 4 (tm 28)), op 30 (.load none (tm 29)), op 31 (.len .str (tm 30)), op 32 (.bin .quo .int (tm 31) (ci (50))), op 33 (.bin .sub .int (tm 25) (tm 32)), op 34 (.call .pure 12 [(tm 23), (tm 33), (ci (12))]), mv 5 34] [0, 1, 5, 6] none))
 (.region none [] [
 mv 17 6, op 18 (.bin .add .int (tm 17) (ci (1))), mv 6 18] [0, 1, 5, 6] none))

def c5 : ACode :=
 .seq (.region none [] [
 op 4 (.mov (.cst (.bool false)))] [0, 1] none)
 (.seq (.region none [] [
 mv 7 1, op 8 (.bin .mul .int (tm 7) (ci (4))), mv 5 8] [0, 1, 5] none)
 (.seq (.seq (.region none [] [
 op 6 (.mov (ci (0)))] [0, 1, 5, 6] none)
 (.block 0 (.loop l5_0_h l5_0_b)))
 (.seq (.region none [] [
 mv 35 5, op 36 (.bin .geq .int (tm 35) (ci (0))), mv 37 36, mg 38 0 37 true, ⟨some 39, .len .slice (tm 38), some (37, true)⟩, mg 40 1 37 true, ⟨some 41, .bin .leq .int (tm 39) (tm 40), some (37, true)⟩, op 42 (.pick (tm 37) (tm 41) (.cst (.bool false))), mv 4 42] [4] none)
 (.ret))))

def a5 : AFunc := ⟨2, c5, [.tmp 4]⟩

def an5 : List RAnn := [
 { id := 0, live := [0, 1] },
 { id := 1, live := [0, 1, 5] },
 { id := 2, live := [0, 1, 5, 6] },
 { id := 3, live := [0, 1, 5, 6, 16], hdr := [0, 1, 5, 6] },
 { id := 5, head := some 17, live := [0, 1, 5, 6] },
 { id := 4, live := [0, 1, 5, 6] },
 { id := 6, live := [4] }]

theorem comp5 : compF Tryz.prog an5 Tryz.f5 = some a5 := by kernel_rfl

/- graphdb/graphdblaw11.alive -/
def c6 : ACode :=
 .seq (.region none [] [
 op 0 (.mov (.cst (.bool false)))] [] none)
 (.seq (.region none [] [
 op 7 (.lit false 1 (.str []) 1 [(0, (.cst (.str [65])))]), op 8 (.build [.int .i64 0, .sl false [], .sl false []] [(0, 1, (ci (1))), (1, 1, (tm 7))]), op 9 (.lit false 3 (.agg [.int .i64 0, .sl false [], .sl false []]) 1 [(0, (tm 8))]), op 10 (.build [.sl false [], .sl false [], .int .i64 0, .int .i64 0] [(0, 1, (tm 9)), (2, 1, (ci (2))), (3, 1, (ci (1)))]), op 1 (.alloc 4 (.agg [.sl false [], .sl false [], .int .i64 0, .int .i64 0])), ⟨none, .store 4 (tm 1) (tm 10), none⟩] [1] none)
 (.seq (.region none [] [
 op 11 (.lit false 1 (.str []) 1 [(0, (.cst (.str [66])))]), op 12 (.build [.int .i64 0, .sl false [], .sl false []] [(0, 1, (ci (1))), (1, 1, (tm 11))]), op 13 (.lit false 3 (.agg [.int .i64 0, .sl false [], .sl false []]) 1 [(0, (tm 12))]), op 14 (.build [.sl false [], .sl false [], .int .i64 0, .int .i64 0] [(0, 1, (tm 13)), (2, 1, (ci (2))), (3, 1, (ci (1)))]), op 2 (.alloc 4 (.agg [.sl false [], .sl false [], .int .i64 0, .int .i64 0])), ⟨none, .store 4 (tm 2) (tm 14), none⟩] [1, 2] none)
 (.seq (.region none [] [
 op 16 (.load (some 4) (tm 1)), op 17 (.load (some 4) (tm 2)), op 18 (.call .pure 13 [(tm 16), (tm 17)]), mv 15 18, op 19 (.ext (tm 15) 0), op 20 (.ext (tm 15) 1), mv 3 19, mv 4 20] [1, 2, 3, 4] none)
 (.seq (.region none [] [
 mv 22 3, op 23 (.call .pure 8 [(tm 22)]), mv 21 23, op 24 (.ext (tm 21) 0), op 25 (.ext (tm 21) 1), mv 5 24, mv 6 25] [1, 2, 3, 4, 5, 6] none)
 (.seq (.region none [] [
 mv 26 4, op 27 (.bin .eql .int (tm 26) (ci (0))), mv 28 27, mg 29 3 28 true, ⟨some 30, .build [.int .i64 0, .int .i64 0, .int .i64 0, .int .i64 0, .str [], .int .i64 0, .int .i64 0, .int .i64 0, .str [], .sl false []] [(0, 1, (ci (4))), (1, 1, (ci (1))), (4, 1, (.cst (.str [65])))], some (28, true)⟩, ⟨some 31, .build [.int .i64 0, .int .i64 0, .int .i64 0, .int .i64 0, .str [], .int .i64 0, .int .i64 0, .int .i64 0, .str [], .sl false []] [(0, 1, (ci (3))), (1, 1, (ci (1))), (4, 1, (.cst (.str [66])))], some (28, true)⟩, ⟨some 32, .lit false 10 (.agg [.int .i64 0, .int .i64 0, .int .i64 0, .int .i64 0, .str [], .int .i64 0, .int .i64 0, .int .i64 0, .str [], .sl false []]) 2 [(0, (tm 30)), (1, (tm 31))], some (28, true)⟩, ⟨some 33, .call .pure 14 [(tm 29), (tm 32)], some (28, true)⟩, op 34 (.pick (tm 28) (tm 33) (.cst (.bool false))), mv 35 34, ⟨some 36, .load (some 4) (tm 1), some (35, true)⟩, ⟨some 37, .load (some 4) (tm 2), some (35, true)⟩, ⟨some 38, .call .pure 15 [(tm 36), (tm 37)], some (35, true)⟩, ⟨some 39, .un .not (tm 38), some (35, true)⟩, op 40 (.pick (tm 35) (tm 39) (.cst (.bool false))), mv 41 40, mg 42 5 41 true, ⟨some 43, .lit false 1 (.int .i64 0) 1 [(0, (ci (1)))], some (41, true)⟩, ⟨some 44, .call .pure 16 [(tm 42), (tm 43)], some (41, true)⟩, op 45 (.pick (tm 41) (tm 44) (.cst (.bool false))), mv 46 45, mg 47 6 46 true, ⟨some 48, .len .slice (tm 47), some (46, true)⟩, ⟨some 49, .bin .eql .int (tm 48) (ci (0)), some (46, true)⟩, op 50 (.pick (tm 46) (tm 49) (.cst (.bool false))), mv 0 50] [0] none)
 (.ret))))))

def a6 : AFunc := ⟨0, c6, [.tmp 0]⟩

def an6 : List RAnn := [
 { id := 0 },
 { id := 1, live := [1] },
 { id := 2, live := [1, 2] },
 { id := 3, live := [1, 2, 3, 4] },
 { id := 4, live := [1, 2, 3, 4, 5, 6] },
 { id := 5, live := [0] }]

theorem comp6 : compF Tryz.prog an6 Tryz.f6 = some a6 := by kernel_rfl

/- graphdb/graphdbref08.ApplyAll -/
/-- loop 0 of function 7 -/
def l7_0_h : List Nat := [1, 2, 4, 8]

def l7_0_b : ACode :=
 .seq (.seq (.region none [] [
 mv 17 8, mv 18 1, op 19 (.len .slice (tm 18)), op 20 (.bin .lss .int (tm 17) (tm 19))] [1, 2, 4, 8, 20] none)
 (.cond (tm 20) (.skip)
 (.exit 0)))
 (.seq (.block 1 (.seq (.par 12 [(0, 9), (3, 9), (4, 9)] [] [
 op 24 (.load (some 4) (tm 2)), mv 25 1, mv 26 8, op 27 (.iaddr 10 (tm 25) (tm 26)), op 28 (.load (some 10) (tm 27)), op 29 (.call .pure 18 [(tm 24), (tm 28)]), mv 23 29, op 30 (.ext (tm 23) 0), op 31 (.ext (tm 23) 1), op 9 (.alloc 4 (.agg [.sl false [], .sl false [], .int .i64 0, .int .i64 0])), ⟨none, .store 4 (tm 9) (tm 30), none⟩, mv 10 31] [1, 2, 4, 8, 9, 10] none)
 (.seq (.seq (.region none [] [
 mv 32 10, op 33 (.bin .neq .int (tm 32) (ci (0)))] [1, 2, 4, 8, 9, 10, 33] none)
 (.cond (tm 33) (.seq (.region none [] [
 op 34 (.build [.sl false [], .sl false [], .int .i64 0, .int .i64 0] []), mv 35 8, mv 36 10, ⟨none, .store 4 (tm 4) (tm 34), none⟩, mv 5 35, mv 6 36] [4, 5, 6] none)
 (.ret))
 (.skip)))
 (.region none [] [
 op 37 (.load (some 4) (tm 9)), ⟨none, .store 4 (tm 2) (tm 37), none⟩] [1, 2, 4, 8] none))))
 (.region none [] [
 mv 21 8, op 22 (.bin .add .int (tm 21) (ci (1))), mv 8 22] [1, 2, 4, 8] (some 2)))

def c7 : ACode :=
 .seq (.region none [] [
 op 2 (.box 4 (tm 0)), op 4 (.alloc 4 (.agg [.sl false [], .sl false [], .int .i64 0, .int .i64 0])), op 5 (.mov (ci (0))), op 6 (.mov (ci (0)))] [1, 2, 4] none)
 (.seq (.seq (.region none [] [
 op 11 (.load (some 4) (tm 2)), op 12 (.call .pure 17 [(tm 11)]), mv 7 12] [1, 2, 4, 7] none)
 (.seq (.region none [] [
 mv 13 7, op 14 (.bin .neq .int (tm 13) (ci (0)))] [1, 2, 4, 7, 14] none)
 (.cond (tm 14) (.seq (.region none [] [
 op 15 (.build [.sl false [], .sl false [], .int .i64 0, .int .i64 0] []), mv 16 7, ⟨none, .store 4 (tm 4) (tm 15), none⟩, op 5 (.mov (ci (0))), mv 6 16] [4, 5, 6] none)
 (.ret))
 (.skip))))
 (.seq (.seq (.region none [] [
 op 8 (.mov (ci (0)))] [1, 2, 4, 8] none)
 (.block 0 (.loop l7_0_h l7_0_b)))
 (.seq (.region none [] [
 op 38 (.load (some 4) (tm 2)), mv 39 1, op 40 (.len .slice (tm 39)), ⟨none, .store 4 (tm 4) (tm 38), none⟩, mv 5 40, op 6 (.mov (ci (0)))] [4, 5, 6] none)
 (.ret))))

def a7 : AFunc := ⟨2, c7, [.cell 4 (some 4), .tmp 5, .tmp 6]⟩

def an7 : List RAnn := [
 { id := 0, live := [1, 2, 4] },
 { id := 1, live := [1, 2, 4, 7] },
 { id := 2, live := [1, 2, 4, 7, 14] },
 { id := 3, live := [4, 5, 6] },
 { id := 4, live := [1, 2, 4, 8] },
 { id := 5, live := [1, 2, 4, 8, 20], hdr := [1, 2, 4, 8] },
 { id := 7, head := some 12, live := [1, 2, 4, 8, 9, 10], par := true },
 { id := 8, live := [1, 2, 4, 8, 9, 10, 33] },
 { id := 9, live := [4, 5, 6] },
 { id := 10, live := [1, 2, 4, 8] },
 { id := 6, live := [1, 2, 4, 8], trunc := some 2 },
 { id := 11, live := [4, 5, 6] }]

theorem comp7 : compF Tryz.prog an7 Tryz.f7 = some a7 := by kernel_rfl

/- graphdb/delta.Touched -/
/-- loop 0 of function 8 -/
def l8_0_h : List Nat := [2, 3, 6, 7, 8]

def l8_0_b : ACode :=
 .seq (.region none [] [
 op 9 (.bin .lss .int (tm 8) (tm 7))] [2, 3, 6, 7, 8, 9] none)
 (.seq (.cond (tm 9) (.skip)
 (.exit 0))
 (.seq (.block 1 (.seq (.region none [] [
 op 10 (.iaddr 10 (tm 6) (tm 8)), op 11 (.load (some 10) (tm 10)), op 5 (.alloc 10 (.agg [.int .i64 0, .int .i64 0, .int .i64 0, .int .i64 0, .str [], .int .i64 0, .int .i64 0, .int .i64 0, .str [], .sl false []])), ⟨none, .store 10 (tm 5) (tm 11), none⟩] [2, 3, 5, 6, 7, 8] none)
 (.seq (.block 2 (.seq (.region none [] [
 op 13 (.faddr 0 (tm 5)), op 14 (.load none (tm 13)), op 15 (.bin .geq .int (tm 14) (ci (1))), mv 16 15, ⟨some 17, .faddr 0 (tm 5), some (16, true)⟩, ⟨some 18, .load none (tm 17), some (16, true)⟩, ⟨some 19, .bin .leq .int (tm 18) (ci (5)), some (16, true)⟩, op 20 (.pick (tm 16) (tm 19) (.cst (.bool false))), mv 12 20] [2, 3, 5, 6, 7, 8, 12] none)
 (.cond (tm 12) (.region none [] [
 mv 21 2, op 22 (.faddr 1 (tm 5)), op 23 (.load none (tm 22)), op 24 (.lit false 1 (.int .i64 0) 1 [(0, (tm 23))]), op 25 (.append 1 8 (tm 21) (tm 24)), mv 2 25] [2, 3, 5, 6, 7, 8] none)
 (.seq (.region none [] [
 op 27 (.faddr 0 (tm 5)), op 28 (.load none (tm 27)), op 29 (.bin .geq .int (tm 28) (ci (6))), mv 30 29, ⟨some 31, .faddr 0 (tm 5), some (30, true)⟩, ⟨some 32, .load none (tm 31), some (30, true)⟩, ⟨some 33, .bin .leq .int (tm 32) (ci (8)), some (30, true)⟩, op 34 (.pick (tm 30) (tm 33) (.cst (.bool false))), mv 26 34] [2, 3, 5, 6, 7, 8, 26] none)
 (.cond (tm 26) (.region none [] [
 mv 35 3, op 36 (.faddr 1 (tm 5)), op 37 (.load none (tm 36)), op 38 (.lit false 1 (.int .i64 0) 1 [(0, (tm 37))]), op 39 (.append 1 8 (tm 35) (tm 38)), mv 3 39] [2, 3, 5, 6, 7, 8] none)
 (.skip))))))
 (.seq (.region none [] [
 op 40 (.faddr 0 (tm 5)), op 41 (.load none (tm 40)), op 42 (.bin .eql .int (tm 41) (ci (6)))] [2, 3, 5, 6, 7, 8, 42] none)
 (.cond (tm 42) (.region none [] [
 mv 43 2, op 44 (.faddr 2 (tm 5)), op 45 (.load none (tm 44)), op 46 (.faddr 3 (tm 5)), op 47 (.load none (tm 46)), op 48 (.lit false 1 (.int .i64 0) 2 [(0, (tm 45)), (1, (tm 47))]), op 49 (.append 1 8 (tm 43) (tm 48)), mv 2 49] [2, 3, 6, 7, 8] none)
 (.skip))))))
 (.region none [] [
 op 50 (.bin .add .int (tm 8) (ci (1))), mv 8 50] [2, 3, 6, 7, 8] (some 2))))

def c8 : ACode :=
 .seq (.region none [] [
 op 2 (.newown 1), op 3 (.newown 1)] [0, 2, 3] none)
 (.seq (.seq (.region none [] [
 mv 6 0, op 7 (.len .slice (tm 6)), op 8 (.mov (ci (0)))] [2, 3, 6, 7, 8] none)
 (.block 0 (.loop l8_0_h l8_0_b)))
 (.seq (.region none [] [
 mv 51 2, op 52 (.call .share 19 [(tm 51)])] [2, 3] none)
 (.seq (.region none [] [
 mv 53 3, op 54 (.call .share 19 [(tm 53)])] [2, 3] none)
 (.seq (.region none [] [
 mv 55 2, op 56 (.call .share 20 [(tm 55)]), mv 57 3, op 58 (.call .share 20 [(tm 57)]), mv 2 56, mv 3 58] [2, 3] none)
 (.ret)))))

def a8 : AFunc := ⟨1, c8, [.tmp 2, .tmp 3]⟩

def an8 : List RAnn := [
 { id := 0, live := [0, 2, 3], ops := [(0, .own), (1, .own)] },
 { id := 1, live := [2, 3, 6, 7, 8] },
 { id := 2, live := [2, 3, 6, 7, 8, 9], hdr := [2, 3, 6, 7, 8] },
 { id := 3, live := [2, 3, 5, 6, 7, 8] },
 { id := 4, live := [2, 3, 5, 6, 7, 8, 12] },
 { id := 5, live := [2, 3, 5, 6, 7, 8] },
 { id := 6, live := [2, 3, 5, 6, 7, 8, 26] },
 { id := 7, live := [2, 3, 5, 6, 7, 8] },
 { id := 8, live := [2, 3, 5, 6, 7, 8, 42] },
 { id := 9, live := [2, 3, 6, 7, 8] },
 { id := 10, live := [2, 3, 6, 7, 8], trunc := some 2 },
 { id := 11, live := [2, 3], ops := [(1, .mode .share)] },
 { id := 12, live := [2, 3], ops := [(1, .mode .share)] },
 { id := 13, live := [2, 3], ops := [(1, .mode .share), (3, .mode .share)] }]

theorem comp8 : compF Tryz.prog an8 Tryz.f8 = some a8 := by kernel_rfl

/- graphdb/graphdblaw11.without -/
/-- loop 0 of function 9 -/
def l9_0_h : List Nat := [1, 2, 3, 6, 7, 13, 14, 15]

def l9_0_b : ACode :=
 .seq (.region none [] [
 op 16 (.bin .lss .int (tm 15) (tm 14))] [1, 2, 3, 6, 7, 13, 14, 15, 16] none)
 (.seq (.cond (tm 16) (.skip)
 (.exit 0))
 (.seq (.block 1 (.seq (.region none [] [
 op 17 (.iaddr 3 (tm 13) (tm 15)), op 18 (.load (some 3) (tm 17)), op 9 (.alloc 3 (.agg [.int .i64 0, .sl false [], .sl false []])), ⟨none, .store 3 (tm 9) (tm 18), none⟩] [1, 2, 3, 6, 7, 9, 13, 14, 15] none)
 (.seq (.region none [9] [
 mv 19 1, op 20 (.faddr 0 (tm 9)), op 21 (.load none (tm 20)), op 22 (.call .pure 21 [(tm 19), (tm 21)]), op 23 (.un .not (tm 22))] [1, 2, 3, 6, 7, 9, 13, 14, 15, 23] (some 1001))
 (.cond (tm 23) (.region none [] [
 op 24 (.faddr 0 (tm 7)), op 25 (.load none (tm 24)), op 26 (.load (some 3) (tm 9)), op 27 (.lit false 3 (.agg [.int .i64 0, .sl false [], .sl false []]) 1 [(0, (tm 26))]), op 28 (.append 3 56 (tm 25) (tm 27)), op 29 (.faddr 0 (tm 7)), ⟨none, .store 1 (tm 29) (tm 28), none⟩] [1, 2, 3, 6, 7, 13, 14, 15] none)
 (.skip)))))
 (.region none [] [
 op 30 (.bin .add .int (tm 15) (ci (1))), mv 15 30] [1, 2, 3, 6, 7, 13, 14, 15] none)))

/-- loop 1 of function 9 -/
def l9_1_h : List Nat := [2, 6, 7, 32, 33, 34]

def l9_1_b : ACode :=
 .seq (.region none [] [
 op 35 (.bin .lss .int (tm 34) (tm 33))] [2, 6, 7, 32, 33, 34, 35] none)
 (.seq (.cond (tm 35) (.skip)
 (.exit 2))
 (.seq (.block 3 (.seq (.region none [] [
 op 36 (.iaddr 5 (tm 32) (tm 34)), op 37 (.load (some 5) (tm 36)), op 11 (.alloc 5 (.agg [.int .i64 0, .int .i64 0, .int .i64 0, .str [], .sl false []])), ⟨none, .store 5 (tm 11) (tm 37), none⟩] [2, 6, 7, 11, 32, 33, 34] none)
 (.seq (.region none [11] [
 mv 38 2, op 39 (.faddr 0 (tm 11)), op 40 (.load none (tm 39)), op 41 (.call .pure 21 [(tm 38), (tm 40)]), op 42 (.un .not (tm 41))] [2, 6, 7, 11, 32, 33, 34, 42] (some 1001))
 (.cond (tm 42) (.region none [] [
 op 43 (.faddr 1 (tm 7)), op 44 (.load none (tm 43)), op 45 (.load (some 5) (tm 11)), op 46 (.lit false 5 (.agg [.int .i64 0, .int .i64 0, .int .i64 0, .str [], .sl false []]) 1 [(0, (tm 45))]), op 47 (.append 5 64 (tm 44) (tm 46)), op 48 (.faddr 1 (tm 7)), ⟨none, .store 1 (tm 48) (tm 47), none⟩] [2, 6, 7, 32, 33, 34] none)
 (.skip)))))
 (.region none [] [
 op 49 (.bin .add .int (tm 34) (ci (1))), mv 34 49] [2, 6, 7, 32, 33, 34] none)))

def c9 : ACode :=
 .seq (.region none [] [
 op 3 (.box 4 (tm 0)), op 6 (.alloc 4 (.agg [.sl false [], .sl false [], .int .i64 0, .int .i64 0]))] [1, 2, 3, 6] none)
 (.seq (.region none [] [
 op 7 (.alloc 4 (.agg [.sl false [], .sl false [], .int .i64 0, .int .i64 0]))] [1, 2, 3, 6, 7] none)
 (.seq (.seq (.region none [] [
 op 12 (.faddr 0 (tm 3)), op 13 (.load none (tm 12)), op 14 (.len .slice (tm 13)), op 15 (.mov (ci (0)))] [1, 2, 3, 6, 7, 13, 14, 15] none)
 (.block 0 (.loop l9_0_h l9_0_b)))
 (.seq (.seq (.region none [] [
 op 31 (.faddr 1 (tm 3)), op 32 (.load none (tm 31)), op 33 (.len .slice (tm 32)), op 34 (.mov (ci (0)))] [2, 6, 7, 32, 33, 34] none)
 (.block 2 (.loop l9_1_h l9_1_b)))
 (.seq (.region none [] [
 op 50 (.load (some 4) (tm 7)), ⟨none, .store 4 (tm 6) (tm 50), none⟩] [6] none)
 (.ret)))))

def a9 : AFunc := ⟨3, c9, [.cell 6 (some 4)]⟩

def an9 : List RAnn := [
 { id := 0, live := [1, 2, 3, 6] },
 { id := 1, live := [1, 2, 3, 6, 7] },
 { id := 2, live := [1, 2, 3, 6, 7, 13, 14, 15] },
 { id := 3, live := [1, 2, 3, 6, 7, 13, 14, 15, 16], hdr := [1, 2, 3, 6, 7, 13, 14, 15] },
 { id := 4, live := [1, 2, 3, 6, 7, 9, 13, 14, 15] },
 { id := 5, frz := [9], live := [1, 2, 3, 6, 7, 9, 13, 14, 15, 23], trunc := some 1001 },
 { id := 6, live := [1, 2, 3, 6, 7, 13, 14, 15] },
 { id := 7, live := [1, 2, 3, 6, 7, 13, 14, 15] },
 { id := 8, live := [2, 6, 7, 32, 33, 34] },
 { id := 9, live := [2, 6, 7, 32, 33, 34, 35], hdr := [2, 6, 7, 32, 33, 34] },
 { id := 10, live := [2, 6, 7, 11, 32, 33, 34] },
 { id := 11, frz := [11], live := [2, 6, 7, 11, 32, 33, 34, 42], trunc := some 1001 },
 { id := 12, live := [2, 6, 7, 32, 33, 34] },
 { id := 13, live := [2, 6, 7, 32, 33, 34] },
 { id := 14, live := [6] }]

theorem comp9 : compF Tryz.prog an9 Tryz.f9 = some a9 := by kernel_rfl

/- graphdb/graphdbref11.Alike -/
def c10 : ACode :=
 .seq (.region none [] [
 op 2 (.box 4 (tm 0)), op 3 (.box 4 (tm 1)), op 4 (.mov (.cst (.bool false)))] [2, 3] none)
 (.seq (.region none [] [
 op 5 (.faddr 2 (tm 3)), op 6 (.load none (tm 5)), op 7 (.faddr 2 (tm 2)), ⟨none, .store 1 (tm 7) (tm 6), none⟩] [2, 3] none)
 (.seq (.region none [] [
 op 8 (.faddr 3 (tm 3)), op 9 (.load none (tm 8)), op 10 (.faddr 3 (tm 2)), ⟨none, .store 1 (tm 10) (tm 9), none⟩] [2, 3] none)
 (.seq (.region none [] [
 op 11 (.load (some 4) (tm 2)), op 12 (.load (some 4) (tm 3)), op 13 (.call .pure 22 [(tm 11), (tm 12)]), mv 4 13] [4] none)
 (.ret))))

def a10 : AFunc := ⟨2, c10, [.tmp 4]⟩

def an10 : List RAnn := [
 { id := 0, live := [2, 3] },
 { id := 1, live := [2, 3] },
 { id := 2, live := [2, 3] },
 { id := 3, live := [4] }]

theorem comp10 : compF Tryz.prog an10 Tryz.f10 = some a10 := by kernel_rfl

/- graphdb/graphdbref07.Small -/
/-- loop 0 of function 11 -/
def l11_0_h : List Nat := [3, 7, 8, 9, 10]

def l11_0_b : ACode :=
 .seq (.seq (.region none [] [
 mv 48 10, op 49 (.faddr 1 (tm 9)), op 50 (.load none (tm 49)), op 51 (.len .slice (tm 50)), op 52 (.bin .lss .int (tm 48) (tm 51)), mv 53 52, mg 54 7 53 true, ⟨some 55, .bin .geq .int (tm 54) (ci (0)), some (53, true)⟩, op 56 (.pick (tm 53) (tm 55) (.cst (.bool false)))] [3, 7, 8, 9, 10, 56] none)
 (.cond (tm 56) (.skip)
 (.exit 2)))
 (.seq (.block 3 (.region none [] [
 mv 59 7, op 60 (.faddr 1 (tm 9)), op 61 (.load none (tm 60)), mv 62 10, op 63 (.iaddr 1 (tm 61) (tm 62)), op 64 (.load none (tm 63)), op 65 (.len .str (tm 64)), op 66 (.bin .quo .int (tm 65) (ci (50))), op 67 (.bin .sub .int (tm 59) (tm 66)), mv 7 67] [3, 7, 8, 9, 10] none))
 (.region none [] [
 mv 57 10, op 58 (.bin .add .int (tm 57) (ci (1))), mv 10 58] [3, 7, 8, 9, 10] none))

/-- loop 1 of function 11 -/
def l11_1_h : List Nat := [3, 7, 8]

def l11_1_b : ACode :=
 .seq (.seq (.region none [] [
 mv 24 8, op 25 (.faddr 0 (tm 3)), op 26 (.load none (tm 25)), op 27 (.len .slice (tm 26)), op 28 (.bin .lss .int (tm 24) (tm 27)), mv 29 28, mg 30 7 29 true, ⟨some 31, .bin .geq .int (tm 30) (ci (0)), some (29, true)⟩, op 32 (.pick (tm 29) (tm 31) (.cst (.bool false)))] [3, 7, 8, 32] none)
 (.cond (tm 32) (.skip)
 (.exit 0)))
 (.seq (.block 1 (.seq (.region none [] [
 op 35 (.faddr 0 (tm 3)), op 36 (.load none (tm 35)), mv 37 8, op 38 (.iaddr 3 (tm 36) (tm 37)), op 39 (.load (some 3) (tm 38)), op 9 (.alloc 3 (.agg [.int .i64 0, .sl false [], .sl false []])), ⟨none, .store 3 (tm 9) (tm 39), none⟩] [3, 7, 8, 9] none)
 (.seq (.region none [] [
 op 40 (.faddr 2 (tm 9)), op 41 (.load none (tm 40)), mv 42 7, op 43 (.faddr 1 (tm 9)), op 44 (.load none (tm 43)), op 45 (.len .slice (tm 44)), op 46 (.bin .sub .int (tm 42) (tm 45)), op 47 (.call .pure 23 [(tm 41), (tm 46)]), mv 7 47] [3, 7, 8, 9] none)
 (.seq (.region none [] [
 op 10 (.mov (ci (0)))] [3, 7, 8, 9, 10] none)
 (.block 2 (.loop l11_0_h l11_0_b))))))
 (.region none [] [
 mv 33 8, op 34 (.bin .add .int (tm 33) (ci (1))), mv 8 34] [3, 7, 8] (some 1)))

/-- loop 2 of function 11 -/
def l11_2_h : List Nat := [3, 7, 11]

def l11_2_b : ACode :=
 .seq (.seq (.region none [] [
 mv 68 11, op 69 (.faddr 1 (tm 3)), op 70 (.load none (tm 69)), op 71 (.len .slice (tm 70)), op 72 (.bin .lss .int (tm 68) (tm 71)), mv 73 72, mg 74 7 73 true, ⟨some 75, .bin .geq .int (tm 74) (ci (0)), some (73, true)⟩, op 76 (.pick (tm 73) (tm 75) (.cst (.bool false)))] [3, 7, 11, 76] none)
 (.cond (tm 76) (.skip)
 (.exit 4)))
 (.seq (.block 5 (.region (some 18) [] [
 op 79 (.faddr 1 (tm 3)), op 80 (.load none (tm 79)), mv 81 11, op 82 (.iaddr 5 (tm 80) (tm 81)), op 83 (.faddr 4 (tm 82)), op 84 (.load none (tm 83)), mv 85 7, op 86 (.faddr 1 (tm 3)), op 87 (.load none (tm 86)), mv 88 11, op 89 (.iaddr 5 (tm 87) (tm 88)), op 90 (.faddr 3 (tm 89)), op 91 (.load none (tm 90)), op 92 (.len .str (tm 91)), op 93 (.bin .quo .int (tm 92) (ci (50))), op 94 (.bin .sub .int (tm 85) (tm 93)), op 95 (.call .pure 23 [(tm 84), (tm 94)]), mv 7 95] [3, 7, 11] none))
 (.region none [] [
 mv 77 11, op 78 (.bin .add .int (tm 77) (ci (1))), mv 11 78] [3, 7, 11] none))

def c11 : ACode :=
 .seq (.region none [] [
 op 3 (.box 4 (tm 0)), op 6 (.mov (.cst (.bool false)))] [1, 2, 3] none)
 (.seq (.seq (.region none [] [
 op 12 (.faddr 0 (tm 3)), op 13 (.load none (tm 12)), op 14 (.len .slice (tm 13)), mv 15 1, op 16 (.bin .gtr .int (tm 14) (tm 15)), mv 17 16, ⟨some 18, .faddr 1 (tm 3), some (17, false)⟩, ⟨some 19, .load none (tm 18), some (17, false)⟩, ⟨some 20, .len .slice (tm 19), some (17, false)⟩, mg 21 2 17 false, ⟨some 22, .bin .gtr .int (tm 20) (tm 21), some (17, false)⟩, op 23 (.pick (tm 17) (.cst (.bool true)) (tm 22))] [3, 23] none)
 (.cond (tm 23) (.seq (.region none [] [
 op 6 (.mov (.cst (.bool false)))] [6] none)
 (.ret))
 (.skip)))
 (.seq (.region none [] [
 op 7 (.mov (ci (2000)))] [3, 7] none)
 (.seq (.seq (.region none [] [
 op 8 (.mov (ci (0)))] [3, 7, 8] none)
 (.block 0 (.loop l11_1_h l11_1_b)))
 (.seq (.seq (.region none [] [
 op 11 (.mov (ci (0)))] [3, 7, 11] none)
 (.block 4 (.loop l11_2_h l11_2_b)))
 (.seq (.region none [] [
 mv 96 7, op 97 (.bin .geq .int (tm 96) (ci (0))), mv 6 97] [6] none)
 (.ret))))))

def a11 : AFunc := ⟨3, c11, [.tmp 6]⟩

def an11 : List RAnn := [
 { id := 0, live := [1, 2, 3] },
 { id := 1, live := [3, 23] },
 { id := 2, live := [6] },
 { id := 3, live := [3, 7] },
 { id := 4, live := [3, 7, 8] },
 { id := 5, live := [3, 7, 8, 32], hdr := [3, 7, 8] },
 { id := 7, live := [3, 7, 8, 9] },
 { id := 8, live := [3, 7, 8, 9] },
 { id := 9, live := [3, 7, 8, 9, 10] },
 { id := 10, live := [3, 7, 8, 9, 10, 56], hdr := [3, 7, 8, 9, 10] },
 { id := 12, live := [3, 7, 8, 9, 10] },
 { id := 11, live := [3, 7, 8, 9, 10] },
 { id := 6, live := [3, 7, 8], trunc := some 1 },
 { id := 13, live := [3, 7, 11] },
 { id := 14, live := [3, 7, 11, 76], hdr := [3, 7, 11] },
 { id := 16, head := some 18, live := [3, 7, 11] },
 { id := 15, live := [3, 7, 11] },
 { id := 17, live := [6] }]

theorem comp11 : compF Tryz.prog an11 Tryz.f11 = some a11 := by kernel_rfl

/- graphdb/graphdbref04.Weigh -/
/-- loop 0 of function 12 -/
def l12_0_h : List Nat := [1, 2, 3, 7]

def l12_0_b : ACode :=
 .seq (.seq (.region none [] [
 mv 17 7, op 18 (.faddr 4 (tm 3)), op 19 (.load none (tm 18)), op 20 (.len .slice (tm 19)), op 21 (.bin .lss .int (tm 17) (tm 20)), mv 22 21, mg 23 1 22 true, ⟨some 24, .bin .geq .int (tm 23) (ci (0)), some (22, true)⟩, op 25 (.pick (tm 22) (tm 24) (.cst (.bool false)))] [1, 2, 3, 7, 25] none)
 (.cond (tm 25) (.skip)
 (.exit 0)))
 (.seq (.block 1 (.region none [] [
 op 28 (.faddr 4 (tm 3)), op 29 (.load none (tm 28)), mv 30 7, op 31 (.iaddr 5 (tm 29) (tm 30)), op 32 (.load (some 5) (tm 31)), mv 33 1, mv 34 2, op 35 (.bin .sub .int (tm 34) (ci (1))), op 36 (.call .pure 12 [(tm 32), (tm 33), (tm 35)]), mv 1 36] [1, 2, 3, 7] none))
 (.region none [] [
 mv 26 7, op 27 (.bin .add .int (tm 26) (ci (1))), mv 7 27] [1, 2, 3, 7] none))

def c12 : ACode :=
 .seq (.region none [] [
 op 3 (.box 5 (tm 0)), op 6 (.mov (ci (0)))] [1, 2, 3] none)
 (.seq (.region none [] [
 mv 8 1, op 9 (.bin .sub .int (tm 8) (ci (1))), op 10 (.faddr 3 (tm 3)), op 11 (.load none (tm 10)), op 12 (.len .str (tm 11)), op 13 (.bin .quo .int (tm 12) (ci (50))), op 14 (.bin .sub .int (tm 9) (tm 13)), mv 1 14] [1, 2, 3] none)
 (.seq (.seq (.region none [] [
 mv 15 2, op 16 (.bin .lss .int (tm 15) (ci (1)))] [1, 2, 3, 16] none)
 (.cond (tm 16) (.seq (.region none [] [
 op 6 (.mov (ci ((-1))))] [6] none)
 (.ret))
 (.skip)))
 (.seq (.seq (.region none [] [
 op 7 (.mov (ci (0)))] [1, 2, 3, 7] none)
 (.block 0 (.loop l12_0_h l12_0_b)))
 (.seq (.region none [] [
 mv 37 1, mv 6 37] [6] none)
 (.ret)))))

def a12 : AFunc := ⟨3, c12, [.tmp 6]⟩

def an12 : List RAnn := [
 { id := 0, live := [1, 2, 3] },
 { id := 1, live := [1, 2, 3] },
 { id := 2, live := [1, 2, 3, 16] },
 { id := 3, live := [6] },
 { id := 4, live := [1, 2, 3, 7] },
 { id := 5, live := [1, 2, 3, 7, 25], hdr := [1, 2, 3, 7] },
 { id := 7, live := [1, 2, 3, 7] },
 { id := 6, live := [1, 2, 3, 7] },
 { id := 8, live := [6] }]

theorem comp12 : compF Tryz.prog an12 Tryz.f12 = some a12 := by kernel_rfl

/- graphdb/delta.Of -/
def c13 : ACode :=
 .seq (.region none [] [
 op 2 (.box 4 (tm 0)), op 3 (.box 4 (tm 1)), op 4 (.mov (.cst (.sl false []))), op 5 (.mov (ci (0)))] [2, 3] none)
 (.seq (.seq (.region none [] [
 op 9 (.load (some 4) (tm 2)), op 10 (.call .pure 24 [(tm 9)]), mv 6 10] [2, 3, 6] none)
 (.seq (.region none [] [
 mv 11 6, op 12 (.bin .neq .int (tm 11) (ci (0)))] [2, 3, 6, 12] none)
 (.cond (tm 12) (.seq (.region none [] [
 mv 13 6, op 4 (.mov (.cst (.sl false []))), mv 5 13] [4, 5] none)
 (.ret))
 (.skip))))
 (.seq (.seq (.region none [] [
 op 14 (.load (some 4) (tm 3)), op 15 (.call .pure 24 [(tm 14)]), mv 7 15] [2, 3, 7] none)
 (.seq (.region none [] [
 mv 16 7, op 17 (.bin .neq .int (tm 16) (ci (0)))] [2, 3, 7, 17] none)
 (.cond (tm 17) (.seq (.region none [] [
 mv 18 7, op 4 (.mov (.cst (.sl false []))), mv 5 18] [4, 5] none)
 (.ret))
 (.skip))))
 (.seq (.region none [] [
 op 8 (.alloc 1 (.agg [.sl false []]))] [2, 3, 8] none)
 (.seq (.region none [] [
 op 19 (.load (some 4) (tm 2)), op 20 (.load (some 4) (tm 3)), op 21 (.call .keep 25 [(tm 8), (tm 19), (tm 20)])] [2, 3, 8] none)
 (.seq (.region none [] [
 op 22 (.load (some 4) (tm 2)), op 23 (.load (some 4) (tm 3)), op 24 (.call .keep 26 [(tm 8), (tm 22), (tm 23)])] [2, 3, 8] none)
 (.seq (.region none [] [
 op 25 (.load (some 4) (tm 2)), op 26 (.load (some 4) (tm 3)), op 27 (.call .keep 27 [(tm 8), (tm 25), (tm 26)])] [8] none)
 (.seq (.region none [] [
 op 28 (.faddr 0 (tm 8)), op 29 (.load none (tm 28)), mv 4 29, op 5 (.mov (ci (0)))] [4, 5] none)
 (.ret))))))))

def a13 : AFunc := ⟨2, c13, [.tmp 4, .tmp 5]⟩

def an13 : List RAnn := [
 { id := 0, live := [2, 3] },
 { id := 1, live := [2, 3, 6] },
 { id := 2, live := [2, 3, 6, 12] },
 { id := 3, live := [4, 5] },
 { id := 4, live := [2, 3, 7] },
 { id := 5, live := [2, 3, 7, 17] },
 { id := 6, live := [4, 5] },
 { id := 7, live := [2, 3, 8] },
 { id := 8, live := [2, 3, 8], ops := [(2, .mode .keep)] },
 { id := 9, live := [2, 3, 8], ops := [(2, .mode .keep)] },
 { id := 10, live := [8], ops := [(2, .mode .keep)] },
 { id := 11, live := [4, 5] }]

theorem comp13 : compF Tryz.prog an13 Tryz.f13 = some a13 := by kernel_rfl

/- graphdb/graphdbref11.SameAll -/
/-- loop 0 of function 14 -/
def l14_0_h : List Nat := [0, 1, 5]

def l14_0_b : ACode :=
 .seq (.seq (.region none [] [
 mv 11 5, mv 12 0, op 13 (.len .slice (tm 12)), op 14 (.bin .lss .int (tm 11) (tm 13))] [0, 1, 5, 14] none)
 (.cond (tm 14) (.skip)
 (.exit 0)))
 (.seq (.block 1 (.seq (.region (some 10) [] [
 mv 17 0, mv 18 5, op 19 (.iaddr 10 (tm 17) (tm 18)), op 20 (.load (some 10) (tm 19)), mv 21 1, mv 22 5, op 23 (.iaddr 10 (tm 21) (tm 22)), op 24 (.load (some 10) (tm 23)), op 25 (.call .pure 28 [(tm 20), (tm 24)]), op 26 (.un .not (tm 25))] [0, 1, 5, 26] none)
 (.cond (tm 26) (.seq (.region none [] [
 op 4 (.mov (.cst (.bool false)))] [4] none)
 (.ret))
 (.skip))))
 (.region none [] [
 mv 15 5, op 16 (.bin .add .int (tm 15) (ci (1))), mv 5 16] [0, 1, 5] none))

def c14 : ACode :=
 .seq (.region none [] [
 op 4 (.mov (.cst (.bool false)))] [0, 1] none)
 (.seq (.seq (.region none [] [
 mv 6 0, op 7 (.len .slice (tm 6)), mv 8 1, op 9 (.len .slice (tm 8)), op 10 (.bin .neq .int (tm 7) (tm 9))] [0, 1, 10] none)
 (.cond (tm 10) (.seq (.region none [] [
 op 4 (.mov (.cst (.bool false)))] [4] none)
 (.ret))
 (.skip)))
 (.seq (.seq (.region none [] [
 op 5 (.mov (ci (0)))] [0, 1, 5] none)
 (.block 0 (.loop l14_0_h l14_0_b)))
 (.seq (.region none [] [
 op 4 (.mov (.cst (.bool true)))] [4] none)
 (.ret))))

def a14 : AFunc := ⟨2, c14, [.tmp 4]⟩

def an14 : List RAnn := [
 { id := 0, live := [0, 1] },
 { id := 1, live := [0, 1, 10] },
 { id := 2, live := [4] },
 { id := 3, live := [0, 1, 5] },
 { id := 4, live := [0, 1, 5, 14], hdr := [0, 1, 5] },
 { id := 6, head := some 10, live := [0, 1, 5, 26] },
 { id := 7, live := [4] },
 { id := 5, live := [0, 1, 5] },
 { id := 8, live := [4] }]

theorem comp14 : compF Tryz.prog an14 Tryz.f14 = some a14 := by kernel_rfl

/- graphdb/delta.Alike -/
def c15 : ACode :=
 .seq (.region none [] [
 op 2 (.box 4 (tm 0)), op 3 (.box 4 (tm 1)), op 4 (.mov (.cst (.bool false)))] [2, 3] none)
 (.seq (.par 8 [(3, 5)] [] [
 op 5 (.faddr 2 (tm 3)), op 6 (.load none (tm 5)), op 7 (.faddr 3 (tm 3)), op 8 (.load none (tm 7)), op 9 (.faddr 2 (tm 2)), ⟨none, .store 1 (tm 9) (tm 6), none⟩, op 10 (.faddr 3 (tm 2)), ⟨none, .store 1 (tm 10) (tm 8), none⟩] [2, 3] none)
 (.seq (.region none [] [
 op 11 (.load (some 4) (tm 2)), op 12 (.load (some 4) (tm 3)), op 13 (.call .pure 29 [(tm 11), (tm 12)]), mv 4 13] [4] none)
 (.ret)))

def a15 : AFunc := ⟨2, c15, [.tmp 4]⟩

def an15 : List RAnn := [
 { id := 0, live := [2, 3] },
 { id := 1, head := some 8, live := [2, 3], par := true },
 { id := 2, live := [4] }]

theorem comp15 : compF Tryz.prog an15 Tryz.f15 = some a15 := by kernel_rfl

/- graphdb/graphdblaw11.ints -/
/-- loop 0 of function 16 -/
def l16_0_h : List Nat := [0, 1, 12, 13]

def l16_0_b : ACode :=
 .seq (.region none [] [
 op 14 (.bin .lss .int (tm 13) (tm 12))] [0, 1, 12, 13, 14] none)
 (.seq (.cond (tm 14) (.skip)
 (.exit 0))
 (.seq (.block 1 (.seq (.region none [] [
 mv 15 13, mv 5 15] [0, 1, 5, 12, 13] none)
 (.seq (.region (some 9) [] [
 mv 16 0, mv 17 5, op 18 (.iaddr 1 (tm 16) (tm 17)), op 19 (.load none (tm 18)), mv 20 1, mv 21 5, op 22 (.iaddr 1 (tm 20) (tm 21)), op 23 (.load none (tm 22)), op 24 (.bin .neq .int (tm 19) (tm 23))] [0, 1, 12, 13, 24] none)
 (.cond (tm 24) (.seq (.region none [] [
 op 4 (.mov (.cst (.bool false)))] [4] none)
 (.ret))
 (.skip)))))
 (.region none [] [
 op 25 (.bin .add .int (tm 13) (ci (1))), mv 13 25] [0, 1, 12, 13] none)))

def c16 : ACode :=
 .seq (.region none [] [
 op 4 (.mov (.cst (.bool false)))] [0, 1] none)
 (.seq (.seq (.region none [] [
 mv 6 0, op 7 (.len .slice (tm 6)), mv 8 1, op 9 (.len .slice (tm 8)), op 10 (.bin .neq .int (tm 7) (tm 9))] [0, 1, 10] none)
 (.cond (tm 10) (.seq (.region none [] [
 op 4 (.mov (.cst (.bool false)))] [4] none)
 (.ret))
 (.skip)))
 (.seq (.seq (.region none [] [
 mv 11 0, op 12 (.len .slice (tm 11)), op 13 (.mov (ci (0)))] [0, 1, 12, 13] none)
 (.block 0 (.loop l16_0_h l16_0_b)))
 (.seq (.region none [] [
 op 4 (.mov (.cst (.bool true)))] [4] none)
 (.ret))))

def a16 : AFunc := ⟨2, c16, [.tmp 4]⟩

def an16 : List RAnn := [
 { id := 0, live := [0, 1] },
 { id := 1, live := [0, 1, 10] },
 { id := 2, live := [4] },
 { id := 3, live := [0, 1, 12, 13] },
 { id := 4, live := [0, 1, 12, 13, 14], hdr := [0, 1, 12, 13] },
 { id := 5, live := [0, 1, 5, 12, 13] },
 { id := 6, head := some 9, live := [0, 1, 12, 13, 24] },
 { id := 7, live := [4] },
 { id := 8, live := [0, 1, 12, 13] },
 { id := 9, live := [4] }]

theorem comp16 : compF Tryz.prog an16 Tryz.f16 = some a16 := by kernel_rfl

/- graphdb/graphdbref07.Check -/
/-- loop 0 of function 17 -/
def l17_0_h : List Nat := [1, 3]

def l17_0_b : ACode :=
 .seq (.seq (.region none [] [
 mv 35 3, op 36 (.faddr 0 (tm 1)), op 37 (.load none (tm 36)), op 38 (.len .slice (tm 37)), op 39 (.bin .lss .int (tm 35) (tm 38))] [1, 3, 39] none)
 (.cond (tm 39) (.skip)
 (.exit 0)))
 (.seq (.block 1 (.seq (.region none [] [
 op 42 (.load (some 4) (tm 1)), mv 43 3, op 44 (.call .pure 30 [(tm 42), (tm 43)]), mv 4 44] [1, 3, 4] none)
 (.seq (.region none [] [
 mv 45 4, op 46 (.bin .neq .int (tm 45) (ci (0)))] [1, 3, 4, 46] none)
 (.cond (tm 46) (.seq (.region none [] [
 mv 47 4, mv 2 47] [2] none)
 (.ret))
 (.skip)))))
 (.region none [] [
 mv 40 3, op 41 (.bin .add .int (tm 40) (ci (1))), mv 3 41] [1, 3] none))

/-- loop 1 of function 17 -/
def l17_1_h : List Nat := [1, 5]

def l17_1_b : ACode :=
 .seq (.seq (.region none [] [
 mv 48 5, op 49 (.faddr 1 (tm 1)), op 50 (.load none (tm 49)), op 51 (.len .slice (tm 50)), op 52 (.bin .lss .int (tm 48) (tm 51))] [1, 5, 52] none)
 (.cond (tm 52) (.skip)
 (.exit 2)))
 (.seq (.block 3 (.seq (.region none [] [
 op 55 (.load (some 4) (tm 1)), mv 56 5, op 57 (.call .pure 31 [(tm 55), (tm 56)]), mv 6 57] [1, 5, 6] none)
 (.seq (.region none [] [
 mv 58 6, op 59 (.bin .neq .int (tm 58) (ci (0)))] [1, 5, 6, 59] none)
 (.cond (tm 59) (.seq (.region none [] [
 mv 60 6, mv 2 60] [2] none)
 (.ret))
 (.skip)))))
 (.region none [] [
 mv 53 5, op 54 (.bin .add .int (tm 53) (ci (1))), mv 5 54] [1, 5] none))

def c17 : ACode :=
 .seq (.region none [] [
 op 1 (.box 4 (tm 0)), op 2 (.mov (ci (0)))] [1] none)
 (.seq (.seq (.region none [] [
 op 7 (.faddr 0 (tm 1)), op 8 (.load none (tm 7)), op 9 (.len .slice (tm 8)), op 10 (.bin .gtr .int (tm 9) (ci (2000))), mv 11 10, ⟨some 12, .faddr 1 (tm 1), some (11, false)⟩, ⟨some 13, .load none (tm 12), some (11, false)⟩, ⟨some 14, .len .slice (tm 13), some (11, false)⟩, ⟨some 15, .bin .gtr .int (tm 14) (ci (4000)), some (11, false)⟩, op 16 (.pick (tm 11) (.cst (.bool true)) (tm 15))] [1, 16] none)
 (.cond (tm 16) (.seq (.region none [] [
 op 2 (.mov (ci (4)))] [2] none)
 (.ret))
 (.skip)))
 (.seq (.seq (.region none [] [
 op 17 (.faddr 2 (tm 1)), op 18 (.load none (tm 17)), op 19 (.bin .lss .int (tm 18) (ci (1))), mv 20 19, ⟨some 21, .faddr 2 (tm 1), some (20, false)⟩, ⟨some 22, .load none (tm 21), some (20, false)⟩, ⟨some 23, .bin .gtr .int (tm 22) (ci (1000001)), some (20, false)⟩, op 24 (.pick (tm 20) (.cst (.bool true)) (tm 23)), mv 25 24, ⟨some 26, .faddr 3 (tm 1), some (25, false)⟩, ⟨some 27, .load none (tm 26), some (25, false)⟩, ⟨some 28, .bin .lss .int (tm 27) (ci (1)), some (25, false)⟩, op 29 (.pick (tm 25) (.cst (.bool true)) (tm 28)), mv 30 29, ⟨some 31, .faddr 3 (tm 1), some (30, false)⟩, ⟨some 32, .load none (tm 31), some (30, false)⟩, ⟨some 33, .bin .gtr .int (tm 32) (ci (1000001)), some (30, false)⟩, op 34 (.pick (tm 30) (.cst (.bool true)) (tm 33))] [1, 34] none)
 (.cond (tm 34) (.seq (.region none [] [
 op 2 (.mov (ci (1)))] [2] none)
 (.ret))
 (.skip)))
 (.seq (.seq (.region none [] [
 op 3 (.mov (ci (0)))] [1, 3] none)
 (.block 0 (.loop l17_0_h l17_0_b)))
 (.seq (.seq (.region none [] [
 op 5 (.mov (ci (0)))] [1, 5] none)
 (.block 2 (.loop l17_1_h l17_1_b)))
 (.seq (.region none [] [
 op 2 (.mov (ci (0)))] [2] none)
 (.ret))))))

def a17 : AFunc := ⟨1, c17, [.tmp 2]⟩

def an17 : List RAnn := [
 { id := 0, live := [1] },
 { id := 1, live := [1, 16] },
 { id := 2, live := [2] },
 { id := 3, live := [1, 34] },
 { id := 4, live := [2] },
 { id := 5, live := [1, 3] },
 { id := 6, live := [1, 3, 39], hdr := [1, 3] },
 { id := 8, live := [1, 3, 4] },
 { id := 9, live := [1, 3, 4, 46] },
 { id := 10, live := [2] },
 { id := 7, live := [1, 3] },
 { id := 11, live := [1, 5] },
 { id := 12, live := [1, 5, 52], hdr := [1, 5] },
 { id := 14, live := [1, 5, 6] },
 { id := 15, live := [1, 5, 6, 59] },
 { id := 16, live := [2] },
 { id := 13, live := [1, 5] },
 { id := 17, live := [2] }]

theorem comp17 : compF Tryz.prog an17 Tryz.f17 = some a17 := by kernel_rfl

/- graphdb/graphdbref08.step -/
def c18 : ACode :=
 .seq (.region none [] [
 op 2 (.box 4 (tm 0)), op 3 (.box 10 (tm 1)), op 4 (.alloc 4 (.agg [.sl false [], .sl false [], .int .i64 0, .int .i64 0])), op 5 (.mov (ci (0)))] [2, 3, 4] none)
 (.seq (.seq (.region none [] [
 op 15 (.load (some 10) (tm 3)), op 16 (.call .pure 32 [(tm 15)]), mv 6 16] [2, 3, 4, 6] none)
 (.seq (.region none [] [
 mv 17 6, op 18 (.bin .neq .int (tm 17) (ci (0)))] [2, 3, 4, 6, 18] none)
 (.cond (tm 18) (.seq (.region none [] [
 op 19 (.build [.sl false [], .sl false [], .int .i64 0, .int .i64 0] []), mv 20 6, ⟨none, .store 4 (tm 4) (tm 19), none⟩, mv 5 20] [4, 5] none)
 (.ret))
 (.skip))))
 (.seq (.region none [] [
 op 22 (.load (some 4) (tm 2)), op 23 (.faddr 1 (tm 3)), op 24 (.load none (tm 23)), op 25 (.call .pure 33 [(tm 22), (tm 24)]), mv 21 25, op 26 (.ext (tm 21) 0), op 27 (.ext (tm 21) 1), op 7 (.alloc 3 (.agg [.int .i64 0, .sl false [], .sl false []])), ⟨none, .store 3 (tm 7) (tm 26), none⟩, mv 8 27] [2, 3, 4, 7, 8] none)
 (.seq (.region none [] [
 op 29 (.load (some 4) (tm 2)), op 30 (.faddr 1 (tm 3)), op 31 (.load none (tm 30)), op 32 (.call .pure 34 [(tm 29), (tm 31)]), mv 28 32, op 33 (.ext (tm 28) 0), op 34 (.ext (tm 28) 1), op 9 (.alloc 5 (.agg [.int .i64 0, .int .i64 0, .int .i64 0, .str [], .sl false []])), ⟨none, .store 5 (tm 9) (tm 33), none⟩, mv 10 34] [2, 3, 4, 7, 8, 9, 10] none)
 (.seq (.seq (.region none [] [
 op 35 (.faddr 0 (tm 3)), op 36 (.load none (tm 35))] [2, 3, 4, 7, 8, 9, 10, 36] none)
 (.block 0 (.seq (.region none [] [
 op 38 (.bin .eql .int (tm 36) (ci (1))), mv 37 38] [2, 3, 4, 7, 8, 9, 10, 36, 37] none)
 (.cond (tm 37) (.seq (.seq (.region none [] [
 mv 39 8] [2, 3, 4, 39] none)
 (.cond (tm 39) (.seq (.region none [] [
 op 40 (.build [.sl false [], .sl false [], .int .i64 0, .int .i64 0] []), ⟨none, .store 4 (tm 4) (tm 40), none⟩, op 5 (.mov (ci (7)))] [4, 5] none)
 (.ret))
 (.skip)))
 (.seq (.seq (.region none [] [
 op 41 (.faddr 0 (tm 2)), op 42 (.load none (tm 41)), op 43 (.len .slice (tm 42)), op 44 (.bin .geq .int (tm 43) (ci (2000)))] [2, 3, 4, 44] none)
 (.cond (tm 44) (.seq (.region none [] [
 op 45 (.build [.sl false [], .sl false [], .int .i64 0, .int .i64 0] []), ⟨none, .store 4 (tm 4) (tm 45), none⟩, op 5 (.mov (ci (20)))] [4, 5] none)
 (.ret))
 (.skip)))
 (.seq (.region none [] [
 op 46 (.load (some 4) (tm 2)), op 47 (.faddr 1 (tm 3)), op 48 (.load none (tm 47)), op 49 (.build [.int .i64 0, .sl false [], .sl false []] [(0, 1, (tm 48))]), op 50 (.call .pure 35 [(tm 46), (tm 49)]), ⟨none, .store 4 (tm 4) (tm 50), none⟩, op 5 (.mov (ci (0)))] [4, 5] none)
 (.ret))))
 (.seq (.region none [] [
 op 52 (.bin .eql .int (tm 36) (ci (6))), mv 51 52] [2, 3, 4, 7, 8, 9, 10, 36, 51] none)
 (.cond (tm 51) (.seq (.region none [] [
 op 54 (.load (some 4) (tm 2)), op 55 (.faddr 2 (tm 3)), op 56 (.load none (tm 55)), op 57 (.call .pure 33 [(tm 54), (tm 56)]), mv 53 57, op 58 (.ext (tm 53) 0), op 59 (.ext (tm 53) 1), op 11 (.alloc 3 (.agg [.int .i64 0, .sl false [], .sl false []])), ⟨none, .store 3 (tm 11) (tm 58), none⟩, mv 12 59] [2, 3, 4, 10, 12] none)
 (.seq (.region none [] [
 op 61 (.load (some 4) (tm 2)), op 62 (.faddr 3 (tm 3)), op 63 (.load none (tm 62)), op 64 (.call .pure 33 [(tm 61), (tm 63)]), mv 60 64, op 65 (.ext (tm 60) 0), op 66 (.ext (tm 60) 1), op 13 (.alloc 3 (.agg [.int .i64 0, .sl false [], .sl false []])), ⟨none, .store 3 (tm 13) (tm 65), none⟩, mv 14 66] [2, 3, 4, 10, 12, 14] none)
 (.seq (.seq (.region none [] [
 mv 67 10] [2, 3, 4, 12, 14, 67] none)
 (.cond (tm 67) (.seq (.region none [] [
 op 68 (.build [.sl false [], .sl false [], .int .i64 0, .int .i64 0] []), ⟨none, .store 4 (tm 4) (tm 68), none⟩, op 5 (.mov (ci (7)))] [4, 5] none)
 (.ret))
 (.skip)))
 (.seq (.seq (.region none [] [
 mv 69 12, op 70 (.un .not (tm 69)), mv 71 70, mg 72 14 71 false, ⟨some 73, .un .not (tm 72), some (71, false)⟩, op 74 (.pick (tm 71) (.cst (.bool true)) (tm 73))] [2, 3, 4, 74] none)
 (.cond (tm 74) (.seq (.region none [] [
 op 75 (.build [.sl false [], .sl false [], .int .i64 0, .int .i64 0] []), ⟨none, .store 4 (tm 4) (tm 75), none⟩, op 5 (.mov (ci (10)))] [4, 5] none)
 (.ret))
 (.skip)))
 (.seq (.seq (.region none [] [
 op 76 (.faddr 1 (tm 2)), op 77 (.load none (tm 76)), op 78 (.len .slice (tm 77)), op 79 (.bin .geq .int (tm 78) (ci (4000)))] [2, 3, 4, 79] none)
 (.cond (tm 79) (.seq (.region none [] [
 op 80 (.build [.sl false [], .sl false [], .int .i64 0, .int .i64 0] []), ⟨none, .store 4 (tm 4) (tm 80), none⟩, op 5 (.mov (ci (20)))] [4, 5] none)
 (.ret))
 (.skip)))
 (.seq (.region none [] [
 op 81 (.load (some 4) (tm 2)), op 82 (.faddr 1 (tm 3)), op 83 (.load none (tm 82)), op 84 (.faddr 2 (tm 3)), op 85 (.load none (tm 84)), op 86 (.faddr 3 (tm 3)), op 87 (.load none (tm 86)), op 88 (.faddr 4 (tm 3)), op 89 (.load none (tm 88)), op 90 (.build [.int .i64 0, .int .i64 0, .int .i64 0, .str [], .sl false []] [(0, 1, (tm 83)), (1, 1, (tm 85)), (2, 1, (tm 87)), (3, 1, (tm 89))]), op 91 (.call .pure 36 [(tm 81), (tm 90)]), ⟨none, .store 4 (tm 4) (tm 91), none⟩, op 5 (.mov (ci (0)))] [4, 5] none)
 (.ret)))))))
 (.seq (.seq (.region none [] [
 op 93 (.bin .eql .int (tm 36) (ci (7))), mv 92 93] [2, 3, 4, 7, 8, 9, 10, 36, 92] none)
 (.cond (tm 92) (.skip)
 (.region none [] [
 op 94 (.bin .eql .int (tm 36) (ci (8))), mv 92 94] [2, 3, 4, 7, 8, 9, 10, 92] none)))
 (.cond (tm 92) (.seq (.seq (.region none [] [
 mv 95 10, op 96 (.un .not (tm 95))] [2, 3, 4, 9, 96] none)
 (.cond (tm 96) (.seq (.region none [] [
 op 97 (.build [.sl false [], .sl false [], .int .i64 0, .int .i64 0] []), ⟨none, .store 4 (tm 4) (tm 97), none⟩, op 5 (.mov (ci (11)))] [4, 5] none)
 (.ret))
 (.skip)))
 (.seq (.region none [] [
 op 98 (.load (some 4) (tm 2)), op 99 (.load (some 10) (tm 3)), op 100 (.load (some 5) (tm 9)), op 101 (.call .pure 37 [(tm 98), (tm 99), (tm 100)]), op 102 (.ext (tm 101) 0), op 103 (.ext (tm 101) 1), ⟨none, .store 4 (tm 4) (tm 102), none⟩, mv 5 103] [4, 5] none)
 (.ret)))
 (.skip)))))))))
 (.seq (.seq (.region none [] [
 mv 104 8, op 105 (.un .not (tm 104))] [2, 3, 4, 7, 105] none)
 (.cond (tm 105) (.seq (.region none [] [
 op 106 (.build [.sl false [], .sl false [], .int .i64 0, .int .i64 0] []), ⟨none, .store 4 (tm 4) (tm 106), none⟩, op 5 (.mov (ci (10)))] [4, 5] none)
 (.ret))
 (.skip)))
 (.seq (.region none [] [
 op 107 (.load (some 4) (tm 2)), op 108 (.load (some 10) (tm 3)), op 109 (.load (some 3) (tm 7)), op 110 (.call .pure 38 [(tm 107), (tm 108), (tm 109)]), op 111 (.ext (tm 110) 0), op 112 (.ext (tm 110) 1), ⟨none, .store 4 (tm 4) (tm 111), none⟩, mv 5 112] [4, 5] none)
 (.ret)))))))

def a18 : AFunc := ⟨2, c18, [.cell 4 (some 4), .tmp 5]⟩

def an18 : List RAnn := [
 { id := 0, live := [2, 3, 4] },
 { id := 1, live := [2, 3, 4, 6] },
 { id := 2, live := [2, 3, 4, 6, 18] },
 { id := 3, live := [4, 5] },
 { id := 4, live := [2, 3, 4, 7, 8] },
 { id := 5, live := [2, 3, 4, 7, 8, 9, 10] },
 { id := 6, live := [2, 3, 4, 7, 8, 9, 10, 36] },
 { id := 7, live := [2, 3, 4, 7, 8, 9, 10, 36, 37] },
 { id := 8, live := [2, 3, 4, 39] },
 { id := 9, live := [4, 5] },
 { id := 10, live := [2, 3, 4, 44] },
 { id := 11, live := [4, 5] },
 { id := 12, live := [4, 5] },
 { id := 13, live := [2, 3, 4, 7, 8, 9, 10, 36, 51] },
 { id := 14, live := [2, 3, 4, 10, 12] },
 { id := 15, live := [2, 3, 4, 10, 12, 14] },
 { id := 16, live := [2, 3, 4, 12, 14, 67] },
 { id := 17, live := [4, 5] },
 { id := 18, live := [2, 3, 4, 74] },
 { id := 19, live := [4, 5] },
 { id := 20, live := [2, 3, 4, 79] },
 { id := 21, live := [4, 5] },
 { id := 22, live := [4, 5] },
 { id := 23, live := [2, 3, 4, 7, 8, 9, 10, 36, 92] },
 { id := 24, live := [2, 3, 4, 7, 8, 9, 10, 92] },
 { id := 25, live := [2, 3, 4, 9, 96] },
 { id := 26, live := [4, 5] },
 { id := 27, live := [4, 5] },
 { id := 28, live := [2, 3, 4, 7, 105] },
 { id := 29, live := [4, 5] },
 { id := 30, live := [4, 5] }]

theorem comp18 : compF Tryz.prog an18 Tryz.f18 = some a18 := by kernel_rfl

/- slices.Sort[[]int,int] -/
def c19 : ACode :=
 .seq (.region none [] [
 mv 3 0, op 4 (.len .slice (tm 3)), mv 2 4] [0, 2] none)
 (.region none [] [
 mv 5 0, mv 6 2, mv 7 2, op 8 (.conv .u64 (tm 7)), op 9 (.call .pure 40 [(tm 8)]), op 10 (.call .share 39 [(tm 5), (ci (0)), (tm 6), (tm 9)])] [] none)

def a19 : AFunc := ⟨1, c19, []⟩

def an19 : List RAnn := [
 { id := 0, live := [0, 2] },
 { id := 1, ops := [(5, .mode .share)] }]

theorem comp19 : compF Tryz.prog an19 Tryz.f19 = some a19 := by kernel_rfl

/- slices.Compact[[]int,int] -/
/-- loop 0 of function 20 -/
def l20_0_h : List Nat := [0, 3, 4, 5]

def l20_0_b : ACode :=
 .seq (.seq (.region none [] [
 mv 29 5, mv 30 4, op 31 (.len .slice (tm 30)), op 32 (.bin .lss .int (tm 29) (tm 31))] [0, 3, 4, 5, 32] none)
 (.cond (tm 32) (.skip)
 (.exit 2)))
 (.seq (.block 3 (.seq (.region (some 10) [] [
 mv 35 4, mv 36 5, op 37 (.iaddr 1 (tm 35) (tm 36)), op 38 (.load none (tm 37)), mv 39 4, mv 40 5, op 41 (.bin .sub .int (tm 40) (ci (1))), op 42 (.iaddr 1 (tm 39) (tm 41)), op 43 (.load none (tm 42)), op 44 (.bin .neq .int (tm 38) (tm 43))] [0, 3, 4, 5, 44] none)
 (.cond (tm 44) (.seq (.region none [] [
 mv 45 0, mv 46 3, mv 47 4, mv 48 5, op 49 (.iaddr 1 (tm 47) (tm 48)), op 50 (.load none (tm 49)), op 51 (.iaddr 1 (tm 45) (tm 46)), ⟨none, .store 1 (tm 51) (tm 50), none⟩] [0, 3, 4, 5] none)
 (.region none [] [
 mv 52 3, op 53 (.bin .add .int (tm 52) (ci (1))), mv 3 53] [0, 3, 4, 5] none))
 (.skip))))
 (.region none [] [
 mv 33 5, op 34 (.bin .add .int (tm 33) (ci (1))), mv 5 34] [0, 3, 4, 5] none))

/-- loop 1 of function 20 -/
def l20_1_h : List Nat := [0, 3]

def l20_1_b : ACode :=
 .seq (.seq (.region none [] [
 mv 10 3, mv 11 0, op 12 (.len .slice (tm 11)), op 13 (.bin .lss .int (tm 10) (tm 12))] [0, 3, 13] none)
 (.cond (tm 13) (.skip)
 (.exit 0)))
 (.seq (.block 1 (.seq (.region (some 10) [] [
 mv 16 0, mv 17 3, op 18 (.iaddr 1 (tm 16) (tm 17)), op 19 (.load none (tm 18)), mv 20 0, mv 21 3, op 22 (.bin .sub .int (tm 21) (ci (1))), op 23 (.iaddr 1 (tm 20) (tm 22)), op 24 (.load none (tm 23)), op 25 (.bin .eql .int (tm 19) (tm 24))] [0, 3, 25] none)
 (.cond (tm 25) (.seq (.region none [] [
 mv 26 0, mv 27 3, op 28 (.slice 1 (tm 26) (some (tm 27)) none), mv 4 28] [0, 3, 4] none)
 (.seq (.seq (.region none [] [
 op 5 (.mov (ci (1)))] [0, 3, 4, 5] none)
 (.block 2 (.loop l20_0_h l20_0_b)))
 (.seq (.region none [] [
 mv 54 0, mv 55 3, op 56 (.slice 1 (tm 54) (some (tm 55)) none), ⟨none, .clear 1 (tm 56), none⟩] [0, 3] none)
 (.seq (.region none [] [
 mv 57 0, mv 58 3, op 59 (.slice 1 (tm 57) none (some (tm 58))), mv 2 59] [2] none)
 (.ret)))))
 (.skip))))
 (.region none [] [
 mv 14 3, op 15 (.bin .add .int (tm 14) (ci (1))), mv 3 15] [0, 3] none))

def c20 : ACode :=
 .seq (.region none [] [
 op 2 (.mov (.cst (.sl false [])))] [0] none)
 (.seq (.seq (.region none [] [
 mv 6 0, op 7 (.len .slice (tm 6)), op 8 (.bin .lss .int (tm 7) (ci (2)))] [0, 8] none)
 (.cond (tm 8) (.seq (.region none [] [
 mv 9 0, mv 2 9] [2] none)
 (.ret))
 (.skip)))
 (.seq (.seq (.region none [] [
 op 3 (.mov (ci (1)))] [0, 3] none)
 (.block 0 (.loop l20_1_h l20_1_b)))
 (.seq (.region none [] [
 mv 60 0, mv 2 60] [2] none)
 (.ret))))

def a20 : AFunc := ⟨1, c20, [.tmp 2]⟩

def an20 : List RAnn := [
 { id := 0, live := [0] },
 { id := 1, live := [0, 8] },
 { id := 2, live := [2] },
 { id := 3, live := [0, 3] },
 { id := 4, live := [0, 3, 13], hdr := [0, 3] },
 { id := 6, head := some 10, live := [0, 3, 25] },
 { id := 7, live := [0, 3, 4] },
 { id := 8, live := [0, 3, 4, 5] },
 { id := 9, live := [0, 3, 4, 5, 32], hdr := [0, 3, 4, 5] },
 { id := 11, head := some 10, live := [0, 3, 4, 5, 44] },
 { id := 12, live := [0, 3, 4, 5] },
 { id := 13, live := [0, 3, 4, 5] },
 { id := 10, live := [0, 3, 4, 5] },
 { id := 14, live := [0, 3] },
 { id := 15, live := [2] },
 { id := 5, live := [0, 3] },
 { id := 16, live := [2] }]

theorem comp20 : compF Tryz.prog an20 Tryz.f20 = some a20 := by kernel_rfl

/- graphdb/graphdblaw11.has -/
/-- loop 0 of function 21 -/
def l21_0_h : List Nat := [1, 7, 8, 9]

def l21_0_b : ACode :=
 .seq (.region none [] [
 op 10 (.bin .lss .int (tm 9) (tm 8))] [1, 7, 8, 9, 10] none)
 (.seq (.cond (tm 10) (.skip)
 (.exit 0))
 (.seq (.block 1 (.seq (.region none [] [
 op 11 (.iaddr 1 (tm 7) (tm 9)), op 12 (.load none (tm 11)), mv 6 12] [1, 6, 7, 8, 9] none)
 (.seq (.region none [] [
 mv 13 6, mv 14 1, op 15 (.bin .eql .int (tm 13) (tm 14))] [1, 7, 8, 9, 15] none)
 (.cond (tm 15) (.seq (.region none [] [
 op 4 (.mov (.cst (.bool true)))] [4] none)
 (.ret))
 (.skip)))))
 (.region none [] [
 op 16 (.bin .add .int (tm 9) (ci (1))), mv 9 16] [1, 7, 8, 9] none)))

def c21 : ACode :=
 .seq (.region none [] [
 op 4 (.mov (.cst (.bool false)))] [0, 1] none)
 (.seq (.seq (.region none [] [
 mv 7 0, op 8 (.len .slice (tm 7)), op 9 (.mov (ci (0)))] [1, 7, 8, 9] none)
 (.block 0 (.loop l21_0_h l21_0_b)))
 (.seq (.region none [] [
 op 4 (.mov (.cst (.bool false)))] [4] none)
 (.ret)))

def a21 : AFunc := ⟨2, c21, [.tmp 4]⟩

def an21 : List RAnn := [
 { id := 0, live := [0, 1] },
 { id := 1, live := [1, 7, 8, 9] },
 { id := 2, live := [1, 7, 8, 9, 10], hdr := [1, 7, 8, 9] },
 { id := 3, live := [1, 6, 7, 8, 9] },
 { id := 4, live := [1, 7, 8, 9, 15] },
 { id := 5, live := [4] },
 { id := 6, live := [1, 7, 8, 9] },
 { id := 7, live := [4] }]

theorem comp21 : compF Tryz.prog an21 Tryz.f21 = some a21 := by kernel_rfl

/- graphdb/graphdbref07.Same -/
def c22 : ACode :=
 .seq (.region none [] [
 op 2 (.box 4 (tm 0)), op 3 (.box 4 (tm 1)), op 4 (.mov (.cst (.bool false)))] [2, 3] none)
 (.seq (.region none [] [
 op 5 (.faddr 2 (tm 2)), op 6 (.load none (tm 5)), op 7 (.faddr 2 (tm 3)), op 8 (.load none (tm 7)), op 9 (.bin .eql .int (tm 6) (tm 8)), mv 10 9, ⟨some 11, .faddr 3 (tm 2), some (10, true)⟩, ⟨some 12, .load none (tm 11), some (10, true)⟩, ⟨some 13, .faddr 3 (tm 3), some (10, true)⟩, ⟨some 14, .load none (tm 13), some (10, true)⟩, ⟨some 15, .bin .eql .int (tm 12) (tm 14), some (10, true)⟩, op 16 (.pick (tm 10) (tm 15) (.cst (.bool false))), mv 17 16, ⟨some 18, .load (some 4) (tm 2), some (17, true)⟩, ⟨some 19, .load (some 4) (tm 3), some (17, true)⟩, ⟨some 20, .call .pure 41 [(tm 18), (tm 19)], some (17, true)⟩, op 21 (.pick (tm 17) (tm 20) (.cst (.bool false))), mv 4 21] [4] none)
 (.ret))

def a22 : AFunc := ⟨2, c22, [.tmp 4]⟩

def an22 : List RAnn := [
 { id := 0, live := [2, 3] },
 { id := 1, live := [4] }]

theorem comp22 : compF Tryz.prog an22 Tryz.f22 = some a22 := by kernel_rfl

/- graphdb/graphdbref07.weigh -/
/-- loop 0 of function 23 -/
def l23_0_h : List Nat := [0, 1, 5]

def l23_0_b : ACode :=
 .seq (.seq (.region none [] [
 mv 6 5, mv 7 0, op 8 (.len .slice (tm 7)), op 9 (.bin .lss .int (tm 6) (tm 8)), mv 10 9, mg 11 1 10 true, ⟨some 12, .bin .geq .int (tm 11) (ci (0)), some (10, true)⟩, op 13 (.pick (tm 10) (tm 12) (.cst (.bool false)))] [0, 1, 5, 13] none)
 (.cond (tm 13) (.skip)
 (.exit 0)))
 (.seq (.block 1 (.region (some 16) [] [
 mv 16 0, mv 17 5, op 18 (.iaddr 6 (tm 16) (tm 17)), op 19 (.faddr 1 (tm 18)), op 20 (.load (some 5) (tm 19)), mv 21 1, mv 22 0, mv 23 5, op 24 (.iaddr 6 (tm 22) (tm 23)), op 25 (.faddr 0 (tm 24)), op 26 (.load none (tm 25)), op 27 (.len .str (tm 26)), op 28 (.bin .quo .int (tm 27) (ci (50))), op 29 (.bin .sub .int (tm 21) (tm 28)), op 30 (.call .pure 12 [(tm 20), (tm 29), (ci (12))]), mv 1 30] [0, 1, 5] none))
 (.region none [] [
 mv 14 5, op 15 (.bin .add .int (tm 14) (ci (1))), mv 5 15] [0, 1, 5] none))

def c23 : ACode :=
 .seq (.region none [] [
 op 4 (.mov (ci (0)))] [0, 1] none)
 (.seq (.seq (.region none [] [
 op 5 (.mov (ci (0)))] [0, 1, 5] none)
 (.block 0 (.loop l23_0_h l23_0_b)))
 (.seq (.region none [] [
 mv 31 1, mv 4 31] [4] none)
 (.ret)))

def a23 : AFunc := ⟨2, c23, [.tmp 4]⟩

def an23 : List RAnn := [
 { id := 0, live := [0, 1] },
 { id := 1, live := [0, 1, 5] },
 { id := 2, live := [0, 1, 5, 13], hdr := [0, 1, 5] },
 { id := 4, head := some 16, live := [0, 1, 5] },
 { id := 3, live := [0, 1, 5] },
 { id := 5, live := [4] }]

theorem comp23 : compF Tryz.prog an23 Tryz.f23 = some a23 := by kernel_rfl

/- graphdb/graph.Check -/
/-- loop 0 of function 24 -/
def l24_0_h : List Nat := [1, 38, 39, 40]

def l24_0_b : ACode :=
 .seq (.region none [] [
 op 41 (.bin .lss .int (tm 40) (tm 39))] [1, 38, 39, 40, 41] none)
 (.seq (.cond (tm 41) (.skip)
 (.exit 0))
 (.seq (.block 1 (.seq (.region none [] [
 mv 42 40, op 43 (.iaddr 3 (tm 38) (tm 40)), op 44 (.load (some 3) (tm 43)), op 4 (.alloc 3 (.agg [.int .i64 0, .sl false [], .sl false []])), mv 3 42, ⟨none, .store 3 (tm 4) (tm 44), none⟩] [1, 3, 4, 38, 39, 40] none)
 (.seq (.seq (.region (some 14) [] [
 mv 45 3, op 46 (.bin .gtr .int (tm 45) (ci (0))), mv 47 46, ⟨some 48, .faddr 0 (tm 4), some (47, true)⟩, ⟨some 49, .load none (tm 48), some (47, true)⟩, ⟨some 50, .faddr 0 (tm 1), some (47, true)⟩, ⟨some 51, .load none (tm 50), some (47, true)⟩, mg 52 3 47 true, ⟨some 53, .bin .sub .int (tm 52) (ci (1)), some (47, true)⟩, ⟨some 54, .iaddr 3 (tm 51) (tm 53), some (47, true)⟩, ⟨some 55, .faddr 0 (tm 54), some (47, true)⟩, ⟨some 56, .load none (tm 55), some (47, true)⟩, ⟨some 57, .bin .leq .int (tm 49) (tm 56), some (47, true)⟩, op 58 (.pick (tm 47) (tm 57) (.cst (.bool false)))] [1, 4, 38, 39, 40, 58] none)
 (.cond (tm 58) (.seq (.region none [] [
 op 2 (.mov (ci (26)))] [2] none)
 (.ret))
 (.skip)))
 (.seq (.seq (.region none [] [
 op 59 (.faddr 0 (tm 4)), op 60 (.load none (tm 59)), op 61 (.bin .lss .int (tm 60) (ci (1))), mv 62 61, ⟨some 63, .faddr 0 (tm 4), some (62, false)⟩, ⟨some 64, .load none (tm 63), some (62, false)⟩, ⟨some 65, .faddr 2 (tm 1), some (62, false)⟩, ⟨some 66, .load none (tm 65), some (62, false)⟩, ⟨some 67, .bin .geq .int (tm 64) (tm 66), some (62, false)⟩, op 68 (.pick (tm 62) (.cst (.bool true)) (tm 67))] [1, 4, 38, 39, 40, 68] none)
 (.cond (tm 68) (.seq (.region none [] [
 op 2 (.mov (ci (1)))] [2] none)
 (.ret))
 (.skip)))
 (.seq (.region none [] [
 op 69 (.faddr 1 (tm 4)), op 70 (.load none (tm 69)), op 71 (.faddr 2 (tm 4)), op 72 (.load none (tm 71)), op 73 (.call .pure 42 [(tm 70), (tm 72)]), mv 5 73] [1, 5, 38, 39, 40] none)
 (.seq (.region none [] [
 mv 74 5, op 75 (.bin .neq .int (tm 74) (ci (0)))] [1, 5, 38, 39, 40, 75] none)
 (.cond (tm 75) (.seq (.region none [] [
 mv 76 5, mv 2 76] [2] none)
 (.ret))
 (.skip))))))))
 (.region none [] [
 op 77 (.bin .add .int (tm 40) (ci (1))), mv 40 77] [1, 38, 39, 40] (some 1))))

/-- loop 1 of function 24 -/
def l24_1_h : List Nat := [1, 79, 80, 81]

def l24_1_b : ACode :=
 .seq (.region none [] [
 op 82 (.bin .lss .int (tm 81) (tm 80))] [1, 79, 80, 81, 82] none)
 (.seq (.cond (tm 82) (.skip)
 (.exit 2))
 (.seq (.block 3 (.seq (.region none [] [
 mv 83 81, op 84 (.iaddr 5 (tm 79) (tm 81)), op 85 (.load (some 5) (tm 84)), op 7 (.alloc 5 (.agg [.int .i64 0, .int .i64 0, .int .i64 0, .str [], .sl false []])), mv 6 83, ⟨none, .store 5 (tm 7) (tm 85), none⟩] [1, 6, 7, 79, 80, 81] none)
 (.seq (.seq (.region (some 14) [] [
 mv 86 6, op 87 (.bin .gtr .int (tm 86) (ci (0))), mv 88 87, ⟨some 89, .faddr 0 (tm 7), some (88, true)⟩, ⟨some 90, .load none (tm 89), some (88, true)⟩, ⟨some 91, .faddr 1 (tm 1), some (88, true)⟩, ⟨some 92, .load none (tm 91), some (88, true)⟩, mg 93 6 88 true, ⟨some 94, .bin .sub .int (tm 93) (ci (1)), some (88, true)⟩, ⟨some 95, .iaddr 5 (tm 92) (tm 94), some (88, true)⟩, ⟨some 96, .faddr 0 (tm 95), some (88, true)⟩, ⟨some 97, .load none (tm 96), some (88, true)⟩, ⟨some 98, .bin .leq .int (tm 90) (tm 97), some (88, true)⟩, op 99 (.pick (tm 88) (tm 98) (.cst (.bool false)))] [1, 7, 79, 80, 81, 99] none)
 (.cond (tm 99) (.seq (.region none [] [
 op 2 (.mov (ci (26)))] [2] none)
 (.ret))
 (.skip)))
 (.seq (.seq (.region none [] [
 op 100 (.faddr 0 (tm 7)), op 101 (.load none (tm 100)), op 102 (.bin .lss .int (tm 101) (ci (1))), mv 103 102, ⟨some 104, .faddr 0 (tm 7), some (103, false)⟩, ⟨some 105, .load none (tm 104), some (103, false)⟩, ⟨some 106, .faddr 3 (tm 1), some (103, false)⟩, ⟨some 107, .load none (tm 106), some (103, false)⟩, ⟨some 108, .bin .geq .int (tm 105) (tm 107), some (103, false)⟩, op 109 (.pick (tm 103) (.cst (.bool true)) (tm 108))] [1, 7, 79, 80, 81, 109] none)
 (.cond (tm 109) (.seq (.region none [] [
 op 2 (.mov (ci (1)))] [2] none)
 (.ret))
 (.skip)))
 (.seq (.seq (.region none [] [
 op 110 (.faddr 0 (tm 1)), op 111 (.load none (tm 110)), op 112 (.faddr 1 (tm 7)), op 113 (.load none (tm 112)), op 114 (.call .pure 43 [(tm 111), (tm 113)]), op 115 (.un .not (tm 114)), mv 116 115, ⟨some 117, .faddr 0 (tm 1), some (116, false)⟩, ⟨some 118, .load none (tm 117), some (116, false)⟩, ⟨some 119, .faddr 2 (tm 7), some (116, false)⟩, ⟨some 120, .load none (tm 119), some (116, false)⟩, ⟨some 121, .call .pure 43 [(tm 118), (tm 120)], some (116, false)⟩, ⟨some 122, .un .not (tm 121), some (116, false)⟩, op 123 (.pick (tm 116) (.cst (.bool true)) (tm 122))] [1, 7, 79, 80, 81, 123] none)
 (.cond (tm 123) (.seq (.region none [] [
 op 2 (.mov (ci (10)))] [2] none)
 (.ret))
 (.skip)))
 (.seq (.seq (.region none [] [
 op 124 (.faddr 3 (tm 7)), op 125 (.load none (tm 124)), op 126 (.call .pure 44 [(tm 125)]), op 127 (.un .not (tm 126))] [1, 7, 79, 80, 81, 127] none)
 (.cond (tm 127) (.seq (.region none [] [
 op 2 (.mov (ci (6)))] [2] none)
 (.ret))
 (.skip)))
 (.seq (.region none [] [
 op 128 (.faddr 4 (tm 7)), op 129 (.load none (tm 128)), op 130 (.call .pure 42 [(.cst (.sl false [])), (tm 129)]), mv 8 130] [1, 8, 79, 80, 81] none)
 (.seq (.region none [] [
 mv 131 8, op 132 (.bin .neq .int (tm 131) (ci (0)))] [1, 8, 79, 80, 81, 132] none)
 (.cond (tm 132) (.seq (.region none [] [
 mv 133 8, mv 2 133] [2] none)
 (.ret))
 (.skip))))))))))
 (.region none [] [
 op 134 (.bin .add .int (tm 81) (ci (1))), mv 81 134] [1, 79, 80, 81] (some 1))))

def c24 : ACode :=
 .seq (.region none [] [
 op 1 (.box 4 (tm 0)), op 2 (.mov (ci (0)))] [1] none)
 (.seq (.seq (.region none [] [
 op 9 (.faddr 0 (tm 1)), op 10 (.load none (tm 9)), op 11 (.len .slice (tm 10)), op 12 (.bin .gtr .int (tm 11) (ci (2000))), mv 13 12, ⟨some 14, .faddr 1 (tm 1), some (13, false)⟩, ⟨some 15, .load none (tm 14), some (13, false)⟩, ⟨some 16, .len .slice (tm 15), some (13, false)⟩, ⟨some 17, .bin .gtr .int (tm 16) (ci (4000)), some (13, false)⟩, op 18 (.pick (tm 13) (.cst (.bool true)) (tm 17))] [1, 18] none)
 (.cond (tm 18) (.seq (.region none [] [
 op 2 (.mov (ci (4)))] [2] none)
 (.ret))
 (.skip)))
 (.seq (.seq (.region none [] [
 op 19 (.faddr 2 (tm 1)), op 20 (.load none (tm 19)), op 21 (.bin .lss .int (tm 20) (ci (1))), mv 22 21, ⟨some 23, .faddr 2 (tm 1), some (22, false)⟩, ⟨some 24, .load none (tm 23), some (22, false)⟩, ⟨some 25, .bin .gtr .int (tm 24) (ci (1000001)), some (22, false)⟩, op 26 (.pick (tm 22) (.cst (.bool true)) (tm 25)), mv 27 26, ⟨some 28, .faddr 3 (tm 1), some (27, false)⟩, ⟨some 29, .load none (tm 28), some (27, false)⟩, ⟨some 30, .bin .lss .int (tm 29) (ci (1)), some (27, false)⟩, op 31 (.pick (tm 27) (.cst (.bool true)) (tm 30)), mv 32 31, ⟨some 33, .faddr 3 (tm 1), some (32, false)⟩, ⟨some 34, .load none (tm 33), some (32, false)⟩, ⟨some 35, .bin .gtr .int (tm 34) (ci (1000001)), some (32, false)⟩, op 36 (.pick (tm 32) (.cst (.bool true)) (tm 35))] [1, 36] none)
 (.cond (tm 36) (.seq (.region none [] [
 op 2 (.mov (ci (1)))] [2] none)
 (.ret))
 (.skip)))
 (.seq (.seq (.region none [] [
 op 37 (.faddr 0 (tm 1)), op 38 (.load none (tm 37)), op 39 (.len .slice (tm 38)), op 40 (.mov (ci (0)))] [1, 38, 39, 40] none)
 (.block 0 (.loop l24_0_h l24_0_b)))
 (.seq (.seq (.region none [] [
 op 78 (.faddr 1 (tm 1)), op 79 (.load none (tm 78)), op 80 (.len .slice (tm 79)), op 81 (.mov (ci (0)))] [1, 79, 80, 81] none)
 (.block 2 (.loop l24_1_h l24_1_b)))
 (.seq (.region none [] [
 op 2 (.mov (ci (0)))] [2] none)
 (.ret))))))

def a24 : AFunc := ⟨1, c24, [.tmp 2]⟩

def an24 : List RAnn := [
 { id := 0, live := [1] },
 { id := 1, live := [1, 18] },
 { id := 2, live := [2] },
 { id := 3, live := [1, 36] },
 { id := 4, live := [2] },
 { id := 5, live := [1, 38, 39, 40] },
 { id := 6, live := [1, 38, 39, 40, 41], hdr := [1, 38, 39, 40] },
 { id := 7, live := [1, 3, 4, 38, 39, 40] },
 { id := 8, head := some 14, live := [1, 4, 38, 39, 40, 58] },
 { id := 9, live := [2] },
 { id := 10, live := [1, 4, 38, 39, 40, 68] },
 { id := 11, live := [2] },
 { id := 12, live := [1, 5, 38, 39, 40] },
 { id := 13, live := [1, 5, 38, 39, 40, 75] },
 { id := 14, live := [2] },
 { id := 15, live := [1, 38, 39, 40], trunc := some 1 },
 { id := 16, live := [1, 79, 80, 81] },
 { id := 17, live := [1, 79, 80, 81, 82], hdr := [1, 79, 80, 81] },
 { id := 18, live := [1, 6, 7, 79, 80, 81] },
 { id := 19, head := some 14, live := [1, 7, 79, 80, 81, 99] },
 { id := 20, live := [2] },
 { id := 21, live := [1, 7, 79, 80, 81, 109] },
 { id := 22, live := [2] },
 { id := 23, live := [1, 7, 79, 80, 81, 123] },
 { id := 24, live := [2] },
 { id := 25, live := [1, 7, 79, 80, 81, 127] },
 { id := 26, live := [2] },
 { id := 27, live := [1, 8, 79, 80, 81] },
 { id := 28, live := [1, 8, 79, 80, 81, 132] },
 { id := 29, live := [2] },
 { id := 30, live := [1, 79, 80, 81], trunc := some 1 },
 { id := 31, live := [2] }]

theorem comp24 : compF Tryz.prog an24 Tryz.f24 = some a24 := by kernel_rfl

/- (*graphdb/delta.script).gone -/
/-- loop 0 of function 25 -/
def l25_0_h : List Nat := [0, 4, 5, 15, 16, 17]

def l25_0_b : ACode :=
 .seq (.region none [] [
 op 18 (.bin .lss .int (tm 17) (tm 16))] [0, 4, 5, 15, 16, 17, 18] none)
 (.seq (.cond (tm 18) (.skip)
 (.exit 0))
 (.seq (.block 1 (.seq (.region none [] [
 op 19 (.iaddr 5 (tm 15) (tm 17)), op 20 (.load (some 5) (tm 19)), op 7 (.alloc 5 (.agg [.int .i64 0, .int .i64 0, .int .i64 0, .str [], .sl false []])), ⟨none, .store 5 (tm 7) (tm 20), none⟩] [0, 4, 5, 7, 15, 16, 17] none)
 (.seq (.region none [] [
 op 22 (.load (some 4) (tm 5)), op 23 (.faddr 0 (tm 7)), op 24 (.load none (tm 23)), op 25 (.call .pure 45 [(tm 22), (tm 24)]), mv 21 25, op 26 (.ext (tm 21) 0), op 27 (.ext (tm 21) 1), op 8 (.alloc 5 (.agg [.int .i64 0, .int .i64 0, .int .i64 0, .str [], .sl false []])), ⟨none, .store 5 (tm 8) (tm 26), none⟩, mv 9 27] [0, 4, 5, 7, 8, 9, 15, 16, 17] none)
 (.seq (.region none [] [
 mv 28 9, op 29 (.un .not (tm 28)), mv 30 29, ⟨some 31, .load (some 5) (tm 7), some (30, false)⟩, ⟨some 32, .load (some 5) (tm 8), some (30, false)⟩, ⟨some 33, .call .pure 46 [(tm 31), (tm 32)], some (30, false)⟩, op 34 (.pick (tm 30) (.cst (.bool true)) (tm 33))] [0, 4, 5, 7, 15, 16, 17, 34] none)
 (.cond (tm 34) (.region none [] [
 mv 35 0, op 36 (.faddr 0 (tm 7)), op 37 (.load none (tm 36)), op 38 (.build [.int .i64 0, .int .i64 0, .int .i64 0, .int .i64 0, .str [], .int .i64 0, .int .i64 0, .int .i64 0, .str [], .sl false []] [(0, 1, (ci (7))), (1, 1, (tm 37))]), op 39 (.call .keep 47 [(tm 35), (tm 38)])] [0, 4, 5, 15, 16, 17] none)
 (.skip))))))
 (.region none [] [
 op 40 (.bin .add .int (tm 17) (ci (1))), mv 17 40] [0, 4, 5, 15, 16, 17] none)))

/-- loop 1 of function 25 -/
def l25_1_h : List Nat := [0, 5, 42, 43, 44]

def l25_1_b : ACode :=
 .seq (.region none [] [
 op 45 (.bin .lss .int (tm 44) (tm 43))] [0, 5, 42, 43, 44, 45] none)
 (.seq (.cond (tm 45) (.skip)
 (.exit 2))
 (.seq (.block 3 (.seq (.region none [] [
 op 46 (.iaddr 3 (tm 42) (tm 44)), op 47 (.load (some 3) (tm 46)), op 11 (.alloc 3 (.agg [.int .i64 0, .sl false [], .sl false []])), ⟨none, .store 3 (tm 11) (tm 47), none⟩] [0, 5, 11, 42, 43, 44] none)
 (.seq (.region none [] [
 op 49 (.load (some 4) (tm 5)), op 50 (.faddr 0 (tm 11)), op 51 (.load none (tm 50)), op 52 (.call .pure 48 [(tm 49), (tm 51)]), mv 48 52, op 53 (.ext (tm 48) 0), op 54 (.ext (tm 48) 1), op 12 (.alloc 3 (.agg [.int .i64 0, .sl false [], .sl false []])), ⟨none, .store 3 (tm 12) (tm 53), none⟩, mv 13 54] [0, 5, 11, 13, 42, 43, 44] none)
 (.seq (.region none [] [
 mv 55 13, op 56 (.un .not (tm 55))] [0, 5, 11, 42, 43, 44, 56] none)
 (.cond (tm 56) (.region none [] [
 mv 57 0, op 58 (.faddr 0 (tm 11)), op 59 (.load none (tm 58)), op 60 (.build [.int .i64 0, .int .i64 0, .int .i64 0, .int .i64 0, .str [], .int .i64 0, .int .i64 0, .int .i64 0, .str [], .sl false []] [(0, 1, (ci (2))), (1, 1, (tm 59))]), op 61 (.call .keep 47 [(tm 57), (tm 60)])] [0, 5, 42, 43, 44] none)
 (.skip))))))
 (.region none [] [
 op 62 (.bin .add .int (tm 44) (ci (1))), mv 44 62] [0, 5, 42, 43, 44] none)))

def c25 : ACode :=
 .seq (.region none [] [
 op 4 (.box 4 (tm 1)), op 5 (.box 4 (tm 2))] [0, 4, 5] none)
 (.seq (.seq (.region none [] [
 op 14 (.faddr 1 (tm 4)), op 15 (.load none (tm 14)), op 16 (.len .slice (tm 15)), op 17 (.mov (ci (0)))] [0, 4, 5, 15, 16, 17] none)
 (.block 0 (.loop l25_0_h l25_0_b)))
 (.seq (.region none [] [
 op 41 (.faddr 0 (tm 4)), op 42 (.load none (tm 41)), op 43 (.len .slice (tm 42)), op 44 (.mov (ci (0)))] [0, 5, 42, 43, 44] none)
 (.block 2 (.loop l25_1_h l25_1_b))))

def a25 : AFunc := ⟨3, c25, []⟩

def an25 : List RAnn := [
 { id := 0, live := [0, 4, 5] },
 { id := 1, live := [0, 4, 5, 15, 16, 17] },
 { id := 2, live := [0, 4, 5, 15, 16, 17, 18], hdr := [0, 4, 5, 15, 16, 17] },
 { id := 3, live := [0, 4, 5, 7, 15, 16, 17] },
 { id := 4, live := [0, 4, 5, 7, 8, 9, 15, 16, 17] },
 { id := 5, live := [0, 4, 5, 7, 15, 16, 17, 34] },
 { id := 6, live := [0, 4, 5, 15, 16, 17], ops := [(4, .mode .keep)] },
 { id := 7, live := [0, 4, 5, 15, 16, 17] },
 { id := 8, live := [0, 5, 42, 43, 44] },
 { id := 9, live := [0, 5, 42, 43, 44, 45], hdr := [0, 5, 42, 43, 44] },
 { id := 10, live := [0, 5, 11, 42, 43, 44] },
 { id := 11, live := [0, 5, 11, 13, 42, 43, 44] },
 { id := 12, live := [0, 5, 11, 42, 43, 44, 56] },
 { id := 13, live := [0, 5, 42, 43, 44], ops := [(4, .mode .keep)] },
 { id := 14, live := [0, 5, 42, 43, 44] }]

theorem comp25 : compF Tryz.prog an25 Tryz.f25 = some a25 := by kernel_rfl

/- (*graphdb/delta.script).nodes -/
/-- loop 0 of function 26 -/
def l26_0_h : List Nat := [0, 4, 5, 15, 16, 17]

def l26_0_b : ACode :=
 .seq (.region none [] [
 op 18 (.bin .lss .int (tm 17) (tm 16))] [0, 4, 5, 15, 16, 17, 18] none)
 (.seq (.cond (tm 18) (.skip)
 (.exit 0))
 (.seq (.block 1 (.seq (.region none [] [
 op 19 (.iaddr 3 (tm 15) (tm 17)), op 20 (.load (some 3) (tm 19)), op 7 (.alloc 3 (.agg [.int .i64 0, .sl false [], .sl false []])), ⟨none, .store 3 (tm 7) (tm 20), none⟩] [0, 4, 5, 7, 15, 16, 17] none)
 (.seq (.region none [] [
 op 22 (.load (some 4) (tm 4)), op 23 (.faddr 0 (tm 7)), op 24 (.load none (tm 23)), op 25 (.call .pure 48 [(tm 22), (tm 24)]), mv 21 25, op 26 (.ext (tm 21) 0), op 27 (.ext (tm 21) 1), op 8 (.alloc 3 (.agg [.int .i64 0, .sl false [], .sl false []])), ⟨none, .store 3 (tm 8) (tm 26), none⟩, mv 9 27] [0, 4, 5, 7, 9, 15, 16, 17] none)
 (.seq (.region none [] [
 mv 28 9, op 29 (.un .not (tm 28))] [0, 4, 5, 7, 15, 16, 17, 29] none)
 (.cond (tm 29) (.region none [] [
 mv 30 0, op 31 (.faddr 0 (tm 7)), op 32 (.load none (tm 31)), op 33 (.build [.int .i64 0, .int .i64 0, .int .i64 0, .int .i64 0, .str [], .int .i64 0, .int .i64 0, .int .i64 0, .str [], .sl false []] [(0, 1, (ci (1))), (1, 1, (tm 32))]), op 34 (.call .keep 47 [(tm 30), (tm 33)])] [0, 4, 5, 15, 16, 17] none)
 (.skip))))))
 (.region none [] [
 op 35 (.bin .add .int (tm 17) (ci (1))), mv 17 35] [0, 4, 5, 15, 16, 17] none)))

/-- loop 1 of function 26 -/
def l26_1_h : List Nat := [0, 4, 37, 38, 39]

def l26_1_b : ACode :=
 .seq (.region none [] [
 op 40 (.bin .lss .int (tm 39) (tm 38))] [0, 4, 37, 38, 39, 40] none)
 (.seq (.cond (tm 40) (.skip)
 (.exit 2))
 (.seq (.block 3 (.seq (.region none [] [
 op 41 (.iaddr 3 (tm 37) (tm 39)), op 42 (.load (some 3) (tm 41)), op 11 (.alloc 3 (.agg [.int .i64 0, .sl false [], .sl false []])), ⟨none, .store 3 (tm 11) (tm 42), none⟩] [0, 4, 11, 37, 38, 39] none)
 (.seq (.region none [] [
 op 44 (.load (some 4) (tm 4)), op 45 (.faddr 0 (tm 11)), op 46 (.load none (tm 45)), op 47 (.call .pure 48 [(tm 44), (tm 46)]), mv 43 47, op 48 (.ext (tm 43) 0), op 49 (.ext (tm 43) 1), op 12 (.alloc 3 (.agg [.int .i64 0, .sl false [], .sl false []])), ⟨none, .store 3 (tm 12) (tm 48), none⟩, mv 13 49] [0, 4, 11, 12, 37, 38, 39] none)
 (.seq (.region none [] [
 mv 50 0, op 51 (.faddr 0 (tm 11)), op 52 (.load none (tm 51)), op 53 (.faddr 1 (tm 12)), op 54 (.load none (tm 53)), op 55 (.faddr 1 (tm 11)), op 56 (.load none (tm 55)), op 57 (.call .keep 49 [(tm 50), (ci (4)), (tm 52), (tm 54), (tm 56)])] [0, 4, 11, 12, 37, 38, 39] none)
 (.seq (.region (some 9) [] [
 mv 58 0, op 59 (.faddr 0 (tm 11)), op 60 (.load none (tm 59)), op 61 (.faddr 2 (tm 12)), op 62 (.load none (tm 61)), op 63 (.call .pure 50 [(tm 62)]), op 64 (.faddr 2 (tm 11)), op 65 (.load none (tm 64)), op 66 (.call .pure 50 [(tm 65)]), op 67 (.call .keep 49 [(tm 58), (ci (5)), (tm 60), (tm 63), (tm 66)])] [0, 4, 11, 12, 37, 38, 39] none)
 (.seq (.region none [] [
 mv 68 0, op 69 (.faddr 0 (tm 11)), op 70 (.load none (tm 69)), op 71 (.faddr 1 (tm 11)), op 72 (.load none (tm 71)), op 73 (.faddr 1 (tm 12)), op 74 (.load none (tm 73)), op 75 (.call .keep 49 [(tm 68), (ci (3)), (tm 70), (tm 72), (tm 74)])] [0, 4, 11, 12, 37, 38, 39] none)
 (.region none [] [
 mv 76 0, op 77 (.faddr 0 (tm 11)), op 78 (.load none (tm 77)), op 79 (.faddr 2 (tm 12)), op 80 (.load none (tm 79)), op 81 (.faddr 2 (tm 11)), op 82 (.load none (tm 81)), op 83 (.call .keep 51 [(tm 76), (ci (5)), (tm 78), (tm 80), (tm 82)])] [0, 4, 37, 38, 39] none)))))))
 (.region none [] [
 op 84 (.bin .add .int (tm 39) (ci (1))), mv 39 84] [0, 4, 37, 38, 39] none)))

def c26 : ACode :=
 .seq (.region none [] [
 op 4 (.box 4 (tm 1)), op 5 (.box 4 (tm 2))] [0, 4, 5] none)
 (.seq (.seq (.region none [] [
 op 14 (.faddr 0 (tm 5)), op 15 (.load none (tm 14)), op 16 (.len .slice (tm 15)), op 17 (.mov (ci (0)))] [0, 4, 5, 15, 16, 17] none)
 (.block 0 (.loop l26_0_h l26_0_b)))
 (.seq (.region none [] [
 op 36 (.faddr 0 (tm 5)), op 37 (.load none (tm 36)), op 38 (.len .slice (tm 37)), op 39 (.mov (ci (0)))] [0, 4, 37, 38, 39] none)
 (.block 2 (.loop l26_1_h l26_1_b))))

def a26 : AFunc := ⟨3, c26, []⟩

def an26 : List RAnn := [
 { id := 0, live := [0, 4, 5] },
 { id := 1, live := [0, 4, 5, 15, 16, 17] },
 { id := 2, live := [0, 4, 5, 15, 16, 17, 18], hdr := [0, 4, 5, 15, 16, 17] },
 { id := 3, live := [0, 4, 5, 7, 15, 16, 17] },
 { id := 4, live := [0, 4, 5, 7, 9, 15, 16, 17] },
 { id := 5, live := [0, 4, 5, 7, 15, 16, 17, 29] },
 { id := 6, live := [0, 4, 5, 15, 16, 17], ops := [(4, .mode .keep)] },
 { id := 7, live := [0, 4, 5, 15, 16, 17] },
 { id := 8, live := [0, 4, 37, 38, 39] },
 { id := 9, live := [0, 4, 37, 38, 39, 40], hdr := [0, 4, 37, 38, 39] },
 { id := 10, live := [0, 4, 11, 37, 38, 39] },
 { id := 11, live := [0, 4, 11, 12, 37, 38, 39] },
 { id := 12, live := [0, 4, 11, 12, 37, 38, 39], ops := [(7, .mode .keep)] },
 { id := 13, head := some 9, live := [0, 4, 11, 12, 37, 38, 39], ops := [(9, .mode .keep)] },
 { id := 14, live := [0, 4, 11, 12, 37, 38, 39], ops := [(7, .mode .keep)] },
 { id := 15, live := [0, 4, 37, 38, 39], ops := [(7, .mode .keep)] },
 { id := 16, live := [0, 4, 37, 38, 39] }]

theorem comp26 : compF Tryz.prog an26 Tryz.f26 = some a26 := by kernel_rfl

/- (*graphdb/delta.script).edges -/
/-- loop 0 of function 27 -/
def l27_0_h : List Nat := [0, 4, 5, 15, 16, 17]

def l27_0_b : ACode :=
 .seq (.region none [] [
 op 18 (.bin .lss .int (tm 17) (tm 16))] [0, 4, 5, 15, 16, 17, 18] none)
 (.seq (.cond (tm 18) (.skip)
 (.exit 0))
 (.seq (.block 1 (.seq (.region none [] [
 op 19 (.iaddr 5 (tm 15) (tm 17)), op 20 (.load (some 5) (tm 19)), op 7 (.alloc 5 (.agg [.int .i64 0, .int .i64 0, .int .i64 0, .str [], .sl false []])), ⟨none, .store 5 (tm 7) (tm 20), none⟩] [0, 4, 5, 7, 15, 16, 17] none)
 (.seq (.region none [] [
 op 22 (.load (some 4) (tm 4)), op 23 (.faddr 0 (tm 7)), op 24 (.load none (tm 23)), op 25 (.call .pure 45 [(tm 22), (tm 24)]), mv 21 25, op 26 (.ext (tm 21) 0), op 27 (.ext (tm 21) 1), op 8 (.alloc 5 (.agg [.int .i64 0, .int .i64 0, .int .i64 0, .str [], .sl false []])), ⟨none, .store 5 (tm 8) (tm 26), none⟩, mv 9 27] [0, 4, 5, 7, 8, 9, 15, 16, 17] none)
 (.seq (.region none [] [
 mv 28 9, op 29 (.un .not (tm 28)), mv 30 29, ⟨some 31, .load (some 5) (tm 8), some (30, false)⟩, ⟨some 32, .load (some 5) (tm 7), some (30, false)⟩, ⟨some 33, .call .pure 46 [(tm 31), (tm 32)], some (30, false)⟩, op 34 (.pick (tm 30) (.cst (.bool true)) (tm 33))] [0, 4, 5, 7, 15, 16, 17, 34] none)
 (.cond (tm 34) (.region none [] [
 mv 35 0, op 36 (.faddr 0 (tm 7)), op 37 (.load none (tm 36)), op 38 (.faddr 1 (tm 7)), op 39 (.load none (tm 38)), op 40 (.faddr 2 (tm 7)), op 41 (.load none (tm 40)), op 42 (.faddr 3 (tm 7)), op 43 (.load none (tm 42)), op 44 (.build [.int .i64 0, .int .i64 0, .int .i64 0, .int .i64 0, .str [], .int .i64 0, .int .i64 0, .int .i64 0, .str [], .sl false []] [(0, 1, (ci (6))), (1, 1, (tm 37)), (2, 1, (tm 39)), (3, 1, (tm 41)), (4, 1, (tm 43))]), op 45 (.call .keep 47 [(tm 35), (tm 44)])] [0, 4, 5, 15, 16, 17] none)
 (.skip))))))
 (.region none [] [
 op 46 (.bin .add .int (tm 17) (ci (1))), mv 17 46] [0, 4, 5, 15, 16, 17] none)))

/-- loop 1 of function 27 -/
def l27_1_h : List Nat := [0, 4, 48, 49, 50]

def l27_1_b : ACode :=
 .seq (.region none [] [
 op 51 (.bin .lss .int (tm 50) (tm 49))] [0, 4, 48, 49, 50, 51] none)
 (.seq (.cond (tm 51) (.skip)
 (.exit 2))
 (.seq (.block 3 (.seq (.region none [] [
 op 52 (.iaddr 5 (tm 48) (tm 50)), op 53 (.load (some 5) (tm 52)), op 11 (.alloc 5 (.agg [.int .i64 0, .int .i64 0, .int .i64 0, .str [], .sl false []])), ⟨none, .store 5 (tm 11) (tm 53), none⟩] [0, 4, 11, 48, 49, 50] none)
 (.seq (.region none [] [
 op 55 (.load (some 4) (tm 4)), op 56 (.faddr 0 (tm 11)), op 57 (.load none (tm 56)), op 58 (.call .pure 45 [(tm 55), (tm 57)]), mv 54 58, op 59 (.ext (tm 54) 0), op 60 (.ext (tm 54) 1), op 12 (.alloc 5 (.agg [.int .i64 0, .int .i64 0, .int .i64 0, .str [], .sl false []])), ⟨none, .store 5 (tm 12) (tm 59), none⟩, mv 13 60] [0, 4, 11, 12, 13, 48, 49, 50] none)
 (.seq (.seq (.region none [] [
 mv 61 13, op 62 (.un .not (tm 61)), mv 63 62, ⟨some 64, .load (some 5) (tm 12), some (63, false)⟩, ⟨some 65, .load (some 5) (tm 11), some (63, false)⟩, ⟨some 66, .call .pure 46 [(tm 64), (tm 65)], some (63, false)⟩, op 67 (.pick (tm 63) (.cst (.bool true)) (tm 66))] [0, 4, 11, 12, 48, 49, 50, 67] none)
 (.cond (tm 67) (.region none [] [
 op 68 (.faddr 4 (tm 12)), ⟨none, .store 1 (tm 68) (.cst (.sl false [])), none⟩] [0, 4, 11, 12, 48, 49, 50] none)
 (.skip)))
 (.seq (.region (some 9) [] [
 mv 69 0, op 70 (.faddr 0 (tm 11)), op 71 (.load none (tm 70)), op 72 (.faddr 4 (tm 12)), op 73 (.load none (tm 72)), op 74 (.call .pure 50 [(tm 73)]), op 75 (.faddr 4 (tm 11)), op 76 (.load none (tm 75)), op 77 (.call .pure 50 [(tm 76)]), op 78 (.call .keep 49 [(tm 69), (ci (8)), (tm 71), (tm 74), (tm 77)])] [0, 4, 11, 12, 48, 49, 50] none)
 (.region none [] [
 mv 79 0, op 80 (.faddr 0 (tm 11)), op 81 (.load none (tm 80)), op 82 (.faddr 4 (tm 12)), op 83 (.load none (tm 82)), op 84 (.faddr 4 (tm 11)), op 85 (.load none (tm 84)), op 86 (.call .keep 51 [(tm 79), (ci (8)), (tm 81), (tm 83), (tm 85)])] [0, 4, 48, 49, 50] none))))))
 (.region none [] [
 op 87 (.bin .add .int (tm 50) (ci (1))), mv 50 87] [0, 4, 48, 49, 50] none)))

def c27 : ACode :=
 .seq (.region none [] [
 op 4 (.box 4 (tm 1)), op 5 (.box 4 (tm 2))] [0, 4, 5] none)
 (.seq (.seq (.region none [] [
 op 14 (.faddr 1 (tm 5)), op 15 (.load none (tm 14)), op 16 (.len .slice (tm 15)), op 17 (.mov (ci (0)))] [0, 4, 5, 15, 16, 17] none)
 (.block 0 (.loop l27_0_h l27_0_b)))
 (.seq (.region none [] [
 op 47 (.faddr 1 (tm 5)), op 48 (.load none (tm 47)), op 49 (.len .slice (tm 48)), op 50 (.mov (ci (0)))] [0, 4, 48, 49, 50] none)
 (.block 2 (.loop l27_1_h l27_1_b))))

def a27 : AFunc := ⟨3, c27, []⟩

def an27 : List RAnn := [
 { id := 0, live := [0, 4, 5] },
 { id := 1, live := [0, 4, 5, 15, 16, 17] },
 { id := 2, live := [0, 4, 5, 15, 16, 17, 18], hdr := [0, 4, 5, 15, 16, 17] },
 { id := 3, live := [0, 4, 5, 7, 15, 16, 17] },
 { id := 4, live := [0, 4, 5, 7, 8, 9, 15, 16, 17] },
 { id := 5, live := [0, 4, 5, 7, 15, 16, 17, 34] },
 { id := 6, live := [0, 4, 5, 15, 16, 17], ops := [(10, .mode .keep)] },
 { id := 7, live := [0, 4, 5, 15, 16, 17] },
 { id := 8, live := [0, 4, 48, 49, 50] },
 { id := 9, live := [0, 4, 48, 49, 50, 51], hdr := [0, 4, 48, 49, 50] },
 { id := 10, live := [0, 4, 11, 48, 49, 50] },
 { id := 11, live := [0, 4, 11, 12, 13, 48, 49, 50] },
 { id := 12, live := [0, 4, 11, 12, 48, 49, 50, 67] },
 { id := 13, live := [0, 4, 11, 12, 48, 49, 50] },
 { id := 14, head := some 9, live := [0, 4, 11, 12, 48, 49, 50], ops := [(9, .mode .keep)] },
 { id := 15, live := [0, 4, 48, 49, 50], ops := [(7, .mode .keep)] },
 { id := 16, live := [0, 4, 48, 49, 50] }]

theorem comp27 : compF Tryz.prog an27 Tryz.f27 = some a27 := by kernel_rfl

/- graphdb/graphdbref08.Same -/
def c28 : ACode :=
 .seq (.region none [] [
 op 2 (.box 10 (tm 0)), op 3 (.box 10 (tm 1)), op 4 (.mov (.cst (.bool false)))] [2, 3] none)
 (.seq (.region none [] [
 op 5 (.faddr 0 (tm 2)), op 6 (.load none (tm 5)), op 7 (.faddr 0 (tm 3)), op 8 (.load none (tm 7)), op 9 (.bin .eql .int (tm 6) (tm 8)), mv 10 9, ⟨some 11, .faddr 1 (tm 2), some (10, true)⟩, ⟨some 12, .load none (tm 11), some (10, true)⟩, ⟨some 13, .faddr 1 (tm 3), some (10, true)⟩, ⟨some 14, .load none (tm 13), some (10, true)⟩, ⟨some 15, .bin .eql .int (tm 12) (tm 14), some (10, true)⟩, op 16 (.pick (tm 10) (tm 15) (.cst (.bool false))), mv 17 16, ⟨some 18, .faddr 2 (tm 2), some (17, true)⟩, ⟨some 19, .load none (tm 18), some (17, true)⟩, ⟨some 20, .faddr 2 (tm 3), some (17, true)⟩, ⟨some 21, .load none (tm 20), some (17, true)⟩, ⟨some 22, .bin .eql .int (tm 19) (tm 21), some (17, true)⟩, op 23 (.pick (tm 17) (tm 22) (.cst (.bool false))), mv 24 23, ⟨some 25, .faddr 3 (tm 2), some (24, true)⟩, ⟨some 26, .load none (tm 25), some (24, true)⟩, ⟨some 27, .faddr 3 (tm 3), some (24, true)⟩, ⟨some 28, .load none (tm 27), some (24, true)⟩, ⟨some 29, .bin .eql .int (tm 26) (tm 28), some (24, true)⟩, op 30 (.pick (tm 24) (tm 29) (.cst (.bool false))), mv 31 30, ⟨some 32, .faddr 4 (tm 2), some (31, true)⟩, ⟨some 33, .load none (tm 32), some (31, true)⟩, ⟨some 34, .faddr 4 (tm 3), some (31, true)⟩, ⟨some 35, .load none (tm 34), some (31, true)⟩, ⟨some 36, .bin .eql .str (tm 33) (tm 35), some (31, true)⟩, op 37 (.pick (tm 31) (tm 36) (.cst (.bool false))), mv 38 37, ⟨some 39, .faddr 5 (tm 2), some (38, true)⟩, ⟨some 40, .load (some 5) (tm 39), some (38, true)⟩, ⟨some 41, .faddr 5 (tm 3), some (38, true)⟩, ⟨some 42, .load (some 5) (tm 41), some (38, true)⟩, ⟨some 43, .call .pure 52 [(tm 40), (tm 42)], some (38, true)⟩, ⟨some 44, .bin .eql .int (tm 43) (ci (0)), some (38, true)⟩, op 45 (.pick (tm 38) (tm 44) (.cst (.bool false))), mv 4 45] [4] none)
 (.ret))

def a28 : AFunc := ⟨2, c28, [.tmp 4]⟩

def an28 : List RAnn := [
 { id := 0, live := [2, 3] },
 { id := 1, live := [4] }]

theorem comp28 : compF Tryz.prog an28 Tryz.f28 = some a28 := by kernel_rfl

/- graphdb/graph.Same -/
def c29 : ACode :=
 .seq (.region none [] [
 op 2 (.box 4 (tm 0)), op 3 (.box 4 (tm 1)), op 4 (.mov (.cst (.bool false)))] [2, 3] none)
 (.seq (.seq (.region none [] [
 op 6 (.faddr 2 (tm 2)), op 7 (.load none (tm 6)), op 8 (.faddr 2 (tm 3)), op 9 (.load none (tm 8)), op 10 (.bin .neq .int (tm 7) (tm 9)), mv 11 10, ⟨some 12, .faddr 3 (tm 2), some (11, false)⟩, ⟨some 13, .load none (tm 12), some (11, false)⟩, ⟨some 14, .faddr 3 (tm 3), some (11, false)⟩, ⟨some 15, .load none (tm 14), some (11, false)⟩, ⟨some 16, .bin .neq .int (tm 13) (tm 15), some (11, false)⟩, op 17 (.pick (tm 11) (.cst (.bool true)) (tm 16))] [2, 3, 17] none)
 (.cond (tm 17) (.seq (.region none [] [
 op 4 (.mov (.cst (.bool false)))] [4] none)
 (.ret))
 (.skip)))
 (.seq (.region none [] [
 op 18 (.faddr 0 (tm 2)), op 19 (.load none (tm 18)), op 20 (.faddr 0 (tm 3)), op 21 (.load none (tm 20)), op 22 (.call .pure 53 [(tm 19), (tm 21), (.cst (.fn 54 []))]), mv 5 22] [2, 3, 5] none)
 (.seq (.region none [] [
 mv 23 5, mv 24 23, ⟨some 25, .faddr 1 (tm 2), some (24, true)⟩, ⟨some 26, .load none (tm 25), some (24, true)⟩, ⟨some 27, .faddr 1 (tm 3), some (24, true)⟩, ⟨some 28, .load none (tm 27), some (24, true)⟩, ⟨some 29, .call .pure 57 [(tm 26), (tm 28), (.cst (.fn 58 []))], some (24, true)⟩, op 30 (.pick (tm 24) (tm 29) (.cst (.bool false))), mv 4 30] [4] none)
 (.ret))))

def a29 : AFunc := ⟨2, c29, [.tmp 4]⟩

def an29 : List RAnn := [
 { id := 0, live := [2, 3] },
 { id := 1, live := [2, 3, 17] },
 { id := 2, live := [4] },
 { id := 3, live := [2, 3, 5] },
 { id := 4, live := [4] }]

theorem comp29 : compF Tryz.prog an29 Tryz.f29 = some a29 := by kernel_rfl

/- graphdb/graphdbref07.node -/
def c30 : ACode :=
 .seq (.region none [] [
 op 2 (.box 4 (tm 0)), op 4 (.mov (ci (0)))] [1, 2] none)
 (.seq (.region none [] [
 op 6 (.faddr 0 (tm 2)), op 7 (.load none (tm 6)), mv 8 1, op 9 (.iaddr 3 (tm 7) (tm 8)), op 10 (.load (some 3) (tm 9)), op 5 (.alloc 3 (.agg [.int .i64 0, .sl false [], .sl false []])), ⟨none, .store 3 (tm 5) (tm 10), none⟩] [1, 2, 5] none)
 (.seq (.seq (.region (some 14) [] [
 mv 11 1, op 12 (.bin .gtr .int (tm 11) (ci (0))), mv 13 12, ⟨some 14, .faddr 0 (tm 5), some (13, true)⟩, ⟨some 15, .load none (tm 14), some (13, true)⟩, ⟨some 16, .faddr 0 (tm 2), some (13, true)⟩, ⟨some 17, .load none (tm 16), some (13, true)⟩, mg 18 1 13 true, ⟨some 19, .bin .sub .int (tm 18) (ci (1)), some (13, true)⟩, ⟨some 20, .iaddr 3 (tm 17) (tm 19), some (13, true)⟩, ⟨some 21, .faddr 0 (tm 20), some (13, true)⟩, ⟨some 22, .load none (tm 21), some (13, true)⟩, ⟨some 23, .bin .leq .int (tm 15) (tm 22), some (13, true)⟩, op 24 (.pick (tm 13) (tm 23) (.cst (.bool false)))] [2, 5, 24] none)
 (.cond (tm 24) (.seq (.region none [] [
 op 4 (.mov (ci (26)))] [4] none)
 (.ret))
 (.skip)))
 (.seq (.seq (.region none [] [
 op 25 (.faddr 0 (tm 5)), op 26 (.load none (tm 25)), op 27 (.bin .lss .int (tm 26) (ci (1))), mv 28 27, ⟨some 29, .faddr 0 (tm 5), some (28, false)⟩, ⟨some 30, .load none (tm 29), some (28, false)⟩, ⟨some 31, .faddr 2 (tm 2), some (28, false)⟩, ⟨some 32, .load none (tm 31), some (28, false)⟩, ⟨some 33, .bin .geq .int (tm 30) (tm 32), some (28, false)⟩, op 34 (.pick (tm 28) (.cst (.bool true)) (tm 33))] [5, 34] none)
 (.cond (tm 34) (.seq (.region none [] [
 op 4 (.mov (ci (1)))] [4] none)
 (.ret))
 (.skip)))
 (.seq (.region none [] [
 op 35 (.faddr 1 (tm 5)), op 36 (.load none (tm 35)), op 37 (.faddr 2 (tm 5)), op 38 (.load none (tm 37)), op 39 (.call .pure 59 [(tm 36), (tm 38)]), mv 4 39] [4] none)
 (.ret)))))

def a30 : AFunc := ⟨2, c30, [.tmp 4]⟩

def an30 : List RAnn := [
 { id := 0, live := [1, 2] },
 { id := 1, live := [1, 2, 5] },
 { id := 2, head := some 14, live := [2, 5, 24] },
 { id := 3, live := [4] },
 { id := 4, live := [5, 34] },
 { id := 5, live := [4] },
 { id := 6, live := [4] }]

theorem comp30 : compF Tryz.prog an30 Tryz.f30 = some a30 := by kernel_rfl

/- graphdb/graphdbref07.edge -/
def c31 : ACode :=
 .seq (.region none [] [
 op 2 (.box 4 (tm 0)), op 4 (.mov (ci (0)))] [1, 2] none)
 (.seq (.region none [] [
 op 10 (.faddr 1 (tm 2)), op 11 (.load none (tm 10)), mv 12 1, op 13 (.iaddr 5 (tm 11) (tm 12)), op 14 (.load (some 5) (tm 13)), op 5 (.alloc 5 (.agg [.int .i64 0, .int .i64 0, .int .i64 0, .str [], .sl false []])), ⟨none, .store 5 (tm 5) (tm 14), none⟩] [1, 2, 5] none)
 (.seq (.seq (.region (some 14) [] [
 mv 15 1, op 16 (.bin .gtr .int (tm 15) (ci (0))), mv 17 16, ⟨some 18, .faddr 0 (tm 5), some (17, true)⟩, ⟨some 19, .load none (tm 18), some (17, true)⟩, ⟨some 20, .faddr 1 (tm 2), some (17, true)⟩, ⟨some 21, .load none (tm 20), some (17, true)⟩, mg 22 1 17 true, ⟨some 23, .bin .sub .int (tm 22) (ci (1)), some (17, true)⟩, ⟨some 24, .iaddr 5 (tm 21) (tm 23), some (17, true)⟩, ⟨some 25, .faddr 0 (tm 24), some (17, true)⟩, ⟨some 26, .load none (tm 25), some (17, true)⟩, ⟨some 27, .bin .leq .int (tm 19) (tm 26), some (17, true)⟩, op 28 (.pick (tm 17) (tm 27) (.cst (.bool false)))] [2, 5, 28] none)
 (.cond (tm 28) (.seq (.region none [] [
 op 4 (.mov (ci (26)))] [4] none)
 (.ret))
 (.skip)))
 (.seq (.seq (.region none [] [
 op 29 (.faddr 0 (tm 5)), op 30 (.load none (tm 29)), op 31 (.bin .lss .int (tm 30) (ci (1))), mv 32 31, ⟨some 33, .faddr 0 (tm 5), some (32, false)⟩, ⟨some 34, .load none (tm 33), some (32, false)⟩, ⟨some 35, .faddr 3 (tm 2), some (32, false)⟩, ⟨some 36, .load none (tm 35), some (32, false)⟩, ⟨some 37, .bin .geq .int (tm 34) (tm 36), some (32, false)⟩, op 38 (.pick (tm 32) (.cst (.bool true)) (tm 37))] [2, 5, 38] none)
 (.cond (tm 38) (.seq (.region none [] [
 op 4 (.mov (ci (1)))] [4] none)
 (.ret))
 (.skip)))
 (.seq (.region none [] [
 op 40 (.load (some 4) (tm 2)), op 41 (.faddr 1 (tm 5)), op 42 (.load none (tm 41)), op 43 (.call .pure 33 [(tm 40), (tm 42)]), mv 39 43, op 44 (.ext (tm 39) 0), op 45 (.ext (tm 39) 1), op 6 (.alloc 3 (.agg [.int .i64 0, .sl false [], .sl false []])), ⟨none, .store 3 (tm 6) (tm 44), none⟩, mv 7 45] [2, 5, 7] none)
 (.seq (.region none [] [
 op 47 (.load (some 4) (tm 2)), op 48 (.faddr 2 (tm 5)), op 49 (.load none (tm 48)), op 50 (.call .pure 33 [(tm 47), (tm 49)]), mv 46 50, op 51 (.ext (tm 46) 0), op 52 (.ext (tm 46) 1), op 8 (.alloc 3 (.agg [.int .i64 0, .sl false [], .sl false []])), ⟨none, .store 3 (tm 8) (tm 51), none⟩, mv 9 52] [5, 7, 9] none)
 (.seq (.seq (.region none [] [
 mv 53 7, op 54 (.un .not (tm 53)), mv 55 54, mg 56 9 55 false, ⟨some 57, .un .not (tm 56), some (55, false)⟩, op 58 (.pick (tm 55) (.cst (.bool true)) (tm 57))] [5, 58] none)
 (.cond (tm 58) (.seq (.region none [] [
 op 4 (.mov (ci (10)))] [4] none)
 (.ret))
 (.skip)))
 (.seq (.seq (.region none [] [
 op 59 (.faddr 3 (tm 5)), op 60 (.load none (tm 59)), op 61 (.call .pure 60 [(tm 60)]), op 62 (.un .not (tm 61))] [5, 62] none)
 (.cond (tm 62) (.seq (.region none [] [
 op 4 (.mov (ci (6)))] [4] none)
 (.ret))
 (.skip)))
 (.seq (.region none [] [
 op 63 (.faddr 4 (tm 5)), op 64 (.load none (tm 63)), op 65 (.call .pure 59 [(.cst (.sl false [])), (tm 64)]), mv 4 65] [4] none)
 (.ret)))))))))

def a31 : AFunc := ⟨2, c31, [.tmp 4]⟩

def an31 : List RAnn := [
 { id := 0, live := [1, 2] },
 { id := 1, live := [1, 2, 5] },
 { id := 2, head := some 14, live := [2, 5, 28] },
 { id := 3, live := [4] },
 { id := 4, live := [2, 5, 38] },
 { id := 5, live := [4] },
 { id := 6, live := [2, 5, 7] },
 { id := 7, live := [5, 7, 9] },
 { id := 8, live := [5, 58] },
 { id := 9, live := [4] },
 { id := 10, live := [5, 62] },
 { id := 11, live := [4] },
 { id := 12, live := [4] }]

theorem comp31 : compF Tryz.prog an31 Tryz.f31 = some a31 := by kernel_rfl

/- graphdb/graphdbref08.Check -/
def c32 : ACode :=
 .seq (.region none [] [
 op 1 (.box 10 (tm 0)), op 2 (.mov (ci (0)))] [1] none)
 (.seq (.seq (.region none [] [
 op 3 (.faddr 0 (tm 1)), op 4 (.load none (tm 3)), op 5 (.bin .lss .int (tm 4) (ci (1))), mv 6 5, ⟨some 7, .faddr 0 (tm 1), some (6, false)⟩, ⟨some 8, .load none (tm 7), some (6, false)⟩, ⟨some 9, .bin .gtr .int (tm 8) (ci (8)), some (6, false)⟩, op 10 (.pick (tm 6) (.cst (.bool true)) (tm 9)), mv 11 10, ⟨some 12, .faddr 1 (tm 1), some (11, false)⟩, ⟨some 13, .load none (tm 12), some (11, false)⟩, ⟨some 14, .call .pure 61 [(tm 13)], some (11, false)⟩, ⟨some 15, .un .not (tm 14), some (11, false)⟩, op 16 (.pick (tm 11) (.cst (.bool true)) (tm 15)), mv 17 16, ⟨some 18, .faddr 0 (tm 1), some (17, false)⟩, ⟨some 19, .load none (tm 18), some (17, false)⟩, ⟨some 20, .call .pure 62 [(tm 19)], some (17, false)⟩, ⟨some 21, .un .not (tm 20), some (17, false)⟩, mg 22 21 17 false, ⟨some 23, .faddr 4 (tm 1), some (22, true)⟩, ⟨some 24, .load none (tm 23), some (22, true)⟩, ⟨some 25, .bin .neq .str (tm 24) (.cst (.str [])), some (22, true)⟩, ⟨some 26, .pick (tm 22) (tm 25) (.cst (.bool false)), some (17, false)⟩, op 27 (.pick (tm 17) (.cst (.bool true)) (tm 26)), mv 28 27, ⟨some 29, .faddr 0 (tm 1), some (28, false)⟩, ⟨some 30, .load none (tm 29), some (28, false)⟩, ⟨some 31, .call .pure 63 [(tm 30)], some (28, false)⟩, ⟨some 32, .un .not (tm 31), some (28, false)⟩, mg 33 32 28 false, ⟨some 34, .faddr 5 (tm 1), some (33, true)⟩, ⟨some 35, .load (some 5) (tm 34), some (33, true)⟩, ⟨some 36, .call .pure 64 [(tm 35)], some (33, true)⟩, ⟨some 37, .un .not (tm 36), some (33, true)⟩, ⟨some 38, .pick (tm 33) (tm 37) (.cst (.bool false)), some (28, false)⟩, op 39 (.pick (tm 28) (.cst (.bool true)) (tm 38))] [1, 39] none)
 (.cond (tm 39) (.seq (.region none [] [
 op 2 (.mov (ci (1)))] [2] none)
 (.ret))
 (.skip)))
 (.seq (.seq (.region none [] [
 op 40 (.faddr 0 (tm 1)), op 41 (.load none (tm 40)), op 42 (.bin .eql .int (tm 41) (ci (6))), mv 43 42, ⟨some 44, .faddr 2 (tm 1), some (43, true)⟩, ⟨some 45, .load none (tm 44), some (43, true)⟩, ⟨some 46, .call .pure 61 [(tm 45)], some (43, true)⟩, ⟨some 47, .un .not (tm 46), some (43, true)⟩, mg 48 47 43 true, ⟨some 49, .faddr 3 (tm 1), some (48, false)⟩, ⟨some 50, .load none (tm 49), some (48, false)⟩, ⟨some 51, .call .pure 61 [(tm 50)], some (48, false)⟩, ⟨some 52, .un .not (tm 51), some (48, false)⟩, ⟨some 53, .pick (tm 48) (.cst (.bool true)) (tm 52), some (43, true)⟩, op 54 (.pick (tm 43) (tm 53) (.cst (.bool false))), mv 55 54, ⟨some 56, .faddr 0 (tm 1), some (55, false)⟩, ⟨some 57, .load none (tm 56), some (55, false)⟩, ⟨some 58, .bin .neq .int (tm 57) (ci (6)), some (55, false)⟩, mg 59 58 55 false, ⟨some 60, .faddr 2 (tm 1), some (59, true)⟩, ⟨some 61, .load none (tm 60), some (59, true)⟩, ⟨some 62, .bin .neq .int (tm 61) (ci (0)), some (59, true)⟩, mg 63 62 59 true, ⟨some 64, .faddr 3 (tm 1), some (63, false)⟩, ⟨some 65, .load none (tm 64), some (63, false)⟩, ⟨some 66, .bin .neq .int (tm 65) (ci (0)), some (63, false)⟩, ⟨some 67, .pick (tm 63) (.cst (.bool true)) (tm 66), some (59, true)⟩, ⟨some 68, .pick (tm 59) (tm 67) (.cst (.bool false)), some (55, false)⟩, op 69 (.pick (tm 55) (.cst (.bool true)) (tm 68))] [1, 69] none)
 (.cond (tm 69) (.seq (.region none [] [
 op 2 (.mov (ci (1)))] [2] none)
 (.ret))
 (.skip)))
 (.seq (.seq (.region none [] [
 op 70 (.faddr 0 (tm 1)), op 71 (.load none (tm 70)), op 72 (.call .pure 62 [(tm 71)]), mv 73 72, ⟨some 74, .faddr 4 (tm 1), some (73, true)⟩, ⟨some 75, .load none (tm 74), some (73, true)⟩, ⟨some 76, .call .pure 60 [(tm 75)], some (73, true)⟩, ⟨some 77, .un .not (tm 76), some (73, true)⟩, op 78 (.pick (tm 73) (tm 77) (.cst (.bool false)))] [1, 78] none)
 (.cond (tm 78) (.seq (.region none [] [
 op 2 (.mov (ci (6)))] [2] none)
 (.ret))
 (.skip)))
 (.seq (.seq (.region none [] [
 op 79 (.faddr 0 (tm 1)), op 80 (.load none (tm 79)), op 81 (.call .pure 63 [(tm 80)]), mv 82 81, ⟨some 83, .faddr 5 (tm 1), some (82, true)⟩, ⟨some 84, .load (some 5) (tm 83), some (82, true)⟩, ⟨some 85, .call .pure 64 [(tm 84)], some (82, true)⟩, ⟨some 86, .un .not (tm 85), some (82, true)⟩, op 87 (.pick (tm 82) (tm 86) (.cst (.bool false))), mv 88 87, ⟨some 89, .faddr 5 (tm 1), some (88, true)⟩, ⟨some 90, .load (some 5) (tm 89), some (88, true)⟩, ⟨some 91, .call .pure 65 [(tm 90)], some (88, true)⟩, ⟨some 92, .un .not (tm 91), some (88, true)⟩, op 93 (.pick (tm 88) (tm 92) (.cst (.bool false)))] [93] none)
 (.cond (tm 93) (.seq (.region none [] [
 op 2 (.mov (ci (8)))] [2] none)
 (.ret))
 (.skip)))
 (.seq (.region none [] [
 op 2 (.mov (ci (0)))] [2] none)
 (.ret))))))

def a32 : AFunc := ⟨1, c32, [.tmp 2]⟩

def an32 : List RAnn := [
 { id := 0, live := [1] },
 { id := 1, live := [1, 39] },
 { id := 2, live := [2] },
 { id := 3, live := [1, 69] },
 { id := 4, live := [2] },
 { id := 5, live := [1, 78] },
 { id := 6, live := [2] },
 { id := 7, live := [93] },
 { id := 8, live := [2] },
 { id := 9, live := [2] }]

theorem comp32 : compF Tryz.prog an32 Tryz.f32 = some a32 := by kernel_rfl

/- graphdb/graphdbref07.Node -/
/-- loop 0 of function 33 -/
def l33_0_h : List Nat := [1, 2, 4, 6]

def l33_0_b : ACode :=
 .seq (.seq (.region none [] [
 mv 7 6, op 8 (.faddr 0 (tm 2)), op 9 (.load none (tm 8)), op 10 (.len .slice (tm 9)), op 11 (.bin .lss .int (tm 7) (tm 10))] [1, 2, 4, 6, 11] none)
 (.cond (tm 11) (.skip)
 (.exit 0)))
 (.seq (.block 1 (.seq (.region none [] [
 op 14 (.faddr 0 (tm 2)), op 15 (.load none (tm 14)), mv 16 6, op 17 (.iaddr 3 (tm 15) (tm 16)), op 18 (.faddr 0 (tm 17)), op 19 (.load none (tm 18)), mv 20 1, op 21 (.bin .eql .int (tm 19) (tm 20))] [1, 2, 4, 6, 21] none)
 (.cond (tm 21) (.seq (.region none [] [
 op 22 (.faddr 0 (tm 2)), op 23 (.load none (tm 22)), mv 24 6, op 25 (.iaddr 3 (tm 23) (tm 24)), op 26 (.load (some 3) (tm 25)), ⟨none, .store 3 (tm 4) (tm 26), none⟩, op 5 (.mov (.cst (.bool true)))] [4, 5] none)
 (.ret))
 (.skip))))
 (.region none [] [
 mv 12 6, op 13 (.bin .add .int (tm 12) (ci (1))), mv 6 13] [1, 2, 4, 6] none))

def c33 : ACode :=
 .seq (.region none [] [
 op 2 (.box 4 (tm 0)), op 4 (.alloc 3 (.agg [.int .i64 0, .sl false [], .sl false []])), op 5 (.mov (.cst (.bool false)))] [1, 2, 4] none)
 (.seq (.seq (.region none [] [
 op 6 (.mov (ci (0)))] [1, 2, 4, 6] none)
 (.block 0 (.loop l33_0_h l33_0_b)))
 (.seq (.region none [] [
 op 27 (.build [.int .i64 0, .sl false [], .sl false []] []), ⟨none, .store 3 (tm 4) (tm 27), none⟩, op 5 (.mov (.cst (.bool false)))] [4, 5] none)
 (.ret)))

def a33 : AFunc := ⟨2, c33, [.cell 4 (some 3), .tmp 5]⟩

def an33 : List RAnn := [
 { id := 0, live := [1, 2, 4] },
 { id := 1, live := [1, 2, 4, 6] },
 { id := 2, live := [1, 2, 4, 6, 11], hdr := [1, 2, 4, 6] },
 { id := 4, live := [1, 2, 4, 6, 21] },
 { id := 5, live := [4, 5] },
 { id := 3, live := [1, 2, 4, 6] },
 { id := 6, live := [4, 5] }]

theorem comp33 : compF Tryz.prog an33 Tryz.f33 = some a33 := by kernel_rfl

/- graphdb/graphdbref07.Edge -/
/-- loop 0 of function 34 -/
def l34_0_h : List Nat := [1, 2, 4, 6]

def l34_0_b : ACode :=
 .seq (.seq (.region none [] [
 mv 7 6, op 8 (.faddr 1 (tm 2)), op 9 (.load none (tm 8)), op 10 (.len .slice (tm 9)), op 11 (.bin .lss .int (tm 7) (tm 10))] [1, 2, 4, 6, 11] none)
 (.cond (tm 11) (.skip)
 (.exit 0)))
 (.seq (.block 1 (.seq (.region none [] [
 op 14 (.faddr 1 (tm 2)), op 15 (.load none (tm 14)), mv 16 6, op 17 (.iaddr 5 (tm 15) (tm 16)), op 18 (.faddr 0 (tm 17)), op 19 (.load none (tm 18)), mv 20 1, op 21 (.bin .eql .int (tm 19) (tm 20))] [1, 2, 4, 6, 21] none)
 (.cond (tm 21) (.seq (.region none [] [
 op 22 (.faddr 1 (tm 2)), op 23 (.load none (tm 22)), mv 24 6, op 25 (.iaddr 5 (tm 23) (tm 24)), op 26 (.load (some 5) (tm 25)), ⟨none, .store 5 (tm 4) (tm 26), none⟩, op 5 (.mov (.cst (.bool true)))] [4, 5] none)
 (.ret))
 (.skip))))
 (.region none [] [
 mv 12 6, op 13 (.bin .add .int (tm 12) (ci (1))), mv 6 13] [1, 2, 4, 6] none))

def c34 : ACode :=
 .seq (.region none [] [
 op 2 (.box 4 (tm 0)), op 4 (.alloc 5 (.agg [.int .i64 0, .int .i64 0, .int .i64 0, .str [], .sl false []])), op 5 (.mov (.cst (.bool false)))] [1, 2, 4] none)
 (.seq (.seq (.region none [] [
 op 6 (.mov (ci (0)))] [1, 2, 4, 6] none)
 (.block 0 (.loop l34_0_h l34_0_b)))
 (.seq (.region none [] [
 op 27 (.build [.int .i64 0, .int .i64 0, .int .i64 0, .str [], .sl false []] []), ⟨none, .store 5 (tm 4) (tm 27), none⟩, op 5 (.mov (.cst (.bool false)))] [4, 5] none)
 (.ret)))

def a34 : AFunc := ⟨2, c34, [.cell 4 (some 5), .tmp 5]⟩

def an34 : List RAnn := [
 { id := 0, live := [1, 2, 4] },
 { id := 1, live := [1, 2, 4, 6] },
 { id := 2, live := [1, 2, 4, 6, 11], hdr := [1, 2, 4, 6] },
 { id := 4, live := [1, 2, 4, 6, 21] },
 { id := 5, live := [4, 5] },
 { id := 3, live := [1, 2, 4, 6] },
 { id := 6, live := [4, 5] }]

theorem comp34 : compF Tryz.prog an34 Tryz.f34 = some a34 := by kernel_rfl

/- graphdb/graphdbref08.putNode -/
/-- loop 0 of function 35 -/
def l35_0_h : List Nat := [2, 3, 4, 5, 6, 7]

def l35_0_b : ACode :=
 .seq (.seq (.region none [] [
 mv 8 7, op 9 (.faddr 0 (tm 2)), op 10 (.load none (tm 9)), op 11 (.len .slice (tm 10)), op 12 (.bin .lss .int (tm 8) (tm 11))] [2, 3, 4, 5, 6, 7, 12] none)
 (.cond (tm 12) (.skip)
 (.exit 0)))
 (.seq (.block 1 (.seq (.seq (.region (some 13) [] [
 mv 15 6, op 16 (.un .not (tm 15)), mv 17 16, ⟨some 18, .faddr 0 (tm 2), some (17, true)⟩, ⟨some 19, .load none (tm 18), some (17, true)⟩, mg 20 7 17 true, ⟨some 21, .iaddr 3 (tm 19) (tm 20), some (17, true)⟩, ⟨some 22, .faddr 0 (tm 21), some (17, true)⟩, ⟨some 23, .load none (tm 22), some (17, true)⟩, ⟨some 24, .faddr 0 (tm 3), some (17, true)⟩, ⟨some 25, .load none (tm 24), some (17, true)⟩, ⟨some 26, .bin .geq .int (tm 23) (tm 25), some (17, true)⟩, op 27 (.pick (tm 17) (tm 26) (.cst (.bool false)))] [2, 3, 4, 5, 6, 7, 27] none)
 (.cond (tm 27) (.seq (.region none [] [
 mv 28 5, op 29 (.load (some 3) (tm 3)), op 30 (.lit false 3 (.agg [.int .i64 0, .sl false [], .sl false []]) 1 [(0, (tm 29))]), op 31 (.append 3 56 (tm 28) (tm 30)), mv 5 31] [2, 3, 4, 5, 7] none)
 (.region none [] [
 op 6 (.mov (.cst (.bool true)))] [2, 3, 4, 5, 6, 7] none))
 (.skip)))
 (.seq (.region (some 9) [] [
 op 32 (.faddr 0 (tm 2)), op 33 (.load none (tm 32)), mv 34 7, op 35 (.iaddr 3 (tm 33) (tm 34)), op 36 (.faddr 0 (tm 35)), op 37 (.load none (tm 36)), op 38 (.faddr 0 (tm 3)), op 39 (.load none (tm 38)), op 40 (.bin .neq .int (tm 37) (tm 39))] [2, 3, 4, 5, 6, 7, 40] none)
 (.cond (tm 40) (.region none [] [
 mv 41 5, op 42 (.faddr 0 (tm 2)), op 43 (.load none (tm 42)), mv 44 7, op 45 (.iaddr 3 (tm 43) (tm 44)), op 46 (.load (some 3) (tm 45)), op 47 (.lit false 3 (.agg [.int .i64 0, .sl false [], .sl false []]) 1 [(0, (tm 46))]), op 48 (.append 3 56 (tm 41) (tm 47)), mv 5 48] [2, 3, 4, 5, 6, 7] none)
 (.skip)))))
 (.region none [] [
 mv 13 7, op 14 (.bin .add .int (tm 13) (ci (1))), mv 7 14] [2, 3, 4, 5, 6, 7] none))

def c35 : ACode :=
 .seq (.region none [] [
 op 2 (.box 4 (tm 0)), op 3 (.box 3 (tm 1)), op 4 (.alloc 4 (.agg [.sl false [], .sl false [], .int .i64 0, .int .i64 0]))] [2, 3, 4] none)
 (.seq (.region none [] [
 op 5 (.newown 3)] [2, 3, 4, 5] none)
 (.seq (.region none [] [
 op 6 (.mov (.cst (.bool false)))] [2, 3, 4, 5, 6] none)
 (.seq (.seq (.region none [] [
 op 7 (.mov (ci (0)))] [2, 3, 4, 5, 6, 7] none)
 (.block 0 (.loop l35_0_h l35_0_b)))
 (.seq (.seq (.region none [] [
 mv 49 6, op 50 (.un .not (tm 49))] [2, 3, 4, 5, 50] none)
 (.cond (tm 50) (.region none [] [
 mv 51 5, op 52 (.load (some 3) (tm 3)), op 53 (.lit false 3 (.agg [.int .i64 0, .sl false [], .sl false []]) 1 [(0, (tm 52))]), op 54 (.append 3 56 (tm 51) (tm 53)), mv 5 54] [2, 3, 4, 5] none)
 (.skip)))
 (.seq (.region none [] [
 mv 55 5, op 56 (.faddr 0 (tm 2)), ⟨none, .store 1 (tm 56) (tm 55), none⟩] [2, 3, 4] none)
 (.seq (.region none [] [
 op 57 (.faddr 2 (tm 2)), op 58 (.load none (tm 57)), op 59 (.faddr 0 (tm 3)), op 60 (.load none (tm 59)), op 61 (.bin .add .int (tm 60) (ci (1))), op 62 (.max (tm 58) (tm 61)), op 63 (.faddr 2 (tm 2)), ⟨none, .store 1 (tm 63) (tm 62), none⟩] [2, 4] none)
 (.seq (.region none [] [
 op 64 (.load (some 4) (tm 2)), ⟨none, .store 4 (tm 4) (tm 64), none⟩] [4] none)
 (.ret))))))))

def a35 : AFunc := ⟨2, c35, [.cell 4 (some 4)]⟩

def an35 : List RAnn := [
 { id := 0, live := [2, 3, 4] },
 { id := 1, live := [2, 3, 4, 5], ops := [(0, .own)] },
 { id := 2, live := [2, 3, 4, 5, 6] },
 { id := 3, live := [2, 3, 4, 5, 6, 7] },
 { id := 4, live := [2, 3, 4, 5, 6, 7, 12], hdr := [2, 3, 4, 5, 6, 7] },
 { id := 6, head := some 13, live := [2, 3, 4, 5, 6, 7, 27] },
 { id := 7, live := [2, 3, 4, 5, 7] },
 { id := 8, live := [2, 3, 4, 5, 6, 7] },
 { id := 9, head := some 9, live := [2, 3, 4, 5, 6, 7, 40] },
 { id := 10, live := [2, 3, 4, 5, 6, 7] },
 { id := 5, live := [2, 3, 4, 5, 6, 7] },
 { id := 11, live := [2, 3, 4, 5, 50] },
 { id := 12, live := [2, 3, 4, 5] },
 { id := 13, live := [2, 3, 4] },
 { id := 14, live := [2, 4] },
 { id := 15, live := [4] }]

theorem comp35 : compF Tryz.prog an35 Tryz.f35 = some a35 := by kernel_rfl

/- graphdb/graphdbref08.putEdge -/
/-- loop 0 of function 36 -/
def l36_0_h : List Nat := [2, 3, 4, 5, 6, 7]

def l36_0_b : ACode :=
 .seq (.seq (.region none [] [
 mv 8 7, op 9 (.faddr 1 (tm 2)), op 10 (.load none (tm 9)), op 11 (.len .slice (tm 10)), op 12 (.bin .lss .int (tm 8) (tm 11))] [2, 3, 4, 5, 6, 7, 12] none)
 (.cond (tm 12) (.skip)
 (.exit 0)))
 (.seq (.block 1 (.seq (.seq (.region (some 13) [] [
 mv 15 6, op 16 (.un .not (tm 15)), mv 17 16, ⟨some 18, .faddr 1 (tm 2), some (17, true)⟩, ⟨some 19, .load none (tm 18), some (17, true)⟩, mg 20 7 17 true, ⟨some 21, .iaddr 5 (tm 19) (tm 20), some (17, true)⟩, ⟨some 22, .faddr 0 (tm 21), some (17, true)⟩, ⟨some 23, .load none (tm 22), some (17, true)⟩, ⟨some 24, .faddr 0 (tm 3), some (17, true)⟩, ⟨some 25, .load none (tm 24), some (17, true)⟩, ⟨some 26, .bin .geq .int (tm 23) (tm 25), some (17, true)⟩, op 27 (.pick (tm 17) (tm 26) (.cst (.bool false)))] [2, 3, 4, 5, 6, 7, 27] none)
 (.cond (tm 27) (.seq (.region none [] [
 mv 28 5, op 29 (.load (some 5) (tm 3)), op 30 (.lit false 5 (.agg [.int .i64 0, .int .i64 0, .int .i64 0, .str [], .sl false []]) 1 [(0, (tm 29))]), op 31 (.append 5 64 (tm 28) (tm 30)), mv 5 31] [2, 3, 4, 5, 7] none)
 (.region none [] [
 op 6 (.mov (.cst (.bool true)))] [2, 3, 4, 5, 6, 7] none))
 (.skip)))
 (.seq (.region (some 9) [] [
 op 32 (.faddr 1 (tm 2)), op 33 (.load none (tm 32)), mv 34 7, op 35 (.iaddr 5 (tm 33) (tm 34)), op 36 (.faddr 0 (tm 35)), op 37 (.load none (tm 36)), op 38 (.faddr 0 (tm 3)), op 39 (.load none (tm 38)), op 40 (.bin .neq .int (tm 37) (tm 39))] [2, 3, 4, 5, 6, 7, 40] none)
 (.cond (tm 40) (.region none [] [
 mv 41 5, op 42 (.faddr 1 (tm 2)), op 43 (.load none (tm 42)), mv 44 7, op 45 (.iaddr 5 (tm 43) (tm 44)), op 46 (.load (some 5) (tm 45)), op 47 (.lit false 5 (.agg [.int .i64 0, .int .i64 0, .int .i64 0, .str [], .sl false []]) 1 [(0, (tm 46))]), op 48 (.append 5 64 (tm 41) (tm 47)), mv 5 48] [2, 3, 4, 5, 6, 7] none)
 (.skip)))))
 (.region none [] [
 mv 13 7, op 14 (.bin .add .int (tm 13) (ci (1))), mv 7 14] [2, 3, 4, 5, 6, 7] none))

def c36 : ACode :=
 .seq (.region none [] [
 op 2 (.box 4 (tm 0)), op 3 (.box 5 (tm 1)), op 4 (.alloc 4 (.agg [.sl false [], .sl false [], .int .i64 0, .int .i64 0]))] [2, 3, 4] none)
 (.seq (.region none [] [
 op 5 (.newown 5)] [2, 3, 4, 5] none)
 (.seq (.region none [] [
 op 6 (.mov (.cst (.bool false)))] [2, 3, 4, 5, 6] none)
 (.seq (.seq (.region none [] [
 op 7 (.mov (ci (0)))] [2, 3, 4, 5, 6, 7] none)
 (.block 0 (.loop l36_0_h l36_0_b)))
 (.seq (.seq (.region none [] [
 mv 49 6, op 50 (.un .not (tm 49))] [2, 3, 4, 5, 50] none)
 (.cond (tm 50) (.region none [] [
 mv 51 5, op 52 (.load (some 5) (tm 3)), op 53 (.lit false 5 (.agg [.int .i64 0, .int .i64 0, .int .i64 0, .str [], .sl false []]) 1 [(0, (tm 52))]), op 54 (.append 5 64 (tm 51) (tm 53)), mv 5 54] [2, 3, 4, 5] none)
 (.skip)))
 (.seq (.region none [] [
 mv 55 5, op 56 (.faddr 1 (tm 2)), ⟨none, .store 1 (tm 56) (tm 55), none⟩] [2, 3, 4] none)
 (.seq (.region none [] [
 op 57 (.faddr 3 (tm 2)), op 58 (.load none (tm 57)), op 59 (.faddr 0 (tm 3)), op 60 (.load none (tm 59)), op 61 (.bin .add .int (tm 60) (ci (1))), op 62 (.max (tm 58) (tm 61)), op 63 (.faddr 3 (tm 2)), ⟨none, .store 1 (tm 63) (tm 62), none⟩] [2, 4] none)
 (.seq (.region none [] [
 op 64 (.load (some 4) (tm 2)), ⟨none, .store 4 (tm 4) (tm 64), none⟩] [4] none)
 (.ret))))))))

def a36 : AFunc := ⟨2, c36, [.cell 4 (some 4)]⟩

def an36 : List RAnn := [
 { id := 0, live := [2, 3, 4] },
 { id := 1, live := [2, 3, 4, 5], ops := [(0, .own)] },
 { id := 2, live := [2, 3, 4, 5, 6] },
 { id := 3, live := [2, 3, 4, 5, 6, 7] },
 { id := 4, live := [2, 3, 4, 5, 6, 7, 12], hdr := [2, 3, 4, 5, 6, 7] },
 { id := 6, head := some 13, live := [2, 3, 4, 5, 6, 7, 27] },
 { id := 7, live := [2, 3, 4, 5, 7] },
 { id := 8, live := [2, 3, 4, 5, 6, 7] },
 { id := 9, head := some 9, live := [2, 3, 4, 5, 6, 7, 40] },
 { id := 10, live := [2, 3, 4, 5, 6, 7] },
 { id := 5, live := [2, 3, 4, 5, 6, 7] },
 { id := 11, live := [2, 3, 4, 5, 50] },
 { id := 12, live := [2, 3, 4, 5] },
 { id := 13, live := [2, 3, 4] },
 { id := 14, live := [2, 4] },
 { id := 15, live := [4] }]

theorem comp36 : compF Tryz.prog an36 Tryz.f36 = some a36 := by kernel_rfl

/- graphdb/graphdbref08.onEdge -/
/-- loop 0 of function 37 -/
def l37_0_h : List Nat := [3, 4, 6, 10, 11]

def l37_0_b : ACode :=
 .seq (.seq (.region none [] [
 mv 33 11, op 34 (.faddr 1 (tm 3)), op 35 (.load none (tm 34)), op 36 (.len .slice (tm 35)), op 37 (.bin .lss .int (tm 33) (tm 36))] [3, 4, 6, 10, 11, 37] none)
 (.cond (tm 37) (.skip)
 (.exit 0)))
 (.seq (.block 1 (.seq (.region (some 9) [] [
 op 40 (.faddr 1 (tm 3)), op 41 (.load none (tm 40)), mv 42 11, op 43 (.iaddr 5 (tm 41) (tm 42)), op 44 (.faddr 0 (tm 43)), op 45 (.load none (tm 44)), op 46 (.faddr 1 (tm 4)), op 47 (.load none (tm 46)), op 48 (.bin .neq .int (tm 45) (tm 47))] [3, 4, 6, 10, 11, 48] none)
 (.cond (tm 48) (.region none [] [
 mv 49 10, op 50 (.faddr 1 (tm 3)), op 51 (.load none (tm 50)), mv 52 11, op 53 (.iaddr 5 (tm 51) (tm 52)), op 54 (.load (some 5) (tm 53)), op 55 (.lit false 5 (.agg [.int .i64 0, .int .i64 0, .int .i64 0, .str [], .sl false []]) 1 [(0, (tm 54))]), op 56 (.append 5 64 (tm 49) (tm 55)), mv 10 56] [3, 4, 6, 10, 11] none)
 (.skip))))
 (.region none [] [
 mv 38 11, op 39 (.bin .add .int (tm 38) (ci (1))), mv 11 39] [3, 4, 6, 10, 11] none))

def c37 : ACode :=
 .seq (.region none [] [
 op 3 (.box 4 (tm 0)), op 4 (.box 10 (tm 1)), op 5 (.box 5 (tm 2)), op 6 (.alloc 4 (.agg [.sl false [], .sl false [], .int .i64 0, .int .i64 0])), op 7 (.mov (ci (0)))] [3, 4, 5, 6] none)
 (.seq (.seq (.region none [] [
 op 12 (.faddr 0 (tm 4)), op 13 (.load none (tm 12)), op 14 (.bin .eql .int (tm 13) (ci (8)))] [3, 4, 5, 6, 14] none)
 (.cond (tm 14) (.seq (.region none [] [
 op 16 (.faddr 4 (tm 5)), op 17 (.load none (tm 16)), op 18 (.faddr 4 (tm 4)), op 19 (.load none (tm 18)), op 20 (.faddr 5 (tm 4)), op 21 (.load (some 5) (tm 20)), op 22 (.call .pure 66 [(tm 17), (tm 19), (tm 21)]), mv 15 22, op 23 (.ext (tm 15) 0), op 24 (.ext (tm 15) 1), mv 8 23, mv 9 24] [3, 5, 6, 8, 9] none)
 (.seq (.seq (.region none [] [
 mv 25 9, op 26 (.un .not (tm 25))] [3, 5, 6, 8, 26] none)
 (.cond (tm 26) (.seq (.region none [] [
 op 27 (.build [.sl false [], .sl false [], .int .i64 0, .int .i64 0] []), ⟨none, .store 4 (tm 6) (tm 27), none⟩, op 7 (.mov (ci (20)))] [6, 7] none)
 (.ret))
 (.skip)))
 (.seq (.region none [] [
 mv 28 8, op 29 (.faddr 4 (tm 5)), ⟨none, .store 1 (tm 29) (tm 28), none⟩] [3, 5, 6] none)
 (.seq (.region none [] [
 op 30 (.load (some 4) (tm 3)), op 31 (.load (some 5) (tm 5)), op 32 (.call .pure 36 [(tm 30), (tm 31)]), ⟨none, .store 4 (tm 6) (tm 32), none⟩, op 7 (.mov (ci (0)))] [6, 7] none)
 (.ret)))))
 (.skip)))
 (.seq (.region none [] [
 op 10 (.newown 5)] [3, 4, 6, 10] none)
 (.seq (.seq (.region none [] [
 op 11 (.mov (ci (0)))] [3, 4, 6, 10, 11] none)
 (.block 0 (.loop l37_0_h l37_0_b)))
 (.seq (.region none [] [
 mv 57 10, op 58 (.faddr 1 (tm 3)), ⟨none, .store 1 (tm 58) (tm 57), none⟩] [3, 6] none)
 (.seq (.region none [] [
 op 59 (.load (some 4) (tm 3)), ⟨none, .store 4 (tm 6) (tm 59), none⟩, op 7 (.mov (ci (0)))] [6, 7] none)
 (.ret))))))

def a37 : AFunc := ⟨3, c37, [.cell 6 (some 4), .tmp 7]⟩

def an37 : List RAnn := [
 { id := 0, live := [3, 4, 5, 6] },
 { id := 1, live := [3, 4, 5, 6, 14] },
 { id := 2, live := [3, 5, 6, 8, 9] },
 { id := 3, live := [3, 5, 6, 8, 26] },
 { id := 4, live := [6, 7] },
 { id := 5, live := [3, 5, 6] },
 { id := 6, live := [6, 7] },
 { id := 7, live := [3, 4, 6, 10], ops := [(0, .own)] },
 { id := 8, live := [3, 4, 6, 10, 11] },
 { id := 9, live := [3, 4, 6, 10, 11, 37], hdr := [3, 4, 6, 10, 11] },
 { id := 11, head := some 9, live := [3, 4, 6, 10, 11, 48] },
 { id := 12, live := [3, 4, 6, 10, 11] },
 { id := 10, live := [3, 4, 6, 10, 11] },
 { id := 13, live := [3, 6] },
 { id := 14, live := [6, 7] }]

theorem comp37 : compF Tryz.prog an37 Tryz.f37 = some a37 := by kernel_rfl

/- graphdb/graphdbref08.onNode -/
/-- loop 0 of function 38 -/
def l38_0_h : List Nat := [3, 4, 6, 9, 10]

def l38_0_b : ACode :=
 .seq (.seq (.region none [] [
 mv 26 10, op 27 (.faddr 0 (tm 3)), op 28 (.load none (tm 27)), op 29 (.len .slice (tm 28)), op 30 (.bin .lss .int (tm 26) (tm 29))] [3, 4, 6, 9, 10, 30] none)
 (.cond (tm 30) (.skip)
 (.exit 1)))
 (.seq (.block 2 (.seq (.region (some 9) [] [
 op 33 (.faddr 0 (tm 3)), op 34 (.load none (tm 33)), mv 35 10, op 36 (.iaddr 3 (tm 34) (tm 35)), op 37 (.faddr 0 (tm 36)), op 38 (.load none (tm 37)), op 39 (.faddr 1 (tm 4)), op 40 (.load none (tm 39)), op 41 (.bin .neq .int (tm 38) (tm 40))] [3, 4, 6, 9, 10, 41] none)
 (.cond (tm 41) (.region none [] [
 mv 42 9, op 43 (.faddr 0 (tm 3)), op 44 (.load none (tm 43)), mv 45 10, op 46 (.iaddr 3 (tm 44) (tm 45)), op 47 (.load (some 3) (tm 46)), op 48 (.lit false 3 (.agg [.int .i64 0, .sl false [], .sl false []]) 1 [(0, (tm 47))]), op 49 (.append 3 56 (tm 42) (tm 48)), mv 9 49] [3, 4, 6, 9, 10] none)
 (.skip))))
 (.region none [] [
 mv 31 10, op 32 (.bin .add .int (tm 31) (ci (1))), mv 10 32] [3, 4, 6, 9, 10] none))

def c38 : ACode :=
 .seq (.region none [] [
 op 3 (.box 4 (tm 0)), op 4 (.box 10 (tm 1)), op 5 (.box 3 (tm 2)), op 6 (.alloc 4 (.agg [.sl false [], .sl false [], .int .i64 0, .int .i64 0])), op 7 (.mov (ci (0)))] [3, 4, 5, 6] none)
 (.seq (.region none [] [
 op 13 (.load (some 3) (tm 5)), op 14 (.faddr 4 (tm 4)), op 15 (.load none (tm 14)), op 16 (.call .pure 67 [(tm 13), (tm 15)]), mv 8 16] [3, 4, 5, 6, 8] none)
 (.seq (.seq (.region none [] [
 op 17 (.faddr 0 (tm 4)), op 18 (.load none (tm 17))] [3, 4, 5, 6, 8, 18] none)
 (.block 0 (.seq (.region none [] [
 op 20 (.bin .eql .int (tm 18) (ci (2))), mv 19 20] [3, 4, 5, 6, 8, 18, 19] none)
 (.cond (tm 19) (.seq (.seq (.region none [] [
 op 21 (.load (some 4) (tm 3)), op 22 (.faddr 1 (tm 4)), op 23 (.load none (tm 22)), op 24 (.call .pure 68 [(tm 21), (tm 23)])] [3, 4, 6, 24] none)
 (.cond (tm 24) (.seq (.region none [] [
 op 25 (.build [.sl false [], .sl false [], .int .i64 0, .int .i64 0] []), ⟨none, .store 4 (tm 6) (tm 25), none⟩, op 7 (.mov (ci (12)))] [6, 7] none)
 (.ret))
 (.skip)))
 (.seq (.region none [] [
 op 9 (.newown 3)] [3, 4, 6, 9] none)
 (.seq (.seq (.region none [] [
 op 10 (.mov (ci (0)))] [3, 4, 6, 9, 10] none)
 (.block 1 (.loop l38_0_h l38_0_b)))
 (.seq (.region none [] [
 mv 50 9, op 51 (.faddr 0 (tm 3)), ⟨none, .store 1 (tm 51) (tm 50), none⟩] [3, 6] none)
 (.seq (.region none [] [
 op 52 (.load (some 4) (tm 3)), ⟨none, .store 4 (tm 6) (tm 52), none⟩, op 7 (.mov (ci (0)))] [6, 7] none)
 (.ret))))))
 (.seq (.region none [] [
 op 54 (.bin .eql .int (tm 18) (ci (3))), mv 53 54] [3, 4, 5, 6, 8, 18, 53] none)
 (.cond (tm 53) (.seq (.seq (.region none [] [
 mv 55 8] [3, 4, 5, 6, 55] none)
 (.cond (tm 55) (.seq (.region none [] [
 op 56 (.build [.sl false [], .sl false [], .int .i64 0, .int .i64 0] []), ⟨none, .store 4 (tm 6) (tm 56), none⟩, op 7 (.mov (ci (7)))] [6, 7] none)
 (.ret))
 (.skip)))
 (.seq (.seq (.region none [] [
 op 57 (.faddr 1 (tm 5)), op 58 (.load none (tm 57)), op 59 (.len .slice (tm 58)), op 60 (.bin .geq .int (tm 59) (ci (8)))] [3, 4, 5, 6, 60] none)
 (.cond (tm 60) (.seq (.region none [] [
 op 61 (.build [.sl false [], .sl false [], .int .i64 0, .int .i64 0] []), ⟨none, .store 4 (tm 6) (tm 61), none⟩, op 7 (.mov (ci (20)))] [6, 7] none)
 (.ret))
 (.skip)))
 (.seq (.region none [] [
 op 62 (.faddr 1 (tm 5)), op 63 (.load none (tm 62)), op 64 (.faddr 4 (tm 4)), op 65 (.load none (tm 64)), op 66 (.call .pure 69 [(tm 63), (tm 65)]), op 67 (.faddr 1 (tm 5)), ⟨none, .store 1 (tm 67) (tm 66), none⟩] [3, 5, 6] none)
 (.seq (.region none [] [
 op 68 (.load (some 4) (tm 3)), op 69 (.load (some 3) (tm 5)), op 70 (.call .pure 35 [(tm 68), (tm 69)]), ⟨none, .store 4 (tm 6) (tm 70), none⟩, op 7 (.mov (ci (0)))] [6, 7] none)
 (.ret)))))
 (.seq (.region none [] [
 op 72 (.bin .eql .int (tm 18) (ci (4))), mv 71 72] [3, 4, 5, 6, 8, 71] none)
 (.cond (tm 71) (.seq (.seq (.region none [] [
 mv 73 8, op 74 (.un .not (tm 73))] [3, 4, 5, 6, 74] none)
 (.cond (tm 74) (.seq (.region none [] [
 op 75 (.build [.sl false [], .sl false [], .int .i64 0, .int .i64 0] []), ⟨none, .store 4 (tm 6) (tm 75), none⟩, op 7 (.mov (ci (23)))] [6, 7] none)
 (.ret))
 (.skip)))
 (.seq (.region none [] [
 op 76 (.faddr 1 (tm 5)), op 77 (.load none (tm 76)), op 78 (.faddr 4 (tm 4)), op 79 (.load none (tm 78)), op 80 (.call .pure 70 [(tm 77), (tm 79)]), op 81 (.faddr 1 (tm 5)), ⟨none, .store 1 (tm 81) (tm 80), none⟩] [3, 5, 6] none)
 (.seq (.region none [] [
 op 82 (.load (some 4) (tm 3)), op 83 (.load (some 3) (tm 5)), op 84 (.call .pure 35 [(tm 82), (tm 83)]), ⟨none, .store 4 (tm 6) (tm 84), none⟩, op 7 (.mov (ci (0)))] [6, 7] none)
 (.ret))))
 (.skip)))))))))
 (.seq (.region none [] [
 op 86 (.faddr 2 (tm 5)), op 87 (.load none (tm 86)), op 88 (.faddr 4 (tm 4)), op 89 (.load none (tm 88)), op 90 (.faddr 5 (tm 4)), op 91 (.load (some 5) (tm 90)), op 92 (.call .pure 66 [(tm 87), (tm 89), (tm 91)]), mv 85 92, op 93 (.ext (tm 85) 0), op 94 (.ext (tm 85) 1), mv 11 93, mv 12 94] [3, 5, 6, 11, 12] none)
 (.seq (.seq (.region none [] [
 mv 95 12, op 96 (.un .not (tm 95))] [3, 5, 6, 11, 96] none)
 (.cond (tm 96) (.seq (.region none [] [
 op 97 (.build [.sl false [], .sl false [], .int .i64 0, .int .i64 0] []), ⟨none, .store 4 (tm 6) (tm 97), none⟩, op 7 (.mov (ci (20)))] [6, 7] none)
 (.ret))
 (.skip)))
 (.seq (.region none [] [
 mv 98 11, op 99 (.faddr 2 (tm 5)), ⟨none, .store 1 (tm 99) (tm 98), none⟩] [3, 5, 6] none)
 (.seq (.region none [] [
 op 100 (.load (some 4) (tm 3)), op 101 (.load (some 3) (tm 5)), op 102 (.call .pure 35 [(tm 100), (tm 101)]), ⟨none, .store 4 (tm 6) (tm 102), none⟩, op 7 (.mov (ci (0)))] [6, 7] none)
 (.ret)))))))

def a38 : AFunc := ⟨3, c38, [.cell 6 (some 4), .tmp 7]⟩

def an38 : List RAnn := [
 { id := 0, live := [3, 4, 5, 6] },
 { id := 1, live := [3, 4, 5, 6, 8] },
 { id := 2, live := [3, 4, 5, 6, 8, 18] },
 { id := 3, live := [3, 4, 5, 6, 8, 18, 19] },
 { id := 4, live := [3, 4, 6, 24] },
 { id := 5, live := [6, 7] },
 { id := 6, live := [3, 4, 6, 9], ops := [(0, .own)] },
 { id := 7, live := [3, 4, 6, 9, 10] },
 { id := 8, live := [3, 4, 6, 9, 10, 30], hdr := [3, 4, 6, 9, 10] },
 { id := 10, head := some 9, live := [3, 4, 6, 9, 10, 41] },
 { id := 11, live := [3, 4, 6, 9, 10] },
 { id := 9, live := [3, 4, 6, 9, 10] },
 { id := 12, live := [3, 6] },
 { id := 13, live := [6, 7] },
 { id := 14, live := [3, 4, 5, 6, 8, 18, 53] },
 { id := 15, live := [3, 4, 5, 6, 55] },
 { id := 16, live := [6, 7] },
 { id := 17, live := [3, 4, 5, 6, 60] },
 { id := 18, live := [6, 7] },
 { id := 19, live := [3, 5, 6] },
 { id := 20, live := [6, 7] },
 { id := 21, live := [3, 4, 5, 6, 8, 71] },
 { id := 22, live := [3, 4, 5, 6, 74] },
 { id := 23, live := [6, 7] },
 { id := 24, live := [3, 5, 6] },
 { id := 25, live := [6, 7] },
 { id := 26, live := [3, 5, 6, 11, 12] },
 { id := 27, live := [3, 5, 6, 11, 96] },
 { id := 28, live := [6, 7] },
 { id := 29, live := [3, 5, 6] },
 { id := 30, live := [6, 7] }]

theorem comp38 : compF Tryz.prog an38 Tryz.f38 = some a38 := by kernel_rfl

/- slices.pdqsortOrdered[int] -/
/-- loop 0 of function 39 -/
def l39_0_h : List Nat := [0, 1, 2, 3, 8, 9]

def l39_0_b : ACode :=
 .block 1 (.seq (.region none [] [
 mv 19 2, mv 20 1, op 21 (.bin .sub .int (tm 19) (tm 20)), mv 10 21] [0, 1, 2, 3, 8, 9, 10] none)
 (.seq (.seq (.region none [] [
 mv 22 10, op 23 (.bin .leq .int (tm 22) (ci (12)))] [0, 1, 2, 3, 8, 9, 10, 23] none)
 (.cond (tm 23) (.seq (.region none [] [
 mv 24 0, mv 25 1, mv 26 2, op 27 (.call .share 71 [(tm 24), (tm 25), (tm 26)])] [] none)
 (.ret))
 (.skip)))
 (.seq (.seq (.region none [] [
 mv 28 3, op 29 (.bin .eql .int (tm 28) (ci (0)))] [0, 1, 2, 3, 8, 9, 10, 29] none)
 (.cond (tm 29) (.seq (.region none [] [
 mv 30 0, mv 31 1, mv 32 2, op 33 (.call .share 72 [(tm 30), (tm 31), (tm 32)])] [] none)
 (.ret))
 (.skip)))
 (.seq (.seq (.region none [] [
 mv 34 8, op 35 (.un .not (tm 34))] [0, 1, 2, 3, 8, 9, 10, 35] none)
 (.cond (tm 35) (.seq (.region none [] [
 mv 36 0, mv 37 1, mv 38 2, op 39 (.call .share 73 [(tm 36), (tm 37), (tm 38)])] [0, 1, 2, 3, 8, 9, 10] none)
 (.region none [] [
 mv 40 3, op 41 (.bin .sub .int (tm 40) (ci (1))), mv 3 41] [0, 1, 2, 3, 8, 9, 10] none))
 (.skip)))
 (.seq (.region none [] [
 mv 43 0, mv 44 1, mv 45 2, op 46 (.call .share 74 [(tm 43), (tm 44), (tm 45)]), mv 42 46, op 47 (.ext (tm 42) 0), op 48 (.ext (tm 42) 1), mv 11 47, mv 12 48] [0, 1, 2, 3, 8, 9, 10, 11, 12] none)
 (.seq (.seq (.region none [] [
 mv 49 12, op 50 (.bin .eql .int (tm 49) (ci (2)))] [0, 1, 2, 3, 8, 9, 10, 11, 12, 50] none)
 (.cond (tm 50) (.seq (.region none [] [
 mv 51 0, mv 52 1, mv 53 2, op 54 (.call .share 75 [(tm 51), (tm 52), (tm 53)])] [0, 1, 2, 3, 8, 9, 10, 11] none)
 (.seq (.region none [] [
 mv 55 2, op 56 (.bin .sub .int (tm 55) (ci (1))), mv 57 11, mv 58 1, op 59 (.bin .sub .int (tm 57) (tm 58)), op 60 (.bin .sub .int (tm 56) (tm 59)), mv 11 60] [0, 1, 2, 3, 8, 9, 10, 11] none)
 (.region none [] [
 op 12 (.mov (ci (1)))] [0, 1, 2, 3, 8, 9, 10, 11, 12] none)))
 (.skip)))
 (.seq (.seq (.region none [] [
 mv 61 8, mv 62 61, mg 63 9 62 true, op 64 (.pick (tm 62) (tm 63) (.cst (.bool false))), mv 65 64, mg 66 12 65 true, ⟨some 67, .bin .eql .int (tm 66) (ci (1)), some (65, true)⟩, op 68 (.pick (tm 65) (tm 67) (.cst (.bool false)))] [0, 1, 2, 3, 8, 9, 10, 11, 68] none)
 (.cond (tm 68) (.seq (.region none [] [
 mv 69 0, mv 70 1, mv 71 2, op 72 (.call .share 76 [(tm 69), (tm 70), (tm 71)])] [0, 1, 2, 3, 8, 9, 10, 11, 72] none)
 (.cond (tm 72) (.ret)
 (.skip)))
 (.skip)))
 (.seq (.seq (.region (some 15) [] [
 mv 73 1, op 74 (.bin .gtr .int (tm 73) (ci (0))), mv 75 74, mg 76 0 75 true, mg 77 1 75 true, ⟨some 78, .bin .sub .int (tm 77) (ci (1)), some (75, true)⟩, ⟨some 79, .iaddr 1 (tm 76) (tm 78), some (75, true)⟩, ⟨some 80, .load none (tm 79), some (75, true)⟩, mg 81 0 75 true, mg 82 11 75 true, ⟨some 83, .iaddr 1 (tm 81) (tm 82), some (75, true)⟩, ⟨some 84, .load none (tm 83), some (75, true)⟩, ⟨some 85, .call .pure 77 [(tm 80), (tm 84)], some (75, true)⟩, ⟨some 86, .un .not (tm 85), some (75, true)⟩, op 87 (.pick (tm 75) (tm 86) (.cst (.bool false)))] [0, 1, 2, 3, 8, 9, 10, 11, 87] none)
 (.cond (tm 87) (.seq (.region none [] [
 mv 88 0, mv 89 1, mv 90 2, mv 91 11, op 92 (.call .share 78 [(tm 88), (tm 89), (tm 90), (tm 91)]), mv 13 92] [0, 2, 3, 8, 9, 13] none)
 (.seq (.region none [] [
 mv 93 13, mv 1 93] [0, 1, 2, 3, 8, 9] none)
 (.exit 1)))
 (.skip)))
 (.seq (.region none [] [
 mv 95 0, mv 96 1, mv 97 2, mv 98 11, op 99 (.call .share 79 [(tm 95), (tm 96), (tm 97), (tm 98)]), mv 94 99, op 100 (.ext (tm 94) 0), op 101 (.ext (tm 94) 1), mv 14 100, mv 15 101] [0, 1, 2, 3, 10, 14, 15] none)
 (.seq (.region none [] [
 mv 102 15, mv 9 102] [0, 1, 2, 3, 9, 10, 14] none)
 (.seq (.region none [] [
 mv 103 14, mv 104 1, op 105 (.bin .sub .int (tm 103) (tm 104)), mv 106 2, mv 107 14, op 108 (.bin .sub .int (tm 106) (tm 107)), mv 16 105, mv 17 108] [0, 1, 2, 3, 9, 10, 14, 16, 17] none)
 (.seq (.region none [] [
 mv 109 10, op 110 (.bin .quo .int (tm 109) (ci (8))), mv 18 110] [0, 1, 2, 3, 9, 14, 16, 17, 18] none)
 (.seq (.region none [] [
 mv 111 16, mv 112 17, op 113 (.bin .lss .int (tm 111) (tm 112))] [0, 1, 2, 3, 9, 14, 16, 17, 18, 113] none)
 (.cond (tm 113) (.seq (.region none [] [
 mv 114 16, mv 115 18, op 116 (.bin .geq .int (tm 114) (tm 115)), mv 8 116] [0, 1, 2, 3, 8, 9, 14] none)
 (.seq (.region none [] [
 mv 117 0, mv 118 1, mv 119 14, mv 120 3, op 121 (.call .share 39 [(tm 117), (tm 118), (tm 119), (tm 120)])] [0, 2, 3, 8, 9, 14] none)
 (.region none [] [
 mv 122 14, op 123 (.bin .add .int (tm 122) (ci (1))), mv 1 123] [0, 1, 2, 3, 8, 9] none)))
 (.seq (.region none [] [
 mv 124 17, mv 125 18, op 126 (.bin .geq .int (tm 124) (tm 125)), mv 8 126] [0, 1, 2, 3, 8, 9, 14] none)
 (.seq (.region none [] [
 mv 127 0, mv 128 14, op 129 (.bin .add .int (tm 128) (ci (1))), mv 130 2, mv 131 3, op 132 (.call .share 39 [(tm 127), (tm 129), (tm 130), (tm 131)])] [0, 1, 3, 8, 9, 14] none)
 (.region none [] [
 mv 133 14, mv 2 133] [0, 1, 2, 3, 8, 9] none)))))))))))))))))

def c39 : ACode :=
 .seq (.region none [] [
 op 8 (.mov (.cst (.bool true)))] [0, 1, 2, 3, 8] none)
 (.seq (.region none [] [
 op 9 (.mov (.cst (.bool true)))] [0, 1, 2, 3, 8, 9] none)
 (.block 0 (.loop l39_0_h l39_0_b)))

def a39 : AFunc := ⟨4, c39, []⟩

def an39 : List RAnn := [
 { id := 0, live := [0, 1, 2, 3, 8] },
 { id := 1, live := [0, 1, 2, 3, 8, 9] },
 { id := 2, live := [0, 1, 2, 3, 8, 9, 10], hdr := [0, 1, 2, 3, 8, 9] },
 { id := 3, live := [0, 1, 2, 3, 8, 9, 10, 23] },
 { id := 4, ops := [(3, .mode .share)] },
 { id := 5, live := [0, 1, 2, 3, 8, 9, 10, 29] },
 { id := 6, ops := [(3, .mode .share)] },
 { id := 7, live := [0, 1, 2, 3, 8, 9, 10, 35] },
 { id := 8, live := [0, 1, 2, 3, 8, 9, 10], ops := [(3, .mode .share)] },
 { id := 9, live := [0, 1, 2, 3, 8, 9, 10] },
 { id := 10, live := [0, 1, 2, 3, 8, 9, 10, 11, 12], ops := [(3, .mode .share)] },
 { id := 11, live := [0, 1, 2, 3, 8, 9, 10, 11, 12, 50] },
 { id := 12, live := [0, 1, 2, 3, 8, 9, 10, 11], ops := [(3, .mode .share)] },
 { id := 13, live := [0, 1, 2, 3, 8, 9, 10, 11] },
 { id := 14, live := [0, 1, 2, 3, 8, 9, 10, 11, 12] },
 { id := 15, live := [0, 1, 2, 3, 8, 9, 10, 11, 68] },
 { id := 16, live := [0, 1, 2, 3, 8, 9, 10, 11, 72], ops := [(3, .mode .share)] },
 { id := 17, head := some 15, live := [0, 1, 2, 3, 8, 9, 10, 11, 87] },
 { id := 18, live := [0, 2, 3, 8, 9, 13], ops := [(4, .mode .share)] },
 { id := 19, live := [0, 1, 2, 3, 8, 9] },
 { id := 20, live := [0, 1, 2, 3, 10, 14, 15], ops := [(4, .mode .share)] },
 { id := 21, live := [0, 1, 2, 3, 9, 10, 14] },
 { id := 22, live := [0, 1, 2, 3, 9, 10, 14, 16, 17] },
 { id := 23, live := [0, 1, 2, 3, 9, 14, 16, 17, 18] },
 { id := 24, live := [0, 1, 2, 3, 9, 14, 16, 17, 18, 113] },
 { id := 25, live := [0, 1, 2, 3, 8, 9, 14] },
 { id := 26, live := [0, 2, 3, 8, 9, 14], ops := [(4, .mode .share)] },
 { id := 27, live := [0, 1, 2, 3, 8, 9] },
 { id := 28, live := [0, 1, 2, 3, 8, 9, 14] },
 { id := 29, live := [0, 1, 3, 8, 9, 14], ops := [(5, .mode .share)] },
 { id := 30, live := [0, 1, 2, 3, 8, 9] }]

theorem comp39 : compF Tryz.prog an39 Tryz.f39 = some a39 := by kernel_rfl

/- math/bits.Len -/
def c40 : ACode :=
 .seq (.region none [] [
 op 2 (.mov (ci (0)))] [0] none)
 (.seq (.cond (.cst (.bool false)) (.seq (.region none [] [
 mv 3 0, op 4 (.conv .u32 (tm 3)), op 5 (.call .pure 80 [(tm 4)]), mv 2 5] [2] none)
 (.ret))
 (.skip))
 (.seq (.region none [] [
 mv 6 0, op 7 (.call .pure 81 [(tm 6)]), mv 2 7] [2] none)
 (.ret)))

def a40 : AFunc := ⟨1, c40, [.tmp 2]⟩

def an40 : List RAnn := [
 { id := 0, live := [0] },
 { id := 1, live := [2] },
 { id := 2, live := [2] }]

theorem comp40 : compF Tryz.prog an40 Tryz.f40 = some a40 := by kernel_rfl

/- graphdb/graphdbref07.SameParts -/
/-- loop 0 of function 41 -/
def l41_0_h : List Nat := [2, 3, 5]

def l41_0_b : ACode :=
 .seq (.seq (.region none [] [
 mv 27 5, op 28 (.faddr 0 (tm 2)), op 29 (.load none (tm 28)), op 30 (.len .slice (tm 29)), op 31 (.bin .lss .int (tm 27) (tm 30))] [2, 3, 5, 31] none)
 (.cond (tm 31) (.skip)
 (.exit 0)))
 (.seq (.block 1 (.seq (.par 14 [(1, 10), (3, 10), (4, 10), (6, 10), (8, 10), (9, 10), (1, 11), (3, 11), (4, 11), (6, 11), (8, 11), (9, 11), (10, 11), (6, 12), (8, 12), (9, 12)] [] [
 op 34 (.faddr 0 (tm 2)), op 35 (.load none (tm 34)), mv 36 5, op 37 (.iaddr 3 (tm 35) (tm 36)), op 38 (.load (some 3) (tm 37)), op 39 (.faddr 0 (tm 3)), op 40 (.load none (tm 39)), mv 41 5, op 42 (.iaddr 3 (tm 40) (tm 41)), op 43 (.load (some 3) (tm 42)), op 6 (.alloc 3 (.agg [.int .i64 0, .sl false [], .sl false []])), op 7 (.alloc 3 (.agg [.int .i64 0, .sl false [], .sl false []])), ⟨none, .store 3 (tm 6) (tm 38), none⟩, ⟨none, .store 3 (tm 7) (tm 43), none⟩] [2, 3, 5, 6, 7] none)
 (.seq (.region none [] [
 op 44 (.faddr 0 (tm 6)), op 45 (.load none (tm 44)), op 46 (.faddr 0 (tm 7)), op 47 (.load none (tm 46)), op 48 (.bin .neq .int (tm 45) (tm 47)), mv 49 48, ⟨some 50, .faddr 1 (tm 6), some (49, false)⟩, ⟨some 51, .load none (tm 50), some (49, false)⟩, ⟨some 52, .faddr 1 (tm 7), some (49, false)⟩, ⟨some 53, .load none (tm 52), some (49, false)⟩, ⟨some 54, .call .pure 82 [(tm 51), (tm 53)], some (49, false)⟩, ⟨some 55, .un .not (tm 54), some (49, false)⟩, op 56 (.pick (tm 49) (.cst (.bool true)) (tm 55)), mv 57 56, ⟨some 58, .faddr 2 (tm 6), some (57, false)⟩, ⟨some 59, .load none (tm 58), some (57, false)⟩, ⟨some 60, .faddr 2 (tm 7), some (57, false)⟩, ⟨some 61, .load none (tm 60), some (57, false)⟩, ⟨some 62, .call .pure 83 [(tm 59), (tm 61)], some (57, false)⟩, ⟨some 63, .un .not (tm 62), some (57, false)⟩, op 64 (.pick (tm 57) (.cst (.bool true)) (tm 63))] [2, 3, 5, 64] none)
 (.cond (tm 64) (.seq (.region none [] [
 op 4 (.mov (.cst (.bool false)))] [4] none)
 (.ret))
 (.skip)))))
 (.region none [] [
 mv 32 5, op 33 (.bin .add .int (tm 32) (ci (1))), mv 5 33] [2, 3, 5] (some 2)))

/-- loop 1 of function 41 -/
def l41_1_h : List Nat := [2, 3, 8]

def l41_1_b : ACode :=
 .seq (.seq (.region none [] [
 mv 65 8, op 66 (.faddr 1 (tm 2)), op 67 (.load none (tm 66)), op 68 (.len .slice (tm 67)), op 69 (.bin .lss .int (tm 65) (tm 68))] [2, 3, 8, 69] none)
 (.cond (tm 69) (.skip)
 (.exit 2)))
 (.seq (.block 3 (.seq (.par 14 [(1, 10), (3, 10), (4, 10), (6, 10), (8, 10), (9, 10), (1, 11), (3, 11), (4, 11), (6, 11), (8, 11), (9, 11), (10, 11), (6, 12), (8, 12), (9, 12)] [] [
 op 72 (.faddr 1 (tm 2)), op 73 (.load none (tm 72)), mv 74 8, op 75 (.iaddr 5 (tm 73) (tm 74)), op 76 (.load (some 5) (tm 75)), op 77 (.faddr 1 (tm 3)), op 78 (.load none (tm 77)), mv 79 8, op 80 (.iaddr 5 (tm 78) (tm 79)), op 81 (.load (some 5) (tm 80)), op 9 (.alloc 5 (.agg [.int .i64 0, .int .i64 0, .int .i64 0, .str [], .sl false []])), op 10 (.alloc 5 (.agg [.int .i64 0, .int .i64 0, .int .i64 0, .str [], .sl false []])), ⟨none, .store 5 (tm 9) (tm 76), none⟩, ⟨none, .store 5 (tm 10) (tm 81), none⟩] [2, 3, 8, 9, 10] none)
 (.seq (.region none [] [
 op 82 (.faddr 0 (tm 9)), op 83 (.load none (tm 82)), op 84 (.faddr 0 (tm 10)), op 85 (.load none (tm 84)), op 86 (.bin .neq .int (tm 83) (tm 85)), mv 87 86, ⟨some 88, .faddr 1 (tm 9), some (87, false)⟩, ⟨some 89, .load none (tm 88), some (87, false)⟩, ⟨some 90, .faddr 1 (tm 10), some (87, false)⟩, ⟨some 91, .load none (tm 90), some (87, false)⟩, ⟨some 92, .bin .neq .int (tm 89) (tm 91), some (87, false)⟩, op 93 (.pick (tm 87) (.cst (.bool true)) (tm 92)), mv 94 93, ⟨some 95, .faddr 2 (tm 9), some (94, false)⟩, ⟨some 96, .load none (tm 95), some (94, false)⟩, ⟨some 97, .faddr 2 (tm 10), some (94, false)⟩, ⟨some 98, .load none (tm 97), some (94, false)⟩, ⟨some 99, .bin .neq .int (tm 96) (tm 98), some (94, false)⟩, op 100 (.pick (tm 94) (.cst (.bool true)) (tm 99)), mv 101 100, ⟨some 102, .faddr 3 (tm 9), some (101, false)⟩, ⟨some 103, .load none (tm 102), some (101, false)⟩, ⟨some 104, .faddr 3 (tm 10), some (101, false)⟩, ⟨some 105, .load none (tm 104), some (101, false)⟩, ⟨some 106, .bin .neq .str (tm 103) (tm 105), some (101, false)⟩, op 107 (.pick (tm 101) (.cst (.bool true)) (tm 106)), mv 108 107, ⟨some 109, .faddr 4 (tm 9), some (108, false)⟩, ⟨some 110, .load none (tm 109), some (108, false)⟩, ⟨some 111, .faddr 4 (tm 10), some (108, false)⟩, ⟨some 112, .load none (tm 111), some (108, false)⟩, ⟨some 113, .call .pure 83 [(tm 110), (tm 112)], some (108, false)⟩, ⟨some 114, .un .not (tm 113), some (108, false)⟩, op 115 (.pick (tm 108) (.cst (.bool true)) (tm 114))] [2, 3, 8, 115] none)
 (.cond (tm 115) (.seq (.region none [] [
 op 4 (.mov (.cst (.bool false)))] [4] none)
 (.ret))
 (.skip)))))
 (.region none [] [
 mv 70 8, op 71 (.bin .add .int (tm 70) (ci (1))), mv 8 71] [2, 3, 8] (some 2)))

def c41 : ACode :=
 .seq (.region none [] [
 op 2 (.box 4 (tm 0)), op 3 (.box 4 (tm 1)), op 4 (.mov (.cst (.bool false)))] [2, 3] none)
 (.seq (.seq (.region none [] [
 op 11 (.faddr 0 (tm 2)), op 12 (.load none (tm 11)), op 13 (.len .slice (tm 12)), op 14 (.faddr 0 (tm 3)), op 15 (.load none (tm 14)), op 16 (.len .slice (tm 15)), op 17 (.bin .neq .int (tm 13) (tm 16)), mv 18 17, ⟨some 19, .faddr 1 (tm 2), some (18, false)⟩, ⟨some 20, .load none (tm 19), some (18, false)⟩, ⟨some 21, .len .slice (tm 20), some (18, false)⟩, ⟨some 22, .faddr 1 (tm 3), some (18, false)⟩, ⟨some 23, .load none (tm 22), some (18, false)⟩, ⟨some 24, .len .slice (tm 23), some (18, false)⟩, ⟨some 25, .bin .neq .int (tm 21) (tm 24), some (18, false)⟩, op 26 (.pick (tm 18) (.cst (.bool true)) (tm 25))] [2, 3, 26] none)
 (.cond (tm 26) (.seq (.region none [] [
 op 4 (.mov (.cst (.bool false)))] [4] none)
 (.ret))
 (.skip)))
 (.seq (.seq (.region none [] [
 op 5 (.mov (ci (0)))] [2, 3, 5] none)
 (.block 0 (.loop l41_0_h l41_0_b)))
 (.seq (.seq (.region none [] [
 op 8 (.mov (ci (0)))] [2, 3, 8] none)
 (.block 2 (.loop l41_1_h l41_1_b)))
 (.seq (.region none [] [
 op 4 (.mov (.cst (.bool true)))] [4] none)
 (.ret)))))

def a41 : AFunc := ⟨2, c41, [.tmp 4]⟩

def an41 : List RAnn := [
 { id := 0, live := [2, 3] },
 { id := 1, live := [2, 3, 26] },
 { id := 2, live := [4] },
 { id := 3, live := [2, 3, 5] },
 { id := 4, live := [2, 3, 5, 31], hdr := [2, 3, 5] },
 { id := 6, head := some 14, live := [2, 3, 5, 6, 7], par := true },
 { id := 7, live := [2, 3, 5, 64] },
 { id := 8, live := [4] },
 { id := 5, live := [2, 3, 5], trunc := some 2 },
 { id := 9, live := [2, 3, 8] },
 { id := 10, live := [2, 3, 8, 69], hdr := [2, 3, 8] },
 { id := 12, head := some 14, live := [2, 3, 8, 9, 10], par := true },
 { id := 13, live := [2, 3, 8, 115] },
 { id := 14, live := [4] },
 { id := 11, live := [2, 3, 8], trunc := some 2 },
 { id := 15, live := [4] }]

theorem comp41 : compF Tryz.prog an41 Tryz.f41 = some a41 := by kernel_rfl

/- graphdb/graph.parts -/
/-- loop 0 of function 42 -/
def l42_0_h : List Nat := [0, 1, 5, 18, 19, 20]

def l42_0_b : ACode :=
 .seq (.region none [] [
 op 21 (.bin .lss .int (tm 20) (tm 19))] [0, 1, 5, 18, 19, 20, 21] none)
 (.seq (.cond (tm 21) (.skip)
 (.exit 0))
 (.seq (.block 1 (.seq (.region none [] [
 op 22 (.iaddr 6 (tm 18) (tm 20)), op 23 (.load (some 6) (tm 22)), op 7 (.alloc 6 (.agg [.str [], .int .i64 0, .int .i64 0, .int .i64 0, .str [], .sl false []])), ⟨none, .store 6 (tm 7) (tm 23), none⟩] [0, 1, 5, 7, 18, 19, 20] none)
 (.region none [] [
 mv 24 5, op 25 (.faddr 0 (tm 7)), op 26 (.load none (tm 25)), op 27 (.lit false 1 (.str []) 1 [(0, (tm 26))]), op 28 (.append 1 16 (tm 24) (tm 27)), mv 5 28] [0, 1, 5, 18, 19, 20] none)))
 (.region none [] [
 op 29 (.bin .add .int (tm 20) (ci (1))), mv 20 29] [0, 1, 5, 18, 19, 20] (some 1))))

/-- loop 1 of function 42 -/
def l42_1_h : List Nat := [44, 45, 46]

def l42_1_b : ACode :=
 .seq (.region none [] [
 op 47 (.bin .lss .int (tm 46) (tm 45))] [44, 45, 46, 47] none)
 (.seq (.cond (tm 47) (.skip)
 (.exit 2))
 (.seq (.block 3 (.seq (.region none [] [
 op 48 (.iaddr 6 (tm 44) (tm 46)), op 49 (.load (some 6) (tm 48)), op 9 (.alloc 6 (.agg [.str [], .int .i64 0, .int .i64 0, .int .i64 0, .str [], .sl false []])), ⟨none, .store 6 (tm 9) (tm 49), none⟩] [9, 44, 45, 46] none)
 (.seq (.region none [] [
 op 50 (.faddr 1 (tm 9)), op 51 (.load (some 5) (tm 50)), op 52 (.call .pure 87 [(tm 51)]), op 53 (.un .not (tm 52))] [44, 45, 46, 53] none)
 (.cond (tm 53) (.seq (.region none [] [
 op 4 (.mov (ci (8)))] [4] none)
 (.ret))
 (.skip)))))
 (.region none [] [
 op 54 (.bin .add .int (tm 46) (ci (1))), mv 46 54] [44, 45, 46] (some 1))))

def c42 : ACode :=
 .seq (.region none [] [
 op 4 (.mov (ci (0)))] [0, 1] none)
 (.seq (.seq (.region none [] [
 mv 10 0, op 11 (.len .slice (tm 10)), op 12 (.bin .gtr .int (tm 11) (ci (8))), mv 13 12, mg 14 1 13 false, ⟨some 15, .len .slice (tm 14), some (13, false)⟩, ⟨some 16, .bin .gtr .int (tm 15) (ci (16)), some (13, false)⟩, op 17 (.pick (tm 13) (.cst (.bool true)) (tm 16))] [0, 1, 17] none)
 (.cond (tm 17) (.seq (.region none [] [
 op 4 (.mov (ci (4)))] [4] none)
 (.ret))
 (.skip)))
 (.seq (.region none [] [
 op 5 (.newown 1)] [0, 1, 5] none)
 (.seq (.seq (.region none [] [
 mv 18 1, op 19 (.len .slice (tm 18)), op 20 (.mov (ci (0)))] [0, 1, 5, 18, 19, 20] none)
 (.block 0 (.loop l42_0_h l42_0_b)))
 (.seq (.seq (.region none [] [
 mv 30 0, op 31 (.call .pure 84 [(tm 30), (.cst (.fn 85 []))]), mv 32 31, mg 33 5 32 false, ⟨some 34, .call .borrow 84 [(tm 33), (.cst (.fn 85 []))], some (32, false)⟩, op 35 (.pick (tm 32) (.cst (.bool true)) (tm 34))] [0, 1, 5, 35] none)
 (.cond (tm 35) (.seq (.region none [] [
 op 4 (.mov (ci (6)))] [4] none)
 (.ret))
 (.skip)))
 (.seq (.seq (.region none [] [
 mv 36 0, op 37 (.call .pure 86 [(tm 36)]), op 38 (.un .not (tm 37)), mv 39 38, mg 40 5 39 false, ⟨some 41, .call .borrow 86 [(tm 40)], some (39, false)⟩, ⟨some 42, .un .not (tm 41), some (39, false)⟩, op 43 (.pick (tm 39) (.cst (.bool true)) (tm 42))] [1, 43] none)
 (.cond (tm 43) (.seq (.region none [] [
 op 4 (.mov (ci (26)))] [4] none)
 (.ret))
 (.skip)))
 (.seq (.seq (.region none [] [
 mv 44 1, op 45 (.len .slice (tm 44)), op 46 (.mov (ci (0)))] [44, 45, 46] none)
 (.block 2 (.loop l42_1_h l42_1_b)))
 (.seq (.region none [] [
 op 4 (.mov (ci (0)))] [4] none)
 (.ret))))))))

def a42 : AFunc := ⟨2, c42, [.tmp 4]⟩

def an42 : List RAnn := [
 { id := 0, live := [0, 1] },
 { id := 1, live := [0, 1, 17] },
 { id := 2, live := [4] },
 { id := 3, live := [0, 1, 5], ops := [(0, .own)] },
 { id := 4, live := [0, 1, 5, 18, 19, 20] },
 { id := 5, live := [0, 1, 5, 18, 19, 20, 21], hdr := [0, 1, 5, 18, 19, 20] },
 { id := 6, live := [0, 1, 5, 7, 18, 19, 20] },
 { id := 7, live := [0, 1, 5, 18, 19, 20] },
 { id := 8, live := [0, 1, 5, 18, 19, 20], trunc := some 1 },
 { id := 9, live := [0, 1, 5, 35], ops := [(4, .mode .borrow)] },
 { id := 10, live := [4] },
 { id := 11, live := [1, 43], ops := [(5, .mode .borrow)] },
 { id := 12, live := [4] },
 { id := 13, live := [44, 45, 46] },
 { id := 14, live := [44, 45, 46, 47], hdr := [44, 45, 46] },
 { id := 15, live := [9, 44, 45, 46] },
 { id := 16, live := [44, 45, 46, 53] },
 { id := 17, live := [4] },
 { id := 18, live := [44, 45, 46], trunc := some 1 },
 { id := 19, live := [4] }]

theorem comp42 : compF Tryz.prog an42 Tryz.f42 = some a42 := by kernel_rfl

/- graphdb/graph.has -/
def c43 : ACode :=
 .seq (.region none [] [
 op 4 (.mov (.cst (.bool false)))] [0, 1] none)
 (.seq (.region none [] [
 mv 8 0, mv 9 1, op 10 (.call .pure 88 [(tm 8), (tm 9), (.cst (.fn 89 []))]), mv 7 10, op 11 (.ext (tm 7) 0), op 12 (.ext (tm 7) 1), mv 5 11, mv 6 12] [6] none)
 (.seq (.region none [] [
 mv 13 6, mv 4 13] [4] none)
 (.ret)))

def a43 : AFunc := ⟨2, c43, [.tmp 4]⟩

def an43 : List RAnn := [
 { id := 0, live := [0, 1] },
 { id := 1, live := [6] },
 { id := 2, live := [4] }]

theorem comp43 : compF Tryz.prog an43 Tryz.f43 = some a43 := by kernel_rfl

/- graphdb/graph.Name -/
/-- loop 0 of function 44 -/
def l44_0_h : List Nat := [0, 18, 19]

def l44_0_b : ACode :=
 .seq (.region none [] [
 op 20 (.bin .lss .int (tm 19) (tm 18))] [0, 18, 19, 20] none)
 (.seq (.cond (tm 20) (.skip)
 (.exit 0))
 (.seq (.block 1 (.seq (.region none [] [
 mv 21 19, mv 3 21] [0, 3, 18, 19] none)
 (.seq (.region none [] [
 mv 22 0, mv 23 3, op 24 (.sidx (tm 22) (tm 23)), op 25 (.call .pure 91 [(tm 24)]), op 26 (.un .not (tm 25)), mv 27 26, mg 28 0 27 true, mg 29 3 27 true, ⟨some 30, .sidx (tm 28) (tm 29), some (27, true)⟩, ⟨some 31, .bin .lss .int (tm 30) (.cst (.int .u8 48)), some (27, true)⟩, mg 32 31 27 true, mg 33 0 32 false, mg 34 3 32 false, ⟨some 35, .sidx (tm 33) (tm 34), some (32, false)⟩, ⟨some 36, .bin .gtr .int (tm 35) (.cst (.int .u8 57)), some (32, false)⟩, ⟨some 37, .pick (tm 32) (.cst (.bool true)) (tm 36), some (27, true)⟩, op 38 (.pick (tm 27) (tm 37) (.cst (.bool false))), mv 39 38, mg 40 0 39 true, mg 41 3 39 true, ⟨some 42, .sidx (tm 40) (tm 41), some (39, true)⟩, ⟨some 43, .bin .neq .int (tm 42) (.cst (.int .u8 95)), some (39, true)⟩, op 44 (.pick (tm 39) (tm 43) (.cst (.bool false)))] [0, 18, 19, 44] none)
 (.cond (tm 44) (.seq (.region none [] [
 op 2 (.mov (.cst (.bool false)))] [2] none)
 (.ret))
 (.skip)))))
 (.region none [] [
 op 45 (.bin .add .int (tm 19) (ci (1))), mv 19 45] [0, 18, 19] none)))

def c44 : ACode :=
 .seq (.region none [] [
 op 2 (.mov (.cst (.bool false)))] [0] none)
 (.seq (.seq (.region none [] [
 mv 4 0, op 5 (.bin .eql .str (tm 4) (.cst (.str []))), mv 6 5, mg 7 0 6 false, ⟨some 8, .len .str (tm 7), some (6, false)⟩, ⟨some 9, .bin .gtr .int (tm 8) (ci (20)), some (6, false)⟩, op 10 (.pick (tm 6) (.cst (.bool true)) (tm 9)), mv 11 10, mg 12 0 11 false, ⟨some 13, .sidx (tm 12) (ci (0)), some (11, false)⟩, ⟨some 14, .call .pure 91 [(tm 13)], some (11, false)⟩, ⟨some 15, .un .not (tm 14), some (11, false)⟩, op 16 (.pick (tm 11) (.cst (.bool true)) (tm 15))] [0, 16] none)
 (.cond (tm 16) (.seq (.region none [] [
 op 2 (.mov (.cst (.bool false)))] [2] none)
 (.ret))
 (.skip)))
 (.seq (.seq (.region none [] [
 mv 17 0, op 18 (.len .str (tm 17)), op 19 (.mov (ci (0)))] [0, 18, 19] none)
 (.block 0 (.loop l44_0_h l44_0_b)))
 (.seq (.region none [] [
 op 2 (.mov (.cst (.bool true)))] [2] none)
 (.ret))))

def a44 : AFunc := ⟨1, c44, [.tmp 2]⟩

def an44 : List RAnn := [
 { id := 0, live := [0] },
 { id := 1, live := [0, 16] },
 { id := 2, live := [2] },
 { id := 3, live := [0, 18, 19] },
 { id := 4, live := [0, 18, 19, 20], hdr := [0, 18, 19] },
 { id := 5, live := [0, 3, 18, 19] },
 { id := 6, live := [0, 18, 19, 44] },
 { id := 7, live := [2] },
 { id := 8, live := [0, 18, 19] },
 { id := 9, live := [2] }]

theorem comp44 : compF Tryz.prog an44 Tryz.f44 = some a44 := by kernel_rfl

/- graphdb/graph.Edge -/
/-- loop 0 of function 45 -/
def l45_0_h : List Nat := [1, 4, 9, 10, 11]

def l45_0_b : ACode :=
 .seq (.region none [] [
 op 12 (.bin .lss .int (tm 11) (tm 10))] [1, 4, 9, 10, 11, 12] none)
 (.seq (.cond (tm 12) (.skip)
 (.exit 0))
 (.seq (.block 1 (.seq (.region none [] [
 op 13 (.iaddr 5 (tm 9) (tm 11)), op 14 (.load (some 5) (tm 13)), op 7 (.alloc 5 (.agg [.int .i64 0, .int .i64 0, .int .i64 0, .str [], .sl false []])), ⟨none, .store 5 (tm 7) (tm 14), none⟩] [1, 4, 7, 9, 10, 11] none)
 (.seq (.region none [] [
 op 15 (.faddr 0 (tm 7)), op 16 (.load none (tm 15)), mv 17 1, op 18 (.bin .eql .int (tm 16) (tm 17))] [1, 4, 7, 9, 10, 11, 18] none)
 (.cond (tm 18) (.seq (.region none [] [
 op 19 (.faddr 4 (tm 7)), op 20 (.load none (tm 19)), op 21 (.call .pure 92 [(tm 20)]), op 22 (.faddr 4 (tm 7)), ⟨none, .store 1 (tm 22) (tm 21), none⟩] [4, 7] none)
 (.seq (.region none [] [
 op 23 (.load (some 5) (tm 7)), ⟨none, .store 5 (tm 4) (tm 23), none⟩, op 5 (.mov (.cst (.bool true)))] [4, 5] none)
 (.ret)))
 (.skip)))))
 (.region none [] [
 op 24 (.bin .add .int (tm 11) (ci (1))), mv 11 24] [1, 4, 9, 10, 11] (some 2))))

def c45 : ACode :=
 .seq (.region none [] [
 op 2 (.box 4 (tm 0)), op 4 (.alloc 5 (.agg [.int .i64 0, .int .i64 0, .int .i64 0, .str [], .sl false []])), op 5 (.mov (.cst (.bool false)))] [1, 2, 4] none)
 (.seq (.seq (.region none [] [
 op 8 (.faddr 1 (tm 2)), op 9 (.load none (tm 8)), op 10 (.len .slice (tm 9)), op 11 (.mov (ci (0)))] [1, 4, 9, 10, 11] none)
 (.block 0 (.loop l45_0_h l45_0_b)))
 (.seq (.region none [] [
 op 25 (.build [.int .i64 0, .int .i64 0, .int .i64 0, .str [], .sl false []] []), ⟨none, .store 5 (tm 4) (tm 25), none⟩, op 5 (.mov (.cst (.bool false)))] [4, 5] none)
 (.ret)))

def a45 : AFunc := ⟨2, c45, [.cell 4 (some 5), .tmp 5]⟩

def an45 : List RAnn := [
 { id := 0, live := [1, 2, 4] },
 { id := 1, live := [1, 4, 9, 10, 11] },
 { id := 2, live := [1, 4, 9, 10, 11, 12], hdr := [1, 4, 9, 10, 11] },
 { id := 3, live := [1, 4, 7, 9, 10, 11] },
 { id := 4, live := [1, 4, 7, 9, 10, 11, 18] },
 { id := 5, live := [4, 7] },
 { id := 6, live := [4, 5] },
 { id := 7, live := [1, 4, 9, 10, 11], trunc := some 2 },
 { id := 8, live := [4, 5] }]

theorem comp45 : compF Tryz.prog an45 Tryz.f45 = some a45 := by kernel_rfl

/- graphdb/delta.moved -/
def c46 : ACode :=
 .seq (.region none [] [
 op 2 (.box 5 (tm 0)), op 3 (.box 5 (tm 1)), op 4 (.mov (.cst (.bool false)))] [2, 3] none)
 (.seq (.region none [] [
 op 5 (.faddr 1 (tm 2)), op 6 (.load none (tm 5)), op 7 (.faddr 1 (tm 3)), op 8 (.load none (tm 7)), op 9 (.bin .neq .int (tm 6) (tm 8)), mv 10 9, ⟨some 11, .faddr 2 (tm 2), some (10, false)⟩, ⟨some 12, .load none (tm 11), some (10, false)⟩, ⟨some 13, .faddr 2 (tm 3), some (10, false)⟩, ⟨some 14, .load none (tm 13), some (10, false)⟩, ⟨some 15, .bin .neq .int (tm 12) (tm 14), some (10, false)⟩, op 16 (.pick (tm 10) (.cst (.bool true)) (tm 15)), mv 17 16, ⟨some 18, .faddr 3 (tm 2), some (17, false)⟩, ⟨some 19, .load none (tm 18), some (17, false)⟩, ⟨some 20, .faddr 3 (tm 3), some (17, false)⟩, ⟨some 21, .load none (tm 20), some (17, false)⟩, ⟨some 22, .bin .neq .str (tm 19) (tm 21), some (17, false)⟩, op 23 (.pick (tm 17) (.cst (.bool true)) (tm 22)), mv 4 23] [4] none)
 (.ret))

def a46 : AFunc := ⟨2, c46, [.tmp 4]⟩

def an46 : List RAnn := [
 { id := 0, live := [2, 3] },
 { id := 1, live := [4] }]

theorem comp46 : compF Tryz.prog an46 Tryz.f46 = some a46 := by kernel_rfl

end AI
end Go.Proofs.YtnfdpfeeenmffaaGreatDoor
