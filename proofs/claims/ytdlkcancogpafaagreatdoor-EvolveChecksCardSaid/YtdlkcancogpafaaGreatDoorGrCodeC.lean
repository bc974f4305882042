/- Printed by a program of mine: the functions, compiled; the kernel checks each against the given form. -/
import Derived.Test.YtdlkcancogpafaaGreatDoorSe
import Derived.Test.YtdlkcancogpafaaGreatDoorProg
import Derived.Test.YtdlkcancogpafaaGreatDoorAb
import Derived.KernelRfl
import Derived.Test.YtdlkcancogpafaaGreatDoorIxF
namespace Go.Proofs.YtdlkcancogpafaaGreatDoor
namespace AI
/- graphdb/graphdbref01.In -/
def c169 : ACode :=
 .seq (.region none [] [
 op 2 (.mov (.cst (.bool false)))] [0] none)
 (.seq (.region none [] [
 mv 3 0, op 4 (.bin .geq .int (tm 3) (ci ((-1000000000000000)))), mv 5 4, mg 6 0 5 true, ⟨some 7, .bin .leq .int (tm 6) (ci (1000000000000000)), some (5, true)⟩, op 8 (.pick (tm 5) (tm 7) (.cst (.bool false))), mv 2 8] [2] none)
 (.ret))

def a169 : AFunc := ⟨1, c169, [.tmp 2]⟩

def an169 : List RAnn := [
 { id := 0, live := [0] },
 { id := 1, live := [2] }]

theorem comp169 : compF Tryz.prog an169 Tryz.f169 = some a169 := by kernel_rfl

/- graphdb/graphdbref04.str -/
/-- loop 0 of function 170 -/
def l170_0_h : List Nat := [0, 3]

def l170_0_b : ACode :=
 .seq (.seq (.region none [] [
 mv 4 3, mv 5 0, op 6 (.len .str (tm 5)), op 7 (.bin .lss .int (tm 4) (tm 6))] [0, 3, 7] none)
 (.cond (tm 7) (.skip)
 (.exit 0)))
 (.seq (.block 1 (.seq (.region none [] [
 mv 10 0, mv 11 3, op 12 (.sidx (tm 10) (tm 11)), op 13 (.bin .lss .int (tm 12) (.cst (.int .u8 32))), mv 14 13, mg 15 0 14 false, mg 16 3 14 false, ⟨some 17, .sidx (tm 15) (tm 16), some (14, false)⟩, ⟨some 18, .bin .gtr .int (tm 17) (.cst (.int .u8 126)), some (14, false)⟩, op 19 (.pick (tm 14) (.cst (.bool true)) (tm 18))] [0, 3, 19] none)
 (.cond (tm 19) (.seq (.region none [] [
 op 2 (.mov (.cst (.bool false)))] [2] none)
 (.ret))
 (.skip))))
 (.region none [] [
 mv 8 3, op 9 (.bin .add .int (tm 8) (ci (1))), mv 3 9] [0, 3] none))

def c170 : ACode :=
 .seq (.region none [] [
 op 2 (.mov (.cst (.bool false)))] [0] none)
 (.seq (.seq (.region none [] [
 op 3 (.mov (ci (0)))] [0, 3] none)
 (.block 0 (.loop l170_0_h l170_0_b)))
 (.seq (.region none [] [
 mv 20 0, op 21 (.len .str (tm 20)), op 22 (.bin .leq .int (tm 21) (ci (100))), mv 2 22] [2] none)
 (.ret)))

def a170 : AFunc := ⟨1, c170, [.tmp 2]⟩

def an170 : List RAnn := [
 { id := 0, live := [0] },
 { id := 1, live := [0, 3] },
 { id := 2, live := [0, 3, 7], hdr := [0, 3] },
 { id := 4, live := [0, 3, 19] },
 { id := 5, live := [2] },
 { id := 3, live := [0, 3] },
 { id := 6, live := [2] }]

theorem comp170 : compF Tryz.prog an170 Tryz.f170 = some a170 := by kernel_rfl

/- graphdb/graphdbref04.path -/
/-- loop 0 of function 171 -/
def l171_0_h : List Nat := [0, 3]

def l171_0_b : ACode :=
 .seq (.seq (.region none [] [
 mv 14 3, mv 15 0, op 16 (.len .slice (tm 15)), op 17 (.bin .lss .int (tm 14) (tm 16))] [0, 3, 17] none)
 (.cond (tm 17) (.skip)
 (.exit 0)))
 (.seq (.block 1 (.seq (.region none [] [
 op 4 (.mov (ci (5)))] [0, 3, 4] none)
 (.seq (.seq (.region none [] [
 mv 20 3, op 21 (.bin .rem .int (tm 20) (ci (2))), op 22 (.bin .eql .int (tm 21) (ci (1)))] [0, 3, 4, 22] none)
 (.cond (tm 22) (.region none [] [
 op 4 (.mov (ci (6)))] [0, 3, 4] none)
 (.skip)))
 (.seq (.region none [] [
 mv 23 0, mv 24 3, op 25 (.iaddr 5 (tm 23) (tm 24)), op 26 (.faddr 0 (tm 25)), op 27 (.load none (tm 26)), mv 28 4, op 29 (.bin .neq .int (tm 27) (tm 28)), mv 30 29, mg 31 0 30 false, mg 32 3 30 false, ⟨some 33, .iaddr 5 (tm 31) (tm 32), some (30, false)⟩, ⟨some 34, .load (some 5) (tm 33), some (30, false)⟩, ⟨some 35, .call .pure 140 [(tm 34), (ci (0))], some (30, false)⟩, ⟨some 36, .un .not (tm 35), some (30, false)⟩, op 37 (.pick (tm 30) (.cst (.bool true)) (tm 36))] [0, 3, 37] none)
 (.cond (tm 37) (.seq (.region none [] [
 op 2 (.mov (.cst (.bool false)))] [2] none)
 (.ret))
 (.skip))))))
 (.region none [] [
 mv 18 3, op 19 (.bin .add .int (tm 18) (ci (1))), mv 3 19] [0, 3] none))

def c171 : ACode :=
 .seq (.region none [] [
 op 2 (.mov (.cst (.bool false)))] [0] none)
 (.seq (.seq (.region none [] [
 mv 5 0, op 6 (.len .slice (tm 5)), op 7 (.bin .rem .int (tm 6) (ci (2))), op 8 (.bin .eql .int (tm 7) (ci (0))), mv 9 8, mg 10 0 9 false, ⟨some 11, .len .slice (tm 10), some (9, false)⟩, ⟨some 12, .bin .gtr .int (tm 11) (ci (25)), some (9, false)⟩, op 13 (.pick (tm 9) (.cst (.bool true)) (tm 12))] [0, 13] none)
 (.cond (tm 13) (.seq (.region none [] [
 op 2 (.mov (.cst (.bool false)))] [2] none)
 (.ret))
 (.skip)))
 (.seq (.seq (.region none [] [
 op 3 (.mov (ci (0)))] [0, 3] none)
 (.block 0 (.loop l171_0_h l171_0_b)))
 (.seq (.region none [] [
 op 2 (.mov (.cst (.bool true)))] [2] none)
 (.ret))))

def a171 : AFunc := ⟨1, c171, [.tmp 2]⟩

def an171 : List RAnn := [
 { id := 0, live := [0] },
 { id := 1, live := [0, 13] },
 { id := 2, live := [2] },
 { id := 3, live := [0, 3] },
 { id := 4, live := [0, 3, 17], hdr := [0, 3] },
 { id := 6, live := [0, 3, 4] },
 { id := 7, live := [0, 3, 4, 22] },
 { id := 8, live := [0, 3, 4] },
 { id := 9, live := [0, 3, 37] },
 { id := 10, live := [2] },
 { id := 5, live := [0, 3] },
 { id := 11, live := [2] }]

theorem comp171 : compF Tryz.prog an171 Tryz.f171 = some a171 := by kernel_rfl

/- graphdb/graphdbref04.list -/
/-- loop 0 of function 172 -/
def l172_0_h : List Nat := [0, 1, 5]

def l172_0_b : ACode :=
 .seq (.seq (.region none [] [
 mv 13 5, mv 14 0, op 15 (.len .slice (tm 14)), op 16 (.bin .lss .int (tm 13) (tm 15))] [0, 1, 5, 16] none)
 (.cond (tm 16) (.skip)
 (.exit 0)))
 (.seq (.block 1 (.seq (.region none [] [
 mv 19 0, mv 20 5, op 21 (.iaddr 5 (tm 19) (tm 20)), op 22 (.load (some 5) (tm 21)), mv 23 1, op 24 (.bin .sub .int (tm 23) (ci (1))), op 25 (.call .pure 140 [(tm 22), (tm 24)]), op 26 (.un .not (tm 25))] [0, 1, 5, 26] none)
 (.cond (tm 26) (.seq (.region none [] [
 op 4 (.mov (.cst (.bool false)))] [4] none)
 (.ret))
 (.skip))))
 (.region none [] [
 mv 17 5, op 18 (.bin .add .int (tm 17) (ci (1))), mv 5 18] [0, 1, 5] none))

def c172 : ACode :=
 .seq (.region none [] [
 op 4 (.mov (.cst (.bool false)))] [0, 1] none)
 (.seq (.seq (.region none [] [
 mv 6 1, op 7 (.bin .lss .int (tm 6) (ci (1))), mv 8 7, mg 9 0 8 false, ⟨some 10, .len .slice (tm 9), some (8, false)⟩, ⟨some 11, .bin .gtr .int (tm 10) (ci (64)), some (8, false)⟩, op 12 (.pick (tm 8) (.cst (.bool true)) (tm 11))] [0, 1, 12] none)
 (.cond (tm 12) (.seq (.region none [] [
 op 4 (.mov (.cst (.bool false)))] [4] none)
 (.ret))
 (.skip)))
 (.seq (.seq (.region none [] [
 op 5 (.mov (ci (0)))] [0, 1, 5] none)
 (.block 0 (.loop l172_0_h l172_0_b)))
 (.seq (.region none [] [
 op 4 (.mov (.cst (.bool true)))] [4] none)
 (.ret))))

def a172 : AFunc := ⟨2, c172, [.tmp 4]⟩

def an172 : List RAnn := [
 { id := 0, live := [0, 1] },
 { id := 1, live := [0, 1, 12] },
 { id := 2, live := [4] },
 { id := 3, live := [0, 1, 5] },
 { id := 4, live := [0, 1, 5, 16], hdr := [0, 1, 5] },
 { id := 6, live := [0, 1, 5, 26] },
 { id := 7, live := [4] },
 { id := 5, live := [0, 1, 5] },
 { id := 8, live := [4] }]

theorem comp172 : compF Tryz.prog an172 Tryz.f172 = some a172 := by kernel_rfl

/- slices.insertionSortOrdered[string] -/
/-- loop 0 of function 175 -/
def l175_0_h : List Nat := [0, 1, 2, 6, 7]

def l175_0_b : ACode :=
 .seq (.seq (.region (some 15) [] [
 mv 16 7, mv 17 1, op 18 (.bin .gtr .int (tm 16) (tm 17)), mv 19 18, mg 20 0 19 true, mg 21 7 19 true, ⟨some 22, .iaddr 1 (tm 20) (tm 21), some (19, true)⟩, ⟨some 23, .load none (tm 22), some (19, true)⟩, mg 24 0 19 true, mg 25 7 19 true, ⟨some 26, .bin .sub .int (tm 25) (ci (1)), some (19, true)⟩, ⟨some 27, .iaddr 1 (tm 24) (tm 26), some (19, true)⟩, ⟨some 28, .load none (tm 27), some (19, true)⟩, ⟨some 29, .call .pure 181 [(tm 23), (tm 28)], some (19, true)⟩, op 30 (.pick (tm 19) (tm 29) (.cst (.bool false)))] [0, 1, 2, 6, 7, 30] none)
 (.cond (tm 30) (.skip)
 (.exit 2)))
 (.seq (.block 3 (.par 18 [] [] [
 mv 33 0, mv 34 7, mv 35 0, mv 36 7, op 37 (.bin .sub .int (tm 36) (ci (1))), mv 38 0, mv 39 7, op 40 (.bin .sub .int (tm 39) (ci (1))), op 41 (.iaddr 1 (tm 38) (tm 40)), op 42 (.load none (tm 41)), mv 43 0, mv 44 7, op 45 (.iaddr 1 (tm 43) (tm 44)), op 46 (.load none (tm 45)), op 47 (.iaddr 1 (tm 33) (tm 34)), ⟨none, .store 1 (tm 47) (tm 42), none⟩, op 48 (.iaddr 1 (tm 35) (tm 37)), ⟨none, .store 1 (tm 48) (tm 46), none⟩] [0, 1, 2, 6, 7] none))
 (.region none [] [
 mv 31 7, op 32 (.bin .sub .int (tm 31) (ci (1))), mv 7 32] [0, 1, 2, 6, 7] none))

/-- loop 1 of function 175 -/
def l175_1_h : List Nat := [0, 1, 2, 6]

def l175_1_b : ACode :=
 .seq (.seq (.region none [] [
 mv 10 6, mv 11 2, op 12 (.bin .lss .int (tm 10) (tm 11))] [0, 1, 2, 6, 12] none)
 (.cond (tm 12) (.skip)
 (.exit 0)))
 (.seq (.block 1 (.seq (.region none [] [
 mv 15 6, mv 7 15] [0, 1, 2, 6, 7] none)
 (.block 2 (.loop l175_0_h l175_0_b))))
 (.region none [] [
 mv 13 6, op 14 (.bin .add .int (tm 13) (ci (1))), mv 6 14] [0, 1, 2, 6] none))

def c175 : ACode :=
 .seq (.region none [] [
 mv 8 1, op 9 (.bin .add .int (tm 8) (ci (1))), mv 6 9] [0, 1, 2, 6] none)
 (.block 0 (.loop l175_1_h l175_1_b))

def a175 : AFunc := ⟨3, c175, []⟩

def an175 : List RAnn := [
 { id := 0, live := [0, 1, 2, 6] },
 { id := 1, live := [0, 1, 2, 6, 12], hdr := [0, 1, 2, 6] },
 { id := 3, live := [0, 1, 2, 6, 7] },
 { id := 4, head := some 15, live := [0, 1, 2, 6, 7, 30], hdr := [0, 1, 2, 6, 7] },
 { id := 6, head := some 18, live := [0, 1, 2, 6, 7], par := true },
 { id := 5, live := [0, 1, 2, 6, 7] },
 { id := 2, live := [0, 1, 2, 6] }]

theorem comp175 : compF Tryz.prog an175 Tryz.f175 = some a175 := by kernel_rfl

/- slices.heapSortOrdered[string] -/
/-- loop 0 of function 176 -/
def l176_0_h : List Nat := [0, 6, 7, 8, 9]

def l176_0_b : ACode :=
 .seq (.seq (.region none [] [
 mv 18 9, op 19 (.bin .geq .int (tm 18) (ci (0)))] [0, 6, 7, 8, 9, 19] none)
 (.cond (tm 19) (.skip)
 (.exit 0)))
 (.seq (.block 1 (.region none [] [
 mv 22 0, mv 23 9, mv 24 8, mv 25 6, op 26 (.call .share 195 [(tm 22), (tm 23), (tm 24), (tm 25)])] [0, 6, 7, 8, 9] none))
 (.region none [] [
 mv 20 9, op 21 (.bin .sub .int (tm 20) (ci (1))), mv 9 21] [0, 6, 7, 8, 9] none))

/-- loop 1 of function 176 -/
def l176_1_h : List Nat := [0, 6, 7, 10]

def l176_1_b : ACode :=
 .seq (.seq (.region none [] [
 mv 29 10, op 30 (.bin .geq .int (tm 29) (ci (0)))] [0, 6, 7, 10, 30] none)
 (.cond (tm 30) (.skip)
 (.exit 2)))
 (.seq (.block 3 (.seq (.par 20 [] [] [
 mv 33 0, mv 34 6, mv 35 0, mv 36 6, mv 37 10, op 38 (.bin .add .int (tm 36) (tm 37)), mv 39 0, mv 40 6, mv 41 10, op 42 (.bin .add .int (tm 40) (tm 41)), op 43 (.iaddr 1 (tm 39) (tm 42)), op 44 (.load none (tm 43)), mv 45 0, mv 46 6, op 47 (.iaddr 1 (tm 45) (tm 46)), op 48 (.load none (tm 47)), op 49 (.iaddr 1 (tm 33) (tm 34)), ⟨none, .store 1 (tm 49) (tm 44), none⟩, op 50 (.iaddr 1 (tm 35) (tm 38)), ⟨none, .store 1 (tm 50) (tm 48), none⟩] [0, 6, 7, 10] none)
 (.region none [] [
 mv 51 0, mv 52 7, mv 53 10, mv 54 6, op 55 (.call .share 195 [(tm 51), (tm 52), (tm 53), (tm 54)])] [0, 6, 7, 10] none)))
 (.region none [] [
 mv 31 10, op 32 (.bin .sub .int (tm 31) (ci (1))), mv 10 32] [0, 6, 7, 10] none))

def c176 : ACode :=
 .seq (.region none [] [
 mv 11 1, mv 6 11] [0, 1, 2, 6] none)
 (.seq (.region none [] [
 op 7 (.mov (ci (0)))] [0, 1, 2, 6, 7] none)
 (.seq (.region none [] [
 mv 12 2, mv 13 1, op 14 (.bin .sub .int (tm 12) (tm 13)), mv 8 14] [0, 6, 7, 8] none)
 (.seq (.seq (.region none [] [
 mv 15 8, op 16 (.bin .sub .int (tm 15) (ci (1))), op 17 (.bin .quo .int (tm 16) (ci (2))), mv 9 17] [0, 6, 7, 8, 9] none)
 (.block 0 (.loop l176_0_h l176_0_b)))
 (.seq (.region none [] [
 mv 27 8, op 28 (.bin .sub .int (tm 27) (ci (1))), mv 10 28] [0, 6, 7, 10] none)
 (.block 2 (.loop l176_1_h l176_1_b))))))

def a176 : AFunc := ⟨3, c176, []⟩

def an176 : List RAnn := [
 { id := 0, live := [0, 1, 2, 6] },
 { id := 1, live := [0, 1, 2, 6, 7] },
 { id := 2, live := [0, 6, 7, 8] },
 { id := 3, live := [0, 6, 7, 8, 9] },
 { id := 4, live := [0, 6, 7, 8, 9, 19], hdr := [0, 6, 7, 8, 9] },
 { id := 6, live := [0, 6, 7, 8, 9], ops := [(4, .mode .share)] },
 { id := 5, live := [0, 6, 7, 8, 9] },
 { id := 7, live := [0, 6, 7, 10] },
 { id := 8, live := [0, 6, 7, 10, 30], hdr := [0, 6, 7, 10] },
 { id := 10, head := some 20, live := [0, 6, 7, 10], par := true },
 { id := 11, live := [0, 6, 7, 10], ops := [(4, .mode .share)] },
 { id := 9, live := [0, 6, 7, 10] }]

theorem comp176 : compF Tryz.prog an176 Tryz.f176 = some a176 := by kernel_rfl

/- slices.breakPatternsOrdered[string] -/
/-- loop 0 of function 177 -/
def l177_0_h : List Nat := [0, 1, 6, 7, 8, 9]

def l177_0_b : ACode :=
 .seq (.seq (.region none [] [
 mv 26 9, mv 27 1, mv 28 6, op 29 (.bin .quo .int (tm 28) (ci (4))), op 30 (.bin .mul .int (tm 29) (ci (2))), op 31 (.bin .add .int (tm 27) (tm 30)), op 32 (.bin .add .int (tm 31) (ci (1))), op 33 (.bin .leq .int (tm 26) (tm 32))] [0, 1, 6, 7, 8, 9, 33] none)
 (.cond (tm 33) (.skip)
 (.exit 0)))
 (.seq (.block 1 (.seq (.region none [] [
 op 36 (.call .share 144 [(tm 7)]), mv 37 8, op 38 (.bin .sub .int (tm 37) (.cst (.int .u64 1))), op 39 (.bin .and .int (tm 36) (tm 38)), op 40 (.conv .i64 (tm 39)), mv 10 40] [0, 1, 6, 7, 8, 9, 10] none)
 (.seq (.seq (.region none [] [
 mv 41 10, mv 42 6, op 43 (.bin .geq .int (tm 41) (tm 42))] [0, 1, 6, 7, 8, 9, 10, 43] none)
 (.cond (tm 43) (.region none [] [
 mv 44 10, mv 45 6, op 46 (.bin .sub .int (tm 44) (tm 45)), mv 10 46] [0, 1, 6, 7, 8, 9, 10] none)
 (.skip)))
 (.par 20 [] [] [
 mv 47 0, mv 48 9, mv 49 0, mv 50 1, mv 51 10, op 52 (.bin .add .int (tm 50) (tm 51)), mv 53 0, mv 54 1, mv 55 10, op 56 (.bin .add .int (tm 54) (tm 55)), op 57 (.iaddr 1 (tm 53) (tm 56)), op 58 (.load none (tm 57)), mv 59 0, mv 60 9, op 61 (.iaddr 1 (tm 59) (tm 60)), op 62 (.load none (tm 61)), op 63 (.iaddr 1 (tm 47) (tm 48)), ⟨none, .store 1 (tm 63) (tm 58), none⟩, op 64 (.iaddr 1 (tm 49) (tm 52)), ⟨none, .store 1 (tm 64) (tm 62), none⟩] [0, 1, 6, 7, 8, 9] none))))
 (.region none [] [
 mv 34 9, op 35 (.bin .add .int (tm 34) (ci (1))), mv 9 35] [0, 1, 6, 7, 8, 9] none))

def c177 : ACode :=
 .seq (.region none [] [
 mv 11 2, mv 12 1, op 13 (.bin .sub .int (tm 11) (tm 12)), mv 6 13] [0, 1, 6] none)
 (.seq (.region none [] [
 mv 14 6, op 15 (.bin .geq .int (tm 14) (ci (8)))] [0, 1, 6, 15] none)
 (.cond (tm 15) (.seq (.region none [] [
 mv 16 6, op 17 (.conv .u64 (tm 16)), op 7 (.alloc 1 (.int .u64 0)), ⟨none, .store 1 (tm 7) (tm 17), none⟩] [0, 1, 6, 7] none)
 (.seq (.region none [] [
 mv 18 6, op 19 (.call .pure 143 [(tm 18)]), mv 8 19] [0, 1, 6, 7, 8] none)
 (.seq (.region none [] [
 mv 20 1, mv 21 6, op 22 (.bin .quo .int (tm 21) (ci (4))), op 23 (.bin .mul .int (tm 22) (ci (2))), op 24 (.bin .add .int (tm 20) (tm 23)), op 25 (.bin .sub .int (tm 24) (ci (1))), mv 9 25] [0, 1, 6, 7, 8, 9] none)
 (.block 0 (.loop l177_0_h l177_0_b)))))
 (.skip)))

def a177 : AFunc := ⟨3, c177, []⟩

def an177 : List RAnn := [
 { id := 0, live := [0, 1, 6] },
 { id := 1, live := [0, 1, 6, 15] },
 { id := 2, live := [0, 1, 6, 7] },
 { id := 3, live := [0, 1, 6, 7, 8] },
 { id := 4, live := [0, 1, 6, 7, 8, 9] },
 { id := 5, live := [0, 1, 6, 7, 8, 9, 33], hdr := [0, 1, 6, 7, 8, 9] },
 { id := 7, live := [0, 1, 6, 7, 8, 9, 10], ops := [(0, .mode .share)] },
 { id := 8, live := [0, 1, 6, 7, 8, 9, 10, 43] },
 { id := 9, live := [0, 1, 6, 7, 8, 9, 10] },
 { id := 10, head := some 20, live := [0, 1, 6, 7, 8, 9], par := true },
 { id := 6, live := [0, 1, 6, 7, 8, 9] }]

theorem comp177 : compF Tryz.prog an177 Tryz.f177 = some a177 := by kernel_rfl

/- slices.choosePivotOrdered[string] -/
def c178 : ACode :=
 .seq (.region none [] [
 op 6 (.mov (ci (0))), op 7 (.mov (ci (0)))] [0, 1, 2] none)
 (.seq (.region none [] [
 mv 13 2, mv 14 1, op 15 (.bin .sub .int (tm 13) (tm 14)), mv 8 15] [0, 1, 8] none)
 (.seq (.region none [] [
 op 9 (.alloc 1 (.int .i64 0))] [0, 1, 8, 9] none)
 (.seq (.region none [] [
 mv 16 1, mv 17 8, op 18 (.bin .quo .int (tm 17) (ci (4))), op 19 (.bin .mul .int (tm 18) (ci (1))), op 20 (.bin .add .int (tm 16) (tm 19)), mv 10 20] [0, 1, 8, 9, 10] none)
 (.seq (.region none [] [
 mv 21 1, mv 22 8, op 23 (.bin .quo .int (tm 22) (ci (4))), op 24 (.bin .mul .int (tm 23) (ci (2))), op 25 (.bin .add .int (tm 21) (tm 24)), mv 11 25] [0, 1, 8, 9, 10, 11] none)
 (.seq (.region none [] [
 mv 26 1, mv 27 8, op 28 (.bin .quo .int (tm 27) (ci (4))), op 29 (.bin .mul .int (tm 28) (ci (3))), op 30 (.bin .add .int (tm 26) (tm 29)), mv 12 30] [0, 8, 9, 10, 11, 12] none)
 (.seq (.seq (.region none [] [
 mv 31 8, op 32 (.bin .geq .int (tm 31) (ci (8)))] [0, 8, 9, 10, 11, 12, 32] none)
 (.cond (tm 32) (.seq (.seq (.region none [] [
 mv 33 8, op 34 (.bin .geq .int (tm 33) (ci (50)))] [0, 9, 10, 11, 12, 34] none)
 (.cond (tm 34) (.seq (.region none [] [
 mv 35 0, mv 36 10, op 37 (.call .share 196 [(tm 35), (tm 36), (tm 9)]), mv 10 37] [0, 9, 10, 11, 12] none)
 (.seq (.region none [] [
 mv 38 0, mv 39 11, op 40 (.call .share 196 [(tm 38), (tm 39), (tm 9)]), mv 11 40] [0, 9, 10, 11, 12] none)
 (.region none [] [
 mv 41 0, mv 42 12, op 43 (.call .share 196 [(tm 41), (tm 42), (tm 9)]), mv 12 43] [0, 9, 10, 11, 12] none)))
 (.skip)))
 (.region none [] [
 mv 44 0, mv 45 10, mv 46 11, mv 47 12, op 48 (.call .share 197 [(tm 44), (tm 45), (tm 46), (tm 47), (tm 9)]), mv 11 48] [9, 11] none))
 (.skip)))
 (.seq (.region none [] [
 op 49 (.load none (tm 9))] [11, 49] none)
 (.block 0 (.seq (.region none [] [
 op 52 (.bin .eql .int (tm 49) (ci (0))), mv 51 52] [11, 49, 51] none)
 (.cond (tm 51) (.seq (.region none [] [
 mv 53 11, mv 6 53, op 7 (.mov (ci (1)))] [6, 7] none)
 (.ret))
 (.seq (.region none [] [
 op 55 (.bin .eql .int (tm 49) (ci (12))), mv 54 55] [11, 54] none)
 (.cond (tm 54) (.seq (.region none [] [
 mv 56 11, mv 6 56, op 7 (.mov (ci (2)))] [6, 7] none)
 (.ret))
 (.seq (.region none [] [
 mv 50 11, mv 6 50, op 7 (.mov (ci (0)))] [6, 7] none)
 (.ret))))))))))))))

def a178 : AFunc := ⟨3, c178, [.tmp 6, .tmp 7]⟩

def an178 : List RAnn := [
 { id := 0, live := [0, 1, 2] },
 { id := 1, live := [0, 1, 8] },
 { id := 2, live := [0, 1, 8, 9] },
 { id := 3, live := [0, 1, 8, 9, 10] },
 { id := 4, live := [0, 1, 8, 9, 10, 11] },
 { id := 5, live := [0, 8, 9, 10, 11, 12] },
 { id := 6, live := [0, 8, 9, 10, 11, 12, 32] },
 { id := 7, live := [0, 9, 10, 11, 12, 34] },
 { id := 8, live := [0, 9, 10, 11, 12], ops := [(2, .mode .share)] },
 { id := 9, live := [0, 9, 10, 11, 12], ops := [(2, .mode .share)] },
 { id := 10, live := [0, 9, 10, 11, 12], ops := [(2, .mode .share)] },
 { id := 11, live := [9, 11], ops := [(4, .mode .share)] },
 { id := 12, live := [11, 49] },
 { id := 14, live := [11, 49, 51] },
 { id := 15, live := [6, 7] },
 { id := 16, live := [11, 54] },
 { id := 17, live := [6, 7] },
 { id := 13, live := [6, 7] }]

theorem comp178 : compF Tryz.prog an178 Tryz.f178 = some a178 := by kernel_rfl

/- slices.reverseRangeOrdered[string] -/
/-- loop 0 of function 179 -/
def l179_0_h : List Nat := [0, 6, 7]

def l179_0_b : ACode :=
 .seq (.seq (.region none [] [
 mv 11 6, mv 12 7, op 13 (.bin .lss .int (tm 11) (tm 12))] [0, 6, 7, 13] none)
 (.cond (tm 13) (.skip)
 (.exit 0)))
 (.block 1 (.seq (.par 16 [] [] [
 mv 14 0, mv 15 6, mv 16 0, mv 17 7, mv 18 0, mv 19 7, op 20 (.iaddr 1 (tm 18) (tm 19)), op 21 (.load none (tm 20)), mv 22 0, mv 23 6, op 24 (.iaddr 1 (tm 22) (tm 23)), op 25 (.load none (tm 24)), op 26 (.iaddr 1 (tm 14) (tm 15)), ⟨none, .store 1 (tm 26) (tm 21), none⟩, op 27 (.iaddr 1 (tm 16) (tm 17)), ⟨none, .store 1 (tm 27) (tm 25), none⟩] [0, 6, 7] none)
 (.seq (.region none [] [
 mv 28 6, op 29 (.bin .add .int (tm 28) (ci (1))), mv 6 29] [0, 6, 7] none)
 (.region none [] [
 mv 30 7, op 31 (.bin .sub .int (tm 30) (ci (1))), mv 7 31] [0, 6, 7] none))))

def c179 : ACode :=
 .seq (.region none [] [
 mv 8 1, mv 6 8] [0, 2, 6] none)
 (.seq (.region none [] [
 mv 9 2, op 10 (.bin .sub .int (tm 9) (ci (1))), mv 7 10] [0, 6, 7] none)
 (.block 0 (.loop l179_0_h l179_0_b)))

def a179 : AFunc := ⟨3, c179, []⟩

def an179 : List RAnn := [
 { id := 0, live := [0, 2, 6] },
 { id := 1, live := [0, 6, 7] },
 { id := 2, live := [0, 6, 7, 13], hdr := [0, 6, 7] },
 { id := 3, head := some 16, live := [0, 6, 7], par := true },
 { id := 4, live := [0, 6, 7] },
 { id := 5, live := [0, 6, 7] }]

theorem comp179 : compF Tryz.prog an179 Tryz.f179 = some a179 := by kernel_rfl

/- slices.partialInsertionSortOrdered[string] -/
/-- loop 0 of function 180 -/
def l180_0_h : List Nat := [0, 1, 2, 7, 8]

def l180_0_b : ACode :=
 .seq (.seq (.region (some 16) [] [
 mv 17 7, mv 18 2, op 19 (.bin .lss .int (tm 17) (tm 18)), mv 20 19, mg 21 0 20 true, mg 22 7 20 true, ⟨some 23, .iaddr 1 (tm 21) (tm 22), some (20, true)⟩, ⟨some 24, .load none (tm 23), some (20, true)⟩, mg 25 0 20 true, mg 26 7 20 true, ⟨some 27, .bin .sub .int (tm 26) (ci (1)), some (20, true)⟩, ⟨some 28, .iaddr 1 (tm 25) (tm 27), some (20, true)⟩, ⟨some 29, .load none (tm 28), some (20, true)⟩, ⟨some 30, .call .pure 181 [(tm 24), (tm 29)], some (20, true)⟩, ⟨some 31, .un .not (tm 30), some (20, true)⟩, op 32 (.pick (tm 20) (tm 31) (.cst (.bool false)))] [0, 1, 2, 7, 8, 32] none)
 (.cond (tm 32) (.skip)
 (.exit 2)))
 (.block 3 (.region none [] [
 mv 33 7, op 34 (.bin .add .int (tm 33) (ci (1))), mv 7 34] [0, 1, 2, 7, 8] none))

/-- loop 1 of function 180 -/
def l180_1_h : List Nat := [0, 1, 2, 7, 8, 9]

def l180_1_b : ACode :=
 .seq (.seq (.region none [] [
 mv 64 9, op 65 (.bin .geq .int (tm 64) (ci (1)))] [0, 1, 2, 7, 8, 9, 65] none)
 (.cond (tm 65) (.skip)
 (.exit 4)))
 (.seq (.block 5 (.seq (.seq (.region (some 11) [] [
 mv 68 0, mv 69 9, op 70 (.iaddr 1 (tm 68) (tm 69)), op 71 (.load none (tm 70)), mv 72 0, mv 73 9, op 74 (.bin .sub .int (tm 73) (ci (1))), op 75 (.iaddr 1 (tm 72) (tm 74)), op 76 (.load none (tm 75)), op 77 (.call .pure 181 [(tm 71), (tm 76)]), op 78 (.un .not (tm 77))] [0, 1, 2, 7, 8, 9, 78] none)
 (.cond (tm 78) (.exit 4)
 (.skip)))
 (.par 18 [] [] [
 mv 79 0, mv 80 9, mv 81 0, mv 82 9, op 83 (.bin .sub .int (tm 82) (ci (1))), mv 84 0, mv 85 9, op 86 (.bin .sub .int (tm 85) (ci (1))), op 87 (.iaddr 1 (tm 84) (tm 86)), op 88 (.load none (tm 87)), mv 89 0, mv 90 9, op 91 (.iaddr 1 (tm 89) (tm 90)), op 92 (.load none (tm 91)), op 93 (.iaddr 1 (tm 79) (tm 80)), ⟨none, .store 1 (tm 93) (tm 88), none⟩, op 94 (.iaddr 1 (tm 81) (tm 83)), ⟨none, .store 1 (tm 94) (tm 92), none⟩] [0, 1, 2, 7, 8, 9] none)))
 (.region none [] [
 mv 66 9, op 67 (.bin .sub .int (tm 66) (ci (1))), mv 9 67] [0, 1, 2, 7, 8, 9] none))

/-- loop 2 of function 180 -/
def l180_2_h : List Nat := [0, 1, 2, 7, 8, 10]

def l180_2_b : ACode :=
 .seq (.seq (.region none [] [
 mv 101 10, mv 102 2, op 103 (.bin .lss .int (tm 101) (tm 102))] [0, 1, 2, 7, 8, 10, 103] none)
 (.cond (tm 103) (.skip)
 (.exit 6)))
 (.seq (.block 7 (.seq (.seq (.region (some 11) [] [
 mv 106 0, mv 107 10, op 108 (.iaddr 1 (tm 106) (tm 107)), op 109 (.load none (tm 108)), mv 110 0, mv 111 10, op 112 (.bin .sub .int (tm 111) (ci (1))), op 113 (.iaddr 1 (tm 110) (tm 112)), op 114 (.load none (tm 113)), op 115 (.call .pure 181 [(tm 109), (tm 114)]), op 116 (.un .not (tm 115))] [0, 1, 2, 7, 8, 10, 116] none)
 (.cond (tm 116) (.exit 6)
 (.skip)))
 (.par 18 [] [] [
 mv 117 0, mv 118 10, mv 119 0, mv 120 10, op 121 (.bin .sub .int (tm 120) (ci (1))), mv 122 0, mv 123 10, op 124 (.bin .sub .int (tm 123) (ci (1))), op 125 (.iaddr 1 (tm 122) (tm 124)), op 126 (.load none (tm 125)), mv 127 0, mv 128 10, op 129 (.iaddr 1 (tm 127) (tm 128)), op 130 (.load none (tm 129)), op 131 (.iaddr 1 (tm 117) (tm 118)), ⟨none, .store 1 (tm 131) (tm 126), none⟩, op 132 (.iaddr 1 (tm 119) (tm 121)), ⟨none, .store 1 (tm 132) (tm 130), none⟩] [0, 1, 2, 7, 8, 10] none)))
 (.region none [] [
 mv 104 10, op 105 (.bin .add .int (tm 104) (ci (1))), mv 10 105] [0, 1, 2, 7, 8, 10] none))

/-- loop 3 of function 180 -/
def l180_3_h : List Nat := [0, 1, 2, 7, 8]

def l180_3_b : ACode :=
 .seq (.seq (.region none [] [
 mv 13 8, op 14 (.bin .lss .int (tm 13) (ci (5)))] [0, 1, 2, 7, 8, 14] none)
 (.cond (tm 14) (.skip)
 (.exit 0)))
 (.seq (.block 1 (.seq (.block 2 (.loop l180_0_h l180_0_b))
 (.seq (.seq (.region none [] [
 mv 35 7, mv 36 2, op 37 (.bin .eql .int (tm 35) (tm 36))] [0, 1, 2, 7, 8, 37] none)
 (.cond (tm 37) (.seq (.region none [] [
 op 6 (.mov (.cst (.bool true)))] [6] none)
 (.ret))
 (.skip)))
 (.seq (.seq (.region none [] [
 mv 38 2, mv 39 1, op 40 (.bin .sub .int (tm 38) (tm 39)), op 41 (.bin .lss .int (tm 40) (ci (50)))] [0, 1, 2, 7, 8, 41] none)
 (.cond (tm 41) (.seq (.region none [] [
 op 6 (.mov (.cst (.bool false)))] [6] none)
 (.ret))
 (.skip)))
 (.seq (.par 18 [] [] [
 mv 42 0, mv 43 7, mv 44 0, mv 45 7, op 46 (.bin .sub .int (tm 45) (ci (1))), mv 47 0, mv 48 7, op 49 (.bin .sub .int (tm 48) (ci (1))), op 50 (.iaddr 1 (tm 47) (tm 49)), op 51 (.load none (tm 50)), mv 52 0, mv 53 7, op 54 (.iaddr 1 (tm 52) (tm 53)), op 55 (.load none (tm 54)), op 56 (.iaddr 1 (tm 42) (tm 43)), ⟨none, .store 1 (tm 56) (tm 51), none⟩, op 57 (.iaddr 1 (tm 44) (tm 46)), ⟨none, .store 1 (tm 57) (tm 55), none⟩] [0, 1, 2, 7, 8] none)
 (.seq (.seq (.region none [] [
 mv 58 7, mv 59 1, op 60 (.bin .sub .int (tm 58) (tm 59)), op 61 (.bin .geq .int (tm 60) (ci (2)))] [0, 1, 2, 7, 8, 61] none)
 (.cond (tm 61) (.seq (.region none [] [
 mv 62 7, op 63 (.bin .sub .int (tm 62) (ci (1))), mv 9 63] [0, 1, 2, 7, 8, 9] none)
 (.block 4 (.loop l180_1_h l180_1_b)))
 (.skip)))
 (.seq (.region none [] [
 mv 95 2, mv 96 7, op 97 (.bin .sub .int (tm 95) (tm 96)), op 98 (.bin .geq .int (tm 97) (ci (2)))] [0, 1, 2, 7, 8, 98] none)
 (.cond (tm 98) (.seq (.region none [] [
 mv 99 7, op 100 (.bin .add .int (tm 99) (ci (1))), mv 10 100] [0, 1, 2, 7, 8, 10] none)
 (.block 6 (.loop l180_2_h l180_2_b)))
 (.skip)))))))))
 (.region none [] [
 mv 15 8, op 16 (.bin .add .int (tm 15) (ci (1))), mv 8 16] [0, 1, 2, 7, 8] none))

def c180 : ACode :=
 .seq (.region none [] [
 op 6 (.mov (.cst (.bool false)))] [0, 1, 2] none)
 (.seq (.region none [] [
 mv 11 1, op 12 (.bin .add .int (tm 11) (ci (1))), mv 7 12] [0, 1, 2, 7] none)
 (.seq (.seq (.region none [] [
 op 8 (.mov (ci (0)))] [0, 1, 2, 7, 8] none)
 (.block 0 (.loop l180_3_h l180_3_b)))
 (.seq (.region none [] [
 op 6 (.mov (.cst (.bool false)))] [6] none)
 (.ret))))

def a180 : AFunc := ⟨3, c180, [.tmp 6]⟩

def an180 : List RAnn := [
 { id := 0, live := [0, 1, 2] },
 { id := 1, live := [0, 1, 2, 7] },
 { id := 2, live := [0, 1, 2, 7, 8] },
 { id := 3, live := [0, 1, 2, 7, 8, 14], hdr := [0, 1, 2, 7, 8] },
 { id := 5, head := some 16, live := [0, 1, 2, 7, 8, 32], hdr := [0, 1, 2, 7, 8] },
 { id := 6, live := [0, 1, 2, 7, 8] },
 { id := 7, live := [0, 1, 2, 7, 8, 37] },
 { id := 8, live := [6] },
 { id := 9, live := [0, 1, 2, 7, 8, 41] },
 { id := 10, live := [6] },
 { id := 11, head := some 18, live := [0, 1, 2, 7, 8], par := true },
 { id := 12, live := [0, 1, 2, 7, 8, 61] },
 { id := 13, live := [0, 1, 2, 7, 8, 9] },
 { id := 14, live := [0, 1, 2, 7, 8, 9, 65], hdr := [0, 1, 2, 7, 8, 9] },
 { id := 16, head := some 11, live := [0, 1, 2, 7, 8, 9, 78] },
 { id := 17, head := some 18, live := [0, 1, 2, 7, 8, 9], par := true },
 { id := 15, live := [0, 1, 2, 7, 8, 9] },
 { id := 18, live := [0, 1, 2, 7, 8, 98] },
 { id := 19, live := [0, 1, 2, 7, 8, 10] },
 { id := 20, live := [0, 1, 2, 7, 8, 10, 103], hdr := [0, 1, 2, 7, 8, 10] },
 { id := 22, head := some 11, live := [0, 1, 2, 7, 8, 10, 116] },
 { id := 23, head := some 18, live := [0, 1, 2, 7, 8, 10], par := true },
 { id := 21, live := [0, 1, 2, 7, 8, 10] },
 { id := 4, live := [0, 1, 2, 7, 8] },
 { id := 24, live := [6] }]

theorem comp180 : compF Tryz.prog an180 Tryz.f180 = some a180 := by kernel_rfl

/- cmp.Less[string] -/
def c181 : ACode :=
 .seq (.region none [] [
 op 4 (.mov (.cst (.bool false)))] [0, 1] none)
 (.seq (.region none [] [
 mv 5 0, op 6 (.call .pure 115 [(tm 5)]), mv 7 6, mg 8 1 7 true, ⟨some 9, .call .pure 115 [(tm 8)], some (7, true)⟩, ⟨some 10, .un .not (tm 9), some (7, true)⟩, op 11 (.pick (tm 7) (tm 10) (.cst (.bool false))), mv 12 11, mg 13 0 12 false, mg 14 1 12 false, ⟨some 15, .bin .lss .str (tm 13) (tm 14), some (12, false)⟩, op 16 (.pick (tm 12) (.cst (.bool true)) (tm 15)), mv 4 16] [4] none)
 (.ret))

def a181 : AFunc := ⟨2, c181, [.tmp 4]⟩

def an181 : List RAnn := [
 { id := 0, live := [0, 1] },
 { id := 1, live := [4] }]

theorem comp181 : compF Tryz.prog an181 Tryz.f181 = some a181 := by kernel_rfl

/- slices.partitionEqualOrdered[string] -/
/-- loop 0 of function 182 -/
def l182_0_h : List Nat := [0, 1, 9, 10]

def l182_0_b : ACode :=
 .seq (.seq (.region (some 15) [] [
 mv 29 9, mv 30 10, op 31 (.bin .leq .int (tm 29) (tm 30)), mv 32 31, mg 33 0 32 true, mg 34 1 32 true, ⟨some 35, .iaddr 1 (tm 33) (tm 34), some (32, true)⟩, ⟨some 36, .load none (tm 35), some (32, true)⟩, mg 37 0 32 true, mg 38 9 32 true, ⟨some 39, .iaddr 1 (tm 37) (tm 38), some (32, true)⟩, ⟨some 40, .load none (tm 39), some (32, true)⟩, ⟨some 41, .call .pure 181 [(tm 36), (tm 40)], some (32, true)⟩, ⟨some 42, .un .not (tm 41), some (32, true)⟩, op 43 (.pick (tm 32) (tm 42) (.cst (.bool false)))] [0, 1, 9, 10, 43] none)
 (.cond (tm 43) (.skip)
 (.exit 2)))
 (.block 3 (.region none [] [
 mv 44 9, op 45 (.bin .add .int (tm 44) (ci (1))), mv 9 45] [0, 1, 9, 10] none))

/-- loop 1 of function 182 -/
def l182_1_h : List Nat := [0, 1, 9, 10]

def l182_1_b : ACode :=
 .seq (.seq (.region (some 14) [] [
 mv 46 9, mv 47 10, op 48 (.bin .leq .int (tm 46) (tm 47)), mv 49 48, mg 50 0 49 true, mg 51 1 49 true, ⟨some 52, .iaddr 1 (tm 50) (tm 51), some (49, true)⟩, ⟨some 53, .load none (tm 52), some (49, true)⟩, mg 54 0 49 true, mg 55 10 49 true, ⟨some 56, .iaddr 1 (tm 54) (tm 55), some (49, true)⟩, ⟨some 57, .load none (tm 56), some (49, true)⟩, ⟨some 58, .call .pure 181 [(tm 53), (tm 57)], some (49, true)⟩, op 59 (.pick (tm 49) (tm 58) (.cst (.bool false)))] [0, 1, 9, 10, 59] none)
 (.cond (tm 59) (.skip)
 (.exit 4)))
 (.block 5 (.region none [] [
 mv 60 10, op 61 (.bin .sub .int (tm 60) (ci (1))), mv 10 61] [0, 1, 9, 10] none))

/-- loop 2 of function 182 -/
def l182_2_h : List Nat := [0, 1, 9, 10]

def l182_2_b : ACode :=
 .block 1 (.seq (.block 2 (.loop l182_0_h l182_0_b))
 (.seq (.block 4 (.loop l182_1_h l182_1_b))
 (.seq (.seq (.region none [] [
 mv 62 9, mv 63 10, op 64 (.bin .gtr .int (tm 62) (tm 63))] [0, 1, 9, 10, 64] none)
 (.cond (tm 64) (.exit 0)
 (.skip)))
 (.seq (.par 16 [] [] [
 mv 65 0, mv 66 9, mv 67 0, mv 68 10, mv 69 0, mv 70 10, op 71 (.iaddr 1 (tm 69) (tm 70)), op 72 (.load none (tm 71)), mv 73 0, mv 74 9, op 75 (.iaddr 1 (tm 73) (tm 74)), op 76 (.load none (tm 75)), op 77 (.iaddr 1 (tm 65) (tm 66)), ⟨none, .store 1 (tm 77) (tm 72), none⟩, op 78 (.iaddr 1 (tm 67) (tm 68)), ⟨none, .store 1 (tm 78) (tm 76), none⟩] [0, 1, 9, 10] none)
 (.seq (.region none [] [
 mv 79 9, op 80 (.bin .add .int (tm 79) (ci (1))), mv 9 80] [0, 1, 9, 10] none)
 (.region none [] [
 mv 81 10, op 82 (.bin .sub .int (tm 81) (ci (1))), mv 10 82] [0, 1, 9, 10] none))))))

def c182 : ACode :=
 .seq (.region none [] [
 op 8 (.mov (ci (0)))] [0, 1, 2, 3] none)
 (.seq (.par 16 [] [] [
 mv 11 0, mv 12 1, mv 13 0, mv 14 3, mv 15 0, mv 16 3, op 17 (.iaddr 1 (tm 15) (tm 16)), op 18 (.load none (tm 17)), mv 19 0, mv 20 1, op 21 (.iaddr 1 (tm 19) (tm 20)), op 22 (.load none (tm 21)), op 23 (.iaddr 1 (tm 11) (tm 12)), ⟨none, .store 1 (tm 23) (tm 18), none⟩, op 24 (.iaddr 1 (tm 13) (tm 14)), ⟨none, .store 1 (tm 24) (tm 22), none⟩] [0, 1, 2] none)
 (.seq (.region none [] [
 mv 25 1, op 26 (.bin .add .int (tm 25) (ci (1))), mv 27 2, op 28 (.bin .sub .int (tm 27) (ci (1))), mv 9 26, mv 10 28] [0, 1, 9, 10] none)
 (.seq (.block 0 (.loop l182_2_h l182_2_b))
 (.seq (.region none [] [
 mv 83 9, mv 8 83] [8] none)
 (.ret)))))

def a182 : AFunc := ⟨4, c182, [.tmp 8]⟩

def an182 : List RAnn := [
 { id := 0, live := [0, 1, 2, 3] },
 { id := 1, head := some 16, live := [0, 1, 2], par := true },
 { id := 2, live := [0, 1, 9, 10] },
 { id := 3, head := some 15, live := [0, 1, 9, 10, 43], hdr := [0, 1, 9, 10] },
 { id := 4, live := [0, 1, 9, 10] },
 { id := 5, head := some 14, live := [0, 1, 9, 10, 59], hdr := [0, 1, 9, 10] },
 { id := 6, live := [0, 1, 9, 10] },
 { id := 7, live := [0, 1, 9, 10, 64] },
 { id := 8, head := some 16, live := [0, 1, 9, 10], par := true },
 { id := 9, live := [0, 1, 9, 10] },
 { id := 10, live := [0, 1, 9, 10] },
 { id := 11, live := [8] }]

theorem comp182 : compF Tryz.prog an182 Tryz.f182 = some a182 := by kernel_rfl

/- slices.partitionOrdered[string] -/
/-- loop 0 of function 183 -/
def l183_0_h : List Nat := [0, 1, 10, 11]

def l183_0_b : ACode :=
 .seq (.seq (.region (some 14) [] [
 mv 30 10, mv 31 11, op 32 (.bin .leq .int (tm 30) (tm 31)), mv 33 32, mg 34 0 33 true, mg 35 10 33 true, ⟨some 36, .iaddr 1 (tm 34) (tm 35), some (33, true)⟩, ⟨some 37, .load none (tm 36), some (33, true)⟩, mg 38 0 33 true, mg 39 1 33 true, ⟨some 40, .iaddr 1 (tm 38) (tm 39), some (33, true)⟩, ⟨some 41, .load none (tm 40), some (33, true)⟩, ⟨some 42, .call .pure 181 [(tm 37), (tm 41)], some (33, true)⟩, op 43 (.pick (tm 33) (tm 42) (.cst (.bool false)))] [0, 1, 10, 11, 43] none)
 (.cond (tm 43) (.skip)
 (.exit 0)))
 (.block 1 (.region none [] [
 mv 44 10, op 45 (.bin .add .int (tm 44) (ci (1))), mv 10 45] [0, 1, 10, 11] none))

/-- loop 1 of function 183 -/
def l183_1_h : List Nat := [0, 1, 10, 11]

def l183_1_b : ACode :=
 .seq (.seq (.region (some 15) [] [
 mv 46 10, mv 47 11, op 48 (.bin .leq .int (tm 46) (tm 47)), mv 49 48, mg 50 0 49 true, mg 51 11 49 true, ⟨some 52, .iaddr 1 (tm 50) (tm 51), some (49, true)⟩, ⟨some 53, .load none (tm 52), some (49, true)⟩, mg 54 0 49 true, mg 55 1 49 true, ⟨some 56, .iaddr 1 (tm 54) (tm 55), some (49, true)⟩, ⟨some 57, .load none (tm 56), some (49, true)⟩, ⟨some 58, .call .pure 181 [(tm 53), (tm 57)], some (49, true)⟩, ⟨some 59, .un .not (tm 58), some (49, true)⟩, op 60 (.pick (tm 49) (tm 59) (.cst (.bool false)))] [0, 1, 10, 11, 60] none)
 (.cond (tm 60) (.skip)
 (.exit 2)))
 (.block 3 (.region none [] [
 mv 61 11, op 62 (.bin .sub .int (tm 61) (ci (1))), mv 11 62] [0, 1, 10, 11] none))

/-- loop 2 of function 183 -/
def l183_2_h : List Nat := [0, 1, 10, 11]

def l183_2_b : ACode :=
 .seq (.seq (.region (some 14) [] [
 mv 99 10, mv 100 11, op 101 (.bin .leq .int (tm 99) (tm 100)), mv 102 101, mg 103 0 102 true, mg 104 10 102 true, ⟨some 105, .iaddr 1 (tm 103) (tm 104), some (102, true)⟩, ⟨some 106, .load none (tm 105), some (102, true)⟩, mg 107 0 102 true, mg 108 1 102 true, ⟨some 109, .iaddr 1 (tm 107) (tm 108), some (102, true)⟩, ⟨some 110, .load none (tm 109), some (102, true)⟩, ⟨some 111, .call .pure 181 [(tm 106), (tm 110)], some (102, true)⟩, op 112 (.pick (tm 102) (tm 111) (.cst (.bool false)))] [0, 1, 10, 11, 112] none)
 (.cond (tm 112) (.skip)
 (.exit 6)))
 (.block 7 (.region none [] [
 mv 113 10, op 114 (.bin .add .int (tm 113) (ci (1))), mv 10 114] [0, 1, 10, 11] none))

/-- loop 3 of function 183 -/
def l183_3_h : List Nat := [0, 1, 10, 11]

def l183_3_b : ACode :=
 .seq (.seq (.region (some 15) [] [
 mv 115 10, mv 116 11, op 117 (.bin .leq .int (tm 115) (tm 116)), mv 118 117, mg 119 0 118 true, mg 120 11 118 true, ⟨some 121, .iaddr 1 (tm 119) (tm 120), some (118, true)⟩, ⟨some 122, .load none (tm 121), some (118, true)⟩, mg 123 0 118 true, mg 124 1 118 true, ⟨some 125, .iaddr 1 (tm 123) (tm 124), some (118, true)⟩, ⟨some 126, .load none (tm 125), some (118, true)⟩, ⟨some 127, .call .pure 181 [(tm 122), (tm 126)], some (118, true)⟩, ⟨some 128, .un .not (tm 127), some (118, true)⟩, op 129 (.pick (tm 118) (tm 128) (.cst (.bool false)))] [0, 1, 10, 11, 129] none)
 (.cond (tm 129) (.skip)
 (.exit 8)))
 (.block 9 (.region none [] [
 mv 130 11, op 131 (.bin .sub .int (tm 130) (ci (1))), mv 11 131] [0, 1, 10, 11] none))

/-- loop 4 of function 183 -/
def l183_4_h : List Nat := [0, 1, 10, 11]

def l183_4_b : ACode :=
 .block 5 (.seq (.block 6 (.loop l183_2_h l183_2_b))
 (.seq (.block 8 (.loop l183_3_h l183_3_b))
 (.seq (.seq (.region none [] [
 mv 132 10, mv 133 11, op 134 (.bin .gtr .int (tm 132) (tm 133))] [0, 1, 10, 11, 134] none)
 (.cond (tm 134) (.exit 4)
 (.skip)))
 (.seq (.par 16 [] [] [
 mv 135 0, mv 136 10, mv 137 0, mv 138 11, mv 139 0, mv 140 11, op 141 (.iaddr 1 (tm 139) (tm 140)), op 142 (.load none (tm 141)), mv 143 0, mv 144 10, op 145 (.iaddr 1 (tm 143) (tm 144)), op 146 (.load none (tm 145)), op 147 (.iaddr 1 (tm 135) (tm 136)), ⟨none, .store 1 (tm 147) (tm 142), none⟩, op 148 (.iaddr 1 (tm 137) (tm 138)), ⟨none, .store 1 (tm 148) (tm 146), none⟩] [0, 1, 10, 11] none)
 (.seq (.region none [] [
 mv 149 10, op 150 (.bin .add .int (tm 149) (ci (1))), mv 10 150] [0, 1, 10, 11] none)
 (.region none [] [
 mv 151 11, op 152 (.bin .sub .int (tm 151) (ci (1))), mv 11 152] [0, 1, 10, 11] none))))))

def c183 : ACode :=
 .seq (.region none [] [
 op 8 (.mov (ci (0))), op 9 (.mov (.cst (.bool false)))] [0, 1, 2, 3] none)
 (.seq (.par 16 [] [] [
 mv 12 0, mv 13 1, mv 14 0, mv 15 3, mv 16 0, mv 17 3, op 18 (.iaddr 1 (tm 16) (tm 17)), op 19 (.load none (tm 18)), mv 20 0, mv 21 1, op 22 (.iaddr 1 (tm 20) (tm 21)), op 23 (.load none (tm 22)), op 24 (.iaddr 1 (tm 12) (tm 13)), ⟨none, .store 1 (tm 24) (tm 19), none⟩, op 25 (.iaddr 1 (tm 14) (tm 15)), ⟨none, .store 1 (tm 25) (tm 23), none⟩] [0, 1, 2] none)
 (.seq (.region none [] [
 mv 26 1, op 27 (.bin .add .int (tm 26) (ci (1))), mv 28 2, op 29 (.bin .sub .int (tm 28) (ci (1))), mv 10 27, mv 11 29] [0, 1, 10, 11] none)
 (.seq (.block 0 (.loop l183_0_h l183_0_b))
 (.seq (.block 2 (.loop l183_1_h l183_1_b))
 (.seq (.seq (.region none [] [
 mv 63 10, mv 64 11, op 65 (.bin .gtr .int (tm 63) (tm 64))] [0, 1, 10, 11, 65] none)
 (.cond (tm 65) (.seq (.par 16 [] [] [
 mv 66 0, mv 67 11, mv 68 0, mv 69 1, mv 70 0, mv 71 1, op 72 (.iaddr 1 (tm 70) (tm 71)), op 73 (.load none (tm 72)), mv 74 0, mv 75 11, op 76 (.iaddr 1 (tm 74) (tm 75)), op 77 (.load none (tm 76)), op 78 (.iaddr 1 (tm 66) (tm 67)), ⟨none, .store 1 (tm 78) (tm 73), none⟩, op 79 (.iaddr 1 (tm 68) (tm 69)), ⟨none, .store 1 (tm 79) (tm 77), none⟩] [11] none)
 (.seq (.region none [] [
 mv 80 11, mv 8 80, op 9 (.mov (.cst (.bool true)))] [8, 9] none)
 (.ret)))
 (.skip)))
 (.seq (.par 16 [] [] [
 mv 81 0, mv 82 10, mv 83 0, mv 84 11, mv 85 0, mv 86 11, op 87 (.iaddr 1 (tm 85) (tm 86)), op 88 (.load none (tm 87)), mv 89 0, mv 90 10, op 91 (.iaddr 1 (tm 89) (tm 90)), op 92 (.load none (tm 91)), op 93 (.iaddr 1 (tm 81) (tm 82)), ⟨none, .store 1 (tm 93) (tm 88), none⟩, op 94 (.iaddr 1 (tm 83) (tm 84)), ⟨none, .store 1 (tm 94) (tm 92), none⟩] [0, 1, 10, 11] none)
 (.seq (.region none [] [
 mv 95 10, op 96 (.bin .add .int (tm 95) (ci (1))), mv 10 96] [0, 1, 10, 11] none)
 (.seq (.region none [] [
 mv 97 11, op 98 (.bin .sub .int (tm 97) (ci (1))), mv 11 98] [0, 1, 10, 11] none)
 (.seq (.block 4 (.loop l183_4_h l183_4_b))
 (.seq (.par 16 [] [] [
 mv 153 0, mv 154 11, mv 155 0, mv 156 1, mv 157 0, mv 158 1, op 159 (.iaddr 1 (tm 157) (tm 158)), op 160 (.load none (tm 159)), mv 161 0, mv 162 11, op 163 (.iaddr 1 (tm 161) (tm 162)), op 164 (.load none (tm 163)), op 165 (.iaddr 1 (tm 153) (tm 154)), ⟨none, .store 1 (tm 165) (tm 160), none⟩, op 166 (.iaddr 1 (tm 155) (tm 156)), ⟨none, .store 1 (tm 166) (tm 164), none⟩] [11] none)
 (.seq (.region none [] [
 mv 167 11, mv 8 167, op 9 (.mov (.cst (.bool false)))] [8, 9] none)
 (.ret))))))))))))

def a183 : AFunc := ⟨4, c183, [.tmp 8, .tmp 9]⟩

def an183 : List RAnn := [
 { id := 0, live := [0, 1, 2, 3] },
 { id := 1, head := some 16, live := [0, 1, 2], par := true },
 { id := 2, live := [0, 1, 10, 11] },
 { id := 3, head := some 14, live := [0, 1, 10, 11, 43], hdr := [0, 1, 10, 11] },
 { id := 4, live := [0, 1, 10, 11] },
 { id := 5, head := some 15, live := [0, 1, 10, 11, 60], hdr := [0, 1, 10, 11] },
 { id := 6, live := [0, 1, 10, 11] },
 { id := 7, live := [0, 1, 10, 11, 65] },
 { id := 8, head := some 16, live := [11], par := true },
 { id := 9, live := [8, 9] },
 { id := 10, head := some 16, live := [0, 1, 10, 11], par := true },
 { id := 11, live := [0, 1, 10, 11] },
 { id := 12, live := [0, 1, 10, 11] },
 { id := 13, head := some 14, live := [0, 1, 10, 11, 112], hdr := [0, 1, 10, 11] },
 { id := 14, live := [0, 1, 10, 11] },
 { id := 15, head := some 15, live := [0, 1, 10, 11, 129], hdr := [0, 1, 10, 11] },
 { id := 16, live := [0, 1, 10, 11] },
 { id := 17, live := [0, 1, 10, 11, 134] },
 { id := 18, head := some 16, live := [0, 1, 10, 11], par := true },
 { id := 19, live := [0, 1, 10, 11] },
 { id := 20, live := [0, 1, 10, 11] },
 { id := 21, head := some 16, live := [11], par := true },
 { id := 22, live := [8, 9] }]

theorem comp183 : compF Tryz.prog an183 Tryz.f183 = some a183 := by kernel_rfl

/- graphdb/num.Gcd -/
/-- loop 0 of function 184 -/
def l184_0_h : List Nat := [0, 1]

def l184_0_b : ACode :=
 .seq (.seq (.region none [] [
 mv 17 1, op 18 (.bin .neq .int (tm 17) (ci (0)))] [0, 1, 18] none)
 (.cond (tm 18) (.skip)
 (.exit 0)))
 (.block 1 (.region (some 6) [] [
 mv 19 1, mv 20 0, mv 21 1, op 22 (.bin .rem .int (tm 20) (tm 21)), mv 0 19, mv 1 22] [0, 1] none))

def c184 : ACode :=
 .seq (.region none [] [
 op 4 (.mov (ci (0)))] [0, 1] none)
 (.seq (.seq (.region none [] [
 mv 5 0, op 6 (.call .pure 153 [(tm 5)]), op 7 (.un .not (tm 6)), mv 8 7, mg 9 1 8 false, ⟨some 10, .call .pure 153 [(tm 9)], some (8, false)⟩, ⟨some 11, .un .not (tm 10), some (8, false)⟩, op 12 (.pick (tm 8) (.cst (.bool true)) (tm 11))] [0, 1, 12] none)
 (.cond (tm 12) (.seq (.region none [] [
 op 4 (.mov (ci (0)))] [4] none)
 (.ret))
 (.skip)))
 (.seq (.region none [] [
 mv 13 0, op 14 (.call .pure 198 [(tm 13)]), mv 15 1, op 16 (.call .pure 198 [(tm 15)]), mv 0 14, mv 1 16] [0, 1] none)
 (.seq (.block 0 (.loop l184_0_h l184_0_b))
 (.seq (.region none [] [
 mv 23 0, mv 4 23] [4] none)
 (.ret)))))

def a184 : AFunc := ⟨2, c184, [.tmp 4]⟩

def an184 : List RAnn := [
 { id := 0, live := [0, 1] },
 { id := 1, live := [0, 1, 12] },
 { id := 2, live := [4] },
 { id := 3, live := [0, 1] },
 { id := 4, live := [0, 1, 18], hdr := [0, 1] },
 { id := 5, head := some 6, live := [0, 1] },
 { id := 6, live := [4] }]

theorem comp184 : compF Tryz.prog an184 Tryz.f184 = some a184 := by kernel_rfl

/- strings.indexFunc -/
/-- loop 0 of function 185 -/
def l185_0_h : List Nat := [1, 2, 10]

def l185_0_b : ACode :=
 .seq (.cond (ci (0)) (.skip)
 (.skip))
 (.seq (.cond (tm 12) (.skip)
 (.exit 0))
 (.block 1 (.seq (.region none [] [
 op 13 (.ext (tm 11) 1), op 14 (.ext (tm 11) 2), mv 7 13, mv 8 14] [1, 2, 7, 8, 10] none)
 (.seq (.region none [] [
 mv 15 1, mv 16 8, op 17 (.callv .pure (tm 15) [(tm 16)]), mv 18 2, op 19 (.bin .eql .bool (tm 17) (tm 18))] [1, 2, 7, 10, 19] none)
 (.cond (tm 19) (.seq (.region none [] [
 mv 20 7, mv 6 20] [6] none)
 (.ret))
 (.skip))))))

def c185 : ACode :=
 .seq (.region none [] [
 op 6 (.mov (ci (0)))] [0, 1, 2] none)
 (.seq (.seq (.cond (ci (0)) (.skip)
 (.skip))
 (.block 0 (.loop l185_0_h l185_0_b)))
 (.seq (.region none [] [
 op 6 (.mov (ci ((-1))))] [6] none)
 (.ret)))

def a185 : AFunc := ⟨3, c185, [.tmp 6]⟩

def an185 : List RAnn := [
 { id := 0, live := [0, 1, 2] },
 { id := 1, live := [1, 2, 10] },
 { id := 2, live := [1, 2, 10, 11, 12], hdr := [1, 2, 10] },
 { id := 3, live := [1, 2, 7, 8, 10] },
 { id := 4, live := [1, 2, 7, 10, 19] },
 { id := 5, live := [6] },
 { id := 6, live := [6] }]

theorem comp185 : compF Tryz.prog an185 Tryz.f185 = some a185 := by kernel_rfl

/- graphdb/graphdbref03.gcd -/
/-- loop 0 of function 191 -/
def l191_0_h : List Nat := [0, 1]

def l191_0_b : ACode :=
 .seq (.seq (.region none [] [
 mv 5 1, op 6 (.bin .gtr .int (tm 5) (ci (0)))] [0, 1, 6] none)
 (.cond (tm 6) (.skip)
 (.exit 0)))
 (.block 1 (.region (some 6) [] [
 mv 7 1, mv 8 0, mv 9 1, op 10 (.bin .rem .int (tm 8) (tm 9)), mv 0 7, mv 1 10] [0, 1] none))

def c191 : ACode :=
 .seq (.region none [] [
 op 4 (.mov (ci (0)))] [0, 1] none)
 (.seq (.block 0 (.loop l191_0_h l191_0_b))
 (.seq (.region none [] [
 mv 11 0, mv 4 11] [4] none)
 (.ret)))

def a191 : AFunc := ⟨2, c191, [.tmp 4]⟩

def an191 : List RAnn := [
 { id := 0, live := [0, 1] },
 { id := 1, live := [0, 1, 6], hdr := [0, 1] },
 { id := 2, head := some 6, live := [0, 1] },
 { id := 3, live := [4] }]

theorem comp191 : compF Tryz.prog an191 Tryz.f191 = some a191 := by kernel_rfl

/- graphdb/graphdbref03.plus -/
/-- loop 0 of function 192 -/
def l192_0_h : List Nat := [0, 1, 5, 6, 7]

def l192_0_b : ACode :=
 .seq (.seq (.region none [] [
 mv 11 7, mv 12 0, op 13 (.len .slice (tm 12)), op 14 (.bin .lss .int (tm 11) (tm 13))] [0, 1, 5, 6, 7, 14] none)
 (.cond (tm 14) (.skip)
 (.exit 0)))
 (.seq (.block 1 (.seq (.region (some 12) [] [
 mv 17 6, mv 18 0, mv 19 7, op 20 (.iaddr 1 (tm 18) (tm 19)), op 21 (.load none (tm 20)), op 22 (.bin .add .int (tm 17) (tm 21)), mv 23 1, mv 24 7, op 25 (.iaddr 1 (tm 23) (tm 24)), op 26 (.load none (tm 25)), op 27 (.bin .add .int (tm 22) (tm 26)), mv 6 27] [0, 1, 5, 6, 7] none)
 (.seq (.region none [] [
 mv 28 5, mv 29 7, mv 30 6, op 31 (.bin .rem .int (tm 30) (ci (1000))), op 32 (.iaddr 1 (tm 28) (tm 29)), ⟨none, .store 1 (tm 32) (tm 31), none⟩] [0, 1, 5, 6, 7] none)
 (.region none [] [
 mv 33 6, op 34 (.bin .quo .int (tm 33) (ci (1000))), mv 6 34] [0, 1, 5, 6, 7] none))))
 (.region none [] [
 mv 15 7, op 16 (.bin .add .int (tm 15) (ci (1))), mv 7 16] [0, 1, 5, 6, 7] none))

def c192 : ACode :=
 .seq (.region none [] [
 op 4 (.mov (.cst (.sl false [])))] [0, 1] none)
 (.seq (.region none [] [
 mv 8 0, op 9 (.len .slice (tm 8)), op 10 (.mkslice 1 8 (.int .i64 0) (tm 9) (tm 9)), mv 5 10] [0, 1, 5] none)
 (.seq (.region none [] [
 op 6 (.mov (ci (0)))] [0, 1, 5, 6] none)
 (.seq (.seq (.region none [] [
 op 7 (.mov (ci (0)))] [0, 1, 5, 6, 7] none)
 (.block 0 (.loop l192_0_h l192_0_b)))
 (.seq (.region none [] [
 mv 35 5, mv 4 35] [4] none)
 (.ret)))))

def a192 : AFunc := ⟨2, c192, [.tmp 4]⟩

def an192 : List RAnn := [
 { id := 0, live := [0, 1] },
 { id := 1, live := [0, 1, 5] },
 { id := 2, live := [0, 1, 5, 6] },
 { id := 3, live := [0, 1, 5, 6, 7] },
 { id := 4, live := [0, 1, 5, 6, 7, 14], hdr := [0, 1, 5, 6, 7] },
 { id := 6, head := some 12, live := [0, 1, 5, 6, 7] },
 { id := 7, live := [0, 1, 5, 6, 7] },
 { id := 8, live := [0, 1, 5, 6, 7] },
 { id := 5, live := [0, 1, 5, 6, 7] },
 { id := 9, live := [4] }]

theorem comp192 : compF Tryz.prog an192 Tryz.f192 = some a192 := by kernel_rfl

/- graphdb/graphdbref03.order -/
/-- loop 0 of function 193 -/
def l193_0_h : List Nat := [0, 1, 5]

def l193_0_b : ACode :=
 .seq (.seq (.region none [] [
 mv 9 5, op 10 (.bin .geq .int (tm 9) (ci (0)))] [0, 1, 5, 10] none)
 (.cond (tm 10) (.skip)
 (.exit 0)))
 (.seq (.block 1 (.seq (.seq (.region (some 9) [] [
 mv 13 0, mv 14 5, op 15 (.iaddr 1 (tm 13) (tm 14)), op 16 (.load none (tm 15)), mv 17 1, mv 18 5, op 19 (.iaddr 1 (tm 17) (tm 18)), op 20 (.load none (tm 19)), op 21 (.bin .lss .int (tm 16) (tm 20))] [0, 1, 5, 21] none)
 (.cond (tm 21) (.seq (.region none [] [
 op 4 (.mov (ci ((-1))))] [4] none)
 (.ret))
 (.skip)))
 (.seq (.region (some 9) [] [
 mv 22 0, mv 23 5, op 24 (.iaddr 1 (tm 22) (tm 23)), op 25 (.load none (tm 24)), mv 26 1, mv 27 5, op 28 (.iaddr 1 (tm 26) (tm 27)), op 29 (.load none (tm 28)), op 30 (.bin .gtr .int (tm 25) (tm 29))] [0, 1, 5, 30] none)
 (.cond (tm 30) (.seq (.region none [] [
 op 4 (.mov (ci (1)))] [4] none)
 (.ret))
 (.skip)))))
 (.region none [] [
 mv 11 5, op 12 (.bin .sub .int (tm 11) (ci (1))), mv 5 12] [0, 1, 5] none))

def c193 : ACode :=
 .seq (.region none [] [
 op 4 (.mov (ci (0)))] [0, 1] none)
 (.seq (.seq (.region none [] [
 mv 6 0, op 7 (.len .slice (tm 6)), op 8 (.bin .sub .int (tm 7) (ci (1))), mv 5 8] [0, 1, 5] none)
 (.block 0 (.loop l193_0_h l193_0_b)))
 (.seq (.region none [] [
 op 4 (.mov (ci (0)))] [4] none)
 (.ret)))

def a193 : AFunc := ⟨2, c193, [.tmp 4]⟩

def an193 : List RAnn := [
 { id := 0, live := [0, 1] },
 { id := 1, live := [0, 1, 5] },
 { id := 2, live := [0, 1, 5, 10], hdr := [0, 1, 5] },
 { id := 4, head := some 9, live := [0, 1, 5, 21] },
 { id := 5, live := [4] },
 { id := 6, head := some 9, live := [0, 1, 5, 30] },
 { id := 7, live := [4] },
 { id := 3, live := [0, 1, 5] },
 { id := 8, live := [4] }]

theorem comp193 : compF Tryz.prog an193 Tryz.f193 = some a193 := by kernel_rfl

/- graphdb/graphdbref03.minus -/
/-- loop 0 of function 194 -/
def l194_0_h : List Nat := [0, 1, 5, 6, 7]

def l194_0_b : ACode :=
 .seq (.seq (.region none [] [
 mv 11 7, mv 12 0, op 13 (.len .slice (tm 12)), op 14 (.bin .lss .int (tm 11) (tm 13))] [0, 1, 5, 6, 7, 14] none)
 (.cond (tm 14) (.skip)
 (.exit 0)))
 (.seq (.block 1 (.seq (.region (some 12) [] [
 mv 17 6, mv 18 0, mv 19 7, op 20 (.iaddr 1 (tm 18) (tm 19)), op 21 (.load none (tm 20)), op 22 (.bin .add .int (tm 17) (tm 21)), mv 23 1, mv 24 7, op 25 (.iaddr 1 (tm 23) (tm 24)), op 26 (.load none (tm 25)), op 27 (.bin .sub .int (tm 22) (tm 26)), mv 6 27] [0, 1, 5, 6, 7] none)
 (.seq (.region none [] [
 mv 28 6, op 29 (.bin .lss .int (tm 28) (ci (0)))] [0, 1, 5, 6, 7, 29] none)
 (.cond (tm 29) (.seq (.region none [] [
 mv 30 5, mv 31 7, mv 32 6, op 33 (.bin .add .int (tm 32) (ci (1000))), op 34 (.iaddr 1 (tm 30) (tm 31)), ⟨none, .store 1 (tm 34) (tm 33), none⟩] [0, 1, 5, 7] none)
 (.region none [] [
 op 6 (.mov (ci ((-1))))] [0, 1, 5, 6, 7] none))
 (.seq (.region none [] [
 mv 35 5, mv 36 7, mv 37 6, op 38 (.iaddr 1 (tm 35) (tm 36)), ⟨none, .store 1 (tm 38) (tm 37), none⟩] [0, 1, 5, 7] none)
 (.region none [] [
 op 6 (.mov (ci (0)))] [0, 1, 5, 6, 7] none))))))
 (.region none [] [
 mv 15 7, op 16 (.bin .add .int (tm 15) (ci (1))), mv 7 16] [0, 1, 5, 6, 7] none))

def c194 : ACode :=
 .seq (.region none [] [
 op 4 (.mov (.cst (.sl false [])))] [0, 1] none)
 (.seq (.region none [] [
 mv 8 0, op 9 (.len .slice (tm 8)), op 10 (.mkslice 1 8 (.int .i64 0) (tm 9) (tm 9)), mv 5 10] [0, 1, 5] none)
 (.seq (.region none [] [
 op 6 (.mov (ci (0)))] [0, 1, 5, 6] none)
 (.seq (.seq (.region none [] [
 op 7 (.mov (ci (0)))] [0, 1, 5, 6, 7] none)
 (.block 0 (.loop l194_0_h l194_0_b)))
 (.seq (.region none [] [
 mv 39 5, mv 4 39] [4] none)
 (.ret)))))

def a194 : AFunc := ⟨2, c194, [.tmp 4]⟩

def an194 : List RAnn := [
 { id := 0, live := [0, 1] },
 { id := 1, live := [0, 1, 5] },
 { id := 2, live := [0, 1, 5, 6] },
 { id := 3, live := [0, 1, 5, 6, 7] },
 { id := 4, live := [0, 1, 5, 6, 7, 14], hdr := [0, 1, 5, 6, 7] },
 { id := 6, head := some 12, live := [0, 1, 5, 6, 7] },
 { id := 7, live := [0, 1, 5, 6, 7, 29] },
 { id := 8, live := [0, 1, 5, 7] },
 { id := 9, live := [0, 1, 5, 6, 7] },
 { id := 10, live := [0, 1, 5, 7] },
 { id := 11, live := [0, 1, 5, 6, 7] },
 { id := 5, live := [0, 1, 5, 6, 7] },
 { id := 12, live := [4] }]

theorem comp194 : compF Tryz.prog an194 Tryz.f194 = some a194 := by kernel_rfl

/- slices.siftDownOrdered[string] -/
/-- loop 0 of function 195 -/
def l195_0_h : List Nat := [0, 2, 3, 8]

def l195_0_b : ACode :=
 .block 1 (.seq (.region none [] [
 mv 11 8, op 12 (.bin .mul .int (ci (2)) (tm 11)), op 13 (.bin .add .int (tm 12) (ci (1))), mv 9 13] [0, 2, 3, 8, 9] none)
 (.seq (.seq (.region none [] [
 mv 14 9, mv 15 2, op 16 (.bin .geq .int (tm 14) (tm 15))] [0, 2, 3, 8, 9, 16] none)
 (.cond (tm 16) (.exit 0)
 (.skip)))
 (.seq (.seq (.region (some 20) [] [
 mv 17 9, op 18 (.bin .add .int (tm 17) (ci (1))), mv 19 2, op 20 (.bin .lss .int (tm 18) (tm 19)), mv 21 20, mg 22 0 21 true, mg 23 3 21 true, mg 24 9 21 true, ⟨some 25, .bin .add .int (tm 23) (tm 24), some (21, true)⟩, ⟨some 26, .iaddr 1 (tm 22) (tm 25), some (21, true)⟩, ⟨some 27, .load none (tm 26), some (21, true)⟩, mg 28 0 21 true, mg 29 3 21 true, mg 30 9 21 true, ⟨some 31, .bin .add .int (tm 29) (tm 30), some (21, true)⟩, ⟨some 32, .bin .add .int (tm 31) (ci (1)), some (21, true)⟩, ⟨some 33, .iaddr 1 (tm 28) (tm 32), some (21, true)⟩, ⟨some 34, .load none (tm 33), some (21, true)⟩, ⟨some 35, .call .pure 181 [(tm 27), (tm 34)], some (21, true)⟩, op 36 (.pick (tm 21) (tm 35) (.cst (.bool false)))] [0, 2, 3, 8, 9, 36] none)
 (.cond (tm 36) (.region none [] [
 mv 37 9, op 38 (.bin .add .int (tm 37) (ci (1))), mv 9 38] [0, 2, 3, 8, 9] none)
 (.skip)))
 (.seq (.seq (.region (some 14) [] [
 mv 39 0, mv 40 3, mv 41 8, op 42 (.bin .add .int (tm 40) (tm 41)), op 43 (.iaddr 1 (tm 39) (tm 42)), op 44 (.load none (tm 43)), mv 45 0, mv 46 3, mv 47 9, op 48 (.bin .add .int (tm 46) (tm 47)), op 49 (.iaddr 1 (tm 45) (tm 48)), op 50 (.load none (tm 49)), op 51 (.call .pure 181 [(tm 44), (tm 50)]), op 52 (.un .not (tm 51))] [0, 2, 3, 8, 9, 52] none)
 (.cond (tm 52) (.ret)
 (.skip)))
 (.seq (.par 24 [] [] [
 mv 53 0, mv 54 3, mv 55 8, op 56 (.bin .add .int (tm 54) (tm 55)), mv 57 0, mv 58 3, mv 59 9, op 60 (.bin .add .int (tm 58) (tm 59)), mv 61 0, mv 62 3, mv 63 9, op 64 (.bin .add .int (tm 62) (tm 63)), op 65 (.iaddr 1 (tm 61) (tm 64)), op 66 (.load none (tm 65)), mv 67 0, mv 68 3, mv 69 8, op 70 (.bin .add .int (tm 68) (tm 69)), op 71 (.iaddr 1 (tm 67) (tm 70)), op 72 (.load none (tm 71)), op 73 (.iaddr 1 (tm 53) (tm 56)), ⟨none, .store 1 (tm 73) (tm 66), none⟩, op 74 (.iaddr 1 (tm 57) (tm 60)), ⟨none, .store 1 (tm 74) (tm 72), none⟩] [0, 2, 3, 9] none)
 (.region none [] [
 mv 75 9, mv 8 75] [0, 2, 3, 8] none))))))

def c195 : ACode :=
 .seq (.region none [] [
 mv 10 1, mv 8 10] [0, 2, 3, 8] none)
 (.block 0 (.loop l195_0_h l195_0_b))

def a195 : AFunc := ⟨4, c195, []⟩

def an195 : List RAnn := [
 { id := 0, live := [0, 2, 3, 8] },
 { id := 1, live := [0, 2, 3, 8, 9], hdr := [0, 2, 3, 8] },
 { id := 2, live := [0, 2, 3, 8, 9, 16] },
 { id := 3, head := some 20, live := [0, 2, 3, 8, 9, 36] },
 { id := 4, live := [0, 2, 3, 8, 9] },
 { id := 5, head := some 14, live := [0, 2, 3, 8, 9, 52] },
 { id := 6, head := some 24, live := [0, 2, 3, 9], par := true },
 { id := 7, live := [0, 2, 3, 8] }]

theorem comp195 : compF Tryz.prog an195 Tryz.f195 = some a195 := by kernel_rfl

/- slices.medianAdjacentOrdered[string] -/
def c196 : ACode :=
 .seq (.region none [] [
 op 6 (.mov (ci (0)))] [0, 1, 2] none)
 (.seq (.region none [] [
 mv 7 0, mv 8 1, op 9 (.bin .sub .int (tm 8) (ci (1))), mv 10 1, mv 11 1, op 12 (.bin .add .int (tm 11) (ci (1))), mv 13 2, op 14 (.call .share 197 [(tm 7), (tm 9), (tm 10), (tm 12), (tm 13)]), mv 6 14] [6] none)
 (.ret))

def a196 : AFunc := ⟨3, c196, [.tmp 6]⟩

def an196 : List RAnn := [
 { id := 0, live := [0, 1, 2] },
 { id := 1, live := [6], ops := [(7, .mode .share)] }]

theorem comp196 : compF Tryz.prog an196 Tryz.f196 = some a196 := by kernel_rfl

/- slices.medianOrdered[string] -/
def c197 : ACode :=
 .seq (.region none [] [
 op 10 (.mov (ci (0)))] [0, 1, 2, 3, 4] none)
 (.seq (.region none [] [
 mv 12 0, mv 13 1, mv 14 2, mv 15 4, op 16 (.call .share 199 [(tm 12), (tm 13), (tm 14), (tm 15)]), mv 11 16, op 17 (.ext (tm 11) 0), op 18 (.ext (tm 11) 1), mv 1 17, mv 2 18] [0, 1, 2, 3, 4] none)
 (.seq (.region none [] [
 mv 20 0, mv 21 2, mv 22 3, mv 23 4, op 24 (.call .share 199 [(tm 20), (tm 21), (tm 22), (tm 23)]), mv 19 24, op 25 (.ext (tm 19) 0), op 26 (.ext (tm 19) 1), mv 2 25, mv 3 26] [0, 1, 2, 4] none)
 (.seq (.region none [] [
 mv 28 0, mv 29 1, mv 30 2, mv 31 4, op 32 (.call .share 199 [(tm 28), (tm 29), (tm 30), (tm 31)]), mv 27 32, op 33 (.ext (tm 27) 0), op 34 (.ext (tm 27) 1), mv 1 33, mv 2 34] [2] none)
 (.seq (.region none [] [
 mv 35 2, mv 10 35] [10] none)
 (.ret)))))

def a197 : AFunc := ⟨5, c197, [.tmp 10]⟩

def an197 : List RAnn := [
 { id := 0, live := [0, 1, 2, 3, 4] },
 { id := 1, live := [0, 1, 2, 3, 4], ops := [(4, .mode .share)] },
 { id := 2, live := [0, 1, 2, 4], ops := [(4, .mode .share)] },
 { id := 3, live := [2], ops := [(4, .mode .share)] },
 { id := 4, live := [10] }]

theorem comp197 : compF Tryz.prog an197 Tryz.f197 = some a197 := by kernel_rfl

/- graphdb/num.abs -/
def c198 : ACode :=
 .seq (.region none [] [
 op 2 (.mov (ci (0)))] [0] none)
 (.seq (.region none [] [
 mv 3 0, mv 4 0, op 5 (.un .neg (tm 4)), op 6 (.max (tm 3) (tm 5)), mv 2 6] [2] none)
 (.ret))

def a198 : AFunc := ⟨1, c198, [.tmp 2]⟩

def an198 : List RAnn := [
 { id := 0, live := [0] },
 { id := 1, live := [2] }]

theorem comp198 : compF Tryz.prog an198 Tryz.f198 = some a198 := by kernel_rfl

/- slices.order2Ordered[string] -/
def c199 : ACode :=
 .seq (.region none [] [
 op 8 (.mov (ci (0))), op 9 (.mov (ci (0)))] [0, 1, 2, 3] none)
 (.seq (.seq (.region (some 9) [] [
 mv 10 0, mv 11 2, op 12 (.iaddr 1 (tm 10) (tm 11)), op 13 (.load none (tm 12)), mv 14 0, mv 15 1, op 16 (.iaddr 1 (tm 14) (tm 15)), op 17 (.load none (tm 16)), op 18 (.call .pure 181 [(tm 13), (tm 17)])] [1, 2, 3, 18] none)
 (.cond (tm 18) (.seq (.region none [] [
 mv 19 3, op 20 (.nilchk (tm 19)), op 21 (.load none (tm 20)), op 22 (.bin .add .int (tm 21) (ci (1))), op 23 (.nilchk (tm 19)), ⟨none, .store 1 (tm 23) (tm 22), none⟩] [1, 2] none)
 (.seq (.region none [] [
 mv 24 2, mv 25 1, mv 8 24, mv 9 25] [8, 9] none)
 (.ret)))
 (.skip)))
 (.seq (.region none [] [
 mv 26 1, mv 27 2, mv 8 26, mv 9 27] [8, 9] none)
 (.ret)))

def a199 : AFunc := ⟨4, c199, [.tmp 8, .tmp 9]⟩

def an199 : List RAnn := [
 { id := 0, live := [0, 1, 2, 3] },
 { id := 1, head := some 9, live := [1, 2, 3, 18] },
 { id := 2, live := [1, 2] },
 { id := 3, live := [8, 9] },
 { id := 4, live := [8, 9] }]

theorem comp199 : compF Tryz.prog an199 Tryz.f199 = some a199 := by kernel_rfl

/- gosem.cut.vars -/
def c219 : ACode :=
 .cond (ci (0)) (.skip)
 (.skip)

def a219 : AFunc := ⟨0, c219, []⟩

def an219 : List RAnn := [
 { id := 0 }]

theorem comp219 : compF Tryz.prog an219 Tryz.f219 = some a219 := by kernel_rfl

end AI
end Go.Proofs.YtdlkcancogpafaaGreatDoor
