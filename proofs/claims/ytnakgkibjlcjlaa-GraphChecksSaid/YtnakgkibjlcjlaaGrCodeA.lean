/- Printed by a program of mine: the functions, compiled; the kernel checks each against the given form. -/
import Derived.Test.YtnakgkibjlcjlaaSe
import Derived.Test.YtnakgkibjlcjlaaProg
import Derived.Test.YtnakgkibjlcjlaaAb
import Derived.KernelRfl
import Derived.Test.YtnakgkibjlcjlaaIxF
namespace Go.Proofs.Ytnakgkibjlcjlaa
namespace AI

/- graphdb/graphdblaw07.GraphSteps -/
def c3 : ACode :=
 .seq (.region none [] [
 op 3 (.box 4 (tm 0)), op 4 (.box 2 (tm 1)), op 6 (.mov (.cst (.bool false)))] [2, 3, 4] none)
 (.seq (.region (some 6) [] [
 op 9 (.aaddr 1 2 (tm 4) (ci (0))), op 10 (.load none (tm 9)), op 11 (.aaddr 1 2 (tm 4) (ci (1))), op 12 (.load none (tm 11)), mv 7 10, mv 8 12] [2, 3, 7, 8] none)
 (.seq (.seq (.region none [] [
 op 13 (.load (some 4) (tm 3)), op 14 (.call .pure 7 [(tm 13), (ci (60)), (ci (100))]), op 15 (.un .not (tm 14)), mv 16 15, mg 17 2 16 false, ⟨some 18, .call .pure 8 [(tm 17)], some (16, false)⟩, ⟨some 19, .un .not (tm 18), some (16, false)⟩, op 20 (.pick (tm 16) (.cst (.bool true)) (tm 19))] [2, 3, 7, 8, 20] none)
 (.cond (tm 20) (.seq (.region none [] [
 op 21 (.call .pure 9 []), mv 6 21] [6] none)
 (.ret))
 (.skip)))
 (.seq (.region (some 15) [] [
 op 22 (.load (some 4) (tm 3)), mv 23 7, mv 24 2, mv 25 8, op 26 (.call .pure 11 [(tm 22), (tm 23), (tm 24), (tm 25)]), op 27 (.load (some 4) (tm 3)), mv 28 7, mv 29 2, mv 30 8, op 31 (.call .pure 12 [(tm 27), (tm 28), (tm 29), (tm 30)]), op 32 (.call .pure 10 [(tm 26), (tm 31)]), mv 33 32, ⟨some 34, .call .pure 9 [], some (33, true)⟩, op 35 (.pick (tm 33) (tm 34) (.cst (.bool false))), mv 6 35] [6] none)
 (.ret))))

def a3 : AFunc := ⟨3, c3, [.tmp 6]⟩

def an3 : List RAnn := [
 { id := 0, live := [2, 3, 4] },
 { id := 1, head := some 6, live := [2, 3, 7, 8] },
 { id := 2, live := [2, 3, 7, 8, 20] },
 { id := 3, live := [6] },
 { id := 4, head := some 15, live := [6] }]

theorem comp3 : compF Try.prog an3 Try.f3 = some a3 := by kernel_rfl

/- graphdb/graphdblaw07.GraphMirror -/
/-- loop 0 of function 4 -/
def l4_0_h : List Nat := [1, 2, 5, 6, 7, 8, 10, 11, 12, 33, 34, 35, 49, 50, 51]

def l4_0_b : ACode :=
 .seq (.region none [] [
 op 52 (.bin .lss .int (tm 51) (tm 50))] [1, 2, 5, 6, 7, 8, 10, 11, 12, 33, 34, 35, 49, 50, 51, 52] none)
 (.seq (.cond (tm 52) (.skip)
 (.exit 2))
 (.seq (.block 3 (.seq (.region none [] [
 op 53 (.iaddr 3 (tm 49) (tm 51)), op 54 (.load (some 3) (tm 53)), op 14 (.alloc 3 (.agg [.int .i64 0, .int .i64 0, .int .i64 0])), ⟨none, .store 3 (tm 14) (tm 54), none⟩] [1, 2, 5, 6, 7, 8, 10, 11, 12, 14, 33, 34, 35, 49, 50, 51] none)
 (.seq (.seq (.region (some 21) [] [
 op 55 (.faddr 0 (tm 14)), op 56 (.load none (tm 55)), op 57 (.faddr 0 (tm 10)), op 58 (.load none (tm 57)), op 59 (.bin .neq .int (tm 56) (tm 58)), mv 60 59, ⟨some 61, .load (some 4) (tm 2), some (60, false)⟩, ⟨some 62, .faddr 1 (tm 14), some (60, false)⟩, ⟨some 63, .load none (tm 62), some (60, false)⟩, mg 64 1 60 false, ⟨some 65, .call .pure 11 [(tm 61), (tm 63), (tm 64), (ci (2))], some (60, false)⟩, ⟨some 66, .faddr 1 (tm 14), some (60, false)⟩, ⟨some 67, .load none (tm 66), some (60, false)⟩, ⟨some 68, .faddr 0 (tm 10), some (60, false)⟩, ⟨some 69, .load none (tm 68), some (60, false)⟩, ⟨some 70, .faddr 2 (tm 14), some (60, false)⟩, ⟨some 71, .load none (tm 70), some (60, false)⟩, ⟨some 72, .build [.int .i64 0, .int .i64 0, .int .i64 0] [(0, 1, (tm 67)), (1, 1, (tm 69)), (2, 1, (tm 71))], some (60, false)⟩, ⟨some 73, .call .pure 14 [(tm 65), (tm 72)], some (60, false)⟩, ⟨some 74, .un .not (tm 73), some (60, false)⟩, op 75 (.pick (tm 60) (.cst (.bool true)) (tm 74))] [1, 2, 5, 6, 7, 8, 10, 11, 12, 14, 33, 34, 35, 49, 50, 51, 75] none)
 (.cond (tm 75) (.seq (.region none [] [
 op 4 (.mov (.cst (.bool false)))] [4] none)
 (.ret))
 (.skip)))
 (.seq (.region none [] [
 op 76 (.faddr 1 (tm 14)), op 77 (.load none (tm 76)), op 78 (.faddr 0 (tm 10)), op 79 (.load none (tm 78)), op 80 (.bin .eql .int (tm 77) (tm 79))] [1, 2, 5, 6, 7, 8, 10, 11, 12, 33, 34, 35, 49, 50, 51, 80] none)
 (.cond (tm 80) (.region none [] [
 mv 81 7, op 82 (.bin .add .int (tm 81) (ci (1))), mv 7 82] [1, 2, 5, 6, 7, 8, 10, 11, 12, 33, 34, 35, 49, 50, 51] none)
 (.skip))))))
 (.region none [] [
 op 83 (.bin .add .int (tm 51) (ci (1))), mv 51 83] [1, 2, 5, 6, 7, 8, 10, 11, 12, 33, 34, 35, 49, 50, 51] (some 2))))

/-- loop 1 of function 4 -/
def l4_1_h : List Nat := [1, 2, 5, 6, 7, 8, 33, 34, 35]

def l4_1_b : ACode :=
 .seq (.region none [] [
 op 36 (.bin .lss .int (tm 35) (tm 34))] [1, 2, 5, 6, 7, 8, 33, 34, 35, 36] none)
 (.seq (.cond (tm 36) (.skip)
 (.exit 0))
 (.seq (.block 1 (.seq (.region none [] [
 op 37 (.iaddr 3 (tm 33) (tm 35)), op 38 (.load (some 3) (tm 37)), op 10 (.alloc 3 (.agg [.int .i64 0, .sl false [], .sl false []])), ⟨none, .store 3 (tm 10) (tm 38), none⟩] [1, 2, 5, 6, 7, 8, 10, 33, 34, 35] none)
 (.seq (.region none [] [
 op 39 (.load (some 4) (tm 2)), op 40 (.faddr 0 (tm 10)), op 41 (.load none (tm 40)), mv 42 1, op 43 (.call .pure 11 [(tm 39), (tm 41), (tm 42), (ci (1))]), mv 11 43] [1, 2, 5, 6, 7, 8, 10, 11, 33, 34, 35] none)
 (.seq (.region none [] [
 op 44 (.load (some 4) (tm 2)), op 45 (.faddr 0 (tm 10)), op 46 (.load none (tm 45)), mv 47 1, op 48 (.call .pure 11 [(tm 44), (tm 46), (tm 47), (ci (2))]), mv 12 48] [1, 2, 5, 6, 7, 8, 10, 11, 12, 33, 34, 35] none)
 (.seq (.seq (.region none [] [
 mv 49 11, op 50 (.len .slice (tm 49)), op 51 (.mov (ci (0)))] [1, 2, 5, 6, 7, 8, 10, 11, 12, 33, 34, 35, 49, 50, 51] none)
 (.block 2 (.loop l4_0_h l4_0_b)))
 (.region none [] [
 mv 84 5, mv 85 11, op 86 (.len .slice (tm 85)), op 87 (.bin .add .int (tm 84) (tm 86)), mv 88 6, mv 89 12, op 90 (.len .slice (tm 89)), op 91 (.bin .add .int (tm 88) (tm 90)), mv 92 8, op 93 (.load (some 4) (tm 2)), op 94 (.faddr 0 (tm 10)), op 95 (.load none (tm 94)), mv 96 1, op 97 (.call .pure 11 [(tm 93), (tm 95), (tm 96), (ci (3))]), op 98 (.len .slice (tm 97)), op 99 (.bin .add .int (tm 92) (tm 98)), mv 5 87, mv 6 91, mv 8 99] [1, 2, 5, 6, 7, 8, 33, 34, 35] none))))))
 (.region none [] [
 op 100 (.bin .add .int (tm 35) (ci (1))), mv 35 100] [1, 2, 5, 6, 7, 8, 33, 34, 35] (some 1))))

/-- loop 2 of function 4 -/
def l4_2_h : List Nat := [1, 5, 6, 7, 8, 15, 102, 103, 104]

def l4_2_b : ACode :=
 .seq (.region none [] [
 op 105 (.bin .lss .int (tm 104) (tm 103))] [1, 5, 6, 7, 8, 15, 102, 103, 104, 105] none)
 (.seq (.cond (tm 105) (.skip)
 (.exit 4))
 (.seq (.block 5 (.seq (.region none [] [
 op 106 (.iaddr 5 (tm 102) (tm 104)), op 107 (.load (some 5) (tm 106)), op 17 (.alloc 5 (.agg [.int .i64 0, .int .i64 0, .int .i64 0, .str [], .sl false []])), ⟨none, .store 5 (tm 17) (tm 107), none⟩] [1, 5, 6, 7, 8, 15, 17, 102, 103, 104] none)
 (.seq (.region none [] [
 op 108 (.load (some 5) (tm 17)), mv 109 1, op 110 (.call .pure 15 [(tm 108), (tm 109)])] [1, 5, 6, 7, 8, 15, 102, 103, 104, 110] none)
 (.cond (tm 110) (.region none [] [
 mv 111 15, op 112 (.bin .add .int (tm 111) (ci (1))), mv 15 112] [1, 5, 6, 7, 8, 15, 102, 103, 104] none)
 (.skip)))))
 (.region none [] [
 op 113 (.bin .add .int (tm 104) (ci (1))), mv 104 113] [1, 5, 6, 7, 8, 15, 102, 103, 104] (some 1))))

def c4 : ACode :=
 .seq (.region none [] [
 op 2 (.box 4 (tm 0)), op 4 (.mov (.cst (.bool false)))] [1, 2] none)
 (.seq (.seq (.region none [] [
 op 18 (.load (some 4) (tm 2)), op 19 (.call .pure 7 [(tm 18), (ci (30)), (ci (60))]), op 20 (.un .not (tm 19)), mv 21 20, mg 22 1 21 false, ⟨some 23, .call .pure 8 [(tm 22)], some (21, false)⟩, ⟨some 24, .un .not (tm 23), some (21, false)⟩, op 25 (.pick (tm 21) (.cst (.bool true)) (tm 24)), mv 26 25, ⟨some 27, .load (some 4) (tm 2), some (26, false)⟩, ⟨some 28, .call .pure 13 [(tm 27)], some (26, false)⟩, ⟨some 29, .bin .neq .int (tm 28) (ci (0)), some (26, false)⟩, op 30 (.pick (tm 26) (.cst (.bool true)) (tm 29))] [1, 2, 30] none)
 (.cond (tm 30) (.seq (.region none [] [
 op 31 (.call .pure 9 []), mv 4 31] [4] none)
 (.ret))
 (.skip)))
 (.seq (.region none [] [
 op 5 (.mov (ci (0))), op 6 (.mov (ci (0))), op 7 (.mov (ci (0))), op 8 (.mov (ci (0)))] [1, 2, 5, 6, 7, 8] none)
 (.seq (.seq (.region none [] [
 op 32 (.faddr 0 (tm 2)), op 33 (.load none (tm 32)), op 34 (.len .slice (tm 33)), op 35 (.mov (ci (0)))] [1, 2, 5, 6, 7, 8, 33, 34, 35] none)
 (.block 0 (.loop l4_1_h l4_1_b)))
 (.seq (.region none [] [
 op 15 (.mov (ci (0)))] [1, 2, 5, 6, 7, 8, 15] none)
 (.seq (.seq (.region none [] [
 op 101 (.faddr 1 (tm 2)), op 102 (.load none (tm 101)), op 103 (.len .slice (tm 102)), op 104 (.mov (ci (0)))] [1, 5, 6, 7, 8, 15, 102, 103, 104] none)
 (.block 4 (.loop l4_2_h l4_2_b)))
 (.seq (.region none [] [
 mv 114 5, mv 115 15, op 116 (.bin .eql .int (tm 114) (tm 115)), mv 117 116, mg 118 6 117 true, mg 119 15 117 true, ⟨some 120, .bin .eql .int (tm 118) (tm 119), some (117, true)⟩, op 121 (.pick (tm 117) (tm 120) (.cst (.bool false))), mv 122 121, mg 123 8 122 true, mg 124 15 122 true, ⟨some 125, .bin .mul .int (ci (2)) (tm 124), some (122, true)⟩, mg 126 7 122 true, ⟨some 127, .bin .sub .int (tm 125) (tm 126), some (122, true)⟩, ⟨some 128, .bin .eql .int (tm 123) (tm 127), some (122, true)⟩, op 129 (.pick (tm 122) (tm 128) (.cst (.bool false))), mv 130 129, ⟨some 131, .call .pure 9 [], some (130, true)⟩, op 132 (.pick (tm 130) (tm 131) (.cst (.bool false))), mv 4 132] [4] none)
 (.ret)))))))

def a4 : AFunc := ⟨2, c4, [.tmp 4]⟩

def an4 : List RAnn := [
 { id := 0, live := [1, 2] },
 { id := 1, live := [1, 2, 30] },
 { id := 2, live := [4] },
 { id := 3, live := [1, 2, 5, 6, 7, 8] },
 { id := 4, live := [1, 2, 5, 6, 7, 8, 33, 34, 35] },
 { id := 5, live := [1, 2, 5, 6, 7, 8, 33, 34, 35, 36], hdr := [1, 2, 5, 6, 7, 8, 33, 34, 35] },
 { id := 6, live := [1, 2, 5, 6, 7, 8, 10, 33, 34, 35] },
 { id := 7, live := [1, 2, 5, 6, 7, 8, 10, 11, 33, 34, 35] },
 { id := 8, live := [1, 2, 5, 6, 7, 8, 10, 11, 12, 33, 34, 35] },
 { id := 9, live := [1, 2, 5, 6, 7, 8, 10, 11, 12, 33, 34, 35, 49, 50, 51] },
 { id := 10, live := [1, 2, 5, 6, 7, 8, 10, 11, 12, 33, 34, 35, 49, 50, 51, 52], hdr := [1, 2, 5, 6, 7, 8, 10, 11, 12, 33, 34, 35, 49, 50, 51] },
 { id := 11, live := [1, 2, 5, 6, 7, 8, 10, 11, 12, 14, 33, 34, 35, 49, 50, 51] },
 { id := 12, head := some 21, live := [1, 2, 5, 6, 7, 8, 10, 11, 12, 14, 33, 34, 35, 49, 50, 51, 75] },
 { id := 13, live := [4] },
 { id := 14, live := [1, 2, 5, 6, 7, 8, 10, 11, 12, 33, 34, 35, 49, 50, 51, 80] },
 { id := 15, live := [1, 2, 5, 6, 7, 8, 10, 11, 12, 33, 34, 35, 49, 50, 51] },
 { id := 16, live := [1, 2, 5, 6, 7, 8, 10, 11, 12, 33, 34, 35, 49, 50, 51], trunc := some 2 },
 { id := 17, live := [1, 2, 5, 6, 7, 8, 33, 34, 35] },
 { id := 18, live := [1, 2, 5, 6, 7, 8, 33, 34, 35], trunc := some 1 },
 { id := 19, live := [1, 2, 5, 6, 7, 8, 15] },
 { id := 20, live := [1, 5, 6, 7, 8, 15, 102, 103, 104] },
 { id := 21, live := [1, 5, 6, 7, 8, 15, 102, 103, 104, 105], hdr := [1, 5, 6, 7, 8, 15, 102, 103, 104] },
 { id := 22, live := [1, 5, 6, 7, 8, 15, 17, 102, 103, 104] },
 { id := 23, live := [1, 5, 6, 7, 8, 15, 102, 103, 104, 110] },
 { id := 24, live := [1, 5, 6, 7, 8, 15, 102, 103, 104] },
 { id := 25, live := [1, 5, 6, 7, 8, 15, 102, 103, 104], trunc := some 1 },
 { id := 26, live := [4] }]

theorem comp4 : compF Try.prog an4 Try.f4 = some a4 := by kernel_rfl

/- graphdb/graphdblaw07.GraphLooks -/
def c5 : ACode :=
 .seq (.region none [] [
 op 3 (.box 4 (tm 0)), op 6 (.mov (.cst (.bool false)))] [1, 2, 3] none)
 (.seq (.seq (.region none [] [
 op 15 (.load (some 4) (tm 3)), op 16 (.call .pure 7 [(tm 15), (ci (60)), (ci (100))]), op 17 (.un .not (tm 16)), mv 18 17, mg 19 2 18 false, ⟨some 20, .len .str (tm 19), some (18, false)⟩, ⟨some 21, .bin .gtr .int (tm 20) (ci (200)), some (18, false)⟩, op 22 (.pick (tm 18) (.cst (.bool true)) (tm 21))] [1, 2, 3, 22] none)
 (.cond (tm 22) (.seq (.region none [] [
 op 23 (.call .pure 9 []), mv 6 23] [6] none)
 (.ret))
 (.skip)))
 (.seq (.region none [] [
 op 25 (.load (some 4) (tm 3)), mv 26 1, op 27 (.call .pure 16 [(tm 25), (tm 26)]), mv 24 27, op 28 (.ext (tm 24) 0), op 29 (.ext (tm 24) 1), op 7 (.alloc 3 (.agg [.int .i64 0, .sl false [], .sl false []])), ⟨none, .store 3 (tm 7) (tm 28), none⟩, mv 8 29] [1, 2, 3, 7, 8] none)
 (.seq (.region none [] [
 op 31 (.load (some 4) (tm 3)), mv 32 1, op 33 (.call .pure 17 [(tm 31), (tm 32)]), mv 30 33, op 34 (.ext (tm 30) 0), op 35 (.ext (tm 30) 1), op 9 (.alloc 3 (.agg [.int .i64 0, .sl false [], .sl false []])), ⟨none, .store 3 (tm 9) (tm 34), none⟩, mv 10 35] [1, 2, 3, 7, 8, 9, 10] none)
 (.seq (.region none [] [
 op 37 (.load (some 4) (tm 3)), mv 38 1, op 39 (.call .pure 18 [(tm 37), (tm 38)]), mv 36 39, op 40 (.ext (tm 36) 0), op 41 (.ext (tm 36) 1), op 11 (.alloc 5 (.agg [.int .i64 0, .int .i64 0, .int .i64 0, .str [], .sl false []])), ⟨none, .store 5 (tm 11) (tm 40), none⟩, mv 12 41] [1, 2, 3, 7, 8, 9, 10, 11, 12] none)
 (.seq (.region none [] [
 op 43 (.load (some 4) (tm 3)), mv 44 1, op 45 (.call .pure 19 [(tm 43), (tm 44)]), mv 42 45, op 46 (.ext (tm 42) 0), op 47 (.ext (tm 42) 1), op 13 (.alloc 5 (.agg [.int .i64 0, .int .i64 0, .int .i64 0, .str [], .sl false []])), ⟨none, .store 5 (tm 13) (tm 46), none⟩, mv 14 47] [2, 7, 8, 9, 10, 11, 12, 13, 14] none)
 (.seq (.seq (.region none [] [
 mv 48 8, mv 49 10, op 50 (.bin .neq .bool (tm 48) (tm 49)), mv 51 50, mg 52 12 51 false, mg 53 14 51 false, ⟨some 54, .bin .neq .bool (tm 52) (tm 53), some (51, false)⟩, op 55 (.pick (tm 51) (.cst (.bool true)) (tm 54)), mv 56 55, ⟨some 57, .load (some 3) (tm 7), some (56, false)⟩, ⟨some 58, .lit false 3 (.agg [.int .i64 0, .sl false [], .sl false []]) 1 [(0, (tm 57))], some (56, false)⟩, ⟨some 59, .load (some 5) (tm 11), some (56, false)⟩, ⟨some 60, .lit false 5 (.agg [.int .i64 0, .int .i64 0, .int .i64 0, .str [], .sl false []]) 1 [(0, (tm 59))], some (56, false)⟩, ⟨some 61, .build [.sl false [], .sl false [], .int .i64 0, .int .i64 0] [(0, 1, (tm 58)), (1, 1, (tm 60))], some (56, false)⟩, ⟨some 62, .load (some 3) (tm 9), some (56, false)⟩, ⟨some 63, .lit false 3 (.agg [.int .i64 0, .sl false [], .sl false []]) 1 [(0, (tm 62))], some (56, false)⟩, ⟨some 64, .load (some 5) (tm 13), some (56, false)⟩, ⟨some 65, .lit false 5 (.agg [.int .i64 0, .int .i64 0, .int .i64 0, .str [], .sl false []]) 1 [(0, (tm 64))], some (56, false)⟩, ⟨some 66, .build [.sl false [], .sl false [], .int .i64 0, .int .i64 0] [(0, 1, (tm 63)), (1, 1, (tm 65))], some (56, false)⟩, ⟨some 67, .call .pure 20 [(tm 61), (tm 66)], some (56, false)⟩, ⟨some 68, .un .not (tm 67), some (56, false)⟩, op 69 (.pick (tm 56) (.cst (.bool true)) (tm 68))] [2, 7, 9, 11, 13, 69] none)
 (.cond (tm 69) (.seq (.region none [] [
 op 6 (.mov (.cst (.bool false)))] [6] none)
 (.ret))
 (.skip)))
 (.seq (.region (some 38) [] [
 op 70 (.load (some 3) (tm 7)), mv 71 2, op 72 (.call .pure 21 [(tm 70), (tm 71)]), op 73 (.load (some 3) (tm 9)), mv 74 2, op 75 (.call .pure 22 [(tm 73), (tm 74)]), op 76 (.bin .eql .bool (tm 72) (tm 75)), mv 77 76, ⟨some 78, .load (some 5) (tm 11), some (77, true)⟩, mg 79 2 77 true, ⟨some 80, .lit false 1 (.str []) 1 [(0, (tm 79))], some (77, true)⟩, ⟨some 81, .call .pure 15 [(tm 78), (tm 80)], some (77, true)⟩, mg 82 2 77 true, ⟨some 83, .faddr 3 (tm 13), some (77, true)⟩, ⟨some 84, .load none (tm 83), some (77, true)⟩, ⟨some 85, .bin .eql .str (tm 82) (tm 84), some (77, true)⟩, ⟨some 86, .bin .eql .bool (tm 81) (tm 85), some (77, true)⟩, op 87 (.pick (tm 77) (tm 86) (.cst (.bool false))), mv 88 87, ⟨some 89, .load (some 5) (tm 11), some (88, true)⟩, ⟨some 90, .call .pure 15 [(tm 89), (.cst (.sl false []))], some (88, true)⟩, op 91 (.pick (tm 88) (tm 90) (.cst (.bool false))), mv 92 91, ⟨some 93, .faddr 2 (tm 7), some (92, true)⟩, ⟨some 94, .load none (tm 93), some (92, true)⟩, mg 95 2 92 true, ⟨some 96, .call .pure 24 [(tm 94), (tm 95)], some (92, true)⟩, ⟨some 97, .faddr 2 (tm 9), some (92, true)⟩, ⟨some 98, .load none (tm 97), some (92, true)⟩, mg 99 2 92 true, ⟨some 100, .call .pure 25 [(tm 98), (tm 99)], some (92, true)⟩, ⟨some 101, .call .pure 23 [(tm 96), (tm 100)], some (92, true)⟩, ⟨some 102, .bin .eql .int (tm 101) (ci (0)), some (92, true)⟩, op 103 (.pick (tm 92) (tm 102) (.cst (.bool false))), mv 104 103, ⟨some 105, .call .pure 9 [], some (104, true)⟩, op 106 (.pick (tm 104) (tm 105) (.cst (.bool false))), mv 6 106] [6] none)
 (.ret))))))))

def a5 : AFunc := ⟨3, c5, [.tmp 6]⟩

def an5 : List RAnn := [
 { id := 0, live := [1, 2, 3] },
 { id := 1, live := [1, 2, 3, 22] },
 { id := 2, live := [6] },
 { id := 3, live := [1, 2, 3, 7, 8] },
 { id := 4, live := [1, 2, 3, 7, 8, 9, 10] },
 { id := 5, live := [1, 2, 3, 7, 8, 9, 10, 11, 12] },
 { id := 6, live := [2, 7, 8, 9, 10, 11, 12, 13, 14] },
 { id := 7, live := [2, 7, 9, 11, 13, 69] },
 { id := 8, live := [6] },
 { id := 9, head := some 38, live := [6] }]

theorem comp5 : compF Try.prog an5 Try.f5 = some a5 := by kernel_rfl

/- graphdb/graphdblaw07.GraphChecks -/
def c6 : ACode :=
 .seq (.region none [] [
 op 1 (.box 4 (tm 0)), op 2 (.mov (.cst (.bool false)))] [1] none)
 (.seq (.seq (.region none [] [
 op 3 (.load (some 4) (tm 1)), op 4 (.call .pure 7 [(tm 3), (ci (60)), (ci (100))]), op 5 (.un .not (tm 4))] [1, 5] none)
 (.cond (tm 5) (.seq (.region none [] [
 op 6 (.call .pure 9 []), mv 2 6] [2] none)
 (.ret))
 (.skip)))
 (.seq (.region (some 23) [] [
 op 7 (.load (some 4) (tm 1)), op 8 (.call .pure 13 [(tm 7)]), op 9 (.load (some 4) (tm 1)), op 10 (.call .pure 26 [(tm 9)]), op 11 (.bin .eql .int (tm 8) (tm 10)), mv 12 11, ⟨some 13, .load (some 4) (tm 1), some (12, true)⟩, ⟨some 14, .call .pure 28 [(tm 13)], some (12, true)⟩, ⟨some 15, .load (some 4) (tm 1), some (12, true)⟩, ⟨some 16, .call .pure 29 [(tm 15)], some (12, true)⟩, ⟨some 17, .call .pure 27 [(tm 14), (tm 16)], some (12, true)⟩, op 18 (.pick (tm 12) (tm 17) (.cst (.bool false))), mv 19 18, ⟨some 20, .load (some 4) (tm 1), some (19, true)⟩, ⟨some 21, .call .pure 30 [(tm 20)], some (19, true)⟩, ⟨some 22, .load (some 4) (tm 1), some (19, true)⟩, ⟨some 23, .call .pure 31 [(tm 22)], some (19, true)⟩, ⟨some 24, .call .pure 27 [(tm 21), (tm 23)], some (19, true)⟩, op 25 (.pick (tm 19) (tm 24) (.cst (.bool false))), mv 26 25, ⟨some 27, .call .pure 9 [], some (26, true)⟩, op 28 (.pick (tm 26) (tm 27) (.cst (.bool false))), mv 2 28] [2] none)
 (.ret)))

def a6 : AFunc := ⟨1, c6, [.tmp 2]⟩

def an6 : List RAnn := [
 { id := 0, live := [1] },
 { id := 1, live := [1, 5] },
 { id := 2, live := [2] },
 { id := 3, head := some 23, live := [2] }]

theorem comp6 : compF Try.prog an6 Try.f6 = some a6 := by kernel_rfl

/- graphdb/graphdbref07.Small -/
/-- loop 0 of function 7 -/
def l7_0_h : List Nat := [3, 7, 8, 9, 10]

def l7_0_b : ACode :=
 .seq (.seq (.region none [] [
 mv 48 10, op 49 (.faddr 1 (tm 9)), op 50 (.load none (tm 49)), op 51 (.len .slice (tm 50)), op 52 (.bin .lss .int (tm 48) (tm 51)), mv 53 52, mg 54 7 53 true, ⟨some 55, .bin .geq .int (tm 54) (ci (0)), some (53, true)⟩, op 56 (.pick (tm 53) (tm 55) (.cst (.bool false)))] [3, 7, 8, 9, 10, 56] none)
 (.cond (tm 56) (.skip)
 (.exit 2)))
 (.seq (.block 3 (.region none [] [
 mv 59 7, op 60 (.faddr 1 (tm 9)), op 61 (.load none (tm 60)), mv 62 10, op 63 (.iaddr 1 (tm 61) (tm 62)), op 64 (.load none (tm 63)), op 65 (.len .str (tm 64)), op 66 (.bin .quo .int (tm 65) (ci (50))), op 67 (.bin .sub .int (tm 59) (tm 66)), mv 7 67] [3, 7, 8, 9, 10] none))
 (.region none [] [
 mv 57 10, op 58 (.bin .add .int (tm 57) (ci (1))), mv 10 58] [3, 7, 8, 9, 10] none))

/-- loop 1 of function 7 -/
def l7_1_h : List Nat := [3, 7, 8]

def l7_1_b : ACode :=
 .seq (.seq (.region none [] [
 mv 24 8, op 25 (.faddr 0 (tm 3)), op 26 (.load none (tm 25)), op 27 (.len .slice (tm 26)), op 28 (.bin .lss .int (tm 24) (tm 27)), mv 29 28, mg 30 7 29 true, ⟨some 31, .bin .geq .int (tm 30) (ci (0)), some (29, true)⟩, op 32 (.pick (tm 29) (tm 31) (.cst (.bool false)))] [3, 7, 8, 32] none)
 (.cond (tm 32) (.skip)
 (.exit 0)))
 (.seq (.block 1 (.seq (.region none [] [
 op 35 (.faddr 0 (tm 3)), op 36 (.load none (tm 35)), mv 37 8, op 38 (.iaddr 3 (tm 36) (tm 37)), op 39 (.load (some 3) (tm 38)), op 9 (.alloc 3 (.agg [.int .i64 0, .sl false [], .sl false []])), ⟨none, .store 3 (tm 9) (tm 39), none⟩] [3, 7, 8, 9] none)
 (.seq (.region none [] [
 op 40 (.faddr 2 (tm 9)), op 41 (.load none (tm 40)), mv 42 7, op 43 (.faddr 1 (tm 9)), op 44 (.load none (tm 43)), op 45 (.len .slice (tm 44)), op 46 (.bin .sub .int (tm 42) (tm 45)), op 47 (.call .pure 32 [(tm 41), (tm 46)]), mv 7 47] [3, 7, 8, 9] none)
 (.seq (.region none [] [
 op 10 (.mov (ci (0)))] [3, 7, 8, 9, 10] none)
 (.block 2 (.loop l7_0_h l7_0_b))))))
 (.region none [] [
 mv 33 8, op 34 (.bin .add .int (tm 33) (ci (1))), mv 8 34] [3, 7, 8] (some 1)))

/-- loop 2 of function 7 -/
def l7_2_h : List Nat := [3, 7, 11]

def l7_2_b : ACode :=
 .seq (.seq (.region none [] [
 mv 68 11, op 69 (.faddr 1 (tm 3)), op 70 (.load none (tm 69)), op 71 (.len .slice (tm 70)), op 72 (.bin .lss .int (tm 68) (tm 71)), mv 73 72, mg 74 7 73 true, ⟨some 75, .bin .geq .int (tm 74) (ci (0)), some (73, true)⟩, op 76 (.pick (tm 73) (tm 75) (.cst (.bool false)))] [3, 7, 11, 76] none)
 (.cond (tm 76) (.skip)
 (.exit 4)))
 (.seq (.block 5 (.region (some 18) [] [
 op 79 (.faddr 1 (tm 3)), op 80 (.load none (tm 79)), mv 81 11, op 82 (.iaddr 5 (tm 80) (tm 81)), op 83 (.faddr 4 (tm 82)), op 84 (.load none (tm 83)), mv 85 7, op 86 (.faddr 1 (tm 3)), op 87 (.load none (tm 86)), mv 88 11, op 89 (.iaddr 5 (tm 87) (tm 88)), op 90 (.faddr 3 (tm 89)), op 91 (.load none (tm 90)), op 92 (.len .str (tm 91)), op 93 (.bin .quo .int (tm 92) (ci (50))), op 94 (.bin .sub .int (tm 85) (tm 93)), op 95 (.call .pure 32 [(tm 84), (tm 94)]), mv 7 95] [3, 7, 11] none))
 (.region none [] [
 mv 77 11, op 78 (.bin .add .int (tm 77) (ci (1))), mv 11 78] [3, 7, 11] none))

def c7 : ACode :=
 .seq (.region none [] [
 op 3 (.box 4 (tm 0)), op 6 (.mov (.cst (.bool false)))] [1, 2, 3] none)
 (.seq (.seq (.region none [] [
 op 12 (.faddr 0 (tm 3)), op 13 (.load none (tm 12)), op 14 (.len .slice (tm 13)), mv 15 1, op 16 (.bin .gtr .int (tm 14) (tm 15)), mv 17 16, ⟨some 18, .faddr 1 (tm 3), some (17, false)⟩, ⟨some 19, .load none (tm 18), some (17, false)⟩, ⟨some 20, .len .slice (tm 19), some (17, false)⟩, mg 21 2 17 false, ⟨some 22, .bin .gtr .int (tm 20) (tm 21), some (17, false)⟩, op 23 (.pick (tm 17) (.cst (.bool true)) (tm 22))] [3, 23] none)
 (.cond (tm 23) (.seq (.region none [] [
 op 6 (.mov (.cst (.bool false)))] [6] none)
 (.ret))
 (.skip)))
 (.seq (.region none [] [
 op 7 (.mov (ci (2000)))] [3, 7] none)
 (.seq (.seq (.region none [] [
 op 8 (.mov (ci (0)))] [3, 7, 8] none)
 (.block 0 (.loop l7_1_h l7_1_b)))
 (.seq (.seq (.region none [] [
 op 11 (.mov (ci (0)))] [3, 7, 11] none)
 (.block 4 (.loop l7_2_h l7_2_b)))
 (.seq (.region none [] [
 mv 96 7, op 97 (.bin .geq .int (tm 96) (ci (0))), mv 6 97] [6] none)
 (.ret))))))

def a7 : AFunc := ⟨3, c7, [.tmp 6]⟩

def an7 : List RAnn := [
 { id := 0, live := [1, 2, 3] },
 { id := 1, live := [3, 23] },
 { id := 2, live := [6] },
 { id := 3, live := [3, 7] },
 { id := 4, live := [3, 7, 8] },
 { id := 5, live := [3, 7, 8, 32], hdr := [3, 7, 8] },
 { id := 7, live := [3, 7, 8, 9] },
 { id := 8, live := [3, 7, 8, 9] },
 { id := 9, live := [3, 7, 8, 9, 10] },
 { id := 10, live := [3, 7, 8, 9, 10, 56], hdr := [3, 7, 8, 9, 10] },
 { id := 12, live := [3, 7, 8, 9, 10] },
 { id := 11, live := [3, 7, 8, 9, 10] },
 { id := 6, live := [3, 7, 8], trunc := some 1 },
 { id := 13, live := [3, 7, 11] },
 { id := 14, live := [3, 7, 11, 76], hdr := [3, 7, 11] },
 { id := 16, head := some 18, live := [3, 7, 11] },
 { id := 15, live := [3, 7, 11] },
 { id := 17, live := [6] }]

theorem comp7 : compF Try.prog an7 Try.f7 = some a7 := by kernel_rfl

/- graphdb/graphdblaw07.few -/
/-- loop 0 of function 8 -/
def l8_0_h : List Nat := [0, 5, 6]

def l8_0_b : ACode :=
 .seq (.region none [] [
 op 7 (.bin .lss .int (tm 6) (tm 5))] [0, 5, 6, 7] none)
 (.seq (.cond (tm 7) (.skip)
 (.exit 0))
 (.seq (.block 1 (.seq (.region none [] [
 mv 8 6, mv 3 8] [0, 3, 5, 6] none)
 (.seq (.region none [] [
 mv 9 0, mv 10 3, op 11 (.iaddr 1 (tm 9) (tm 10)), op 12 (.load none (tm 11)), op 13 (.len .str (tm 12)), op 14 (.bin .gtr .int (tm 13) (ci (200)))] [0, 5, 6, 14] none)
 (.cond (tm 14) (.seq (.region none [] [
 op 2 (.mov (.cst (.bool false)))] [2] none)
 (.ret))
 (.skip)))))
 (.region none [] [
 op 15 (.bin .add .int (tm 6) (ci (1))), mv 6 15] [0, 5, 6] none)))

def c8 : ACode :=
 .seq (.region none [] [
 op 2 (.mov (.cst (.bool false)))] [0] none)
 (.seq (.seq (.region none [] [
 mv 4 0, op 5 (.len .slice (tm 4)), op 6 (.mov (ci (0)))] [0, 5, 6] none)
 (.block 0 (.loop l8_0_h l8_0_b)))
 (.seq (.region none [] [
 mv 16 0, op 17 (.len .slice (tm 16)), op 18 (.bin .leq .int (tm 17) (ci (30))), mv 2 18] [2] none)
 (.ret)))

def a8 : AFunc := ⟨1, c8, [.tmp 2]⟩

def an8 : List RAnn := [
 { id := 0, live := [0] },
 { id := 1, live := [0, 5, 6] },
 { id := 2, live := [0, 5, 6, 7], hdr := [0, 5, 6] },
 { id := 3, live := [0, 3, 5, 6] },
 { id := 4, live := [0, 5, 6, 14] },
 { id := 5, live := [2] },
 { id := 6, live := [0, 5, 6] },
 { id := 7, live := [2] }]

theorem comp8 : compF Try.prog an8 Try.f8 = some a8 := by kernel_rfl

/- graphdb/graphdblaw07.alive -/
def c9 : ACode :=
 .seq (.region none [] [
 op 0 (.mov (.cst (.bool false)))] [] none)
 (.seq (.region none [] [
 op 5 (.call .pure 33 []), op 1 (.alloc 4 (.agg [.sl false [], .sl false [], .int .i64 0, .int .i64 0])), ⟨none, .store 4 (tm 1) (tm 5), none⟩] [1] none)
 (.seq (.region none [] [
 op 6 (.call .share 33 []), op 2 (.alloc 4 (.agg [.sl false [], .sl false [], .int .i64 0, .int .i64 0])), ⟨none, .store 4 (tm 2) (tm 6), none⟩] [1, 2] none)
 (.seq (.region none [] [
 op 7 (.faddr 1 (tm 2)), op 8 (.load none (tm 7)), op 9 (.iaddr 5 (tm 8) (ci (0))), op 10 (.faddr 2 (tm 9)), ⟨none, .store 1 (tm 10) (ci (9)), none⟩] [1, 2] none)
 (.seq (.region none [] [
 op 11 (.load (some 4) (tm 1)), op 12 (.call .pure 11 [(tm 11), (ci (2)), (.cst (.sl false [])), (ci (3))]), mv 3 12] [1, 2, 3] none)
 (.seq (.region none [] [
 op 13 (.load (some 4) (tm 1)), op 14 (.lit false 1 (.str []) 1 [(0, (.cst (.str [84])))]), op 15 (.call .pure 11 [(tm 13), (ci (2)), (tm 14), (ci (2))]), mv 4 15] [1, 2, 3, 4] none)
 (.seq (.region none [] [
 op 16 (.load (some 4) (tm 1)), op 17 (.call .pure 13 [(tm 16)]), op 18 (.bin .eql .int (tm 17) (ci (0))), mv 19 18, ⟨some 20, .load (some 4) (tm 2), some (19, true)⟩, ⟨some 21, .call .borrow 13 [(tm 20)], some (19, true)⟩, ⟨some 22, .bin .eql .int (tm 21) (ci (10)), some (19, true)⟩, op 23 (.pick (tm 19) (tm 22) (.cst (.bool false))), mv 24 23, mg 25 3 24 true, ⟨some 26, .build [.int .i64 0, .int .i64 0, .int .i64 0] [(0, 1, (ci (2))), (1, 1, (ci (1))), (2, 1, (ci (1)))], some (24, true)⟩, ⟨some 27, .build [.int .i64 0, .int .i64 0, .int .i64 0] [(0, 1, (ci (2))), (1, 1, (ci (2))), (2, 1, (ci (2)))], some (24, true)⟩, ⟨some 28, .lit false 3 (.agg [.int .i64 0, .int .i64 0, .int .i64 0]) 2 [(0, (tm 26)), (1, (tm 27))], some (24, true)⟩, ⟨some 29, .call .pure 10 [(tm 25), (tm 28)], some (24, true)⟩, op 30 (.pick (tm 24) (tm 29) (.cst (.bool false))), mv 31 30, mg 32 4 31 true, mg 33 3 31 true, ⟨some 34, .call .pure 10 [(tm 32), (tm 33)], some (31, true)⟩, op 35 (.pick (tm 31) (tm 34) (.cst (.bool false))), mv 36 35, ⟨some 37, .load (some 4) (tm 1), some (36, true)⟩, ⟨some 38, .call .pure 11 [(tm 37), (ci (2)), (.cst (.sl false [])), (ci (1))], some (36, true)⟩, ⟨some 39, .len .slice (tm 38), some (36, true)⟩, ⟨some 40, .bin .eql .int (tm 39) (ci (1)), some (36, true)⟩, op 41 (.pick (tm 36) (tm 40) (.cst (.bool false))), mv 42 41, ⟨some 43, .call .pure 34 [], some (42, true)⟩, ⟨some 44, .call .pure 13 [(tm 43)], some (42, true)⟩, ⟨some 45, .bin .eql .int (tm 44) (ci (0)), some (42, true)⟩, op 46 (.pick (tm 42) (tm 45) (.cst (.bool false))), mv 47 46, ⟨some 48, .call .pure 35 [(.cst (.str [97, 95, 49]))], some (47, true)⟩, op 49 (.pick (tm 47) (tm 48) (.cst (.bool false))), mv 50 49, ⟨some 51, .call .pure 35 [(.cst (.str [49, 97]))], some (50, true)⟩, ⟨some 52, .un .not (tm 51), some (50, true)⟩, op 53 (.pick (tm 50) (tm 52) (.cst (.bool false))), mv 0 53] [0] none)
 (.ret)))))))

def a9 : AFunc := ⟨0, c9, [.tmp 0]⟩

def an9 : List RAnn := [
 { id := 0 },
 { id := 1, live := [1] },
 { id := 2, live := [1, 2], ops := [(0, .mode .share)] },
 { id := 3, live := [1, 2] },
 { id := 4, live := [1, 2, 3] },
 { id := 5, live := [1, 2, 3, 4] },
 { id := 6, live := [0], ops := [(5, .mode .borrow)] }]

theorem comp9 : compF Try.prog an9 Try.f9 = some a9 := by kernel_rfl

/- graphdb/graphdbref07.SameAdj -/
/-- loop 0 of function 10 -/
def l10_0_h : List Nat := [0, 1, 5]

def l10_0_b : ACode :=
 .seq (.seq (.region none [] [
 mv 11 5, mv 12 0, op 13 (.len .slice (tm 12)), op 14 (.bin .lss .int (tm 11) (tm 13))] [0, 1, 5, 14] none)
 (.cond (tm 14) (.skip)
 (.exit 0)))
 (.seq (.block 1 (.seq (.region (some 9) [] [
 mv 17 0, mv 18 5, op 19 (.iaddr 3 (tm 17) (tm 18)), op 20 (.load (some 3) (tm 19)), mv 21 1, mv 22 5, op 23 (.iaddr 3 (tm 21) (tm 22)), op 24 (.load (some 3) (tm 23)), op 25 (.bin .neq (.flat [.int, .int, .int]) (tm 20) (tm 24))] [0, 1, 5, 25] none)
 (.cond (tm 25) (.seq (.region none [] [
 op 4 (.mov (.cst (.bool false)))] [4] none)
 (.ret))
 (.skip))))
 (.region none [] [
 mv 15 5, op 16 (.bin .add .int (tm 15) (ci (1))), mv 5 16] [0, 1, 5] none))

def c10 : ACode :=
 .seq (.region none [] [
 op 4 (.mov (.cst (.bool false)))] [0, 1] none)
 (.seq (.seq (.region none [] [
 mv 6 0, op 7 (.len .slice (tm 6)), mv 8 1, op 9 (.len .slice (tm 8)), op 10 (.bin .neq .int (tm 7) (tm 9))] [0, 1, 10] none)
 (.cond (tm 10) (.seq (.region none [] [
 op 4 (.mov (.cst (.bool false)))] [4] none)
 (.ret))
 (.skip)))
 (.seq (.seq (.region none [] [
 op 5 (.mov (ci (0)))] [0, 1, 5] none)
 (.block 0 (.loop l10_0_h l10_0_b)))
 (.seq (.region none [] [
 op 4 (.mov (.cst (.bool true)))] [4] none)
 (.ret))))

def a10 : AFunc := ⟨2, c10, [.tmp 4]⟩

def an10 : List RAnn := [
 { id := 0, live := [0, 1] },
 { id := 1, live := [0, 1, 10] },
 { id := 2, live := [4] },
 { id := 3, live := [0, 1, 5] },
 { id := 4, live := [0, 1, 5, 14], hdr := [0, 1, 5] },
 { id := 6, head := some 9, live := [0, 1, 5, 25] },
 { id := 7, live := [4] },
 { id := 5, live := [0, 1, 5] },
 { id := 8, live := [4] }]

theorem comp10 : compF Try.prog an10 Try.f10 = some a10 := by kernel_rfl

/- graphdb/graph.Steps -/
/-- loop 0 of function 11 -/
def l11_0_h : List Nat := [1, 2, 3, 9, 13, 14, 15]

def l11_0_b : ACode :=
 .seq (.region none [] [
 op 16 (.bin .lss .int (tm 15) (tm 14))] [1, 2, 3, 9, 13, 14, 15, 16] none)
 (.seq (.cond (tm 16) (.skip)
 (.exit 0))
 (.seq (.block 1 (.seq (.region none [] [
 op 17 (.iaddr 5 (tm 13) (tm 15)), op 18 (.load (some 5) (tm 17)), op 11 (.alloc 5 (.agg [.int .i64 0, .int .i64 0, .int .i64 0, .str [], .sl false []])), ⟨none, .store 5 (tm 11) (tm 18), none⟩] [1, 2, 3, 9, 11, 13, 14, 15] none)
 (.seq (.seq (.region none [] [
 op 19 (.load (some 5) (tm 11)), mv 20 2, op 21 (.call .pure 15 [(tm 19), (tm 20)]), op 22 (.un .not (tm 21))] [1, 2, 3, 9, 11, 13, 14, 15, 22] none)
 (.cond (tm 22) (.exit 1)
 (.skip)))
 (.block 2 (.seq (.region none [] [
 mv 24 3, op 25 (.bin .eql .int (tm 24) (ci (1))), mv 26 25, mg 27 3 26 false, ⟨some 28, .bin .eql .int (tm 27) (ci (3)), some (26, false)⟩, op 29 (.pick (tm 26) (.cst (.bool true)) (tm 28)), mv 30 29, ⟨some 31, .faddr 1 (tm 11), some (30, true)⟩, ⟨some 32, .load none (tm 31), some (30, true)⟩, mg 33 1 30 true, ⟨some 34, .bin .eql .int (tm 32) (tm 33), some (30, true)⟩, op 35 (.pick (tm 30) (tm 34) (.cst (.bool false))), mv 23 35] [1, 2, 3, 9, 11, 13, 14, 15, 23] none)
 (.cond (tm 23) (.region none [] [
 mv 36 9, mv 37 1, op 38 (.faddr 2 (tm 11)), op 39 (.load none (tm 38)), op 40 (.faddr 0 (tm 11)), op 41 (.load none (tm 40)), op 42 (.build [.int .i64 0, .int .i64 0, .int .i64 0] [(0, 1, (tm 37)), (1, 1, (tm 39)), (2, 1, (tm 41))]), op 43 (.lit false 3 (.agg [.int .i64 0, .int .i64 0, .int .i64 0]) 1 [(0, (tm 42))]), op 44 (.append 3 24 (tm 36) (tm 43)), mv 9 44] [1, 2, 3, 9, 13, 14, 15] none)
 (.seq (.region none [] [
 mv 46 3, op 47 (.bin .eql .int (tm 46) (ci (2))), mv 48 47, mg 49 3 48 false, ⟨some 50, .bin .eql .int (tm 49) (ci (3)), some (48, false)⟩, op 51 (.pick (tm 48) (.cst (.bool true)) (tm 50)), mv 52 51, ⟨some 53, .faddr 2 (tm 11), some (52, true)⟩, ⟨some 54, .load none (tm 53), some (52, true)⟩, mg 55 1 52 true, ⟨some 56, .bin .eql .int (tm 54) (tm 55), some (52, true)⟩, op 57 (.pick (tm 52) (tm 56) (.cst (.bool false))), mv 45 57] [1, 2, 3, 9, 11, 13, 14, 15, 45] none)
 (.cond (tm 45) (.region none [] [
 mv 58 9, mv 59 1, op 60 (.faddr 1 (tm 11)), op 61 (.load none (tm 60)), op 62 (.faddr 0 (tm 11)), op 63 (.load none (tm 62)), op 64 (.build [.int .i64 0, .int .i64 0, .int .i64 0] [(0, 1, (tm 59)), (1, 1, (tm 61)), (2, 1, (tm 63))]), op 65 (.lit false 3 (.agg [.int .i64 0, .int .i64 0, .int .i64 0]) 1 [(0, (tm 64))]), op 66 (.append 3 24 (tm 58) (tm 65)), mv 9 66] [1, 2, 3, 9, 13, 14, 15] none)
 (.skip)))))))))
 (.region none [] [
 op 67 (.bin .add .int (tm 15) (ci (1))), mv 15 67] [1, 2, 3, 9, 13, 14, 15] (some 2))))

def c11 : ACode :=
 .seq (.region none [] [
 op 4 (.box 4 (tm 0)), op 8 (.mov (.cst (.sl false [])))] [1, 2, 3, 4] none)
 (.seq (.region none [] [
 op 9 (.newown 3)] [1, 2, 3, 4, 9] none)
 (.seq (.seq (.region none [] [
 op 12 (.faddr 1 (tm 4)), op 13 (.load none (tm 12)), op 14 (.len .slice (tm 13)), op 15 (.mov (ci (0)))] [1, 2, 3, 9, 13, 14, 15] none)
 (.block 0 (.loop l11_0_h l11_0_b)))
 (.seq (.region none [] [
 mv 68 9, op 69 (.call .share 36 [(tm 68), (.cst (.fn 37 []))])] [9] none)
 (.seq (.region none [] [
 mv 70 9, mv 8 70] [8] none)
 (.ret)))))

def a11 : AFunc := ⟨4, c11, [.tmp 8]⟩

def an11 : List RAnn := [
 { id := 0, live := [1, 2, 3, 4] },
 { id := 1, live := [1, 2, 3, 4, 9], ops := [(0, .own)] },
 { id := 2, live := [1, 2, 3, 9, 13, 14, 15] },
 { id := 3, live := [1, 2, 3, 9, 13, 14, 15, 16], hdr := [1, 2, 3, 9, 13, 14, 15] },
 { id := 4, live := [1, 2, 3, 9, 11, 13, 14, 15] },
 { id := 5, live := [1, 2, 3, 9, 11, 13, 14, 15, 22] },
 { id := 6, live := [1, 2, 3, 9, 11, 13, 14, 15, 23] },
 { id := 7, live := [1, 2, 3, 9, 13, 14, 15] },
 { id := 8, live := [1, 2, 3, 9, 11, 13, 14, 15, 45] },
 { id := 9, live := [1, 2, 3, 9, 13, 14, 15] },
 { id := 10, live := [1, 2, 3, 9, 13, 14, 15], trunc := some 2 },
 { id := 11, live := [9], ops := [(1, .mode .share)] },
 { id := 12, live := [8] }]

theorem comp11 : compF Try.prog an11 Try.f11 = some a11 := by kernel_rfl

/- graphdb/graphdbref07.Steps -/
/-- loop 0 of function 12 -/
def l12_0_h : List Nat := [1, 2, 3, 4, 9, 10, 11, 13]

def l12_0_b : ACode :=
 .seq (.seq (.region (some 35) [] [
 mv 50 13, op 51 (.bin .gtr .int (tm 50) (ci (0))), mv 52 51, ⟨some 53, .faddr 1 (tm 11), some (52, true)⟩, ⟨some 54, .load none (tm 53), some (52, true)⟩, mg 55 9 52 true, mg 56 13 52 true, ⟨some 57, .bin .sub .int (tm 56) (ci (1)), some (52, true)⟩, ⟨some 58, .iaddr 3 (tm 55) (tm 57), some (52, true)⟩, ⟨some 59, .faddr 1 (tm 58), some (52, true)⟩, ⟨some 60, .load none (tm 59), some (52, true)⟩, ⟨some 61, .bin .lss .int (tm 54) (tm 60), some (52, true)⟩, mg 62 61 52 true, ⟨some 63, .faddr 1 (tm 11), some (62, false)⟩, ⟨some 64, .load none (tm 63), some (62, false)⟩, mg 65 9 62 false, mg 66 13 62 false, ⟨some 67, .bin .sub .int (tm 66) (ci (1)), some (62, false)⟩, ⟨some 68, .iaddr 3 (tm 65) (tm 67), some (62, false)⟩, ⟨some 69, .faddr 1 (tm 68), some (62, false)⟩, ⟨some 70, .load none (tm 69), some (62, false)⟩, ⟨some 71, .bin .eql .int (tm 64) (tm 70), some (62, false)⟩, mg 72 71 62 false, ⟨some 73, .faddr 2 (tm 11), some (72, true)⟩, ⟨some 74, .load none (tm 73), some (72, true)⟩, mg 75 9 72 true, mg 76 13 72 true, ⟨some 77, .bin .sub .int (tm 76) (ci (1)), some (72, true)⟩, ⟨some 78, .iaddr 3 (tm 75) (tm 77), some (72, true)⟩, ⟨some 79, .faddr 2 (tm 78), some (72, true)⟩, ⟨some 80, .load none (tm 79), some (72, true)⟩, ⟨some 81, .bin .lss .int (tm 74) (tm 80), some (72, true)⟩, ⟨some 82, .pick (tm 72) (tm 81) (.cst (.bool false)), some (62, false)⟩, ⟨some 83, .pick (tm 62) (.cst (.bool true)) (tm 82), some (52, true)⟩, op 84 (.pick (tm 52) (tm 83) (.cst (.bool false)))] [1, 2, 3, 4, 9, 10, 11, 13, 84] none)
 (.cond (tm 84) (.skip)
 (.exit 2)))
 (.block 3 (.seq (.region none [] [
 mv 85 9, mv 86 13, mv 87 9, mv 88 13, op 89 (.bin .sub .int (tm 88) (ci (1))), op 90 (.iaddr 3 (tm 87) (tm 89)), op 91 (.load (some 3) (tm 90)), op 92 (.iaddr 3 (tm 85) (tm 86)), ⟨none, .store 3 (tm 92) (tm 91), none⟩] [1, 2, 3, 4, 9, 10, 11, 13] none)
 (.region none [] [
 mv 93 13, op 94 (.bin .sub .int (tm 93) (ci (1))), mv 13 94] [1, 2, 3, 4, 9, 10, 11, 13] none)))

/-- loop 1 of function 12 -/
def l12_1_h : List Nat := [1, 2, 3, 4, 9, 10]

def l12_1_b : ACode :=
 .seq (.seq (.region none [] [
 mv 14 10, op 15 (.faddr 1 (tm 4)), op 16 (.load none (tm 15)), op 17 (.len .slice (tm 16)), op 18 (.bin .lss .int (tm 14) (tm 17))] [1, 2, 3, 4, 9, 10, 18] none)
 (.cond (tm 18) (.skip)
 (.exit 0)))
 (.seq (.block 1 (.seq (.region none [] [
 op 22 (.faddr 1 (tm 4)), op 23 (.load none (tm 22)), mv 24 10, op 25 (.iaddr 5 (tm 23) (tm 24)), op 26 (.load (some 5) (tm 25)), mv 27 1, mv 28 3, op 29 (.call .pure 40 [(tm 26), (tm 27), (tm 28)]), mv 21 29, op 30 (.ext (tm 21) 0), op 31 (.ext (tm 21) 1), op 11 (.alloc 3 (.agg [.int .i64 0, .int .i64 0, .int .i64 0])), ⟨none, .store 3 (tm 11) (tm 30), none⟩, mv 12 31] [1, 2, 3, 4, 9, 10, 11, 12] none)
 (.seq (.seq (.region none [] [
 mv 32 12, op 33 (.un .not (tm 32)), mv 34 33, ⟨some 35, .faddr 1 (tm 4), some (34, false)⟩, ⟨some 36, .load none (tm 35), some (34, false)⟩, mg 37 10 34 false, ⟨some 38, .iaddr 5 (tm 36) (tm 37), some (34, false)⟩, ⟨some 39, .load (some 5) (tm 38), some (34, false)⟩, mg 40 2 34 false, ⟨some 41, .call .pure 41 [(tm 39), (tm 40)], some (34, false)⟩, ⟨some 42, .un .not (tm 41), some (34, false)⟩, op 43 (.pick (tm 34) (.cst (.bool true)) (tm 42))] [1, 2, 3, 4, 9, 10, 11, 43] none)
 (.cond (tm 43) (.exit 1)
 (.skip)))
 (.seq (.region none [] [
 mv 44 9, op 45 (.len .slice (tm 44)), mv 13 45] [1, 2, 3, 4, 9, 10, 11, 13] none)
 (.seq (.region none [] [
 mv 46 9, op 47 (.load (some 3) (tm 11)), op 48 (.lit false 3 (.agg [.int .i64 0, .int .i64 0, .int .i64 0]) 1 [(0, (tm 47))]), op 49 (.append 3 24 (tm 46) (tm 48)), mv 9 49] [1, 2, 3, 4, 9, 10, 11, 13] none)
 (.seq (.block 2 (.loop l12_0_h l12_0_b))
 (.region none [] [
 mv 95 9, mv 96 13, op 97 (.load (some 3) (tm 11)), op 98 (.iaddr 3 (tm 95) (tm 96)), ⟨none, .store 3 (tm 98) (tm 97), none⟩] [1, 2, 3, 4, 9, 10] none)))))))
 (.region none [] [
 mv 19 10, op 20 (.bin .add .int (tm 19) (ci (1))), mv 10 20] [1, 2, 3, 4, 9, 10] (some 2)))

def c12 : ACode :=
 .seq (.region none [] [
 op 4 (.box 4 (tm 0)), op 8 (.mov (.cst (.sl false [])))] [1, 2, 3, 4] none)
 (.seq (.region none [] [
 op 9 (.newown 3)] [1, 2, 3, 4, 9] none)
 (.seq (.seq (.region none [] [
 op 10 (.mov (ci (0)))] [1, 2, 3, 4, 9, 10] none)
 (.block 0 (.loop l12_1_h l12_1_b)))
 (.seq (.region none [] [
 mv 99 9, mv 8 99] [8] none)
 (.ret))))

def a12 : AFunc := ⟨4, c12, [.tmp 8]⟩

def an12 : List RAnn := [
 { id := 0, live := [1, 2, 3, 4] },
 { id := 1, live := [1, 2, 3, 4, 9], ops := [(0, .own)] },
 { id := 2, live := [1, 2, 3, 4, 9, 10] },
 { id := 3, live := [1, 2, 3, 4, 9, 10, 18], hdr := [1, 2, 3, 4, 9, 10] },
 { id := 5, live := [1, 2, 3, 4, 9, 10, 11, 12] },
 { id := 6, live := [1, 2, 3, 4, 9, 10, 11, 43] },
 { id := 7, live := [1, 2, 3, 4, 9, 10, 11, 13] },
 { id := 8, live := [1, 2, 3, 4, 9, 10, 11, 13] },
 { id := 9, head := some 35, live := [1, 2, 3, 4, 9, 10, 11, 13, 84], hdr := [1, 2, 3, 4, 9, 10, 11, 13] },
 { id := 10, live := [1, 2, 3, 4, 9, 10, 11, 13] },
 { id := 11, live := [1, 2, 3, 4, 9, 10, 11, 13] },
 { id := 12, live := [1, 2, 3, 4, 9, 10] },
 { id := 4, live := [1, 2, 3, 4, 9, 10], trunc := some 2 },
 { id := 13, live := [8] }]

theorem comp12 : compF Try.prog an12 Try.f12 = some a12 := by kernel_rfl

/- graphdb/graph.Check -/
/-- loop 0 of function 13 -/
def l13_0_h : List Nat := [1, 38, 39, 40]

def l13_0_b : ACode :=
 .seq (.region none [] [
 op 41 (.bin .lss .int (tm 40) (tm 39))] [1, 38, 39, 40, 41] none)
 (.seq (.cond (tm 41) (.skip)
 (.exit 0))
 (.seq (.block 1 (.seq (.region none [] [
 mv 42 40, op 43 (.iaddr 3 (tm 38) (tm 40)), op 44 (.load (some 3) (tm 43)), op 4 (.alloc 3 (.agg [.int .i64 0, .sl false [], .sl false []])), mv 3 42, ⟨none, .store 3 (tm 4) (tm 44), none⟩] [1, 3, 4, 38, 39, 40] none)
 (.seq (.seq (.region (some 14) [] [
 mv 45 3, op 46 (.bin .gtr .int (tm 45) (ci (0))), mv 47 46, ⟨some 48, .faddr 0 (tm 4), some (47, true)⟩, ⟨some 49, .load none (tm 48), some (47, true)⟩, ⟨some 50, .faddr 0 (tm 1), some (47, true)⟩, ⟨some 51, .load none (tm 50), some (47, true)⟩, mg 52 3 47 true, ⟨some 53, .bin .sub .int (tm 52) (ci (1)), some (47, true)⟩, ⟨some 54, .iaddr 3 (tm 51) (tm 53), some (47, true)⟩, ⟨some 55, .faddr 0 (tm 54), some (47, true)⟩, ⟨some 56, .load none (tm 55), some (47, true)⟩, ⟨some 57, .bin .leq .int (tm 49) (tm 56), some (47, true)⟩, op 58 (.pick (tm 47) (tm 57) (.cst (.bool false)))] [1, 4, 38, 39, 40, 58] none)
 (.cond (tm 58) (.seq (.region none [] [
 op 2 (.mov (ci (26)))] [2] none)
 (.ret))
 (.skip)))
 (.seq (.seq (.region none [] [
 op 59 (.faddr 0 (tm 4)), op 60 (.load none (tm 59)), op 61 (.bin .lss .int (tm 60) (ci (1))), mv 62 61, ⟨some 63, .faddr 0 (tm 4), some (62, false)⟩, ⟨some 64, .load none (tm 63), some (62, false)⟩, ⟨some 65, .faddr 2 (tm 1), some (62, false)⟩, ⟨some 66, .load none (tm 65), some (62, false)⟩, ⟨some 67, .bin .geq .int (tm 64) (tm 66), some (62, false)⟩, op 68 (.pick (tm 62) (.cst (.bool true)) (tm 67))] [1, 4, 38, 39, 40, 68] none)
 (.cond (tm 68) (.seq (.region none [] [
 op 2 (.mov (ci (1)))] [2] none)
 (.ret))
 (.skip)))
 (.seq (.region none [] [
 op 69 (.faddr 1 (tm 4)), op 70 (.load none (tm 69)), op 71 (.faddr 2 (tm 4)), op 72 (.load none (tm 71)), op 73 (.call .pure 42 [(tm 70), (tm 72)]), mv 5 73] [1, 5, 38, 39, 40] none)
 (.seq (.region none [] [
 mv 74 5, op 75 (.bin .neq .int (tm 74) (ci (0)))] [1, 5, 38, 39, 40, 75] none)
 (.cond (tm 75) (.seq (.region none [] [
 mv 76 5, mv 2 76] [2] none)
 (.ret))
 (.skip))))))))
 (.region none [] [
 op 77 (.bin .add .int (tm 40) (ci (1))), mv 40 77] [1, 38, 39, 40] (some 1))))

/-- loop 1 of function 13 -/
def l13_1_h : List Nat := [1, 79, 80, 81]

def l13_1_b : ACode :=
 .seq (.region none [] [
 op 82 (.bin .lss .int (tm 81) (tm 80))] [1, 79, 80, 81, 82] none)
 (.seq (.cond (tm 82) (.skip)
 (.exit 2))
 (.seq (.block 3 (.seq (.region none [] [
 mv 83 81, op 84 (.iaddr 5 (tm 79) (tm 81)), op 85 (.load (some 5) (tm 84)), op 7 (.alloc 5 (.agg [.int .i64 0, .int .i64 0, .int .i64 0, .str [], .sl false []])), mv 6 83, ⟨none, .store 5 (tm 7) (tm 85), none⟩] [1, 6, 7, 79, 80, 81] none)
 (.seq (.seq (.region (some 14) [] [
 mv 86 6, op 87 (.bin .gtr .int (tm 86) (ci (0))), mv 88 87, ⟨some 89, .faddr 0 (tm 7), some (88, true)⟩, ⟨some 90, .load none (tm 89), some (88, true)⟩, ⟨some 91, .faddr 1 (tm 1), some (88, true)⟩, ⟨some 92, .load none (tm 91), some (88, true)⟩, mg 93 6 88 true, ⟨some 94, .bin .sub .int (tm 93) (ci (1)), some (88, true)⟩, ⟨some 95, .iaddr 5 (tm 92) (tm 94), some (88, true)⟩, ⟨some 96, .faddr 0 (tm 95), some (88, true)⟩, ⟨some 97, .load none (tm 96), some (88, true)⟩, ⟨some 98, .bin .leq .int (tm 90) (tm 97), some (88, true)⟩, op 99 (.pick (tm 88) (tm 98) (.cst (.bool false)))] [1, 7, 79, 80, 81, 99] none)
 (.cond (tm 99) (.seq (.region none [] [
 op 2 (.mov (ci (26)))] [2] none)
 (.ret))
 (.skip)))
 (.seq (.seq (.region none [] [
 op 100 (.faddr 0 (tm 7)), op 101 (.load none (tm 100)), op 102 (.bin .lss .int (tm 101) (ci (1))), mv 103 102, ⟨some 104, .faddr 0 (tm 7), some (103, false)⟩, ⟨some 105, .load none (tm 104), some (103, false)⟩, ⟨some 106, .faddr 3 (tm 1), some (103, false)⟩, ⟨some 107, .load none (tm 106), some (103, false)⟩, ⟨some 108, .bin .geq .int (tm 105) (tm 107), some (103, false)⟩, op 109 (.pick (tm 103) (.cst (.bool true)) (tm 108))] [1, 7, 79, 80, 81, 109] none)
 (.cond (tm 109) (.seq (.region none [] [
 op 2 (.mov (ci (1)))] [2] none)
 (.ret))
 (.skip)))
 (.seq (.seq (.region none [] [
 op 110 (.faddr 0 (tm 1)), op 111 (.load none (tm 110)), op 112 (.faddr 1 (tm 7)), op 113 (.load none (tm 112)), op 114 (.call .pure 43 [(tm 111), (tm 113)]), op 115 (.un .not (tm 114)), mv 116 115, ⟨some 117, .faddr 0 (tm 1), some (116, false)⟩, ⟨some 118, .load none (tm 117), some (116, false)⟩, ⟨some 119, .faddr 2 (tm 7), some (116, false)⟩, ⟨some 120, .load none (tm 119), some (116, false)⟩, ⟨some 121, .call .pure 43 [(tm 118), (tm 120)], some (116, false)⟩, ⟨some 122, .un .not (tm 121), some (116, false)⟩, op 123 (.pick (tm 116) (.cst (.bool true)) (tm 122))] [1, 7, 79, 80, 81, 123] none)
 (.cond (tm 123) (.seq (.region none [] [
 op 2 (.mov (ci (10)))] [2] none)
 (.ret))
 (.skip)))
 (.seq (.seq (.region none [] [
 op 124 (.faddr 3 (tm 7)), op 125 (.load none (tm 124)), op 126 (.call .pure 35 [(tm 125)]), op 127 (.un .not (tm 126))] [1, 7, 79, 80, 81, 127] none)
 (.cond (tm 127) (.seq (.region none [] [
 op 2 (.mov (ci (6)))] [2] none)
 (.ret))
 (.skip)))
 (.seq (.region none [] [
 op 128 (.faddr 4 (tm 7)), op 129 (.load none (tm 128)), op 130 (.call .pure 42 [(.cst (.sl false [])), (tm 129)]), mv 8 130] [1, 8, 79, 80, 81] none)
 (.seq (.region none [] [
 mv 131 8, op 132 (.bin .neq .int (tm 131) (ci (0)))] [1, 8, 79, 80, 81, 132] none)
 (.cond (tm 132) (.seq (.region none [] [
 mv 133 8, mv 2 133] [2] none)
 (.ret))
 (.skip))))))))))
 (.region none [] [
 op 134 (.bin .add .int (tm 81) (ci (1))), mv 81 134] [1, 79, 80, 81] (some 1))))

def c13 : ACode :=
 .seq (.region none [] [
 op 1 (.box 4 (tm 0)), op 2 (.mov (ci (0)))] [1] none)
 (.seq (.seq (.region none [] [
 op 9 (.faddr 0 (tm 1)), op 10 (.load none (tm 9)), op 11 (.len .slice (tm 10)), op 12 (.bin .gtr .int (tm 11) (ci (2000))), mv 13 12, ⟨some 14, .faddr 1 (tm 1), some (13, false)⟩, ⟨some 15, .load none (tm 14), some (13, false)⟩, ⟨some 16, .len .slice (tm 15), some (13, false)⟩, ⟨some 17, .bin .gtr .int (tm 16) (ci (4000)), some (13, false)⟩, op 18 (.pick (tm 13) (.cst (.bool true)) (tm 17))] [1, 18] none)
 (.cond (tm 18) (.seq (.region none [] [
 op 2 (.mov (ci (4)))] [2] none)
 (.ret))
 (.skip)))
 (.seq (.seq (.region none [] [
 op 19 (.faddr 2 (tm 1)), op 20 (.load none (tm 19)), op 21 (.bin .lss .int (tm 20) (ci (1))), mv 22 21, ⟨some 23, .faddr 2 (tm 1), some (22, false)⟩, ⟨some 24, .load none (tm 23), some (22, false)⟩, ⟨some 25, .bin .gtr .int (tm 24) (ci (1000001)), some (22, false)⟩, op 26 (.pick (tm 22) (.cst (.bool true)) (tm 25)), mv 27 26, ⟨some 28, .faddr 3 (tm 1), some (27, false)⟩, ⟨some 29, .load none (tm 28), some (27, false)⟩, ⟨some 30, .bin .lss .int (tm 29) (ci (1)), some (27, false)⟩, op 31 (.pick (tm 27) (.cst (.bool true)) (tm 30)), mv 32 31, ⟨some 33, .faddr 3 (tm 1), some (32, false)⟩, ⟨some 34, .load none (tm 33), some (32, false)⟩, ⟨some 35, .bin .gtr .int (tm 34) (ci (1000001)), some (32, false)⟩, op 36 (.pick (tm 32) (.cst (.bool true)) (tm 35))] [1, 36] none)
 (.cond (tm 36) (.seq (.region none [] [
 op 2 (.mov (ci (1)))] [2] none)
 (.ret))
 (.skip)))
 (.seq (.seq (.region none [] [
 op 37 (.faddr 0 (tm 1)), op 38 (.load none (tm 37)), op 39 (.len .slice (tm 38)), op 40 (.mov (ci (0)))] [1, 38, 39, 40] none)
 (.block 0 (.loop l13_0_h l13_0_b)))
 (.seq (.seq (.region none [] [
 op 78 (.faddr 1 (tm 1)), op 79 (.load none (tm 78)), op 80 (.len .slice (tm 79)), op 81 (.mov (ci (0)))] [1, 79, 80, 81] none)
 (.block 2 (.loop l13_1_h l13_1_b)))
 (.seq (.region none [] [
 op 2 (.mov (ci (0)))] [2] none)
 (.ret))))))

def a13 : AFunc := ⟨1, c13, [.tmp 2]⟩

def an13 : List RAnn := [
 { id := 0, live := [1] },
 { id := 1, live := [1, 18] },
 { id := 2, live := [2] },
 { id := 3, live := [1, 36] },
 { id := 4, live := [2] },
 { id := 5, live := [1, 38, 39, 40] },
 { id := 6, live := [1, 38, 39, 40, 41], hdr := [1, 38, 39, 40] },
 { id := 7, live := [1, 3, 4, 38, 39, 40] },
 { id := 8, head := some 14, live := [1, 4, 38, 39, 40, 58] },
 { id := 9, live := [2] },
 { id := 10, live := [1, 4, 38, 39, 40, 68] },
 { id := 11, live := [2] },
 { id := 12, live := [1, 5, 38, 39, 40] },
 { id := 13, live := [1, 5, 38, 39, 40, 75] },
 { id := 14, live := [2] },
 { id := 15, live := [1, 38, 39, 40], trunc := some 1 },
 { id := 16, live := [1, 79, 80, 81] },
 { id := 17, live := [1, 79, 80, 81, 82], hdr := [1, 79, 80, 81] },
 { id := 18, live := [1, 6, 7, 79, 80, 81] },
 { id := 19, head := some 14, live := [1, 7, 79, 80, 81, 99] },
 { id := 20, live := [2] },
 { id := 21, live := [1, 7, 79, 80, 81, 109] },
 { id := 22, live := [2] },
 { id := 23, live := [1, 7, 79, 80, 81, 123] },
 { id := 24, live := [2] },
 { id := 25, live := [1, 7, 79, 80, 81, 127] },
 { id := 26, live := [2] },
 { id := 27, live := [1, 8, 79, 80, 81] },
 { id := 28, live := [1, 8, 79, 80, 81, 132] },
 { id := 29, live := [2] },
 { id := 30, live := [1, 79, 80, 81], trunc := some 1 },
 { id := 31, live := [2] }]

theorem comp13 : compF Try.prog an13 Try.f13 = some a13 := by kernel_rfl

/- graphdb/graphdblaw07.has -/
/-- loop 0 of function 14 -/
def l14_0_h : List Nat := [0, 3, 7, 8]

def l14_0_b : ACode :=
 .seq (.region none [] [
 op 9 (.bin .lss .int (tm 8) (tm 7))] [0, 3, 7, 8, 9] none)
 (.seq (.cond (tm 9) (.skip)
 (.exit 0))
 (.seq (.block 1 (.seq (.region none [] [
 mv 10 8, mv 5 10] [0, 3, 5, 7, 8] none)
 (.seq (.region (some 6) [] [
 mv 11 0, mv 12 5, op 13 (.iaddr 3 (tm 11) (tm 12)), op 14 (.load (some 3) (tm 13)), op 15 (.load (some 3) (tm 3)), op 16 (.bin .eql (.flat [.int, .int, .int]) (tm 14) (tm 15))] [0, 3, 7, 8, 16] none)
 (.cond (tm 16) (.seq (.region none [] [
 op 4 (.mov (.cst (.bool true)))] [4] none)
 (.ret))
 (.skip)))))
 (.region none [] [
 op 17 (.bin .add .int (tm 8) (ci (1))), mv 8 17] [0, 3, 7, 8] none)))

def c14 : ACode :=
 .seq (.region none [] [
 op 3 (.box 3 (tm 1)), op 4 (.mov (.cst (.bool false)))] [0, 3] none)
 (.seq (.seq (.region none [] [
 mv 6 0, op 7 (.len .slice (tm 6)), op 8 (.mov (ci (0)))] [0, 3, 7, 8] none)
 (.block 0 (.loop l14_0_h l14_0_b)))
 (.seq (.region none [] [
 op 4 (.mov (.cst (.bool false)))] [4] none)
 (.ret)))

def a14 : AFunc := ⟨2, c14, [.tmp 4]⟩

def an14 : List RAnn := [
 { id := 0, live := [0, 3] },
 { id := 1, live := [0, 3, 7, 8] },
 { id := 2, live := [0, 3, 7, 8, 9], hdr := [0, 3, 7, 8] },
 { id := 3, live := [0, 3, 5, 7, 8] },
 { id := 4, head := some 6, live := [0, 3, 7, 8, 16] },
 { id := 5, live := [4] },
 { id := 6, live := [0, 3, 7, 8] },
 { id := 7, live := [4] }]

theorem comp14 : compF Try.prog an14 Try.f14 = some a14 := by kernel_rfl

/- graphdb/graph.HasType -/
def c15 : ACode :=
 .seq (.region none [] [
 op 2 (.box 5 (tm 0)), op 4 (.mov (.cst (.bool false)))] [1, 2] none)
 (.seq (.region none [] [
 mv 5 1, op 6 (.len .slice (tm 5)), op 7 (.bin .eql .int (tm 6) (ci (0))), mv 8 7, mg 9 1 8 false, ⟨some 10, .faddr 3 (tm 2), some (8, false)⟩, ⟨some 11, .load none (tm 10), some (8, false)⟩, ⟨some 12, .call .pure 44 [(tm 9), (tm 11)], some (8, false)⟩, op 13 (.pick (tm 8) (.cst (.bool true)) (tm 12)), mv 4 13] [4] none)
 (.ret))

def a15 : AFunc := ⟨2, c15, [.tmp 4]⟩

def an15 : List RAnn := [
 { id := 0, live := [1, 2] },
 { id := 1, live := [4] }]

theorem comp15 : compF Try.prog an15 Try.f15 = some a15 := by kernel_rfl

/- graphdb/graph.Node -/
/-- loop 0 of function 16 -/
def l16_0_h : List Nat := [1, 4, 9, 10, 11]

def l16_0_b : ACode :=
 .seq (.region none [] [
 op 12 (.bin .lss .int (tm 11) (tm 10))] [1, 4, 9, 10, 11, 12] none)
 (.seq (.cond (tm 12) (.skip)
 (.exit 0))
 (.seq (.block 1 (.seq (.region none [] [
 op 13 (.iaddr 3 (tm 9) (tm 11)), op 14 (.load (some 3) (tm 13)), op 7 (.alloc 3 (.agg [.int .i64 0, .sl false [], .sl false []])), ⟨none, .store 3 (tm 7) (tm 14), none⟩] [1, 4, 7, 9, 10, 11] none)
 (.seq (.region none [] [
 op 15 (.faddr 0 (tm 7)), op 16 (.load none (tm 15)), mv 17 1, op 18 (.bin .eql .int (tm 16) (tm 17))] [1, 4, 7, 9, 10, 11, 18] none)
 (.cond (tm 18) (.seq (.region (some 8) [] [
 mv 19 1, op 20 (.faddr 1 (tm 7)), op 21 (.load none (tm 20)), op 22 (.call .pure 45 [(tm 21)]), op 23 (.faddr 2 (tm 7)), op 24 (.load none (tm 23)), op 25 (.call .pure 46 [(tm 24)]), op 26 (.build [.int .i64 0, .sl false [], .sl false []] [(0, 1, (tm 19)), (1, 1, (tm 22)), (2, 1, (tm 25))]), ⟨none, .store 3 (tm 4) (tm 26), none⟩, op 5 (.mov (.cst (.bool true)))] [4, 5] none)
 (.ret))
 (.skip)))))
 (.region none [] [
 op 27 (.bin .add .int (tm 11) (ci (1))), mv 11 27] [1, 4, 9, 10, 11] (some 2))))

def c16 : ACode :=
 .seq (.region none [] [
 op 2 (.box 4 (tm 0)), op 4 (.alloc 3 (.agg [.int .i64 0, .sl false [], .sl false []])), op 5 (.mov (.cst (.bool false)))] [1, 2, 4] none)
 (.seq (.seq (.region none [] [
 op 8 (.faddr 0 (tm 2)), op 9 (.load none (tm 8)), op 10 (.len .slice (tm 9)), op 11 (.mov (ci (0)))] [1, 4, 9, 10, 11] none)
 (.block 0 (.loop l16_0_h l16_0_b)))
 (.seq (.region none [] [
 op 28 (.build [.int .i64 0, .sl false [], .sl false []] []), ⟨none, .store 3 (tm 4) (tm 28), none⟩, op 5 (.mov (.cst (.bool false)))] [4, 5] none)
 (.ret)))

def a16 : AFunc := ⟨2, c16, [.cell 4 (some 3), .tmp 5]⟩

def an16 : List RAnn := [
 { id := 0, live := [1, 2, 4] },
 { id := 1, live := [1, 4, 9, 10, 11] },
 { id := 2, live := [1, 4, 9, 10, 11, 12], hdr := [1, 4, 9, 10, 11] },
 { id := 3, live := [1, 4, 7, 9, 10, 11] },
 { id := 4, live := [1, 4, 7, 9, 10, 11, 18] },
 { id := 5, head := some 8, live := [4, 5] },
 { id := 6, live := [1, 4, 9, 10, 11], trunc := some 2 },
 { id := 7, live := [4, 5] }]

theorem comp16 : compF Try.prog an16 Try.f16 = some a16 := by kernel_rfl

/- graphdb/graphdbref07.Node -/
/-- loop 0 of function 17 -/
def l17_0_h : List Nat := [1, 2, 4, 6]

def l17_0_b : ACode :=
 .seq (.seq (.region none [] [
 mv 7 6, op 8 (.faddr 0 (tm 2)), op 9 (.load none (tm 8)), op 10 (.len .slice (tm 9)), op 11 (.bin .lss .int (tm 7) (tm 10))] [1, 2, 4, 6, 11] none)
 (.cond (tm 11) (.skip)
 (.exit 0)))
 (.seq (.block 1 (.seq (.region none [] [
 op 14 (.faddr 0 (tm 2)), op 15 (.load none (tm 14)), mv 16 6, op 17 (.iaddr 3 (tm 15) (tm 16)), op 18 (.faddr 0 (tm 17)), op 19 (.load none (tm 18)), mv 20 1, op 21 (.bin .eql .int (tm 19) (tm 20))] [1, 2, 4, 6, 21] none)
 (.cond (tm 21) (.seq (.region none [] [
 op 22 (.faddr 0 (tm 2)), op 23 (.load none (tm 22)), mv 24 6, op 25 (.iaddr 3 (tm 23) (tm 24)), op 26 (.load (some 3) (tm 25)), ⟨none, .store 3 (tm 4) (tm 26), none⟩, op 5 (.mov (.cst (.bool true)))] [4, 5] none)
 (.ret))
 (.skip))))
 (.region none [] [
 mv 12 6, op 13 (.bin .add .int (tm 12) (ci (1))), mv 6 13] [1, 2, 4, 6] none))

def c17 : ACode :=
 .seq (.region none [] [
 op 2 (.box 4 (tm 0)), op 4 (.alloc 3 (.agg [.int .i64 0, .sl false [], .sl false []])), op 5 (.mov (.cst (.bool false)))] [1, 2, 4] none)
 (.seq (.seq (.region none [] [
 op 6 (.mov (ci (0)))] [1, 2, 4, 6] none)
 (.block 0 (.loop l17_0_h l17_0_b)))
 (.seq (.region none [] [
 op 27 (.build [.int .i64 0, .sl false [], .sl false []] []), ⟨none, .store 3 (tm 4) (tm 27), none⟩, op 5 (.mov (.cst (.bool false)))] [4, 5] none)
 (.ret)))

def a17 : AFunc := ⟨2, c17, [.cell 4 (some 3), .tmp 5]⟩

def an17 : List RAnn := [
 { id := 0, live := [1, 2, 4] },
 { id := 1, live := [1, 2, 4, 6] },
 { id := 2, live := [1, 2, 4, 6, 11], hdr := [1, 2, 4, 6] },
 { id := 4, live := [1, 2, 4, 6, 21] },
 { id := 5, live := [4, 5] },
 { id := 3, live := [1, 2, 4, 6] },
 { id := 6, live := [4, 5] }]

theorem comp17 : compF Try.prog an17 Try.f17 = some a17 := by kernel_rfl

/- graphdb/graph.Edge -/
/-- loop 0 of function 18 -/
def l18_0_h : List Nat := [1, 4, 9, 10, 11]

def l18_0_b : ACode :=
 .seq (.region none [] [
 op 12 (.bin .lss .int (tm 11) (tm 10))] [1, 4, 9, 10, 11, 12] none)
 (.seq (.cond (tm 12) (.skip)
 (.exit 0))
 (.seq (.block 1 (.seq (.region none [] [
 op 13 (.iaddr 5 (tm 9) (tm 11)), op 14 (.load (some 5) (tm 13)), op 7 (.alloc 5 (.agg [.int .i64 0, .int .i64 0, .int .i64 0, .str [], .sl false []])), ⟨none, .store 5 (tm 7) (tm 14), none⟩] [1, 4, 7, 9, 10, 11] none)
 (.seq (.region none [] [
 op 15 (.faddr 0 (tm 7)), op 16 (.load none (tm 15)), mv 17 1, op 18 (.bin .eql .int (tm 16) (tm 17))] [1, 4, 7, 9, 10, 11, 18] none)
 (.cond (tm 18) (.seq (.region none [] [
 op 19 (.faddr 4 (tm 7)), op 20 (.load none (tm 19)), op 21 (.call .pure 46 [(tm 20)]), op 22 (.faddr 4 (tm 7)), ⟨none, .store 1 (tm 22) (tm 21), none⟩] [4, 7] none)
 (.seq (.region none [] [
 op 23 (.load (some 5) (tm 7)), ⟨none, .store 5 (tm 4) (tm 23), none⟩, op 5 (.mov (.cst (.bool true)))] [4, 5] none)
 (.ret)))
 (.skip)))))
 (.region none [] [
 op 24 (.bin .add .int (tm 11) (ci (1))), mv 11 24] [1, 4, 9, 10, 11] (some 2))))

def c18 : ACode :=
 .seq (.region none [] [
 op 2 (.box 4 (tm 0)), op 4 (.alloc 5 (.agg [.int .i64 0, .int .i64 0, .int .i64 0, .str [], .sl false []])), op 5 (.mov (.cst (.bool false)))] [1, 2, 4] none)
 (.seq (.seq (.region none [] [
 op 8 (.faddr 1 (tm 2)), op 9 (.load none (tm 8)), op 10 (.len .slice (tm 9)), op 11 (.mov (ci (0)))] [1, 4, 9, 10, 11] none)
 (.block 0 (.loop l18_0_h l18_0_b)))
 (.seq (.region none [] [
 op 25 (.build [.int .i64 0, .int .i64 0, .int .i64 0, .str [], .sl false []] []), ⟨none, .store 5 (tm 4) (tm 25), none⟩, op 5 (.mov (.cst (.bool false)))] [4, 5] none)
 (.ret)))

def a18 : AFunc := ⟨2, c18, [.cell 4 (some 5), .tmp 5]⟩

def an18 : List RAnn := [
 { id := 0, live := [1, 2, 4] },
 { id := 1, live := [1, 4, 9, 10, 11] },
 { id := 2, live := [1, 4, 9, 10, 11, 12], hdr := [1, 4, 9, 10, 11] },
 { id := 3, live := [1, 4, 7, 9, 10, 11] },
 { id := 4, live := [1, 4, 7, 9, 10, 11, 18] },
 { id := 5, live := [4, 7] },
 { id := 6, live := [4, 5] },
 { id := 7, live := [1, 4, 9, 10, 11], trunc := some 2 },
 { id := 8, live := [4, 5] }]

theorem comp18 : compF Try.prog an18 Try.f18 = some a18 := by kernel_rfl

/- graphdb/graphdbref07.Edge -/
/-- loop 0 of function 19 -/
def l19_0_h : List Nat := [1, 2, 4, 6]

def l19_0_b : ACode :=
 .seq (.seq (.region none [] [
 mv 7 6, op 8 (.faddr 1 (tm 2)), op 9 (.load none (tm 8)), op 10 (.len .slice (tm 9)), op 11 (.bin .lss .int (tm 7) (tm 10))] [1, 2, 4, 6, 11] none)
 (.cond (tm 11) (.skip)
 (.exit 0)))
 (.seq (.block 1 (.seq (.region none [] [
 op 14 (.faddr 1 (tm 2)), op 15 (.load none (tm 14)), mv 16 6, op 17 (.iaddr 5 (tm 15) (tm 16)), op 18 (.faddr 0 (tm 17)), op 19 (.load none (tm 18)), mv 20 1, op 21 (.bin .eql .int (tm 19) (tm 20))] [1, 2, 4, 6, 21] none)
 (.cond (tm 21) (.seq (.region none [] [
 op 22 (.faddr 1 (tm 2)), op 23 (.load none (tm 22)), mv 24 6, op 25 (.iaddr 5 (tm 23) (tm 24)), op 26 (.load (some 5) (tm 25)), ⟨none, .store 5 (tm 4) (tm 26), none⟩, op 5 (.mov (.cst (.bool true)))] [4, 5] none)
 (.ret))
 (.skip))))
 (.region none [] [
 mv 12 6, op 13 (.bin .add .int (tm 12) (ci (1))), mv 6 13] [1, 2, 4, 6] none))

def c19 : ACode :=
 .seq (.region none [] [
 op 2 (.box 4 (tm 0)), op 4 (.alloc 5 (.agg [.int .i64 0, .int .i64 0, .int .i64 0, .str [], .sl false []])), op 5 (.mov (.cst (.bool false)))] [1, 2, 4] none)
 (.seq (.seq (.region none [] [
 op 6 (.mov (ci (0)))] [1, 2, 4, 6] none)
 (.block 0 (.loop l19_0_h l19_0_b)))
 (.seq (.region none [] [
 op 27 (.build [.int .i64 0, .int .i64 0, .int .i64 0, .str [], .sl false []] []), ⟨none, .store 5 (tm 4) (tm 27), none⟩, op 5 (.mov (.cst (.bool false)))] [4, 5] none)
 (.ret)))

def a19 : AFunc := ⟨2, c19, [.cell 4 (some 5), .tmp 5]⟩

def an19 : List RAnn := [
 { id := 0, live := [1, 2, 4] },
 { id := 1, live := [1, 2, 4, 6] },
 { id := 2, live := [1, 2, 4, 6, 11], hdr := [1, 2, 4, 6] },
 { id := 4, live := [1, 2, 4, 6, 21] },
 { id := 5, live := [4, 5] },
 { id := 3, live := [1, 2, 4, 6] },
 { id := 6, live := [4, 5] }]

theorem comp19 : compF Try.prog an19 Try.f19 = some a19 := by kernel_rfl

/- graphdb/graphdbref07.SameParts -/
/-- loop 0 of function 20 -/
def l20_0_h : List Nat := [2, 3, 5]

def l20_0_b : ACode :=
 .seq (.seq (.region none [] [
 mv 27 5, op 28 (.faddr 0 (tm 2)), op 29 (.load none (tm 28)), op 30 (.len .slice (tm 29)), op 31 (.bin .lss .int (tm 27) (tm 30))] [2, 3, 5, 31] none)
 (.cond (tm 31) (.skip)
 (.exit 0)))
 (.seq (.block 1 (.seq (.par 14 [(1, 10), (3, 10), (4, 10), (6, 10), (8, 10), (9, 10), (1, 11), (3, 11), (4, 11), (6, 11), (8, 11), (9, 11), (10, 11), (6, 12), (8, 12), (9, 12)] [] [
 op 34 (.faddr 0 (tm 2)), op 35 (.load none (tm 34)), mv 36 5, op 37 (.iaddr 3 (tm 35) (tm 36)), op 38 (.load (some 3) (tm 37)), op 39 (.faddr 0 (tm 3)), op 40 (.load none (tm 39)), mv 41 5, op 42 (.iaddr 3 (tm 40) (tm 41)), op 43 (.load (some 3) (tm 42)), op 6 (.alloc 3 (.agg [.int .i64 0, .sl false [], .sl false []])), op 7 (.alloc 3 (.agg [.int .i64 0, .sl false [], .sl false []])), ⟨none, .store 3 (tm 6) (tm 38), none⟩, ⟨none, .store 3 (tm 7) (tm 43), none⟩] [2, 3, 5, 6, 7] none)
 (.seq (.region none [] [
 op 44 (.faddr 0 (tm 6)), op 45 (.load none (tm 44)), op 46 (.faddr 0 (tm 7)), op 47 (.load none (tm 46)), op 48 (.bin .neq .int (tm 45) (tm 47)), mv 49 48, ⟨some 50, .faddr 1 (tm 6), some (49, false)⟩, ⟨some 51, .load none (tm 50), some (49, false)⟩, ⟨some 52, .faddr 1 (tm 7), some (49, false)⟩, ⟨some 53, .load none (tm 52), some (49, false)⟩, ⟨some 54, .call .pure 27 [(tm 51), (tm 53)], some (49, false)⟩, ⟨some 55, .un .not (tm 54), some (49, false)⟩, op 56 (.pick (tm 49) (.cst (.bool true)) (tm 55)), mv 57 56, ⟨some 58, .faddr 2 (tm 6), some (57, false)⟩, ⟨some 59, .load none (tm 58), some (57, false)⟩, ⟨some 60, .faddr 2 (tm 7), some (57, false)⟩, ⟨some 61, .load none (tm 60), some (57, false)⟩, ⟨some 62, .call .pure 47 [(tm 59), (tm 61)], some (57, false)⟩, ⟨some 63, .un .not (tm 62), some (57, false)⟩, op 64 (.pick (tm 57) (.cst (.bool true)) (tm 63))] [2, 3, 5, 64] none)
 (.cond (tm 64) (.seq (.region none [] [
 op 4 (.mov (.cst (.bool false)))] [4] none)
 (.ret))
 (.skip)))))
 (.region none [] [
 mv 32 5, op 33 (.bin .add .int (tm 32) (ci (1))), mv 5 33] [2, 3, 5] (some 2)))

/-- loop 1 of function 20 -/
def l20_1_h : List Nat := [2, 3, 8]

def l20_1_b : ACode :=
 .seq (.seq (.region none [] [
 mv 65 8, op 66 (.faddr 1 (tm 2)), op 67 (.load none (tm 66)), op 68 (.len .slice (tm 67)), op 69 (.bin .lss .int (tm 65) (tm 68))] [2, 3, 8, 69] none)
 (.cond (tm 69) (.skip)
 (.exit 2)))
 (.seq (.block 3 (.seq (.par 14 [(1, 10), (3, 10), (4, 10), (6, 10), (8, 10), (9, 10), (1, 11), (3, 11), (4, 11), (6, 11), (8, 11), (9, 11), (10, 11), (6, 12), (8, 12), (9, 12)] [] [
 op 72 (.faddr 1 (tm 2)), op 73 (.load none (tm 72)), mv 74 8, op 75 (.iaddr 5 (tm 73) (tm 74)), op 76 (.load (some 5) (tm 75)), op 77 (.faddr 1 (tm 3)), op 78 (.load none (tm 77)), mv 79 8, op 80 (.iaddr 5 (tm 78) (tm 79)), op 81 (.load (some 5) (tm 80)), op 9 (.alloc 5 (.agg [.int .i64 0, .int .i64 0, .int .i64 0, .str [], .sl false []])), op 10 (.alloc 5 (.agg [.int .i64 0, .int .i64 0, .int .i64 0, .str [], .sl false []])), ⟨none, .store 5 (tm 9) (tm 76), none⟩, ⟨none, .store 5 (tm 10) (tm 81), none⟩] [2, 3, 8, 9, 10] none)
 (.seq (.region none [] [
 op 82 (.faddr 0 (tm 9)), op 83 (.load none (tm 82)), op 84 (.faddr 0 (tm 10)), op 85 (.load none (tm 84)), op 86 (.bin .neq .int (tm 83) (tm 85)), mv 87 86, ⟨some 88, .faddr 1 (tm 9), some (87, false)⟩, ⟨some 89, .load none (tm 88), some (87, false)⟩, ⟨some 90, .faddr 1 (tm 10), some (87, false)⟩, ⟨some 91, .load none (tm 90), some (87, false)⟩, ⟨some 92, .bin .neq .int (tm 89) (tm 91), some (87, false)⟩, op 93 (.pick (tm 87) (.cst (.bool true)) (tm 92)), mv 94 93, ⟨some 95, .faddr 2 (tm 9), some (94, false)⟩, ⟨some 96, .load none (tm 95), some (94, false)⟩, ⟨some 97, .faddr 2 (tm 10), some (94, false)⟩, ⟨some 98, .load none (tm 97), some (94, false)⟩, ⟨some 99, .bin .neq .int (tm 96) (tm 98), some (94, false)⟩, op 100 (.pick (tm 94) (.cst (.bool true)) (tm 99)), mv 101 100, ⟨some 102, .faddr 3 (tm 9), some (101, false)⟩, ⟨some 103, .load none (tm 102), some (101, false)⟩, ⟨some 104, .faddr 3 (tm 10), some (101, false)⟩, ⟨some 105, .load none (tm 104), some (101, false)⟩, ⟨some 106, .bin .neq .str (tm 103) (tm 105), some (101, false)⟩, op 107 (.pick (tm 101) (.cst (.bool true)) (tm 106)), mv 108 107, ⟨some 109, .faddr 4 (tm 9), some (108, false)⟩, ⟨some 110, .load none (tm 109), some (108, false)⟩, ⟨some 111, .faddr 4 (tm 10), some (108, false)⟩, ⟨some 112, .load none (tm 111), some (108, false)⟩, ⟨some 113, .call .pure 47 [(tm 110), (tm 112)], some (108, false)⟩, ⟨some 114, .un .not (tm 113), some (108, false)⟩, op 115 (.pick (tm 108) (.cst (.bool true)) (tm 114))] [2, 3, 8, 115] none)
 (.cond (tm 115) (.seq (.region none [] [
 op 4 (.mov (.cst (.bool false)))] [4] none)
 (.ret))
 (.skip)))))
 (.region none [] [
 mv 70 8, op 71 (.bin .add .int (tm 70) (ci (1))), mv 8 71] [2, 3, 8] (some 2)))

def c20 : ACode :=
 .seq (.region none [] [
 op 2 (.box 4 (tm 0)), op 3 (.box 4 (tm 1)), op 4 (.mov (.cst (.bool false)))] [2, 3] none)
 (.seq (.seq (.region none [] [
 op 11 (.faddr 0 (tm 2)), op 12 (.load none (tm 11)), op 13 (.len .slice (tm 12)), op 14 (.faddr 0 (tm 3)), op 15 (.load none (tm 14)), op 16 (.len .slice (tm 15)), op 17 (.bin .neq .int (tm 13) (tm 16)), mv 18 17, ⟨some 19, .faddr 1 (tm 2), some (18, false)⟩, ⟨some 20, .load none (tm 19), some (18, false)⟩, ⟨some 21, .len .slice (tm 20), some (18, false)⟩, ⟨some 22, .faddr 1 (tm 3), some (18, false)⟩, ⟨some 23, .load none (tm 22), some (18, false)⟩, ⟨some 24, .len .slice (tm 23), some (18, false)⟩, ⟨some 25, .bin .neq .int (tm 21) (tm 24), some (18, false)⟩, op 26 (.pick (tm 18) (.cst (.bool true)) (tm 25))] [2, 3, 26] none)
 (.cond (tm 26) (.seq (.region none [] [
 op 4 (.mov (.cst (.bool false)))] [4] none)
 (.ret))
 (.skip)))
 (.seq (.seq (.region none [] [
 op 5 (.mov (ci (0)))] [2, 3, 5] none)
 (.block 0 (.loop l20_0_h l20_0_b)))
 (.seq (.seq (.region none [] [
 op 8 (.mov (ci (0)))] [2, 3, 8] none)
 (.block 2 (.loop l20_1_h l20_1_b)))
 (.seq (.region none [] [
 op 4 (.mov (.cst (.bool true)))] [4] none)
 (.ret)))))

def a20 : AFunc := ⟨2, c20, [.tmp 4]⟩

def an20 : List RAnn := [
 { id := 0, live := [2, 3] },
 { id := 1, live := [2, 3, 26] },
 { id := 2, live := [4] },
 { id := 3, live := [2, 3, 5] },
 { id := 4, live := [2, 3, 5, 31], hdr := [2, 3, 5] },
 { id := 6, head := some 14, live := [2, 3, 5, 6, 7], par := true },
 { id := 7, live := [2, 3, 5, 64] },
 { id := 8, live := [4] },
 { id := 5, live := [2, 3, 5], trunc := some 2 },
 { id := 9, live := [2, 3, 8] },
 { id := 10, live := [2, 3, 8, 69], hdr := [2, 3, 8] },
 { id := 12, head := some 14, live := [2, 3, 8, 9, 10], par := true },
 { id := 13, live := [2, 3, 8, 115] },
 { id := 14, live := [4] },
 { id := 11, live := [2, 3, 8], trunc := some 2 },
 { id := 15, live := [4] }]

theorem comp20 : compF Try.prog an20 Try.f20 = some a20 := by kernel_rfl

/- graphdb/graph.HasLabel -/
def c21 : ACode :=
 .seq (.region none [] [
 op 2 (.box 3 (tm 0)), op 4 (.mov (.cst (.bool false)))] [1, 2] none)
 (.seq (.region none [] [
 op 5 (.faddr 1 (tm 2)), op 6 (.load none (tm 5)), mv 7 1, op 8 (.call .pure 44 [(tm 6), (tm 7)]), mv 4 8] [4] none)
 (.ret))

def a21 : AFunc := ⟨2, c21, [.tmp 4]⟩

def an21 : List RAnn := [
 { id := 0, live := [1, 2] },
 { id := 1, live := [4] }]

theorem comp21 : compF Try.prog an21 Try.f21 = some a21 := by kernel_rfl

/- graphdb/graphdbref07.HasLabel -/
def c22 : ACode :=
 .seq (.region none [] [
 op 2 (.box 3 (tm 0)), op 4 (.mov (.cst (.bool false)))] [1, 2] none)
 (.seq (.region none [] [
 op 5 (.faddr 1 (tm 2)), op 6 (.load none (tm 5)), mv 7 1, op 8 (.call .pure 48 [(tm 6), (tm 7)]), mv 4 8] [4] none)
 (.ret))

def a22 : AFunc := ⟨2, c22, [.tmp 4]⟩

def an22 : List RAnn := [
 { id := 0, live := [1, 2] },
 { id := 1, live := [4] }]

theorem comp22 : compF Try.prog an22 Try.f22 = some a22 := by kernel_rfl

/- graphdb/graphdbref04.Order -/
def c23 : ACode :=
 .seq (.region none [] [
 op 2 (.box 5 (tm 0)), op 3 (.box 5 (tm 1)), op 4 (.mov (ci (0)))] [2, 3] none)
 (.seq (.region (some 6) [] [
 op 12 (.load (some 5) (tm 2)), op 13 (.call .pure 49 [(tm 12)]), op 14 (.load (some 5) (tm 3)), op 15 (.call .pure 49 [(tm 14)]), mv 5 13, mv 6 15] [2, 3, 5, 6] none)
 (.seq (.seq (.region none [] [
 mv 16 5, mv 17 6, op 18 (.bin .neq .bool (tm 16) (tm 17))] [2, 3, 5, 18] none)
 (.cond (tm 18) (.seq (.region none [] [
 mv 19 5, op 20 (.call .pure 50 [(tm 19)]), op 21 (.bin .sub .int (ci (1)) (tm 20)), mv 4 21] [4] none)
 (.ret))
 (.skip)))
 (.seq (.seq (.region none [] [
 mv 22 5, op 23 (.un .not (tm 22))] [2, 3, 23] none)
 (.cond (tm 23) (.seq (.region none [] [
 op 24 (.load (some 5) (tm 2)), op 25 (.load (some 5) (tm 3)), op 26 (.call .pure 51 [(tm 24), (tm 25)]), mv 4 26] [4] none)
 (.ret))
 (.skip)))
 (.seq (.seq (.region (some 8) [] [
 op 27 (.faddr 0 (tm 2)), op 28 (.load none (tm 27)), op 29 (.call .pure 53 [(tm 28)]), op 30 (.faddr 0 (tm 3)), op 31 (.load none (tm 30)), op 32 (.call .pure 53 [(tm 31)]), op 33 (.call .pure 52 [(tm 29), (tm 32)]), mv 7 33] [2, 3, 7] none)
 (.seq (.region none [] [
 mv 34 7, op 35 (.bin .neq .int (tm 34) (ci (0)))] [2, 3, 7, 35] none)
 (.cond (tm 35) (.seq (.region none [] [
 mv 36 7, mv 4 36] [4] none)
 (.ret))
 (.skip))))
 (.seq (.region none [] [
 op 38 (.load (some 5) (tm 2)), op 39 (.call .pure 54 [(tm 38)]), mv 37 39, op 40 (.ext (tm 37) 0), op 41 (.ext (tm 37) 1), op 8 (.alloc 2 (.agg [.int .i64 0, .int .i64 0])), ⟨none, .store 2 (tm 8) (tm 40), none⟩, mv 9 41] [2, 3, 8, 9] none)
 (.seq (.region none [] [
 op 43 (.load (some 5) (tm 3)), op 44 (.call .pure 54 [(tm 43)]), mv 42 44, op 45 (.ext (tm 42) 0), op 46 (.ext (tm 42) 1), op 10 (.alloc 2 (.agg [.int .i64 0, .int .i64 0])), ⟨none, .store 2 (tm 10) (tm 45), none⟩, mv 11 46] [2, 3, 8, 9, 10] none)
 (.seq (.seq (.region none [] [
 mv 47 9] [2, 3, 8, 10, 47] none)
 (.cond (tm 47) (.seq (.region none [] [
 op 48 (.load (some 2) (tm 8)), op 49 (.load (some 2) (tm 10)), op 50 (.call .pure 55 [(tm 48), (tm 49)]), mv 4 50] [4] none)
 (.ret))
 (.skip)))
 (.seq (.region none [] [
 op 51 (.load (some 5) (tm 2)), op 52 (.load (some 5) (tm 3)), op 53 (.call .pure 51 [(tm 51), (tm 52)]), mv 4 53] [4] none)
 (.ret)))))))))

def a23 : AFunc := ⟨2, c23, [.tmp 4]⟩

def an23 : List RAnn := [
 { id := 0, live := [2, 3] },
 { id := 1, head := some 6, live := [2, 3, 5, 6] },
 { id := 2, live := [2, 3, 5, 18] },
 { id := 3, live := [4] },
 { id := 4, live := [2, 3, 23] },
 { id := 5, live := [4] },
 { id := 6, head := some 8, live := [2, 3, 7] },
 { id := 7, live := [2, 3, 7, 35] },
 { id := 8, live := [4] },
 { id := 9, live := [2, 3, 8, 9] },
 { id := 10, live := [2, 3, 8, 9, 10] },
 { id := 11, live := [2, 3, 8, 10, 47] },
 { id := 12, live := [4] },
 { id := 13, live := [4] }]

theorem comp23 : compF Try.prog an23 Try.f23 = some a23 := by kernel_rfl

/- graphdb/graph.Prop -/
/-- loop 0 of function 24 -/
def l24_0_h : List Nat := [1, 4, 7, 8, 9]

def l24_0_b : ACode :=
 .seq (.region none [] [
 op 10 (.bin .lss .int (tm 9) (tm 8))] [1, 4, 7, 8, 9, 10] none)
 (.seq (.cond (tm 10) (.skip)
 (.exit 0))
 (.seq (.block 1 (.seq (.region none [] [
 op 11 (.iaddr 6 (tm 7) (tm 9)), op 12 (.load (some 6) (tm 11)), op 6 (.alloc 6 (.agg [.str [], .int .i64 0, .int .i64 0, .int .i64 0, .str [], .sl false []])), ⟨none, .store 6 (tm 6) (tm 12), none⟩] [1, 4, 6, 7, 8, 9] none)
 (.seq (.region none [] [
 op 13 (.faddr 0 (tm 6)), op 14 (.load none (tm 13)), mv 15 1, op 16 (.bin .eql .str (tm 14) (tm 15))] [1, 4, 6, 7, 8, 9, 16] none)
 (.cond (tm 16) (.seq (.region none [] [
 op 17 (.faddr 1 (tm 6)), op 18 (.load (some 5) (tm 17)), op 19 (.call .pure 56 [(tm 18)]), ⟨none, .store 5 (tm 4) (tm 19), none⟩] [4] none)
 (.ret))
 (.skip)))))
 (.region none [] [
 op 20 (.bin .add .int (tm 9) (ci (1))), mv 9 20] [1, 4, 7, 8, 9] (some 1))))

def c24 : ACode :=
 .seq (.region none [] [
 op 4 (.alloc 5 (.agg [.int .i64 0, .int .i64 0, .int .i64 0, .str [], .sl false []]))] [0, 1, 4] none)
 (.seq (.seq (.region none [] [
 mv 7 0, op 8 (.len .slice (tm 7)), op 9 (.mov (ci (0)))] [1, 4, 7, 8, 9] none)
 (.block 0 (.loop l24_0_h l24_0_b)))
 (.seq (.region none [] [
 op 21 (.call .pure 57 []), ⟨none, .store 5 (tm 4) (tm 21), none⟩] [4] none)
 (.ret)))

def a24 : AFunc := ⟨2, c24, [.cell 4 (some 5)]⟩

def an24 : List RAnn := [
 { id := 0, live := [0, 1, 4] },
 { id := 1, live := [1, 4, 7, 8, 9] },
 { id := 2, live := [1, 4, 7, 8, 9, 10], hdr := [1, 4, 7, 8, 9] },
 { id := 3, live := [1, 4, 6, 7, 8, 9] },
 { id := 4, live := [1, 4, 6, 7, 8, 9, 16] },
 { id := 5, live := [4] },
 { id := 6, live := [1, 4, 7, 8, 9], trunc := some 1 },
 { id := 7, live := [4] }]

theorem comp24 : compF Try.prog an24 Try.f24 = some a24 := by kernel_rfl

/- graphdb/graphdbref07.Prop -/
/-- loop 0 of function 25 -/
def l25_0_h : List Nat := [0, 1, 4, 5]

def l25_0_b : ACode :=
 .seq (.seq (.region none [] [
 mv 6 5, mv 7 0, op 8 (.len .slice (tm 7)), op 9 (.bin .lss .int (tm 6) (tm 8))] [0, 1, 4, 5, 9] none)
 (.cond (tm 9) (.skip)
 (.exit 0)))
 (.seq (.block 1 (.seq (.region none [] [
 mv 12 0, mv 13 5, op 14 (.iaddr 6 (tm 12) (tm 13)), op 15 (.faddr 0 (tm 14)), op 16 (.load none (tm 15)), mv 17 1, op 18 (.bin .eql .str (tm 16) (tm 17))] [0, 1, 4, 5, 18] none)
 (.cond (tm 18) (.seq (.region none [] [
 mv 19 0, mv 20 5, op 21 (.iaddr 6 (tm 19) (tm 20)), op 22 (.faddr 1 (tm 21)), op 23 (.load (some 5) (tm 22)), ⟨none, .store 5 (tm 4) (tm 23), none⟩] [4] none)
 (.ret))
 (.skip))))
 (.region none [] [
 mv 10 5, op 11 (.bin .add .int (tm 10) (ci (1))), mv 5 11] [0, 1, 4, 5] none))

def c25 : ACode :=
 .seq (.region none [] [
 op 4 (.alloc 5 (.agg [.int .i64 0, .int .i64 0, .int .i64 0, .str [], .sl false []]))] [0, 1, 4] none)
 (.seq (.seq (.region none [] [
 op 5 (.mov (ci (0)))] [0, 1, 4, 5] none)
 (.block 0 (.loop l25_0_h l25_0_b)))
 (.seq (.region none [] [
 op 24 (.build [.int .i64 0, .int .i64 0, .int .i64 0, .str [], .sl false []] []), ⟨none, .store 5 (tm 4) (tm 24), none⟩] [4] none)
 (.ret)))

def a25 : AFunc := ⟨2, c25, [.cell 4 (some 5)]⟩

def an25 : List RAnn := [
 { id := 0, live := [0, 1, 4] },
 { id := 1, live := [0, 1, 4, 5] },
 { id := 2, live := [0, 1, 4, 5, 9], hdr := [0, 1, 4, 5] },
 { id := 4, live := [0, 1, 4, 5, 18] },
 { id := 5, live := [4] },
 { id := 3, live := [0, 1, 4, 5] },
 { id := 6, live := [4] }]

theorem comp25 : compF Try.prog an25 Try.f25 = some a25 := by kernel_rfl

/- graphdb/graphdbref07.Check -/
/-- loop 0 of function 26 -/
def l26_0_h : List Nat := [1, 3]

def l26_0_b : ACode :=
 .seq (.seq (.region none [] [
 mv 35 3, op 36 (.faddr 0 (tm 1)), op 37 (.load none (tm 36)), op 38 (.len .slice (tm 37)), op 39 (.bin .lss .int (tm 35) (tm 38))] [1, 3, 39] none)
 (.cond (tm 39) (.skip)
 (.exit 0)))
 (.seq (.block 1 (.seq (.region none [] [
 op 42 (.load (some 4) (tm 1)), mv 43 3, op 44 (.call .pure 58 [(tm 42), (tm 43)]), mv 4 44] [1, 3, 4] none)
 (.seq (.region none [] [
 mv 45 4, op 46 (.bin .neq .int (tm 45) (ci (0)))] [1, 3, 4, 46] none)
 (.cond (tm 46) (.seq (.region none [] [
 mv 47 4, mv 2 47] [2] none)
 (.ret))
 (.skip)))))
 (.region none [] [
 mv 40 3, op 41 (.bin .add .int (tm 40) (ci (1))), mv 3 41] [1, 3] none))

/-- loop 1 of function 26 -/
def l26_1_h : List Nat := [1, 5]

def l26_1_b : ACode :=
 .seq (.seq (.region none [] [
 mv 48 5, op 49 (.faddr 1 (tm 1)), op 50 (.load none (tm 49)), op 51 (.len .slice (tm 50)), op 52 (.bin .lss .int (tm 48) (tm 51))] [1, 5, 52] none)
 (.cond (tm 52) (.skip)
 (.exit 2)))
 (.seq (.block 3 (.seq (.region none [] [
 op 55 (.load (some 4) (tm 1)), mv 56 5, op 57 (.call .pure 59 [(tm 55), (tm 56)]), mv 6 57] [1, 5, 6] none)
 (.seq (.region none [] [
 mv 58 6, op 59 (.bin .neq .int (tm 58) (ci (0)))] [1, 5, 6, 59] none)
 (.cond (tm 59) (.seq (.region none [] [
 mv 60 6, mv 2 60] [2] none)
 (.ret))
 (.skip)))))
 (.region none [] [
 mv 53 5, op 54 (.bin .add .int (tm 53) (ci (1))), mv 5 54] [1, 5] none))

def c26 : ACode :=
 .seq (.region none [] [
 op 1 (.box 4 (tm 0)), op 2 (.mov (ci (0)))] [1] none)
 (.seq (.seq (.region none [] [
 op 7 (.faddr 0 (tm 1)), op 8 (.load none (tm 7)), op 9 (.len .slice (tm 8)), op 10 (.bin .gtr .int (tm 9) (ci (2000))), mv 11 10, ⟨some 12, .faddr 1 (tm 1), some (11, false)⟩, ⟨some 13, .load none (tm 12), some (11, false)⟩, ⟨some 14, .len .slice (tm 13), some (11, false)⟩, ⟨some 15, .bin .gtr .int (tm 14) (ci (4000)), some (11, false)⟩, op 16 (.pick (tm 11) (.cst (.bool true)) (tm 15))] [1, 16] none)
 (.cond (tm 16) (.seq (.region none [] [
 op 2 (.mov (ci (4)))] [2] none)
 (.ret))
 (.skip)))
 (.seq (.seq (.region none [] [
 op 17 (.faddr 2 (tm 1)), op 18 (.load none (tm 17)), op 19 (.bin .lss .int (tm 18) (ci (1))), mv 20 19, ⟨some 21, .faddr 2 (tm 1), some (20, false)⟩, ⟨some 22, .load none (tm 21), some (20, false)⟩, ⟨some 23, .bin .gtr .int (tm 22) (ci (1000001)), some (20, false)⟩, op 24 (.pick (tm 20) (.cst (.bool true)) (tm 23)), mv 25 24, ⟨some 26, .faddr 3 (tm 1), some (25, false)⟩, ⟨some 27, .load none (tm 26), some (25, false)⟩, ⟨some 28, .bin .lss .int (tm 27) (ci (1)), some (25, false)⟩, op 29 (.pick (tm 25) (.cst (.bool true)) (tm 28)), mv 30 29, ⟨some 31, .faddr 3 (tm 1), some (30, false)⟩, ⟨some 32, .load none (tm 31), some (30, false)⟩, ⟨some 33, .bin .gtr .int (tm 32) (ci (1000001)), some (30, false)⟩, op 34 (.pick (tm 30) (.cst (.bool true)) (tm 33))] [1, 34] none)
 (.cond (tm 34) (.seq (.region none [] [
 op 2 (.mov (ci (1)))] [2] none)
 (.ret))
 (.skip)))
 (.seq (.seq (.region none [] [
 op 3 (.mov (ci (0)))] [1, 3] none)
 (.block 0 (.loop l26_0_h l26_0_b)))
 (.seq (.seq (.region none [] [
 op 5 (.mov (ci (0)))] [1, 5] none)
 (.block 2 (.loop l26_1_h l26_1_b)))
 (.seq (.region none [] [
 op 2 (.mov (ci (0)))] [2] none)
 (.ret))))))

def a26 : AFunc := ⟨1, c26, [.tmp 2]⟩

def an26 : List RAnn := [
 { id := 0, live := [1] },
 { id := 1, live := [1, 16] },
 { id := 2, live := [2] },
 { id := 3, live := [1, 34] },
 { id := 4, live := [2] },
 { id := 5, live := [1, 3] },
 { id := 6, live := [1, 3, 39], hdr := [1, 3] },
 { id := 8, live := [1, 3, 4] },
 { id := 9, live := [1, 3, 4, 46] },
 { id := 10, live := [2] },
 { id := 7, live := [1, 3] },
 { id := 11, live := [1, 5] },
 { id := 12, live := [1, 5, 52], hdr := [1, 5] },
 { id := 14, live := [1, 5, 6] },
 { id := 15, live := [1, 5, 6, 59] },
 { id := 16, live := [2] },
 { id := 13, live := [1, 5] },
 { id := 17, live := [2] }]

theorem comp26 : compF Try.prog an26 Try.f26 = some a26 := by kernel_rfl

/- graphdb/graphdbref07.SameStrs -/
/-- loop 0 of function 27 -/
def l27_0_h : List Nat := [0, 1, 5]

def l27_0_b : ACode :=
 .seq (.seq (.region none [] [
 mv 11 5, mv 12 0, op 13 (.len .slice (tm 12)), op 14 (.bin .lss .int (tm 11) (tm 13))] [0, 1, 5, 14] none)
 (.cond (tm 14) (.skip)
 (.exit 0)))
 (.seq (.block 1 (.seq (.region (some 9) [] [
 mv 17 0, mv 18 5, op 19 (.iaddr 1 (tm 17) (tm 18)), op 20 (.load none (tm 19)), mv 21 1, mv 22 5, op 23 (.iaddr 1 (tm 21) (tm 22)), op 24 (.load none (tm 23)), op 25 (.bin .neq .str (tm 20) (tm 24))] [0, 1, 5, 25] none)
 (.cond (tm 25) (.seq (.region none [] [
 op 4 (.mov (.cst (.bool false)))] [4] none)
 (.ret))
 (.skip))))
 (.region none [] [
 mv 15 5, op 16 (.bin .add .int (tm 15) (ci (1))), mv 5 16] [0, 1, 5] none))

def c27 : ACode :=
 .seq (.region none [] [
 op 4 (.mov (.cst (.bool false)))] [0, 1] none)
 (.seq (.seq (.region none [] [
 mv 6 0, op 7 (.len .slice (tm 6)), mv 8 1, op 9 (.len .slice (tm 8)), op 10 (.bin .neq .int (tm 7) (tm 9))] [0, 1, 10] none)
 (.cond (tm 10) (.seq (.region none [] [
 op 4 (.mov (.cst (.bool false)))] [4] none)
 (.ret))
 (.skip)))
 (.seq (.seq (.region none [] [
 op 5 (.mov (ci (0)))] [0, 1, 5] none)
 (.block 0 (.loop l27_0_h l27_0_b)))
 (.seq (.region none [] [
 op 4 (.mov (.cst (.bool true)))] [4] none)
 (.ret))))

def a27 : AFunc := ⟨2, c27, [.tmp 4]⟩

def an27 : List RAnn := [
 { id := 0, live := [0, 1] },
 { id := 1, live := [0, 1, 10] },
 { id := 2, live := [4] },
 { id := 3, live := [0, 1, 5] },
 { id := 4, live := [0, 1, 5, 14], hdr := [0, 1, 5] },
 { id := 6, head := some 9, live := [0, 1, 5, 25] },
 { id := 7, live := [4] },
 { id := 5, live := [0, 1, 5] },
 { id := 8, live := [4] }]

theorem comp27 : compF Try.prog an27 Try.f27 = some a27 := by kernel_rfl

/- graphdb/graph.Labels -/
/-- loop 0 of function 28 -/
def l28_0_h : List Nat := [3, 7, 8, 9]

def l28_0_b : ACode :=
 .seq (.region none [] [
 op 10 (.bin .lss .int (tm 9) (tm 8))] [3, 7, 8, 9, 10] none)
 (.seq (.cond (tm 10) (.skip)
 (.exit 0))
 (.seq (.block 1 (.seq (.region none [] [
 op 11 (.iaddr 3 (tm 7) (tm 9)), op 12 (.load (some 3) (tm 11)), op 5 (.alloc 3 (.agg [.int .i64 0, .sl false [], .sl false []])), ⟨none, .store 3 (tm 5) (tm 12), none⟩] [3, 5, 7, 8, 9] none)
 (.region none [] [
 mv 13 3, op 14 (.faddr 1 (tm 5)), op 15 (.load none (tm 14)), op 16 (.append 1 16 (tm 13) (tm 15)), mv 3 16] [3, 7, 8, 9] none)))
 (.region none [] [
 op 17 (.bin .add .int (tm 9) (ci (1))), mv 9 17] [3, 7, 8, 9] (some 2))))

def c28 : ACode :=
 .seq (.region none [] [
 op 1 (.box 4 (tm 0)), op 2 (.mov (.cst (.sl false [])))] [1] none)
 (.seq (.region none [] [
 op 3 (.newown 1)] [1, 3] none)
 (.seq (.seq (.region none [] [
 op 6 (.faddr 0 (tm 1)), op 7 (.load none (tm 6)), op 8 (.len .slice (tm 7)), op 9 (.mov (ci (0)))] [3, 7, 8, 9] none)
 (.block 0 (.loop l28_0_h l28_0_b)))
 (.seq (.region none [] [
 mv 18 3, op 19 (.call .share 60 [(tm 18)])] [3] none)
 (.seq (.region none [] [
 mv 20 3, op 21 (.call .share 61 [(tm 20)]), mv 2 21] [2] none)
 (.ret)))))

def a28 : AFunc := ⟨1, c28, [.tmp 2]⟩

def an28 : List RAnn := [
 { id := 0, live := [1] },
 { id := 1, live := [1, 3], ops := [(0, .own)] },
 { id := 2, live := [3, 7, 8, 9] },
 { id := 3, live := [3, 7, 8, 9, 10], hdr := [3, 7, 8, 9] },
 { id := 4, live := [3, 5, 7, 8, 9] },
 { id := 5, live := [3, 7, 8, 9] },
 { id := 6, live := [3, 7, 8, 9], trunc := some 2 },
 { id := 7, live := [3], ops := [(1, .mode .share)] },
 { id := 8, live := [2], ops := [(1, .mode .share)] }]

theorem comp28 : compF Try.prog an28 Try.f28 = some a28 := by kernel_rfl

/- graphdb/graphdbref07.Labels -/
/-- loop 0 of function 29 -/
def l29_0_h : List Nat := [1, 3, 4, 5]

def l29_0_b : ACode :=
 .seq (.seq (.region none [] [
 mv 13 5, op 14 (.faddr 0 (tm 1)), op 15 (.load none (tm 14)), mv 16 4, op 17 (.iaddr 3 (tm 15) (tm 16)), op 18 (.faddr 1 (tm 17)), op 19 (.load none (tm 18)), op 20 (.len .slice (tm 19)), op 21 (.bin .lss .int (tm 13) (tm 20))] [1, 3, 4, 5, 21] none)
 (.cond (tm 21) (.skip)
 (.exit 2)))
 (.seq (.block 3 (.region none [] [
 mv 24 3, op 25 (.faddr 0 (tm 1)), op 26 (.load none (tm 25)), mv 27 4, op 28 (.iaddr 3 (tm 26) (tm 27)), op 29 (.faddr 1 (tm 28)), op 30 (.load none (tm 29)), mv 31 5, op 32 (.iaddr 1 (tm 30) (tm 31)), op 33 (.load none (tm 32)), op 34 (.call .pure 62 [(tm 24), (tm 33)]), mv 3 34] [1, 3, 4, 5] none))
 (.region none [] [
 mv 22 5, op 23 (.bin .add .int (tm 22) (ci (1))), mv 5 23] [1, 3, 4, 5] none))

/-- loop 1 of function 29 -/
def l29_1_h : List Nat := [1, 3, 4]

def l29_1_b : ACode :=
 .seq (.seq (.region none [] [
 mv 6 4, op 7 (.faddr 0 (tm 1)), op 8 (.load none (tm 7)), op 9 (.len .slice (tm 8)), op 10 (.bin .lss .int (tm 6) (tm 9))] [1, 3, 4, 10] none)
 (.cond (tm 10) (.skip)
 (.exit 0)))
 (.seq (.block 1 (.seq (.region none [] [
 op 5 (.mov (ci (0)))] [1, 3, 4, 5] none)
 (.block 2 (.loop l29_0_h l29_0_b))))
 (.region none [] [
 mv 11 4, op 12 (.bin .add .int (tm 11) (ci (1))), mv 4 12] [1, 3, 4] none))

def c29 : ACode :=
 .seq (.region none [] [
 op 1 (.box 4 (tm 0)), op 2 (.mov (.cst (.sl false [])))] [1] none)
 (.seq (.region none [] [
 op 3 (.mov (.cst (.sl false [])))] [1, 3] none)
 (.seq (.seq (.region none [] [
 op 4 (.mov (ci (0)))] [1, 3, 4] none)
 (.block 0 (.loop l29_1_h l29_1_b)))
 (.seq (.region none [] [
 mv 35 3, mv 2 35] [2] none)
 (.ret))))

def a29 : AFunc := ⟨1, c29, [.tmp 2]⟩

def an29 : List RAnn := [
 { id := 0, live := [1] },
 { id := 1, live := [1, 3] },
 { id := 2, live := [1, 3, 4] },
 { id := 3, live := [1, 3, 4, 10], hdr := [1, 3, 4] },
 { id := 5, live := [1, 3, 4, 5] },
 { id := 6, live := [1, 3, 4, 5, 21], hdr := [1, 3, 4, 5] },
 { id := 8, live := [1, 3, 4, 5] },
 { id := 7, live := [1, 3, 4, 5] },
 { id := 4, live := [1, 3, 4] },
 { id := 9, live := [2] }]

theorem comp29 : compF Try.prog an29 Try.f29 = some a29 := by kernel_rfl

/- graphdb/graph.Types -/
/-- loop 0 of function 30 -/
def l30_0_h : List Nat := [3, 7, 8, 9]

def l30_0_b : ACode :=
 .seq (.region none [] [
 op 10 (.bin .lss .int (tm 9) (tm 8))] [3, 7, 8, 9, 10] none)
 (.seq (.cond (tm 10) (.skip)
 (.exit 0))
 (.seq (.block 1 (.seq (.region none [] [
 op 11 (.iaddr 5 (tm 7) (tm 9)), op 12 (.load (some 5) (tm 11)), op 5 (.alloc 5 (.agg [.int .i64 0, .int .i64 0, .int .i64 0, .str [], .sl false []])), ⟨none, .store 5 (tm 5) (tm 12), none⟩] [3, 5, 7, 8, 9] none)
 (.region none [] [
 mv 13 3, op 14 (.faddr 3 (tm 5)), op 15 (.load none (tm 14)), op 16 (.lit false 1 (.str []) 1 [(0, (tm 15))]), op 17 (.append 1 16 (tm 13) (tm 16)), mv 3 17] [3, 7, 8, 9] none)))
 (.region none [] [
 op 18 (.bin .add .int (tm 9) (ci (1))), mv 9 18] [3, 7, 8, 9] (some 2))))

def c30 : ACode :=
 .seq (.region none [] [
 op 1 (.box 4 (tm 0)), op 2 (.mov (.cst (.sl false [])))] [1] none)
 (.seq (.region none [] [
 op 3 (.newown 1)] [1, 3] none)
 (.seq (.seq (.region none [] [
 op 6 (.faddr 1 (tm 1)), op 7 (.load none (tm 6)), op 8 (.len .slice (tm 7)), op 9 (.mov (ci (0)))] [3, 7, 8, 9] none)
 (.block 0 (.loop l30_0_h l30_0_b)))
 (.seq (.region none [] [
 mv 19 3, op 20 (.call .share 60 [(tm 19)])] [3] none)
 (.seq (.region none [] [
 mv 21 3, op 22 (.call .share 61 [(tm 21)]), mv 2 22] [2] none)
 (.ret)))))

def a30 : AFunc := ⟨1, c30, [.tmp 2]⟩

def an30 : List RAnn := [
 { id := 0, live := [1] },
 { id := 1, live := [1, 3], ops := [(0, .own)] },
 { id := 2, live := [3, 7, 8, 9] },
 { id := 3, live := [3, 7, 8, 9, 10], hdr := [3, 7, 8, 9] },
 { id := 4, live := [3, 5, 7, 8, 9] },
 { id := 5, live := [3, 7, 8, 9] },
 { id := 6, live := [3, 7, 8, 9], trunc := some 2 },
 { id := 7, live := [3], ops := [(1, .mode .share)] },
 { id := 8, live := [2], ops := [(1, .mode .share)] }]

theorem comp30 : compF Try.prog an30 Try.f30 = some a30 := by kernel_rfl

/- graphdb/graphdbref07.Types -/
/-- loop 0 of function 31 -/
def l31_0_h : List Nat := [1, 3, 4]

def l31_0_b : ACode :=
 .seq (.seq (.region none [] [
 mv 5 4, op 6 (.faddr 1 (tm 1)), op 7 (.load none (tm 6)), op 8 (.len .slice (tm 7)), op 9 (.bin .lss .int (tm 5) (tm 8))] [1, 3, 4, 9] none)
 (.cond (tm 9) (.skip)
 (.exit 0)))
 (.seq (.block 1 (.region none [] [
 mv 12 3, op 13 (.faddr 1 (tm 1)), op 14 (.load none (tm 13)), mv 15 4, op 16 (.iaddr 5 (tm 14) (tm 15)), op 17 (.faddr 3 (tm 16)), op 18 (.load none (tm 17)), op 19 (.call .pure 62 [(tm 12), (tm 18)]), mv 3 19] [1, 3, 4] none))
 (.region none [] [
 mv 10 4, op 11 (.bin .add .int (tm 10) (ci (1))), mv 4 11] [1, 3, 4] none))

def c31 : ACode :=
 .seq (.region none [] [
 op 1 (.box 4 (tm 0)), op 2 (.mov (.cst (.sl false [])))] [1] none)
 (.seq (.region none [] [
 op 3 (.mov (.cst (.sl false [])))] [1, 3] none)
 (.seq (.seq (.region none [] [
 op 4 (.mov (ci (0)))] [1, 3, 4] none)
 (.block 0 (.loop l31_0_h l31_0_b)))
 (.seq (.region none [] [
 mv 20 3, mv 2 20] [2] none)
 (.ret))))

def a31 : AFunc := ⟨1, c31, [.tmp 2]⟩

def an31 : List RAnn := [
 { id := 0, live := [1] },
 { id := 1, live := [1, 3] },
 { id := 2, live := [1, 3, 4] },
 { id := 3, live := [1, 3, 4, 9], hdr := [1, 3, 4] },
 { id := 5, live := [1, 3, 4] },
 { id := 4, live := [1, 3, 4] },
 { id := 6, live := [2] }]

theorem comp31 : compF Try.prog an31 Try.f31 = some a31 := by kernel_rfl

/- graphdb/graphdbref07.weigh -/
/-- loop 0 of function 32 -/
def l32_0_h : List Nat := [0, 1, 5]

def l32_0_b : ACode :=
 .seq (.seq (.region none [] [
 mv 6 5, mv 7 0, op 8 (.len .slice (tm 7)), op 9 (.bin .lss .int (tm 6) (tm 8)), mv 10 9, mg 11 1 10 true, ⟨some 12, .bin .geq .int (tm 11) (ci (0)), some (10, true)⟩, op 13 (.pick (tm 10) (tm 12) (.cst (.bool false)))] [0, 1, 5, 13] none)
 (.cond (tm 13) (.skip)
 (.exit 0)))
 (.seq (.block 1 (.region (some 16) [] [
 mv 16 0, mv 17 5, op 18 (.iaddr 6 (tm 16) (tm 17)), op 19 (.faddr 1 (tm 18)), op 20 (.load (some 5) (tm 19)), mv 21 1, mv 22 0, mv 23 5, op 24 (.iaddr 6 (tm 22) (tm 23)), op 25 (.faddr 0 (tm 24)), op 26 (.load none (tm 25)), op 27 (.len .str (tm 26)), op 28 (.bin .quo .int (tm 27) (ci (50))), op 29 (.bin .sub .int (tm 21) (tm 28)), op 30 (.call .pure 63 [(tm 20), (tm 29), (ci (12))]), mv 1 30] [0, 1, 5] none))
 (.region none [] [
 mv 14 5, op 15 (.bin .add .int (tm 14) (ci (1))), mv 5 15] [0, 1, 5] none))

def c32 : ACode :=
 .seq (.region none [] [
 op 4 (.mov (ci (0)))] [0, 1] none)
 (.seq (.seq (.region none [] [
 op 5 (.mov (ci (0)))] [0, 1, 5] none)
 (.block 0 (.loop l32_0_h l32_0_b)))
 (.seq (.region none [] [
 mv 31 1, mv 4 31] [4] none)
 (.ret)))

def a32 : AFunc := ⟨2, c32, [.tmp 4]⟩

def an32 : List RAnn := [
 { id := 0, live := [0, 1] },
 { id := 1, live := [0, 1, 5] },
 { id := 2, live := [0, 1, 5, 13], hdr := [0, 1, 5] },
 { id := 4, head := some 16, live := [0, 1, 5] },
 { id := 3, live := [0, 1, 5] },
 { id := 5, live := [4] }]

theorem comp32 : compF Try.prog an32 Try.f32 = some a32 := by kernel_rfl

/- graphdb/graphdblaw07.example -/
def c33 : ACode :=
 .seq (.region none [] [
 op 0 (.alloc 4 (.agg [.sl false [], .sl false [], .int .i64 0, .int .i64 0]))] [0] none)
 (.seq (.region none [] [
 op 1 (.build [.int .i64 0, .sl false [], .sl false []] [(0, 1, (ci (1)))]), op 2 (.build [.int .i64 0, .sl false [], .sl false []] [(0, 1, (ci (2)))]), op 3 (.lit true 3 (.agg [.int .i64 0, .sl false [], .sl false []]) 2 [(0, (tm 1)), (1, (tm 2))]), op 4 (.build [.int .i64 0, .int .i64 0, .int .i64 0, .str [], .sl false []] [(0, 1, (ci (1))), (1, 1, (ci (1))), (2, 1, (ci (2))), (3, 1, (.cst (.str [84])))]), op 5 (.build [.int .i64 0, .int .i64 0, .int .i64 0, .str [], .sl false []] [(0, 1, (ci (2))), (1, 1, (ci (2))), (2, 1, (ci (2))), (3, 1, (.cst (.str [84])))]), op 6 (.lit true 5 (.agg [.int .i64 0, .int .i64 0, .int .i64 0, .str [], .sl false []]) 2 [(0, (tm 4)), (1, (tm 5))]), op 7 (.build [.sl false [], .sl false [], .int .i64 0, .int .i64 0] [(0, 1, (tm 3)), (1, 1, (tm 6)), (2, 1, (ci (3))), (3, 1, (ci (3)))]), ⟨none, .store 4 (tm 0) (tm 7), none⟩] [0] none)
 (.ret))

def a33 : AFunc := ⟨0, c33, [.cell 0 (some 4)]⟩

def an33 : List RAnn := [
 { id := 0, live := [0] },
 { id := 1, live := [0], ops := [(2, .own), (5, .own)] }]

theorem comp33 : compF Try.prog an33 Try.f33 = some a33 := by kernel_rfl

/- graphdb/graph.New -/
def c34 : ACode :=
 .seq (.region none [] [
 op 0 (.alloc 4 (.agg [.sl false [], .sl false [], .int .i64 0, .int .i64 0]))] [0] none)
 (.seq (.region none [] [
 op 1 (.build [.sl false [], .sl false [], .int .i64 0, .int .i64 0] [(2, 1, (ci (1))), (3, 1, (ci (1)))]), ⟨none, .store 4 (tm 0) (tm 1), none⟩] [0] none)
 (.ret))

def a34 : AFunc := ⟨0, c34, [.cell 0 (some 4)]⟩

def an34 : List RAnn := [
 { id := 0, live := [0] },
 { id := 1, live := [0] }]

theorem comp34 : compF Try.prog an34 Try.f34 = some a34 := by kernel_rfl

/- graphdb/graph.Name -/
/-- loop 0 of function 35 -/
def l35_0_h : List Nat := [0, 18, 19]

def l35_0_b : ACode :=
 .seq (.region none [] [
 op 20 (.bin .lss .int (tm 19) (tm 18))] [0, 18, 19, 20] none)
 (.seq (.cond (tm 20) (.skip)
 (.exit 0))
 (.seq (.block 1 (.seq (.region none [] [
 mv 21 19, mv 3 21] [0, 3, 18, 19] none)
 (.seq (.region none [] [
 mv 22 0, mv 23 3, op 24 (.sidx (tm 22) (tm 23)), op 25 (.call .pure 64 [(tm 24)]), op 26 (.un .not (tm 25)), mv 27 26, mg 28 0 27 true, mg 29 3 27 true, ⟨some 30, .sidx (tm 28) (tm 29), some (27, true)⟩, ⟨some 31, .bin .lss .int (tm 30) (.cst (.int .u8 48)), some (27, true)⟩, mg 32 31 27 true, mg 33 0 32 false, mg 34 3 32 false, ⟨some 35, .sidx (tm 33) (tm 34), some (32, false)⟩, ⟨some 36, .bin .gtr .int (tm 35) (.cst (.int .u8 57)), some (32, false)⟩, ⟨some 37, .pick (tm 32) (.cst (.bool true)) (tm 36), some (27, true)⟩, op 38 (.pick (tm 27) (tm 37) (.cst (.bool false))), mv 39 38, mg 40 0 39 true, mg 41 3 39 true, ⟨some 42, .sidx (tm 40) (tm 41), some (39, true)⟩, ⟨some 43, .bin .neq .int (tm 42) (.cst (.int .u8 95)), some (39, true)⟩, op 44 (.pick (tm 39) (tm 43) (.cst (.bool false)))] [0, 18, 19, 44] none)
 (.cond (tm 44) (.seq (.region none [] [
 op 2 (.mov (.cst (.bool false)))] [2] none)
 (.ret))
 (.skip)))))
 (.region none [] [
 op 45 (.bin .add .int (tm 19) (ci (1))), mv 19 45] [0, 18, 19] none)))

def c35 : ACode :=
 .seq (.region none [] [
 op 2 (.mov (.cst (.bool false)))] [0] none)
 (.seq (.seq (.region none [] [
 mv 4 0, op 5 (.bin .eql .str (tm 4) (.cst (.str []))), mv 6 5, mg 7 0 6 false, ⟨some 8, .len .str (tm 7), some (6, false)⟩, ⟨some 9, .bin .gtr .int (tm 8) (ci (20)), some (6, false)⟩, op 10 (.pick (tm 6) (.cst (.bool true)) (tm 9)), mv 11 10, mg 12 0 11 false, ⟨some 13, .sidx (tm 12) (ci (0)), some (11, false)⟩, ⟨some 14, .call .pure 64 [(tm 13)], some (11, false)⟩, ⟨some 15, .un .not (tm 14), some (11, false)⟩, op 16 (.pick (tm 11) (.cst (.bool true)) (tm 15))] [0, 16] none)
 (.cond (tm 16) (.seq (.region none [] [
 op 2 (.mov (.cst (.bool false)))] [2] none)
 (.ret))
 (.skip)))
 (.seq (.seq (.region none [] [
 mv 17 0, op 18 (.len .str (tm 17)), op 19 (.mov (ci (0)))] [0, 18, 19] none)
 (.block 0 (.loop l35_0_h l35_0_b)))
 (.seq (.region none [] [
 op 2 (.mov (.cst (.bool true)))] [2] none)
 (.ret))))

def a35 : AFunc := ⟨1, c35, [.tmp 2]⟩

def an35 : List RAnn := [
 { id := 0, live := [0] },
 { id := 1, live := [0, 16] },
 { id := 2, live := [2] },
 { id := 3, live := [0, 18, 19] },
 { id := 4, live := [0, 18, 19, 20], hdr := [0, 18, 19] },
 { id := 5, live := [0, 3, 18, 19] },
 { id := 6, live := [0, 18, 19, 44] },
 { id := 7, live := [2] },
 { id := 8, live := [0, 18, 19] },
 { id := 9, live := [2] }]

theorem comp35 : compF Try.prog an35 Try.f35 = some a35 := by kernel_rfl

/- slices.SortStableFunc[[]graphdb/api.Adj,graphdb/api.Adj] -/
def c36 : ACode :=
 .region none [] [
 mv 4 0, mv 5 0, op 6 (.len .slice (tm 5)), mv 7 1, op 8 (.call .share 65 [(tm 4), (tm 6), (tm 7)])] [] none

def a36 : AFunc := ⟨2, c36, []⟩

def an36 : List RAnn := [
 { id := 0, ops := [(4, .mode .share)] }]

theorem comp36 : compF Try.prog an36 Try.f36 = some a36 := by kernel_rfl

/- graphdb/graph.Steps$1 -/
def c37 : ACode :=
 .seq (.region none [] [
 op 2 (.box 3 (tm 0)), op 3 (.box 3 (tm 1)), op 4 (.mov (ci (0)))] [2, 3] none)
 (.seq (.region (some 13) [] [
 op 5 (.faddr 1 (tm 2)), op 6 (.load none (tm 5)), op 7 (.faddr 1 (tm 3)), op 8 (.load none (tm 7)), op 9 (.call .pure 39 [(tm 6), (tm 8)]), op 10 (.faddr 2 (tm 2)), op 11 (.load none (tm 10)), op 12 (.faddr 2 (tm 3)), op 13 (.load none (tm 12)), op 14 (.call .pure 39 [(tm 11), (tm 13)]), op 15 (.lit false 1 (.int .i64 0) 2 [(0, (tm 9)), (1, (tm 14))]), op 16 (.call .pure 38 [(tm 15)]), mv 4 16] [4] none)
 (.ret))

def a37 : AFunc := ⟨2, c37, [.tmp 4]⟩

def an37 : List RAnn := [
 { id := 0, live := [2, 3] },
 { id := 1, head := some 13, live := [4] }]

theorem comp37 : compF Try.prog an37 Try.f37 = some a37 := by kernel_rfl

/- cmp.Or[int] -/
/-- loop 0 of function 38 -/
def l38_0_h : List Nat := [3, 6, 7, 8]

def l38_0_b : ACode :=
 .seq (.region none [] [
 op 9 (.bin .lss .int (tm 8) (tm 7))] [3, 6, 7, 8, 9] none)
 (.seq (.cond (tm 9) (.skip)
 (.exit 0))
 (.seq (.block 1 (.seq (.region none [] [
 op 10 (.iaddr 1 (tm 6) (tm 8)), op 11 (.load none (tm 10)), mv 5 11] [3, 5, 6, 7, 8] none)
 (.seq (.region none [] [
 mv 12 5, mv 13 3, op 14 (.bin .neq .int (tm 12) (tm 13))] [3, 5, 6, 7, 8, 14] none)
 (.cond (tm 14) (.seq (.region none [] [
 mv 15 5, mv 2 15] [2] none)
 (.ret))
 (.skip)))))
 (.region none [] [
 op 16 (.bin .add .int (tm 8) (ci (1))), mv 8 16] [3, 6, 7, 8] none)))

def c38 : ACode :=
 .seq (.region none [] [
 op 2 (.mov (ci (0)))] [0] none)
 (.seq (.region none [] [
 op 3 (.mov (ci (0)))] [0, 3] none)
 (.seq (.seq (.region none [] [
 mv 6 0, op 7 (.len .slice (tm 6)), op 8 (.mov (ci (0)))] [3, 6, 7, 8] none)
 (.block 0 (.loop l38_0_h l38_0_b)))
 (.seq (.region none [] [
 mv 17 3, mv 2 17] [2] none)
 (.ret))))

def a38 : AFunc := ⟨1, c38, [.tmp 2]⟩

def an38 : List RAnn := [
 { id := 0, live := [0] },
 { id := 1, live := [0, 3] },
 { id := 2, live := [3, 6, 7, 8] },
 { id := 3, live := [3, 6, 7, 8, 9], hdr := [3, 6, 7, 8] },
 { id := 4, live := [3, 5, 6, 7, 8] },
 { id := 5, live := [3, 5, 6, 7, 8, 14] },
 { id := 6, live := [2] },
 { id := 7, live := [3, 6, 7, 8] },
 { id := 8, live := [2] }]

theorem comp38 : compF Try.prog an38 Try.f38 = some a38 := by kernel_rfl

/- cmp.Compare[int] -/
def c39 : ACode :=
 .seq (.region none [] [
 op 4 (.mov (ci (0)))] [0, 1] none)
 (.seq (.region none [] [
 mv 7 0, op 8 (.call .pure 66 [(tm 7)]), mv 5 8] [0, 1, 5] none)
 (.seq (.region none [] [
 mv 9 1, op 10 (.call .pure 66 [(tm 9)]), mv 6 10] [0, 1, 5, 6] none)
 (.seq (.seq (.region none [] [
 mv 11 5] [0, 1, 6, 11] none)
 (.cond (tm 11) (.seq (.seq (.region none [] [
 mv 12 6] [12] none)
 (.cond (tm 12) (.seq (.region none [] [
 op 4 (.mov (ci (0)))] [4] none)
 (.ret))
 (.skip)))
 (.seq (.region none [] [
 op 4 (.mov (ci ((-1))))] [4] none)
 (.ret)))
 (.skip)))
 (.seq (.seq (.region none [] [
 mv 13 6] [0, 1, 13] none)
 (.cond (tm 13) (.seq (.region none [] [
 op 4 (.mov (ci (1)))] [4] none)
 (.ret))
 (.skip)))
 (.seq (.seq (.region none [] [
 mv 14 0, mv 15 1, op 16 (.bin .lss .int (tm 14) (tm 15))] [0, 1, 16] none)
 (.cond (tm 16) (.seq (.region none [] [
 op 4 (.mov (ci ((-1))))] [4] none)
 (.ret))
 (.skip)))
 (.seq (.seq (.region none [] [
 mv 17 0, mv 18 1, op 19 (.bin .gtr .int (tm 17) (tm 18))] [19] none)
 (.cond (tm 19) (.seq (.region none [] [
 op 4 (.mov (ci (1)))] [4] none)
 (.ret))
 (.skip)))
 (.seq (.region none [] [
 op 4 (.mov (ci (0)))] [4] none)
 (.ret))))))))

def a39 : AFunc := ⟨2, c39, [.tmp 4]⟩

def an39 : List RAnn := [
 { id := 0, live := [0, 1] },
 { id := 1, live := [0, 1, 5] },
 { id := 2, live := [0, 1, 5, 6] },
 { id := 3, live := [0, 1, 6, 11] },
 { id := 4, live := [12] },
 { id := 5, live := [4] },
 { id := 6, live := [4] },
 { id := 7, live := [0, 1, 13] },
 { id := 8, live := [4] },
 { id := 9, live := [0, 1, 16] },
 { id := 10, live := [4] },
 { id := 11, live := [19] },
 { id := 12, live := [4] },
 { id := 13, live := [4] }]

theorem comp39 : compF Try.prog an39 Try.f39 = some a39 := by kernel_rfl

/- graphdb/graphdbref07.step -/
def c40 : ACode :=
 .seq (.region none [] [
 op 3 (.box 5 (tm 0)), op 6 (.alloc 3 (.agg [.int .i64 0, .int .i64 0, .int .i64 0])), op 7 (.mov (.cst (.bool false)))] [1, 2, 3, 6] none)
 (.seq (.seq (.region none [] [
 mv 8 2, op 9 (.bin .eql .int (tm 8) (ci (1))), mv 10 9, mg 11 2 10 false, ⟨some 12, .bin .eql .int (tm 11) (ci (3)), some (10, false)⟩, op 13 (.pick (tm 10) (.cst (.bool true)) (tm 12)), mv 14 13, ⟨some 15, .faddr 1 (tm 3), some (14, true)⟩, ⟨some 16, .load none (tm 15), some (14, true)⟩, mg 17 1 14 true, ⟨some 18, .bin .eql .int (tm 16) (tm 17), some (14, true)⟩, op 19 (.pick (tm 14) (tm 18) (.cst (.bool false)))] [1, 2, 3, 6, 19] none)
 (.cond (tm 19) (.seq (.region none [] [
 mv 20 1, op 21 (.faddr 2 (tm 3)), op 22 (.load none (tm 21)), op 23 (.faddr 0 (tm 3)), op 24 (.load none (tm 23)), op 25 (.build [.int .i64 0, .int .i64 0, .int .i64 0] [(0, 1, (tm 20)), (1, 1, (tm 22)), (2, 1, (tm 24))]), ⟨none, .store 3 (tm 6) (tm 25), none⟩, op 7 (.mov (.cst (.bool true)))] [6, 7] none)
 (.ret))
 (.skip)))
 (.seq (.seq (.region none [] [
 mv 26 2, op 27 (.bin .eql .int (tm 26) (ci (2))), mv 28 27, mg 29 2 28 false, ⟨some 30, .bin .eql .int (tm 29) (ci (3)), some (28, false)⟩, op 31 (.pick (tm 28) (.cst (.bool true)) (tm 30)), mv 32 31, ⟨some 33, .faddr 2 (tm 3), some (32, true)⟩, ⟨some 34, .load none (tm 33), some (32, true)⟩, mg 35 1 32 true, ⟨some 36, .bin .eql .int (tm 34) (tm 35), some (32, true)⟩, op 37 (.pick (tm 32) (tm 36) (.cst (.bool false)))] [1, 3, 6, 37] none)
 (.cond (tm 37) (.seq (.region none [] [
 mv 38 1, op 39 (.faddr 1 (tm 3)), op 40 (.load none (tm 39)), op 41 (.faddr 0 (tm 3)), op 42 (.load none (tm 41)), op 43 (.build [.int .i64 0, .int .i64 0, .int .i64 0] [(0, 1, (tm 38)), (1, 1, (tm 40)), (2, 1, (tm 42))]), ⟨none, .store 3 (tm 6) (tm 43), none⟩, op 7 (.mov (.cst (.bool true)))] [6, 7] none)
 (.ret))
 (.skip)))
 (.seq (.region none [] [
 op 44 (.build [.int .i64 0, .int .i64 0, .int .i64 0] []), ⟨none, .store 3 (tm 6) (tm 44), none⟩, op 7 (.mov (.cst (.bool false)))] [6, 7] none)
 (.ret))))

def a40 : AFunc := ⟨3, c40, [.cell 6 (some 3), .tmp 7]⟩

def an40 : List RAnn := [
 { id := 0, live := [1, 2, 3, 6] },
 { id := 1, live := [1, 2, 3, 6, 19] },
 { id := 2, live := [6, 7] },
 { id := 3, live := [1, 3, 6, 37] },
 { id := 4, live := [6, 7] },
 { id := 5, live := [6, 7] }]

theorem comp40 : compF Try.prog an40 Try.f40 = some a40 := by kernel_rfl

/- graphdb/graphdbref07.HasType -/
def c41 : ACode :=
 .seq (.region none [] [
 op 2 (.box 5 (tm 0)), op 4 (.mov (.cst (.bool false)))] [1, 2] none)
 (.seq (.region none [] [
 mv 5 1, op 6 (.len .slice (tm 5)), op 7 (.bin .eql .int (tm 6) (ci (0))), mv 8 7, mg 9 1 8 false, ⟨some 10, .faddr 3 (tm 2), some (8, false)⟩, ⟨some 11, .load none (tm 10), some (8, false)⟩, ⟨some 12, .call .pure 48 [(tm 9), (tm 11)], some (8, false)⟩, op 13 (.pick (tm 8) (.cst (.bool true)) (tm 12)), mv 4 13] [4] none)
 (.ret))

def a41 : AFunc := ⟨2, c41, [.tmp 4]⟩

def an41 : List RAnn := [
 { id := 0, live := [1, 2] },
 { id := 1, live := [4] }]

theorem comp41 : compF Try.prog an41 Try.f41 = some a41 := by kernel_rfl

/- graphdb/graph.parts -/
/-- loop 0 of function 42 -/
def l42_0_h : List Nat := [0, 1, 5, 18, 19, 20]

def l42_0_b : ACode :=
 .seq (.region none [] [
 op 21 (.bin .lss .int (tm 20) (tm 19))] [0, 1, 5, 18, 19, 20, 21] none)
 (.seq (.cond (tm 21) (.skip)
 (.exit 0))
 (.seq (.block 1 (.seq (.region none [] [
 op 22 (.iaddr 6 (tm 18) (tm 20)), op 23 (.load (some 6) (tm 22)), op 7 (.alloc 6 (.agg [.str [], .int .i64 0, .int .i64 0, .int .i64 0, .str [], .sl false []])), ⟨none, .store 6 (tm 7) (tm 23), none⟩] [0, 1, 5, 7, 18, 19, 20] none)
 (.region none [] [
 mv 24 5, op 25 (.faddr 0 (tm 7)), op 26 (.load none (tm 25)), op 27 (.lit false 1 (.str []) 1 [(0, (tm 26))]), op 28 (.append 1 16 (tm 24) (tm 27)), mv 5 28] [0, 1, 5, 18, 19, 20] none)))
 (.region none [] [
 op 29 (.bin .add .int (tm 20) (ci (1))), mv 20 29] [0, 1, 5, 18, 19, 20] (some 1))))

/-- loop 1 of function 42 -/
def l42_1_h : List Nat := [44, 45, 46]

def l42_1_b : ACode :=
 .seq (.region none [] [
 op 47 (.bin .lss .int (tm 46) (tm 45))] [44, 45, 46, 47] none)
 (.seq (.cond (tm 47) (.skip)
 (.exit 2))
 (.seq (.block 3 (.seq (.region none [] [
 op 48 (.iaddr 6 (tm 44) (tm 46)), op 49 (.load (some 6) (tm 48)), op 9 (.alloc 6 (.agg [.str [], .int .i64 0, .int .i64 0, .int .i64 0, .str [], .sl false []])), ⟨none, .store 6 (tm 9) (tm 49), none⟩] [9, 44, 45, 46] none)
 (.seq (.region none [] [
 op 50 (.faddr 1 (tm 9)), op 51 (.load (some 5) (tm 50)), op 52 (.call .pure 70 [(tm 51)]), op 53 (.un .not (tm 52))] [44, 45, 46, 53] none)
 (.cond (tm 53) (.seq (.region none [] [
 op 4 (.mov (ci (8)))] [4] none)
 (.ret))
 (.skip)))))
 (.region none [] [
 op 54 (.bin .add .int (tm 46) (ci (1))), mv 46 54] [44, 45, 46] (some 1))))

def c42 : ACode :=
 .seq (.region none [] [
 op 4 (.mov (ci (0)))] [0, 1] none)
 (.seq (.seq (.region none [] [
 mv 10 0, op 11 (.len .slice (tm 10)), op 12 (.bin .gtr .int (tm 11) (ci (8))), mv 13 12, mg 14 1 13 false, ⟨some 15, .len .slice (tm 14), some (13, false)⟩, ⟨some 16, .bin .gtr .int (tm 15) (ci (16)), some (13, false)⟩, op 17 (.pick (tm 13) (.cst (.bool true)) (tm 16))] [0, 1, 17] none)
 (.cond (tm 17) (.seq (.region none [] [
 op 4 (.mov (ci (4)))] [4] none)
 (.ret))
 (.skip)))
 (.seq (.region none [] [
 op 5 (.newown 1)] [0, 1, 5] none)
 (.seq (.seq (.region none [] [
 mv 18 1, op 19 (.len .slice (tm 18)), op 20 (.mov (ci (0)))] [0, 1, 5, 18, 19, 20] none)
 (.block 0 (.loop l42_0_h l42_0_b)))
 (.seq (.seq (.region none [] [
 mv 30 0, op 31 (.call .pure 67 [(tm 30), (.cst (.fn 68 []))]), mv 32 31, mg 33 5 32 false, ⟨some 34, .call .borrow 67 [(tm 33), (.cst (.fn 68 []))], some (32, false)⟩, op 35 (.pick (tm 32) (.cst (.bool true)) (tm 34))] [0, 1, 5, 35] none)
 (.cond (tm 35) (.seq (.region none [] [
 op 4 (.mov (ci (6)))] [4] none)
 (.ret))
 (.skip)))
 (.seq (.seq (.region none [] [
 mv 36 0, op 37 (.call .pure 69 [(tm 36)]), op 38 (.un .not (tm 37)), mv 39 38, mg 40 5 39 false, ⟨some 41, .call .borrow 69 [(tm 40)], some (39, false)⟩, ⟨some 42, .un .not (tm 41), some (39, false)⟩, op 43 (.pick (tm 39) (.cst (.bool true)) (tm 42))] [1, 43] none)
 (.cond (tm 43) (.seq (.region none [] [
 op 4 (.mov (ci (26)))] [4] none)
 (.ret))
 (.skip)))
 (.seq (.seq (.region none [] [
 mv 44 1, op 45 (.len .slice (tm 44)), op 46 (.mov (ci (0)))] [44, 45, 46] none)
 (.block 2 (.loop l42_1_h l42_1_b)))
 (.seq (.region none [] [
 op 4 (.mov (ci (0)))] [4] none)
 (.ret))))))))

def a42 : AFunc := ⟨2, c42, [.tmp 4]⟩

def an42 : List RAnn := [
 { id := 0, live := [0, 1] },
 { id := 1, live := [0, 1, 17] },
 { id := 2, live := [4] },
 { id := 3, live := [0, 1, 5], ops := [(0, .own)] },
 { id := 4, live := [0, 1, 5, 18, 19, 20] },
 { id := 5, live := [0, 1, 5, 18, 19, 20, 21], hdr := [0, 1, 5, 18, 19, 20] },
 { id := 6, live := [0, 1, 5, 7, 18, 19, 20] },
 { id := 7, live := [0, 1, 5, 18, 19, 20] },
 { id := 8, live := [0, 1, 5, 18, 19, 20], trunc := some 1 },
 { id := 9, live := [0, 1, 5, 35], ops := [(4, .mode .borrow)] },
 { id := 10, live := [4] },
 { id := 11, live := [1, 43], ops := [(5, .mode .borrow)] },
 { id := 12, live := [4] },
 { id := 13, live := [44, 45, 46] },
 { id := 14, live := [44, 45, 46, 47], hdr := [44, 45, 46] },
 { id := 15, live := [9, 44, 45, 46] },
 { id := 16, live := [44, 45, 46, 53] },
 { id := 17, live := [4] },
 { id := 18, live := [44, 45, 46], trunc := some 1 },
 { id := 19, live := [4] }]

theorem comp42 : compF Try.prog an42 Try.f42 = some a42 := by kernel_rfl

/- graphdb/graph.has -/
def c43 : ACode :=
 .seq (.region none [] [
 op 4 (.mov (.cst (.bool false)))] [0, 1] none)
 (.seq (.region none [] [
 mv 8 0, mv 9 1, op 10 (.call .pure 71 [(tm 8), (tm 9), (.cst (.fn 72 []))]), mv 7 10, op 11 (.ext (tm 7) 0), op 12 (.ext (tm 7) 1), mv 5 11, mv 6 12] [6] none)
 (.seq (.region none [] [
 mv 13 6, mv 4 13] [4] none)
 (.ret)))

def a43 : AFunc := ⟨2, c43, [.tmp 4]⟩

def an43 : List RAnn := [
 { id := 0, live := [0, 1] },
 { id := 1, live := [6] },
 { id := 2, live := [4] }]

theorem comp43 : compF Try.prog an43 Try.f43 = some a43 := by kernel_rfl

/- slices.Contains[[]string,string] -/
def c44 : ACode :=
 .seq (.region none [] [
 op 4 (.mov (.cst (.bool false)))] [0, 1] none)
 (.seq (.region none [] [
 mv 5 0, mv 6 1, op 7 (.call .pure 73 [(tm 5), (tm 6)]), op 8 (.bin .geq .int (tm 7) (ci (0))), mv 4 8] [4] none)
 (.ret))

def a44 : AFunc := ⟨2, c44, [.tmp 4]⟩

def an44 : List RAnn := [
 { id := 0, live := [0, 1] },
 { id := 1, live := [4] }]

theorem comp44 : compF Try.prog an44 Try.f44 = some a44 := by kernel_rfl

/- slices.Clone[[]string,string] -/
def c45 : ACode :=
 .seq (.region none [] [
 op 2 (.mov (.cst (.sl false [])))] [0] none)
 (.seq (.seq (.region none [] [
 mv 3 0, op 4 (.bin .eql .slice (tm 3) (.cst (.sl false [])))] [0, 4] none)
 (.cond (tm 4) (.seq (.region none [] [
 op 2 (.mov (.cst (.sl false [])))] [2] none)
 (.ret))
 (.skip)))
 (.seq (.region none [] [
 op 5 (.lit true 1 (.str []) 0 []), mv 6 0, op 7 (.append 1 16 (tm 5) (tm 6)), mv 2 7] [2] none)
 (.ret)))

def a45 : AFunc := ⟨1, c45, [.tmp 2]⟩

def an45 : List RAnn := [
 { id := 0, live := [0] },
 { id := 1, live := [0, 4] },
 { id := 2, live := [2] },
 { id := 3, live := [2], ops := [(0, .own)] }]

theorem comp45 : compF Try.prog an45 Try.f45 = some a45 := by kernel_rfl

/- graphdb/graph.cloneProps -/
/-- loop 0 of function 46 -/
def l46_0_h : List Nat := [3, 8, 9]

def l46_0_b : ACode :=
 .seq (.region none [] [
 op 10 (.bin .lss .int (tm 9) (tm 8))] [3, 8, 9, 10] none)
 (.seq (.cond (tm 10) (.skip)
 (.exit 0))
 (.seq (.block 1 (.seq (.region none [] [
 mv 11 9, mv 4 11] [3, 4, 8, 9] none)
 (.region none [] [
 mv 12 3, mv 13 4, mv 14 3, mv 15 4, op 16 (.iaddr 6 (tm 14) (tm 15)), op 17 (.faddr 1 (tm 16)), op 18 (.load (some 5) (tm 17)), op 19 (.call .pure 56 [(tm 18)]), op 20 (.iaddr 6 (tm 12) (tm 13)), op 21 (.faddr 1 (tm 20)), ⟨none, .store 5 (tm 21) (tm 19), none⟩] [3, 8, 9] none)))
 (.region none [] [
 op 22 (.bin .add .int (tm 9) (ci (1))), mv 9 22] [3, 8, 9] none)))

def c46 : ACode :=
 .seq (.region none [] [
 op 2 (.mov (.cst (.sl false [])))] [0] none)
 (.seq (.region none [] [
 mv 5 0, op 6 (.call .own 74 [(tm 5)]), mv 3 6] [3] none)
 (.seq (.seq (.region none [] [
 mv 7 3, op 8 (.len .slice (tm 7)), op 9 (.mov (ci (0)))] [3, 8, 9] none)
 (.block 0 (.loop l46_0_h l46_0_b)))
 (.seq (.region none [] [
 mv 23 3, mv 2 23] [2] none)
 (.ret))))

def a46 : AFunc := ⟨1, c46, [.tmp 2]⟩

def an46 : List RAnn := [
 { id := 0, live := [0] },
 { id := 1, live := [3], ops := [(1, .mode .own)] },
 { id := 2, live := [3, 8, 9] },
 { id := 3, live := [3, 8, 9, 10], hdr := [3, 8, 9] },
 { id := 4, live := [3, 4, 8, 9] },
 { id := 5, live := [3, 8, 9] },
 { id := 6, live := [3, 8, 9] },
 { id := 7, live := [2] }]

theorem comp46 : compF Try.prog an46 Try.f46 = some a46 := by kernel_rfl

/- graphdb/graphdbref07.SameProps -/
/-- loop 0 of function 47 -/
def l47_0_h : List Nat := [0, 1, 5]

def l47_0_b : ACode :=
 .seq (.seq (.region none [] [
 mv 11 5, mv 12 0, op 13 (.len .slice (tm 12)), op 14 (.bin .lss .int (tm 11) (tm 13))] [0, 1, 5, 14] none)
 (.cond (tm 14) (.skip)
 (.exit 0)))
 (.seq (.block 1 (.seq (.region (some 25) [] [
 mv 17 0, mv 18 5, op 19 (.iaddr 6 (tm 17) (tm 18)), op 20 (.faddr 0 (tm 19)), op 21 (.load none (tm 20)), mv 22 1, mv 23 5, op 24 (.iaddr 6 (tm 22) (tm 23)), op 25 (.faddr 0 (tm 24)), op 26 (.load none (tm 25)), op 27 (.bin .neq .str (tm 21) (tm 26)), mv 28 27, mg 29 0 28 false, mg 30 5 28 false, ⟨some 31, .iaddr 6 (tm 29) (tm 30), some (28, false)⟩, ⟨some 32, .faddr 1 (tm 31), some (28, false)⟩, ⟨some 33, .load (some 5) (tm 32), some (28, false)⟩, mg 34 1 28 false, mg 35 5 28 false, ⟨some 36, .iaddr 6 (tm 34) (tm 35), some (28, false)⟩, ⟨some 37, .faddr 1 (tm 36), some (28, false)⟩, ⟨some 38, .load (some 5) (tm 37), some (28, false)⟩, ⟨some 39, .call .pure 23 [(tm 33), (tm 38)], some (28, false)⟩, ⟨some 40, .bin .neq .int (tm 39) (ci (0)), some (28, false)⟩, op 41 (.pick (tm 28) (.cst (.bool true)) (tm 40))] [0, 1, 5, 41] none)
 (.cond (tm 41) (.seq (.region none [] [
 op 4 (.mov (.cst (.bool false)))] [4] none)
 (.ret))
 (.skip))))
 (.region none [] [
 mv 15 5, op 16 (.bin .add .int (tm 15) (ci (1))), mv 5 16] [0, 1, 5] none))

def c47 : ACode :=
 .seq (.region none [] [
 op 4 (.mov (.cst (.bool false)))] [0, 1] none)
 (.seq (.seq (.region none [] [
 mv 6 0, op 7 (.len .slice (tm 6)), mv 8 1, op 9 (.len .slice (tm 8)), op 10 (.bin .neq .int (tm 7) (tm 9))] [0, 1, 10] none)
 (.cond (tm 10) (.seq (.region none [] [
 op 4 (.mov (.cst (.bool false)))] [4] none)
 (.ret))
 (.skip)))
 (.seq (.seq (.region none [] [
 op 5 (.mov (ci (0)))] [0, 1, 5] none)
 (.block 0 (.loop l47_0_h l47_0_b)))
 (.seq (.region none [] [
 op 4 (.mov (.cst (.bool true)))] [4] none)
 (.ret))))

def a47 : AFunc := ⟨2, c47, [.tmp 4]⟩

def an47 : List RAnn := [
 { id := 0, live := [0, 1] },
 { id := 1, live := [0, 1, 10] },
 { id := 2, live := [4] },
 { id := 3, live := [0, 1, 5] },
 { id := 4, live := [0, 1, 5, 14], hdr := [0, 1, 5] },
 { id := 6, head := some 25, live := [0, 1, 5, 41] },
 { id := 7, live := [4] },
 { id := 5, live := [0, 1, 5] },
 { id := 8, live := [4] }]

theorem comp47 : compF Try.prog an47 Try.f47 = some a47 := by kernel_rfl

/- graphdb/graphdbref07.HasStr -/
/-- loop 0 of function 48 -/
def l48_0_h : List Nat := [0, 1, 5]

def l48_0_b : ACode :=
 .seq (.seq (.region none [] [
 mv 6 5, mv 7 0, op 8 (.len .slice (tm 7)), op 9 (.bin .lss .int (tm 6) (tm 8))] [0, 1, 5, 9] none)
 (.cond (tm 9) (.skip)
 (.exit 0)))
 (.seq (.block 1 (.seq (.region none [] [
 mv 12 0, mv 13 5, op 14 (.iaddr 1 (tm 12) (tm 13)), op 15 (.load none (tm 14)), mv 16 1, op 17 (.bin .eql .str (tm 15) (tm 16))] [0, 1, 5, 17] none)
 (.cond (tm 17) (.seq (.region none [] [
 op 4 (.mov (.cst (.bool true)))] [4] none)
 (.ret))
 (.skip))))
 (.region none [] [
 mv 10 5, op 11 (.bin .add .int (tm 10) (ci (1))), mv 5 11] [0, 1, 5] none))

def c48 : ACode :=
 .seq (.region none [] [
 op 4 (.mov (.cst (.bool false)))] [0, 1] none)
 (.seq (.seq (.region none [] [
 op 5 (.mov (ci (0)))] [0, 1, 5] none)
 (.block 0 (.loop l48_0_h l48_0_b)))
 (.seq (.region none [] [
 op 4 (.mov (.cst (.bool false)))] [4] none)
 (.ret)))

def a48 : AFunc := ⟨2, c48, [.tmp 4]⟩

def an48 : List RAnn := [
 { id := 0, live := [0, 1] },
 { id := 1, live := [0, 1, 5] },
 { id := 2, live := [0, 1, 5, 9], hdr := [0, 1, 5] },
 { id := 4, live := [0, 1, 5, 17] },
 { id := 5, live := [4] },
 { id := 3, live := [0, 1, 5] },
 { id := 6, live := [4] }]

theorem comp48 : compF Try.prog an48 Try.f48 = some a48 := by kernel_rfl

/- graphdb/graphdbref04.Valid -/
def c49 : ACode :=
 .seq (.region none [] [
 op 1 (.box 5 (tm 0)), op 2 (.mov (.cst (.bool false)))] [1] none)
 (.seq (.region none [] [
 op 3 (.load (some 5) (tm 1)), op 4 (.call .pure 75 [(tm 3), (ci (8))]), mv 2 4] [2] none)
 (.ret))

def a49 : AFunc := ⟨1, c49, [.tmp 2]⟩

def an49 : List RAnn := [
 { id := 0, live := [1] },
 { id := 1, live := [2] }]

theorem comp49 : compF Try.prog an49 Try.f49 = some a49 := by kernel_rfl

/- graphdb/graphdbref04.yes -/
def c50 : ACode :=
 .seq (.region none [] [
 op 2 (.mov (ci (0)))] [0] none)
 (.seq (.seq (.region none [] [
 mv 3 0] [3] none)
 (.cond (tm 3) (.seq (.region none [] [
 op 2 (.mov (ci (2)))] [2] none)
 (.ret))
 (.skip)))
 (.seq (.region none [] [
 op 2 (.mov (ci (0)))] [2] none)
 (.ret)))

def a50 : AFunc := ⟨1, c50, [.tmp 2]⟩

def an50 : List RAnn := [
 { id := 0, live := [0] },
 { id := 1, live := [3] },
 { id := 2, live := [2] },
 { id := 3, live := [2] }]

theorem comp50 : compF Try.prog an50 Try.f50 = some a50 := by kernel_rfl

/- graphdb/graphdbref04.fields -/
def c51 : ACode :=
 .seq (.region none [] [
 op 2 (.box 5 (tm 0)), op 3 (.box 5 (tm 1)), op 4 (.mov (ci (0)))] [2, 3] none)
 (.seq (.seq (.region none [] [
 op 9 (.faddr 0 (tm 2)), op 10 (.load none (tm 9)), op 11 (.faddr 0 (tm 3)), op 12 (.load none (tm 11)), op 13 (.call .pure 52 [(tm 10), (tm 12)]), mv 5 13] [2, 3, 5] none)
 (.seq (.region none [] [
 mv 14 5, op 15 (.bin .neq .int (tm 14) (ci (0)))] [2, 3, 5, 15] none)
 (.cond (tm 15) (.seq (.region none [] [
 mv 16 5, mv 4 16] [4] none)
 (.ret))
 (.skip))))
 (.seq (.seq (.region none [] [
 op 17 (.faddr 1 (tm 2)), op 18 (.load none (tm 17)), op 19 (.faddr 1 (tm 3)), op 20 (.load none (tm 19)), op 21 (.call .pure 52 [(tm 18), (tm 20)]), mv 6 21] [2, 3, 6] none)
 (.seq (.region none [] [
 mv 22 6, op 23 (.bin .neq .int (tm 22) (ci (0)))] [2, 3, 6, 23] none)
 (.cond (tm 23) (.seq (.region none [] [
 mv 24 6, mv 4 24] [4] none)
 (.ret))
 (.skip))))
 (.seq (.seq (.region none [] [
 op 25 (.faddr 2 (tm 2)), op 26 (.load none (tm 25)), op 27 (.faddr 2 (tm 3)), op 28 (.load none (tm 27)), op 29 (.call .pure 52 [(tm 26), (tm 28)]), mv 7 29] [2, 3, 7] none)
 (.seq (.region none [] [
 mv 30 7, op 31 (.bin .neq .int (tm 30) (ci (0)))] [2, 3, 7, 31] none)
 (.cond (tm 31) (.seq (.region none [] [
 mv 32 7, mv 4 32] [4] none)
 (.ret))
 (.skip))))
 (.seq (.seq (.region none [] [
 op 33 (.faddr 3 (tm 2)), op 34 (.load none (tm 33)), op 35 (.faddr 3 (tm 3)), op 36 (.load none (tm 35)), op 37 (.call .pure 76 [(tm 34), (tm 36)]), mv 8 37] [2, 3, 8] none)
 (.seq (.region none [] [
 mv 38 8, op 39 (.bin .neq .int (tm 38) (ci (0)))] [2, 3, 8, 39] none)
 (.cond (tm 39) (.seq (.region none [] [
 mv 40 8, mv 4 40] [4] none)
 (.ret))
 (.skip))))
 (.seq (.region none [] [
 op 41 (.faddr 4 (tm 2)), op 42 (.load none (tm 41)), op 43 (.faddr 4 (tm 3)), op 44 (.load none (tm 43)), op 45 (.call .pure 77 [(tm 42), (tm 44)]), mv 4 45] [4] none)
 (.ret))))))

def a51 : AFunc := ⟨2, c51, [.tmp 4]⟩

def an51 : List RAnn := [
 { id := 0, live := [2, 3] },
 { id := 1, live := [2, 3, 5] },
 { id := 2, live := [2, 3, 5, 15] },
 { id := 3, live := [4] },
 { id := 4, live := [2, 3, 6] },
 { id := 5, live := [2, 3, 6, 23] },
 { id := 6, live := [4] },
 { id := 7, live := [2, 3, 7] },
 { id := 8, live := [2, 3, 7, 31] },
 { id := 9, live := [4] },
 { id := 10, live := [2, 3, 8] },
 { id := 11, live := [2, 3, 8, 39] },
 { id := 12, live := [4] },
 { id := 13, live := [4] }]

theorem comp51 : compF Try.prog an51 Try.f51 = some a51 := by kernel_rfl

/- graphdb/graphdbref04.ints -/
def c52 : ACode :=
 .seq (.region none [] [
 op 4 (.mov (ci (0)))] [0, 1] none)
 (.seq (.seq (.region none [] [
 mv 5 0, mv 6 1, op 7 (.bin .lss .int (tm 5) (tm 6))] [0, 1, 7] none)
 (.cond (tm 7) (.seq (.region none [] [
 op 4 (.mov (ci ((-1))))] [4] none)
 (.ret))
 (.skip)))
 (.seq (.seq (.region none [] [
 mv 8 0, mv 9 1, op 10 (.bin .gtr .int (tm 8) (tm 9))] [10] none)
 (.cond (tm 10) (.seq (.region none [] [
 op 4 (.mov (ci (1)))] [4] none)
 (.ret))
 (.skip)))
 (.seq (.region none [] [
 op 4 (.mov (ci (0)))] [4] none)
 (.ret))))

def a52 : AFunc := ⟨2, c52, [.tmp 4]⟩

def an52 : List RAnn := [
 { id := 0, live := [0, 1] },
 { id := 1, live := [0, 1, 7] },
 { id := 2, live := [4] },
 { id := 3, live := [10] },
 { id := 4, live := [4] },
 { id := 5, live := [4] }]

theorem comp52 : compF Try.prog an52 Try.f52 = some a52 := by kernel_rfl

/- graphdb/graphdbref04.class -/
def c53 : ACode :=
 .seq (.region none [] [
 op 2 (.mov (ci (0)))] [0] none)
 (.seq (.seq (.region none [] [
 mv 3 0] [3] none)
 (.block 0 (.seq (.region none [] [
 op 5 (.bin .eql .int (tm 3) (ci (0))), mv 4 5] [3, 4] none)
 (.cond (tm 4) (.seq (.region none [] [
 op 2 (.mov (ci (0)))] [2] none)
 (.ret))
 (.seq (.region none [] [
 op 7 (.bin .eql .int (tm 3) (ci (1))), mv 6 7] [3, 6] none)
 (.cond (tm 6) (.seq (.region none [] [
 op 2 (.mov (ci (1)))] [2] none)
 (.ret))
 (.seq (.seq (.region none [] [
 op 9 (.bin .eql .int (tm 3) (ci (2))), mv 8 9] [3, 8] none)
 (.cond (tm 8) (.skip)
 (.region none [] [
 op 10 (.bin .eql .int (tm 3) (ci (3))), mv 8 10] [3, 8] none)))
 (.cond (tm 8) (.seq (.region none [] [
 op 2 (.mov (ci (2)))] [2] none)
 (.ret))
 (.seq (.region none [] [
 op 12 (.bin .eql .int (tm 3) (ci (4))), mv 11 12] [3, 11] none)
 (.cond (tm 11) (.seq (.region none [] [
 op 2 (.mov (ci (3)))] [2] none)
 (.ret))
 (.seq (.region none [] [
 op 14 (.bin .eql .int (tm 3) (ci (5))), mv 13 14] [3, 13] none)
 (.cond (tm 13) (.seq (.region none [] [
 op 2 (.mov (ci (4)))] [2] none)
 (.ret))
 (.seq (.region none [] [
 op 16 (.bin .eql .int (tm 3) (ci (6))), mv 15 16] [3, 15] none)
 (.cond (tm 15) (.seq (.region none [] [
 op 2 (.mov (ci (5)))] [2] none)
 (.ret))
 (.seq (.region none [] [
 op 18 (.bin .eql .int (tm 3) (ci (8))), mv 17 18] [17] none)
 (.cond (tm 17) (.seq (.region none [] [
 op 2 (.mov (ci (6)))] [2] none)
 (.ret))
 (.skip)))))))))))))))))
 (.seq (.region none [] [
 op 2 (.mov (ci (7)))] [2] none)
 (.ret)))

def a53 : AFunc := ⟨1, c53, [.tmp 2]⟩

def an53 : List RAnn := [
 { id := 0, live := [0] },
 { id := 1, live := [3] },
 { id := 2, live := [3, 4] },
 { id := 3, live := [2] },
 { id := 4, live := [3, 6] },
 { id := 5, live := [2] },
 { id := 6, live := [3, 8] },
 { id := 7, live := [3, 8] },
 { id := 8, live := [2] },
 { id := 9, live := [3, 11] },
 { id := 10, live := [2] },
 { id := 11, live := [3, 13] },
 { id := 12, live := [2] },
 { id := 13, live := [3, 15] },
 { id := 14, live := [2] },
 { id := 15, live := [17] },
 { id := 16, live := [2] },
 { id := 17, live := [2] }]

theorem comp53 : compF Try.prog an53 Try.f53 = some a53 := by kernel_rfl

/- graphdb/graphdbref04.Number -/
def c54 : ACode :=
 .seq (.region none [] [
 op 1 (.box 5 (tm 0)), op 2 (.alloc 2 (.agg [.int .i64 0, .int .i64 0])), op 3 (.mov (.cst (.bool false)))] [1, 2] none)
 (.seq (.seq (.region none [] [
 op 4 (.load (some 5) (tm 1)), op 5 (.call .pure 49 [(tm 4)]), op 6 (.un .not (tm 5))] [1, 2, 6] none)
 (.cond (tm 6) (.seq (.region none [] [
 op 7 (.build [.int .i64 0, .int .i64 0] []), ⟨none, .store 2 (tm 2) (tm 7), none⟩, op 3 (.mov (.cst (.bool false)))] [2, 3] none)
 (.ret))
 (.skip)))
 (.seq (.seq (.region none [] [
 op 8 (.faddr 0 (tm 1)), op 9 (.load none (tm 8)), op 10 (.bin .eql .int (tm 9) (ci (2)))] [1, 2, 10] none)
 (.cond (tm 10) (.seq (.region none [] [
 op 11 (.faddr 1 (tm 1)), op 12 (.load none (tm 11)), op 13 (.build [.int .i64 0, .int .i64 0] [(0, 1, (tm 12)), (1, 1, (ci (1)))]), ⟨none, .store 2 (tm 2) (tm 13), none⟩, op 3 (.mov (.cst (.bool true)))] [2, 3] none)
 (.ret))
 (.skip)))
 (.seq (.seq (.region none [] [
 op 14 (.faddr 0 (tm 1)), op 15 (.load none (tm 14)), op 16 (.bin .eql .int (tm 15) (ci (3)))] [1, 2, 16] none)
 (.cond (tm 16) (.seq (.region none [] [
 op 17 (.faddr 1 (tm 1)), op 18 (.load none (tm 17)), op 19 (.faddr 2 (tm 1)), op 20 (.load none (tm 19)), op 21 (.build [.int .i64 0, .int .i64 0] [(0, 1, (tm 18)), (1, 1, (tm 20))]), ⟨none, .store 2 (tm 2) (tm 21), none⟩, op 3 (.mov (.cst (.bool true)))] [2, 3] none)
 (.ret))
 (.skip)))
 (.seq (.region none [] [
 op 22 (.build [.int .i64 0, .int .i64 0] []), ⟨none, .store 2 (tm 2) (tm 22), none⟩, op 3 (.mov (.cst (.bool false)))] [2, 3] none)
 (.ret)))))

def a54 : AFunc := ⟨1, c54, [.cell 2 (some 2), .tmp 3]⟩

def an54 : List RAnn := [
 { id := 0, live := [1, 2] },
 { id := 1, live := [1, 2, 6] },
 { id := 2, live := [2, 3] },
 { id := 3, live := [1, 2, 10] },
 { id := 4, live := [2, 3] },
 { id := 5, live := [1, 2, 16] },
 { id := 6, live := [2, 3] },
 { id := 7, live := [2, 3] }]

theorem comp54 : compF Try.prog an54 Try.f54 = some a54 := by kernel_rfl

/- graphdb/graphdbref03.Cmp -/
def c55 : ACode :=
 .seq (.region none [] [
 op 2 (.box 2 (tm 0)), op 3 (.box 2 (tm 1)), op 4 (.mov (ci (0)))] [2, 3] none)
 (.seq (.seq (.region none [] [
 op 7 (.load (some 2) (tm 2)), op 8 (.call .pure 78 [(tm 7)]), op 9 (.un .not (tm 8))] [2, 3, 9] none)
 (.cond (tm 9) (.region none [] [
 op 10 (.build [.int .i64 0, .int .i64 0] [(1, 1, (ci (1)))]), ⟨none, .store 2 (tm 2) (tm 10), none⟩] [2, 3] none)
 (.skip)))
 (.seq (.seq (.region none [] [
 op 11 (.load (some 2) (tm 3)), op 12 (.call .pure 78 [(tm 11)]), op 13 (.un .not (tm 12))] [2, 3, 13] none)
 (.cond (tm 13) (.region none [] [
 op 14 (.build [.int .i64 0, .int .i64 0] [(1, 1, (ci (1)))]), ⟨none, .store 2 (tm 3) (tm 14), none⟩] [2, 3] none)
 (.skip)))
 (.seq (.region (some 25) [] [
 op 16 (.faddr 0 (tm 2)), op 17 (.load none (tm 16)), op 18 (.call .pure 80 [(tm 17)]), op 19 (.faddr 0 (tm 2)), op 20 (.load none (tm 19)), op 21 (.call .pure 82 [(tm 20)]), op 22 (.faddr 1 (tm 3)), op 23 (.load none (tm 22)), op 24 (.call .pure 81 [(tm 21), (tm 23)]), op 25 (.faddr 0 (tm 3)), op 26 (.load none (tm 25)), op 27 (.call .pure 80 [(tm 26)]), op 28 (.un .neg (tm 27)), op 29 (.faddr 0 (tm 3)), op 30 (.load none (tm 29)), op 31 (.call .pure 82 [(tm 30)]), op 32 (.faddr 1 (tm 2)), op 33 (.load none (tm 32)), op 34 (.call .pure 81 [(tm 31), (tm 33)]), op 35 (.call .pure 79 [(tm 18), (tm 24), (tm 28), (tm 34)]), mv 15 35, op 36 (.ext (tm 15) 0), op 37 (.ext (tm 15) 1), mv 5 36, mv 6 37] [5] none)
 (.seq (.region none [] [
 mv 38 5, mv 4 38] [4] none)
 (.ret)))))

def a55 : AFunc := ⟨2, c55, [.tmp 4]⟩

def an55 : List RAnn := [
 { id := 0, live := [2, 3] },
 { id := 1, live := [2, 3, 9] },
 { id := 2, live := [2, 3] },
 { id := 3, live := [2, 3, 13] },
 { id := 4, live := [2, 3] },
 { id := 5, head := some 25, live := [5] },
 { id := 6, live := [4] }]

theorem comp55 : compF Try.prog an55 Try.f55 = some a55 := by kernel_rfl

/- graphdb/graph.cloneValue -/
/-- loop 0 of function 56 -/
def l56_0_h : List Nat := [1, 2, 10, 11]

def l56_0_b : ACode :=
 .seq (.region none [] [
 op 12 (.bin .lss .int (tm 11) (tm 10))] [1, 2, 10, 11, 12] none)
 (.seq (.cond (tm 12) (.skip)
 (.exit 0))
 (.seq (.block 1 (.seq (.region none [] [
 mv 13 11, mv 3 13] [1, 2, 3, 10, 11] none)
 (.region (some 10) [] [
 op 14 (.faddr 4 (tm 1)), op 15 (.load none (tm 14)), mv 16 3, op 17 (.faddr 4 (tm 1)), op 18 (.load none (tm 17)), mv 19 3, op 20 (.iaddr 5 (tm 18) (tm 19)), op 21 (.load (some 5) (tm 20)), op 22 (.call .pure 56 [(tm 21)]), op 23 (.iaddr 5 (tm 15) (tm 16)), ⟨none, .store 5 (tm 23) (tm 22), none⟩] [1, 2, 10, 11] none)))
 (.region none [] [
 op 24 (.bin .add .int (tm 11) (ci (1))), mv 11 24] [1, 2, 10, 11] none)))

def c56 : ACode :=
 .seq (.region none [] [
 op 1 (.box 5 (tm 0)), op 2 (.alloc 5 (.agg [.int .i64 0, .int .i64 0, .int .i64 0, .str [], .sl false []]))] [1, 2] none)
 (.seq (.region none [] [
 op 4 (.faddr 4 (tm 1)), op 5 (.load none (tm 4)), op 6 (.call .own 83 [(tm 5)]), op 7 (.faddr 4 (tm 1)), ⟨none, .store 1 (tm 7) (tm 6), none⟩] [1, 2] none)
 (.seq (.seq (.region none [] [
 op 8 (.faddr 4 (tm 1)), op 9 (.load none (tm 8)), op 10 (.len .slice (tm 9)), op 11 (.mov (ci (0)))] [1, 2, 10, 11] none)
 (.block 0 (.loop l56_0_h l56_0_b)))
 (.seq (.region none [] [
 op 25 (.load (some 5) (tm 1)), ⟨none, .store 5 (tm 2) (tm 25), none⟩] [2] none)
 (.ret))))

def a56 : AFunc := ⟨1, c56, [.cell 2 (some 5)]⟩

def an56 : List RAnn := [
 { id := 0, live := [1, 2] },
 { id := 1, live := [1, 2], ops := [(2, .mode .own)] },
 { id := 2, live := [1, 2, 10, 11] },
 { id := 3, live := [1, 2, 10, 11, 12], hdr := [1, 2, 10, 11] },
 { id := 4, live := [1, 2, 3, 10, 11] },
 { id := 5, head := some 10, live := [1, 2, 10, 11] },
 { id := 6, live := [1, 2, 10, 11] },
 { id := 7, live := [2] }]

theorem comp56 : compF Try.prog an56 Try.f56 = some a56 := by kernel_rfl

/- graphdb/value.Null -/
def c57 : ACode :=
 .seq (.region none [] [
 op 0 (.alloc 5 (.agg [.int .i64 0, .int .i64 0, .int .i64 0, .str [], .sl false []]))] [0] none)
 (.seq (.region none [] [
 op 1 (.build [.int .i64 0, .int .i64 0, .int .i64 0, .str [], .sl false []] []), ⟨none, .store 5 (tm 0) (tm 1), none⟩] [0] none)
 (.ret))

def a57 : AFunc := ⟨0, c57, [.cell 0 (some 5)]⟩

def an57 : List RAnn := [
 { id := 0, live := [0] },
 { id := 1, live := [0] }]

theorem comp57 : compF Try.prog an57 Try.f57 = some a57 := by kernel_rfl

/- graphdb/graphdbref07.node -/
def c58 : ACode :=
 .seq (.region none [] [
 op 2 (.box 4 (tm 0)), op 4 (.mov (ci (0)))] [1, 2] none)
 (.seq (.region none [] [
 op 6 (.faddr 0 (tm 2)), op 7 (.load none (tm 6)), mv 8 1, op 9 (.iaddr 3 (tm 7) (tm 8)), op 10 (.load (some 3) (tm 9)), op 5 (.alloc 3 (.agg [.int .i64 0, .sl false [], .sl false []])), ⟨none, .store 3 (tm 5) (tm 10), none⟩] [1, 2, 5] none)
 (.seq (.seq (.region (some 14) [] [
 mv 11 1, op 12 (.bin .gtr .int (tm 11) (ci (0))), mv 13 12, ⟨some 14, .faddr 0 (tm 5), some (13, true)⟩, ⟨some 15, .load none (tm 14), some (13, true)⟩, ⟨some 16, .faddr 0 (tm 2), some (13, true)⟩, ⟨some 17, .load none (tm 16), some (13, true)⟩, mg 18 1 13 true, ⟨some 19, .bin .sub .int (tm 18) (ci (1)), some (13, true)⟩, ⟨some 20, .iaddr 3 (tm 17) (tm 19), some (13, true)⟩, ⟨some 21, .faddr 0 (tm 20), some (13, true)⟩, ⟨some 22, .load none (tm 21), some (13, true)⟩, ⟨some 23, .bin .leq .int (tm 15) (tm 22), some (13, true)⟩, op 24 (.pick (tm 13) (tm 23) (.cst (.bool false)))] [2, 5, 24] none)
 (.cond (tm 24) (.seq (.region none [] [
 op 4 (.mov (ci (26)))] [4] none)
 (.ret))
 (.skip)))
 (.seq (.seq (.region none [] [
 op 25 (.faddr 0 (tm 5)), op 26 (.load none (tm 25)), op 27 (.bin .lss .int (tm 26) (ci (1))), mv 28 27, ⟨some 29, .faddr 0 (tm 5), some (28, false)⟩, ⟨some 30, .load none (tm 29), some (28, false)⟩, ⟨some 31, .faddr 2 (tm 2), some (28, false)⟩, ⟨some 32, .load none (tm 31), some (28, false)⟩, ⟨some 33, .bin .geq .int (tm 30) (tm 32), some (28, false)⟩, op 34 (.pick (tm 28) (.cst (.bool true)) (tm 33))] [5, 34] none)
 (.cond (tm 34) (.seq (.region none [] [
 op 4 (.mov (ci (1)))] [4] none)
 (.ret))
 (.skip)))
 (.seq (.region none [] [
 op 35 (.faddr 1 (tm 5)), op 36 (.load none (tm 35)), op 37 (.faddr 2 (tm 5)), op 38 (.load none (tm 37)), op 39 (.call .pure 84 [(tm 36), (tm 38)]), mv 4 39] [4] none)
 (.ret)))))

def a58 : AFunc := ⟨2, c58, [.tmp 4]⟩

def an58 : List RAnn := [
 { id := 0, live := [1, 2] },
 { id := 1, live := [1, 2, 5] },
 { id := 2, head := some 14, live := [2, 5, 24] },
 { id := 3, live := [4] },
 { id := 4, live := [5, 34] },
 { id := 5, live := [4] },
 { id := 6, live := [4] }]

theorem comp58 : compF Try.prog an58 Try.f58 = some a58 := by kernel_rfl

/- graphdb/graphdbref07.edge -/
def c59 : ACode :=
 .seq (.region none [] [
 op 2 (.box 4 (tm 0)), op 4 (.mov (ci (0)))] [1, 2] none)
 (.seq (.region none [] [
 op 10 (.faddr 1 (tm 2)), op 11 (.load none (tm 10)), mv 12 1, op 13 (.iaddr 5 (tm 11) (tm 12)), op 14 (.load (some 5) (tm 13)), op 5 (.alloc 5 (.agg [.int .i64 0, .int .i64 0, .int .i64 0, .str [], .sl false []])), ⟨none, .store 5 (tm 5) (tm 14), none⟩] [1, 2, 5] none)
 (.seq (.seq (.region (some 14) [] [
 mv 15 1, op 16 (.bin .gtr .int (tm 15) (ci (0))), mv 17 16, ⟨some 18, .faddr 0 (tm 5), some (17, true)⟩, ⟨some 19, .load none (tm 18), some (17, true)⟩, ⟨some 20, .faddr 1 (tm 2), some (17, true)⟩, ⟨some 21, .load none (tm 20), some (17, true)⟩, mg 22 1 17 true, ⟨some 23, .bin .sub .int (tm 22) (ci (1)), some (17, true)⟩, ⟨some 24, .iaddr 5 (tm 21) (tm 23), some (17, true)⟩, ⟨some 25, .faddr 0 (tm 24), some (17, true)⟩, ⟨some 26, .load none (tm 25), some (17, true)⟩, ⟨some 27, .bin .leq .int (tm 19) (tm 26), some (17, true)⟩, op 28 (.pick (tm 17) (tm 27) (.cst (.bool false)))] [2, 5, 28] none)
 (.cond (tm 28) (.seq (.region none [] [
 op 4 (.mov (ci (26)))] [4] none)
 (.ret))
 (.skip)))
 (.seq (.seq (.region none [] [
 op 29 (.faddr 0 (tm 5)), op 30 (.load none (tm 29)), op 31 (.bin .lss .int (tm 30) (ci (1))), mv 32 31, ⟨some 33, .faddr 0 (tm 5), some (32, false)⟩, ⟨some 34, .load none (tm 33), some (32, false)⟩, ⟨some 35, .faddr 3 (tm 2), some (32, false)⟩, ⟨some 36, .load none (tm 35), some (32, false)⟩, ⟨some 37, .bin .geq .int (tm 34) (tm 36), some (32, false)⟩, op 38 (.pick (tm 32) (.cst (.bool true)) (tm 37))] [2, 5, 38] none)
 (.cond (tm 38) (.seq (.region none [] [
 op 4 (.mov (ci (1)))] [4] none)
 (.ret))
 (.skip)))
 (.seq (.region none [] [
 op 40 (.load (some 4) (tm 2)), op 41 (.faddr 1 (tm 5)), op 42 (.load none (tm 41)), op 43 (.call .pure 17 [(tm 40), (tm 42)]), mv 39 43, op 44 (.ext (tm 39) 0), op 45 (.ext (tm 39) 1), op 6 (.alloc 3 (.agg [.int .i64 0, .sl false [], .sl false []])), ⟨none, .store 3 (tm 6) (tm 44), none⟩, mv 7 45] [2, 5, 7] none)
 (.seq (.region none [] [
 op 47 (.load (some 4) (tm 2)), op 48 (.faddr 2 (tm 5)), op 49 (.load none (tm 48)), op 50 (.call .pure 17 [(tm 47), (tm 49)]), mv 46 50, op 51 (.ext (tm 46) 0), op 52 (.ext (tm 46) 1), op 8 (.alloc 3 (.agg [.int .i64 0, .sl false [], .sl false []])), ⟨none, .store 3 (tm 8) (tm 51), none⟩, mv 9 52] [5, 7, 9] none)
 (.seq (.seq (.region none [] [
 mv 53 7, op 54 (.un .not (tm 53)), mv 55 54, mg 56 9 55 false, ⟨some 57, .un .not (tm 56), some (55, false)⟩, op 58 (.pick (tm 55) (.cst (.bool true)) (tm 57))] [5, 58] none)
 (.cond (tm 58) (.seq (.region none [] [
 op 4 (.mov (ci (10)))] [4] none)
 (.ret))
 (.skip)))
 (.seq (.seq (.region none [] [
 op 59 (.faddr 3 (tm 5)), op 60 (.load none (tm 59)), op 61 (.call .pure 85 [(tm 60)]), op 62 (.un .not (tm 61))] [5, 62] none)
 (.cond (tm 62) (.seq (.region none [] [
 op 4 (.mov (ci (6)))] [4] none)
 (.ret))
 (.skip)))
 (.seq (.region none [] [
 op 63 (.faddr 4 (tm 5)), op 64 (.load none (tm 63)), op 65 (.call .pure 84 [(.cst (.sl false [])), (tm 64)]), mv 4 65] [4] none)
 (.ret)))))))))

def a59 : AFunc := ⟨2, c59, [.tmp 4]⟩

def an59 : List RAnn := [
 { id := 0, live := [1, 2] },
 { id := 1, live := [1, 2, 5] },
 { id := 2, head := some 14, live := [2, 5, 28] },
 { id := 3, live := [4] },
 { id := 4, live := [2, 5, 38] },
 { id := 5, live := [4] },
 { id := 6, live := [2, 5, 7] },
 { id := 7, live := [5, 7, 9] },
 { id := 8, live := [5, 58] },
 { id := 9, live := [4] },
 { id := 10, live := [5, 62] },
 { id := 11, live := [4] },
 { id := 12, live := [4] }]

theorem comp59 : compF Try.prog an59 Try.f59 = some a59 := by kernel_rfl

/- slices.Sort[[]string,string] -/
def c60 : ACode :=
 .seq (.region none [] [
 mv 3 0, op 4 (.len .slice (tm 3)), mv 2 4] [0, 2] none)
 (.region none [] [
 mv 5 0, mv 6 2, mv 7 2, op 8 (.conv .u64 (tm 7)), op 9 (.call .pure 87 [(tm 8)]), op 10 (.call .share 86 [(tm 5), (ci (0)), (tm 6), (tm 9)])] [] none)

def a60 : AFunc := ⟨1, c60, []⟩

def an60 : List RAnn := [
 { id := 0, live := [0, 2] },
 { id := 1, ops := [(5, .mode .share)] }]

theorem comp60 : compF Try.prog an60 Try.f60 = some a60 := by kernel_rfl

/- slices.Compact[[]string,string] -/
/-- loop 0 of function 61 -/
def l61_0_h : List Nat := [0, 3, 4, 5]

def l61_0_b : ACode :=
 .seq (.seq (.region none [] [
 mv 29 5, mv 30 4, op 31 (.len .slice (tm 30)), op 32 (.bin .lss .int (tm 29) (tm 31))] [0, 3, 4, 5, 32] none)
 (.cond (tm 32) (.skip)
 (.exit 2)))
 (.seq (.block 3 (.seq (.region (some 10) [] [
 mv 35 4, mv 36 5, op 37 (.iaddr 1 (tm 35) (tm 36)), op 38 (.load none (tm 37)), mv 39 4, mv 40 5, op 41 (.bin .sub .int (tm 40) (ci (1))), op 42 (.iaddr 1 (tm 39) (tm 41)), op 43 (.load none (tm 42)), op 44 (.bin .neq .str (tm 38) (tm 43))] [0, 3, 4, 5, 44] none)
 (.cond (tm 44) (.seq (.region none [] [
 mv 45 0, mv 46 3, mv 47 4, mv 48 5, op 49 (.iaddr 1 (tm 47) (tm 48)), op 50 (.load none (tm 49)), op 51 (.iaddr 1 (tm 45) (tm 46)), ⟨none, .store 1 (tm 51) (tm 50), none⟩] [0, 3, 4, 5] none)
 (.region none [] [
 mv 52 3, op 53 (.bin .add .int (tm 52) (ci (1))), mv 3 53] [0, 3, 4, 5] none))
 (.skip))))
 (.region none [] [
 mv 33 5, op 34 (.bin .add .int (tm 33) (ci (1))), mv 5 34] [0, 3, 4, 5] none))

/-- loop 1 of function 61 -/
def l61_1_h : List Nat := [0, 3]

def l61_1_b : ACode :=
 .seq (.seq (.region none [] [
 mv 10 3, mv 11 0, op 12 (.len .slice (tm 11)), op 13 (.bin .lss .int (tm 10) (tm 12))] [0, 3, 13] none)
 (.cond (tm 13) (.skip)
 (.exit 0)))
 (.seq (.block 1 (.seq (.region (some 10) [] [
 mv 16 0, mv 17 3, op 18 (.iaddr 1 (tm 16) (tm 17)), op 19 (.load none (tm 18)), mv 20 0, mv 21 3, op 22 (.bin .sub .int (tm 21) (ci (1))), op 23 (.iaddr 1 (tm 20) (tm 22)), op 24 (.load none (tm 23)), op 25 (.bin .eql .str (tm 19) (tm 24))] [0, 3, 25] none)
 (.cond (tm 25) (.seq (.region none [] [
 mv 26 0, mv 27 3, op 28 (.slice 1 (tm 26) (some (tm 27)) none), mv 4 28] [0, 3, 4] none)
 (.seq (.seq (.region none [] [
 op 5 (.mov (ci (1)))] [0, 3, 4, 5] none)
 (.block 2 (.loop l61_0_h l61_0_b)))
 (.seq (.region none [] [
 mv 54 0, mv 55 3, op 56 (.slice 1 (tm 54) (some (tm 55)) none), ⟨none, .clear 1 (tm 56), none⟩] [0, 3] none)
 (.seq (.region none [] [
 mv 57 0, mv 58 3, op 59 (.slice 1 (tm 57) none (some (tm 58))), mv 2 59] [2] none)
 (.ret)))))
 (.skip))))
 (.region none [] [
 mv 14 3, op 15 (.bin .add .int (tm 14) (ci (1))), mv 3 15] [0, 3] none))

def c61 : ACode :=
 .seq (.region none [] [
 op 2 (.mov (.cst (.sl false [])))] [0] none)
 (.seq (.seq (.region none [] [
 mv 6 0, op 7 (.len .slice (tm 6)), op 8 (.bin .lss .int (tm 7) (ci (2)))] [0, 8] none)
 (.cond (tm 8) (.seq (.region none [] [
 mv 9 0, mv 2 9] [2] none)
 (.ret))
 (.skip)))
 (.seq (.seq (.region none [] [
 op 3 (.mov (ci (1)))] [0, 3] none)
 (.block 0 (.loop l61_1_h l61_1_b)))
 (.seq (.region none [] [
 mv 60 0, mv 2 60] [2] none)
 (.ret))))

def a61 : AFunc := ⟨1, c61, [.tmp 2]⟩

def an61 : List RAnn := [
 { id := 0, live := [0] },
 { id := 1, live := [0, 8] },
 { id := 2, live := [2] },
 { id := 3, live := [0, 3] },
 { id := 4, live := [0, 3, 13], hdr := [0, 3] },
 { id := 6, head := some 10, live := [0, 3, 25] },
 { id := 7, live := [0, 3, 4] },
 { id := 8, live := [0, 3, 4, 5] },
 { id := 9, live := [0, 3, 4, 5, 32], hdr := [0, 3, 4, 5] },
 { id := 11, head := some 10, live := [0, 3, 4, 5, 44] },
 { id := 12, live := [0, 3, 4, 5] },
 { id := 13, live := [0, 3, 4, 5] },
 { id := 10, live := [0, 3, 4, 5] },
 { id := 14, live := [0, 3] },
 { id := 15, live := [2] },
 { id := 5, live := [0, 3] },
 { id := 16, live := [2] }]

theorem comp61 : compF Try.prog an61 Try.f61 = some a61 := by kernel_rfl

/- graphdb/graphdbref07.PutStr -/
/-- loop 0 of function 62 -/
def l62_0_h : List Nat := [0, 1, 5, 6]

def l62_0_b : ACode :=
 .seq (.seq (.region none [] [
 mv 7 6, mv 8 0, op 9 (.len .slice (tm 8)), op 10 (.bin .lss .int (tm 7) (tm 9)), mv 11 10, mg 12 0 11 true, mg 13 6 11 true, ⟨some 14, .iaddr 1 (tm 12) (tm 13), some (11, true)⟩, ⟨some 15, .load none (tm 14), some (11, true)⟩, mg 16 1 11 true, ⟨some 17, .bin .lss .str (tm 15) (tm 16), some (11, true)⟩, op 18 (.pick (tm 11) (tm 17) (.cst (.bool false)))] [0, 1, 5, 6, 18] none)
 (.cond (tm 18) (.skip)
 (.exit 0)))
 (.block 1 (.region none [] [
 mv 19 6, op 20 (.bin .add .int (tm 19) (ci (1))), mv 6 20] [0, 1, 5, 6] none))

def c62 : ACode :=
 .seq (.region none [] [
 op 4 (.mov (.cst (.sl false [])))] [0, 1] none)
 (.seq (.region none [] [
 op 5 (.newown 1)] [0, 1, 5] none)
 (.seq (.region none [] [
 op 6 (.mov (ci (0)))] [0, 1, 5, 6] none)
 (.seq (.block 0 (.loop l62_0_h l62_0_b))
 (.seq (.region none [] [
 mv 21 5, mv 22 0, mv 23 6, op 24 (.slice 1 (tm 22) none (some (tm 23))), op 25 (.append 1 16 (tm 21) (tm 24)), mv 5 25] [0, 1, 5, 6] none)
 (.seq (.seq (.region none [] [
 mv 26 6, mv 27 0, op 28 (.len .slice (tm 27)), op 29 (.bin .eql .int (tm 26) (tm 28)), mv 30 29, mg 31 0 30 false, mg 32 6 30 false, ⟨some 33, .iaddr 1 (tm 31) (tm 32), some (30, false)⟩, ⟨some 34, .load none (tm 33), some (30, false)⟩, mg 35 1 30 false, ⟨some 36, .bin .neq .str (tm 34) (tm 35), some (30, false)⟩, op 37 (.pick (tm 30) (.cst (.bool true)) (tm 36))] [0, 1, 5, 6, 37] none)
 (.cond (tm 37) (.region none [] [
 mv 38 5, mv 39 1, op 40 (.lit false 1 (.str []) 1 [(0, (tm 39))]), op 41 (.append 1 16 (tm 38) (tm 40)), mv 5 41] [0, 5, 6] none)
 (.skip)))
 (.seq (.region none [] [
 mv 42 5, mv 43 0, mv 44 6, op 45 (.slice 1 (tm 43) (some (tm 44)) none), op 46 (.append 1 16 (tm 42) (tm 45)), mv 4 46] [4] none)
 (.ret)))))))

def a62 : AFunc := ⟨2, c62, [.tmp 4]⟩

def an62 : List RAnn := [
 { id := 0, live := [0, 1] },
 { id := 1, live := [0, 1, 5], ops := [(0, .own)] },
 { id := 2, live := [0, 1, 5, 6] },
 { id := 3, live := [0, 1, 5, 6, 18], hdr := [0, 1, 5, 6] },
 { id := 4, live := [0, 1, 5, 6] },
 { id := 5, live := [0, 1, 5, 6] },
 { id := 6, live := [0, 1, 5, 6, 37] },
 { id := 7, live := [0, 5, 6] },
 { id := 8, live := [4] }]

theorem comp62 : compF Try.prog an62 Try.f62 = some a62 := by kernel_rfl

/- graphdb/graphdbref04.Weigh -/
/-- loop 0 of function 63 -/
def l63_0_h : List Nat := [1, 2, 3, 7]

def l63_0_b : ACode :=
 .seq (.seq (.region none [] [
 mv 17 7, op 18 (.faddr 4 (tm 3)), op 19 (.load none (tm 18)), op 20 (.len .slice (tm 19)), op 21 (.bin .lss .int (tm 17) (tm 20)), mv 22 21, mg 23 1 22 true, ⟨some 24, .bin .geq .int (tm 23) (ci (0)), some (22, true)⟩, op 25 (.pick (tm 22) (tm 24) (.cst (.bool false)))] [1, 2, 3, 7, 25] none)
 (.cond (tm 25) (.skip)
 (.exit 0)))
 (.seq (.block 1 (.region none [] [
 op 28 (.faddr 4 (tm 3)), op 29 (.load none (tm 28)), mv 30 7, op 31 (.iaddr 5 (tm 29) (tm 30)), op 32 (.load (some 5) (tm 31)), mv 33 1, mv 34 2, op 35 (.bin .sub .int (tm 34) (ci (1))), op 36 (.call .pure 63 [(tm 32), (tm 33), (tm 35)]), mv 1 36] [1, 2, 3, 7] none))
 (.region none [] [
 mv 26 7, op 27 (.bin .add .int (tm 26) (ci (1))), mv 7 27] [1, 2, 3, 7] none))

def c63 : ACode :=
 .seq (.region none [] [
 op 3 (.box 5 (tm 0)), op 6 (.mov (ci (0)))] [1, 2, 3] none)
 (.seq (.region none [] [
 mv 8 1, op 9 (.bin .sub .int (tm 8) (ci (1))), op 10 (.faddr 3 (tm 3)), op 11 (.load none (tm 10)), op 12 (.len .str (tm 11)), op 13 (.bin .quo .int (tm 12) (ci (50))), op 14 (.bin .sub .int (tm 9) (tm 13)), mv 1 14] [1, 2, 3] none)
 (.seq (.seq (.region none [] [
 mv 15 2, op 16 (.bin .lss .int (tm 15) (ci (1)))] [1, 2, 3, 16] none)
 (.cond (tm 16) (.seq (.region none [] [
 op 6 (.mov (ci ((-1))))] [6] none)
 (.ret))
 (.skip)))
 (.seq (.seq (.region none [] [
 op 7 (.mov (ci (0)))] [1, 2, 3, 7] none)
 (.block 0 (.loop l63_0_h l63_0_b)))
 (.seq (.region none [] [
 mv 37 1, mv 6 37] [6] none)
 (.ret)))))

def a63 : AFunc := ⟨3, c63, [.tmp 6]⟩

def an63 : List RAnn := [
 { id := 0, live := [1, 2, 3] },
 { id := 1, live := [1, 2, 3] },
 { id := 2, live := [1, 2, 3, 16] },
 { id := 3, live := [6] },
 { id := 4, live := [1, 2, 3, 7] },
 { id := 5, live := [1, 2, 3, 7, 25], hdr := [1, 2, 3, 7] },
 { id := 7, live := [1, 2, 3, 7] },
 { id := 6, live := [1, 2, 3, 7] },
 { id := 8, live := [6] }]

theorem comp63 : compF Try.prog an63 Try.f63 = some a63 := by kernel_rfl

/- graphdb/graph.letter -/
def c64 : ACode :=
 .seq (.region none [] [
 op 2 (.mov (.cst (.bool false)))] [0] none)
 (.seq (.region none [] [
 mv 3 0, op 4 (.bin .geq .int (tm 3) (.cst (.int .u8 97))), mv 5 4, mg 6 0 5 true, ⟨some 7, .bin .leq .int (tm 6) (.cst (.int .u8 122)), some (5, true)⟩, op 8 (.pick (tm 5) (tm 7) (.cst (.bool false))), mv 9 8, mg 10 0 9 false, ⟨some 11, .bin .geq .int (tm 10) (.cst (.int .u8 65)), some (9, false)⟩, mg 12 11 9 false, mg 13 0 12 true, ⟨some 14, .bin .leq .int (tm 13) (.cst (.int .u8 90)), some (12, true)⟩, ⟨some 15, .pick (tm 12) (tm 14) (.cst (.bool false)), some (9, false)⟩, op 16 (.pick (tm 9) (.cst (.bool true)) (tm 15)), mv 2 16] [2] none)
 (.ret))

def a64 : AFunc := ⟨1, c64, [.tmp 2]⟩

def an64 : List RAnn := [
 { id := 0, live := [0] },
 { id := 1, live := [2] }]

theorem comp64 : compF Try.prog an64 Try.f64 = some a64 := by kernel_rfl

/- slices.stableCmpFunc[graphdb/api.Adj] -/
/-- loop 0 of function 65 -/
def l65_0_h : List Nat := [0, 1, 2, 6, 7, 8]

def l65_0_b : ACode :=
 .seq (.seq (.region none [] [
 mv 11 8, mv 12 1, op 13 (.bin .leq .int (tm 11) (tm 12))] [0, 1, 2, 6, 7, 8, 13] none)
 (.cond (tm 13) (.skip)
 (.exit 0)))
 (.block 1 (.seq (.region none [] [
 mv 14 0, mv 15 7, mv 16 8, mv 17 2, op 18 (.call .share 88 [(tm 14), (tm 15), (tm 16), (tm 17)])] [0, 1, 2, 6, 8] none)
 (.seq (.region none [] [
 mv 19 8, mv 7 19] [0, 1, 2, 6, 7, 8] none)
 (.region none [] [
 mv 20 8, mv 21 6, op 22 (.bin .add .int (tm 20) (tm 21)), mv 8 22] [0, 1, 2, 6, 7, 8] none))))

/-- loop 1 of function 65 -/
def l65_1_h : List Nat := [0, 1, 2, 6, 7, 8]

def l65_1_b : ACode :=
 .seq (.seq (.region none [] [
 mv 33 8, mv 34 1, op 35 (.bin .leq .int (tm 33) (tm 34))] [0, 1, 2, 6, 7, 8, 35] none)
 (.cond (tm 35) (.skip)
 (.exit 4)))
 (.block 5 (.seq (.region none [] [
 mv 36 0, mv 37 7, mv 38 7, mv 39 6, op 40 (.bin .add .int (tm 38) (tm 39)), mv 41 8, mv 42 2, op 43 (.call .share 89 [(tm 36), (tm 37), (tm 40), (tm 41), (tm 42)])] [0, 1, 2, 6, 8] none)
 (.seq (.region none [] [
 mv 44 8, mv 7 44] [0, 1, 2, 6, 7, 8] none)
 (.region none [] [
 mv 45 8, mv 46 6, op 47 (.bin .mul .int (ci (2)) (tm 46)), op 48 (.bin .add .int (tm 45) (tm 47)), mv 8 48] [0, 1, 2, 6, 7, 8] none))))

/-- loop 2 of function 65 -/
def l65_2_h : List Nat := [0, 1, 2, 6]

def l65_2_b : ACode :=
 .seq (.seq (.region none [] [
 mv 28 6, mv 29 1, op 30 (.bin .lss .int (tm 28) (tm 29))] [0, 1, 2, 6, 30] none)
 (.cond (tm 30) (.skip)
 (.exit 2)))
 (.block 3 (.seq (.region none [] [
 mv 31 6, op 32 (.bin .mul .int (ci (2)) (tm 31)), op 7 (.mov (ci (0))), mv 8 32] [0, 1, 2, 6, 7, 8] none)
 (.seq (.block 4 (.loop l65_1_h l65_1_b))
 (.seq (.seq (.region none [] [
 mv 49 7, mv 50 6, op 51 (.bin .add .int (tm 49) (tm 50)), mv 9 51] [0, 1, 2, 6, 7, 9] none)
 (.seq (.region none [] [
 mv 52 9, mv 53 1, op 54 (.bin .lss .int (tm 52) (tm 53))] [0, 1, 2, 6, 7, 9, 54] none)
 (.cond (tm 54) (.region none [] [
 mv 55 0, mv 56 7, mv 57 9, mv 58 1, mv 59 2, op 60 (.call .share 89 [(tm 55), (tm 56), (tm 57), (tm 58), (tm 59)])] [0, 1, 2, 6] none)
 (.skip))))
 (.region none [] [
 mv 61 6, op 62 (.bin .mul .int (tm 61) (ci (2))), mv 6 62] [0, 1, 2, 6] none)))))

def c65 : ACode :=
 .seq (.region none [] [
 op 6 (.mov (ci (20)))] [0, 1, 2, 6] none)
 (.seq (.region none [] [
 mv 10 6, op 7 (.mov (ci (0))), mv 8 10] [0, 1, 2, 6, 7, 8] none)
 (.seq (.block 0 (.loop l65_0_h l65_0_b))
 (.seq (.region none [] [
 mv 23 0, mv 24 7, mv 25 1, mv 26 2, op 27 (.call .share 88 [(tm 23), (tm 24), (tm 25), (tm 26)])] [0, 1, 2, 6] none)
 (.block 2 (.loop l65_2_h l65_2_b)))))

def a65 : AFunc := ⟨3, c65, []⟩

def an65 : List RAnn := [
 { id := 0, live := [0, 1, 2, 6] },
 { id := 1, live := [0, 1, 2, 6, 7, 8] },
 { id := 2, live := [0, 1, 2, 6, 7, 8, 13], hdr := [0, 1, 2, 6, 7, 8] },
 { id := 3, live := [0, 1, 2, 6, 8], ops := [(4, .mode .share)] },
 { id := 4, live := [0, 1, 2, 6, 7, 8] },
 { id := 5, live := [0, 1, 2, 6, 7, 8] },
 { id := 6, live := [0, 1, 2, 6], ops := [(4, .mode .share)] },
 { id := 7, live := [0, 1, 2, 6, 30], hdr := [0, 1, 2, 6] },
 { id := 8, live := [0, 1, 2, 6, 7, 8] },
 { id := 9, live := [0, 1, 2, 6, 7, 8, 35], hdr := [0, 1, 2, 6, 7, 8] },
 { id := 10, live := [0, 1, 2, 6, 8], ops := [(7, .mode .share)] },
 { id := 11, live := [0, 1, 2, 6, 7, 8] },
 { id := 12, live := [0, 1, 2, 6, 7, 8] },
 { id := 13, live := [0, 1, 2, 6, 7, 9] },
 { id := 14, live := [0, 1, 2, 6, 7, 9, 54] },
 { id := 15, live := [0, 1, 2, 6], ops := [(5, .mode .share)] },
 { id := 16, live := [0, 1, 2, 6] }]

theorem comp65 : compF Try.prog an65 Try.f65 = some a65 := by kernel_rfl

/- cmp.isNaN[int] -/
def c66 : ACode :=
 .seq (.region none [] [
 op 2 (.mov (.cst (.bool false)))] [0] none)
 (.seq (.region none [] [
 mv 3 0, mv 4 0, op 5 (.bin .neq .int (tm 3) (tm 4)), mv 2 5] [2] none)
 (.ret))

def a66 : AFunc := ⟨1, c66, [.tmp 2]⟩

def an66 : List RAnn := [
 { id := 0, live := [0] },
 { id := 1, live := [2] }]

theorem comp66 : compF Try.prog an66 Try.f66 = some a66 := by kernel_rfl

/- slices.ContainsFunc[[]string,string] -/
def c67 : ACode :=
 .seq (.region none [] [
 op 4 (.mov (.cst (.bool false)))] [0, 1] none)
 (.seq (.region none [] [
 mv 5 0, mv 6 1, op 7 (.call .pure 90 [(tm 5), (tm 6)]), op 8 (.bin .geq .int (tm 7) (ci (0))), mv 4 8] [4] none)
 (.ret))

def a67 : AFunc := ⟨2, c67, [.tmp 4]⟩

def an67 : List RAnn := [
 { id := 0, live := [0, 1] },
 { id := 1, live := [4] }]

theorem comp67 : compF Try.prog an67 Try.f67 = some a67 := by kernel_rfl

/- graphdb/graph.unnamed -/
def c68 : ACode :=
 .seq (.region none [] [
 op 2 (.mov (.cst (.bool false)))] [0] none)
 (.seq (.region none [] [
 mv 3 0, op 4 (.call .pure 35 [(tm 3)]), op 5 (.un .not (tm 4)), mv 2 5] [2] none)
 (.ret))

def a68 : AFunc := ⟨1, c68, [.tmp 2]⟩

def an68 : List RAnn := [
 { id := 0, live := [0] },
 { id := 1, live := [2] }]

theorem comp68 : compF Try.prog an68 Try.f68 = some a68 := by kernel_rfl

/- graphdb/graph.increasing -/
/-- loop 0 of function 69 -/
def l69_0_h : List Nat := [0, 3]

def l69_0_b : ACode :=
 .seq (.seq (.region none [] [
 mv 4 3, mv 5 0, op 6 (.len .slice (tm 5)), op 7 (.bin .lss .int (tm 4) (tm 6))] [0, 3, 7] none)
 (.cond (tm 7) (.skip)
 (.exit 0)))
 (.seq (.block 1 (.seq (.region (some 10) [] [
 mv 10 0, mv 11 3, op 12 (.iaddr 1 (tm 10) (tm 11)), op 13 (.load none (tm 12)), mv 14 0, mv 15 3, op 16 (.bin .sub .int (tm 15) (ci (1))), op 17 (.iaddr 1 (tm 14) (tm 16)), op 18 (.load none (tm 17)), op 19 (.bin .leq .str (tm 13) (tm 18))] [0, 3, 19] none)
 (.cond (tm 19) (.seq (.region none [] [
 op 2 (.mov (.cst (.bool false)))] [2] none)
 (.ret))
 (.skip))))
 (.region none [] [
 mv 8 3, op 9 (.bin .add .int (tm 8) (ci (1))), mv 3 9] [0, 3] none))

def c69 : ACode :=
 .seq (.region none [] [
 op 2 (.mov (.cst (.bool false)))] [0] none)
 (.seq (.seq (.region none [] [
 op 3 (.mov (ci (1)))] [0, 3] none)
 (.block 0 (.loop l69_0_h l69_0_b)))
 (.seq (.region none [] [
 op 2 (.mov (.cst (.bool true)))] [2] none)
 (.ret)))

def a69 : AFunc := ⟨1, c69, [.tmp 2]⟩

def an69 : List RAnn := [
 { id := 0, live := [0] },
 { id := 1, live := [0, 3] },
 { id := 2, live := [0, 3, 7], hdr := [0, 3] },
 { id := 4, head := some 10, live := [0, 3, 19] },
 { id := 5, live := [2] },
 { id := 3, live := [0, 3] },
 { id := 6, live := [2] }]

theorem comp69 : compF Try.prog an69 Try.f69 = some a69 := by kernel_rfl

end AI
end Go.Proofs.Ytnakgkibjlcjlaa
