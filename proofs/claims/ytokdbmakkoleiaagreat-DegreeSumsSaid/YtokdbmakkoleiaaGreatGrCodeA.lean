/- Printed by a program of mine: the functions, compiled; the kernel checks each against the given form. -/
import Derived.Test.YtokdbmakkoleiaaGreatSe
import Derived.Test.YtokdbmakkoleiaaGreatProg
import Derived.Test.YtokdbmakkoleiaaGreatAb
import Derived.KernelRfl
import Derived.Test.YtokdbmakkoleiaaGreatIxF
namespace Go.Proofs.YtokdbmakkoleiaaGreat
namespace AI

/- graphdb/graphdblaw16.DegreeOf -/
def c3 : ACode :=
 .seq (.region none [] [
 op 3 (.box 4 (tm 0)), op 6 (.mov (.cst (.bool false)))] [1, 2, 3] none)
 (.seq (.seq (.region none [] [
 op 11 (.load (some 4) (tm 3)), op 12 (.call .pure 6 [(tm 11)]), op 13 (.un .not (tm 12))] [1, 2, 3, 13] none)
 (.cond (tm 13) (.seq (.region none [] [
 op 14 (.call .pure 7 []), mv 6 14] [6] none)
 (.ret))
 (.skip)))
 (.seq (.region none [] [
 op 16 (.load (some 4) (tm 3)), op 17 (.call .pure 8 [(tm 16)]), mv 15 17, op 18 (.ext (tm 15) 0), op 19 (.ext (tm 15) 1), op 7 (.alloc 6 (.agg [.int .i64 0, .int .i64 0, .sl false [], .sl false [], .sl false [], .sl false []])), ⟨none, .store 6 (tm 7) (tm 18), none⟩, mv 8 19] [1, 2, 3, 7, 8] none)
 (.seq (.region none [] [
 op 21 (.load (some 4) (tm 3)), op 22 (.call .pure 9 [(tm 21)]), mv 20 22, op 23 (.ext (tm 20) 0), op 24 (.ext (tm 20) 1), op 9 (.alloc 6 (.agg [.int .i64 0, .int .i64 0, .sl false [], .sl false [], .sl false [], .sl false []])), ⟨none, .store 6 (tm 9) (tm 23), none⟩, mv 10 24] [1, 2, 3, 7, 8, 9, 10] none)
 (.seq (.region (some 23) [] [
 op 25 (.load (some 6) (tm 7)), op 26 (.load (some 6) (tm 9)), op 27 (.call .pure 10 [(tm 25), (tm 26)]), mv 28 27, mg 29 8 28 true, mg 30 10 28 true, ⟨some 31, .bin .eql .int (tm 29) (tm 30), some (28, true)⟩, op 32 (.pick (tm 28) (tm 31) (.cst (.bool false))), mv 33 32, ⟨some 34, .load (some 4) (tm 3), some (33, true)⟩, mg 35 1 33 true, mg 36 2 33 true, ⟨some 37, .call .pure 12 [(tm 34), (tm 35), (tm 36)], some (33, true)⟩, ⟨some 38, .load (some 4) (tm 3), some (33, true)⟩, mg 39 1 33 true, mg 40 2 33 true, ⟨some 41, .call .pure 13 [(tm 38), (tm 39), (tm 40)], some (33, true)⟩, ⟨some 42, .call .pure 11 [(tm 37), (tm 41)], some (33, true)⟩, op 43 (.pick (tm 33) (tm 42) (.cst (.bool false))), mv 44 43, ⟨some 45, .call .pure 7 [], some (44, true)⟩, op 46 (.pick (tm 44) (tm 45) (.cst (.bool false))), mv 6 46] [6] none)
 (.ret)))))

def a3 : AFunc := ⟨3, c3, [.tmp 6]⟩

def an3 : List RAnn := [
 { id := 0, live := [1, 2, 3] },
 { id := 1, live := [1, 2, 3, 13] },
 { id := 2, live := [6] },
 { id := 3, live := [1, 2, 3, 7, 8] },
 { id := 4, live := [1, 2, 3, 7, 8, 9, 10] },
 { id := 5, head := some 23, live := [6] }]

theorem comp3 : compF Tryz.prog an3 Tryz.f3 = some a3 := by kernel_rfl

/- graphdb/graphdblaw16.DegreeSums -/
/-- loop 0 of function 4 -/
def l4_0_h : List Nat := [1, 3, 5, 6]

def l4_0_b : ACode :=
 .seq (.seq (.region none [] [
 mv 41 6, op 42 (.faddr 3 (tm 3)), op 43 (.load none (tm 42)), op 44 (.len .slice (tm 43)), op 45 (.bin .lss .int (tm 41) (tm 44))] [1, 3, 5, 6, 45] none)
 (.cond (tm 45) (.skip)
 (.exit 0)))
 (.seq (.block 1 (.seq (.seq (.region (some 66) [] [
 op 48 (.faddr 4 (tm 3)), op 49 (.load none (tm 48)), mv 50 6, op 51 (.iaddr 1 (tm 49) (tm 50)), op 52 (.load none (tm 51)), op 53 (.call .pure 15 [(tm 52)]), op 54 (.faddr 3 (tm 3)), op 55 (.load none (tm 54)), mv 56 6, op 57 (.iaddr 2 (tm 55) (tm 56)), op 58 (.faddr 1 (tm 57)), op 59 (.load none (tm 58)), op 60 (.bin .neq .int (tm 53) (tm 59)), mv 61 60, ⟨some 62, .faddr 5 (tm 3), some (61, false)⟩, ⟨some 63, .load none (tm 62), some (61, false)⟩, mg 64 6 61 false, ⟨some 65, .iaddr 1 (tm 63) (tm 64), some (61, false)⟩, ⟨some 66, .load none (tm 65), some (61, false)⟩, ⟨some 67, .call .pure 15 [(tm 66)], some (61, false)⟩, ⟨some 68, .faddr 3 (tm 3), some (61, false)⟩, ⟨some 69, .load none (tm 68), some (61, false)⟩, mg 70 6 61 false, ⟨some 71, .iaddr 2 (tm 69) (tm 70), some (61, false)⟩, ⟨some 72, .faddr 1 (tm 71), some (61, false)⟩, ⟨some 73, .load none (tm 72), some (61, false)⟩, ⟨some 74, .bin .neq .int (tm 67) (tm 73), some (61, false)⟩, op 75 (.pick (tm 61) (.cst (.bool true)) (tm 74)), mv 76 75, mg 77 6 76 false, ⟨some 78, .bin .gtr .int (tm 77) (ci (0)), some (76, false)⟩, mg 79 78 76 false, ⟨some 80, .faddr 3 (tm 3), some (79, true)⟩, ⟨some 81, .load none (tm 80), some (79, true)⟩, mg 82 6 79 true, ⟨some 83, .bin .sub .int (tm 82) (ci (1)), some (79, true)⟩, ⟨some 84, .iaddr 2 (tm 81) (tm 83), some (79, true)⟩, ⟨some 85, .faddr 0 (tm 84), some (79, true)⟩, ⟨some 86, .load none (tm 85), some (79, true)⟩, ⟨some 87, .faddr 3 (tm 3), some (79, true)⟩, ⟨some 88, .load none (tm 87), some (79, true)⟩, mg 89 6 79 true, ⟨some 90, .iaddr 2 (tm 88) (tm 89), some (79, true)⟩, ⟨some 91, .faddr 0 (tm 90), some (79, true)⟩, ⟨some 92, .load none (tm 91), some (79, true)⟩, ⟨some 93, .bin .geq .str (tm 86) (tm 92), some (79, true)⟩, ⟨some 94, .pick (tm 79) (tm 93) (.cst (.bool false)), some (76, false)⟩, op 95 (.pick (tm 76) (.cst (.bool true)) (tm 94)), mv 96 95, ⟨some 97, .load (some 6) (tm 3), some (96, false)⟩, ⟨some 98, .faddr 3 (tm 3), some (96, false)⟩, ⟨some 99, .load none (tm 98), some (96, false)⟩, mg 100 6 96 false, ⟨some 101, .iaddr 2 (tm 99) (tm 100), some (96, false)⟩, ⟨some 102, .faddr 0 (tm 101), some (96, false)⟩, ⟨some 103, .load none (tm 102), some (96, false)⟩, ⟨some 104, .lit false 1 (.str []) 1 [(0, (tm 103))], some (96, false)⟩, ⟨some 105, .call .pure 16 [(tm 97), (tm 104)], some (96, false)⟩, ⟨some 106, .faddr 3 (tm 3), some (96, false)⟩, ⟨some 107, .load none (tm 106), some (96, false)⟩, mg 108 6 96 false, ⟨some 109, .iaddr 2 (tm 107) (tm 108), some (96, false)⟩, ⟨some 110, .faddr 1 (tm 109), some (96, false)⟩, ⟨some 111, .load none (tm 110), some (96, false)⟩, ⟨some 112, .bin .neq .int (tm 105) (tm 111), some (96, false)⟩, op 113 (.pick (tm 96) (.cst (.bool true)) (tm 112))] [1, 3, 5, 6, 113] none)
 (.cond (tm 113) (.seq (.region none [] [
 op 2 (.mov (.cst (.bool false)))] [2] none)
 (.ret))
 (.skip)))
 (.region none [] [
 mv 114 5, op 115 (.faddr 3 (tm 3)), op 116 (.load none (tm 115)), mv 117 6, op 118 (.iaddr 2 (tm 116) (tm 117)), op 119 (.faddr 1 (tm 118)), op 120 (.load none (tm 119)), op 121 (.bin .add .int (tm 114) (tm 120)), mv 5 121] [1, 3, 5, 6] none)))
 (.region none [] [
 mv 46 6, op 47 (.bin .add .int (tm 46) (ci (1))), mv 6 47] [1, 3, 5, 6] none))

def c4 : ACode :=
 .seq (.region none [] [
 op 1 (.box 4 (tm 0)), op 2 (.mov (.cst (.bool false)))] [1] none)
 (.seq (.seq (.region none [] [
 op 7 (.load (some 4) (tm 1)), op 8 (.call .pure 6 [(tm 7)]), op 9 (.un .not (tm 8)), mv 10 9, ⟨some 11, .load (some 4) (tm 1), some (10, false)⟩, ⟨some 12, .call .pure 14 [(tm 11)], some (10, false)⟩, ⟨some 13, .bin .neq .int (tm 12) (ci (0)), some (10, false)⟩, op 14 (.pick (tm 10) (.cst (.bool true)) (tm 13))] [1, 14] none)
 (.cond (tm 14) (.seq (.region none [] [
 op 15 (.call .pure 7 []), mv 2 15] [2] none)
 (.ret))
 (.skip)))
 (.seq (.region none [] [
 op 17 (.load (some 4) (tm 1)), op 18 (.call .pure 8 [(tm 17)]), mv 16 18, op 19 (.ext (tm 16) 0), op 20 (.ext (tm 16) 1), op 3 (.alloc 6 (.agg [.int .i64 0, .int .i64 0, .sl false [], .sl false [], .sl false [], .sl false []])), ⟨none, .store 6 (tm 3) (tm 19), none⟩, mv 4 20] [1, 3, 4] none)
 (.seq (.seq (.region none [] [
 mv 21 4, op 22 (.bin .neq .int (tm 21) (ci (0))), mv 23 22, ⟨some 24, .faddr 4 (tm 3), some (23, false)⟩, ⟨some 25, .load none (tm 24), some (23, false)⟩, ⟨some 26, .len .slice (tm 25), some (23, false)⟩, ⟨some 27, .faddr 3 (tm 3), some (23, false)⟩, ⟨some 28, .load none (tm 27), some (23, false)⟩, ⟨some 29, .len .slice (tm 28), some (23, false)⟩, ⟨some 30, .bin .neq .int (tm 26) (tm 29), some (23, false)⟩, op 31 (.pick (tm 23) (.cst (.bool true)) (tm 30)), mv 32 31, ⟨some 33, .faddr 5 (tm 3), some (32, false)⟩, ⟨some 34, .load none (tm 33), some (32, false)⟩, ⟨some 35, .len .slice (tm 34), some (32, false)⟩, ⟨some 36, .faddr 3 (tm 3), some (32, false)⟩, ⟨some 37, .load none (tm 36), some (32, false)⟩, ⟨some 38, .len .slice (tm 37), some (32, false)⟩, ⟨some 39, .bin .neq .int (tm 35) (tm 38), some (32, false)⟩, op 40 (.pick (tm 32) (.cst (.bool true)) (tm 39))] [1, 3, 40] none)
 (.cond (tm 40) (.seq (.region none [] [
 op 2 (.mov (.cst (.bool false)))] [2] none)
 (.ret))
 (.skip)))
 (.seq (.region none [] [
 op 5 (.mov (ci (0)))] [1, 3, 5] none)
 (.seq (.seq (.region none [] [
 op 6 (.mov (ci (0)))] [1, 3, 5, 6] none)
 (.block 0 (.loop l4_0_h l4_0_b)))
 (.seq (.region none [] [
 mv 122 5, op 123 (.faddr 1 (tm 1)), op 124 (.load none (tm 123)), op 125 (.len .slice (tm 124)), op 126 (.bin .eql .int (tm 122) (tm 125)), mv 127 126, ⟨some 128, .faddr 1 (tm 3), some (127, true)⟩, ⟨some 129, .load none (tm 128), some (127, true)⟩, mg 130 5 127 true, ⟨some 131, .bin .eql .int (tm 129) (tm 130), some (127, true)⟩, op 132 (.pick (tm 127) (tm 131) (.cst (.bool false))), mv 133 132, ⟨some 134, .load (some 4) (tm 1), some (133, true)⟩, ⟨some 135, .call .pure 12 [(tm 134), (.cst (.str [])), (ci (1))], some (133, true)⟩, ⟨some 136, .call .pure 15 [(tm 135)], some (133, true)⟩, mg 137 5 133 true, ⟨some 138, .bin .eql .int (tm 136) (tm 137), some (133, true)⟩, op 139 (.pick (tm 133) (tm 138) (.cst (.bool false))), mv 140 139, ⟨some 141, .load (some 4) (tm 1), some (140, true)⟩, ⟨some 142, .call .pure 12 [(tm 141), (.cst (.str [])), (ci (2))], some (140, true)⟩, ⟨some 143, .call .pure 15 [(tm 142)], some (140, true)⟩, mg 144 5 140 true, ⟨some 145, .bin .eql .int (tm 143) (tm 144), some (140, true)⟩, op 146 (.pick (tm 140) (tm 145) (.cst (.bool false))), mv 147 146, ⟨some 148, .call .pure 7 [], some (147, true)⟩, op 149 (.pick (tm 147) (tm 148) (.cst (.bool false))), mv 2 149] [2] none)
 (.ret)))))))

def a4 : AFunc := ⟨1, c4, [.tmp 2]⟩

def an4 : List RAnn := [
 { id := 0, live := [1] },
 { id := 1, live := [1, 14] },
 { id := 2, live := [2] },
 { id := 3, live := [1, 3, 4] },
 { id := 4, live := [1, 3, 40] },
 { id := 5, live := [2] },
 { id := 6, live := [1, 3, 5] },
 { id := 7, live := [1, 3, 5, 6] },
 { id := 8, live := [1, 3, 5, 6, 45], hdr := [1, 3, 5, 6] },
 { id := 10, head := some 66, live := [1, 3, 5, 6, 113] },
 { id := 11, live := [2] },
 { id := 12, live := [1, 3, 5, 6] },
 { id := 9, live := [1, 3, 5, 6] },
 { id := 13, live := [2] }]

theorem comp4 : compF Tryz.prog an4 Tryz.f4 = some a4 := by kernel_rfl

/- graphdb/graphdblaw16.DegreeWalks -/
/-- loop 0 of function 5 -/
def l5_0_h : List Nat := [1, 2, 3, 7, 8, 9]

def l5_0_b : ACode :=
 .seq (.seq (.region none [] [
 mv 26 9, op 27 (.faddr 1 (tm 3)), op 28 (.load none (tm 27)), op 29 (.len .slice (tm 28)), op 30 (.bin .lss .int (tm 26) (tm 29))] [1, 2, 3, 7, 8, 9, 30] none)
 (.cond (tm 30) (.skip)
 (.exit 2)))
 (.seq (.block 3 (.seq (.region (some 41) [] [
 mv 33 1, op 34 (.bin .eql .str (tm 33) (.cst (.str []))), mv 35 34, ⟨some 36, .faddr 1 (tm 3), some (35, false)⟩, ⟨some 37, .load none (tm 36), some (35, false)⟩, mg 38 8 35 false, ⟨some 39, .iaddr 5 (tm 37) (tm 38), some (35, false)⟩, ⟨some 40, .faddr 3 (tm 39), some (35, false)⟩, ⟨some 41, .load none (tm 40), some (35, false)⟩, mg 42 1 35 false, ⟨some 43, .bin .eql .str (tm 41) (tm 42), some (35, false)⟩, op 44 (.pick (tm 35) (.cst (.bool true)) (tm 43)), mv 45 44, mg 46 2 45 true, ⟨some 47, .bin .eql .str (tm 46) (.cst (.str [])), some (45, true)⟩, mg 48 47 45 true, ⟨some 49, .faddr 1 (tm 3), some (48, false)⟩, ⟨some 50, .load none (tm 49), some (48, false)⟩, mg 51 9 48 false, ⟨some 52, .iaddr 5 (tm 50) (tm 51), some (48, false)⟩, ⟨some 53, .faddr 3 (tm 52), some (48, false)⟩, ⟨some 54, .load none (tm 53), some (48, false)⟩, mg 55 2 48 false, ⟨some 56, .bin .eql .str (tm 54) (tm 55), some (48, false)⟩, ⟨some 57, .pick (tm 48) (.cst (.bool true)) (tm 56), some (45, true)⟩, op 58 (.pick (tm 45) (tm 57) (.cst (.bool false))), mv 59 58, ⟨some 60, .faddr 1 (tm 3), some (59, true)⟩, ⟨some 61, .load none (tm 60), some (59, true)⟩, mg 62 8 59 true, ⟨some 63, .iaddr 5 (tm 61) (tm 62), some (59, true)⟩, ⟨some 64, .faddr 2 (tm 63), some (59, true)⟩, ⟨some 65, .load none (tm 64), some (59, true)⟩, ⟨some 66, .faddr 1 (tm 3), some (59, true)⟩, ⟨some 67, .load none (tm 66), some (59, true)⟩, mg 68 9 59 true, ⟨some 69, .iaddr 5 (tm 67) (tm 68), some (59, true)⟩, ⟨some 70, .faddr 1 (tm 69), some (59, true)⟩, ⟨some 71, .load none (tm 70), some (59, true)⟩, ⟨some 72, .bin .eql .int (tm 65) (tm 71), some (59, true)⟩, op 73 (.pick (tm 59) (tm 72) (.cst (.bool false)))] [1, 2, 3, 7, 8, 9, 73] none)
 (.cond (tm 73) (.region none [] [
 mv 74 7, op 75 (.bin .add .int (tm 74) (ci (1))), mv 7 75] [1, 2, 3, 7, 8, 9] none)
 (.skip))))
 (.region none [] [
 mv 31 9, op 32 (.bin .add .int (tm 31) (ci (1))), mv 9 32] [1, 2, 3, 7, 8, 9] none))

/-- loop 1 of function 5 -/
def l5_1_h : List Nat := [1, 2, 3, 7, 8]

def l5_1_b : ACode :=
 .seq (.seq (.region none [] [
 mv 19 8, op 20 (.faddr 1 (tm 3)), op 21 (.load none (tm 20)), op 22 (.len .slice (tm 21)), op 23 (.bin .lss .int (tm 19) (tm 22))] [1, 2, 3, 7, 8, 23] none)
 (.cond (tm 23) (.skip)
 (.exit 0)))
 (.seq (.block 1 (.seq (.region none [] [
 op 9 (.mov (ci (0)))] [1, 2, 3, 7, 8, 9] none)
 (.block 2 (.loop l5_0_h l5_0_b))))
 (.region none [] [
 mv 24 8, op 25 (.bin .add .int (tm 24) (ci (1))), mv 8 25] [1, 2, 3, 7, 8] none))

def c5 : ACode :=
 .seq (.region none [] [
 op 3 (.box 4 (tm 0)), op 6 (.mov (.cst (.bool false)))] [1, 2, 3] none)
 (.seq (.seq (.region none [] [
 op 10 (.load (some 4) (tm 3)), op 11 (.call .pure 6 [(tm 10)]), op 12 (.un .not (tm 11)), mv 13 12, ⟨some 14, .load (some 4) (tm 3), some (13, false)⟩, ⟨some 15, .call .pure 14 [(tm 14)], some (13, false)⟩, ⟨some 16, .bin .neq .int (tm 15) (ci (0)), some (13, false)⟩, op 17 (.pick (tm 13) (.cst (.bool true)) (tm 16))] [1, 2, 3, 17] none)
 (.cond (tm 17) (.seq (.region none [] [
 op 18 (.call .pure 7 []), mv 6 18] [6] none)
 (.ret))
 (.skip)))
 (.seq (.region none [] [
 op 7 (.mov (ci (0)))] [1, 2, 3, 7] none)
 (.seq (.seq (.region none [] [
 op 8 (.mov (ci (0)))] [1, 2, 3, 7, 8] none)
 (.block 0 (.loop l5_1_h l5_1_b)))
 (.seq (.region (some 13) [] [
 mv 76 7, op 77 (.load (some 4) (tm 3)), mv 78 1, op 79 (.call .pure 12 [(tm 77), (tm 78), (ci (2))]), op 80 (.load (some 4) (tm 3)), mv 81 2, op 82 (.call .pure 12 [(tm 80), (tm 81), (ci (1))]), op 83 (.call .pure 17 [(tm 79), (tm 82)]), op 84 (.bin .leq .int (tm 76) (tm 83)), mv 85 84, ⟨some 86, .call .pure 7 [], some (85, true)⟩, op 87 (.pick (tm 85) (tm 86) (.cst (.bool false))), mv 6 87] [6] none)
 (.ret)))))

def a5 : AFunc := ⟨3, c5, [.tmp 6]⟩

def an5 : List RAnn := [
 { id := 0, live := [1, 2, 3] },
 { id := 1, live := [1, 2, 3, 17] },
 { id := 2, live := [6] },
 { id := 3, live := [1, 2, 3, 7] },
 { id := 4, live := [1, 2, 3, 7, 8] },
 { id := 5, live := [1, 2, 3, 7, 8, 23], hdr := [1, 2, 3, 7, 8] },
 { id := 7, live := [1, 2, 3, 7, 8, 9] },
 { id := 8, live := [1, 2, 3, 7, 8, 9, 30], hdr := [1, 2, 3, 7, 8, 9] },
 { id := 10, head := some 41, live := [1, 2, 3, 7, 8, 9, 73] },
 { id := 11, live := [1, 2, 3, 7, 8, 9] },
 { id := 9, live := [1, 2, 3, 7, 8, 9] },
 { id := 6, live := [1, 2, 3, 7, 8] },
 { id := 12, head := some 13, live := [6] }]

theorem comp5 : compF Tryz.prog an5 Tryz.f5 = some a5 := by kernel_rfl

/- graphdb/graphdblaw16.few -/
def c6 : ACode :=
 .seq (.region none [] [
 op 1 (.box 4 (tm 0)), op 2 (.mov (.cst (.bool false)))] [1] none)
 (.seq (.region none [] [
 op 3 (.faddr 0 (tm 1)), op 4 (.load none (tm 3)), op 5 (.len .slice (tm 4)), op 6 (.bin .leq .int (tm 5) (ci (60))), mv 7 6, ⟨some 8, .faddr 1 (tm 1), some (7, true)⟩, ⟨some 9, .load none (tm 8), some (7, true)⟩, ⟨some 10, .len .slice (tm 9), some (7, true)⟩, ⟨some 11, .bin .leq .int (tm 10) (ci (100)), some (7, true)⟩, op 12 (.pick (tm 7) (tm 11) (.cst (.bool false))), mv 2 12] [2] none)
 (.ret))

def a6 : AFunc := ⟨1, c6, [.tmp 2]⟩

def an6 : List RAnn := [
 { id := 0, live := [1] },
 { id := 1, live := [2] }]

theorem comp6 : compF Tryz.prog an6 Tryz.f6 = some a6 := by kernel_rfl

/- graphdb/graphdblaw16.alive -/
def c7 : ACode :=
 .seq (.region none [] [
 op 0 (.mov (.cst (.bool false)))] [] none)
 (.seq (.region none [] [
 op 4 (.call .pure 18 []), op 5 (.call .pure 8 [(tm 4)]), mv 3 5, op 6 (.ext (tm 3) 0), op 7 (.ext (tm 3) 1), op 1 (.alloc 6 (.agg [.int .i64 0, .int .i64 0, .sl false [], .sl false [], .sl false [], .sl false []])), ⟨none, .store 6 (tm 1) (tm 6), none⟩, mv 2 7] [1, 2] none)
 (.seq (.region none [] [
 op 8 (.call .pure 18 []), op 9 (.call .pure 12 [(tm 8), (.cst (.str [84])), (ci (1))]), op 10 (.lit false 1 (.int .i64 0) 1 [(0, (ci (2)))]), op 11 (.call .pure 11 [(tm 9), (tm 10)]), mv 12 11, ⟨some 13, .call .pure 18 [], some (12, true)⟩, ⟨some 14, .call .pure 12 [(tm 13), (.cst (.str [84])), (ci (2))], some (12, true)⟩, ⟨some 15, .lit false 1 (.int .i64 0) 2 [(0, (ci (1))), (1, (ci (1)))], some (12, true)⟩, ⟨some 16, .call .pure 11 [(tm 14), (tm 15)], some (12, true)⟩, op 17 (.pick (tm 12) (tm 16) (.cst (.bool false))), mv 18 17, ⟨some 19, .call .pure 18 [], some (18, true)⟩, ⟨some 20, .call .pure 12 [(tm 19), (.cst (.str [])), (ci (1))], some (18, true)⟩, ⟨some 21, .lit false 1 (.int .i64 0) 2 [(0, (ci (2))), (1, (ci (1)))], some (18, true)⟩, ⟨some 22, .call .pure 11 [(tm 20), (tm 21)], some (18, true)⟩, op 23 (.pick (tm 18) (tm 22) (.cst (.bool false))), mv 24 23, mg 25 2 24 true, ⟨some 26, .bin .eql .int (tm 25) (ci (0)), some (24, true)⟩, op 27 (.pick (tm 24) (tm 26) (.cst (.bool false))), mv 28 27, ⟨some 29, .faddr 0 (tm 1), some (28, true)⟩, ⟨some 30, .load none (tm 29), some (28, true)⟩, ⟨some 31, .bin .eql .int (tm 30) (ci (3)), some (28, true)⟩, op 32 (.pick (tm 28) (tm 31) (.cst (.bool false))), mv 33 32, ⟨some 34, .faddr 3 (tm 1), some (33, true)⟩, ⟨some 35, .load none (tm 34), some (33, true)⟩, ⟨some 36, .len .slice (tm 35), some (33, true)⟩, ⟨some 37, .bin .eql .int (tm 36) (ci (2)), some (33, true)⟩, op 38 (.pick (tm 33) (tm 37) (.cst (.bool false))), mv 39 38, ⟨some 40, .faddr 3 (tm 1), some (39, true)⟩, ⟨some 41, .load none (tm 40), some (39, true)⟩, ⟨some 42, .iaddr 2 (tm 41) (ci (0)), some (39, true)⟩, ⟨some 43, .load (some 2) (tm 42), some (39, true)⟩, ⟨some 44, .build [.str [], .int .i64 0] [(0, 1, (.cst (.str [84]))), (1, 1, (ci (2)))], some (39, true)⟩, ⟨some 45, .bin .eql (.flat [.str, .int]) (tm 43) (tm 44), some (39, true)⟩, op 46 (.pick (tm 39) (tm 45) (.cst (.bool false))), mv 47 46, ⟨some 48, .load (some 6) (tm 1), some (47, true)⟩, ⟨some 49, .call .pure 19 [(tm 48), (.cst (.str [65]))], some (47, true)⟩, ⟨some 50, .bin .eql .int (tm 49) (ci (2)), some (47, true)⟩, op 51 (.pick (tm 47) (tm 50) (.cst (.bool false))), mv 52 51, ⟨some 53, .load (some 6) (tm 1), some (52, true)⟩, ⟨some 54, .call .pure 20 [(tm 53), (.cst (.sl false [])), (ci (1))], some (52, true)⟩, ⟨some 55, .bin .eql .int (tm 54) (ci (3)), some (52, true)⟩, op 56 (.pick (tm 52) (tm 55) (.cst (.bool false))), mv 57 56, ⟨some 58, .load (some 6) (tm 1), some (57, true)⟩, ⟨some 59, .lit false 1 (.str []) 1 [(0, (.cst (.str [85])))], some (57, true)⟩, ⟨some 60, .call .pure 16 [(tm 58), (tm 59)], some (57, true)⟩, ⟨some 61, .bin .eql .int (tm 60) (ci (1)), some (57, true)⟩, op 62 (.pick (tm 57) (tm 61) (.cst (.bool false))), mv 63 62, ⟨some 64, .lit false 1 (.int .i64 0) 2 [(0, (ci (1))), (1, (ci (3)))], some (63, true)⟩, ⟨some 65, .lit false 1 (.int .i64 0) 3 [(0, (ci (2))), (1, (ci ((-5)))), (2, (ci (1)))], some (63, true)⟩, ⟨some 66, .call .pure 17 [(tm 64), (tm 65)], some (63, true)⟩, ⟨some 67, .bin .eql .int (tm 66) (ci (7)), some (63, true)⟩, op 68 (.pick (tm 63) (tm 67) (.cst (.bool false))), mv 0 68] [0] none)
 (.ret)))

def a7 : AFunc := ⟨0, c7, [.tmp 0]⟩

def an7 : List RAnn := [
 { id := 0 },
 { id := 1, live := [1, 2] },
 { id := 2, live := [0] }]

theorem comp7 : compF Tryz.prog an7 Tryz.f7 = some a7 := by kernel_rfl

/- graphdb/degree.Of -/
/-- loop 0 of function 8 -/
def l8_0_h : List Nat := [1, 2, 5, 7, 8, 30, 31, 32, 37, 38, 39]

def l8_0_b : ACode :=
 .seq (.region none [] [
 op 40 (.bin .lss .int (tm 39) (tm 38))] [1, 2, 5, 7, 8, 30, 31, 32, 37, 38, 39, 40] none)
 (.seq (.cond (tm 40) (.skip)
 (.exit 2))
 (.seq (.block 3 (.seq (.region none [] [
 op 41 (.iaddr 3 (tm 37) (tm 39)), op 42 (.load (some 3) (tm 41)), op 10 (.alloc 3 (.agg [.int .i64 0, .sl false [], .sl false []])), ⟨none, .store 3 (tm 10) (tm 42), none⟩] [1, 2, 5, 7, 8, 10, 30, 31, 32, 37, 38, 39] none)
 (.seq (.region none [] [
 op 43 (.load (some 3) (tm 10)), mv 44 7, op 45 (.call .pure 23 [(tm 43), (tm 44)])] [1, 2, 5, 7, 8, 30, 31, 32, 37, 38, 39, 45] none)
 (.cond (tm 45) (.region none [] [
 mv 46 8, op 47 (.bin .add .int (tm 46) (ci (1))), mv 8 47] [1, 2, 5, 7, 8, 30, 31, 32, 37, 38, 39] none)
 (.skip)))))
 (.region none [] [
 op 48 (.bin .add .int (tm 39) (ci (1))), mv 39 48] [1, 2, 5, 7, 8, 30, 31, 32, 37, 38, 39] (some 1001))))

/-- loop 1 of function 8 -/
def l8_1_h : List Nat := [1, 2, 5, 30, 31, 32]

def l8_1_b : ACode :=
 .seq (.region none [] [
 op 33 (.bin .lss .int (tm 32) (tm 31))] [1, 2, 5, 30, 31, 32, 33] none)
 (.seq (.cond (tm 33) (.skip)
 (.exit 0))
 (.seq (.block 1 (.seq (.region none [] [
 op 34 (.iaddr 1 (tm 30) (tm 32)), op 35 (.load none (tm 34)), mv 7 35] [1, 2, 5, 7, 30, 31, 32] none)
 (.seq (.region none [] [
 op 8 (.mov (ci (0)))] [1, 2, 5, 7, 8, 30, 31, 32] none)
 (.seq (.seq (.region none [] [
 op 36 (.faddr 0 (tm 1)), op 37 (.load none (tm 36)), op 38 (.len .slice (tm 37)), op 39 (.mov (ci (0)))] [1, 2, 5, 7, 8, 30, 31, 32, 37, 38, 39] none)
 (.block 2 (.loop l8_0_h l8_0_b)))
 (.region none [] [
 op 49 (.faddr 2 (tm 5)), op 50 (.load none (tm 49)), mv 51 7, mv 52 8, op 53 (.build [.str [], .int .i64 0] [(0, 1, (tm 51)), (1, 1, (tm 52))]), op 54 (.lit false 2 (.agg [.str [], .int .i64 0]) 1 [(0, (tm 53))]), op 55 (.append 2 24 (tm 50) (tm 54)), op 56 (.faddr 2 (tm 5)), ⟨none, .store 1 (tm 56) (tm 55), none⟩] [1, 2, 5, 30, 31, 32] none)))))
 (.region none [] [
 op 57 (.bin .add .int (tm 32) (ci (1))), mv 32 57] [1, 2, 5, 30, 31, 32] none)))

/-- loop 2 of function 8 -/
def l8_2_h : List Nat := [1, 2, 5, 12, 13, 59, 60, 61, 66, 67, 68]

def l8_2_b : ACode :=
 .seq (.region none [] [
 op 69 (.bin .lss .int (tm 68) (tm 67))] [1, 2, 5, 12, 13, 59, 60, 61, 66, 67, 68, 69] none)
 (.seq (.cond (tm 69) (.skip)
 (.exit 6))
 (.seq (.block 7 (.seq (.region none [] [
 op 70 (.iaddr 5 (tm 66) (tm 68)), op 71 (.load (some 5) (tm 70)), op 15 (.alloc 5 (.agg [.int .i64 0, .int .i64 0, .int .i64 0, .str [], .sl false []])), ⟨none, .store 5 (tm 15) (tm 71), none⟩] [1, 2, 5, 12, 13, 15, 59, 60, 61, 66, 67, 68] none)
 (.seq (.region none [] [
 op 72 (.faddr 3 (tm 15)), op 73 (.load none (tm 72)), mv 74 12, op 75 (.bin .eql .str (tm 73) (tm 74))] [1, 2, 5, 12, 13, 59, 60, 61, 66, 67, 68, 75] none)
 (.cond (tm 75) (.region none [] [
 mv 76 13, op 77 (.bin .add .int (tm 76) (ci (1))), mv 13 77] [1, 2, 5, 12, 13, 59, 60, 61, 66, 67, 68] none)
 (.skip)))))
 (.region none [] [
 op 78 (.bin .add .int (tm 68) (ci (1))), mv 68 78] [1, 2, 5, 12, 13, 59, 60, 61, 66, 67, 68] (some 1001))))

/-- loop 3 of function 8 -/
def l8_3_h : List Nat := [1, 2, 5, 59, 60, 61]

def l8_3_b : ACode :=
 .seq (.region none [] [
 op 62 (.bin .lss .int (tm 61) (tm 60))] [1, 2, 5, 59, 60, 61, 62] none)
 (.seq (.cond (tm 62) (.skip)
 (.exit 4))
 (.seq (.block 5 (.seq (.region none [] [
 op 63 (.iaddr 1 (tm 59) (tm 61)), op 64 (.load none (tm 63)), mv 12 64] [1, 2, 5, 12, 59, 60, 61] none)
 (.seq (.region none [] [
 op 13 (.mov (ci (0)))] [1, 2, 5, 12, 13, 59, 60, 61] none)
 (.seq (.seq (.region none [] [
 op 65 (.faddr 1 (tm 1)), op 66 (.load none (tm 65)), op 67 (.len .slice (tm 66)), op 68 (.mov (ci (0)))] [1, 2, 5, 12, 13, 59, 60, 61, 66, 67, 68] none)
 (.block 6 (.loop l8_2_h l8_2_b)))
 (.seq (.region none [] [
 op 79 (.faddr 3 (tm 5)), op 80 (.load none (tm 79)), mv 81 12, mv 82 13, op 83 (.build [.str [], .int .i64 0] [(0, 1, (tm 81)), (1, 1, (tm 82))]), op 84 (.lit false 2 (.agg [.str [], .int .i64 0]) 1 [(0, (tm 83))]), op 85 (.append 2 24 (tm 80) (tm 84)), op 86 (.faddr 3 (tm 5)), ⟨none, .store 1 (tm 86) (tm 85), none⟩] [1, 2, 5, 12, 59, 60, 61] none)
 (.seq (.region (some 6) [] [
 op 87 (.faddr 4 (tm 5)), op 88 (.load none (tm 87)), op 89 (.load (some 4) (tm 1)), mv 90 12, op 91 (.call .pure 25 [(tm 89), (tm 90), (ci (1))]), op 92 (.lit false 1 (.sl false []) 1 [(0, (tm 91))]), op 93 (.append 1 24 (tm 88) (tm 92)), op 94 (.faddr 4 (tm 5)), ⟨none, .store 1 (tm 94) (tm 93), none⟩] [1, 2, 5, 12, 59, 60, 61] none)
 (.region (some 6) [] [
 op 95 (.faddr 5 (tm 5)), op 96 (.load none (tm 95)), op 97 (.load (some 4) (tm 1)), mv 98 12, op 99 (.call .pure 25 [(tm 97), (tm 98), (ci (2))]), op 100 (.lit false 1 (.sl false []) 1 [(0, (tm 99))]), op 101 (.append 1 24 (tm 96) (tm 100)), op 102 (.faddr 5 (tm 5)), ⟨none, .store 1 (tm 102) (tm 101), none⟩] [1, 2, 5, 59, 60, 61] none)))))))
 (.region none [] [
 op 103 (.bin .add .int (tm 61) (ci (1))), mv 61 103] [1, 2, 5, 59, 60, 61] none)))

def c8 : ACode :=
 .seq (.region none [] [
 op 1 (.box 4 (tm 0)), op 2 (.alloc 6 (.agg [.int .i64 0, .int .i64 0, .sl false [], .sl false [], .sl false [], .sl false []])), op 3 (.mov (ci (0)))] [1, 2] none)
 (.seq (.seq (.region none [] [
 op 16 (.load (some 4) (tm 1)), op 17 (.call .pure 21 [(tm 16)]), mv 4 17] [1, 2, 4] none)
 (.seq (.region none [] [
 mv 18 4, op 19 (.bin .neq .int (tm 18) (ci (0)))] [1, 2, 4, 19] none)
 (.cond (tm 19) (.seq (.region none [] [
 op 20 (.build [.int .i64 0, .int .i64 0, .sl false [], .sl false [], .sl false [], .sl false []] []), mv 21 4, ⟨none, .store 6 (tm 2) (tm 20), none⟩, mv 3 21] [2, 3] none)
 (.ret))
 (.skip))))
 (.seq (.region none [] [
 op 22 (.faddr 0 (tm 1)), op 23 (.load none (tm 22)), op 24 (.len .slice (tm 23)), op 25 (.faddr 1 (tm 1)), op 26 (.load none (tm 25)), op 27 (.len .slice (tm 26)), op 28 (.build [.int .i64 0, .int .i64 0, .sl false [], .sl false [], .sl false [], .sl false []] [(0, 1, (tm 24)), (1, 1, (tm 27))]), op 5 (.alloc 6 (.agg [.int .i64 0, .int .i64 0, .sl false [], .sl false [], .sl false [], .sl false []])), ⟨none, .store 6 (tm 5) (tm 28), none⟩] [1, 2, 5] none)
 (.seq (.seq (.region none [] [
 op 29 (.load (some 4) (tm 1)), op 30 (.call .pure 22 [(tm 29)]), op 31 (.len .slice (tm 30)), op 32 (.mov (ci (0)))] [1, 2, 5, 30, 31, 32] none)
 (.block 0 (.loop l8_1_h l8_1_b)))
 (.seq (.seq (.region none [] [
 op 58 (.load (some 4) (tm 1)), op 59 (.call .pure 24 [(tm 58)]), op 60 (.len .slice (tm 59)), op 61 (.mov (ci (0)))] [1, 2, 5, 59, 60, 61] none)
 (.block 4 (.loop l8_3_h l8_3_b)))
 (.seq (.region none [] [
 op 104 (.load (some 6) (tm 5)), ⟨none, .store 6 (tm 2) (tm 104), none⟩, op 3 (.mov (ci (0)))] [2, 3] none)
 (.ret))))))

def a8 : AFunc := ⟨1, c8, [.cell 2 (some 6), .tmp 3]⟩

def an8 : List RAnn := [
 { id := 0, live := [1, 2] },
 { id := 1, live := [1, 2, 4] },
 { id := 2, live := [1, 2, 4, 19] },
 { id := 3, live := [2, 3] },
 { id := 4, live := [1, 2, 5] },
 { id := 5, live := [1, 2, 5, 30, 31, 32] },
 { id := 6, live := [1, 2, 5, 30, 31, 32, 33], hdr := [1, 2, 5, 30, 31, 32] },
 { id := 7, live := [1, 2, 5, 7, 30, 31, 32] },
 { id := 8, live := [1, 2, 5, 7, 8, 30, 31, 32] },
 { id := 9, live := [1, 2, 5, 7, 8, 30, 31, 32, 37, 38, 39] },
 { id := 10, live := [1, 2, 5, 7, 8, 30, 31, 32, 37, 38, 39, 40], hdr := [1, 2, 5, 7, 8, 30, 31, 32, 37, 38, 39] },
 { id := 11, live := [1, 2, 5, 7, 8, 10, 30, 31, 32, 37, 38, 39] },
 { id := 12, live := [1, 2, 5, 7, 8, 30, 31, 32, 37, 38, 39, 45] },
 { id := 13, live := [1, 2, 5, 7, 8, 30, 31, 32, 37, 38, 39] },
 { id := 14, live := [1, 2, 5, 7, 8, 30, 31, 32, 37, 38, 39], trunc := some 1001 },
 { id := 15, live := [1, 2, 5, 30, 31, 32] },
 { id := 16, live := [1, 2, 5, 30, 31, 32] },
 { id := 17, live := [1, 2, 5, 59, 60, 61] },
 { id := 18, live := [1, 2, 5, 59, 60, 61, 62], hdr := [1, 2, 5, 59, 60, 61] },
 { id := 19, live := [1, 2, 5, 12, 59, 60, 61] },
 { id := 20, live := [1, 2, 5, 12, 13, 59, 60, 61] },
 { id := 21, live := [1, 2, 5, 12, 13, 59, 60, 61, 66, 67, 68] },
 { id := 22, live := [1, 2, 5, 12, 13, 59, 60, 61, 66, 67, 68, 69], hdr := [1, 2, 5, 12, 13, 59, 60, 61, 66, 67, 68] },
 { id := 23, live := [1, 2, 5, 12, 13, 15, 59, 60, 61, 66, 67, 68] },
 { id := 24, live := [1, 2, 5, 12, 13, 59, 60, 61, 66, 67, 68, 75] },
 { id := 25, live := [1, 2, 5, 12, 13, 59, 60, 61, 66, 67, 68] },
 { id := 26, live := [1, 2, 5, 12, 13, 59, 60, 61, 66, 67, 68], trunc := some 1001 },
 { id := 27, live := [1, 2, 5, 12, 59, 60, 61] },
 { id := 28, head := some 6, live := [1, 2, 5, 12, 59, 60, 61] },
 { id := 29, head := some 6, live := [1, 2, 5, 59, 60, 61] },
 { id := 30, live := [1, 2, 5, 59, 60, 61] },
 { id := 31, live := [2, 3] }]

theorem comp8 : compF Tryz.prog an8 Tryz.f8 = some a8 := by kernel_rfl

/- graphdb/graphdbref16.Of -/
/-- loop 0 of function 9 -/
def l9_0_h : List Nat := [1, 2, 5, 6, 7, 8, 9]

def l9_0_b : ACode :=
 .seq (.seq (.region none [] [
 mv 35 9, op 36 (.faddr 0 (tm 1)), op 37 (.load none (tm 36)), op 38 (.len .slice (tm 37)), op 39 (.bin .lss .int (tm 35) (tm 38))] [1, 2, 5, 6, 7, 8, 9, 39] none)
 (.cond (tm 39) (.skip)
 (.exit 2)))
 (.seq (.block 3 (.seq (.region (some 10) [] [
 op 42 (.faddr 0 (tm 1)), op 43 (.load none (tm 42)), mv 44 9, op 45 (.iaddr 3 (tm 43) (tm 44)), op 46 (.load (some 3) (tm 45)), mv 47 6, mv 48 7, op 49 (.iaddr 1 (tm 47) (tm 48)), op 50 (.load none (tm 49)), op 51 (.call .pure 27 [(tm 46), (tm 50)])] [1, 2, 5, 6, 7, 8, 9, 51] none)
 (.cond (tm 51) (.region none [] [
 mv 52 8, op 53 (.bin .add .int (tm 52) (ci (1))), mv 8 53] [1, 2, 5, 6, 7, 8, 9] none)
 (.skip))))
 (.region none [] [
 mv 40 9, op 41 (.bin .add .int (tm 40) (ci (1))), mv 9 41] [1, 2, 5, 6, 7, 8, 9] none))

/-- loop 1 of function 9 -/
def l9_1_h : List Nat := [1, 2, 5, 6, 7]

def l9_1_b : ACode :=
 .seq (.seq (.region none [] [
 mv 29 7, mv 30 6, op 31 (.len .slice (tm 30)), op 32 (.bin .lss .int (tm 29) (tm 31))] [1, 2, 5, 6, 7, 32] none)
 (.cond (tm 32) (.skip)
 (.exit 0)))
 (.seq (.block 1 (.seq (.region none [] [
 op 8 (.mov (ci (0)))] [1, 2, 5, 6, 7, 8] none)
 (.seq (.seq (.region none [] [
 op 9 (.mov (ci (0)))] [1, 2, 5, 6, 7, 8, 9] none)
 (.block 2 (.loop l9_0_h l9_0_b)))
 (.region (some 9) [] [
 op 54 (.faddr 2 (tm 5)), op 55 (.load none (tm 54)), mv 56 6, mv 57 7, op 58 (.iaddr 1 (tm 56) (tm 57)), op 59 (.load none (tm 58)), mv 60 8, op 61 (.build [.str [], .int .i64 0] [(0, 1, (tm 59)), (1, 1, (tm 60))]), op 62 (.lit false 2 (.agg [.str [], .int .i64 0]) 1 [(0, (tm 61))]), op 63 (.append 2 24 (tm 55) (tm 62)), op 64 (.faddr 2 (tm 5)), ⟨none, .store 1 (tm 64) (tm 63), none⟩] [1, 2, 5, 6, 7] none))))
 (.region none [] [
 mv 33 7, op 34 (.bin .add .int (tm 33) (ci (1))), mv 7 34] [1, 2, 5, 6, 7] none))

/-- loop 2 of function 9 -/
def l9_2_h : List Nat := [1, 2, 5, 10, 11, 12, 13]

def l9_2_b : ACode :=
 .seq (.seq (.region none [] [
 mv 73 13, op 74 (.faddr 1 (tm 1)), op 75 (.load none (tm 74)), op 76 (.len .slice (tm 75)), op 77 (.bin .lss .int (tm 73) (tm 76))] [1, 2, 5, 10, 11, 12, 13, 77] none)
 (.cond (tm 77) (.skip)
 (.exit 6)))
 (.seq (.block 7 (.seq (.region (some 11) [] [
 op 80 (.faddr 1 (tm 1)), op 81 (.load none (tm 80)), mv 82 13, op 83 (.iaddr 5 (tm 81) (tm 82)), op 84 (.faddr 3 (tm 83)), op 85 (.load none (tm 84)), mv 86 10, mv 87 11, op 88 (.iaddr 1 (tm 86) (tm 87)), op 89 (.load none (tm 88)), op 90 (.bin .eql .str (tm 85) (tm 89))] [1, 2, 5, 10, 11, 12, 13, 90] none)
 (.cond (tm 90) (.region none [] [
 mv 91 12, op 92 (.bin .add .int (tm 91) (ci (1))), mv 12 92] [1, 2, 5, 10, 11, 12, 13] none)
 (.skip))))
 (.region none [] [
 mv 78 13, op 79 (.bin .add .int (tm 78) (ci (1))), mv 13 79] [1, 2, 5, 10, 11, 12, 13] none))

/-- loop 3 of function 9 -/
def l9_3_h : List Nat := [1, 2, 5, 10, 11]

def l9_3_b : ACode :=
 .seq (.seq (.region none [] [
 mv 67 11, mv 68 10, op 69 (.len .slice (tm 68)), op 70 (.bin .lss .int (tm 67) (tm 69))] [1, 2, 5, 10, 11, 70] none)
 (.cond (tm 70) (.skip)
 (.exit 4)))
 (.seq (.block 5 (.seq (.region none [] [
 op 12 (.mov (ci (0)))] [1, 2, 5, 10, 11, 12] none)
 (.seq (.seq (.region none [] [
 op 13 (.mov (ci (0)))] [1, 2, 5, 10, 11, 12, 13] none)
 (.block 6 (.loop l9_2_h l9_2_b)))
 (.seq (.region (some 9) [] [
 op 93 (.faddr 3 (tm 5)), op 94 (.load none (tm 93)), mv 95 10, mv 96 11, op 97 (.iaddr 1 (tm 95) (tm 96)), op 98 (.load none (tm 97)), mv 99 12, op 100 (.build [.str [], .int .i64 0] [(0, 1, (tm 98)), (1, 1, (tm 99))]), op 101 (.lit false 2 (.agg [.str [], .int .i64 0]) 1 [(0, (tm 100))]), op 102 (.append 2 24 (tm 94) (tm 101)), op 103 (.faddr 3 (tm 5)), ⟨none, .store 1 (tm 103) (tm 102), none⟩] [1, 2, 5, 10, 11] none)
 (.seq (.region (some 9) [] [
 op 104 (.faddr 4 (tm 5)), op 105 (.load none (tm 104)), op 106 (.load (some 4) (tm 1)), mv 107 10, mv 108 11, op 109 (.iaddr 1 (tm 107) (tm 108)), op 110 (.load none (tm 109)), op 111 (.call .pure 13 [(tm 106), (tm 110), (ci (1))]), op 112 (.lit false 1 (.sl false []) 1 [(0, (tm 111))]), op 113 (.append 1 24 (tm 105) (tm 112)), op 114 (.faddr 4 (tm 5)), ⟨none, .store 1 (tm 114) (tm 113), none⟩] [1, 2, 5, 10, 11] none)
 (.region (some 9) [] [
 op 115 (.faddr 5 (tm 5)), op 116 (.load none (tm 115)), op 117 (.load (some 4) (tm 1)), mv 118 10, mv 119 11, op 120 (.iaddr 1 (tm 118) (tm 119)), op 121 (.load none (tm 120)), op 122 (.call .pure 13 [(tm 117), (tm 121), (ci (2))]), op 123 (.lit false 1 (.sl false []) 1 [(0, (tm 122))]), op 124 (.append 1 24 (tm 116) (tm 123)), op 125 (.faddr 5 (tm 5)), ⟨none, .store 1 (tm 125) (tm 124), none⟩] [1, 2, 5, 10, 11] none))))))
 (.region none [] [
 mv 71 11, op 72 (.bin .add .int (tm 71) (ci (1))), mv 11 72] [1, 2, 5, 10, 11] none))

def c9 : ACode :=
 .seq (.region none [] [
 op 1 (.box 4 (tm 0)), op 2 (.alloc 6 (.agg [.int .i64 0, .int .i64 0, .sl false [], .sl false [], .sl false [], .sl false []])), op 3 (.mov (ci (0)))] [1, 2] none)
 (.seq (.seq (.region none [] [
 op 14 (.load (some 4) (tm 1)), op 15 (.call .pure 14 [(tm 14)]), mv 4 15] [1, 2, 4] none)
 (.seq (.region none [] [
 mv 16 4, op 17 (.bin .neq .int (tm 16) (ci (0)))] [1, 2, 4, 17] none)
 (.cond (tm 17) (.seq (.region none [] [
 op 18 (.build [.int .i64 0, .int .i64 0, .sl false [], .sl false [], .sl false [], .sl false []] []), mv 19 4, ⟨none, .store 6 (tm 2) (tm 18), none⟩, mv 3 19] [2, 3] none)
 (.ret))
 (.skip))))
 (.seq (.region none [] [
 op 20 (.faddr 0 (tm 1)), op 21 (.load none (tm 20)), op 22 (.len .slice (tm 21)), op 23 (.faddr 1 (tm 1)), op 24 (.load none (tm 23)), op 25 (.len .slice (tm 24)), op 26 (.build [.int .i64 0, .int .i64 0, .sl false [], .sl false [], .sl false [], .sl false []] [(0, 1, (tm 22)), (1, 1, (tm 25))]), op 5 (.alloc 6 (.agg [.int .i64 0, .int .i64 0, .sl false [], .sl false [], .sl false [], .sl false []])), ⟨none, .store 6 (tm 5) (tm 26), none⟩] [1, 2, 5] none)
 (.seq (.region none [] [
 op 27 (.load (some 4) (tm 1)), op 28 (.call .pure 26 [(tm 27)]), mv 6 28] [1, 2, 5, 6] none)
 (.seq (.seq (.region none [] [
 op 7 (.mov (ci (0)))] [1, 2, 5, 6, 7] none)
 (.block 0 (.loop l9_1_h l9_1_b)))
 (.seq (.region none [] [
 op 65 (.load (some 4) (tm 1)), op 66 (.call .pure 28 [(tm 65)]), mv 10 66] [1, 2, 5, 10] none)
 (.seq (.seq (.region none [] [
 op 11 (.mov (ci (0)))] [1, 2, 5, 10, 11] none)
 (.block 4 (.loop l9_3_h l9_3_b)))
 (.seq (.region none [] [
 op 126 (.load (some 6) (tm 5)), ⟨none, .store 6 (tm 2) (tm 126), none⟩, op 3 (.mov (ci (0)))] [2, 3] none)
 (.ret))))))))

def a9 : AFunc := ⟨1, c9, [.cell 2 (some 6), .tmp 3]⟩

def an9 : List RAnn := [
 { id := 0, live := [1, 2] },
 { id := 1, live := [1, 2, 4] },
 { id := 2, live := [1, 2, 4, 17] },
 { id := 3, live := [2, 3] },
 { id := 4, live := [1, 2, 5] },
 { id := 5, live := [1, 2, 5, 6] },
 { id := 6, live := [1, 2, 5, 6, 7] },
 { id := 7, live := [1, 2, 5, 6, 7, 32], hdr := [1, 2, 5, 6, 7] },
 { id := 9, live := [1, 2, 5, 6, 7, 8] },
 { id := 10, live := [1, 2, 5, 6, 7, 8, 9] },
 { id := 11, live := [1, 2, 5, 6, 7, 8, 9, 39], hdr := [1, 2, 5, 6, 7, 8, 9] },
 { id := 13, head := some 10, live := [1, 2, 5, 6, 7, 8, 9, 51] },
 { id := 14, live := [1, 2, 5, 6, 7, 8, 9] },
 { id := 12, live := [1, 2, 5, 6, 7, 8, 9] },
 { id := 15, head := some 9, live := [1, 2, 5, 6, 7] },
 { id := 8, live := [1, 2, 5, 6, 7] },
 { id := 16, live := [1, 2, 5, 10] },
 { id := 17, live := [1, 2, 5, 10, 11] },
 { id := 18, live := [1, 2, 5, 10, 11, 70], hdr := [1, 2, 5, 10, 11] },
 { id := 20, live := [1, 2, 5, 10, 11, 12] },
 { id := 21, live := [1, 2, 5, 10, 11, 12, 13] },
 { id := 22, live := [1, 2, 5, 10, 11, 12, 13, 77], hdr := [1, 2, 5, 10, 11, 12, 13] },
 { id := 24, head := some 11, live := [1, 2, 5, 10, 11, 12, 13, 90] },
 { id := 25, live := [1, 2, 5, 10, 11, 12, 13] },
 { id := 23, live := [1, 2, 5, 10, 11, 12, 13] },
 { id := 26, head := some 9, live := [1, 2, 5, 10, 11] },
 { id := 27, head := some 9, live := [1, 2, 5, 10, 11] },
 { id := 28, head := some 9, live := [1, 2, 5, 10, 11] },
 { id := 19, live := [1, 2, 5, 10, 11] },
 { id := 29, live := [2, 3] }]

theorem comp9 : compF Tryz.prog an9 Tryz.f9 = some a9 := by kernel_rfl

/- graphdb/graphdbref16.Same -/
def c10 : ACode :=
 .seq (.region none [] [
 op 2 (.box 6 (tm 0)), op 3 (.box 6 (tm 1)), op 4 (.mov (.cst (.bool false)))] [2, 3] none)
 (.seq (.region none [] [
 op 5 (.faddr 0 (tm 2)), op 6 (.load none (tm 5)), op 7 (.faddr 0 (tm 3)), op 8 (.load none (tm 7)), op 9 (.bin .eql .int (tm 6) (tm 8)), mv 10 9, ⟨some 11, .faddr 1 (tm 2), some (10, true)⟩, ⟨some 12, .load none (tm 11), some (10, true)⟩, ⟨some 13, .faddr 1 (tm 3), some (10, true)⟩, ⟨some 14, .load none (tm 13), some (10, true)⟩, ⟨some 15, .bin .eql .int (tm 12) (tm 14), some (10, true)⟩, op 16 (.pick (tm 10) (tm 15) (.cst (.bool false))), mv 17 16, ⟨some 18, .faddr 2 (tm 2), some (17, true)⟩, ⟨some 19, .load none (tm 18), some (17, true)⟩, ⟨some 20, .faddr 2 (tm 3), some (17, true)⟩, ⟨some 21, .load none (tm 20), some (17, true)⟩, ⟨some 22, .call .pure 29 [(tm 19), (tm 21)], some (17, true)⟩, op 23 (.pick (tm 17) (tm 22) (.cst (.bool false))), mv 24 23, ⟨some 25, .faddr 3 (tm 2), some (24, true)⟩, ⟨some 26, .load none (tm 25), some (24, true)⟩, ⟨some 27, .faddr 3 (tm 3), some (24, true)⟩, ⟨some 28, .load none (tm 27), some (24, true)⟩, ⟨some 29, .call .pure 29 [(tm 26), (tm 28)], some (24, true)⟩, op 30 (.pick (tm 24) (tm 29) (.cst (.bool false))), mv 31 30, ⟨some 32, .faddr 4 (tm 2), some (31, true)⟩, ⟨some 33, .load none (tm 32), some (31, true)⟩, ⟨some 34, .faddr 4 (tm 3), some (31, true)⟩, ⟨some 35, .load none (tm 34), some (31, true)⟩, ⟨some 36, .call .pure 30 [(tm 33), (tm 35)], some (31, true)⟩, op 37 (.pick (tm 31) (tm 36) (.cst (.bool false))), mv 38 37, ⟨some 39, .faddr 5 (tm 2), some (38, true)⟩, ⟨some 40, .load none (tm 39), some (38, true)⟩, ⟨some 41, .faddr 5 (tm 3), some (38, true)⟩, ⟨some 42, .load none (tm 41), some (38, true)⟩, ⟨some 43, .call .pure 30 [(tm 40), (tm 42)], some (38, true)⟩, op 44 (.pick (tm 38) (tm 43) (.cst (.bool false))), mv 4 44] [4] none)
 (.ret))

def a10 : AFunc := ⟨2, c10, [.tmp 4]⟩

def an10 : List RAnn := [
 { id := 0, live := [2, 3] },
 { id := 1, live := [4] }]

theorem comp10 : compF Tryz.prog an10 Tryz.f10 = some a10 := by kernel_rfl

/- graphdb/graphdbref16.Ints -/
/-- loop 0 of function 11 -/
def l11_0_h : List Nat := [0, 1, 5]

def l11_0_b : ACode :=
 .seq (.seq (.region none [] [
 mv 11 5, mv 12 0, op 13 (.len .slice (tm 12)), op 14 (.bin .lss .int (tm 11) (tm 13))] [0, 1, 5, 14] none)
 (.cond (tm 14) (.skip)
 (.exit 0)))
 (.seq (.block 1 (.seq (.region (some 9) [] [
 mv 17 0, mv 18 5, op 19 (.iaddr 1 (tm 17) (tm 18)), op 20 (.load none (tm 19)), mv 21 1, mv 22 5, op 23 (.iaddr 1 (tm 21) (tm 22)), op 24 (.load none (tm 23)), op 25 (.bin .neq .int (tm 20) (tm 24))] [0, 1, 5, 25] none)
 (.cond (tm 25) (.seq (.region none [] [
 op 4 (.mov (.cst (.bool false)))] [4] none)
 (.ret))
 (.skip))))
 (.region none [] [
 mv 15 5, op 16 (.bin .add .int (tm 15) (ci (1))), mv 5 16] [0, 1, 5] none))

def c11 : ACode :=
 .seq (.region none [] [
 op 4 (.mov (.cst (.bool false)))] [0, 1] none)
 (.seq (.seq (.region none [] [
 mv 6 0, op 7 (.len .slice (tm 6)), mv 8 1, op 9 (.len .slice (tm 8)), op 10 (.bin .neq .int (tm 7) (tm 9))] [0, 1, 10] none)
 (.cond (tm 10) (.seq (.region none [] [
 op 4 (.mov (.cst (.bool false)))] [4] none)
 (.ret))
 (.skip)))
 (.seq (.seq (.region none [] [
 op 5 (.mov (ci (0)))] [0, 1, 5] none)
 (.block 0 (.loop l11_0_h l11_0_b)))
 (.seq (.region none [] [
 op 4 (.mov (.cst (.bool true)))] [4] none)
 (.ret))))

def a11 : AFunc := ⟨2, c11, [.tmp 4]⟩

def an11 : List RAnn := [
 { id := 0, live := [0, 1] },
 { id := 1, live := [0, 1, 10] },
 { id := 2, live := [4] },
 { id := 3, live := [0, 1, 5] },
 { id := 4, live := [0, 1, 5, 14], hdr := [0, 1, 5] },
 { id := 6, head := some 9, live := [0, 1, 5, 25] },
 { id := 7, live := [4] },
 { id := 5, live := [0, 1, 5] },
 { id := 8, live := [4] }]

theorem comp11 : compF Tryz.prog an11 Tryz.f11 = some a11 := by kernel_rfl

/- graphdb/degree.Seq -/
def c12 : ACode :=
 .seq (.region none [] [
 op 3 (.box 4 (tm 0)), op 6 (.mov (.cst (.sl false [])))] [1, 2, 3] none)
 (.seq (.seq (.region none [] [
 op 7 (.load (some 4) (tm 3)), op 8 (.call .pure 21 [(tm 7)]), op 9 (.bin .neq .int (tm 8) (ci (0))), mv 10 9, mg 11 2 10 false, ⟨some 12, .bin .neq .int (tm 11) (ci (1)), some (10, false)⟩, mg 13 12 10 false, mg 14 2 13 true, ⟨some 15, .bin .neq .int (tm 14) (ci (2)), some (13, true)⟩, ⟨some 16, .pick (tm 13) (tm 15) (.cst (.bool false)), some (10, false)⟩, op 17 (.pick (tm 10) (.cst (.bool true)) (tm 16))] [1, 2, 3, 17] none)
 (.cond (tm 17) (.seq (.region none [] [
 op 6 (.mov (.cst (.sl false [])))] [6] none)
 (.ret))
 (.skip)))
 (.seq (.region none [] [
 op 18 (.load (some 4) (tm 3)), mv 19 1, mv 20 2, op 21 (.call .pure 25 [(tm 18), (tm 19), (tm 20)]), mv 6 21] [6] none)
 (.ret)))

def a12 : AFunc := ⟨3, c12, [.tmp 6]⟩

def an12 : List RAnn := [
 { id := 0, live := [1, 2, 3] },
 { id := 1, live := [1, 2, 3, 17] },
 { id := 2, live := [6] },
 { id := 3, live := [6] }]

theorem comp12 : compF Tryz.prog an12 Tryz.f12 = some a12 := by kernel_rfl

/- graphdb/graphdbref16.Seq -/
/-- loop 0 of function 13 -/
def l13_0_h : List Nat := [1, 2, 3, 7, 8]

def l13_0_b : ACode :=
 .seq (.seq (.region none [] [
 mv 13 8, op 14 (.faddr 0 (tm 3)), op 15 (.load none (tm 14)), op 16 (.len .slice (tm 15)), op 17 (.bin .lss .int (tm 13) (tm 16))] [1, 2, 3, 7, 8, 17] none)
 (.cond (tm 17) (.skip)
 (.exit 0)))
 (.seq (.block 1 (.seq (.region (some 11) [] [
 op 20 (.load (some 4) (tm 3)), op 21 (.faddr 0 (tm 3)), op 22 (.load none (tm 21)), mv 23 8, op 24 (.iaddr 3 (tm 22) (tm 23)), op 25 (.faddr 0 (tm 24)), op 26 (.load none (tm 25)), mv 27 1, mv 28 2, op 29 (.call .pure 31 [(tm 20), (tm 26), (tm 27), (tm 28)]), mv 9 29] [1, 2, 3, 7, 8, 9] none)
 (.seq (.region none [] [
 mv 30 9, op 31 (.bin .gtr .int (tm 30) (ci (0)))] [1, 2, 3, 7, 8, 9, 31] none)
 (.cond (tm 31) (.region none [] [
 mv 32 7, mv 33 9, op 34 (.lit false 1 (.int .i64 0) 1 [(0, (tm 33))]), op 35 (.append 1 8 (tm 32) (tm 34)), mv 7 35] [1, 2, 3, 7, 8] none)
 (.skip)))))
 (.region none [] [
 mv 18 8, op 19 (.bin .add .int (tm 18) (ci (1))), mv 8 19] [1, 2, 3, 7, 8] none))

def c13 : ACode :=
 .seq (.region none [] [
 op 3 (.box 4 (tm 0)), op 6 (.mov (.cst (.sl false [])))] [1, 2, 3] none)
 (.seq (.seq (.region none [] [
 op 10 (.load (some 4) (tm 3)), op 11 (.call .pure 14 [(tm 10)]), op 12 (.bin .neq .int (tm 11) (ci (0)))] [1, 2, 3, 12] none)
 (.cond (tm 12) (.seq (.region none [] [
 op 6 (.mov (.cst (.sl false [])))] [6] none)
 (.ret))
 (.skip)))
 (.seq (.region none [] [
 op 7 (.newown 1)] [1, 2, 3, 7] none)
 (.seq (.seq (.region none [] [
 op 8 (.mov (ci (0)))] [1, 2, 3, 7, 8] none)
 (.block 0 (.loop l13_0_h l13_0_b)))
 (.seq (.region none [7] [
 mv 36 7, op 37 (.call .pure 32 [(tm 36)]), mv 6 37] [6] none)
 (.ret)))))

def a13 : AFunc := ⟨3, c13, [.tmp 6]⟩

def an13 : List RAnn := [
 { id := 0, live := [1, 2, 3] },
 { id := 1, live := [1, 2, 3, 12] },
 { id := 2, live := [6] },
 { id := 3, live := [1, 2, 3, 7], ops := [(0, .own)] },
 { id := 4, live := [1, 2, 3, 7, 8] },
 { id := 5, live := [1, 2, 3, 7, 8, 17], hdr := [1, 2, 3, 7, 8] },
 { id := 7, head := some 11, live := [1, 2, 3, 7, 8, 9] },
 { id := 8, live := [1, 2, 3, 7, 8, 9, 31] },
 { id := 9, live := [1, 2, 3, 7, 8] },
 { id := 6, live := [1, 2, 3, 7, 8] },
 { id := 10, frz := [7], live := [6] }]

theorem comp13 : compF Tryz.prog an13 Tryz.f13 = some a13 := by kernel_rfl

/- graphdb/graphdbref07.Check -/
/-- loop 0 of function 14 -/
def l14_0_h : List Nat := [1, 3]

def l14_0_b : ACode :=
 .seq (.seq (.region none [] [
 mv 35 3, op 36 (.faddr 0 (tm 1)), op 37 (.load none (tm 36)), op 38 (.len .slice (tm 37)), op 39 (.bin .lss .int (tm 35) (tm 38))] [1, 3, 39] none)
 (.cond (tm 39) (.skip)
 (.exit 0)))
 (.seq (.block 1 (.seq (.region none [] [
 op 42 (.load (some 4) (tm 1)), mv 43 3, op 44 (.call .pure 33 [(tm 42), (tm 43)]), mv 4 44] [1, 3, 4] none)
 (.seq (.region none [] [
 mv 45 4, op 46 (.bin .neq .int (tm 45) (ci (0)))] [1, 3, 4, 46] none)
 (.cond (tm 46) (.seq (.region none [] [
 mv 47 4, mv 2 47] [2] none)
 (.ret))
 (.skip)))))
 (.region none [] [
 mv 40 3, op 41 (.bin .add .int (tm 40) (ci (1))), mv 3 41] [1, 3] none))

/-- loop 1 of function 14 -/
def l14_1_h : List Nat := [1, 5]

def l14_1_b : ACode :=
 .seq (.seq (.region none [] [
 mv 48 5, op 49 (.faddr 1 (tm 1)), op 50 (.load none (tm 49)), op 51 (.len .slice (tm 50)), op 52 (.bin .lss .int (tm 48) (tm 51))] [1, 5, 52] none)
 (.cond (tm 52) (.skip)
 (.exit 2)))
 (.seq (.block 3 (.seq (.region none [] [
 op 55 (.load (some 4) (tm 1)), mv 56 5, op 57 (.call .pure 34 [(tm 55), (tm 56)]), mv 6 57] [1, 5, 6] none)
 (.seq (.region none [] [
 mv 58 6, op 59 (.bin .neq .int (tm 58) (ci (0)))] [1, 5, 6, 59] none)
 (.cond (tm 59) (.seq (.region none [] [
 mv 60 6, mv 2 60] [2] none)
 (.ret))
 (.skip)))))
 (.region none [] [
 mv 53 5, op 54 (.bin .add .int (tm 53) (ci (1))), mv 5 54] [1, 5] none))

def c14 : ACode :=
 .seq (.region none [] [
 op 1 (.box 4 (tm 0)), op 2 (.mov (ci (0)))] [1] none)
 (.seq (.seq (.region none [] [
 op 7 (.faddr 0 (tm 1)), op 8 (.load none (tm 7)), op 9 (.len .slice (tm 8)), op 10 (.bin .gtr .int (tm 9) (ci (2000))), mv 11 10, ⟨some 12, .faddr 1 (tm 1), some (11, false)⟩, ⟨some 13, .load none (tm 12), some (11, false)⟩, ⟨some 14, .len .slice (tm 13), some (11, false)⟩, ⟨some 15, .bin .gtr .int (tm 14) (ci (4000)), some (11, false)⟩, op 16 (.pick (tm 11) (.cst (.bool true)) (tm 15))] [1, 16] none)
 (.cond (tm 16) (.seq (.region none [] [
 op 2 (.mov (ci (4)))] [2] none)
 (.ret))
 (.skip)))
 (.seq (.seq (.region none [] [
 op 17 (.faddr 2 (tm 1)), op 18 (.load none (tm 17)), op 19 (.bin .lss .int (tm 18) (ci (1))), mv 20 19, ⟨some 21, .faddr 2 (tm 1), some (20, false)⟩, ⟨some 22, .load none (tm 21), some (20, false)⟩, ⟨some 23, .bin .gtr .int (tm 22) (ci (1000001)), some (20, false)⟩, op 24 (.pick (tm 20) (.cst (.bool true)) (tm 23)), mv 25 24, ⟨some 26, .faddr 3 (tm 1), some (25, false)⟩, ⟨some 27, .load none (tm 26), some (25, false)⟩, ⟨some 28, .bin .lss .int (tm 27) (ci (1)), some (25, false)⟩, op 29 (.pick (tm 25) (.cst (.bool true)) (tm 28)), mv 30 29, ⟨some 31, .faddr 3 (tm 1), some (30, false)⟩, ⟨some 32, .load none (tm 31), some (30, false)⟩, ⟨some 33, .bin .gtr .int (tm 32) (ci (1000001)), some (30, false)⟩, op 34 (.pick (tm 30) (.cst (.bool true)) (tm 33))] [1, 34] none)
 (.cond (tm 34) (.seq (.region none [] [
 op 2 (.mov (ci (1)))] [2] none)
 (.ret))
 (.skip)))
 (.seq (.seq (.region none [] [
 op 3 (.mov (ci (0)))] [1, 3] none)
 (.block 0 (.loop l14_0_h l14_0_b)))
 (.seq (.seq (.region none [] [
 op 5 (.mov (ci (0)))] [1, 5] none)
 (.block 2 (.loop l14_1_h l14_1_b)))
 (.seq (.region none [] [
 op 2 (.mov (ci (0)))] [2] none)
 (.ret))))))

def a14 : AFunc := ⟨1, c14, [.tmp 2]⟩

def an14 : List RAnn := [
 { id := 0, live := [1] },
 { id := 1, live := [1, 16] },
 { id := 2, live := [2] },
 { id := 3, live := [1, 34] },
 { id := 4, live := [2] },
 { id := 5, live := [1, 3] },
 { id := 6, live := [1, 3, 39], hdr := [1, 3] },
 { id := 8, live := [1, 3, 4] },
 { id := 9, live := [1, 3, 4, 46] },
 { id := 10, live := [2] },
 { id := 7, live := [1, 3] },
 { id := 11, live := [1, 5] },
 { id := 12, live := [1, 5, 52], hdr := [1, 5] },
 { id := 14, live := [1, 5, 6] },
 { id := 15, live := [1, 5, 6, 59] },
 { id := 16, live := [2] },
 { id := 13, live := [1, 5] },
 { id := 17, live := [2] }]

theorem comp14 : compF Tryz.prog an14 Tryz.f14 = some a14 := by kernel_rfl

/- graphdb/graphdblaw16.sum -/
/-- loop 0 of function 15 -/
def l15_0_h : List Nat := [0, 3, 4]

def l15_0_b : ACode :=
 .seq (.seq (.region none [] [
 mv 5 4, mv 6 0, op 7 (.len .slice (tm 6)), op 8 (.bin .lss .int (tm 5) (tm 7))] [0, 3, 4, 8] none)
 (.cond (tm 8) (.skip)
 (.exit 0)))
 (.seq (.block 1 (.seq (.seq (.region (some 21) [] [
 mv 11 0, mv 12 4, op 13 (.iaddr 1 (tm 11) (tm 12)), op 14 (.load none (tm 13)), op 15 (.bin .lss .int (tm 14) (ci (1))), mv 16 15, mg 17 4 16 false, ⟨some 18, .bin .gtr .int (tm 17) (ci (0)), some (16, false)⟩, mg 19 18 16 false, mg 20 0 19 true, mg 21 4 19 true, ⟨some 22, .bin .sub .int (tm 21) (ci (1)), some (19, true)⟩, ⟨some 23, .iaddr 1 (tm 20) (tm 22), some (19, true)⟩, ⟨some 24, .load none (tm 23), some (19, true)⟩, mg 25 0 19 true, mg 26 4 19 true, ⟨some 27, .iaddr 1 (tm 25) (tm 26), some (19, true)⟩, ⟨some 28, .load none (tm 27), some (19, true)⟩, ⟨some 29, .bin .lss .int (tm 24) (tm 28), some (19, true)⟩, ⟨some 30, .pick (tm 19) (tm 29) (.cst (.bool false)), some (16, false)⟩, op 31 (.pick (tm 16) (.cst (.bool true)) (tm 30))] [0, 3, 4, 31] none)
 (.cond (tm 31) (.seq (.region none [] [
 op 2 (.mov (ci ((-1))))] [2] none)
 (.ret))
 (.skip)))
 (.region none [] [
 mv 32 3, mv 33 0, mv 34 4, op 35 (.iaddr 1 (tm 33) (tm 34)), op 36 (.load none (tm 35)), op 37 (.bin .add .int (tm 32) (tm 36)), mv 3 37] [0, 3, 4] none)))
 (.region none [] [
 mv 9 4, op 10 (.bin .add .int (tm 9) (ci (1))), mv 4 10] [0, 3, 4] none))

def c15 : ACode :=
 .seq (.region none [] [
 op 2 (.mov (ci (0)))] [0] none)
 (.seq (.region none [] [
 op 3 (.mov (ci (0)))] [0, 3] none)
 (.seq (.seq (.region none [] [
 op 4 (.mov (ci (0)))] [0, 3, 4] none)
 (.block 0 (.loop l15_0_h l15_0_b)))
 (.seq (.region none [] [
 mv 38 3, mv 2 38] [2] none)
 (.ret))))

def a15 : AFunc := ⟨1, c15, [.tmp 2]⟩

def an15 : List RAnn := [
 { id := 0, live := [0] },
 { id := 1, live := [0, 3] },
 { id := 2, live := [0, 3, 4] },
 { id := 3, live := [0, 3, 4, 8], hdr := [0, 3, 4] },
 { id := 5, head := some 21, live := [0, 3, 4, 31] },
 { id := 6, live := [2] },
 { id := 7, live := [0, 3, 4] },
 { id := 4, live := [0, 3, 4] },
 { id := 8, live := [2] }]

theorem comp15 : compF Tryz.prog an15 Tryz.f15 = some a15 := by kernel_rfl

/- graphdb/degree.Edges -/
/-- loop 0 of function 16 -/
def l16_0_h : List Nat := [2, 5, 13, 14, 15]

def l16_0_b : ACode :=
 .seq (.region none [] [
 op 16 (.bin .lss .int (tm 15) (tm 14))] [2, 5, 13, 14, 15, 16] none)
 (.seq (.cond (tm 16) (.skip)
 (.exit 0))
 (.seq (.block 1 (.seq (.region none [] [
 op 17 (.iaddr 1 (tm 13) (tm 15)), op 18 (.load none (tm 17)), mv 7 18] [2, 5, 7, 13, 14, 15] none)
 (.region none [] [
 mv 19 5, op 20 (.faddr 3 (tm 2)), op 21 (.load none (tm 20)), mv 22 7, op 23 (.call .pure 35 [(tm 21), (tm 22)]), op 24 (.bin .add .int (tm 19) (tm 23)), mv 5 24] [2, 5, 13, 14, 15] none)))
 (.region none [] [
 op 25 (.bin .add .int (tm 15) (ci (1))), mv 15 25] [2, 5, 13, 14, 15] none)))

def c16 : ACode :=
 .seq (.region none [] [
 op 2 (.box 6 (tm 0)), op 4 (.mov (ci (0)))] [1, 2] none)
 (.seq (.seq (.region none [] [
 mv 8 1, op 9 (.len .slice (tm 8)), op 10 (.bin .eql .int (tm 9) (ci (0)))] [1, 2, 10] none)
 (.cond (tm 10) (.seq (.region none [] [
 op 11 (.faddr 1 (tm 2)), op 12 (.load none (tm 11)), mv 4 12] [4] none)
 (.ret))
 (.skip)))
 (.seq (.region none [] [
 op 5 (.mov (ci (0)))] [1, 2, 5] none)
 (.seq (.seq (.region none [] [
 mv 13 1, op 14 (.len .slice (tm 13)), op 15 (.mov (ci (0)))] [2, 5, 13, 14, 15] none)
 (.block 0 (.loop l16_0_h l16_0_b)))
 (.seq (.region none [] [
 mv 26 5, mv 4 26] [4] none)
 (.ret)))))

def a16 : AFunc := ⟨2, c16, [.tmp 4]⟩

def an16 : List RAnn := [
 { id := 0, live := [1, 2] },
 { id := 1, live := [1, 2, 10] },
 { id := 2, live := [4] },
 { id := 3, live := [1, 2, 5] },
 { id := 4, live := [2, 5, 13, 14, 15] },
 { id := 5, live := [2, 5, 13, 14, 15, 16], hdr := [2, 5, 13, 14, 15] },
 { id := 6, live := [2, 5, 7, 13, 14, 15] },
 { id := 7, live := [2, 5, 13, 14, 15] },
 { id := 8, live := [2, 5, 13, 14, 15] },
 { id := 9, live := [4] }]

theorem comp16 : compF Tryz.prog an16 Tryz.f16 = some a16 := by kernel_rfl

/- graphdb/degree.Pair -/
/-- loop 0 of function 17 -/
def l17_0_h : List Nat := [5, 6, 7, 17, 18]

def l17_0_b : ACode :=
 .seq (.region none [] [
 op 19 (.bin .lss .int (tm 18) (tm 17))] [5, 6, 7, 17, 18, 19] none)
 (.seq (.cond (tm 19) (.skip)
 (.exit 0))
 (.seq (.block 1 (.seq (.region none [] [
 mv 20 18, mv 8 20] [5, 6, 7, 8, 17, 18] none)
 (.region (some 12) [] [
 mv 21 7, mv 22 5, mv 23 8, op 24 (.iaddr 1 (tm 22) (tm 23)), op 25 (.load none (tm 24)), mv 26 6, mv 27 8, op 28 (.iaddr 1 (tm 26) (tm 27)), op 29 (.load none (tm 28)), op 30 (.bin .mul .int (tm 25) (tm 29)), op 31 (.bin .add .int (tm 21) (tm 30)), mv 7 31] [5, 6, 7, 17, 18] none)))
 (.region none [] [
 op 32 (.bin .add .int (tm 18) (ci (1))), mv 18 32] [5, 6, 7, 17, 18] none)))

def c17 : ACode :=
 .seq (.region none [] [
 op 4 (.mov (ci (0)))] [0, 1] none)
 (.seq (.region none [] [
 mv 9 0, op 10 (.call .pure 36 [(tm 9)]), mv 11 1, op 12 (.call .pure 36 [(tm 11)]), mv 5 10, mv 6 12] [5, 6] none)
 (.seq (.region none [] [
 op 7 (.mov (ci (0)))] [5, 6, 7] none)
 (.seq (.seq (.region none [] [
 mv 13 5, op 14 (.len .slice (tm 13)), mv 15 6, op 16 (.len .slice (tm 15)), op 17 (.min (tm 14) (tm 16)), op 18 (.mov (ci (0)))] [5, 6, 7, 17, 18] none)
 (.block 0 (.loop l17_0_h l17_0_b)))
 (.seq (.region none [] [
 mv 33 7, mv 4 33] [4] none)
 (.ret)))))

def a17 : AFunc := ⟨2, c17, [.tmp 4]⟩

def an17 : List RAnn := [
 { id := 0, live := [0, 1] },
 { id := 1, live := [5, 6] },
 { id := 2, live := [5, 6, 7] },
 { id := 3, live := [5, 6, 7, 17, 18] },
 { id := 4, live := [5, 6, 7, 17, 18, 19], hdr := [5, 6, 7, 17, 18] },
 { id := 5, live := [5, 6, 7, 8, 17, 18] },
 { id := 6, head := some 12, live := [5, 6, 7, 17, 18] },
 { id := 7, live := [5, 6, 7, 17, 18] },
 { id := 8, live := [4] }]

theorem comp17 : compF Tryz.prog an17 Tryz.f17 = some a17 := by kernel_rfl

/- graphdb/graphdblaw16.three -/
def c18 : ACode :=
 .seq (.region none [] [
 op 0 (.alloc 4 (.agg [.sl false [], .sl false [], .int .i64 0, .int .i64 0]))] [0] none)
 (.seq (.region none [] [
 op 1 (.build [.int .i64 0, .sl false [], .sl false []] [(0, 1, (ci (1)))]), op 2 (.lit false 1 (.str []) 1 [(0, (.cst (.str [65])))]), op 3 (.build [.int .i64 0, .sl false [], .sl false []] [(0, 1, (ci (2))), (1, 1, (tm 2))]), op 4 (.lit false 1 (.str []) 1 [(0, (.cst (.str [65])))]), op 5 (.build [.int .i64 0, .sl false [], .sl false []] [(0, 1, (ci (3))), (1, 1, (tm 4))]), op 6 (.lit false 3 (.agg [.int .i64 0, .sl false [], .sl false []]) 3 [(0, (tm 1)), (1, (tm 3)), (2, (tm 5))]), op 7 (.build [.int .i64 0, .int .i64 0, .int .i64 0, .str [], .sl false []] [(0, 1, (ci (1))), (1, 1, (ci (1))), (2, 1, (ci (2))), (3, 1, (.cst (.str [84])))]), op 8 (.build [.int .i64 0, .int .i64 0, .int .i64 0, .str [], .sl false []] [(0, 1, (ci (2))), (1, 1, (ci (1))), (2, 1, (ci (3))), (3, 1, (.cst (.str [84])))]), op 9 (.build [.int .i64 0, .int .i64 0, .int .i64 0, .str [], .sl false []] [(0, 1, (ci (3))), (1, 1, (ci (2))), (2, 1, (ci (1))), (3, 1, (.cst (.str [85])))]), op 10 (.lit false 5 (.agg [.int .i64 0, .int .i64 0, .int .i64 0, .str [], .sl false []]) 3 [(0, (tm 7)), (1, (tm 8)), (2, (tm 9))]), op 11 (.build [.sl false [], .sl false [], .int .i64 0, .int .i64 0] [(0, 1, (tm 6)), (1, 1, (tm 10)), (2, 1, (ci (4))), (3, 1, (ci (4)))]), ⟨none, .store 4 (tm 0) (tm 11), none⟩] [0] none)
 (.ret))

def a18 : AFunc := ⟨0, c18, [.cell 0 (some 4)]⟩

def an18 : List RAnn := [
 { id := 0, live := [0] },
 { id := 1, live := [0] }]

theorem comp18 : compF Tryz.prog an18 Tryz.f18 = some a18 := by kernel_rfl

/- graphdb/degree.Nodes -/
def c19 : ACode :=
 .seq (.region none [] [
 op 2 (.box 6 (tm 0)), op 4 (.mov (ci (0)))] [1, 2] none)
 (.seq (.seq (.region none [] [
 mv 5 1, op 6 (.bin .eql .str (tm 5) (.cst (.str [])))] [1, 2, 6] none)
 (.cond (tm 6) (.seq (.region none [] [
 op 7 (.faddr 0 (tm 2)), op 8 (.load none (tm 7)), mv 4 8] [4] none)
 (.ret))
 (.skip)))
 (.seq (.region none [] [
 op 9 (.faddr 2 (tm 2)), op 10 (.load none (tm 9)), mv 11 1, op 12 (.call .pure 35 [(tm 10), (tm 11)]), mv 4 12] [4] none)
 (.ret)))

def a19 : AFunc := ⟨2, c19, [.tmp 4]⟩

def an19 : List RAnn := [
 { id := 0, live := [1, 2] },
 { id := 1, live := [1, 2, 6] },
 { id := 2, live := [4] },
 { id := 3, live := [4] }]

theorem comp19 : compF Tryz.prog an19 Tryz.f19 = some a19 := by kernel_rfl

/- graphdb/degree.Max -/
/-- loop 0 of function 20 -/
def l20_0_h : List Nat := [7, 8, 27, 28]

def l20_0_b : ACode :=
 .seq (.region none [] [
 op 29 (.bin .lss .int (tm 28) (tm 27))] [7, 8, 27, 28, 29] none)
 (.seq (.cond (tm 29) (.skip)
 (.exit 1))
 (.seq (.block 2 (.seq (.region none [] [
 mv 30 28, mv 9 30] [7, 8, 9, 27, 28] none)
 (.region none [] [
 mv 31 8, mv 32 7, mv 33 9, op 34 (.call .pure 37 [(tm 32), (tm 33)]), op 35 (.bin .add .int (tm 31) (tm 34)), mv 8 35] [7, 8, 27, 28] none)))
 (.region none [] [
 op 36 (.bin .add .int (tm 28) (ci (1))), mv 28 36] [7, 8, 27, 28] none)))

/-- loop 1 of function 20 -/
def l20_1_h : List Nat := [3, 7, 8, 38, 39, 40]

def l20_1_b : ACode :=
 .seq (.region none [] [
 op 41 (.bin .lss .int (tm 40) (tm 39))] [3, 7, 8, 38, 39, 40, 41] none)
 (.seq (.cond (tm 41) (.skip)
 (.exit 3))
 (.seq (.block 4 (.seq (.region none [] [
 op 42 (.iaddr 1 (tm 38) (tm 40)), op 43 (.load none (tm 42)), op 11 (.alloc 1 (.str [])), ⟨none, .store 1 (tm 11) (tm 43), none⟩] [3, 7, 8, 11, 38, 39, 40] none)
 (.seq (.region none [] [
 op 44 (.faddr 3 (tm 3)), op 45 (.load none (tm 44)), op 46 (.mkfn 39 [(tm 11)]), op 47 (.call .borrow 38 [(tm 45), (tm 46)]), mv 12 47] [3, 7, 8, 12, 38, 39, 40] none)
 (.seq (.region none [] [
 mv 48 12, op 49 (.bin .geq .int (tm 48) (ci (0)))] [3, 7, 8, 12, 38, 39, 40, 49] none)
 (.cond (tm 49) (.region none [] [
 mv 50 8, mv 51 7, mv 52 12, op 53 (.call .pure 37 [(tm 51), (tm 52)]), op 54 (.bin .add .int (tm 50) (tm 53)), mv 8 54] [3, 7, 8, 38, 39, 40] none)
 (.skip))))))
 (.region none [] [
 op 55 (.bin .add .int (tm 40) (ci (1))), mv 40 55] [3, 7, 8, 38, 39, 40] (some 1))))

def c20 : ACode :=
 .seq (.region none [] [
 op 3 (.box 6 (tm 0)), op 6 (.mov (ci (0)))] [1, 2, 3] none)
 (.seq (.region none [] [
 op 7 (.mov (.cst (.sl false [])))] [1, 2, 3, 7] none)
 (.seq (.seq (.region none [] [
 mv 13 2] [1, 3, 7, 13] none)
 (.block 0 (.seq (.region none [] [
 op 15 (.bin .eql .int (tm 13) (ci (1))), mv 14 15] [1, 3, 7, 13, 14] none)
 (.cond (tm 14) (.region none [] [
 op 16 (.faddr 4 (tm 3)), op 17 (.load none (tm 16)), mv 7 17] [1, 3, 7] none)
 (.seq (.region none [] [
 op 19 (.bin .eql .int (tm 13) (ci (2))), mv 18 19] [1, 3, 7, 18] none)
 (.cond (tm 18) (.region none [] [
 op 20 (.faddr 5 (tm 3)), op 21 (.load none (tm 20)), mv 7 21] [1, 3, 7] none)
 (.skip)))))))
 (.seq (.region none [] [
 op 8 (.mov (ci (0)))] [1, 3, 7, 8] none)
 (.seq (.seq (.region none [] [
 mv 22 1, op 23 (.len .slice (tm 22)), op 24 (.bin .eql .int (tm 23) (ci (0)))] [1, 3, 7, 8, 24] none)
 (.cond (tm 24) (.seq (.seq (.region none [] [
 op 25 (.faddr 3 (tm 3)), op 26 (.load none (tm 25)), op 27 (.len .slice (tm 26)), op 28 (.mov (ci (0)))] [7, 8, 27, 28] none)
 (.block 1 (.loop l20_0_h l20_0_b)))
 (.seq (.region none [] [
 mv 37 8, mv 6 37] [6] none)
 (.ret)))
 (.skip)))
 (.seq (.seq (.region none [] [
 mv 38 1, op 39 (.len .slice (tm 38)), op 40 (.mov (ci (0)))] [3, 7, 8, 38, 39, 40] none)
 (.block 3 (.loop l20_1_h l20_1_b)))
 (.seq (.region none [] [
 mv 56 8, mv 6 56] [6] none)
 (.ret)))))))

def a20 : AFunc := ⟨3, c20, [.tmp 6]⟩

def an20 : List RAnn := [
 { id := 0, live := [1, 2, 3] },
 { id := 1, live := [1, 2, 3, 7] },
 { id := 2, live := [1, 3, 7, 13] },
 { id := 3, live := [1, 3, 7, 13, 14] },
 { id := 4, live := [1, 3, 7] },
 { id := 5, live := [1, 3, 7, 18] },
 { id := 6, live := [1, 3, 7] },
 { id := 7, live := [1, 3, 7, 8] },
 { id := 8, live := [1, 3, 7, 8, 24] },
 { id := 9, live := [7, 8, 27, 28] },
 { id := 10, live := [7, 8, 27, 28, 29], hdr := [7, 8, 27, 28] },
 { id := 11, live := [7, 8, 9, 27, 28] },
 { id := 12, live := [7, 8, 27, 28] },
 { id := 13, live := [7, 8, 27, 28] },
 { id := 14, live := [6] },
 { id := 15, live := [3, 7, 8, 38, 39, 40] },
 { id := 16, live := [3, 7, 8, 38, 39, 40, 41], hdr := [3, 7, 8, 38, 39, 40] },
 { id := 17, live := [3, 7, 8, 11, 38, 39, 40] },
 { id := 18, live := [3, 7, 8, 12, 38, 39, 40], ops := [(3, .mode .borrow)] },
 { id := 19, live := [3, 7, 8, 12, 38, 39, 40, 49] },
 { id := 20, live := [3, 7, 8, 38, 39, 40] },
 { id := 21, live := [3, 7, 8, 38, 39, 40], trunc := some 1 },
 { id := 22, live := [6] }]

theorem comp20 : compF Tryz.prog an20 Tryz.f20 = some a20 := by kernel_rfl

/- graphdb/graph.Check -/
/-- loop 0 of function 21 -/
def l21_0_h : List Nat := [1, 38, 39, 40]

def l21_0_b : ACode :=
 .seq (.region none [] [
 op 41 (.bin .lss .int (tm 40) (tm 39))] [1, 38, 39, 40, 41] none)
 (.seq (.cond (tm 41) (.skip)
 (.exit 0))
 (.seq (.block 1 (.seq (.region none [] [
 mv 42 40, op 43 (.iaddr 3 (tm 38) (tm 40)), op 44 (.load (some 3) (tm 43)), op 4 (.alloc 3 (.agg [.int .i64 0, .sl false [], .sl false []])), mv 3 42, ⟨none, .store 3 (tm 4) (tm 44), none⟩] [1, 3, 4, 38, 39, 40] none)
 (.seq (.seq (.region (some 14) [] [
 mv 45 3, op 46 (.bin .gtr .int (tm 45) (ci (0))), mv 47 46, ⟨some 48, .faddr 0 (tm 4), some (47, true)⟩, ⟨some 49, .load none (tm 48), some (47, true)⟩, ⟨some 50, .faddr 0 (tm 1), some (47, true)⟩, ⟨some 51, .load none (tm 50), some (47, true)⟩, mg 52 3 47 true, ⟨some 53, .bin .sub .int (tm 52) (ci (1)), some (47, true)⟩, ⟨some 54, .iaddr 3 (tm 51) (tm 53), some (47, true)⟩, ⟨some 55, .faddr 0 (tm 54), some (47, true)⟩, ⟨some 56, .load none (tm 55), some (47, true)⟩, ⟨some 57, .bin .leq .int (tm 49) (tm 56), some (47, true)⟩, op 58 (.pick (tm 47) (tm 57) (.cst (.bool false)))] [1, 4, 38, 39, 40, 58] none)
 (.cond (tm 58) (.seq (.region none [] [
 op 2 (.mov (ci (26)))] [2] none)
 (.ret))
 (.skip)))
 (.seq (.seq (.region none [] [
 op 59 (.faddr 0 (tm 4)), op 60 (.load none (tm 59)), op 61 (.bin .lss .int (tm 60) (ci (1))), mv 62 61, ⟨some 63, .faddr 0 (tm 4), some (62, false)⟩, ⟨some 64, .load none (tm 63), some (62, false)⟩, ⟨some 65, .faddr 2 (tm 1), some (62, false)⟩, ⟨some 66, .load none (tm 65), some (62, false)⟩, ⟨some 67, .bin .geq .int (tm 64) (tm 66), some (62, false)⟩, op 68 (.pick (tm 62) (.cst (.bool true)) (tm 67))] [1, 4, 38, 39, 40, 68] none)
 (.cond (tm 68) (.seq (.region none [] [
 op 2 (.mov (ci (1)))] [2] none)
 (.ret))
 (.skip)))
 (.seq (.region none [] [
 op 69 (.faddr 1 (tm 4)), op 70 (.load none (tm 69)), op 71 (.faddr 2 (tm 4)), op 72 (.load none (tm 71)), op 73 (.call .pure 40 [(tm 70), (tm 72)]), mv 5 73] [1, 5, 38, 39, 40] none)
 (.seq (.region none [] [
 mv 74 5, op 75 (.bin .neq .int (tm 74) (ci (0)))] [1, 5, 38, 39, 40, 75] none)
 (.cond (tm 75) (.seq (.region none [] [
 mv 76 5, mv 2 76] [2] none)
 (.ret))
 (.skip))))))))
 (.region none [] [
 op 77 (.bin .add .int (tm 40) (ci (1))), mv 40 77] [1, 38, 39, 40] (some 1))))

/-- loop 1 of function 21 -/
def l21_1_h : List Nat := [1, 79, 80, 81]

def l21_1_b : ACode :=
 .seq (.region none [] [
 op 82 (.bin .lss .int (tm 81) (tm 80))] [1, 79, 80, 81, 82] none)
 (.seq (.cond (tm 82) (.skip)
 (.exit 2))
 (.seq (.block 3 (.seq (.region none [] [
 mv 83 81, op 84 (.iaddr 5 (tm 79) (tm 81)), op 85 (.load (some 5) (tm 84)), op 7 (.alloc 5 (.agg [.int .i64 0, .int .i64 0, .int .i64 0, .str [], .sl false []])), mv 6 83, ⟨none, .store 5 (tm 7) (tm 85), none⟩] [1, 6, 7, 79, 80, 81] none)
 (.seq (.seq (.region (some 14) [] [
 mv 86 6, op 87 (.bin .gtr .int (tm 86) (ci (0))), mv 88 87, ⟨some 89, .faddr 0 (tm 7), some (88, true)⟩, ⟨some 90, .load none (tm 89), some (88, true)⟩, ⟨some 91, .faddr 1 (tm 1), some (88, true)⟩, ⟨some 92, .load none (tm 91), some (88, true)⟩, mg 93 6 88 true, ⟨some 94, .bin .sub .int (tm 93) (ci (1)), some (88, true)⟩, ⟨some 95, .iaddr 5 (tm 92) (tm 94), some (88, true)⟩, ⟨some 96, .faddr 0 (tm 95), some (88, true)⟩, ⟨some 97, .load none (tm 96), some (88, true)⟩, ⟨some 98, .bin .leq .int (tm 90) (tm 97), some (88, true)⟩, op 99 (.pick (tm 88) (tm 98) (.cst (.bool false)))] [1, 7, 79, 80, 81, 99] none)
 (.cond (tm 99) (.seq (.region none [] [
 op 2 (.mov (ci (26)))] [2] none)
 (.ret))
 (.skip)))
 (.seq (.seq (.region none [] [
 op 100 (.faddr 0 (tm 7)), op 101 (.load none (tm 100)), op 102 (.bin .lss .int (tm 101) (ci (1))), mv 103 102, ⟨some 104, .faddr 0 (tm 7), some (103, false)⟩, ⟨some 105, .load none (tm 104), some (103, false)⟩, ⟨some 106, .faddr 3 (tm 1), some (103, false)⟩, ⟨some 107, .load none (tm 106), some (103, false)⟩, ⟨some 108, .bin .geq .int (tm 105) (tm 107), some (103, false)⟩, op 109 (.pick (tm 103) (.cst (.bool true)) (tm 108))] [1, 7, 79, 80, 81, 109] none)
 (.cond (tm 109) (.seq (.region none [] [
 op 2 (.mov (ci (1)))] [2] none)
 (.ret))
 (.skip)))
 (.seq (.seq (.region none [] [
 op 110 (.faddr 0 (tm 1)), op 111 (.load none (tm 110)), op 112 (.faddr 1 (tm 7)), op 113 (.load none (tm 112)), op 114 (.call .pure 41 [(tm 111), (tm 113)]), op 115 (.un .not (tm 114)), mv 116 115, ⟨some 117, .faddr 0 (tm 1), some (116, false)⟩, ⟨some 118, .load none (tm 117), some (116, false)⟩, ⟨some 119, .faddr 2 (tm 7), some (116, false)⟩, ⟨some 120, .load none (tm 119), some (116, false)⟩, ⟨some 121, .call .pure 41 [(tm 118), (tm 120)], some (116, false)⟩, ⟨some 122, .un .not (tm 121), some (116, false)⟩, op 123 (.pick (tm 116) (.cst (.bool true)) (tm 122))] [1, 7, 79, 80, 81, 123] none)
 (.cond (tm 123) (.seq (.region none [] [
 op 2 (.mov (ci (10)))] [2] none)
 (.ret))
 (.skip)))
 (.seq (.seq (.region none [] [
 op 124 (.faddr 3 (tm 7)), op 125 (.load none (tm 124)), op 126 (.call .pure 42 [(tm 125)]), op 127 (.un .not (tm 126))] [1, 7, 79, 80, 81, 127] none)
 (.cond (tm 127) (.seq (.region none [] [
 op 2 (.mov (ci (6)))] [2] none)
 (.ret))
 (.skip)))
 (.seq (.region none [] [
 op 128 (.faddr 4 (tm 7)), op 129 (.load none (tm 128)), op 130 (.call .pure 40 [(.cst (.sl false [])), (tm 129)]), mv 8 130] [1, 8, 79, 80, 81] none)
 (.seq (.region none [] [
 mv 131 8, op 132 (.bin .neq .int (tm 131) (ci (0)))] [1, 8, 79, 80, 81, 132] none)
 (.cond (tm 132) (.seq (.region none [] [
 mv 133 8, mv 2 133] [2] none)
 (.ret))
 (.skip))))))))))
 (.region none [] [
 op 134 (.bin .add .int (tm 81) (ci (1))), mv 81 134] [1, 79, 80, 81] (some 1))))

def c21 : ACode :=
 .seq (.region none [] [
 op 1 (.box 4 (tm 0)), op 2 (.mov (ci (0)))] [1] none)
 (.seq (.seq (.region none [] [
 op 9 (.faddr 0 (tm 1)), op 10 (.load none (tm 9)), op 11 (.len .slice (tm 10)), op 12 (.bin .gtr .int (tm 11) (ci (2000))), mv 13 12, ⟨some 14, .faddr 1 (tm 1), some (13, false)⟩, ⟨some 15, .load none (tm 14), some (13, false)⟩, ⟨some 16, .len .slice (tm 15), some (13, false)⟩, ⟨some 17, .bin .gtr .int (tm 16) (ci (4000)), some (13, false)⟩, op 18 (.pick (tm 13) (.cst (.bool true)) (tm 17))] [1, 18] none)
 (.cond (tm 18) (.seq (.region none [] [
 op 2 (.mov (ci (4)))] [2] none)
 (.ret))
 (.skip)))
 (.seq (.seq (.region none [] [
 op 19 (.faddr 2 (tm 1)), op 20 (.load none (tm 19)), op 21 (.bin .lss .int (tm 20) (ci (1))), mv 22 21, ⟨some 23, .faddr 2 (tm 1), some (22, false)⟩, ⟨some 24, .load none (tm 23), some (22, false)⟩, ⟨some 25, .bin .gtr .int (tm 24) (ci (1000001)), some (22, false)⟩, op 26 (.pick (tm 22) (.cst (.bool true)) (tm 25)), mv 27 26, ⟨some 28, .faddr 3 (tm 1), some (27, false)⟩, ⟨some 29, .load none (tm 28), some (27, false)⟩, ⟨some 30, .bin .lss .int (tm 29) (ci (1)), some (27, false)⟩, op 31 (.pick (tm 27) (.cst (.bool true)) (tm 30)), mv 32 31, ⟨some 33, .faddr 3 (tm 1), some (32, false)⟩, ⟨some 34, .load none (tm 33), some (32, false)⟩, ⟨some 35, .bin .gtr .int (tm 34) (ci (1000001)), some (32, false)⟩, op 36 (.pick (tm 32) (.cst (.bool true)) (tm 35))] [1, 36] none)
 (.cond (tm 36) (.seq (.region none [] [
 op 2 (.mov (ci (1)))] [2] none)
 (.ret))
 (.skip)))
 (.seq (.seq (.region none [] [
 op 37 (.faddr 0 (tm 1)), op 38 (.load none (tm 37)), op 39 (.len .slice (tm 38)), op 40 (.mov (ci (0)))] [1, 38, 39, 40] none)
 (.block 0 (.loop l21_0_h l21_0_b)))
 (.seq (.seq (.region none [] [
 op 78 (.faddr 1 (tm 1)), op 79 (.load none (tm 78)), op 80 (.len .slice (tm 79)), op 81 (.mov (ci (0)))] [1, 79, 80, 81] none)
 (.block 2 (.loop l21_1_h l21_1_b)))
 (.seq (.region none [] [
 op 2 (.mov (ci (0)))] [2] none)
 (.ret))))))

def a21 : AFunc := ⟨1, c21, [.tmp 2]⟩

def an21 : List RAnn := [
 { id := 0, live := [1] },
 { id := 1, live := [1, 18] },
 { id := 2, live := [2] },
 { id := 3, live := [1, 36] },
 { id := 4, live := [2] },
 { id := 5, live := [1, 38, 39, 40] },
 { id := 6, live := [1, 38, 39, 40, 41], hdr := [1, 38, 39, 40] },
 { id := 7, live := [1, 3, 4, 38, 39, 40] },
 { id := 8, head := some 14, live := [1, 4, 38, 39, 40, 58] },
 { id := 9, live := [2] },
 { id := 10, live := [1, 4, 38, 39, 40, 68] },
 { id := 11, live := [2] },
 { id := 12, live := [1, 5, 38, 39, 40] },
 { id := 13, live := [1, 5, 38, 39, 40, 75] },
 { id := 14, live := [2] },
 { id := 15, live := [1, 38, 39, 40], trunc := some 1 },
 { id := 16, live := [1, 79, 80, 81] },
 { id := 17, live := [1, 79, 80, 81, 82], hdr := [1, 79, 80, 81] },
 { id := 18, live := [1, 6, 7, 79, 80, 81] },
 { id := 19, head := some 14, live := [1, 7, 79, 80, 81, 99] },
 { id := 20, live := [2] },
 { id := 21, live := [1, 7, 79, 80, 81, 109] },
 { id := 22, live := [2] },
 { id := 23, live := [1, 7, 79, 80, 81, 123] },
 { id := 24, live := [2] },
 { id := 25, live := [1, 7, 79, 80, 81, 127] },
 { id := 26, live := [2] },
 { id := 27, live := [1, 8, 79, 80, 81] },
 { id := 28, live := [1, 8, 79, 80, 81, 132] },
 { id := 29, live := [2] },
 { id := 30, live := [1, 79, 80, 81], trunc := some 1 },
 { id := 31, live := [2] }]

theorem comp21 : compF Tryz.prog an21 Tryz.f21 = some a21 := by kernel_rfl

/- graphdb/graph.Labels -/
/-- loop 0 of function 22 -/
def l22_0_h : List Nat := [3, 7, 8, 9]

def l22_0_b : ACode :=
 .seq (.region none [] [
 op 10 (.bin .lss .int (tm 9) (tm 8))] [3, 7, 8, 9, 10] none)
 (.seq (.cond (tm 10) (.skip)
 (.exit 0))
 (.seq (.block 1 (.seq (.region none [] [
 op 11 (.iaddr 3 (tm 7) (tm 9)), op 12 (.load (some 3) (tm 11)), op 5 (.alloc 3 (.agg [.int .i64 0, .sl false [], .sl false []])), ⟨none, .store 3 (tm 5) (tm 12), none⟩] [3, 5, 7, 8, 9] none)
 (.region none [] [
 mv 13 3, op 14 (.faddr 1 (tm 5)), op 15 (.load none (tm 14)), op 16 (.append 1 16 (tm 13) (tm 15)), mv 3 16] [3, 7, 8, 9] none)))
 (.region none [] [
 op 17 (.bin .add .int (tm 9) (ci (1))), mv 9 17] [3, 7, 8, 9] (some 2))))

def c22 : ACode :=
 .seq (.region none [] [
 op 1 (.box 4 (tm 0)), op 2 (.mov (.cst (.sl false [])))] [1] none)
 (.seq (.region none [] [
 op 3 (.newown 1)] [1, 3] none)
 (.seq (.seq (.region none [] [
 op 6 (.faddr 0 (tm 1)), op 7 (.load none (tm 6)), op 8 (.len .slice (tm 7)), op 9 (.mov (ci (0)))] [3, 7, 8, 9] none)
 (.block 0 (.loop l22_0_h l22_0_b)))
 (.seq (.region none [] [
 mv 18 3, op 19 (.call .share 43 [(tm 18)])] [3] none)
 (.seq (.region none [] [
 mv 20 3, op 21 (.call .share 44 [(tm 20)]), mv 2 21] [2] none)
 (.ret)))))

def a22 : AFunc := ⟨1, c22, [.tmp 2]⟩

def an22 : List RAnn := [
 { id := 0, live := [1] },
 { id := 1, live := [1, 3], ops := [(0, .own)] },
 { id := 2, live := [3, 7, 8, 9] },
 { id := 3, live := [3, 7, 8, 9, 10], hdr := [3, 7, 8, 9] },
 { id := 4, live := [3, 5, 7, 8, 9] },
 { id := 5, live := [3, 7, 8, 9] },
 { id := 6, live := [3, 7, 8, 9], trunc := some 2 },
 { id := 7, live := [3], ops := [(1, .mode .share)] },
 { id := 8, live := [2], ops := [(1, .mode .share)] }]

theorem comp22 : compF Tryz.prog an22 Tryz.f22 = some a22 := by kernel_rfl

/- graphdb/graph.HasLabel -/
def c23 : ACode :=
 .seq (.region none [] [
 op 2 (.box 3 (tm 0)), op 4 (.mov (.cst (.bool false)))] [1, 2] none)
 (.seq (.region none [] [
 op 5 (.faddr 1 (tm 2)), op 6 (.load none (tm 5)), mv 7 1, op 8 (.call .pure 45 [(tm 6), (tm 7)]), mv 4 8] [4] none)
 (.ret))

def a23 : AFunc := ⟨2, c23, [.tmp 4]⟩

def an23 : List RAnn := [
 { id := 0, live := [1, 2] },
 { id := 1, live := [4] }]

theorem comp23 : compF Tryz.prog an23 Tryz.f23 = some a23 := by kernel_rfl

/- graphdb/graph.Types -/
/-- loop 0 of function 24 -/
def l24_0_h : List Nat := [3, 7, 8, 9]

def l24_0_b : ACode :=
 .seq (.region none [] [
 op 10 (.bin .lss .int (tm 9) (tm 8))] [3, 7, 8, 9, 10] none)
 (.seq (.cond (tm 10) (.skip)
 (.exit 0))
 (.seq (.block 1 (.seq (.region none [] [
 op 11 (.iaddr 5 (tm 7) (tm 9)), op 12 (.load (some 5) (tm 11)), op 5 (.alloc 5 (.agg [.int .i64 0, .int .i64 0, .int .i64 0, .str [], .sl false []])), ⟨none, .store 5 (tm 5) (tm 12), none⟩] [3, 5, 7, 8, 9] none)
 (.region none [] [
 mv 13 3, op 14 (.faddr 3 (tm 5)), op 15 (.load none (tm 14)), op 16 (.lit false 1 (.str []) 1 [(0, (tm 15))]), op 17 (.append 1 16 (tm 13) (tm 16)), mv 3 17] [3, 7, 8, 9] none)))
 (.region none [] [
 op 18 (.bin .add .int (tm 9) (ci (1))), mv 9 18] [3, 7, 8, 9] (some 2))))

def c24 : ACode :=
 .seq (.region none [] [
 op 1 (.box 4 (tm 0)), op 2 (.mov (.cst (.sl false [])))] [1] none)
 (.seq (.region none [] [
 op 3 (.newown 1)] [1, 3] none)
 (.seq (.seq (.region none [] [
 op 6 (.faddr 1 (tm 1)), op 7 (.load none (tm 6)), op 8 (.len .slice (tm 7)), op 9 (.mov (ci (0)))] [3, 7, 8, 9] none)
 (.block 0 (.loop l24_0_h l24_0_b)))
 (.seq (.region none [] [
 mv 19 3, op 20 (.call .share 43 [(tm 19)])] [3] none)
 (.seq (.region none [] [
 mv 21 3, op 22 (.call .share 44 [(tm 21)]), mv 2 22] [2] none)
 (.ret)))))

def a24 : AFunc := ⟨1, c24, [.tmp 2]⟩

def an24 : List RAnn := [
 { id := 0, live := [1] },
 { id := 1, live := [1, 3], ops := [(0, .own)] },
 { id := 2, live := [3, 7, 8, 9] },
 { id := 3, live := [3, 7, 8, 9, 10], hdr := [3, 7, 8, 9] },
 { id := 4, live := [3, 5, 7, 8, 9] },
 { id := 5, live := [3, 7, 8, 9] },
 { id := 6, live := [3, 7, 8, 9], trunc := some 2 },
 { id := 7, live := [3], ops := [(1, .mode .share)] },
 { id := 8, live := [2], ops := [(1, .mode .share)] }]

theorem comp24 : compF Tryz.prog an24 Tryz.f24 = some a24 := by kernel_rfl

/- graphdb/degree.seq -/
/-- loop 0 of function 25 -/
def l25_0_h : List Nat := [1, 2, 3, 7, 16, 17, 18]

def l25_0_b : ACode :=
 .seq (.region none [] [
 op 19 (.bin .lss .int (tm 18) (tm 17))] [1, 2, 3, 7, 16, 17, 18, 19] none)
 (.seq (.cond (tm 19) (.skip)
 (.exit 0))
 (.seq (.block 1 (.seq (.region none [] [
 op 20 (.iaddr 5 (tm 16) (tm 18)), op 21 (.load (some 5) (tm 20)), op 9 (.alloc 5 (.agg [.int .i64 0, .int .i64 0, .int .i64 0, .str [], .sl false []])), ⟨none, .store 5 (tm 9) (tm 21), none⟩] [1, 2, 3, 7, 9, 16, 17, 18] none)
 (.seq (.seq (.region none [] [
 mv 22 1, op 23 (.bin .neq .str (tm 22) (.cst (.str []))), mv 24 23, ⟨some 25, .faddr 3 (tm 9), some (24, true)⟩, ⟨some 26, .load none (tm 25), some (24, true)⟩, mg 27 1 24 true, ⟨some 28, .bin .neq .str (tm 26) (tm 27), some (24, true)⟩, op 29 (.pick (tm 24) (tm 28) (.cst (.bool false)))] [1, 2, 3, 7, 9, 16, 17, 18, 29] none)
 (.cond (tm 29) (.exit 1)
 (.skip)))
 (.seq (.region none [] [
 mv 30 2, op 31 (.bin .eql .int (tm 30) (ci (1)))] [1, 2, 3, 7, 9, 16, 17, 18, 31] none)
 (.cond (tm 31) (.region none [] [
 mv 32 7, op 33 (.faddr 1 (tm 9)), op 34 (.load none (tm 33)), op 35 (.lookup .int (.int .i64 0) false (tm 32) (tm 34)), op 36 (.bin .add .int (tm 35) (ci (1))), ⟨none, .mapset .int (tm 32) (tm 34) (tm 36), none⟩] [1, 2, 3, 7, 16, 17, 18] none)
 (.region none [] [
 mv 37 7, op 38 (.faddr 2 (tm 9)), op 39 (.load none (tm 38)), op 40 (.lookup .int (.int .i64 0) false (tm 37) (tm 39)), op 41 (.bin .add .int (tm 40) (ci (1))), ⟨none, .mapset .int (tm 37) (tm 39) (tm 41), none⟩] [1, 2, 3, 7, 16, 17, 18] none))))))
 (.region none [] [
 op 42 (.bin .add .int (tm 18) (ci (1))), mv 18 42] [1, 2, 3, 7, 16, 17, 18] (some 2))))

/-- loop 1 of function 25 -/
def l25_1_h : List Nat := [7, 10, 44, 45, 46]

def l25_1_b : ACode :=
 .seq (.region none [] [
 op 47 (.bin .lss .int (tm 46) (tm 45))] [7, 10, 44, 45, 46, 47] none)
 (.seq (.cond (tm 47) (.skip)
 (.exit 2))
 (.seq (.block 3 (.seq (.region none [] [
 op 48 (.iaddr 3 (tm 44) (tm 46)), op 49 (.load (some 3) (tm 48)), op 12 (.alloc 3 (.agg [.int .i64 0, .sl false [], .sl false []])), ⟨none, .store 3 (tm 12) (tm 49), none⟩] [7, 10, 12, 44, 45, 46] none)
 (.seq (.region none [] [
 mv 50 7, op 51 (.faddr 0 (tm 12)), op 52 (.load none (tm 51)), op 53 (.lookup .int (.int .i64 0) false (tm 50) (tm 52)), mv 13 53] [7, 10, 13, 44, 45, 46] none)
 (.seq (.region none [] [
 mv 54 13, op 55 (.bin .gtr .int (tm 54) (ci (0)))] [7, 10, 13, 44, 45, 46, 55] none)
 (.cond (tm 55) (.region none [] [
 mv 56 10, mv 57 13, op 58 (.lit false 1 (.int .i64 0) 1 [(0, (tm 57))]), op 59 (.append 1 8 (tm 56) (tm 58)), mv 10 59] [7, 10, 44, 45, 46] none)
 (.skip))))))
 (.region none [] [
 op 60 (.bin .add .int (tm 46) (ci (1))), mv 46 60] [7, 10, 44, 45, 46] (some 3))))

def c25 : ACode :=
 .seq (.region none [] [
 op 3 (.box 4 (tm 0)), op 6 (.mov (.cst (.sl false [])))] [1, 2, 3] none)
 (.seq (.region none [] [
 op 14 (.mkmap), mv 7 14] [1, 2, 3, 7] none)
 (.seq (.seq (.region none [] [
 op 15 (.faddr 1 (tm 3)), op 16 (.load none (tm 15)), op 17 (.len .slice (tm 16)), op 18 (.mov (ci (0)))] [1, 2, 3, 7, 16, 17, 18] none)
 (.block 0 (.loop l25_0_h l25_0_b)))
 (.seq (.region none [] [
 op 10 (.newown 1)] [3, 7, 10] none)
 (.seq (.seq (.region none [] [
 op 43 (.faddr 0 (tm 3)), op 44 (.load none (tm 43)), op 45 (.len .slice (tm 44)), op 46 (.mov (ci (0)))] [7, 10, 44, 45, 46] none)
 (.block 2 (.loop l25_1_h l25_1_b)))
 (.seq (.region none [] [
 mv 61 10, op 62 (.call .share 46 [(tm 61), (.cst (.fn 47 []))])] [10] none)
 (.seq (.region none [] [
 mv 63 10, mv 6 63] [6] none)
 (.ret)))))))

def a25 : AFunc := ⟨3, c25, [.tmp 6]⟩

def an25 : List RAnn := [
 { id := 0, live := [1, 2, 3] },
 { id := 1, live := [1, 2, 3, 7] },
 { id := 2, live := [1, 2, 3, 7, 16, 17, 18] },
 { id := 3, live := [1, 2, 3, 7, 16, 17, 18, 19], hdr := [1, 2, 3, 7, 16, 17, 18] },
 { id := 4, live := [1, 2, 3, 7, 9, 16, 17, 18] },
 { id := 5, live := [1, 2, 3, 7, 9, 16, 17, 18, 29] },
 { id := 6, live := [1, 2, 3, 7, 9, 16, 17, 18, 31] },
 { id := 7, live := [1, 2, 3, 7, 16, 17, 18] },
 { id := 8, live := [1, 2, 3, 7, 16, 17, 18] },
 { id := 9, live := [1, 2, 3, 7, 16, 17, 18], trunc := some 2 },
 { id := 10, live := [3, 7, 10], ops := [(0, .own)] },
 { id := 11, live := [7, 10, 44, 45, 46] },
 { id := 12, live := [7, 10, 44, 45, 46, 47], hdr := [7, 10, 44, 45, 46] },
 { id := 13, live := [7, 10, 12, 44, 45, 46] },
 { id := 14, live := [7, 10, 13, 44, 45, 46] },
 { id := 15, live := [7, 10, 13, 44, 45, 46, 55] },
 { id := 16, live := [7, 10, 44, 45, 46] },
 { id := 17, live := [7, 10, 44, 45, 46], trunc := some 3 },
 { id := 18, live := [10], ops := [(1, .mode .share)] },
 { id := 19, live := [6] }]

theorem comp25 : compF Tryz.prog an25 Tryz.f25 = some a25 := by kernel_rfl

/- graphdb/graphdbref07.Labels -/
/-- loop 0 of function 26 -/
def l26_0_h : List Nat := [1, 3, 4, 5]

def l26_0_b : ACode :=
 .seq (.seq (.region none [] [
 mv 13 5, op 14 (.faddr 0 (tm 1)), op 15 (.load none (tm 14)), mv 16 4, op 17 (.iaddr 3 (tm 15) (tm 16)), op 18 (.faddr 1 (tm 17)), op 19 (.load none (tm 18)), op 20 (.len .slice (tm 19)), op 21 (.bin .lss .int (tm 13) (tm 20))] [1, 3, 4, 5, 21] none)
 (.cond (tm 21) (.skip)
 (.exit 2)))
 (.seq (.block 3 (.region none [] [
 mv 24 3, op 25 (.faddr 0 (tm 1)), op 26 (.load none (tm 25)), mv 27 4, op 28 (.iaddr 3 (tm 26) (tm 27)), op 29 (.faddr 1 (tm 28)), op 30 (.load none (tm 29)), mv 31 5, op 32 (.iaddr 1 (tm 30) (tm 31)), op 33 (.load none (tm 32)), op 34 (.call .pure 48 [(tm 24), (tm 33)]), mv 3 34] [1, 3, 4, 5] none))
 (.region none [] [
 mv 22 5, op 23 (.bin .add .int (tm 22) (ci (1))), mv 5 23] [1, 3, 4, 5] none))

/-- loop 1 of function 26 -/
def l26_1_h : List Nat := [1, 3, 4]

def l26_1_b : ACode :=
 .seq (.seq (.region none [] [
 mv 6 4, op 7 (.faddr 0 (tm 1)), op 8 (.load none (tm 7)), op 9 (.len .slice (tm 8)), op 10 (.bin .lss .int (tm 6) (tm 9))] [1, 3, 4, 10] none)
 (.cond (tm 10) (.skip)
 (.exit 0)))
 (.seq (.block 1 (.seq (.region none [] [
 op 5 (.mov (ci (0)))] [1, 3, 4, 5] none)
 (.block 2 (.loop l26_0_h l26_0_b))))
 (.region none [] [
 mv 11 4, op 12 (.bin .add .int (tm 11) (ci (1))), mv 4 12] [1, 3, 4] none))

def c26 : ACode :=
 .seq (.region none [] [
 op 1 (.box 4 (tm 0)), op 2 (.mov (.cst (.sl false [])))] [1] none)
 (.seq (.region none [] [
 op 3 (.mov (.cst (.sl false [])))] [1, 3] none)
 (.seq (.seq (.region none [] [
 op 4 (.mov (ci (0)))] [1, 3, 4] none)
 (.block 0 (.loop l26_1_h l26_1_b)))
 (.seq (.region none [] [
 mv 35 3, mv 2 35] [2] none)
 (.ret))))

def a26 : AFunc := ⟨1, c26, [.tmp 2]⟩

def an26 : List RAnn := [
 { id := 0, live := [1] },
 { id := 1, live := [1, 3] },
 { id := 2, live := [1, 3, 4] },
 { id := 3, live := [1, 3, 4, 10], hdr := [1, 3, 4] },
 { id := 5, live := [1, 3, 4, 5] },
 { id := 6, live := [1, 3, 4, 5, 21], hdr := [1, 3, 4, 5] },
 { id := 8, live := [1, 3, 4, 5] },
 { id := 7, live := [1, 3, 4, 5] },
 { id := 4, live := [1, 3, 4] },
 { id := 9, live := [2] }]

theorem comp26 : compF Tryz.prog an26 Tryz.f26 = some a26 := by kernel_rfl

/- graphdb/graphdbref07.HasLabel -/
def c27 : ACode :=
 .seq (.region none [] [
 op 2 (.box 3 (tm 0)), op 4 (.mov (.cst (.bool false)))] [1, 2] none)
 (.seq (.region none [] [
 op 5 (.faddr 1 (tm 2)), op 6 (.load none (tm 5)), mv 7 1, op 8 (.call .pure 49 [(tm 6), (tm 7)]), mv 4 8] [4] none)
 (.ret))

def a27 : AFunc := ⟨2, c27, [.tmp 4]⟩

def an27 : List RAnn := [
 { id := 0, live := [1, 2] },
 { id := 1, live := [4] }]

theorem comp27 : compF Tryz.prog an27 Tryz.f27 = some a27 := by kernel_rfl

/- graphdb/graphdbref07.Types -/
/-- loop 0 of function 28 -/
def l28_0_h : List Nat := [1, 3, 4]

def l28_0_b : ACode :=
 .seq (.seq (.region none [] [
 mv 5 4, op 6 (.faddr 1 (tm 1)), op 7 (.load none (tm 6)), op 8 (.len .slice (tm 7)), op 9 (.bin .lss .int (tm 5) (tm 8))] [1, 3, 4, 9] none)
 (.cond (tm 9) (.skip)
 (.exit 0)))
 (.seq (.block 1 (.region none [] [
 mv 12 3, op 13 (.faddr 1 (tm 1)), op 14 (.load none (tm 13)), mv 15 4, op 16 (.iaddr 5 (tm 14) (tm 15)), op 17 (.faddr 3 (tm 16)), op 18 (.load none (tm 17)), op 19 (.call .pure 48 [(tm 12), (tm 18)]), mv 3 19] [1, 3, 4] none))
 (.region none [] [
 mv 10 4, op 11 (.bin .add .int (tm 10) (ci (1))), mv 4 11] [1, 3, 4] none))

def c28 : ACode :=
 .seq (.region none [] [
 op 1 (.box 4 (tm 0)), op 2 (.mov (.cst (.sl false [])))] [1] none)
 (.seq (.region none [] [
 op 3 (.mov (.cst (.sl false [])))] [1, 3] none)
 (.seq (.seq (.region none [] [
 op 4 (.mov (ci (0)))] [1, 3, 4] none)
 (.block 0 (.loop l28_0_h l28_0_b)))
 (.seq (.region none [] [
 mv 20 3, mv 2 20] [2] none)
 (.ret))))

def a28 : AFunc := ⟨1, c28, [.tmp 2]⟩

def an28 : List RAnn := [
 { id := 0, live := [1] },
 { id := 1, live := [1, 3] },
 { id := 2, live := [1, 3, 4] },
 { id := 3, live := [1, 3, 4, 9], hdr := [1, 3, 4] },
 { id := 5, live := [1, 3, 4] },
 { id := 4, live := [1, 3, 4] },
 { id := 6, live := [2] }]

theorem comp28 : compF Tryz.prog an28 Tryz.f28 = some a28 := by kernel_rfl

/- graphdb/graphdbref16.counts -/
/-- loop 0 of function 29 -/
def l29_0_h : List Nat := [0, 1, 5]

def l29_0_b : ACode :=
 .seq (.seq (.region none [] [
 mv 11 5, mv 12 0, op 13 (.len .slice (tm 12)), op 14 (.bin .lss .int (tm 11) (tm 13))] [0, 1, 5, 14] none)
 (.cond (tm 14) (.skip)
 (.exit 0)))
 (.seq (.block 1 (.seq (.region (some 9) [] [
 mv 17 0, mv 18 5, op 19 (.iaddr 2 (tm 17) (tm 18)), op 20 (.load (some 2) (tm 19)), mv 21 1, mv 22 5, op 23 (.iaddr 2 (tm 21) (tm 22)), op 24 (.load (some 2) (tm 23)), op 25 (.bin .neq (.flat [.str, .int]) (tm 20) (tm 24))] [0, 1, 5, 25] none)
 (.cond (tm 25) (.seq (.region none [] [
 op 4 (.mov (.cst (.bool false)))] [4] none)
 (.ret))
 (.skip))))
 (.region none [] [
 mv 15 5, op 16 (.bin .add .int (tm 15) (ci (1))), mv 5 16] [0, 1, 5] none))

def c29 : ACode :=
 .seq (.region none [] [
 op 4 (.mov (.cst (.bool false)))] [0, 1] none)
 (.seq (.seq (.region none [] [
 mv 6 0, op 7 (.len .slice (tm 6)), mv 8 1, op 9 (.len .slice (tm 8)), op 10 (.bin .neq .int (tm 7) (tm 9))] [0, 1, 10] none)
 (.cond (tm 10) (.seq (.region none [] [
 op 4 (.mov (.cst (.bool false)))] [4] none)
 (.ret))
 (.skip)))
 (.seq (.seq (.region none [] [
 op 5 (.mov (ci (0)))] [0, 1, 5] none)
 (.block 0 (.loop l29_0_h l29_0_b)))
 (.seq (.region none [] [
 op 4 (.mov (.cst (.bool true)))] [4] none)
 (.ret))))

def a29 : AFunc := ⟨2, c29, [.tmp 4]⟩

def an29 : List RAnn := [
 { id := 0, live := [0, 1] },
 { id := 1, live := [0, 1, 10] },
 { id := 2, live := [4] },
 { id := 3, live := [0, 1, 5] },
 { id := 4, live := [0, 1, 5, 14], hdr := [0, 1, 5] },
 { id := 6, head := some 9, live := [0, 1, 5, 25] },
 { id := 7, live := [4] },
 { id := 5, live := [0, 1, 5] },
 { id := 8, live := [4] }]

theorem comp29 : compF Tryz.prog an29 Tryz.f29 = some a29 := by kernel_rfl

/- graphdb/graphdbref16.lists -/
/-- loop 0 of function 30 -/
def l30_0_h : List Nat := [0, 1, 5]

def l30_0_b : ACode :=
 .seq (.seq (.region none [] [
 mv 11 5, mv 12 0, op 13 (.len .slice (tm 12)), op 14 (.bin .lss .int (tm 11) (tm 13))] [0, 1, 5, 14] none)
 (.cond (tm 14) (.skip)
 (.exit 0)))
 (.seq (.block 1 (.seq (.region (some 10) [] [
 mv 17 0, mv 18 5, op 19 (.iaddr 1 (tm 17) (tm 18)), op 20 (.load none (tm 19)), mv 21 1, mv 22 5, op 23 (.iaddr 1 (tm 21) (tm 22)), op 24 (.load none (tm 23)), op 25 (.call .pure 11 [(tm 20), (tm 24)]), op 26 (.un .not (tm 25))] [0, 1, 5, 26] none)
 (.cond (tm 26) (.seq (.region none [] [
 op 4 (.mov (.cst (.bool false)))] [4] none)
 (.ret))
 (.skip))))
 (.region none [] [
 mv 15 5, op 16 (.bin .add .int (tm 15) (ci (1))), mv 5 16] [0, 1, 5] none))

def c30 : ACode :=
 .seq (.region none [] [
 op 4 (.mov (.cst (.bool false)))] [0, 1] none)
 (.seq (.seq (.region none [] [
 mv 6 0, op 7 (.len .slice (tm 6)), mv 8 1, op 9 (.len .slice (tm 8)), op 10 (.bin .neq .int (tm 7) (tm 9))] [0, 1, 10] none)
 (.cond (tm 10) (.seq (.region none [] [
 op 4 (.mov (.cst (.bool false)))] [4] none)
 (.ret))
 (.skip)))
 (.seq (.seq (.region none [] [
 op 5 (.mov (ci (0)))] [0, 1, 5] none)
 (.block 0 (.loop l30_0_h l30_0_b)))
 (.seq (.region none [] [
 op 4 (.mov (.cst (.bool true)))] [4] none)
 (.ret))))

def a30 : AFunc := ⟨2, c30, [.tmp 4]⟩

def an30 : List RAnn := [
 { id := 0, live := [0, 1] },
 { id := 1, live := [0, 1, 10] },
 { id := 2, live := [4] },
 { id := 3, live := [0, 1, 5] },
 { id := 4, live := [0, 1, 5, 14], hdr := [0, 1, 5] },
 { id := 6, head := some 10, live := [0, 1, 5, 26] },
 { id := 7, live := [4] },
 { id := 5, live := [0, 1, 5] },
 { id := 8, live := [4] }]

theorem comp30 : compF Tryz.prog an30 Tryz.f30 = some a30 := by kernel_rfl

/- graphdb/graphdbref16.degree -/
/-- loop 0 of function 31 -/
def l31_0_h : List Nat := [1, 2, 3, 4, 9, 10]

def l31_0_b : ACode :=
 .seq (.seq (.region none [] [
 mv 12 10, op 13 (.faddr 1 (tm 4)), op 14 (.load none (tm 13)), op 15 (.len .slice (tm 14)), op 16 (.bin .lss .int (tm 12) (tm 15))] [1, 2, 3, 4, 9, 10, 16] none)
 (.cond (tm 16) (.skip)
 (.exit 0)))
 (.seq (.block 1 (.seq (.region none [] [
 op 19 (.faddr 1 (tm 4)), op 20 (.load none (tm 19)), mv 21 10, op 22 (.iaddr 5 (tm 20) (tm 21)), op 23 (.load (some 5) (tm 22)), op 11 (.alloc 5 (.agg [.int .i64 0, .int .i64 0, .int .i64 0, .str [], .sl false []])), ⟨none, .store 5 (tm 11) (tm 23), none⟩] [1, 2, 3, 4, 9, 10, 11] none)
 (.seq (.region none [] [
 mv 24 2, op 25 (.bin .eql .str (tm 24) (.cst (.str []))), mv 26 25, ⟨some 27, .faddr 3 (tm 11), some (26, false)⟩, ⟨some 28, .load none (tm 27), some (26, false)⟩, mg 29 2 26 false, ⟨some 30, .bin .eql .str (tm 28) (tm 29), some (26, false)⟩, op 31 (.pick (tm 26) (.cst (.bool true)) (tm 30)), mv 32 31, mg 33 3 32 true, ⟨some 34, .bin .eql .int (tm 33) (ci (1)), some (32, true)⟩, mg 35 34 32 true, ⟨some 36, .faddr 1 (tm 11), some (35, true)⟩, ⟨some 37, .load none (tm 36), some (35, true)⟩, mg 38 1 35 true, ⟨some 39, .bin .eql .int (tm 37) (tm 38), some (35, true)⟩, ⟨some 40, .pick (tm 35) (tm 39) (.cst (.bool false)), some (32, true)⟩, mg 41 40 32 true, mg 42 3 41 false, ⟨some 43, .bin .eql .int (tm 42) (ci (2)), some (41, false)⟩, mg 44 43 41 false, ⟨some 45, .faddr 2 (tm 11), some (44, true)⟩, ⟨some 46, .load none (tm 45), some (44, true)⟩, mg 47 1 44 true, ⟨some 48, .bin .eql .int (tm 46) (tm 47), some (44, true)⟩, ⟨some 49, .pick (tm 44) (tm 48) (.cst (.bool false)), some (41, false)⟩, ⟨some 50, .pick (tm 41) (.cst (.bool true)) (tm 49), some (32, true)⟩, op 51 (.pick (tm 32) (tm 50) (.cst (.bool false)))] [1, 2, 3, 4, 9, 10, 51] none)
 (.cond (tm 51) (.region none [] [
 mv 52 9, op 53 (.bin .add .int (tm 52) (ci (1))), mv 9 53] [1, 2, 3, 4, 9, 10] none)
 (.skip)))))
 (.region none [] [
 mv 17 10, op 18 (.bin .add .int (tm 17) (ci (1))), mv 10 18] [1, 2, 3, 4, 9, 10] (some 1)))

def c31 : ACode :=
 .seq (.region none [] [
 op 4 (.box 4 (tm 0)), op 8 (.mov (ci (0)))] [1, 2, 3, 4] none)
 (.seq (.region none [] [
 op 9 (.mov (ci (0)))] [1, 2, 3, 4, 9] none)
 (.seq (.seq (.region none [] [
 op 10 (.mov (ci (0)))] [1, 2, 3, 4, 9, 10] none)
 (.block 0 (.loop l31_0_h l31_0_b)))
 (.seq (.region none [] [
 mv 54 9, mv 8 54] [8] none)
 (.ret))))

def a31 : AFunc := ⟨4, c31, [.tmp 8]⟩

def an31 : List RAnn := [
 { id := 0, live := [1, 2, 3, 4] },
 { id := 1, live := [1, 2, 3, 4, 9] },
 { id := 2, live := [1, 2, 3, 4, 9, 10] },
 { id := 3, live := [1, 2, 3, 4, 9, 10, 16], hdr := [1, 2, 3, 4, 9, 10] },
 { id := 5, live := [1, 2, 3, 4, 9, 10, 11] },
 { id := 6, live := [1, 2, 3, 4, 9, 10, 51] },
 { id := 7, live := [1, 2, 3, 4, 9, 10] },
 { id := 4, live := [1, 2, 3, 4, 9, 10], trunc := some 1 },
 { id := 8, live := [8] }]

theorem comp31 : compF Tryz.prog an31 Tryz.f31 = some a31 := by kernel_rfl

/- graphdb/graphdbref16.sorted -/
/-- loop 0 of function 32 -/
def l32_0_h : List Nat := [0, 3, 4, 5]

def l32_0_b : ACode :=
 .seq (.seq (.region (some 15) [] [
 mv 13 5, mv 14 3, op 15 (.len .slice (tm 14)), op 16 (.bin .lss .int (tm 13) (tm 15)), mv 17 16, mg 18 3 17 true, mg 19 5 17 true, ⟨some 20, .iaddr 1 (tm 18) (tm 19), some (17, true)⟩, ⟨some 21, .load none (tm 20), some (17, true)⟩, mg 22 0 17 true, mg 23 4 17 true, ⟨some 24, .iaddr 1 (tm 22) (tm 23), some (17, true)⟩, ⟨some 25, .load none (tm 24), some (17, true)⟩, ⟨some 26, .bin .geq .int (tm 21) (tm 25), some (17, true)⟩, op 27 (.pick (tm 17) (tm 26) (.cst (.bool false)))] [0, 3, 4, 5, 27] none)
 (.cond (tm 27) (.skip)
 (.exit 2)))
 (.block 3 (.region none [] [
 mv 28 5, op 29 (.bin .add .int (tm 28) (ci (1))), mv 5 29] [0, 3, 4, 5] none))

/-- loop 1 of function 32 -/
def l32_1_h : List Nat := [0, 3, 4]

def l32_1_b : ACode :=
 .seq (.seq (.region none [] [
 mv 7 4, mv 8 0, op 9 (.len .slice (tm 8)), op 10 (.bin .lss .int (tm 7) (tm 9))] [0, 3, 4, 10] none)
 (.cond (tm 10) (.skip)
 (.exit 0)))
 (.seq (.block 1 (.seq (.region none [] [
 op 5 (.mov (ci (0)))] [0, 3, 4, 5] none)
 (.seq (.block 2 (.loop l32_0_h l32_0_b))
 (.seq (.region none [] [
 op 30 (.lit true 1 (.int .i64 0) 0 []), mv 31 3, mv 32 5, op 33 (.slice 1 (tm 31) none (some (tm 32))), op 34 (.append 1 8 (tm 30) (tm 33)), mv 6 34] [0, 3, 4, 5, 6] none)
 (.seq (.region none [] [
 mv 35 6, mv 36 0, mv 37 4, op 38 (.iaddr 1 (tm 36) (tm 37)), op 39 (.load none (tm 38)), op 40 (.lit false 1 (.int .i64 0) 1 [(0, (tm 39))]), op 41 (.append 1 8 (tm 35) (tm 40)), mv 6 41] [0, 3, 4, 5, 6] none)
 (.region none [] [
 mv 42 6, mv 43 3, mv 44 5, op 45 (.slice 1 (tm 43) (some (tm 44)) none), op 46 (.append 1 8 (tm 42) (tm 45)), mv 3 46] [0, 3, 4] none))))))
 (.region none [3] [
 mv 11 4, op 12 (.bin .add .int (tm 11) (ci (1))), mv 4 12] [0, 3, 4] (some 0)))

def c32 : ACode :=
 .seq (.region none [] [
 op 2 (.mov (.cst (.sl false [])))] [0] none)
 (.seq (.region none [] [
 op 3 (.mov (.cst (.sl false [])))] [0, 3] none)
 (.seq (.seq (.region none [] [
 op 4 (.mov (ci (0)))] [0, 3, 4] none)
 (.block 0 (.loop l32_1_h l32_1_b)))
 (.seq (.region none [] [
 mv 47 3, mv 2 47] [2] none)
 (.ret))))

def a32 : AFunc := ⟨1, c32, [.tmp 2]⟩

def an32 : List RAnn := [
 { id := 0, live := [0] },
 { id := 1, live := [0, 3] },
 { id := 2, live := [0, 3, 4] },
 { id := 3, live := [0, 3, 4, 10], hdr := [0, 3, 4] },
 { id := 5, live := [0, 3, 4, 5] },
 { id := 6, head := some 15, live := [0, 3, 4, 5, 27], hdr := [0, 3, 4, 5] },
 { id := 7, live := [0, 3, 4, 5] },
 { id := 8, live := [0, 3, 4, 5, 6], ops := [(0, .own)] },
 { id := 9, live := [0, 3, 4, 5, 6] },
 { id := 10, live := [0, 3, 4] },
 { id := 4, frz := [3], live := [0, 3, 4], trunc := some 0 },
 { id := 11, live := [2] }]

theorem comp32 : compF Tryz.prog an32 Tryz.f32 = some a32 := by kernel_rfl

/- graphdb/graphdbref07.node -/
def c33 : ACode :=
 .seq (.region none [] [
 op 2 (.box 4 (tm 0)), op 4 (.mov (ci (0)))] [1, 2] none)
 (.seq (.region none [] [
 op 6 (.faddr 0 (tm 2)), op 7 (.load none (tm 6)), mv 8 1, op 9 (.iaddr 3 (tm 7) (tm 8)), op 10 (.load (some 3) (tm 9)), op 5 (.alloc 3 (.agg [.int .i64 0, .sl false [], .sl false []])), ⟨none, .store 3 (tm 5) (tm 10), none⟩] [1, 2, 5] none)
 (.seq (.seq (.region (some 14) [] [
 mv 11 1, op 12 (.bin .gtr .int (tm 11) (ci (0))), mv 13 12, ⟨some 14, .faddr 0 (tm 5), some (13, true)⟩, ⟨some 15, .load none (tm 14), some (13, true)⟩, ⟨some 16, .faddr 0 (tm 2), some (13, true)⟩, ⟨some 17, .load none (tm 16), some (13, true)⟩, mg 18 1 13 true, ⟨some 19, .bin .sub .int (tm 18) (ci (1)), some (13, true)⟩, ⟨some 20, .iaddr 3 (tm 17) (tm 19), some (13, true)⟩, ⟨some 21, .faddr 0 (tm 20), some (13, true)⟩, ⟨some 22, .load none (tm 21), some (13, true)⟩, ⟨some 23, .bin .leq .int (tm 15) (tm 22), some (13, true)⟩, op 24 (.pick (tm 13) (tm 23) (.cst (.bool false)))] [2, 5, 24] none)
 (.cond (tm 24) (.seq (.region none [] [
 op 4 (.mov (ci (26)))] [4] none)
 (.ret))
 (.skip)))
 (.seq (.seq (.region none [] [
 op 25 (.faddr 0 (tm 5)), op 26 (.load none (tm 25)), op 27 (.bin .lss .int (tm 26) (ci (1))), mv 28 27, ⟨some 29, .faddr 0 (tm 5), some (28, false)⟩, ⟨some 30, .load none (tm 29), some (28, false)⟩, ⟨some 31, .faddr 2 (tm 2), some (28, false)⟩, ⟨some 32, .load none (tm 31), some (28, false)⟩, ⟨some 33, .bin .geq .int (tm 30) (tm 32), some (28, false)⟩, op 34 (.pick (tm 28) (.cst (.bool true)) (tm 33))] [5, 34] none)
 (.cond (tm 34) (.seq (.region none [] [
 op 4 (.mov (ci (1)))] [4] none)
 (.ret))
 (.skip)))
 (.seq (.region none [] [
 op 35 (.faddr 1 (tm 5)), op 36 (.load none (tm 35)), op 37 (.faddr 2 (tm 5)), op 38 (.load none (tm 37)), op 39 (.call .pure 50 [(tm 36), (tm 38)]), mv 4 39] [4] none)
 (.ret)))))

def a33 : AFunc := ⟨2, c33, [.tmp 4]⟩

def an33 : List RAnn := [
 { id := 0, live := [1, 2] },
 { id := 1, live := [1, 2, 5] },
 { id := 2, head := some 14, live := [2, 5, 24] },
 { id := 3, live := [4] },
 { id := 4, live := [5, 34] },
 { id := 5, live := [4] },
 { id := 6, live := [4] }]

theorem comp33 : compF Tryz.prog an33 Tryz.f33 = some a33 := by kernel_rfl

/- graphdb/graphdbref07.edge -/
def c34 : ACode :=
 .seq (.region none [] [
 op 2 (.box 4 (tm 0)), op 4 (.mov (ci (0)))] [1, 2] none)
 (.seq (.region none [] [
 op 10 (.faddr 1 (tm 2)), op 11 (.load none (tm 10)), mv 12 1, op 13 (.iaddr 5 (tm 11) (tm 12)), op 14 (.load (some 5) (tm 13)), op 5 (.alloc 5 (.agg [.int .i64 0, .int .i64 0, .int .i64 0, .str [], .sl false []])), ⟨none, .store 5 (tm 5) (tm 14), none⟩] [1, 2, 5] none)
 (.seq (.seq (.region (some 14) [] [
 mv 15 1, op 16 (.bin .gtr .int (tm 15) (ci (0))), mv 17 16, ⟨some 18, .faddr 0 (tm 5), some (17, true)⟩, ⟨some 19, .load none (tm 18), some (17, true)⟩, ⟨some 20, .faddr 1 (tm 2), some (17, true)⟩, ⟨some 21, .load none (tm 20), some (17, true)⟩, mg 22 1 17 true, ⟨some 23, .bin .sub .int (tm 22) (ci (1)), some (17, true)⟩, ⟨some 24, .iaddr 5 (tm 21) (tm 23), some (17, true)⟩, ⟨some 25, .faddr 0 (tm 24), some (17, true)⟩, ⟨some 26, .load none (tm 25), some (17, true)⟩, ⟨some 27, .bin .leq .int (tm 19) (tm 26), some (17, true)⟩, op 28 (.pick (tm 17) (tm 27) (.cst (.bool false)))] [2, 5, 28] none)
 (.cond (tm 28) (.seq (.region none [] [
 op 4 (.mov (ci (26)))] [4] none)
 (.ret))
 (.skip)))
 (.seq (.seq (.region none [] [
 op 29 (.faddr 0 (tm 5)), op 30 (.load none (tm 29)), op 31 (.bin .lss .int (tm 30) (ci (1))), mv 32 31, ⟨some 33, .faddr 0 (tm 5), some (32, false)⟩, ⟨some 34, .load none (tm 33), some (32, false)⟩, ⟨some 35, .faddr 3 (tm 2), some (32, false)⟩, ⟨some 36, .load none (tm 35), some (32, false)⟩, ⟨some 37, .bin .geq .int (tm 34) (tm 36), some (32, false)⟩, op 38 (.pick (tm 32) (.cst (.bool true)) (tm 37))] [2, 5, 38] none)
 (.cond (tm 38) (.seq (.region none [] [
 op 4 (.mov (ci (1)))] [4] none)
 (.ret))
 (.skip)))
 (.seq (.region none [] [
 op 40 (.load (some 4) (tm 2)), op 41 (.faddr 1 (tm 5)), op 42 (.load none (tm 41)), op 43 (.call .pure 51 [(tm 40), (tm 42)]), mv 39 43, op 44 (.ext (tm 39) 0), op 45 (.ext (tm 39) 1), op 6 (.alloc 3 (.agg [.int .i64 0, .sl false [], .sl false []])), ⟨none, .store 3 (tm 6) (tm 44), none⟩, mv 7 45] [2, 5, 7] none)
 (.seq (.region none [] [
 op 47 (.load (some 4) (tm 2)), op 48 (.faddr 2 (tm 5)), op 49 (.load none (tm 48)), op 50 (.call .pure 51 [(tm 47), (tm 49)]), mv 46 50, op 51 (.ext (tm 46) 0), op 52 (.ext (tm 46) 1), op 8 (.alloc 3 (.agg [.int .i64 0, .sl false [], .sl false []])), ⟨none, .store 3 (tm 8) (tm 51), none⟩, mv 9 52] [5, 7, 9] none)
 (.seq (.seq (.region none [] [
 mv 53 7, op 54 (.un .not (tm 53)), mv 55 54, mg 56 9 55 false, ⟨some 57, .un .not (tm 56), some (55, false)⟩, op 58 (.pick (tm 55) (.cst (.bool true)) (tm 57))] [5, 58] none)
 (.cond (tm 58) (.seq (.region none [] [
 op 4 (.mov (ci (10)))] [4] none)
 (.ret))
 (.skip)))
 (.seq (.seq (.region none [] [
 op 59 (.faddr 3 (tm 5)), op 60 (.load none (tm 59)), op 61 (.call .pure 52 [(tm 60)]), op 62 (.un .not (tm 61))] [5, 62] none)
 (.cond (tm 62) (.seq (.region none [] [
 op 4 (.mov (ci (6)))] [4] none)
 (.ret))
 (.skip)))
 (.seq (.region none [] [
 op 63 (.faddr 4 (tm 5)), op 64 (.load none (tm 63)), op 65 (.call .pure 50 [(.cst (.sl false [])), (tm 64)]), mv 4 65] [4] none)
 (.ret)))))))))

def a34 : AFunc := ⟨2, c34, [.tmp 4]⟩

def an34 : List RAnn := [
 { id := 0, live := [1, 2] },
 { id := 1, live := [1, 2, 5] },
 { id := 2, head := some 14, live := [2, 5, 28] },
 { id := 3, live := [4] },
 { id := 4, live := [2, 5, 38] },
 { id := 5, live := [4] },
 { id := 6, live := [2, 5, 7] },
 { id := 7, live := [5, 7, 9] },
 { id := 8, live := [5, 58] },
 { id := 9, live := [4] },
 { id := 10, live := [5, 62] },
 { id := 11, live := [4] },
 { id := 12, live := [4] }]

theorem comp34 : compF Tryz.prog an34 Tryz.f34 = some a34 := by kernel_rfl

/- graphdb/degree.count -/
/-- loop 0 of function 35 -/
def l35_0_h : List Nat := [1, 7, 8, 9]

def l35_0_b : ACode :=
 .seq (.region none [] [
 op 10 (.bin .lss .int (tm 9) (tm 8))] [1, 7, 8, 9, 10] none)
 (.seq (.cond (tm 10) (.skip)
 (.exit 0))
 (.seq (.block 1 (.seq (.region none [] [
 op 11 (.iaddr 2 (tm 7) (tm 9)), op 12 (.load (some 2) (tm 11)), op 6 (.alloc 2 (.agg [.str [], .int .i64 0])), ⟨none, .store 2 (tm 6) (tm 12), none⟩] [1, 6, 7, 8, 9] none)
 (.seq (.region none [] [
 op 13 (.faddr 0 (tm 6)), op 14 (.load none (tm 13)), mv 15 1, op 16 (.bin .eql .str (tm 14) (tm 15))] [1, 6, 7, 8, 9, 16] none)
 (.cond (tm 16) (.seq (.region none [] [
 op 17 (.faddr 1 (tm 6)), op 18 (.load none (tm 17)), mv 4 18] [4] none)
 (.ret))
 (.skip)))))
 (.region none [] [
 op 19 (.bin .add .int (tm 9) (ci (1))), mv 9 19] [1, 7, 8, 9] (some 0))))

def c35 : ACode :=
 .seq (.region none [] [
 op 4 (.mov (ci (0)))] [0, 1] none)
 (.seq (.seq (.region none [] [
 mv 7 0, op 8 (.len .slice (tm 7)), op 9 (.mov (ci (0)))] [1, 7, 8, 9] none)
 (.block 0 (.loop l35_0_h l35_0_b)))
 (.seq (.region none [] [
 op 4 (.mov (ci (0)))] [4] none)
 (.ret)))

def a35 : AFunc := ⟨2, c35, [.tmp 4]⟩

def an35 : List RAnn := [
 { id := 0, live := [0, 1] },
 { id := 1, live := [1, 7, 8, 9] },
 { id := 2, live := [1, 7, 8, 9, 10], hdr := [1, 7, 8, 9] },
 { id := 3, live := [1, 6, 7, 8, 9] },
 { id := 4, live := [1, 6, 7, 8, 9, 16] },
 { id := 5, live := [4] },
 { id := 6, live := [1, 7, 8, 9], trunc := some 0 },
 { id := 7, live := [4] }]

theorem comp35 : compF Tryz.prog an35 Tryz.f35 = some a35 := by kernel_rfl

/- graphdb/degree.sorted -/
/-- loop 0 of function 36 -/
def l36_0_h : List Nat := [3, 8, 9, 10]

def l36_0_b : ACode :=
 .seq (.region none [] [
 op 11 (.bin .lss .int (tm 10) (tm 9))] [3, 8, 9, 10, 11] none)
 (.seq (.cond (tm 11) (.skip)
 (.exit 0))
 (.seq (.block 1 (.seq (.region none [] [
 mv 12 10, op 13 (.iaddr 1 (tm 8) (tm 10)), op 14 (.load none (tm 13)), mv 4 12, mv 5 14] [3, 4, 5, 8, 9, 10] none)
 (.region none [] [
 mv 15 3, mv 16 4, mv 17 5, op 18 (.max (tm 17) (ci (0))), op 19 (.iaddr 1 (tm 15) (tm 16)), ⟨none, .store 1 (tm 19) (tm 18), none⟩] [3, 8, 9, 10] none)))
 (.region none [] [
 op 20 (.bin .add .int (tm 10) (ci (1))), mv 10 20] [3, 8, 9, 10] none)))

def c36 : ACode :=
 .seq (.region none [] [
 op 2 (.mov (.cst (.sl false [])))] [0] none)
 (.seq (.region none [] [
 mv 6 0, op 7 (.call .own 53 [(tm 6)]), mv 3 7] [3] none)
 (.seq (.seq (.region none [] [
 mv 8 3, op 9 (.len .slice (tm 8)), op 10 (.mov (ci (0)))] [3, 8, 9, 10] none)
 (.block 0 (.loop l36_0_h l36_0_b)))
 (.seq (.region none [] [
 mv 21 3, op 22 (.call .share 46 [(tm 21), (.cst (.fn 47 []))])] [3] none)
 (.seq (.region none [] [
 mv 23 3, mv 2 23] [2] none)
 (.ret)))))

def a36 : AFunc := ⟨1, c36, [.tmp 2]⟩

def an36 : List RAnn := [
 { id := 0, live := [0] },
 { id := 1, live := [3], ops := [(1, .mode .own)] },
 { id := 2, live := [3, 8, 9, 10] },
 { id := 3, live := [3, 8, 9, 10, 11], hdr := [3, 8, 9, 10] },
 { id := 4, live := [3, 4, 5, 8, 9, 10] },
 { id := 5, live := [3, 8, 9, 10] },
 { id := 6, live := [3, 8, 9, 10] },
 { id := 7, live := [3], ops := [(1, .mode .share)] },
 { id := 8, live := [2] }]

theorem comp36 : compF Tryz.prog an36 Tryz.f36 = some a36 := by kernel_rfl

/- graphdb/degree.greatest -/
def c37 : ACode :=
 .seq (.region none [] [
 op 4 (.mov (ci (0)))] [0, 1] none)
 (.seq (.seq (.region none [] [
 mv 5 1, mv 6 0, op 7 (.len .slice (tm 6)), op 8 (.bin .geq .int (tm 5) (tm 7)), mv 9 8, mg 10 0 9 false, mg 11 1 9 false, ⟨some 12, .iaddr 1 (tm 10) (tm 11), some (9, false)⟩, ⟨some 13, .load none (tm 12), some (9, false)⟩, ⟨some 14, .len .slice (tm 13), some (9, false)⟩, ⟨some 15, .bin .eql .int (tm 14) (ci (0)), some (9, false)⟩, op 16 (.pick (tm 9) (.cst (.bool true)) (tm 15))] [0, 1, 16] none)
 (.cond (tm 16) (.seq (.region none [] [
 op 4 (.mov (ci (0)))] [4] none)
 (.ret))
 (.skip)))
 (.seq (.region none [] [
 mv 17 0, mv 18 1, op 19 (.iaddr 1 (tm 17) (tm 18)), op 20 (.load none (tm 19)), op 21 (.iaddr 1 (tm 20) (ci (0))), op 22 (.load none (tm 21)), mv 4 22] [4] none)
 (.ret)))

def a37 : AFunc := ⟨2, c37, [.tmp 4]⟩

def an37 : List RAnn := [
 { id := 0, live := [0, 1] },
 { id := 1, live := [0, 1, 16] },
 { id := 2, live := [4] },
 { id := 3, live := [4] }]

theorem comp37 : compF Tryz.prog an37 Tryz.f37 = some a37 := by kernel_rfl

/- slices.IndexFunc[[]graphdb/api.Count,graphdb/api.Count] -/
/-- loop 0 of function 38 -/
def l38_0_h : List Nat := [0, 1, 7, 8]

def l38_0_b : ACode :=
 .seq (.region none [] [
 op 9 (.bin .lss .int (tm 8) (tm 7))] [0, 1, 7, 8, 9] none)
 (.seq (.cond (tm 9) (.skip)
 (.exit 0))
 (.seq (.block 1 (.seq (.region none [] [
 mv 10 8, mv 5 10] [0, 1, 5, 7, 8] none)
 (.seq (.region none [] [
 mv 11 1, mv 12 0, mv 13 5, op 14 (.iaddr 2 (tm 12) (tm 13)), op 15 (.load (some 2) (tm 14)), op 16 (.callv .pure (tm 11) [(tm 15)])] [0, 1, 5, 7, 8, 16] none)
 (.cond (tm 16) (.seq (.region none [] [
 mv 17 5, mv 4 17] [4] none)
 (.ret))
 (.skip)))))
 (.region none [] [
 op 18 (.bin .add .int (tm 8) (ci (1))), mv 8 18] [0, 1, 7, 8] none)))

def c38 : ACode :=
 .seq (.region none [] [
 op 4 (.mov (ci (0)))] [0, 1] none)
 (.seq (.seq (.region none [] [
 mv 6 0, op 7 (.len .slice (tm 6)), op 8 (.mov (ci (0)))] [0, 1, 7, 8] none)
 (.block 0 (.loop l38_0_h l38_0_b)))
 (.seq (.region none [] [
 op 4 (.mov (ci ((-1))))] [4] none)
 (.ret)))

def a38 : AFunc := ⟨2, c38, [.tmp 4]⟩

def an38 : List RAnn := [
 { id := 0, live := [0, 1] },
 { id := 1, live := [0, 1, 7, 8] },
 { id := 2, live := [0, 1, 7, 8, 9], hdr := [0, 1, 7, 8] },
 { id := 3, live := [0, 1, 5, 7, 8] },
 { id := 4, live := [0, 1, 5, 7, 8, 16] },
 { id := 5, live := [4] },
 { id := 6, live := [0, 1, 7, 8] },
 { id := 7, live := [4] }]

theorem comp38 : compF Tryz.prog an38 Tryz.f38 = some a38 := by kernel_rfl

/- graphdb/degree.Max$1 -/
def c39 : ACode :=
 .seq (.region none [] [
 op 2 (.box 2 (tm 0)), op 3 (.mov (.cst (.bool false)))] [1, 2] none)
 (.seq (.region none [] [
 op 4 (.faddr 0 (tm 2)), op 5 (.load none (tm 4)), op 6 (.load none (tm 1)), op 7 (.bin .eql .str (tm 5) (tm 6)), mv 3 7] [3] none)
 (.ret))

def a39 : AFunc := ⟨2, c39, [.tmp 3]⟩

def an39 : List RAnn := [
 { id := 0, live := [1, 2] },
 { id := 1, live := [3] }]

theorem comp39 : compF Tryz.prog an39 Tryz.f39 = some a39 := by kernel_rfl

/- graphdb/graph.parts -/
/-- loop 0 of function 40 -/
def l40_0_h : List Nat := [0, 1, 5, 18, 19, 20]

def l40_0_b : ACode :=
 .seq (.region none [] [
 op 21 (.bin .lss .int (tm 20) (tm 19))] [0, 1, 5, 18, 19, 20, 21] none)
 (.seq (.cond (tm 21) (.skip)
 (.exit 0))
 (.seq (.block 1 (.seq (.region none [] [
 op 22 (.iaddr 6 (tm 18) (tm 20)), op 23 (.load (some 6) (tm 22)), op 7 (.alloc 6 (.agg [.str [], .int .i64 0, .int .i64 0, .int .i64 0, .str [], .sl false []])), ⟨none, .store 6 (tm 7) (tm 23), none⟩] [0, 1, 5, 7, 18, 19, 20] none)
 (.region none [] [
 mv 24 5, op 25 (.faddr 0 (tm 7)), op 26 (.load none (tm 25)), op 27 (.lit false 1 (.str []) 1 [(0, (tm 26))]), op 28 (.append 1 16 (tm 24) (tm 27)), mv 5 28] [0, 1, 5, 18, 19, 20] none)))
 (.region none [] [
 op 29 (.bin .add .int (tm 20) (ci (1))), mv 20 29] [0, 1, 5, 18, 19, 20] (some 1))))

/-- loop 1 of function 40 -/
def l40_1_h : List Nat := [44, 45, 46]

def l40_1_b : ACode :=
 .seq (.region none [] [
 op 47 (.bin .lss .int (tm 46) (tm 45))] [44, 45, 46, 47] none)
 (.seq (.cond (tm 47) (.skip)
 (.exit 2))
 (.seq (.block 3 (.seq (.region none [] [
 op 48 (.iaddr 6 (tm 44) (tm 46)), op 49 (.load (some 6) (tm 48)), op 9 (.alloc 6 (.agg [.str [], .int .i64 0, .int .i64 0, .int .i64 0, .str [], .sl false []])), ⟨none, .store 6 (tm 9) (tm 49), none⟩] [9, 44, 45, 46] none)
 (.seq (.region none [] [
 op 50 (.faddr 1 (tm 9)), op 51 (.load (some 5) (tm 50)), op 52 (.call .pure 57 [(tm 51)]), op 53 (.un .not (tm 52))] [44, 45, 46, 53] none)
 (.cond (tm 53) (.seq (.region none [] [
 op 4 (.mov (ci (8)))] [4] none)
 (.ret))
 (.skip)))))
 (.region none [] [
 op 54 (.bin .add .int (tm 46) (ci (1))), mv 46 54] [44, 45, 46] (some 1))))

def c40 : ACode :=
 .seq (.region none [] [
 op 4 (.mov (ci (0)))] [0, 1] none)
 (.seq (.seq (.region none [] [
 mv 10 0, op 11 (.len .slice (tm 10)), op 12 (.bin .gtr .int (tm 11) (ci (8))), mv 13 12, mg 14 1 13 false, ⟨some 15, .len .slice (tm 14), some (13, false)⟩, ⟨some 16, .bin .gtr .int (tm 15) (ci (16)), some (13, false)⟩, op 17 (.pick (tm 13) (.cst (.bool true)) (tm 16))] [0, 1, 17] none)
 (.cond (tm 17) (.seq (.region none [] [
 op 4 (.mov (ci (4)))] [4] none)
 (.ret))
 (.skip)))
 (.seq (.region none [] [
 op 5 (.newown 1)] [0, 1, 5] none)
 (.seq (.seq (.region none [] [
 mv 18 1, op 19 (.len .slice (tm 18)), op 20 (.mov (ci (0)))] [0, 1, 5, 18, 19, 20] none)
 (.block 0 (.loop l40_0_h l40_0_b)))
 (.seq (.seq (.region none [] [
 mv 30 0, op 31 (.call .pure 54 [(tm 30), (.cst (.fn 55 []))]), mv 32 31, mg 33 5 32 false, ⟨some 34, .call .borrow 54 [(tm 33), (.cst (.fn 55 []))], some (32, false)⟩, op 35 (.pick (tm 32) (.cst (.bool true)) (tm 34))] [0, 1, 5, 35] none)
 (.cond (tm 35) (.seq (.region none [] [
 op 4 (.mov (ci (6)))] [4] none)
 (.ret))
 (.skip)))
 (.seq (.seq (.region none [] [
 mv 36 0, op 37 (.call .pure 56 [(tm 36)]), op 38 (.un .not (tm 37)), mv 39 38, mg 40 5 39 false, ⟨some 41, .call .borrow 56 [(tm 40)], some (39, false)⟩, ⟨some 42, .un .not (tm 41), some (39, false)⟩, op 43 (.pick (tm 39) (.cst (.bool true)) (tm 42))] [1, 43] none)
 (.cond (tm 43) (.seq (.region none [] [
 op 4 (.mov (ci (26)))] [4] none)
 (.ret))
 (.skip)))
 (.seq (.seq (.region none [] [
 mv 44 1, op 45 (.len .slice (tm 44)), op 46 (.mov (ci (0)))] [44, 45, 46] none)
 (.block 2 (.loop l40_1_h l40_1_b)))
 (.seq (.region none [] [
 op 4 (.mov (ci (0)))] [4] none)
 (.ret))))))))

def a40 : AFunc := ⟨2, c40, [.tmp 4]⟩

def an40 : List RAnn := [
 { id := 0, live := [0, 1] },
 { id := 1, live := [0, 1, 17] },
 { id := 2, live := [4] },
 { id := 3, live := [0, 1, 5], ops := [(0, .own)] },
 { id := 4, live := [0, 1, 5, 18, 19, 20] },
 { id := 5, live := [0, 1, 5, 18, 19, 20, 21], hdr := [0, 1, 5, 18, 19, 20] },
 { id := 6, live := [0, 1, 5, 7, 18, 19, 20] },
 { id := 7, live := [0, 1, 5, 18, 19, 20] },
 { id := 8, live := [0, 1, 5, 18, 19, 20], trunc := some 1 },
 { id := 9, live := [0, 1, 5, 35], ops := [(4, .mode .borrow)] },
 { id := 10, live := [4] },
 { id := 11, live := [1, 43], ops := [(5, .mode .borrow)] },
 { id := 12, live := [4] },
 { id := 13, live := [44, 45, 46] },
 { id := 14, live := [44, 45, 46, 47], hdr := [44, 45, 46] },
 { id := 15, live := [9, 44, 45, 46] },
 { id := 16, live := [44, 45, 46, 53] },
 { id := 17, live := [4] },
 { id := 18, live := [44, 45, 46], trunc := some 1 },
 { id := 19, live := [4] }]

theorem comp40 : compF Tryz.prog an40 Tryz.f40 = some a40 := by kernel_rfl

/- graphdb/graph.has -/
def c41 : ACode :=
 .seq (.region none [] [
 op 4 (.mov (.cst (.bool false)))] [0, 1] none)
 (.seq (.region none [] [
 mv 8 0, mv 9 1, op 10 (.call .pure 58 [(tm 8), (tm 9), (.cst (.fn 59 []))]), mv 7 10, op 11 (.ext (tm 7) 0), op 12 (.ext (tm 7) 1), mv 5 11, mv 6 12] [6] none)
 (.seq (.region none [] [
 mv 13 6, mv 4 13] [4] none)
 (.ret)))

def a41 : AFunc := ⟨2, c41, [.tmp 4]⟩

def an41 : List RAnn := [
 { id := 0, live := [0, 1] },
 { id := 1, live := [6] },
 { id := 2, live := [4] }]

theorem comp41 : compF Tryz.prog an41 Tryz.f41 = some a41 := by kernel_rfl

/- graphdb/graph.Name -/
/-- loop 0 of function 42 -/
def l42_0_h : List Nat := [0, 18, 19]

def l42_0_b : ACode :=
 .seq (.region none [] [
 op 20 (.bin .lss .int (tm 19) (tm 18))] [0, 18, 19, 20] none)
 (.seq (.cond (tm 20) (.skip)
 (.exit 0))
 (.seq (.block 1 (.seq (.region none [] [
 mv 21 19, mv 3 21] [0, 3, 18, 19] none)
 (.seq (.region none [] [
 mv 22 0, mv 23 3, op 24 (.sidx (tm 22) (tm 23)), op 25 (.call .pure 61 [(tm 24)]), op 26 (.un .not (tm 25)), mv 27 26, mg 28 0 27 true, mg 29 3 27 true, ⟨some 30, .sidx (tm 28) (tm 29), some (27, true)⟩, ⟨some 31, .bin .lss .int (tm 30) (.cst (.int .u8 48)), some (27, true)⟩, mg 32 31 27 true, mg 33 0 32 false, mg 34 3 32 false, ⟨some 35, .sidx (tm 33) (tm 34), some (32, false)⟩, ⟨some 36, .bin .gtr .int (tm 35) (.cst (.int .u8 57)), some (32, false)⟩, ⟨some 37, .pick (tm 32) (.cst (.bool true)) (tm 36), some (27, true)⟩, op 38 (.pick (tm 27) (tm 37) (.cst (.bool false))), mv 39 38, mg 40 0 39 true, mg 41 3 39 true, ⟨some 42, .sidx (tm 40) (tm 41), some (39, true)⟩, ⟨some 43, .bin .neq .int (tm 42) (.cst (.int .u8 95)), some (39, true)⟩, op 44 (.pick (tm 39) (tm 43) (.cst (.bool false)))] [0, 18, 19, 44] none)
 (.cond (tm 44) (.seq (.region none [] [
 op 2 (.mov (.cst (.bool false)))] [2] none)
 (.ret))
 (.skip)))))
 (.region none [] [
 op 45 (.bin .add .int (tm 19) (ci (1))), mv 19 45] [0, 18, 19] none)))

def c42 : ACode :=
 .seq (.region none [] [
 op 2 (.mov (.cst (.bool false)))] [0] none)
 (.seq (.seq (.region none [] [
 mv 4 0, op 5 (.bin .eql .str (tm 4) (.cst (.str []))), mv 6 5, mg 7 0 6 false, ⟨some 8, .len .str (tm 7), some (6, false)⟩, ⟨some 9, .bin .gtr .int (tm 8) (ci (20)), some (6, false)⟩, op 10 (.pick (tm 6) (.cst (.bool true)) (tm 9)), mv 11 10, mg 12 0 11 false, ⟨some 13, .sidx (tm 12) (ci (0)), some (11, false)⟩, ⟨some 14, .call .pure 61 [(tm 13)], some (11, false)⟩, ⟨some 15, .un .not (tm 14), some (11, false)⟩, op 16 (.pick (tm 11) (.cst (.bool true)) (tm 15))] [0, 16] none)
 (.cond (tm 16) (.seq (.region none [] [
 op 2 (.mov (.cst (.bool false)))] [2] none)
 (.ret))
 (.skip)))
 (.seq (.seq (.region none [] [
 mv 17 0, op 18 (.len .str (tm 17)), op 19 (.mov (ci (0)))] [0, 18, 19] none)
 (.block 0 (.loop l42_0_h l42_0_b)))
 (.seq (.region none [] [
 op 2 (.mov (.cst (.bool true)))] [2] none)
 (.ret))))

def a42 : AFunc := ⟨1, c42, [.tmp 2]⟩

def an42 : List RAnn := [
 { id := 0, live := [0] },
 { id := 1, live := [0, 16] },
 { id := 2, live := [2] },
 { id := 3, live := [0, 18, 19] },
 { id := 4, live := [0, 18, 19, 20], hdr := [0, 18, 19] },
 { id := 5, live := [0, 3, 18, 19] },
 { id := 6, live := [0, 18, 19, 44] },
 { id := 7, live := [2] },
 { id := 8, live := [0, 18, 19] },
 { id := 9, live := [2] }]

theorem comp42 : compF Tryz.prog an42 Tryz.f42 = some a42 := by kernel_rfl

/- slices.Sort[[]string,string] -/
def c43 : ACode :=
 .seq (.region none [] [
 mv 3 0, op 4 (.len .slice (tm 3)), mv 2 4] [0, 2] none)
 (.region none [] [
 mv 5 0, mv 6 2, mv 7 2, op 8 (.conv .u64 (tm 7)), op 9 (.call .pure 63 [(tm 8)]), op 10 (.call .share 62 [(tm 5), (ci (0)), (tm 6), (tm 9)])] [] none)

def a43 : AFunc := ⟨1, c43, []⟩

def an43 : List RAnn := [
 { id := 0, live := [0, 2] },
 { id := 1, ops := [(5, .mode .share)] }]

theorem comp43 : compF Tryz.prog an43 Tryz.f43 = some a43 := by kernel_rfl

/- slices.Compact[[]string,string] -/
/-- loop 0 of function 44 -/
def l44_0_h : List Nat := [0, 3, 4, 5]

def l44_0_b : ACode :=
 .seq (.seq (.region none [] [
 mv 29 5, mv 30 4, op 31 (.len .slice (tm 30)), op 32 (.bin .lss .int (tm 29) (tm 31))] [0, 3, 4, 5, 32] none)
 (.cond (tm 32) (.skip)
 (.exit 2)))
 (.seq (.block 3 (.seq (.region (some 10) [] [
 mv 35 4, mv 36 5, op 37 (.iaddr 1 (tm 35) (tm 36)), op 38 (.load none (tm 37)), mv 39 4, mv 40 5, op 41 (.bin .sub .int (tm 40) (ci (1))), op 42 (.iaddr 1 (tm 39) (tm 41)), op 43 (.load none (tm 42)), op 44 (.bin .neq .str (tm 38) (tm 43))] [0, 3, 4, 5, 44] none)
 (.cond (tm 44) (.seq (.region none [] [
 mv 45 0, mv 46 3, mv 47 4, mv 48 5, op 49 (.iaddr 1 (tm 47) (tm 48)), op 50 (.load none (tm 49)), op 51 (.iaddr 1 (tm 45) (tm 46)), ⟨none, .store 1 (tm 51) (tm 50), none⟩] [0, 3, 4, 5] none)
 (.region none [] [
 mv 52 3, op 53 (.bin .add .int (tm 52) (ci (1))), mv 3 53] [0, 3, 4, 5] none))
 (.skip))))
 (.region none [] [
 mv 33 5, op 34 (.bin .add .int (tm 33) (ci (1))), mv 5 34] [0, 3, 4, 5] none))

/-- loop 1 of function 44 -/
def l44_1_h : List Nat := [0, 3]

def l44_1_b : ACode :=
 .seq (.seq (.region none [] [
 mv 10 3, mv 11 0, op 12 (.len .slice (tm 11)), op 13 (.bin .lss .int (tm 10) (tm 12))] [0, 3, 13] none)
 (.cond (tm 13) (.skip)
 (.exit 0)))
 (.seq (.block 1 (.seq (.region (some 10) [] [
 mv 16 0, mv 17 3, op 18 (.iaddr 1 (tm 16) (tm 17)), op 19 (.load none (tm 18)), mv 20 0, mv 21 3, op 22 (.bin .sub .int (tm 21) (ci (1))), op 23 (.iaddr 1 (tm 20) (tm 22)), op 24 (.load none (tm 23)), op 25 (.bin .eql .str (tm 19) (tm 24))] [0, 3, 25] none)
 (.cond (tm 25) (.seq (.region none [] [
 mv 26 0, mv 27 3, op 28 (.slice 1 (tm 26) (some (tm 27)) none), mv 4 28] [0, 3, 4] none)
 (.seq (.seq (.region none [] [
 op 5 (.mov (ci (1)))] [0, 3, 4, 5] none)
 (.block 2 (.loop l44_0_h l44_0_b)))
 (.seq (.region none [] [
 mv 54 0, mv 55 3, op 56 (.slice 1 (tm 54) (some (tm 55)) none), ⟨none, .clear 1 (tm 56), none⟩] [0, 3] none)
 (.seq (.region none [] [
 mv 57 0, mv 58 3, op 59 (.slice 1 (tm 57) none (some (tm 58))), mv 2 59] [2] none)
 (.ret)))))
 (.skip))))
 (.region none [] [
 mv 14 3, op 15 (.bin .add .int (tm 14) (ci (1))), mv 3 15] [0, 3] none))

def c44 : ACode :=
 .seq (.region none [] [
 op 2 (.mov (.cst (.sl false [])))] [0] none)
 (.seq (.seq (.region none [] [
 mv 6 0, op 7 (.len .slice (tm 6)), op 8 (.bin .lss .int (tm 7) (ci (2)))] [0, 8] none)
 (.cond (tm 8) (.seq (.region none [] [
 mv 9 0, mv 2 9] [2] none)
 (.ret))
 (.skip)))
 (.seq (.seq (.region none [] [
 op 3 (.mov (ci (1)))] [0, 3] none)
 (.block 0 (.loop l44_1_h l44_1_b)))
 (.seq (.region none [] [
 mv 60 0, mv 2 60] [2] none)
 (.ret))))

def a44 : AFunc := ⟨1, c44, [.tmp 2]⟩

def an44 : List RAnn := [
 { id := 0, live := [0] },
 { id := 1, live := [0, 8] },
 { id := 2, live := [2] },
 { id := 3, live := [0, 3] },
 { id := 4, live := [0, 3, 13], hdr := [0, 3] },
 { id := 6, head := some 10, live := [0, 3, 25] },
 { id := 7, live := [0, 3, 4] },
 { id := 8, live := [0, 3, 4, 5] },
 { id := 9, live := [0, 3, 4, 5, 32], hdr := [0, 3, 4, 5] },
 { id := 11, head := some 10, live := [0, 3, 4, 5, 44] },
 { id := 12, live := [0, 3, 4, 5] },
 { id := 13, live := [0, 3, 4, 5] },
 { id := 10, live := [0, 3, 4, 5] },
 { id := 14, live := [0, 3] },
 { id := 15, live := [2] },
 { id := 5, live := [0, 3] },
 { id := 16, live := [2] }]

theorem comp44 : compF Tryz.prog an44 Tryz.f44 = some a44 := by kernel_rfl

/- slices.Contains[[]string,string] -/
def c45 : ACode :=
 .seq (.region none [] [
 op 4 (.mov (.cst (.bool false)))] [0, 1] none)
 (.seq (.region none [] [
 mv 5 0, mv 6 1, op 7 (.call .pure 64 [(tm 5), (tm 6)]), op 8 (.bin .geq .int (tm 7) (ci (0))), mv 4 8] [4] none)
 (.ret))

def a45 : AFunc := ⟨2, c45, [.tmp 4]⟩

def an45 : List RAnn := [
 { id := 0, live := [0, 1] },
 { id := 1, live := [4] }]

theorem comp45 : compF Tryz.prog an45 Tryz.f45 = some a45 := by kernel_rfl

/- slices.SortFunc[[]int,int] -/
def c46 : ACode :=
 .seq (.region none [] [
 mv 5 0, op 6 (.len .slice (tm 5)), mv 4 6] [0, 1, 4] none)
 (.region none [] [
 mv 7 0, mv 8 4, mv 9 4, op 10 (.conv .u64 (tm 9)), op 11 (.call .pure 63 [(tm 10)]), mv 12 1, op 13 (.call .share 65 [(tm 7), (ci (0)), (tm 8), (tm 11), (tm 12)])] [] none)

def a46 : AFunc := ⟨2, c46, []⟩

def an46 : List RAnn := [
 { id := 0, live := [0, 1, 4] },
 { id := 1, ops := [(6, .mode .share)] }]

theorem comp46 : compF Tryz.prog an46 Tryz.f46 = some a46 := by kernel_rfl

/- graphdb/degree.falling -/
def c47 : ACode :=
 .seq (.region none [] [
 op 4 (.mov (ci (0)))] [0, 1] none)
 (.seq (.region none [] [
 mv 5 1, mv 6 0, op 7 (.call .pure 60 [(tm 5), (tm 6)]), mv 4 7] [4] none)
 (.ret))

def a47 : AFunc := ⟨2, c47, [.tmp 4]⟩

def an47 : List RAnn := [
 { id := 0, live := [0, 1] },
 { id := 1, live := [4] }]

theorem comp47 : compF Tryz.prog an47 Tryz.f47 = some a47 := by kernel_rfl

/- graphdb/graphdbref07.PutStr -/
/-- loop 0 of function 48 -/
def l48_0_h : List Nat := [0, 1, 5, 6]

def l48_0_b : ACode :=
 .seq (.seq (.region none [] [
 mv 7 6, mv 8 0, op 9 (.len .slice (tm 8)), op 10 (.bin .lss .int (tm 7) (tm 9)), mv 11 10, mg 12 0 11 true, mg 13 6 11 true, ⟨some 14, .iaddr 1 (tm 12) (tm 13), some (11, true)⟩, ⟨some 15, .load none (tm 14), some (11, true)⟩, mg 16 1 11 true, ⟨some 17, .bin .lss .str (tm 15) (tm 16), some (11, true)⟩, op 18 (.pick (tm 11) (tm 17) (.cst (.bool false)))] [0, 1, 5, 6, 18] none)
 (.cond (tm 18) (.skip)
 (.exit 0)))
 (.block 1 (.region none [] [
 mv 19 6, op 20 (.bin .add .int (tm 19) (ci (1))), mv 6 20] [0, 1, 5, 6] none))

def c48 : ACode :=
 .seq (.region none [] [
 op 4 (.mov (.cst (.sl false [])))] [0, 1] none)
 (.seq (.region none [] [
 op 5 (.newown 1)] [0, 1, 5] none)
 (.seq (.region none [] [
 op 6 (.mov (ci (0)))] [0, 1, 5, 6] none)
 (.seq (.block 0 (.loop l48_0_h l48_0_b))
 (.seq (.region none [] [
 mv 21 5, mv 22 0, mv 23 6, op 24 (.slice 1 (tm 22) none (some (tm 23))), op 25 (.append 1 16 (tm 21) (tm 24)), mv 5 25] [0, 1, 5, 6] none)
 (.seq (.seq (.region none [] [
 mv 26 6, mv 27 0, op 28 (.len .slice (tm 27)), op 29 (.bin .eql .int (tm 26) (tm 28)), mv 30 29, mg 31 0 30 false, mg 32 6 30 false, ⟨some 33, .iaddr 1 (tm 31) (tm 32), some (30, false)⟩, ⟨some 34, .load none (tm 33), some (30, false)⟩, mg 35 1 30 false, ⟨some 36, .bin .neq .str (tm 34) (tm 35), some (30, false)⟩, op 37 (.pick (tm 30) (.cst (.bool true)) (tm 36))] [0, 1, 5, 6, 37] none)
 (.cond (tm 37) (.region none [] [
 mv 38 5, mv 39 1, op 40 (.lit false 1 (.str []) 1 [(0, (tm 39))]), op 41 (.append 1 16 (tm 38) (tm 40)), mv 5 41] [0, 5, 6] none)
 (.skip)))
 (.seq (.region none [] [
 mv 42 5, mv 43 0, mv 44 6, op 45 (.slice 1 (tm 43) (some (tm 44)) none), op 46 (.append 1 16 (tm 42) (tm 45)), mv 4 46] [4] none)
 (.ret)))))))

def a48 : AFunc := ⟨2, c48, [.tmp 4]⟩

def an48 : List RAnn := [
 { id := 0, live := [0, 1] },
 { id := 1, live := [0, 1, 5], ops := [(0, .own)] },
 { id := 2, live := [0, 1, 5, 6] },
 { id := 3, live := [0, 1, 5, 6, 18], hdr := [0, 1, 5, 6] },
 { id := 4, live := [0, 1, 5, 6] },
 { id := 5, live := [0, 1, 5, 6] },
 { id := 6, live := [0, 1, 5, 6, 37] },
 { id := 7, live := [0, 5, 6] },
 { id := 8, live := [4] }]

theorem comp48 : compF Tryz.prog an48 Tryz.f48 = some a48 := by kernel_rfl

/- graphdb/graphdbref07.HasStr -/
/-- loop 0 of function 49 -/
def l49_0_h : List Nat := [0, 1, 5]

def l49_0_b : ACode :=
 .seq (.seq (.region none [] [
 mv 6 5, mv 7 0, op 8 (.len .slice (tm 7)), op 9 (.bin .lss .int (tm 6) (tm 8))] [0, 1, 5, 9] none)
 (.cond (tm 9) (.skip)
 (.exit 0)))
 (.seq (.block 1 (.seq (.region none [] [
 mv 12 0, mv 13 5, op 14 (.iaddr 1 (tm 12) (tm 13)), op 15 (.load none (tm 14)), mv 16 1, op 17 (.bin .eql .str (tm 15) (tm 16))] [0, 1, 5, 17] none)
 (.cond (tm 17) (.seq (.region none [] [
 op 4 (.mov (.cst (.bool true)))] [4] none)
 (.ret))
 (.skip))))
 (.region none [] [
 mv 10 5, op 11 (.bin .add .int (tm 10) (ci (1))), mv 5 11] [0, 1, 5] none))

def c49 : ACode :=
 .seq (.region none [] [
 op 4 (.mov (.cst (.bool false)))] [0, 1] none)
 (.seq (.seq (.region none [] [
 op 5 (.mov (ci (0)))] [0, 1, 5] none)
 (.block 0 (.loop l49_0_h l49_0_b)))
 (.seq (.region none [] [
 op 4 (.mov (.cst (.bool false)))] [4] none)
 (.ret)))

def a49 : AFunc := ⟨2, c49, [.tmp 4]⟩

def an49 : List RAnn := [
 { id := 0, live := [0, 1] },
 { id := 1, live := [0, 1, 5] },
 { id := 2, live := [0, 1, 5, 9], hdr := [0, 1, 5] },
 { id := 4, live := [0, 1, 5, 17] },
 { id := 5, live := [4] },
 { id := 3, live := [0, 1, 5] },
 { id := 6, live := [4] }]

theorem comp49 : compF Tryz.prog an49 Tryz.f49 = some a49 := by kernel_rfl

/- graphdb/graphdbref07.parts -/
/-- loop 0 of function 50 -/
def l50_0_h : List Nat := [1, 6]

def l50_0_b : ACode :=
 .seq (.seq (.region none [] [
 mv 33 6, mv 34 1, op 35 (.len .slice (tm 34)), op 36 (.bin .lss .int (tm 33) (tm 35))] [1, 6, 36] none)
 (.cond (tm 36) (.skip)
 (.exit 0)))
 (.seq (.block 1 (.seq (.region none [] [
 mv 39 1, mv 40 6, op 41 (.iaddr 6 (tm 39) (tm 40)), op 42 (.faddr 1 (tm 41)), op 43 (.load (some 5) (tm 42)), op 44 (.call .pure 69 [(tm 43)]), op 45 (.un .not (tm 44))] [1, 6, 45] none)
 (.cond (tm 45) (.seq (.region none [] [
 op 4 (.mov (ci (8)))] [4] none)
 (.ret))
 (.skip))))
 (.region none [] [
 mv 37 6, op 38 (.bin .add .int (tm 37) (ci (1))), mv 6 38] [1, 6] none))

def c50 : ACode :=
 .seq (.region none [] [
 op 4 (.mov (ci (0)))] [0, 1] none)
 (.seq (.seq (.region none [] [
 mv 7 0, op 8 (.len .slice (tm 7)), op 9 (.bin .gtr .int (tm 8) (ci (8))), mv 10 9, mg 11 1 10 false, ⟨some 12, .len .slice (tm 11), some (10, false)⟩, ⟨some 13, .bin .gtr .int (tm 12) (ci (16)), some (10, false)⟩, op 14 (.pick (tm 10) (.cst (.bool true)) (tm 13))] [0, 1, 14] none)
 (.cond (tm 14) (.seq (.region none [] [
 op 4 (.mov (ci (4)))] [4] none)
 (.ret))
 (.skip)))
 (.seq (.region none [] [
 mv 15 1, op 16 (.call .pure 66 [(tm 15)]), mv 5 16] [0, 1, 5] none)
 (.seq (.seq (.region none [] [
 mv 17 0, op 18 (.call .pure 67 [(tm 17)]), op 19 (.un .not (tm 18)), mv 20 19, mg 21 5 20 false, ⟨some 22, .call .pure 67 [(tm 21)], some (20, false)⟩, ⟨some 23, .un .not (tm 22), some (20, false)⟩, op 24 (.pick (tm 20) (.cst (.bool true)) (tm 23))] [0, 1, 5, 24] none)
 (.cond (tm 24) (.seq (.region none [] [
 op 4 (.mov (ci (6)))] [4] none)
 (.ret))
 (.skip)))
 (.seq (.seq (.region none [] [
 mv 25 0, op 26 (.call .pure 68 [(tm 25)]), op 27 (.un .not (tm 26)), mv 28 27, mg 29 5 28 false, ⟨some 30, .call .pure 68 [(tm 29)], some (28, false)⟩, ⟨some 31, .un .not (tm 30), some (28, false)⟩, op 32 (.pick (tm 28) (.cst (.bool true)) (tm 31))] [1, 32] none)
 (.cond (tm 32) (.seq (.region none [] [
 op 4 (.mov (ci (26)))] [4] none)
 (.ret))
 (.skip)))
 (.seq (.seq (.region none [] [
 op 6 (.mov (ci (0)))] [1, 6] none)
 (.block 0 (.loop l50_0_h l50_0_b)))
 (.seq (.region none [] [
 op 4 (.mov (ci (0)))] [4] none)
 (.ret)))))))

def a50 : AFunc := ⟨2, c50, [.tmp 4]⟩

def an50 : List RAnn := [
 { id := 0, live := [0, 1] },
 { id := 1, live := [0, 1, 14] },
 { id := 2, live := [4] },
 { id := 3, live := [0, 1, 5] },
 { id := 4, live := [0, 1, 5, 24] },
 { id := 5, live := [4] },
 { id := 6, live := [1, 32] },
 { id := 7, live := [4] },
 { id := 8, live := [1, 6] },
 { id := 9, live := [1, 6, 36], hdr := [1, 6] },
 { id := 11, live := [1, 6, 45] },
 { id := 12, live := [4] },
 { id := 10, live := [1, 6] },
 { id := 13, live := [4] }]

theorem comp50 : compF Tryz.prog an50 Tryz.f50 = some a50 := by kernel_rfl

/- graphdb/graphdbref07.Node -/
/-- loop 0 of function 51 -/
def l51_0_h : List Nat := [1, 2, 4, 6]

def l51_0_b : ACode :=
 .seq (.seq (.region none [] [
 mv 7 6, op 8 (.faddr 0 (tm 2)), op 9 (.load none (tm 8)), op 10 (.len .slice (tm 9)), op 11 (.bin .lss .int (tm 7) (tm 10))] [1, 2, 4, 6, 11] none)
 (.cond (tm 11) (.skip)
 (.exit 0)))
 (.seq (.block 1 (.seq (.region none [] [
 op 14 (.faddr 0 (tm 2)), op 15 (.load none (tm 14)), mv 16 6, op 17 (.iaddr 3 (tm 15) (tm 16)), op 18 (.faddr 0 (tm 17)), op 19 (.load none (tm 18)), mv 20 1, op 21 (.bin .eql .int (tm 19) (tm 20))] [1, 2, 4, 6, 21] none)
 (.cond (tm 21) (.seq (.region none [] [
 op 22 (.faddr 0 (tm 2)), op 23 (.load none (tm 22)), mv 24 6, op 25 (.iaddr 3 (tm 23) (tm 24)), op 26 (.load (some 3) (tm 25)), ⟨none, .store 3 (tm 4) (tm 26), none⟩, op 5 (.mov (.cst (.bool true)))] [4, 5] none)
 (.ret))
 (.skip))))
 (.region none [] [
 mv 12 6, op 13 (.bin .add .int (tm 12) (ci (1))), mv 6 13] [1, 2, 4, 6] none))

def c51 : ACode :=
 .seq (.region none [] [
 op 2 (.box 4 (tm 0)), op 4 (.alloc 3 (.agg [.int .i64 0, .sl false [], .sl false []])), op 5 (.mov (.cst (.bool false)))] [1, 2, 4] none)
 (.seq (.seq (.region none [] [
 op 6 (.mov (ci (0)))] [1, 2, 4, 6] none)
 (.block 0 (.loop l51_0_h l51_0_b)))
 (.seq (.region none [] [
 op 27 (.build [.int .i64 0, .sl false [], .sl false []] []), ⟨none, .store 3 (tm 4) (tm 27), none⟩, op 5 (.mov (.cst (.bool false)))] [4, 5] none)
 (.ret)))

def a51 : AFunc := ⟨2, c51, [.cell 4 (some 3), .tmp 5]⟩

def an51 : List RAnn := [
 { id := 0, live := [1, 2, 4] },
 { id := 1, live := [1, 2, 4, 6] },
 { id := 2, live := [1, 2, 4, 6, 11], hdr := [1, 2, 4, 6] },
 { id := 4, live := [1, 2, 4, 6, 21] },
 { id := 5, live := [4, 5] },
 { id := 3, live := [1, 2, 4, 6] },
 { id := 6, live := [4, 5] }]

theorem comp51 : compF Tryz.prog an51 Tryz.f51 = some a51 := by kernel_rfl

/- graphdb/graphdbref07.Name -/
/-- loop 0 of function 52 -/
def l52_0_h : List Nat := [0, 3]

def l52_0_b : ACode :=
 .seq (.seq (.region none [] [
 mv 18 3, mv 19 0, op 20 (.len .str (tm 19)), op 21 (.bin .lss .int (tm 18) (tm 20))] [0, 3, 21] none)
 (.cond (tm 21) (.skip)
 (.exit 0)))
 (.seq (.block 1 (.seq (.region none [] [
 mv 24 0, mv 25 3, op 26 (.sidx (tm 24) (tm 25)), op 27 (.call .pure 70 [(tm 26)]), op 28 (.un .not (tm 27)), mv 29 28, mg 30 0 29 true, mg 31 3 29 true, ⟨some 32, .sidx (tm 30) (tm 31), some (29, true)⟩, ⟨some 33, .bin .neq .int (tm 32) (.cst (.int .u8 95)), some (29, true)⟩, op 34 (.pick (tm 29) (tm 33) (.cst (.bool false))), mv 35 34, mg 36 0 35 true, mg 37 3 35 true, ⟨some 38, .sidx (tm 36) (tm 37), some (35, true)⟩, ⟨some 39, .bin .lss .int (tm 38) (.cst (.int .u8 48)), some (35, true)⟩, mg 40 39 35 true, mg 41 0 40 false, mg 42 3 40 false, ⟨some 43, .sidx (tm 41) (tm 42), some (40, false)⟩, ⟨some 44, .bin .gtr .int (tm 43) (.cst (.int .u8 57)), some (40, false)⟩, ⟨some 45, .pick (tm 40) (.cst (.bool true)) (tm 44), some (35, true)⟩, op 46 (.pick (tm 35) (tm 45) (.cst (.bool false)))] [0, 3, 46] none)
 (.cond (tm 46) (.seq (.region none [] [
 op 2 (.mov (.cst (.bool false)))] [2] none)
 (.ret))
 (.skip))))
 (.region none [] [
 mv 22 3, op 23 (.bin .add .int (tm 22) (ci (1))), mv 3 23] [0, 3] none))

def c52 : ACode :=
 .seq (.region none [] [
 op 2 (.mov (.cst (.bool false)))] [0] none)
 (.seq (.seq (.region none [] [
 mv 4 0, op 5 (.len .str (tm 4)), op 6 (.bin .lss .int (tm 5) (ci (1))), mv 7 6, mg 8 0 7 false, ⟨some 9, .len .str (tm 8), some (7, false)⟩, ⟨some 10, .bin .gtr .int (tm 9) (ci (20)), some (7, false)⟩, op 11 (.pick (tm 7) (.cst (.bool true)) (tm 10)), mv 12 11, mg 13 0 12 false, ⟨some 14, .sidx (tm 13) (ci (0)), some (12, false)⟩, ⟨some 15, .call .pure 70 [(tm 14)], some (12, false)⟩, ⟨some 16, .un .not (tm 15), some (12, false)⟩, op 17 (.pick (tm 12) (.cst (.bool true)) (tm 16))] [0, 17] none)
 (.cond (tm 17) (.seq (.region none [] [
 op 2 (.mov (.cst (.bool false)))] [2] none)
 (.ret))
 (.skip)))
 (.seq (.seq (.region none [] [
 op 3 (.mov (ci (1)))] [0, 3] none)
 (.block 0 (.loop l52_0_h l52_0_b)))
 (.seq (.region none [] [
 op 2 (.mov (.cst (.bool true)))] [2] none)
 (.ret))))

def a52 : AFunc := ⟨1, c52, [.tmp 2]⟩

def an52 : List RAnn := [
 { id := 0, live := [0] },
 { id := 1, live := [0, 17] },
 { id := 2, live := [2] },
 { id := 3, live := [0, 3] },
 { id := 4, live := [0, 3, 21], hdr := [0, 3] },
 { id := 6, live := [0, 3, 46] },
 { id := 7, live := [2] },
 { id := 5, live := [0, 3] },
 { id := 8, live := [2] }]

theorem comp52 : compF Tryz.prog an52 Tryz.f52 = some a52 := by kernel_rfl

/- slices.Clone[[]int,int] -/
def c53 : ACode :=
 .seq (.region none [] [
 op 2 (.mov (.cst (.sl false [])))] [0] none)
 (.seq (.seq (.region none [] [
 mv 3 0, op 4 (.bin .eql .slice (tm 3) (.cst (.sl false [])))] [0, 4] none)
 (.cond (tm 4) (.seq (.region none [] [
 op 2 (.mov (.cst (.sl false [])))] [2] none)
 (.ret))
 (.skip)))
 (.seq (.region none [] [
 op 5 (.lit true 1 (.int .i64 0) 0 []), mv 6 0, op 7 (.append 1 8 (tm 5) (tm 6)), mv 2 7] [2] none)
 (.ret)))

def a53 : AFunc := ⟨1, c53, [.tmp 2]⟩

def an53 : List RAnn := [
 { id := 0, live := [0] },
 { id := 1, live := [0, 4] },
 { id := 2, live := [2] },
 { id := 3, live := [2], ops := [(0, .own)] }]

theorem comp53 : compF Tryz.prog an53 Tryz.f53 = some a53 := by kernel_rfl

/- slices.ContainsFunc[[]string,string] -/
def c54 : ACode :=
 .seq (.region none [] [
 op 4 (.mov (.cst (.bool false)))] [0, 1] none)
 (.seq (.region none [] [
 mv 5 0, mv 6 1, op 7 (.call .pure 71 [(tm 5), (tm 6)]), op 8 (.bin .geq .int (tm 7) (ci (0))), mv 4 8] [4] none)
 (.ret))

def a54 : AFunc := ⟨2, c54, [.tmp 4]⟩

def an54 : List RAnn := [
 { id := 0, live := [0, 1] },
 { id := 1, live := [4] }]

theorem comp54 : compF Tryz.prog an54 Tryz.f54 = some a54 := by kernel_rfl

/- graphdb/graph.unnamed -/
def c55 : ACode :=
 .seq (.region none [] [
 op 2 (.mov (.cst (.bool false)))] [0] none)
 (.seq (.region none [] [
 mv 3 0, op 4 (.call .pure 42 [(tm 3)]), op 5 (.un .not (tm 4)), mv 2 5] [2] none)
 (.ret))

def a55 : AFunc := ⟨1, c55, [.tmp 2]⟩

def an55 : List RAnn := [
 { id := 0, live := [0] },
 { id := 1, live := [2] }]

theorem comp55 : compF Tryz.prog an55 Tryz.f55 = some a55 := by kernel_rfl

/- graphdb/graph.increasing -/
/-- loop 0 of function 56 -/
def l56_0_h : List Nat := [0, 3]

def l56_0_b : ACode :=
 .seq (.seq (.region none [] [
 mv 4 3, mv 5 0, op 6 (.len .slice (tm 5)), op 7 (.bin .lss .int (tm 4) (tm 6))] [0, 3, 7] none)
 (.cond (tm 7) (.skip)
 (.exit 0)))
 (.seq (.block 1 (.seq (.region (some 10) [] [
 mv 10 0, mv 11 3, op 12 (.iaddr 1 (tm 10) (tm 11)), op 13 (.load none (tm 12)), mv 14 0, mv 15 3, op 16 (.bin .sub .int (tm 15) (ci (1))), op 17 (.iaddr 1 (tm 14) (tm 16)), op 18 (.load none (tm 17)), op 19 (.bin .leq .str (tm 13) (tm 18))] [0, 3, 19] none)
 (.cond (tm 19) (.seq (.region none [] [
 op 2 (.mov (.cst (.bool false)))] [2] none)
 (.ret))
 (.skip))))
 (.region none [] [
 mv 8 3, op 9 (.bin .add .int (tm 8) (ci (1))), mv 3 9] [0, 3] none))

def c56 : ACode :=
 .seq (.region none [] [
 op 2 (.mov (.cst (.bool false)))] [0] none)
 (.seq (.seq (.region none [] [
 op 3 (.mov (ci (1)))] [0, 3] none)
 (.block 0 (.loop l56_0_h l56_0_b)))
 (.seq (.region none [] [
 op 2 (.mov (.cst (.bool true)))] [2] none)
 (.ret)))

def a56 : AFunc := ⟨1, c56, [.tmp 2]⟩

def an56 : List RAnn := [
 { id := 0, live := [0] },
 { id := 1, live := [0, 3] },
 { id := 2, live := [0, 3, 7], hdr := [0, 3] },
 { id := 4, head := some 10, live := [0, 3, 19] },
 { id := 5, live := [2] },
 { id := 3, live := [0, 3] },
 { id := 6, live := [2] }]

theorem comp56 : compF Tryz.prog an56 Tryz.f56 = some a56 := by kernel_rfl

/- graphdb/value.Plain -/
def c57 : ACode :=
 .seq (.region none [] [
 op 1 (.box 5 (tm 0)), op 2 (.mov (.cst (.bool false)))] [1] none)
 (.seq (.region none [] [
 op 3 (.faddr 0 (tm 1)), op 4 (.load none (tm 3)), op 5 (.bin .eql .int (tm 4) (ci (1))), mv 6 5, ⟨some 7, .faddr 0 (tm 1), some (6, false)⟩, ⟨some 8, .load none (tm 7), some (6, false)⟩, ⟨some 9, .bin .eql .int (tm 8) (ci (2)), some (6, false)⟩, op 10 (.pick (tm 6) (.cst (.bool true)) (tm 9)), mv 11 10, ⟨some 12, .faddr 0 (tm 1), some (11, false)⟩, ⟨some 13, .load none (tm 12), some (11, false)⟩, ⟨some 14, .bin .eql .int (tm 13) (ci (4)), some (11, false)⟩, op 15 (.pick (tm 11) (.cst (.bool true)) (tm 14)), mv 16 15, ⟨some 17, .load (some 5) (tm 1), some (16, true)⟩, ⟨some 18, .call .pure 72 [(tm 17)], some (16, true)⟩, op 19 (.pick (tm 16) (tm 18) (.cst (.bool false))), mv 2 19] [2] none)
 (.ret))

def a57 : AFunc := ⟨1, c57, [.tmp 2]⟩

def an57 : List RAnn := [
 { id := 0, live := [1] },
 { id := 1, live := [2] }]

theorem comp57 : compF Tryz.prog an57 Tryz.f57 = some a57 := by kernel_rfl

/- slices.BinarySearchFunc[[]graphdb/api.Node,graphdb/api.Node,int] -/
/-- loop 0 of function 58 -/
def l58_0_h : List Nat := [0, 1, 2, 8, 9, 10]

def l58_0_b : ACode :=
 .seq (.seq (.region none [] [
 mv 15 9, mv 16 10, op 17 (.bin .lss .int (tm 15) (tm 16))] [0, 1, 2, 8, 9, 10, 17] none)
 (.cond (tm 17) (.skip)
 (.exit 0)))
 (.block 1 (.seq (.region none [] [
 mv 18 9, mv 19 10, op 20 (.bin .add .int (tm 18) (tm 19)), op 21 (.conv .u64 (tm 20)), op 22 (.bin .shr .int (tm 21) (.cst (.int .u64 1))), op 23 (.conv .i64 (tm 22)), mv 11 23] [0, 1, 2, 8, 9, 10, 11] none)
 (.seq (.region none [] [
 mv 24 2, mv 25 0, mv 26 11, op 27 (.iaddr 3 (tm 25) (tm 26)), op 28 (.load (some 3) (tm 27)), mv 29 1, op 30 (.callv .pure (tm 24) [(tm 28), (tm 29)]), op 31 (.bin .lss .int (tm 30) (ci (0)))] [0, 1, 2, 8, 9, 10, 11, 31] none)
 (.cond (tm 31) (.region none [] [
 mv 32 11, op 33 (.bin .add .int (tm 32) (ci (1))), mv 9 33] [0, 1, 2, 8, 9, 10] none)
 (.region none [] [
 mv 34 11, mv 10 34] [0, 1, 2, 8, 9, 10] none)))))

def c58 : ACode :=
 .seq (.region none [] [
 op 6 (.mov (ci (0))), op 7 (.mov (.cst (.bool false)))] [0, 1, 2] none)
 (.seq (.region none [] [
 mv 12 0, op 13 (.len .slice (tm 12)), mv 8 13] [0, 1, 2, 8] none)
 (.seq (.region none [] [
 mv 14 8, op 9 (.mov (ci (0))), mv 10 14] [0, 1, 2, 8, 9, 10] none)
 (.seq (.block 0 (.loop l58_0_h l58_0_b))
 (.seq (.region none [] [
 mv 35 9, mv 36 9, mv 37 8, op 38 (.bin .lss .int (tm 36) (tm 37)), mv 39 38, mg 40 2 39 true, mg 41 0 39 true, mg 42 9 39 true, ⟨some 43, .iaddr 3 (tm 41) (tm 42), some (39, true)⟩, ⟨some 44, .load (some 3) (tm 43), some (39, true)⟩, mg 45 1 39 true, ⟨some 46, .callv .pure (tm 40) [(tm 44), (tm 45)], some (39, true)⟩, ⟨some 47, .bin .eql .int (tm 46) (ci (0)), some (39, true)⟩, op 48 (.pick (tm 39) (tm 47) (.cst (.bool false))), mv 6 35, mv 7 48] [6, 7] none)
 (.ret)))))

def a58 : AFunc := ⟨3, c58, [.tmp 6, .tmp 7]⟩

def an58 : List RAnn := [
 { id := 0, live := [0, 1, 2] },
 { id := 1, live := [0, 1, 2, 8] },
 { id := 2, live := [0, 1, 2, 8, 9, 10] },
 { id := 3, live := [0, 1, 2, 8, 9, 10, 17], hdr := [0, 1, 2, 8, 9, 10] },
 { id := 4, live := [0, 1, 2, 8, 9, 10, 11] },
 { id := 5, live := [0, 1, 2, 8, 9, 10, 11, 31] },
 { id := 6, live := [0, 1, 2, 8, 9, 10] },
 { id := 7, live := [0, 1, 2, 8, 9, 10] },
 { id := 8, live := [6, 7] }]

theorem comp58 : compF Tryz.prog an58 Tryz.f58 = some a58 := by kernel_rfl

/- graphdb/graph.has$1 -/
def c59 : ACode :=
 .seq (.region none [] [
 op 2 (.box 3 (tm 0)), op 4 (.mov (ci (0)))] [1, 2] none)
 (.seq (.region none [] [
 op 5 (.faddr 0 (tm 2)), op 6 (.load none (tm 5)), mv 7 1, op 8 (.call .pure 60 [(tm 6), (tm 7)]), mv 4 8] [4] none)
 (.ret))

def a59 : AFunc := ⟨2, c59, [.tmp 4]⟩

def an59 : List RAnn := [
 { id := 0, live := [1, 2] },
 { id := 1, live := [4] }]

theorem comp59 : compF Tryz.prog an59 Tryz.f59 = some a59 := by kernel_rfl

/- cmp.Compare[int] -/
def c60 : ACode :=
 .seq (.region none [] [
 op 4 (.mov (ci (0)))] [0, 1] none)
 (.seq (.region none [] [
 mv 7 0, op 8 (.call .pure 73 [(tm 7)]), mv 5 8] [0, 1, 5] none)
 (.seq (.region none [] [
 mv 9 1, op 10 (.call .pure 73 [(tm 9)]), mv 6 10] [0, 1, 5, 6] none)
 (.seq (.seq (.region none [] [
 mv 11 5] [0, 1, 6, 11] none)
 (.cond (tm 11) (.seq (.seq (.region none [] [
 mv 12 6] [12] none)
 (.cond (tm 12) (.seq (.region none [] [
 op 4 (.mov (ci (0)))] [4] none)
 (.ret))
 (.skip)))
 (.seq (.region none [] [
 op 4 (.mov (ci ((-1))))] [4] none)
 (.ret)))
 (.skip)))
 (.seq (.seq (.region none [] [
 mv 13 6] [0, 1, 13] none)
 (.cond (tm 13) (.seq (.region none [] [
 op 4 (.mov (ci (1)))] [4] none)
 (.ret))
 (.skip)))
 (.seq (.seq (.region none [] [
 mv 14 0, mv 15 1, op 16 (.bin .lss .int (tm 14) (tm 15))] [0, 1, 16] none)
 (.cond (tm 16) (.seq (.region none [] [
 op 4 (.mov (ci ((-1))))] [4] none)
 (.ret))
 (.skip)))
 (.seq (.seq (.region none [] [
 mv 17 0, mv 18 1, op 19 (.bin .gtr .int (tm 17) (tm 18))] [19] none)
 (.cond (tm 19) (.seq (.region none [] [
 op 4 (.mov (ci (1)))] [4] none)
 (.ret))
 (.skip)))
 (.seq (.region none [] [
 op 4 (.mov (ci (0)))] [4] none)
 (.ret))))))))

def a60 : AFunc := ⟨2, c60, [.tmp 4]⟩

def an60 : List RAnn := [
 { id := 0, live := [0, 1] },
 { id := 1, live := [0, 1, 5] },
 { id := 2, live := [0, 1, 5, 6] },
 { id := 3, live := [0, 1, 6, 11] },
 { id := 4, live := [12] },
 { id := 5, live := [4] },
 { id := 6, live := [4] },
 { id := 7, live := [0, 1, 13] },
 { id := 8, live := [4] },
 { id := 9, live := [0, 1, 16] },
 { id := 10, live := [4] },
 { id := 11, live := [19] },
 { id := 12, live := [4] },
 { id := 13, live := [4] }]

theorem comp60 : compF Tryz.prog an60 Tryz.f60 = some a60 := by kernel_rfl

/- graphdb/graph.letter -/
def c61 : ACode :=
 .seq (.region none [] [
 op 2 (.mov (.cst (.bool false)))] [0] none)
 (.seq (.region none [] [
 mv 3 0, op 4 (.bin .geq .int (tm 3) (.cst (.int .u8 97))), mv 5 4, mg 6 0 5 true, ⟨some 7, .bin .leq .int (tm 6) (.cst (.int .u8 122)), some (5, true)⟩, op 8 (.pick (tm 5) (tm 7) (.cst (.bool false))), mv 9 8, mg 10 0 9 false, ⟨some 11, .bin .geq .int (tm 10) (.cst (.int .u8 65)), some (9, false)⟩, mg 12 11 9 false, mg 13 0 12 true, ⟨some 14, .bin .leq .int (tm 13) (.cst (.int .u8 90)), some (12, true)⟩, ⟨some 15, .pick (tm 12) (tm 14) (.cst (.bool false)), some (9, false)⟩, op 16 (.pick (tm 9) (.cst (.bool true)) (tm 15)), mv 2 16] [2] none)
 (.ret))

def a61 : AFunc := ⟨1, c61, [.tmp 2]⟩

def an61 : List RAnn := [
 { id := 0, live := [0] },
 { id := 1, live := [2] }]

theorem comp61 : compF Tryz.prog an61 Tryz.f61 = some a61 := by kernel_rfl

/- slices.pdqsortOrdered[string] -/
/-- loop 0 of function 62 -/
def l62_0_h : List Nat := [0, 1, 2, 3, 8, 9]

def l62_0_b : ACode :=
 .block 1 (.seq (.region none [] [
 mv 19 2, mv 20 1, op 21 (.bin .sub .int (tm 19) (tm 20)), mv 10 21] [0, 1, 2, 3, 8, 9, 10] none)
 (.seq (.seq (.region none [] [
 mv 22 10, op 23 (.bin .leq .int (tm 22) (ci (12)))] [0, 1, 2, 3, 8, 9, 10, 23] none)
 (.cond (tm 23) (.seq (.region none [] [
 mv 24 0, mv 25 1, mv 26 2, op 27 (.call .share 74 [(tm 24), (tm 25), (tm 26)])] [] none)
 (.ret))
 (.skip)))
 (.seq (.seq (.region none [] [
 mv 28 3, op 29 (.bin .eql .int (tm 28) (ci (0)))] [0, 1, 2, 3, 8, 9, 10, 29] none)
 (.cond (tm 29) (.seq (.region none [] [
 mv 30 0, mv 31 1, mv 32 2, op 33 (.call .share 75 [(tm 30), (tm 31), (tm 32)])] [] none)
 (.ret))
 (.skip)))
 (.seq (.seq (.region none [] [
 mv 34 8, op 35 (.un .not (tm 34))] [0, 1, 2, 3, 8, 9, 10, 35] none)
 (.cond (tm 35) (.seq (.region none [] [
 mv 36 0, mv 37 1, mv 38 2, op 39 (.call .share 76 [(tm 36), (tm 37), (tm 38)])] [0, 1, 2, 3, 8, 9, 10] none)
 (.region none [] [
 mv 40 3, op 41 (.bin .sub .int (tm 40) (ci (1))), mv 3 41] [0, 1, 2, 3, 8, 9, 10] none))
 (.skip)))
 (.seq (.region none [] [
 mv 43 0, mv 44 1, mv 45 2, op 46 (.call .share 77 [(tm 43), (tm 44), (tm 45)]), mv 42 46, op 47 (.ext (tm 42) 0), op 48 (.ext (tm 42) 1), mv 11 47, mv 12 48] [0, 1, 2, 3, 8, 9, 10, 11, 12] none)
 (.seq (.seq (.region none [] [
 mv 49 12, op 50 (.bin .eql .int (tm 49) (ci (2)))] [0, 1, 2, 3, 8, 9, 10, 11, 12, 50] none)
 (.cond (tm 50) (.seq (.region none [] [
 mv 51 0, mv 52 1, mv 53 2, op 54 (.call .share 78 [(tm 51), (tm 52), (tm 53)])] [0, 1, 2, 3, 8, 9, 10, 11] none)
 (.seq (.region none [] [
 mv 55 2, op 56 (.bin .sub .int (tm 55) (ci (1))), mv 57 11, mv 58 1, op 59 (.bin .sub .int (tm 57) (tm 58)), op 60 (.bin .sub .int (tm 56) (tm 59)), mv 11 60] [0, 1, 2, 3, 8, 9, 10, 11] none)
 (.region none [] [
 op 12 (.mov (ci (1)))] [0, 1, 2, 3, 8, 9, 10, 11, 12] none)))
 (.skip)))
 (.seq (.seq (.region none [] [
 mv 61 8, mv 62 61, mg 63 9 62 true, op 64 (.pick (tm 62) (tm 63) (.cst (.bool false))), mv 65 64, mg 66 12 65 true, ⟨some 67, .bin .eql .int (tm 66) (ci (1)), some (65, true)⟩, op 68 (.pick (tm 65) (tm 67) (.cst (.bool false)))] [0, 1, 2, 3, 8, 9, 10, 11, 68] none)
 (.cond (tm 68) (.seq (.region none [] [
 mv 69 0, mv 70 1, mv 71 2, op 72 (.call .share 79 [(tm 69), (tm 70), (tm 71)])] [0, 1, 2, 3, 8, 9, 10, 11, 72] none)
 (.cond (tm 72) (.ret)
 (.skip)))
 (.skip)))
 (.seq (.seq (.region (some 15) [] [
 mv 73 1, op 74 (.bin .gtr .int (tm 73) (ci (0))), mv 75 74, mg 76 0 75 true, mg 77 1 75 true, ⟨some 78, .bin .sub .int (tm 77) (ci (1)), some (75, true)⟩, ⟨some 79, .iaddr 1 (tm 76) (tm 78), some (75, true)⟩, ⟨some 80, .load none (tm 79), some (75, true)⟩, mg 81 0 75 true, mg 82 11 75 true, ⟨some 83, .iaddr 1 (tm 81) (tm 82), some (75, true)⟩, ⟨some 84, .load none (tm 83), some (75, true)⟩, ⟨some 85, .call .pure 80 [(tm 80), (tm 84)], some (75, true)⟩, ⟨some 86, .un .not (tm 85), some (75, true)⟩, op 87 (.pick (tm 75) (tm 86) (.cst (.bool false)))] [0, 1, 2, 3, 8, 9, 10, 11, 87] none)
 (.cond (tm 87) (.seq (.region none [] [
 mv 88 0, mv 89 1, mv 90 2, mv 91 11, op 92 (.call .share 81 [(tm 88), (tm 89), (tm 90), (tm 91)]), mv 13 92] [0, 2, 3, 8, 9, 13] none)
 (.seq (.region none [] [
 mv 93 13, mv 1 93] [0, 1, 2, 3, 8, 9] none)
 (.exit 1)))
 (.skip)))
 (.seq (.region none [] [
 mv 95 0, mv 96 1, mv 97 2, mv 98 11, op 99 (.call .share 82 [(tm 95), (tm 96), (tm 97), (tm 98)]), mv 94 99, op 100 (.ext (tm 94) 0), op 101 (.ext (tm 94) 1), mv 14 100, mv 15 101] [0, 1, 2, 3, 10, 14, 15] none)
 (.seq (.region none [] [
 mv 102 15, mv 9 102] [0, 1, 2, 3, 9, 10, 14] none)
 (.seq (.region none [] [
 mv 103 14, mv 104 1, op 105 (.bin .sub .int (tm 103) (tm 104)), mv 106 2, mv 107 14, op 108 (.bin .sub .int (tm 106) (tm 107)), mv 16 105, mv 17 108] [0, 1, 2, 3, 9, 10, 14, 16, 17] none)
 (.seq (.region none [] [
 mv 109 10, op 110 (.bin .quo .int (tm 109) (ci (8))), mv 18 110] [0, 1, 2, 3, 9, 14, 16, 17, 18] none)
 (.seq (.region none [] [
 mv 111 16, mv 112 17, op 113 (.bin .lss .int (tm 111) (tm 112))] [0, 1, 2, 3, 9, 14, 16, 17, 18, 113] none)
 (.cond (tm 113) (.seq (.region none [] [
 mv 114 16, mv 115 18, op 116 (.bin .geq .int (tm 114) (tm 115)), mv 8 116] [0, 1, 2, 3, 8, 9, 14] none)
 (.seq (.region none [] [
 mv 117 0, mv 118 1, mv 119 14, mv 120 3, op 121 (.call .share 62 [(tm 117), (tm 118), (tm 119), (tm 120)])] [0, 2, 3, 8, 9, 14] none)
 (.region none [] [
 mv 122 14, op 123 (.bin .add .int (tm 122) (ci (1))), mv 1 123] [0, 1, 2, 3, 8, 9] none)))
 (.seq (.region none [] [
 mv 124 17, mv 125 18, op 126 (.bin .geq .int (tm 124) (tm 125)), mv 8 126] [0, 1, 2, 3, 8, 9, 14] none)
 (.seq (.region none [] [
 mv 127 0, mv 128 14, op 129 (.bin .add .int (tm 128) (ci (1))), mv 130 2, mv 131 3, op 132 (.call .share 62 [(tm 127), (tm 129), (tm 130), (tm 131)])] [0, 1, 3, 8, 9, 14] none)
 (.region none [] [
 mv 133 14, mv 2 133] [0, 1, 2, 3, 8, 9] none)))))))))))))))))

def c62 : ACode :=
 .seq (.region none [] [
 op 8 (.mov (.cst (.bool true)))] [0, 1, 2, 3, 8] none)
 (.seq (.region none [] [
 op 9 (.mov (.cst (.bool true)))] [0, 1, 2, 3, 8, 9] none)
 (.block 0 (.loop l62_0_h l62_0_b)))

def a62 : AFunc := ⟨4, c62, []⟩

def an62 : List RAnn := [
 { id := 0, live := [0, 1, 2, 3, 8] },
 { id := 1, live := [0, 1, 2, 3, 8, 9] },
 { id := 2, live := [0, 1, 2, 3, 8, 9, 10], hdr := [0, 1, 2, 3, 8, 9] },
 { id := 3, live := [0, 1, 2, 3, 8, 9, 10, 23] },
 { id := 4, ops := [(3, .mode .share)] },
 { id := 5, live := [0, 1, 2, 3, 8, 9, 10, 29] },
 { id := 6, ops := [(3, .mode .share)] },
 { id := 7, live := [0, 1, 2, 3, 8, 9, 10, 35] },
 { id := 8, live := [0, 1, 2, 3, 8, 9, 10], ops := [(3, .mode .share)] },
 { id := 9, live := [0, 1, 2, 3, 8, 9, 10] },
 { id := 10, live := [0, 1, 2, 3, 8, 9, 10, 11, 12], ops := [(3, .mode .share)] },
 { id := 11, live := [0, 1, 2, 3, 8, 9, 10, 11, 12, 50] },
 { id := 12, live := [0, 1, 2, 3, 8, 9, 10, 11], ops := [(3, .mode .share)] },
 { id := 13, live := [0, 1, 2, 3, 8, 9, 10, 11] },
 { id := 14, live := [0, 1, 2, 3, 8, 9, 10, 11, 12] },
 { id := 15, live := [0, 1, 2, 3, 8, 9, 10, 11, 68] },
 { id := 16, live := [0, 1, 2, 3, 8, 9, 10, 11, 72], ops := [(3, .mode .share)] },
 { id := 17, head := some 15, live := [0, 1, 2, 3, 8, 9, 10, 11, 87] },
 { id := 18, live := [0, 2, 3, 8, 9, 13], ops := [(4, .mode .share)] },
 { id := 19, live := [0, 1, 2, 3, 8, 9] },
 { id := 20, live := [0, 1, 2, 3, 10, 14, 15], ops := [(4, .mode .share)] },
 { id := 21, live := [0, 1, 2, 3, 9, 10, 14] },
 { id := 22, live := [0, 1, 2, 3, 9, 10, 14, 16, 17] },
 { id := 23, live := [0, 1, 2, 3, 9, 14, 16, 17, 18] },
 { id := 24, live := [0, 1, 2, 3, 9, 14, 16, 17, 18, 113] },
 { id := 25, live := [0, 1, 2, 3, 8, 9, 14] },
 { id := 26, live := [0, 2, 3, 8, 9, 14], ops := [(4, .mode .share)] },
 { id := 27, live := [0, 1, 2, 3, 8, 9] },
 { id := 28, live := [0, 1, 2, 3, 8, 9, 14] },
 { id := 29, live := [0, 1, 3, 8, 9, 14], ops := [(5, .mode .share)] },
 { id := 30, live := [0, 1, 2, 3, 8, 9] }]

theorem comp62 : compF Tryz.prog an62 Tryz.f62 = some a62 := by kernel_rfl

end AI
end Go.Proofs.YtokdbmakkoleiaaGreat
