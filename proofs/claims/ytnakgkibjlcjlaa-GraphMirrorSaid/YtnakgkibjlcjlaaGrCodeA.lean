/- Printed by a program of mine: the functions, compiled; the kernel checks each against the given form. -/
import Derived.Test.YtnakgkibjlcjlaaSe
import Derived.Test.YtnakgkibjlcjlaaProg
import Derived.KernelRfl
import Derived.Test.YtnakgkibjlcjlaaIxF
namespace Go.Proofs.Ytnakgkibjlcjlaa
namespace AI

/- graphdb/graphdblaw07.GraphSteps -/
def c3 : ACode :=
  .seq (.region none [] [
      ⟨some 3, .box 4 (.tmp 0), none⟩,
      ⟨some 4, .box 2 (.tmp 1), none⟩,
      ⟨some 6, .mov (.cst (.bool false)), none⟩] [2, 3, 4] none)
    (.seq (.region (some 6) [] [
      ⟨some 9, .aaddr 1 2 (.tmp 4) (.cst (.int .i64 0)), none⟩,
      ⟨some 10, .load none (.tmp 9), none⟩,
      ⟨some 11, .aaddr 1 2 (.tmp 4) (.cst (.int .i64 1)), none⟩,
      ⟨some 12, .load none (.tmp 11), none⟩,
      ⟨some 7, .mov (.tmp 10), none⟩,
      ⟨some 8, .mov (.tmp 12), none⟩] [2, 3, 7, 8] none)
    (.seq (.seq (.region none [] [
      ⟨some 13, .load (some 4) (.tmp 3), none⟩,
      ⟨some 14, .call .pure 7 [(.tmp 13), (.cst (.int .i64 60)), (.cst (.int .i64 100))], none⟩,
      ⟨some 15, .un .not (.tmp 14), none⟩,
      ⟨some 16, .mov (.tmp 15), none⟩,
      ⟨some 17, .mov (.tmp 2), some (16, false)⟩,
      ⟨some 18, .call .pure 8 [(.tmp 17)], some (16, false)⟩,
      ⟨some 19, .un .not (.tmp 18), some (16, false)⟩,
      ⟨some 20, .pick (.tmp 16) (.cst (.bool true)) (.tmp 19), none⟩] [2, 3, 7, 8, 20] none)
    (.cond (.tmp 20) (.seq (.region none [] [
        ⟨some 21, .call .pure 9 [], none⟩,
        ⟨some 6, .mov (.tmp 21), none⟩] [6] none)
      (.ret))
    (.skip)))
    (.seq (.region (some 15) [] [
      ⟨some 22, .load (some 4) (.tmp 3), none⟩,
      ⟨some 23, .mov (.tmp 7), none⟩,
      ⟨some 24, .mov (.tmp 2), none⟩,
      ⟨some 25, .mov (.tmp 8), none⟩,
      ⟨some 26, .call .pure 11 [(.tmp 22), (.tmp 23), (.tmp 24), (.tmp 25)], none⟩,
      ⟨some 27, .load (some 4) (.tmp 3), none⟩,
      ⟨some 28, .mov (.tmp 7), none⟩,
      ⟨some 29, .mov (.tmp 2), none⟩,
      ⟨some 30, .mov (.tmp 8), none⟩,
      ⟨some 31, .call .pure 12 [(.tmp 27), (.tmp 28), (.tmp 29), (.tmp 30)], none⟩,
      ⟨some 32, .call .pure 10 [(.tmp 26), (.tmp 31)], none⟩,
      ⟨some 33, .mov (.tmp 32), none⟩,
      ⟨some 34, .call .pure 9 [], some (33, true)⟩,
      ⟨some 35, .pick (.tmp 33) (.tmp 34) (.cst (.bool false)), none⟩,
      ⟨some 6, .mov (.tmp 35), none⟩] [6] none)
    (.ret))))

def a3 : AFunc := ⟨3, c3, [.tmp 6]⟩

def an3 : List RAnn := [
  { id := 0, live := [2, 3, 4] },
  { id := 1, head := some 6, live := [2, 3, 7, 8] },
  { id := 2, live := [2, 3, 7, 8, 20] },
  { id := 3, live := [6] },
  { id := 4, head := some 15, live := [6] }]

theorem comp3 : compF Try.prog an3 Try.f3 = some a3 := by kernel_rfl

/- graphdb/graphdblaw07.GraphMirror -/
/-- loop 0 of function 4 -/
def l4_0_h : List Nat := [1, 2, 5, 6, 7, 8, 10, 11, 12, 33, 34, 35, 49, 50, 51]

def l4_0_b : ACode :=
  .seq (.region none [] [
      ⟨some 52, .bin .lss .int (.tmp 51) (.tmp 50), none⟩] [1, 2, 5, 6, 7, 8, 10, 11, 12, 33, 34, 35, 49, 50, 51, 52] none)
    (.seq (.cond (.tmp 52) (.skip)
    (.exit 2))
    (.seq (.block 3 (.seq (.region none [] [
        ⟨some 53, .iaddr 3 (.tmp 49) (.tmp 51), none⟩,
        ⟨some 54, .load (some 3) (.tmp 53), none⟩,
        ⟨some 14, .alloc 3 (.agg [.int .i64 0, .int .i64 0, .int .i64 0]), none⟩,
        ⟨none, .store 3 (.tmp 14) (.tmp 54), none⟩] [1, 2, 5, 6, 7, 8, 10, 11, 12, 14, 33, 34, 35, 49, 50, 51] none)
      (.seq (.seq (.region (some 21) [] [
        ⟨some 55, .faddr 0 (.tmp 14), none⟩,
        ⟨some 56, .load none (.tmp 55), none⟩,
        ⟨some 57, .faddr 0 (.tmp 10), none⟩,
        ⟨some 58, .load none (.tmp 57), none⟩,
        ⟨some 59, .bin .neq .int (.tmp 56) (.tmp 58), none⟩,
        ⟨some 60, .mov (.tmp 59), none⟩,
        ⟨some 61, .load (some 4) (.tmp 2), some (60, false)⟩,
        ⟨some 62, .faddr 1 (.tmp 14), some (60, false)⟩,
        ⟨some 63, .load none (.tmp 62), some (60, false)⟩,
        ⟨some 64, .mov (.tmp 1), some (60, false)⟩,
        ⟨some 65, .call .pure 11 [(.tmp 61), (.tmp 63), (.tmp 64), (.cst (.int .i64 2))], some (60, false)⟩,
        ⟨some 66, .faddr 1 (.tmp 14), some (60, false)⟩,
        ⟨some 67, .load none (.tmp 66), some (60, false)⟩,
        ⟨some 68, .faddr 0 (.tmp 10), some (60, false)⟩,
        ⟨some 69, .load none (.tmp 68), some (60, false)⟩,
        ⟨some 70, .faddr 2 (.tmp 14), some (60, false)⟩,
        ⟨some 71, .load none (.tmp 70), some (60, false)⟩,
        ⟨some 72, .build [.int .i64 0, .int .i64 0, .int .i64 0] [(0, 1, (.tmp 67)), (1, 1, (.tmp 69)), (2, 1, (.tmp 71))], some (60, false)⟩,
        ⟨some 73, .call .pure 14 [(.tmp 65), (.tmp 72)], some (60, false)⟩,
        ⟨some 74, .un .not (.tmp 73), some (60, false)⟩,
        ⟨some 75, .pick (.tmp 60) (.cst (.bool true)) (.tmp 74), none⟩] [1, 2, 5, 6, 7, 8, 10, 11, 12, 14, 33, 34, 35, 49, 50, 51, 75] none)
      (.cond (.tmp 75) (.seq (.region none [] [
          ⟨some 4, .mov (.cst (.bool false)), none⟩] [4] none)
        (.ret))
      (.skip)))
      (.seq (.region none [] [
        ⟨some 76, .faddr 1 (.tmp 14), none⟩,
        ⟨some 77, .load none (.tmp 76), none⟩,
        ⟨some 78, .faddr 0 (.tmp 10), none⟩,
        ⟨some 79, .load none (.tmp 78), none⟩,
        ⟨some 80, .bin .eql .int (.tmp 77) (.tmp 79), none⟩] [1, 2, 5, 6, 7, 8, 10, 11, 12, 33, 34, 35, 49, 50, 51, 80] none)
      (.cond (.tmp 80) (.region none [] [
          ⟨some 81, .mov (.tmp 7), none⟩,
          ⟨some 82, .bin .add .int (.tmp 81) (.cst (.int .i64 1)), none⟩,
          ⟨some 7, .mov (.tmp 82), none⟩] [1, 2, 5, 6, 7, 8, 10, 11, 12, 33, 34, 35, 49, 50, 51] none)
      (.skip))))))
    (.region none [] [
      ⟨some 83, .bin .add .int (.tmp 51) (.cst (.int .i64 1)), none⟩,
      ⟨some 51, .mov (.tmp 83), none⟩] [1, 2, 5, 6, 7, 8, 10, 11, 12, 33, 34, 35, 49, 50, 51] (some 2))))

/-- loop 1 of function 4 -/
def l4_1_h : List Nat := [1, 2, 5, 6, 7, 8, 33, 34, 35]

def l4_1_b : ACode :=
  .seq (.region none [] [
      ⟨some 36, .bin .lss .int (.tmp 35) (.tmp 34), none⟩] [1, 2, 5, 6, 7, 8, 33, 34, 35, 36] none)
    (.seq (.cond (.tmp 36) (.skip)
    (.exit 0))
    (.seq (.block 1 (.seq (.region none [] [
        ⟨some 37, .iaddr 3 (.tmp 33) (.tmp 35), none⟩,
        ⟨some 38, .load (some 3) (.tmp 37), none⟩,
        ⟨some 10, .alloc 3 (.agg [.int .i64 0, .sl false [], .sl false []]), none⟩,
        ⟨none, .store 3 (.tmp 10) (.tmp 38), none⟩] [1, 2, 5, 6, 7, 8, 10, 33, 34, 35] none)
      (.seq (.region none [] [
        ⟨some 39, .load (some 4) (.tmp 2), none⟩,
        ⟨some 40, .faddr 0 (.tmp 10), none⟩,
        ⟨some 41, .load none (.tmp 40), none⟩,
        ⟨some 42, .mov (.tmp 1), none⟩,
        ⟨some 43, .call .pure 11 [(.tmp 39), (.tmp 41), (.tmp 42), (.cst (.int .i64 1))], none⟩,
        ⟨some 11, .mov (.tmp 43), none⟩] [1, 2, 5, 6, 7, 8, 10, 11, 33, 34, 35] none)
      (.seq (.region none [] [
        ⟨some 44, .load (some 4) (.tmp 2), none⟩,
        ⟨some 45, .faddr 0 (.tmp 10), none⟩,
        ⟨some 46, .load none (.tmp 45), none⟩,
        ⟨some 47, .mov (.tmp 1), none⟩,
        ⟨some 48, .call .pure 11 [(.tmp 44), (.tmp 46), (.tmp 47), (.cst (.int .i64 2))], none⟩,
        ⟨some 12, .mov (.tmp 48), none⟩] [1, 2, 5, 6, 7, 8, 10, 11, 12, 33, 34, 35] none)
      (.seq (.seq (.region none [] [
        ⟨some 49, .mov (.tmp 11), none⟩,
        ⟨some 50, .len .slice (.tmp 49), none⟩,
        ⟨some 51, .mov (.cst (.int .i64 0)), none⟩] [1, 2, 5, 6, 7, 8, 10, 11, 12, 33, 34, 35, 49, 50, 51] none)
      (.block 2 (.loop l4_0_h l4_0_b)))
      (.region none [] [
        ⟨some 84, .mov (.tmp 5), none⟩,
        ⟨some 85, .mov (.tmp 11), none⟩,
        ⟨some 86, .len .slice (.tmp 85), none⟩,
        ⟨some 87, .bin .add .int (.tmp 84) (.tmp 86), none⟩,
        ⟨some 88, .mov (.tmp 6), none⟩,
        ⟨some 89, .mov (.tmp 12), none⟩,
        ⟨some 90, .len .slice (.tmp 89), none⟩,
        ⟨some 91, .bin .add .int (.tmp 88) (.tmp 90), none⟩,
        ⟨some 92, .mov (.tmp 8), none⟩,
        ⟨some 93, .load (some 4) (.tmp 2), none⟩,
        ⟨some 94, .faddr 0 (.tmp 10), none⟩,
        ⟨some 95, .load none (.tmp 94), none⟩,
        ⟨some 96, .mov (.tmp 1), none⟩,
        ⟨some 97, .call .pure 11 [(.tmp 93), (.tmp 95), (.tmp 96), (.cst (.int .i64 3))], none⟩,
        ⟨some 98, .len .slice (.tmp 97), none⟩,
        ⟨some 99, .bin .add .int (.tmp 92) (.tmp 98), none⟩,
        ⟨some 5, .mov (.tmp 87), none⟩,
        ⟨some 6, .mov (.tmp 91), none⟩,
        ⟨some 8, .mov (.tmp 99), none⟩] [1, 2, 5, 6, 7, 8, 33, 34, 35] none))))))
    (.region none [] [
      ⟨some 100, .bin .add .int (.tmp 35) (.cst (.int .i64 1)), none⟩,
      ⟨some 35, .mov (.tmp 100), none⟩] [1, 2, 5, 6, 7, 8, 33, 34, 35] (some 1))))

/-- loop 2 of function 4 -/
def l4_2_h : List Nat := [1, 5, 6, 7, 8, 15, 102, 103, 104]

def l4_2_b : ACode :=
  .seq (.region none [] [
      ⟨some 105, .bin .lss .int (.tmp 104) (.tmp 103), none⟩] [1, 5, 6, 7, 8, 15, 102, 103, 104, 105] none)
    (.seq (.cond (.tmp 105) (.skip)
    (.exit 4))
    (.seq (.block 5 (.seq (.region none [] [
        ⟨some 106, .iaddr 5 (.tmp 102) (.tmp 104), none⟩,
        ⟨some 107, .load (some 5) (.tmp 106), none⟩,
        ⟨some 17, .alloc 5 (.agg [.int .i64 0, .int .i64 0, .int .i64 0, .str [], .sl false []]), none⟩,
        ⟨none, .store 5 (.tmp 17) (.tmp 107), none⟩] [1, 5, 6, 7, 8, 15, 17, 102, 103, 104] none)
      (.seq (.region none [] [
        ⟨some 108, .load (some 5) (.tmp 17), none⟩,
        ⟨some 109, .mov (.tmp 1), none⟩,
        ⟨some 110, .call .pure 15 [(.tmp 108), (.tmp 109)], none⟩] [1, 5, 6, 7, 8, 15, 102, 103, 104, 110] none)
      (.cond (.tmp 110) (.region none [] [
          ⟨some 111, .mov (.tmp 15), none⟩,
          ⟨some 112, .bin .add .int (.tmp 111) (.cst (.int .i64 1)), none⟩,
          ⟨some 15, .mov (.tmp 112), none⟩] [1, 5, 6, 7, 8, 15, 102, 103, 104] none)
      (.skip)))))
    (.region none [] [
      ⟨some 113, .bin .add .int (.tmp 104) (.cst (.int .i64 1)), none⟩,
      ⟨some 104, .mov (.tmp 113), none⟩] [1, 5, 6, 7, 8, 15, 102, 103, 104] (some 1))))

def c4 : ACode :=
  .seq (.region none [] [
      ⟨some 2, .box 4 (.tmp 0), none⟩,
      ⟨some 4, .mov (.cst (.bool false)), none⟩] [1, 2] none)
    (.seq (.seq (.region none [] [
      ⟨some 18, .load (some 4) (.tmp 2), none⟩,
      ⟨some 19, .call .pure 7 [(.tmp 18), (.cst (.int .i64 30)), (.cst (.int .i64 60))], none⟩,
      ⟨some 20, .un .not (.tmp 19), none⟩,
      ⟨some 21, .mov (.tmp 20), none⟩,
      ⟨some 22, .mov (.tmp 1), some (21, false)⟩,
      ⟨some 23, .call .pure 8 [(.tmp 22)], some (21, false)⟩,
      ⟨some 24, .un .not (.tmp 23), some (21, false)⟩,
      ⟨some 25, .pick (.tmp 21) (.cst (.bool true)) (.tmp 24), none⟩,
      ⟨some 26, .mov (.tmp 25), none⟩,
      ⟨some 27, .load (some 4) (.tmp 2), some (26, false)⟩,
      ⟨some 28, .call .pure 13 [(.tmp 27)], some (26, false)⟩,
      ⟨some 29, .bin .neq .int (.tmp 28) (.cst (.int .i64 0)), some (26, false)⟩,
      ⟨some 30, .pick (.tmp 26) (.cst (.bool true)) (.tmp 29), none⟩] [1, 2, 30] none)
    (.cond (.tmp 30) (.seq (.region none [] [
        ⟨some 31, .call .pure 9 [], none⟩,
        ⟨some 4, .mov (.tmp 31), none⟩] [4] none)
      (.ret))
    (.skip)))
    (.seq (.region none [] [
      ⟨some 5, .mov (.cst (.int .i64 0)), none⟩,
      ⟨some 6, .mov (.cst (.int .i64 0)), none⟩,
      ⟨some 7, .mov (.cst (.int .i64 0)), none⟩,
      ⟨some 8, .mov (.cst (.int .i64 0)), none⟩] [1, 2, 5, 6, 7, 8] none)
    (.seq (.seq (.region none [] [
      ⟨some 32, .faddr 0 (.tmp 2), none⟩,
      ⟨some 33, .load none (.tmp 32), none⟩,
      ⟨some 34, .len .slice (.tmp 33), none⟩,
      ⟨some 35, .mov (.cst (.int .i64 0)), none⟩] [1, 2, 5, 6, 7, 8, 33, 34, 35] none)
    (.block 0 (.loop l4_1_h l4_1_b)))
    (.seq (.region none [] [
      ⟨some 15, .mov (.cst (.int .i64 0)), none⟩] [1, 2, 5, 6, 7, 8, 15] none)
    (.seq (.seq (.region none [] [
      ⟨some 101, .faddr 1 (.tmp 2), none⟩,
      ⟨some 102, .load none (.tmp 101), none⟩,
      ⟨some 103, .len .slice (.tmp 102), none⟩,
      ⟨some 104, .mov (.cst (.int .i64 0)), none⟩] [1, 5, 6, 7, 8, 15, 102, 103, 104] none)
    (.block 4 (.loop l4_2_h l4_2_b)))
    (.seq (.region none [] [
      ⟨some 114, .mov (.tmp 5), none⟩,
      ⟨some 115, .mov (.tmp 15), none⟩,
      ⟨some 116, .bin .eql .int (.tmp 114) (.tmp 115), none⟩,
      ⟨some 117, .mov (.tmp 116), none⟩,
      ⟨some 118, .mov (.tmp 6), some (117, true)⟩,
      ⟨some 119, .mov (.tmp 15), some (117, true)⟩,
      ⟨some 120, .bin .eql .int (.tmp 118) (.tmp 119), some (117, true)⟩,
      ⟨some 121, .pick (.tmp 117) (.tmp 120) (.cst (.bool false)), none⟩,
      ⟨some 122, .mov (.tmp 121), none⟩,
      ⟨some 123, .mov (.tmp 8), some (122, true)⟩,
      ⟨some 124, .mov (.tmp 15), some (122, true)⟩,
      ⟨some 125, .bin .mul .int (.cst (.int .i64 2)) (.tmp 124), some (122, true)⟩,
      ⟨some 126, .mov (.tmp 7), some (122, true)⟩,
      ⟨some 127, .bin .sub .int (.tmp 125) (.tmp 126), some (122, true)⟩,
      ⟨some 128, .bin .eql .int (.tmp 123) (.tmp 127), some (122, true)⟩,
      ⟨some 129, .pick (.tmp 122) (.tmp 128) (.cst (.bool false)), none⟩,
      ⟨some 130, .mov (.tmp 129), none⟩,
      ⟨some 131, .call .pure 9 [], some (130, true)⟩,
      ⟨some 132, .pick (.tmp 130) (.tmp 131) (.cst (.bool false)), none⟩,
      ⟨some 4, .mov (.tmp 132), none⟩] [4] none)
    (.ret)))))))

def a4 : AFunc := ⟨2, c4, [.tmp 4]⟩

def an4 : List RAnn := [
  { id := 0, live := [1, 2] },
  { id := 1, live := [1, 2, 30] },
  { id := 2, live := [4] },
  { id := 3, live := [1, 2, 5, 6, 7, 8] },
  { id := 4, live := [1, 2, 5, 6, 7, 8, 33, 34, 35] },
  { id := 5, live := [1, 2, 5, 6, 7, 8, 33, 34, 35, 36], hdr := [1, 2, 5, 6, 7, 8, 33, 34, 35] },
  { id := 6, live := [1, 2, 5, 6, 7, 8, 10, 33, 34, 35] },
  { id := 7, live := [1, 2, 5, 6, 7, 8, 10, 11, 33, 34, 35] },
  { id := 8, live := [1, 2, 5, 6, 7, 8, 10, 11, 12, 33, 34, 35] },
  { id := 9, live := [1, 2, 5, 6, 7, 8, 10, 11, 12, 33, 34, 35, 49, 50, 51] },
  { id := 10, live := [1, 2, 5, 6, 7, 8, 10, 11, 12, 33, 34, 35, 49, 50, 51, 52], hdr := [1, 2, 5, 6, 7, 8, 10, 11, 12, 33, 34, 35, 49, 50, 51] },
  { id := 11, live := [1, 2, 5, 6, 7, 8, 10, 11, 12, 14, 33, 34, 35, 49, 50, 51] },
  { id := 12, head := some 21, live := [1, 2, 5, 6, 7, 8, 10, 11, 12, 14, 33, 34, 35, 49, 50, 51, 75] },
  { id := 13, live := [4] },
  { id := 14, live := [1, 2, 5, 6, 7, 8, 10, 11, 12, 33, 34, 35, 49, 50, 51, 80] },
  { id := 15, live := [1, 2, 5, 6, 7, 8, 10, 11, 12, 33, 34, 35, 49, 50, 51] },
  { id := 16, live := [1, 2, 5, 6, 7, 8, 10, 11, 12, 33, 34, 35, 49, 50, 51], trunc := some 2 },
  { id := 17, live := [1, 2, 5, 6, 7, 8, 33, 34, 35] },
  { id := 18, live := [1, 2, 5, 6, 7, 8, 33, 34, 35], trunc := some 1 },
  { id := 19, live := [1, 2, 5, 6, 7, 8, 15] },
  { id := 20, live := [1, 5, 6, 7, 8, 15, 102, 103, 104] },
  { id := 21, live := [1, 5, 6, 7, 8, 15, 102, 103, 104, 105], hdr := [1, 5, 6, 7, 8, 15, 102, 103, 104] },
  { id := 22, live := [1, 5, 6, 7, 8, 15, 17, 102, 103, 104] },
  { id := 23, live := [1, 5, 6, 7, 8, 15, 102, 103, 104, 110] },
  { id := 24, live := [1, 5, 6, 7, 8, 15, 102, 103, 104] },
  { id := 25, live := [1, 5, 6, 7, 8, 15, 102, 103, 104], trunc := some 1 },
  { id := 26, live := [4] }]

theorem comp4 : compF Try.prog an4 Try.f4 = some a4 := by kernel_rfl

/- graphdb/graphdblaw07.GraphLooks -/
def c5 : ACode :=
  .seq (.region none [] [
      ⟨some 3, .box 4 (.tmp 0), none⟩,
      ⟨some 6, .mov (.cst (.bool false)), none⟩] [1, 2, 3] none)
    (.seq (.seq (.region none [] [
      ⟨some 15, .load (some 4) (.tmp 3), none⟩,
      ⟨some 16, .call .pure 7 [(.tmp 15), (.cst (.int .i64 60)), (.cst (.int .i64 100))], none⟩,
      ⟨some 17, .un .not (.tmp 16), none⟩,
      ⟨some 18, .mov (.tmp 17), none⟩,
      ⟨some 19, .mov (.tmp 2), some (18, false)⟩,
      ⟨some 20, .len .str (.tmp 19), some (18, false)⟩,
      ⟨some 21, .bin .gtr .int (.tmp 20) (.cst (.int .i64 200)), some (18, false)⟩,
      ⟨some 22, .pick (.tmp 18) (.cst (.bool true)) (.tmp 21), none⟩] [1, 2, 3, 22] none)
    (.cond (.tmp 22) (.seq (.region none [] [
        ⟨some 23, .call .pure 9 [], none⟩,
        ⟨some 6, .mov (.tmp 23), none⟩] [6] none)
      (.ret))
    (.skip)))
    (.seq (.region none [] [
      ⟨some 25, .load (some 4) (.tmp 3), none⟩,
      ⟨some 26, .mov (.tmp 1), none⟩,
      ⟨some 27, .call .pure 16 [(.tmp 25), (.tmp 26)], none⟩,
      ⟨some 24, .mov (.tmp 27), none⟩,
      ⟨some 28, .ext (.tmp 24) 0, none⟩,
      ⟨some 29, .ext (.tmp 24) 1, none⟩,
      ⟨some 7, .alloc 3 (.agg [.int .i64 0, .sl false [], .sl false []]), none⟩,
      ⟨none, .store 3 (.tmp 7) (.tmp 28), none⟩,
      ⟨some 8, .mov (.tmp 29), none⟩] [1, 2, 3, 7, 8] none)
    (.seq (.region none [] [
      ⟨some 31, .load (some 4) (.tmp 3), none⟩,
      ⟨some 32, .mov (.tmp 1), none⟩,
      ⟨some 33, .call .pure 17 [(.tmp 31), (.tmp 32)], none⟩,
      ⟨some 30, .mov (.tmp 33), none⟩,
      ⟨some 34, .ext (.tmp 30) 0, none⟩,
      ⟨some 35, .ext (.tmp 30) 1, none⟩,
      ⟨some 9, .alloc 3 (.agg [.int .i64 0, .sl false [], .sl false []]), none⟩,
      ⟨none, .store 3 (.tmp 9) (.tmp 34), none⟩,
      ⟨some 10, .mov (.tmp 35), none⟩] [1, 2, 3, 7, 8, 9, 10] none)
    (.seq (.region none [] [
      ⟨some 37, .load (some 4) (.tmp 3), none⟩,
      ⟨some 38, .mov (.tmp 1), none⟩,
      ⟨some 39, .call .pure 18 [(.tmp 37), (.tmp 38)], none⟩,
      ⟨some 36, .mov (.tmp 39), none⟩,
      ⟨some 40, .ext (.tmp 36) 0, none⟩,
      ⟨some 41, .ext (.tmp 36) 1, none⟩,
      ⟨some 11, .alloc 5 (.agg [.int .i64 0, .int .i64 0, .int .i64 0, .str [], .sl false []]), none⟩,
      ⟨none, .store 5 (.tmp 11) (.tmp 40), none⟩,
      ⟨some 12, .mov (.tmp 41), none⟩] [1, 2, 3, 7, 8, 9, 10, 11, 12] none)
    (.seq (.region none [] [
      ⟨some 43, .load (some 4) (.tmp 3), none⟩,
      ⟨some 44, .mov (.tmp 1), none⟩,
      ⟨some 45, .call .pure 19 [(.tmp 43), (.tmp 44)], none⟩,
      ⟨some 42, .mov (.tmp 45), none⟩,
      ⟨some 46, .ext (.tmp 42) 0, none⟩,
      ⟨some 47, .ext (.tmp 42) 1, none⟩,
      ⟨some 13, .alloc 5 (.agg [.int .i64 0, .int .i64 0, .int .i64 0, .str [], .sl false []]), none⟩,
      ⟨none, .store 5 (.tmp 13) (.tmp 46), none⟩,
      ⟨some 14, .mov (.tmp 47), none⟩] [2, 7, 8, 9, 10, 11, 12, 13, 14] none)
    (.seq (.seq (.region none [] [
      ⟨some 48, .mov (.tmp 8), none⟩,
      ⟨some 49, .mov (.tmp 10), none⟩,
      ⟨some 50, .bin .neq .bool (.tmp 48) (.tmp 49), none⟩,
      ⟨some 51, .mov (.tmp 50), none⟩,
      ⟨some 52, .mov (.tmp 12), some (51, false)⟩,
      ⟨some 53, .mov (.tmp 14), some (51, false)⟩,
      ⟨some 54, .bin .neq .bool (.tmp 52) (.tmp 53), some (51, false)⟩,
      ⟨some 55, .pick (.tmp 51) (.cst (.bool true)) (.tmp 54), none⟩,
      ⟨some 56, .mov (.tmp 55), none⟩,
      ⟨some 57, .load (some 3) (.tmp 7), some (56, false)⟩,
      ⟨some 58, .lit false 3 (.agg [.int .i64 0, .sl false [], .sl false []]) 1 [(0, (.tmp 57))], some (56, false)⟩,
      ⟨some 59, .load (some 5) (.tmp 11), some (56, false)⟩,
      ⟨some 60, .lit false 5 (.agg [.int .i64 0, .int .i64 0, .int .i64 0, .str [], .sl false []]) 1 [(0, (.tmp 59))], some (56, false)⟩,
      ⟨some 61, .build [.sl false [], .sl false [], .int .i64 0, .int .i64 0] [(0, 1, (.tmp 58)), (1, 1, (.tmp 60))], some (56, false)⟩,
      ⟨some 62, .load (some 3) (.tmp 9), some (56, false)⟩,
      ⟨some 63, .lit false 3 (.agg [.int .i64 0, .sl false [], .sl false []]) 1 [(0, (.tmp 62))], some (56, false)⟩,
      ⟨some 64, .load (some 5) (.tmp 13), some (56, false)⟩,
      ⟨some 65, .lit false 5 (.agg [.int .i64 0, .int .i64 0, .int .i64 0, .str [], .sl false []]) 1 [(0, (.tmp 64))], some (56, false)⟩,
      ⟨some 66, .build [.sl false [], .sl false [], .int .i64 0, .int .i64 0] [(0, 1, (.tmp 63)), (1, 1, (.tmp 65))], some (56, false)⟩,
      ⟨some 67, .call .pure 20 [(.tmp 61), (.tmp 66)], some (56, false)⟩,
      ⟨some 68, .un .not (.tmp 67), some (56, false)⟩,
      ⟨some 69, .pick (.tmp 56) (.cst (.bool true)) (.tmp 68), none⟩] [2, 7, 9, 11, 13, 69] none)
    (.cond (.tmp 69) (.seq (.region none [] [
        ⟨some 6, .mov (.cst (.bool false)), none⟩] [6] none)
      (.ret))
    (.skip)))
    (.seq (.region (some 38) [] [
      ⟨some 70, .load (some 3) (.tmp 7), none⟩,
      ⟨some 71, .mov (.tmp 2), none⟩,
      ⟨some 72, .call .pure 21 [(.tmp 70), (.tmp 71)], none⟩,
      ⟨some 73, .load (some 3) (.tmp 9), none⟩,
      ⟨some 74, .mov (.tmp 2), none⟩,
      ⟨some 75, .call .pure 22 [(.tmp 73), (.tmp 74)], none⟩,
      ⟨some 76, .bin .eql .bool (.tmp 72) (.tmp 75), none⟩,
      ⟨some 77, .mov (.tmp 76), none⟩,
      ⟨some 78, .load (some 5) (.tmp 11), some (77, true)⟩,
      ⟨some 79, .mov (.tmp 2), some (77, true)⟩,
      ⟨some 80, .lit false 1 (.str []) 1 [(0, (.tmp 79))], some (77, true)⟩,
      ⟨some 81, .call .pure 15 [(.tmp 78), (.tmp 80)], some (77, true)⟩,
      ⟨some 82, .mov (.tmp 2), some (77, true)⟩,
      ⟨some 83, .faddr 3 (.tmp 13), some (77, true)⟩,
      ⟨some 84, .load none (.tmp 83), some (77, true)⟩,
      ⟨some 85, .bin .eql .str (.tmp 82) (.tmp 84), some (77, true)⟩,
      ⟨some 86, .bin .eql .bool (.tmp 81) (.tmp 85), some (77, true)⟩,
      ⟨some 87, .pick (.tmp 77) (.tmp 86) (.cst (.bool false)), none⟩,
      ⟨some 88, .mov (.tmp 87), none⟩,
      ⟨some 89, .load (some 5) (.tmp 11), some (88, true)⟩,
      ⟨some 90, .call .pure 15 [(.tmp 89), (.cst (.sl false []))], some (88, true)⟩,
      ⟨some 91, .pick (.tmp 88) (.tmp 90) (.cst (.bool false)), none⟩,
      ⟨some 92, .mov (.tmp 91), none⟩,
      ⟨some 93, .faddr 2 (.tmp 7), some (92, true)⟩,
      ⟨some 94, .load none (.tmp 93), some (92, true)⟩,
      ⟨some 95, .mov (.tmp 2), some (92, true)⟩,
      ⟨some 96, .call .pure 24 [(.tmp 94), (.tmp 95)], some (92, true)⟩,
      ⟨some 97, .faddr 2 (.tmp 9), some (92, true)⟩,
      ⟨some 98, .load none (.tmp 97), some (92, true)⟩,
      ⟨some 99, .mov (.tmp 2), some (92, true)⟩,
      ⟨some 100, .call .pure 25 [(.tmp 98), (.tmp 99)], some (92, true)⟩,
      ⟨some 101, .call .pure 23 [(.tmp 96), (.tmp 100)], some (92, true)⟩,
      ⟨some 102, .bin .eql .int (.tmp 101) (.cst (.int .i64 0)), some (92, true)⟩,
      ⟨some 103, .pick (.tmp 92) (.tmp 102) (.cst (.bool false)), none⟩,
      ⟨some 104, .mov (.tmp 103), none⟩,
      ⟨some 105, .call .pure 9 [], some (104, true)⟩,
      ⟨some 106, .pick (.tmp 104) (.tmp 105) (.cst (.bool false)), none⟩,
      ⟨some 6, .mov (.tmp 106), none⟩] [6] none)
    (.ret))))))))

def a5 : AFunc := ⟨3, c5, [.tmp 6]⟩

def an5 : List RAnn := [
  { id := 0, live := [1, 2, 3] },
  { id := 1, live := [1, 2, 3, 22] },
  { id := 2, live := [6] },
  { id := 3, live := [1, 2, 3, 7, 8] },
  { id := 4, live := [1, 2, 3, 7, 8, 9, 10] },
  { id := 5, live := [1, 2, 3, 7, 8, 9, 10, 11, 12] },
  { id := 6, live := [2, 7, 8, 9, 10, 11, 12, 13, 14] },
  { id := 7, live := [2, 7, 9, 11, 13, 69] },
  { id := 8, live := [6] },
  { id := 9, head := some 38, live := [6] }]

theorem comp5 : compF Try.prog an5 Try.f5 = some a5 := by kernel_rfl

/- graphdb/graphdblaw07.GraphChecks -/
def c6 : ACode :=
  .seq (.region none [] [
      ⟨some 1, .box 4 (.tmp 0), none⟩,
      ⟨some 2, .mov (.cst (.bool false)), none⟩] [1] none)
    (.seq (.seq (.region none [] [
      ⟨some 3, .load (some 4) (.tmp 1), none⟩,
      ⟨some 4, .call .pure 7 [(.tmp 3), (.cst (.int .i64 60)), (.cst (.int .i64 100))], none⟩,
      ⟨some 5, .un .not (.tmp 4), none⟩] [1, 5] none)
    (.cond (.tmp 5) (.seq (.region none [] [
        ⟨some 6, .call .pure 9 [], none⟩,
        ⟨some 2, .mov (.tmp 6), none⟩] [2] none)
      (.ret))
    (.skip)))
    (.seq (.region (some 23) [] [
      ⟨some 7, .load (some 4) (.tmp 1), none⟩,
      ⟨some 8, .call .pure 13 [(.tmp 7)], none⟩,
      ⟨some 9, .load (some 4) (.tmp 1), none⟩,
      ⟨some 10, .call .pure 26 [(.tmp 9)], none⟩,
      ⟨some 11, .bin .eql .int (.tmp 8) (.tmp 10), none⟩,
      ⟨some 12, .mov (.tmp 11), none⟩,
      ⟨some 13, .load (some 4) (.tmp 1), some (12, true)⟩,
      ⟨some 14, .call .pure 28 [(.tmp 13)], some (12, true)⟩,
      ⟨some 15, .load (some 4) (.tmp 1), some (12, true)⟩,
      ⟨some 16, .call .pure 29 [(.tmp 15)], some (12, true)⟩,
      ⟨some 17, .call .pure 27 [(.tmp 14), (.tmp 16)], some (12, true)⟩,
      ⟨some 18, .pick (.tmp 12) (.tmp 17) (.cst (.bool false)), none⟩,
      ⟨some 19, .mov (.tmp 18), none⟩,
      ⟨some 20, .load (some 4) (.tmp 1), some (19, true)⟩,
      ⟨some 21, .call .pure 30 [(.tmp 20)], some (19, true)⟩,
      ⟨some 22, .load (some 4) (.tmp 1), some (19, true)⟩,
      ⟨some 23, .call .pure 31 [(.tmp 22)], some (19, true)⟩,
      ⟨some 24, .call .pure 27 [(.tmp 21), (.tmp 23)], some (19, true)⟩,
      ⟨some 25, .pick (.tmp 19) (.tmp 24) (.cst (.bool false)), none⟩,
      ⟨some 26, .mov (.tmp 25), none⟩,
      ⟨some 27, .call .pure 9 [], some (26, true)⟩,
      ⟨some 28, .pick (.tmp 26) (.tmp 27) (.cst (.bool false)), none⟩,
      ⟨some 2, .mov (.tmp 28), none⟩] [2] none)
    (.ret)))

def a6 : AFunc := ⟨1, c6, [.tmp 2]⟩

def an6 : List RAnn := [
  { id := 0, live := [1] },
  { id := 1, live := [1, 5] },
  { id := 2, live := [2] },
  { id := 3, head := some 23, live := [2] }]

theorem comp6 : compF Try.prog an6 Try.f6 = some a6 := by kernel_rfl

/- graphdb/graphdbref07.Small -/
/-- loop 0 of function 7 -/
def l7_0_h : List Nat := [3, 7, 8, 9, 10]

def l7_0_b : ACode :=
  .seq (.seq (.region none [] [
      ⟨some 48, .mov (.tmp 10), none⟩,
      ⟨some 49, .faddr 1 (.tmp 9), none⟩,
      ⟨some 50, .load none (.tmp 49), none⟩,
      ⟨some 51, .len .slice (.tmp 50), none⟩,
      ⟨some 52, .bin .lss .int (.tmp 48) (.tmp 51), none⟩,
      ⟨some 53, .mov (.tmp 52), none⟩,
      ⟨some 54, .mov (.tmp 7), some (53, true)⟩,
      ⟨some 55, .bin .geq .int (.tmp 54) (.cst (.int .i64 0)), some (53, true)⟩,
      ⟨some 56, .pick (.tmp 53) (.tmp 55) (.cst (.bool false)), none⟩] [3, 7, 8, 9, 10, 56] none)
    (.cond (.tmp 56) (.skip)
    (.exit 2)))
    (.seq (.block 3 (.region none [] [
        ⟨some 59, .mov (.tmp 7), none⟩,
        ⟨some 60, .faddr 1 (.tmp 9), none⟩,
        ⟨some 61, .load none (.tmp 60), none⟩,
        ⟨some 62, .mov (.tmp 10), none⟩,
        ⟨some 63, .iaddr 1 (.tmp 61) (.tmp 62), none⟩,
        ⟨some 64, .load none (.tmp 63), none⟩,
        ⟨some 65, .len .str (.tmp 64), none⟩,
        ⟨some 66, .bin .quo .int (.tmp 65) (.cst (.int .i64 50)), none⟩,
        ⟨some 67, .bin .sub .int (.tmp 59) (.tmp 66), none⟩,
        ⟨some 7, .mov (.tmp 67), none⟩] [3, 7, 8, 9, 10] none))
    (.region none [] [
      ⟨some 57, .mov (.tmp 10), none⟩,
      ⟨some 58, .bin .add .int (.tmp 57) (.cst (.int .i64 1)), none⟩,
      ⟨some 10, .mov (.tmp 58), none⟩] [3, 7, 8, 9, 10] none))

/-- loop 1 of function 7 -/
def l7_1_h : List Nat := [3, 7, 8]

def l7_1_b : ACode :=
  .seq (.seq (.region none [] [
      ⟨some 24, .mov (.tmp 8), none⟩,
      ⟨some 25, .faddr 0 (.tmp 3), none⟩,
      ⟨some 26, .load none (.tmp 25), none⟩,
      ⟨some 27, .len .slice (.tmp 26), none⟩,
      ⟨some 28, .bin .lss .int (.tmp 24) (.tmp 27), none⟩,
      ⟨some 29, .mov (.tmp 28), none⟩,
      ⟨some 30, .mov (.tmp 7), some (29, true)⟩,
      ⟨some 31, .bin .geq .int (.tmp 30) (.cst (.int .i64 0)), some (29, true)⟩,
      ⟨some 32, .pick (.tmp 29) (.tmp 31) (.cst (.bool false)), none⟩] [3, 7, 8, 32] none)
    (.cond (.tmp 32) (.skip)
    (.exit 0)))
    (.seq (.block 1 (.seq (.region none [] [
        ⟨some 35, .faddr 0 (.tmp 3), none⟩,
        ⟨some 36, .load none (.tmp 35), none⟩,
        ⟨some 37, .mov (.tmp 8), none⟩,
        ⟨some 38, .iaddr 3 (.tmp 36) (.tmp 37), none⟩,
        ⟨some 39, .load (some 3) (.tmp 38), none⟩,
        ⟨some 9, .alloc 3 (.agg [.int .i64 0, .sl false [], .sl false []]), none⟩,
        ⟨none, .store 3 (.tmp 9) (.tmp 39), none⟩] [3, 7, 8, 9] none)
      (.seq (.region none [] [
        ⟨some 40, .faddr 2 (.tmp 9), none⟩,
        ⟨some 41, .load none (.tmp 40), none⟩,
        ⟨some 42, .mov (.tmp 7), none⟩,
        ⟨some 43, .faddr 1 (.tmp 9), none⟩,
        ⟨some 44, .load none (.tmp 43), none⟩,
        ⟨some 45, .len .slice (.tmp 44), none⟩,
        ⟨some 46, .bin .sub .int (.tmp 42) (.tmp 45), none⟩,
        ⟨some 47, .call .pure 32 [(.tmp 41), (.tmp 46)], none⟩,
        ⟨some 7, .mov (.tmp 47), none⟩] [3, 7, 8, 9] none)
      (.seq (.region none [] [
        ⟨some 10, .mov (.cst (.int .i64 0)), none⟩] [3, 7, 8, 9, 10] none)
      (.block 2 (.loop l7_0_h l7_0_b))))))
    (.region none [] [
      ⟨some 33, .mov (.tmp 8), none⟩,
      ⟨some 34, .bin .add .int (.tmp 33) (.cst (.int .i64 1)), none⟩,
      ⟨some 8, .mov (.tmp 34), none⟩] [3, 7, 8] (some 1)))

/-- loop 2 of function 7 -/
def l7_2_h : List Nat := [3, 7, 11]

def l7_2_b : ACode :=
  .seq (.seq (.region none [] [
      ⟨some 68, .mov (.tmp 11), none⟩,
      ⟨some 69, .faddr 1 (.tmp 3), none⟩,
      ⟨some 70, .load none (.tmp 69), none⟩,
      ⟨some 71, .len .slice (.tmp 70), none⟩,
      ⟨some 72, .bin .lss .int (.tmp 68) (.tmp 71), none⟩,
      ⟨some 73, .mov (.tmp 72), none⟩,
      ⟨some 74, .mov (.tmp 7), some (73, true)⟩,
      ⟨some 75, .bin .geq .int (.tmp 74) (.cst (.int .i64 0)), some (73, true)⟩,
      ⟨some 76, .pick (.tmp 73) (.tmp 75) (.cst (.bool false)), none⟩] [3, 7, 11, 76] none)
    (.cond (.tmp 76) (.skip)
    (.exit 4)))
    (.seq (.block 5 (.region (some 18) [] [
        ⟨some 79, .faddr 1 (.tmp 3), none⟩,
        ⟨some 80, .load none (.tmp 79), none⟩,
        ⟨some 81, .mov (.tmp 11), none⟩,
        ⟨some 82, .iaddr 5 (.tmp 80) (.tmp 81), none⟩,
        ⟨some 83, .faddr 4 (.tmp 82), none⟩,
        ⟨some 84, .load none (.tmp 83), none⟩,
        ⟨some 85, .mov (.tmp 7), none⟩,
        ⟨some 86, .faddr 1 (.tmp 3), none⟩,
        ⟨some 87, .load none (.tmp 86), none⟩,
        ⟨some 88, .mov (.tmp 11), none⟩,
        ⟨some 89, .iaddr 5 (.tmp 87) (.tmp 88), none⟩,
        ⟨some 90, .faddr 3 (.tmp 89), none⟩,
        ⟨some 91, .load none (.tmp 90), none⟩,
        ⟨some 92, .len .str (.tmp 91), none⟩,
        ⟨some 93, .bin .quo .int (.tmp 92) (.cst (.int .i64 50)), none⟩,
        ⟨some 94, .bin .sub .int (.tmp 85) (.tmp 93), none⟩,
        ⟨some 95, .call .pure 32 [(.tmp 84), (.tmp 94)], none⟩,
        ⟨some 7, .mov (.tmp 95), none⟩] [3, 7, 11] none))
    (.region none [] [
      ⟨some 77, .mov (.tmp 11), none⟩,
      ⟨some 78, .bin .add .int (.tmp 77) (.cst (.int .i64 1)), none⟩,
      ⟨some 11, .mov (.tmp 78), none⟩] [3, 7, 11] none))

def c7 : ACode :=
  .seq (.region none [] [
      ⟨some 3, .box 4 (.tmp 0), none⟩,
      ⟨some 6, .mov (.cst (.bool false)), none⟩] [1, 2, 3] none)
    (.seq (.seq (.region none [] [
      ⟨some 12, .faddr 0 (.tmp 3), none⟩,
      ⟨some 13, .load none (.tmp 12), none⟩,
      ⟨some 14, .len .slice (.tmp 13), none⟩,
      ⟨some 15, .mov (.tmp 1), none⟩,
      ⟨some 16, .bin .gtr .int (.tmp 14) (.tmp 15), none⟩,
      ⟨some 17, .mov (.tmp 16), none⟩,
      ⟨some 18, .faddr 1 (.tmp 3), some (17, false)⟩,
      ⟨some 19, .load none (.tmp 18), some (17, false)⟩,
      ⟨some 20, .len .slice (.tmp 19), some (17, false)⟩,
      ⟨some 21, .mov (.tmp 2), some (17, false)⟩,
      ⟨some 22, .bin .gtr .int (.tmp 20) (.tmp 21), some (17, false)⟩,
      ⟨some 23, .pick (.tmp 17) (.cst (.bool true)) (.tmp 22), none⟩] [3, 23] none)
    (.cond (.tmp 23) (.seq (.region none [] [
        ⟨some 6, .mov (.cst (.bool false)), none⟩] [6] none)
      (.ret))
    (.skip)))
    (.seq (.region none [] [
      ⟨some 7, .mov (.cst (.int .i64 2000)), none⟩] [3, 7] none)
    (.seq (.seq (.region none [] [
      ⟨some 8, .mov (.cst (.int .i64 0)), none⟩] [3, 7, 8] none)
    (.block 0 (.loop l7_1_h l7_1_b)))
    (.seq (.seq (.region none [] [
      ⟨some 11, .mov (.cst (.int .i64 0)), none⟩] [3, 7, 11] none)
    (.block 4 (.loop l7_2_h l7_2_b)))
    (.seq (.region none [] [
      ⟨some 96, .mov (.tmp 7), none⟩,
      ⟨some 97, .bin .geq .int (.tmp 96) (.cst (.int .i64 0)), none⟩,
      ⟨some 6, .mov (.tmp 97), none⟩] [6] none)
    (.ret))))))

def a7 : AFunc := ⟨3, c7, [.tmp 6]⟩

def an7 : List RAnn := [
  { id := 0, live := [1, 2, 3] },
  { id := 1, live := [3, 23] },
  { id := 2, live := [6] },
  { id := 3, live := [3, 7] },
  { id := 4, live := [3, 7, 8] },
  { id := 5, live := [3, 7, 8, 32], hdr := [3, 7, 8] },
  { id := 7, live := [3, 7, 8, 9] },
  { id := 8, live := [3, 7, 8, 9] },
  { id := 9, live := [3, 7, 8, 9, 10] },
  { id := 10, live := [3, 7, 8, 9, 10, 56], hdr := [3, 7, 8, 9, 10] },
  { id := 12, live := [3, 7, 8, 9, 10] },
  { id := 11, live := [3, 7, 8, 9, 10] },
  { id := 6, live := [3, 7, 8], trunc := some 1 },
  { id := 13, live := [3, 7, 11] },
  { id := 14, live := [3, 7, 11, 76], hdr := [3, 7, 11] },
  { id := 16, head := some 18, live := [3, 7, 11] },
  { id := 15, live := [3, 7, 11] },
  { id := 17, live := [6] }]

theorem comp7 : compF Try.prog an7 Try.f7 = some a7 := by kernel_rfl

/- graphdb/graphdblaw07.few -/
/-- loop 0 of function 8 -/
def l8_0_h : List Nat := [0, 5, 6]

def l8_0_b : ACode :=
  .seq (.region none [] [
      ⟨some 7, .bin .lss .int (.tmp 6) (.tmp 5), none⟩] [0, 5, 6, 7] none)
    (.seq (.cond (.tmp 7) (.skip)
    (.exit 0))
    (.seq (.block 1 (.seq (.region none [] [
        ⟨some 8, .mov (.tmp 6), none⟩,
        ⟨some 3, .mov (.tmp 8), none⟩] [0, 3, 5, 6] none)
      (.seq (.region none [] [
        ⟨some 9, .mov (.tmp 0), none⟩,
        ⟨some 10, .mov (.tmp 3), none⟩,
        ⟨some 11, .iaddr 1 (.tmp 9) (.tmp 10), none⟩,
        ⟨some 12, .load none (.tmp 11), none⟩,
        ⟨some 13, .len .str (.tmp 12), none⟩,
        ⟨some 14, .bin .gtr .int (.tmp 13) (.cst (.int .i64 200)), none⟩] [0, 5, 6, 14] none)
      (.cond (.tmp 14) (.seq (.region none [] [
          ⟨some 2, .mov (.cst (.bool false)), none⟩] [2] none)
        (.ret))
      (.skip)))))
    (.region none [] [
      ⟨some 15, .bin .add .int (.tmp 6) (.cst (.int .i64 1)), none⟩,
      ⟨some 6, .mov (.tmp 15), none⟩] [0, 5, 6] none)))

def c8 : ACode :=
  .seq (.region none [] [
      ⟨some 2, .mov (.cst (.bool false)), none⟩] [0] none)
    (.seq (.seq (.region none [] [
      ⟨some 4, .mov (.tmp 0), none⟩,
      ⟨some 5, .len .slice (.tmp 4), none⟩,
      ⟨some 6, .mov (.cst (.int .i64 0)), none⟩] [0, 5, 6] none)
    (.block 0 (.loop l8_0_h l8_0_b)))
    (.seq (.region none [] [
      ⟨some 16, .mov (.tmp 0), none⟩,
      ⟨some 17, .len .slice (.tmp 16), none⟩,
      ⟨some 18, .bin .leq .int (.tmp 17) (.cst (.int .i64 30)), none⟩,
      ⟨some 2, .mov (.tmp 18), none⟩] [2] none)
    (.ret)))

def a8 : AFunc := ⟨1, c8, [.tmp 2]⟩

def an8 : List RAnn := [
  { id := 0, live := [0] },
  { id := 1, live := [0, 5, 6] },
  { id := 2, live := [0, 5, 6, 7], hdr := [0, 5, 6] },
  { id := 3, live := [0, 3, 5, 6] },
  { id := 4, live := [0, 5, 6, 14] },
  { id := 5, live := [2] },
  { id := 6, live := [0, 5, 6] },
  { id := 7, live := [2] }]

theorem comp8 : compF Try.prog an8 Try.f8 = some a8 := by kernel_rfl

/- graphdb/graphdblaw07.alive -/
def c9 : ACode :=
  .seq (.region none [] [
      ⟨some 0, .mov (.cst (.bool false)), none⟩] [] none)
    (.seq (.region none [] [
      ⟨some 5, .call .pure 33 [], none⟩,
      ⟨some 1, .alloc 4 (.agg [.sl false [], .sl false [], .int .i64 0, .int .i64 0]), none⟩,
      ⟨none, .store 4 (.tmp 1) (.tmp 5), none⟩] [1] none)
    (.seq (.region none [] [
      ⟨some 6, .call .share 33 [], none⟩,
      ⟨some 2, .alloc 4 (.agg [.sl false [], .sl false [], .int .i64 0, .int .i64 0]), none⟩,
      ⟨none, .store 4 (.tmp 2) (.tmp 6), none⟩] [1, 2] none)
    (.seq (.region none [] [
      ⟨some 7, .faddr 1 (.tmp 2), none⟩,
      ⟨some 8, .load none (.tmp 7), none⟩,
      ⟨some 9, .iaddr 5 (.tmp 8) (.cst (.int .i64 0)), none⟩,
      ⟨some 10, .faddr 2 (.tmp 9), none⟩,
      ⟨none, .store 1 (.tmp 10) (.cst (.int .i64 9)), none⟩] [1, 2] none)
    (.seq (.region none [] [
      ⟨some 11, .load (some 4) (.tmp 1), none⟩,
      ⟨some 12, .call .pure 11 [(.tmp 11), (.cst (.int .i64 2)), (.cst (.sl false [])), (.cst (.int .i64 3))], none⟩,
      ⟨some 3, .mov (.tmp 12), none⟩] [1, 2, 3] none)
    (.seq (.region none [] [
      ⟨some 13, .load (some 4) (.tmp 1), none⟩,
      ⟨some 14, .lit false 1 (.str []) 1 [(0, (.cst (.str [84])))], none⟩,
      ⟨some 15, .call .pure 11 [(.tmp 13), (.cst (.int .i64 2)), (.tmp 14), (.cst (.int .i64 2))], none⟩,
      ⟨some 4, .mov (.tmp 15), none⟩] [1, 2, 3, 4] none)
    (.seq (.region none [] [
      ⟨some 16, .load (some 4) (.tmp 1), none⟩,
      ⟨some 17, .call .pure 13 [(.tmp 16)], none⟩,
      ⟨some 18, .bin .eql .int (.tmp 17) (.cst (.int .i64 0)), none⟩,
      ⟨some 19, .mov (.tmp 18), none⟩,
      ⟨some 20, .load (some 4) (.tmp 2), some (19, true)⟩,
      ⟨some 21, .call .borrow 13 [(.tmp 20)], some (19, true)⟩,
      ⟨some 22, .bin .eql .int (.tmp 21) (.cst (.int .i64 10)), some (19, true)⟩,
      ⟨some 23, .pick (.tmp 19) (.tmp 22) (.cst (.bool false)), none⟩,
      ⟨some 24, .mov (.tmp 23), none⟩,
      ⟨some 25, .mov (.tmp 3), some (24, true)⟩,
      ⟨some 26, .build [.int .i64 0, .int .i64 0, .int .i64 0] [(0, 1, (.cst (.int .i64 2))), (1, 1, (.cst (.int .i64 1))), (2, 1, (.cst (.int .i64 1)))], some (24, true)⟩,
      ⟨some 27, .build [.int .i64 0, .int .i64 0, .int .i64 0] [(0, 1, (.cst (.int .i64 2))), (1, 1, (.cst (.int .i64 2))), (2, 1, (.cst (.int .i64 2)))], some (24, true)⟩,
      ⟨some 28, .lit false 3 (.agg [.int .i64 0, .int .i64 0, .int .i64 0]) 2 [(0, (.tmp 26)), (1, (.tmp 27))], some (24, true)⟩,
      ⟨some 29, .call .pure 10 [(.tmp 25), (.tmp 28)], some (24, true)⟩,
      ⟨some 30, .pick (.tmp 24) (.tmp 29) (.cst (.bool false)), none⟩,
      ⟨some 31, .mov (.tmp 30), none⟩,
      ⟨some 32, .mov (.tmp 4), some (31, true)⟩,
      ⟨some 33, .mov (.tmp 3), some (31, true)⟩,
      ⟨some 34, .call .pure 10 [(.tmp 32), (.tmp 33)], some (31, true)⟩,
      ⟨some 35, .pick (.tmp 31) (.tmp 34) (.cst (.bool false)), none⟩,
      ⟨some 36, .mov (.tmp 35), none⟩,
      ⟨some 37, .load (some 4) (.tmp 1), some (36, true)⟩,
      ⟨some 38, .call .pure 11 [(.tmp 37), (.cst (.int .i64 2)), (.cst (.sl false [])), (.cst (.int .i64 1))], some (36, true)⟩,
      ⟨some 39, .len .slice (.tmp 38), some (36, true)⟩,
      ⟨some 40, .bin .eql .int (.tmp 39) (.cst (.int .i64 1)), some (36, true)⟩,
      ⟨some 41, .pick (.tmp 36) (.tmp 40) (.cst (.bool false)), none⟩,
      ⟨some 42, .mov (.tmp 41), none⟩,
      ⟨some 43, .call .pure 34 [], some (42, true)⟩,
      ⟨some 44, .call .pure 13 [(.tmp 43)], some (42, true)⟩,
      ⟨some 45, .bin .eql .int (.tmp 44) (.cst (.int .i64 0)), some (42, true)⟩,
      ⟨some 46, .pick (.tmp 42) (.tmp 45) (.cst (.bool false)), none⟩,
      ⟨some 47, .mov (.tmp 46), none⟩,
      ⟨some 48, .call .pure 35 [(.cst (.str [97, 95, 49]))], some (47, true)⟩,
      ⟨some 49, .pick (.tmp 47) (.tmp 48) (.cst (.bool false)), none⟩,
      ⟨some 50, .mov (.tmp 49), none⟩,
      ⟨some 51, .call .pure 35 [(.cst (.str [49, 97]))], some (50, true)⟩,
      ⟨some 52, .un .not (.tmp 51), some (50, true)⟩,
      ⟨some 53, .pick (.tmp 50) (.tmp 52) (.cst (.bool false)), none⟩,
      ⟨some 0, .mov (.tmp 53), none⟩] [0] none)
    (.ret)))))))

def a9 : AFunc := ⟨0, c9, [.tmp 0]⟩

def an9 : List RAnn := [
  { id := 0 },
  { id := 1, live := [1] },
  { id := 2, live := [1, 2], ops := [(0, .mode .share)] },
  { id := 3, live := [1, 2] },
  { id := 4, live := [1, 2, 3] },
  { id := 5, live := [1, 2, 3, 4] },
  { id := 6, live := [0], ops := [(5, .mode .borrow)] }]

theorem comp9 : compF Try.prog an9 Try.f9 = some a9 := by kernel_rfl

/- graphdb/graphdbref07.SameAdj -/
/-- loop 0 of function 10 -/
def l10_0_h : List Nat := [0, 1, 5]

def l10_0_b : ACode :=
  .seq (.seq (.region none [] [
      ⟨some 11, .mov (.tmp 5), none⟩,
      ⟨some 12, .mov (.tmp 0), none⟩,
      ⟨some 13, .len .slice (.tmp 12), none⟩,
      ⟨some 14, .bin .lss .int (.tmp 11) (.tmp 13), none⟩] [0, 1, 5, 14] none)
    (.cond (.tmp 14) (.skip)
    (.exit 0)))
    (.seq (.block 1 (.seq (.region (some 9) [] [
        ⟨some 17, .mov (.tmp 0), none⟩,
        ⟨some 18, .mov (.tmp 5), none⟩,
        ⟨some 19, .iaddr 3 (.tmp 17) (.tmp 18), none⟩,
        ⟨some 20, .load (some 3) (.tmp 19), none⟩,
        ⟨some 21, .mov (.tmp 1), none⟩,
        ⟨some 22, .mov (.tmp 5), none⟩,
        ⟨some 23, .iaddr 3 (.tmp 21) (.tmp 22), none⟩,
        ⟨some 24, .load (some 3) (.tmp 23), none⟩,
        ⟨some 25, .bin .neq (.flat [.int, .int, .int]) (.tmp 20) (.tmp 24), none⟩] [0, 1, 5, 25] none)
      (.cond (.tmp 25) (.seq (.region none [] [
          ⟨some 4, .mov (.cst (.bool false)), none⟩] [4] none)
        (.ret))
      (.skip))))
    (.region none [] [
      ⟨some 15, .mov (.tmp 5), none⟩,
      ⟨some 16, .bin .add .int (.tmp 15) (.cst (.int .i64 1)), none⟩,
      ⟨some 5, .mov (.tmp 16), none⟩] [0, 1, 5] none))

def c10 : ACode :=
  .seq (.region none [] [
      ⟨some 4, .mov (.cst (.bool false)), none⟩] [0, 1] none)
    (.seq (.seq (.region none [] [
      ⟨some 6, .mov (.tmp 0), none⟩,
      ⟨some 7, .len .slice (.tmp 6), none⟩,
      ⟨some 8, .mov (.tmp 1), none⟩,
      ⟨some 9, .len .slice (.tmp 8), none⟩,
      ⟨some 10, .bin .neq .int (.tmp 7) (.tmp 9), none⟩] [0, 1, 10] none)
    (.cond (.tmp 10) (.seq (.region none [] [
        ⟨some 4, .mov (.cst (.bool false)), none⟩] [4] none)
      (.ret))
    (.skip)))
    (.seq (.seq (.region none [] [
      ⟨some 5, .mov (.cst (.int .i64 0)), none⟩] [0, 1, 5] none)
    (.block 0 (.loop l10_0_h l10_0_b)))
    (.seq (.region none [] [
      ⟨some 4, .mov (.cst (.bool true)), none⟩] [4] none)
    (.ret))))

def a10 : AFunc := ⟨2, c10, [.tmp 4]⟩

def an10 : List RAnn := [
  { id := 0, live := [0, 1] },
  { id := 1, live := [0, 1, 10] },
  { id := 2, live := [4] },
  { id := 3, live := [0, 1, 5] },
  { id := 4, live := [0, 1, 5, 14], hdr := [0, 1, 5] },
  { id := 6, head := some 9, live := [0, 1, 5, 25] },
  { id := 7, live := [4] },
  { id := 5, live := [0, 1, 5] },
  { id := 8, live := [4] }]

theorem comp10 : compF Try.prog an10 Try.f10 = some a10 := by kernel_rfl

/- graphdb/graph.Steps -/
/-- loop 0 of function 11 -/
def l11_0_h : List Nat := [1, 2, 3, 9, 13, 14, 15]

def l11_0_b : ACode :=
  .seq (.region none [] [
      ⟨some 16, .bin .lss .int (.tmp 15) (.tmp 14), none⟩] [1, 2, 3, 9, 13, 14, 15, 16] none)
    (.seq (.cond (.tmp 16) (.skip)
    (.exit 0))
    (.seq (.block 1 (.seq (.region none [] [
        ⟨some 17, .iaddr 5 (.tmp 13) (.tmp 15), none⟩,
        ⟨some 18, .load (some 5) (.tmp 17), none⟩,
        ⟨some 11, .alloc 5 (.agg [.int .i64 0, .int .i64 0, .int .i64 0, .str [], .sl false []]), none⟩,
        ⟨none, .store 5 (.tmp 11) (.tmp 18), none⟩] [1, 2, 3, 9, 11, 13, 14, 15] none)
      (.seq (.seq (.region none [] [
        ⟨some 19, .load (some 5) (.tmp 11), none⟩,
        ⟨some 20, .mov (.tmp 2), none⟩,
        ⟨some 21, .call .pure 15 [(.tmp 19), (.tmp 20)], none⟩,
        ⟨some 22, .un .not (.tmp 21), none⟩] [1, 2, 3, 9, 11, 13, 14, 15, 22] none)
      (.cond (.tmp 22) (.exit 1)
      (.skip)))
      (.block 2 (.seq (.region none [] [
          ⟨some 24, .mov (.tmp 3), none⟩,
          ⟨some 25, .bin .eql .int (.tmp 24) (.cst (.int .i64 1)), none⟩,
          ⟨some 26, .mov (.tmp 25), none⟩,
          ⟨some 27, .mov (.tmp 3), some (26, false)⟩,
          ⟨some 28, .bin .eql .int (.tmp 27) (.cst (.int .i64 3)), some (26, false)⟩,
          ⟨some 29, .pick (.tmp 26) (.cst (.bool true)) (.tmp 28), none⟩,
          ⟨some 30, .mov (.tmp 29), none⟩,
          ⟨some 31, .faddr 1 (.tmp 11), some (30, true)⟩,
          ⟨some 32, .load none (.tmp 31), some (30, true)⟩,
          ⟨some 33, .mov (.tmp 1), some (30, true)⟩,
          ⟨some 34, .bin .eql .int (.tmp 32) (.tmp 33), some (30, true)⟩,
          ⟨some 35, .pick (.tmp 30) (.tmp 34) (.cst (.bool false)), none⟩,
          ⟨some 23, .mov (.tmp 35), none⟩] [1, 2, 3, 9, 11, 13, 14, 15, 23] none)
        (.cond (.tmp 23) (.region none [] [
            ⟨some 36, .mov (.tmp 9), none⟩,
            ⟨some 37, .mov (.tmp 1), none⟩,
            ⟨some 38, .faddr 2 (.tmp 11), none⟩,
            ⟨some 39, .load none (.tmp 38), none⟩,
            ⟨some 40, .faddr 0 (.tmp 11), none⟩,
            ⟨some 41, .load none (.tmp 40), none⟩,
            ⟨some 42, .build [.int .i64 0, .int .i64 0, .int .i64 0] [(0, 1, (.tmp 37)), (1, 1, (.tmp 39)), (2, 1, (.tmp 41))], none⟩,
            ⟨some 43, .lit false 3 (.agg [.int .i64 0, .int .i64 0, .int .i64 0]) 1 [(0, (.tmp 42))], none⟩,
            ⟨some 44, .append 3 24 (.tmp 36) (.tmp 43), none⟩,
            ⟨some 9, .mov (.tmp 44), none⟩] [1, 2, 3, 9, 13, 14, 15] none)
        (.seq (.region none [] [
            ⟨some 46, .mov (.tmp 3), none⟩,
            ⟨some 47, .bin .eql .int (.tmp 46) (.cst (.int .i64 2)), none⟩,
            ⟨some 48, .mov (.tmp 47), none⟩,
            ⟨some 49, .mov (.tmp 3), some (48, false)⟩,
            ⟨some 50, .bin .eql .int (.tmp 49) (.cst (.int .i64 3)), some (48, false)⟩,
            ⟨some 51, .pick (.tmp 48) (.cst (.bool true)) (.tmp 50), none⟩,
            ⟨some 52, .mov (.tmp 51), none⟩,
            ⟨some 53, .faddr 2 (.tmp 11), some (52, true)⟩,
            ⟨some 54, .load none (.tmp 53), some (52, true)⟩,
            ⟨some 55, .mov (.tmp 1), some (52, true)⟩,
            ⟨some 56, .bin .eql .int (.tmp 54) (.tmp 55), some (52, true)⟩,
            ⟨some 57, .pick (.tmp 52) (.tmp 56) (.cst (.bool false)), none⟩,
            ⟨some 45, .mov (.tmp 57), none⟩] [1, 2, 3, 9, 11, 13, 14, 15, 45] none)
          (.cond (.tmp 45) (.region none [] [
              ⟨some 58, .mov (.tmp 9), none⟩,
              ⟨some 59, .mov (.tmp 1), none⟩,
              ⟨some 60, .faddr 1 (.tmp 11), none⟩,
              ⟨some 61, .load none (.tmp 60), none⟩,
              ⟨some 62, .faddr 0 (.tmp 11), none⟩,
              ⟨some 63, .load none (.tmp 62), none⟩,
              ⟨some 64, .build [.int .i64 0, .int .i64 0, .int .i64 0] [(0, 1, (.tmp 59)), (1, 1, (.tmp 61)), (2, 1, (.tmp 63))], none⟩,
              ⟨some 65, .lit false 3 (.agg [.int .i64 0, .int .i64 0, .int .i64 0]) 1 [(0, (.tmp 64))], none⟩,
              ⟨some 66, .append 3 24 (.tmp 58) (.tmp 65), none⟩,
              ⟨some 9, .mov (.tmp 66), none⟩] [1, 2, 3, 9, 13, 14, 15] none)
          (.skip)))))))))
    (.region none [] [
      ⟨some 67, .bin .add .int (.tmp 15) (.cst (.int .i64 1)), none⟩,
      ⟨some 15, .mov (.tmp 67), none⟩] [1, 2, 3, 9, 13, 14, 15] (some 2))))

def c11 : ACode :=
  .seq (.region none [] [
      ⟨some 4, .box 4 (.tmp 0), none⟩,
      ⟨some 8, .mov (.cst (.sl false [])), none⟩] [1, 2, 3, 4] none)
    (.seq (.region none [] [
      ⟨some 9, .newown 3, none⟩] [1, 2, 3, 4, 9] none)
    (.seq (.seq (.region none [] [
      ⟨some 12, .faddr 1 (.tmp 4), none⟩,
      ⟨some 13, .load none (.tmp 12), none⟩,
      ⟨some 14, .len .slice (.tmp 13), none⟩,
      ⟨some 15, .mov (.cst (.int .i64 0)), none⟩] [1, 2, 3, 9, 13, 14, 15] none)
    (.block 0 (.loop l11_0_h l11_0_b)))
    (.seq (.region none [] [
      ⟨some 68, .mov (.tmp 9), none⟩,
      ⟨some 69, .call .share 36 [(.tmp 68), (.cst (.fn 37 []))], none⟩] [9] none)
    (.seq (.region none [] [
      ⟨some 70, .mov (.tmp 9), none⟩,
      ⟨some 8, .mov (.tmp 70), none⟩] [8] none)
    (.ret)))))

def a11 : AFunc := ⟨4, c11, [.tmp 8]⟩

def an11 : List RAnn := [
  { id := 0, live := [1, 2, 3, 4] },
  { id := 1, live := [1, 2, 3, 4, 9], ops := [(0, .own)] },
  { id := 2, live := [1, 2, 3, 9, 13, 14, 15] },
  { id := 3, live := [1, 2, 3, 9, 13, 14, 15, 16], hdr := [1, 2, 3, 9, 13, 14, 15] },
  { id := 4, live := [1, 2, 3, 9, 11, 13, 14, 15] },
  { id := 5, live := [1, 2, 3, 9, 11, 13, 14, 15, 22] },
  { id := 6, live := [1, 2, 3, 9, 11, 13, 14, 15, 23] },
  { id := 7, live := [1, 2, 3, 9, 13, 14, 15] },
  { id := 8, live := [1, 2, 3, 9, 11, 13, 14, 15, 45] },
  { id := 9, live := [1, 2, 3, 9, 13, 14, 15] },
  { id := 10, live := [1, 2, 3, 9, 13, 14, 15], trunc := some 2 },
  { id := 11, live := [9], ops := [(1, .mode .share)] },
  { id := 12, live := [8] }]

theorem comp11 : compF Try.prog an11 Try.f11 = some a11 := by kernel_rfl

/- graphdb/graphdbref07.Steps -/
/-- loop 0 of function 12 -/
def l12_0_h : List Nat := [1, 2, 3, 4, 9, 10, 11, 13]

def l12_0_b : ACode :=
  .seq (.seq (.region (some 35) [] [
      ⟨some 50, .mov (.tmp 13), none⟩,
      ⟨some 51, .bin .gtr .int (.tmp 50) (.cst (.int .i64 0)), none⟩,
      ⟨some 52, .mov (.tmp 51), none⟩,
      ⟨some 53, .faddr 1 (.tmp 11), some (52, true)⟩,
      ⟨some 54, .load none (.tmp 53), some (52, true)⟩,
      ⟨some 55, .mov (.tmp 9), some (52, true)⟩,
      ⟨some 56, .mov (.tmp 13), some (52, true)⟩,
      ⟨some 57, .bin .sub .int (.tmp 56) (.cst (.int .i64 1)), some (52, true)⟩,
      ⟨some 58, .iaddr 3 (.tmp 55) (.tmp 57), some (52, true)⟩,
      ⟨some 59, .faddr 1 (.tmp 58), some (52, true)⟩,
      ⟨some 60, .load none (.tmp 59), some (52, true)⟩,
      ⟨some 61, .bin .lss .int (.tmp 54) (.tmp 60), some (52, true)⟩,
      ⟨some 62, .mov (.tmp 61), some (52, true)⟩,
      ⟨some 63, .faddr 1 (.tmp 11), some (62, false)⟩,
      ⟨some 64, .load none (.tmp 63), some (62, false)⟩,
      ⟨some 65, .mov (.tmp 9), some (62, false)⟩,
      ⟨some 66, .mov (.tmp 13), some (62, false)⟩,
      ⟨some 67, .bin .sub .int (.tmp 66) (.cst (.int .i64 1)), some (62, false)⟩,
      ⟨some 68, .iaddr 3 (.tmp 65) (.tmp 67), some (62, false)⟩,
      ⟨some 69, .faddr 1 (.tmp 68), some (62, false)⟩,
      ⟨some 70, .load none (.tmp 69), some (62, false)⟩,
      ⟨some 71, .bin .eql .int (.tmp 64) (.tmp 70), some (62, false)⟩,
      ⟨some 72, .mov (.tmp 71), some (62, false)⟩,
      ⟨some 73, .faddr 2 (.tmp 11), some (72, true)⟩,
      ⟨some 74, .load none (.tmp 73), some (72, true)⟩,
      ⟨some 75, .mov (.tmp 9), some (72, true)⟩,
      ⟨some 76, .mov (.tmp 13), some (72, true)⟩,
      ⟨some 77, .bin .sub .int (.tmp 76) (.cst (.int .i64 1)), some (72, true)⟩,
      ⟨some 78, .iaddr 3 (.tmp 75) (.tmp 77), some (72, true)⟩,
      ⟨some 79, .faddr 2 (.tmp 78), some (72, true)⟩,
      ⟨some 80, .load none (.tmp 79), some (72, true)⟩,
      ⟨some 81, .bin .lss .int (.tmp 74) (.tmp 80), some (72, true)⟩,
      ⟨some 82, .pick (.tmp 72) (.tmp 81) (.cst (.bool false)), some (62, false)⟩,
      ⟨some 83, .pick (.tmp 62) (.cst (.bool true)) (.tmp 82), some (52, true)⟩,
      ⟨some 84, .pick (.tmp 52) (.tmp 83) (.cst (.bool false)), none⟩] [1, 2, 3, 4, 9, 10, 11, 13, 84] none)
    (.cond (.tmp 84) (.skip)
    (.exit 2)))
    (.block 3 (.seq (.region none [] [
        ⟨some 85, .mov (.tmp 9), none⟩,
        ⟨some 86, .mov (.tmp 13), none⟩,
        ⟨some 87, .mov (.tmp 9), none⟩,
        ⟨some 88, .mov (.tmp 13), none⟩,
        ⟨some 89, .bin .sub .int (.tmp 88) (.cst (.int .i64 1)), none⟩,
        ⟨some 90, .iaddr 3 (.tmp 87) (.tmp 89), none⟩,
        ⟨some 91, .load (some 3) (.tmp 90), none⟩,
        ⟨some 92, .iaddr 3 (.tmp 85) (.tmp 86), none⟩,
        ⟨none, .store 3 (.tmp 92) (.tmp 91), none⟩] [1, 2, 3, 4, 9, 10, 11, 13] none)
      (.region none [] [
        ⟨some 93, .mov (.tmp 13), none⟩,
        ⟨some 94, .bin .sub .int (.tmp 93) (.cst (.int .i64 1)), none⟩,
        ⟨some 13, .mov (.tmp 94), none⟩] [1, 2, 3, 4, 9, 10, 11, 13] none)))

/-- loop 1 of function 12 -/
def l12_1_h : List Nat := [1, 2, 3, 4, 9, 10]

def l12_1_b : ACode :=
  .seq (.seq (.region none [] [
      ⟨some 14, .mov (.tmp 10), none⟩,
      ⟨some 15, .faddr 1 (.tmp 4), none⟩,
      ⟨some 16, .load none (.tmp 15), none⟩,
      ⟨some 17, .len .slice (.tmp 16), none⟩,
      ⟨some 18, .bin .lss .int (.tmp 14) (.tmp 17), none⟩] [1, 2, 3, 4, 9, 10, 18] none)
    (.cond (.tmp 18) (.skip)
    (.exit 0)))
    (.seq (.block 1 (.seq (.region none [] [
        ⟨some 22, .faddr 1 (.tmp 4), none⟩,
        ⟨some 23, .load none (.tmp 22), none⟩,
        ⟨some 24, .mov (.tmp 10), none⟩,
        ⟨some 25, .iaddr 5 (.tmp 23) (.tmp 24), none⟩,
        ⟨some 26, .load (some 5) (.tmp 25), none⟩,
        ⟨some 27, .mov (.tmp 1), none⟩,
        ⟨some 28, .mov (.tmp 3), none⟩,
        ⟨some 29, .call .pure 40 [(.tmp 26), (.tmp 27), (.tmp 28)], none⟩,
        ⟨some 21, .mov (.tmp 29), none⟩,
        ⟨some 30, .ext (.tmp 21) 0, none⟩,
        ⟨some 31, .ext (.tmp 21) 1, none⟩,
        ⟨some 11, .alloc 3 (.agg [.int .i64 0, .int .i64 0, .int .i64 0]), none⟩,
        ⟨none, .store 3 (.tmp 11) (.tmp 30), none⟩,
        ⟨some 12, .mov (.tmp 31), none⟩] [1, 2, 3, 4, 9, 10, 11, 12] none)
      (.seq (.seq (.region none [] [
        ⟨some 32, .mov (.tmp 12), none⟩,
        ⟨some 33, .un .not (.tmp 32), none⟩,
        ⟨some 34, .mov (.tmp 33), none⟩,
        ⟨some 35, .faddr 1 (.tmp 4), some (34, false)⟩,
        ⟨some 36, .load none (.tmp 35), some (34, false)⟩,
        ⟨some 37, .mov (.tmp 10), some (34, false)⟩,
        ⟨some 38, .iaddr 5 (.tmp 36) (.tmp 37), some (34, false)⟩,
        ⟨some 39, .load (some 5) (.tmp 38), some (34, false)⟩,
        ⟨some 40, .mov (.tmp 2), some (34, false)⟩,
        ⟨some 41, .call .pure 41 [(.tmp 39), (.tmp 40)], some (34, false)⟩,
        ⟨some 42, .un .not (.tmp 41), some (34, false)⟩,
        ⟨some 43, .pick (.tmp 34) (.cst (.bool true)) (.tmp 42), none⟩] [1, 2, 3, 4, 9, 10, 11, 43] none)
      (.cond (.tmp 43) (.exit 1)
      (.skip)))
      (.seq (.region none [] [
        ⟨some 44, .mov (.tmp 9), none⟩,
        ⟨some 45, .len .slice (.tmp 44), none⟩,
        ⟨some 13, .mov (.tmp 45), none⟩] [1, 2, 3, 4, 9, 10, 11, 13] none)
      (.seq (.region none [] [
        ⟨some 46, .mov (.tmp 9), none⟩,
        ⟨some 47, .load (some 3) (.tmp 11), none⟩,
        ⟨some 48, .lit false 3 (.agg [.int .i64 0, .int .i64 0, .int .i64 0]) 1 [(0, (.tmp 47))], none⟩,
        ⟨some 49, .append 3 24 (.tmp 46) (.tmp 48), none⟩,
        ⟨some 9, .mov (.tmp 49), none⟩] [1, 2, 3, 4, 9, 10, 11, 13] none)
      (.seq (.block 2 (.loop l12_0_h l12_0_b))
      (.region none [] [
        ⟨some 95, .mov (.tmp 9), none⟩,
        ⟨some 96, .mov (.tmp 13), none⟩,
        ⟨some 97, .load (some 3) (.tmp 11), none⟩,
        ⟨some 98, .iaddr 3 (.tmp 95) (.tmp 96), none⟩,
        ⟨none, .store 3 (.tmp 98) (.tmp 97), none⟩] [1, 2, 3, 4, 9, 10] none)))))))
    (.region none [] [
      ⟨some 19, .mov (.tmp 10), none⟩,
      ⟨some 20, .bin .add .int (.tmp 19) (.cst (.int .i64 1)), none⟩,
      ⟨some 10, .mov (.tmp 20), none⟩] [1, 2, 3, 4, 9, 10] (some 2)))

def c12 : ACode :=
  .seq (.region none [] [
      ⟨some 4, .box 4 (.tmp 0), none⟩,
      ⟨some 8, .mov (.cst (.sl false [])), none⟩] [1, 2, 3, 4] none)
    (.seq (.region none [] [
      ⟨some 9, .newown 3, none⟩] [1, 2, 3, 4, 9] none)
    (.seq (.seq (.region none [] [
      ⟨some 10, .mov (.cst (.int .i64 0)), none⟩] [1, 2, 3, 4, 9, 10] none)
    (.block 0 (.loop l12_1_h l12_1_b)))
    (.seq (.region none [] [
      ⟨some 99, .mov (.tmp 9), none⟩,
      ⟨some 8, .mov (.tmp 99), none⟩] [8] none)
    (.ret))))

def a12 : AFunc := ⟨4, c12, [.tmp 8]⟩

def an12 : List RAnn := [
  { id := 0, live := [1, 2, 3, 4] },
  { id := 1, live := [1, 2, 3, 4, 9], ops := [(0, .own)] },
  { id := 2, live := [1, 2, 3, 4, 9, 10] },
  { id := 3, live := [1, 2, 3, 4, 9, 10, 18], hdr := [1, 2, 3, 4, 9, 10] },
  { id := 5, live := [1, 2, 3, 4, 9, 10, 11, 12] },
  { id := 6, live := [1, 2, 3, 4, 9, 10, 11, 43] },
  { id := 7, live := [1, 2, 3, 4, 9, 10, 11, 13] },
  { id := 8, live := [1, 2, 3, 4, 9, 10, 11, 13] },
  { id := 9, head := some 35, live := [1, 2, 3, 4, 9, 10, 11, 13, 84], hdr := [1, 2, 3, 4, 9, 10, 11, 13] },
  { id := 10, live := [1, 2, 3, 4, 9, 10, 11, 13] },
  { id := 11, live := [1, 2, 3, 4, 9, 10, 11, 13] },
  { id := 12, live := [1, 2, 3, 4, 9, 10] },
  { id := 4, live := [1, 2, 3, 4, 9, 10], trunc := some 2 },
  { id := 13, live := [8] }]

theorem comp12 : compF Try.prog an12 Try.f12 = some a12 := by kernel_rfl

/- graphdb/graph.Check -/
/-- loop 0 of function 13 -/
def l13_0_h : List Nat := [1, 38, 39, 40]

def l13_0_b : ACode :=
  .seq (.region none [] [
      ⟨some 41, .bin .lss .int (.tmp 40) (.tmp 39), none⟩] [1, 38, 39, 40, 41] none)
    (.seq (.cond (.tmp 41) (.skip)
    (.exit 0))
    (.seq (.block 1 (.seq (.region none [] [
        ⟨some 42, .mov (.tmp 40), none⟩,
        ⟨some 43, .iaddr 3 (.tmp 38) (.tmp 40), none⟩,
        ⟨some 44, .load (some 3) (.tmp 43), none⟩,
        ⟨some 4, .alloc 3 (.agg [.int .i64 0, .sl false [], .sl false []]), none⟩,
        ⟨some 3, .mov (.tmp 42), none⟩,
        ⟨none, .store 3 (.tmp 4) (.tmp 44), none⟩] [1, 3, 4, 38, 39, 40] none)
      (.seq (.seq (.region (some 14) [] [
        ⟨some 45, .mov (.tmp 3), none⟩,
        ⟨some 46, .bin .gtr .int (.tmp 45) (.cst (.int .i64 0)), none⟩,
        ⟨some 47, .mov (.tmp 46), none⟩,
        ⟨some 48, .faddr 0 (.tmp 4), some (47, true)⟩,
        ⟨some 49, .load none (.tmp 48), some (47, true)⟩,
        ⟨some 50, .faddr 0 (.tmp 1), some (47, true)⟩,
        ⟨some 51, .load none (.tmp 50), some (47, true)⟩,
        ⟨some 52, .mov (.tmp 3), some (47, true)⟩,
        ⟨some 53, .bin .sub .int (.tmp 52) (.cst (.int .i64 1)), some (47, true)⟩,
        ⟨some 54, .iaddr 3 (.tmp 51) (.tmp 53), some (47, true)⟩,
        ⟨some 55, .faddr 0 (.tmp 54), some (47, true)⟩,
        ⟨some 56, .load none (.tmp 55), some (47, true)⟩,
        ⟨some 57, .bin .leq .int (.tmp 49) (.tmp 56), some (47, true)⟩,
        ⟨some 58, .pick (.tmp 47) (.tmp 57) (.cst (.bool false)), none⟩] [1, 4, 38, 39, 40, 58] none)
      (.cond (.tmp 58) (.seq (.region none [] [
          ⟨some 2, .mov (.cst (.int .i64 26)), none⟩] [2] none)
        (.ret))
      (.skip)))
      (.seq (.seq (.region none [] [
        ⟨some 59, .faddr 0 (.tmp 4), none⟩,
        ⟨some 60, .load none (.tmp 59), none⟩,
        ⟨some 61, .bin .lss .int (.tmp 60) (.cst (.int .i64 1)), none⟩,
        ⟨some 62, .mov (.tmp 61), none⟩,
        ⟨some 63, .faddr 0 (.tmp 4), some (62, false)⟩,
        ⟨some 64, .load none (.tmp 63), some (62, false)⟩,
        ⟨some 65, .faddr 2 (.tmp 1), some (62, false)⟩,
        ⟨some 66, .load none (.tmp 65), some (62, false)⟩,
        ⟨some 67, .bin .geq .int (.tmp 64) (.tmp 66), some (62, false)⟩,
        ⟨some 68, .pick (.tmp 62) (.cst (.bool true)) (.tmp 67), none⟩] [1, 4, 38, 39, 40, 68] none)
      (.cond (.tmp 68) (.seq (.region none [] [
          ⟨some 2, .mov (.cst (.int .i64 1)), none⟩] [2] none)
        (.ret))
      (.skip)))
      (.seq (.region none [] [
        ⟨some 69, .faddr 1 (.tmp 4), none⟩,
        ⟨some 70, .load none (.tmp 69), none⟩,
        ⟨some 71, .faddr 2 (.tmp 4), none⟩,
        ⟨some 72, .load none (.tmp 71), none⟩,
        ⟨some 73, .call .pure 42 [(.tmp 70), (.tmp 72)], none⟩,
        ⟨some 5, .mov (.tmp 73), none⟩] [1, 5, 38, 39, 40] none)
      (.seq (.region none [] [
        ⟨some 74, .mov (.tmp 5), none⟩,
        ⟨some 75, .bin .neq .int (.tmp 74) (.cst (.int .i64 0)), none⟩] [1, 5, 38, 39, 40, 75] none)
      (.cond (.tmp 75) (.seq (.region none [] [
          ⟨some 76, .mov (.tmp 5), none⟩,
          ⟨some 2, .mov (.tmp 76), none⟩] [2] none)
        (.ret))
      (.skip))))))))
    (.region none [] [
      ⟨some 77, .bin .add .int (.tmp 40) (.cst (.int .i64 1)), none⟩,
      ⟨some 40, .mov (.tmp 77), none⟩] [1, 38, 39, 40] (some 1))))

/-- loop 1 of function 13 -/
def l13_1_h : List Nat := [1, 79, 80, 81]

def l13_1_b : ACode :=
  .seq (.region none [] [
      ⟨some 82, .bin .lss .int (.tmp 81) (.tmp 80), none⟩] [1, 79, 80, 81, 82] none)
    (.seq (.cond (.tmp 82) (.skip)
    (.exit 2))
    (.seq (.block 3 (.seq (.region none [] [
        ⟨some 83, .mov (.tmp 81), none⟩,
        ⟨some 84, .iaddr 5 (.tmp 79) (.tmp 81), none⟩,
        ⟨some 85, .load (some 5) (.tmp 84), none⟩,
        ⟨some 7, .alloc 5 (.agg [.int .i64 0, .int .i64 0, .int .i64 0, .str [], .sl false []]), none⟩,
        ⟨some 6, .mov (.tmp 83), none⟩,
        ⟨none, .store 5 (.tmp 7) (.tmp 85), none⟩] [1, 6, 7, 79, 80, 81] none)
      (.seq (.seq (.region (some 14) [] [
        ⟨some 86, .mov (.tmp 6), none⟩,
        ⟨some 87, .bin .gtr .int (.tmp 86) (.cst (.int .i64 0)), none⟩,
        ⟨some 88, .mov (.tmp 87), none⟩,
        ⟨some 89, .faddr 0 (.tmp 7), some (88, true)⟩,
        ⟨some 90, .load none (.tmp 89), some (88, true)⟩,
        ⟨some 91, .faddr 1 (.tmp 1), some (88, true)⟩,
        ⟨some 92, .load none (.tmp 91), some (88, true)⟩,
        ⟨some 93, .mov (.tmp 6), some (88, true)⟩,
        ⟨some 94, .bin .sub .int (.tmp 93) (.cst (.int .i64 1)), some (88, true)⟩,
        ⟨some 95, .iaddr 5 (.tmp 92) (.tmp 94), some (88, true)⟩,
        ⟨some 96, .faddr 0 (.tmp 95), some (88, true)⟩,
        ⟨some 97, .load none (.tmp 96), some (88, true)⟩,
        ⟨some 98, .bin .leq .int (.tmp 90) (.tmp 97), some (88, true)⟩,
        ⟨some 99, .pick (.tmp 88) (.tmp 98) (.cst (.bool false)), none⟩] [1, 7, 79, 80, 81, 99] none)
      (.cond (.tmp 99) (.seq (.region none [] [
          ⟨some 2, .mov (.cst (.int .i64 26)), none⟩] [2] none)
        (.ret))
      (.skip)))
      (.seq (.seq (.region none [] [
        ⟨some 100, .faddr 0 (.tmp 7), none⟩,
        ⟨some 101, .load none (.tmp 100), none⟩,
        ⟨some 102, .bin .lss .int (.tmp 101) (.cst (.int .i64 1)), none⟩,
        ⟨some 103, .mov (.tmp 102), none⟩,
        ⟨some 104, .faddr 0 (.tmp 7), some (103, false)⟩,
        ⟨some 105, .load none (.tmp 104), some (103, false)⟩,
        ⟨some 106, .faddr 3 (.tmp 1), some (103, false)⟩,
        ⟨some 107, .load none (.tmp 106), some (103, false)⟩,
        ⟨some 108, .bin .geq .int (.tmp 105) (.tmp 107), some (103, false)⟩,
        ⟨some 109, .pick (.tmp 103) (.cst (.bool true)) (.tmp 108), none⟩] [1, 7, 79, 80, 81, 109] none)
      (.cond (.tmp 109) (.seq (.region none [] [
          ⟨some 2, .mov (.cst (.int .i64 1)), none⟩] [2] none)
        (.ret))
      (.skip)))
      (.seq (.seq (.region none [] [
        ⟨some 110, .faddr 0 (.tmp 1), none⟩,
        ⟨some 111, .load none (.tmp 110), none⟩,
        ⟨some 112, .faddr 1 (.tmp 7), none⟩,
        ⟨some 113, .load none (.tmp 112), none⟩,
        ⟨some 114, .call .pure 43 [(.tmp 111), (.tmp 113)], none⟩,
        ⟨some 115, .un .not (.tmp 114), none⟩,
        ⟨some 116, .mov (.tmp 115), none⟩,
        ⟨some 117, .faddr 0 (.tmp 1), some (116, false)⟩,
        ⟨some 118, .load none (.tmp 117), some (116, false)⟩,
        ⟨some 119, .faddr 2 (.tmp 7), some (116, false)⟩,
        ⟨some 120, .load none (.tmp 119), some (116, false)⟩,
        ⟨some 121, .call .pure 43 [(.tmp 118), (.tmp 120)], some (116, false)⟩,
        ⟨some 122, .un .not (.tmp 121), some (116, false)⟩,
        ⟨some 123, .pick (.tmp 116) (.cst (.bool true)) (.tmp 122), none⟩] [1, 7, 79, 80, 81, 123] none)
      (.cond (.tmp 123) (.seq (.region none [] [
          ⟨some 2, .mov (.cst (.int .i64 10)), none⟩] [2] none)
        (.ret))
      (.skip)))
      (.seq (.seq (.region none [] [
        ⟨some 124, .faddr 3 (.tmp 7), none⟩,
        ⟨some 125, .load none (.tmp 124), none⟩,
        ⟨some 126, .call .pure 35 [(.tmp 125)], none⟩,
        ⟨some 127, .un .not (.tmp 126), none⟩] [1, 7, 79, 80, 81, 127] none)
      (.cond (.tmp 127) (.seq (.region none [] [
          ⟨some 2, .mov (.cst (.int .i64 6)), none⟩] [2] none)
        (.ret))
      (.skip)))
      (.seq (.region none [] [
        ⟨some 128, .faddr 4 (.tmp 7), none⟩,
        ⟨some 129, .load none (.tmp 128), none⟩,
        ⟨some 130, .call .pure 42 [(.cst (.sl false [])), (.tmp 129)], none⟩,
        ⟨some 8, .mov (.tmp 130), none⟩] [1, 8, 79, 80, 81] none)
      (.seq (.region none [] [
        ⟨some 131, .mov (.tmp 8), none⟩,
        ⟨some 132, .bin .neq .int (.tmp 131) (.cst (.int .i64 0)), none⟩] [1, 8, 79, 80, 81, 132] none)
      (.cond (.tmp 132) (.seq (.region none [] [
          ⟨some 133, .mov (.tmp 8), none⟩,
          ⟨some 2, .mov (.tmp 133), none⟩] [2] none)
        (.ret))
      (.skip))))))))))
    (.region none [] [
      ⟨some 134, .bin .add .int (.tmp 81) (.cst (.int .i64 1)), none⟩,
      ⟨some 81, .mov (.tmp 134), none⟩] [1, 79, 80, 81] (some 1))))

def c13 : ACode :=
  .seq (.region none [] [
      ⟨some 1, .box 4 (.tmp 0), none⟩,
      ⟨some 2, .mov (.cst (.int .i64 0)), none⟩] [1] none)
    (.seq (.seq (.region none [] [
      ⟨some 9, .faddr 0 (.tmp 1), none⟩,
      ⟨some 10, .load none (.tmp 9), none⟩,
      ⟨some 11, .len .slice (.tmp 10), none⟩,
      ⟨some 12, .bin .gtr .int (.tmp 11) (.cst (.int .i64 2000)), none⟩,
      ⟨some 13, .mov (.tmp 12), none⟩,
      ⟨some 14, .faddr 1 (.tmp 1), some (13, false)⟩,
      ⟨some 15, .load none (.tmp 14), some (13, false)⟩,
      ⟨some 16, .len .slice (.tmp 15), some (13, false)⟩,
      ⟨some 17, .bin .gtr .int (.tmp 16) (.cst (.int .i64 4000)), some (13, false)⟩,
      ⟨some 18, .pick (.tmp 13) (.cst (.bool true)) (.tmp 17), none⟩] [1, 18] none)
    (.cond (.tmp 18) (.seq (.region none [] [
        ⟨some 2, .mov (.cst (.int .i64 4)), none⟩] [2] none)
      (.ret))
    (.skip)))
    (.seq (.seq (.region none [] [
      ⟨some 19, .faddr 2 (.tmp 1), none⟩,
      ⟨some 20, .load none (.tmp 19), none⟩,
      ⟨some 21, .bin .lss .int (.tmp 20) (.cst (.int .i64 1)), none⟩,
      ⟨some 22, .mov (.tmp 21), none⟩,
      ⟨some 23, .faddr 2 (.tmp 1), some (22, false)⟩,
      ⟨some 24, .load none (.tmp 23), some (22, false)⟩,
      ⟨some 25, .bin .gtr .int (.tmp 24) (.cst (.int .i64 1000001)), some (22, false)⟩,
      ⟨some 26, .pick (.tmp 22) (.cst (.bool true)) (.tmp 25), none⟩,
      ⟨some 27, .mov (.tmp 26), none⟩,
      ⟨some 28, .faddr 3 (.tmp 1), some (27, false)⟩,
      ⟨some 29, .load none (.tmp 28), some (27, false)⟩,
      ⟨some 30, .bin .lss .int (.tmp 29) (.cst (.int .i64 1)), some (27, false)⟩,
      ⟨some 31, .pick (.tmp 27) (.cst (.bool true)) (.tmp 30), none⟩,
      ⟨some 32, .mov (.tmp 31), none⟩,
      ⟨some 33, .faddr 3 (.tmp 1), some (32, false)⟩,
      ⟨some 34, .load none (.tmp 33), some (32, false)⟩,
      ⟨some 35, .bin .gtr .int (.tmp 34) (.cst (.int .i64 1000001)), some (32, false)⟩,
      ⟨some 36, .pick (.tmp 32) (.cst (.bool true)) (.tmp 35), none⟩] [1, 36] none)
    (.cond (.tmp 36) (.seq (.region none [] [
        ⟨some 2, .mov (.cst (.int .i64 1)), none⟩] [2] none)
      (.ret))
    (.skip)))
    (.seq (.seq (.region none [] [
      ⟨some 37, .faddr 0 (.tmp 1), none⟩,
      ⟨some 38, .load none (.tmp 37), none⟩,
      ⟨some 39, .len .slice (.tmp 38), none⟩,
      ⟨some 40, .mov (.cst (.int .i64 0)), none⟩] [1, 38, 39, 40] none)
    (.block 0 (.loop l13_0_h l13_0_b)))
    (.seq (.seq (.region none [] [
      ⟨some 78, .faddr 1 (.tmp 1), none⟩,
      ⟨some 79, .load none (.tmp 78), none⟩,
      ⟨some 80, .len .slice (.tmp 79), none⟩,
      ⟨some 81, .mov (.cst (.int .i64 0)), none⟩] [1, 79, 80, 81] none)
    (.block 2 (.loop l13_1_h l13_1_b)))
    (.seq (.region none [] [
      ⟨some 2, .mov (.cst (.int .i64 0)), none⟩] [2] none)
    (.ret))))))

def a13 : AFunc := ⟨1, c13, [.tmp 2]⟩

def an13 : List RAnn := [
  { id := 0, live := [1] },
  { id := 1, live := [1, 18] },
  { id := 2, live := [2] },
  { id := 3, live := [1, 36] },
  { id := 4, live := [2] },
  { id := 5, live := [1, 38, 39, 40] },
  { id := 6, live := [1, 38, 39, 40, 41], hdr := [1, 38, 39, 40] },
  { id := 7, live := [1, 3, 4, 38, 39, 40] },
  { id := 8, head := some 14, live := [1, 4, 38, 39, 40, 58] },
  { id := 9, live := [2] },
  { id := 10, live := [1, 4, 38, 39, 40, 68] },
  { id := 11, live := [2] },
  { id := 12, live := [1, 5, 38, 39, 40] },
  { id := 13, live := [1, 5, 38, 39, 40, 75] },
  { id := 14, live := [2] },
  { id := 15, live := [1, 38, 39, 40], trunc := some 1 },
  { id := 16, live := [1, 79, 80, 81] },
  { id := 17, live := [1, 79, 80, 81, 82], hdr := [1, 79, 80, 81] },
  { id := 18, live := [1, 6, 7, 79, 80, 81] },
  { id := 19, head := some 14, live := [1, 7, 79, 80, 81, 99] },
  { id := 20, live := [2] },
  { id := 21, live := [1, 7, 79, 80, 81, 109] },
  { id := 22, live := [2] },
  { id := 23, live := [1, 7, 79, 80, 81, 123] },
  { id := 24, live := [2] },
  { id := 25, live := [1, 7, 79, 80, 81, 127] },
  { id := 26, live := [2] },
  { id := 27, live := [1, 8, 79, 80, 81] },
  { id := 28, live := [1, 8, 79, 80, 81, 132] },
  { id := 29, live := [2] },
  { id := 30, live := [1, 79, 80, 81], trunc := some 1 },
  { id := 31, live := [2] }]

theorem comp13 : compF Try.prog an13 Try.f13 = some a13 := by kernel_rfl

/- graphdb/graphdblaw07.has -/
/-- loop 0 of function 14 -/
def l14_0_h : List Nat := [0, 3, 7, 8]

def l14_0_b : ACode :=
  .seq (.region none [] [
      ⟨some 9, .bin .lss .int (.tmp 8) (.tmp 7), none⟩] [0, 3, 7, 8, 9] none)
    (.seq (.cond (.tmp 9) (.skip)
    (.exit 0))
    (.seq (.block 1 (.seq (.region none [] [
        ⟨some 10, .mov (.tmp 8), none⟩,
        ⟨some 5, .mov (.tmp 10), none⟩] [0, 3, 5, 7, 8] none)
      (.seq (.region (some 6) [] [
        ⟨some 11, .mov (.tmp 0), none⟩,
        ⟨some 12, .mov (.tmp 5), none⟩,
        ⟨some 13, .iaddr 3 (.tmp 11) (.tmp 12), none⟩,
        ⟨some 14, .load (some 3) (.tmp 13), none⟩,
        ⟨some 15, .load (some 3) (.tmp 3), none⟩,
        ⟨some 16, .bin .eql (.flat [.int, .int, .int]) (.tmp 14) (.tmp 15), none⟩] [0, 3, 7, 8, 16] none)
      (.cond (.tmp 16) (.seq (.region none [] [
          ⟨some 4, .mov (.cst (.bool true)), none⟩] [4] none)
        (.ret))
      (.skip)))))
    (.region none [] [
      ⟨some 17, .bin .add .int (.tmp 8) (.cst (.int .i64 1)), none⟩,
      ⟨some 8, .mov (.tmp 17), none⟩] [0, 3, 7, 8] none)))

def c14 : ACode :=
  .seq (.region none [] [
      ⟨some 3, .box 3 (.tmp 1), none⟩,
      ⟨some 4, .mov (.cst (.bool false)), none⟩] [0, 3] none)
    (.seq (.seq (.region none [] [
      ⟨some 6, .mov (.tmp 0), none⟩,
      ⟨some 7, .len .slice (.tmp 6), none⟩,
      ⟨some 8, .mov (.cst (.int .i64 0)), none⟩] [0, 3, 7, 8] none)
    (.block 0 (.loop l14_0_h l14_0_b)))
    (.seq (.region none [] [
      ⟨some 4, .mov (.cst (.bool false)), none⟩] [4] none)
    (.ret)))

def a14 : AFunc := ⟨2, c14, [.tmp 4]⟩

def an14 : List RAnn := [
  { id := 0, live := [0, 3] },
  { id := 1, live := [0, 3, 7, 8] },
  { id := 2, live := [0, 3, 7, 8, 9], hdr := [0, 3, 7, 8] },
  { id := 3, live := [0, 3, 5, 7, 8] },
  { id := 4, head := some 6, live := [0, 3, 7, 8, 16] },
  { id := 5, live := [4] },
  { id := 6, live := [0, 3, 7, 8] },
  { id := 7, live := [4] }]

theorem comp14 : compF Try.prog an14 Try.f14 = some a14 := by kernel_rfl

/- graphdb/graph.HasType -/
def c15 : ACode :=
  .seq (.region none [] [
      ⟨some 2, .box 5 (.tmp 0), none⟩,
      ⟨some 4, .mov (.cst (.bool false)), none⟩] [1, 2] none)
    (.seq (.region none [] [
      ⟨some 5, .mov (.tmp 1), none⟩,
      ⟨some 6, .len .slice (.tmp 5), none⟩,
      ⟨some 7, .bin .eql .int (.tmp 6) (.cst (.int .i64 0)), none⟩,
      ⟨some 8, .mov (.tmp 7), none⟩,
      ⟨some 9, .mov (.tmp 1), some (8, false)⟩,
      ⟨some 10, .faddr 3 (.tmp 2), some (8, false)⟩,
      ⟨some 11, .load none (.tmp 10), some (8, false)⟩,
      ⟨some 12, .call .pure 44 [(.tmp 9), (.tmp 11)], some (8, false)⟩,
      ⟨some 13, .pick (.tmp 8) (.cst (.bool true)) (.tmp 12), none⟩,
      ⟨some 4, .mov (.tmp 13), none⟩] [4] none)
    (.ret))

def a15 : AFunc := ⟨2, c15, [.tmp 4]⟩

def an15 : List RAnn := [
  { id := 0, live := [1, 2] },
  { id := 1, live := [4] }]

theorem comp15 : compF Try.prog an15 Try.f15 = some a15 := by kernel_rfl

/- graphdb/graph.Node -/
/-- loop 0 of function 16 -/
def l16_0_h : List Nat := [1, 4, 9, 10, 11]

def l16_0_b : ACode :=
  .seq (.region none [] [
      ⟨some 12, .bin .lss .int (.tmp 11) (.tmp 10), none⟩] [1, 4, 9, 10, 11, 12] none)
    (.seq (.cond (.tmp 12) (.skip)
    (.exit 0))
    (.seq (.block 1 (.seq (.region none [] [
        ⟨some 13, .iaddr 3 (.tmp 9) (.tmp 11), none⟩,
        ⟨some 14, .load (some 3) (.tmp 13), none⟩,
        ⟨some 7, .alloc 3 (.agg [.int .i64 0, .sl false [], .sl false []]), none⟩,
        ⟨none, .store 3 (.tmp 7) (.tmp 14), none⟩] [1, 4, 7, 9, 10, 11] none)
      (.seq (.region none [] [
        ⟨some 15, .faddr 0 (.tmp 7), none⟩,
        ⟨some 16, .load none (.tmp 15), none⟩,
        ⟨some 17, .mov (.tmp 1), none⟩,
        ⟨some 18, .bin .eql .int (.tmp 16) (.tmp 17), none⟩] [1, 4, 7, 9, 10, 11, 18] none)
      (.cond (.tmp 18) (.seq (.region (some 8) [] [
          ⟨some 19, .mov (.tmp 1), none⟩,
          ⟨some 20, .faddr 1 (.tmp 7), none⟩,
          ⟨some 21, .load none (.tmp 20), none⟩,
          ⟨some 22, .call .pure 45 [(.tmp 21)], none⟩,
          ⟨some 23, .faddr 2 (.tmp 7), none⟩,
          ⟨some 24, .load none (.tmp 23), none⟩,
          ⟨some 25, .call .pure 46 [(.tmp 24)], none⟩,
          ⟨some 26, .build [.int .i64 0, .sl false [], .sl false []] [(0, 1, (.tmp 19)), (1, 1, (.tmp 22)), (2, 1, (.tmp 25))], none⟩,
          ⟨none, .store 3 (.tmp 4) (.tmp 26), none⟩,
          ⟨some 5, .mov (.cst (.bool true)), none⟩] [4, 5] none)
        (.ret))
      (.skip)))))
    (.region none [] [
      ⟨some 27, .bin .add .int (.tmp 11) (.cst (.int .i64 1)), none⟩,
      ⟨some 11, .mov (.tmp 27), none⟩] [1, 4, 9, 10, 11] (some 2))))

def c16 : ACode :=
  .seq (.region none [] [
      ⟨some 2, .box 4 (.tmp 0), none⟩,
      ⟨some 4, .alloc 3 (.agg [.int .i64 0, .sl false [], .sl false []]), none⟩,
      ⟨some 5, .mov (.cst (.bool false)), none⟩] [1, 2, 4] none)
    (.seq (.seq (.region none [] [
      ⟨some 8, .faddr 0 (.tmp 2), none⟩,
      ⟨some 9, .load none (.tmp 8), none⟩,
      ⟨some 10, .len .slice (.tmp 9), none⟩,
      ⟨some 11, .mov (.cst (.int .i64 0)), none⟩] [1, 4, 9, 10, 11] none)
    (.block 0 (.loop l16_0_h l16_0_b)))
    (.seq (.region none [] [
      ⟨some 28, .build [.int .i64 0, .sl false [], .sl false []] [], none⟩,
      ⟨none, .store 3 (.tmp 4) (.tmp 28), none⟩,
      ⟨some 5, .mov (.cst (.bool false)), none⟩] [4, 5] none)
    (.ret)))

def a16 : AFunc := ⟨2, c16, [.cell 4 (some 3), .tmp 5]⟩

def an16 : List RAnn := [
  { id := 0, live := [1, 2, 4] },
  { id := 1, live := [1, 4, 9, 10, 11] },
  { id := 2, live := [1, 4, 9, 10, 11, 12], hdr := [1, 4, 9, 10, 11] },
  { id := 3, live := [1, 4, 7, 9, 10, 11] },
  { id := 4, live := [1, 4, 7, 9, 10, 11, 18] },
  { id := 5, head := some 8, live := [4, 5] },
  { id := 6, live := [1, 4, 9, 10, 11], trunc := some 2 },
  { id := 7, live := [4, 5] }]

theorem comp16 : compF Try.prog an16 Try.f16 = some a16 := by kernel_rfl

/- graphdb/graphdbref07.Node -/
/-- loop 0 of function 17 -/
def l17_0_h : List Nat := [1, 2, 4, 6]

def l17_0_b : ACode :=
  .seq (.seq (.region none [] [
      ⟨some 7, .mov (.tmp 6), none⟩,
      ⟨some 8, .faddr 0 (.tmp 2), none⟩,
      ⟨some 9, .load none (.tmp 8), none⟩,
      ⟨some 10, .len .slice (.tmp 9), none⟩,
      ⟨some 11, .bin .lss .int (.tmp 7) (.tmp 10), none⟩] [1, 2, 4, 6, 11] none)
    (.cond (.tmp 11) (.skip)
    (.exit 0)))
    (.seq (.block 1 (.seq (.region none [] [
        ⟨some 14, .faddr 0 (.tmp 2), none⟩,
        ⟨some 15, .load none (.tmp 14), none⟩,
        ⟨some 16, .mov (.tmp 6), none⟩,
        ⟨some 17, .iaddr 3 (.tmp 15) (.tmp 16), none⟩,
        ⟨some 18, .faddr 0 (.tmp 17), none⟩,
        ⟨some 19, .load none (.tmp 18), none⟩,
        ⟨some 20, .mov (.tmp 1), none⟩,
        ⟨some 21, .bin .eql .int (.tmp 19) (.tmp 20), none⟩] [1, 2, 4, 6, 21] none)
      (.cond (.tmp 21) (.seq (.region none [] [
          ⟨some 22, .faddr 0 (.tmp 2), none⟩,
          ⟨some 23, .load none (.tmp 22), none⟩,
          ⟨some 24, .mov (.tmp 6), none⟩,
          ⟨some 25, .iaddr 3 (.tmp 23) (.tmp 24), none⟩,
          ⟨some 26, .load (some 3) (.tmp 25), none⟩,
          ⟨none, .store 3 (.tmp 4) (.tmp 26), none⟩,
          ⟨some 5, .mov (.cst (.bool true)), none⟩] [4, 5] none)
        (.ret))
      (.skip))))
    (.region none [] [
      ⟨some 12, .mov (.tmp 6), none⟩,
      ⟨some 13, .bin .add .int (.tmp 12) (.cst (.int .i64 1)), none⟩,
      ⟨some 6, .mov (.tmp 13), none⟩] [1, 2, 4, 6] none))

def c17 : ACode :=
  .seq (.region none [] [
      ⟨some 2, .box 4 (.tmp 0), none⟩,
      ⟨some 4, .alloc 3 (.agg [.int .i64 0, .sl false [], .sl false []]), none⟩,
      ⟨some 5, .mov (.cst (.bool false)), none⟩] [1, 2, 4] none)
    (.seq (.seq (.region none [] [
      ⟨some 6, .mov (.cst (.int .i64 0)), none⟩] [1, 2, 4, 6] none)
    (.block 0 (.loop l17_0_h l17_0_b)))
    (.seq (.region none [] [
      ⟨some 27, .build [.int .i64 0, .sl false [], .sl false []] [], none⟩,
      ⟨none, .store 3 (.tmp 4) (.tmp 27), none⟩,
      ⟨some 5, .mov (.cst (.bool false)), none⟩] [4, 5] none)
    (.ret)))

def a17 : AFunc := ⟨2, c17, [.cell 4 (some 3), .tmp 5]⟩

def an17 : List RAnn := [
  { id := 0, live := [1, 2, 4] },
  { id := 1, live := [1, 2, 4, 6] },
  { id := 2, live := [1, 2, 4, 6, 11], hdr := [1, 2, 4, 6] },
  { id := 4, live := [1, 2, 4, 6, 21] },
  { id := 5, live := [4, 5] },
  { id := 3, live := [1, 2, 4, 6] },
  { id := 6, live := [4, 5] }]

theorem comp17 : compF Try.prog an17 Try.f17 = some a17 := by kernel_rfl

/- graphdb/graph.Edge -/
/-- loop 0 of function 18 -/
def l18_0_h : List Nat := [1, 4, 9, 10, 11]

def l18_0_b : ACode :=
  .seq (.region none [] [
      ⟨some 12, .bin .lss .int (.tmp 11) (.tmp 10), none⟩] [1, 4, 9, 10, 11, 12] none)
    (.seq (.cond (.tmp 12) (.skip)
    (.exit 0))
    (.seq (.block 1 (.seq (.region none [] [
        ⟨some 13, .iaddr 5 (.tmp 9) (.tmp 11), none⟩,
        ⟨some 14, .load (some 5) (.tmp 13), none⟩,
        ⟨some 7, .alloc 5 (.agg [.int .i64 0, .int .i64 0, .int .i64 0, .str [], .sl false []]), none⟩,
        ⟨none, .store 5 (.tmp 7) (.tmp 14), none⟩] [1, 4, 7, 9, 10, 11] none)
      (.seq (.region none [] [
        ⟨some 15, .faddr 0 (.tmp 7), none⟩,
        ⟨some 16, .load none (.tmp 15), none⟩,
        ⟨some 17, .mov (.tmp 1), none⟩,
        ⟨some 18, .bin .eql .int (.tmp 16) (.tmp 17), none⟩] [1, 4, 7, 9, 10, 11, 18] none)
      (.cond (.tmp 18) (.seq (.region none [] [
          ⟨some 19, .faddr 4 (.tmp 7), none⟩,
          ⟨some 20, .load none (.tmp 19), none⟩,
          ⟨some 21, .call .pure 46 [(.tmp 20)], none⟩,
          ⟨some 22, .faddr 4 (.tmp 7), none⟩,
          ⟨none, .store 1 (.tmp 22) (.tmp 21), none⟩] [4, 7] none)
        (.seq (.region none [] [
          ⟨some 23, .load (some 5) (.tmp 7), none⟩,
          ⟨none, .store 5 (.tmp 4) (.tmp 23), none⟩,
          ⟨some 5, .mov (.cst (.bool true)), none⟩] [4, 5] none)
        (.ret)))
      (.skip)))))
    (.region none [] [
      ⟨some 24, .bin .add .int (.tmp 11) (.cst (.int .i64 1)), none⟩,
      ⟨some 11, .mov (.tmp 24), none⟩] [1, 4, 9, 10, 11] (some 2))))

def c18 : ACode :=
  .seq (.region none [] [
      ⟨some 2, .box 4 (.tmp 0), none⟩,
      ⟨some 4, .alloc 5 (.agg [.int .i64 0, .int .i64 0, .int .i64 0, .str [], .sl false []]), none⟩,
      ⟨some 5, .mov (.cst (.bool false)), none⟩] [1, 2, 4] none)
    (.seq (.seq (.region none [] [
      ⟨some 8, .faddr 1 (.tmp 2), none⟩,
      ⟨some 9, .load none (.tmp 8), none⟩,
      ⟨some 10, .len .slice (.tmp 9), none⟩,
      ⟨some 11, .mov (.cst (.int .i64 0)), none⟩] [1, 4, 9, 10, 11] none)
    (.block 0 (.loop l18_0_h l18_0_b)))
    (.seq (.region none [] [
      ⟨some 25, .build [.int .i64 0, .int .i64 0, .int .i64 0, .str [], .sl false []] [], none⟩,
      ⟨none, .store 5 (.tmp 4) (.tmp 25), none⟩,
      ⟨some 5, .mov (.cst (.bool false)), none⟩] [4, 5] none)
    (.ret)))

def a18 : AFunc := ⟨2, c18, [.cell 4 (some 5), .tmp 5]⟩

def an18 : List RAnn := [
  { id := 0, live := [1, 2, 4] },
  { id := 1, live := [1, 4, 9, 10, 11] },
  { id := 2, live := [1, 4, 9, 10, 11, 12], hdr := [1, 4, 9, 10, 11] },
  { id := 3, live := [1, 4, 7, 9, 10, 11] },
  { id := 4, live := [1, 4, 7, 9, 10, 11, 18] },
  { id := 5, live := [4, 7] },
  { id := 6, live := [4, 5] },
  { id := 7, live := [1, 4, 9, 10, 11], trunc := some 2 },
  { id := 8, live := [4, 5] }]

theorem comp18 : compF Try.prog an18 Try.f18 = some a18 := by kernel_rfl

/- graphdb/graphdbref07.Edge -/
/-- loop 0 of function 19 -/
def l19_0_h : List Nat := [1, 2, 4, 6]

def l19_0_b : ACode :=
  .seq (.seq (.region none [] [
      ⟨some 7, .mov (.tmp 6), none⟩,
      ⟨some 8, .faddr 1 (.tmp 2), none⟩,
      ⟨some 9, .load none (.tmp 8), none⟩,
      ⟨some 10, .len .slice (.tmp 9), none⟩,
      ⟨some 11, .bin .lss .int (.tmp 7) (.tmp 10), none⟩] [1, 2, 4, 6, 11] none)
    (.cond (.tmp 11) (.skip)
    (.exit 0)))
    (.seq (.block 1 (.seq (.region none [] [
        ⟨some 14, .faddr 1 (.tmp 2), none⟩,
        ⟨some 15, .load none (.tmp 14), none⟩,
        ⟨some 16, .mov (.tmp 6), none⟩,
        ⟨some 17, .iaddr 5 (.tmp 15) (.tmp 16), none⟩,
        ⟨some 18, .faddr 0 (.tmp 17), none⟩,
        ⟨some 19, .load none (.tmp 18), none⟩,
        ⟨some 20, .mov (.tmp 1), none⟩,
        ⟨some 21, .bin .eql .int (.tmp 19) (.tmp 20), none⟩] [1, 2, 4, 6, 21] none)
      (.cond (.tmp 21) (.seq (.region none [] [
          ⟨some 22, .faddr 1 (.tmp 2), none⟩,
          ⟨some 23, .load none (.tmp 22), none⟩,
          ⟨some 24, .mov (.tmp 6), none⟩,
          ⟨some 25, .iaddr 5 (.tmp 23) (.tmp 24), none⟩,
          ⟨some 26, .load (some 5) (.tmp 25), none⟩,
          ⟨none, .store 5 (.tmp 4) (.tmp 26), none⟩,
          ⟨some 5, .mov (.cst (.bool true)), none⟩] [4, 5] none)
        (.ret))
      (.skip))))
    (.region none [] [
      ⟨some 12, .mov (.tmp 6), none⟩,
      ⟨some 13, .bin .add .int (.tmp 12) (.cst (.int .i64 1)), none⟩,
      ⟨some 6, .mov (.tmp 13), none⟩] [1, 2, 4, 6] none))

def c19 : ACode :=
  .seq (.region none [] [
      ⟨some 2, .box 4 (.tmp 0), none⟩,
      ⟨some 4, .alloc 5 (.agg [.int .i64 0, .int .i64 0, .int .i64 0, .str [], .sl false []]), none⟩,
      ⟨some 5, .mov (.cst (.bool false)), none⟩] [1, 2, 4] none)
    (.seq (.seq (.region none [] [
      ⟨some 6, .mov (.cst (.int .i64 0)), none⟩] [1, 2, 4, 6] none)
    (.block 0 (.loop l19_0_h l19_0_b)))
    (.seq (.region none [] [
      ⟨some 27, .build [.int .i64 0, .int .i64 0, .int .i64 0, .str [], .sl false []] [], none⟩,
      ⟨none, .store 5 (.tmp 4) (.tmp 27), none⟩,
      ⟨some 5, .mov (.cst (.bool false)), none⟩] [4, 5] none)
    (.ret)))

def a19 : AFunc := ⟨2, c19, [.cell 4 (some 5), .tmp 5]⟩

def an19 : List RAnn := [
  { id := 0, live := [1, 2, 4] },
  { id := 1, live := [1, 2, 4, 6] },
  { id := 2, live := [1, 2, 4, 6, 11], hdr := [1, 2, 4, 6] },
  { id := 4, live := [1, 2, 4, 6, 21] },
  { id := 5, live := [4, 5] },
  { id := 3, live := [1, 2, 4, 6] },
  { id := 6, live := [4, 5] }]

theorem comp19 : compF Try.prog an19 Try.f19 = some a19 := by kernel_rfl

/- graphdb/graphdbref07.SameParts -/
/-- loop 0 of function 20 -/
def l20_0_h : List Nat := [2, 3, 5]

def l20_0_b : ACode :=
  .seq (.seq (.region none [] [
      ⟨some 27, .mov (.tmp 5), none⟩,
      ⟨some 28, .faddr 0 (.tmp 2), none⟩,
      ⟨some 29, .load none (.tmp 28), none⟩,
      ⟨some 30, .len .slice (.tmp 29), none⟩,
      ⟨some 31, .bin .lss .int (.tmp 27) (.tmp 30), none⟩] [2, 3, 5, 31] none)
    (.cond (.tmp 31) (.skip)
    (.exit 0)))
    (.seq (.block 1 (.seq (.par 14 [(1, 10), (3, 10), (4, 10), (6, 10), (8, 10), (9, 10), (1, 11), (3, 11), (4, 11), (6, 11), (8, 11), (9, 11), (10, 11), (6, 12), (8, 12), (9, 12)] [] [
        ⟨some 34, .faddr 0 (.tmp 2), none⟩,
        ⟨some 35, .load none (.tmp 34), none⟩,
        ⟨some 36, .mov (.tmp 5), none⟩,
        ⟨some 37, .iaddr 3 (.tmp 35) (.tmp 36), none⟩,
        ⟨some 38, .load (some 3) (.tmp 37), none⟩,
        ⟨some 39, .faddr 0 (.tmp 3), none⟩,
        ⟨some 40, .load none (.tmp 39), none⟩,
        ⟨some 41, .mov (.tmp 5), none⟩,
        ⟨some 42, .iaddr 3 (.tmp 40) (.tmp 41), none⟩,
        ⟨some 43, .load (some 3) (.tmp 42), none⟩,
        ⟨some 6, .alloc 3 (.agg [.int .i64 0, .sl false [], .sl false []]), none⟩,
        ⟨some 7, .alloc 3 (.agg [.int .i64 0, .sl false [], .sl false []]), none⟩,
        ⟨none, .store 3 (.tmp 6) (.tmp 38), none⟩,
        ⟨none, .store 3 (.tmp 7) (.tmp 43), none⟩] [2, 3, 5, 6, 7] none)
      (.seq (.region none [] [
        ⟨some 44, .faddr 0 (.tmp 6), none⟩,
        ⟨some 45, .load none (.tmp 44), none⟩,
        ⟨some 46, .faddr 0 (.tmp 7), none⟩,
        ⟨some 47, .load none (.tmp 46), none⟩,
        ⟨some 48, .bin .neq .int (.tmp 45) (.tmp 47), none⟩,
        ⟨some 49, .mov (.tmp 48), none⟩,
        ⟨some 50, .faddr 1 (.tmp 6), some (49, false)⟩,
        ⟨some 51, .load none (.tmp 50), some (49, false)⟩,
        ⟨some 52, .faddr 1 (.tmp 7), some (49, false)⟩,
        ⟨some 53, .load none (.tmp 52), some (49, false)⟩,
        ⟨some 54, .call .pure 27 [(.tmp 51), (.tmp 53)], some (49, false)⟩,
        ⟨some 55, .un .not (.tmp 54), some (49, false)⟩,
        ⟨some 56, .pick (.tmp 49) (.cst (.bool true)) (.tmp 55), none⟩,
        ⟨some 57, .mov (.tmp 56), none⟩,
        ⟨some 58, .faddr 2 (.tmp 6), some (57, false)⟩,
        ⟨some 59, .load none (.tmp 58), some (57, false)⟩,
        ⟨some 60, .faddr 2 (.tmp 7), some (57, false)⟩,
        ⟨some 61, .load none (.tmp 60), some (57, false)⟩,
        ⟨some 62, .call .pure 47 [(.tmp 59), (.tmp 61)], some (57, false)⟩,
        ⟨some 63, .un .not (.tmp 62), some (57, false)⟩,
        ⟨some 64, .pick (.tmp 57) (.cst (.bool true)) (.tmp 63), none⟩] [2, 3, 5, 64] none)
      (.cond (.tmp 64) (.seq (.region none [] [
          ⟨some 4, .mov (.cst (.bool false)), none⟩] [4] none)
        (.ret))
      (.skip)))))
    (.region none [] [
      ⟨some 32, .mov (.tmp 5), none⟩,
      ⟨some 33, .bin .add .int (.tmp 32) (.cst (.int .i64 1)), none⟩,
      ⟨some 5, .mov (.tmp 33), none⟩] [2, 3, 5] (some 2)))

/-- loop 1 of function 20 -/
def l20_1_h : List Nat := [2, 3, 8]

def l20_1_b : ACode :=
  .seq (.seq (.region none [] [
      ⟨some 65, .mov (.tmp 8), none⟩,
      ⟨some 66, .faddr 1 (.tmp 2), none⟩,
      ⟨some 67, .load none (.tmp 66), none⟩,
      ⟨some 68, .len .slice (.tmp 67), none⟩,
      ⟨some 69, .bin .lss .int (.tmp 65) (.tmp 68), none⟩] [2, 3, 8, 69] none)
    (.cond (.tmp 69) (.skip)
    (.exit 2)))
    (.seq (.block 3 (.seq (.par 14 [(1, 10), (3, 10), (4, 10), (6, 10), (8, 10), (9, 10), (1, 11), (3, 11), (4, 11), (6, 11), (8, 11), (9, 11), (10, 11), (6, 12), (8, 12), (9, 12)] [] [
        ⟨some 72, .faddr 1 (.tmp 2), none⟩,
        ⟨some 73, .load none (.tmp 72), none⟩,
        ⟨some 74, .mov (.tmp 8), none⟩,
        ⟨some 75, .iaddr 5 (.tmp 73) (.tmp 74), none⟩,
        ⟨some 76, .load (some 5) (.tmp 75), none⟩,
        ⟨some 77, .faddr 1 (.tmp 3), none⟩,
        ⟨some 78, .load none (.tmp 77), none⟩,
        ⟨some 79, .mov (.tmp 8), none⟩,
        ⟨some 80, .iaddr 5 (.tmp 78) (.tmp 79), none⟩,
        ⟨some 81, .load (some 5) (.tmp 80), none⟩,
        ⟨some 9, .alloc 5 (.agg [.int .i64 0, .int .i64 0, .int .i64 0, .str [], .sl false []]), none⟩,
        ⟨some 10, .alloc 5 (.agg [.int .i64 0, .int .i64 0, .int .i64 0, .str [], .sl false []]), none⟩,
        ⟨none, .store 5 (.tmp 9) (.tmp 76), none⟩,
        ⟨none, .store 5 (.tmp 10) (.tmp 81), none⟩] [2, 3, 8, 9, 10] none)
      (.seq (.region none [] [
        ⟨some 82, .faddr 0 (.tmp 9), none⟩,
        ⟨some 83, .load none (.tmp 82), none⟩,
        ⟨some 84, .faddr 0 (.tmp 10), none⟩,
        ⟨some 85, .load none (.tmp 84), none⟩,
        ⟨some 86, .bin .neq .int (.tmp 83) (.tmp 85), none⟩,
        ⟨some 87, .mov (.tmp 86), none⟩,
        ⟨some 88, .faddr 1 (.tmp 9), some (87, false)⟩,
        ⟨some 89, .load none (.tmp 88), some (87, false)⟩,
        ⟨some 90, .faddr 1 (.tmp 10), some (87, false)⟩,
        ⟨some 91, .load none (.tmp 90), some (87, false)⟩,
        ⟨some 92, .bin .neq .int (.tmp 89) (.tmp 91), some (87, false)⟩,
        ⟨some 93, .pick (.tmp 87) (.cst (.bool true)) (.tmp 92), none⟩,
        ⟨some 94, .mov (.tmp 93), none⟩,
        ⟨some 95, .faddr 2 (.tmp 9), some (94, false)⟩,
        ⟨some 96, .load none (.tmp 95), some (94, false)⟩,
        ⟨some 97, .faddr 2 (.tmp 10), some (94, false)⟩,
        ⟨some 98, .load none (.tmp 97), some (94, false)⟩,
        ⟨some 99, .bin .neq .int (.tmp 96) (.tmp 98), some (94, false)⟩,
        ⟨some 100, .pick (.tmp 94) (.cst (.bool true)) (.tmp 99), none⟩,
        ⟨some 101, .mov (.tmp 100), none⟩,
        ⟨some 102, .faddr 3 (.tmp 9), some (101, false)⟩,
        ⟨some 103, .load none (.tmp 102), some (101, false)⟩,
        ⟨some 104, .faddr 3 (.tmp 10), some (101, false)⟩,
        ⟨some 105, .load none (.tmp 104), some (101, false)⟩,
        ⟨some 106, .bin .neq .str (.tmp 103) (.tmp 105), some (101, false)⟩,
        ⟨some 107, .pick (.tmp 101) (.cst (.bool true)) (.tmp 106), none⟩,
        ⟨some 108, .mov (.tmp 107), none⟩,
        ⟨some 109, .faddr 4 (.tmp 9), some (108, false)⟩,
        ⟨some 110, .load none (.tmp 109), some (108, false)⟩,
        ⟨some 111, .faddr 4 (.tmp 10), some (108, false)⟩,
        ⟨some 112, .load none (.tmp 111), some (108, false)⟩,
        ⟨some 113, .call .pure 47 [(.tmp 110), (.tmp 112)], some (108, false)⟩,
        ⟨some 114, .un .not (.tmp 113), some (108, false)⟩,
        ⟨some 115, .pick (.tmp 108) (.cst (.bool true)) (.tmp 114), none⟩] [2, 3, 8, 115] none)
      (.cond (.tmp 115) (.seq (.region none [] [
          ⟨some 4, .mov (.cst (.bool false)), none⟩] [4] none)
        (.ret))
      (.skip)))))
    (.region none [] [
      ⟨some 70, .mov (.tmp 8), none⟩,
      ⟨some 71, .bin .add .int (.tmp 70) (.cst (.int .i64 1)), none⟩,
      ⟨some 8, .mov (.tmp 71), none⟩] [2, 3, 8] (some 2)))

def c20 : ACode :=
  .seq (.region none [] [
      ⟨some 2, .box 4 (.tmp 0), none⟩,
      ⟨some 3, .box 4 (.tmp 1), none⟩,
      ⟨some 4, .mov (.cst (.bool false)), none⟩] [2, 3] none)
    (.seq (.seq (.region none [] [
      ⟨some 11, .faddr 0 (.tmp 2), none⟩,
      ⟨some 12, .load none (.tmp 11), none⟩,
      ⟨some 13, .len .slice (.tmp 12), none⟩,
      ⟨some 14, .faddr 0 (.tmp 3), none⟩,
      ⟨some 15, .load none (.tmp 14), none⟩,
      ⟨some 16, .len .slice (.tmp 15), none⟩,
      ⟨some 17, .bin .neq .int (.tmp 13) (.tmp 16), none⟩,
      ⟨some 18, .mov (.tmp 17), none⟩,
      ⟨some 19, .faddr 1 (.tmp 2), some (18, false)⟩,
      ⟨some 20, .load none (.tmp 19), some (18, false)⟩,
      ⟨some 21, .len .slice (.tmp 20), some (18, false)⟩,
      ⟨some 22, .faddr 1 (.tmp 3), some (18, false)⟩,
      ⟨some 23, .load none (.tmp 22), some (18, false)⟩,
      ⟨some 24, .len .slice (.tmp 23), some (18, false)⟩,
      ⟨some 25, .bin .neq .int (.tmp 21) (.tmp 24), some (18, false)⟩,
      ⟨some 26, .pick (.tmp 18) (.cst (.bool true)) (.tmp 25), none⟩] [2, 3, 26] none)
    (.cond (.tmp 26) (.seq (.region none [] [
        ⟨some 4, .mov (.cst (.bool false)), none⟩] [4] none)
      (.ret))
    (.skip)))
    (.seq (.seq (.region none [] [
      ⟨some 5, .mov (.cst (.int .i64 0)), none⟩] [2, 3, 5] none)
    (.block 0 (.loop l20_0_h l20_0_b)))
    (.seq (.seq (.region none [] [
      ⟨some 8, .mov (.cst (.int .i64 0)), none⟩] [2, 3, 8] none)
    (.block 2 (.loop l20_1_h l20_1_b)))
    (.seq (.region none [] [
      ⟨some 4, .mov (.cst (.bool true)), none⟩] [4] none)
    (.ret)))))

def a20 : AFunc := ⟨2, c20, [.tmp 4]⟩

def an20 : List RAnn := [
  { id := 0, live := [2, 3] },
  { id := 1, live := [2, 3, 26] },
  { id := 2, live := [4] },
  { id := 3, live := [2, 3, 5] },
  { id := 4, live := [2, 3, 5, 31], hdr := [2, 3, 5] },
  { id := 6, head := some 14, live := [2, 3, 5, 6, 7], par := true },
  { id := 7, live := [2, 3, 5, 64] },
  { id := 8, live := [4] },
  { id := 5, live := [2, 3, 5], trunc := some 2 },
  { id := 9, live := [2, 3, 8] },
  { id := 10, live := [2, 3, 8, 69], hdr := [2, 3, 8] },
  { id := 12, head := some 14, live := [2, 3, 8, 9, 10], par := true },
  { id := 13, live := [2, 3, 8, 115] },
  { id := 14, live := [4] },
  { id := 11, live := [2, 3, 8], trunc := some 2 },
  { id := 15, live := [4] }]

theorem comp20 : compF Try.prog an20 Try.f20 = some a20 := by kernel_rfl

/- graphdb/graph.HasLabel -/
def c21 : ACode :=
  .seq (.region none [] [
      ⟨some 2, .box 3 (.tmp 0), none⟩,
      ⟨some 4, .mov (.cst (.bool false)), none⟩] [1, 2] none)
    (.seq (.region none [] [
      ⟨some 5, .faddr 1 (.tmp 2), none⟩,
      ⟨some 6, .load none (.tmp 5), none⟩,
      ⟨some 7, .mov (.tmp 1), none⟩,
      ⟨some 8, .call .pure 44 [(.tmp 6), (.tmp 7)], none⟩,
      ⟨some 4, .mov (.tmp 8), none⟩] [4] none)
    (.ret))

def a21 : AFunc := ⟨2, c21, [.tmp 4]⟩

def an21 : List RAnn := [
  { id := 0, live := [1, 2] },
  { id := 1, live := [4] }]

theorem comp21 : compF Try.prog an21 Try.f21 = some a21 := by kernel_rfl

/- graphdb/graphdbref07.HasLabel -/
def c22 : ACode :=
  .seq (.region none [] [
      ⟨some 2, .box 3 (.tmp 0), none⟩,
      ⟨some 4, .mov (.cst (.bool false)), none⟩] [1, 2] none)
    (.seq (.region none [] [
      ⟨some 5, .faddr 1 (.tmp 2), none⟩,
      ⟨some 6, .load none (.tmp 5), none⟩,
      ⟨some 7, .mov (.tmp 1), none⟩,
      ⟨some 8, .call .pure 48 [(.tmp 6), (.tmp 7)], none⟩,
      ⟨some 4, .mov (.tmp 8), none⟩] [4] none)
    (.ret))

def a22 : AFunc := ⟨2, c22, [.tmp 4]⟩

def an22 : List RAnn := [
  { id := 0, live := [1, 2] },
  { id := 1, live := [4] }]

theorem comp22 : compF Try.prog an22 Try.f22 = some a22 := by kernel_rfl

/- graphdb/graphdbref04.Order -/
def c23 : ACode :=
  .seq (.region none [] [
      ⟨some 2, .box 5 (.tmp 0), none⟩,
      ⟨some 3, .box 5 (.tmp 1), none⟩,
      ⟨some 4, .mov (.cst (.int .i64 0)), none⟩] [2, 3] none)
    (.seq (.region (some 6) [] [
      ⟨some 12, .load (some 5) (.tmp 2), none⟩,
      ⟨some 13, .call .pure 49 [(.tmp 12)], none⟩,
      ⟨some 14, .load (some 5) (.tmp 3), none⟩,
      ⟨some 15, .call .pure 49 [(.tmp 14)], none⟩,
      ⟨some 5, .mov (.tmp 13), none⟩,
      ⟨some 6, .mov (.tmp 15), none⟩] [2, 3, 5, 6] none)
    (.seq (.seq (.region none [] [
      ⟨some 16, .mov (.tmp 5), none⟩,
      ⟨some 17, .mov (.tmp 6), none⟩,
      ⟨some 18, .bin .neq .bool (.tmp 16) (.tmp 17), none⟩] [2, 3, 5, 18] none)
    (.cond (.tmp 18) (.seq (.region none [] [
        ⟨some 19, .mov (.tmp 5), none⟩,
        ⟨some 20, .call .pure 50 [(.tmp 19)], none⟩,
        ⟨some 21, .bin .sub .int (.cst (.int .i64 1)) (.tmp 20), none⟩,
        ⟨some 4, .mov (.tmp 21), none⟩] [4] none)
      (.ret))
    (.skip)))
    (.seq (.seq (.region none [] [
      ⟨some 22, .mov (.tmp 5), none⟩,
      ⟨some 23, .un .not (.tmp 22), none⟩] [2, 3, 23] none)
    (.cond (.tmp 23) (.seq (.region none [] [
        ⟨some 24, .load (some 5) (.tmp 2), none⟩,
        ⟨some 25, .load (some 5) (.tmp 3), none⟩,
        ⟨some 26, .call .pure 51 [(.tmp 24), (.tmp 25)], none⟩,
        ⟨some 4, .mov (.tmp 26), none⟩] [4] none)
      (.ret))
    (.skip)))
    (.seq (.seq (.region (some 8) [] [
      ⟨some 27, .faddr 0 (.tmp 2), none⟩,
      ⟨some 28, .load none (.tmp 27), none⟩,
      ⟨some 29, .call .pure 53 [(.tmp 28)], none⟩,
      ⟨some 30, .faddr 0 (.tmp 3), none⟩,
      ⟨some 31, .load none (.tmp 30), none⟩,
      ⟨some 32, .call .pure 53 [(.tmp 31)], none⟩,
      ⟨some 33, .call .pure 52 [(.tmp 29), (.tmp 32)], none⟩,
      ⟨some 7, .mov (.tmp 33), none⟩] [2, 3, 7] none)
    (.seq (.region none [] [
      ⟨some 34, .mov (.tmp 7), none⟩,
      ⟨some 35, .bin .neq .int (.tmp 34) (.cst (.int .i64 0)), none⟩] [2, 3, 7, 35] none)
    (.cond (.tmp 35) (.seq (.region none [] [
        ⟨some 36, .mov (.tmp 7), none⟩,
        ⟨some 4, .mov (.tmp 36), none⟩] [4] none)
      (.ret))
    (.skip))))
    (.seq (.region none [] [
      ⟨some 38, .load (some 5) (.tmp 2), none⟩,
      ⟨some 39, .call .pure 54 [(.tmp 38)], none⟩,
      ⟨some 37, .mov (.tmp 39), none⟩,
      ⟨some 40, .ext (.tmp 37) 0, none⟩,
      ⟨some 41, .ext (.tmp 37) 1, none⟩,
      ⟨some 8, .alloc 2 (.agg [.int .i64 0, .int .i64 0]), none⟩,
      ⟨none, .store 2 (.tmp 8) (.tmp 40), none⟩,
      ⟨some 9, .mov (.tmp 41), none⟩] [2, 3, 8, 9] none)
    (.seq (.region none [] [
      ⟨some 43, .load (some 5) (.tmp 3), none⟩,
      ⟨some 44, .call .pure 54 [(.tmp 43)], none⟩,
      ⟨some 42, .mov (.tmp 44), none⟩,
      ⟨some 45, .ext (.tmp 42) 0, none⟩,
      ⟨some 46, .ext (.tmp 42) 1, none⟩,
      ⟨some 10, .alloc 2 (.agg [.int .i64 0, .int .i64 0]), none⟩,
      ⟨none, .store 2 (.tmp 10) (.tmp 45), none⟩,
      ⟨some 11, .mov (.tmp 46), none⟩] [2, 3, 8, 9, 10] none)
    (.seq (.seq (.region none [] [
      ⟨some 47, .mov (.tmp 9), none⟩] [2, 3, 8, 10, 47] none)
    (.cond (.tmp 47) (.seq (.region none [] [
        ⟨some 48, .load (some 2) (.tmp 8), none⟩,
        ⟨some 49, .load (some 2) (.tmp 10), none⟩,
        ⟨some 50, .call .pure 55 [(.tmp 48), (.tmp 49)], none⟩,
        ⟨some 4, .mov (.tmp 50), none⟩] [4] none)
      (.ret))
    (.skip)))
    (.seq (.region none [] [
      ⟨some 51, .load (some 5) (.tmp 2), none⟩,
      ⟨some 52, .load (some 5) (.tmp 3), none⟩,
      ⟨some 53, .call .pure 51 [(.tmp 51), (.tmp 52)], none⟩,
      ⟨some 4, .mov (.tmp 53), none⟩] [4] none)
    (.ret)))))))))

def a23 : AFunc := ⟨2, c23, [.tmp 4]⟩

def an23 : List RAnn := [
  { id := 0, live := [2, 3] },
  { id := 1, head := some 6, live := [2, 3, 5, 6] },
  { id := 2, live := [2, 3, 5, 18] },
  { id := 3, live := [4] },
  { id := 4, live := [2, 3, 23] },
  { id := 5, live := [4] },
  { id := 6, head := some 8, live := [2, 3, 7] },
  { id := 7, live := [2, 3, 7, 35] },
  { id := 8, live := [4] },
  { id := 9, live := [2, 3, 8, 9] },
  { id := 10, live := [2, 3, 8, 9, 10] },
  { id := 11, live := [2, 3, 8, 10, 47] },
  { id := 12, live := [4] },
  { id := 13, live := [4] }]

theorem comp23 : compF Try.prog an23 Try.f23 = some a23 := by kernel_rfl

/- graphdb/graph.Prop -/
/-- loop 0 of function 24 -/
def l24_0_h : List Nat := [1, 4, 7, 8, 9]

def l24_0_b : ACode :=
  .seq (.region none [] [
      ⟨some 10, .bin .lss .int (.tmp 9) (.tmp 8), none⟩] [1, 4, 7, 8, 9, 10] none)
    (.seq (.cond (.tmp 10) (.skip)
    (.exit 0))
    (.seq (.block 1 (.seq (.region none [] [
        ⟨some 11, .iaddr 6 (.tmp 7) (.tmp 9), none⟩,
        ⟨some 12, .load (some 6) (.tmp 11), none⟩,
        ⟨some 6, .alloc 6 (.agg [.str [], .int .i64 0, .int .i64 0, .int .i64 0, .str [], .sl false []]), none⟩,
        ⟨none, .store 6 (.tmp 6) (.tmp 12), none⟩] [1, 4, 6, 7, 8, 9] none)
      (.seq (.region none [] [
        ⟨some 13, .faddr 0 (.tmp 6), none⟩,
        ⟨some 14, .load none (.tmp 13), none⟩,
        ⟨some 15, .mov (.tmp 1), none⟩,
        ⟨some 16, .bin .eql .str (.tmp 14) (.tmp 15), none⟩] [1, 4, 6, 7, 8, 9, 16] none)
      (.cond (.tmp 16) (.seq (.region none [] [
          ⟨some 17, .faddr 1 (.tmp 6), none⟩,
          ⟨some 18, .load (some 5) (.tmp 17), none⟩,
          ⟨some 19, .call .pure 56 [(.tmp 18)], none⟩,
          ⟨none, .store 5 (.tmp 4) (.tmp 19), none⟩] [4] none)
        (.ret))
      (.skip)))))
    (.region none [] [
      ⟨some 20, .bin .add .int (.tmp 9) (.cst (.int .i64 1)), none⟩,
      ⟨some 9, .mov (.tmp 20), none⟩] [1, 4, 7, 8, 9] (some 1))))

def c24 : ACode :=
  .seq (.region none [] [
      ⟨some 4, .alloc 5 (.agg [.int .i64 0, .int .i64 0, .int .i64 0, .str [], .sl false []]), none⟩] [0, 1, 4] none)
    (.seq (.seq (.region none [] [
      ⟨some 7, .mov (.tmp 0), none⟩,
      ⟨some 8, .len .slice (.tmp 7), none⟩,
      ⟨some 9, .mov (.cst (.int .i64 0)), none⟩] [1, 4, 7, 8, 9] none)
    (.block 0 (.loop l24_0_h l24_0_b)))
    (.seq (.region none [] [
      ⟨some 21, .call .pure 57 [], none⟩,
      ⟨none, .store 5 (.tmp 4) (.tmp 21), none⟩] [4] none)
    (.ret)))

def a24 : AFunc := ⟨2, c24, [.cell 4 (some 5)]⟩

def an24 : List RAnn := [
  { id := 0, live := [0, 1, 4] },
  { id := 1, live := [1, 4, 7, 8, 9] },
  { id := 2, live := [1, 4, 7, 8, 9, 10], hdr := [1, 4, 7, 8, 9] },
  { id := 3, live := [1, 4, 6, 7, 8, 9] },
  { id := 4, live := [1, 4, 6, 7, 8, 9, 16] },
  { id := 5, live := [4] },
  { id := 6, live := [1, 4, 7, 8, 9], trunc := some 1 },
  { id := 7, live := [4] }]

theorem comp24 : compF Try.prog an24 Try.f24 = some a24 := by kernel_rfl

/- graphdb/graphdbref07.Prop -/
/-- loop 0 of function 25 -/
def l25_0_h : List Nat := [0, 1, 4, 5]

def l25_0_b : ACode :=
  .seq (.seq (.region none [] [
      ⟨some 6, .mov (.tmp 5), none⟩,
      ⟨some 7, .mov (.tmp 0), none⟩,
      ⟨some 8, .len .slice (.tmp 7), none⟩,
      ⟨some 9, .bin .lss .int (.tmp 6) (.tmp 8), none⟩] [0, 1, 4, 5, 9] none)
    (.cond (.tmp 9) (.skip)
    (.exit 0)))
    (.seq (.block 1 (.seq (.region none [] [
        ⟨some 12, .mov (.tmp 0), none⟩,
        ⟨some 13, .mov (.tmp 5), none⟩,
        ⟨some 14, .iaddr 6 (.tmp 12) (.tmp 13), none⟩,
        ⟨some 15, .faddr 0 (.tmp 14), none⟩,
        ⟨some 16, .load none (.tmp 15), none⟩,
        ⟨some 17, .mov (.tmp 1), none⟩,
        ⟨some 18, .bin .eql .str (.tmp 16) (.tmp 17), none⟩] [0, 1, 4, 5, 18] none)
      (.cond (.tmp 18) (.seq (.region none [] [
          ⟨some 19, .mov (.tmp 0), none⟩,
          ⟨some 20, .mov (.tmp 5), none⟩,
          ⟨some 21, .iaddr 6 (.tmp 19) (.tmp 20), none⟩,
          ⟨some 22, .faddr 1 (.tmp 21), none⟩,
          ⟨some 23, .load (some 5) (.tmp 22), none⟩,
          ⟨none, .store 5 (.tmp 4) (.tmp 23), none⟩] [4] none)
        (.ret))
      (.skip))))
    (.region none [] [
      ⟨some 10, .mov (.tmp 5), none⟩,
      ⟨some 11, .bin .add .int (.tmp 10) (.cst (.int .i64 1)), none⟩,
      ⟨some 5, .mov (.tmp 11), none⟩] [0, 1, 4, 5] none))

def c25 : ACode :=
  .seq (.region none [] [
      ⟨some 4, .alloc 5 (.agg [.int .i64 0, .int .i64 0, .int .i64 0, .str [], .sl false []]), none⟩] [0, 1, 4] none)
    (.seq (.seq (.region none [] [
      ⟨some 5, .mov (.cst (.int .i64 0)), none⟩] [0, 1, 4, 5] none)
    (.block 0 (.loop l25_0_h l25_0_b)))
    (.seq (.region none [] [
      ⟨some 24, .build [.int .i64 0, .int .i64 0, .int .i64 0, .str [], .sl false []] [], none⟩,
      ⟨none, .store 5 (.tmp 4) (.tmp 24), none⟩] [4] none)
    (.ret)))

def a25 : AFunc := ⟨2, c25, [.cell 4 (some 5)]⟩

def an25 : List RAnn := [
  { id := 0, live := [0, 1, 4] },
  { id := 1, live := [0, 1, 4, 5] },
  { id := 2, live := [0, 1, 4, 5, 9], hdr := [0, 1, 4, 5] },
  { id := 4, live := [0, 1, 4, 5, 18] },
  { id := 5, live := [4] },
  { id := 3, live := [0, 1, 4, 5] },
  { id := 6, live := [4] }]

theorem comp25 : compF Try.prog an25 Try.f25 = some a25 := by kernel_rfl

/- graphdb/graphdbref07.Check -/
/-- loop 0 of function 26 -/
def l26_0_h : List Nat := [1, 3]

def l26_0_b : ACode :=
  .seq (.seq (.region none [] [
      ⟨some 35, .mov (.tmp 3), none⟩,
      ⟨some 36, .faddr 0 (.tmp 1), none⟩,
      ⟨some 37, .load none (.tmp 36), none⟩,
      ⟨some 38, .len .slice (.tmp 37), none⟩,
      ⟨some 39, .bin .lss .int (.tmp 35) (.tmp 38), none⟩] [1, 3, 39] none)
    (.cond (.tmp 39) (.skip)
    (.exit 0)))
    (.seq (.block 1 (.seq (.region none [] [
        ⟨some 42, .load (some 4) (.tmp 1), none⟩,
        ⟨some 43, .mov (.tmp 3), none⟩,
        ⟨some 44, .call .pure 58 [(.tmp 42), (.tmp 43)], none⟩,
        ⟨some 4, .mov (.tmp 44), none⟩] [1, 3, 4] none)
      (.seq (.region none [] [
        ⟨some 45, .mov (.tmp 4), none⟩,
        ⟨some 46, .bin .neq .int (.tmp 45) (.cst (.int .i64 0)), none⟩] [1, 3, 4, 46] none)
      (.cond (.tmp 46) (.seq (.region none [] [
          ⟨some 47, .mov (.tmp 4), none⟩,
          ⟨some 2, .mov (.tmp 47), none⟩] [2] none)
        (.ret))
      (.skip)))))
    (.region none [] [
      ⟨some 40, .mov (.tmp 3), none⟩,
      ⟨some 41, .bin .add .int (.tmp 40) (.cst (.int .i64 1)), none⟩,
      ⟨some 3, .mov (.tmp 41), none⟩] [1, 3] none))

/-- loop 1 of function 26 -/
def l26_1_h : List Nat := [1, 5]

def l26_1_b : ACode :=
  .seq (.seq (.region none [] [
      ⟨some 48, .mov (.tmp 5), none⟩,
      ⟨some 49, .faddr 1 (.tmp 1), none⟩,
      ⟨some 50, .load none (.tmp 49), none⟩,
      ⟨some 51, .len .slice (.tmp 50), none⟩,
      ⟨some 52, .bin .lss .int (.tmp 48) (.tmp 51), none⟩] [1, 5, 52] none)
    (.cond (.tmp 52) (.skip)
    (.exit 2)))
    (.seq (.block 3 (.seq (.region none [] [
        ⟨some 55, .load (some 4) (.tmp 1), none⟩,
        ⟨some 56, .mov (.tmp 5), none⟩,
        ⟨some 57, .call .pure 59 [(.tmp 55), (.tmp 56)], none⟩,
        ⟨some 6, .mov (.tmp 57), none⟩] [1, 5, 6] none)
      (.seq (.region none [] [
        ⟨some 58, .mov (.tmp 6), none⟩,
        ⟨some 59, .bin .neq .int (.tmp 58) (.cst (.int .i64 0)), none⟩] [1, 5, 6, 59] none)
      (.cond (.tmp 59) (.seq (.region none [] [
          ⟨some 60, .mov (.tmp 6), none⟩,
          ⟨some 2, .mov (.tmp 60), none⟩] [2] none)
        (.ret))
      (.skip)))))
    (.region none [] [
      ⟨some 53, .mov (.tmp 5), none⟩,
      ⟨some 54, .bin .add .int (.tmp 53) (.cst (.int .i64 1)), none⟩,
      ⟨some 5, .mov (.tmp 54), none⟩] [1, 5] none))

def c26 : ACode :=
  .seq (.region none [] [
      ⟨some 1, .box 4 (.tmp 0), none⟩,
      ⟨some 2, .mov (.cst (.int .i64 0)), none⟩] [1] none)
    (.seq (.seq (.region none [] [
      ⟨some 7, .faddr 0 (.tmp 1), none⟩,
      ⟨some 8, .load none (.tmp 7), none⟩,
      ⟨some 9, .len .slice (.tmp 8), none⟩,
      ⟨some 10, .bin .gtr .int (.tmp 9) (.cst (.int .i64 2000)), none⟩,
      ⟨some 11, .mov (.tmp 10), none⟩,
      ⟨some 12, .faddr 1 (.tmp 1), some (11, false)⟩,
      ⟨some 13, .load none (.tmp 12), some (11, false)⟩,
      ⟨some 14, .len .slice (.tmp 13), some (11, false)⟩,
      ⟨some 15, .bin .gtr .int (.tmp 14) (.cst (.int .i64 4000)), some (11, false)⟩,
      ⟨some 16, .pick (.tmp 11) (.cst (.bool true)) (.tmp 15), none⟩] [1, 16] none)
    (.cond (.tmp 16) (.seq (.region none [] [
        ⟨some 2, .mov (.cst (.int .i64 4)), none⟩] [2] none)
      (.ret))
    (.skip)))
    (.seq (.seq (.region none [] [
      ⟨some 17, .faddr 2 (.tmp 1), none⟩,
      ⟨some 18, .load none (.tmp 17), none⟩,
      ⟨some 19, .bin .lss .int (.tmp 18) (.cst (.int .i64 1)), none⟩,
      ⟨some 20, .mov (.tmp 19), none⟩,
      ⟨some 21, .faddr 2 (.tmp 1), some (20, false)⟩,
      ⟨some 22, .load none (.tmp 21), some (20, false)⟩,
      ⟨some 23, .bin .gtr .int (.tmp 22) (.cst (.int .i64 1000001)), some (20, false)⟩,
      ⟨some 24, .pick (.tmp 20) (.cst (.bool true)) (.tmp 23), none⟩,
      ⟨some 25, .mov (.tmp 24), none⟩,
      ⟨some 26, .faddr 3 (.tmp 1), some (25, false)⟩,
      ⟨some 27, .load none (.tmp 26), some (25, false)⟩,
      ⟨some 28, .bin .lss .int (.tmp 27) (.cst (.int .i64 1)), some (25, false)⟩,
      ⟨some 29, .pick (.tmp 25) (.cst (.bool true)) (.tmp 28), none⟩,
      ⟨some 30, .mov (.tmp 29), none⟩,
      ⟨some 31, .faddr 3 (.tmp 1), some (30, false)⟩,
      ⟨some 32, .load none (.tmp 31), some (30, false)⟩,
      ⟨some 33, .bin .gtr .int (.tmp 32) (.cst (.int .i64 1000001)), some (30, false)⟩,
      ⟨some 34, .pick (.tmp 30) (.cst (.bool true)) (.tmp 33), none⟩] [1, 34] none)
    (.cond (.tmp 34) (.seq (.region none [] [
        ⟨some 2, .mov (.cst (.int .i64 1)), none⟩] [2] none)
      (.ret))
    (.skip)))
    (.seq (.seq (.region none [] [
      ⟨some 3, .mov (.cst (.int .i64 0)), none⟩] [1, 3] none)
    (.block 0 (.loop l26_0_h l26_0_b)))
    (.seq (.seq (.region none [] [
      ⟨some 5, .mov (.cst (.int .i64 0)), none⟩] [1, 5] none)
    (.block 2 (.loop l26_1_h l26_1_b)))
    (.seq (.region none [] [
      ⟨some 2, .mov (.cst (.int .i64 0)), none⟩] [2] none)
    (.ret))))))

def a26 : AFunc := ⟨1, c26, [.tmp 2]⟩

def an26 : List RAnn := [
  { id := 0, live := [1] },
  { id := 1, live := [1, 16] },
  { id := 2, live := [2] },
  { id := 3, live := [1, 34] },
  { id := 4, live := [2] },
  { id := 5, live := [1, 3] },
  { id := 6, live := [1, 3, 39], hdr := [1, 3] },
  { id := 8, live := [1, 3, 4] },
  { id := 9, live := [1, 3, 4, 46] },
  { id := 10, live := [2] },
  { id := 7, live := [1, 3] },
  { id := 11, live := [1, 5] },
  { id := 12, live := [1, 5, 52], hdr := [1, 5] },
  { id := 14, live := [1, 5, 6] },
  { id := 15, live := [1, 5, 6, 59] },
  { id := 16, live := [2] },
  { id := 13, live := [1, 5] },
  { id := 17, live := [2] }]

theorem comp26 : compF Try.prog an26 Try.f26 = some a26 := by kernel_rfl

/- graphdb/graphdbref07.SameStrs -/
/-- loop 0 of function 27 -/
def l27_0_h : List Nat := [0, 1, 5]

def l27_0_b : ACode :=
  .seq (.seq (.region none [] [
      ⟨some 11, .mov (.tmp 5), none⟩,
      ⟨some 12, .mov (.tmp 0), none⟩,
      ⟨some 13, .len .slice (.tmp 12), none⟩,
      ⟨some 14, .bin .lss .int (.tmp 11) (.tmp 13), none⟩] [0, 1, 5, 14] none)
    (.cond (.tmp 14) (.skip)
    (.exit 0)))
    (.seq (.block 1 (.seq (.region (some 9) [] [
        ⟨some 17, .mov (.tmp 0), none⟩,
        ⟨some 18, .mov (.tmp 5), none⟩,
        ⟨some 19, .iaddr 1 (.tmp 17) (.tmp 18), none⟩,
        ⟨some 20, .load none (.tmp 19), none⟩,
        ⟨some 21, .mov (.tmp 1), none⟩,
        ⟨some 22, .mov (.tmp 5), none⟩,
        ⟨some 23, .iaddr 1 (.tmp 21) (.tmp 22), none⟩,
        ⟨some 24, .load none (.tmp 23), none⟩,
        ⟨some 25, .bin .neq .str (.tmp 20) (.tmp 24), none⟩] [0, 1, 5, 25] none)
      (.cond (.tmp 25) (.seq (.region none [] [
          ⟨some 4, .mov (.cst (.bool false)), none⟩] [4] none)
        (.ret))
      (.skip))))
    (.region none [] [
      ⟨some 15, .mov (.tmp 5), none⟩,
      ⟨some 16, .bin .add .int (.tmp 15) (.cst (.int .i64 1)), none⟩,
      ⟨some 5, .mov (.tmp 16), none⟩] [0, 1, 5] none))

def c27 : ACode :=
  .seq (.region none [] [
      ⟨some 4, .mov (.cst (.bool false)), none⟩] [0, 1] none)
    (.seq (.seq (.region none [] [
      ⟨some 6, .mov (.tmp 0), none⟩,
      ⟨some 7, .len .slice (.tmp 6), none⟩,
      ⟨some 8, .mov (.tmp 1), none⟩,
      ⟨some 9, .len .slice (.tmp 8), none⟩,
      ⟨some 10, .bin .neq .int (.tmp 7) (.tmp 9), none⟩] [0, 1, 10] none)
    (.cond (.tmp 10) (.seq (.region none [] [
        ⟨some 4, .mov (.cst (.bool false)), none⟩] [4] none)
      (.ret))
    (.skip)))
    (.seq (.seq (.region none [] [
      ⟨some 5, .mov (.cst (.int .i64 0)), none⟩] [0, 1, 5] none)
    (.block 0 (.loop l27_0_h l27_0_b)))
    (.seq (.region none [] [
      ⟨some 4, .mov (.cst (.bool true)), none⟩] [4] none)
    (.ret))))

def a27 : AFunc := ⟨2, c27, [.tmp 4]⟩

def an27 : List RAnn := [
  { id := 0, live := [0, 1] },
  { id := 1, live := [0, 1, 10] },
  { id := 2, live := [4] },
  { id := 3, live := [0, 1, 5] },
  { id := 4, live := [0, 1, 5, 14], hdr := [0, 1, 5] },
  { id := 6, head := some 9, live := [0, 1, 5, 25] },
  { id := 7, live := [4] },
  { id := 5, live := [0, 1, 5] },
  { id := 8, live := [4] }]

theorem comp27 : compF Try.prog an27 Try.f27 = some a27 := by kernel_rfl

/- graphdb/graph.Labels -/
/-- loop 0 of function 28 -/
def l28_0_h : List Nat := [3, 7, 8, 9]

def l28_0_b : ACode :=
  .seq (.region none [] [
      ⟨some 10, .bin .lss .int (.tmp 9) (.tmp 8), none⟩] [3, 7, 8, 9, 10] none)
    (.seq (.cond (.tmp 10) (.skip)
    (.exit 0))
    (.seq (.block 1 (.seq (.region none [] [
        ⟨some 11, .iaddr 3 (.tmp 7) (.tmp 9), none⟩,
        ⟨some 12, .load (some 3) (.tmp 11), none⟩,
        ⟨some 5, .alloc 3 (.agg [.int .i64 0, .sl false [], .sl false []]), none⟩,
        ⟨none, .store 3 (.tmp 5) (.tmp 12), none⟩] [3, 5, 7, 8, 9] none)
      (.region none [] [
        ⟨some 13, .mov (.tmp 3), none⟩,
        ⟨some 14, .faddr 1 (.tmp 5), none⟩,
        ⟨some 15, .load none (.tmp 14), none⟩,
        ⟨some 16, .append 1 16 (.tmp 13) (.tmp 15), none⟩,
        ⟨some 3, .mov (.tmp 16), none⟩] [3, 7, 8, 9] none)))
    (.region none [] [
      ⟨some 17, .bin .add .int (.tmp 9) (.cst (.int .i64 1)), none⟩,
      ⟨some 9, .mov (.tmp 17), none⟩] [3, 7, 8, 9] (some 2))))

def c28 : ACode :=
  .seq (.region none [] [
      ⟨some 1, .box 4 (.tmp 0), none⟩,
      ⟨some 2, .mov (.cst (.sl false [])), none⟩] [1] none)
    (.seq (.region none [] [
      ⟨some 3, .newown 1, none⟩] [1, 3] none)
    (.seq (.seq (.region none [] [
      ⟨some 6, .faddr 0 (.tmp 1), none⟩,
      ⟨some 7, .load none (.tmp 6), none⟩,
      ⟨some 8, .len .slice (.tmp 7), none⟩,
      ⟨some 9, .mov (.cst (.int .i64 0)), none⟩] [3, 7, 8, 9] none)
    (.block 0 (.loop l28_0_h l28_0_b)))
    (.seq (.region none [] [
      ⟨some 18, .mov (.tmp 3), none⟩,
      ⟨some 19, .call .share 60 [(.tmp 18)], none⟩] [3] none)
    (.seq (.region none [] [
      ⟨some 20, .mov (.tmp 3), none⟩,
      ⟨some 21, .call .share 61 [(.tmp 20)], none⟩,
      ⟨some 2, .mov (.tmp 21), none⟩] [2] none)
    (.ret)))))

def a28 : AFunc := ⟨1, c28, [.tmp 2]⟩

def an28 : List RAnn := [
  { id := 0, live := [1] },
  { id := 1, live := [1, 3], ops := [(0, .own)] },
  { id := 2, live := [3, 7, 8, 9] },
  { id := 3, live := [3, 7, 8, 9, 10], hdr := [3, 7, 8, 9] },
  { id := 4, live := [3, 5, 7, 8, 9] },
  { id := 5, live := [3, 7, 8, 9] },
  { id := 6, live := [3, 7, 8, 9], trunc := some 2 },
  { id := 7, live := [3], ops := [(1, .mode .share)] },
  { id := 8, live := [2], ops := [(1, .mode .share)] }]

theorem comp28 : compF Try.prog an28 Try.f28 = some a28 := by kernel_rfl

/- graphdb/graphdbref07.Labels -/
/-- loop 0 of function 29 -/
def l29_0_h : List Nat := [1, 3, 4, 5]

def l29_0_b : ACode :=
  .seq (.seq (.region none [] [
      ⟨some 13, .mov (.tmp 5), none⟩,
      ⟨some 14, .faddr 0 (.tmp 1), none⟩,
      ⟨some 15, .load none (.tmp 14), none⟩,
      ⟨some 16, .mov (.tmp 4), none⟩,
      ⟨some 17, .iaddr 3 (.tmp 15) (.tmp 16), none⟩,
      ⟨some 18, .faddr 1 (.tmp 17), none⟩,
      ⟨some 19, .load none (.tmp 18), none⟩,
      ⟨some 20, .len .slice (.tmp 19), none⟩,
      ⟨some 21, .bin .lss .int (.tmp 13) (.tmp 20), none⟩] [1, 3, 4, 5, 21] none)
    (.cond (.tmp 21) (.skip)
    (.exit 2)))
    (.seq (.block 3 (.region none [] [
        ⟨some 24, .mov (.tmp 3), none⟩,
        ⟨some 25, .faddr 0 (.tmp 1), none⟩,
        ⟨some 26, .load none (.tmp 25), none⟩,
        ⟨some 27, .mov (.tmp 4), none⟩,
        ⟨some 28, .iaddr 3 (.tmp 26) (.tmp 27), none⟩,
        ⟨some 29, .faddr 1 (.tmp 28), none⟩,
        ⟨some 30, .load none (.tmp 29), none⟩,
        ⟨some 31, .mov (.tmp 5), none⟩,
        ⟨some 32, .iaddr 1 (.tmp 30) (.tmp 31), none⟩,
        ⟨some 33, .load none (.tmp 32), none⟩,
        ⟨some 34, .call .pure 62 [(.tmp 24), (.tmp 33)], none⟩,
        ⟨some 3, .mov (.tmp 34), none⟩] [1, 3, 4, 5] none))
    (.region none [] [
      ⟨some 22, .mov (.tmp 5), none⟩,
      ⟨some 23, .bin .add .int (.tmp 22) (.cst (.int .i64 1)), none⟩,
      ⟨some 5, .mov (.tmp 23), none⟩] [1, 3, 4, 5] none))

/-- loop 1 of function 29 -/
def l29_1_h : List Nat := [1, 3, 4]

def l29_1_b : ACode :=
  .seq (.seq (.region none [] [
      ⟨some 6, .mov (.tmp 4), none⟩,
      ⟨some 7, .faddr 0 (.tmp 1), none⟩,
      ⟨some 8, .load none (.tmp 7), none⟩,
      ⟨some 9, .len .slice (.tmp 8), none⟩,
      ⟨some 10, .bin .lss .int (.tmp 6) (.tmp 9), none⟩] [1, 3, 4, 10] none)
    (.cond (.tmp 10) (.skip)
    (.exit 0)))
    (.seq (.block 1 (.seq (.region none [] [
        ⟨some 5, .mov (.cst (.int .i64 0)), none⟩] [1, 3, 4, 5] none)
      (.block 2 (.loop l29_0_h l29_0_b))))
    (.region none [] [
      ⟨some 11, .mov (.tmp 4), none⟩,
      ⟨some 12, .bin .add .int (.tmp 11) (.cst (.int .i64 1)), none⟩,
      ⟨some 4, .mov (.tmp 12), none⟩] [1, 3, 4] none))

def c29 : ACode :=
  .seq (.region none [] [
      ⟨some 1, .box 4 (.tmp 0), none⟩,
      ⟨some 2, .mov (.cst (.sl false [])), none⟩] [1] none)
    (.seq (.region none [] [
      ⟨some 3, .mov (.cst (.sl false [])), none⟩] [1, 3] none)
    (.seq (.seq (.region none [] [
      ⟨some 4, .mov (.cst (.int .i64 0)), none⟩] [1, 3, 4] none)
    (.block 0 (.loop l29_1_h l29_1_b)))
    (.seq (.region none [] [
      ⟨some 35, .mov (.tmp 3), none⟩,
      ⟨some 2, .mov (.tmp 35), none⟩] [2] none)
    (.ret))))

def a29 : AFunc := ⟨1, c29, [.tmp 2]⟩

def an29 : List RAnn := [
  { id := 0, live := [1] },
  { id := 1, live := [1, 3] },
  { id := 2, live := [1, 3, 4] },
  { id := 3, live := [1, 3, 4, 10], hdr := [1, 3, 4] },
  { id := 5, live := [1, 3, 4, 5] },
  { id := 6, live := [1, 3, 4, 5, 21], hdr := [1, 3, 4, 5] },
  { id := 8, live := [1, 3, 4, 5] },
  { id := 7, live := [1, 3, 4, 5] },
  { id := 4, live := [1, 3, 4] },
  { id := 9, live := [2] }]

theorem comp29 : compF Try.prog an29 Try.f29 = some a29 := by kernel_rfl

/- graphdb/graph.Types -/
/-- loop 0 of function 30 -/
def l30_0_h : List Nat := [3, 7, 8, 9]

def l30_0_b : ACode :=
  .seq (.region none [] [
      ⟨some 10, .bin .lss .int (.tmp 9) (.tmp 8), none⟩] [3, 7, 8, 9, 10] none)
    (.seq (.cond (.tmp 10) (.skip)
    (.exit 0))
    (.seq (.block 1 (.seq (.region none [] [
        ⟨some 11, .iaddr 5 (.tmp 7) (.tmp 9), none⟩,
        ⟨some 12, .load (some 5) (.tmp 11), none⟩,
        ⟨some 5, .alloc 5 (.agg [.int .i64 0, .int .i64 0, .int .i64 0, .str [], .sl false []]), none⟩,
        ⟨none, .store 5 (.tmp 5) (.tmp 12), none⟩] [3, 5, 7, 8, 9] none)
      (.region none [] [
        ⟨some 13, .mov (.tmp 3), none⟩,
        ⟨some 14, .faddr 3 (.tmp 5), none⟩,
        ⟨some 15, .load none (.tmp 14), none⟩,
        ⟨some 16, .lit false 1 (.str []) 1 [(0, (.tmp 15))], none⟩,
        ⟨some 17, .append 1 16 (.tmp 13) (.tmp 16), none⟩,
        ⟨some 3, .mov (.tmp 17), none⟩] [3, 7, 8, 9] none)))
    (.region none [] [
      ⟨some 18, .bin .add .int (.tmp 9) (.cst (.int .i64 1)), none⟩,
      ⟨some 9, .mov (.tmp 18), none⟩] [3, 7, 8, 9] (some 2))))

def c30 : ACode :=
  .seq (.region none [] [
      ⟨some 1, .box 4 (.tmp 0), none⟩,
      ⟨some 2, .mov (.cst (.sl false [])), none⟩] [1] none)
    (.seq (.region none [] [
      ⟨some 3, .newown 1, none⟩] [1, 3] none)
    (.seq (.seq (.region none [] [
      ⟨some 6, .faddr 1 (.tmp 1), none⟩,
      ⟨some 7, .load none (.tmp 6), none⟩,
      ⟨some 8, .len .slice (.tmp 7), none⟩,
      ⟨some 9, .mov (.cst (.int .i64 0)), none⟩] [3, 7, 8, 9] none)
    (.block 0 (.loop l30_0_h l30_0_b)))
    (.seq (.region none [] [
      ⟨some 19, .mov (.tmp 3), none⟩,
      ⟨some 20, .call .share 60 [(.tmp 19)], none⟩] [3] none)
    (.seq (.region none [] [
      ⟨some 21, .mov (.tmp 3), none⟩,
      ⟨some 22, .call .share 61 [(.tmp 21)], none⟩,
      ⟨some 2, .mov (.tmp 22), none⟩] [2] none)
    (.ret)))))

def a30 : AFunc := ⟨1, c30, [.tmp 2]⟩

def an30 : List RAnn := [
  { id := 0, live := [1] },
  { id := 1, live := [1, 3], ops := [(0, .own)] },
  { id := 2, live := [3, 7, 8, 9] },
  { id := 3, live := [3, 7, 8, 9, 10], hdr := [3, 7, 8, 9] },
  { id := 4, live := [3, 5, 7, 8, 9] },
  { id := 5, live := [3, 7, 8, 9] },
  { id := 6, live := [3, 7, 8, 9], trunc := some 2 },
  { id := 7, live := [3], ops := [(1, .mode .share)] },
  { id := 8, live := [2], ops := [(1, .mode .share)] }]

theorem comp30 : compF Try.prog an30 Try.f30 = some a30 := by kernel_rfl

/- graphdb/graphdbref07.Types -/
/-- loop 0 of function 31 -/
def l31_0_h : List Nat := [1, 3, 4]

def l31_0_b : ACode :=
  .seq (.seq (.region none [] [
      ⟨some 5, .mov (.tmp 4), none⟩,
      ⟨some 6, .faddr 1 (.tmp 1), none⟩,
      ⟨some 7, .load none (.tmp 6), none⟩,
      ⟨some 8, .len .slice (.tmp 7), none⟩,
      ⟨some 9, .bin .lss .int (.tmp 5) (.tmp 8), none⟩] [1, 3, 4, 9] none)
    (.cond (.tmp 9) (.skip)
    (.exit 0)))
    (.seq (.block 1 (.region none [] [
        ⟨some 12, .mov (.tmp 3), none⟩,
        ⟨some 13, .faddr 1 (.tmp 1), none⟩,
        ⟨some 14, .load none (.tmp 13), none⟩,
        ⟨some 15, .mov (.tmp 4), none⟩,
        ⟨some 16, .iaddr 5 (.tmp 14) (.tmp 15), none⟩,
        ⟨some 17, .faddr 3 (.tmp 16), none⟩,
        ⟨some 18, .load none (.tmp 17), none⟩,
        ⟨some 19, .call .pure 62 [(.tmp 12), (.tmp 18)], none⟩,
        ⟨some 3, .mov (.tmp 19), none⟩] [1, 3, 4] none))
    (.region none [] [
      ⟨some 10, .mov (.tmp 4), none⟩,
      ⟨some 11, .bin .add .int (.tmp 10) (.cst (.int .i64 1)), none⟩,
      ⟨some 4, .mov (.tmp 11), none⟩] [1, 3, 4] none))

def c31 : ACode :=
  .seq (.region none [] [
      ⟨some 1, .box 4 (.tmp 0), none⟩,
      ⟨some 2, .mov (.cst (.sl false [])), none⟩] [1] none)
    (.seq (.region none [] [
      ⟨some 3, .mov (.cst (.sl false [])), none⟩] [1, 3] none)
    (.seq (.seq (.region none [] [
      ⟨some 4, .mov (.cst (.int .i64 0)), none⟩] [1, 3, 4] none)
    (.block 0 (.loop l31_0_h l31_0_b)))
    (.seq (.region none [] [
      ⟨some 20, .mov (.tmp 3), none⟩,
      ⟨some 2, .mov (.tmp 20), none⟩] [2] none)
    (.ret))))

def a31 : AFunc := ⟨1, c31, [.tmp 2]⟩

def an31 : List RAnn := [
  { id := 0, live := [1] },
  { id := 1, live := [1, 3] },
  { id := 2, live := [1, 3, 4] },
  { id := 3, live := [1, 3, 4, 9], hdr := [1, 3, 4] },
  { id := 5, live := [1, 3, 4] },
  { id := 4, live := [1, 3, 4] },
  { id := 6, live := [2] }]

theorem comp31 : compF Try.prog an31 Try.f31 = some a31 := by kernel_rfl

/- graphdb/graphdbref07.weigh -/
/-- loop 0 of function 32 -/
def l32_0_h : List Nat := [0, 1, 5]

def l32_0_b : ACode :=
  .seq (.seq (.region none [] [
      ⟨some 6, .mov (.tmp 5), none⟩,
      ⟨some 7, .mov (.tmp 0), none⟩,
      ⟨some 8, .len .slice (.tmp 7), none⟩,
      ⟨some 9, .bin .lss .int (.tmp 6) (.tmp 8), none⟩,
      ⟨some 10, .mov (.tmp 9), none⟩,
      ⟨some 11, .mov (.tmp 1), some (10, true)⟩,
      ⟨some 12, .bin .geq .int (.tmp 11) (.cst (.int .i64 0)), some (10, true)⟩,
      ⟨some 13, .pick (.tmp 10) (.tmp 12) (.cst (.bool false)), none⟩] [0, 1, 5, 13] none)
    (.cond (.tmp 13) (.skip)
    (.exit 0)))
    (.seq (.block 1 (.region (some 16) [] [
        ⟨some 16, .mov (.tmp 0), none⟩,
        ⟨some 17, .mov (.tmp 5), none⟩,
        ⟨some 18, .iaddr 6 (.tmp 16) (.tmp 17), none⟩,
        ⟨some 19, .faddr 1 (.tmp 18), none⟩,
        ⟨some 20, .load (some 5) (.tmp 19), none⟩,
        ⟨some 21, .mov (.tmp 1), none⟩,
        ⟨some 22, .mov (.tmp 0), none⟩,
        ⟨some 23, .mov (.tmp 5), none⟩,
        ⟨some 24, .iaddr 6 (.tmp 22) (.tmp 23), none⟩,
        ⟨some 25, .faddr 0 (.tmp 24), none⟩,
        ⟨some 26, .load none (.tmp 25), none⟩,
        ⟨some 27, .len .str (.tmp 26), none⟩,
        ⟨some 28, .bin .quo .int (.tmp 27) (.cst (.int .i64 50)), none⟩,
        ⟨some 29, .bin .sub .int (.tmp 21) (.tmp 28), none⟩,
        ⟨some 30, .call .pure 63 [(.tmp 20), (.tmp 29), (.cst (.int .i64 12))], none⟩,
        ⟨some 1, .mov (.tmp 30), none⟩] [0, 1, 5] none))
    (.region none [] [
      ⟨some 14, .mov (.tmp 5), none⟩,
      ⟨some 15, .bin .add .int (.tmp 14) (.cst (.int .i64 1)), none⟩,
      ⟨some 5, .mov (.tmp 15), none⟩] [0, 1, 5] none))

def c32 : ACode :=
  .seq (.region none [] [
      ⟨some 4, .mov (.cst (.int .i64 0)), none⟩] [0, 1] none)
    (.seq (.seq (.region none [] [
      ⟨some 5, .mov (.cst (.int .i64 0)), none⟩] [0, 1, 5] none)
    (.block 0 (.loop l32_0_h l32_0_b)))
    (.seq (.region none [] [
      ⟨some 31, .mov (.tmp 1), none⟩,
      ⟨some 4, .mov (.tmp 31), none⟩] [4] none)
    (.ret)))

def a32 : AFunc := ⟨2, c32, [.tmp 4]⟩

def an32 : List RAnn := [
  { id := 0, live := [0, 1] },
  { id := 1, live := [0, 1, 5] },
  { id := 2, live := [0, 1, 5, 13], hdr := [0, 1, 5] },
  { id := 4, head := some 16, live := [0, 1, 5] },
  { id := 3, live := [0, 1, 5] },
  { id := 5, live := [4] }]

theorem comp32 : compF Try.prog an32 Try.f32 = some a32 := by kernel_rfl

/- graphdb/graphdblaw07.example -/
def c33 : ACode :=
  .seq (.region none [] [
      ⟨some 0, .alloc 4 (.agg [.sl false [], .sl false [], .int .i64 0, .int .i64 0]), none⟩] [0] none)
    (.seq (.region none [] [
      ⟨some 1, .build [.int .i64 0, .sl false [], .sl false []] [(0, 1, (.cst (.int .i64 1)))], none⟩,
      ⟨some 2, .build [.int .i64 0, .sl false [], .sl false []] [(0, 1, (.cst (.int .i64 2)))], none⟩,
      ⟨some 3, .lit true 3 (.agg [.int .i64 0, .sl false [], .sl false []]) 2 [(0, (.tmp 1)), (1, (.tmp 2))], none⟩,
      ⟨some 4, .build [.int .i64 0, .int .i64 0, .int .i64 0, .str [], .sl false []] [(0, 1, (.cst (.int .i64 1))), (1, 1, (.cst (.int .i64 1))), (2, 1, (.cst (.int .i64 2))), (3, 1, (.cst (.str [84])))], none⟩,
      ⟨some 5, .build [.int .i64 0, .int .i64 0, .int .i64 0, .str [], .sl false []] [(0, 1, (.cst (.int .i64 2))), (1, 1, (.cst (.int .i64 2))), (2, 1, (.cst (.int .i64 2))), (3, 1, (.cst (.str [84])))], none⟩,
      ⟨some 6, .lit true 5 (.agg [.int .i64 0, .int .i64 0, .int .i64 0, .str [], .sl false []]) 2 [(0, (.tmp 4)), (1, (.tmp 5))], none⟩,
      ⟨some 7, .build [.sl false [], .sl false [], .int .i64 0, .int .i64 0] [(0, 1, (.tmp 3)), (1, 1, (.tmp 6)), (2, 1, (.cst (.int .i64 3))), (3, 1, (.cst (.int .i64 3)))], none⟩,
      ⟨none, .store 4 (.tmp 0) (.tmp 7), none⟩] [0] none)
    (.ret))

def a33 : AFunc := ⟨0, c33, [.cell 0 (some 4)]⟩

def an33 : List RAnn := [
  { id := 0, live := [0] },
  { id := 1, live := [0], ops := [(2, .own), (5, .own)] }]

theorem comp33 : compF Try.prog an33 Try.f33 = some a33 := by kernel_rfl

/- graphdb/graph.New -/
def c34 : ACode :=
  .seq (.region none [] [
      ⟨some 0, .alloc 4 (.agg [.sl false [], .sl false [], .int .i64 0, .int .i64 0]), none⟩] [0] none)
    (.seq (.region none [] [
      ⟨some 1, .build [.sl false [], .sl false [], .int .i64 0, .int .i64 0] [(2, 1, (.cst (.int .i64 1))), (3, 1, (.cst (.int .i64 1)))], none⟩,
      ⟨none, .store 4 (.tmp 0) (.tmp 1), none⟩] [0] none)
    (.ret))

def a34 : AFunc := ⟨0, c34, [.cell 0 (some 4)]⟩

def an34 : List RAnn := [
  { id := 0, live := [0] },
  { id := 1, live := [0] }]

theorem comp34 : compF Try.prog an34 Try.f34 = some a34 := by kernel_rfl

/- graphdb/graph.Name -/
/-- loop 0 of function 35 -/
def l35_0_h : List Nat := [0, 18, 19]

def l35_0_b : ACode :=
  .seq (.region none [] [
      ⟨some 20, .bin .lss .int (.tmp 19) (.tmp 18), none⟩] [0, 18, 19, 20] none)
    (.seq (.cond (.tmp 20) (.skip)
    (.exit 0))
    (.seq (.block 1 (.seq (.region none [] [
        ⟨some 21, .mov (.tmp 19), none⟩,
        ⟨some 3, .mov (.tmp 21), none⟩] [0, 3, 18, 19] none)
      (.seq (.region none [] [
        ⟨some 22, .mov (.tmp 0), none⟩,
        ⟨some 23, .mov (.tmp 3), none⟩,
        ⟨some 24, .sidx (.tmp 22) (.tmp 23), none⟩,
        ⟨some 25, .call .pure 64 [(.tmp 24)], none⟩,
        ⟨some 26, .un .not (.tmp 25), none⟩,
        ⟨some 27, .mov (.tmp 26), none⟩,
        ⟨some 28, .mov (.tmp 0), some (27, true)⟩,
        ⟨some 29, .mov (.tmp 3), some (27, true)⟩,
        ⟨some 30, .sidx (.tmp 28) (.tmp 29), some (27, true)⟩,
        ⟨some 31, .bin .lss .int (.tmp 30) (.cst (.int .u8 48)), some (27, true)⟩,
        ⟨some 32, .mov (.tmp 31), some (27, true)⟩,
        ⟨some 33, .mov (.tmp 0), some (32, false)⟩,
        ⟨some 34, .mov (.tmp 3), some (32, false)⟩,
        ⟨some 35, .sidx (.tmp 33) (.tmp 34), some (32, false)⟩,
        ⟨some 36, .bin .gtr .int (.tmp 35) (.cst (.int .u8 57)), some (32, false)⟩,
        ⟨some 37, .pick (.tmp 32) (.cst (.bool true)) (.tmp 36), some (27, true)⟩,
        ⟨some 38, .pick (.tmp 27) (.tmp 37) (.cst (.bool false)), none⟩,
        ⟨some 39, .mov (.tmp 38), none⟩,
        ⟨some 40, .mov (.tmp 0), some (39, true)⟩,
        ⟨some 41, .mov (.tmp 3), some (39, true)⟩,
        ⟨some 42, .sidx (.tmp 40) (.tmp 41), some (39, true)⟩,
        ⟨some 43, .bin .neq .int (.tmp 42) (.cst (.int .u8 95)), some (39, true)⟩,
        ⟨some 44, .pick (.tmp 39) (.tmp 43) (.cst (.bool false)), none⟩] [0, 18, 19, 44] none)
      (.cond (.tmp 44) (.seq (.region none [] [
          ⟨some 2, .mov (.cst (.bool false)), none⟩] [2] none)
        (.ret))
      (.skip)))))
    (.region none [] [
      ⟨some 45, .bin .add .int (.tmp 19) (.cst (.int .i64 1)), none⟩,
      ⟨some 19, .mov (.tmp 45), none⟩] [0, 18, 19] none)))

def c35 : ACode :=
  .seq (.region none [] [
      ⟨some 2, .mov (.cst (.bool false)), none⟩] [0] none)
    (.seq (.seq (.region none [] [
      ⟨some 4, .mov (.tmp 0), none⟩,
      ⟨some 5, .bin .eql .str (.tmp 4) (.cst (.str [])), none⟩,
      ⟨some 6, .mov (.tmp 5), none⟩,
      ⟨some 7, .mov (.tmp 0), some (6, false)⟩,
      ⟨some 8, .len .str (.tmp 7), some (6, false)⟩,
      ⟨some 9, .bin .gtr .int (.tmp 8) (.cst (.int .i64 20)), some (6, false)⟩,
      ⟨some 10, .pick (.tmp 6) (.cst (.bool true)) (.tmp 9), none⟩,
      ⟨some 11, .mov (.tmp 10), none⟩,
      ⟨some 12, .mov (.tmp 0), some (11, false)⟩,
      ⟨some 13, .sidx (.tmp 12) (.cst (.int .i64 0)), some (11, false)⟩,
      ⟨some 14, .call .pure 64 [(.tmp 13)], some (11, false)⟩,
      ⟨some 15, .un .not (.tmp 14), some (11, false)⟩,
      ⟨some 16, .pick (.tmp 11) (.cst (.bool true)) (.tmp 15), none⟩] [0, 16] none)
    (.cond (.tmp 16) (.seq (.region none [] [
        ⟨some 2, .mov (.cst (.bool false)), none⟩] [2] none)
      (.ret))
    (.skip)))
    (.seq (.seq (.region none [] [
      ⟨some 17, .mov (.tmp 0), none⟩,
      ⟨some 18, .len .str (.tmp 17), none⟩,
      ⟨some 19, .mov (.cst (.int .i64 0)), none⟩] [0, 18, 19] none)
    (.block 0 (.loop l35_0_h l35_0_b)))
    (.seq (.region none [] [
      ⟨some 2, .mov (.cst (.bool true)), none⟩] [2] none)
    (.ret))))

def a35 : AFunc := ⟨1, c35, [.tmp 2]⟩

def an35 : List RAnn := [
  { id := 0, live := [0] },
  { id := 1, live := [0, 16] },
  { id := 2, live := [2] },
  { id := 3, live := [0, 18, 19] },
  { id := 4, live := [0, 18, 19, 20], hdr := [0, 18, 19] },
  { id := 5, live := [0, 3, 18, 19] },
  { id := 6, live := [0, 18, 19, 44] },
  { id := 7, live := [2] },
  { id := 8, live := [0, 18, 19] },
  { id := 9, live := [2] }]

theorem comp35 : compF Try.prog an35 Try.f35 = some a35 := by kernel_rfl

/- slices.SortStableFunc[[]graphdb/api.Adj,graphdb/api.Adj] -/
def c36 : ACode :=
  .region none [] [
      ⟨some 4, .mov (.tmp 0), none⟩,
      ⟨some 5, .mov (.tmp 0), none⟩,
      ⟨some 6, .len .slice (.tmp 5), none⟩,
      ⟨some 7, .mov (.tmp 1), none⟩,
      ⟨some 8, .call .share 65 [(.tmp 4), (.tmp 6), (.tmp 7)], none⟩] [] none

def a36 : AFunc := ⟨2, c36, []⟩

def an36 : List RAnn := [
  { id := 0, ops := [(4, .mode .share)] }]

theorem comp36 : compF Try.prog an36 Try.f36 = some a36 := by kernel_rfl

/- graphdb/graph.Steps$1 -/
def c37 : ACode :=
  .seq (.region none [] [
      ⟨some 2, .box 3 (.tmp 0), none⟩,
      ⟨some 3, .box 3 (.tmp 1), none⟩,
      ⟨some 4, .mov (.cst (.int .i64 0)), none⟩] [2, 3] none)
    (.seq (.region (some 13) [] [
      ⟨some 5, .faddr 1 (.tmp 2), none⟩,
      ⟨some 6, .load none (.tmp 5), none⟩,
      ⟨some 7, .faddr 1 (.tmp 3), none⟩,
      ⟨some 8, .load none (.tmp 7), none⟩,
      ⟨some 9, .call .pure 39 [(.tmp 6), (.tmp 8)], none⟩,
      ⟨some 10, .faddr 2 (.tmp 2), none⟩,
      ⟨some 11, .load none (.tmp 10), none⟩,
      ⟨some 12, .faddr 2 (.tmp 3), none⟩,
      ⟨some 13, .load none (.tmp 12), none⟩,
      ⟨some 14, .call .pure 39 [(.tmp 11), (.tmp 13)], none⟩,
      ⟨some 15, .lit false 1 (.int .i64 0) 2 [(0, (.tmp 9)), (1, (.tmp 14))], none⟩,
      ⟨some 16, .call .pure 38 [(.tmp 15)], none⟩,
      ⟨some 4, .mov (.tmp 16), none⟩] [4] none)
    (.ret))

def a37 : AFunc := ⟨2, c37, [.tmp 4]⟩

def an37 : List RAnn := [
  { id := 0, live := [2, 3] },
  { id := 1, head := some 13, live := [4] }]

theorem comp37 : compF Try.prog an37 Try.f37 = some a37 := by kernel_rfl

/- cmp.Or[int] -/
/-- loop 0 of function 38 -/
def l38_0_h : List Nat := [3, 6, 7, 8]

def l38_0_b : ACode :=
  .seq (.region none [] [
      ⟨some 9, .bin .lss .int (.tmp 8) (.tmp 7), none⟩] [3, 6, 7, 8, 9] none)
    (.seq (.cond (.tmp 9) (.skip)
    (.exit 0))
    (.seq (.block 1 (.seq (.region none [] [
        ⟨some 10, .iaddr 1 (.tmp 6) (.tmp 8), none⟩,
        ⟨some 11, .load none (.tmp 10), none⟩,
        ⟨some 5, .mov (.tmp 11), none⟩] [3, 5, 6, 7, 8] none)
      (.seq (.region none [] [
        ⟨some 12, .mov (.tmp 5), none⟩,
        ⟨some 13, .mov (.tmp 3), none⟩,
        ⟨some 14, .bin .neq .int (.tmp 12) (.tmp 13), none⟩] [3, 5, 6, 7, 8, 14] none)
      (.cond (.tmp 14) (.seq (.region none [] [
          ⟨some 15, .mov (.tmp 5), none⟩,
          ⟨some 2, .mov (.tmp 15), none⟩] [2] none)
        (.ret))
      (.skip)))))
    (.region none [] [
      ⟨some 16, .bin .add .int (.tmp 8) (.cst (.int .i64 1)), none⟩,
      ⟨some 8, .mov (.tmp 16), none⟩] [3, 6, 7, 8] none)))

def c38 : ACode :=
  .seq (.region none [] [
      ⟨some 2, .mov (.cst (.int .i64 0)), none⟩] [0] none)
    (.seq (.region none [] [
      ⟨some 3, .mov (.cst (.int .i64 0)), none⟩] [0, 3] none)
    (.seq (.seq (.region none [] [
      ⟨some 6, .mov (.tmp 0), none⟩,
      ⟨some 7, .len .slice (.tmp 6), none⟩,
      ⟨some 8, .mov (.cst (.int .i64 0)), none⟩] [3, 6, 7, 8] none)
    (.block 0 (.loop l38_0_h l38_0_b)))
    (.seq (.region none [] [
      ⟨some 17, .mov (.tmp 3), none⟩,
      ⟨some 2, .mov (.tmp 17), none⟩] [2] none)
    (.ret))))

def a38 : AFunc := ⟨1, c38, [.tmp 2]⟩

def an38 : List RAnn := [
  { id := 0, live := [0] },
  { id := 1, live := [0, 3] },
  { id := 2, live := [3, 6, 7, 8] },
  { id := 3, live := [3, 6, 7, 8, 9], hdr := [3, 6, 7, 8] },
  { id := 4, live := [3, 5, 6, 7, 8] },
  { id := 5, live := [3, 5, 6, 7, 8, 14] },
  { id := 6, live := [2] },
  { id := 7, live := [3, 6, 7, 8] },
  { id := 8, live := [2] }]

theorem comp38 : compF Try.prog an38 Try.f38 = some a38 := by kernel_rfl

/- cmp.Compare[int] -/
def c39 : ACode :=
  .seq (.region none [] [
      ⟨some 4, .mov (.cst (.int .i64 0)), none⟩] [0, 1] none)
    (.seq (.region none [] [
      ⟨some 7, .mov (.tmp 0), none⟩,
      ⟨some 8, .call .pure 66 [(.tmp 7)], none⟩,
      ⟨some 5, .mov (.tmp 8), none⟩] [0, 1, 5] none)
    (.seq (.region none [] [
      ⟨some 9, .mov (.tmp 1), none⟩,
      ⟨some 10, .call .pure 66 [(.tmp 9)], none⟩,
      ⟨some 6, .mov (.tmp 10), none⟩] [0, 1, 5, 6] none)
    (.seq (.seq (.region none [] [
      ⟨some 11, .mov (.tmp 5), none⟩] [0, 1, 6, 11] none)
    (.cond (.tmp 11) (.seq (.seq (.region none [] [
        ⟨some 12, .mov (.tmp 6), none⟩] [12] none)
      (.cond (.tmp 12) (.seq (.region none [] [
          ⟨some 4, .mov (.cst (.int .i64 0)), none⟩] [4] none)
        (.ret))
      (.skip)))
      (.seq (.region none [] [
        ⟨some 4, .mov (.cst (.int .i64 (-1))), none⟩] [4] none)
      (.ret)))
    (.skip)))
    (.seq (.seq (.region none [] [
      ⟨some 13, .mov (.tmp 6), none⟩] [0, 1, 13] none)
    (.cond (.tmp 13) (.seq (.region none [] [
        ⟨some 4, .mov (.cst (.int .i64 1)), none⟩] [4] none)
      (.ret))
    (.skip)))
    (.seq (.seq (.region none [] [
      ⟨some 14, .mov (.tmp 0), none⟩,
      ⟨some 15, .mov (.tmp 1), none⟩,
      ⟨some 16, .bin .lss .int (.tmp 14) (.tmp 15), none⟩] [0, 1, 16] none)
    (.cond (.tmp 16) (.seq (.region none [] [
        ⟨some 4, .mov (.cst (.int .i64 (-1))), none⟩] [4] none)
      (.ret))
    (.skip)))
    (.seq (.seq (.region none [] [
      ⟨some 17, .mov (.tmp 0), none⟩,
      ⟨some 18, .mov (.tmp 1), none⟩,
      ⟨some 19, .bin .gtr .int (.tmp 17) (.tmp 18), none⟩] [19] none)
    (.cond (.tmp 19) (.seq (.region none [] [
        ⟨some 4, .mov (.cst (.int .i64 1)), none⟩] [4] none)
      (.ret))
    (.skip)))
    (.seq (.region none [] [
      ⟨some 4, .mov (.cst (.int .i64 0)), none⟩] [4] none)
    (.ret))))))))

def a39 : AFunc := ⟨2, c39, [.tmp 4]⟩

def an39 : List RAnn := [
  { id := 0, live := [0, 1] },
  { id := 1, live := [0, 1, 5] },
  { id := 2, live := [0, 1, 5, 6] },
  { id := 3, live := [0, 1, 6, 11] },
  { id := 4, live := [12] },
  { id := 5, live := [4] },
  { id := 6, live := [4] },
  { id := 7, live := [0, 1, 13] },
  { id := 8, live := [4] },
  { id := 9, live := [0, 1, 16] },
  { id := 10, live := [4] },
  { id := 11, live := [19] },
  { id := 12, live := [4] },
  { id := 13, live := [4] }]

theorem comp39 : compF Try.prog an39 Try.f39 = some a39 := by kernel_rfl

/- graphdb/graphdbref07.step -/
def c40 : ACode :=
  .seq (.region none [] [
      ⟨some 3, .box 5 (.tmp 0), none⟩,
      ⟨some 6, .alloc 3 (.agg [.int .i64 0, .int .i64 0, .int .i64 0]), none⟩,
      ⟨some 7, .mov (.cst (.bool false)), none⟩] [1, 2, 3, 6] none)
    (.seq (.seq (.region none [] [
      ⟨some 8, .mov (.tmp 2), none⟩,
      ⟨some 9, .bin .eql .int (.tmp 8) (.cst (.int .i64 1)), none⟩,
      ⟨some 10, .mov (.tmp 9), none⟩,
      ⟨some 11, .mov (.tmp 2), some (10, false)⟩,
      ⟨some 12, .bin .eql .int (.tmp 11) (.cst (.int .i64 3)), some (10, false)⟩,
      ⟨some 13, .pick (.tmp 10) (.cst (.bool true)) (.tmp 12), none⟩,
      ⟨some 14, .mov (.tmp 13), none⟩,
      ⟨some 15, .faddr 1 (.tmp 3), some (14, true)⟩,
      ⟨some 16, .load none (.tmp 15), some (14, true)⟩,
      ⟨some 17, .mov (.tmp 1), some (14, true)⟩,
      ⟨some 18, .bin .eql .int (.tmp 16) (.tmp 17), some (14, true)⟩,
      ⟨some 19, .pick (.tmp 14) (.tmp 18) (.cst (.bool false)), none⟩] [1, 2, 3, 6, 19] none)
    (.cond (.tmp 19) (.seq (.region none [] [
        ⟨some 20, .mov (.tmp 1), none⟩,
        ⟨some 21, .faddr 2 (.tmp 3), none⟩,
        ⟨some 22, .load none (.tmp 21), none⟩,
        ⟨some 23, .faddr 0 (.tmp 3), none⟩,
        ⟨some 24, .load none (.tmp 23), none⟩,
        ⟨some 25, .build [.int .i64 0, .int .i64 0, .int .i64 0] [(0, 1, (.tmp 20)), (1, 1, (.tmp 22)), (2, 1, (.tmp 24))], none⟩,
        ⟨none, .store 3 (.tmp 6) (.tmp 25), none⟩,
        ⟨some 7, .mov (.cst (.bool true)), none⟩] [6, 7] none)
      (.ret))
    (.skip)))
    (.seq (.seq (.region none [] [
      ⟨some 26, .mov (.tmp 2), none⟩,
      ⟨some 27, .bin .eql .int (.tmp 26) (.cst (.int .i64 2)), none⟩,
      ⟨some 28, .mov (.tmp 27), none⟩,
      ⟨some 29, .mov (.tmp 2), some (28, false)⟩,
      ⟨some 30, .bin .eql .int (.tmp 29) (.cst (.int .i64 3)), some (28, false)⟩,
      ⟨some 31, .pick (.tmp 28) (.cst (.bool true)) (.tmp 30), none⟩,
      ⟨some 32, .mov (.tmp 31), none⟩,
      ⟨some 33, .faddr 2 (.tmp 3), some (32, true)⟩,
      ⟨some 34, .load none (.tmp 33), some (32, true)⟩,
      ⟨some 35, .mov (.tmp 1), some (32, true)⟩,
      ⟨some 36, .bin .eql .int (.tmp 34) (.tmp 35), some (32, true)⟩,
      ⟨some 37, .pick (.tmp 32) (.tmp 36) (.cst (.bool false)), none⟩] [1, 3, 6, 37] none)
    (.cond (.tmp 37) (.seq (.region none [] [
        ⟨some 38, .mov (.tmp 1), none⟩,
        ⟨some 39, .faddr 1 (.tmp 3), none⟩,
        ⟨some 40, .load none (.tmp 39), none⟩,
        ⟨some 41, .faddr 0 (.tmp 3), none⟩,
        ⟨some 42, .load none (.tmp 41), none⟩,
        ⟨some 43, .build [.int .i64 0, .int .i64 0, .int .i64 0] [(0, 1, (.tmp 38)), (1, 1, (.tmp 40)), (2, 1, (.tmp 42))], none⟩,
        ⟨none, .store 3 (.tmp 6) (.tmp 43), none⟩,
        ⟨some 7, .mov (.cst (.bool true)), none⟩] [6, 7] none)
      (.ret))
    (.skip)))
    (.seq (.region none [] [
      ⟨some 44, .build [.int .i64 0, .int .i64 0, .int .i64 0] [], none⟩,
      ⟨none, .store 3 (.tmp 6) (.tmp 44), none⟩,
      ⟨some 7, .mov (.cst (.bool false)), none⟩] [6, 7] none)
    (.ret))))

def a40 : AFunc := ⟨3, c40, [.cell 6 (some 3), .tmp 7]⟩

def an40 : List RAnn := [
  { id := 0, live := [1, 2, 3, 6] },
  { id := 1, live := [1, 2, 3, 6, 19] },
  { id := 2, live := [6, 7] },
  { id := 3, live := [1, 3, 6, 37] },
  { id := 4, live := [6, 7] },
  { id := 5, live := [6, 7] }]

theorem comp40 : compF Try.prog an40 Try.f40 = some a40 := by kernel_rfl

end AI
end Go.Proofs.Ytnakgkibjlcjlaa
