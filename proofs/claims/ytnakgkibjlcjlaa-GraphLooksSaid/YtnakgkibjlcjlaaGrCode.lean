/- Printed by a program of mine: the functions, compiled; the kernel checks each against the given form. -/
import Derived.Test.YtnakgkibjlcjlaaSe
import Derived.Test.YtnakgkibjlcjlaaProg
import Derived.KernelRfl
namespace Go.Proofs.Ytnakgkibjlcjlaa
namespace AI

/- graphdb/graphdblaw07.GraphSteps -/
def c3 : ACode :=
  .seq (.region none [] [
      ⟨some 3, .box 4 (.tmp 0), none⟩,
      ⟨some 4, .box 2 (.tmp 1), none⟩,
      ⟨some 6, .mov (.cst (.bool false)), none⟩] [2, 3, 4] none)
    (.seq (.region (some 6) [] [
      ⟨some 9, .aaddr 1 2 (.tmp 4) (.cst (.int .i64 0)), none⟩,
      ⟨some 10, .load none (.tmp 9), none⟩,
      ⟨some 11, .aaddr 1 2 (.tmp 4) (.cst (.int .i64 1)), none⟩,
      ⟨some 12, .load none (.tmp 11), none⟩,
      ⟨some 7, .mov (.tmp 10), none⟩,
      ⟨some 8, .mov (.tmp 12), none⟩] [2, 3, 7, 8] none)
    (.seq (.seq (.region none [] [
      ⟨some 13, .load (some 4) (.tmp 3), none⟩,
      ⟨some 14, .call .pure 7 [(.tmp 13), (.cst (.int .i64 60)), (.cst (.int .i64 100))], none⟩,
      ⟨some 15, .un .not (.tmp 14), none⟩,
      ⟨some 16, .mov (.tmp 15), none⟩,
      ⟨some 17, .mov (.tmp 2), some (16, false)⟩,
      ⟨some 18, .call .pure 8 [(.tmp 17)], some (16, false)⟩,
      ⟨some 19, .un .not (.tmp 18), some (16, false)⟩,
      ⟨some 20, .pick (.tmp 16) (.cst (.bool true)) (.tmp 19), none⟩] [2, 3, 7, 8, 20] none)
    (.cond (.tmp 20) (.seq (.region none [] [
        ⟨some 21, .call .pure 9 [], none⟩,
        ⟨some 6, .mov (.tmp 21), none⟩] [6] none)
      (.ret))
    (.skip)))
    (.seq (.region (some 15) [] [
      ⟨some 22, .load (some 4) (.tmp 3), none⟩,
      ⟨some 23, .mov (.tmp 7), none⟩,
      ⟨some 24, .mov (.tmp 2), none⟩,
      ⟨some 25, .mov (.tmp 8), none⟩,
      ⟨some 26, .call .pure 11 [(.tmp 22), (.tmp 23), (.tmp 24), (.tmp 25)], none⟩,
      ⟨some 27, .load (some 4) (.tmp 3), none⟩,
      ⟨some 28, .mov (.tmp 7), none⟩,
      ⟨some 29, .mov (.tmp 2), none⟩,
      ⟨some 30, .mov (.tmp 8), none⟩,
      ⟨some 31, .call .pure 12 [(.tmp 27), (.tmp 28), (.tmp 29), (.tmp 30)], none⟩,
      ⟨some 32, .call .pure 10 [(.tmp 26), (.tmp 31)], none⟩,
      ⟨some 33, .mov (.tmp 32), none⟩,
      ⟨some 34, .call .pure 9 [], some (33, true)⟩,
      ⟨some 35, .pick (.tmp 33) (.tmp 34) (.cst (.bool false)), none⟩,
      ⟨some 6, .mov (.tmp 35), none⟩] [6] none)
    (.ret))))

def a3 : AFunc := ⟨3, c3, [.tmp 6]⟩

def an3 : List RAnn := [
  { id := 0, live := [2, 3, 4] },
  { id := 1, head := some 6, live := [2, 3, 7, 8] },
  { id := 2, live := [2, 3, 7, 8, 20] },
  { id := 3, live := [6] },
  { id := 4, head := some 15, live := [6] }]

theorem comp3 : compF Try.prog an3 Try.f3 = some a3 := by kernel_rfl

/- graphdb/graphdblaw07.GraphLooks -/
def c5 : ACode :=
  .seq (.region none [] [
      ⟨some 3, .box 4 (.tmp 0), none⟩,
      ⟨some 6, .mov (.cst (.bool false)), none⟩] [1, 2, 3] none)
    (.seq (.seq (.region none [] [
      ⟨some 15, .load (some 4) (.tmp 3), none⟩,
      ⟨some 16, .call .pure 7 [(.tmp 15), (.cst (.int .i64 60)), (.cst (.int .i64 100))], none⟩,
      ⟨some 17, .un .not (.tmp 16), none⟩,
      ⟨some 18, .mov (.tmp 17), none⟩,
      ⟨some 19, .mov (.tmp 2), some (18, false)⟩,
      ⟨some 20, .len .str (.tmp 19), some (18, false)⟩,
      ⟨some 21, .bin .gtr .int (.tmp 20) (.cst (.int .i64 200)), some (18, false)⟩,
      ⟨some 22, .pick (.tmp 18) (.cst (.bool true)) (.tmp 21), none⟩] [1, 2, 3, 22] none)
    (.cond (.tmp 22) (.seq (.region none [] [
        ⟨some 23, .call .pure 9 [], none⟩,
        ⟨some 6, .mov (.tmp 23), none⟩] [6] none)
      (.ret))
    (.skip)))
    (.seq (.region none [] [
      ⟨some 25, .load (some 4) (.tmp 3), none⟩,
      ⟨some 26, .mov (.tmp 1), none⟩,
      ⟨some 27, .call .pure 16 [(.tmp 25), (.tmp 26)], none⟩,
      ⟨some 24, .mov (.tmp 27), none⟩,
      ⟨some 28, .ext (.tmp 24) 0, none⟩,
      ⟨some 29, .ext (.tmp 24) 1, none⟩,
      ⟨some 7, .alloc 3 (.agg [.int .i64 0, .sl false [], .sl false []]), none⟩,
      ⟨none, .store 3 (.tmp 7) (.tmp 28), none⟩,
      ⟨some 8, .mov (.tmp 29), none⟩] [1, 2, 3, 7, 8] none)
    (.seq (.region none [] [
      ⟨some 31, .load (some 4) (.tmp 3), none⟩,
      ⟨some 32, .mov (.tmp 1), none⟩,
      ⟨some 33, .call .pure 17 [(.tmp 31), (.tmp 32)], none⟩,
      ⟨some 30, .mov (.tmp 33), none⟩,
      ⟨some 34, .ext (.tmp 30) 0, none⟩,
      ⟨some 35, .ext (.tmp 30) 1, none⟩,
      ⟨some 9, .alloc 3 (.agg [.int .i64 0, .sl false [], .sl false []]), none⟩,
      ⟨none, .store 3 (.tmp 9) (.tmp 34), none⟩,
      ⟨some 10, .mov (.tmp 35), none⟩] [1, 2, 3, 7, 8, 9, 10] none)
    (.seq (.region none [] [
      ⟨some 37, .load (some 4) (.tmp 3), none⟩,
      ⟨some 38, .mov (.tmp 1), none⟩,
      ⟨some 39, .call .pure 18 [(.tmp 37), (.tmp 38)], none⟩,
      ⟨some 36, .mov (.tmp 39), none⟩,
      ⟨some 40, .ext (.tmp 36) 0, none⟩,
      ⟨some 41, .ext (.tmp 36) 1, none⟩,
      ⟨some 11, .alloc 5 (.agg [.int .i64 0, .int .i64 0, .int .i64 0, .str [], .sl false []]), none⟩,
      ⟨none, .store 5 (.tmp 11) (.tmp 40), none⟩,
      ⟨some 12, .mov (.tmp 41), none⟩] [1, 2, 3, 7, 8, 9, 10, 11, 12] none)
    (.seq (.region none [] [
      ⟨some 43, .load (some 4) (.tmp 3), none⟩,
      ⟨some 44, .mov (.tmp 1), none⟩,
      ⟨some 45, .call .pure 19 [(.tmp 43), (.tmp 44)], none⟩,
      ⟨some 42, .mov (.tmp 45), none⟩,
      ⟨some 46, .ext (.tmp 42) 0, none⟩,
      ⟨some 47, .ext (.tmp 42) 1, none⟩,
      ⟨some 13, .alloc 5 (.agg [.int .i64 0, .int .i64 0, .int .i64 0, .str [], .sl false []]), none⟩,
      ⟨none, .store 5 (.tmp 13) (.tmp 46), none⟩,
      ⟨some 14, .mov (.tmp 47), none⟩] [2, 7, 8, 9, 10, 11, 12, 13, 14] none)
    (.seq (.seq (.region none [] [
      ⟨some 48, .mov (.tmp 8), none⟩,
      ⟨some 49, .mov (.tmp 10), none⟩,
      ⟨some 50, .bin .neq .bool (.tmp 48) (.tmp 49), none⟩,
      ⟨some 51, .mov (.tmp 50), none⟩,
      ⟨some 52, .mov (.tmp 12), some (51, false)⟩,
      ⟨some 53, .mov (.tmp 14), some (51, false)⟩,
      ⟨some 54, .bin .neq .bool (.tmp 52) (.tmp 53), some (51, false)⟩,
      ⟨some 55, .pick (.tmp 51) (.cst (.bool true)) (.tmp 54), none⟩,
      ⟨some 56, .mov (.tmp 55), none⟩,
      ⟨some 57, .load (some 3) (.tmp 7), some (56, false)⟩,
      ⟨some 58, .lit false 3 (.agg [.int .i64 0, .sl false [], .sl false []]) 1 [(0, (.tmp 57))], some (56, false)⟩,
      ⟨some 59, .load (some 5) (.tmp 11), some (56, false)⟩,
      ⟨some 60, .lit false 5 (.agg [.int .i64 0, .int .i64 0, .int .i64 0, .str [], .sl false []]) 1 [(0, (.tmp 59))], some (56, false)⟩,
      ⟨some 61, .build [.sl false [], .sl false [], .int .i64 0, .int .i64 0] [(0, 1, (.tmp 58)), (1, 1, (.tmp 60))], some (56, false)⟩,
      ⟨some 62, .load (some 3) (.tmp 9), some (56, false)⟩,
      ⟨some 63, .lit false 3 (.agg [.int .i64 0, .sl false [], .sl false []]) 1 [(0, (.tmp 62))], some (56, false)⟩,
      ⟨some 64, .load (some 5) (.tmp 13), some (56, false)⟩,
      ⟨some 65, .lit false 5 (.agg [.int .i64 0, .int .i64 0, .int .i64 0, .str [], .sl false []]) 1 [(0, (.tmp 64))], some (56, false)⟩,
      ⟨some 66, .build [.sl false [], .sl false [], .int .i64 0, .int .i64 0] [(0, 1, (.tmp 63)), (1, 1, (.tmp 65))], some (56, false)⟩,
      ⟨some 67, .call .pure 20 [(.tmp 61), (.tmp 66)], some (56, false)⟩,
      ⟨some 68, .un .not (.tmp 67), some (56, false)⟩,
      ⟨some 69, .pick (.tmp 56) (.cst (.bool true)) (.tmp 68), none⟩] [2, 7, 9, 11, 13, 69] none)
    (.cond (.tmp 69) (.seq (.region none [] [
        ⟨some 6, .mov (.cst (.bool false)), none⟩] [6] none)
      (.ret))
    (.skip)))
    (.seq (.region (some 38) [] [
      ⟨some 70, .load (some 3) (.tmp 7), none⟩,
      ⟨some 71, .mov (.tmp 2), none⟩,
      ⟨some 72, .call .pure 21 [(.tmp 70), (.tmp 71)], none⟩,
      ⟨some 73, .load (some 3) (.tmp 9), none⟩,
      ⟨some 74, .mov (.tmp 2), none⟩,
      ⟨some 75, .call .pure 22 [(.tmp 73), (.tmp 74)], none⟩,
      ⟨some 76, .bin .eql .bool (.tmp 72) (.tmp 75), none⟩,
      ⟨some 77, .mov (.tmp 76), none⟩,
      ⟨some 78, .load (some 5) (.tmp 11), some (77, true)⟩,
      ⟨some 79, .mov (.tmp 2), some (77, true)⟩,
      ⟨some 80, .lit false 1 (.str []) 1 [(0, (.tmp 79))], some (77, true)⟩,
      ⟨some 81, .call .pure 15 [(.tmp 78), (.tmp 80)], some (77, true)⟩,
      ⟨some 82, .mov (.tmp 2), some (77, true)⟩,
      ⟨some 83, .faddr 3 (.tmp 13), some (77, true)⟩,
      ⟨some 84, .load none (.tmp 83), some (77, true)⟩,
      ⟨some 85, .bin .eql .str (.tmp 82) (.tmp 84), some (77, true)⟩,
      ⟨some 86, .bin .eql .bool (.tmp 81) (.tmp 85), some (77, true)⟩,
      ⟨some 87, .pick (.tmp 77) (.tmp 86) (.cst (.bool false)), none⟩,
      ⟨some 88, .mov (.tmp 87), none⟩,
      ⟨some 89, .load (some 5) (.tmp 11), some (88, true)⟩,
      ⟨some 90, .call .pure 15 [(.tmp 89), (.cst (.sl false []))], some (88, true)⟩,
      ⟨some 91, .pick (.tmp 88) (.tmp 90) (.cst (.bool false)), none⟩,
      ⟨some 92, .mov (.tmp 91), none⟩,
      ⟨some 93, .faddr 2 (.tmp 7), some (92, true)⟩,
      ⟨some 94, .load none (.tmp 93), some (92, true)⟩,
      ⟨some 95, .mov (.tmp 2), some (92, true)⟩,
      ⟨some 96, .call .pure 24 [(.tmp 94), (.tmp 95)], some (92, true)⟩,
      ⟨some 97, .faddr 2 (.tmp 9), some (92, true)⟩,
      ⟨some 98, .load none (.tmp 97), some (92, true)⟩,
      ⟨some 99, .mov (.tmp 2), some (92, true)⟩,
      ⟨some 100, .call .pure 25 [(.tmp 98), (.tmp 99)], some (92, true)⟩,
      ⟨some 101, .call .pure 23 [(.tmp 96), (.tmp 100)], some (92, true)⟩,
      ⟨some 102, .bin .eql .int (.tmp 101) (.cst (.int .i64 0)), some (92, true)⟩,
      ⟨some 103, .pick (.tmp 92) (.tmp 102) (.cst (.bool false)), none⟩,
      ⟨some 104, .mov (.tmp 103), none⟩,
      ⟨some 105, .call .pure 9 [], some (104, true)⟩,
      ⟨some 106, .pick (.tmp 104) (.tmp 105) (.cst (.bool false)), none⟩,
      ⟨some 6, .mov (.tmp 106), none⟩] [6] none)
    (.ret))))))))

def a5 : AFunc := ⟨3, c5, [.tmp 6]⟩

def an5 : List RAnn := [
  { id := 0, live := [1, 2, 3] },
  { id := 1, live := [1, 2, 3, 22] },
  { id := 2, live := [6] },
  { id := 3, live := [1, 2, 3, 7, 8] },
  { id := 4, live := [1, 2, 3, 7, 8, 9, 10] },
  { id := 5, live := [1, 2, 3, 7, 8, 9, 10, 11, 12] },
  { id := 6, live := [2, 7, 8, 9, 10, 11, 12, 13, 14] },
  { id := 7, live := [2, 7, 9, 11, 13, 69] },
  { id := 8, live := [6] },
  { id := 9, head := some 38, live := [6] }]

theorem comp5 : compF Try.prog an5 Try.f5 = some a5 := by kernel_rfl

/- graphdb/graphdbref07.Small -/
/-- loop 0 of function 7 -/
def l7_0_h : List Nat := [3, 7, 8, 9, 10]

def l7_0_b : ACode :=
  .seq (.seq (.region none [] [
      ⟨some 48, .mov (.tmp 10), none⟩,
      ⟨some 49, .faddr 1 (.tmp 9), none⟩,
      ⟨some 50, .load none (.tmp 49), none⟩,
      ⟨some 51, .len .slice (.tmp 50), none⟩,
      ⟨some 52, .bin .lss .int (.tmp 48) (.tmp 51), none⟩,
      ⟨some 53, .mov (.tmp 52), none⟩,
      ⟨some 54, .mov (.tmp 7), some (53, true)⟩,
      ⟨some 55, .bin .geq .int (.tmp 54) (.cst (.int .i64 0)), some (53, true)⟩,
      ⟨some 56, .pick (.tmp 53) (.tmp 55) (.cst (.bool false)), none⟩] [3, 7, 8, 9, 10, 56] none)
    (.cond (.tmp 56) (.skip)
    (.exit 2)))
    (.seq (.block 3 (.region none [] [
        ⟨some 59, .mov (.tmp 7), none⟩,
        ⟨some 60, .faddr 1 (.tmp 9), none⟩,
        ⟨some 61, .load none (.tmp 60), none⟩,
        ⟨some 62, .mov (.tmp 10), none⟩,
        ⟨some 63, .iaddr 1 (.tmp 61) (.tmp 62), none⟩,
        ⟨some 64, .load none (.tmp 63), none⟩,
        ⟨some 65, .len .str (.tmp 64), none⟩,
        ⟨some 66, .bin .quo .int (.tmp 65) (.cst (.int .i64 50)), none⟩,
        ⟨some 67, .bin .sub .int (.tmp 59) (.tmp 66), none⟩,
        ⟨some 7, .mov (.tmp 67), none⟩] [3, 7, 8, 9, 10] none))
    (.region none [] [
      ⟨some 57, .mov (.tmp 10), none⟩,
      ⟨some 58, .bin .add .int (.tmp 57) (.cst (.int .i64 1)), none⟩,
      ⟨some 10, .mov (.tmp 58), none⟩] [3, 7, 8, 9, 10] none))

/-- loop 1 of function 7 -/
def l7_1_h : List Nat := [3, 7, 8]

def l7_1_b : ACode :=
  .seq (.seq (.region none [] [
      ⟨some 24, .mov (.tmp 8), none⟩,
      ⟨some 25, .faddr 0 (.tmp 3), none⟩,
      ⟨some 26, .load none (.tmp 25), none⟩,
      ⟨some 27, .len .slice (.tmp 26), none⟩,
      ⟨some 28, .bin .lss .int (.tmp 24) (.tmp 27), none⟩,
      ⟨some 29, .mov (.tmp 28), none⟩,
      ⟨some 30, .mov (.tmp 7), some (29, true)⟩,
      ⟨some 31, .bin .geq .int (.tmp 30) (.cst (.int .i64 0)), some (29, true)⟩,
      ⟨some 32, .pick (.tmp 29) (.tmp 31) (.cst (.bool false)), none⟩] [3, 7, 8, 32] none)
    (.cond (.tmp 32) (.skip)
    (.exit 0)))
    (.seq (.block 1 (.seq (.region none [] [
        ⟨some 35, .faddr 0 (.tmp 3), none⟩,
        ⟨some 36, .load none (.tmp 35), none⟩,
        ⟨some 37, .mov (.tmp 8), none⟩,
        ⟨some 38, .iaddr 3 (.tmp 36) (.tmp 37), none⟩,
        ⟨some 39, .load (some 3) (.tmp 38), none⟩,
        ⟨some 9, .alloc 3 (.agg [.int .i64 0, .sl false [], .sl false []]), none⟩,
        ⟨none, .store 3 (.tmp 9) (.tmp 39), none⟩] [3, 7, 8, 9] none)
      (.seq (.region none [] [
        ⟨some 40, .faddr 2 (.tmp 9), none⟩,
        ⟨some 41, .load none (.tmp 40), none⟩,
        ⟨some 42, .mov (.tmp 7), none⟩,
        ⟨some 43, .faddr 1 (.tmp 9), none⟩,
        ⟨some 44, .load none (.tmp 43), none⟩,
        ⟨some 45, .len .slice (.tmp 44), none⟩,
        ⟨some 46, .bin .sub .int (.tmp 42) (.tmp 45), none⟩,
        ⟨some 47, .call .pure 32 [(.tmp 41), (.tmp 46)], none⟩,
        ⟨some 7, .mov (.tmp 47), none⟩] [3, 7, 8, 9] none)
      (.seq (.region none [] [
        ⟨some 10, .mov (.cst (.int .i64 0)), none⟩] [3, 7, 8, 9, 10] none)
      (.block 2 (.loop l7_0_h l7_0_b))))))
    (.region none [] [
      ⟨some 33, .mov (.tmp 8), none⟩,
      ⟨some 34, .bin .add .int (.tmp 33) (.cst (.int .i64 1)), none⟩,
      ⟨some 8, .mov (.tmp 34), none⟩] [3, 7, 8] (some 1)))

/-- loop 2 of function 7 -/
def l7_2_h : List Nat := [3, 7, 11]

def l7_2_b : ACode :=
  .seq (.seq (.region none [] [
      ⟨some 68, .mov (.tmp 11), none⟩,
      ⟨some 69, .faddr 1 (.tmp 3), none⟩,
      ⟨some 70, .load none (.tmp 69), none⟩,
      ⟨some 71, .len .slice (.tmp 70), none⟩,
      ⟨some 72, .bin .lss .int (.tmp 68) (.tmp 71), none⟩,
      ⟨some 73, .mov (.tmp 72), none⟩,
      ⟨some 74, .mov (.tmp 7), some (73, true)⟩,
      ⟨some 75, .bin .geq .int (.tmp 74) (.cst (.int .i64 0)), some (73, true)⟩,
      ⟨some 76, .pick (.tmp 73) (.tmp 75) (.cst (.bool false)), none⟩] [3, 7, 11, 76] none)
    (.cond (.tmp 76) (.skip)
    (.exit 4)))
    (.seq (.block 5 (.region (some 18) [] [
        ⟨some 79, .faddr 1 (.tmp 3), none⟩,
        ⟨some 80, .load none (.tmp 79), none⟩,
        ⟨some 81, .mov (.tmp 11), none⟩,
        ⟨some 82, .iaddr 5 (.tmp 80) (.tmp 81), none⟩,
        ⟨some 83, .faddr 4 (.tmp 82), none⟩,
        ⟨some 84, .load none (.tmp 83), none⟩,
        ⟨some 85, .mov (.tmp 7), none⟩,
        ⟨some 86, .faddr 1 (.tmp 3), none⟩,
        ⟨some 87, .load none (.tmp 86), none⟩,
        ⟨some 88, .mov (.tmp 11), none⟩,
        ⟨some 89, .iaddr 5 (.tmp 87) (.tmp 88), none⟩,
        ⟨some 90, .faddr 3 (.tmp 89), none⟩,
        ⟨some 91, .load none (.tmp 90), none⟩,
        ⟨some 92, .len .str (.tmp 91), none⟩,
        ⟨some 93, .bin .quo .int (.tmp 92) (.cst (.int .i64 50)), none⟩,
        ⟨some 94, .bin .sub .int (.tmp 85) (.tmp 93), none⟩,
        ⟨some 95, .call .pure 32 [(.tmp 84), (.tmp 94)], none⟩,
        ⟨some 7, .mov (.tmp 95), none⟩] [3, 7, 11] none))
    (.region none [] [
      ⟨some 77, .mov (.tmp 11), none⟩,
      ⟨some 78, .bin .add .int (.tmp 77) (.cst (.int .i64 1)), none⟩,
      ⟨some 11, .mov (.tmp 78), none⟩] [3, 7, 11] none))

def c7 : ACode :=
  .seq (.region none [] [
      ⟨some 3, .box 4 (.tmp 0), none⟩,
      ⟨some 6, .mov (.cst (.bool false)), none⟩] [1, 2, 3] none)
    (.seq (.seq (.region none [] [
      ⟨some 12, .faddr 0 (.tmp 3), none⟩,
      ⟨some 13, .load none (.tmp 12), none⟩,
      ⟨some 14, .len .slice (.tmp 13), none⟩,
      ⟨some 15, .mov (.tmp 1), none⟩,
      ⟨some 16, .bin .gtr .int (.tmp 14) (.tmp 15), none⟩,
      ⟨some 17, .mov (.tmp 16), none⟩,
      ⟨some 18, .faddr 1 (.tmp 3), some (17, false)⟩,
      ⟨some 19, .load none (.tmp 18), some (17, false)⟩,
      ⟨some 20, .len .slice (.tmp 19), some (17, false)⟩,
      ⟨some 21, .mov (.tmp 2), some (17, false)⟩,
      ⟨some 22, .bin .gtr .int (.tmp 20) (.tmp 21), some (17, false)⟩,
      ⟨some 23, .pick (.tmp 17) (.cst (.bool true)) (.tmp 22), none⟩] [3, 23] none)
    (.cond (.tmp 23) (.seq (.region none [] [
        ⟨some 6, .mov (.cst (.bool false)), none⟩] [6] none)
      (.ret))
    (.skip)))
    (.seq (.region none [] [
      ⟨some 7, .mov (.cst (.int .i64 2000)), none⟩] [3, 7] none)
    (.seq (.seq (.region none [] [
      ⟨some 8, .mov (.cst (.int .i64 0)), none⟩] [3, 7, 8] none)
    (.block 0 (.loop l7_1_h l7_1_b)))
    (.seq (.seq (.region none [] [
      ⟨some 11, .mov (.cst (.int .i64 0)), none⟩] [3, 7, 11] none)
    (.block 4 (.loop l7_2_h l7_2_b)))
    (.seq (.region none [] [
      ⟨some 96, .mov (.tmp 7), none⟩,
      ⟨some 97, .bin .geq .int (.tmp 96) (.cst (.int .i64 0)), none⟩,
      ⟨some 6, .mov (.tmp 97), none⟩] [6] none)
    (.ret))))))

def a7 : AFunc := ⟨3, c7, [.tmp 6]⟩

def an7 : List RAnn := [
  { id := 0, live := [1, 2, 3] },
  { id := 1, live := [3, 23] },
  { id := 2, live := [6] },
  { id := 3, live := [3, 7] },
  { id := 4, live := [3, 7, 8] },
  { id := 5, live := [3, 7, 8, 32], hdr := [3, 7, 8] },
  { id := 7, live := [3, 7, 8, 9] },
  { id := 8, live := [3, 7, 8, 9] },
  { id := 9, live := [3, 7, 8, 9, 10] },
  { id := 10, live := [3, 7, 8, 9, 10, 56], hdr := [3, 7, 8, 9, 10] },
  { id := 12, live := [3, 7, 8, 9, 10] },
  { id := 11, live := [3, 7, 8, 9, 10] },
  { id := 6, live := [3, 7, 8], trunc := some 1 },
  { id := 13, live := [3, 7, 11] },
  { id := 14, live := [3, 7, 11, 76], hdr := [3, 7, 11] },
  { id := 16, head := some 18, live := [3, 7, 11] },
  { id := 15, live := [3, 7, 11] },
  { id := 17, live := [6] }]

theorem comp7 : compF Try.prog an7 Try.f7 = some a7 := by kernel_rfl

/- graphdb/graphdblaw07.few -/
/-- loop 0 of function 8 -/
def l8_0_h : List Nat := [0, 5, 6]

def l8_0_b : ACode :=
  .seq (.region none [] [
      ⟨some 7, .bin .lss .int (.tmp 6) (.tmp 5), none⟩] [0, 5, 6, 7] none)
    (.seq (.cond (.tmp 7) (.skip)
    (.exit 0))
    (.seq (.block 1 (.seq (.region none [] [
        ⟨some 8, .mov (.tmp 6), none⟩,
        ⟨some 3, .mov (.tmp 8), none⟩] [0, 3, 5, 6] none)
      (.seq (.region none [] [
        ⟨some 9, .mov (.tmp 0), none⟩,
        ⟨some 10, .mov (.tmp 3), none⟩,
        ⟨some 11, .iaddr 1 (.tmp 9) (.tmp 10), none⟩,
        ⟨some 12, .load none (.tmp 11), none⟩,
        ⟨some 13, .len .str (.tmp 12), none⟩,
        ⟨some 14, .bin .gtr .int (.tmp 13) (.cst (.int .i64 200)), none⟩] [0, 5, 6, 14] none)
      (.cond (.tmp 14) (.seq (.region none [] [
          ⟨some 2, .mov (.cst (.bool false)), none⟩] [2] none)
        (.ret))
      (.skip)))))
    (.region none [] [
      ⟨some 15, .bin .add .int (.tmp 6) (.cst (.int .i64 1)), none⟩,
      ⟨some 6, .mov (.tmp 15), none⟩] [0, 5, 6] none)))

def c8 : ACode :=
  .seq (.region none [] [
      ⟨some 2, .mov (.cst (.bool false)), none⟩] [0] none)
    (.seq (.seq (.region none [] [
      ⟨some 4, .mov (.tmp 0), none⟩,
      ⟨some 5, .len .slice (.tmp 4), none⟩,
      ⟨some 6, .mov (.cst (.int .i64 0)), none⟩] [0, 5, 6] none)
    (.block 0 (.loop l8_0_h l8_0_b)))
    (.seq (.region none [] [
      ⟨some 16, .mov (.tmp 0), none⟩,
      ⟨some 17, .len .slice (.tmp 16), none⟩,
      ⟨some 18, .bin .leq .int (.tmp 17) (.cst (.int .i64 30)), none⟩,
      ⟨some 2, .mov (.tmp 18), none⟩] [2] none)
    (.ret)))

def a8 : AFunc := ⟨1, c8, [.tmp 2]⟩

def an8 : List RAnn := [
  { id := 0, live := [0] },
  { id := 1, live := [0, 5, 6] },
  { id := 2, live := [0, 5, 6, 7], hdr := [0, 5, 6] },
  { id := 3, live := [0, 3, 5, 6] },
  { id := 4, live := [0, 5, 6, 14] },
  { id := 5, live := [2] },
  { id := 6, live := [0, 5, 6] },
  { id := 7, live := [2] }]

theorem comp8 : compF Try.prog an8 Try.f8 = some a8 := by kernel_rfl

/- graphdb/graphdblaw07.alive -/
def c9 : ACode :=
  .seq (.region none [] [
      ⟨some 0, .mov (.cst (.bool false)), none⟩] [] none)
    (.seq (.region none [] [
      ⟨some 5, .call .pure 33 [], none⟩,
      ⟨some 1, .alloc 4 (.agg [.sl false [], .sl false [], .int .i64 0, .int .i64 0]), none⟩,
      ⟨none, .store 4 (.tmp 1) (.tmp 5), none⟩] [1] none)
    (.seq (.region none [] [
      ⟨some 6, .call .share 33 [], none⟩,
      ⟨some 2, .alloc 4 (.agg [.sl false [], .sl false [], .int .i64 0, .int .i64 0]), none⟩,
      ⟨none, .store 4 (.tmp 2) (.tmp 6), none⟩] [1, 2] none)
    (.seq (.region none [] [
      ⟨some 7, .faddr 1 (.tmp 2), none⟩,
      ⟨some 8, .load none (.tmp 7), none⟩,
      ⟨some 9, .iaddr 5 (.tmp 8) (.cst (.int .i64 0)), none⟩,
      ⟨some 10, .faddr 2 (.tmp 9), none⟩,
      ⟨none, .store 1 (.tmp 10) (.cst (.int .i64 9)), none⟩] [1, 2] none)
    (.seq (.region none [] [
      ⟨some 11, .load (some 4) (.tmp 1), none⟩,
      ⟨some 12, .call .pure 11 [(.tmp 11), (.cst (.int .i64 2)), (.cst (.sl false [])), (.cst (.int .i64 3))], none⟩,
      ⟨some 3, .mov (.tmp 12), none⟩] [1, 2, 3] none)
    (.seq (.region none [] [
      ⟨some 13, .load (some 4) (.tmp 1), none⟩,
      ⟨some 14, .lit false 1 (.str []) 1 [(0, (.cst (.str [84])))], none⟩,
      ⟨some 15, .call .pure 11 [(.tmp 13), (.cst (.int .i64 2)), (.tmp 14), (.cst (.int .i64 2))], none⟩,
      ⟨some 4, .mov (.tmp 15), none⟩] [1, 2, 3, 4] none)
    (.seq (.region none [] [
      ⟨some 16, .load (some 4) (.tmp 1), none⟩,
      ⟨some 17, .call .pure 13 [(.tmp 16)], none⟩,
      ⟨some 18, .bin .eql .int (.tmp 17) (.cst (.int .i64 0)), none⟩,
      ⟨some 19, .mov (.tmp 18), none⟩,
      ⟨some 20, .load (some 4) (.tmp 2), some (19, true)⟩,
      ⟨some 21, .call .borrow 13 [(.tmp 20)], some (19, true)⟩,
      ⟨some 22, .bin .eql .int (.tmp 21) (.cst (.int .i64 10)), some (19, true)⟩,
      ⟨some 23, .pick (.tmp 19) (.tmp 22) (.cst (.bool false)), none⟩,
      ⟨some 24, .mov (.tmp 23), none⟩,
      ⟨some 25, .mov (.tmp 3), some (24, true)⟩,
      ⟨some 26, .build [.int .i64 0, .int .i64 0, .int .i64 0] [(0, 1, (.cst (.int .i64 2))), (1, 1, (.cst (.int .i64 1))), (2, 1, (.cst (.int .i64 1)))], some (24, true)⟩,
      ⟨some 27, .build [.int .i64 0, .int .i64 0, .int .i64 0] [(0, 1, (.cst (.int .i64 2))), (1, 1, (.cst (.int .i64 2))), (2, 1, (.cst (.int .i64 2)))], some (24, true)⟩,
      ⟨some 28, .lit false 3 (.agg [.int .i64 0, .int .i64 0, .int .i64 0]) 2 [(0, (.tmp 26)), (1, (.tmp 27))], some (24, true)⟩,
      ⟨some 29, .call .pure 10 [(.tmp 25), (.tmp 28)], some (24, true)⟩,
      ⟨some 30, .pick (.tmp 24) (.tmp 29) (.cst (.bool false)), none⟩,
      ⟨some 31, .mov (.tmp 30), none⟩,
      ⟨some 32, .mov (.tmp 4), some (31, true)⟩,
      ⟨some 33, .mov (.tmp 3), some (31, true)⟩,
      ⟨some 34, .call .pure 10 [(.tmp 32), (.tmp 33)], some (31, true)⟩,
      ⟨some 35, .pick (.tmp 31) (.tmp 34) (.cst (.bool false)), none⟩,
      ⟨some 36, .mov (.tmp 35), none⟩,
      ⟨some 37, .load (some 4) (.tmp 1), some (36, true)⟩,
      ⟨some 38, .call .pure 11 [(.tmp 37), (.cst (.int .i64 2)), (.cst (.sl false [])), (.cst (.int .i64 1))], some (36, true)⟩,
      ⟨some 39, .len .slice (.tmp 38), some (36, true)⟩,
      ⟨some 40, .bin .eql .int (.tmp 39) (.cst (.int .i64 1)), some (36, true)⟩,
      ⟨some 41, .pick (.tmp 36) (.tmp 40) (.cst (.bool false)), none⟩,
      ⟨some 42, .mov (.tmp 41), none⟩,
      ⟨some 43, .call .pure 34 [], some (42, true)⟩,
      ⟨some 44, .call .pure 13 [(.tmp 43)], some (42, true)⟩,
      ⟨some 45, .bin .eql .int (.tmp 44) (.cst (.int .i64 0)), some (42, true)⟩,
      ⟨some 46, .pick (.tmp 42) (.tmp 45) (.cst (.bool false)), none⟩,
      ⟨some 47, .mov (.tmp 46), none⟩,
      ⟨some 48, .call .pure 35 [(.cst (.str [97, 95, 49]))], some (47, true)⟩,
      ⟨some 49, .pick (.tmp 47) (.tmp 48) (.cst (.bool false)), none⟩,
      ⟨some 50, .mov (.tmp 49), none⟩,
      ⟨some 51, .call .pure 35 [(.cst (.str [49, 97]))], some (50, true)⟩,
      ⟨some 52, .un .not (.tmp 51), some (50, true)⟩,
      ⟨some 53, .pick (.tmp 50) (.tmp 52) (.cst (.bool false)), none⟩,
      ⟨some 0, .mov (.tmp 53), none⟩] [0] none)
    (.ret)))))))

def a9 : AFunc := ⟨0, c9, [.tmp 0]⟩

def an9 : List RAnn := [
  { id := 0 },
  { id := 1, live := [1] },
  { id := 2, live := [1, 2], ops := [(0, .mode .share)] },
  { id := 3, live := [1, 2] },
  { id := 4, live := [1, 2, 3] },
  { id := 5, live := [1, 2, 3, 4] },
  { id := 6, live := [0], ops := [(5, .mode .borrow)] }]

theorem comp9 : compF Try.prog an9 Try.f9 = some a9 := by kernel_rfl

/- graphdb/graphdbref07.SameAdj -/
/-- loop 0 of function 10 -/
def l10_0_h : List Nat := [0, 1, 5]

def l10_0_b : ACode :=
  .seq (.seq (.region none [] [
      ⟨some 11, .mov (.tmp 5), none⟩,
      ⟨some 12, .mov (.tmp 0), none⟩,
      ⟨some 13, .len .slice (.tmp 12), none⟩,
      ⟨some 14, .bin .lss .int (.tmp 11) (.tmp 13), none⟩] [0, 1, 5, 14] none)
    (.cond (.tmp 14) (.skip)
    (.exit 0)))
    (.seq (.block 1 (.seq (.region (some 9) [] [
        ⟨some 17, .mov (.tmp 0), none⟩,
        ⟨some 18, .mov (.tmp 5), none⟩,
        ⟨some 19, .iaddr 3 (.tmp 17) (.tmp 18), none⟩,
        ⟨some 20, .load (some 3) (.tmp 19), none⟩,
        ⟨some 21, .mov (.tmp 1), none⟩,
        ⟨some 22, .mov (.tmp 5), none⟩,
        ⟨some 23, .iaddr 3 (.tmp 21) (.tmp 22), none⟩,
        ⟨some 24, .load (some 3) (.tmp 23), none⟩,
        ⟨some 25, .bin .neq (.flat [.int, .int, .int]) (.tmp 20) (.tmp 24), none⟩] [0, 1, 5, 25] none)
      (.cond (.tmp 25) (.seq (.region none [] [
          ⟨some 4, .mov (.cst (.bool false)), none⟩] [4] none)
        (.ret))
      (.skip))))
    (.region none [] [
      ⟨some 15, .mov (.tmp 5), none⟩,
      ⟨some 16, .bin .add .int (.tmp 15) (.cst (.int .i64 1)), none⟩,
      ⟨some 5, .mov (.tmp 16), none⟩] [0, 1, 5] none))

def c10 : ACode :=
  .seq (.region none [] [
      ⟨some 4, .mov (.cst (.bool false)), none⟩] [0, 1] none)
    (.seq (.seq (.region none [] [
      ⟨some 6, .mov (.tmp 0), none⟩,
      ⟨some 7, .len .slice (.tmp 6), none⟩,
      ⟨some 8, .mov (.tmp 1), none⟩,
      ⟨some 9, .len .slice (.tmp 8), none⟩,
      ⟨some 10, .bin .neq .int (.tmp 7) (.tmp 9), none⟩] [0, 1, 10] none)
    (.cond (.tmp 10) (.seq (.region none [] [
        ⟨some 4, .mov (.cst (.bool false)), none⟩] [4] none)
      (.ret))
    (.skip)))
    (.seq (.seq (.region none [] [
      ⟨some 5, .mov (.cst (.int .i64 0)), none⟩] [0, 1, 5] none)
    (.block 0 (.loop l10_0_h l10_0_b)))
    (.seq (.region none [] [
      ⟨some 4, .mov (.cst (.bool true)), none⟩] [4] none)
    (.ret))))

def a10 : AFunc := ⟨2, c10, [.tmp 4]⟩

def an10 : List RAnn := [
  { id := 0, live := [0, 1] },
  { id := 1, live := [0, 1, 10] },
  { id := 2, live := [4] },
  { id := 3, live := [0, 1, 5] },
  { id := 4, live := [0, 1, 5, 14], hdr := [0, 1, 5] },
  { id := 6, head := some 9, live := [0, 1, 5, 25] },
  { id := 7, live := [4] },
  { id := 5, live := [0, 1, 5] },
  { id := 8, live := [4] }]

theorem comp10 : compF Try.prog an10 Try.f10 = some a10 := by kernel_rfl

/- graphdb/graph.Steps -/
/-- loop 0 of function 11 -/
def l11_0_h : List Nat := [1, 2, 3, 9, 13, 14, 15]

def l11_0_b : ACode :=
  .seq (.region none [] [
      ⟨some 16, .bin .lss .int (.tmp 15) (.tmp 14), none⟩] [1, 2, 3, 9, 13, 14, 15, 16] none)
    (.seq (.cond (.tmp 16) (.skip)
    (.exit 0))
    (.seq (.block 1 (.seq (.region none [] [
        ⟨some 17, .iaddr 5 (.tmp 13) (.tmp 15), none⟩,
        ⟨some 18, .load (some 5) (.tmp 17), none⟩,
        ⟨some 11, .alloc 5 (.agg [.int .i64 0, .int .i64 0, .int .i64 0, .str [], .sl false []]), none⟩,
        ⟨none, .store 5 (.tmp 11) (.tmp 18), none⟩] [1, 2, 3, 9, 11, 13, 14, 15] none)
      (.seq (.seq (.region none [] [
        ⟨some 19, .load (some 5) (.tmp 11), none⟩,
        ⟨some 20, .mov (.tmp 2), none⟩,
        ⟨some 21, .call .pure 15 [(.tmp 19), (.tmp 20)], none⟩,
        ⟨some 22, .un .not (.tmp 21), none⟩] [1, 2, 3, 9, 11, 13, 14, 15, 22] none)
      (.cond (.tmp 22) (.exit 1)
      (.skip)))
      (.block 2 (.seq (.region none [] [
          ⟨some 24, .mov (.tmp 3), none⟩,
          ⟨some 25, .bin .eql .int (.tmp 24) (.cst (.int .i64 1)), none⟩,
          ⟨some 26, .mov (.tmp 25), none⟩,
          ⟨some 27, .mov (.tmp 3), some (26, false)⟩,
          ⟨some 28, .bin .eql .int (.tmp 27) (.cst (.int .i64 3)), some (26, false)⟩,
          ⟨some 29, .pick (.tmp 26) (.cst (.bool true)) (.tmp 28), none⟩,
          ⟨some 30, .mov (.tmp 29), none⟩,
          ⟨some 31, .faddr 1 (.tmp 11), some (30, true)⟩,
          ⟨some 32, .load none (.tmp 31), some (30, true)⟩,
          ⟨some 33, .mov (.tmp 1), some (30, true)⟩,
          ⟨some 34, .bin .eql .int (.tmp 32) (.tmp 33), some (30, true)⟩,
          ⟨some 35, .pick (.tmp 30) (.tmp 34) (.cst (.bool false)), none⟩,
          ⟨some 23, .mov (.tmp 35), none⟩] [1, 2, 3, 9, 11, 13, 14, 15, 23] none)
        (.cond (.tmp 23) (.region none [] [
            ⟨some 36, .mov (.tmp 9), none⟩,
            ⟨some 37, .mov (.tmp 1), none⟩,
            ⟨some 38, .faddr 2 (.tmp 11), none⟩,
            ⟨some 39, .load none (.tmp 38), none⟩,
            ⟨some 40, .faddr 0 (.tmp 11), none⟩,
            ⟨some 41, .load none (.tmp 40), none⟩,
            ⟨some 42, .build [.int .i64 0, .int .i64 0, .int .i64 0] [(0, 1, (.tmp 37)), (1, 1, (.tmp 39)), (2, 1, (.tmp 41))], none⟩,
            ⟨some 43, .lit false 3 (.agg [.int .i64 0, .int .i64 0, .int .i64 0]) 1 [(0, (.tmp 42))], none⟩,
            ⟨some 44, .append 3 24 (.tmp 36) (.tmp 43), none⟩,
            ⟨some 9, .mov (.tmp 44), none⟩] [1, 2, 3, 9, 13, 14, 15] none)
        (.seq (.region none [] [
            ⟨some 46, .mov (.tmp 3), none⟩,
            ⟨some 47, .bin .eql .int (.tmp 46) (.cst (.int .i64 2)), none⟩,
            ⟨some 48, .mov (.tmp 47), none⟩,
            ⟨some 49, .mov (.tmp 3), some (48, false)⟩,
            ⟨some 50, .bin .eql .int (.tmp 49) (.cst (.int .i64 3)), some (48, false)⟩,
            ⟨some 51, .pick (.tmp 48) (.cst (.bool true)) (.tmp 50), none⟩,
            ⟨some 52, .mov (.tmp 51), none⟩,
            ⟨some 53, .faddr 2 (.tmp 11), some (52, true)⟩,
            ⟨some 54, .load none (.tmp 53), some (52, true)⟩,
            ⟨some 55, .mov (.tmp 1), some (52, true)⟩,
            ⟨some 56, .bin .eql .int (.tmp 54) (.tmp 55), some (52, true)⟩,
            ⟨some 57, .pick (.tmp 52) (.tmp 56) (.cst (.bool false)), none⟩,
            ⟨some 45, .mov (.tmp 57), none⟩] [1, 2, 3, 9, 11, 13, 14, 15, 45] none)
          (.cond (.tmp 45) (.region none [] [
              ⟨some 58, .mov (.tmp 9), none⟩,
              ⟨some 59, .mov (.tmp 1), none⟩,
              ⟨some 60, .faddr 1 (.tmp 11), none⟩,
              ⟨some 61, .load none (.tmp 60), none⟩,
              ⟨some 62, .faddr 0 (.tmp 11), none⟩,
              ⟨some 63, .load none (.tmp 62), none⟩,
              ⟨some 64, .build [.int .i64 0, .int .i64 0, .int .i64 0] [(0, 1, (.tmp 59)), (1, 1, (.tmp 61)), (2, 1, (.tmp 63))], none⟩,
              ⟨some 65, .lit false 3 (.agg [.int .i64 0, .int .i64 0, .int .i64 0]) 1 [(0, (.tmp 64))], none⟩,
              ⟨some 66, .append 3 24 (.tmp 58) (.tmp 65), none⟩,
              ⟨some 9, .mov (.tmp 66), none⟩] [1, 2, 3, 9, 13, 14, 15] none)
          (.skip)))))))))
    (.region none [] [
      ⟨some 67, .bin .add .int (.tmp 15) (.cst (.int .i64 1)), none⟩,
      ⟨some 15, .mov (.tmp 67), none⟩] [1, 2, 3, 9, 13, 14, 15] (some 2))))

def c11 : ACode :=
  .seq (.region none [] [
      ⟨some 4, .box 4 (.tmp 0), none⟩,
      ⟨some 8, .mov (.cst (.sl false [])), none⟩] [1, 2, 3, 4] none)
    (.seq (.region none [] [
      ⟨some 9, .newown 3, none⟩] [1, 2, 3, 4, 9] none)
    (.seq (.seq (.region none [] [
      ⟨some 12, .faddr 1 (.tmp 4), none⟩,
      ⟨some 13, .load none (.tmp 12), none⟩,
      ⟨some 14, .len .slice (.tmp 13), none⟩,
      ⟨some 15, .mov (.cst (.int .i64 0)), none⟩] [1, 2, 3, 9, 13, 14, 15] none)
    (.block 0 (.loop l11_0_h l11_0_b)))
    (.seq (.region none [] [
      ⟨some 68, .mov (.tmp 9), none⟩,
      ⟨some 69, .call .share 36 [(.tmp 68), (.cst (.fn 37 []))], none⟩] [9] none)
    (.seq (.region none [] [
      ⟨some 70, .mov (.tmp 9), none⟩,
      ⟨some 8, .mov (.tmp 70), none⟩] [8] none)
    (.ret)))))

def a11 : AFunc := ⟨4, c11, [.tmp 8]⟩

def an11 : List RAnn := [
  { id := 0, live := [1, 2, 3, 4] },
  { id := 1, live := [1, 2, 3, 4, 9], ops := [(0, .own)] },
  { id := 2, live := [1, 2, 3, 9, 13, 14, 15] },
  { id := 3, live := [1, 2, 3, 9, 13, 14, 15, 16], hdr := [1, 2, 3, 9, 13, 14, 15] },
  { id := 4, live := [1, 2, 3, 9, 11, 13, 14, 15] },
  { id := 5, live := [1, 2, 3, 9, 11, 13, 14, 15, 22] },
  { id := 6, live := [1, 2, 3, 9, 11, 13, 14, 15, 23] },
  { id := 7, live := [1, 2, 3, 9, 13, 14, 15] },
  { id := 8, live := [1, 2, 3, 9, 11, 13, 14, 15, 45] },
  { id := 9, live := [1, 2, 3, 9, 13, 14, 15] },
  { id := 10, live := [1, 2, 3, 9, 13, 14, 15], trunc := some 2 },
  { id := 11, live := [9], ops := [(1, .mode .share)] },
  { id := 12, live := [8] }]

theorem comp11 : compF Try.prog an11 Try.f11 = some a11 := by kernel_rfl

/- graphdb/graphdbref07.Steps -/
/-- loop 0 of function 12 -/
def l12_0_h : List Nat := [1, 2, 3, 4, 9, 10, 11, 13]

def l12_0_b : ACode :=
  .seq (.seq (.region (some 35) [] [
      ⟨some 50, .mov (.tmp 13), none⟩,
      ⟨some 51, .bin .gtr .int (.tmp 50) (.cst (.int .i64 0)), none⟩,
      ⟨some 52, .mov (.tmp 51), none⟩,
      ⟨some 53, .faddr 1 (.tmp 11), some (52, true)⟩,
      ⟨some 54, .load none (.tmp 53), some (52, true)⟩,
      ⟨some 55, .mov (.tmp 9), some (52, true)⟩,
      ⟨some 56, .mov (.tmp 13), some (52, true)⟩,
      ⟨some 57, .bin .sub .int (.tmp 56) (.cst (.int .i64 1)), some (52, true)⟩,
      ⟨some 58, .iaddr 3 (.tmp 55) (.tmp 57), some (52, true)⟩,
      ⟨some 59, .faddr 1 (.tmp 58), some (52, true)⟩,
      ⟨some 60, .load none (.tmp 59), some (52, true)⟩,
      ⟨some 61, .bin .lss .int (.tmp 54) (.tmp 60), some (52, true)⟩,
      ⟨some 62, .mov (.tmp 61), some (52, true)⟩,
      ⟨some 63, .faddr 1 (.tmp 11), some (62, false)⟩,
      ⟨some 64, .load none (.tmp 63), some (62, false)⟩,
      ⟨some 65, .mov (.tmp 9), some (62, false)⟩,
      ⟨some 66, .mov (.tmp 13), some (62, false)⟩,
      ⟨some 67, .bin .sub .int (.tmp 66) (.cst (.int .i64 1)), some (62, false)⟩,
      ⟨some 68, .iaddr 3 (.tmp 65) (.tmp 67), some (62, false)⟩,
      ⟨some 69, .faddr 1 (.tmp 68), some (62, false)⟩,
      ⟨some 70, .load none (.tmp 69), some (62, false)⟩,
      ⟨some 71, .bin .eql .int (.tmp 64) (.tmp 70), some (62, false)⟩,
      ⟨some 72, .mov (.tmp 71), some (62, false)⟩,
      ⟨some 73, .faddr 2 (.tmp 11), some (72, true)⟩,
      ⟨some 74, .load none (.tmp 73), some (72, true)⟩,
      ⟨some 75, .mov (.tmp 9), some (72, true)⟩,
      ⟨some 76, .mov (.tmp 13), some (72, true)⟩,
      ⟨some 77, .bin .sub .int (.tmp 76) (.cst (.int .i64 1)), some (72, true)⟩,
      ⟨some 78, .iaddr 3 (.tmp 75) (.tmp 77), some (72, true)⟩,
      ⟨some 79, .faddr 2 (.tmp 78), some (72, true)⟩,
      ⟨some 80, .load none (.tmp 79), some (72, true)⟩,
      ⟨some 81, .bin .lss .int (.tmp 74) (.tmp 80), some (72, true)⟩,
      ⟨some 82, .pick (.tmp 72) (.tmp 81) (.cst (.bool false)), some (62, false)⟩,
      ⟨some 83, .pick (.tmp 62) (.cst (.bool true)) (.tmp 82), some (52, true)⟩,
      ⟨some 84, .pick (.tmp 52) (.tmp 83) (.cst (.bool false)), none⟩] [1, 2, 3, 4, 9, 10, 11, 13, 84] none)
    (.cond (.tmp 84) (.skip)
    (.exit 2)))
    (.block 3 (.seq (.region none [] [
        ⟨some 85, .mov (.tmp 9), none⟩,
        ⟨some 86, .mov (.tmp 13), none⟩,
        ⟨some 87, .mov (.tmp 9), none⟩,
        ⟨some 88, .mov (.tmp 13), none⟩,
        ⟨some 89, .bin .sub .int (.tmp 88) (.cst (.int .i64 1)), none⟩,
        ⟨some 90, .iaddr 3 (.tmp 87) (.tmp 89), none⟩,
        ⟨some 91, .load (some 3) (.tmp 90), none⟩,
        ⟨some 92, .iaddr 3 (.tmp 85) (.tmp 86), none⟩,
        ⟨none, .store 3 (.tmp 92) (.tmp 91), none⟩] [1, 2, 3, 4, 9, 10, 11, 13] none)
      (.region none [] [
        ⟨some 93, .mov (.tmp 13), none⟩,
        ⟨some 94, .bin .sub .int (.tmp 93) (.cst (.int .i64 1)), none⟩,
        ⟨some 13, .mov (.tmp 94), none⟩] [1, 2, 3, 4, 9, 10, 11, 13] none)))

/-- loop 1 of function 12 -/
def l12_1_h : List Nat := [1, 2, 3, 4, 9, 10]

def l12_1_b : ACode :=
  .seq (.seq (.region none [] [
      ⟨some 14, .mov (.tmp 10), none⟩,
      ⟨some 15, .faddr 1 (.tmp 4), none⟩,
      ⟨some 16, .load none (.tmp 15), none⟩,
      ⟨some 17, .len .slice (.tmp 16), none⟩,
      ⟨some 18, .bin .lss .int (.tmp 14) (.tmp 17), none⟩] [1, 2, 3, 4, 9, 10, 18] none)
    (.cond (.tmp 18) (.skip)
    (.exit 0)))
    (.seq (.block 1 (.seq (.region none [] [
        ⟨some 22, .faddr 1 (.tmp 4), none⟩,
        ⟨some 23, .load none (.tmp 22), none⟩,
        ⟨some 24, .mov (.tmp 10), none⟩,
        ⟨some 25, .iaddr 5 (.tmp 23) (.tmp 24), none⟩,
        ⟨some 26, .load (some 5) (.tmp 25), none⟩,
        ⟨some 27, .mov (.tmp 1), none⟩,
        ⟨some 28, .mov (.tmp 3), none⟩,
        ⟨some 29, .call .pure 40 [(.tmp 26), (.tmp 27), (.tmp 28)], none⟩,
        ⟨some 21, .mov (.tmp 29), none⟩,
        ⟨some 30, .ext (.tmp 21) 0, none⟩,
        ⟨some 31, .ext (.tmp 21) 1, none⟩,
        ⟨some 11, .alloc 3 (.agg [.int .i64 0, .int .i64 0, .int .i64 0]), none⟩,
        ⟨none, .store 3 (.tmp 11) (.tmp 30), none⟩,
        ⟨some 12, .mov (.tmp 31), none⟩] [1, 2, 3, 4, 9, 10, 11, 12] none)
      (.seq (.seq (.region none [] [
        ⟨some 32, .mov (.tmp 12), none⟩,
        ⟨some 33, .un .not (.tmp 32), none⟩,
        ⟨some 34, .mov (.tmp 33), none⟩,
        ⟨some 35, .faddr 1 (.tmp 4), some (34, false)⟩,
        ⟨some 36, .load none (.tmp 35), some (34, false)⟩,
        ⟨some 37, .mov (.tmp 10), some (34, false)⟩,
        ⟨some 38, .iaddr 5 (.tmp 36) (.tmp 37), some (34, false)⟩,
        ⟨some 39, .load (some 5) (.tmp 38), some (34, false)⟩,
        ⟨some 40, .mov (.tmp 2), some (34, false)⟩,
        ⟨some 41, .call .pure 41 [(.tmp 39), (.tmp 40)], some (34, false)⟩,
        ⟨some 42, .un .not (.tmp 41), some (34, false)⟩,
        ⟨some 43, .pick (.tmp 34) (.cst (.bool true)) (.tmp 42), none⟩] [1, 2, 3, 4, 9, 10, 11, 43] none)
      (.cond (.tmp 43) (.exit 1)
      (.skip)))
      (.seq (.region none [] [
        ⟨some 44, .mov (.tmp 9), none⟩,
        ⟨some 45, .len .slice (.tmp 44), none⟩,
        ⟨some 13, .mov (.tmp 45), none⟩] [1, 2, 3, 4, 9, 10, 11, 13] none)
      (.seq (.region none [] [
        ⟨some 46, .mov (.tmp 9), none⟩,
        ⟨some 47, .load (some 3) (.tmp 11), none⟩,
        ⟨some 48, .lit false 3 (.agg [.int .i64 0, .int .i64 0, .int .i64 0]) 1 [(0, (.tmp 47))], none⟩,
        ⟨some 49, .append 3 24 (.tmp 46) (.tmp 48), none⟩,
        ⟨some 9, .mov (.tmp 49), none⟩] [1, 2, 3, 4, 9, 10, 11, 13] none)
      (.seq (.block 2 (.loop l12_0_h l12_0_b))
      (.region none [] [
        ⟨some 95, .mov (.tmp 9), none⟩,
        ⟨some 96, .mov (.tmp 13), none⟩,
        ⟨some 97, .load (some 3) (.tmp 11), none⟩,
        ⟨some 98, .iaddr 3 (.tmp 95) (.tmp 96), none⟩,
        ⟨none, .store 3 (.tmp 98) (.tmp 97), none⟩] [1, 2, 3, 4, 9, 10] none)))))))
    (.region none [] [
      ⟨some 19, .mov (.tmp 10), none⟩,
      ⟨some 20, .bin .add .int (.tmp 19) (.cst (.int .i64 1)), none⟩,
      ⟨some 10, .mov (.tmp 20), none⟩] [1, 2, 3, 4, 9, 10] (some 2)))

def c12 : ACode :=
  .seq (.region none [] [
      ⟨some 4, .box 4 (.tmp 0), none⟩,
      ⟨some 8, .mov (.cst (.sl false [])), none⟩] [1, 2, 3, 4] none)
    (.seq (.region none [] [
      ⟨some 9, .newown 3, none⟩] [1, 2, 3, 4, 9] none)
    (.seq (.seq (.region none [] [
      ⟨some 10, .mov (.cst (.int .i64 0)), none⟩] [1, 2, 3, 4, 9, 10] none)
    (.block 0 (.loop l12_1_h l12_1_b)))
    (.seq (.region none [] [
      ⟨some 99, .mov (.tmp 9), none⟩,
      ⟨some 8, .mov (.tmp 99), none⟩] [8] none)
    (.ret))))

def a12 : AFunc := ⟨4, c12, [.tmp 8]⟩

def an12 : List RAnn := [
  { id := 0, live := [1, 2, 3, 4] },
  { id := 1, live := [1, 2, 3, 4, 9], ops := [(0, .own)] },
  { id := 2, live := [1, 2, 3, 4, 9, 10] },
  { id := 3, live := [1, 2, 3, 4, 9, 10, 18], hdr := [1, 2, 3, 4, 9, 10] },
  { id := 5, live := [1, 2, 3, 4, 9, 10, 11, 12] },
  { id := 6, live := [1, 2, 3, 4, 9, 10, 11, 43] },
  { id := 7, live := [1, 2, 3, 4, 9, 10, 11, 13] },
  { id := 8, live := [1, 2, 3, 4, 9, 10, 11, 13] },
  { id := 9, head := some 35, live := [1, 2, 3, 4, 9, 10, 11, 13, 84], hdr := [1, 2, 3, 4, 9, 10, 11, 13] },
  { id := 10, live := [1, 2, 3, 4, 9, 10, 11, 13] },
  { id := 11, live := [1, 2, 3, 4, 9, 10, 11, 13] },
  { id := 12, live := [1, 2, 3, 4, 9, 10] },
  { id := 4, live := [1, 2, 3, 4, 9, 10], trunc := some 2 },
  { id := 13, live := [8] }]

theorem comp12 : compF Try.prog an12 Try.f12 = some a12 := by kernel_rfl

/- graphdb/graph.Check -/
/-- loop 0 of function 13 -/
def l13_0_h : List Nat := [1, 38, 39, 40]

def l13_0_b : ACode :=
  .seq (.region none [] [
      ⟨some 41, .bin .lss .int (.tmp 40) (.tmp 39), none⟩] [1, 38, 39, 40, 41] none)
    (.seq (.cond (.tmp 41) (.skip)
    (.exit 0))
    (.seq (.block 1 (.seq (.region none [] [
        ⟨some 42, .mov (.tmp 40), none⟩,
        ⟨some 43, .iaddr 3 (.tmp 38) (.tmp 40), none⟩,
        ⟨some 44, .load (some 3) (.tmp 43), none⟩,
        ⟨some 4, .alloc 3 (.agg [.int .i64 0, .sl false [], .sl false []]), none⟩,
        ⟨some 3, .mov (.tmp 42), none⟩,
        ⟨none, .store 3 (.tmp 4) (.tmp 44), none⟩] [1, 3, 4, 38, 39, 40] none)
      (.seq (.seq (.region (some 14) [] [
        ⟨some 45, .mov (.tmp 3), none⟩,
        ⟨some 46, .bin .gtr .int (.tmp 45) (.cst (.int .i64 0)), none⟩,
        ⟨some 47, .mov (.tmp 46), none⟩,
        ⟨some 48, .faddr 0 (.tmp 4), some (47, true)⟩,
        ⟨some 49, .load none (.tmp 48), some (47, true)⟩,
        ⟨some 50, .faddr 0 (.tmp 1), some (47, true)⟩,
        ⟨some 51, .load none (.tmp 50), some (47, true)⟩,
        ⟨some 52, .mov (.tmp 3), some (47, true)⟩,
        ⟨some 53, .bin .sub .int (.tmp 52) (.cst (.int .i64 1)), some (47, true)⟩,
        ⟨some 54, .iaddr 3 (.tmp 51) (.tmp 53), some (47, true)⟩,
        ⟨some 55, .faddr 0 (.tmp 54), some (47, true)⟩,
        ⟨some 56, .load none (.tmp 55), some (47, true)⟩,
        ⟨some 57, .bin .leq .int (.tmp 49) (.tmp 56), some (47, true)⟩,
        ⟨some 58, .pick (.tmp 47) (.tmp 57) (.cst (.bool false)), none⟩] [1, 4, 38, 39, 40, 58] none)
      (.cond (.tmp 58) (.seq (.region none [] [
          ⟨some 2, .mov (.cst (.int .i64 26)), none⟩] [2] none)
        (.ret))
      (.skip)))
      (.seq (.seq (.region none [] [
        ⟨some 59, .faddr 0 (.tmp 4), none⟩,
        ⟨some 60, .load none (.tmp 59), none⟩,
        ⟨some 61, .bin .lss .int (.tmp 60) (.cst (.int .i64 1)), none⟩,
        ⟨some 62, .mov (.tmp 61), none⟩,
        ⟨some 63, .faddr 0 (.tmp 4), some (62, false)⟩,
        ⟨some 64, .load none (.tmp 63), some (62, false)⟩,
        ⟨some 65, .faddr 2 (.tmp 1), some (62, false)⟩,
        ⟨some 66, .load none (.tmp 65), some (62, false)⟩,
        ⟨some 67, .bin .geq .int (.tmp 64) (.tmp 66), some (62, false)⟩,
        ⟨some 68, .pick (.tmp 62) (.cst (.bool true)) (.tmp 67), none⟩] [1, 4, 38, 39, 40, 68] none)
      (.cond (.tmp 68) (.seq (.region none [] [
          ⟨some 2, .mov (.cst (.int .i64 1)), none⟩] [2] none)
        (.ret))
      (.skip)))
      (.seq (.region none [] [
        ⟨some 69, .faddr 1 (.tmp 4), none⟩,
        ⟨some 70, .load none (.tmp 69), none⟩,
        ⟨some 71, .faddr 2 (.tmp 4), none⟩,
        ⟨some 72, .load none (.tmp 71), none⟩,
        ⟨some 73, .call .pure 42 [(.tmp 70), (.tmp 72)], none⟩,
        ⟨some 5, .mov (.tmp 73), none⟩] [1, 5, 38, 39, 40] none)
      (.seq (.region none [] [
        ⟨some 74, .mov (.tmp 5), none⟩,
        ⟨some 75, .bin .neq .int (.tmp 74) (.cst (.int .i64 0)), none⟩] [1, 5, 38, 39, 40, 75] none)
      (.cond (.tmp 75) (.seq (.region none [] [
          ⟨some 76, .mov (.tmp 5), none⟩,
          ⟨some 2, .mov (.tmp 76), none⟩] [2] none)
        (.ret))
      (.skip))))))))
    (.region none [] [
      ⟨some 77, .bin .add .int (.tmp 40) (.cst (.int .i64 1)), none⟩,
      ⟨some 40, .mov (.tmp 77), none⟩] [1, 38, 39, 40] none)))

/-- loop 1 of function 13 -/
def l13_1_h : List Nat := [1, 79, 80, 81]

def l13_1_b : ACode :=
  .seq (.region none [] [
      ⟨some 82, .bin .lss .int (.tmp 81) (.tmp 80), none⟩] [1, 79, 80, 81, 82] none)
    (.seq (.cond (.tmp 82) (.skip)
    (.exit 2))
    (.seq (.block 3 (.seq (.region none [] [
        ⟨some 83, .mov (.tmp 81), none⟩,
        ⟨some 84, .iaddr 5 (.tmp 79) (.tmp 81), none⟩,
        ⟨some 85, .load (some 5) (.tmp 84), none⟩,
        ⟨some 7, .alloc 5 (.agg [.int .i64 0, .int .i64 0, .int .i64 0, .str [], .sl false []]), none⟩,
        ⟨some 6, .mov (.tmp 83), none⟩,
        ⟨none, .store 5 (.tmp 7) (.tmp 85), none⟩] [1, 6, 7, 79, 80, 81] none)
      (.seq (.seq (.region (some 14) [] [
        ⟨some 86, .mov (.tmp 6), none⟩,
        ⟨some 87, .bin .gtr .int (.tmp 86) (.cst (.int .i64 0)), none⟩,
        ⟨some 88, .mov (.tmp 87), none⟩,
        ⟨some 89, .faddr 0 (.tmp 7), some (88, true)⟩,
        ⟨some 90, .load none (.tmp 89), some (88, true)⟩,
        ⟨some 91, .faddr 1 (.tmp 1), some (88, true)⟩,
        ⟨some 92, .load none (.tmp 91), some (88, true)⟩,
        ⟨some 93, .mov (.tmp 6), some (88, true)⟩,
        ⟨some 94, .bin .sub .int (.tmp 93) (.cst (.int .i64 1)), some (88, true)⟩,
        ⟨some 95, .iaddr 5 (.tmp 92) (.tmp 94), some (88, true)⟩,
        ⟨some 96, .faddr 0 (.tmp 95), some (88, true)⟩,
        ⟨some 97, .load none (.tmp 96), some (88, true)⟩,
        ⟨some 98, .bin .leq .int (.tmp 90) (.tmp 97), some (88, true)⟩,
        ⟨some 99, .pick (.tmp 88) (.tmp 98) (.cst (.bool false)), none⟩] [1, 7, 79, 80, 81, 99] none)
      (.cond (.tmp 99) (.seq (.region none [] [
          ⟨some 2, .mov (.cst (.int .i64 26)), none⟩] [2] none)
        (.ret))
      (.skip)))
      (.seq (.seq (.region none [] [
        ⟨some 100, .faddr 0 (.tmp 7), none⟩,
        ⟨some 101, .load none (.tmp 100), none⟩,
        ⟨some 102, .bin .lss .int (.tmp 101) (.cst (.int .i64 1)), none⟩,
        ⟨some 103, .mov (.tmp 102), none⟩,
        ⟨some 104, .faddr 0 (.tmp 7), some (103, false)⟩,
        ⟨some 105, .load none (.tmp 104), some (103, false)⟩,
        ⟨some 106, .faddr 3 (.tmp 1), some (103, false)⟩,
        ⟨some 107, .load none (.tmp 106), some (103, false)⟩,
        ⟨some 108, .bin .geq .int (.tmp 105) (.tmp 107), some (103, false)⟩,
        ⟨some 109, .pick (.tmp 103) (.cst (.bool true)) (.tmp 108), none⟩] [1, 7, 79, 80, 81, 109] none)
      (.cond (.tmp 109) (.seq (.region none [] [
          ⟨some 2, .mov (.cst (.int .i64 1)), none⟩] [2] none)
        (.ret))
      (.skip)))
      (.seq (.seq (.region none [] [
        ⟨some 110, .faddr 0 (.tmp 1), none⟩,
        ⟨some 111, .load none (.tmp 110), none⟩,
        ⟨some 112, .faddr 1 (.tmp 7), none⟩,
        ⟨some 113, .load none (.tmp 112), none⟩,
        ⟨some 114, .call .pure 43 [(.tmp 111), (.tmp 113)], none⟩,
        ⟨some 115, .un .not (.tmp 114), none⟩,
        ⟨some 116, .mov (.tmp 115), none⟩,
        ⟨some 117, .faddr 0 (.tmp 1), some (116, false)⟩,
        ⟨some 118, .load none (.tmp 117), some (116, false)⟩,
        ⟨some 119, .faddr 2 (.tmp 7), some (116, false)⟩,
        ⟨some 120, .load none (.tmp 119), some (116, false)⟩,
        ⟨some 121, .call .pure 43 [(.tmp 118), (.tmp 120)], some (116, false)⟩,
        ⟨some 122, .un .not (.tmp 121), some (116, false)⟩,
        ⟨some 123, .pick (.tmp 116) (.cst (.bool true)) (.tmp 122), none⟩] [1, 7, 79, 80, 81, 123] none)
      (.cond (.tmp 123) (.seq (.region none [] [
          ⟨some 2, .mov (.cst (.int .i64 10)), none⟩] [2] none)
        (.ret))
      (.skip)))
      (.seq (.seq (.region none [] [
        ⟨some 124, .faddr 3 (.tmp 7), none⟩,
        ⟨some 125, .load none (.tmp 124), none⟩,
        ⟨some 126, .call .pure 35 [(.tmp 125)], none⟩,
        ⟨some 127, .un .not (.tmp 126), none⟩] [1, 7, 79, 80, 81, 127] none)
      (.cond (.tmp 127) (.seq (.region none [] [
          ⟨some 2, .mov (.cst (.int .i64 6)), none⟩] [2] none)
        (.ret))
      (.skip)))
      (.seq (.region none [] [
        ⟨some 128, .faddr 4 (.tmp 7), none⟩,
        ⟨some 129, .load none (.tmp 128), none⟩,
        ⟨some 130, .call .pure 42 [(.cst (.sl false [])), (.tmp 129)], none⟩,
        ⟨some 8, .mov (.tmp 130), none⟩] [1, 8, 79, 80, 81] none)
      (.seq (.region none [] [
        ⟨some 131, .mov (.tmp 8), none⟩,
        ⟨some 132, .bin .neq .int (.tmp 131) (.cst (.int .i64 0)), none⟩] [1, 8, 79, 80, 81, 132] none)
      (.cond (.tmp 132) (.seq (.region none [] [
          ⟨some 133, .mov (.tmp 8), none⟩,
          ⟨some 2, .mov (.tmp 133), none⟩] [2] none)
        (.ret))
      (.skip))))))))))
    (.region none [] [
      ⟨some 134, .bin .add .int (.tmp 81) (.cst (.int .i64 1)), none⟩,
      ⟨some 81, .mov (.tmp 134), none⟩] [1, 79, 80, 81] none)))

def c13 : ACode :=
  .seq (.region none [] [
      ⟨some 1, .box 4 (.tmp 0), none⟩,
      ⟨some 2, .mov (.cst (.int .i64 0)), none⟩] [1] none)
    (.seq (.seq (.region none [] [
      ⟨some 9, .faddr 0 (.tmp 1), none⟩,
      ⟨some 10, .load none (.tmp 9), none⟩,
      ⟨some 11, .len .slice (.tmp 10), none⟩,
      ⟨some 12, .bin .gtr .int (.tmp 11) (.cst (.int .i64 2000)), none⟩,
      ⟨some 13, .mov (.tmp 12), none⟩,
      ⟨some 14, .faddr 1 (.tmp 1), some (13, false)⟩,
      ⟨some 15, .load none (.tmp 14), some (13, false)⟩,
      ⟨some 16, .len .slice (.tmp 15), some (13, false)⟩,
      ⟨some 17, .bin .gtr .int (.tmp 16) (.cst (.int .i64 4000)), some (13, false)⟩,
      ⟨some 18, .pick (.tmp 13) (.cst (.bool true)) (.tmp 17), none⟩] [1, 18] none)
    (.cond (.tmp 18) (.seq (.region none [] [
        ⟨some 2, .mov (.cst (.int .i64 4)), none⟩] [2] none)
      (.ret))
    (.skip)))
    (.seq (.seq (.region none [] [
      ⟨some 19, .faddr 2 (.tmp 1), none⟩,
      ⟨some 20, .load none (.tmp 19), none⟩,
      ⟨some 21, .bin .lss .int (.tmp 20) (.cst (.int .i64 1)), none⟩,
      ⟨some 22, .mov (.tmp 21), none⟩,
      ⟨some 23, .faddr 2 (.tmp 1), some (22, false)⟩,
      ⟨some 24, .load none (.tmp 23), some (22, false)⟩,
      ⟨some 25, .bin .gtr .int (.tmp 24) (.cst (.int .i64 1000001)), some (22, false)⟩,
      ⟨some 26, .pick (.tmp 22) (.cst (.bool true)) (.tmp 25), none⟩,
      ⟨some 27, .mov (.tmp 26), none⟩,
      ⟨some 28, .faddr 3 (.tmp 1), some (27, false)⟩,
      ⟨some 29, .load none (.tmp 28), some (27, false)⟩,
      ⟨some 30, .bin .lss .int (.tmp 29) (.cst (.int .i64 1)), some (27, false)⟩,
      ⟨some 31, .pick (.tmp 27) (.cst (.bool true)) (.tmp 30), none⟩,
      ⟨some 32, .mov (.tmp 31), none⟩,
      ⟨some 33, .faddr 3 (.tmp 1), some (32, false)⟩,
      ⟨some 34, .load none (.tmp 33), some (32, false)⟩,
      ⟨some 35, .bin .gtr .int (.tmp 34) (.cst (.int .i64 1000001)), some (32, false)⟩,
      ⟨some 36, .pick (.tmp 32) (.cst (.bool true)) (.tmp 35), none⟩] [1, 36] none)
    (.cond (.tmp 36) (.seq (.region none [] [
        ⟨some 2, .mov (.cst (.int .i64 1)), none⟩] [2] none)
      (.ret))
    (.skip)))
    (.seq (.seq (.region none [] [
      ⟨some 37, .faddr 0 (.tmp 1), none⟩,
      ⟨some 38, .load none (.tmp 37), none⟩,
      ⟨some 39, .len .slice (.tmp 38), none⟩,
      ⟨some 40, .mov (.cst (.int .i64 0)), none⟩] [1, 38, 39, 40] none)
    (.block 0 (.loop l13_0_h l13_0_b)))
    (.seq (.seq (.region none [] [
      ⟨some 78, .faddr 1 (.tmp 1), none⟩,
      ⟨some 79, .load none (.tmp 78), none⟩,
      ⟨some 80, .len .slice (.tmp 79), none⟩,
      ⟨some 81, .mov (.cst (.int .i64 0)), none⟩] [1, 79, 80, 81] none)
    (.block 2 (.loop l13_1_h l13_1_b)))
    (.seq (.region none [] [
      ⟨some 2, .mov (.cst (.int .i64 0)), none⟩] [2] none)
    (.ret))))))

def a13 : AFunc := ⟨1, c13, [.tmp 2]⟩

def an13 : List RAnn := [
  { id := 0, live := [1] },
  { id := 1, live := [1, 18] },
  { id := 2, live := [2] },
  { id := 3, live := [1, 36] },
  { id := 4, live := [2] },
  { id := 5, live := [1, 38, 39, 40] },
  { id := 6, live := [1, 38, 39, 40, 41], hdr := [1, 38, 39, 40] },
  { id := 7, live := [1, 3, 4, 38, 39, 40] },
  { id := 8, head := some 14, live := [1, 4, 38, 39, 40, 58] },
  { id := 9, live := [2] },
  { id := 10, live := [1, 4, 38, 39, 40, 68] },
  { id := 11, live := [2] },
  { id := 12, live := [1, 5, 38, 39, 40] },
  { id := 13, live := [1, 5, 38, 39, 40, 75] },
  { id := 14, live := [2] },
  { id := 15, live := [1, 38, 39, 40] },
  { id := 16, live := [1, 79, 80, 81] },
  { id := 17, live := [1, 79, 80, 81, 82], hdr := [1, 79, 80, 81] },
  { id := 18, live := [1, 6, 7, 79, 80, 81] },
  { id := 19, head := some 14, live := [1, 7, 79, 80, 81, 99] },
  { id := 20, live := [2] },
  { id := 21, live := [1, 7, 79, 80, 81, 109] },
  { id := 22, live := [2] },
  { id := 23, live := [1, 7, 79, 80, 81, 123] },
  { id := 24, live := [2] },
  { id := 25, live := [1, 7, 79, 80, 81, 127] },
  { id := 26, live := [2] },
  { id := 27, live := [1, 8, 79, 80, 81] },
  { id := 28, live := [1, 8, 79, 80, 81, 132] },
  { id := 29, live := [2] },
  { id := 30, live := [1, 79, 80, 81] },
  { id := 31, live := [2] }]

theorem comp13 : compF Try.prog an13 Try.f13 = some a13 := by kernel_rfl

/- graphdb/graph.HasType -/
def c15 : ACode :=
  .seq (.region none [] [
      ⟨some 2, .box 5 (.tmp 0), none⟩,
      ⟨some 4, .mov (.cst (.bool false)), none⟩] [1, 2] none)
    (.seq (.region none [] [
      ⟨some 5, .mov (.tmp 1), none⟩,
      ⟨some 6, .len .slice (.tmp 5), none⟩,
      ⟨some 7, .bin .eql .int (.tmp 6) (.cst (.int .i64 0)), none⟩,
      ⟨some 8, .mov (.tmp 7), none⟩,
      ⟨some 9, .mov (.tmp 1), some (8, false)⟩,
      ⟨some 10, .faddr 3 (.tmp 2), some (8, false)⟩,
      ⟨some 11, .load none (.tmp 10), some (8, false)⟩,
      ⟨some 12, .call .pure 44 [(.tmp 9), (.tmp 11)], some (8, false)⟩,
      ⟨some 13, .pick (.tmp 8) (.cst (.bool true)) (.tmp 12), none⟩,
      ⟨some 4, .mov (.tmp 13), none⟩] [4] none)
    (.ret))

def a15 : AFunc := ⟨2, c15, [.tmp 4]⟩

def an15 : List RAnn := [
  { id := 0, live := [1, 2] },
  { id := 1, live := [4] }]

theorem comp15 : compF Try.prog an15 Try.f15 = some a15 := by kernel_rfl

/- graphdb/graph.Node -/
/-- loop 0 of function 16 -/
def l16_0_h : List Nat := [1, 4, 9, 10, 11]

def l16_0_b : ACode :=
  .seq (.region none [] [
      ⟨some 12, .bin .lss .int (.tmp 11) (.tmp 10), none⟩] [1, 4, 9, 10, 11, 12] none)
    (.seq (.cond (.tmp 12) (.skip)
    (.exit 0))
    (.seq (.block 1 (.seq (.region none [] [
        ⟨some 13, .iaddr 3 (.tmp 9) (.tmp 11), none⟩,
        ⟨some 14, .load (some 3) (.tmp 13), none⟩,
        ⟨some 7, .alloc 3 (.agg [.int .i64 0, .sl false [], .sl false []]), none⟩,
        ⟨none, .store 3 (.tmp 7) (.tmp 14), none⟩] [1, 4, 7, 9, 10, 11] none)
      (.seq (.region none [] [
        ⟨some 15, .faddr 0 (.tmp 7), none⟩,
        ⟨some 16, .load none (.tmp 15), none⟩,
        ⟨some 17, .mov (.tmp 1), none⟩,
        ⟨some 18, .bin .eql .int (.tmp 16) (.tmp 17), none⟩] [1, 4, 7, 9, 10, 11, 18] none)
      (.cond (.tmp 18) (.seq (.region (some 8) [] [
          ⟨some 19, .mov (.tmp 1), none⟩,
          ⟨some 20, .faddr 1 (.tmp 7), none⟩,
          ⟨some 21, .load none (.tmp 20), none⟩,
          ⟨some 22, .call .pure 45 [(.tmp 21)], none⟩,
          ⟨some 23, .faddr 2 (.tmp 7), none⟩,
          ⟨some 24, .load none (.tmp 23), none⟩,
          ⟨some 25, .call .pure 46 [(.tmp 24)], none⟩,
          ⟨some 26, .build [.int .i64 0, .sl false [], .sl false []] [(0, 1, (.tmp 19)), (1, 1, (.tmp 22)), (2, 1, (.tmp 25))], none⟩,
          ⟨none, .store 3 (.tmp 4) (.tmp 26), none⟩,
          ⟨some 5, .mov (.cst (.bool true)), none⟩] [4, 5] none)
        (.ret))
      (.skip)))))
    (.region none [] [
      ⟨some 27, .bin .add .int (.tmp 11) (.cst (.int .i64 1)), none⟩,
      ⟨some 11, .mov (.tmp 27), none⟩] [1, 4, 9, 10, 11] (some 2))))

def c16 : ACode :=
  .seq (.region none [] [
      ⟨some 2, .box 4 (.tmp 0), none⟩,
      ⟨some 4, .alloc 3 (.agg [.int .i64 0, .sl false [], .sl false []]), none⟩,
      ⟨some 5, .mov (.cst (.bool false)), none⟩] [1, 2, 4] none)
    (.seq (.seq (.region none [] [
      ⟨some 8, .faddr 0 (.tmp 2), none⟩,
      ⟨some 9, .load none (.tmp 8), none⟩,
      ⟨some 10, .len .slice (.tmp 9), none⟩,
      ⟨some 11, .mov (.cst (.int .i64 0)), none⟩] [1, 4, 9, 10, 11] none)
    (.block 0 (.loop l16_0_h l16_0_b)))
    (.seq (.region none [] [
      ⟨some 28, .build [.int .i64 0, .sl false [], .sl false []] [], none⟩,
      ⟨none, .store 3 (.tmp 4) (.tmp 28), none⟩,
      ⟨some 5, .mov (.cst (.bool false)), none⟩] [4, 5] none)
    (.ret)))

def a16 : AFunc := ⟨2, c16, [.cell 4 (some 3), .tmp 5]⟩

def an16 : List RAnn := [
  { id := 0, live := [1, 2, 4] },
  { id := 1, live := [1, 4, 9, 10, 11] },
  { id := 2, live := [1, 4, 9, 10, 11, 12], hdr := [1, 4, 9, 10, 11] },
  { id := 3, live := [1, 4, 7, 9, 10, 11] },
  { id := 4, live := [1, 4, 7, 9, 10, 11, 18] },
  { id := 5, head := some 8, live := [4, 5] },
  { id := 6, live := [1, 4, 9, 10, 11], trunc := some 2 },
  { id := 7, live := [4, 5] }]

theorem comp16 : compF Try.prog an16 Try.f16 = some a16 := by kernel_rfl

/- graphdb/graphdbref07.Node -/
/-- loop 0 of function 17 -/
def l17_0_h : List Nat := [1, 2, 4, 6]

def l17_0_b : ACode :=
  .seq (.seq (.region none [] [
      ⟨some 7, .mov (.tmp 6), none⟩,
      ⟨some 8, .faddr 0 (.tmp 2), none⟩,
      ⟨some 9, .load none (.tmp 8), none⟩,
      ⟨some 10, .len .slice (.tmp 9), none⟩,
      ⟨some 11, .bin .lss .int (.tmp 7) (.tmp 10), none⟩] [1, 2, 4, 6, 11] none)
    (.cond (.tmp 11) (.skip)
    (.exit 0)))
    (.seq (.block 1 (.seq (.region none [] [
        ⟨some 14, .faddr 0 (.tmp 2), none⟩,
        ⟨some 15, .load none (.tmp 14), none⟩,
        ⟨some 16, .mov (.tmp 6), none⟩,
        ⟨some 17, .iaddr 3 (.tmp 15) (.tmp 16), none⟩,
        ⟨some 18, .faddr 0 (.tmp 17), none⟩,
        ⟨some 19, .load none (.tmp 18), none⟩,
        ⟨some 20, .mov (.tmp 1), none⟩,
        ⟨some 21, .bin .eql .int (.tmp 19) (.tmp 20), none⟩] [1, 2, 4, 6, 21] none)
      (.cond (.tmp 21) (.seq (.region none [] [
          ⟨some 22, .faddr 0 (.tmp 2), none⟩,
          ⟨some 23, .load none (.tmp 22), none⟩,
          ⟨some 24, .mov (.tmp 6), none⟩,
          ⟨some 25, .iaddr 3 (.tmp 23) (.tmp 24), none⟩,
          ⟨some 26, .load (some 3) (.tmp 25), none⟩,
          ⟨none, .store 3 (.tmp 4) (.tmp 26), none⟩,
          ⟨some 5, .mov (.cst (.bool true)), none⟩] [4, 5] none)
        (.ret))
      (.skip))))
    (.region none [] [
      ⟨some 12, .mov (.tmp 6), none⟩,
      ⟨some 13, .bin .add .int (.tmp 12) (.cst (.int .i64 1)), none⟩,
      ⟨some 6, .mov (.tmp 13), none⟩] [1, 2, 4, 6] none))

def c17 : ACode :=
  .seq (.region none [] [
      ⟨some 2, .box 4 (.tmp 0), none⟩,
      ⟨some 4, .alloc 3 (.agg [.int .i64 0, .sl false [], .sl false []]), none⟩,
      ⟨some 5, .mov (.cst (.bool false)), none⟩] [1, 2, 4] none)
    (.seq (.seq (.region none [] [
      ⟨some 6, .mov (.cst (.int .i64 0)), none⟩] [1, 2, 4, 6] none)
    (.block 0 (.loop l17_0_h l17_0_b)))
    (.seq (.region none [] [
      ⟨some 27, .build [.int .i64 0, .sl false [], .sl false []] [], none⟩,
      ⟨none, .store 3 (.tmp 4) (.tmp 27), none⟩,
      ⟨some 5, .mov (.cst (.bool false)), none⟩] [4, 5] none)
    (.ret)))

def a17 : AFunc := ⟨2, c17, [.cell 4 (some 3), .tmp 5]⟩

def an17 : List RAnn := [
  { id := 0, live := [1, 2, 4] },
  { id := 1, live := [1, 2, 4, 6] },
  { id := 2, live := [1, 2, 4, 6, 11], hdr := [1, 2, 4, 6] },
  { id := 4, live := [1, 2, 4, 6, 21] },
  { id := 5, live := [4, 5] },
  { id := 3, live := [1, 2, 4, 6] },
  { id := 6, live := [4, 5] }]

theorem comp17 : compF Try.prog an17 Try.f17 = some a17 := by kernel_rfl

/- graphdb/graph.Edge -/
/-- loop 0 of function 18 -/
def l18_0_h : List Nat := [1, 4, 9, 10, 11]

def l18_0_b : ACode :=
  .seq (.region none [] [
      ⟨some 12, .bin .lss .int (.tmp 11) (.tmp 10), none⟩] [1, 4, 9, 10, 11, 12] none)
    (.seq (.cond (.tmp 12) (.skip)
    (.exit 0))
    (.seq (.block 1 (.seq (.region none [] [
        ⟨some 13, .iaddr 5 (.tmp 9) (.tmp 11), none⟩,
        ⟨some 14, .load (some 5) (.tmp 13), none⟩,
        ⟨some 7, .alloc 5 (.agg [.int .i64 0, .int .i64 0, .int .i64 0, .str [], .sl false []]), none⟩,
        ⟨none, .store 5 (.tmp 7) (.tmp 14), none⟩] [1, 4, 7, 9, 10, 11] none)
      (.seq (.region none [] [
        ⟨some 15, .faddr 0 (.tmp 7), none⟩,
        ⟨some 16, .load none (.tmp 15), none⟩,
        ⟨some 17, .mov (.tmp 1), none⟩,
        ⟨some 18, .bin .eql .int (.tmp 16) (.tmp 17), none⟩] [1, 4, 7, 9, 10, 11, 18] none)
      (.cond (.tmp 18) (.seq (.region none [] [
          ⟨some 19, .faddr 4 (.tmp 7), none⟩,
          ⟨some 20, .load none (.tmp 19), none⟩,
          ⟨some 21, .call .pure 46 [(.tmp 20)], none⟩,
          ⟨some 22, .faddr 4 (.tmp 7), none⟩,
          ⟨none, .store 1 (.tmp 22) (.tmp 21), none⟩] [4, 7] none)
        (.seq (.region none [] [
          ⟨some 23, .load (some 5) (.tmp 7), none⟩,
          ⟨none, .store 5 (.tmp 4) (.tmp 23), none⟩,
          ⟨some 5, .mov (.cst (.bool true)), none⟩] [4, 5] none)
        (.ret)))
      (.skip)))))
    (.region none [] [
      ⟨some 24, .bin .add .int (.tmp 11) (.cst (.int .i64 1)), none⟩,
      ⟨some 11, .mov (.tmp 24), none⟩] [1, 4, 9, 10, 11] (some 2))))

def c18 : ACode :=
  .seq (.region none [] [
      ⟨some 2, .box 4 (.tmp 0), none⟩,
      ⟨some 4, .alloc 5 (.agg [.int .i64 0, .int .i64 0, .int .i64 0, .str [], .sl false []]), none⟩,
      ⟨some 5, .mov (.cst (.bool false)), none⟩] [1, 2, 4] none)
    (.seq (.seq (.region none [] [
      ⟨some 8, .faddr 1 (.tmp 2), none⟩,
      ⟨some 9, .load none (.tmp 8), none⟩,
      ⟨some 10, .len .slice (.tmp 9), none⟩,
      ⟨some 11, .mov (.cst (.int .i64 0)), none⟩] [1, 4, 9, 10, 11] none)
    (.block 0 (.loop l18_0_h l18_0_b)))
    (.seq (.region none [] [
      ⟨some 25, .build [.int .i64 0, .int .i64 0, .int .i64 0, .str [], .sl false []] [], none⟩,
      ⟨none, .store 5 (.tmp 4) (.tmp 25), none⟩,
      ⟨some 5, .mov (.cst (.bool false)), none⟩] [4, 5] none)
    (.ret)))

def a18 : AFunc := ⟨2, c18, [.cell 4 (some 5), .tmp 5]⟩

def an18 : List RAnn := [
  { id := 0, live := [1, 2, 4] },
  { id := 1, live := [1, 4, 9, 10, 11] },
  { id := 2, live := [1, 4, 9, 10, 11, 12], hdr := [1, 4, 9, 10, 11] },
  { id := 3, live := [1, 4, 7, 9, 10, 11] },
  { id := 4, live := [1, 4, 7, 9, 10, 11, 18] },
  { id := 5, live := [4, 7] },
  { id := 6, live := [4, 5] },
  { id := 7, live := [1, 4, 9, 10, 11], trunc := some 2 },
  { id := 8, live := [4, 5] }]

theorem comp18 : compF Try.prog an18 Try.f18 = some a18 := by kernel_rfl

/- graphdb/graphdbref07.Edge -/
/-- loop 0 of function 19 -/
def l19_0_h : List Nat := [1, 2, 4, 6]

def l19_0_b : ACode :=
  .seq (.seq (.region none [] [
      ⟨some 7, .mov (.tmp 6), none⟩,
      ⟨some 8, .faddr 1 (.tmp 2), none⟩,
      ⟨some 9, .load none (.tmp 8), none⟩,
      ⟨some 10, .len .slice (.tmp 9), none⟩,
      ⟨some 11, .bin .lss .int (.tmp 7) (.tmp 10), none⟩] [1, 2, 4, 6, 11] none)
    (.cond (.tmp 11) (.skip)
    (.exit 0)))
    (.seq (.block 1 (.seq (.region none [] [
        ⟨some 14, .faddr 1 (.tmp 2), none⟩,
        ⟨some 15, .load none (.tmp 14), none⟩,
        ⟨some 16, .mov (.tmp 6), none⟩,
        ⟨some 17, .iaddr 5 (.tmp 15) (.tmp 16), none⟩,
        ⟨some 18, .faddr 0 (.tmp 17), none⟩,
        ⟨some 19, .load none (.tmp 18), none⟩,
        ⟨some 20, .mov (.tmp 1), none⟩,
        ⟨some 21, .bin .eql .int (.tmp 19) (.tmp 20), none⟩] [1, 2, 4, 6, 21] none)
      (.cond (.tmp 21) (.seq (.region none [] [
          ⟨some 22, .faddr 1 (.tmp 2), none⟩,
          ⟨some 23, .load none (.tmp 22), none⟩,
          ⟨some 24, .mov (.tmp 6), none⟩,
          ⟨some 25, .iaddr 5 (.tmp 23) (.tmp 24), none⟩,
          ⟨some 26, .load (some 5) (.tmp 25), none⟩,
          ⟨none, .store 5 (.tmp 4) (.tmp 26), none⟩,
          ⟨some 5, .mov (.cst (.bool true)), none⟩] [4, 5] none)
        (.ret))
      (.skip))))
    (.region none [] [
      ⟨some 12, .mov (.tmp 6), none⟩,
      ⟨some 13, .bin .add .int (.tmp 12) (.cst (.int .i64 1)), none⟩,
      ⟨some 6, .mov (.tmp 13), none⟩] [1, 2, 4, 6] none))

def c19 : ACode :=
  .seq (.region none [] [
      ⟨some 2, .box 4 (.tmp 0), none⟩,
      ⟨some 4, .alloc 5 (.agg [.int .i64 0, .int .i64 0, .int .i64 0, .str [], .sl false []]), none⟩,
      ⟨some 5, .mov (.cst (.bool false)), none⟩] [1, 2, 4] none)
    (.seq (.seq (.region none [] [
      ⟨some 6, .mov (.cst (.int .i64 0)), none⟩] [1, 2, 4, 6] none)
    (.block 0 (.loop l19_0_h l19_0_b)))
    (.seq (.region none [] [
      ⟨some 27, .build [.int .i64 0, .int .i64 0, .int .i64 0, .str [], .sl false []] [], none⟩,
      ⟨none, .store 5 (.tmp 4) (.tmp 27), none⟩,
      ⟨some 5, .mov (.cst (.bool false)), none⟩] [4, 5] none)
    (.ret)))

def a19 : AFunc := ⟨2, c19, [.cell 4 (some 5), .tmp 5]⟩

def an19 : List RAnn := [
  { id := 0, live := [1, 2, 4] },
  { id := 1, live := [1, 2, 4, 6] },
  { id := 2, live := [1, 2, 4, 6, 11], hdr := [1, 2, 4, 6] },
  { id := 4, live := [1, 2, 4, 6, 21] },
  { id := 5, live := [4, 5] },
  { id := 3, live := [1, 2, 4, 6] },
  { id := 6, live := [4, 5] }]

theorem comp19 : compF Try.prog an19 Try.f19 = some a19 := by kernel_rfl

/- graphdb/graphdbref07.SameParts -/
/-- loop 0 of function 20 -/
def l20_0_h : List Nat := [2, 3, 5]

def l20_0_b : ACode :=
  .seq (.seq (.region none [] [
      ⟨some 27, .mov (.tmp 5), none⟩,
      ⟨some 28, .faddr 0 (.tmp 2), none⟩,
      ⟨some 29, .load none (.tmp 28), none⟩,
      ⟨some 30, .len .slice (.tmp 29), none⟩,
      ⟨some 31, .bin .lss .int (.tmp 27) (.tmp 30), none⟩] [2, 3, 5, 31] none)
    (.cond (.tmp 31) (.skip)
    (.exit 0)))
    (.seq (.block 1 (.seq (.par 14 [(1, 10), (3, 10), (4, 10), (6, 10), (8, 10), (9, 10), (1, 11), (3, 11), (4, 11), (6, 11), (8, 11), (9, 11), (10, 11), (6, 12), (8, 12), (9, 12)] [] [
        ⟨some 34, .faddr 0 (.tmp 2), none⟩,
        ⟨some 35, .load none (.tmp 34), none⟩,
        ⟨some 36, .mov (.tmp 5), none⟩,
        ⟨some 37, .iaddr 3 (.tmp 35) (.tmp 36), none⟩,
        ⟨some 38, .load (some 3) (.tmp 37), none⟩,
        ⟨some 39, .faddr 0 (.tmp 3), none⟩,
        ⟨some 40, .load none (.tmp 39), none⟩,
        ⟨some 41, .mov (.tmp 5), none⟩,
        ⟨some 42, .iaddr 3 (.tmp 40) (.tmp 41), none⟩,
        ⟨some 43, .load (some 3) (.tmp 42), none⟩,
        ⟨some 6, .alloc 3 (.agg [.int .i64 0, .sl false [], .sl false []]), none⟩,
        ⟨some 7, .alloc 3 (.agg [.int .i64 0, .sl false [], .sl false []]), none⟩,
        ⟨none, .store 3 (.tmp 6) (.tmp 38), none⟩,
        ⟨none, .store 3 (.tmp 7) (.tmp 43), none⟩] [2, 3, 5, 6, 7] none)
      (.seq (.region none [] [
        ⟨some 44, .faddr 0 (.tmp 6), none⟩,
        ⟨some 45, .load none (.tmp 44), none⟩,
        ⟨some 46, .faddr 0 (.tmp 7), none⟩,
        ⟨some 47, .load none (.tmp 46), none⟩,
        ⟨some 48, .bin .neq .int (.tmp 45) (.tmp 47), none⟩,
        ⟨some 49, .mov (.tmp 48), none⟩,
        ⟨some 50, .faddr 1 (.tmp 6), some (49, false)⟩,
        ⟨some 51, .load none (.tmp 50), some (49, false)⟩,
        ⟨some 52, .faddr 1 (.tmp 7), some (49, false)⟩,
        ⟨some 53, .load none (.tmp 52), some (49, false)⟩,
        ⟨some 54, .call .pure 27 [(.tmp 51), (.tmp 53)], some (49, false)⟩,
        ⟨some 55, .un .not (.tmp 54), some (49, false)⟩,
        ⟨some 56, .pick (.tmp 49) (.cst (.bool true)) (.tmp 55), none⟩,
        ⟨some 57, .mov (.tmp 56), none⟩,
        ⟨some 58, .faddr 2 (.tmp 6), some (57, false)⟩,
        ⟨some 59, .load none (.tmp 58), some (57, false)⟩,
        ⟨some 60, .faddr 2 (.tmp 7), some (57, false)⟩,
        ⟨some 61, .load none (.tmp 60), some (57, false)⟩,
        ⟨some 62, .call .pure 47 [(.tmp 59), (.tmp 61)], some (57, false)⟩,
        ⟨some 63, .un .not (.tmp 62), some (57, false)⟩,
        ⟨some 64, .pick (.tmp 57) (.cst (.bool true)) (.tmp 63), none⟩] [2, 3, 5, 64] none)
      (.cond (.tmp 64) (.seq (.region none [] [
          ⟨some 4, .mov (.cst (.bool false)), none⟩] [4] none)
        (.ret))
      (.skip)))))
    (.region none [] [
      ⟨some 32, .mov (.tmp 5), none⟩,
      ⟨some 33, .bin .add .int (.tmp 32) (.cst (.int .i64 1)), none⟩,
      ⟨some 5, .mov (.tmp 33), none⟩] [2, 3, 5] (some 2)))

/-- loop 1 of function 20 -/
def l20_1_h : List Nat := [2, 3, 8]

def l20_1_b : ACode :=
  .seq (.seq (.region none [] [
      ⟨some 65, .mov (.tmp 8), none⟩,
      ⟨some 66, .faddr 1 (.tmp 2), none⟩,
      ⟨some 67, .load none (.tmp 66), none⟩,
      ⟨some 68, .len .slice (.tmp 67), none⟩,
      ⟨some 69, .bin .lss .int (.tmp 65) (.tmp 68), none⟩] [2, 3, 8, 69] none)
    (.cond (.tmp 69) (.skip)
    (.exit 2)))
    (.seq (.block 3 (.seq (.par 14 [(1, 10), (3, 10), (4, 10), (6, 10), (8, 10), (9, 10), (1, 11), (3, 11), (4, 11), (6, 11), (8, 11), (9, 11), (10, 11), (6, 12), (8, 12), (9, 12)] [] [
        ⟨some 72, .faddr 1 (.tmp 2), none⟩,
        ⟨some 73, .load none (.tmp 72), none⟩,
        ⟨some 74, .mov (.tmp 8), none⟩,
        ⟨some 75, .iaddr 5 (.tmp 73) (.tmp 74), none⟩,
        ⟨some 76, .load (some 5) (.tmp 75), none⟩,
        ⟨some 77, .faddr 1 (.tmp 3), none⟩,
        ⟨some 78, .load none (.tmp 77), none⟩,
        ⟨some 79, .mov (.tmp 8), none⟩,
        ⟨some 80, .iaddr 5 (.tmp 78) (.tmp 79), none⟩,
        ⟨some 81, .load (some 5) (.tmp 80), none⟩,
        ⟨some 9, .alloc 5 (.agg [.int .i64 0, .int .i64 0, .int .i64 0, .str [], .sl false []]), none⟩,
        ⟨some 10, .alloc 5 (.agg [.int .i64 0, .int .i64 0, .int .i64 0, .str [], .sl false []]), none⟩,
        ⟨none, .store 5 (.tmp 9) (.tmp 76), none⟩,
        ⟨none, .store 5 (.tmp 10) (.tmp 81), none⟩] [2, 3, 8, 9, 10] none)
      (.seq (.region none [] [
        ⟨some 82, .faddr 0 (.tmp 9), none⟩,
        ⟨some 83, .load none (.tmp 82), none⟩,
        ⟨some 84, .faddr 0 (.tmp 10), none⟩,
        ⟨some 85, .load none (.tmp 84), none⟩,
        ⟨some 86, .bin .neq .int (.tmp 83) (.tmp 85), none⟩,
        ⟨some 87, .mov (.tmp 86), none⟩,
        ⟨some 88, .faddr 1 (.tmp 9), some (87, false)⟩,
        ⟨some 89, .load none (.tmp 88), some (87, false)⟩,
        ⟨some 90, .faddr 1 (.tmp 10), some (87, false)⟩,
        ⟨some 91, .load none (.tmp 90), some (87, false)⟩,
        ⟨some 92, .bin .neq .int (.tmp 89) (.tmp 91), some (87, false)⟩,
        ⟨some 93, .pick (.tmp 87) (.cst (.bool true)) (.tmp 92), none⟩,
        ⟨some 94, .mov (.tmp 93), none⟩,
        ⟨some 95, .faddr 2 (.tmp 9), some (94, false)⟩,
        ⟨some 96, .load none (.tmp 95), some (94, false)⟩,
        ⟨some 97, .faddr 2 (.tmp 10), some (94, false)⟩,
        ⟨some 98, .load none (.tmp 97), some (94, false)⟩,
        ⟨some 99, .bin .neq .int (.tmp 96) (.tmp 98), some (94, false)⟩,
        ⟨some 100, .pick (.tmp 94) (.cst (.bool true)) (.tmp 99), none⟩,
        ⟨some 101, .mov (.tmp 100), none⟩,
        ⟨some 102, .faddr 3 (.tmp 9), some (101, false)⟩,
        ⟨some 103, .load none (.tmp 102), some (101, false)⟩,
        ⟨some 104, .faddr 3 (.tmp 10), some (101, false)⟩,
        ⟨some 105, .load none (.tmp 104), some (101, false)⟩,
        ⟨some 106, .bin .neq .str (.tmp 103) (.tmp 105), some (101, false)⟩,
        ⟨some 107, .pick (.tmp 101) (.cst (.bool true)) (.tmp 106), none⟩,
        ⟨some 108, .mov (.tmp 107), none⟩,
        ⟨some 109, .faddr 4 (.tmp 9), some (108, false)⟩,
        ⟨some 110, .load none (.tmp 109), some (108, false)⟩,
        ⟨some 111, .faddr 4 (.tmp 10), some (108, false)⟩,
        ⟨some 112, .load none (.tmp 111), some (108, false)⟩,
        ⟨some 113, .call .pure 47 [(.tmp 110), (.tmp 112)], some (108, false)⟩,
        ⟨some 114, .un .not (.tmp 113), some (108, false)⟩,
        ⟨some 115, .pick (.tmp 108) (.cst (.bool true)) (.tmp 114), none⟩] [2, 3, 8, 115] none)
      (.cond (.tmp 115) (.seq (.region none [] [
          ⟨some 4, .mov (.cst (.bool false)), none⟩] [4] none)
        (.ret))
      (.skip)))))
    (.region none [] [
      ⟨some 70, .mov (.tmp 8), none⟩,
      ⟨some 71, .bin .add .int (.tmp 70) (.cst (.int .i64 1)), none⟩,
      ⟨some 8, .mov (.tmp 71), none⟩] [2, 3, 8] (some 2)))

def c20 : ACode :=
  .seq (.region none [] [
      ⟨some 2, .box 4 (.tmp 0), none⟩,
      ⟨some 3, .box 4 (.tmp 1), none⟩,
      ⟨some 4, .mov (.cst (.bool false)), none⟩] [2, 3] none)
    (.seq (.seq (.region none [] [
      ⟨some 11, .faddr 0 (.tmp 2), none⟩,
      ⟨some 12, .load none (.tmp 11), none⟩,
      ⟨some 13, .len .slice (.tmp 12), none⟩,
      ⟨some 14, .faddr 0 (.tmp 3), none⟩,
      ⟨some 15, .load none (.tmp 14), none⟩,
      ⟨some 16, .len .slice (.tmp 15), none⟩,
      ⟨some 17, .bin .neq .int (.tmp 13) (.tmp 16), none⟩,
      ⟨some 18, .mov (.tmp 17), none⟩,
      ⟨some 19, .faddr 1 (.tmp 2), some (18, false)⟩,
      ⟨some 20, .load none (.tmp 19), some (18, false)⟩,
      ⟨some 21, .len .slice (.tmp 20), some (18, false)⟩,
      ⟨some 22, .faddr 1 (.tmp 3), some (18, false)⟩,
      ⟨some 23, .load none (.tmp 22), some (18, false)⟩,
      ⟨some 24, .len .slice (.tmp 23), some (18, false)⟩,
      ⟨some 25, .bin .neq .int (.tmp 21) (.tmp 24), some (18, false)⟩,
      ⟨some 26, .pick (.tmp 18) (.cst (.bool true)) (.tmp 25), none⟩] [2, 3, 26] none)
    (.cond (.tmp 26) (.seq (.region none [] [
        ⟨some 4, .mov (.cst (.bool false)), none⟩] [4] none)
      (.ret))
    (.skip)))
    (.seq (.seq (.region none [] [
      ⟨some 5, .mov (.cst (.int .i64 0)), none⟩] [2, 3, 5] none)
    (.block 0 (.loop l20_0_h l20_0_b)))
    (.seq (.seq (.region none [] [
      ⟨some 8, .mov (.cst (.int .i64 0)), none⟩] [2, 3, 8] none)
    (.block 2 (.loop l20_1_h l20_1_b)))
    (.seq (.region none [] [
      ⟨some 4, .mov (.cst (.bool true)), none⟩] [4] none)
    (.ret)))))

def a20 : AFunc := ⟨2, c20, [.tmp 4]⟩

def an20 : List RAnn := [
  { id := 0, live := [2, 3] },
  { id := 1, live := [2, 3, 26] },
  { id := 2, live := [4] },
  { id := 3, live := [2, 3, 5] },
  { id := 4, live := [2, 3, 5, 31], hdr := [2, 3, 5] },
  { id := 6, head := some 14, live := [2, 3, 5, 6, 7], par := true },
  { id := 7, live := [2, 3, 5, 64] },
  { id := 8, live := [4] },
  { id := 5, live := [2, 3, 5], trunc := some 2 },
  { id := 9, live := [2, 3, 8] },
  { id := 10, live := [2, 3, 8, 69], hdr := [2, 3, 8] },
  { id := 12, head := some 14, live := [2, 3, 8, 9, 10], par := true },
  { id := 13, live := [2, 3, 8, 115] },
  { id := 14, live := [4] },
  { id := 11, live := [2, 3, 8], trunc := some 2 },
  { id := 15, live := [4] }]

theorem comp20 : compF Try.prog an20 Try.f20 = some a20 := by kernel_rfl

/- graphdb/graph.HasLabel -/
def c21 : ACode :=
  .seq (.region none [] [
      ⟨some 2, .box 3 (.tmp 0), none⟩,
      ⟨some 4, .mov (.cst (.bool false)), none⟩] [1, 2] none)
    (.seq (.region none [] [
      ⟨some 5, .faddr 1 (.tmp 2), none⟩,
      ⟨some 6, .load none (.tmp 5), none⟩,
      ⟨some 7, .mov (.tmp 1), none⟩,
      ⟨some 8, .call .pure 44 [(.tmp 6), (.tmp 7)], none⟩,
      ⟨some 4, .mov (.tmp 8), none⟩] [4] none)
    (.ret))

def a21 : AFunc := ⟨2, c21, [.tmp 4]⟩

def an21 : List RAnn := [
  { id := 0, live := [1, 2] },
  { id := 1, live := [4] }]

theorem comp21 : compF Try.prog an21 Try.f21 = some a21 := by kernel_rfl

/- graphdb/graphdbref07.HasLabel -/
def c22 : ACode :=
  .seq (.region none [] [
      ⟨some 2, .box 3 (.tmp 0), none⟩,
      ⟨some 4, .mov (.cst (.bool false)), none⟩] [1, 2] none)
    (.seq (.region none [] [
      ⟨some 5, .faddr 1 (.tmp 2), none⟩,
      ⟨some 6, .load none (.tmp 5), none⟩,
      ⟨some 7, .mov (.tmp 1), none⟩,
      ⟨some 8, .call .pure 48 [(.tmp 6), (.tmp 7)], none⟩,
      ⟨some 4, .mov (.tmp 8), none⟩] [4] none)
    (.ret))

def a22 : AFunc := ⟨2, c22, [.tmp 4]⟩

def an22 : List RAnn := [
  { id := 0, live := [1, 2] },
  { id := 1, live := [4] }]

theorem comp22 : compF Try.prog an22 Try.f22 = some a22 := by kernel_rfl

/- graphdb/graphdbref04.Order -/
def c23 : ACode :=
  .seq (.region none [] [
      ⟨some 2, .box 5 (.tmp 0), none⟩,
      ⟨some 3, .box 5 (.tmp 1), none⟩,
      ⟨some 4, .mov (.cst (.int .i64 0)), none⟩] [2, 3] none)
    (.seq (.region (some 6) [] [
      ⟨some 12, .load (some 5) (.tmp 2), none⟩,
      ⟨some 13, .call .pure 49 [(.tmp 12)], none⟩,
      ⟨some 14, .load (some 5) (.tmp 3), none⟩,
      ⟨some 15, .call .pure 49 [(.tmp 14)], none⟩,
      ⟨some 5, .mov (.tmp 13), none⟩,
      ⟨some 6, .mov (.tmp 15), none⟩] [2, 3, 5, 6] none)
    (.seq (.seq (.region none [] [
      ⟨some 16, .mov (.tmp 5), none⟩,
      ⟨some 17, .mov (.tmp 6), none⟩,
      ⟨some 18, .bin .neq .bool (.tmp 16) (.tmp 17), none⟩] [2, 3, 5, 18] none)
    (.cond (.tmp 18) (.seq (.region none [] [
        ⟨some 19, .mov (.tmp 5), none⟩,
        ⟨some 20, .call .pure 50 [(.tmp 19)], none⟩,
        ⟨some 21, .bin .sub .int (.cst (.int .i64 1)) (.tmp 20), none⟩,
        ⟨some 4, .mov (.tmp 21), none⟩] [4] none)
      (.ret))
    (.skip)))
    (.seq (.seq (.region none [] [
      ⟨some 22, .mov (.tmp 5), none⟩,
      ⟨some 23, .un .not (.tmp 22), none⟩] [2, 3, 23] none)
    (.cond (.tmp 23) (.seq (.region none [] [
        ⟨some 24, .load (some 5) (.tmp 2), none⟩,
        ⟨some 25, .load (some 5) (.tmp 3), none⟩,
        ⟨some 26, .call .pure 51 [(.tmp 24), (.tmp 25)], none⟩,
        ⟨some 4, .mov (.tmp 26), none⟩] [4] none)
      (.ret))
    (.skip)))
    (.seq (.seq (.region (some 8) [] [
      ⟨some 27, .faddr 0 (.tmp 2), none⟩,
      ⟨some 28, .load none (.tmp 27), none⟩,
      ⟨some 29, .call .pure 53 [(.tmp 28)], none⟩,
      ⟨some 30, .faddr 0 (.tmp 3), none⟩,
      ⟨some 31, .load none (.tmp 30), none⟩,
      ⟨some 32, .call .pure 53 [(.tmp 31)], none⟩,
      ⟨some 33, .call .pure 52 [(.tmp 29), (.tmp 32)], none⟩,
      ⟨some 7, .mov (.tmp 33), none⟩] [2, 3, 7] none)
    (.seq (.region none [] [
      ⟨some 34, .mov (.tmp 7), none⟩,
      ⟨some 35, .bin .neq .int (.tmp 34) (.cst (.int .i64 0)), none⟩] [2, 3, 7, 35] none)
    (.cond (.tmp 35) (.seq (.region none [] [
        ⟨some 36, .mov (.tmp 7), none⟩,
        ⟨some 4, .mov (.tmp 36), none⟩] [4] none)
      (.ret))
    (.skip))))
    (.seq (.region none [] [
      ⟨some 38, .load (some 5) (.tmp 2), none⟩,
      ⟨some 39, .call .pure 54 [(.tmp 38)], none⟩,
      ⟨some 37, .mov (.tmp 39), none⟩,
      ⟨some 40, .ext (.tmp 37) 0, none⟩,
      ⟨some 41, .ext (.tmp 37) 1, none⟩,
      ⟨some 8, .alloc 2 (.agg [.int .i64 0, .int .i64 0]), none⟩,
      ⟨none, .store 2 (.tmp 8) (.tmp 40), none⟩,
      ⟨some 9, .mov (.tmp 41), none⟩] [2, 3, 8, 9] none)
    (.seq (.region none [] [
      ⟨some 43, .load (some 5) (.tmp 3), none⟩,
      ⟨some 44, .call .pure 54 [(.tmp 43)], none⟩,
      ⟨some 42, .mov (.tmp 44), none⟩,
      ⟨some 45, .ext (.tmp 42) 0, none⟩,
      ⟨some 46, .ext (.tmp 42) 1, none⟩,
      ⟨some 10, .alloc 2 (.agg [.int .i64 0, .int .i64 0]), none⟩,
      ⟨none, .store 2 (.tmp 10) (.tmp 45), none⟩,
      ⟨some 11, .mov (.tmp 46), none⟩] [2, 3, 8, 9, 10] none)
    (.seq (.seq (.region none [] [
      ⟨some 47, .mov (.tmp 9), none⟩] [2, 3, 8, 10, 47] none)
    (.cond (.tmp 47) (.seq (.region none [] [
        ⟨some 48, .load (some 2) (.tmp 8), none⟩,
        ⟨some 49, .load (some 2) (.tmp 10), none⟩,
        ⟨some 50, .call .pure 55 [(.tmp 48), (.tmp 49)], none⟩,
        ⟨some 4, .mov (.tmp 50), none⟩] [4] none)
      (.ret))
    (.skip)))
    (.seq (.region none [] [
      ⟨some 51, .load (some 5) (.tmp 2), none⟩,
      ⟨some 52, .load (some 5) (.tmp 3), none⟩,
      ⟨some 53, .call .pure 51 [(.tmp 51), (.tmp 52)], none⟩,
      ⟨some 4, .mov (.tmp 53), none⟩] [4] none)
    (.ret)))))))))

def a23 : AFunc := ⟨2, c23, [.tmp 4]⟩

def an23 : List RAnn := [
  { id := 0, live := [2, 3] },
  { id := 1, head := some 6, live := [2, 3, 5, 6] },
  { id := 2, live := [2, 3, 5, 18] },
  { id := 3, live := [4] },
  { id := 4, live := [2, 3, 23] },
  { id := 5, live := [4] },
  { id := 6, head := some 8, live := [2, 3, 7] },
  { id := 7, live := [2, 3, 7, 35] },
  { id := 8, live := [4] },
  { id := 9, live := [2, 3, 8, 9] },
  { id := 10, live := [2, 3, 8, 9, 10] },
  { id := 11, live := [2, 3, 8, 10, 47] },
  { id := 12, live := [4] },
  { id := 13, live := [4] }]

theorem comp23 : compF Try.prog an23 Try.f23 = some a23 := by kernel_rfl

/- graphdb/graph.Prop -/
/-- loop 0 of function 24 -/
def l24_0_h : List Nat := [1, 4, 7, 8, 9]

def l24_0_b : ACode :=
  .seq (.region none [] [
      ⟨some 10, .bin .lss .int (.tmp 9) (.tmp 8), none⟩] [1, 4, 7, 8, 9, 10] none)
    (.seq (.cond (.tmp 10) (.skip)
    (.exit 0))
    (.seq (.block 1 (.seq (.region none [] [
        ⟨some 11, .iaddr 6 (.tmp 7) (.tmp 9), none⟩,
        ⟨some 12, .load (some 6) (.tmp 11), none⟩,
        ⟨some 6, .alloc 6 (.agg [.str [], .int .i64 0, .int .i64 0, .int .i64 0, .str [], .sl false []]), none⟩,
        ⟨none, .store 6 (.tmp 6) (.tmp 12), none⟩] [1, 4, 6, 7, 8, 9] none)
      (.seq (.region none [] [
        ⟨some 13, .faddr 0 (.tmp 6), none⟩,
        ⟨some 14, .load none (.tmp 13), none⟩,
        ⟨some 15, .mov (.tmp 1), none⟩,
        ⟨some 16, .bin .eql .str (.tmp 14) (.tmp 15), none⟩] [1, 4, 6, 7, 8, 9, 16] none)
      (.cond (.tmp 16) (.seq (.region none [] [
          ⟨some 17, .faddr 1 (.tmp 6), none⟩,
          ⟨some 18, .load (some 5) (.tmp 17), none⟩,
          ⟨some 19, .call .pure 56 [(.tmp 18)], none⟩,
          ⟨none, .store 5 (.tmp 4) (.tmp 19), none⟩] [4] none)
        (.ret))
      (.skip)))))
    (.region none [] [
      ⟨some 20, .bin .add .int (.tmp 9) (.cst (.int .i64 1)), none⟩,
      ⟨some 9, .mov (.tmp 20), none⟩] [1, 4, 7, 8, 9] (some 1))))

def c24 : ACode :=
  .seq (.region none [] [
      ⟨some 4, .alloc 5 (.agg [.int .i64 0, .int .i64 0, .int .i64 0, .str [], .sl false []]), none⟩] [0, 1, 4] none)
    (.seq (.seq (.region none [] [
      ⟨some 7, .mov (.tmp 0), none⟩,
      ⟨some 8, .len .slice (.tmp 7), none⟩,
      ⟨some 9, .mov (.cst (.int .i64 0)), none⟩] [1, 4, 7, 8, 9] none)
    (.block 0 (.loop l24_0_h l24_0_b)))
    (.seq (.region none [] [
      ⟨some 21, .call .pure 57 [], none⟩,
      ⟨none, .store 5 (.tmp 4) (.tmp 21), none⟩] [4] none)
    (.ret)))

def a24 : AFunc := ⟨2, c24, [.cell 4 (some 5)]⟩

def an24 : List RAnn := [
  { id := 0, live := [0, 1, 4] },
  { id := 1, live := [1, 4, 7, 8, 9] },
  { id := 2, live := [1, 4, 7, 8, 9, 10], hdr := [1, 4, 7, 8, 9] },
  { id := 3, live := [1, 4, 6, 7, 8, 9] },
  { id := 4, live := [1, 4, 6, 7, 8, 9, 16] },
  { id := 5, live := [4] },
  { id := 6, live := [1, 4, 7, 8, 9], trunc := some 1 },
  { id := 7, live := [4] }]

theorem comp24 : compF Try.prog an24 Try.f24 = some a24 := by kernel_rfl

/- graphdb/graphdbref07.Prop -/
/-- loop 0 of function 25 -/
def l25_0_h : List Nat := [0, 1, 4, 5]

def l25_0_b : ACode :=
  .seq (.seq (.region none [] [
      ⟨some 6, .mov (.tmp 5), none⟩,
      ⟨some 7, .mov (.tmp 0), none⟩,
      ⟨some 8, .len .slice (.tmp 7), none⟩,
      ⟨some 9, .bin .lss .int (.tmp 6) (.tmp 8), none⟩] [0, 1, 4, 5, 9] none)
    (.cond (.tmp 9) (.skip)
    (.exit 0)))
    (.seq (.block 1 (.seq (.region none [] [
        ⟨some 12, .mov (.tmp 0), none⟩,
        ⟨some 13, .mov (.tmp 5), none⟩,
        ⟨some 14, .iaddr 6 (.tmp 12) (.tmp 13), none⟩,
        ⟨some 15, .faddr 0 (.tmp 14), none⟩,
        ⟨some 16, .load none (.tmp 15), none⟩,
        ⟨some 17, .mov (.tmp 1), none⟩,
        ⟨some 18, .bin .eql .str (.tmp 16) (.tmp 17), none⟩] [0, 1, 4, 5, 18] none)
      (.cond (.tmp 18) (.seq (.region none [] [
          ⟨some 19, .mov (.tmp 0), none⟩,
          ⟨some 20, .mov (.tmp 5), none⟩,
          ⟨some 21, .iaddr 6 (.tmp 19) (.tmp 20), none⟩,
          ⟨some 22, .faddr 1 (.tmp 21), none⟩,
          ⟨some 23, .load (some 5) (.tmp 22), none⟩,
          ⟨none, .store 5 (.tmp 4) (.tmp 23), none⟩] [4] none)
        (.ret))
      (.skip))))
    (.region none [] [
      ⟨some 10, .mov (.tmp 5), none⟩,
      ⟨some 11, .bin .add .int (.tmp 10) (.cst (.int .i64 1)), none⟩,
      ⟨some 5, .mov (.tmp 11), none⟩] [0, 1, 4, 5] none))

def c25 : ACode :=
  .seq (.region none [] [
      ⟨some 4, .alloc 5 (.agg [.int .i64 0, .int .i64 0, .int .i64 0, .str [], .sl false []]), none⟩] [0, 1, 4] none)
    (.seq (.seq (.region none [] [
      ⟨some 5, .mov (.cst (.int .i64 0)), none⟩] [0, 1, 4, 5] none)
    (.block 0 (.loop l25_0_h l25_0_b)))
    (.seq (.region none [] [
      ⟨some 24, .build [.int .i64 0, .int .i64 0, .int .i64 0, .str [], .sl false []] [], none⟩,
      ⟨none, .store 5 (.tmp 4) (.tmp 24), none⟩] [4] none)
    (.ret)))

def a25 : AFunc := ⟨2, c25, [.cell 4 (some 5)]⟩

def an25 : List RAnn := [
  { id := 0, live := [0, 1, 4] },
  { id := 1, live := [0, 1, 4, 5] },
  { id := 2, live := [0, 1, 4, 5, 9], hdr := [0, 1, 4, 5] },
  { id := 4, live := [0, 1, 4, 5, 18] },
  { id := 5, live := [4] },
  { id := 3, live := [0, 1, 4, 5] },
  { id := 6, live := [4] }]

theorem comp25 : compF Try.prog an25 Try.f25 = some a25 := by kernel_rfl

/- graphdb/graphdbref07.SameStrs -/
/-- loop 0 of function 27 -/
def l27_0_h : List Nat := [0, 1, 5]

def l27_0_b : ACode :=
  .seq (.seq (.region none [] [
      ⟨some 11, .mov (.tmp 5), none⟩,
      ⟨some 12, .mov (.tmp 0), none⟩,
      ⟨some 13, .len .slice (.tmp 12), none⟩,
      ⟨some 14, .bin .lss .int (.tmp 11) (.tmp 13), none⟩] [0, 1, 5, 14] none)
    (.cond (.tmp 14) (.skip)
    (.exit 0)))
    (.seq (.block 1 (.seq (.region (some 9) [] [
        ⟨some 17, .mov (.tmp 0), none⟩,
        ⟨some 18, .mov (.tmp 5), none⟩,
        ⟨some 19, .iaddr 1 (.tmp 17) (.tmp 18), none⟩,
        ⟨some 20, .load none (.tmp 19), none⟩,
        ⟨some 21, .mov (.tmp 1), none⟩,
        ⟨some 22, .mov (.tmp 5), none⟩,
        ⟨some 23, .iaddr 1 (.tmp 21) (.tmp 22), none⟩,
        ⟨some 24, .load none (.tmp 23), none⟩,
        ⟨some 25, .bin .neq .str (.tmp 20) (.tmp 24), none⟩] [0, 1, 5, 25] none)
      (.cond (.tmp 25) (.seq (.region none [] [
          ⟨some 4, .mov (.cst (.bool false)), none⟩] [4] none)
        (.ret))
      (.skip))))
    (.region none [] [
      ⟨some 15, .mov (.tmp 5), none⟩,
      ⟨some 16, .bin .add .int (.tmp 15) (.cst (.int .i64 1)), none⟩,
      ⟨some 5, .mov (.tmp 16), none⟩] [0, 1, 5] none))

def c27 : ACode :=
  .seq (.region none [] [
      ⟨some 4, .mov (.cst (.bool false)), none⟩] [0, 1] none)
    (.seq (.seq (.region none [] [
      ⟨some 6, .mov (.tmp 0), none⟩,
      ⟨some 7, .len .slice (.tmp 6), none⟩,
      ⟨some 8, .mov (.tmp 1), none⟩,
      ⟨some 9, .len .slice (.tmp 8), none⟩,
      ⟨some 10, .bin .neq .int (.tmp 7) (.tmp 9), none⟩] [0, 1, 10] none)
    (.cond (.tmp 10) (.seq (.region none [] [
        ⟨some 4, .mov (.cst (.bool false)), none⟩] [4] none)
      (.ret))
    (.skip)))
    (.seq (.seq (.region none [] [
      ⟨some 5, .mov (.cst (.int .i64 0)), none⟩] [0, 1, 5] none)
    (.block 0 (.loop l27_0_h l27_0_b)))
    (.seq (.region none [] [
      ⟨some 4, .mov (.cst (.bool true)), none⟩] [4] none)
    (.ret))))

def a27 : AFunc := ⟨2, c27, [.tmp 4]⟩

def an27 : List RAnn := [
  { id := 0, live := [0, 1] },
  { id := 1, live := [0, 1, 10] },
  { id := 2, live := [4] },
  { id := 3, live := [0, 1, 5] },
  { id := 4, live := [0, 1, 5, 14], hdr := [0, 1, 5] },
  { id := 6, head := some 9, live := [0, 1, 5, 25] },
  { id := 7, live := [4] },
  { id := 5, live := [0, 1, 5] },
  { id := 8, live := [4] }]

theorem comp27 : compF Try.prog an27 Try.f27 = some a27 := by kernel_rfl

/- graphdb/graphdbref07.weigh -/
/-- loop 0 of function 32 -/
def l32_0_h : List Nat := [0, 1, 5]

def l32_0_b : ACode :=
  .seq (.seq (.region none [] [
      ⟨some 6, .mov (.tmp 5), none⟩,
      ⟨some 7, .mov (.tmp 0), none⟩,
      ⟨some 8, .len .slice (.tmp 7), none⟩,
      ⟨some 9, .bin .lss .int (.tmp 6) (.tmp 8), none⟩,
      ⟨some 10, .mov (.tmp 9), none⟩,
      ⟨some 11, .mov (.tmp 1), some (10, true)⟩,
      ⟨some 12, .bin .geq .int (.tmp 11) (.cst (.int .i64 0)), some (10, true)⟩,
      ⟨some 13, .pick (.tmp 10) (.tmp 12) (.cst (.bool false)), none⟩] [0, 1, 5, 13] none)
    (.cond (.tmp 13) (.skip)
    (.exit 0)))
    (.seq (.block 1 (.region (some 16) [] [
        ⟨some 16, .mov (.tmp 0), none⟩,
        ⟨some 17, .mov (.tmp 5), none⟩,
        ⟨some 18, .iaddr 6 (.tmp 16) (.tmp 17), none⟩,
        ⟨some 19, .faddr 1 (.tmp 18), none⟩,
        ⟨some 20, .load (some 5) (.tmp 19), none⟩,
        ⟨some 21, .mov (.tmp 1), none⟩,
        ⟨some 22, .mov (.tmp 0), none⟩,
        ⟨some 23, .mov (.tmp 5), none⟩,
        ⟨some 24, .iaddr 6 (.tmp 22) (.tmp 23), none⟩,
        ⟨some 25, .faddr 0 (.tmp 24), none⟩,
        ⟨some 26, .load none (.tmp 25), none⟩,
        ⟨some 27, .len .str (.tmp 26), none⟩,
        ⟨some 28, .bin .quo .int (.tmp 27) (.cst (.int .i64 50)), none⟩,
        ⟨some 29, .bin .sub .int (.tmp 21) (.tmp 28), none⟩,
        ⟨some 30, .call .pure 63 [(.tmp 20), (.tmp 29), (.cst (.int .i64 12))], none⟩,
        ⟨some 1, .mov (.tmp 30), none⟩] [0, 1, 5] none))
    (.region none [] [
      ⟨some 14, .mov (.tmp 5), none⟩,
      ⟨some 15, .bin .add .int (.tmp 14) (.cst (.int .i64 1)), none⟩,
      ⟨some 5, .mov (.tmp 15), none⟩] [0, 1, 5] none))

def c32 : ACode :=
  .seq (.region none [] [
      ⟨some 4, .mov (.cst (.int .i64 0)), none⟩] [0, 1] none)
    (.seq (.seq (.region none [] [
      ⟨some 5, .mov (.cst (.int .i64 0)), none⟩] [0, 1, 5] none)
    (.block 0 (.loop l32_0_h l32_0_b)))
    (.seq (.region none [] [
      ⟨some 31, .mov (.tmp 1), none⟩,
      ⟨some 4, .mov (.tmp 31), none⟩] [4] none)
    (.ret)))

def a32 : AFunc := ⟨2, c32, [.tmp 4]⟩

def an32 : List RAnn := [
  { id := 0, live := [0, 1] },
  { id := 1, live := [0, 1, 5] },
  { id := 2, live := [0, 1, 5, 13], hdr := [0, 1, 5] },
  { id := 4, head := some 16, live := [0, 1, 5] },
  { id := 3, live := [0, 1, 5] },
  { id := 5, live := [4] }]

theorem comp32 : compF Try.prog an32 Try.f32 = some a32 := by kernel_rfl

/- graphdb/graphdblaw07.example -/
def c33 : ACode :=
  .seq (.region none [] [
      ⟨some 0, .alloc 4 (.agg [.sl false [], .sl false [], .int .i64 0, .int .i64 0]), none⟩] [0] none)
    (.seq (.region none [] [
      ⟨some 1, .build [.int .i64 0, .sl false [], .sl false []] [(0, 1, (.cst (.int .i64 1)))], none⟩,
      ⟨some 2, .build [.int .i64 0, .sl false [], .sl false []] [(0, 1, (.cst (.int .i64 2)))], none⟩,
      ⟨some 3, .lit true 3 (.agg [.int .i64 0, .sl false [], .sl false []]) 2 [(0, (.tmp 1)), (1, (.tmp 2))], none⟩,
      ⟨some 4, .build [.int .i64 0, .int .i64 0, .int .i64 0, .str [], .sl false []] [(0, 1, (.cst (.int .i64 1))), (1, 1, (.cst (.int .i64 1))), (2, 1, (.cst (.int .i64 2))), (3, 1, (.cst (.str [84])))], none⟩,
      ⟨some 5, .build [.int .i64 0, .int .i64 0, .int .i64 0, .str [], .sl false []] [(0, 1, (.cst (.int .i64 2))), (1, 1, (.cst (.int .i64 2))), (2, 1, (.cst (.int .i64 2))), (3, 1, (.cst (.str [84])))], none⟩,
      ⟨some 6, .lit true 5 (.agg [.int .i64 0, .int .i64 0, .int .i64 0, .str [], .sl false []]) 2 [(0, (.tmp 4)), (1, (.tmp 5))], none⟩,
      ⟨some 7, .build [.sl false [], .sl false [], .int .i64 0, .int .i64 0] [(0, 1, (.tmp 3)), (1, 1, (.tmp 6)), (2, 1, (.cst (.int .i64 3))), (3, 1, (.cst (.int .i64 3)))], none⟩,
      ⟨none, .store 4 (.tmp 0) (.tmp 7), none⟩] [0] none)
    (.ret))

def a33 : AFunc := ⟨0, c33, [.cell 0 (some 4)]⟩

def an33 : List RAnn := [
  { id := 0, live := [0] },
  { id := 1, live := [0], ops := [(2, .own), (5, .own)] }]

theorem comp33 : compF Try.prog an33 Try.f33 = some a33 := by kernel_rfl

/- graphdb/graph.New -/
def c34 : ACode :=
  .seq (.region none [] [
      ⟨some 0, .alloc 4 (.agg [.sl false [], .sl false [], .int .i64 0, .int .i64 0]), none⟩] [0] none)
    (.seq (.region none [] [
      ⟨some 1, .build [.sl false [], .sl false [], .int .i64 0, .int .i64 0] [(2, 1, (.cst (.int .i64 1))), (3, 1, (.cst (.int .i64 1)))], none⟩,
      ⟨none, .store 4 (.tmp 0) (.tmp 1), none⟩] [0] none)
    (.ret))

def a34 : AFunc := ⟨0, c34, [.cell 0 (some 4)]⟩

def an34 : List RAnn := [
  { id := 0, live := [0] },
  { id := 1, live := [0] }]

theorem comp34 : compF Try.prog an34 Try.f34 = some a34 := by kernel_rfl

/- graphdb/graph.Name -/
/-- loop 0 of function 35 -/
def l35_0_h : List Nat := [0, 18, 19]

def l35_0_b : ACode :=
  .seq (.region none [] [
      ⟨some 20, .bin .lss .int (.tmp 19) (.tmp 18), none⟩] [0, 18, 19, 20] none)
    (.seq (.cond (.tmp 20) (.skip)
    (.exit 0))
    (.seq (.block 1 (.seq (.region none [] [
        ⟨some 21, .mov (.tmp 19), none⟩,
        ⟨some 3, .mov (.tmp 21), none⟩] [0, 3, 18, 19] none)
      (.seq (.region none [] [
        ⟨some 22, .mov (.tmp 0), none⟩,
        ⟨some 23, .mov (.tmp 3), none⟩,
        ⟨some 24, .sidx (.tmp 22) (.tmp 23), none⟩,
        ⟨some 25, .call .pure 64 [(.tmp 24)], none⟩,
        ⟨some 26, .un .not (.tmp 25), none⟩,
        ⟨some 27, .mov (.tmp 26), none⟩,
        ⟨some 28, .mov (.tmp 0), some (27, true)⟩,
        ⟨some 29, .mov (.tmp 3), some (27, true)⟩,
        ⟨some 30, .sidx (.tmp 28) (.tmp 29), some (27, true)⟩,
        ⟨some 31, .bin .lss .int (.tmp 30) (.cst (.int .u8 48)), some (27, true)⟩,
        ⟨some 32, .mov (.tmp 31), some (27, true)⟩,
        ⟨some 33, .mov (.tmp 0), some (32, false)⟩,
        ⟨some 34, .mov (.tmp 3), some (32, false)⟩,
        ⟨some 35, .sidx (.tmp 33) (.tmp 34), some (32, false)⟩,
        ⟨some 36, .bin .gtr .int (.tmp 35) (.cst (.int .u8 57)), some (32, false)⟩,
        ⟨some 37, .pick (.tmp 32) (.cst (.bool true)) (.tmp 36), some (27, true)⟩,
        ⟨some 38, .pick (.tmp 27) (.tmp 37) (.cst (.bool false)), none⟩,
        ⟨some 39, .mov (.tmp 38), none⟩,
        ⟨some 40, .mov (.tmp 0), some (39, true)⟩,
        ⟨some 41, .mov (.tmp 3), some (39, true)⟩,
        ⟨some 42, .sidx (.tmp 40) (.tmp 41), some (39, true)⟩,
        ⟨some 43, .bin .neq .int (.tmp 42) (.cst (.int .u8 95)), some (39, true)⟩,
        ⟨some 44, .pick (.tmp 39) (.tmp 43) (.cst (.bool false)), none⟩] [0, 18, 19, 44] none)
      (.cond (.tmp 44) (.seq (.region none [] [
          ⟨some 2, .mov (.cst (.bool false)), none⟩] [2] none)
        (.ret))
      (.skip)))))
    (.region none [] [
      ⟨some 45, .bin .add .int (.tmp 19) (.cst (.int .i64 1)), none⟩,
      ⟨some 19, .mov (.tmp 45), none⟩] [0, 18, 19] none)))

def c35 : ACode :=
  .seq (.region none [] [
      ⟨some 2, .mov (.cst (.bool false)), none⟩] [0] none)
    (.seq (.seq (.region none [] [
      ⟨some 4, .mov (.tmp 0), none⟩,
      ⟨some 5, .bin .eql .str (.tmp 4) (.cst (.str [])), none⟩,
      ⟨some 6, .mov (.tmp 5), none⟩,
      ⟨some 7, .mov (.tmp 0), some (6, false)⟩,
      ⟨some 8, .len .str (.tmp 7), some (6, false)⟩,
      ⟨some 9, .bin .gtr .int (.tmp 8) (.cst (.int .i64 20)), some (6, false)⟩,
      ⟨some 10, .pick (.tmp 6) (.cst (.bool true)) (.tmp 9), none⟩,
      ⟨some 11, .mov (.tmp 10), none⟩,
      ⟨some 12, .mov (.tmp 0), some (11, false)⟩,
      ⟨some 13, .sidx (.tmp 12) (.cst (.int .i64 0)), some (11, false)⟩,
      ⟨some 14, .call .pure 64 [(.tmp 13)], some (11, false)⟩,
      ⟨some 15, .un .not (.tmp 14), some (11, false)⟩,
      ⟨some 16, .pick (.tmp 11) (.cst (.bool true)) (.tmp 15), none⟩] [0, 16] none)
    (.cond (.tmp 16) (.seq (.region none [] [
        ⟨some 2, .mov (.cst (.bool false)), none⟩] [2] none)
      (.ret))
    (.skip)))
    (.seq (.seq (.region none [] [
      ⟨some 17, .mov (.tmp 0), none⟩,
      ⟨some 18, .len .str (.tmp 17), none⟩,
      ⟨some 19, .mov (.cst (.int .i64 0)), none⟩] [0, 18, 19] none)
    (.block 0 (.loop l35_0_h l35_0_b)))
    (.seq (.region none [] [
      ⟨some 2, .mov (.cst (.bool true)), none⟩] [2] none)
    (.ret))))

def a35 : AFunc := ⟨1, c35, [.tmp 2]⟩

def an35 : List RAnn := [
  { id := 0, live := [0] },
  { id := 1, live := [0, 16] },
  { id := 2, live := [2] },
  { id := 3, live := [0, 18, 19] },
  { id := 4, live := [0, 18, 19, 20], hdr := [0, 18, 19] },
  { id := 5, live := [0, 3, 18, 19] },
  { id := 6, live := [0, 18, 19, 44] },
  { id := 7, live := [2] },
  { id := 8, live := [0, 18, 19] },
  { id := 9, live := [2] }]

theorem comp35 : compF Try.prog an35 Try.f35 = some a35 := by kernel_rfl

/- slices.SortStableFunc[[]graphdb/api.Adj,graphdb/api.Adj] -/
def c36 : ACode :=
  .region none [] [
      ⟨some 4, .mov (.tmp 0), none⟩,
      ⟨some 5, .mov (.tmp 0), none⟩,
      ⟨some 6, .len .slice (.tmp 5), none⟩,
      ⟨some 7, .mov (.tmp 1), none⟩,
      ⟨some 8, .call .share 65 [(.tmp 4), (.tmp 6), (.tmp 7)], none⟩] [] none

def a36 : AFunc := ⟨2, c36, []⟩

def an36 : List RAnn := [
  { id := 0, ops := [(4, .mode .share)] }]

theorem comp36 : compF Try.prog an36 Try.f36 = some a36 := by kernel_rfl

/- graphdb/graph.Steps$1 -/
def c37 : ACode :=
  .seq (.region none [] [
      ⟨some 2, .box 3 (.tmp 0), none⟩,
      ⟨some 3, .box 3 (.tmp 1), none⟩,
      ⟨some 4, .mov (.cst (.int .i64 0)), none⟩] [2, 3] none)
    (.seq (.region (some 13) [] [
      ⟨some 5, .faddr 1 (.tmp 2), none⟩,
      ⟨some 6, .load none (.tmp 5), none⟩,
      ⟨some 7, .faddr 1 (.tmp 3), none⟩,
      ⟨some 8, .load none (.tmp 7), none⟩,
      ⟨some 9, .call .pure 39 [(.tmp 6), (.tmp 8)], none⟩,
      ⟨some 10, .faddr 2 (.tmp 2), none⟩,
      ⟨some 11, .load none (.tmp 10), none⟩,
      ⟨some 12, .faddr 2 (.tmp 3), none⟩,
      ⟨some 13, .load none (.tmp 12), none⟩,
      ⟨some 14, .call .pure 39 [(.tmp 11), (.tmp 13)], none⟩,
      ⟨some 15, .lit false 1 (.int .i64 0) 2 [(0, (.tmp 9)), (1, (.tmp 14))], none⟩,
      ⟨some 16, .call .pure 38 [(.tmp 15)], none⟩,
      ⟨some 4, .mov (.tmp 16), none⟩] [4] none)
    (.ret))

def a37 : AFunc := ⟨2, c37, [.tmp 4]⟩

def an37 : List RAnn := [
  { id := 0, live := [2, 3] },
  { id := 1, head := some 13, live := [4] }]

theorem comp37 : compF Try.prog an37 Try.f37 = some a37 := by kernel_rfl

/- cmp.Or[int] -/
/-- loop 0 of function 38 -/
def l38_0_h : List Nat := [3, 6, 7, 8]

def l38_0_b : ACode :=
  .seq (.region none [] [
      ⟨some 9, .bin .lss .int (.tmp 8) (.tmp 7), none⟩] [3, 6, 7, 8, 9] none)
    (.seq (.cond (.tmp 9) (.skip)
    (.exit 0))
    (.seq (.block 1 (.seq (.region none [] [
        ⟨some 10, .iaddr 1 (.tmp 6) (.tmp 8), none⟩,
        ⟨some 11, .load none (.tmp 10), none⟩,
        ⟨some 5, .mov (.tmp 11), none⟩] [3, 5, 6, 7, 8] none)
      (.seq (.region none [] [
        ⟨some 12, .mov (.tmp 5), none⟩,
        ⟨some 13, .mov (.tmp 3), none⟩,
        ⟨some 14, .bin .neq .int (.tmp 12) (.tmp 13), none⟩] [3, 5, 6, 7, 8, 14] none)
      (.cond (.tmp 14) (.seq (.region none [] [
          ⟨some 15, .mov (.tmp 5), none⟩,
          ⟨some 2, .mov (.tmp 15), none⟩] [2] none)
        (.ret))
      (.skip)))))
    (.region none [] [
      ⟨some 16, .bin .add .int (.tmp 8) (.cst (.int .i64 1)), none⟩,
      ⟨some 8, .mov (.tmp 16), none⟩] [3, 6, 7, 8] none)))

def c38 : ACode :=
  .seq (.region none [] [
      ⟨some 2, .mov (.cst (.int .i64 0)), none⟩] [0] none)
    (.seq (.region none [] [
      ⟨some 3, .mov (.cst (.int .i64 0)), none⟩] [0, 3] none)
    (.seq (.seq (.region none [] [
      ⟨some 6, .mov (.tmp 0), none⟩,
      ⟨some 7, .len .slice (.tmp 6), none⟩,
      ⟨some 8, .mov (.cst (.int .i64 0)), none⟩] [3, 6, 7, 8] none)
    (.block 0 (.loop l38_0_h l38_0_b)))
    (.seq (.region none [] [
      ⟨some 17, .mov (.tmp 3), none⟩,
      ⟨some 2, .mov (.tmp 17), none⟩] [2] none)
    (.ret))))

def a38 : AFunc := ⟨1, c38, [.tmp 2]⟩

def an38 : List RAnn := [
  { id := 0, live := [0] },
  { id := 1, live := [0, 3] },
  { id := 2, live := [3, 6, 7, 8] },
  { id := 3, live := [3, 6, 7, 8, 9], hdr := [3, 6, 7, 8] },
  { id := 4, live := [3, 5, 6, 7, 8] },
  { id := 5, live := [3, 5, 6, 7, 8, 14] },
  { id := 6, live := [2] },
  { id := 7, live := [3, 6, 7, 8] },
  { id := 8, live := [2] }]

theorem comp38 : compF Try.prog an38 Try.f38 = some a38 := by kernel_rfl

/- cmp.Compare[int] -/
def c39 : ACode :=
  .seq (.region none [] [
      ⟨some 4, .mov (.cst (.int .i64 0)), none⟩] [0, 1] none)
    (.seq (.region none [] [
      ⟨some 7, .mov (.tmp 0), none⟩,
      ⟨some 8, .call .pure 66 [(.tmp 7)], none⟩,
      ⟨some 5, .mov (.tmp 8), none⟩] [0, 1, 5] none)
    (.seq (.region none [] [
      ⟨some 9, .mov (.tmp 1), none⟩,
      ⟨some 10, .call .pure 66 [(.tmp 9)], none⟩,
      ⟨some 6, .mov (.tmp 10), none⟩] [0, 1, 5, 6] none)
    (.seq (.seq (.region none [] [
      ⟨some 11, .mov (.tmp 5), none⟩] [0, 1, 6, 11] none)
    (.cond (.tmp 11) (.seq (.seq (.region none [] [
        ⟨some 12, .mov (.tmp 6), none⟩] [12] none)
      (.cond (.tmp 12) (.seq (.region none [] [
          ⟨some 4, .mov (.cst (.int .i64 0)), none⟩] [4] none)
        (.ret))
      (.skip)))
      (.seq (.region none [] [
        ⟨some 4, .mov (.cst (.int .i64 (-1))), none⟩] [4] none)
      (.ret)))
    (.skip)))
    (.seq (.seq (.region none [] [
      ⟨some 13, .mov (.tmp 6), none⟩] [0, 1, 13] none)
    (.cond (.tmp 13) (.seq (.region none [] [
        ⟨some 4, .mov (.cst (.int .i64 1)), none⟩] [4] none)
      (.ret))
    (.skip)))
    (.seq (.seq (.region none [] [
      ⟨some 14, .mov (.tmp 0), none⟩,
      ⟨some 15, .mov (.tmp 1), none⟩,
      ⟨some 16, .bin .lss .int (.tmp 14) (.tmp 15), none⟩] [0, 1, 16] none)
    (.cond (.tmp 16) (.seq (.region none [] [
        ⟨some 4, .mov (.cst (.int .i64 (-1))), none⟩] [4] none)
      (.ret))
    (.skip)))
    (.seq (.seq (.region none [] [
      ⟨some 17, .mov (.tmp 0), none⟩,
      ⟨some 18, .mov (.tmp 1), none⟩,
      ⟨some 19, .bin .gtr .int (.tmp 17) (.tmp 18), none⟩] [19] none)
    (.cond (.tmp 19) (.seq (.region none [] [
        ⟨some 4, .mov (.cst (.int .i64 1)), none⟩] [4] none)
      (.ret))
    (.skip)))
    (.seq (.region none [] [
      ⟨some 4, .mov (.cst (.int .i64 0)), none⟩] [4] none)
    (.ret))))))))

def a39 : AFunc := ⟨2, c39, [.tmp 4]⟩

def an39 : List RAnn := [
  { id := 0, live := [0, 1] },
  { id := 1, live := [0, 1, 5] },
  { id := 2, live := [0, 1, 5, 6] },
  { id := 3, live := [0, 1, 6, 11] },
  { id := 4, live := [12] },
  { id := 5, live := [4] },
  { id := 6, live := [4] },
  { id := 7, live := [0, 1, 13] },
  { id := 8, live := [4] },
  { id := 9, live := [0, 1, 16] },
  { id := 10, live := [4] },
  { id := 11, live := [19] },
  { id := 12, live := [4] },
  { id := 13, live := [4] }]

theorem comp39 : compF Try.prog an39 Try.f39 = some a39 := by kernel_rfl

/- graphdb/graphdbref07.step -/
def c40 : ACode :=
  .seq (.region none [] [
      ⟨some 3, .box 5 (.tmp 0), none⟩,
      ⟨some 6, .alloc 3 (.agg [.int .i64 0, .int .i64 0, .int .i64 0]), none⟩,
      ⟨some 7, .mov (.cst (.bool false)), none⟩] [1, 2, 3, 6] none)
    (.seq (.seq (.region none [] [
      ⟨some 8, .mov (.tmp 2), none⟩,
      ⟨some 9, .bin .eql .int (.tmp 8) (.cst (.int .i64 1)), none⟩,
      ⟨some 10, .mov (.tmp 9), none⟩,
      ⟨some 11, .mov (.tmp 2), some (10, false)⟩,
      ⟨some 12, .bin .eql .int (.tmp 11) (.cst (.int .i64 3)), some (10, false)⟩,
      ⟨some 13, .pick (.tmp 10) (.cst (.bool true)) (.tmp 12), none⟩,
      ⟨some 14, .mov (.tmp 13), none⟩,
      ⟨some 15, .faddr 1 (.tmp 3), some (14, true)⟩,
      ⟨some 16, .load none (.tmp 15), some (14, true)⟩,
      ⟨some 17, .mov (.tmp 1), some (14, true)⟩,
      ⟨some 18, .bin .eql .int (.tmp 16) (.tmp 17), some (14, true)⟩,
      ⟨some 19, .pick (.tmp 14) (.tmp 18) (.cst (.bool false)), none⟩] [1, 2, 3, 6, 19] none)
    (.cond (.tmp 19) (.seq (.region none [] [
        ⟨some 20, .mov (.tmp 1), none⟩,
        ⟨some 21, .faddr 2 (.tmp 3), none⟩,
        ⟨some 22, .load none (.tmp 21), none⟩,
        ⟨some 23, .faddr 0 (.tmp 3), none⟩,
        ⟨some 24, .load none (.tmp 23), none⟩,
        ⟨some 25, .build [.int .i64 0, .int .i64 0, .int .i64 0] [(0, 1, (.tmp 20)), (1, 1, (.tmp 22)), (2, 1, (.tmp 24))], none⟩,
        ⟨none, .store 3 (.tmp 6) (.tmp 25), none⟩,
        ⟨some 7, .mov (.cst (.bool true)), none⟩] [6, 7] none)
      (.ret))
    (.skip)))
    (.seq (.seq (.region none [] [
      ⟨some 26, .mov (.tmp 2), none⟩,
      ⟨some 27, .bin .eql .int (.tmp 26) (.cst (.int .i64 2)), none⟩,
      ⟨some 28, .mov (.tmp 27), none⟩,
      ⟨some 29, .mov (.tmp 2), some (28, false)⟩,
      ⟨some 30, .bin .eql .int (.tmp 29) (.cst (.int .i64 3)), some (28, false)⟩,
      ⟨some 31, .pick (.tmp 28) (.cst (.bool true)) (.tmp 30), none⟩,
      ⟨some 32, .mov (.tmp 31), none⟩,
      ⟨some 33, .faddr 2 (.tmp 3), some (32, true)⟩,
      ⟨some 34, .load none (.tmp 33), some (32, true)⟩,
      ⟨some 35, .mov (.tmp 1), some (32, true)⟩,
      ⟨some 36, .bin .eql .int (.tmp 34) (.tmp 35), some (32, true)⟩,
      ⟨some 37, .pick (.tmp 32) (.tmp 36) (.cst (.bool false)), none⟩] [1, 3, 6, 37] none)
    (.cond (.tmp 37) (.seq (.region none [] [
        ⟨some 38, .mov (.tmp 1), none⟩,
        ⟨some 39, .faddr 1 (.tmp 3), none⟩,
        ⟨some 40, .load none (.tmp 39), none⟩,
        ⟨some 41, .faddr 0 (.tmp 3), none⟩,
        ⟨some 42, .load none (.tmp 41), none⟩,
        ⟨some 43, .build [.int .i64 0, .int .i64 0, .int .i64 0] [(0, 1, (.tmp 38)), (1, 1, (.tmp 40)), (2, 1, (.tmp 42))], none⟩,
        ⟨none, .store 3 (.tmp 6) (.tmp 43), none⟩,
        ⟨some 7, .mov (.cst (.bool true)), none⟩] [6, 7] none)
      (.ret))
    (.skip)))
    (.seq (.region none [] [
      ⟨some 44, .build [.int .i64 0, .int .i64 0, .int .i64 0] [], none⟩,
      ⟨none, .store 3 (.tmp 6) (.tmp 44), none⟩,
      ⟨some 7, .mov (.cst (.bool false)), none⟩] [6, 7] none)
    (.ret))))

def a40 : AFunc := ⟨3, c40, [.cell 6 (some 3), .tmp 7]⟩

def an40 : List RAnn := [
  { id := 0, live := [1, 2, 3, 6] },
  { id := 1, live := [1, 2, 3, 6, 19] },
  { id := 2, live := [6, 7] },
  { id := 3, live := [1, 3, 6, 37] },
  { id := 4, live := [6, 7] },
  { id := 5, live := [6, 7] }]

theorem comp40 : compF Try.prog an40 Try.f40 = some a40 := by kernel_rfl

/- graphdb/graphdbref07.HasType -/
def c41 : ACode :=
  .seq (.region none [] [
      ⟨some 2, .box 5 (.tmp 0), none⟩,
      ⟨some 4, .mov (.cst (.bool false)), none⟩] [1, 2] none)
    (.seq (.region none [] [
      ⟨some 5, .mov (.tmp 1), none⟩,
      ⟨some 6, .len .slice (.tmp 5), none⟩,
      ⟨some 7, .bin .eql .int (.tmp 6) (.cst (.int .i64 0)), none⟩,
      ⟨some 8, .mov (.tmp 7), none⟩,
      ⟨some 9, .mov (.tmp 1), some (8, false)⟩,
      ⟨some 10, .faddr 3 (.tmp 2), some (8, false)⟩,
      ⟨some 11, .load none (.tmp 10), some (8, false)⟩,
      ⟨some 12, .call .pure 48 [(.tmp 9), (.tmp 11)], some (8, false)⟩,
      ⟨some 13, .pick (.tmp 8) (.cst (.bool true)) (.tmp 12), none⟩,
      ⟨some 4, .mov (.tmp 13), none⟩] [4] none)
    (.ret))

def a41 : AFunc := ⟨2, c41, [.tmp 4]⟩

def an41 : List RAnn := [
  { id := 0, live := [1, 2] },
  { id := 1, live := [4] }]

theorem comp41 : compF Try.prog an41 Try.f41 = some a41 := by kernel_rfl

/- graphdb/graph.parts -/
/-- loop 0 of function 42 -/
def l42_0_h : List Nat := [0, 1, 5, 18, 19, 20]

def l42_0_b : ACode :=
  .seq (.region none [] [
      ⟨some 21, .bin .lss .int (.tmp 20) (.tmp 19), none⟩] [0, 1, 5, 18, 19, 20, 21] none)
    (.seq (.cond (.tmp 21) (.skip)
    (.exit 0))
    (.seq (.block 1 (.seq (.region none [] [
        ⟨some 22, .iaddr 6 (.tmp 18) (.tmp 20), none⟩,
        ⟨some 23, .load (some 6) (.tmp 22), none⟩,
        ⟨some 7, .alloc 6 (.agg [.str [], .int .i64 0, .int .i64 0, .int .i64 0, .str [], .sl false []]), none⟩,
        ⟨none, .store 6 (.tmp 7) (.tmp 23), none⟩] [0, 1, 5, 7, 18, 19, 20] none)
      (.region none [] [
        ⟨some 24, .mov (.tmp 5), none⟩,
        ⟨some 25, .faddr 0 (.tmp 7), none⟩,
        ⟨some 26, .load none (.tmp 25), none⟩,
        ⟨some 27, .lit false 1 (.str []) 1 [(0, (.tmp 26))], none⟩,
        ⟨some 28, .append 1 16 (.tmp 24) (.tmp 27), none⟩,
        ⟨some 5, .mov (.tmp 28), none⟩] [0, 1, 5, 18, 19, 20] none)))
    (.region none [] [
      ⟨some 29, .bin .add .int (.tmp 20) (.cst (.int .i64 1)), none⟩,
      ⟨some 20, .mov (.tmp 29), none⟩] [0, 1, 5, 18, 19, 20] none)))

/-- loop 1 of function 42 -/
def l42_1_h : List Nat := [44, 45, 46]

def l42_1_b : ACode :=
  .seq (.region none [] [
      ⟨some 47, .bin .lss .int (.tmp 46) (.tmp 45), none⟩] [44, 45, 46, 47] none)
    (.seq (.cond (.tmp 47) (.skip)
    (.exit 2))
    (.seq (.block 3 (.seq (.region none [] [
        ⟨some 48, .iaddr 6 (.tmp 44) (.tmp 46), none⟩,
        ⟨some 49, .load (some 6) (.tmp 48), none⟩,
        ⟨some 9, .alloc 6 (.agg [.str [], .int .i64 0, .int .i64 0, .int .i64 0, .str [], .sl false []]), none⟩,
        ⟨none, .store 6 (.tmp 9) (.tmp 49), none⟩] [9, 44, 45, 46] none)
      (.seq (.region none [] [
        ⟨some 50, .faddr 1 (.tmp 9), none⟩,
        ⟨some 51, .load (some 5) (.tmp 50), none⟩,
        ⟨some 52, .call .pure 70 [(.tmp 51)], none⟩,
        ⟨some 53, .un .not (.tmp 52), none⟩] [44, 45, 46, 53] none)
      (.cond (.tmp 53) (.seq (.region none [] [
          ⟨some 4, .mov (.cst (.int .i64 8)), none⟩] [4] none)
        (.ret))
      (.skip)))))
    (.region none [] [
      ⟨some 54, .bin .add .int (.tmp 46) (.cst (.int .i64 1)), none⟩,
      ⟨some 46, .mov (.tmp 54), none⟩] [44, 45, 46] none)))

def c42 : ACode :=
  .seq (.region none [] [
      ⟨some 4, .mov (.cst (.int .i64 0)), none⟩] [0, 1] none)
    (.seq (.seq (.region none [] [
      ⟨some 10, .mov (.tmp 0), none⟩,
      ⟨some 11, .len .slice (.tmp 10), none⟩,
      ⟨some 12, .bin .gtr .int (.tmp 11) (.cst (.int .i64 8)), none⟩,
      ⟨some 13, .mov (.tmp 12), none⟩,
      ⟨some 14, .mov (.tmp 1), some (13, false)⟩,
      ⟨some 15, .len .slice (.tmp 14), some (13, false)⟩,
      ⟨some 16, .bin .gtr .int (.tmp 15) (.cst (.int .i64 16)), some (13, false)⟩,
      ⟨some 17, .pick (.tmp 13) (.cst (.bool true)) (.tmp 16), none⟩] [0, 1, 17] none)
    (.cond (.tmp 17) (.seq (.region none [] [
        ⟨some 4, .mov (.cst (.int .i64 4)), none⟩] [4] none)
      (.ret))
    (.skip)))
    (.seq (.region none [] [
      ⟨some 5, .newown 1, none⟩] [0, 1, 5] none)
    (.seq (.seq (.region none [] [
      ⟨some 18, .mov (.tmp 1), none⟩,
      ⟨some 19, .len .slice (.tmp 18), none⟩,
      ⟨some 20, .mov (.cst (.int .i64 0)), none⟩] [0, 1, 5, 18, 19, 20] none)
    (.block 0 (.loop l42_0_h l42_0_b)))
    (.seq (.seq (.region none [] [
      ⟨some 30, .mov (.tmp 0), none⟩,
      ⟨some 31, .call .pure 67 [(.tmp 30), (.cst (.fn 68 []))], none⟩,
      ⟨some 32, .mov (.tmp 31), none⟩,
      ⟨some 33, .mov (.tmp 5), some (32, false)⟩,
      ⟨some 34, .call .borrow 67 [(.tmp 33), (.cst (.fn 68 []))], some (32, false)⟩,
      ⟨some 35, .pick (.tmp 32) (.cst (.bool true)) (.tmp 34), none⟩] [0, 1, 5, 35] none)
    (.cond (.tmp 35) (.seq (.region none [] [
        ⟨some 4, .mov (.cst (.int .i64 6)), none⟩] [4] none)
      (.ret))
    (.skip)))
    (.seq (.seq (.region none [] [
      ⟨some 36, .mov (.tmp 0), none⟩,
      ⟨some 37, .call .pure 69 [(.tmp 36)], none⟩,
      ⟨some 38, .un .not (.tmp 37), none⟩,
      ⟨some 39, .mov (.tmp 38), none⟩,
      ⟨some 40, .mov (.tmp 5), some (39, false)⟩,
      ⟨some 41, .call .borrow 69 [(.tmp 40)], some (39, false)⟩,
      ⟨some 42, .un .not (.tmp 41), some (39, false)⟩,
      ⟨some 43, .pick (.tmp 39) (.cst (.bool true)) (.tmp 42), none⟩] [1, 43] none)
    (.cond (.tmp 43) (.seq (.region none [] [
        ⟨some 4, .mov (.cst (.int .i64 26)), none⟩] [4] none)
      (.ret))
    (.skip)))
    (.seq (.seq (.region none [] [
      ⟨some 44, .mov (.tmp 1), none⟩,
      ⟨some 45, .len .slice (.tmp 44), none⟩,
      ⟨some 46, .mov (.cst (.int .i64 0)), none⟩] [44, 45, 46] none)
    (.block 2 (.loop l42_1_h l42_1_b)))
    (.seq (.region none [] [
      ⟨some 4, .mov (.cst (.int .i64 0)), none⟩] [4] none)
    (.ret))))))))

def a42 : AFunc := ⟨2, c42, [.tmp 4]⟩

def an42 : List RAnn := [
  { id := 0, live := [0, 1] },
  { id := 1, live := [0, 1, 17] },
  { id := 2, live := [4] },
  { id := 3, live := [0, 1, 5], ops := [(0, .own)] },
  { id := 4, live := [0, 1, 5, 18, 19, 20] },
  { id := 5, live := [0, 1, 5, 18, 19, 20, 21], hdr := [0, 1, 5, 18, 19, 20] },
  { id := 6, live := [0, 1, 5, 7, 18, 19, 20] },
  { id := 7, live := [0, 1, 5, 18, 19, 20] },
  { id := 8, live := [0, 1, 5, 18, 19, 20] },
  { id := 9, live := [0, 1, 5, 35], ops := [(4, .mode .borrow)] },
  { id := 10, live := [4] },
  { id := 11, live := [1, 43], ops := [(5, .mode .borrow)] },
  { id := 12, live := [4] },
  { id := 13, live := [44, 45, 46] },
  { id := 14, live := [44, 45, 46, 47], hdr := [44, 45, 46] },
  { id := 15, live := [9, 44, 45, 46] },
  { id := 16, live := [44, 45, 46, 53] },
  { id := 17, live := [4] },
  { id := 18, live := [44, 45, 46] },
  { id := 19, live := [4] }]

theorem comp42 : compF Try.prog an42 Try.f42 = some a42 := by kernel_rfl

/- graphdb/graph.has -/
def c43 : ACode :=
  .seq (.region none [] [
      ⟨some 4, .mov (.cst (.bool false)), none⟩] [0, 1] none)
    (.seq (.region none [] [
      ⟨some 8, .mov (.tmp 0), none⟩,
      ⟨some 9, .mov (.tmp 1), none⟩,
      ⟨some 10, .call .pure 71 [(.tmp 8), (.tmp 9), (.cst (.fn 72 []))], none⟩,
      ⟨some 7, .mov (.tmp 10), none⟩,
      ⟨some 11, .ext (.tmp 7) 0, none⟩,
      ⟨some 12, .ext (.tmp 7) 1, none⟩,
      ⟨some 5, .mov (.tmp 11), none⟩,
      ⟨some 6, .mov (.tmp 12), none⟩] [6] none)
    (.seq (.region none [] [
      ⟨some 13, .mov (.tmp 6), none⟩,
      ⟨some 4, .mov (.tmp 13), none⟩] [4] none)
    (.ret)))

def a43 : AFunc := ⟨2, c43, [.tmp 4]⟩

def an43 : List RAnn := [
  { id := 0, live := [0, 1] },
  { id := 1, live := [6] },
  { id := 2, live := [4] }]

theorem comp43 : compF Try.prog an43 Try.f43 = some a43 := by kernel_rfl

/- slices.Contains[[]string,string] -/
def c44 : ACode :=
  .seq (.region none [] [
      ⟨some 4, .mov (.cst (.bool false)), none⟩] [0, 1] none)
    (.seq (.region none [] [
      ⟨some 5, .mov (.tmp 0), none⟩,
      ⟨some 6, .mov (.tmp 1), none⟩,
      ⟨some 7, .call .pure 73 [(.tmp 5), (.tmp 6)], none⟩,
      ⟨some 8, .bin .geq .int (.tmp 7) (.cst (.int .i64 0)), none⟩,
      ⟨some 4, .mov (.tmp 8), none⟩] [4] none)
    (.ret))

def a44 : AFunc := ⟨2, c44, [.tmp 4]⟩

def an44 : List RAnn := [
  { id := 0, live := [0, 1] },
  { id := 1, live := [4] }]

theorem comp44 : compF Try.prog an44 Try.f44 = some a44 := by kernel_rfl

/- slices.Clone[[]string,string] -/
def c45 : ACode :=
  .seq (.region none [] [
      ⟨some 2, .mov (.cst (.sl false [])), none⟩] [0] none)
    (.seq (.seq (.region none [] [
      ⟨some 3, .mov (.tmp 0), none⟩,
      ⟨some 4, .bin .eql .slice (.tmp 3) (.cst (.sl false [])), none⟩] [0, 4] none)
    (.cond (.tmp 4) (.seq (.region none [] [
        ⟨some 2, .mov (.cst (.sl false [])), none⟩] [2] none)
      (.ret))
    (.skip)))
    (.seq (.region none [] [
      ⟨some 5, .lit true 1 (.str []) 0 [], none⟩,
      ⟨some 6, .mov (.tmp 0), none⟩,
      ⟨some 7, .append 1 16 (.tmp 5) (.tmp 6), none⟩,
      ⟨some 2, .mov (.tmp 7), none⟩] [2] none)
    (.ret)))

def a45 : AFunc := ⟨1, c45, [.tmp 2]⟩

def an45 : List RAnn := [
  { id := 0, live := [0] },
  { id := 1, live := [0, 4] },
  { id := 2, live := [2] },
  { id := 3, live := [2], ops := [(0, .own)] }]

theorem comp45 : compF Try.prog an45 Try.f45 = some a45 := by kernel_rfl

/- graphdb/graph.cloneProps -/
/-- loop 0 of function 46 -/
def l46_0_h : List Nat := [3, 8, 9]

def l46_0_b : ACode :=
  .seq (.region none [] [
      ⟨some 10, .bin .lss .int (.tmp 9) (.tmp 8), none⟩] [3, 8, 9, 10] none)
    (.seq (.cond (.tmp 10) (.skip)
    (.exit 0))
    (.seq (.block 1 (.seq (.region none [] [
        ⟨some 11, .mov (.tmp 9), none⟩,
        ⟨some 4, .mov (.tmp 11), none⟩] [3, 4, 8, 9] none)
      (.region none [] [
        ⟨some 12, .mov (.tmp 3), none⟩,
        ⟨some 13, .mov (.tmp 4), none⟩,
        ⟨some 14, .mov (.tmp 3), none⟩,
        ⟨some 15, .mov (.tmp 4), none⟩,
        ⟨some 16, .iaddr 6 (.tmp 14) (.tmp 15), none⟩,
        ⟨some 17, .faddr 1 (.tmp 16), none⟩,
        ⟨some 18, .load (some 5) (.tmp 17), none⟩,
        ⟨some 19, .call .pure 56 [(.tmp 18)], none⟩,
        ⟨some 20, .iaddr 6 (.tmp 12) (.tmp 13), none⟩,
        ⟨some 21, .faddr 1 (.tmp 20), none⟩,
        ⟨none, .store 5 (.tmp 21) (.tmp 19), none⟩] [3, 8, 9] none)))
    (.region none [] [
      ⟨some 22, .bin .add .int (.tmp 9) (.cst (.int .i64 1)), none⟩,
      ⟨some 9, .mov (.tmp 22), none⟩] [3, 8, 9] none)))

def c46 : ACode :=
  .seq (.region none [] [
      ⟨some 2, .mov (.cst (.sl false [])), none⟩] [0] none)
    (.seq (.region none [] [
      ⟨some 5, .mov (.tmp 0), none⟩,
      ⟨some 6, .call .own 74 [(.tmp 5)], none⟩,
      ⟨some 3, .mov (.tmp 6), none⟩] [3] none)
    (.seq (.seq (.region none [] [
      ⟨some 7, .mov (.tmp 3), none⟩,
      ⟨some 8, .len .slice (.tmp 7), none⟩,
      ⟨some 9, .mov (.cst (.int .i64 0)), none⟩] [3, 8, 9] none)
    (.block 0 (.loop l46_0_h l46_0_b)))
    (.seq (.region none [] [
      ⟨some 23, .mov (.tmp 3), none⟩,
      ⟨some 2, .mov (.tmp 23), none⟩] [2] none)
    (.ret))))

def a46 : AFunc := ⟨1, c46, [.tmp 2]⟩

def an46 : List RAnn := [
  { id := 0, live := [0] },
  { id := 1, live := [3], ops := [(1, .mode .own)] },
  { id := 2, live := [3, 8, 9] },
  { id := 3, live := [3, 8, 9, 10], hdr := [3, 8, 9] },
  { id := 4, live := [3, 4, 8, 9] },
  { id := 5, live := [3, 8, 9] },
  { id := 6, live := [3, 8, 9] },
  { id := 7, live := [2] }]

theorem comp46 : compF Try.prog an46 Try.f46 = some a46 := by kernel_rfl

/- graphdb/graphdbref07.SameProps -/
/-- loop 0 of function 47 -/
def l47_0_h : List Nat := [0, 1, 5]

def l47_0_b : ACode :=
  .seq (.seq (.region none [] [
      ⟨some 11, .mov (.tmp 5), none⟩,
      ⟨some 12, .mov (.tmp 0), none⟩,
      ⟨some 13, .len .slice (.tmp 12), none⟩,
      ⟨some 14, .bin .lss .int (.tmp 11) (.tmp 13), none⟩] [0, 1, 5, 14] none)
    (.cond (.tmp 14) (.skip)
    (.exit 0)))
    (.seq (.block 1 (.seq (.region (some 25) [] [
        ⟨some 17, .mov (.tmp 0), none⟩,
        ⟨some 18, .mov (.tmp 5), none⟩,
        ⟨some 19, .iaddr 6 (.tmp 17) (.tmp 18), none⟩,
        ⟨some 20, .faddr 0 (.tmp 19), none⟩,
        ⟨some 21, .load none (.tmp 20), none⟩,
        ⟨some 22, .mov (.tmp 1), none⟩,
        ⟨some 23, .mov (.tmp 5), none⟩,
        ⟨some 24, .iaddr 6 (.tmp 22) (.tmp 23), none⟩,
        ⟨some 25, .faddr 0 (.tmp 24), none⟩,
        ⟨some 26, .load none (.tmp 25), none⟩,
        ⟨some 27, .bin .neq .str (.tmp 21) (.tmp 26), none⟩,
        ⟨some 28, .mov (.tmp 27), none⟩,
        ⟨some 29, .mov (.tmp 0), some (28, false)⟩,
        ⟨some 30, .mov (.tmp 5), some (28, false)⟩,
        ⟨some 31, .iaddr 6 (.tmp 29) (.tmp 30), some (28, false)⟩,
        ⟨some 32, .faddr 1 (.tmp 31), some (28, false)⟩,
        ⟨some 33, .load (some 5) (.tmp 32), some (28, false)⟩,
        ⟨some 34, .mov (.tmp 1), some (28, false)⟩,
        ⟨some 35, .mov (.tmp 5), some (28, false)⟩,
        ⟨some 36, .iaddr 6 (.tmp 34) (.tmp 35), some (28, false)⟩,
        ⟨some 37, .faddr 1 (.tmp 36), some (28, false)⟩,
        ⟨some 38, .load (some 5) (.tmp 37), some (28, false)⟩,
        ⟨some 39, .call .pure 23 [(.tmp 33), (.tmp 38)], some (28, false)⟩,
        ⟨some 40, .bin .neq .int (.tmp 39) (.cst (.int .i64 0)), some (28, false)⟩,
        ⟨some 41, .pick (.tmp 28) (.cst (.bool true)) (.tmp 40), none⟩] [0, 1, 5, 41] none)
      (.cond (.tmp 41) (.seq (.region none [] [
          ⟨some 4, .mov (.cst (.bool false)), none⟩] [4] none)
        (.ret))
      (.skip))))
    (.region none [] [
      ⟨some 15, .mov (.tmp 5), none⟩,
      ⟨some 16, .bin .add .int (.tmp 15) (.cst (.int .i64 1)), none⟩,
      ⟨some 5, .mov (.tmp 16), none⟩] [0, 1, 5] none))

def c47 : ACode :=
  .seq (.region none [] [
      ⟨some 4, .mov (.cst (.bool false)), none⟩] [0, 1] none)
    (.seq (.seq (.region none [] [
      ⟨some 6, .mov (.tmp 0), none⟩,
      ⟨some 7, .len .slice (.tmp 6), none⟩,
      ⟨some 8, .mov (.tmp 1), none⟩,
      ⟨some 9, .len .slice (.tmp 8), none⟩,
      ⟨some 10, .bin .neq .int (.tmp 7) (.tmp 9), none⟩] [0, 1, 10] none)
    (.cond (.tmp 10) (.seq (.region none [] [
        ⟨some 4, .mov (.cst (.bool false)), none⟩] [4] none)
      (.ret))
    (.skip)))
    (.seq (.seq (.region none [] [
      ⟨some 5, .mov (.cst (.int .i64 0)), none⟩] [0, 1, 5] none)
    (.block 0 (.loop l47_0_h l47_0_b)))
    (.seq (.region none [] [
      ⟨some 4, .mov (.cst (.bool true)), none⟩] [4] none)
    (.ret))))

def a47 : AFunc := ⟨2, c47, [.tmp 4]⟩

def an47 : List RAnn := [
  { id := 0, live := [0, 1] },
  { id := 1, live := [0, 1, 10] },
  { id := 2, live := [4] },
  { id := 3, live := [0, 1, 5] },
  { id := 4, live := [0, 1, 5, 14], hdr := [0, 1, 5] },
  { id := 6, head := some 25, live := [0, 1, 5, 41] },
  { id := 7, live := [4] },
  { id := 5, live := [0, 1, 5] },
  { id := 8, live := [4] }]

theorem comp47 : compF Try.prog an47 Try.f47 = some a47 := by kernel_rfl

/- graphdb/graphdbref07.HasStr -/
/-- loop 0 of function 48 -/
def l48_0_h : List Nat := [0, 1, 5]

def l48_0_b : ACode :=
  .seq (.seq (.region none [] [
      ⟨some 6, .mov (.tmp 5), none⟩,
      ⟨some 7, .mov (.tmp 0), none⟩,
      ⟨some 8, .len .slice (.tmp 7), none⟩,
      ⟨some 9, .bin .lss .int (.tmp 6) (.tmp 8), none⟩] [0, 1, 5, 9] none)
    (.cond (.tmp 9) (.skip)
    (.exit 0)))
    (.seq (.block 1 (.seq (.region none [] [
        ⟨some 12, .mov (.tmp 0), none⟩,
        ⟨some 13, .mov (.tmp 5), none⟩,
        ⟨some 14, .iaddr 1 (.tmp 12) (.tmp 13), none⟩,
        ⟨some 15, .load none (.tmp 14), none⟩,
        ⟨some 16, .mov (.tmp 1), none⟩,
        ⟨some 17, .bin .eql .str (.tmp 15) (.tmp 16), none⟩] [0, 1, 5, 17] none)
      (.cond (.tmp 17) (.seq (.region none [] [
          ⟨some 4, .mov (.cst (.bool true)), none⟩] [4] none)
        (.ret))
      (.skip))))
    (.region none [] [
      ⟨some 10, .mov (.tmp 5), none⟩,
      ⟨some 11, .bin .add .int (.tmp 10) (.cst (.int .i64 1)), none⟩,
      ⟨some 5, .mov (.tmp 11), none⟩] [0, 1, 5] none))

def c48 : ACode :=
  .seq (.region none [] [
      ⟨some 4, .mov (.cst (.bool false)), none⟩] [0, 1] none)
    (.seq (.seq (.region none [] [
      ⟨some 5, .mov (.cst (.int .i64 0)), none⟩] [0, 1, 5] none)
    (.block 0 (.loop l48_0_h l48_0_b)))
    (.seq (.region none [] [
      ⟨some 4, .mov (.cst (.bool false)), none⟩] [4] none)
    (.ret)))

def a48 : AFunc := ⟨2, c48, [.tmp 4]⟩

def an48 : List RAnn := [
  { id := 0, live := [0, 1] },
  { id := 1, live := [0, 1, 5] },
  { id := 2, live := [0, 1, 5, 9], hdr := [0, 1, 5] },
  { id := 4, live := [0, 1, 5, 17] },
  { id := 5, live := [4] },
  { id := 3, live := [0, 1, 5] },
  { id := 6, live := [4] }]

theorem comp48 : compF Try.prog an48 Try.f48 = some a48 := by kernel_rfl

/- graphdb/graphdbref04.Valid -/
def c49 : ACode :=
  .seq (.region none [] [
      ⟨some 1, .box 5 (.tmp 0), none⟩,
      ⟨some 2, .mov (.cst (.bool false)), none⟩] [1] none)
    (.seq (.region none [] [
      ⟨some 3, .load (some 5) (.tmp 1), none⟩,
      ⟨some 4, .call .pure 75 [(.tmp 3), (.cst (.int .i64 8))], none⟩,
      ⟨some 2, .mov (.tmp 4), none⟩] [2] none)
    (.ret))

def a49 : AFunc := ⟨1, c49, [.tmp 2]⟩

def an49 : List RAnn := [
  { id := 0, live := [1] },
  { id := 1, live := [2] }]

theorem comp49 : compF Try.prog an49 Try.f49 = some a49 := by kernel_rfl

/- graphdb/graphdbref04.yes -/
def c50 : ACode :=
  .seq (.region none [] [
      ⟨some 2, .mov (.cst (.int .i64 0)), none⟩] [0] none)
    (.seq (.seq (.region none [] [
      ⟨some 3, .mov (.tmp 0), none⟩] [3] none)
    (.cond (.tmp 3) (.seq (.region none [] [
        ⟨some 2, .mov (.cst (.int .i64 2)), none⟩] [2] none)
      (.ret))
    (.skip)))
    (.seq (.region none [] [
      ⟨some 2, .mov (.cst (.int .i64 0)), none⟩] [2] none)
    (.ret)))

def a50 : AFunc := ⟨1, c50, [.tmp 2]⟩

def an50 : List RAnn := [
  { id := 0, live := [0] },
  { id := 1, live := [3] },
  { id := 2, live := [2] },
  { id := 3, live := [2] }]

theorem comp50 : compF Try.prog an50 Try.f50 = some a50 := by kernel_rfl

/- graphdb/graphdbref04.fields -/
def c51 : ACode :=
  .seq (.region none [] [
      ⟨some 2, .box 5 (.tmp 0), none⟩,
      ⟨some 3, .box 5 (.tmp 1), none⟩,
      ⟨some 4, .mov (.cst (.int .i64 0)), none⟩] [2, 3] none)
    (.seq (.seq (.region none [] [
      ⟨some 9, .faddr 0 (.tmp 2), none⟩,
      ⟨some 10, .load none (.tmp 9), none⟩,
      ⟨some 11, .faddr 0 (.tmp 3), none⟩,
      ⟨some 12, .load none (.tmp 11), none⟩,
      ⟨some 13, .call .pure 52 [(.tmp 10), (.tmp 12)], none⟩,
      ⟨some 5, .mov (.tmp 13), none⟩] [2, 3, 5] none)
    (.seq (.region none [] [
      ⟨some 14, .mov (.tmp 5), none⟩,
      ⟨some 15, .bin .neq .int (.tmp 14) (.cst (.int .i64 0)), none⟩] [2, 3, 5, 15] none)
    (.cond (.tmp 15) (.seq (.region none [] [
        ⟨some 16, .mov (.tmp 5), none⟩,
        ⟨some 4, .mov (.tmp 16), none⟩] [4] none)
      (.ret))
    (.skip))))
    (.seq (.seq (.region none [] [
      ⟨some 17, .faddr 1 (.tmp 2), none⟩,
      ⟨some 18, .load none (.tmp 17), none⟩,
      ⟨some 19, .faddr 1 (.tmp 3), none⟩,
      ⟨some 20, .load none (.tmp 19), none⟩,
      ⟨some 21, .call .pure 52 [(.tmp 18), (.tmp 20)], none⟩,
      ⟨some 6, .mov (.tmp 21), none⟩] [2, 3, 6] none)
    (.seq (.region none [] [
      ⟨some 22, .mov (.tmp 6), none⟩,
      ⟨some 23, .bin .neq .int (.tmp 22) (.cst (.int .i64 0)), none⟩] [2, 3, 6, 23] none)
    (.cond (.tmp 23) (.seq (.region none [] [
        ⟨some 24, .mov (.tmp 6), none⟩,
        ⟨some 4, .mov (.tmp 24), none⟩] [4] none)
      (.ret))
    (.skip))))
    (.seq (.seq (.region none [] [
      ⟨some 25, .faddr 2 (.tmp 2), none⟩,
      ⟨some 26, .load none (.tmp 25), none⟩,
      ⟨some 27, .faddr 2 (.tmp 3), none⟩,
      ⟨some 28, .load none (.tmp 27), none⟩,
      ⟨some 29, .call .pure 52 [(.tmp 26), (.tmp 28)], none⟩,
      ⟨some 7, .mov (.tmp 29), none⟩] [2, 3, 7] none)
    (.seq (.region none [] [
      ⟨some 30, .mov (.tmp 7), none⟩,
      ⟨some 31, .bin .neq .int (.tmp 30) (.cst (.int .i64 0)), none⟩] [2, 3, 7, 31] none)
    (.cond (.tmp 31) (.seq (.region none [] [
        ⟨some 32, .mov (.tmp 7), none⟩,
        ⟨some 4, .mov (.tmp 32), none⟩] [4] none)
      (.ret))
    (.skip))))
    (.seq (.seq (.region none [] [
      ⟨some 33, .faddr 3 (.tmp 2), none⟩,
      ⟨some 34, .load none (.tmp 33), none⟩,
      ⟨some 35, .faddr 3 (.tmp 3), none⟩,
      ⟨some 36, .load none (.tmp 35), none⟩,
      ⟨some 37, .call .pure 76 [(.tmp 34), (.tmp 36)], none⟩,
      ⟨some 8, .mov (.tmp 37), none⟩] [2, 3, 8] none)
    (.seq (.region none [] [
      ⟨some 38, .mov (.tmp 8), none⟩,
      ⟨some 39, .bin .neq .int (.tmp 38) (.cst (.int .i64 0)), none⟩] [2, 3, 8, 39] none)
    (.cond (.tmp 39) (.seq (.region none [] [
        ⟨some 40, .mov (.tmp 8), none⟩,
        ⟨some 4, .mov (.tmp 40), none⟩] [4] none)
      (.ret))
    (.skip))))
    (.seq (.region none [] [
      ⟨some 41, .faddr 4 (.tmp 2), none⟩,
      ⟨some 42, .load none (.tmp 41), none⟩,
      ⟨some 43, .faddr 4 (.tmp 3), none⟩,
      ⟨some 44, .load none (.tmp 43), none⟩,
      ⟨some 45, .call .pure 77 [(.tmp 42), (.tmp 44)], none⟩,
      ⟨some 4, .mov (.tmp 45), none⟩] [4] none)
    (.ret))))))

def a51 : AFunc := ⟨2, c51, [.tmp 4]⟩

def an51 : List RAnn := [
  { id := 0, live := [2, 3] },
  { id := 1, live := [2, 3, 5] },
  { id := 2, live := [2, 3, 5, 15] },
  { id := 3, live := [4] },
  { id := 4, live := [2, 3, 6] },
  { id := 5, live := [2, 3, 6, 23] },
  { id := 6, live := [4] },
  { id := 7, live := [2, 3, 7] },
  { id := 8, live := [2, 3, 7, 31] },
  { id := 9, live := [4] },
  { id := 10, live := [2, 3, 8] },
  { id := 11, live := [2, 3, 8, 39] },
  { id := 12, live := [4] },
  { id := 13, live := [4] }]

theorem comp51 : compF Try.prog an51 Try.f51 = some a51 := by kernel_rfl

/- graphdb/graphdbref04.ints -/
def c52 : ACode :=
  .seq (.region none [] [
      ⟨some 4, .mov (.cst (.int .i64 0)), none⟩] [0, 1] none)
    (.seq (.seq (.region none [] [
      ⟨some 5, .mov (.tmp 0), none⟩,
      ⟨some 6, .mov (.tmp 1), none⟩,
      ⟨some 7, .bin .lss .int (.tmp 5) (.tmp 6), none⟩] [0, 1, 7] none)
    (.cond (.tmp 7) (.seq (.region none [] [
        ⟨some 4, .mov (.cst (.int .i64 (-1))), none⟩] [4] none)
      (.ret))
    (.skip)))
    (.seq (.seq (.region none [] [
      ⟨some 8, .mov (.tmp 0), none⟩,
      ⟨some 9, .mov (.tmp 1), none⟩,
      ⟨some 10, .bin .gtr .int (.tmp 8) (.tmp 9), none⟩] [10] none)
    (.cond (.tmp 10) (.seq (.region none [] [
        ⟨some 4, .mov (.cst (.int .i64 1)), none⟩] [4] none)
      (.ret))
    (.skip)))
    (.seq (.region none [] [
      ⟨some 4, .mov (.cst (.int .i64 0)), none⟩] [4] none)
    (.ret))))

def a52 : AFunc := ⟨2, c52, [.tmp 4]⟩

def an52 : List RAnn := [
  { id := 0, live := [0, 1] },
  { id := 1, live := [0, 1, 7] },
  { id := 2, live := [4] },
  { id := 3, live := [10] },
  { id := 4, live := [4] },
  { id := 5, live := [4] }]

theorem comp52 : compF Try.prog an52 Try.f52 = some a52 := by kernel_rfl

/- graphdb/graphdbref04.class -/
def c53 : ACode :=
  .seq (.region none [] [
      ⟨some 2, .mov (.cst (.int .i64 0)), none⟩] [0] none)
    (.seq (.seq (.region none [] [
      ⟨some 3, .mov (.tmp 0), none⟩] [3] none)
    (.block 0 (.seq (.region none [] [
        ⟨some 5, .bin .eql .int (.tmp 3) (.cst (.int .i64 0)), none⟩,
        ⟨some 4, .mov (.tmp 5), none⟩] [3, 4] none)
      (.cond (.tmp 4) (.seq (.region none [] [
          ⟨some 2, .mov (.cst (.int .i64 0)), none⟩] [2] none)
        (.ret))
      (.seq (.region none [] [
          ⟨some 7, .bin .eql .int (.tmp 3) (.cst (.int .i64 1)), none⟩,
          ⟨some 6, .mov (.tmp 7), none⟩] [3, 6] none)
        (.cond (.tmp 6) (.seq (.region none [] [
            ⟨some 2, .mov (.cst (.int .i64 1)), none⟩] [2] none)
          (.ret))
        (.seq (.seq (.region none [] [
            ⟨some 9, .bin .eql .int (.tmp 3) (.cst (.int .i64 2)), none⟩,
            ⟨some 8, .mov (.tmp 9), none⟩] [3, 8] none)
          (.cond (.tmp 8) (.skip)
          (.region none [] [
              ⟨some 10, .bin .eql .int (.tmp 3) (.cst (.int .i64 3)), none⟩,
              ⟨some 8, .mov (.tmp 10), none⟩] [3, 8] none)))
          (.cond (.tmp 8) (.seq (.region none [] [
              ⟨some 2, .mov (.cst (.int .i64 2)), none⟩] [2] none)
            (.ret))
          (.seq (.region none [] [
              ⟨some 12, .bin .eql .int (.tmp 3) (.cst (.int .i64 4)), none⟩,
              ⟨some 11, .mov (.tmp 12), none⟩] [3, 11] none)
            (.cond (.tmp 11) (.seq (.region none [] [
                ⟨some 2, .mov (.cst (.int .i64 3)), none⟩] [2] none)
              (.ret))
            (.seq (.region none [] [
                ⟨some 14, .bin .eql .int (.tmp 3) (.cst (.int .i64 5)), none⟩,
                ⟨some 13, .mov (.tmp 14), none⟩] [3, 13] none)
              (.cond (.tmp 13) (.seq (.region none [] [
                  ⟨some 2, .mov (.cst (.int .i64 4)), none⟩] [2] none)
                (.ret))
              (.seq (.region none [] [
                  ⟨some 16, .bin .eql .int (.tmp 3) (.cst (.int .i64 6)), none⟩,
                  ⟨some 15, .mov (.tmp 16), none⟩] [3, 15] none)
                (.cond (.tmp 15) (.seq (.region none [] [
                    ⟨some 2, .mov (.cst (.int .i64 5)), none⟩] [2] none)
                  (.ret))
                (.seq (.region none [] [
                    ⟨some 18, .bin .eql .int (.tmp 3) (.cst (.int .i64 8)), none⟩,
                    ⟨some 17, .mov (.tmp 18), none⟩] [17] none)
                  (.cond (.tmp 17) (.seq (.region none [] [
                      ⟨some 2, .mov (.cst (.int .i64 6)), none⟩] [2] none)
                    (.ret))
                  (.skip)))))))))))))))))
    (.seq (.region none [] [
      ⟨some 2, .mov (.cst (.int .i64 7)), none⟩] [2] none)
    (.ret)))

def a53 : AFunc := ⟨1, c53, [.tmp 2]⟩

def an53 : List RAnn := [
  { id := 0, live := [0] },
  { id := 1, live := [3] },
  { id := 2, live := [3, 4] },
  { id := 3, live := [2] },
  { id := 4, live := [3, 6] },
  { id := 5, live := [2] },
  { id := 6, live := [3, 8] },
  { id := 7, live := [3, 8] },
  { id := 8, live := [2] },
  { id := 9, live := [3, 11] },
  { id := 10, live := [2] },
  { id := 11, live := [3, 13] },
  { id := 12, live := [2] },
  { id := 13, live := [3, 15] },
  { id := 14, live := [2] },
  { id := 15, live := [17] },
  { id := 16, live := [2] },
  { id := 17, live := [2] }]

theorem comp53 : compF Try.prog an53 Try.f53 = some a53 := by kernel_rfl

/- graphdb/graphdbref04.Number -/
def c54 : ACode :=
  .seq (.region none [] [
      ⟨some 1, .box 5 (.tmp 0), none⟩,
      ⟨some 2, .alloc 2 (.agg [.int .i64 0, .int .i64 0]), none⟩,
      ⟨some 3, .mov (.cst (.bool false)), none⟩] [1, 2] none)
    (.seq (.seq (.region none [] [
      ⟨some 4, .load (some 5) (.tmp 1), none⟩,
      ⟨some 5, .call .pure 49 [(.tmp 4)], none⟩,
      ⟨some 6, .un .not (.tmp 5), none⟩] [1, 2, 6] none)
    (.cond (.tmp 6) (.seq (.region none [] [
        ⟨some 7, .build [.int .i64 0, .int .i64 0] [], none⟩,
        ⟨none, .store 2 (.tmp 2) (.tmp 7), none⟩,
        ⟨some 3, .mov (.cst (.bool false)), none⟩] [2, 3] none)
      (.ret))
    (.skip)))
    (.seq (.seq (.region none [] [
      ⟨some 8, .faddr 0 (.tmp 1), none⟩,
      ⟨some 9, .load none (.tmp 8), none⟩,
      ⟨some 10, .bin .eql .int (.tmp 9) (.cst (.int .i64 2)), none⟩] [1, 2, 10] none)
    (.cond (.tmp 10) (.seq (.region none [] [
        ⟨some 11, .faddr 1 (.tmp 1), none⟩,
        ⟨some 12, .load none (.tmp 11), none⟩,
        ⟨some 13, .build [.int .i64 0, .int .i64 0] [(0, 1, (.tmp 12)), (1, 1, (.cst (.int .i64 1)))], none⟩,
        ⟨none, .store 2 (.tmp 2) (.tmp 13), none⟩,
        ⟨some 3, .mov (.cst (.bool true)), none⟩] [2, 3] none)
      (.ret))
    (.skip)))
    (.seq (.seq (.region none [] [
      ⟨some 14, .faddr 0 (.tmp 1), none⟩,
      ⟨some 15, .load none (.tmp 14), none⟩,
      ⟨some 16, .bin .eql .int (.tmp 15) (.cst (.int .i64 3)), none⟩] [1, 2, 16] none)
    (.cond (.tmp 16) (.seq (.region none [] [
        ⟨some 17, .faddr 1 (.tmp 1), none⟩,
        ⟨some 18, .load none (.tmp 17), none⟩,
        ⟨some 19, .faddr 2 (.tmp 1), none⟩,
        ⟨some 20, .load none (.tmp 19), none⟩,
        ⟨some 21, .build [.int .i64 0, .int .i64 0] [(0, 1, (.tmp 18)), (1, 1, (.tmp 20))], none⟩,
        ⟨none, .store 2 (.tmp 2) (.tmp 21), none⟩,
        ⟨some 3, .mov (.cst (.bool true)), none⟩] [2, 3] none)
      (.ret))
    (.skip)))
    (.seq (.region none [] [
      ⟨some 22, .build [.int .i64 0, .int .i64 0] [], none⟩,
      ⟨none, .store 2 (.tmp 2) (.tmp 22), none⟩,
      ⟨some 3, .mov (.cst (.bool false)), none⟩] [2, 3] none)
    (.ret)))))

def a54 : AFunc := ⟨1, c54, [.cell 2 (some 2), .tmp 3]⟩

def an54 : List RAnn := [
  { id := 0, live := [1, 2] },
  { id := 1, live := [1, 2, 6] },
  { id := 2, live := [2, 3] },
  { id := 3, live := [1, 2, 10] },
  { id := 4, live := [2, 3] },
  { id := 5, live := [1, 2, 16] },
  { id := 6, live := [2, 3] },
  { id := 7, live := [2, 3] }]

theorem comp54 : compF Try.prog an54 Try.f54 = some a54 := by kernel_rfl

/- graphdb/graphdbref03.Cmp -/
def c55 : ACode :=
  .seq (.region none [] [
      ⟨some 2, .box 2 (.tmp 0), none⟩,
      ⟨some 3, .box 2 (.tmp 1), none⟩,
      ⟨some 4, .mov (.cst (.int .i64 0)), none⟩] [2, 3] none)
    (.seq (.seq (.region none [] [
      ⟨some 7, .load (some 2) (.tmp 2), none⟩,
      ⟨some 8, .call .pure 78 [(.tmp 7)], none⟩,
      ⟨some 9, .un .not (.tmp 8), none⟩] [2, 3, 9] none)
    (.cond (.tmp 9) (.region none [] [
        ⟨some 10, .build [.int .i64 0, .int .i64 0] [(1, 1, (.cst (.int .i64 1)))], none⟩,
        ⟨none, .store 2 (.tmp 2) (.tmp 10), none⟩] [2, 3] none)
    (.skip)))
    (.seq (.seq (.region none [] [
      ⟨some 11, .load (some 2) (.tmp 3), none⟩,
      ⟨some 12, .call .pure 78 [(.tmp 11)], none⟩,
      ⟨some 13, .un .not (.tmp 12), none⟩] [2, 3, 13] none)
    (.cond (.tmp 13) (.region none [] [
        ⟨some 14, .build [.int .i64 0, .int .i64 0] [(1, 1, (.cst (.int .i64 1)))], none⟩,
        ⟨none, .store 2 (.tmp 3) (.tmp 14), none⟩] [2, 3] none)
    (.skip)))
    (.seq (.region (some 25) [] [
      ⟨some 16, .faddr 0 (.tmp 2), none⟩,
      ⟨some 17, .load none (.tmp 16), none⟩,
      ⟨some 18, .call .pure 80 [(.tmp 17)], none⟩,
      ⟨some 19, .faddr 0 (.tmp 2), none⟩,
      ⟨some 20, .load none (.tmp 19), none⟩,
      ⟨some 21, .call .pure 82 [(.tmp 20)], none⟩,
      ⟨some 22, .faddr 1 (.tmp 3), none⟩,
      ⟨some 23, .load none (.tmp 22), none⟩,
      ⟨some 24, .call .pure 81 [(.tmp 21), (.tmp 23)], none⟩,
      ⟨some 25, .faddr 0 (.tmp 3), none⟩,
      ⟨some 26, .load none (.tmp 25), none⟩,
      ⟨some 27, .call .pure 80 [(.tmp 26)], none⟩,
      ⟨some 28, .un .neg (.tmp 27), none⟩,
      ⟨some 29, .faddr 0 (.tmp 3), none⟩,
      ⟨some 30, .load none (.tmp 29), none⟩,
      ⟨some 31, .call .pure 82 [(.tmp 30)], none⟩,
      ⟨some 32, .faddr 1 (.tmp 2), none⟩,
      ⟨some 33, .load none (.tmp 32), none⟩,
      ⟨some 34, .call .pure 81 [(.tmp 31), (.tmp 33)], none⟩,
      ⟨some 35, .call .pure 79 [(.tmp 18), (.tmp 24), (.tmp 28), (.tmp 34)], none⟩,
      ⟨some 15, .mov (.tmp 35), none⟩,
      ⟨some 36, .ext (.tmp 15) 0, none⟩,
      ⟨some 37, .ext (.tmp 15) 1, none⟩,
      ⟨some 5, .mov (.tmp 36), none⟩,
      ⟨some 6, .mov (.tmp 37), none⟩] [5] none)
    (.seq (.region none [] [
      ⟨some 38, .mov (.tmp 5), none⟩,
      ⟨some 4, .mov (.tmp 38), none⟩] [4] none)
    (.ret)))))

def a55 : AFunc := ⟨2, c55, [.tmp 4]⟩

def an55 : List RAnn := [
  { id := 0, live := [2, 3] },
  { id := 1, live := [2, 3, 9] },
  { id := 2, live := [2, 3] },
  { id := 3, live := [2, 3, 13] },
  { id := 4, live := [2, 3] },
  { id := 5, head := some 25, live := [5] },
  { id := 6, live := [4] }]

theorem comp55 : compF Try.prog an55 Try.f55 = some a55 := by kernel_rfl

/- graphdb/graph.cloneValue -/
/-- loop 0 of function 56 -/
def l56_0_h : List Nat := [1, 2, 10, 11]

def l56_0_b : ACode :=
  .seq (.region none [] [
      ⟨some 12, .bin .lss .int (.tmp 11) (.tmp 10), none⟩] [1, 2, 10, 11, 12] none)
    (.seq (.cond (.tmp 12) (.skip)
    (.exit 0))
    (.seq (.block 1 (.seq (.region none [] [
        ⟨some 13, .mov (.tmp 11), none⟩,
        ⟨some 3, .mov (.tmp 13), none⟩] [1, 2, 3, 10, 11] none)
      (.region (some 10) [] [
        ⟨some 14, .faddr 4 (.tmp 1), none⟩,
        ⟨some 15, .load none (.tmp 14), none⟩,
        ⟨some 16, .mov (.tmp 3), none⟩,
        ⟨some 17, .faddr 4 (.tmp 1), none⟩,
        ⟨some 18, .load none (.tmp 17), none⟩,
        ⟨some 19, .mov (.tmp 3), none⟩,
        ⟨some 20, .iaddr 5 (.tmp 18) (.tmp 19), none⟩,
        ⟨some 21, .load (some 5) (.tmp 20), none⟩,
        ⟨some 22, .call .pure 56 [(.tmp 21)], none⟩,
        ⟨some 23, .iaddr 5 (.tmp 15) (.tmp 16), none⟩,
        ⟨none, .store 5 (.tmp 23) (.tmp 22), none⟩] [1, 2, 10, 11] none)))
    (.region none [] [
      ⟨some 24, .bin .add .int (.tmp 11) (.cst (.int .i64 1)), none⟩,
      ⟨some 11, .mov (.tmp 24), none⟩] [1, 2, 10, 11] none)))

def c56 : ACode :=
  .seq (.region none [] [
      ⟨some 1, .box 5 (.tmp 0), none⟩,
      ⟨some 2, .alloc 5 (.agg [.int .i64 0, .int .i64 0, .int .i64 0, .str [], .sl false []]), none⟩] [1, 2] none)
    (.seq (.region none [] [
      ⟨some 4, .faddr 4 (.tmp 1), none⟩,
      ⟨some 5, .load none (.tmp 4), none⟩,
      ⟨some 6, .call .own 83 [(.tmp 5)], none⟩,
      ⟨some 7, .faddr 4 (.tmp 1), none⟩,
      ⟨none, .store 1 (.tmp 7) (.tmp 6), none⟩] [1, 2] none)
    (.seq (.seq (.region none [] [
      ⟨some 8, .faddr 4 (.tmp 1), none⟩,
      ⟨some 9, .load none (.tmp 8), none⟩,
      ⟨some 10, .len .slice (.tmp 9), none⟩,
      ⟨some 11, .mov (.cst (.int .i64 0)), none⟩] [1, 2, 10, 11] none)
    (.block 0 (.loop l56_0_h l56_0_b)))
    (.seq (.region none [] [
      ⟨some 25, .load (some 5) (.tmp 1), none⟩,
      ⟨none, .store 5 (.tmp 2) (.tmp 25), none⟩] [2] none)
    (.ret))))

def a56 : AFunc := ⟨1, c56, [.cell 2 (some 5)]⟩

def an56 : List RAnn := [
  { id := 0, live := [1, 2] },
  { id := 1, live := [1, 2], ops := [(2, .mode .own)] },
  { id := 2, live := [1, 2, 10, 11] },
  { id := 3, live := [1, 2, 10, 11, 12], hdr := [1, 2, 10, 11] },
  { id := 4, live := [1, 2, 3, 10, 11] },
  { id := 5, head := some 10, live := [1, 2, 10, 11] },
  { id := 6, live := [1, 2, 10, 11] },
  { id := 7, live := [2] }]

theorem comp56 : compF Try.prog an56 Try.f56 = some a56 := by kernel_rfl

/- graphdb/value.Null -/
def c57 : ACode :=
  .seq (.region none [] [
      ⟨some 0, .alloc 5 (.agg [.int .i64 0, .int .i64 0, .int .i64 0, .str [], .sl false []]), none⟩] [0] none)
    (.seq (.region none [] [
      ⟨some 1, .build [.int .i64 0, .int .i64 0, .int .i64 0, .str [], .sl false []] [], none⟩,
      ⟨none, .store 5 (.tmp 0) (.tmp 1), none⟩] [0] none)
    (.ret))

def a57 : AFunc := ⟨0, c57, [.cell 0 (some 5)]⟩

def an57 : List RAnn := [
  { id := 0, live := [0] },
  { id := 1, live := [0] }]

theorem comp57 : compF Try.prog an57 Try.f57 = some a57 := by kernel_rfl

/- graphdb/graphdbref04.Weigh -/
/-- loop 0 of function 63 -/
def l63_0_h : List Nat := [1, 2, 3, 7]

def l63_0_b : ACode :=
  .seq (.seq (.region none [] [
      ⟨some 17, .mov (.tmp 7), none⟩,
      ⟨some 18, .faddr 4 (.tmp 3), none⟩,
      ⟨some 19, .load none (.tmp 18), none⟩,
      ⟨some 20, .len .slice (.tmp 19), none⟩,
      ⟨some 21, .bin .lss .int (.tmp 17) (.tmp 20), none⟩,
      ⟨some 22, .mov (.tmp 21), none⟩,
      ⟨some 23, .mov (.tmp 1), some (22, true)⟩,
      ⟨some 24, .bin .geq .int (.tmp 23) (.cst (.int .i64 0)), some (22, true)⟩,
      ⟨some 25, .pick (.tmp 22) (.tmp 24) (.cst (.bool false)), none⟩] [1, 2, 3, 7, 25] none)
    (.cond (.tmp 25) (.skip)
    (.exit 0)))
    (.seq (.block 1 (.region none [] [
        ⟨some 28, .faddr 4 (.tmp 3), none⟩,
        ⟨some 29, .load none (.tmp 28), none⟩,
        ⟨some 30, .mov (.tmp 7), none⟩,
        ⟨some 31, .iaddr 5 (.tmp 29) (.tmp 30), none⟩,
        ⟨some 32, .load (some 5) (.tmp 31), none⟩,
        ⟨some 33, .mov (.tmp 1), none⟩,
        ⟨some 34, .mov (.tmp 2), none⟩,
        ⟨some 35, .bin .sub .int (.tmp 34) (.cst (.int .i64 1)), none⟩,
        ⟨some 36, .call .pure 63 [(.tmp 32), (.tmp 33), (.tmp 35)], none⟩,
        ⟨some 1, .mov (.tmp 36), none⟩] [1, 2, 3, 7] none))
    (.region none [] [
      ⟨some 26, .mov (.tmp 7), none⟩,
      ⟨some 27, .bin .add .int (.tmp 26) (.cst (.int .i64 1)), none⟩,
      ⟨some 7, .mov (.tmp 27), none⟩] [1, 2, 3, 7] none))

def c63 : ACode :=
  .seq (.region none [] [
      ⟨some 3, .box 5 (.tmp 0), none⟩,
      ⟨some 6, .mov (.cst (.int .i64 0)), none⟩] [1, 2, 3] none)
    (.seq (.region none [] [
      ⟨some 8, .mov (.tmp 1), none⟩,
      ⟨some 9, .bin .sub .int (.tmp 8) (.cst (.int .i64 1)), none⟩,
      ⟨some 10, .faddr 3 (.tmp 3), none⟩,
      ⟨some 11, .load none (.tmp 10), none⟩,
      ⟨some 12, .len .str (.tmp 11), none⟩,
      ⟨some 13, .bin .quo .int (.tmp 12) (.cst (.int .i64 50)), none⟩,
      ⟨some 14, .bin .sub .int (.tmp 9) (.tmp 13), none⟩,
      ⟨some 1, .mov (.tmp 14), none⟩] [1, 2, 3] none)
    (.seq (.seq (.region none [] [
      ⟨some 15, .mov (.tmp 2), none⟩,
      ⟨some 16, .bin .lss .int (.tmp 15) (.cst (.int .i64 1)), none⟩] [1, 2, 3, 16] none)
    (.cond (.tmp 16) (.seq (.region none [] [
        ⟨some 6, .mov (.cst (.int .i64 (-1))), none⟩] [6] none)
      (.ret))
    (.skip)))
    (.seq (.seq (.region none [] [
      ⟨some 7, .mov (.cst (.int .i64 0)), none⟩] [1, 2, 3, 7] none)
    (.block 0 (.loop l63_0_h l63_0_b)))
    (.seq (.region none [] [
      ⟨some 37, .mov (.tmp 1), none⟩,
      ⟨some 6, .mov (.tmp 37), none⟩] [6] none)
    (.ret)))))

def a63 : AFunc := ⟨3, c63, [.tmp 6]⟩

def an63 : List RAnn := [
  { id := 0, live := [1, 2, 3] },
  { id := 1, live := [1, 2, 3] },
  { id := 2, live := [1, 2, 3, 16] },
  { id := 3, live := [6] },
  { id := 4, live := [1, 2, 3, 7] },
  { id := 5, live := [1, 2, 3, 7, 25], hdr := [1, 2, 3, 7] },
  { id := 7, live := [1, 2, 3, 7] },
  { id := 6, live := [1, 2, 3, 7] },
  { id := 8, live := [6] }]

theorem comp63 : compF Try.prog an63 Try.f63 = some a63 := by kernel_rfl

/- graphdb/graph.letter -/
def c64 : ACode :=
  .seq (.region none [] [
      ⟨some 2, .mov (.cst (.bool false)), none⟩] [0] none)
    (.seq (.region none [] [
      ⟨some 3, .mov (.tmp 0), none⟩,
      ⟨some 4, .bin .geq .int (.tmp 3) (.cst (.int .u8 97)), none⟩,
      ⟨some 5, .mov (.tmp 4), none⟩,
      ⟨some 6, .mov (.tmp 0), some (5, true)⟩,
      ⟨some 7, .bin .leq .int (.tmp 6) (.cst (.int .u8 122)), some (5, true)⟩,
      ⟨some 8, .pick (.tmp 5) (.tmp 7) (.cst (.bool false)), none⟩,
      ⟨some 9, .mov (.tmp 8), none⟩,
      ⟨some 10, .mov (.tmp 0), some (9, false)⟩,
      ⟨some 11, .bin .geq .int (.tmp 10) (.cst (.int .u8 65)), some (9, false)⟩,
      ⟨some 12, .mov (.tmp 11), some (9, false)⟩,
      ⟨some 13, .mov (.tmp 0), some (12, true)⟩,
      ⟨some 14, .bin .leq .int (.tmp 13) (.cst (.int .u8 90)), some (12, true)⟩,
      ⟨some 15, .pick (.tmp 12) (.tmp 14) (.cst (.bool false)), some (9, false)⟩,
      ⟨some 16, .pick (.tmp 9) (.cst (.bool true)) (.tmp 15), none⟩,
      ⟨some 2, .mov (.tmp 16), none⟩] [2] none)
    (.ret))

def a64 : AFunc := ⟨1, c64, [.tmp 2]⟩

def an64 : List RAnn := [
  { id := 0, live := [0] },
  { id := 1, live := [2] }]

theorem comp64 : compF Try.prog an64 Try.f64 = some a64 := by kernel_rfl

/- slices.stableCmpFunc[graphdb/api.Adj] -/
/-- loop 0 of function 65 -/
def l65_0_h : List Nat := [0, 1, 2, 6, 7, 8]

def l65_0_b : ACode :=
  .seq (.seq (.region none [] [
      ⟨some 11, .mov (.tmp 8), none⟩,
      ⟨some 12, .mov (.tmp 1), none⟩,
      ⟨some 13, .bin .leq .int (.tmp 11) (.tmp 12), none⟩] [0, 1, 2, 6, 7, 8, 13] none)
    (.cond (.tmp 13) (.skip)
    (.exit 0)))
    (.block 1 (.seq (.region none [] [
        ⟨some 14, .mov (.tmp 0), none⟩,
        ⟨some 15, .mov (.tmp 7), none⟩,
        ⟨some 16, .mov (.tmp 8), none⟩,
        ⟨some 17, .mov (.tmp 2), none⟩,
        ⟨some 18, .call .share 88 [(.tmp 14), (.tmp 15), (.tmp 16), (.tmp 17)], none⟩] [0, 1, 2, 6, 8] none)
      (.seq (.region none [] [
        ⟨some 19, .mov (.tmp 8), none⟩,
        ⟨some 7, .mov (.tmp 19), none⟩] [0, 1, 2, 6, 7, 8] none)
      (.region none [] [
        ⟨some 20, .mov (.tmp 8), none⟩,
        ⟨some 21, .mov (.tmp 6), none⟩,
        ⟨some 22, .bin .add .int (.tmp 20) (.tmp 21), none⟩,
        ⟨some 8, .mov (.tmp 22), none⟩] [0, 1, 2, 6, 7, 8] none))))

/-- loop 1 of function 65 -/
def l65_1_h : List Nat := [0, 1, 2, 6, 7, 8]

def l65_1_b : ACode :=
  .seq (.seq (.region none [] [
      ⟨some 33, .mov (.tmp 8), none⟩,
      ⟨some 34, .mov (.tmp 1), none⟩,
      ⟨some 35, .bin .leq .int (.tmp 33) (.tmp 34), none⟩] [0, 1, 2, 6, 7, 8, 35] none)
    (.cond (.tmp 35) (.skip)
    (.exit 4)))
    (.block 5 (.seq (.region none [] [
        ⟨some 36, .mov (.tmp 0), none⟩,
        ⟨some 37, .mov (.tmp 7), none⟩,
        ⟨some 38, .mov (.tmp 7), none⟩,
        ⟨some 39, .mov (.tmp 6), none⟩,
        ⟨some 40, .bin .add .int (.tmp 38) (.tmp 39), none⟩,
        ⟨some 41, .mov (.tmp 8), none⟩,
        ⟨some 42, .mov (.tmp 2), none⟩,
        ⟨some 43, .call .share 89 [(.tmp 36), (.tmp 37), (.tmp 40), (.tmp 41), (.tmp 42)], none⟩] [0, 1, 2, 6, 8] none)
      (.seq (.region none [] [
        ⟨some 44, .mov (.tmp 8), none⟩,
        ⟨some 7, .mov (.tmp 44), none⟩] [0, 1, 2, 6, 7, 8] none)
      (.region none [] [
        ⟨some 45, .mov (.tmp 8), none⟩,
        ⟨some 46, .mov (.tmp 6), none⟩,
        ⟨some 47, .bin .mul .int (.cst (.int .i64 2)) (.tmp 46), none⟩,
        ⟨some 48, .bin .add .int (.tmp 45) (.tmp 47), none⟩,
        ⟨some 8, .mov (.tmp 48), none⟩] [0, 1, 2, 6, 7, 8] none))))

/-- loop 2 of function 65 -/
def l65_2_h : List Nat := [0, 1, 2, 6]

def l65_2_b : ACode :=
  .seq (.seq (.region none [] [
      ⟨some 28, .mov (.tmp 6), none⟩,
      ⟨some 29, .mov (.tmp 1), none⟩,
      ⟨some 30, .bin .lss .int (.tmp 28) (.tmp 29), none⟩] [0, 1, 2, 6, 30] none)
    (.cond (.tmp 30) (.skip)
    (.exit 2)))
    (.block 3 (.seq (.region none [] [
        ⟨some 31, .mov (.tmp 6), none⟩,
        ⟨some 32, .bin .mul .int (.cst (.int .i64 2)) (.tmp 31), none⟩,
        ⟨some 7, .mov (.cst (.int .i64 0)), none⟩,
        ⟨some 8, .mov (.tmp 32), none⟩] [0, 1, 2, 6, 7, 8] none)
      (.seq (.block 4 (.loop l65_1_h l65_1_b))
      (.seq (.seq (.region none [] [
        ⟨some 49, .mov (.tmp 7), none⟩,
        ⟨some 50, .mov (.tmp 6), none⟩,
        ⟨some 51, .bin .add .int (.tmp 49) (.tmp 50), none⟩,
        ⟨some 9, .mov (.tmp 51), none⟩] [0, 1, 2, 6, 7, 9] none)
      (.seq (.region none [] [
        ⟨some 52, .mov (.tmp 9), none⟩,
        ⟨some 53, .mov (.tmp 1), none⟩,
        ⟨some 54, .bin .lss .int (.tmp 52) (.tmp 53), none⟩] [0, 1, 2, 6, 7, 9, 54] none)
      (.cond (.tmp 54) (.region none [] [
          ⟨some 55, .mov (.tmp 0), none⟩,
          ⟨some 56, .mov (.tmp 7), none⟩,
          ⟨some 57, .mov (.tmp 9), none⟩,
          ⟨some 58, .mov (.tmp 1), none⟩,
          ⟨some 59, .mov (.tmp 2), none⟩,
          ⟨some 60, .call .share 89 [(.tmp 55), (.tmp 56), (.tmp 57), (.tmp 58), (.tmp 59)], none⟩] [0, 1, 2, 6] none)
      (.skip))))
      (.region none [] [
        ⟨some 61, .mov (.tmp 6), none⟩,
        ⟨some 62, .bin .mul .int (.tmp 61) (.cst (.int .i64 2)), none⟩,
        ⟨some 6, .mov (.tmp 62), none⟩] [0, 1, 2, 6] none)))))

def c65 : ACode :=
  .seq (.region none [] [
      ⟨some 6, .mov (.cst (.int .i64 20)), none⟩] [0, 1, 2, 6] none)
    (.seq (.region none [] [
      ⟨some 10, .mov (.tmp 6), none⟩,
      ⟨some 7, .mov (.cst (.int .i64 0)), none⟩,
      ⟨some 8, .mov (.tmp 10), none⟩] [0, 1, 2, 6, 7, 8] none)
    (.seq (.block 0 (.loop l65_0_h l65_0_b))
    (.seq (.region none [] [
      ⟨some 23, .mov (.tmp 0), none⟩,
      ⟨some 24, .mov (.tmp 7), none⟩,
      ⟨some 25, .mov (.tmp 1), none⟩,
      ⟨some 26, .mov (.tmp 2), none⟩,
      ⟨some 27, .call .share 88 [(.tmp 23), (.tmp 24), (.tmp 25), (.tmp 26)], none⟩] [0, 1, 2, 6] none)
    (.block 2 (.loop l65_2_h l65_2_b)))))

def a65 : AFunc := ⟨3, c65, []⟩

def an65 : List RAnn := [
  { id := 0, live := [0, 1, 2, 6] },
  { id := 1, live := [0, 1, 2, 6, 7, 8] },
  { id := 2, live := [0, 1, 2, 6, 7, 8, 13], hdr := [0, 1, 2, 6, 7, 8] },
  { id := 3, live := [0, 1, 2, 6, 8], ops := [(4, .mode .share)] },
  { id := 4, live := [0, 1, 2, 6, 7, 8] },
  { id := 5, live := [0, 1, 2, 6, 7, 8] },
  { id := 6, live := [0, 1, 2, 6], ops := [(4, .mode .share)] },
  { id := 7, live := [0, 1, 2, 6, 30], hdr := [0, 1, 2, 6] },
  { id := 8, live := [0, 1, 2, 6, 7, 8] },
  { id := 9, live := [0, 1, 2, 6, 7, 8, 35], hdr := [0, 1, 2, 6, 7, 8] },
  { id := 10, live := [0, 1, 2, 6, 8], ops := [(7, .mode .share)] },
  { id := 11, live := [0, 1, 2, 6, 7, 8] },
  { id := 12, live := [0, 1, 2, 6, 7, 8] },
  { id := 13, live := [0, 1, 2, 6, 7, 9] },
  { id := 14, live := [0, 1, 2, 6, 7, 9, 54] },
  { id := 15, live := [0, 1, 2, 6], ops := [(5, .mode .share)] },
  { id := 16, live := [0, 1, 2, 6] }]

theorem comp65 : compF Try.prog an65 Try.f65 = some a65 := by kernel_rfl

/- cmp.isNaN[int] -/
def c66 : ACode :=
  .seq (.region none [] [
      ⟨some 2, .mov (.cst (.bool false)), none⟩] [0] none)
    (.seq (.region none [] [
      ⟨some 3, .mov (.tmp 0), none⟩,
      ⟨some 4, .mov (.tmp 0), none⟩,
      ⟨some 5, .bin .neq .int (.tmp 3) (.tmp 4), none⟩,
      ⟨some 2, .mov (.tmp 5), none⟩] [2] none)
    (.ret))

def a66 : AFunc := ⟨1, c66, [.tmp 2]⟩

def an66 : List RAnn := [
  { id := 0, live := [0] },
  { id := 1, live := [2] }]

theorem comp66 : compF Try.prog an66 Try.f66 = some a66 := by kernel_rfl

/- slices.ContainsFunc[[]string,string] -/
def c67 : ACode :=
  .seq (.region none [] [
      ⟨some 4, .mov (.cst (.bool false)), none⟩] [0, 1] none)
    (.seq (.region none [] [
      ⟨some 5, .mov (.tmp 0), none⟩,
      ⟨some 6, .mov (.tmp 1), none⟩,
      ⟨some 7, .call .pure 90 [(.tmp 5), (.tmp 6)], none⟩,
      ⟨some 8, .bin .geq .int (.tmp 7) (.cst (.int .i64 0)), none⟩,
      ⟨some 4, .mov (.tmp 8), none⟩] [4] none)
    (.ret))

def a67 : AFunc := ⟨2, c67, [.tmp 4]⟩

def an67 : List RAnn := [
  { id := 0, live := [0, 1] },
  { id := 1, live := [4] }]

theorem comp67 : compF Try.prog an67 Try.f67 = some a67 := by kernel_rfl

/- graphdb/graph.unnamed -/
def c68 : ACode :=
  .seq (.region none [] [
      ⟨some 2, .mov (.cst (.bool false)), none⟩] [0] none)
    (.seq (.region none [] [
      ⟨some 3, .mov (.tmp 0), none⟩,
      ⟨some 4, .call .pure 35 [(.tmp 3)], none⟩,
      ⟨some 5, .un .not (.tmp 4), none⟩,
      ⟨some 2, .mov (.tmp 5), none⟩] [2] none)
    (.ret))

def a68 : AFunc := ⟨1, c68, [.tmp 2]⟩

def an68 : List RAnn := [
  { id := 0, live := [0] },
  { id := 1, live := [2] }]

theorem comp68 : compF Try.prog an68 Try.f68 = some a68 := by kernel_rfl

/- graphdb/graph.increasing -/
/-- loop 0 of function 69 -/
def l69_0_h : List Nat := [0, 3]

def l69_0_b : ACode :=
  .seq (.seq (.region none [] [
      ⟨some 4, .mov (.tmp 3), none⟩,
      ⟨some 5, .mov (.tmp 0), none⟩,
      ⟨some 6, .len .slice (.tmp 5), none⟩,
      ⟨some 7, .bin .lss .int (.tmp 4) (.tmp 6), none⟩] [0, 3, 7] none)
    (.cond (.tmp 7) (.skip)
    (.exit 0)))
    (.seq (.block 1 (.seq (.region (some 10) [] [
        ⟨some 10, .mov (.tmp 0), none⟩,
        ⟨some 11, .mov (.tmp 3), none⟩,
        ⟨some 12, .iaddr 1 (.tmp 10) (.tmp 11), none⟩,
        ⟨some 13, .load none (.tmp 12), none⟩,
        ⟨some 14, .mov (.tmp 0), none⟩,
        ⟨some 15, .mov (.tmp 3), none⟩,
        ⟨some 16, .bin .sub .int (.tmp 15) (.cst (.int .i64 1)), none⟩,
        ⟨some 17, .iaddr 1 (.tmp 14) (.tmp 16), none⟩,
        ⟨some 18, .load none (.tmp 17), none⟩,
        ⟨some 19, .bin .leq .str (.tmp 13) (.tmp 18), none⟩] [0, 3, 19] none)
      (.cond (.tmp 19) (.seq (.region none [] [
          ⟨some 2, .mov (.cst (.bool false)), none⟩] [2] none)
        (.ret))
      (.skip))))
    (.region none [] [
      ⟨some 8, .mov (.tmp 3), none⟩,
      ⟨some 9, .bin .add .int (.tmp 8) (.cst (.int .i64 1)), none⟩,
      ⟨some 3, .mov (.tmp 9), none⟩] [0, 3] none))

def c69 : ACode :=
  .seq (.region none [] [
      ⟨some 2, .mov (.cst (.bool false)), none⟩] [0] none)
    (.seq (.seq (.region none [] [
      ⟨some 3, .mov (.cst (.int .i64 1)), none⟩] [0, 3] none)
    (.block 0 (.loop l69_0_h l69_0_b)))
    (.seq (.region none [] [
      ⟨some 2, .mov (.cst (.bool true)), none⟩] [2] none)
    (.ret)))

def a69 : AFunc := ⟨1, c69, [.tmp 2]⟩

def an69 : List RAnn := [
  { id := 0, live := [0] },
  { id := 1, live := [0, 3] },
  { id := 2, live := [0, 3, 7], hdr := [0, 3] },
  { id := 4, head := some 10, live := [0, 3, 19] },
  { id := 5, live := [2] },
  { id := 3, live := [0, 3] },
  { id := 6, live := [2] }]

theorem comp69 : compF Try.prog an69 Try.f69 = some a69 := by kernel_rfl

/- slices.BinarySearchFunc[[]graphdb/api.Node,graphdb/api.Node,int] -/
/-- loop 0 of function 71 -/
def l71_0_h : List Nat := [0, 1, 2, 8, 9, 10]

def l71_0_b : ACode :=
  .seq (.seq (.region none [] [
      ⟨some 15, .mov (.tmp 9), none⟩,
      ⟨some 16, .mov (.tmp 10), none⟩,
      ⟨some 17, .bin .lss .int (.tmp 15) (.tmp 16), none⟩] [0, 1, 2, 8, 9, 10, 17] none)
    (.cond (.tmp 17) (.skip)
    (.exit 0)))
    (.block 1 (.seq (.region none [] [
        ⟨some 18, .mov (.tmp 9), none⟩,
        ⟨some 19, .mov (.tmp 10), none⟩,
        ⟨some 20, .bin .add .int (.tmp 18) (.tmp 19), none⟩,
        ⟨some 21, .conv .u64 (.tmp 20), none⟩,
        ⟨some 22, .bin .shr .int (.tmp 21) (.cst (.int .u64 1)), none⟩,
        ⟨some 23, .conv .i64 (.tmp 22), none⟩,
        ⟨some 11, .mov (.tmp 23), none⟩] [0, 1, 2, 8, 9, 10, 11] none)
      (.seq (.region none [] [
        ⟨some 24, .mov (.tmp 2), none⟩,
        ⟨some 25, .mov (.tmp 0), none⟩,
        ⟨some 26, .mov (.tmp 11), none⟩,
        ⟨some 27, .iaddr 3 (.tmp 25) (.tmp 26), none⟩,
        ⟨some 28, .load (some 3) (.tmp 27), none⟩,
        ⟨some 29, .mov (.tmp 1), none⟩,
        ⟨some 30, .callv .pure (.tmp 24) [(.tmp 28), (.tmp 29)], none⟩,
        ⟨some 31, .bin .lss .int (.tmp 30) (.cst (.int .i64 0)), none⟩] [0, 1, 2, 8, 9, 10, 11, 31] none)
      (.cond (.tmp 31) (.region none [] [
          ⟨some 32, .mov (.tmp 11), none⟩,
          ⟨some 33, .bin .add .int (.tmp 32) (.cst (.int .i64 1)), none⟩,
          ⟨some 9, .mov (.tmp 33), none⟩] [0, 1, 2, 8, 9, 10] none)
      (.region none [] [
          ⟨some 34, .mov (.tmp 11), none⟩,
          ⟨some 10, .mov (.tmp 34), none⟩] [0, 1, 2, 8, 9, 10] none)))))

def c71 : ACode :=
  .seq (.region none [] [
      ⟨some 6, .mov (.cst (.int .i64 0)), none⟩,
      ⟨some 7, .mov (.cst (.bool false)), none⟩] [0, 1, 2] none)
    (.seq (.region none [] [
      ⟨some 12, .mov (.tmp 0), none⟩,
      ⟨some 13, .len .slice (.tmp 12), none⟩,
      ⟨some 8, .mov (.tmp 13), none⟩] [0, 1, 2, 8] none)
    (.seq (.region none [] [
      ⟨some 14, .mov (.tmp 8), none⟩,
      ⟨some 9, .mov (.cst (.int .i64 0)), none⟩,
      ⟨some 10, .mov (.tmp 14), none⟩] [0, 1, 2, 8, 9, 10] none)
    (.seq (.block 0 (.loop l71_0_h l71_0_b))
    (.seq (.region none [] [
      ⟨some 35, .mov (.tmp 9), none⟩,
      ⟨some 36, .mov (.tmp 9), none⟩,
      ⟨some 37, .mov (.tmp 8), none⟩,
      ⟨some 38, .bin .lss .int (.tmp 36) (.tmp 37), none⟩,
      ⟨some 39, .mov (.tmp 38), none⟩,
      ⟨some 40, .mov (.tmp 2), some (39, true)⟩,
      ⟨some 41, .mov (.tmp 0), some (39, true)⟩,
      ⟨some 42, .mov (.tmp 9), some (39, true)⟩,
      ⟨some 43, .iaddr 3 (.tmp 41) (.tmp 42), some (39, true)⟩,
      ⟨some 44, .load (some 3) (.tmp 43), some (39, true)⟩,
      ⟨some 45, .mov (.tmp 1), some (39, true)⟩,
      ⟨some 46, .callv .pure (.tmp 40) [(.tmp 44), (.tmp 45)], some (39, true)⟩,
      ⟨some 47, .bin .eql .int (.tmp 46) (.cst (.int .i64 0)), some (39, true)⟩,
      ⟨some 48, .pick (.tmp 39) (.tmp 47) (.cst (.bool false)), none⟩,
      ⟨some 6, .mov (.tmp 35), none⟩,
      ⟨some 7, .mov (.tmp 48), none⟩] [6, 7] none)
    (.ret)))))

def a71 : AFunc := ⟨3, c71, [.tmp 6, .tmp 7]⟩

def an71 : List RAnn := [
  { id := 0, live := [0, 1, 2] },
  { id := 1, live := [0, 1, 2, 8] },
  { id := 2, live := [0, 1, 2, 8, 9, 10] },
  { id := 3, live := [0, 1, 2, 8, 9, 10, 17], hdr := [0, 1, 2, 8, 9, 10] },
  { id := 4, live := [0, 1, 2, 8, 9, 10, 11] },
  { id := 5, live := [0, 1, 2, 8, 9, 10, 11, 31] },
  { id := 6, live := [0, 1, 2, 8, 9, 10] },
  { id := 7, live := [0, 1, 2, 8, 9, 10] },
  { id := 8, live := [6, 7] }]

theorem comp71 : compF Try.prog an71 Try.f71 = some a71 := by kernel_rfl

/- graphdb/graph.has$1 -/
def c72 : ACode :=
  .seq (.region none [] [
      ⟨some 2, .box 3 (.tmp 0), none⟩,
      ⟨some 4, .mov (.cst (.int .i64 0)), none⟩] [1, 2] none)
    (.seq (.region none [] [
      ⟨some 5, .faddr 0 (.tmp 2), none⟩,
      ⟨some 6, .load none (.tmp 5), none⟩,
      ⟨some 7, .mov (.tmp 1), none⟩,
      ⟨some 8, .call .pure 39 [(.tmp 6), (.tmp 7)], none⟩,
      ⟨some 4, .mov (.tmp 8), none⟩] [4] none)
    (.ret))

def a72 : AFunc := ⟨2, c72, [.tmp 4]⟩

def an72 : List RAnn := [
  { id := 0, live := [1, 2] },
  { id := 1, live := [4] }]

theorem comp72 : compF Try.prog an72 Try.f72 = some a72 := by kernel_rfl

/- slices.Index[[]string,string] -/
/-- loop 0 of function 73 -/
def l73_0_h : List Nat := [0, 1, 7, 8]

def l73_0_b : ACode :=
  .seq (.region none [] [
      ⟨some 9, .bin .lss .int (.tmp 8) (.tmp 7), none⟩] [0, 1, 7, 8, 9] none)
    (.seq (.cond (.tmp 9) (.skip)
    (.exit 0))
    (.seq (.block 1 (.seq (.region none [] [
        ⟨some 10, .mov (.tmp 8), none⟩,
        ⟨some 5, .mov (.tmp 10), none⟩] [0, 1, 5, 7, 8] none)
      (.seq (.region none [] [
        ⟨some 11, .mov (.tmp 1), none⟩,
        ⟨some 12, .mov (.tmp 0), none⟩,
        ⟨some 13, .mov (.tmp 5), none⟩,
        ⟨some 14, .iaddr 1 (.tmp 12) (.tmp 13), none⟩,
        ⟨some 15, .load none (.tmp 14), none⟩,
        ⟨some 16, .bin .eql .str (.tmp 11) (.tmp 15), none⟩] [0, 1, 5, 7, 8, 16] none)
      (.cond (.tmp 16) (.seq (.region none [] [
          ⟨some 17, .mov (.tmp 5), none⟩,
          ⟨some 4, .mov (.tmp 17), none⟩] [4] none)
        (.ret))
      (.skip)))))
    (.region none [] [
      ⟨some 18, .bin .add .int (.tmp 8) (.cst (.int .i64 1)), none⟩,
      ⟨some 8, .mov (.tmp 18), none⟩] [0, 1, 7, 8] none)))

def c73 : ACode :=
  .seq (.region none [] [
      ⟨some 4, .mov (.cst (.int .i64 0)), none⟩] [0, 1] none)
    (.seq (.seq (.region none [] [
      ⟨some 6, .mov (.tmp 0), none⟩,
      ⟨some 7, .len .slice (.tmp 6), none⟩,
      ⟨some 8, .mov (.cst (.int .i64 0)), none⟩] [0, 1, 7, 8] none)
    (.block 0 (.loop l73_0_h l73_0_b)))
    (.seq (.region none [] [
      ⟨some 4, .mov (.cst (.int .i64 (-1))), none⟩] [4] none)
    (.ret)))

def a73 : AFunc := ⟨2, c73, [.tmp 4]⟩

def an73 : List RAnn := [
  { id := 0, live := [0, 1] },
  { id := 1, live := [0, 1, 7, 8] },
  { id := 2, live := [0, 1, 7, 8, 9], hdr := [0, 1, 7, 8] },
  { id := 3, live := [0, 1, 5, 7, 8] },
  { id := 4, live := [0, 1, 5, 7, 8, 16] },
  { id := 5, live := [4] },
  { id := 6, live := [0, 1, 7, 8] },
  { id := 7, live := [4] }]

theorem comp73 : compF Try.prog an73 Try.f73 = some a73 := by kernel_rfl

/- slices.Clone[[]graphdb/api.Prop,graphdb/api.Prop] -/
def c74 : ACode :=
  .seq (.region none [] [
      ⟨some 2, .mov (.cst (.sl false [])), none⟩] [0] none)
    (.seq (.seq (.region none [] [
      ⟨some 3, .mov (.tmp 0), none⟩,
      ⟨some 4, .bin .eql .slice (.tmp 3) (.cst (.sl false [])), none⟩] [0, 4] none)
    (.cond (.tmp 4) (.seq (.region none [] [
        ⟨some 2, .mov (.cst (.sl false [])), none⟩] [2] none)
      (.ret))
    (.skip)))
    (.seq (.region none [] [
      ⟨some 5, .lit true 6 (.agg [.str [], .int .i64 0, .int .i64 0, .int .i64 0, .str [], .sl false []]) 0 [], none⟩,
      ⟨some 6, .mov (.tmp 0), none⟩,
      ⟨some 7, .append 6 80 (.tmp 5) (.tmp 6), none⟩,
      ⟨some 2, .mov (.tmp 7), none⟩] [2] none)
    (.ret)))

def a74 : AFunc := ⟨1, c74, [.tmp 2]⟩

def an74 : List RAnn := [
  { id := 0, live := [0] },
  { id := 1, live := [0, 4] },
  { id := 2, live := [2] },
  { id := 3, live := [2], ops := [(0, .own)] }]

theorem comp74 : compF Try.prog an74 Try.f74 = some a74 := by kernel_rfl

/- graphdb/graphdbref04.valid -/
def c75 : ACode :=
  .seq (.region none [] [
      ⟨some 2, .box 5 (.tmp 0), none⟩,
      ⟨some 4, .mov (.cst (.bool false)), none⟩] [1, 2] none)
    (.seq (.seq (.region none [] [
      ⟨some 5, .faddr 0 (.tmp 2), none⟩,
      ⟨some 6, .load none (.tmp 5), none⟩] [1, 2, 6] none)
    (.block 0 (.seq (.region none [] [
        ⟨some 8, .bin .eql .int (.tmp 6) (.cst (.int .i64 0)), none⟩,
        ⟨some 7, .mov (.tmp 8), none⟩] [1, 2, 6, 7] none)
      (.cond (.tmp 7) (.seq (.region none [] [
          ⟨some 9, .load (some 5) (.tmp 2), none⟩,
          ⟨some 10, .call .pure 92 [(.tmp 9), (.cst (.bool false)), (.cst (.bool false)), (.cst (.bool false)), (.cst (.bool false))], none⟩,
          ⟨some 4, .mov (.tmp 10), none⟩] [4] none)
        (.ret))
      (.seq (.region none [] [
          ⟨some 12, .bin .eql .int (.tmp 6) (.cst (.int .i64 1)), none⟩,
          ⟨some 11, .mov (.tmp 12), none⟩] [1, 2, 6, 11] none)
        (.cond (.tmp 11) (.seq (.region none [] [
            ⟨some 13, .load (some 5) (.tmp 2), none⟩,
            ⟨some 14, .call .pure 92 [(.tmp 13), (.cst (.bool true)), (.cst (.bool false)), (.cst (.bool false)), (.cst (.bool false))], none⟩,
            ⟨some 15, .mov (.tmp 14), none⟩,
            ⟨some 16, .faddr 1 (.tmp 2), some (15, true)⟩,
            ⟨some 17, .load none (.tmp 16), some (15, true)⟩,
            ⟨some 18, .bin .eql .int (.tmp 17) (.cst (.int .i64 0)), some (15, true)⟩,
            ⟨some 19, .mov (.tmp 18), some (15, true)⟩,
            ⟨some 20, .faddr 1 (.tmp 2), some (19, false)⟩,
            ⟨some 21, .load none (.tmp 20), some (19, false)⟩,
            ⟨some 22, .bin .eql .int (.tmp 21) (.cst (.int .i64 1)), some (19, false)⟩,
            ⟨some 23, .pick (.tmp 19) (.cst (.bool true)) (.tmp 22), some (15, true)⟩,
            ⟨some 24, .pick (.tmp 15) (.tmp 23) (.cst (.bool false)), none⟩,
            ⟨some 4, .mov (.tmp 24), none⟩] [4] none)
          (.ret))
        (.seq (.region none [] [
            ⟨some 26, .bin .eql .int (.tmp 6) (.cst (.int .i64 2)), none⟩,
            ⟨some 25, .mov (.tmp 26), none⟩] [1, 2, 6, 25] none)
          (.cond (.tmp 25) (.seq (.region none [] [
              ⟨some 27, .load (some 5) (.tmp 2), none⟩,
              ⟨some 28, .call .pure 92 [(.tmp 27), (.cst (.bool true)), (.cst (.bool false)), (.cst (.bool false)), (.cst (.bool false))], none⟩,
              ⟨some 29, .mov (.tmp 28), none⟩,
              ⟨some 30, .faddr 1 (.tmp 2), some (29, true)⟩,
              ⟨some 31, .load none (.tmp 30), some (29, true)⟩,
              ⟨some 32, .call .pure 93 [(.tmp 31)], some (29, true)⟩,
              ⟨some 33, .pick (.tmp 29) (.tmp 32) (.cst (.bool false)), none⟩,
              ⟨some 4, .mov (.tmp 33), none⟩] [4] none)
            (.ret))
          (.seq (.region none [] [
              ⟨some 35, .bin .eql .int (.tmp 6) (.cst (.int .i64 3)), none⟩,
              ⟨some 34, .mov (.tmp 35), none⟩] [1, 2, 6, 34] none)
            (.cond (.tmp 34) (.seq (.region none [] [
                ⟨some 36, .load (some 5) (.tmp 2), none⟩,
                ⟨some 37, .call .pure 92 [(.tmp 36), (.cst (.bool true)), (.cst (.bool true)), (.cst (.bool false)), (.cst (.bool false))], none⟩,
                ⟨some 38, .mov (.tmp 37), none⟩,
                ⟨some 39, .faddr 2 (.tmp 2), some (38, true)⟩,
                ⟨some 40, .load none (.tmp 39), some (38, true)⟩,
                ⟨some 41, .bin .geq .int (.tmp 40) (.cst (.int .i64 2)), some (38, true)⟩,
                ⟨some 42, .pick (.tmp 38) (.tmp 41) (.cst (.bool false)), none⟩,
                ⟨some 43, .mov (.tmp 42), none⟩,
                ⟨some 44, .faddr 1 (.tmp 2), some (43, true)⟩,
                ⟨some 45, .load none (.tmp 44), some (43, true)⟩,
                ⟨some 46, .faddr 2 (.tmp 2), some (43, true)⟩,
                ⟨some 47, .load none (.tmp 46), some (43, true)⟩,
                ⟨some 48, .build [.int .i64 0, .int .i64 0] [(0, 1, (.tmp 45)), (1, 1, (.tmp 47))], some (43, true)⟩,
                ⟨some 49, .call .pure 78 [(.tmp 48)], some (43, true)⟩,
                ⟨some 50, .pick (.tmp 43) (.tmp 49) (.cst (.bool false)), none⟩,
                ⟨some 4, .mov (.tmp 50), none⟩] [4] none)
              (.ret))
            (.seq (.region none [] [
                ⟨some 52, .bin .eql .int (.tmp 6) (.cst (.int .i64 4)), none⟩,
                ⟨some 51, .mov (.tmp 52), none⟩] [1, 2, 6, 51] none)
              (.cond (.tmp 51) (.seq (.region none [] [
                  ⟨some 53, .load (some 5) (.tmp 2), none⟩,
                  ⟨some 54, .call .pure 92 [(.tmp 53), (.cst (.bool false)), (.cst (.bool false)), (.cst (.bool true)), (.cst (.bool false))], none⟩,
                  ⟨some 55, .mov (.tmp 54), none⟩,
                  ⟨some 56, .faddr 3 (.tmp 2), some (55, true)⟩,
                  ⟨some 57, .load none (.tmp 56), some (55, true)⟩,
                  ⟨some 58, .call .pure 94 [(.tmp 57)], some (55, true)⟩,
                  ⟨some 59, .pick (.tmp 55) (.tmp 58) (.cst (.bool false)), none⟩,
                  ⟨some 4, .mov (.tmp 59), none⟩] [4] none)
                (.ret))
              (.seq (.seq (.region none [] [
                  ⟨some 61, .bin .eql .int (.tmp 6) (.cst (.int .i64 5)), none⟩,
                  ⟨some 60, .mov (.tmp 61), none⟩] [1, 2, 6, 60] none)
                (.cond (.tmp 60) (.skip)
                (.region none [] [
                    ⟨some 62, .bin .eql .int (.tmp 6) (.cst (.int .i64 6)), none⟩,
                    ⟨some 60, .mov (.tmp 62), none⟩] [1, 2, 6, 60] none)))
                (.cond (.tmp 60) (.seq (.region none [] [
                    ⟨some 63, .load (some 5) (.tmp 2), none⟩,
                    ⟨some 64, .call .pure 92 [(.tmp 63), (.cst (.bool true)), (.cst (.bool false)), (.cst (.bool false)), (.cst (.bool false))], none⟩,
                    ⟨some 65, .mov (.tmp 64), none⟩,
                    ⟨some 66, .faddr 1 (.tmp 2), some (65, true)⟩,
                    ⟨some 67, .load none (.tmp 66), some (65, true)⟩,
                    ⟨some 68, .bin .geq .int (.tmp 67) (.cst (.int .i64 1)), some (65, true)⟩,
                    ⟨some 69, .pick (.tmp 65) (.tmp 68) (.cst (.bool false)), none⟩,
                    ⟨some 70, .mov (.tmp 69), none⟩,
                    ⟨some 71, .faddr 1 (.tmp 2), some (70, true)⟩,
                    ⟨some 72, .load none (.tmp 71), some (70, true)⟩,
                    ⟨some 73, .bin .leq .int (.tmp 72) (.cst (.int .i64 1000000)), some (70, true)⟩,
                    ⟨some 74, .pick (.tmp 70) (.tmp 73) (.cst (.bool false)), none⟩,
                    ⟨some 4, .mov (.tmp 74), none⟩] [4] none)
                  (.ret))
                (.seq (.region none [] [
                    ⟨some 76, .bin .eql .int (.tmp 6) (.cst (.int .i64 7)), none⟩,
                    ⟨some 75, .mov (.tmp 76), none⟩] [1, 2, 6, 75] none)
                  (.cond (.tmp 75) (.seq (.region none [] [
                      ⟨some 77, .load (some 5) (.tmp 2), none⟩,
                      ⟨some 78, .call .pure 92 [(.tmp 77), (.cst (.bool false)), (.cst (.bool false)), (.cst (.bool false)), (.cst (.bool true))], none⟩,
                      ⟨some 79, .mov (.tmp 78), none⟩,
                      ⟨some 80, .faddr 4 (.tmp 2), some (79, true)⟩,
                      ⟨some 81, .load none (.tmp 80), some (79, true)⟩,
                      ⟨some 82, .call .pure 95 [(.tmp 81)], some (79, true)⟩,
                      ⟨some 83, .pick (.tmp 79) (.tmp 82) (.cst (.bool false)), none⟩,
                      ⟨some 4, .mov (.tmp 83), none⟩] [4] none)
                    (.ret))
                  (.seq (.region none [] [
                      ⟨some 85, .bin .eql .int (.tmp 6) (.cst (.int .i64 8)), none⟩,
                      ⟨some 84, .mov (.tmp 85), none⟩] [1, 2, 84] none)
                    (.cond (.tmp 84) (.seq (.region none [] [
                        ⟨some 86, .load (some 5) (.tmp 2), none⟩,
                        ⟨some 87, .call .pure 92 [(.tmp 86), (.cst (.bool false)), (.cst (.bool false)), (.cst (.bool false)), (.cst (.bool true))], none⟩,
                        ⟨some 88, .mov (.tmp 87), none⟩,
                        ⟨some 89, .faddr 4 (.tmp 2), some (88, true)⟩,
                        ⟨some 90, .load none (.tmp 89), some (88, true)⟩,
                        ⟨some 91, .mov (.tmp 1), some (88, true)⟩,
                        ⟨some 92, .call .pure 96 [(.tmp 90), (.tmp 91)], some (88, true)⟩,
                        ⟨some 93, .pick (.tmp 88) (.tmp 92) (.cst (.bool false)), none⟩,
                        ⟨some 4, .mov (.tmp 93), none⟩] [4] none)
                      (.ret))
                    (.skip)))))))))))))))))))
    (.seq (.region none [] [
      ⟨some 4, .mov (.cst (.bool false)), none⟩] [4] none)
    (.ret)))

def a75 : AFunc := ⟨2, c75, [.tmp 4]⟩

def an75 : List RAnn := [
  { id := 0, live := [1, 2] },
  { id := 1, live := [1, 2, 6] },
  { id := 2, live := [1, 2, 6, 7] },
  { id := 3, live := [4] },
  { id := 4, live := [1, 2, 6, 11] },
  { id := 5, live := [4] },
  { id := 6, live := [1, 2, 6, 25] },
  { id := 7, live := [4] },
  { id := 8, live := [1, 2, 6, 34] },
  { id := 9, live := [4] },
  { id := 10, live := [1, 2, 6, 51] },
  { id := 11, live := [4] },
  { id := 12, live := [1, 2, 6, 60] },
  { id := 13, live := [1, 2, 6, 60] },
  { id := 14, live := [4] },
  { id := 15, live := [1, 2, 6, 75] },
  { id := 16, live := [4] },
  { id := 17, live := [1, 2, 84] },
  { id := 18, live := [4] },
  { id := 19, live := [4] }]

theorem comp75 : compF Try.prog an75 Try.f75 = some a75 := by kernel_rfl

/- graphdb/graphdbref04.strs -/
def c76 : ACode :=
  .seq (.region none [] [
      ⟨some 4, .mov (.cst (.int .i64 0)), none⟩] [0, 1] none)
    (.seq (.seq (.region none [] [
      ⟨some 5, .mov (.tmp 0), none⟩,
      ⟨some 6, .mov (.tmp 1), none⟩,
      ⟨some 7, .bin .lss .str (.tmp 5) (.tmp 6), none⟩] [0, 1, 7] none)
    (.cond (.tmp 7) (.seq (.region none [] [
        ⟨some 4, .mov (.cst (.int .i64 (-1))), none⟩] [4] none)
      (.ret))
    (.skip)))
    (.seq (.seq (.region none [] [
      ⟨some 8, .mov (.tmp 0), none⟩,
      ⟨some 9, .mov (.tmp 1), none⟩,
      ⟨some 10, .bin .gtr .str (.tmp 8) (.tmp 9), none⟩] [10] none)
    (.cond (.tmp 10) (.seq (.region none [] [
        ⟨some 4, .mov (.cst (.int .i64 1)), none⟩] [4] none)
      (.ret))
    (.skip)))
    (.seq (.region none [] [
      ⟨some 4, .mov (.cst (.int .i64 0)), none⟩] [4] none)
    (.ret))))

def a76 : AFunc := ⟨2, c76, [.tmp 4]⟩

def an76 : List RAnn := [
  { id := 0, live := [0, 1] },
  { id := 1, live := [0, 1, 7] },
  { id := 2, live := [4] },
  { id := 3, live := [10] },
  { id := 4, live := [4] },
  { id := 5, live := [4] }]

theorem comp76 : compF Try.prog an76 Try.f76 = some a76 := by kernel_rfl

/- graphdb/graphdbref04.lists -/
/-- loop 0 of function 77 -/
def l77_0_h : List Nat := [0, 1, 5]

def l77_0_b : ACode :=
  .seq (.seq (.region none [] [
      ⟨some 7, .mov (.tmp 5), none⟩,
      ⟨some 8, .mov (.tmp 0), none⟩,
      ⟨some 9, .len .slice (.tmp 8), none⟩,
      ⟨some 10, .bin .lss .int (.tmp 7) (.tmp 9), none⟩,
      ⟨some 11, .mov (.tmp 10), none⟩,
      ⟨some 12, .mov (.tmp 5), some (11, true)⟩,
      ⟨some 13, .mov (.tmp 1), some (11, true)⟩,
      ⟨some 14, .len .slice (.tmp 13), some (11, true)⟩,
      ⟨some 15, .bin .lss .int (.tmp 12) (.tmp 14), some (11, true)⟩,
      ⟨some 16, .pick (.tmp 11) (.tmp 15) (.cst (.bool false)), none⟩] [0, 1, 5, 16] none)
    (.cond (.tmp 16) (.skip)
    (.exit 0)))
    (.seq (.block 1 (.seq (.region (some 10) [] [
        ⟨some 19, .mov (.tmp 0), none⟩,
        ⟨some 20, .mov (.tmp 5), none⟩,
        ⟨some 21, .iaddr 5 (.tmp 19) (.tmp 20), none⟩,
        ⟨some 22, .load (some 5) (.tmp 21), none⟩,
        ⟨some 23, .mov (.tmp 1), none⟩,
        ⟨some 24, .mov (.tmp 5), none⟩,
        ⟨some 25, .iaddr 5 (.tmp 23) (.tmp 24), none⟩,
        ⟨some 26, .load (some 5) (.tmp 25), none⟩,
        ⟨some 27, .call .pure 23 [(.tmp 22), (.tmp 26)], none⟩,
        ⟨some 6, .mov (.tmp 27), none⟩] [0, 1, 5, 6] none)
      (.seq (.region none [] [
        ⟨some 28, .mov (.tmp 6), none⟩,
        ⟨some 29, .bin .neq .int (.tmp 28) (.cst (.int .i64 0)), none⟩] [0, 1, 5, 6, 29] none)
      (.cond (.tmp 29) (.seq (.region none [] [
          ⟨some 30, .mov (.tmp 6), none⟩,
          ⟨some 4, .mov (.tmp 30), none⟩] [4] none)
        (.ret))
      (.skip)))))
    (.region none [] [
      ⟨some 17, .mov (.tmp 5), none⟩,
      ⟨some 18, .bin .add .int (.tmp 17) (.cst (.int .i64 1)), none⟩,
      ⟨some 5, .mov (.tmp 18), none⟩] [0, 1, 5] none))

def c77 : ACode :=
  .seq (.region none [] [
      ⟨some 4, .mov (.cst (.int .i64 0)), none⟩] [0, 1] none)
    (.seq (.seq (.region none [] [
      ⟨some 5, .mov (.cst (.int .i64 0)), none⟩] [0, 1, 5] none)
    (.block 0 (.loop l77_0_h l77_0_b)))
    (.seq (.region none [] [
      ⟨some 31, .mov (.tmp 0), none⟩,
      ⟨some 32, .len .slice (.tmp 31), none⟩,
      ⟨some 33, .mov (.tmp 1), none⟩,
      ⟨some 34, .len .slice (.tmp 33), none⟩,
      ⟨some 35, .call .pure 52 [(.tmp 32), (.tmp 34)], none⟩,
      ⟨some 4, .mov (.tmp 35), none⟩] [4] none)
    (.ret)))

def a77 : AFunc := ⟨2, c77, [.tmp 4]⟩

def an77 : List RAnn := [
  { id := 0, live := [0, 1] },
  { id := 1, live := [0, 1, 5] },
  { id := 2, live := [0, 1, 5, 16], hdr := [0, 1, 5] },
  { id := 4, head := some 10, live := [0, 1, 5, 6] },
  { id := 5, live := [0, 1, 5, 6, 29] },
  { id := 6, live := [4] },
  { id := 3, live := [0, 1, 5] },
  { id := 7, live := [4] }]

theorem comp77 : compF Try.prog an77 Try.f77 = some a77 := by kernel_rfl

/- graphdb/graphdbref03.Valid -/
def c78 : ACode :=
  .seq (.region none [] [
      ⟨some 1, .box 2 (.tmp 0), none⟩,
      ⟨some 2, .mov (.cst (.bool false)), none⟩] [1] none)
    (.seq (.region (some 28) [] [
      ⟨some 3, .faddr 1 (.tmp 1), none⟩,
      ⟨some 4, .load none (.tmp 3), none⟩,
      ⟨some 5, .bin .geq .int (.tmp 4) (.cst (.int .i64 1)), none⟩,
      ⟨some 6, .mov (.tmp 5), none⟩,
      ⟨some 7, .faddr 1 (.tmp 1), some (6, true)⟩,
      ⟨some 8, .load none (.tmp 7), some (6, true)⟩,
      ⟨some 9, .bin .leq .int (.tmp 8) (.cst (.int .i64 1000000000000000)), some (6, true)⟩,
      ⟨some 10, .pick (.tmp 6) (.tmp 9) (.cst (.bool false)), none⟩,
      ⟨some 11, .mov (.tmp 10), none⟩,
      ⟨some 12, .faddr 0 (.tmp 1), some (11, true)⟩,
      ⟨some 13, .load none (.tmp 12), some (11, true)⟩,
      ⟨some 14, .bin .geq .int (.tmp 13) (.cst (.int .i64 (-1000000000000000))), some (11, true)⟩,
      ⟨some 15, .pick (.tmp 11) (.tmp 14) (.cst (.bool false)), none⟩,
      ⟨some 16, .mov (.tmp 15), none⟩,
      ⟨some 17, .faddr 0 (.tmp 1), some (16, true)⟩,
      ⟨some 18, .load none (.tmp 17), some (16, true)⟩,
      ⟨some 19, .bin .leq .int (.tmp 18) (.cst (.int .i64 1000000000000000)), some (16, true)⟩,
      ⟨some 20, .pick (.tmp 16) (.tmp 19) (.cst (.bool false)), none⟩,
      ⟨some 21, .mov (.tmp 20), none⟩,
      ⟨some 22, .faddr 0 (.tmp 1), some (21, true)⟩,
      ⟨some 23, .load none (.tmp 22), some (21, true)⟩,
      ⟨some 24, .call .pure 82 [(.tmp 23)], some (21, true)⟩,
      ⟨some 25, .faddr 1 (.tmp 1), some (21, true)⟩,
      ⟨some 26, .load none (.tmp 25), some (21, true)⟩,
      ⟨some 27, .call .pure 97 [(.tmp 24), (.tmp 26)], some (21, true)⟩,
      ⟨some 28, .bin .eql .int (.tmp 27) (.cst (.int .i64 1)), some (21, true)⟩,
      ⟨some 29, .pick (.tmp 21) (.tmp 28) (.cst (.bool false)), none⟩,
      ⟨some 2, .mov (.tmp 29), none⟩] [2] none)
    (.ret))

def a78 : AFunc := ⟨1, c78, [.tmp 2]⟩

def an78 : List RAnn := [
  { id := 0, live := [1] },
  { id := 1, head := some 28, live := [2] }]

theorem comp78 : compF Try.prog an78 Try.f78 = some a78 := by kernel_rfl

/- graphdb/graphdbref03.sum -/
def c79 : ACode :=
  .seq (.region none [] [
      ⟨some 8, .mov (.cst (.int .i64 0)), none⟩,
      ⟨some 9, .mov (.cst (.sl false [])), none⟩] [0, 1, 2, 3] none)
    (.seq (.seq (.region none [] [
      ⟨some 11, .mov (.tmp 0), none⟩,
      ⟨some 12, .mov (.tmp 2), none⟩,
      ⟨some 13, .bin .eql .int (.tmp 11) (.tmp 12), none⟩,
      ⟨some 14, .mov (.tmp 13), none⟩,
      ⟨some 15, .mov (.tmp 2), some (14, false)⟩,
      ⟨some 16, .bin .eql .int (.tmp 15) (.cst (.int .i64 0)), some (14, false)⟩,
      ⟨some 17, .pick (.tmp 14) (.cst (.bool true)) (.tmp 16), none⟩] [0, 1, 2, 3, 17] none)
    (.cond (.tmp 17) (.seq (.region none [] [
        ⟨some 18, .mov (.tmp 0), none⟩,
        ⟨some 19, .mov (.tmp 1), none⟩,
        ⟨some 20, .mov (.tmp 3), none⟩,
        ⟨some 21, .call .pure 98 [(.tmp 19), (.tmp 20)], none⟩,
        ⟨some 8, .mov (.tmp 18), none⟩,
        ⟨some 9, .mov (.tmp 21), none⟩] [8, 9] none)
      (.ret))
    (.skip)))
    (.seq (.seq (.region none [] [
      ⟨some 22, .mov (.tmp 0), none⟩,
      ⟨some 23, .bin .eql .int (.tmp 22) (.cst (.int .i64 0)), none⟩] [0, 1, 2, 3, 23] none)
    (.cond (.tmp 23) (.seq (.region none [] [
        ⟨some 24, .mov (.tmp 2), none⟩,
        ⟨some 25, .mov (.tmp 3), none⟩,
        ⟨some 8, .mov (.tmp 24), none⟩,
        ⟨some 9, .mov (.tmp 25), none⟩] [8, 9] none)
      (.ret))
    (.skip)))
    (.seq (.region none [] [
      ⟨some 26, .mov (.tmp 1), none⟩,
      ⟨some 27, .mov (.tmp 3), none⟩,
      ⟨some 28, .call .pure 99 [(.tmp 26), (.tmp 27)], none⟩,
      ⟨some 10, .mov (.tmp 28), none⟩] [0, 1, 2, 3, 10] none)
    (.seq (.seq (.region none [] [
      ⟨some 29, .mov (.tmp 10), none⟩,
      ⟨some 30, .bin .eql .int (.tmp 29) (.cst (.int .i64 0)), none⟩] [0, 1, 2, 3, 10, 30] none)
    (.cond (.tmp 30) (.seq (.par 2 [(0, 1)] [] [
        ⟨some 31, .mkslice 1 8 (.int .i64 0) (.cst (.int .i64 14)) (.cst (.int .i64 14)), none⟩,
        ⟨some 32, .mkslice 1 8 (.int .i64 0) (.cst (.int .i64 14)) (.cst (.int .i64 14)), none⟩,
        ⟨some 33, .call .share 98 [(.tmp 31), (.tmp 32)], none⟩,
        ⟨some 8, .mov (.cst (.int .i64 0)), none⟩,
        ⟨some 9, .mov (.tmp 33), none⟩] [8, 9] none)
      (.ret))
    (.skip)))
    (.seq (.seq (.region none [] [
      ⟨some 34, .mov (.tmp 10), none⟩,
      ⟨some 35, .bin .gtr .int (.tmp 34) (.cst (.int .i64 0)), none⟩] [0, 1, 2, 3, 35] none)
    (.cond (.tmp 35) (.seq (.region none [] [
        ⟨some 36, .mov (.tmp 0), none⟩,
        ⟨some 37, .mov (.tmp 1), none⟩,
        ⟨some 38, .mov (.tmp 3), none⟩,
        ⟨some 39, .call .pure 100 [(.tmp 37), (.tmp 38)], none⟩,
        ⟨some 8, .mov (.tmp 36), none⟩,
        ⟨some 9, .mov (.tmp 39), none⟩] [8, 9] none)
      (.ret))
    (.skip)))
    (.seq (.region none [] [
      ⟨some 40, .mov (.tmp 2), none⟩,
      ⟨some 41, .mov (.tmp 3), none⟩,
      ⟨some 42, .mov (.tmp 1), none⟩,
      ⟨some 43, .call .pure 100 [(.tmp 41), (.tmp 42)], none⟩,
      ⟨some 8, .mov (.tmp 40), none⟩,
      ⟨some 9, .mov (.tmp 43), none⟩] [8, 9] none)
    (.ret)))))))

def a79 : AFunc := ⟨4, c79, [.tmp 8, .tmp 9]⟩

def an79 : List RAnn := [
  { id := 0, live := [0, 1, 2, 3] },
  { id := 1, live := [0, 1, 2, 3, 17] },
  { id := 2, live := [8, 9] },
  { id := 3, live := [0, 1, 2, 3, 23] },
  { id := 4, live := [8, 9] },
  { id := 5, live := [0, 1, 2, 3, 10] },
  { id := 6, live := [0, 1, 2, 3, 10, 30] },
  { id := 7, head := some 2, live := [8, 9], ops := [(2, .mode .share)], par := true },
  { id := 8, live := [0, 1, 2, 3, 35] },
  { id := 9, live := [8, 9] },
  { id := 10, live := [8, 9] }]

theorem comp79 : compF Try.prog an79 Try.f79 = some a79 := by kernel_rfl

/- graphdb/graphdbref03.sign -/
def c80 : ACode :=
  .seq (.region none [] [
      ⟨some 2, .mov (.cst (.int .i64 0)), none⟩] [0] none)
    (.seq (.seq (.region none [] [
      ⟨some 3, .mov (.tmp 0), none⟩,
      ⟨some 4, .bin .lss .int (.tmp 3) (.cst (.int .i64 0)), none⟩] [0, 4] none)
    (.cond (.tmp 4) (.seq (.region none [] [
        ⟨some 2, .mov (.cst (.int .i64 (-1))), none⟩] [2] none)
      (.ret))
    (.skip)))
    (.seq (.seq (.region none [] [
      ⟨some 5, .mov (.tmp 0), none⟩,
      ⟨some 6, .bin .gtr .int (.tmp 5) (.cst (.int .i64 0)), none⟩] [6] none)
    (.cond (.tmp 6) (.seq (.region none [] [
        ⟨some 2, .mov (.cst (.int .i64 1)), none⟩] [2] none)
      (.ret))
    (.skip)))
    (.seq (.region none [] [
      ⟨some 2, .mov (.cst (.int .i64 0)), none⟩] [2] none)
    (.ret))))

def a80 : AFunc := ⟨1, c80, [.tmp 2]⟩

def an80 : List RAnn := [
  { id := 0, live := [0] },
  { id := 1, live := [0, 4] },
  { id := 2, live := [2] },
  { id := 3, live := [6] },
  { id := 4, live := [2] },
  { id := 5, live := [2] }]

theorem comp80 : compF Try.prog an80 Try.f80 = some a80 := by kernel_rfl

/- graphdb/graphdbref03.times -/
/-- loop 0 of function 81 -/
def l81_0_h : List Nat := [0, 1, 5, 6, 7, 8, 9, 10]

def l81_0_b : ACode :=
  .seq (.seq (.region none [] [
      ⟨some 22, .mov (.tmp 8), none⟩,
      ⟨some 23, .bin .gtr .int (.tmp 22) (.cst (.int .i64 0)), none⟩,
      ⟨some 24, .mov (.tmp 23), none⟩,
      ⟨some 25, .mov (.tmp 9), some (24, false)⟩,
      ⟨some 26, .bin .gtr .int (.tmp 25) (.cst (.int .i64 0)), some (24, false)⟩,
      ⟨some 27, .pick (.tmp 24) (.cst (.bool true)) (.tmp 26), none⟩] [0, 1, 5, 6, 7, 8, 9, 10, 27] none)
    (.cond (.tmp 27) (.skip)
    (.exit 2)))
    (.seq (.block 3 (.seq (.region none [] [
        ⟨some 30, .mov (.tmp 9), none⟩,
        ⟨some 31, .mov (.tmp 5), none⟩,
        ⟨some 32, .mov (.tmp 10), none⟩,
        ⟨some 33, .iaddr 1 (.tmp 31) (.tmp 32), none⟩,
        ⟨some 34, .load none (.tmp 33), none⟩,
        ⟨some 35, .bin .add .int (.tmp 30) (.tmp 34), none⟩,
        ⟨some 36, .mov (.tmp 7), none⟩,
        ⟨some 37, .mov (.tmp 8), none⟩,
        ⟨some 38, .bin .rem .int (.tmp 37) (.cst (.int .i64 1000)), none⟩,
        ⟨some 39, .bin .mul .int (.tmp 36) (.tmp 38), none⟩,
        ⟨some 40, .bin .add .int (.tmp 35) (.tmp 39), none⟩,
        ⟨some 9, .mov (.tmp 40), none⟩] [0, 1, 5, 6, 7, 8, 9, 10] none)
      (.seq (.region none [] [
        ⟨some 41, .mov (.tmp 8), none⟩,
        ⟨some 42, .bin .quo .int (.tmp 41) (.cst (.int .i64 1000)), none⟩,
        ⟨some 8, .mov (.tmp 42), none⟩] [0, 1, 5, 6, 7, 8, 9, 10] none)
      (.seq (.region none [] [
        ⟨some 43, .mov (.tmp 5), none⟩,
        ⟨some 44, .mov (.tmp 10), none⟩,
        ⟨some 45, .mov (.tmp 9), none⟩,
        ⟨some 46, .bin .rem .int (.tmp 45) (.cst (.int .i64 1000)), none⟩,
        ⟨some 47, .iaddr 1 (.tmp 43) (.tmp 44), none⟩,
        ⟨none, .store 1 (.tmp 47) (.tmp 46), none⟩] [0, 1, 5, 6, 7, 8, 9, 10] none)
      (.region none [] [
        ⟨some 48, .mov (.tmp 9), none⟩,
        ⟨some 49, .bin .quo .int (.tmp 48) (.cst (.int .i64 1000)), none⟩,
        ⟨some 9, .mov (.tmp 49), none⟩] [0, 1, 5, 6, 7, 8, 9, 10] none)))))
    (.region none [] [
      ⟨some 28, .mov (.tmp 10), none⟩,
      ⟨some 29, .bin .add .int (.tmp 28) (.cst (.int .i64 1)), none⟩,
      ⟨some 10, .mov (.tmp 29), none⟩] [0, 1, 5, 6, 7, 8, 9, 10] none))

/-- loop 1 of function 81 -/
def l81_1_h : List Nat := [0, 1, 5, 6]

def l81_1_b : ACode :=
  .seq (.seq (.region none [] [
      ⟨some 12, .mov (.tmp 0), none⟩,
      ⟨some 13, .bin .gtr .int (.tmp 12) (.cst (.int .i64 0)), none⟩] [0, 1, 5, 6, 13] none)
    (.cond (.tmp 13) (.skip)
    (.exit 0)))
    (.seq (.block 1 (.seq (.region none [] [
        ⟨some 16, .mov (.tmp 0), none⟩,
        ⟨some 17, .bin .rem .int (.tmp 16) (.cst (.int .i64 1000)), none⟩,
        ⟨some 7, .mov (.tmp 17), none⟩] [0, 1, 5, 6, 7] none)
      (.seq (.region none [] [
        ⟨some 18, .mov (.tmp 0), none⟩,
        ⟨some 19, .bin .quo .int (.tmp 18) (.cst (.int .i64 1000)), none⟩,
        ⟨some 0, .mov (.tmp 19), none⟩] [0, 1, 5, 6, 7] none)
      (.seq (.region none [] [
        ⟨some 20, .mov (.tmp 1), none⟩,
        ⟨some 8, .mov (.tmp 20), none⟩] [0, 1, 5, 6, 7, 8] none)
      (.seq (.region none [] [
        ⟨some 9, .mov (.cst (.int .i64 0)), none⟩] [0, 1, 5, 6, 7, 8, 9] none)
      (.seq (.region none [] [
        ⟨some 21, .mov (.tmp 6), none⟩,
        ⟨some 10, .mov (.tmp 21), none⟩] [0, 1, 5, 6, 7, 8, 9, 10] none)
      (.block 2 (.loop l81_0_h l81_0_b))))))))
    (.region none [] [
      ⟨some 14, .mov (.tmp 6), none⟩,
      ⟨some 15, .bin .add .int (.tmp 14) (.cst (.int .i64 1)), none⟩,
      ⟨some 6, .mov (.tmp 15), none⟩] [0, 1, 5, 6] none))

def c81 : ACode :=
  .seq (.region none [] [
      ⟨some 4, .mov (.cst (.sl false [])), none⟩] [0, 1] none)
    (.seq (.region none [] [
      ⟨some 11, .mkslice 1 8 (.int .i64 0) (.cst (.int .i64 14)) (.cst (.int .i64 14)), none⟩,
      ⟨some 5, .mov (.tmp 11), none⟩] [0, 1, 5] none)
    (.seq (.seq (.region none [] [
      ⟨some 6, .mov (.cst (.int .i64 0)), none⟩] [0, 1, 5, 6] none)
    (.block 0 (.loop l81_1_h l81_1_b)))
    (.seq (.region none [] [
      ⟨some 50, .mov (.tmp 5), none⟩,
      ⟨some 4, .mov (.tmp 50), none⟩] [4] none)
    (.ret))))

def a81 : AFunc := ⟨2, c81, [.tmp 4]⟩

def an81 : List RAnn := [
  { id := 0, live := [0, 1] },
  { id := 1, live := [0, 1, 5] },
  { id := 2, live := [0, 1, 5, 6] },
  { id := 3, live := [0, 1, 5, 6, 13], hdr := [0, 1, 5, 6] },
  { id := 5, live := [0, 1, 5, 6, 7] },
  { id := 6, live := [0, 1, 5, 6, 7] },
  { id := 7, live := [0, 1, 5, 6, 7, 8] },
  { id := 8, live := [0, 1, 5, 6, 7, 8, 9] },
  { id := 9, live := [0, 1, 5, 6, 7, 8, 9, 10] },
  { id := 10, live := [0, 1, 5, 6, 7, 8, 9, 10, 27], hdr := [0, 1, 5, 6, 7, 8, 9, 10] },
  { id := 12, live := [0, 1, 5, 6, 7, 8, 9, 10] },
  { id := 13, live := [0, 1, 5, 6, 7, 8, 9, 10] },
  { id := 14, live := [0, 1, 5, 6, 7, 8, 9, 10] },
  { id := 15, live := [0, 1, 5, 6, 7, 8, 9, 10] },
  { id := 11, live := [0, 1, 5, 6, 7, 8, 9, 10] },
  { id := 4, live := [0, 1, 5, 6] },
  { id := 16, live := [4] }]

theorem comp81 : compF Try.prog an81 Try.f81 = some a81 := by kernel_rfl

/- graphdb/graphdbref03.size -/
def c82 : ACode :=
  .seq (.region none [] [
      ⟨some 2, .mov (.cst (.int .i64 0)), none⟩] [0] none)
    (.seq (.seq (.region none [] [
      ⟨some 3, .mov (.tmp 0), none⟩,
      ⟨some 4, .bin .lss .int (.tmp 3) (.cst (.int .i64 0)), none⟩] [0, 4] none)
    (.cond (.tmp 4) (.seq (.region none [] [
        ⟨some 5, .mov (.tmp 0), none⟩,
        ⟨some 6, .un .neg (.tmp 5), none⟩,
        ⟨some 2, .mov (.tmp 6), none⟩] [2] none)
      (.ret))
    (.skip)))
    (.seq (.region none [] [
      ⟨some 7, .mov (.tmp 0), none⟩,
      ⟨some 2, .mov (.tmp 7), none⟩] [2] none)
    (.ret)))

def a82 : AFunc := ⟨1, c82, [.tmp 2]⟩

def an82 : List RAnn := [
  { id := 0, live := [0] },
  { id := 1, live := [0, 4] },
  { id := 2, live := [2] },
  { id := 3, live := [2] }]

theorem comp82 : compF Try.prog an82 Try.f82 = some a82 := by kernel_rfl

/- slices.Clone[[]graphdb/api.Value,graphdb/api.Value] -/
def c83 : ACode :=
  .seq (.region none [] [
      ⟨some 2, .mov (.cst (.sl false [])), none⟩] [0] none)
    (.seq (.seq (.region none [] [
      ⟨some 3, .mov (.tmp 0), none⟩,
      ⟨some 4, .bin .eql .slice (.tmp 3) (.cst (.sl false [])), none⟩] [0, 4] none)
    (.cond (.tmp 4) (.seq (.region none [] [
        ⟨some 2, .mov (.cst (.sl false [])), none⟩] [2] none)
      (.ret))
    (.skip)))
    (.seq (.region none [] [
      ⟨some 5, .lit true 5 (.agg [.int .i64 0, .int .i64 0, .int .i64 0, .str [], .sl false []]) 0 [], none⟩,
      ⟨some 6, .mov (.tmp 0), none⟩,
      ⟨some 7, .append 5 64 (.tmp 5) (.tmp 6), none⟩,
      ⟨some 2, .mov (.tmp 7), none⟩] [2] none)
    (.ret)))

def a83 : AFunc := ⟨1, c83, [.tmp 2]⟩

def an83 : List RAnn := [
  { id := 0, live := [0] },
  { id := 1, live := [0, 4] },
  { id := 2, live := [2] },
  { id := 3, live := [2], ops := [(0, .own)] }]

theorem comp83 : compF Try.prog an83 Try.f83 = some a83 := by kernel_rfl

/- slices.insertionSortCmpFunc[graphdb/api.Adj] -/
/-- loop 0 of function 88 -/
def l88_0_h : List Nat := [0, 1, 2, 3, 8, 9]

def l88_0_b : ACode :=
  .seq (.seq (.region (some 17) [] [
      ⟨some 18, .mov (.tmp 9), none⟩,
      ⟨some 19, .mov (.tmp 1), none⟩,
      ⟨some 20, .bin .gtr .int (.tmp 18) (.tmp 19), none⟩,
      ⟨some 21, .mov (.tmp 20), none⟩,
      ⟨some 22, .mov (.tmp 3), some (21, true)⟩,
      ⟨some 23, .mov (.tmp 0), some (21, true)⟩,
      ⟨some 24, .mov (.tmp 9), some (21, true)⟩,
      ⟨some 25, .iaddr 3 (.tmp 23) (.tmp 24), some (21, true)⟩,
      ⟨some 26, .load (some 3) (.tmp 25), some (21, true)⟩,
      ⟨some 27, .mov (.tmp 0), some (21, true)⟩,
      ⟨some 28, .mov (.tmp 9), some (21, true)⟩,
      ⟨some 29, .bin .sub .int (.tmp 28) (.cst (.int .i64 1)), some (21, true)⟩,
      ⟨some 30, .iaddr 3 (.tmp 27) (.tmp 29), some (21, true)⟩,
      ⟨some 31, .load (some 3) (.tmp 30), some (21, true)⟩,
      ⟨some 32, .callv .pure (.tmp 22) [(.tmp 26), (.tmp 31)], some (21, true)⟩,
      ⟨some 33, .bin .lss .int (.tmp 32) (.cst (.int .i64 0)), some (21, true)⟩,
      ⟨some 34, .pick (.tmp 21) (.tmp 33) (.cst (.bool false)), none⟩] [0, 1, 2, 3, 8, 9, 34] none)
    (.cond (.tmp 34) (.skip)
    (.exit 2)))
    (.seq (.block 3 (.par 18 [] [] [
        ⟨some 37, .mov (.tmp 0), none⟩,
        ⟨some 38, .mov (.tmp 9), none⟩,
        ⟨some 39, .mov (.tmp 0), none⟩,
        ⟨some 40, .mov (.tmp 9), none⟩,
        ⟨some 41, .bin .sub .int (.tmp 40) (.cst (.int .i64 1)), none⟩,
        ⟨some 42, .mov (.tmp 0), none⟩,
        ⟨some 43, .mov (.tmp 9), none⟩,
        ⟨some 44, .bin .sub .int (.tmp 43) (.cst (.int .i64 1)), none⟩,
        ⟨some 45, .iaddr 3 (.tmp 42) (.tmp 44), none⟩,
        ⟨some 46, .load (some 3) (.tmp 45), none⟩,
        ⟨some 47, .mov (.tmp 0), none⟩,
        ⟨some 48, .mov (.tmp 9), none⟩,
        ⟨some 49, .iaddr 3 (.tmp 47) (.tmp 48), none⟩,
        ⟨some 50, .load (some 3) (.tmp 49), none⟩,
        ⟨some 51, .iaddr 3 (.tmp 37) (.tmp 38), none⟩,
        ⟨none, .store 3 (.tmp 51) (.tmp 46), none⟩,
        ⟨some 52, .iaddr 3 (.tmp 39) (.tmp 41), none⟩,
        ⟨none, .store 3 (.tmp 52) (.tmp 50), none⟩] [0, 1, 2, 3, 8, 9] none))
    (.region none [] [
      ⟨some 35, .mov (.tmp 9), none⟩,
      ⟨some 36, .bin .sub .int (.tmp 35) (.cst (.int .i64 1)), none⟩,
      ⟨some 9, .mov (.tmp 36), none⟩] [0, 1, 2, 3, 8, 9] none))

/-- loop 1 of function 88 -/
def l88_1_h : List Nat := [0, 1, 2, 3, 8]

def l88_1_b : ACode :=
  .seq (.seq (.region none [] [
      ⟨some 12, .mov (.tmp 8), none⟩,
      ⟨some 13, .mov (.tmp 2), none⟩,
      ⟨some 14, .bin .lss .int (.tmp 12) (.tmp 13), none⟩] [0, 1, 2, 3, 8, 14] none)
    (.cond (.tmp 14) (.skip)
    (.exit 0)))
    (.seq (.block 1 (.seq (.region none [] [
        ⟨some 17, .mov (.tmp 8), none⟩,
        ⟨some 9, .mov (.tmp 17), none⟩] [0, 1, 2, 3, 8, 9] none)
      (.block 2 (.loop l88_0_h l88_0_b))))
    (.region none [] [
      ⟨some 15, .mov (.tmp 8), none⟩,
      ⟨some 16, .bin .add .int (.tmp 15) (.cst (.int .i64 1)), none⟩,
      ⟨some 8, .mov (.tmp 16), none⟩] [0, 1, 2, 3, 8] none))

def c88 : ACode :=
  .seq (.region none [] [
      ⟨some 10, .mov (.tmp 1), none⟩,
      ⟨some 11, .bin .add .int (.tmp 10) (.cst (.int .i64 1)), none⟩,
      ⟨some 8, .mov (.tmp 11), none⟩] [0, 1, 2, 3, 8] none)
    (.block 0 (.loop l88_1_h l88_1_b))

def a88 : AFunc := ⟨4, c88, []⟩

def an88 : List RAnn := [
  { id := 0, live := [0, 1, 2, 3, 8] },
  { id := 1, live := [0, 1, 2, 3, 8, 14], hdr := [0, 1, 2, 3, 8] },
  { id := 3, live := [0, 1, 2, 3, 8, 9] },
  { id := 4, head := some 17, live := [0, 1, 2, 3, 8, 9, 34], hdr := [0, 1, 2, 3, 8, 9] },
  { id := 6, head := some 18, live := [0, 1, 2, 3, 8, 9], par := true },
  { id := 5, live := [0, 1, 2, 3, 8, 9] },
  { id := 2, live := [0, 1, 2, 3, 8] }]

theorem comp88 : compF Try.prog an88 Try.f88 = some a88 := by kernel_rfl

/- slices.symMergeCmpFunc[graphdb/api.Adj] -/
/-- loop 0 of function 89 -/
def l89_0_h : List Nat := [0, 1, 4, 10, 11]

def l89_0_b : ACode :=
  .seq (.seq (.region none [] [
      ⟨some 31, .mov (.tmp 10), none⟩,
      ⟨some 32, .mov (.tmp 11), none⟩,
      ⟨some 33, .bin .lss .int (.tmp 31) (.tmp 32), none⟩] [0, 1, 4, 10, 11, 33] none)
    (.cond (.tmp 33) (.skip)
    (.exit 0)))
    (.block 1 (.seq (.region none [] [
        ⟨some 34, .mov (.tmp 10), none⟩,
        ⟨some 35, .mov (.tmp 11), none⟩,
        ⟨some 36, .bin .add .int (.tmp 34) (.tmp 35), none⟩,
        ⟨some 37, .conv .u64 (.tmp 36), none⟩,
        ⟨some 38, .bin .shr .int (.tmp 37) (.cst (.int .u64 1)), none⟩,
        ⟨some 39, .conv .i64 (.tmp 38), none⟩,
        ⟨some 12, .mov (.tmp 39), none⟩] [0, 1, 4, 10, 11, 12] none)
      (.seq (.region (some 11) [] [
        ⟨some 40, .mov (.tmp 4), none⟩,
        ⟨some 41, .mov (.tmp 0), none⟩,
        ⟨some 42, .mov (.tmp 12), none⟩,
        ⟨some 43, .iaddr 3 (.tmp 41) (.tmp 42), none⟩,
        ⟨some 44, .load (some 3) (.tmp 43), none⟩,
        ⟨some 45, .mov (.tmp 0), none⟩,
        ⟨some 46, .mov (.tmp 1), none⟩,
        ⟨some 47, .iaddr 3 (.tmp 45) (.tmp 46), none⟩,
        ⟨some 48, .load (some 3) (.tmp 47), none⟩,
        ⟨some 49, .callv .pure (.tmp 40) [(.tmp 44), (.tmp 48)], none⟩,
        ⟨some 50, .bin .lss .int (.tmp 49) (.cst (.int .i64 0)), none⟩] [0, 1, 4, 10, 11, 12, 50] none)
      (.cond (.tmp 50) (.region none [] [
          ⟨some 51, .mov (.tmp 12), none⟩,
          ⟨some 52, .bin .add .int (.tmp 51) (.cst (.int .i64 1)), none⟩,
          ⟨some 10, .mov (.tmp 52), none⟩] [0, 1, 4, 10, 11] none)
      (.region none [] [
          ⟨some 53, .mov (.tmp 12), none⟩,
          ⟨some 11, .mov (.tmp 53), none⟩] [0, 1, 4, 10, 11] none)))))

/-- loop 1 of function 89 -/
def l89_1_h : List Nat := [0, 10, 13]

def l89_1_b : ACode :=
  .seq (.seq (.region none [] [
      ⟨some 55, .mov (.tmp 13), none⟩,
      ⟨some 56, .mov (.tmp 10), none⟩,
      ⟨some 57, .bin .sub .int (.tmp 56) (.cst (.int .i64 1)), none⟩,
      ⟨some 58, .bin .lss .int (.tmp 55) (.tmp 57), none⟩] [0, 10, 13, 58] none)
    (.cond (.tmp 58) (.skip)
    (.exit 2)))
    (.seq (.block 3 (.par 18 [] [] [
        ⟨some 61, .mov (.tmp 0), none⟩,
        ⟨some 62, .mov (.tmp 13), none⟩,
        ⟨some 63, .mov (.tmp 0), none⟩,
        ⟨some 64, .mov (.tmp 13), none⟩,
        ⟨some 65, .bin .add .int (.tmp 64) (.cst (.int .i64 1)), none⟩,
        ⟨some 66, .mov (.tmp 0), none⟩,
        ⟨some 67, .mov (.tmp 13), none⟩,
        ⟨some 68, .bin .add .int (.tmp 67) (.cst (.int .i64 1)), none⟩,
        ⟨some 69, .iaddr 3 (.tmp 66) (.tmp 68), none⟩,
        ⟨some 70, .load (some 3) (.tmp 69), none⟩,
        ⟨some 71, .mov (.tmp 0), none⟩,
        ⟨some 72, .mov (.tmp 13), none⟩,
        ⟨some 73, .iaddr 3 (.tmp 71) (.tmp 72), none⟩,
        ⟨some 74, .load (some 3) (.tmp 73), none⟩,
        ⟨some 75, .iaddr 3 (.tmp 61) (.tmp 62), none⟩,
        ⟨none, .store 3 (.tmp 75) (.tmp 70), none⟩,
        ⟨some 76, .iaddr 3 (.tmp 63) (.tmp 65), none⟩,
        ⟨none, .store 3 (.tmp 76) (.tmp 74), none⟩] [0, 10, 13] none))
    (.region none [] [
      ⟨some 59, .mov (.tmp 13), none⟩,
      ⟨some 60, .bin .add .int (.tmp 59) (.cst (.int .i64 1)), none⟩,
      ⟨some 13, .mov (.tmp 60), none⟩] [0, 10, 13] none))

/-- loop 2 of function 89 -/
def l89_2_h : List Nat := [0, 2, 4, 14, 15]

def l89_2_b : ACode :=
  .seq (.seq (.region none [] [
      ⟨some 83, .mov (.tmp 14), none⟩,
      ⟨some 84, .mov (.tmp 15), none⟩,
      ⟨some 85, .bin .lss .int (.tmp 83) (.tmp 84), none⟩] [0, 2, 4, 14, 15, 85] none)
    (.cond (.tmp 85) (.skip)
    (.exit 4)))
    (.block 5 (.seq (.region none [] [
        ⟨some 86, .mov (.tmp 14), none⟩,
        ⟨some 87, .mov (.tmp 15), none⟩,
        ⟨some 88, .bin .add .int (.tmp 86) (.tmp 87), none⟩,
        ⟨some 89, .conv .u64 (.tmp 88), none⟩,
        ⟨some 90, .bin .shr .int (.tmp 89) (.cst (.int .u64 1)), none⟩,
        ⟨some 91, .conv .i64 (.tmp 90), none⟩,
        ⟨some 16, .mov (.tmp 91), none⟩] [0, 2, 4, 14, 15, 16] none)
      (.seq (.region (some 12) [] [
        ⟨some 92, .mov (.tmp 4), none⟩,
        ⟨some 93, .mov (.tmp 0), none⟩,
        ⟨some 94, .mov (.tmp 2), none⟩,
        ⟨some 95, .iaddr 3 (.tmp 93) (.tmp 94), none⟩,
        ⟨some 96, .load (some 3) (.tmp 95), none⟩,
        ⟨some 97, .mov (.tmp 0), none⟩,
        ⟨some 98, .mov (.tmp 16), none⟩,
        ⟨some 99, .iaddr 3 (.tmp 97) (.tmp 98), none⟩,
        ⟨some 100, .load (some 3) (.tmp 99), none⟩,
        ⟨some 101, .callv .pure (.tmp 92) [(.tmp 96), (.tmp 100)], none⟩,
        ⟨some 102, .bin .lss .int (.tmp 101) (.cst (.int .i64 0)), none⟩,
        ⟨some 103, .un .not (.tmp 102), none⟩] [0, 2, 4, 14, 15, 16, 103] none)
      (.cond (.tmp 103) (.region none [] [
          ⟨some 104, .mov (.tmp 16), none⟩,
          ⟨some 105, .bin .add .int (.tmp 104) (.cst (.int .i64 1)), none⟩,
          ⟨some 14, .mov (.tmp 105), none⟩] [0, 2, 4, 14, 15] none)
      (.region none [] [
          ⟨some 106, .mov (.tmp 16), none⟩,
          ⟨some 15, .mov (.tmp 106), none⟩] [0, 2, 4, 14, 15] none)))))

/-- loop 3 of function 89 -/
def l89_3_h : List Nat := [0, 14, 17]

def l89_3_b : ACode :=
  .seq (.seq (.region none [] [
      ⟨some 108, .mov (.tmp 17), none⟩,
      ⟨some 109, .mov (.tmp 14), none⟩,
      ⟨some 110, .bin .gtr .int (.tmp 108) (.tmp 109), none⟩] [0, 14, 17, 110] none)
    (.cond (.tmp 110) (.skip)
    (.exit 6)))
    (.seq (.block 7 (.par 18 [] [] [
        ⟨some 113, .mov (.tmp 0), none⟩,
        ⟨some 114, .mov (.tmp 17), none⟩,
        ⟨some 115, .mov (.tmp 0), none⟩,
        ⟨some 116, .mov (.tmp 17), none⟩,
        ⟨some 117, .bin .sub .int (.tmp 116) (.cst (.int .i64 1)), none⟩,
        ⟨some 118, .mov (.tmp 0), none⟩,
        ⟨some 119, .mov (.tmp 17), none⟩,
        ⟨some 120, .bin .sub .int (.tmp 119) (.cst (.int .i64 1)), none⟩,
        ⟨some 121, .iaddr 3 (.tmp 118) (.tmp 120), none⟩,
        ⟨some 122, .load (some 3) (.tmp 121), none⟩,
        ⟨some 123, .mov (.tmp 0), none⟩,
        ⟨some 124, .mov (.tmp 17), none⟩,
        ⟨some 125, .iaddr 3 (.tmp 123) (.tmp 124), none⟩,
        ⟨some 126, .load (some 3) (.tmp 125), none⟩,
        ⟨some 127, .iaddr 3 (.tmp 113) (.tmp 114), none⟩,
        ⟨none, .store 3 (.tmp 127) (.tmp 122), none⟩,
        ⟨some 128, .iaddr 3 (.tmp 115) (.tmp 117), none⟩,
        ⟨none, .store 3 (.tmp 128) (.tmp 126), none⟩] [0, 14, 17] none))
    (.region none [] [
      ⟨some 111, .mov (.tmp 17), none⟩,
      ⟨some 112, .bin .sub .int (.tmp 111) (.cst (.int .i64 1)), none⟩,
      ⟨some 17, .mov (.tmp 112), none⟩] [0, 14, 17] none))

/-- loop 4 of function 89 -/
def l89_4_h : List Nat := [0, 1, 2, 3, 4, 18, 19, 20, 21, 22]

def l89_4_b : ACode :=
  .seq (.seq (.region none [] [
      ⟨some 149, .mov (.tmp 20), none⟩,
      ⟨some 150, .mov (.tmp 21), none⟩,
      ⟨some 151, .bin .lss .int (.tmp 149) (.tmp 150), none⟩] [0, 1, 2, 3, 4, 18, 19, 20, 21, 22, 151] none)
    (.cond (.tmp 151) (.skip)
    (.exit 8)))
    (.block 9 (.seq (.region none [] [
        ⟨some 152, .mov (.tmp 20), none⟩,
        ⟨some 153, .mov (.tmp 21), none⟩,
        ⟨some 154, .bin .add .int (.tmp 152) (.tmp 153), none⟩,
        ⟨some 155, .conv .u64 (.tmp 154), none⟩,
        ⟨some 156, .bin .shr .int (.tmp 155) (.cst (.int .u64 1)), none⟩,
        ⟨some 157, .conv .i64 (.tmp 156), none⟩,
        ⟨some 23, .mov (.tmp 157), none⟩] [0, 1, 2, 3, 4, 18, 19, 20, 21, 22, 23] none)
      (.seq (.region (some 14) [] [
        ⟨some 158, .mov (.tmp 4), none⟩,
        ⟨some 159, .mov (.tmp 0), none⟩,
        ⟨some 160, .mov (.tmp 22), none⟩,
        ⟨some 161, .mov (.tmp 23), none⟩,
        ⟨some 162, .bin .sub .int (.tmp 160) (.tmp 161), none⟩,
        ⟨some 163, .iaddr 3 (.tmp 159) (.tmp 162), none⟩,
        ⟨some 164, .load (some 3) (.tmp 163), none⟩,
        ⟨some 165, .mov (.tmp 0), none⟩,
        ⟨some 166, .mov (.tmp 23), none⟩,
        ⟨some 167, .iaddr 3 (.tmp 165) (.tmp 166), none⟩,
        ⟨some 168, .load (some 3) (.tmp 167), none⟩,
        ⟨some 169, .callv .pure (.tmp 158) [(.tmp 164), (.tmp 168)], none⟩,
        ⟨some 170, .bin .lss .int (.tmp 169) (.cst (.int .i64 0)), none⟩,
        ⟨some 171, .un .not (.tmp 170), none⟩] [0, 1, 2, 3, 4, 18, 19, 20, 21, 22, 23, 171] none)
      (.cond (.tmp 171) (.region none [] [
          ⟨some 172, .mov (.tmp 23), none⟩,
          ⟨some 173, .bin .add .int (.tmp 172) (.cst (.int .i64 1)), none⟩,
          ⟨some 20, .mov (.tmp 173), none⟩] [0, 1, 2, 3, 4, 18, 19, 20, 21, 22] none)
      (.region none [] [
          ⟨some 174, .mov (.tmp 23), none⟩,
          ⟨some 21, .mov (.tmp 174), none⟩] [0, 1, 2, 3, 4, 18, 19, 20, 21, 22] none)))))

def c89 : ACode :=
  .seq (.seq (.region none [] [
      ⟨some 25, .mov (.tmp 2), none⟩,
      ⟨some 26, .mov (.tmp 1), none⟩,
      ⟨some 27, .bin .sub .int (.tmp 25) (.tmp 26), none⟩,
      ⟨some 28, .bin .eql .int (.tmp 27) (.cst (.int .i64 1)), none⟩] [0, 1, 2, 3, 4, 28] none)
    (.cond (.tmp 28) (.seq (.region none [] [
        ⟨some 29, .mov (.tmp 2), none⟩,
        ⟨some 10, .mov (.tmp 29), none⟩] [0, 1, 3, 4, 10] none)
      (.seq (.region none [] [
        ⟨some 30, .mov (.tmp 3), none⟩,
        ⟨some 11, .mov (.tmp 30), none⟩] [0, 1, 4, 10, 11] none)
      (.seq (.block 0 (.loop l89_0_h l89_0_b))
      (.seq (.seq (.region none [] [
        ⟨some 54, .mov (.tmp 1), none⟩,
        ⟨some 13, .mov (.tmp 54), none⟩] [0, 10, 13] none)
      (.block 2 (.loop l89_1_h l89_1_b)))
      (.ret)))))
    (.skip)))
    (.seq (.seq (.region none [] [
      ⟨some 77, .mov (.tmp 3), none⟩,
      ⟨some 78, .mov (.tmp 2), none⟩,
      ⟨some 79, .bin .sub .int (.tmp 77) (.tmp 78), none⟩,
      ⟨some 80, .bin .eql .int (.tmp 79) (.cst (.int .i64 1)), none⟩] [0, 1, 2, 3, 4, 80] none)
    (.cond (.tmp 80) (.seq (.region none [] [
        ⟨some 81, .mov (.tmp 1), none⟩,
        ⟨some 14, .mov (.tmp 81), none⟩] [0, 2, 4, 14] none)
      (.seq (.region none [] [
        ⟨some 82, .mov (.tmp 2), none⟩,
        ⟨some 15, .mov (.tmp 82), none⟩] [0, 2, 4, 14, 15] none)
      (.seq (.block 4 (.loop l89_2_h l89_2_b))
      (.seq (.seq (.region none [] [
        ⟨some 107, .mov (.tmp 2), none⟩,
        ⟨some 17, .mov (.tmp 107), none⟩] [0, 14, 17] none)
      (.block 6 (.loop l89_3_h l89_3_b)))
      (.ret)))))
    (.skip)))
    (.seq (.region none [] [
      ⟨some 129, .mov (.tmp 1), none⟩,
      ⟨some 130, .mov (.tmp 3), none⟩,
      ⟨some 131, .bin .add .int (.tmp 129) (.tmp 130), none⟩,
      ⟨some 132, .conv .u64 (.tmp 131), none⟩,
      ⟨some 133, .bin .shr .int (.tmp 132) (.cst (.int .u64 1)), none⟩,
      ⟨some 134, .conv .i64 (.tmp 133), none⟩,
      ⟨some 18, .mov (.tmp 134), none⟩] [0, 1, 2, 3, 4, 18] none)
    (.seq (.region none [] [
      ⟨some 135, .mov (.tmp 18), none⟩,
      ⟨some 136, .mov (.tmp 2), none⟩,
      ⟨some 137, .bin .add .int (.tmp 135) (.tmp 136), none⟩,
      ⟨some 19, .mov (.tmp 137), none⟩] [0, 1, 2, 3, 4, 18, 19] none)
    (.seq (.region none [] [
      ⟨some 20, .mov (.cst (.int .i64 0)), none⟩,
      ⟨some 21, .mov (.cst (.int .i64 0)), none⟩] [0, 1, 2, 3, 4, 18, 19] none)
    (.seq (.seq (.region none [] [
      ⟨some 138, .mov (.tmp 2), none⟩,
      ⟨some 139, .mov (.tmp 18), none⟩,
      ⟨some 140, .bin .gtr .int (.tmp 138) (.tmp 139), none⟩] [0, 1, 2, 3, 4, 18, 19, 140] none)
    (.cond (.tmp 140) (.seq (.region none [] [
        ⟨some 141, .mov (.tmp 19), none⟩,
        ⟨some 142, .mov (.tmp 3), none⟩,
        ⟨some 143, .bin .sub .int (.tmp 141) (.tmp 142), none⟩,
        ⟨some 20, .mov (.tmp 143), none⟩] [0, 1, 2, 3, 4, 18, 19, 20] none)
      (.region none [] [
        ⟨some 144, .mov (.tmp 18), none⟩,
        ⟨some 21, .mov (.tmp 144), none⟩] [0, 1, 2, 3, 4, 18, 19, 20, 21] none))
    (.seq (.region none [] [
        ⟨some 145, .mov (.tmp 1), none⟩,
        ⟨some 20, .mov (.tmp 145), none⟩] [0, 1, 2, 3, 4, 18, 19, 20] none)
      (.region none [] [
        ⟨some 146, .mov (.tmp 2), none⟩,
        ⟨some 21, .mov (.tmp 146), none⟩] [0, 1, 2, 3, 4, 18, 19, 20, 21] none))))
    (.seq (.region none [] [
      ⟨some 147, .mov (.tmp 19), none⟩,
      ⟨some 148, .bin .sub .int (.tmp 147) (.cst (.int .i64 1)), none⟩,
      ⟨some 22, .mov (.tmp 148), none⟩] [0, 1, 2, 3, 4, 18, 19, 20, 21, 22] none)
    (.seq (.block 8 (.loop l89_4_h l89_4_b))
    (.seq (.region none [] [
      ⟨some 175, .mov (.tmp 19), none⟩,
      ⟨some 176, .mov (.tmp 20), none⟩,
      ⟨some 177, .bin .sub .int (.tmp 175) (.tmp 176), none⟩,
      ⟨some 24, .mov (.tmp 177), none⟩] [0, 1, 2, 3, 4, 18, 20, 24] none)
    (.seq (.seq (.region none [] [
      ⟨some 178, .mov (.tmp 20), none⟩,
      ⟨some 179, .mov (.tmp 2), none⟩,
      ⟨some 180, .bin .lss .int (.tmp 178) (.tmp 179), none⟩,
      ⟨some 181, .mov (.tmp 180), none⟩,
      ⟨some 182, .mov (.tmp 2), some (181, true)⟩,
      ⟨some 183, .mov (.tmp 24), some (181, true)⟩,
      ⟨some 184, .bin .lss .int (.tmp 182) (.tmp 183), some (181, true)⟩,
      ⟨some 185, .pick (.tmp 181) (.tmp 184) (.cst (.bool false)), none⟩] [0, 1, 2, 3, 4, 18, 20, 24, 185] none)
    (.cond (.tmp 185) (.region none [] [
        ⟨some 186, .mov (.tmp 0), none⟩,
        ⟨some 187, .mov (.tmp 20), none⟩,
        ⟨some 188, .mov (.tmp 2), none⟩,
        ⟨some 189, .mov (.tmp 24), none⟩,
        ⟨some 190, .mov (.tmp 4), none⟩,
        ⟨some 191, .call .share 117 [(.tmp 186), (.tmp 187), (.tmp 188), (.tmp 189), (.tmp 190)], none⟩] [0, 1, 3, 4, 18, 20, 24] none)
    (.skip)))
    (.seq (.seq (.region none [] [
      ⟨some 192, .mov (.tmp 1), none⟩,
      ⟨some 193, .mov (.tmp 20), none⟩,
      ⟨some 194, .bin .lss .int (.tmp 192) (.tmp 193), none⟩,
      ⟨some 195, .mov (.tmp 194), none⟩,
      ⟨some 196, .mov (.tmp 20), some (195, true)⟩,
      ⟨some 197, .mov (.tmp 18), some (195, true)⟩,
      ⟨some 198, .bin .lss .int (.tmp 196) (.tmp 197), some (195, true)⟩,
      ⟨some 199, .pick (.tmp 195) (.tmp 198) (.cst (.bool false)), none⟩] [0, 1, 3, 4, 18, 20, 24, 199] none)
    (.cond (.tmp 199) (.region none [] [
        ⟨some 200, .mov (.tmp 0), none⟩,
        ⟨some 201, .mov (.tmp 1), none⟩,
        ⟨some 202, .mov (.tmp 20), none⟩,
        ⟨some 203, .mov (.tmp 18), none⟩,
        ⟨some 204, .mov (.tmp 4), none⟩,
        ⟨some 205, .call .share 89 [(.tmp 200), (.tmp 201), (.tmp 202), (.tmp 203), (.tmp 204)], none⟩] [0, 3, 4, 18, 24] none)
    (.skip)))
    (.seq (.region none [] [
      ⟨some 206, .mov (.tmp 18), none⟩,
      ⟨some 207, .mov (.tmp 24), none⟩,
      ⟨some 208, .bin .lss .int (.tmp 206) (.tmp 207), none⟩,
      ⟨some 209, .mov (.tmp 208), none⟩,
      ⟨some 210, .mov (.tmp 24), some (209, true)⟩,
      ⟨some 211, .mov (.tmp 3), some (209, true)⟩,
      ⟨some 212, .bin .lss .int (.tmp 210) (.tmp 211), some (209, true)⟩,
      ⟨some 213, .pick (.tmp 209) (.tmp 212) (.cst (.bool false)), none⟩] [0, 3, 4, 18, 24, 213] none)
    (.cond (.tmp 213) (.region none [] [
        ⟨some 214, .mov (.tmp 0), none⟩,
        ⟨some 215, .mov (.tmp 18), none⟩,
        ⟨some 216, .mov (.tmp 24), none⟩,
        ⟨some 217, .mov (.tmp 3), none⟩,
        ⟨some 218, .mov (.tmp 4), none⟩,
        ⟨some 219, .call .share 89 [(.tmp 214), (.tmp 215), (.tmp 216), (.tmp 217), (.tmp 218)], none⟩] [] none)
    (.skip)))))))))))))

def a89 : AFunc := ⟨5, c89, []⟩

def an89 : List RAnn := [
  { id := 0, live := [0, 1, 2, 3, 4, 28] },
  { id := 1, live := [0, 1, 3, 4, 10] },
  { id := 2, live := [0, 1, 4, 10, 11] },
  { id := 3, live := [0, 1, 4, 10, 11, 33], hdr := [0, 1, 4, 10, 11] },
  { id := 4, live := [0, 1, 4, 10, 11, 12] },
  { id := 5, head := some 11, live := [0, 1, 4, 10, 11, 12, 50] },
  { id := 6, live := [0, 1, 4, 10, 11] },
  { id := 7, live := [0, 1, 4, 10, 11] },
  { id := 8, live := [0, 10, 13] },
  { id := 9, live := [0, 10, 13, 58], hdr := [0, 10, 13] },
  { id := 11, head := some 18, live := [0, 10, 13], par := true },
  { id := 10, live := [0, 10, 13] },
  { id := 12, live := [0, 1, 2, 3, 4, 80] },
  { id := 13, live := [0, 2, 4, 14] },
  { id := 14, live := [0, 2, 4, 14, 15] },
  { id := 15, live := [0, 2, 4, 14, 15, 85], hdr := [0, 2, 4, 14, 15] },
  { id := 16, live := [0, 2, 4, 14, 15, 16] },
  { id := 17, head := some 12, live := [0, 2, 4, 14, 15, 16, 103] },
  { id := 18, live := [0, 2, 4, 14, 15] },
  { id := 19, live := [0, 2, 4, 14, 15] },
  { id := 20, live := [0, 14, 17] },
  { id := 21, live := [0, 14, 17, 110], hdr := [0, 14, 17] },
  { id := 23, head := some 18, live := [0, 14, 17], par := true },
  { id := 22, live := [0, 14, 17] },
  { id := 24, live := [0, 1, 2, 3, 4, 18] },
  { id := 25, live := [0, 1, 2, 3, 4, 18, 19] },
  { id := 26, live := [0, 1, 2, 3, 4, 18, 19] },
  { id := 27, live := [0, 1, 2, 3, 4, 18, 19, 140] },
  { id := 28, live := [0, 1, 2, 3, 4, 18, 19, 20] },
  { id := 29, live := [0, 1, 2, 3, 4, 18, 19, 20, 21] },
  { id := 30, live := [0, 1, 2, 3, 4, 18, 19, 20] },
  { id := 31, live := [0, 1, 2, 3, 4, 18, 19, 20, 21] },
  { id := 32, live := [0, 1, 2, 3, 4, 18, 19, 20, 21, 22] },
  { id := 33, live := [0, 1, 2, 3, 4, 18, 19, 20, 21, 22, 151], hdr := [0, 1, 2, 3, 4, 18, 19, 20, 21, 22] },
  { id := 34, live := [0, 1, 2, 3, 4, 18, 19, 20, 21, 22, 23] },
  { id := 35, head := some 14, live := [0, 1, 2, 3, 4, 18, 19, 20, 21, 22, 23, 171] },
  { id := 36, live := [0, 1, 2, 3, 4, 18, 19, 20, 21, 22] },
  { id := 37, live := [0, 1, 2, 3, 4, 18, 19, 20, 21, 22] },
  { id := 38, live := [0, 1, 2, 3, 4, 18, 20, 24] },
  { id := 39, live := [0, 1, 2, 3, 4, 18, 20, 24, 185] },
  { id := 40, live := [0, 1, 3, 4, 18, 20, 24], ops := [(5, .mode .share)] },
  { id := 41, live := [0, 1, 3, 4, 18, 20, 24, 199] },
  { id := 42, live := [0, 3, 4, 18, 24], ops := [(5, .mode .share)] },
  { id := 43, live := [0, 3, 4, 18, 24, 213] },
  { id := 44, ops := [(5, .mode .share)] }]

theorem comp89 : compF Try.prog an89 Try.f89 = some a89 := by kernel_rfl

/- slices.IndexFunc[[]string,string] -/
/-- loop 0 of function 90 -/
def l90_0_h : List Nat := [0, 1, 7, 8]

def l90_0_b : ACode :=
  .seq (.region none [] [
      ⟨some 9, .bin .lss .int (.tmp 8) (.tmp 7), none⟩] [0, 1, 7, 8, 9] none)
    (.seq (.cond (.tmp 9) (.skip)
    (.exit 0))
    (.seq (.block 1 (.seq (.region none [] [
        ⟨some 10, .mov (.tmp 8), none⟩,
        ⟨some 5, .mov (.tmp 10), none⟩] [0, 1, 5, 7, 8] none)
      (.seq (.region none [] [
        ⟨some 11, .mov (.tmp 1), none⟩,
        ⟨some 12, .mov (.tmp 0), none⟩,
        ⟨some 13, .mov (.tmp 5), none⟩,
        ⟨some 14, .iaddr 1 (.tmp 12) (.tmp 13), none⟩,
        ⟨some 15, .load none (.tmp 14), none⟩,
        ⟨some 16, .callv .pure (.tmp 11) [(.tmp 15)], none⟩] [0, 1, 5, 7, 8, 16] none)
      (.cond (.tmp 16) (.seq (.region none [] [
          ⟨some 17, .mov (.tmp 5), none⟩,
          ⟨some 4, .mov (.tmp 17), none⟩] [4] none)
        (.ret))
      (.skip)))))
    (.region none [] [
      ⟨some 18, .bin .add .int (.tmp 8) (.cst (.int .i64 1)), none⟩,
      ⟨some 8, .mov (.tmp 18), none⟩] [0, 1, 7, 8] none)))

def c90 : ACode :=
  .seq (.region none [] [
      ⟨some 4, .mov (.cst (.int .i64 0)), none⟩] [0, 1] none)
    (.seq (.seq (.region none [] [
      ⟨some 6, .mov (.tmp 0), none⟩,
      ⟨some 7, .len .slice (.tmp 6), none⟩,
      ⟨some 8, .mov (.cst (.int .i64 0)), none⟩] [0, 1, 7, 8] none)
    (.block 0 (.loop l90_0_h l90_0_b)))
    (.seq (.region none [] [
      ⟨some 4, .mov (.cst (.int .i64 (-1))), none⟩] [4] none)
    (.ret)))

def a90 : AFunc := ⟨2, c90, [.tmp 4]⟩

def an90 : List RAnn := [
  { id := 0, live := [0, 1] },
  { id := 1, live := [0, 1, 7, 8] },
  { id := 2, live := [0, 1, 7, 8, 9], hdr := [0, 1, 7, 8] },
  { id := 3, live := [0, 1, 5, 7, 8] },
  { id := 4, live := [0, 1, 5, 7, 8, 16] },
  { id := 5, live := [4] },
  { id := 6, live := [0, 1, 7, 8] },
  { id := 7, live := [4] }]

theorem comp90 : compF Try.prog an90 Try.f90 = some a90 := by kernel_rfl

/- graphdb/graphdbref04.bare -/
def c92 : ACode :=
  .seq (.region none [] [
      ⟨some 5, .box 5 (.tmp 0), none⟩,
      ⟨some 10, .mov (.cst (.bool false)), none⟩] [1, 2, 3, 4, 5] none)
    (.seq (.region none [] [
      ⟨some 11, .mov (.tmp 1), none⟩,
      ⟨some 12, .mov (.tmp 11), none⟩,
      ⟨some 13, .faddr 1 (.tmp 5), some (12, false)⟩,
      ⟨some 14, .load none (.tmp 13), some (12, false)⟩,
      ⟨some 15, .bin .eql .int (.tmp 14) (.cst (.int .i64 0)), some (12, false)⟩,
      ⟨some 16, .pick (.tmp 12) (.cst (.bool true)) (.tmp 15), none⟩,
      ⟨some 17, .mov (.tmp 16), none⟩,
      ⟨some 18, .mov (.tmp 2), some (17, true)⟩,
      ⟨some 19, .mov (.tmp 18), some (17, true)⟩,
      ⟨some 20, .faddr 2 (.tmp 5), some (19, false)⟩,
      ⟨some 21, .load none (.tmp 20), some (19, false)⟩,
      ⟨some 22, .bin .eql .int (.tmp 21) (.cst (.int .i64 0)), some (19, false)⟩,
      ⟨some 23, .pick (.tmp 19) (.cst (.bool true)) (.tmp 22), some (17, true)⟩,
      ⟨some 24, .pick (.tmp 17) (.tmp 23) (.cst (.bool false)), none⟩,
      ⟨some 25, .mov (.tmp 24), none⟩,
      ⟨some 26, .mov (.tmp 3), some (25, true)⟩,
      ⟨some 27, .mov (.tmp 26), some (25, true)⟩,
      ⟨some 28, .faddr 3 (.tmp 5), some (27, false)⟩,
      ⟨some 29, .load none (.tmp 28), some (27, false)⟩,
      ⟨some 30, .bin .eql .str (.tmp 29) (.cst (.str [])), some (27, false)⟩,
      ⟨some 31, .pick (.tmp 27) (.cst (.bool true)) (.tmp 30), some (25, true)⟩,
      ⟨some 32, .pick (.tmp 25) (.tmp 31) (.cst (.bool false)), none⟩,
      ⟨some 33, .mov (.tmp 32), none⟩,
      ⟨some 34, .mov (.tmp 4), some (33, true)⟩,
      ⟨some 35, .mov (.tmp 34), some (33, true)⟩,
      ⟨some 36, .faddr 4 (.tmp 5), some (35, false)⟩,
      ⟨some 37, .load none (.tmp 36), some (35, false)⟩,
      ⟨some 38, .len .slice (.tmp 37), some (35, false)⟩,
      ⟨some 39, .bin .eql .int (.tmp 38) (.cst (.int .i64 0)), some (35, false)⟩,
      ⟨some 40, .pick (.tmp 35) (.cst (.bool true)) (.tmp 39), some (33, true)⟩,
      ⟨some 41, .pick (.tmp 33) (.tmp 40) (.cst (.bool false)), none⟩,
      ⟨some 10, .mov (.tmp 41), none⟩] [10] none)
    (.ret))

def a92 : AFunc := ⟨5, c92, [.tmp 10]⟩

def an92 : List RAnn := [
  { id := 0, live := [1, 2, 3, 4, 5] },
  { id := 1, live := [10] }]

theorem comp92 : compF Try.prog an92 Try.f92 = some a92 := by kernel_rfl

/- graphdb/graphdbref01.In -/
def c93 : ACode :=
  .seq (.region none [] [
      ⟨some 2, .mov (.cst (.bool false)), none⟩] [0] none)
    (.seq (.region none [] [
      ⟨some 3, .mov (.tmp 0), none⟩,
      ⟨some 4, .bin .geq .int (.tmp 3) (.cst (.int .i64 (-1000000000000000))), none⟩,
      ⟨some 5, .mov (.tmp 4), none⟩,
      ⟨some 6, .mov (.tmp 0), some (5, true)⟩,
      ⟨some 7, .bin .leq .int (.tmp 6) (.cst (.int .i64 1000000000000000)), some (5, true)⟩,
      ⟨some 8, .pick (.tmp 5) (.tmp 7) (.cst (.bool false)), none⟩,
      ⟨some 2, .mov (.tmp 8), none⟩] [2] none)
    (.ret))

def a93 : AFunc := ⟨1, c93, [.tmp 2]⟩

def an93 : List RAnn := [
  { id := 0, live := [0] },
  { id := 1, live := [2] }]

theorem comp93 : compF Try.prog an93 Try.f93 = some a93 := by kernel_rfl

/- graphdb/graphdbref04.str -/
/-- loop 0 of function 94 -/
def l94_0_h : List Nat := [0, 3]

def l94_0_b : ACode :=
  .seq (.seq (.region none [] [
      ⟨some 4, .mov (.tmp 3), none⟩,
      ⟨some 5, .mov (.tmp 0), none⟩,
      ⟨some 6, .len .str (.tmp 5), none⟩,
      ⟨some 7, .bin .lss .int (.tmp 4) (.tmp 6), none⟩] [0, 3, 7] none)
    (.cond (.tmp 7) (.skip)
    (.exit 0)))
    (.seq (.block 1 (.seq (.region none [] [
        ⟨some 10, .mov (.tmp 0), none⟩,
        ⟨some 11, .mov (.tmp 3), none⟩,
        ⟨some 12, .sidx (.tmp 10) (.tmp 11), none⟩,
        ⟨some 13, .bin .lss .int (.tmp 12) (.cst (.int .u8 32)), none⟩,
        ⟨some 14, .mov (.tmp 13), none⟩,
        ⟨some 15, .mov (.tmp 0), some (14, false)⟩,
        ⟨some 16, .mov (.tmp 3), some (14, false)⟩,
        ⟨some 17, .sidx (.tmp 15) (.tmp 16), some (14, false)⟩,
        ⟨some 18, .bin .gtr .int (.tmp 17) (.cst (.int .u8 126)), some (14, false)⟩,
        ⟨some 19, .pick (.tmp 14) (.cst (.bool true)) (.tmp 18), none⟩] [0, 3, 19] none)
      (.cond (.tmp 19) (.seq (.region none [] [
          ⟨some 2, .mov (.cst (.bool false)), none⟩] [2] none)
        (.ret))
      (.skip))))
    (.region none [] [
      ⟨some 8, .mov (.tmp 3), none⟩,
      ⟨some 9, .bin .add .int (.tmp 8) (.cst (.int .i64 1)), none⟩,
      ⟨some 3, .mov (.tmp 9), none⟩] [0, 3] none))

def c94 : ACode :=
  .seq (.region none [] [
      ⟨some 2, .mov (.cst (.bool false)), none⟩] [0] none)
    (.seq (.seq (.region none [] [
      ⟨some 3, .mov (.cst (.int .i64 0)), none⟩] [0, 3] none)
    (.block 0 (.loop l94_0_h l94_0_b)))
    (.seq (.region none [] [
      ⟨some 20, .mov (.tmp 0), none⟩,
      ⟨some 21, .len .str (.tmp 20), none⟩,
      ⟨some 22, .bin .leq .int (.tmp 21) (.cst (.int .i64 100)), none⟩,
      ⟨some 2, .mov (.tmp 22), none⟩] [2] none)
    (.ret)))

def a94 : AFunc := ⟨1, c94, [.tmp 2]⟩

def an94 : List RAnn := [
  { id := 0, live := [0] },
  { id := 1, live := [0, 3] },
  { id := 2, live := [0, 3, 7], hdr := [0, 3] },
  { id := 4, live := [0, 3, 19] },
  { id := 5, live := [2] },
  { id := 3, live := [0, 3] },
  { id := 6, live := [2] }]

theorem comp94 : compF Try.prog an94 Try.f94 = some a94 := by kernel_rfl

/- graphdb/graphdbref04.path -/
/-- loop 0 of function 95 -/
def l95_0_h : List Nat := [0, 3]

def l95_0_b : ACode :=
  .seq (.seq (.region none [] [
      ⟨some 14, .mov (.tmp 3), none⟩,
      ⟨some 15, .mov (.tmp 0), none⟩,
      ⟨some 16, .len .slice (.tmp 15), none⟩,
      ⟨some 17, .bin .lss .int (.tmp 14) (.tmp 16), none⟩] [0, 3, 17] none)
    (.cond (.tmp 17) (.skip)
    (.exit 0)))
    (.seq (.block 1 (.seq (.region none [] [
        ⟨some 4, .mov (.cst (.int .i64 5)), none⟩] [0, 3, 4] none)
      (.seq (.seq (.region none [] [
        ⟨some 20, .mov (.tmp 3), none⟩,
        ⟨some 21, .bin .rem .int (.tmp 20) (.cst (.int .i64 2)), none⟩,
        ⟨some 22, .bin .eql .int (.tmp 21) (.cst (.int .i64 1)), none⟩] [0, 3, 4, 22] none)
      (.cond (.tmp 22) (.region none [] [
          ⟨some 4, .mov (.cst (.int .i64 6)), none⟩] [0, 3, 4] none)
      (.skip)))
      (.seq (.region none [] [
        ⟨some 23, .mov (.tmp 0), none⟩,
        ⟨some 24, .mov (.tmp 3), none⟩,
        ⟨some 25, .iaddr 5 (.tmp 23) (.tmp 24), none⟩,
        ⟨some 26, .faddr 0 (.tmp 25), none⟩,
        ⟨some 27, .load none (.tmp 26), none⟩,
        ⟨some 28, .mov (.tmp 4), none⟩,
        ⟨some 29, .bin .neq .int (.tmp 27) (.tmp 28), none⟩,
        ⟨some 30, .mov (.tmp 29), none⟩,
        ⟨some 31, .mov (.tmp 0), some (30, false)⟩,
        ⟨some 32, .mov (.tmp 3), some (30, false)⟩,
        ⟨some 33, .iaddr 5 (.tmp 31) (.tmp 32), some (30, false)⟩,
        ⟨some 34, .load (some 5) (.tmp 33), some (30, false)⟩,
        ⟨some 35, .call .pure 75 [(.tmp 34), (.cst (.int .i64 0))], some (30, false)⟩,
        ⟨some 36, .un .not (.tmp 35), some (30, false)⟩,
        ⟨some 37, .pick (.tmp 30) (.cst (.bool true)) (.tmp 36), none⟩] [0, 3, 37] none)
      (.cond (.tmp 37) (.seq (.region none [] [
          ⟨some 2, .mov (.cst (.bool false)), none⟩] [2] none)
        (.ret))
      (.skip))))))
    (.region none [] [
      ⟨some 18, .mov (.tmp 3), none⟩,
      ⟨some 19, .bin .add .int (.tmp 18) (.cst (.int .i64 1)), none⟩,
      ⟨some 3, .mov (.tmp 19), none⟩] [0, 3] none))

def c95 : ACode :=
  .seq (.region none [] [
      ⟨some 2, .mov (.cst (.bool false)), none⟩] [0] none)
    (.seq (.seq (.region none [] [
      ⟨some 5, .mov (.tmp 0), none⟩,
      ⟨some 6, .len .slice (.tmp 5), none⟩,
      ⟨some 7, .bin .rem .int (.tmp 6) (.cst (.int .i64 2)), none⟩,
      ⟨some 8, .bin .eql .int (.tmp 7) (.cst (.int .i64 0)), none⟩,
      ⟨some 9, .mov (.tmp 8), none⟩,
      ⟨some 10, .mov (.tmp 0), some (9, false)⟩,
      ⟨some 11, .len .slice (.tmp 10), some (9, false)⟩,
      ⟨some 12, .bin .gtr .int (.tmp 11) (.cst (.int .i64 25)), some (9, false)⟩,
      ⟨some 13, .pick (.tmp 9) (.cst (.bool true)) (.tmp 12), none⟩] [0, 13] none)
    (.cond (.tmp 13) (.seq (.region none [] [
        ⟨some 2, .mov (.cst (.bool false)), none⟩] [2] none)
      (.ret))
    (.skip)))
    (.seq (.seq (.region none [] [
      ⟨some 3, .mov (.cst (.int .i64 0)), none⟩] [0, 3] none)
    (.block 0 (.loop l95_0_h l95_0_b)))
    (.seq (.region none [] [
      ⟨some 2, .mov (.cst (.bool true)), none⟩] [2] none)
    (.ret))))

def a95 : AFunc := ⟨1, c95, [.tmp 2]⟩

def an95 : List RAnn := [
  { id := 0, live := [0] },
  { id := 1, live := [0, 13] },
  { id := 2, live := [2] },
  { id := 3, live := [0, 3] },
  { id := 4, live := [0, 3, 17], hdr := [0, 3] },
  { id := 6, live := [0, 3, 4] },
  { id := 7, live := [0, 3, 4, 22] },
  { id := 8, live := [0, 3, 4] },
  { id := 9, live := [0, 3, 37] },
  { id := 10, live := [2] },
  { id := 5, live := [0, 3] },
  { id := 11, live := [2] }]

theorem comp95 : compF Try.prog an95 Try.f95 = some a95 := by kernel_rfl

/- graphdb/graphdbref04.list -/
/-- loop 0 of function 96 -/
def l96_0_h : List Nat := [0, 1, 5]

def l96_0_b : ACode :=
  .seq (.seq (.region none [] [
      ⟨some 13, .mov (.tmp 5), none⟩,
      ⟨some 14, .mov (.tmp 0), none⟩,
      ⟨some 15, .len .slice (.tmp 14), none⟩,
      ⟨some 16, .bin .lss .int (.tmp 13) (.tmp 15), none⟩] [0, 1, 5, 16] none)
    (.cond (.tmp 16) (.skip)
    (.exit 0)))
    (.seq (.block 1 (.seq (.region none [] [
        ⟨some 19, .mov (.tmp 0), none⟩,
        ⟨some 20, .mov (.tmp 5), none⟩,
        ⟨some 21, .iaddr 5 (.tmp 19) (.tmp 20), none⟩,
        ⟨some 22, .load (some 5) (.tmp 21), none⟩,
        ⟨some 23, .mov (.tmp 1), none⟩,
        ⟨some 24, .bin .sub .int (.tmp 23) (.cst (.int .i64 1)), none⟩,
        ⟨some 25, .call .pure 75 [(.tmp 22), (.tmp 24)], none⟩,
        ⟨some 26, .un .not (.tmp 25), none⟩] [0, 1, 5, 26] none)
      (.cond (.tmp 26) (.seq (.region none [] [
          ⟨some 4, .mov (.cst (.bool false)), none⟩] [4] none)
        (.ret))
      (.skip))))
    (.region none [] [
      ⟨some 17, .mov (.tmp 5), none⟩,
      ⟨some 18, .bin .add .int (.tmp 17) (.cst (.int .i64 1)), none⟩,
      ⟨some 5, .mov (.tmp 18), none⟩] [0, 1, 5] none))

def c96 : ACode :=
  .seq (.region none [] [
      ⟨some 4, .mov (.cst (.bool false)), none⟩] [0, 1] none)
    (.seq (.seq (.region none [] [
      ⟨some 6, .mov (.tmp 1), none⟩,
      ⟨some 7, .bin .lss .int (.tmp 6) (.cst (.int .i64 1)), none⟩,
      ⟨some 8, .mov (.tmp 7), none⟩,
      ⟨some 9, .mov (.tmp 0), some (8, false)⟩,
      ⟨some 10, .len .slice (.tmp 9), some (8, false)⟩,
      ⟨some 11, .bin .gtr .int (.tmp 10) (.cst (.int .i64 64)), some (8, false)⟩,
      ⟨some 12, .pick (.tmp 8) (.cst (.bool true)) (.tmp 11), none⟩] [0, 1, 12] none)
    (.cond (.tmp 12) (.seq (.region none [] [
        ⟨some 4, .mov (.cst (.bool false)), none⟩] [4] none)
      (.ret))
    (.skip)))
    (.seq (.seq (.region none [] [
      ⟨some 5, .mov (.cst (.int .i64 0)), none⟩] [0, 1, 5] none)
    (.block 0 (.loop l96_0_h l96_0_b)))
    (.seq (.region none [] [
      ⟨some 4, .mov (.cst (.bool true)), none⟩] [4] none)
    (.ret))))

def a96 : AFunc := ⟨2, c96, [.tmp 4]⟩

def an96 : List RAnn := [
  { id := 0, live := [0, 1] },
  { id := 1, live := [0, 1, 12] },
  { id := 2, live := [4] },
  { id := 3, live := [0, 1, 5] },
  { id := 4, live := [0, 1, 5, 16], hdr := [0, 1, 5] },
  { id := 6, live := [0, 1, 5, 26] },
  { id := 7, live := [4] },
  { id := 5, live := [0, 1, 5] },
  { id := 8, live := [4] }]

theorem comp96 : compF Try.prog an96 Try.f96 = some a96 := by kernel_rfl

/- graphdb/graphdbref03.gcd -/
/-- loop 0 of function 97 -/
def l97_0_h : List Nat := [0, 1]

def l97_0_b : ACode :=
  .seq (.seq (.region none [] [
      ⟨some 5, .mov (.tmp 1), none⟩,
      ⟨some 6, .bin .gtr .int (.tmp 5) (.cst (.int .i64 0)), none⟩] [0, 1, 6] none)
    (.cond (.tmp 6) (.skip)
    (.exit 0)))
    (.block 1 (.region (some 6) [] [
        ⟨some 7, .mov (.tmp 1), none⟩,
        ⟨some 8, .mov (.tmp 0), none⟩,
        ⟨some 9, .mov (.tmp 1), none⟩,
        ⟨some 10, .bin .rem .int (.tmp 8) (.tmp 9), none⟩,
        ⟨some 0, .mov (.tmp 7), none⟩,
        ⟨some 1, .mov (.tmp 10), none⟩] [0, 1] none))

def c97 : ACode :=
  .seq (.region none [] [
      ⟨some 4, .mov (.cst (.int .i64 0)), none⟩] [0, 1] none)
    (.seq (.block 0 (.loop l97_0_h l97_0_b))
    (.seq (.region none [] [
      ⟨some 11, .mov (.tmp 0), none⟩,
      ⟨some 4, .mov (.tmp 11), none⟩] [4] none)
    (.ret)))

def a97 : AFunc := ⟨2, c97, [.tmp 4]⟩

def an97 : List RAnn := [
  { id := 0, live := [0, 1] },
  { id := 1, live := [0, 1, 6], hdr := [0, 1] },
  { id := 2, head := some 6, live := [0, 1] },
  { id := 3, live := [4] }]

theorem comp97 : compF Try.prog an97 Try.f97 = some a97 := by kernel_rfl

/- graphdb/graphdbref03.plus -/
/-- loop 0 of function 98 -/
def l98_0_h : List Nat := [0, 1, 5, 6, 7]

def l98_0_b : ACode :=
  .seq (.seq (.region none [] [
      ⟨some 11, .mov (.tmp 7), none⟩,
      ⟨some 12, .mov (.tmp 0), none⟩,
      ⟨some 13, .len .slice (.tmp 12), none⟩,
      ⟨some 14, .bin .lss .int (.tmp 11) (.tmp 13), none⟩] [0, 1, 5, 6, 7, 14] none)
    (.cond (.tmp 14) (.skip)
    (.exit 0)))
    (.seq (.block 1 (.seq (.region (some 12) [] [
        ⟨some 17, .mov (.tmp 6), none⟩,
        ⟨some 18, .mov (.tmp 0), none⟩,
        ⟨some 19, .mov (.tmp 7), none⟩,
        ⟨some 20, .iaddr 1 (.tmp 18) (.tmp 19), none⟩,
        ⟨some 21, .load none (.tmp 20), none⟩,
        ⟨some 22, .bin .add .int (.tmp 17) (.tmp 21), none⟩,
        ⟨some 23, .mov (.tmp 1), none⟩,
        ⟨some 24, .mov (.tmp 7), none⟩,
        ⟨some 25, .iaddr 1 (.tmp 23) (.tmp 24), none⟩,
        ⟨some 26, .load none (.tmp 25), none⟩,
        ⟨some 27, .bin .add .int (.tmp 22) (.tmp 26), none⟩,
        ⟨some 6, .mov (.tmp 27), none⟩] [0, 1, 5, 6, 7] none)
      (.seq (.region none [] [
        ⟨some 28, .mov (.tmp 5), none⟩,
        ⟨some 29, .mov (.tmp 7), none⟩,
        ⟨some 30, .mov (.tmp 6), none⟩,
        ⟨some 31, .bin .rem .int (.tmp 30) (.cst (.int .i64 1000)), none⟩,
        ⟨some 32, .iaddr 1 (.tmp 28) (.tmp 29), none⟩,
        ⟨none, .store 1 (.tmp 32) (.tmp 31), none⟩] [0, 1, 5, 6, 7] none)
      (.region none [] [
        ⟨some 33, .mov (.tmp 6), none⟩,
        ⟨some 34, .bin .quo .int (.tmp 33) (.cst (.int .i64 1000)), none⟩,
        ⟨some 6, .mov (.tmp 34), none⟩] [0, 1, 5, 6, 7] none))))
    (.region none [] [
      ⟨some 15, .mov (.tmp 7), none⟩,
      ⟨some 16, .bin .add .int (.tmp 15) (.cst (.int .i64 1)), none⟩,
      ⟨some 7, .mov (.tmp 16), none⟩] [0, 1, 5, 6, 7] none))

def c98 : ACode :=
  .seq (.region none [] [
      ⟨some 4, .mov (.cst (.sl false [])), none⟩] [0, 1] none)
    (.seq (.region none [] [
      ⟨some 8, .mov (.tmp 0), none⟩,
      ⟨some 9, .len .slice (.tmp 8), none⟩,
      ⟨some 10, .mkslice 1 8 (.int .i64 0) (.tmp 9) (.tmp 9), none⟩,
      ⟨some 5, .mov (.tmp 10), none⟩] [0, 1, 5] none)
    (.seq (.region none [] [
      ⟨some 6, .mov (.cst (.int .i64 0)), none⟩] [0, 1, 5, 6] none)
    (.seq (.seq (.region none [] [
      ⟨some 7, .mov (.cst (.int .i64 0)), none⟩] [0, 1, 5, 6, 7] none)
    (.block 0 (.loop l98_0_h l98_0_b)))
    (.seq (.region none [] [
      ⟨some 35, .mov (.tmp 5), none⟩,
      ⟨some 4, .mov (.tmp 35), none⟩] [4] none)
    (.ret)))))

def a98 : AFunc := ⟨2, c98, [.tmp 4]⟩

def an98 : List RAnn := [
  { id := 0, live := [0, 1] },
  { id := 1, live := [0, 1, 5] },
  { id := 2, live := [0, 1, 5, 6] },
  { id := 3, live := [0, 1, 5, 6, 7] },
  { id := 4, live := [0, 1, 5, 6, 7, 14], hdr := [0, 1, 5, 6, 7] },
  { id := 6, head := some 12, live := [0, 1, 5, 6, 7] },
  { id := 7, live := [0, 1, 5, 6, 7] },
  { id := 8, live := [0, 1, 5, 6, 7] },
  { id := 5, live := [0, 1, 5, 6, 7] },
  { id := 9, live := [4] }]

theorem comp98 : compF Try.prog an98 Try.f98 = some a98 := by kernel_rfl

/- graphdb/graphdbref03.order -/
/-- loop 0 of function 99 -/
def l99_0_h : List Nat := [0, 1, 5]

def l99_0_b : ACode :=
  .seq (.seq (.region none [] [
      ⟨some 9, .mov (.tmp 5), none⟩,
      ⟨some 10, .bin .geq .int (.tmp 9) (.cst (.int .i64 0)), none⟩] [0, 1, 5, 10] none)
    (.cond (.tmp 10) (.skip)
    (.exit 0)))
    (.seq (.block 1 (.seq (.seq (.region (some 9) [] [
        ⟨some 13, .mov (.tmp 0), none⟩,
        ⟨some 14, .mov (.tmp 5), none⟩,
        ⟨some 15, .iaddr 1 (.tmp 13) (.tmp 14), none⟩,
        ⟨some 16, .load none (.tmp 15), none⟩,
        ⟨some 17, .mov (.tmp 1), none⟩,
        ⟨some 18, .mov (.tmp 5), none⟩,
        ⟨some 19, .iaddr 1 (.tmp 17) (.tmp 18), none⟩,
        ⟨some 20, .load none (.tmp 19), none⟩,
        ⟨some 21, .bin .lss .int (.tmp 16) (.tmp 20), none⟩] [0, 1, 5, 21] none)
      (.cond (.tmp 21) (.seq (.region none [] [
          ⟨some 4, .mov (.cst (.int .i64 (-1))), none⟩] [4] none)
        (.ret))
      (.skip)))
      (.seq (.region (some 9) [] [
        ⟨some 22, .mov (.tmp 0), none⟩,
        ⟨some 23, .mov (.tmp 5), none⟩,
        ⟨some 24, .iaddr 1 (.tmp 22) (.tmp 23), none⟩,
        ⟨some 25, .load none (.tmp 24), none⟩,
        ⟨some 26, .mov (.tmp 1), none⟩,
        ⟨some 27, .mov (.tmp 5), none⟩,
        ⟨some 28, .iaddr 1 (.tmp 26) (.tmp 27), none⟩,
        ⟨some 29, .load none (.tmp 28), none⟩,
        ⟨some 30, .bin .gtr .int (.tmp 25) (.tmp 29), none⟩] [0, 1, 5, 30] none)
      (.cond (.tmp 30) (.seq (.region none [] [
          ⟨some 4, .mov (.cst (.int .i64 1)), none⟩] [4] none)
        (.ret))
      (.skip)))))
    (.region none [] [
      ⟨some 11, .mov (.tmp 5), none⟩,
      ⟨some 12, .bin .sub .int (.tmp 11) (.cst (.int .i64 1)), none⟩,
      ⟨some 5, .mov (.tmp 12), none⟩] [0, 1, 5] none))

def c99 : ACode :=
  .seq (.region none [] [
      ⟨some 4, .mov (.cst (.int .i64 0)), none⟩] [0, 1] none)
    (.seq (.seq (.region none [] [
      ⟨some 6, .mov (.tmp 0), none⟩,
      ⟨some 7, .len .slice (.tmp 6), none⟩,
      ⟨some 8, .bin .sub .int (.tmp 7) (.cst (.int .i64 1)), none⟩,
      ⟨some 5, .mov (.tmp 8), none⟩] [0, 1, 5] none)
    (.block 0 (.loop l99_0_h l99_0_b)))
    (.seq (.region none [] [
      ⟨some 4, .mov (.cst (.int .i64 0)), none⟩] [4] none)
    (.ret)))

def a99 : AFunc := ⟨2, c99, [.tmp 4]⟩

def an99 : List RAnn := [
  { id := 0, live := [0, 1] },
  { id := 1, live := [0, 1, 5] },
  { id := 2, live := [0, 1, 5, 10], hdr := [0, 1, 5] },
  { id := 4, head := some 9, live := [0, 1, 5, 21] },
  { id := 5, live := [4] },
  { id := 6, head := some 9, live := [0, 1, 5, 30] },
  { id := 7, live := [4] },
  { id := 3, live := [0, 1, 5] },
  { id := 8, live := [4] }]

theorem comp99 : compF Try.prog an99 Try.f99 = some a99 := by kernel_rfl

/- graphdb/graphdbref03.minus -/
/-- loop 0 of function 100 -/
def l100_0_h : List Nat := [0, 1, 5, 6, 7]

def l100_0_b : ACode :=
  .seq (.seq (.region none [] [
      ⟨some 11, .mov (.tmp 7), none⟩,
      ⟨some 12, .mov (.tmp 0), none⟩,
      ⟨some 13, .len .slice (.tmp 12), none⟩,
      ⟨some 14, .bin .lss .int (.tmp 11) (.tmp 13), none⟩] [0, 1, 5, 6, 7, 14] none)
    (.cond (.tmp 14) (.skip)
    (.exit 0)))
    (.seq (.block 1 (.seq (.region (some 12) [] [
        ⟨some 17, .mov (.tmp 6), none⟩,
        ⟨some 18, .mov (.tmp 0), none⟩,
        ⟨some 19, .mov (.tmp 7), none⟩,
        ⟨some 20, .iaddr 1 (.tmp 18) (.tmp 19), none⟩,
        ⟨some 21, .load none (.tmp 20), none⟩,
        ⟨some 22, .bin .add .int (.tmp 17) (.tmp 21), none⟩,
        ⟨some 23, .mov (.tmp 1), none⟩,
        ⟨some 24, .mov (.tmp 7), none⟩,
        ⟨some 25, .iaddr 1 (.tmp 23) (.tmp 24), none⟩,
        ⟨some 26, .load none (.tmp 25), none⟩,
        ⟨some 27, .bin .sub .int (.tmp 22) (.tmp 26), none⟩,
        ⟨some 6, .mov (.tmp 27), none⟩] [0, 1, 5, 6, 7] none)
      (.seq (.region none [] [
        ⟨some 28, .mov (.tmp 6), none⟩,
        ⟨some 29, .bin .lss .int (.tmp 28) (.cst (.int .i64 0)), none⟩] [0, 1, 5, 6, 7, 29] none)
      (.cond (.tmp 29) (.seq (.region none [] [
          ⟨some 30, .mov (.tmp 5), none⟩,
          ⟨some 31, .mov (.tmp 7), none⟩,
          ⟨some 32, .mov (.tmp 6), none⟩,
          ⟨some 33, .bin .add .int (.tmp 32) (.cst (.int .i64 1000)), none⟩,
          ⟨some 34, .iaddr 1 (.tmp 30) (.tmp 31), none⟩,
          ⟨none, .store 1 (.tmp 34) (.tmp 33), none⟩] [0, 1, 5, 7] none)
        (.region none [] [
          ⟨some 6, .mov (.cst (.int .i64 (-1))), none⟩] [0, 1, 5, 6, 7] none))
      (.seq (.region none [] [
          ⟨some 35, .mov (.tmp 5), none⟩,
          ⟨some 36, .mov (.tmp 7), none⟩,
          ⟨some 37, .mov (.tmp 6), none⟩,
          ⟨some 38, .iaddr 1 (.tmp 35) (.tmp 36), none⟩,
          ⟨none, .store 1 (.tmp 38) (.tmp 37), none⟩] [0, 1, 5, 7] none)
        (.region none [] [
          ⟨some 6, .mov (.cst (.int .i64 0)), none⟩] [0, 1, 5, 6, 7] none))))))
    (.region none [] [
      ⟨some 15, .mov (.tmp 7), none⟩,
      ⟨some 16, .bin .add .int (.tmp 15) (.cst (.int .i64 1)), none⟩,
      ⟨some 7, .mov (.tmp 16), none⟩] [0, 1, 5, 6, 7] none))

def c100 : ACode :=
  .seq (.region none [] [
      ⟨some 4, .mov (.cst (.sl false [])), none⟩] [0, 1] none)
    (.seq (.region none [] [
      ⟨some 8, .mov (.tmp 0), none⟩,
      ⟨some 9, .len .slice (.tmp 8), none⟩,
      ⟨some 10, .mkslice 1 8 (.int .i64 0) (.tmp 9) (.tmp 9), none⟩,
      ⟨some 5, .mov (.tmp 10), none⟩] [0, 1, 5] none)
    (.seq (.region none [] [
      ⟨some 6, .mov (.cst (.int .i64 0)), none⟩] [0, 1, 5, 6] none)
    (.seq (.seq (.region none [] [
      ⟨some 7, .mov (.cst (.int .i64 0)), none⟩] [0, 1, 5, 6, 7] none)
    (.block 0 (.loop l100_0_h l100_0_b)))
    (.seq (.region none [] [
      ⟨some 39, .mov (.tmp 5), none⟩,
      ⟨some 4, .mov (.tmp 39), none⟩] [4] none)
    (.ret)))))

def a100 : AFunc := ⟨2, c100, [.tmp 4]⟩

def an100 : List RAnn := [
  { id := 0, live := [0, 1] },
  { id := 1, live := [0, 1, 5] },
  { id := 2, live := [0, 1, 5, 6] },
  { id := 3, live := [0, 1, 5, 6, 7] },
  { id := 4, live := [0, 1, 5, 6, 7, 14], hdr := [0, 1, 5, 6, 7] },
  { id := 6, head := some 12, live := [0, 1, 5, 6, 7] },
  { id := 7, live := [0, 1, 5, 6, 7, 29] },
  { id := 8, live := [0, 1, 5, 7] },
  { id := 9, live := [0, 1, 5, 6, 7] },
  { id := 10, live := [0, 1, 5, 7] },
  { id := 11, live := [0, 1, 5, 6, 7] },
  { id := 5, live := [0, 1, 5, 6, 7] },
  { id := 12, live := [4] }]

theorem comp100 : compF Try.prog an100 Try.f100 = some a100 := by kernel_rfl

/- slices.rotateCmpFunc[graphdb/api.Adj] -/
/-- loop 0 of function 117 -/
def l117_0_h : List Nat := [0, 2, 4, 10, 11]

def l117_0_b : ACode :=
  .seq (.seq (.region none [] [
      ⟨some 18, .mov (.tmp 10), none⟩,
      ⟨some 19, .mov (.tmp 11), none⟩,
      ⟨some 20, .bin .neq .int (.tmp 18) (.tmp 19), none⟩] [0, 2, 4, 10, 11, 20] none)
    (.cond (.tmp 20) (.skip)
    (.exit 0)))
    (.block 1 (.seq (.region none [] [
        ⟨some 21, .mov (.tmp 10), none⟩,
        ⟨some 22, .mov (.tmp 11), none⟩,
        ⟨some 23, .bin .gtr .int (.tmp 21) (.tmp 22), none⟩] [0, 2, 4, 10, 11, 23] none)
      (.cond (.tmp 23) (.seq (.region none [] [
          ⟨some 24, .mov (.tmp 0), none⟩,
          ⟨some 25, .mov (.tmp 2), none⟩,
          ⟨some 26, .mov (.tmp 10), none⟩,
          ⟨some 27, .bin .sub .int (.tmp 25) (.tmp 26), none⟩,
          ⟨some 28, .mov (.tmp 2), none⟩,
          ⟨some 29, .mov (.tmp 11), none⟩,
          ⟨some 30, .mov (.tmp 4), none⟩,
          ⟨some 31, .call .share 125 [(.tmp 24), (.tmp 27), (.tmp 28), (.tmp 29), (.tmp 30)], none⟩] [0, 2, 4, 10, 11] none)
        (.region none [] [
          ⟨some 32, .mov (.tmp 10), none⟩,
          ⟨some 33, .mov (.tmp 11), none⟩,
          ⟨some 34, .bin .sub .int (.tmp 32) (.tmp 33), none⟩,
          ⟨some 10, .mov (.tmp 34), none⟩] [0, 2, 4, 10, 11] none))
      (.seq (.region none [] [
          ⟨some 35, .mov (.tmp 0), none⟩,
          ⟨some 36, .mov (.tmp 2), none⟩,
          ⟨some 37, .mov (.tmp 10), none⟩,
          ⟨some 38, .bin .sub .int (.tmp 36) (.tmp 37), none⟩,
          ⟨some 39, .mov (.tmp 2), none⟩,
          ⟨some 40, .mov (.tmp 11), none⟩,
          ⟨some 41, .bin .add .int (.tmp 39) (.tmp 40), none⟩,
          ⟨some 42, .mov (.tmp 10), none⟩,
          ⟨some 43, .bin .sub .int (.tmp 41) (.tmp 42), none⟩,
          ⟨some 44, .mov (.tmp 10), none⟩,
          ⟨some 45, .mov (.tmp 4), none⟩,
          ⟨some 46, .call .share 125 [(.tmp 35), (.tmp 38), (.tmp 43), (.tmp 44), (.tmp 45)], none⟩] [0, 2, 4, 10, 11] none)
        (.region none [] [
          ⟨some 47, .mov (.tmp 11), none⟩,
          ⟨some 48, .mov (.tmp 10), none⟩,
          ⟨some 49, .bin .sub .int (.tmp 47) (.tmp 48), none⟩,
          ⟨some 11, .mov (.tmp 49), none⟩] [0, 2, 4, 10, 11] none)))))

def c117 : ACode :=
  .seq (.region none [] [
      ⟨some 12, .mov (.tmp 2), none⟩,
      ⟨some 13, .mov (.tmp 1), none⟩,
      ⟨some 14, .bin .sub .int (.tmp 12) (.tmp 13), none⟩,
      ⟨some 10, .mov (.tmp 14), none⟩] [0, 2, 3, 4, 10] none)
    (.seq (.region none [] [
      ⟨some 15, .mov (.tmp 3), none⟩,
      ⟨some 16, .mov (.tmp 2), none⟩,
      ⟨some 17, .bin .sub .int (.tmp 15) (.tmp 16), none⟩,
      ⟨some 11, .mov (.tmp 17), none⟩] [0, 2, 4, 10, 11] none)
    (.seq (.block 0 (.loop l117_0_h l117_0_b))
    (.region none [] [
      ⟨some 50, .mov (.tmp 0), none⟩,
      ⟨some 51, .mov (.tmp 2), none⟩,
      ⟨some 52, .mov (.tmp 10), none⟩,
      ⟨some 53, .bin .sub .int (.tmp 51) (.tmp 52), none⟩,
      ⟨some 54, .mov (.tmp 2), none⟩,
      ⟨some 55, .mov (.tmp 10), none⟩,
      ⟨some 56, .mov (.tmp 4), none⟩,
      ⟨some 57, .call .share 125 [(.tmp 50), (.tmp 53), (.tmp 54), (.tmp 55), (.tmp 56)], none⟩] [] none)))

def a117 : AFunc := ⟨5, c117, []⟩

def an117 : List RAnn := [
  { id := 0, live := [0, 2, 3, 4, 10] },
  { id := 1, live := [0, 2, 4, 10, 11] },
  { id := 2, live := [0, 2, 4, 10, 11, 20], hdr := [0, 2, 4, 10, 11] },
  { id := 3, live := [0, 2, 4, 10, 11, 23] },
  { id := 4, live := [0, 2, 4, 10, 11], ops := [(7, .mode .share)] },
  { id := 5, live := [0, 2, 4, 10, 11] },
  { id := 6, live := [0, 2, 4, 10, 11], ops := [(11, .mode .share)] },
  { id := 7, live := [0, 2, 4, 10, 11] },
  { id := 8, ops := [(7, .mode .share)] }]

theorem comp117 : compF Try.prog an117 Try.f117 = some a117 := by kernel_rfl

/- slices.swapRangeCmpFunc[graphdb/api.Adj] -/
/-- loop 0 of function 125 -/
def l125_0_h : List Nat := [0, 1, 2, 3, 10]

def l125_0_b : ACode :=
  .seq (.seq (.region none [] [
      ⟨some 11, .mov (.tmp 10), none⟩,
      ⟨some 12, .mov (.tmp 3), none⟩,
      ⟨some 13, .bin .lss .int (.tmp 11) (.tmp 12), none⟩] [0, 1, 2, 3, 10, 13] none)
    (.cond (.tmp 13) (.skip)
    (.exit 0)))
    (.seq (.block 1 (.par 24 [] [] [
        ⟨some 16, .mov (.tmp 0), none⟩,
        ⟨some 17, .mov (.tmp 1), none⟩,
        ⟨some 18, .mov (.tmp 10), none⟩,
        ⟨some 19, .bin .add .int (.tmp 17) (.tmp 18), none⟩,
        ⟨some 20, .mov (.tmp 0), none⟩,
        ⟨some 21, .mov (.tmp 2), none⟩,
        ⟨some 22, .mov (.tmp 10), none⟩,
        ⟨some 23, .bin .add .int (.tmp 21) (.tmp 22), none⟩,
        ⟨some 24, .mov (.tmp 0), none⟩,
        ⟨some 25, .mov (.tmp 2), none⟩,
        ⟨some 26, .mov (.tmp 10), none⟩,
        ⟨some 27, .bin .add .int (.tmp 25) (.tmp 26), none⟩,
        ⟨some 28, .iaddr 3 (.tmp 24) (.tmp 27), none⟩,
        ⟨some 29, .load (some 3) (.tmp 28), none⟩,
        ⟨some 30, .mov (.tmp 0), none⟩,
        ⟨some 31, .mov (.tmp 1), none⟩,
        ⟨some 32, .mov (.tmp 10), none⟩,
        ⟨some 33, .bin .add .int (.tmp 31) (.tmp 32), none⟩,
        ⟨some 34, .iaddr 3 (.tmp 30) (.tmp 33), none⟩,
        ⟨some 35, .load (some 3) (.tmp 34), none⟩,
        ⟨some 36, .iaddr 3 (.tmp 16) (.tmp 19), none⟩,
        ⟨none, .store 3 (.tmp 36) (.tmp 29), none⟩,
        ⟨some 37, .iaddr 3 (.tmp 20) (.tmp 23), none⟩,
        ⟨none, .store 3 (.tmp 37) (.tmp 35), none⟩] [0, 1, 2, 3, 10] none))
    (.region none [] [
      ⟨some 14, .mov (.tmp 10), none⟩,
      ⟨some 15, .bin .add .int (.tmp 14) (.cst (.int .i64 1)), none⟩,
      ⟨some 10, .mov (.tmp 15), none⟩] [0, 1, 2, 3, 10] none))

def c125 : ACode :=
  .seq (.region none [] [
      ⟨some 10, .mov (.cst (.int .i64 0)), none⟩] [0, 1, 2, 3, 10] none)
    (.block 0 (.loop l125_0_h l125_0_b))

def a125 : AFunc := ⟨5, c125, []⟩

def an125 : List RAnn := [
  { id := 0, live := [0, 1, 2, 3, 10] },
  { id := 1, live := [0, 1, 2, 3, 10, 13], hdr := [0, 1, 2, 3, 10] },
  { id := 3, head := some 24, live := [0, 1, 2, 3, 10], par := true },
  { id := 2, live := [0, 1, 2, 3, 10] }]

theorem comp125 : compF Try.prog an125 Try.f125 = some a125 := by kernel_rfl

def tab : List (Nat × AFn) := [
  (3, .code a3),
  (5, .code a5),
  (7, .code a7),
  (8, .code a8),
  (9, .code a9),
  (10, .code a10),
  (11, .code a11),
  (12, .code a12),
  (13, .code a13),
  (15, .code a15),
  (16, .code a16),
  (17, .code a17),
  (18, .code a18),
  (19, .code a19),
  (20, .code a20),
  (21, .code a21),
  (22, .code a22),
  (23, .code a23),
  (24, .code a24),
  (25, .code a25),
  (27, .code a27),
  (32, .code a32),
  (33, .code a33),
  (34, .code a34),
  (35, .code a35),
  (36, .code a36),
  (37, .code a37),
  (38, .code a38),
  (39, .code a39),
  (40, .code a40),
  (41, .code a41),
  (42, .code a42),
  (43, .code a43),
  (44, .code a44),
  (45, .code a45),
  (46, .code a46),
  (47, .code a47),
  (48, .code a48),
  (49, .code a49),
  (50, .code a50),
  (51, .code a51),
  (52, .code a52),
  (53, .code a53),
  (54, .code a54),
  (55, .code a55),
  (56, .code a56),
  (57, .code a57),
  (63, .code a63),
  (64, .code a64),
  (65, .code a65),
  (66, .code a66),
  (67, .code a67),
  (68, .code a68),
  (69, .code a69),
  (71, .code a71),
  (72, .code a72),
  (73, .code a73),
  (74, .code a74),
  (75, .code a75),
  (76, .code a76),
  (77, .code a77),
  (78, .code a78),
  (79, .code a79),
  (80, .code a80),
  (81, .code a81),
  (82, .code a82),
  (83, .code a83),
  (88, .code a88),
  (89, .code a89),
  (90, .code a90),
  (92, .code a92),
  (93, .code a93),
  (94, .code a94),
  (95, .code a95),
  (96, .code a96),
  (97, .code a97),
  (98, .code a98),
  (99, .code a99),
  (100, .code a100),
  (117, .code a117),
  (125, .code a125)]

theorem tab_ok : TableOk Try.prog (findFn tab) := tableOk_of ⟨⟨Try.f3, an3, by kernel_rfl, by kernel_rfl, comp3⟩,
  ⟨Try.f5, an5, by kernel_rfl, by kernel_rfl, comp5⟩,
  ⟨Try.f7, an7, by kernel_rfl, by kernel_rfl, comp7⟩,
  ⟨Try.f8, an8, by kernel_rfl, by kernel_rfl, comp8⟩,
  ⟨Try.f9, an9, by kernel_rfl, by kernel_rfl, comp9⟩,
  ⟨Try.f10, an10, by kernel_rfl, by kernel_rfl, comp10⟩,
  ⟨Try.f11, an11, by kernel_rfl, by kernel_rfl, comp11⟩,
  ⟨Try.f12, an12, by kernel_rfl, by kernel_rfl, comp12⟩,
  ⟨Try.f13, an13, by kernel_rfl, by kernel_rfl, comp13⟩,
  ⟨Try.f15, an15, by kernel_rfl, by kernel_rfl, comp15⟩,
  ⟨Try.f16, an16, by kernel_rfl, by kernel_rfl, comp16⟩,
  ⟨Try.f17, an17, by kernel_rfl, by kernel_rfl, comp17⟩,
  ⟨Try.f18, an18, by kernel_rfl, by kernel_rfl, comp18⟩,
  ⟨Try.f19, an19, by kernel_rfl, by kernel_rfl, comp19⟩,
  ⟨Try.f20, an20, by kernel_rfl, by kernel_rfl, comp20⟩,
  ⟨Try.f21, an21, by kernel_rfl, by kernel_rfl, comp21⟩,
  ⟨Try.f22, an22, by kernel_rfl, by kernel_rfl, comp22⟩,
  ⟨Try.f23, an23, by kernel_rfl, by kernel_rfl, comp23⟩,
  ⟨Try.f24, an24, by kernel_rfl, by kernel_rfl, comp24⟩,
  ⟨Try.f25, an25, by kernel_rfl, by kernel_rfl, comp25⟩,
  ⟨Try.f27, an27, by kernel_rfl, by kernel_rfl, comp27⟩,
  ⟨Try.f32, an32, by kernel_rfl, by kernel_rfl, comp32⟩,
  ⟨Try.f33, an33, by kernel_rfl, by kernel_rfl, comp33⟩,
  ⟨Try.f34, an34, by kernel_rfl, by kernel_rfl, comp34⟩,
  ⟨Try.f35, an35, by kernel_rfl, by kernel_rfl, comp35⟩,
  ⟨Try.f36, an36, by kernel_rfl, by kernel_rfl, comp36⟩,
  ⟨Try.f37, an37, by kernel_rfl, by kernel_rfl, comp37⟩,
  ⟨Try.f38, an38, by kernel_rfl, by kernel_rfl, comp38⟩,
  ⟨Try.f39, an39, by kernel_rfl, by kernel_rfl, comp39⟩,
  ⟨Try.f40, an40, by kernel_rfl, by kernel_rfl, comp40⟩,
  ⟨Try.f41, an41, by kernel_rfl, by kernel_rfl, comp41⟩,
  ⟨Try.f42, an42, by kernel_rfl, by kernel_rfl, comp42⟩,
  ⟨Try.f43, an43, by kernel_rfl, by kernel_rfl, comp43⟩,
  ⟨Try.f44, an44, by kernel_rfl, by kernel_rfl, comp44⟩,
  ⟨Try.f45, an45, by kernel_rfl, by kernel_rfl, comp45⟩,
  ⟨Try.f46, an46, by kernel_rfl, by kernel_rfl, comp46⟩,
  ⟨Try.f47, an47, by kernel_rfl, by kernel_rfl, comp47⟩,
  ⟨Try.f48, an48, by kernel_rfl, by kernel_rfl, comp48⟩,
  ⟨Try.f49, an49, by kernel_rfl, by kernel_rfl, comp49⟩,
  ⟨Try.f50, an50, by kernel_rfl, by kernel_rfl, comp50⟩,
  ⟨Try.f51, an51, by kernel_rfl, by kernel_rfl, comp51⟩,
  ⟨Try.f52, an52, by kernel_rfl, by kernel_rfl, comp52⟩,
  ⟨Try.f53, an53, by kernel_rfl, by kernel_rfl, comp53⟩,
  ⟨Try.f54, an54, by kernel_rfl, by kernel_rfl, comp54⟩,
  ⟨Try.f55, an55, by kernel_rfl, by kernel_rfl, comp55⟩,
  ⟨Try.f56, an56, by kernel_rfl, by kernel_rfl, comp56⟩,
  ⟨Try.f57, an57, by kernel_rfl, by kernel_rfl, comp57⟩,
  ⟨Try.f63, an63, by kernel_rfl, by kernel_rfl, comp63⟩,
  ⟨Try.f64, an64, by kernel_rfl, by kernel_rfl, comp64⟩,
  ⟨Try.f65, an65, by kernel_rfl, by kernel_rfl, comp65⟩,
  ⟨Try.f66, an66, by kernel_rfl, by kernel_rfl, comp66⟩,
  ⟨Try.f67, an67, by kernel_rfl, by kernel_rfl, comp67⟩,
  ⟨Try.f68, an68, by kernel_rfl, by kernel_rfl, comp68⟩,
  ⟨Try.f69, an69, by kernel_rfl, by kernel_rfl, comp69⟩,
  ⟨Try.f71, an71, by kernel_rfl, by kernel_rfl, comp71⟩,
  ⟨Try.f72, an72, by kernel_rfl, by kernel_rfl, comp72⟩,
  ⟨Try.f73, an73, by kernel_rfl, by kernel_rfl, comp73⟩,
  ⟨Try.f74, an74, by kernel_rfl, by kernel_rfl, comp74⟩,
  ⟨Try.f75, an75, by kernel_rfl, by kernel_rfl, comp75⟩,
  ⟨Try.f76, an76, by kernel_rfl, by kernel_rfl, comp76⟩,
  ⟨Try.f77, an77, by kernel_rfl, by kernel_rfl, comp77⟩,
  ⟨Try.f78, an78, by kernel_rfl, by kernel_rfl, comp78⟩,
  ⟨Try.f79, an79, by kernel_rfl, by kernel_rfl, comp79⟩,
  ⟨Try.f80, an80, by kernel_rfl, by kernel_rfl, comp80⟩,
  ⟨Try.f81, an81, by kernel_rfl, by kernel_rfl, comp81⟩,
  ⟨Try.f82, an82, by kernel_rfl, by kernel_rfl, comp82⟩,
  ⟨Try.f83, an83, by kernel_rfl, by kernel_rfl, comp83⟩,
  ⟨Try.f88, an88, by kernel_rfl, by kernel_rfl, comp88⟩,
  ⟨Try.f89, an89, by kernel_rfl, by kernel_rfl, comp89⟩,
  ⟨Try.f90, an90, by kernel_rfl, by kernel_rfl, comp90⟩,
  ⟨Try.f92, an92, by kernel_rfl, by kernel_rfl, comp92⟩,
  ⟨Try.f93, an93, by kernel_rfl, by kernel_rfl, comp93⟩,
  ⟨Try.f94, an94, by kernel_rfl, by kernel_rfl, comp94⟩,
  ⟨Try.f95, an95, by kernel_rfl, by kernel_rfl, comp95⟩,
  ⟨Try.f96, an96, by kernel_rfl, by kernel_rfl, comp96⟩,
  ⟨Try.f97, an97, by kernel_rfl, by kernel_rfl, comp97⟩,
  ⟨Try.f98, an98, by kernel_rfl, by kernel_rfl, comp98⟩,
  ⟨Try.f99, an99, by kernel_rfl, by kernel_rfl, comp99⟩,
  ⟨Try.f100, an100, by kernel_rfl, by kernel_rfl, comp100⟩,
  ⟨Try.f117, an117, by kernel_rfl, by kernel_rfl, comp117⟩,
  ⟨Try.f125, an125, by kernel_rfl, by kernel_rfl, comp125⟩,
  trivial⟩

theorem mixed : Try.prog.follows .mixedOrders = true := by kernel_rfl

theorem run_ok (n : Nat) : CallSound Try.prog (run (findFn tab) n) := run_sound mixed tab_ok n

end AI
end Go.Proofs.Ytnakgkibjlcjlaa
