/- Printed by a program of mine: the functions, compiled; the kernel checks each against the given form. -/
import Derived.Test.YtokdbmakkoleiaaSe
import Derived.Test.YtokdbmakkoleiaaProg
import Derived.KernelRfl
namespace Go.Proofs.Ytokdbmakkoleiaa
namespace AI

/- graphdb/graphdblaw16.DegreeReads -/
def c3 : ACode :=
  .seq (.region none [] [
      ⟨some 4, .box 6 (.tmp 0), none⟩,
      ⟨some 8, .mov (.cst (.bool false)), none⟩] [1, 2, 3, 4] none)
    (.seq (.seq (.region none [] [
      ⟨some 9, .load (some 6) (.tmp 4), none⟩,
      ⟨some 10, .call .pure 5 [(.tmp 9)], none⟩,
      ⟨some 11, .un .not (.tmp 10), none⟩,
      ⟨some 12, .mov (.tmp 11), none⟩,
      ⟨some 13, .mov (.tmp 2), some (12, false)⟩,
      ⟨some 14, .len .slice (.tmp 13), some (12, false)⟩,
      ⟨some 15, .bin .gtr .int (.tmp 14) (.cst (.int .i64 60)), some (12, false)⟩,
      ⟨some 16, .pick (.tmp 12) (.cst (.bool true)) (.tmp 15), none⟩] [1, 2, 3, 4, 16] none)
    (.cond (.tmp 16) (.seq (.region none [] [
        ⟨some 17, .call .pure 6 [], none⟩,
        ⟨some 8, .mov (.tmp 17), none⟩] [8] none)
      (.ret))
    (.skip)))
    (.seq (.region (some 31) [] [
      ⟨some 18, .load (some 6) (.tmp 4), none⟩,
      ⟨some 19, .mov (.tmp 1), none⟩,
      ⟨some 20, .call .pure 7 [(.tmp 18), (.tmp 19)], none⟩,
      ⟨some 21, .load (some 6) (.tmp 4), none⟩,
      ⟨some 22, .mov (.tmp 1), none⟩,
      ⟨some 23, .call .pure 8 [(.tmp 21), (.tmp 22)], none⟩,
      ⟨some 24, .bin .eql .int (.tmp 20) (.tmp 23), none⟩,
      ⟨some 25, .mov (.tmp 24), none⟩,
      ⟨some 26, .load (some 6) (.tmp 4), some (25, true)⟩,
      ⟨some 27, .mov (.tmp 2), some (25, true)⟩,
      ⟨some 28, .call .pure 9 [(.tmp 26), (.tmp 27)], some (25, true)⟩,
      ⟨some 29, .load (some 6) (.tmp 4), some (25, true)⟩,
      ⟨some 30, .mov (.tmp 2), some (25, true)⟩,
      ⟨some 31, .call .pure 10 [(.tmp 29), (.tmp 30)], some (25, true)⟩,
      ⟨some 32, .bin .eql .int (.tmp 28) (.tmp 31), some (25, true)⟩,
      ⟨some 33, .pick (.tmp 25) (.tmp 32) (.cst (.bool false)), none⟩,
      ⟨some 34, .mov (.tmp 33), none⟩,
      ⟨some 35, .load (some 6) (.tmp 4), some (34, true)⟩,
      ⟨some 36, .mov (.tmp 2), some (34, true)⟩,
      ⟨some 37, .mov (.tmp 3), some (34, true)⟩,
      ⟨some 38, .call .pure 11 [(.tmp 35), (.tmp 36), (.tmp 37)], some (34, true)⟩,
      ⟨some 39, .load (some 6) (.tmp 4), some (34, true)⟩,
      ⟨some 40, .mov (.tmp 2), some (34, true)⟩,
      ⟨some 41, .mov (.tmp 3), some (34, true)⟩,
      ⟨some 42, .call .pure 12 [(.tmp 39), (.tmp 40), (.tmp 41)], some (34, true)⟩,
      ⟨some 43, .bin .eql .int (.tmp 38) (.tmp 42), some (34, true)⟩,
      ⟨some 44, .pick (.tmp 34) (.tmp 43) (.cst (.bool false)), none⟩,
      ⟨some 45, .mov (.tmp 44), none⟩,
      ⟨some 46, .call .pure 6 [], some (45, true)⟩,
      ⟨some 47, .pick (.tmp 45) (.tmp 46) (.cst (.bool false)), none⟩,
      ⟨some 8, .mov (.tmp 47), none⟩] [8] none)
    (.ret)))

def a3 : AFunc := ⟨4, c3, [.tmp 8]⟩

def an3 : List RAnn := [
  { id := 0, live := [1, 2, 3, 4] },
  { id := 1, live := [1, 2, 3, 4, 16] },
  { id := 2, live := [8] },
  { id := 3, head := some 31, live := [8] }]

theorem comp3 : compF Try.prog an3 Try.f3 = some a3 := by kernel_rfl

/- graphdb/graphdblaw16.brief -/
/-- loop 0 of function 5 -/
def l5_0_h : List Nat := [1, 3]

def l5_0_b : ACode :=
  .seq (.seq (.region none [] [
      ⟨some 27, .mov (.tmp 3), none⟩,
      ⟨some 28, .faddr 4 (.tmp 1), none⟩,
      ⟨some 29, .load none (.tmp 28), none⟩,
      ⟨some 30, .len .slice (.tmp 29), none⟩,
      ⟨some 31, .bin .lss .int (.tmp 27) (.tmp 30), none⟩] [1, 3, 31] none)
    (.cond (.tmp 31) (.skip)
    (.exit 0)))
    (.seq (.block 1 (.seq (.region none [] [
        ⟨some 34, .faddr 4 (.tmp 1), none⟩,
        ⟨some 35, .load none (.tmp 34), none⟩,
        ⟨some 36, .mov (.tmp 3), none⟩,
        ⟨some 37, .iaddr 1 (.tmp 35) (.tmp 36), none⟩,
        ⟨some 38, .load none (.tmp 37), none⟩,
        ⟨some 39, .len .slice (.tmp 38), none⟩,
        ⟨some 40, .bin .gtr .int (.tmp 39) (.cst (.int .i64 200)), none⟩] [1, 3, 40] none)
      (.cond (.tmp 40) (.seq (.region none [] [
          ⟨some 2, .mov (.cst (.bool false)), none⟩] [2] none)
        (.ret))
      (.skip))))
    (.region none [] [
      ⟨some 32, .mov (.tmp 3), none⟩,
      ⟨some 33, .bin .add .int (.tmp 32) (.cst (.int .i64 1)), none⟩,
      ⟨some 3, .mov (.tmp 33), none⟩] [1, 3] none))

/-- loop 1 of function 5 -/
def l5_1_h : List Nat := [1, 4]

def l5_1_b : ACode :=
  .seq (.seq (.region none [] [
      ⟨some 41, .mov (.tmp 4), none⟩,
      ⟨some 42, .faddr 5 (.tmp 1), none⟩,
      ⟨some 43, .load none (.tmp 42), none⟩,
      ⟨some 44, .len .slice (.tmp 43), none⟩,
      ⟨some 45, .bin .lss .int (.tmp 41) (.tmp 44), none⟩] [1, 4, 45] none)
    (.cond (.tmp 45) (.skip)
    (.exit 2)))
    (.seq (.block 3 (.seq (.region none [] [
        ⟨some 48, .faddr 5 (.tmp 1), none⟩,
        ⟨some 49, .load none (.tmp 48), none⟩,
        ⟨some 50, .mov (.tmp 4), none⟩,
        ⟨some 51, .iaddr 1 (.tmp 49) (.tmp 50), none⟩,
        ⟨some 52, .load none (.tmp 51), none⟩,
        ⟨some 53, .len .slice (.tmp 52), none⟩,
        ⟨some 54, .bin .gtr .int (.tmp 53) (.cst (.int .i64 200)), none⟩] [1, 4, 54] none)
      (.cond (.tmp 54) (.seq (.region none [] [
          ⟨some 2, .mov (.cst (.bool false)), none⟩] [2] none)
        (.ret))
      (.skip))))
    (.region none [] [
      ⟨some 46, .mov (.tmp 4), none⟩,
      ⟨some 47, .bin .add .int (.tmp 46) (.cst (.int .i64 1)), none⟩,
      ⟨some 4, .mov (.tmp 47), none⟩] [1, 4] none))

def c5 : ACode :=
  .seq (.region none [] [
      ⟨some 1, .box 6 (.tmp 0), none⟩,
      ⟨some 2, .mov (.cst (.bool false)), none⟩] [1] none)
    (.seq (.seq (.region none [] [
      ⟨some 5, .faddr 2 (.tmp 1), none⟩,
      ⟨some 6, .load none (.tmp 5), none⟩,
      ⟨some 7, .len .slice (.tmp 6), none⟩,
      ⟨some 8, .bin .gtr .int (.tmp 7) (.cst (.int .i64 60)), none⟩,
      ⟨some 9, .mov (.tmp 8), none⟩,
      ⟨some 10, .faddr 3 (.tmp 1), some (9, false)⟩,
      ⟨some 11, .load none (.tmp 10), some (9, false)⟩,
      ⟨some 12, .len .slice (.tmp 11), some (9, false)⟩,
      ⟨some 13, .bin .gtr .int (.tmp 12) (.cst (.int .i64 60)), some (9, false)⟩,
      ⟨some 14, .pick (.tmp 9) (.cst (.bool true)) (.tmp 13), none⟩,
      ⟨some 15, .mov (.tmp 14), none⟩,
      ⟨some 16, .faddr 4 (.tmp 1), some (15, false)⟩,
      ⟨some 17, .load none (.tmp 16), some (15, false)⟩,
      ⟨some 18, .len .slice (.tmp 17), some (15, false)⟩,
      ⟨some 19, .bin .gtr .int (.tmp 18) (.cst (.int .i64 60)), some (15, false)⟩,
      ⟨some 20, .pick (.tmp 15) (.cst (.bool true)) (.tmp 19), none⟩,
      ⟨some 21, .mov (.tmp 20), none⟩,
      ⟨some 22, .faddr 5 (.tmp 1), some (21, false)⟩,
      ⟨some 23, .load none (.tmp 22), some (21, false)⟩,
      ⟨some 24, .len .slice (.tmp 23), some (21, false)⟩,
      ⟨some 25, .bin .gtr .int (.tmp 24) (.cst (.int .i64 60)), some (21, false)⟩,
      ⟨some 26, .pick (.tmp 21) (.cst (.bool true)) (.tmp 25), none⟩] [1, 26] none)
    (.cond (.tmp 26) (.seq (.region none [] [
        ⟨some 2, .mov (.cst (.bool false)), none⟩] [2] none)
      (.ret))
    (.skip)))
    (.seq (.seq (.region none [] [
      ⟨some 3, .mov (.cst (.int .i64 0)), none⟩] [1, 3] none)
    (.block 0 (.loop l5_0_h l5_0_b)))
    (.seq (.seq (.region none [] [
      ⟨some 4, .mov (.cst (.int .i64 0)), none⟩] [1, 4] none)
    (.block 2 (.loop l5_1_h l5_1_b)))
    (.seq (.region none [] [
      ⟨some 2, .mov (.cst (.bool true)), none⟩] [2] none)
    (.ret)))))

def a5 : AFunc := ⟨1, c5, [.tmp 2]⟩

def an5 : List RAnn := [
  { id := 0, live := [1] },
  { id := 1, live := [1, 26] },
  { id := 2, live := [2] },
  { id := 3, live := [1, 3] },
  { id := 4, live := [1, 3, 31], hdr := [1, 3] },
  { id := 6, live := [1, 3, 40] },
  { id := 7, live := [2] },
  { id := 5, live := [1, 3] },
  { id := 8, live := [1, 4] },
  { id := 9, live := [1, 4, 45], hdr := [1, 4] },
  { id := 11, live := [1, 4, 54] },
  { id := 12, live := [2] },
  { id := 10, live := [1, 4] },
  { id := 13, live := [2] }]

theorem comp5 : compF Try.prog an5 Try.f5 = some a5 := by kernel_rfl

/- graphdb/graphdblaw16.alive -/
def c6 : ACode :=
  .seq (.region none [] [
      ⟨some 0, .mov (.cst (.bool false)), none⟩] [] none)
    (.seq (.region none [] [
      ⟨some 4, .call .pure 16 [], none⟩,
      ⟨some 5, .call .pure 15 [(.tmp 4)], none⟩,
      ⟨some 3, .mov (.tmp 5), none⟩,
      ⟨some 6, .ext (.tmp 3) 0, none⟩,
      ⟨some 7, .ext (.tmp 3) 1, none⟩,
      ⟨some 1, .alloc 6 (.agg [.int .i64 0, .int .i64 0, .sl false [], .sl false [], .sl false [], .sl false []]), none⟩,
      ⟨none, .store 6 (.tmp 1) (.tmp 6), none⟩,
      ⟨some 2, .mov (.tmp 7), none⟩] [1, 2] none)
    (.seq (.region none [] [
      ⟨some 8, .call .pure 16 [], none⟩,
      ⟨some 9, .call .pure 18 [(.tmp 8), (.cst (.str [84])), (.cst (.int .i64 1))], none⟩,
      ⟨some 10, .lit false 1 (.int .i64 0) 1 [(0, (.cst (.int .i64 2)))], none⟩,
      ⟨some 11, .call .pure 17 [(.tmp 9), (.tmp 10)], none⟩,
      ⟨some 12, .mov (.tmp 11), none⟩,
      ⟨some 13, .call .pure 16 [], some (12, true)⟩,
      ⟨some 14, .call .pure 18 [(.tmp 13), (.cst (.str [84])), (.cst (.int .i64 2))], some (12, true)⟩,
      ⟨some 15, .lit false 1 (.int .i64 0) 2 [(0, (.cst (.int .i64 1))), (1, (.cst (.int .i64 1)))], some (12, true)⟩,
      ⟨some 16, .call .pure 17 [(.tmp 14), (.tmp 15)], some (12, true)⟩,
      ⟨some 17, .pick (.tmp 12) (.tmp 16) (.cst (.bool false)), none⟩,
      ⟨some 18, .mov (.tmp 17), none⟩,
      ⟨some 19, .call .pure 16 [], some (18, true)⟩,
      ⟨some 20, .call .pure 18 [(.tmp 19), (.cst (.str [])), (.cst (.int .i64 1))], some (18, true)⟩,
      ⟨some 21, .lit false 1 (.int .i64 0) 2 [(0, (.cst (.int .i64 2))), (1, (.cst (.int .i64 1)))], some (18, true)⟩,
      ⟨some 22, .call .pure 17 [(.tmp 20), (.tmp 21)], some (18, true)⟩,
      ⟨some 23, .pick (.tmp 18) (.tmp 22) (.cst (.bool false)), none⟩,
      ⟨some 24, .mov (.tmp 23), none⟩,
      ⟨some 25, .mov (.tmp 2), some (24, true)⟩,
      ⟨some 26, .bin .eql .int (.tmp 25) (.cst (.int .i64 0)), some (24, true)⟩,
      ⟨some 27, .pick (.tmp 24) (.tmp 26) (.cst (.bool false)), none⟩,
      ⟨some 28, .mov (.tmp 27), none⟩,
      ⟨some 29, .faddr 0 (.tmp 1), some (28, true)⟩,
      ⟨some 30, .load none (.tmp 29), some (28, true)⟩,
      ⟨some 31, .bin .eql .int (.tmp 30) (.cst (.int .i64 3)), some (28, true)⟩,
      ⟨some 32, .pick (.tmp 28) (.tmp 31) (.cst (.bool false)), none⟩,
      ⟨some 33, .mov (.tmp 32), none⟩,
      ⟨some 34, .faddr 3 (.tmp 1), some (33, true)⟩,
      ⟨some 35, .load none (.tmp 34), some (33, true)⟩,
      ⟨some 36, .len .slice (.tmp 35), some (33, true)⟩,
      ⟨some 37, .bin .eql .int (.tmp 36) (.cst (.int .i64 2)), some (33, true)⟩,
      ⟨some 38, .pick (.tmp 33) (.tmp 37) (.cst (.bool false)), none⟩,
      ⟨some 39, .mov (.tmp 38), none⟩,
      ⟨some 40, .faddr 3 (.tmp 1), some (39, true)⟩,
      ⟨some 41, .load none (.tmp 40), some (39, true)⟩,
      ⟨some 42, .iaddr 2 (.tmp 41) (.cst (.int .i64 0)), some (39, true)⟩,
      ⟨some 43, .load (some 2) (.tmp 42), some (39, true)⟩,
      ⟨some 44, .build [.str [], .int .i64 0] [(0, 1, (.cst (.str [84]))), (1, 1, (.cst (.int .i64 2)))], some (39, true)⟩,
      ⟨some 45, .bin .eql (.flat [.str, .int]) (.tmp 43) (.tmp 44), some (39, true)⟩,
      ⟨some 46, .pick (.tmp 39) (.tmp 45) (.cst (.bool false)), none⟩,
      ⟨some 47, .mov (.tmp 46), none⟩,
      ⟨some 48, .load (some 6) (.tmp 1), some (47, true)⟩,
      ⟨some 49, .call .pure 7 [(.tmp 48), (.cst (.str [65]))], some (47, true)⟩,
      ⟨some 50, .bin .eql .int (.tmp 49) (.cst (.int .i64 2)), some (47, true)⟩,
      ⟨some 51, .pick (.tmp 47) (.tmp 50) (.cst (.bool false)), none⟩,
      ⟨some 52, .mov (.tmp 51), none⟩,
      ⟨some 53, .load (some 6) (.tmp 1), some (52, true)⟩,
      ⟨some 54, .call .pure 11 [(.tmp 53), (.cst (.sl false [])), (.cst (.int .i64 1))], some (52, true)⟩,
      ⟨some 55, .bin .eql .int (.tmp 54) (.cst (.int .i64 3)), some (52, true)⟩,
      ⟨some 56, .pick (.tmp 52) (.tmp 55) (.cst (.bool false)), none⟩,
      ⟨some 57, .mov (.tmp 56), none⟩,
      ⟨some 58, .load (some 6) (.tmp 1), some (57, true)⟩,
      ⟨some 59, .lit false 1 (.str []) 1 [(0, (.cst (.str [85])))], some (57, true)⟩,
      ⟨some 60, .call .pure 9 [(.tmp 58), (.tmp 59)], some (57, true)⟩,
      ⟨some 61, .bin .eql .int (.tmp 60) (.cst (.int .i64 1)), some (57, true)⟩,
      ⟨some 62, .pick (.tmp 57) (.tmp 61) (.cst (.bool false)), none⟩,
      ⟨some 63, .mov (.tmp 62), none⟩,
      ⟨some 64, .lit false 1 (.int .i64 0) 2 [(0, (.cst (.int .i64 1))), (1, (.cst (.int .i64 3)))], some (63, true)⟩,
      ⟨some 65, .lit false 1 (.int .i64 0) 3 [(0, (.cst (.int .i64 2))), (1, (.cst (.int .i64 (-5)))), (2, (.cst (.int .i64 1)))], some (63, true)⟩,
      ⟨some 66, .call .pure 13 [(.tmp 64), (.tmp 65)], some (63, true)⟩,
      ⟨some 67, .bin .eql .int (.tmp 66) (.cst (.int .i64 7)), some (63, true)⟩,
      ⟨some 68, .pick (.tmp 63) (.tmp 67) (.cst (.bool false)), none⟩,
      ⟨some 0, .mov (.tmp 68), none⟩] [0] none)
    (.ret)))

def a6 : AFunc := ⟨0, c6, [.tmp 0]⟩

def an6 : List RAnn := [
  { id := 0 },
  { id := 1, live := [1, 2] },
  { id := 2, live := [0] }]

theorem comp6 : compF Try.prog an6 Try.f6 = some a6 := by kernel_rfl

/- graphdb/degree.Nodes -/
def c7 : ACode :=
  .seq (.region none [] [
      ⟨some 2, .box 6 (.tmp 0), none⟩,
      ⟨some 4, .mov (.cst (.int .i64 0)), none⟩] [1, 2] none)
    (.seq (.seq (.region none [] [
      ⟨some 5, .mov (.tmp 1), none⟩,
      ⟨some 6, .bin .eql .str (.tmp 5) (.cst (.str [])), none⟩] [1, 2, 6] none)
    (.cond (.tmp 6) (.seq (.region none [] [
        ⟨some 7, .faddr 0 (.tmp 2), none⟩,
        ⟨some 8, .load none (.tmp 7), none⟩,
        ⟨some 4, .mov (.tmp 8), none⟩] [4] none)
      (.ret))
    (.skip)))
    (.seq (.region none [] [
      ⟨some 9, .faddr 2 (.tmp 2), none⟩,
      ⟨some 10, .load none (.tmp 9), none⟩,
      ⟨some 11, .mov (.tmp 1), none⟩,
      ⟨some 12, .call .pure 19 [(.tmp 10), (.tmp 11)], none⟩,
      ⟨some 4, .mov (.tmp 12), none⟩] [4] none)
    (.ret)))

def a7 : AFunc := ⟨2, c7, [.tmp 4]⟩

def an7 : List RAnn := [
  { id := 0, live := [1, 2] },
  { id := 1, live := [1, 2, 6] },
  { id := 2, live := [4] },
  { id := 3, live := [4] }]

theorem comp7 : compF Try.prog an7 Try.f7 = some a7 := by kernel_rfl

/- graphdb/graphdbref16.Nodes -/
def c8 : ACode :=
  .seq (.region none [] [
      ⟨some 2, .box 6 (.tmp 0), none⟩,
      ⟨some 4, .mov (.cst (.int .i64 0)), none⟩] [1, 2] none)
    (.seq (.seq (.region none [] [
      ⟨some 6, .mov (.tmp 1), none⟩,
      ⟨some 7, .bin .eql .str (.tmp 6) (.cst (.str [])), none⟩] [1, 2, 7] none)
    (.cond (.tmp 7) (.seq (.region none [] [
        ⟨some 8, .faddr 0 (.tmp 2), none⟩,
        ⟨some 9, .load none (.tmp 8), none⟩,
        ⟨some 4, .mov (.tmp 9), none⟩] [4] none)
      (.ret))
    (.skip)))
    (.seq (.region none [] [
      ⟨some 10, .faddr 2 (.tmp 2), none⟩,
      ⟨some 11, .load none (.tmp 10), none⟩,
      ⟨some 12, .mov (.tmp 1), none⟩,
      ⟨some 13, .call .pure 20 [(.tmp 11), (.tmp 12)], none⟩,
      ⟨some 5, .mov (.tmp 13), none⟩] [2, 5] none)
    (.seq (.seq (.region none [] [
      ⟨some 14, .mov (.tmp 5), none⟩,
      ⟨some 15, .bin .lss .int (.tmp 14) (.cst (.int .i64 0)), none⟩] [2, 5, 15] none)
    (.cond (.tmp 15) (.seq (.region none [] [
        ⟨some 4, .mov (.cst (.int .i64 0)), none⟩] [4] none)
      (.ret))
    (.skip)))
    (.seq (.region none [] [
      ⟨some 16, .faddr 2 (.tmp 2), none⟩,
      ⟨some 17, .load none (.tmp 16), none⟩,
      ⟨some 18, .mov (.tmp 5), none⟩,
      ⟨some 19, .iaddr 2 (.tmp 17) (.tmp 18), none⟩,
      ⟨some 20, .faddr 1 (.tmp 19), none⟩,
      ⟨some 21, .load none (.tmp 20), none⟩,
      ⟨some 4, .mov (.tmp 21), none⟩] [4] none)
    (.ret)))))

def a8 : AFunc := ⟨2, c8, [.tmp 4]⟩

def an8 : List RAnn := [
  { id := 0, live := [1, 2] },
  { id := 1, live := [1, 2, 7] },
  { id := 2, live := [4] },
  { id := 3, live := [2, 5] },
  { id := 4, live := [2, 5, 15] },
  { id := 5, live := [4] },
  { id := 6, live := [4] }]

theorem comp8 : compF Try.prog an8 Try.f8 = some a8 := by kernel_rfl

/- graphdb/degree.Edges -/
/-- loop 0 of function 9 -/
def l9_0_h : List Nat := [2, 5, 13, 14, 15]

def l9_0_b : ACode :=
  .seq (.region none [] [
      ⟨some 16, .bin .lss .int (.tmp 15) (.tmp 14), none⟩] [2, 5, 13, 14, 15, 16] none)
    (.seq (.cond (.tmp 16) (.skip)
    (.exit 0))
    (.seq (.block 1 (.seq (.region none [] [
        ⟨some 17, .iaddr 1 (.tmp 13) (.tmp 15), none⟩,
        ⟨some 18, .load none (.tmp 17), none⟩,
        ⟨some 7, .mov (.tmp 18), none⟩] [2, 5, 7, 13, 14, 15] none)
      (.region none [] [
        ⟨some 19, .mov (.tmp 5), none⟩,
        ⟨some 20, .faddr 3 (.tmp 2), none⟩,
        ⟨some 21, .load none (.tmp 20), none⟩,
        ⟨some 22, .mov (.tmp 7), none⟩,
        ⟨some 23, .call .pure 19 [(.tmp 21), (.tmp 22)], none⟩,
        ⟨some 24, .bin .add .int (.tmp 19) (.tmp 23), none⟩,
        ⟨some 5, .mov (.tmp 24), none⟩] [2, 5, 13, 14, 15] none)))
    (.region none [] [
      ⟨some 25, .bin .add .int (.tmp 15) (.cst (.int .i64 1)), none⟩,
      ⟨some 15, .mov (.tmp 25), none⟩] [2, 5, 13, 14, 15] none)))

def c9 : ACode :=
  .seq (.region none [] [
      ⟨some 2, .box 6 (.tmp 0), none⟩,
      ⟨some 4, .mov (.cst (.int .i64 0)), none⟩] [1, 2] none)
    (.seq (.seq (.region none [] [
      ⟨some 8, .mov (.tmp 1), none⟩,
      ⟨some 9, .len .slice (.tmp 8), none⟩,
      ⟨some 10, .bin .eql .int (.tmp 9) (.cst (.int .i64 0)), none⟩] [1, 2, 10] none)
    (.cond (.tmp 10) (.seq (.region none [] [
        ⟨some 11, .faddr 1 (.tmp 2), none⟩,
        ⟨some 12, .load none (.tmp 11), none⟩,
        ⟨some 4, .mov (.tmp 12), none⟩] [4] none)
      (.ret))
    (.skip)))
    (.seq (.region none [] [
      ⟨some 5, .mov (.cst (.int .i64 0)), none⟩] [1, 2, 5] none)
    (.seq (.seq (.region none [] [
      ⟨some 13, .mov (.tmp 1), none⟩,
      ⟨some 14, .len .slice (.tmp 13), none⟩,
      ⟨some 15, .mov (.cst (.int .i64 0)), none⟩] [2, 5, 13, 14, 15] none)
    (.block 0 (.loop l9_0_h l9_0_b)))
    (.seq (.region none [] [
      ⟨some 26, .mov (.tmp 5), none⟩,
      ⟨some 4, .mov (.tmp 26), none⟩] [4] none)
    (.ret)))))

def a9 : AFunc := ⟨2, c9, [.tmp 4]⟩

def an9 : List RAnn := [
  { id := 0, live := [1, 2] },
  { id := 1, live := [1, 2, 10] },
  { id := 2, live := [4] },
  { id := 3, live := [1, 2, 5] },
  { id := 4, live := [2, 5, 13, 14, 15] },
  { id := 5, live := [2, 5, 13, 14, 15, 16], hdr := [2, 5, 13, 14, 15] },
  { id := 6, live := [2, 5, 7, 13, 14, 15] },
  { id := 7, live := [2, 5, 13, 14, 15] },
  { id := 8, live := [2, 5, 13, 14, 15] },
  { id := 9, live := [4] }]

theorem comp9 : compF Try.prog an9 Try.f9 = some a9 := by kernel_rfl

/- graphdb/graphdbref16.Edges -/
/-- loop 0 of function 10 -/
def l10_0_h : List Nat := [1, 2, 5, 6]

def l10_0_b : ACode :=
  .seq (.seq (.region none [] [
      ⟨some 13, .mov (.tmp 6), none⟩,
      ⟨some 14, .mov (.tmp 1), none⟩,
      ⟨some 15, .len .slice (.tmp 14), none⟩,
      ⟨some 16, .bin .lss .int (.tmp 13) (.tmp 15), none⟩] [1, 2, 5, 6, 16] none)
    (.cond (.tmp 16) (.skip)
    (.exit 0)))
    (.seq (.block 1 (.seq (.region (some 8) [] [
        ⟨some 19, .faddr 3 (.tmp 2), none⟩,
        ⟨some 20, .load none (.tmp 19), none⟩,
        ⟨some 21, .mov (.tmp 1), none⟩,
        ⟨some 22, .mov (.tmp 6), none⟩,
        ⟨some 23, .iaddr 1 (.tmp 21) (.tmp 22), none⟩,
        ⟨some 24, .load none (.tmp 23), none⟩,
        ⟨some 25, .call .pure 20 [(.tmp 20), (.tmp 24)], none⟩,
        ⟨some 7, .mov (.tmp 25), none⟩] [1, 2, 5, 6, 7] none)
      (.seq (.region none [] [
        ⟨some 26, .mov (.tmp 7), none⟩,
        ⟨some 27, .bin .geq .int (.tmp 26) (.cst (.int .i64 0)), none⟩] [1, 2, 5, 6, 7, 27] none)
      (.cond (.tmp 27) (.region none [] [
          ⟨some 28, .mov (.tmp 5), none⟩,
          ⟨some 29, .faddr 3 (.tmp 2), none⟩,
          ⟨some 30, .load none (.tmp 29), none⟩,
          ⟨some 31, .mov (.tmp 7), none⟩,
          ⟨some 32, .iaddr 2 (.tmp 30) (.tmp 31), none⟩,
          ⟨some 33, .faddr 1 (.tmp 32), none⟩,
          ⟨some 34, .load none (.tmp 33), none⟩,
          ⟨some 35, .bin .add .int (.tmp 28) (.tmp 34), none⟩,
          ⟨some 5, .mov (.tmp 35), none⟩] [1, 2, 5, 6] none)
      (.skip)))))
    (.region none [] [
      ⟨some 17, .mov (.tmp 6), none⟩,
      ⟨some 18, .bin .add .int (.tmp 17) (.cst (.int .i64 1)), none⟩,
      ⟨some 6, .mov (.tmp 18), none⟩] [1, 2, 5, 6] none))

def c10 : ACode :=
  .seq (.region none [] [
      ⟨some 2, .box 6 (.tmp 0), none⟩,
      ⟨some 4, .mov (.cst (.int .i64 0)), none⟩] [1, 2] none)
    (.seq (.seq (.region none [] [
      ⟨some 8, .mov (.tmp 1), none⟩,
      ⟨some 9, .len .slice (.tmp 8), none⟩,
      ⟨some 10, .bin .eql .int (.tmp 9) (.cst (.int .i64 0)), none⟩] [1, 2, 10] none)
    (.cond (.tmp 10) (.seq (.region none [] [
        ⟨some 11, .faddr 1 (.tmp 2), none⟩,
        ⟨some 12, .load none (.tmp 11), none⟩,
        ⟨some 4, .mov (.tmp 12), none⟩] [4] none)
      (.ret))
    (.skip)))
    (.seq (.region none [] [
      ⟨some 5, .mov (.cst (.int .i64 0)), none⟩] [1, 2, 5] none)
    (.seq (.seq (.region none [] [
      ⟨some 6, .mov (.cst (.int .i64 0)), none⟩] [1, 2, 5, 6] none)
    (.block 0 (.loop l10_0_h l10_0_b)))
    (.seq (.region none [] [
      ⟨some 36, .mov (.tmp 5), none⟩,
      ⟨some 4, .mov (.tmp 36), none⟩] [4] none)
    (.ret)))))

def a10 : AFunc := ⟨2, c10, [.tmp 4]⟩

def an10 : List RAnn := [
  { id := 0, live := [1, 2] },
  { id := 1, live := [1, 2, 10] },
  { id := 2, live := [4] },
  { id := 3, live := [1, 2, 5] },
  { id := 4, live := [1, 2, 5, 6] },
  { id := 5, live := [1, 2, 5, 6, 16], hdr := [1, 2, 5, 6] },
  { id := 7, head := some 8, live := [1, 2, 5, 6, 7] },
  { id := 8, live := [1, 2, 5, 6, 7, 27] },
  { id := 9, live := [1, 2, 5, 6] },
  { id := 6, live := [1, 2, 5, 6] },
  { id := 10, live := [4] }]

theorem comp10 : compF Try.prog an10 Try.f10 = some a10 := by kernel_rfl

/- graphdb/degree.Max -/
/-- loop 0 of function 11 -/
def l11_0_h : List Nat := [7, 8, 27, 28]

def l11_0_b : ACode :=
  .seq (.region none [] [
      ⟨some 29, .bin .lss .int (.tmp 28) (.tmp 27), none⟩] [7, 8, 27, 28, 29] none)
    (.seq (.cond (.tmp 29) (.skip)
    (.exit 1))
    (.seq (.block 2 (.seq (.region none [] [
        ⟨some 30, .mov (.tmp 28), none⟩,
        ⟨some 9, .mov (.tmp 30), none⟩] [7, 8, 9, 27, 28] none)
      (.region none [] [
        ⟨some 31, .mov (.tmp 8), none⟩,
        ⟨some 32, .mov (.tmp 7), none⟩,
        ⟨some 33, .mov (.tmp 9), none⟩,
        ⟨some 34, .call .pure 21 [(.tmp 32), (.tmp 33)], none⟩,
        ⟨some 35, .bin .add .int (.tmp 31) (.tmp 34), none⟩,
        ⟨some 8, .mov (.tmp 35), none⟩] [7, 8, 27, 28] none)))
    (.region none [] [
      ⟨some 36, .bin .add .int (.tmp 28) (.cst (.int .i64 1)), none⟩,
      ⟨some 28, .mov (.tmp 36), none⟩] [7, 8, 27, 28] none)))

/-- loop 1 of function 11 -/
def l11_1_h : List Nat := [3, 7, 8, 38, 39, 40]

def l11_1_b : ACode :=
  .seq (.region none [] [
      ⟨some 41, .bin .lss .int (.tmp 40) (.tmp 39), none⟩] [3, 7, 8, 38, 39, 40, 41] none)
    (.seq (.cond (.tmp 41) (.skip)
    (.exit 3))
    (.seq (.block 4 (.seq (.region none [] [
        ⟨some 42, .iaddr 1 (.tmp 38) (.tmp 40), none⟩,
        ⟨some 43, .load none (.tmp 42), none⟩,
        ⟨some 11, .alloc 1 (.str []), none⟩,
        ⟨none, .store 1 (.tmp 11) (.tmp 43), none⟩] [3, 7, 8, 11, 38, 39, 40] none)
      (.seq (.region none [] [
        ⟨some 44, .faddr 3 (.tmp 3), none⟩,
        ⟨some 45, .load none (.tmp 44), none⟩,
        ⟨some 46, .mkfn 23 [(.tmp 11)], none⟩,
        ⟨some 47, .call .borrow 22 [(.tmp 45), (.tmp 46)], none⟩,
        ⟨some 12, .mov (.tmp 47), none⟩] [3, 7, 8, 12, 38, 39, 40] none)
      (.seq (.region none [] [
        ⟨some 48, .mov (.tmp 12), none⟩,
        ⟨some 49, .bin .geq .int (.tmp 48) (.cst (.int .i64 0)), none⟩] [3, 7, 8, 12, 38, 39, 40, 49] none)
      (.cond (.tmp 49) (.region none [] [
          ⟨some 50, .mov (.tmp 8), none⟩,
          ⟨some 51, .mov (.tmp 7), none⟩,
          ⟨some 52, .mov (.tmp 12), none⟩,
          ⟨some 53, .call .pure 21 [(.tmp 51), (.tmp 52)], none⟩,
          ⟨some 54, .bin .add .int (.tmp 50) (.tmp 53), none⟩,
          ⟨some 8, .mov (.tmp 54), none⟩] [3, 7, 8, 38, 39, 40] none)
      (.skip))))))
    (.region none [] [
      ⟨some 55, .bin .add .int (.tmp 40) (.cst (.int .i64 1)), none⟩,
      ⟨some 40, .mov (.tmp 55), none⟩] [3, 7, 8, 38, 39, 40] (some 1))))

def c11 : ACode :=
  .seq (.region none [] [
      ⟨some 3, .box 6 (.tmp 0), none⟩,
      ⟨some 6, .mov (.cst (.int .i64 0)), none⟩] [1, 2, 3] none)
    (.seq (.region none [] [
      ⟨some 7, .mov (.cst (.sl false [])), none⟩] [1, 2, 3, 7] none)
    (.seq (.seq (.region none [] [
      ⟨some 13, .mov (.tmp 2), none⟩] [1, 3, 7, 13] none)
    (.block 0 (.seq (.region none [] [
        ⟨some 15, .bin .eql .int (.tmp 13) (.cst (.int .i64 1)), none⟩,
        ⟨some 14, .mov (.tmp 15), none⟩] [1, 3, 7, 13, 14] none)
      (.cond (.tmp 14) (.region none [] [
          ⟨some 16, .faddr 4 (.tmp 3), none⟩,
          ⟨some 17, .load none (.tmp 16), none⟩,
          ⟨some 7, .mov (.tmp 17), none⟩] [1, 3, 7] none)
      (.seq (.region none [] [
          ⟨some 19, .bin .eql .int (.tmp 13) (.cst (.int .i64 2)), none⟩,
          ⟨some 18, .mov (.tmp 19), none⟩] [1, 3, 7, 18] none)
        (.cond (.tmp 18) (.region none [] [
            ⟨some 20, .faddr 5 (.tmp 3), none⟩,
            ⟨some 21, .load none (.tmp 20), none⟩,
            ⟨some 7, .mov (.tmp 21), none⟩] [1, 3, 7] none)
        (.skip)))))))
    (.seq (.region none [] [
      ⟨some 8, .mov (.cst (.int .i64 0)), none⟩] [1, 3, 7, 8] none)
    (.seq (.seq (.region none [] [
      ⟨some 22, .mov (.tmp 1), none⟩,
      ⟨some 23, .len .slice (.tmp 22), none⟩,
      ⟨some 24, .bin .eql .int (.tmp 23) (.cst (.int .i64 0)), none⟩] [1, 3, 7, 8, 24] none)
    (.cond (.tmp 24) (.seq (.seq (.region none [] [
        ⟨some 25, .faddr 3 (.tmp 3), none⟩,
        ⟨some 26, .load none (.tmp 25), none⟩,
        ⟨some 27, .len .slice (.tmp 26), none⟩,
        ⟨some 28, .mov (.cst (.int .i64 0)), none⟩] [7, 8, 27, 28] none)
      (.block 1 (.loop l11_0_h l11_0_b)))
      (.seq (.region none [] [
        ⟨some 37, .mov (.tmp 8), none⟩,
        ⟨some 6, .mov (.tmp 37), none⟩] [6] none)
      (.ret)))
    (.skip)))
    (.seq (.seq (.region none [] [
      ⟨some 38, .mov (.tmp 1), none⟩,
      ⟨some 39, .len .slice (.tmp 38), none⟩,
      ⟨some 40, .mov (.cst (.int .i64 0)), none⟩] [3, 7, 8, 38, 39, 40] none)
    (.block 3 (.loop l11_1_h l11_1_b)))
    (.seq (.region none [] [
      ⟨some 56, .mov (.tmp 8), none⟩,
      ⟨some 6, .mov (.tmp 56), none⟩] [6] none)
    (.ret)))))))

def a11 : AFunc := ⟨3, c11, [.tmp 6]⟩

def an11 : List RAnn := [
  { id := 0, live := [1, 2, 3] },
  { id := 1, live := [1, 2, 3, 7] },
  { id := 2, live := [1, 3, 7, 13] },
  { id := 3, live := [1, 3, 7, 13, 14] },
  { id := 4, live := [1, 3, 7] },
  { id := 5, live := [1, 3, 7, 18] },
  { id := 6, live := [1, 3, 7] },
  { id := 7, live := [1, 3, 7, 8] },
  { id := 8, live := [1, 3, 7, 8, 24] },
  { id := 9, live := [7, 8, 27, 28] },
  { id := 10, live := [7, 8, 27, 28, 29], hdr := [7, 8, 27, 28] },
  { id := 11, live := [7, 8, 9, 27, 28] },
  { id := 12, live := [7, 8, 27, 28] },
  { id := 13, live := [7, 8, 27, 28] },
  { id := 14, live := [6] },
  { id := 15, live := [3, 7, 8, 38, 39, 40] },
  { id := 16, live := [3, 7, 8, 38, 39, 40, 41], hdr := [3, 7, 8, 38, 39, 40] },
  { id := 17, live := [3, 7, 8, 11, 38, 39, 40] },
  { id := 18, live := [3, 7, 8, 12, 38, 39, 40], ops := [(3, .mode .borrow)] },
  { id := 19, live := [3, 7, 8, 12, 38, 39, 40, 49] },
  { id := 20, live := [3, 7, 8, 38, 39, 40] },
  { id := 21, live := [3, 7, 8, 38, 39, 40], trunc := some 1 },
  { id := 22, live := [6] }]

theorem comp11 : compF Try.prog an11 Try.f11 = some a11 := by kernel_rfl

/- graphdb/graphdbref16.Max -/
/-- loop 0 of function 12 -/
def l12_0_h : List Nat := [1, 3, 7, 8, 9]

def l12_0_b : ACode :=
  .seq (.seq (.region none [] [
      ⟨some 22, .mov (.tmp 9), none⟩,
      ⟨some 23, .faddr 3 (.tmp 3), none⟩,
      ⟨some 24, .load none (.tmp 23), none⟩,
      ⟨some 25, .len .slice (.tmp 24), none⟩,
      ⟨some 26, .bin .lss .int (.tmp 22) (.tmp 25), none⟩] [1, 3, 7, 8, 9, 26] none)
    (.cond (.tmp 26) (.skip)
    (.exit 0)))
    (.seq (.block 1 (.region none [] [
        ⟨some 29, .mov (.tmp 8), none⟩,
        ⟨some 30, .mov (.tmp 7), none⟩,
        ⟨some 31, .mov (.tmp 9), none⟩,
        ⟨some 32, .call .pure 24 [(.tmp 30), (.tmp 31)], none⟩,
        ⟨some 33, .bin .add .int (.tmp 29) (.tmp 32), none⟩,
        ⟨some 8, .mov (.tmp 33), none⟩] [1, 3, 7, 8, 9] none))
    (.region none [] [
      ⟨some 27, .mov (.tmp 9), none⟩,
      ⟨some 28, .bin .add .int (.tmp 27) (.cst (.int .i64 1)), none⟩,
      ⟨some 9, .mov (.tmp 28), none⟩] [1, 3, 7, 8, 9] none))

/-- loop 1 of function 12 -/
def l12_1_h : List Nat := [1, 3, 7, 8, 10]

def l12_1_b : ACode :=
  .seq (.seq (.region none [] [
      ⟨some 34, .mov (.tmp 10), none⟩,
      ⟨some 35, .mov (.tmp 1), none⟩,
      ⟨some 36, .len .slice (.tmp 35), none⟩,
      ⟨some 37, .bin .lss .int (.tmp 34) (.tmp 36), none⟩] [1, 3, 7, 8, 10, 37] none)
    (.cond (.tmp 37) (.skip)
    (.exit 2)))
    (.seq (.block 3 (.region (some 12) [] [
        ⟨some 40, .mov (.tmp 8), none⟩,
        ⟨some 41, .mov (.tmp 7), none⟩,
        ⟨some 42, .faddr 3 (.tmp 3), none⟩,
        ⟨some 43, .load none (.tmp 42), none⟩,
        ⟨some 44, .mov (.tmp 1), none⟩,
        ⟨some 45, .mov (.tmp 10), none⟩,
        ⟨some 46, .iaddr 1 (.tmp 44) (.tmp 45), none⟩,
        ⟨some 47, .load none (.tmp 46), none⟩,
        ⟨some 48, .call .pure 20 [(.tmp 43), (.tmp 47)], none⟩,
        ⟨some 49, .call .pure 24 [(.tmp 41), (.tmp 48)], none⟩,
        ⟨some 50, .bin .add .int (.tmp 40) (.tmp 49), none⟩,
        ⟨some 8, .mov (.tmp 50), none⟩] [1, 3, 7, 8, 10] none))
    (.region none [] [
      ⟨some 38, .mov (.tmp 10), none⟩,
      ⟨some 39, .bin .add .int (.tmp 38) (.cst (.int .i64 1)), none⟩,
      ⟨some 10, .mov (.tmp 39), none⟩] [1, 3, 7, 8, 10] none))

def c12 : ACode :=
  .seq (.region none [] [
      ⟨some 3, .box 6 (.tmp 0), none⟩,
      ⟨some 6, .mov (.cst (.int .i64 0)), none⟩] [1, 2, 3] none)
    (.seq (.region none [] [
      ⟨some 7, .mov (.cst (.sl false [])), none⟩] [1, 2, 3, 7] none)
    (.seq (.seq (.region none [] [
      ⟨some 11, .mov (.tmp 2), none⟩,
      ⟨some 12, .bin .eql .int (.tmp 11) (.cst (.int .i64 1)), none⟩] [1, 2, 3, 7, 12] none)
    (.cond (.tmp 12) (.region none [] [
        ⟨some 13, .faddr 4 (.tmp 3), none⟩,
        ⟨some 14, .load none (.tmp 13), none⟩,
        ⟨some 7, .mov (.tmp 14), none⟩] [1, 2, 3, 7] none)
    (.skip)))
    (.seq (.seq (.region none [] [
      ⟨some 15, .mov (.tmp 2), none⟩,
      ⟨some 16, .bin .eql .int (.tmp 15) (.cst (.int .i64 2)), none⟩] [1, 3, 7, 16] none)
    (.cond (.tmp 16) (.region none [] [
        ⟨some 17, .faddr 5 (.tmp 3), none⟩,
        ⟨some 18, .load none (.tmp 17), none⟩,
        ⟨some 7, .mov (.tmp 18), none⟩] [1, 3, 7] none)
    (.skip)))
    (.seq (.region none [] [
      ⟨some 8, .mov (.cst (.int .i64 0)), none⟩] [1, 3, 7, 8] none)
    (.seq (.seq (.region none [] [
      ⟨some 19, .mov (.tmp 1), none⟩,
      ⟨some 20, .len .slice (.tmp 19), none⟩,
      ⟨some 21, .bin .eql .int (.tmp 20) (.cst (.int .i64 0)), none⟩] [1, 3, 7, 8, 21] none)
    (.cond (.tmp 21) (.seq (.region none [] [
        ⟨some 9, .mov (.cst (.int .i64 0)), none⟩] [1, 3, 7, 8, 9] none)
      (.block 0 (.loop l12_0_h l12_0_b)))
    (.skip)))
    (.seq (.seq (.region none [] [
      ⟨some 10, .mov (.cst (.int .i64 0)), none⟩] [1, 3, 7, 8, 10] none)
    (.block 2 (.loop l12_1_h l12_1_b)))
    (.seq (.region none [] [
      ⟨some 51, .mov (.tmp 8), none⟩,
      ⟨some 6, .mov (.tmp 51), none⟩] [6] none)
    (.ret))))))))

def a12 : AFunc := ⟨3, c12, [.tmp 6]⟩

def an12 : List RAnn := [
  { id := 0, live := [1, 2, 3] },
  { id := 1, live := [1, 2, 3, 7] },
  { id := 2, live := [1, 2, 3, 7, 12] },
  { id := 3, live := [1, 2, 3, 7] },
  { id := 4, live := [1, 3, 7, 16] },
  { id := 5, live := [1, 3, 7] },
  { id := 6, live := [1, 3, 7, 8] },
  { id := 7, live := [1, 3, 7, 8, 21] },
  { id := 8, live := [1, 3, 7, 8, 9] },
  { id := 9, live := [1, 3, 7, 8, 9, 26], hdr := [1, 3, 7, 8, 9] },
  { id := 11, live := [1, 3, 7, 8, 9] },
  { id := 10, live := [1, 3, 7, 8, 9] },
  { id := 12, live := [1, 3, 7, 8, 10] },
  { id := 13, live := [1, 3, 7, 8, 10, 37], hdr := [1, 3, 7, 8, 10] },
  { id := 15, head := some 12, live := [1, 3, 7, 8, 10] },
  { id := 14, live := [1, 3, 7, 8, 10] },
  { id := 16, live := [6] }]

theorem comp12 : compF Try.prog an12 Try.f12 = some a12 := by kernel_rfl

/- graphdb/degree.Pair -/
/-- loop 0 of function 13 -/
def l13_0_h : List Nat := [5, 6, 7, 17, 18]

def l13_0_b : ACode :=
  .seq (.region none [] [
      ⟨some 19, .bin .lss .int (.tmp 18) (.tmp 17), none⟩] [5, 6, 7, 17, 18, 19] none)
    (.seq (.cond (.tmp 19) (.skip)
    (.exit 0))
    (.seq (.block 1 (.seq (.region none [] [
        ⟨some 20, .mov (.tmp 18), none⟩,
        ⟨some 8, .mov (.tmp 20), none⟩] [5, 6, 7, 8, 17, 18] none)
      (.region (some 12) [] [
        ⟨some 21, .mov (.tmp 7), none⟩,
        ⟨some 22, .mov (.tmp 5), none⟩,
        ⟨some 23, .mov (.tmp 8), none⟩,
        ⟨some 24, .iaddr 1 (.tmp 22) (.tmp 23), none⟩,
        ⟨some 25, .load none (.tmp 24), none⟩,
        ⟨some 26, .mov (.tmp 6), none⟩,
        ⟨some 27, .mov (.tmp 8), none⟩,
        ⟨some 28, .iaddr 1 (.tmp 26) (.tmp 27), none⟩,
        ⟨some 29, .load none (.tmp 28), none⟩,
        ⟨some 30, .bin .mul .int (.tmp 25) (.tmp 29), none⟩,
        ⟨some 31, .bin .add .int (.tmp 21) (.tmp 30), none⟩,
        ⟨some 7, .mov (.tmp 31), none⟩] [5, 6, 7, 17, 18] none)))
    (.region none [] [
      ⟨some 32, .bin .add .int (.tmp 18) (.cst (.int .i64 1)), none⟩,
      ⟨some 18, .mov (.tmp 32), none⟩] [5, 6, 7, 17, 18] none)))

def c13 : ACode :=
  .seq (.region none [] [
      ⟨some 4, .mov (.cst (.int .i64 0)), none⟩] [0, 1] none)
    (.seq (.region none [] [
      ⟨some 9, .mov (.tmp 0), none⟩,
      ⟨some 10, .call .pure 25 [(.tmp 9)], none⟩,
      ⟨some 11, .mov (.tmp 1), none⟩,
      ⟨some 12, .call .pure 25 [(.tmp 11)], none⟩,
      ⟨some 5, .mov (.tmp 10), none⟩,
      ⟨some 6, .mov (.tmp 12), none⟩] [5, 6] none)
    (.seq (.region none [] [
      ⟨some 7, .mov (.cst (.int .i64 0)), none⟩] [5, 6, 7] none)
    (.seq (.seq (.region none [] [
      ⟨some 13, .mov (.tmp 5), none⟩,
      ⟨some 14, .len .slice (.tmp 13), none⟩,
      ⟨some 15, .mov (.tmp 6), none⟩,
      ⟨some 16, .len .slice (.tmp 15), none⟩,
      ⟨some 17, .min (.tmp 14) (.tmp 16), none⟩,
      ⟨some 18, .mov (.cst (.int .i64 0)), none⟩] [5, 6, 7, 17, 18] none)
    (.block 0 (.loop l13_0_h l13_0_b)))
    (.seq (.region none [] [
      ⟨some 33, .mov (.tmp 7), none⟩,
      ⟨some 4, .mov (.tmp 33), none⟩] [4] none)
    (.ret)))))

def a13 : AFunc := ⟨2, c13, [.tmp 4]⟩

def an13 : List RAnn := [
  { id := 0, live := [0, 1] },
  { id := 1, live := [5, 6] },
  { id := 2, live := [5, 6, 7] },
  { id := 3, live := [5, 6, 7, 17, 18] },
  { id := 4, live := [5, 6, 7, 17, 18, 19], hdr := [5, 6, 7, 17, 18] },
  { id := 5, live := [5, 6, 7, 8, 17, 18] },
  { id := 6, head := some 12, live := [5, 6, 7, 17, 18] },
  { id := 7, live := [5, 6, 7, 17, 18] },
  { id := 8, live := [4] }]

theorem comp13 : compF Try.prog an13 Try.f13 = some a13 := by kernel_rfl

/- graphdb/degree.Of -/
/-- loop 0 of function 15 -/
def l15_0_h : List Nat := [1, 2, 5, 7, 8, 30, 31, 32, 37, 38, 39]

def l15_0_b : ACode :=
  .seq (.region none [] [
      ⟨some 40, .bin .lss .int (.tmp 39) (.tmp 38), none⟩] [1, 2, 5, 7, 8, 30, 31, 32, 37, 38, 39, 40] none)
    (.seq (.cond (.tmp 40) (.skip)
    (.exit 2))
    (.seq (.block 3 (.seq (.region none [] [
        ⟨some 41, .iaddr 3 (.tmp 37) (.tmp 39), none⟩,
        ⟨some 42, .load (some 3) (.tmp 41), none⟩,
        ⟨some 10, .alloc 3 (.agg [.int .i64 0, .sl false [], .sl false []]), none⟩,
        ⟨none, .store 3 (.tmp 10) (.tmp 42), none⟩] [1, 2, 5, 7, 8, 10, 30, 31, 32, 37, 38, 39] none)
      (.seq (.region none [] [
        ⟨some 43, .load (some 3) (.tmp 10), none⟩,
        ⟨some 44, .mov (.tmp 7), none⟩,
        ⟨some 45, .call .pure 29 [(.tmp 43), (.tmp 44)], none⟩] [1, 2, 5, 7, 8, 30, 31, 32, 37, 38, 39, 45] none)
      (.cond (.tmp 45) (.region none [] [
          ⟨some 46, .mov (.tmp 8), none⟩,
          ⟨some 47, .bin .add .int (.tmp 46) (.cst (.int .i64 1)), none⟩,
          ⟨some 8, .mov (.tmp 47), none⟩] [1, 2, 5, 7, 8, 30, 31, 32, 37, 38, 39] none)
      (.skip)))))
    (.region none [] [
      ⟨some 48, .bin .add .int (.tmp 39) (.cst (.int .i64 1)), none⟩,
      ⟨some 39, .mov (.tmp 48), none⟩] [1, 2, 5, 7, 8, 30, 31, 32, 37, 38, 39] none)))

/-- loop 1 of function 15 -/
def l15_1_h : List Nat := [1, 2, 5, 30, 31, 32]

def l15_1_b : ACode :=
  .seq (.region none [] [
      ⟨some 33, .bin .lss .int (.tmp 32) (.tmp 31), none⟩] [1, 2, 5, 30, 31, 32, 33] none)
    (.seq (.cond (.tmp 33) (.skip)
    (.exit 0))
    (.seq (.block 1 (.seq (.region none [] [
        ⟨some 34, .iaddr 1 (.tmp 30) (.tmp 32), none⟩,
        ⟨some 35, .load none (.tmp 34), none⟩,
        ⟨some 7, .mov (.tmp 35), none⟩] [1, 2, 5, 7, 30, 31, 32] none)
      (.seq (.region none [] [
        ⟨some 8, .mov (.cst (.int .i64 0)), none⟩] [1, 2, 5, 7, 8, 30, 31, 32] none)
      (.seq (.seq (.region none [] [
        ⟨some 36, .faddr 0 (.tmp 1), none⟩,
        ⟨some 37, .load none (.tmp 36), none⟩,
        ⟨some 38, .len .slice (.tmp 37), none⟩,
        ⟨some 39, .mov (.cst (.int .i64 0)), none⟩] [1, 2, 5, 7, 8, 30, 31, 32, 37, 38, 39] none)
      (.block 2 (.loop l15_0_h l15_0_b)))
      (.region none [] [
        ⟨some 49, .faddr 2 (.tmp 5), none⟩,
        ⟨some 50, .load none (.tmp 49), none⟩,
        ⟨some 51, .mov (.tmp 7), none⟩,
        ⟨some 52, .mov (.tmp 8), none⟩,
        ⟨some 53, .build [.str [], .int .i64 0] [(0, 1, (.tmp 51)), (1, 1, (.tmp 52))], none⟩,
        ⟨some 54, .lit false 2 (.agg [.str [], .int .i64 0]) 1 [(0, (.tmp 53))], none⟩,
        ⟨some 55, .append 2 24 (.tmp 50) (.tmp 54), none⟩,
        ⟨some 56, .faddr 2 (.tmp 5), none⟩,
        ⟨none, .store 1 (.tmp 56) (.tmp 55), none⟩] [1, 2, 5, 30, 31, 32] none)))))
    (.region none [] [
      ⟨some 57, .bin .add .int (.tmp 32) (.cst (.int .i64 1)), none⟩,
      ⟨some 32, .mov (.tmp 57), none⟩] [1, 2, 5, 30, 31, 32] none)))

/-- loop 2 of function 15 -/
def l15_2_h : List Nat := [1, 2, 5, 12, 13, 59, 60, 61, 66, 67, 68]

def l15_2_b : ACode :=
  .seq (.region none [] [
      ⟨some 69, .bin .lss .int (.tmp 68) (.tmp 67), none⟩] [1, 2, 5, 12, 13, 59, 60, 61, 66, 67, 68, 69] none)
    (.seq (.cond (.tmp 69) (.skip)
    (.exit 6))
    (.seq (.block 7 (.seq (.region none [] [
        ⟨some 70, .iaddr 5 (.tmp 66) (.tmp 68), none⟩,
        ⟨some 71, .load (some 5) (.tmp 70), none⟩,
        ⟨some 15, .alloc 5 (.agg [.int .i64 0, .int .i64 0, .int .i64 0, .str [], .sl false []]), none⟩,
        ⟨none, .store 5 (.tmp 15) (.tmp 71), none⟩] [1, 2, 5, 12, 13, 15, 59, 60, 61, 66, 67, 68] none)
      (.seq (.region none [] [
        ⟨some 72, .faddr 3 (.tmp 15), none⟩,
        ⟨some 73, .load none (.tmp 72), none⟩,
        ⟨some 74, .mov (.tmp 12), none⟩,
        ⟨some 75, .bin .eql .str (.tmp 73) (.tmp 74), none⟩] [1, 2, 5, 12, 13, 59, 60, 61, 66, 67, 68, 75] none)
      (.cond (.tmp 75) (.region none [] [
          ⟨some 76, .mov (.tmp 13), none⟩,
          ⟨some 77, .bin .add .int (.tmp 76) (.cst (.int .i64 1)), none⟩,
          ⟨some 13, .mov (.tmp 77), none⟩] [1, 2, 5, 12, 13, 59, 60, 61, 66, 67, 68] none)
      (.skip)))))
    (.region none [] [
      ⟨some 78, .bin .add .int (.tmp 68) (.cst (.int .i64 1)), none⟩,
      ⟨some 68, .mov (.tmp 78), none⟩] [1, 2, 5, 12, 13, 59, 60, 61, 66, 67, 68] none)))

/-- loop 3 of function 15 -/
def l15_3_h : List Nat := [1, 2, 5, 59, 60, 61]

def l15_3_b : ACode :=
  .seq (.region none [] [
      ⟨some 62, .bin .lss .int (.tmp 61) (.tmp 60), none⟩] [1, 2, 5, 59, 60, 61, 62] none)
    (.seq (.cond (.tmp 62) (.skip)
    (.exit 4))
    (.seq (.block 5 (.seq (.region none [] [
        ⟨some 63, .iaddr 1 (.tmp 59) (.tmp 61), none⟩,
        ⟨some 64, .load none (.tmp 63), none⟩,
        ⟨some 12, .mov (.tmp 64), none⟩] [1, 2, 5, 12, 59, 60, 61] none)
      (.seq (.region none [] [
        ⟨some 13, .mov (.cst (.int .i64 0)), none⟩] [1, 2, 5, 12, 13, 59, 60, 61] none)
      (.seq (.seq (.region none [] [
        ⟨some 65, .faddr 1 (.tmp 1), none⟩,
        ⟨some 66, .load none (.tmp 65), none⟩,
        ⟨some 67, .len .slice (.tmp 66), none⟩,
        ⟨some 68, .mov (.cst (.int .i64 0)), none⟩] [1, 2, 5, 12, 13, 59, 60, 61, 66, 67, 68] none)
      (.block 6 (.loop l15_2_h l15_2_b)))
      (.seq (.region none [] [
        ⟨some 79, .faddr 3 (.tmp 5), none⟩,
        ⟨some 80, .load none (.tmp 79), none⟩,
        ⟨some 81, .mov (.tmp 12), none⟩,
        ⟨some 82, .mov (.tmp 13), none⟩,
        ⟨some 83, .build [.str [], .int .i64 0] [(0, 1, (.tmp 81)), (1, 1, (.tmp 82))], none⟩,
        ⟨some 84, .lit false 2 (.agg [.str [], .int .i64 0]) 1 [(0, (.tmp 83))], none⟩,
        ⟨some 85, .append 2 24 (.tmp 80) (.tmp 84), none⟩,
        ⟨some 86, .faddr 3 (.tmp 5), none⟩,
        ⟨none, .store 1 (.tmp 86) (.tmp 85), none⟩] [1, 2, 5, 12, 59, 60, 61] none)
      (.seq (.region (some 6) [] [
        ⟨some 87, .faddr 4 (.tmp 5), none⟩,
        ⟨some 88, .load none (.tmp 87), none⟩,
        ⟨some 89, .load (some 4) (.tmp 1), none⟩,
        ⟨some 90, .mov (.tmp 12), none⟩,
        ⟨some 91, .call .pure 31 [(.tmp 89), (.tmp 90), (.cst (.int .i64 1))], none⟩,
        ⟨some 92, .lit false 1 (.sl false []) 1 [(0, (.tmp 91))], none⟩,
        ⟨some 93, .append 1 24 (.tmp 88) (.tmp 92), none⟩,
        ⟨some 94, .faddr 4 (.tmp 5), none⟩,
        ⟨none, .store 1 (.tmp 94) (.tmp 93), none⟩] [1, 2, 5, 12, 59, 60, 61] none)
      (.region (some 6) [] [
        ⟨some 95, .faddr 5 (.tmp 5), none⟩,
        ⟨some 96, .load none (.tmp 95), none⟩,
        ⟨some 97, .load (some 4) (.tmp 1), none⟩,
        ⟨some 98, .mov (.tmp 12), none⟩,
        ⟨some 99, .call .pure 31 [(.tmp 97), (.tmp 98), (.cst (.int .i64 2))], none⟩,
        ⟨some 100, .lit false 1 (.sl false []) 1 [(0, (.tmp 99))], none⟩,
        ⟨some 101, .append 1 24 (.tmp 96) (.tmp 100), none⟩,
        ⟨some 102, .faddr 5 (.tmp 5), none⟩,
        ⟨none, .store 1 (.tmp 102) (.tmp 101), none⟩] [1, 2, 5, 59, 60, 61] none)))))))
    (.region none [] [
      ⟨some 103, .bin .add .int (.tmp 61) (.cst (.int .i64 1)), none⟩,
      ⟨some 61, .mov (.tmp 103), none⟩] [1, 2, 5, 59, 60, 61] none)))

def c15 : ACode :=
  .seq (.region none [] [
      ⟨some 1, .box 4 (.tmp 0), none⟩,
      ⟨some 2, .alloc 6 (.agg [.int .i64 0, .int .i64 0, .sl false [], .sl false [], .sl false [], .sl false []]), none⟩,
      ⟨some 3, .mov (.cst (.int .i64 0)), none⟩] [1, 2] none)
    (.seq (.seq (.region none [] [
      ⟨some 16, .load (some 4) (.tmp 1), none⟩,
      ⟨some 17, .call .pure 27 [(.tmp 16)], none⟩,
      ⟨some 4, .mov (.tmp 17), none⟩] [1, 2, 4] none)
    (.seq (.region none [] [
      ⟨some 18, .mov (.tmp 4), none⟩,
      ⟨some 19, .bin .neq .int (.tmp 18) (.cst (.int .i64 0)), none⟩] [1, 2, 4, 19] none)
    (.cond (.tmp 19) (.seq (.region none [] [
        ⟨some 20, .build [.int .i64 0, .int .i64 0, .sl false [], .sl false [], .sl false [], .sl false []] [], none⟩,
        ⟨some 21, .mov (.tmp 4), none⟩,
        ⟨none, .store 6 (.tmp 2) (.tmp 20), none⟩,
        ⟨some 3, .mov (.tmp 21), none⟩] [2, 3] none)
      (.ret))
    (.skip))))
    (.seq (.region none [] [
      ⟨some 22, .faddr 0 (.tmp 1), none⟩,
      ⟨some 23, .load none (.tmp 22), none⟩,
      ⟨some 24, .len .slice (.tmp 23), none⟩,
      ⟨some 25, .faddr 1 (.tmp 1), none⟩,
      ⟨some 26, .load none (.tmp 25), none⟩,
      ⟨some 27, .len .slice (.tmp 26), none⟩,
      ⟨some 28, .build [.int .i64 0, .int .i64 0, .sl false [], .sl false [], .sl false [], .sl false []] [(0, 1, (.tmp 24)), (1, 1, (.tmp 27))], none⟩,
      ⟨some 5, .alloc 6 (.agg [.int .i64 0, .int .i64 0, .sl false [], .sl false [], .sl false [], .sl false []]), none⟩,
      ⟨none, .store 6 (.tmp 5) (.tmp 28), none⟩] [1, 2, 5] none)
    (.seq (.seq (.region none [] [
      ⟨some 29, .load (some 4) (.tmp 1), none⟩,
      ⟨some 30, .call .pure 28 [(.tmp 29)], none⟩,
      ⟨some 31, .len .slice (.tmp 30), none⟩,
      ⟨some 32, .mov (.cst (.int .i64 0)), none⟩] [1, 2, 5, 30, 31, 32] none)
    (.block 0 (.loop l15_1_h l15_1_b)))
    (.seq (.seq (.region none [] [
      ⟨some 58, .load (some 4) (.tmp 1), none⟩,
      ⟨some 59, .call .pure 30 [(.tmp 58)], none⟩,
      ⟨some 60, .len .slice (.tmp 59), none⟩,
      ⟨some 61, .mov (.cst (.int .i64 0)), none⟩] [1, 2, 5, 59, 60, 61] none)
    (.block 4 (.loop l15_3_h l15_3_b)))
    (.seq (.region none [] [
      ⟨some 104, .load (some 6) (.tmp 5), none⟩,
      ⟨none, .store 6 (.tmp 2) (.tmp 104), none⟩,
      ⟨some 3, .mov (.cst (.int .i64 0)), none⟩] [2, 3] none)
    (.ret))))))

def a15 : AFunc := ⟨1, c15, [.cell 2 (some 6), .tmp 3]⟩

def an15 : List RAnn := [
  { id := 0, live := [1, 2] },
  { id := 1, live := [1, 2, 4] },
  { id := 2, live := [1, 2, 4, 19] },
  { id := 3, live := [2, 3] },
  { id := 4, live := [1, 2, 5] },
  { id := 5, live := [1, 2, 5, 30, 31, 32] },
  { id := 6, live := [1, 2, 5, 30, 31, 32, 33], hdr := [1, 2, 5, 30, 31, 32] },
  { id := 7, live := [1, 2, 5, 7, 30, 31, 32] },
  { id := 8, live := [1, 2, 5, 7, 8, 30, 31, 32] },
  { id := 9, live := [1, 2, 5, 7, 8, 30, 31, 32, 37, 38, 39] },
  { id := 10, live := [1, 2, 5, 7, 8, 30, 31, 32, 37, 38, 39, 40], hdr := [1, 2, 5, 7, 8, 30, 31, 32, 37, 38, 39] },
  { id := 11, live := [1, 2, 5, 7, 8, 10, 30, 31, 32, 37, 38, 39] },
  { id := 12, live := [1, 2, 5, 7, 8, 30, 31, 32, 37, 38, 39, 45] },
  { id := 13, live := [1, 2, 5, 7, 8, 30, 31, 32, 37, 38, 39] },
  { id := 14, live := [1, 2, 5, 7, 8, 30, 31, 32, 37, 38, 39] },
  { id := 15, live := [1, 2, 5, 30, 31, 32] },
  { id := 16, live := [1, 2, 5, 30, 31, 32] },
  { id := 17, live := [1, 2, 5, 59, 60, 61] },
  { id := 18, live := [1, 2, 5, 59, 60, 61, 62], hdr := [1, 2, 5, 59, 60, 61] },
  { id := 19, live := [1, 2, 5, 12, 59, 60, 61] },
  { id := 20, live := [1, 2, 5, 12, 13, 59, 60, 61] },
  { id := 21, live := [1, 2, 5, 12, 13, 59, 60, 61, 66, 67, 68] },
  { id := 22, live := [1, 2, 5, 12, 13, 59, 60, 61, 66, 67, 68, 69], hdr := [1, 2, 5, 12, 13, 59, 60, 61, 66, 67, 68] },
  { id := 23, live := [1, 2, 5, 12, 13, 15, 59, 60, 61, 66, 67, 68] },
  { id := 24, live := [1, 2, 5, 12, 13, 59, 60, 61, 66, 67, 68, 75] },
  { id := 25, live := [1, 2, 5, 12, 13, 59, 60, 61, 66, 67, 68] },
  { id := 26, live := [1, 2, 5, 12, 13, 59, 60, 61, 66, 67, 68] },
  { id := 27, live := [1, 2, 5, 12, 59, 60, 61] },
  { id := 28, head := some 6, live := [1, 2, 5, 12, 59, 60, 61] },
  { id := 29, head := some 6, live := [1, 2, 5, 59, 60, 61] },
  { id := 30, live := [1, 2, 5, 59, 60, 61] },
  { id := 31, live := [2, 3] }]

theorem comp15 : compF Try.prog an15 Try.f15 = some a15 := by kernel_rfl

/- graphdb/graphdblaw16.three -/
def c16 : ACode :=
  .seq (.region none [] [
      ⟨some 0, .alloc 4 (.agg [.sl false [], .sl false [], .int .i64 0, .int .i64 0]), none⟩] [0] none)
    (.seq (.region none [] [
      ⟨some 1, .build [.int .i64 0, .sl false [], .sl false []] [(0, 1, (.cst (.int .i64 1)))], none⟩,
      ⟨some 2, .lit false 1 (.str []) 1 [(0, (.cst (.str [65])))], none⟩,
      ⟨some 3, .build [.int .i64 0, .sl false [], .sl false []] [(0, 1, (.cst (.int .i64 2))), (1, 1, (.tmp 2))], none⟩,
      ⟨some 4, .lit false 1 (.str []) 1 [(0, (.cst (.str [65])))], none⟩,
      ⟨some 5, .build [.int .i64 0, .sl false [], .sl false []] [(0, 1, (.cst (.int .i64 3))), (1, 1, (.tmp 4))], none⟩,
      ⟨some 6, .lit false 3 (.agg [.int .i64 0, .sl false [], .sl false []]) 3 [(0, (.tmp 1)), (1, (.tmp 3)), (2, (.tmp 5))], none⟩,
      ⟨some 7, .build [.int .i64 0, .int .i64 0, .int .i64 0, .str [], .sl false []] [(0, 1, (.cst (.int .i64 1))), (1, 1, (.cst (.int .i64 1))), (2, 1, (.cst (.int .i64 2))), (3, 1, (.cst (.str [84])))], none⟩,
      ⟨some 8, .build [.int .i64 0, .int .i64 0, .int .i64 0, .str [], .sl false []] [(0, 1, (.cst (.int .i64 2))), (1, 1, (.cst (.int .i64 1))), (2, 1, (.cst (.int .i64 3))), (3, 1, (.cst (.str [84])))], none⟩,
      ⟨some 9, .build [.int .i64 0, .int .i64 0, .int .i64 0, .str [], .sl false []] [(0, 1, (.cst (.int .i64 3))), (1, 1, (.cst (.int .i64 2))), (2, 1, (.cst (.int .i64 1))), (3, 1, (.cst (.str [85])))], none⟩,
      ⟨some 10, .lit false 5 (.agg [.int .i64 0, .int .i64 0, .int .i64 0, .str [], .sl false []]) 3 [(0, (.tmp 7)), (1, (.tmp 8)), (2, (.tmp 9))], none⟩,
      ⟨some 11, .build [.sl false [], .sl false [], .int .i64 0, .int .i64 0] [(0, 1, (.tmp 6)), (1, 1, (.tmp 10)), (2, 1, (.cst (.int .i64 4))), (3, 1, (.cst (.int .i64 4)))], none⟩,
      ⟨none, .store 4 (.tmp 0) (.tmp 11), none⟩] [0] none)
    (.ret))

def a16 : AFunc := ⟨0, c16, [.cell 0 (some 4)]⟩

def an16 : List RAnn := [
  { id := 0, live := [0] },
  { id := 1, live := [0] }]

theorem comp16 : compF Try.prog an16 Try.f16 = some a16 := by kernel_rfl

/- graphdb/graphdbref16.Ints -/
/-- loop 0 of function 17 -/
def l17_0_h : List Nat := [0, 1, 5]

def l17_0_b : ACode :=
  .seq (.seq (.region none [] [
      ⟨some 11, .mov (.tmp 5), none⟩,
      ⟨some 12, .mov (.tmp 0), none⟩,
      ⟨some 13, .len .slice (.tmp 12), none⟩,
      ⟨some 14, .bin .lss .int (.tmp 11) (.tmp 13), none⟩] [0, 1, 5, 14] none)
    (.cond (.tmp 14) (.skip)
    (.exit 0)))
    (.seq (.block 1 (.seq (.region (some 9) [] [
        ⟨some 17, .mov (.tmp 0), none⟩,
        ⟨some 18, .mov (.tmp 5), none⟩,
        ⟨some 19, .iaddr 1 (.tmp 17) (.tmp 18), none⟩,
        ⟨some 20, .load none (.tmp 19), none⟩,
        ⟨some 21, .mov (.tmp 1), none⟩,
        ⟨some 22, .mov (.tmp 5), none⟩,
        ⟨some 23, .iaddr 1 (.tmp 21) (.tmp 22), none⟩,
        ⟨some 24, .load none (.tmp 23), none⟩,
        ⟨some 25, .bin .neq .int (.tmp 20) (.tmp 24), none⟩] [0, 1, 5, 25] none)
      (.cond (.tmp 25) (.seq (.region none [] [
          ⟨some 4, .mov (.cst (.bool false)), none⟩] [4] none)
        (.ret))
      (.skip))))
    (.region none [] [
      ⟨some 15, .mov (.tmp 5), none⟩,
      ⟨some 16, .bin .add .int (.tmp 15) (.cst (.int .i64 1)), none⟩,
      ⟨some 5, .mov (.tmp 16), none⟩] [0, 1, 5] none))

def c17 : ACode :=
  .seq (.region none [] [
      ⟨some 4, .mov (.cst (.bool false)), none⟩] [0, 1] none)
    (.seq (.seq (.region none [] [
      ⟨some 6, .mov (.tmp 0), none⟩,
      ⟨some 7, .len .slice (.tmp 6), none⟩,
      ⟨some 8, .mov (.tmp 1), none⟩,
      ⟨some 9, .len .slice (.tmp 8), none⟩,
      ⟨some 10, .bin .neq .int (.tmp 7) (.tmp 9), none⟩] [0, 1, 10] none)
    (.cond (.tmp 10) (.seq (.region none [] [
        ⟨some 4, .mov (.cst (.bool false)), none⟩] [4] none)
      (.ret))
    (.skip)))
    (.seq (.seq (.region none [] [
      ⟨some 5, .mov (.cst (.int .i64 0)), none⟩] [0, 1, 5] none)
    (.block 0 (.loop l17_0_h l17_0_b)))
    (.seq (.region none [] [
      ⟨some 4, .mov (.cst (.bool true)), none⟩] [4] none)
    (.ret))))

def a17 : AFunc := ⟨2, c17, [.tmp 4]⟩

def an17 : List RAnn := [
  { id := 0, live := [0, 1] },
  { id := 1, live := [0, 1, 10] },
  { id := 2, live := [4] },
  { id := 3, live := [0, 1, 5] },
  { id := 4, live := [0, 1, 5, 14], hdr := [0, 1, 5] },
  { id := 6, head := some 9, live := [0, 1, 5, 25] },
  { id := 7, live := [4] },
  { id := 5, live := [0, 1, 5] },
  { id := 8, live := [4] }]

theorem comp17 : compF Try.prog an17 Try.f17 = some a17 := by kernel_rfl

/- graphdb/degree.Seq -/
def c18 : ACode :=
  .seq (.region none [] [
      ⟨some 3, .box 4 (.tmp 0), none⟩,
      ⟨some 6, .mov (.cst (.sl false [])), none⟩] [1, 2, 3] none)
    (.seq (.seq (.region none [] [
      ⟨some 7, .load (some 4) (.tmp 3), none⟩,
      ⟨some 8, .call .pure 27 [(.tmp 7)], none⟩,
      ⟨some 9, .bin .neq .int (.tmp 8) (.cst (.int .i64 0)), none⟩,
      ⟨some 10, .mov (.tmp 9), none⟩,
      ⟨some 11, .mov (.tmp 2), some (10, false)⟩,
      ⟨some 12, .bin .neq .int (.tmp 11) (.cst (.int .i64 1)), some (10, false)⟩,
      ⟨some 13, .mov (.tmp 12), some (10, false)⟩,
      ⟨some 14, .mov (.tmp 2), some (13, true)⟩,
      ⟨some 15, .bin .neq .int (.tmp 14) (.cst (.int .i64 2)), some (13, true)⟩,
      ⟨some 16, .pick (.tmp 13) (.tmp 15) (.cst (.bool false)), some (10, false)⟩,
      ⟨some 17, .pick (.tmp 10) (.cst (.bool true)) (.tmp 16), none⟩] [1, 2, 3, 17] none)
    (.cond (.tmp 17) (.seq (.region none [] [
        ⟨some 6, .mov (.cst (.sl false [])), none⟩] [6] none)
      (.ret))
    (.skip)))
    (.seq (.region none [] [
      ⟨some 18, .load (some 4) (.tmp 3), none⟩,
      ⟨some 19, .mov (.tmp 1), none⟩,
      ⟨some 20, .mov (.tmp 2), none⟩,
      ⟨some 21, .call .pure 31 [(.tmp 18), (.tmp 19), (.tmp 20)], none⟩,
      ⟨some 6, .mov (.tmp 21), none⟩] [6] none)
    (.ret)))

def a18 : AFunc := ⟨3, c18, [.tmp 6]⟩

def an18 : List RAnn := [
  { id := 0, live := [1, 2, 3] },
  { id := 1, live := [1, 2, 3, 17] },
  { id := 2, live := [6] },
  { id := 3, live := [6] }]

theorem comp18 : compF Try.prog an18 Try.f18 = some a18 := by kernel_rfl

/- graphdb/degree.count -/
/-- loop 0 of function 19 -/
def l19_0_h : List Nat := [1, 7, 8, 9]

def l19_0_b : ACode :=
  .seq (.region none [] [
      ⟨some 10, .bin .lss .int (.tmp 9) (.tmp 8), none⟩] [1, 7, 8, 9, 10] none)
    (.seq (.cond (.tmp 10) (.skip)
    (.exit 0))
    (.seq (.block 1 (.seq (.region none [] [
        ⟨some 11, .iaddr 2 (.tmp 7) (.tmp 9), none⟩,
        ⟨some 12, .load (some 2) (.tmp 11), none⟩,
        ⟨some 6, .alloc 2 (.agg [.str [], .int .i64 0]), none⟩,
        ⟨none, .store 2 (.tmp 6) (.tmp 12), none⟩] [1, 6, 7, 8, 9] none)
      (.seq (.region none [] [
        ⟨some 13, .faddr 0 (.tmp 6), none⟩,
        ⟨some 14, .load none (.tmp 13), none⟩,
        ⟨some 15, .mov (.tmp 1), none⟩,
        ⟨some 16, .bin .eql .str (.tmp 14) (.tmp 15), none⟩] [1, 6, 7, 8, 9, 16] none)
      (.cond (.tmp 16) (.seq (.region none [] [
          ⟨some 17, .faddr 1 (.tmp 6), none⟩,
          ⟨some 18, .load none (.tmp 17), none⟩,
          ⟨some 4, .mov (.tmp 18), none⟩] [4] none)
        (.ret))
      (.skip)))))
    (.region none [] [
      ⟨some 19, .bin .add .int (.tmp 9) (.cst (.int .i64 1)), none⟩,
      ⟨some 9, .mov (.tmp 19), none⟩] [1, 7, 8, 9] (some 0))))

def c19 : ACode :=
  .seq (.region none [] [
      ⟨some 4, .mov (.cst (.int .i64 0)), none⟩] [0, 1] none)
    (.seq (.seq (.region none [] [
      ⟨some 7, .mov (.tmp 0), none⟩,
      ⟨some 8, .len .slice (.tmp 7), none⟩,
      ⟨some 9, .mov (.cst (.int .i64 0)), none⟩] [1, 7, 8, 9] none)
    (.block 0 (.loop l19_0_h l19_0_b)))
    (.seq (.region none [] [
      ⟨some 4, .mov (.cst (.int .i64 0)), none⟩] [4] none)
    (.ret)))

def a19 : AFunc := ⟨2, c19, [.tmp 4]⟩

def an19 : List RAnn := [
  { id := 0, live := [0, 1] },
  { id := 1, live := [1, 7, 8, 9] },
  { id := 2, live := [1, 7, 8, 9, 10], hdr := [1, 7, 8, 9] },
  { id := 3, live := [1, 6, 7, 8, 9] },
  { id := 4, live := [1, 6, 7, 8, 9, 16] },
  { id := 5, live := [4] },
  { id := 6, live := [1, 7, 8, 9], trunc := some 0 },
  { id := 7, live := [4] }]

theorem comp19 : compF Try.prog an19 Try.f19 = some a19 := by kernel_rfl

/- graphdb/graphdbref16.entry -/
/-- loop 0 of function 20 -/
def l20_0_h : List Nat := [0, 1, 5]

def l20_0_b : ACode :=
  .seq (.seq (.region none [] [
      ⟨some 6, .mov (.tmp 5), none⟩,
      ⟨some 7, .mov (.tmp 0), none⟩,
      ⟨some 8, .len .slice (.tmp 7), none⟩,
      ⟨some 9, .bin .lss .int (.tmp 6) (.tmp 8), none⟩] [0, 1, 5, 9] none)
    (.cond (.tmp 9) (.skip)
    (.exit 0)))
    (.seq (.block 1 (.seq (.region none [] [
        ⟨some 12, .mov (.tmp 0), none⟩,
        ⟨some 13, .mov (.tmp 5), none⟩,
        ⟨some 14, .iaddr 2 (.tmp 12) (.tmp 13), none⟩,
        ⟨some 15, .faddr 0 (.tmp 14), none⟩,
        ⟨some 16, .load none (.tmp 15), none⟩,
        ⟨some 17, .mov (.tmp 1), none⟩,
        ⟨some 18, .bin .eql .str (.tmp 16) (.tmp 17), none⟩] [0, 1, 5, 18] none)
      (.cond (.tmp 18) (.seq (.region none [] [
          ⟨some 19, .mov (.tmp 5), none⟩,
          ⟨some 4, .mov (.tmp 19), none⟩] [4] none)
        (.ret))
      (.skip))))
    (.region none [] [
      ⟨some 10, .mov (.tmp 5), none⟩,
      ⟨some 11, .bin .add .int (.tmp 10) (.cst (.int .i64 1)), none⟩,
      ⟨some 5, .mov (.tmp 11), none⟩] [0, 1, 5] none))

def c20 : ACode :=
  .seq (.region none [] [
      ⟨some 4, .mov (.cst (.int .i64 0)), none⟩] [0, 1] none)
    (.seq (.seq (.region none [] [
      ⟨some 5, .mov (.cst (.int .i64 0)), none⟩] [0, 1, 5] none)
    (.block 0 (.loop l20_0_h l20_0_b)))
    (.seq (.region none [] [
      ⟨some 4, .mov (.cst (.int .i64 (-1))), none⟩] [4] none)
    (.ret)))

def a20 : AFunc := ⟨2, c20, [.tmp 4]⟩

def an20 : List RAnn := [
  { id := 0, live := [0, 1] },
  { id := 1, live := [0, 1, 5] },
  { id := 2, live := [0, 1, 5, 9], hdr := [0, 1, 5] },
  { id := 4, live := [0, 1, 5, 18] },
  { id := 5, live := [4] },
  { id := 3, live := [0, 1, 5] },
  { id := 6, live := [4] }]

theorem comp20 : compF Try.prog an20 Try.f20 = some a20 := by kernel_rfl

/- graphdb/degree.greatest -/
def c21 : ACode :=
  .seq (.region none [] [
      ⟨some 4, .mov (.cst (.int .i64 0)), none⟩] [0, 1] none)
    (.seq (.seq (.region none [] [
      ⟨some 5, .mov (.tmp 1), none⟩,
      ⟨some 6, .mov (.tmp 0), none⟩,
      ⟨some 7, .len .slice (.tmp 6), none⟩,
      ⟨some 8, .bin .geq .int (.tmp 5) (.tmp 7), none⟩,
      ⟨some 9, .mov (.tmp 8), none⟩,
      ⟨some 10, .mov (.tmp 0), some (9, false)⟩,
      ⟨some 11, .mov (.tmp 1), some (9, false)⟩,
      ⟨some 12, .iaddr 1 (.tmp 10) (.tmp 11), some (9, false)⟩,
      ⟨some 13, .load none (.tmp 12), some (9, false)⟩,
      ⟨some 14, .len .slice (.tmp 13), some (9, false)⟩,
      ⟨some 15, .bin .eql .int (.tmp 14) (.cst (.int .i64 0)), some (9, false)⟩,
      ⟨some 16, .pick (.tmp 9) (.cst (.bool true)) (.tmp 15), none⟩] [0, 1, 16] none)
    (.cond (.tmp 16) (.seq (.region none [] [
        ⟨some 4, .mov (.cst (.int .i64 0)), none⟩] [4] none)
      (.ret))
    (.skip)))
    (.seq (.region none [] [
      ⟨some 17, .mov (.tmp 0), none⟩,
      ⟨some 18, .mov (.tmp 1), none⟩,
      ⟨some 19, .iaddr 1 (.tmp 17) (.tmp 18), none⟩,
      ⟨some 20, .load none (.tmp 19), none⟩,
      ⟨some 21, .iaddr 1 (.tmp 20) (.cst (.int .i64 0)), none⟩,
      ⟨some 22, .load none (.tmp 21), none⟩,
      ⟨some 4, .mov (.tmp 22), none⟩] [4] none)
    (.ret)))

def a21 : AFunc := ⟨2, c21, [.tmp 4]⟩

def an21 : List RAnn := [
  { id := 0, live := [0, 1] },
  { id := 1, live := [0, 1, 16] },
  { id := 2, live := [4] },
  { id := 3, live := [4] }]

theorem comp21 : compF Try.prog an21 Try.f21 = some a21 := by kernel_rfl

/- slices.IndexFunc[[]graphdb/api.Count,graphdb/api.Count] -/
/-- loop 0 of function 22 -/
def l22_0_h : List Nat := [0, 1, 7, 8]

def l22_0_b : ACode :=
  .seq (.region none [] [
      ⟨some 9, .bin .lss .int (.tmp 8) (.tmp 7), none⟩] [0, 1, 7, 8, 9] none)
    (.seq (.cond (.tmp 9) (.skip)
    (.exit 0))
    (.seq (.block 1 (.seq (.region none [] [
        ⟨some 10, .mov (.tmp 8), none⟩,
        ⟨some 5, .mov (.tmp 10), none⟩] [0, 1, 5, 7, 8] none)
      (.seq (.region none [] [
        ⟨some 11, .mov (.tmp 1), none⟩,
        ⟨some 12, .mov (.tmp 0), none⟩,
        ⟨some 13, .mov (.tmp 5), none⟩,
        ⟨some 14, .iaddr 2 (.tmp 12) (.tmp 13), none⟩,
        ⟨some 15, .load (some 2) (.tmp 14), none⟩,
        ⟨some 16, .callv .pure (.tmp 11) [(.tmp 15)], none⟩] [0, 1, 5, 7, 8, 16] none)
      (.cond (.tmp 16) (.seq (.region none [] [
          ⟨some 17, .mov (.tmp 5), none⟩,
          ⟨some 4, .mov (.tmp 17), none⟩] [4] none)
        (.ret))
      (.skip)))))
    (.region none [] [
      ⟨some 18, .bin .add .int (.tmp 8) (.cst (.int .i64 1)), none⟩,
      ⟨some 8, .mov (.tmp 18), none⟩] [0, 1, 7, 8] none)))

def c22 : ACode :=
  .seq (.region none [] [
      ⟨some 4, .mov (.cst (.int .i64 0)), none⟩] [0, 1] none)
    (.seq (.seq (.region none [] [
      ⟨some 6, .mov (.tmp 0), none⟩,
      ⟨some 7, .len .slice (.tmp 6), none⟩,
      ⟨some 8, .mov (.cst (.int .i64 0)), none⟩] [0, 1, 7, 8] none)
    (.block 0 (.loop l22_0_h l22_0_b)))
    (.seq (.region none [] [
      ⟨some 4, .mov (.cst (.int .i64 (-1))), none⟩] [4] none)
    (.ret)))

def a22 : AFunc := ⟨2, c22, [.tmp 4]⟩

def an22 : List RAnn := [
  { id := 0, live := [0, 1] },
  { id := 1, live := [0, 1, 7, 8] },
  { id := 2, live := [0, 1, 7, 8, 9], hdr := [0, 1, 7, 8] },
  { id := 3, live := [0, 1, 5, 7, 8] },
  { id := 4, live := [0, 1, 5, 7, 8, 16] },
  { id := 5, live := [4] },
  { id := 6, live := [0, 1, 7, 8] },
  { id := 7, live := [4] }]

theorem comp22 : compF Try.prog an22 Try.f22 = some a22 := by kernel_rfl

/- graphdb/degree.Max$1 -/
def c23 : ACode :=
  .seq (.region none [] [
      ⟨some 2, .box 2 (.tmp 0), none⟩,
      ⟨some 3, .mov (.cst (.bool false)), none⟩] [1, 2] none)
    (.seq (.region none [] [
      ⟨some 4, .faddr 0 (.tmp 2), none⟩,
      ⟨some 5, .load none (.tmp 4), none⟩,
      ⟨some 6, .load none (.tmp 1), none⟩,
      ⟨some 7, .bin .eql .str (.tmp 5) (.tmp 6), none⟩,
      ⟨some 3, .mov (.tmp 7), none⟩] [3] none)
    (.ret))

def a23 : AFunc := ⟨2, c23, [.tmp 3]⟩

def an23 : List RAnn := [
  { id := 0, live := [1, 2] },
  { id := 1, live := [3] }]

theorem comp23 : compF Try.prog an23 Try.f23 = some a23 := by kernel_rfl

/- graphdb/graphdbref16.first -/
def c24 : ACode :=
  .seq (.region none [] [
      ⟨some 4, .mov (.cst (.int .i64 0)), none⟩] [0, 1] none)
    (.seq (.seq (.region none [] [
      ⟨some 5, .mov (.tmp 1), none⟩,
      ⟨some 6, .bin .lss .int (.tmp 5) (.cst (.int .i64 0)), none⟩,
      ⟨some 7, .mov (.tmp 6), none⟩,
      ⟨some 8, .mov (.tmp 1), some (7, false)⟩,
      ⟨some 9, .mov (.tmp 0), some (7, false)⟩,
      ⟨some 10, .len .slice (.tmp 9), some (7, false)⟩,
      ⟨some 11, .bin .geq .int (.tmp 8) (.tmp 10), some (7, false)⟩,
      ⟨some 12, .pick (.tmp 7) (.cst (.bool true)) (.tmp 11), none⟩,
      ⟨some 13, .mov (.tmp 12), none⟩,
      ⟨some 14, .mov (.tmp 0), some (13, false)⟩,
      ⟨some 15, .mov (.tmp 1), some (13, false)⟩,
      ⟨some 16, .iaddr 1 (.tmp 14) (.tmp 15), some (13, false)⟩,
      ⟨some 17, .load none (.tmp 16), some (13, false)⟩,
      ⟨some 18, .len .slice (.tmp 17), some (13, false)⟩,
      ⟨some 19, .bin .eql .int (.tmp 18) (.cst (.int .i64 0)), some (13, false)⟩,
      ⟨some 20, .pick (.tmp 13) (.cst (.bool true)) (.tmp 19), none⟩] [0, 1, 20] none)
    (.cond (.tmp 20) (.seq (.region none [] [
        ⟨some 4, .mov (.cst (.int .i64 0)), none⟩] [4] none)
      (.ret))
    (.skip)))
    (.seq (.region none [] [
      ⟨some 21, .mov (.tmp 0), none⟩,
      ⟨some 22, .mov (.tmp 1), none⟩,
      ⟨some 23, .iaddr 1 (.tmp 21) (.tmp 22), none⟩,
      ⟨some 24, .load none (.tmp 23), none⟩,
      ⟨some 25, .iaddr 1 (.tmp 24) (.cst (.int .i64 0)), none⟩,
      ⟨some 26, .load none (.tmp 25), none⟩,
      ⟨some 4, .mov (.tmp 26), none⟩] [4] none)
    (.ret)))

def a24 : AFunc := ⟨2, c24, [.tmp 4]⟩

def an24 : List RAnn := [
  { id := 0, live := [0, 1] },
  { id := 1, live := [0, 1, 20] },
  { id := 2, live := [4] },
  { id := 3, live := [4] }]

theorem comp24 : compF Try.prog an24 Try.f24 = some a24 := by kernel_rfl

/- graphdb/degree.sorted -/
/-- loop 0 of function 25 -/
def l25_0_h : List Nat := [3, 8, 9, 10]

def l25_0_b : ACode :=
  .seq (.region none [] [
      ⟨some 11, .bin .lss .int (.tmp 10) (.tmp 9), none⟩] [3, 8, 9, 10, 11] none)
    (.seq (.cond (.tmp 11) (.skip)
    (.exit 0))
    (.seq (.block 1 (.seq (.region none [] [
        ⟨some 12, .mov (.tmp 10), none⟩,
        ⟨some 13, .iaddr 1 (.tmp 8) (.tmp 10), none⟩,
        ⟨some 14, .load none (.tmp 13), none⟩,
        ⟨some 4, .mov (.tmp 12), none⟩,
        ⟨some 5, .mov (.tmp 14), none⟩] [3, 4, 5, 8, 9, 10] none)
      (.region none [] [
        ⟨some 15, .mov (.tmp 3), none⟩,
        ⟨some 16, .mov (.tmp 4), none⟩,
        ⟨some 17, .mov (.tmp 5), none⟩,
        ⟨some 18, .max (.tmp 17) (.cst (.int .i64 0)), none⟩,
        ⟨some 19, .iaddr 1 (.tmp 15) (.tmp 16), none⟩,
        ⟨none, .store 1 (.tmp 19) (.tmp 18), none⟩] [3, 8, 9, 10] none)))
    (.region none [] [
      ⟨some 20, .bin .add .int (.tmp 10) (.cst (.int .i64 1)), none⟩,
      ⟨some 10, .mov (.tmp 20), none⟩] [3, 8, 9, 10] none)))

def c25 : ACode :=
  .seq (.region none [] [
      ⟨some 2, .mov (.cst (.sl false [])), none⟩] [0] none)
    (.seq (.region none [] [
      ⟨some 6, .mov (.tmp 0), none⟩,
      ⟨some 7, .call .own 32 [(.tmp 6)], none⟩,
      ⟨some 3, .mov (.tmp 7), none⟩] [3] none)
    (.seq (.seq (.region none [] [
      ⟨some 8, .mov (.tmp 3), none⟩,
      ⟨some 9, .len .slice (.tmp 8), none⟩,
      ⟨some 10, .mov (.cst (.int .i64 0)), none⟩] [3, 8, 9, 10] none)
    (.block 0 (.loop l25_0_h l25_0_b)))
    (.seq (.region none [] [
      ⟨some 21, .mov (.tmp 3), none⟩,
      ⟨some 22, .call .share 33 [(.tmp 21), (.cst (.fn 34 []))], none⟩] [3] none)
    (.seq (.region none [] [
      ⟨some 23, .mov (.tmp 3), none⟩,
      ⟨some 2, .mov (.tmp 23), none⟩] [2] none)
    (.ret)))))

def a25 : AFunc := ⟨1, c25, [.tmp 2]⟩

def an25 : List RAnn := [
  { id := 0, live := [0] },
  { id := 1, live := [3], ops := [(1, .mode .own)] },
  { id := 2, live := [3, 8, 9, 10] },
  { id := 3, live := [3, 8, 9, 10, 11], hdr := [3, 8, 9, 10] },
  { id := 4, live := [3, 4, 5, 8, 9, 10] },
  { id := 5, live := [3, 8, 9, 10] },
  { id := 6, live := [3, 8, 9, 10] },
  { id := 7, live := [3], ops := [(1, .mode .share)] },
  { id := 8, live := [2] }]

theorem comp25 : compF Try.prog an25 Try.f25 = some a25 := by kernel_rfl

/- graphdb/graph.Check -/
/-- loop 0 of function 27 -/
def l27_0_h : List Nat := [1, 38, 39, 40]

def l27_0_b : ACode :=
  .seq (.region none [] [
      ⟨some 41, .bin .lss .int (.tmp 40) (.tmp 39), none⟩] [1, 38, 39, 40, 41] none)
    (.seq (.cond (.tmp 41) (.skip)
    (.exit 0))
    (.seq (.block 1 (.seq (.region none [] [
        ⟨some 42, .mov (.tmp 40), none⟩,
        ⟨some 43, .iaddr 3 (.tmp 38) (.tmp 40), none⟩,
        ⟨some 44, .load (some 3) (.tmp 43), none⟩,
        ⟨some 4, .alloc 3 (.agg [.int .i64 0, .sl false [], .sl false []]), none⟩,
        ⟨some 3, .mov (.tmp 42), none⟩,
        ⟨none, .store 3 (.tmp 4) (.tmp 44), none⟩] [1, 3, 4, 38, 39, 40] none)
      (.seq (.seq (.region (some 14) [] [
        ⟨some 45, .mov (.tmp 3), none⟩,
        ⟨some 46, .bin .gtr .int (.tmp 45) (.cst (.int .i64 0)), none⟩,
        ⟨some 47, .mov (.tmp 46), none⟩,
        ⟨some 48, .faddr 0 (.tmp 4), some (47, true)⟩,
        ⟨some 49, .load none (.tmp 48), some (47, true)⟩,
        ⟨some 50, .faddr 0 (.tmp 1), some (47, true)⟩,
        ⟨some 51, .load none (.tmp 50), some (47, true)⟩,
        ⟨some 52, .mov (.tmp 3), some (47, true)⟩,
        ⟨some 53, .bin .sub .int (.tmp 52) (.cst (.int .i64 1)), some (47, true)⟩,
        ⟨some 54, .iaddr 3 (.tmp 51) (.tmp 53), some (47, true)⟩,
        ⟨some 55, .faddr 0 (.tmp 54), some (47, true)⟩,
        ⟨some 56, .load none (.tmp 55), some (47, true)⟩,
        ⟨some 57, .bin .leq .int (.tmp 49) (.tmp 56), some (47, true)⟩,
        ⟨some 58, .pick (.tmp 47) (.tmp 57) (.cst (.bool false)), none⟩] [1, 4, 38, 39, 40, 58] none)
      (.cond (.tmp 58) (.seq (.region none [] [
          ⟨some 2, .mov (.cst (.int .i64 26)), none⟩] [2] none)
        (.ret))
      (.skip)))
      (.seq (.seq (.region none [] [
        ⟨some 59, .faddr 0 (.tmp 4), none⟩,
        ⟨some 60, .load none (.tmp 59), none⟩,
        ⟨some 61, .bin .lss .int (.tmp 60) (.cst (.int .i64 1)), none⟩,
        ⟨some 62, .mov (.tmp 61), none⟩,
        ⟨some 63, .faddr 0 (.tmp 4), some (62, false)⟩,
        ⟨some 64, .load none (.tmp 63), some (62, false)⟩,
        ⟨some 65, .faddr 2 (.tmp 1), some (62, false)⟩,
        ⟨some 66, .load none (.tmp 65), some (62, false)⟩,
        ⟨some 67, .bin .geq .int (.tmp 64) (.tmp 66), some (62, false)⟩,
        ⟨some 68, .pick (.tmp 62) (.cst (.bool true)) (.tmp 67), none⟩] [1, 4, 38, 39, 40, 68] none)
      (.cond (.tmp 68) (.seq (.region none [] [
          ⟨some 2, .mov (.cst (.int .i64 1)), none⟩] [2] none)
        (.ret))
      (.skip)))
      (.seq (.region none [] [
        ⟨some 69, .faddr 1 (.tmp 4), none⟩,
        ⟨some 70, .load none (.tmp 69), none⟩,
        ⟨some 71, .faddr 2 (.tmp 4), none⟩,
        ⟨some 72, .load none (.tmp 71), none⟩,
        ⟨some 73, .call .pure 35 [(.tmp 70), (.tmp 72)], none⟩,
        ⟨some 5, .mov (.tmp 73), none⟩] [1, 5, 38, 39, 40] none)
      (.seq (.region none [] [
        ⟨some 74, .mov (.tmp 5), none⟩,
        ⟨some 75, .bin .neq .int (.tmp 74) (.cst (.int .i64 0)), none⟩] [1, 5, 38, 39, 40, 75] none)
      (.cond (.tmp 75) (.seq (.region none [] [
          ⟨some 76, .mov (.tmp 5), none⟩,
          ⟨some 2, .mov (.tmp 76), none⟩] [2] none)
        (.ret))
      (.skip))))))))
    (.region none [] [
      ⟨some 77, .bin .add .int (.tmp 40) (.cst (.int .i64 1)), none⟩,
      ⟨some 40, .mov (.tmp 77), none⟩] [1, 38, 39, 40] none)))

/-- loop 1 of function 27 -/
def l27_1_h : List Nat := [1, 79, 80, 81]

def l27_1_b : ACode :=
  .seq (.region none [] [
      ⟨some 82, .bin .lss .int (.tmp 81) (.tmp 80), none⟩] [1, 79, 80, 81, 82] none)
    (.seq (.cond (.tmp 82) (.skip)
    (.exit 2))
    (.seq (.block 3 (.seq (.region none [] [
        ⟨some 83, .mov (.tmp 81), none⟩,
        ⟨some 84, .iaddr 5 (.tmp 79) (.tmp 81), none⟩,
        ⟨some 85, .load (some 5) (.tmp 84), none⟩,
        ⟨some 7, .alloc 5 (.agg [.int .i64 0, .int .i64 0, .int .i64 0, .str [], .sl false []]), none⟩,
        ⟨some 6, .mov (.tmp 83), none⟩,
        ⟨none, .store 5 (.tmp 7) (.tmp 85), none⟩] [1, 6, 7, 79, 80, 81] none)
      (.seq (.seq (.region (some 14) [] [
        ⟨some 86, .mov (.tmp 6), none⟩,
        ⟨some 87, .bin .gtr .int (.tmp 86) (.cst (.int .i64 0)), none⟩,
        ⟨some 88, .mov (.tmp 87), none⟩,
        ⟨some 89, .faddr 0 (.tmp 7), some (88, true)⟩,
        ⟨some 90, .load none (.tmp 89), some (88, true)⟩,
        ⟨some 91, .faddr 1 (.tmp 1), some (88, true)⟩,
        ⟨some 92, .load none (.tmp 91), some (88, true)⟩,
        ⟨some 93, .mov (.tmp 6), some (88, true)⟩,
        ⟨some 94, .bin .sub .int (.tmp 93) (.cst (.int .i64 1)), some (88, true)⟩,
        ⟨some 95, .iaddr 5 (.tmp 92) (.tmp 94), some (88, true)⟩,
        ⟨some 96, .faddr 0 (.tmp 95), some (88, true)⟩,
        ⟨some 97, .load none (.tmp 96), some (88, true)⟩,
        ⟨some 98, .bin .leq .int (.tmp 90) (.tmp 97), some (88, true)⟩,
        ⟨some 99, .pick (.tmp 88) (.tmp 98) (.cst (.bool false)), none⟩] [1, 7, 79, 80, 81, 99] none)
      (.cond (.tmp 99) (.seq (.region none [] [
          ⟨some 2, .mov (.cst (.int .i64 26)), none⟩] [2] none)
        (.ret))
      (.skip)))
      (.seq (.seq (.region none [] [
        ⟨some 100, .faddr 0 (.tmp 7), none⟩,
        ⟨some 101, .load none (.tmp 100), none⟩,
        ⟨some 102, .bin .lss .int (.tmp 101) (.cst (.int .i64 1)), none⟩,
        ⟨some 103, .mov (.tmp 102), none⟩,
        ⟨some 104, .faddr 0 (.tmp 7), some (103, false)⟩,
        ⟨some 105, .load none (.tmp 104), some (103, false)⟩,
        ⟨some 106, .faddr 3 (.tmp 1), some (103, false)⟩,
        ⟨some 107, .load none (.tmp 106), some (103, false)⟩,
        ⟨some 108, .bin .geq .int (.tmp 105) (.tmp 107), some (103, false)⟩,
        ⟨some 109, .pick (.tmp 103) (.cst (.bool true)) (.tmp 108), none⟩] [1, 7, 79, 80, 81, 109] none)
      (.cond (.tmp 109) (.seq (.region none [] [
          ⟨some 2, .mov (.cst (.int .i64 1)), none⟩] [2] none)
        (.ret))
      (.skip)))
      (.seq (.seq (.region none [] [
        ⟨some 110, .faddr 0 (.tmp 1), none⟩,
        ⟨some 111, .load none (.tmp 110), none⟩,
        ⟨some 112, .faddr 1 (.tmp 7), none⟩,
        ⟨some 113, .load none (.tmp 112), none⟩,
        ⟨some 114, .call .pure 36 [(.tmp 111), (.tmp 113)], none⟩,
        ⟨some 115, .un .not (.tmp 114), none⟩,
        ⟨some 116, .mov (.tmp 115), none⟩,
        ⟨some 117, .faddr 0 (.tmp 1), some (116, false)⟩,
        ⟨some 118, .load none (.tmp 117), some (116, false)⟩,
        ⟨some 119, .faddr 2 (.tmp 7), some (116, false)⟩,
        ⟨some 120, .load none (.tmp 119), some (116, false)⟩,
        ⟨some 121, .call .pure 36 [(.tmp 118), (.tmp 120)], some (116, false)⟩,
        ⟨some 122, .un .not (.tmp 121), some (116, false)⟩,
        ⟨some 123, .pick (.tmp 116) (.cst (.bool true)) (.tmp 122), none⟩] [1, 7, 79, 80, 81, 123] none)
      (.cond (.tmp 123) (.seq (.region none [] [
          ⟨some 2, .mov (.cst (.int .i64 10)), none⟩] [2] none)
        (.ret))
      (.skip)))
      (.seq (.seq (.region none [] [
        ⟨some 124, .faddr 3 (.tmp 7), none⟩,
        ⟨some 125, .load none (.tmp 124), none⟩,
        ⟨some 126, .call .pure 37 [(.tmp 125)], none⟩,
        ⟨some 127, .un .not (.tmp 126), none⟩] [1, 7, 79, 80, 81, 127] none)
      (.cond (.tmp 127) (.seq (.region none [] [
          ⟨some 2, .mov (.cst (.int .i64 6)), none⟩] [2] none)
        (.ret))
      (.skip)))
      (.seq (.region none [] [
        ⟨some 128, .faddr 4 (.tmp 7), none⟩,
        ⟨some 129, .load none (.tmp 128), none⟩,
        ⟨some 130, .call .pure 35 [(.cst (.sl false [])), (.tmp 129)], none⟩,
        ⟨some 8, .mov (.tmp 130), none⟩] [1, 8, 79, 80, 81] none)
      (.seq (.region none [] [
        ⟨some 131, .mov (.tmp 8), none⟩,
        ⟨some 132, .bin .neq .int (.tmp 131) (.cst (.int .i64 0)), none⟩] [1, 8, 79, 80, 81, 132] none)
      (.cond (.tmp 132) (.seq (.region none [] [
          ⟨some 133, .mov (.tmp 8), none⟩,
          ⟨some 2, .mov (.tmp 133), none⟩] [2] none)
        (.ret))
      (.skip))))))))))
    (.region none [] [
      ⟨some 134, .bin .add .int (.tmp 81) (.cst (.int .i64 1)), none⟩,
      ⟨some 81, .mov (.tmp 134), none⟩] [1, 79, 80, 81] none)))

def c27 : ACode :=
  .seq (.region none [] [
      ⟨some 1, .box 4 (.tmp 0), none⟩,
      ⟨some 2, .mov (.cst (.int .i64 0)), none⟩] [1] none)
    (.seq (.seq (.region none [] [
      ⟨some 9, .faddr 0 (.tmp 1), none⟩,
      ⟨some 10, .load none (.tmp 9), none⟩,
      ⟨some 11, .len .slice (.tmp 10), none⟩,
      ⟨some 12, .bin .gtr .int (.tmp 11) (.cst (.int .i64 2000)), none⟩,
      ⟨some 13, .mov (.tmp 12), none⟩,
      ⟨some 14, .faddr 1 (.tmp 1), some (13, false)⟩,
      ⟨some 15, .load none (.tmp 14), some (13, false)⟩,
      ⟨some 16, .len .slice (.tmp 15), some (13, false)⟩,
      ⟨some 17, .bin .gtr .int (.tmp 16) (.cst (.int .i64 4000)), some (13, false)⟩,
      ⟨some 18, .pick (.tmp 13) (.cst (.bool true)) (.tmp 17), none⟩] [1, 18] none)
    (.cond (.tmp 18) (.seq (.region none [] [
        ⟨some 2, .mov (.cst (.int .i64 4)), none⟩] [2] none)
      (.ret))
    (.skip)))
    (.seq (.seq (.region none [] [
      ⟨some 19, .faddr 2 (.tmp 1), none⟩,
      ⟨some 20, .load none (.tmp 19), none⟩,
      ⟨some 21, .bin .lss .int (.tmp 20) (.cst (.int .i64 1)), none⟩,
      ⟨some 22, .mov (.tmp 21), none⟩,
      ⟨some 23, .faddr 2 (.tmp 1), some (22, false)⟩,
      ⟨some 24, .load none (.tmp 23), some (22, false)⟩,
      ⟨some 25, .bin .gtr .int (.tmp 24) (.cst (.int .i64 1000001)), some (22, false)⟩,
      ⟨some 26, .pick (.tmp 22) (.cst (.bool true)) (.tmp 25), none⟩,
      ⟨some 27, .mov (.tmp 26), none⟩,
      ⟨some 28, .faddr 3 (.tmp 1), some (27, false)⟩,
      ⟨some 29, .load none (.tmp 28), some (27, false)⟩,
      ⟨some 30, .bin .lss .int (.tmp 29) (.cst (.int .i64 1)), some (27, false)⟩,
      ⟨some 31, .pick (.tmp 27) (.cst (.bool true)) (.tmp 30), none⟩,
      ⟨some 32, .mov (.tmp 31), none⟩,
      ⟨some 33, .faddr 3 (.tmp 1), some (32, false)⟩,
      ⟨some 34, .load none (.tmp 33), some (32, false)⟩,
      ⟨some 35, .bin .gtr .int (.tmp 34) (.cst (.int .i64 1000001)), some (32, false)⟩,
      ⟨some 36, .pick (.tmp 32) (.cst (.bool true)) (.tmp 35), none⟩] [1, 36] none)
    (.cond (.tmp 36) (.seq (.region none [] [
        ⟨some 2, .mov (.cst (.int .i64 1)), none⟩] [2] none)
      (.ret))
    (.skip)))
    (.seq (.seq (.region none [] [
      ⟨some 37, .faddr 0 (.tmp 1), none⟩,
      ⟨some 38, .load none (.tmp 37), none⟩,
      ⟨some 39, .len .slice (.tmp 38), none⟩,
      ⟨some 40, .mov (.cst (.int .i64 0)), none⟩] [1, 38, 39, 40] none)
    (.block 0 (.loop l27_0_h l27_0_b)))
    (.seq (.seq (.region none [] [
      ⟨some 78, .faddr 1 (.tmp 1), none⟩,
      ⟨some 79, .load none (.tmp 78), none⟩,
      ⟨some 80, .len .slice (.tmp 79), none⟩,
      ⟨some 81, .mov (.cst (.int .i64 0)), none⟩] [1, 79, 80, 81] none)
    (.block 2 (.loop l27_1_h l27_1_b)))
    (.seq (.region none [] [
      ⟨some 2, .mov (.cst (.int .i64 0)), none⟩] [2] none)
    (.ret))))))

def a27 : AFunc := ⟨1, c27, [.tmp 2]⟩

def an27 : List RAnn := [
  { id := 0, live := [1] },
  { id := 1, live := [1, 18] },
  { id := 2, live := [2] },
  { id := 3, live := [1, 36] },
  { id := 4, live := [2] },
  { id := 5, live := [1, 38, 39, 40] },
  { id := 6, live := [1, 38, 39, 40, 41], hdr := [1, 38, 39, 40] },
  { id := 7, live := [1, 3, 4, 38, 39, 40] },
  { id := 8, head := some 14, live := [1, 4, 38, 39, 40, 58] },
  { id := 9, live := [2] },
  { id := 10, live := [1, 4, 38, 39, 40, 68] },
  { id := 11, live := [2] },
  { id := 12, live := [1, 5, 38, 39, 40] },
  { id := 13, live := [1, 5, 38, 39, 40, 75] },
  { id := 14, live := [2] },
  { id := 15, live := [1, 38, 39, 40] },
  { id := 16, live := [1, 79, 80, 81] },
  { id := 17, live := [1, 79, 80, 81, 82], hdr := [1, 79, 80, 81] },
  { id := 18, live := [1, 6, 7, 79, 80, 81] },
  { id := 19, head := some 14, live := [1, 7, 79, 80, 81, 99] },
  { id := 20, live := [2] },
  { id := 21, live := [1, 7, 79, 80, 81, 109] },
  { id := 22, live := [2] },
  { id := 23, live := [1, 7, 79, 80, 81, 123] },
  { id := 24, live := [2] },
  { id := 25, live := [1, 7, 79, 80, 81, 127] },
  { id := 26, live := [2] },
  { id := 27, live := [1, 8, 79, 80, 81] },
  { id := 28, live := [1, 8, 79, 80, 81, 132] },
  { id := 29, live := [2] },
  { id := 30, live := [1, 79, 80, 81] },
  { id := 31, live := [2] }]

theorem comp27 : compF Try.prog an27 Try.f27 = some a27 := by kernel_rfl

/- graphdb/graph.Labels -/
/-- loop 0 of function 28 -/
def l28_0_h : List Nat := [3, 7, 8, 9]

def l28_0_b : ACode :=
  .seq (.region none [] [
      ⟨some 10, .bin .lss .int (.tmp 9) (.tmp 8), none⟩] [3, 7, 8, 9, 10] none)
    (.seq (.cond (.tmp 10) (.skip)
    (.exit 0))
    (.seq (.block 1 (.seq (.region none [] [
        ⟨some 11, .iaddr 3 (.tmp 7) (.tmp 9), none⟩,
        ⟨some 12, .load (some 3) (.tmp 11), none⟩,
        ⟨some 5, .alloc 3 (.agg [.int .i64 0, .sl false [], .sl false []]), none⟩,
        ⟨none, .store 3 (.tmp 5) (.tmp 12), none⟩] [3, 5, 7, 8, 9] none)
      (.region none [] [
        ⟨some 13, .mov (.tmp 3), none⟩,
        ⟨some 14, .faddr 1 (.tmp 5), none⟩,
        ⟨some 15, .load none (.tmp 14), none⟩,
        ⟨some 16, .append 1 16 (.tmp 13) (.tmp 15), none⟩,
        ⟨some 3, .mov (.tmp 16), none⟩] [3, 7, 8, 9] none)))
    (.region none [] [
      ⟨some 17, .bin .add .int (.tmp 9) (.cst (.int .i64 1)), none⟩,
      ⟨some 9, .mov (.tmp 17), none⟩] [3, 7, 8, 9] none)))

def c28 : ACode :=
  .seq (.region none [] [
      ⟨some 1, .box 4 (.tmp 0), none⟩,
      ⟨some 2, .mov (.cst (.sl false [])), none⟩] [1] none)
    (.seq (.region none [] [
      ⟨some 3, .newown 1, none⟩] [1, 3] none)
    (.seq (.seq (.region none [] [
      ⟨some 6, .faddr 0 (.tmp 1), none⟩,
      ⟨some 7, .load none (.tmp 6), none⟩,
      ⟨some 8, .len .slice (.tmp 7), none⟩,
      ⟨some 9, .mov (.cst (.int .i64 0)), none⟩] [3, 7, 8, 9] none)
    (.block 0 (.loop l28_0_h l28_0_b)))
    (.seq (.region none [] [
      ⟨some 18, .mov (.tmp 3), none⟩,
      ⟨some 19, .call .share 38 [(.tmp 18)], none⟩] [3] none)
    (.seq (.region none [] [
      ⟨some 20, .mov (.tmp 3), none⟩,
      ⟨some 21, .call .share 39 [(.tmp 20)], none⟩,
      ⟨some 2, .mov (.tmp 21), none⟩] [2] none)
    (.ret)))))

def a28 : AFunc := ⟨1, c28, [.tmp 2]⟩

def an28 : List RAnn := [
  { id := 0, live := [1] },
  { id := 1, live := [1, 3], ops := [(0, .own)] },
  { id := 2, live := [3, 7, 8, 9] },
  { id := 3, live := [3, 7, 8, 9, 10], hdr := [3, 7, 8, 9] },
  { id := 4, live := [3, 5, 7, 8, 9] },
  { id := 5, live := [3, 7, 8, 9] },
  { id := 6, live := [3, 7, 8, 9] },
  { id := 7, live := [3], ops := [(1, .mode .share)] },
  { id := 8, live := [2], ops := [(1, .mode .share)] }]

theorem comp28 : compF Try.prog an28 Try.f28 = some a28 := by kernel_rfl

/- graphdb/graph.HasLabel -/
def c29 : ACode :=
  .seq (.region none [] [
      ⟨some 2, .box 3 (.tmp 0), none⟩,
      ⟨some 4, .mov (.cst (.bool false)), none⟩] [1, 2] none)
    (.seq (.region none [] [
      ⟨some 5, .faddr 1 (.tmp 2), none⟩,
      ⟨some 6, .load none (.tmp 5), none⟩,
      ⟨some 7, .mov (.tmp 1), none⟩,
      ⟨some 8, .call .pure 40 [(.tmp 6), (.tmp 7)], none⟩,
      ⟨some 4, .mov (.tmp 8), none⟩] [4] none)
    (.ret))

def a29 : AFunc := ⟨2, c29, [.tmp 4]⟩

def an29 : List RAnn := [
  { id := 0, live := [1, 2] },
  { id := 1, live := [4] }]

theorem comp29 : compF Try.prog an29 Try.f29 = some a29 := by kernel_rfl

/- graphdb/graph.Types -/
/-- loop 0 of function 30 -/
def l30_0_h : List Nat := [3, 7, 8, 9]

def l30_0_b : ACode :=
  .seq (.region none [] [
      ⟨some 10, .bin .lss .int (.tmp 9) (.tmp 8), none⟩] [3, 7, 8, 9, 10] none)
    (.seq (.cond (.tmp 10) (.skip)
    (.exit 0))
    (.seq (.block 1 (.seq (.region none [] [
        ⟨some 11, .iaddr 5 (.tmp 7) (.tmp 9), none⟩,
        ⟨some 12, .load (some 5) (.tmp 11), none⟩,
        ⟨some 5, .alloc 5 (.agg [.int .i64 0, .int .i64 0, .int .i64 0, .str [], .sl false []]), none⟩,
        ⟨none, .store 5 (.tmp 5) (.tmp 12), none⟩] [3, 5, 7, 8, 9] none)
      (.region none [] [
        ⟨some 13, .mov (.tmp 3), none⟩,
        ⟨some 14, .faddr 3 (.tmp 5), none⟩,
        ⟨some 15, .load none (.tmp 14), none⟩,
        ⟨some 16, .lit false 1 (.str []) 1 [(0, (.tmp 15))], none⟩,
        ⟨some 17, .append 1 16 (.tmp 13) (.tmp 16), none⟩,
        ⟨some 3, .mov (.tmp 17), none⟩] [3, 7, 8, 9] none)))
    (.region none [] [
      ⟨some 18, .bin .add .int (.tmp 9) (.cst (.int .i64 1)), none⟩,
      ⟨some 9, .mov (.tmp 18), none⟩] [3, 7, 8, 9] none)))

def c30 : ACode :=
  .seq (.region none [] [
      ⟨some 1, .box 4 (.tmp 0), none⟩,
      ⟨some 2, .mov (.cst (.sl false [])), none⟩] [1] none)
    (.seq (.region none [] [
      ⟨some 3, .newown 1, none⟩] [1, 3] none)
    (.seq (.seq (.region none [] [
      ⟨some 6, .faddr 1 (.tmp 1), none⟩,
      ⟨some 7, .load none (.tmp 6), none⟩,
      ⟨some 8, .len .slice (.tmp 7), none⟩,
      ⟨some 9, .mov (.cst (.int .i64 0)), none⟩] [3, 7, 8, 9] none)
    (.block 0 (.loop l30_0_h l30_0_b)))
    (.seq (.region none [] [
      ⟨some 19, .mov (.tmp 3), none⟩,
      ⟨some 20, .call .share 38 [(.tmp 19)], none⟩] [3] none)
    (.seq (.region none [] [
      ⟨some 21, .mov (.tmp 3), none⟩,
      ⟨some 22, .call .share 39 [(.tmp 21)], none⟩,
      ⟨some 2, .mov (.tmp 22), none⟩] [2] none)
    (.ret)))))

def a30 : AFunc := ⟨1, c30, [.tmp 2]⟩

def an30 : List RAnn := [
  { id := 0, live := [1] },
  { id := 1, live := [1, 3], ops := [(0, .own)] },
  { id := 2, live := [3, 7, 8, 9] },
  { id := 3, live := [3, 7, 8, 9, 10], hdr := [3, 7, 8, 9] },
  { id := 4, live := [3, 5, 7, 8, 9] },
  { id := 5, live := [3, 7, 8, 9] },
  { id := 6, live := [3, 7, 8, 9] },
  { id := 7, live := [3], ops := [(1, .mode .share)] },
  { id := 8, live := [2], ops := [(1, .mode .share)] }]

theorem comp30 : compF Try.prog an30 Try.f30 = some a30 := by kernel_rfl

/- graphdb/degree.seq -/
/-- loop 0 of function 31 -/
def l31_0_h : List Nat := [1, 2, 3, 7, 16, 17, 18]

def l31_0_b : ACode :=
  .seq (.region none [] [
      ⟨some 19, .bin .lss .int (.tmp 18) (.tmp 17), none⟩] [1, 2, 3, 7, 16, 17, 18, 19] none)
    (.seq (.cond (.tmp 19) (.skip)
    (.exit 0))
    (.seq (.block 1 (.seq (.region none [] [
        ⟨some 20, .iaddr 5 (.tmp 16) (.tmp 18), none⟩,
        ⟨some 21, .load (some 5) (.tmp 20), none⟩,
        ⟨some 9, .alloc 5 (.agg [.int .i64 0, .int .i64 0, .int .i64 0, .str [], .sl false []]), none⟩,
        ⟨none, .store 5 (.tmp 9) (.tmp 21), none⟩] [1, 2, 3, 7, 9, 16, 17, 18] none)
      (.seq (.seq (.region none [] [
        ⟨some 22, .mov (.tmp 1), none⟩,
        ⟨some 23, .bin .neq .str (.tmp 22) (.cst (.str [])), none⟩,
        ⟨some 24, .mov (.tmp 23), none⟩,
        ⟨some 25, .faddr 3 (.tmp 9), some (24, true)⟩,
        ⟨some 26, .load none (.tmp 25), some (24, true)⟩,
        ⟨some 27, .mov (.tmp 1), some (24, true)⟩,
        ⟨some 28, .bin .neq .str (.tmp 26) (.tmp 27), some (24, true)⟩,
        ⟨some 29, .pick (.tmp 24) (.tmp 28) (.cst (.bool false)), none⟩] [1, 2, 3, 7, 9, 16, 17, 18, 29] none)
      (.cond (.tmp 29) (.exit 1)
      (.skip)))
      (.seq (.region none [] [
        ⟨some 30, .mov (.tmp 2), none⟩,
        ⟨some 31, .bin .eql .int (.tmp 30) (.cst (.int .i64 1)), none⟩] [1, 2, 3, 7, 9, 16, 17, 18, 31] none)
      (.cond (.tmp 31) (.region none [] [
          ⟨some 32, .mov (.tmp 7), none⟩,
          ⟨some 33, .faddr 1 (.tmp 9), none⟩,
          ⟨some 34, .load none (.tmp 33), none⟩,
          ⟨some 35, .lookup .int (.int .i64 0) false (.tmp 32) (.tmp 34), none⟩,
          ⟨some 36, .bin .add .int (.tmp 35) (.cst (.int .i64 1)), none⟩,
          ⟨none, .mapset .int (.tmp 32) (.tmp 34) (.tmp 36), none⟩] [1, 2, 3, 7, 16, 17, 18] none)
      (.region none [] [
          ⟨some 37, .mov (.tmp 7), none⟩,
          ⟨some 38, .faddr 2 (.tmp 9), none⟩,
          ⟨some 39, .load none (.tmp 38), none⟩,
          ⟨some 40, .lookup .int (.int .i64 0) false (.tmp 37) (.tmp 39), none⟩,
          ⟨some 41, .bin .add .int (.tmp 40) (.cst (.int .i64 1)), none⟩,
          ⟨none, .mapset .int (.tmp 37) (.tmp 39) (.tmp 41), none⟩] [1, 2, 3, 7, 16, 17, 18] none))))))
    (.region none [] [
      ⟨some 42, .bin .add .int (.tmp 18) (.cst (.int .i64 1)), none⟩,
      ⟨some 18, .mov (.tmp 42), none⟩] [1, 2, 3, 7, 16, 17, 18] none)))

/-- loop 1 of function 31 -/
def l31_1_h : List Nat := [7, 10, 44, 45, 46]

def l31_1_b : ACode :=
  .seq (.region none [] [
      ⟨some 47, .bin .lss .int (.tmp 46) (.tmp 45), none⟩] [7, 10, 44, 45, 46, 47] none)
    (.seq (.cond (.tmp 47) (.skip)
    (.exit 2))
    (.seq (.block 3 (.seq (.region none [] [
        ⟨some 48, .iaddr 3 (.tmp 44) (.tmp 46), none⟩,
        ⟨some 49, .load (some 3) (.tmp 48), none⟩,
        ⟨some 12, .alloc 3 (.agg [.int .i64 0, .sl false [], .sl false []]), none⟩,
        ⟨none, .store 3 (.tmp 12) (.tmp 49), none⟩] [7, 10, 12, 44, 45, 46] none)
      (.seq (.region none [] [
        ⟨some 50, .mov (.tmp 7), none⟩,
        ⟨some 51, .faddr 0 (.tmp 12), none⟩,
        ⟨some 52, .load none (.tmp 51), none⟩,
        ⟨some 53, .lookup .int (.int .i64 0) false (.tmp 50) (.tmp 52), none⟩,
        ⟨some 13, .mov (.tmp 53), none⟩] [7, 10, 13, 44, 45, 46] none)
      (.seq (.region none [] [
        ⟨some 54, .mov (.tmp 13), none⟩,
        ⟨some 55, .bin .gtr .int (.tmp 54) (.cst (.int .i64 0)), none⟩] [7, 10, 13, 44, 45, 46, 55] none)
      (.cond (.tmp 55) (.region none [] [
          ⟨some 56, .mov (.tmp 10), none⟩,
          ⟨some 57, .mov (.tmp 13), none⟩,
          ⟨some 58, .lit false 1 (.int .i64 0) 1 [(0, (.tmp 57))], none⟩,
          ⟨some 59, .append 1 8 (.tmp 56) (.tmp 58), none⟩,
          ⟨some 10, .mov (.tmp 59), none⟩] [7, 10, 44, 45, 46] none)
      (.skip))))))
    (.region none [] [
      ⟨some 60, .bin .add .int (.tmp 46) (.cst (.int .i64 1)), none⟩,
      ⟨some 46, .mov (.tmp 60), none⟩] [7, 10, 44, 45, 46] none)))

def c31 : ACode :=
  .seq (.region none [] [
      ⟨some 3, .box 4 (.tmp 0), none⟩,
      ⟨some 6, .mov (.cst (.sl false [])), none⟩] [1, 2, 3] none)
    (.seq (.region none [] [
      ⟨some 14, .mkmap, none⟩,
      ⟨some 7, .mov (.tmp 14), none⟩] [1, 2, 3, 7] none)
    (.seq (.seq (.region none [] [
      ⟨some 15, .faddr 1 (.tmp 3), none⟩,
      ⟨some 16, .load none (.tmp 15), none⟩,
      ⟨some 17, .len .slice (.tmp 16), none⟩,
      ⟨some 18, .mov (.cst (.int .i64 0)), none⟩] [1, 2, 3, 7, 16, 17, 18] none)
    (.block 0 (.loop l31_0_h l31_0_b)))
    (.seq (.region none [] [
      ⟨some 10, .newown 1, none⟩] [3, 7, 10] none)
    (.seq (.seq (.region none [] [
      ⟨some 43, .faddr 0 (.tmp 3), none⟩,
      ⟨some 44, .load none (.tmp 43), none⟩,
      ⟨some 45, .len .slice (.tmp 44), none⟩,
      ⟨some 46, .mov (.cst (.int .i64 0)), none⟩] [7, 10, 44, 45, 46] none)
    (.block 2 (.loop l31_1_h l31_1_b)))
    (.seq (.region none [] [
      ⟨some 61, .mov (.tmp 10), none⟩,
      ⟨some 62, .call .share 33 [(.tmp 61), (.cst (.fn 34 []))], none⟩] [10] none)
    (.seq (.region none [] [
      ⟨some 63, .mov (.tmp 10), none⟩,
      ⟨some 6, .mov (.tmp 63), none⟩] [6] none)
    (.ret)))))))

def a31 : AFunc := ⟨3, c31, [.tmp 6]⟩

def an31 : List RAnn := [
  { id := 0, live := [1, 2, 3] },
  { id := 1, live := [1, 2, 3, 7] },
  { id := 2, live := [1, 2, 3, 7, 16, 17, 18] },
  { id := 3, live := [1, 2, 3, 7, 16, 17, 18, 19], hdr := [1, 2, 3, 7, 16, 17, 18] },
  { id := 4, live := [1, 2, 3, 7, 9, 16, 17, 18] },
  { id := 5, live := [1, 2, 3, 7, 9, 16, 17, 18, 29] },
  { id := 6, live := [1, 2, 3, 7, 9, 16, 17, 18, 31] },
  { id := 7, live := [1, 2, 3, 7, 16, 17, 18] },
  { id := 8, live := [1, 2, 3, 7, 16, 17, 18] },
  { id := 9, live := [1, 2, 3, 7, 16, 17, 18] },
  { id := 10, live := [3, 7, 10], ops := [(0, .own)] },
  { id := 11, live := [7, 10, 44, 45, 46] },
  { id := 12, live := [7, 10, 44, 45, 46, 47], hdr := [7, 10, 44, 45, 46] },
  { id := 13, live := [7, 10, 12, 44, 45, 46] },
  { id := 14, live := [7, 10, 13, 44, 45, 46] },
  { id := 15, live := [7, 10, 13, 44, 45, 46, 55] },
  { id := 16, live := [7, 10, 44, 45, 46] },
  { id := 17, live := [7, 10, 44, 45, 46] },
  { id := 18, live := [10], ops := [(1, .mode .share)] },
  { id := 19, live := [6] }]

theorem comp31 : compF Try.prog an31 Try.f31 = some a31 := by kernel_rfl

/- slices.Clone[[]int,int] -/
def c32 : ACode :=
  .seq (.region none [] [
      ⟨some 2, .mov (.cst (.sl false [])), none⟩] [0] none)
    (.seq (.seq (.region none [] [
      ⟨some 3, .mov (.tmp 0), none⟩,
      ⟨some 4, .bin .eql .slice (.tmp 3) (.cst (.sl false [])), none⟩] [0, 4] none)
    (.cond (.tmp 4) (.seq (.region none [] [
        ⟨some 2, .mov (.cst (.sl false [])), none⟩] [2] none)
      (.ret))
    (.skip)))
    (.seq (.region none [] [
      ⟨some 5, .lit true 1 (.int .i64 0) 0 [], none⟩,
      ⟨some 6, .mov (.tmp 0), none⟩,
      ⟨some 7, .append 1 8 (.tmp 5) (.tmp 6), none⟩,
      ⟨some 2, .mov (.tmp 7), none⟩] [2] none)
    (.ret)))

def a32 : AFunc := ⟨1, c32, [.tmp 2]⟩

def an32 : List RAnn := [
  { id := 0, live := [0] },
  { id := 1, live := [0, 4] },
  { id := 2, live := [2] },
  { id := 3, live := [2], ops := [(0, .own)] }]

theorem comp32 : compF Try.prog an32 Try.f32 = some a32 := by kernel_rfl

/- slices.SortFunc[[]int,int] -/
def c33 : ACode :=
  .seq (.region none [] [
      ⟨some 5, .mov (.tmp 0), none⟩,
      ⟨some 6, .len .slice (.tmp 5), none⟩,
      ⟨some 4, .mov (.tmp 6), none⟩] [0, 1, 4] none)
    (.region none [] [
      ⟨some 7, .mov (.tmp 0), none⟩,
      ⟨some 8, .mov (.tmp 4), none⟩,
      ⟨some 9, .mov (.tmp 4), none⟩,
      ⟨some 10, .conv .u64 (.tmp 9), none⟩,
      ⟨some 11, .call .pure 42 [(.tmp 10)], none⟩,
      ⟨some 12, .mov (.tmp 1), none⟩,
      ⟨some 13, .call .share 41 [(.tmp 7), (.cst (.int .i64 0)), (.tmp 8), (.tmp 11), (.tmp 12)], none⟩] [] none)

def a33 : AFunc := ⟨2, c33, []⟩

def an33 : List RAnn := [
  { id := 0, live := [0, 1, 4] },
  { id := 1, ops := [(6, .mode .share)] }]

theorem comp33 : compF Try.prog an33 Try.f33 = some a33 := by kernel_rfl

/- graphdb/degree.falling -/
def c34 : ACode :=
  .seq (.region none [] [
      ⟨some 4, .mov (.cst (.int .i64 0)), none⟩] [0, 1] none)
    (.seq (.region none [] [
      ⟨some 5, .mov (.tmp 1), none⟩,
      ⟨some 6, .mov (.tmp 0), none⟩,
      ⟨some 7, .call .pure 43 [(.tmp 5), (.tmp 6)], none⟩,
      ⟨some 4, .mov (.tmp 7), none⟩] [4] none)
    (.ret))

def a34 : AFunc := ⟨2, c34, [.tmp 4]⟩

def an34 : List RAnn := [
  { id := 0, live := [0, 1] },
  { id := 1, live := [4] }]

theorem comp34 : compF Try.prog an34 Try.f34 = some a34 := by kernel_rfl

/- graphdb/graph.parts -/
/-- loop 0 of function 35 -/
def l35_0_h : List Nat := [0, 1, 5, 18, 19, 20]

def l35_0_b : ACode :=
  .seq (.region none [] [
      ⟨some 21, .bin .lss .int (.tmp 20) (.tmp 19), none⟩] [0, 1, 5, 18, 19, 20, 21] none)
    (.seq (.cond (.tmp 21) (.skip)
    (.exit 0))
    (.seq (.block 1 (.seq (.region none [] [
        ⟨some 22, .iaddr 6 (.tmp 18) (.tmp 20), none⟩,
        ⟨some 23, .load (some 6) (.tmp 22), none⟩,
        ⟨some 7, .alloc 6 (.agg [.str [], .int .i64 0, .int .i64 0, .int .i64 0, .str [], .sl false []]), none⟩,
        ⟨none, .store 6 (.tmp 7) (.tmp 23), none⟩] [0, 1, 5, 7, 18, 19, 20] none)
      (.region none [] [
        ⟨some 24, .mov (.tmp 5), none⟩,
        ⟨some 25, .faddr 0 (.tmp 7), none⟩,
        ⟨some 26, .load none (.tmp 25), none⟩,
        ⟨some 27, .lit false 1 (.str []) 1 [(0, (.tmp 26))], none⟩,
        ⟨some 28, .append 1 16 (.tmp 24) (.tmp 27), none⟩,
        ⟨some 5, .mov (.tmp 28), none⟩] [0, 1, 5, 18, 19, 20] none)))
    (.region none [] [
      ⟨some 29, .bin .add .int (.tmp 20) (.cst (.int .i64 1)), none⟩,
      ⟨some 20, .mov (.tmp 29), none⟩] [0, 1, 5, 18, 19, 20] none)))

/-- loop 1 of function 35 -/
def l35_1_h : List Nat := [44, 45, 46]

def l35_1_b : ACode :=
  .seq (.region none [] [
      ⟨some 47, .bin .lss .int (.tmp 46) (.tmp 45), none⟩] [44, 45, 46, 47] none)
    (.seq (.cond (.tmp 47) (.skip)
    (.exit 2))
    (.seq (.block 3 (.seq (.region none [] [
        ⟨some 48, .iaddr 6 (.tmp 44) (.tmp 46), none⟩,
        ⟨some 49, .load (some 6) (.tmp 48), none⟩,
        ⟨some 9, .alloc 6 (.agg [.str [], .int .i64 0, .int .i64 0, .int .i64 0, .str [], .sl false []]), none⟩,
        ⟨none, .store 6 (.tmp 9) (.tmp 49), none⟩] [9, 44, 45, 46] none)
      (.seq (.region none [] [
        ⟨some 50, .faddr 1 (.tmp 9), none⟩,
        ⟨some 51, .load (some 5) (.tmp 50), none⟩,
        ⟨some 52, .call .pure 47 [(.tmp 51)], none⟩,
        ⟨some 53, .un .not (.tmp 52), none⟩] [44, 45, 46, 53] none)
      (.cond (.tmp 53) (.seq (.region none [] [
          ⟨some 4, .mov (.cst (.int .i64 8)), none⟩] [4] none)
        (.ret))
      (.skip)))))
    (.region none [] [
      ⟨some 54, .bin .add .int (.tmp 46) (.cst (.int .i64 1)), none⟩,
      ⟨some 46, .mov (.tmp 54), none⟩] [44, 45, 46] none)))

def c35 : ACode :=
  .seq (.region none [] [
      ⟨some 4, .mov (.cst (.int .i64 0)), none⟩] [0, 1] none)
    (.seq (.seq (.region none [] [
      ⟨some 10, .mov (.tmp 0), none⟩,
      ⟨some 11, .len .slice (.tmp 10), none⟩,
      ⟨some 12, .bin .gtr .int (.tmp 11) (.cst (.int .i64 8)), none⟩,
      ⟨some 13, .mov (.tmp 12), none⟩,
      ⟨some 14, .mov (.tmp 1), some (13, false)⟩,
      ⟨some 15, .len .slice (.tmp 14), some (13, false)⟩,
      ⟨some 16, .bin .gtr .int (.tmp 15) (.cst (.int .i64 16)), some (13, false)⟩,
      ⟨some 17, .pick (.tmp 13) (.cst (.bool true)) (.tmp 16), none⟩] [0, 1, 17] none)
    (.cond (.tmp 17) (.seq (.region none [] [
        ⟨some 4, .mov (.cst (.int .i64 4)), none⟩] [4] none)
      (.ret))
    (.skip)))
    (.seq (.region none [] [
      ⟨some 5, .newown 1, none⟩] [0, 1, 5] none)
    (.seq (.seq (.region none [] [
      ⟨some 18, .mov (.tmp 1), none⟩,
      ⟨some 19, .len .slice (.tmp 18), none⟩,
      ⟨some 20, .mov (.cst (.int .i64 0)), none⟩] [0, 1, 5, 18, 19, 20] none)
    (.block 0 (.loop l35_0_h l35_0_b)))
    (.seq (.seq (.region none [] [
      ⟨some 30, .mov (.tmp 0), none⟩,
      ⟨some 31, .call .pure 44 [(.tmp 30), (.cst (.fn 45 []))], none⟩,
      ⟨some 32, .mov (.tmp 31), none⟩,
      ⟨some 33, .mov (.tmp 5), some (32, false)⟩,
      ⟨some 34, .call .borrow 44 [(.tmp 33), (.cst (.fn 45 []))], some (32, false)⟩,
      ⟨some 35, .pick (.tmp 32) (.cst (.bool true)) (.tmp 34), none⟩] [0, 1, 5, 35] none)
    (.cond (.tmp 35) (.seq (.region none [] [
        ⟨some 4, .mov (.cst (.int .i64 6)), none⟩] [4] none)
      (.ret))
    (.skip)))
    (.seq (.seq (.region none [] [
      ⟨some 36, .mov (.tmp 0), none⟩,
      ⟨some 37, .call .pure 46 [(.tmp 36)], none⟩,
      ⟨some 38, .un .not (.tmp 37), none⟩,
      ⟨some 39, .mov (.tmp 38), none⟩,
      ⟨some 40, .mov (.tmp 5), some (39, false)⟩,
      ⟨some 41, .call .borrow 46 [(.tmp 40)], some (39, false)⟩,
      ⟨some 42, .un .not (.tmp 41), some (39, false)⟩,
      ⟨some 43, .pick (.tmp 39) (.cst (.bool true)) (.tmp 42), none⟩] [1, 43] none)
    (.cond (.tmp 43) (.seq (.region none [] [
        ⟨some 4, .mov (.cst (.int .i64 26)), none⟩] [4] none)
      (.ret))
    (.skip)))
    (.seq (.seq (.region none [] [
      ⟨some 44, .mov (.tmp 1), none⟩,
      ⟨some 45, .len .slice (.tmp 44), none⟩,
      ⟨some 46, .mov (.cst (.int .i64 0)), none⟩] [44, 45, 46] none)
    (.block 2 (.loop l35_1_h l35_1_b)))
    (.seq (.region none [] [
      ⟨some 4, .mov (.cst (.int .i64 0)), none⟩] [4] none)
    (.ret))))))))

def a35 : AFunc := ⟨2, c35, [.tmp 4]⟩

def an35 : List RAnn := [
  { id := 0, live := [0, 1] },
  { id := 1, live := [0, 1, 17] },
  { id := 2, live := [4] },
  { id := 3, live := [0, 1, 5], ops := [(0, .own)] },
  { id := 4, live := [0, 1, 5, 18, 19, 20] },
  { id := 5, live := [0, 1, 5, 18, 19, 20, 21], hdr := [0, 1, 5, 18, 19, 20] },
  { id := 6, live := [0, 1, 5, 7, 18, 19, 20] },
  { id := 7, live := [0, 1, 5, 18, 19, 20] },
  { id := 8, live := [0, 1, 5, 18, 19, 20] },
  { id := 9, live := [0, 1, 5, 35], ops := [(4, .mode .borrow)] },
  { id := 10, live := [4] },
  { id := 11, live := [1, 43], ops := [(5, .mode .borrow)] },
  { id := 12, live := [4] },
  { id := 13, live := [44, 45, 46] },
  { id := 14, live := [44, 45, 46, 47], hdr := [44, 45, 46] },
  { id := 15, live := [9, 44, 45, 46] },
  { id := 16, live := [44, 45, 46, 53] },
  { id := 17, live := [4] },
  { id := 18, live := [44, 45, 46] },
  { id := 19, live := [4] }]

theorem comp35 : compF Try.prog an35 Try.f35 = some a35 := by kernel_rfl

/- graphdb/graph.has -/
def c36 : ACode :=
  .seq (.region none [] [
      ⟨some 4, .mov (.cst (.bool false)), none⟩] [0, 1] none)
    (.seq (.region none [] [
      ⟨some 8, .mov (.tmp 0), none⟩,
      ⟨some 9, .mov (.tmp 1), none⟩,
      ⟨some 10, .call .pure 48 [(.tmp 8), (.tmp 9), (.cst (.fn 49 []))], none⟩,
      ⟨some 7, .mov (.tmp 10), none⟩,
      ⟨some 11, .ext (.tmp 7) 0, none⟩,
      ⟨some 12, .ext (.tmp 7) 1, none⟩,
      ⟨some 5, .mov (.tmp 11), none⟩,
      ⟨some 6, .mov (.tmp 12), none⟩] [6] none)
    (.seq (.region none [] [
      ⟨some 13, .mov (.tmp 6), none⟩,
      ⟨some 4, .mov (.tmp 13), none⟩] [4] none)
    (.ret)))

def a36 : AFunc := ⟨2, c36, [.tmp 4]⟩

def an36 : List RAnn := [
  { id := 0, live := [0, 1] },
  { id := 1, live := [6] },
  { id := 2, live := [4] }]

theorem comp36 : compF Try.prog an36 Try.f36 = some a36 := by kernel_rfl

/- graphdb/graph.Name -/
/-- loop 0 of function 37 -/
def l37_0_h : List Nat := [0, 18, 19]

def l37_0_b : ACode :=
  .seq (.region none [] [
      ⟨some 20, .bin .lss .int (.tmp 19) (.tmp 18), none⟩] [0, 18, 19, 20] none)
    (.seq (.cond (.tmp 20) (.skip)
    (.exit 0))
    (.seq (.block 1 (.seq (.region none [] [
        ⟨some 21, .mov (.tmp 19), none⟩,
        ⟨some 3, .mov (.tmp 21), none⟩] [0, 3, 18, 19] none)
      (.seq (.region none [] [
        ⟨some 22, .mov (.tmp 0), none⟩,
        ⟨some 23, .mov (.tmp 3), none⟩,
        ⟨some 24, .sidx (.tmp 22) (.tmp 23), none⟩,
        ⟨some 25, .call .pure 50 [(.tmp 24)], none⟩,
        ⟨some 26, .un .not (.tmp 25), none⟩,
        ⟨some 27, .mov (.tmp 26), none⟩,
        ⟨some 28, .mov (.tmp 0), some (27, true)⟩,
        ⟨some 29, .mov (.tmp 3), some (27, true)⟩,
        ⟨some 30, .sidx (.tmp 28) (.tmp 29), some (27, true)⟩,
        ⟨some 31, .bin .lss .int (.tmp 30) (.cst (.int .u8 48)), some (27, true)⟩,
        ⟨some 32, .mov (.tmp 31), some (27, true)⟩,
        ⟨some 33, .mov (.tmp 0), some (32, false)⟩,
        ⟨some 34, .mov (.tmp 3), some (32, false)⟩,
        ⟨some 35, .sidx (.tmp 33) (.tmp 34), some (32, false)⟩,
        ⟨some 36, .bin .gtr .int (.tmp 35) (.cst (.int .u8 57)), some (32, false)⟩,
        ⟨some 37, .pick (.tmp 32) (.cst (.bool true)) (.tmp 36), some (27, true)⟩,
        ⟨some 38, .pick (.tmp 27) (.tmp 37) (.cst (.bool false)), none⟩,
        ⟨some 39, .mov (.tmp 38), none⟩,
        ⟨some 40, .mov (.tmp 0), some (39, true)⟩,
        ⟨some 41, .mov (.tmp 3), some (39, true)⟩,
        ⟨some 42, .sidx (.tmp 40) (.tmp 41), some (39, true)⟩,
        ⟨some 43, .bin .neq .int (.tmp 42) (.cst (.int .u8 95)), some (39, true)⟩,
        ⟨some 44, .pick (.tmp 39) (.tmp 43) (.cst (.bool false)), none⟩] [0, 18, 19, 44] none)
      (.cond (.tmp 44) (.seq (.region none [] [
          ⟨some 2, .mov (.cst (.bool false)), none⟩] [2] none)
        (.ret))
      (.skip)))))
    (.region none [] [
      ⟨some 45, .bin .add .int (.tmp 19) (.cst (.int .i64 1)), none⟩,
      ⟨some 19, .mov (.tmp 45), none⟩] [0, 18, 19] none)))

def c37 : ACode :=
  .seq (.region none [] [
      ⟨some 2, .mov (.cst (.bool false)), none⟩] [0] none)
    (.seq (.seq (.region none [] [
      ⟨some 4, .mov (.tmp 0), none⟩,
      ⟨some 5, .bin .eql .str (.tmp 4) (.cst (.str [])), none⟩,
      ⟨some 6, .mov (.tmp 5), none⟩,
      ⟨some 7, .mov (.tmp 0), some (6, false)⟩,
      ⟨some 8, .len .str (.tmp 7), some (6, false)⟩,
      ⟨some 9, .bin .gtr .int (.tmp 8) (.cst (.int .i64 20)), some (6, false)⟩,
      ⟨some 10, .pick (.tmp 6) (.cst (.bool true)) (.tmp 9), none⟩,
      ⟨some 11, .mov (.tmp 10), none⟩,
      ⟨some 12, .mov (.tmp 0), some (11, false)⟩,
      ⟨some 13, .sidx (.tmp 12) (.cst (.int .i64 0)), some (11, false)⟩,
      ⟨some 14, .call .pure 50 [(.tmp 13)], some (11, false)⟩,
      ⟨some 15, .un .not (.tmp 14), some (11, false)⟩,
      ⟨some 16, .pick (.tmp 11) (.cst (.bool true)) (.tmp 15), none⟩] [0, 16] none)
    (.cond (.tmp 16) (.seq (.region none [] [
        ⟨some 2, .mov (.cst (.bool false)), none⟩] [2] none)
      (.ret))
    (.skip)))
    (.seq (.seq (.region none [] [
      ⟨some 17, .mov (.tmp 0), none⟩,
      ⟨some 18, .len .str (.tmp 17), none⟩,
      ⟨some 19, .mov (.cst (.int .i64 0)), none⟩] [0, 18, 19] none)
    (.block 0 (.loop l37_0_h l37_0_b)))
    (.seq (.region none [] [
      ⟨some 2, .mov (.cst (.bool true)), none⟩] [2] none)
    (.ret))))

def a37 : AFunc := ⟨1, c37, [.tmp 2]⟩

def an37 : List RAnn := [
  { id := 0, live := [0] },
  { id := 1, live := [0, 16] },
  { id := 2, live := [2] },
  { id := 3, live := [0, 18, 19] },
  { id := 4, live := [0, 18, 19, 20], hdr := [0, 18, 19] },
  { id := 5, live := [0, 3, 18, 19] },
  { id := 6, live := [0, 18, 19, 44] },
  { id := 7, live := [2] },
  { id := 8, live := [0, 18, 19] },
  { id := 9, live := [2] }]

theorem comp37 : compF Try.prog an37 Try.f37 = some a37 := by kernel_rfl

/- slices.Sort[[]string,string] -/
def c38 : ACode :=
  .seq (.region none [] [
      ⟨some 3, .mov (.tmp 0), none⟩,
      ⟨some 4, .len .slice (.tmp 3), none⟩,
      ⟨some 2, .mov (.tmp 4), none⟩] [0, 2] none)
    (.region none [] [
      ⟨some 5, .mov (.tmp 0), none⟩,
      ⟨some 6, .mov (.tmp 2), none⟩,
      ⟨some 7, .mov (.tmp 2), none⟩,
      ⟨some 8, .conv .u64 (.tmp 7), none⟩,
      ⟨some 9, .call .pure 42 [(.tmp 8)], none⟩,
      ⟨some 10, .call .share 51 [(.tmp 5), (.cst (.int .i64 0)), (.tmp 6), (.tmp 9)], none⟩] [] none)

def a38 : AFunc := ⟨1, c38, []⟩

def an38 : List RAnn := [
  { id := 0, live := [0, 2] },
  { id := 1, ops := [(5, .mode .share)] }]

theorem comp38 : compF Try.prog an38 Try.f38 = some a38 := by kernel_rfl

/- slices.Compact[[]string,string] -/
/-- loop 0 of function 39 -/
def l39_0_h : List Nat := [0, 3, 4, 5]

def l39_0_b : ACode :=
  .seq (.seq (.region none [] [
      ⟨some 29, .mov (.tmp 5), none⟩,
      ⟨some 30, .mov (.tmp 4), none⟩,
      ⟨some 31, .len .slice (.tmp 30), none⟩,
      ⟨some 32, .bin .lss .int (.tmp 29) (.tmp 31), none⟩] [0, 3, 4, 5, 32] none)
    (.cond (.tmp 32) (.skip)
    (.exit 2)))
    (.seq (.block 3 (.seq (.region (some 10) [] [
        ⟨some 35, .mov (.tmp 4), none⟩,
        ⟨some 36, .mov (.tmp 5), none⟩,
        ⟨some 37, .iaddr 1 (.tmp 35) (.tmp 36), none⟩,
        ⟨some 38, .load none (.tmp 37), none⟩,
        ⟨some 39, .mov (.tmp 4), none⟩,
        ⟨some 40, .mov (.tmp 5), none⟩,
        ⟨some 41, .bin .sub .int (.tmp 40) (.cst (.int .i64 1)), none⟩,
        ⟨some 42, .iaddr 1 (.tmp 39) (.tmp 41), none⟩,
        ⟨some 43, .load none (.tmp 42), none⟩,
        ⟨some 44, .bin .neq .str (.tmp 38) (.tmp 43), none⟩] [0, 3, 4, 5, 44] none)
      (.cond (.tmp 44) (.seq (.region none [] [
          ⟨some 45, .mov (.tmp 0), none⟩,
          ⟨some 46, .mov (.tmp 3), none⟩,
          ⟨some 47, .mov (.tmp 4), none⟩,
          ⟨some 48, .mov (.tmp 5), none⟩,
          ⟨some 49, .iaddr 1 (.tmp 47) (.tmp 48), none⟩,
          ⟨some 50, .load none (.tmp 49), none⟩,
          ⟨some 51, .iaddr 1 (.tmp 45) (.tmp 46), none⟩,
          ⟨none, .store 1 (.tmp 51) (.tmp 50), none⟩] [0, 3, 4, 5] none)
        (.region none [] [
          ⟨some 52, .mov (.tmp 3), none⟩,
          ⟨some 53, .bin .add .int (.tmp 52) (.cst (.int .i64 1)), none⟩,
          ⟨some 3, .mov (.tmp 53), none⟩] [0, 3, 4, 5] none))
      (.skip))))
    (.region none [] [
      ⟨some 33, .mov (.tmp 5), none⟩,
      ⟨some 34, .bin .add .int (.tmp 33) (.cst (.int .i64 1)), none⟩,
      ⟨some 5, .mov (.tmp 34), none⟩] [0, 3, 4, 5] none))

/-- loop 1 of function 39 -/
def l39_1_h : List Nat := [0, 3]

def l39_1_b : ACode :=
  .seq (.seq (.region none [] [
      ⟨some 10, .mov (.tmp 3), none⟩,
      ⟨some 11, .mov (.tmp 0), none⟩,
      ⟨some 12, .len .slice (.tmp 11), none⟩,
      ⟨some 13, .bin .lss .int (.tmp 10) (.tmp 12), none⟩] [0, 3, 13] none)
    (.cond (.tmp 13) (.skip)
    (.exit 0)))
    (.seq (.block 1 (.seq (.region (some 10) [] [
        ⟨some 16, .mov (.tmp 0), none⟩,
        ⟨some 17, .mov (.tmp 3), none⟩,
        ⟨some 18, .iaddr 1 (.tmp 16) (.tmp 17), none⟩,
        ⟨some 19, .load none (.tmp 18), none⟩,
        ⟨some 20, .mov (.tmp 0), none⟩,
        ⟨some 21, .mov (.tmp 3), none⟩,
        ⟨some 22, .bin .sub .int (.tmp 21) (.cst (.int .i64 1)), none⟩,
        ⟨some 23, .iaddr 1 (.tmp 20) (.tmp 22), none⟩,
        ⟨some 24, .load none (.tmp 23), none⟩,
        ⟨some 25, .bin .eql .str (.tmp 19) (.tmp 24), none⟩] [0, 3, 25] none)
      (.cond (.tmp 25) (.seq (.region none [] [
          ⟨some 26, .mov (.tmp 0), none⟩,
          ⟨some 27, .mov (.tmp 3), none⟩,
          ⟨some 28, .slice 1 (.tmp 26) (some (.tmp 27)) none, none⟩,
          ⟨some 4, .mov (.tmp 28), none⟩] [0, 3, 4] none)
        (.seq (.seq (.region none [] [
          ⟨some 5, .mov (.cst (.int .i64 1)), none⟩] [0, 3, 4, 5] none)
        (.block 2 (.loop l39_0_h l39_0_b)))
        (.seq (.region none [] [
          ⟨some 54, .mov (.tmp 0), none⟩,
          ⟨some 55, .mov (.tmp 3), none⟩,
          ⟨some 56, .slice 1 (.tmp 54) (some (.tmp 55)) none, none⟩,
          ⟨none, .clear 1 (.tmp 56), none⟩] [0, 3] none)
        (.seq (.region none [] [
          ⟨some 57, .mov (.tmp 0), none⟩,
          ⟨some 58, .mov (.tmp 3), none⟩,
          ⟨some 59, .slice 1 (.tmp 57) none (some (.tmp 58)), none⟩,
          ⟨some 2, .mov (.tmp 59), none⟩] [2] none)
        (.ret)))))
      (.skip))))
    (.region none [] [
      ⟨some 14, .mov (.tmp 3), none⟩,
      ⟨some 15, .bin .add .int (.tmp 14) (.cst (.int .i64 1)), none⟩,
      ⟨some 3, .mov (.tmp 15), none⟩] [0, 3] none))

def c39 : ACode :=
  .seq (.region none [] [
      ⟨some 2, .mov (.cst (.sl false [])), none⟩] [0] none)
    (.seq (.seq (.region none [] [
      ⟨some 6, .mov (.tmp 0), none⟩,
      ⟨some 7, .len .slice (.tmp 6), none⟩,
      ⟨some 8, .bin .lss .int (.tmp 7) (.cst (.int .i64 2)), none⟩] [0, 8] none)
    (.cond (.tmp 8) (.seq (.region none [] [
        ⟨some 9, .mov (.tmp 0), none⟩,
        ⟨some 2, .mov (.tmp 9), none⟩] [2] none)
      (.ret))
    (.skip)))
    (.seq (.seq (.region none [] [
      ⟨some 3, .mov (.cst (.int .i64 1)), none⟩] [0, 3] none)
    (.block 0 (.loop l39_1_h l39_1_b)))
    (.seq (.region none [] [
      ⟨some 60, .mov (.tmp 0), none⟩,
      ⟨some 2, .mov (.tmp 60), none⟩] [2] none)
    (.ret))))

def a39 : AFunc := ⟨1, c39, [.tmp 2]⟩

def an39 : List RAnn := [
  { id := 0, live := [0] },
  { id := 1, live := [0, 8] },
  { id := 2, live := [2] },
  { id := 3, live := [0, 3] },
  { id := 4, live := [0, 3, 13], hdr := [0, 3] },
  { id := 6, head := some 10, live := [0, 3, 25] },
  { id := 7, live := [0, 3, 4] },
  { id := 8, live := [0, 3, 4, 5] },
  { id := 9, live := [0, 3, 4, 5, 32], hdr := [0, 3, 4, 5] },
  { id := 11, head := some 10, live := [0, 3, 4, 5, 44] },
  { id := 12, live := [0, 3, 4, 5] },
  { id := 13, live := [0, 3, 4, 5] },
  { id := 10, live := [0, 3, 4, 5] },
  { id := 14, live := [0, 3] },
  { id := 15, live := [2] },
  { id := 5, live := [0, 3] },
  { id := 16, live := [2] }]

theorem comp39 : compF Try.prog an39 Try.f39 = some a39 := by kernel_rfl

/- slices.Contains[[]string,string] -/
def c40 : ACode :=
  .seq (.region none [] [
      ⟨some 4, .mov (.cst (.bool false)), none⟩] [0, 1] none)
    (.seq (.region none [] [
      ⟨some 5, .mov (.tmp 0), none⟩,
      ⟨some 6, .mov (.tmp 1), none⟩,
      ⟨some 7, .call .pure 52 [(.tmp 5), (.tmp 6)], none⟩,
      ⟨some 8, .bin .geq .int (.tmp 7) (.cst (.int .i64 0)), none⟩,
      ⟨some 4, .mov (.tmp 8), none⟩] [4] none)
    (.ret))

def a40 : AFunc := ⟨2, c40, [.tmp 4]⟩

def an40 : List RAnn := [
  { id := 0, live := [0, 1] },
  { id := 1, live := [4] }]

theorem comp40 : compF Try.prog an40 Try.f40 = some a40 := by kernel_rfl

/- slices.pdqsortCmpFunc[int] -/
/-- loop 0 of function 41 -/
def l41_0_h : List Nat := [0, 1, 2, 3, 4, 10, 11]

def l41_0_b : ACode :=
  .block 1 (.seq (.region none [] [
        ⟨some 21, .mov (.tmp 2), none⟩,
        ⟨some 22, .mov (.tmp 1), none⟩,
        ⟨some 23, .bin .sub .int (.tmp 21) (.tmp 22), none⟩,
        ⟨some 12, .mov (.tmp 23), none⟩] [0, 1, 2, 3, 4, 10, 11, 12] none)
      (.seq (.seq (.region none [] [
        ⟨some 24, .mov (.tmp 12), none⟩,
        ⟨some 25, .bin .leq .int (.tmp 24) (.cst (.int .i64 12)), none⟩] [0, 1, 2, 3, 4, 10, 11, 12, 25] none)
      (.cond (.tmp 25) (.seq (.region none [] [
          ⟨some 26, .mov (.tmp 0), none⟩,
          ⟨some 27, .mov (.tmp 1), none⟩,
          ⟨some 28, .mov (.tmp 2), none⟩,
          ⟨some 29, .mov (.tmp 4), none⟩,
          ⟨some 30, .call .share 53 [(.tmp 26), (.tmp 27), (.tmp 28), (.tmp 29)], none⟩] [] none)
        (.ret))
      (.skip)))
      (.seq (.seq (.region none [] [
        ⟨some 31, .mov (.tmp 3), none⟩,
        ⟨some 32, .bin .eql .int (.tmp 31) (.cst (.int .i64 0)), none⟩] [0, 1, 2, 3, 4, 10, 11, 12, 32] none)
      (.cond (.tmp 32) (.seq (.region none [] [
          ⟨some 33, .mov (.tmp 0), none⟩,
          ⟨some 34, .mov (.tmp 1), none⟩,
          ⟨some 35, .mov (.tmp 2), none⟩,
          ⟨some 36, .mov (.tmp 4), none⟩,
          ⟨some 37, .call .share 54 [(.tmp 33), (.tmp 34), (.tmp 35), (.tmp 36)], none⟩] [] none)
        (.ret))
      (.skip)))
      (.seq (.seq (.region none [] [
        ⟨some 38, .mov (.tmp 10), none⟩,
        ⟨some 39, .un .not (.tmp 38), none⟩] [0, 1, 2, 3, 4, 10, 11, 12, 39] none)
      (.cond (.tmp 39) (.seq (.region none [] [
          ⟨some 40, .mov (.tmp 0), none⟩,
          ⟨some 41, .mov (.tmp 1), none⟩,
          ⟨some 42, .mov (.tmp 2), none⟩,
          ⟨some 43, .mov (.tmp 4), none⟩,
          ⟨some 44, .call .share 55 [(.tmp 40), (.tmp 41), (.tmp 42), (.tmp 43)], none⟩] [0, 1, 2, 3, 4, 10, 11, 12] none)
        (.region none [] [
          ⟨some 45, .mov (.tmp 3), none⟩,
          ⟨some 46, .bin .sub .int (.tmp 45) (.cst (.int .i64 1)), none⟩,
          ⟨some 3, .mov (.tmp 46), none⟩] [0, 1, 2, 3, 4, 10, 11, 12] none))
      (.skip)))
      (.seq (.region none [] [
        ⟨some 48, .mov (.tmp 0), none⟩,
        ⟨some 49, .mov (.tmp 1), none⟩,
        ⟨some 50, .mov (.tmp 2), none⟩,
        ⟨some 51, .mov (.tmp 4), none⟩,
        ⟨some 52, .call .share 56 [(.tmp 48), (.tmp 49), (.tmp 50), (.tmp 51)], none⟩,
        ⟨some 47, .mov (.tmp 52), none⟩,
        ⟨some 53, .ext (.tmp 47) 0, none⟩,
        ⟨some 54, .ext (.tmp 47) 1, none⟩,
        ⟨some 13, .mov (.tmp 53), none⟩,
        ⟨some 14, .mov (.tmp 54), none⟩] [0, 1, 2, 3, 4, 10, 11, 12, 13, 14] none)
      (.seq (.seq (.region none [] [
        ⟨some 55, .mov (.tmp 14), none⟩,
        ⟨some 56, .bin .eql .int (.tmp 55) (.cst (.int .i64 2)), none⟩] [0, 1, 2, 3, 4, 10, 11, 12, 13, 14, 56] none)
      (.cond (.tmp 56) (.seq (.region none [] [
          ⟨some 57, .mov (.tmp 0), none⟩,
          ⟨some 58, .mov (.tmp 1), none⟩,
          ⟨some 59, .mov (.tmp 2), none⟩,
          ⟨some 60, .mov (.tmp 4), none⟩,
          ⟨some 61, .call .share 57 [(.tmp 57), (.tmp 58), (.tmp 59), (.tmp 60)], none⟩] [0, 1, 2, 3, 4, 10, 11, 12, 13] none)
        (.seq (.region none [] [
          ⟨some 62, .mov (.tmp 2), none⟩,
          ⟨some 63, .bin .sub .int (.tmp 62) (.cst (.int .i64 1)), none⟩,
          ⟨some 64, .mov (.tmp 13), none⟩,
          ⟨some 65, .mov (.tmp 1), none⟩,
          ⟨some 66, .bin .sub .int (.tmp 64) (.tmp 65), none⟩,
          ⟨some 67, .bin .sub .int (.tmp 63) (.tmp 66), none⟩,
          ⟨some 13, .mov (.tmp 67), none⟩] [0, 1, 2, 3, 4, 10, 11, 12, 13] none)
        (.region none [] [
          ⟨some 14, .mov (.cst (.int .i64 1)), none⟩] [0, 1, 2, 3, 4, 10, 11, 12, 13, 14] none)))
      (.skip)))
      (.seq (.seq (.region none [] [
        ⟨some 68, .mov (.tmp 10), none⟩,
        ⟨some 69, .mov (.tmp 68), none⟩,
        ⟨some 70, .mov (.tmp 11), some (69, true)⟩,
        ⟨some 71, .pick (.tmp 69) (.tmp 70) (.cst (.bool false)), none⟩,
        ⟨some 72, .mov (.tmp 71), none⟩,
        ⟨some 73, .mov (.tmp 14), some (72, true)⟩,
        ⟨some 74, .bin .eql .int (.tmp 73) (.cst (.int .i64 1)), some (72, true)⟩,
        ⟨some 75, .pick (.tmp 72) (.tmp 74) (.cst (.bool false)), none⟩] [0, 1, 2, 3, 4, 10, 11, 12, 13, 75] none)
      (.cond (.tmp 75) (.seq (.region none [] [
          ⟨some 76, .mov (.tmp 0), none⟩,
          ⟨some 77, .mov (.tmp 1), none⟩,
          ⟨some 78, .mov (.tmp 2), none⟩,
          ⟨some 79, .mov (.tmp 4), none⟩,
          ⟨some 80, .call .share 58 [(.tmp 76), (.tmp 77), (.tmp 78), (.tmp 79)], none⟩] [0, 1, 2, 3, 4, 10, 11, 12, 13, 80] none)
        (.cond (.tmp 80) (.ret)
        (.skip)))
      (.skip)))
      (.seq (.seq (.region (some 17) [] [
        ⟨some 81, .mov (.tmp 1), none⟩,
        ⟨some 82, .bin .gtr .int (.tmp 81) (.cst (.int .i64 0)), none⟩,
        ⟨some 83, .mov (.tmp 82), none⟩,
        ⟨some 84, .mov (.tmp 4), some (83, true)⟩,
        ⟨some 85, .mov (.tmp 0), some (83, true)⟩,
        ⟨some 86, .mov (.tmp 1), some (83, true)⟩,
        ⟨some 87, .bin .sub .int (.tmp 86) (.cst (.int .i64 1)), some (83, true)⟩,
        ⟨some 88, .iaddr 1 (.tmp 85) (.tmp 87), some (83, true)⟩,
        ⟨some 89, .load none (.tmp 88), some (83, true)⟩,
        ⟨some 90, .mov (.tmp 0), some (83, true)⟩,
        ⟨some 91, .mov (.tmp 13), some (83, true)⟩,
        ⟨some 92, .iaddr 1 (.tmp 90) (.tmp 91), some (83, true)⟩,
        ⟨some 93, .load none (.tmp 92), some (83, true)⟩,
        ⟨some 94, .callv .pure (.tmp 84) [(.tmp 89), (.tmp 93)], some (83, true)⟩,
        ⟨some 95, .bin .lss .int (.tmp 94) (.cst (.int .i64 0)), some (83, true)⟩,
        ⟨some 96, .un .not (.tmp 95), some (83, true)⟩,
        ⟨some 97, .pick (.tmp 83) (.tmp 96) (.cst (.bool false)), none⟩] [0, 1, 2, 3, 4, 10, 11, 12, 13, 97] none)
      (.cond (.tmp 97) (.seq (.region none [] [
          ⟨some 98, .mov (.tmp 0), none⟩,
          ⟨some 99, .mov (.tmp 1), none⟩,
          ⟨some 100, .mov (.tmp 2), none⟩,
          ⟨some 101, .mov (.tmp 13), none⟩,
          ⟨some 102, .mov (.tmp 4), none⟩,
          ⟨some 103, .call .share 59 [(.tmp 98), (.tmp 99), (.tmp 100), (.tmp 101), (.tmp 102)], none⟩,
          ⟨some 15, .mov (.tmp 103), none⟩] [0, 2, 3, 4, 10, 11, 15] none)
        (.seq (.region none [] [
          ⟨some 104, .mov (.tmp 15), none⟩,
          ⟨some 1, .mov (.tmp 104), none⟩] [0, 1, 2, 3, 4, 10, 11] none)
        (.exit 1)))
      (.skip)))
      (.seq (.region none [] [
        ⟨some 106, .mov (.tmp 0), none⟩,
        ⟨some 107, .mov (.tmp 1), none⟩,
        ⟨some 108, .mov (.tmp 2), none⟩,
        ⟨some 109, .mov (.tmp 13), none⟩,
        ⟨some 110, .mov (.tmp 4), none⟩,
        ⟨some 111, .call .share 60 [(.tmp 106), (.tmp 107), (.tmp 108), (.tmp 109), (.tmp 110)], none⟩,
        ⟨some 105, .mov (.tmp 111), none⟩,
        ⟨some 112, .ext (.tmp 105) 0, none⟩,
        ⟨some 113, .ext (.tmp 105) 1, none⟩,
        ⟨some 16, .mov (.tmp 112), none⟩,
        ⟨some 17, .mov (.tmp 113), none⟩] [0, 1, 2, 3, 4, 12, 16, 17] none)
      (.seq (.region none [] [
        ⟨some 114, .mov (.tmp 17), none⟩,
        ⟨some 11, .mov (.tmp 114), none⟩] [0, 1, 2, 3, 4, 11, 12, 16] none)
      (.seq (.region none [] [
        ⟨some 115, .mov (.tmp 16), none⟩,
        ⟨some 116, .mov (.tmp 1), none⟩,
        ⟨some 117, .bin .sub .int (.tmp 115) (.tmp 116), none⟩,
        ⟨some 118, .mov (.tmp 2), none⟩,
        ⟨some 119, .mov (.tmp 16), none⟩,
        ⟨some 120, .bin .sub .int (.tmp 118) (.tmp 119), none⟩,
        ⟨some 18, .mov (.tmp 117), none⟩,
        ⟨some 19, .mov (.tmp 120), none⟩] [0, 1, 2, 3, 4, 11, 12, 16, 18, 19] none)
      (.seq (.region none [] [
        ⟨some 121, .mov (.tmp 12), none⟩,
        ⟨some 122, .bin .quo .int (.tmp 121) (.cst (.int .i64 8)), none⟩,
        ⟨some 20, .mov (.tmp 122), none⟩] [0, 1, 2, 3, 4, 11, 16, 18, 19, 20] none)
      (.seq (.region none [] [
        ⟨some 123, .mov (.tmp 18), none⟩,
        ⟨some 124, .mov (.tmp 19), none⟩,
        ⟨some 125, .bin .lss .int (.tmp 123) (.tmp 124), none⟩] [0, 1, 2, 3, 4, 11, 16, 18, 19, 20, 125] none)
      (.cond (.tmp 125) (.seq (.region none [] [
          ⟨some 126, .mov (.tmp 18), none⟩,
          ⟨some 127, .mov (.tmp 20), none⟩,
          ⟨some 128, .bin .geq .int (.tmp 126) (.tmp 127), none⟩,
          ⟨some 10, .mov (.tmp 128), none⟩] [0, 1, 2, 3, 4, 10, 11, 16] none)
        (.seq (.region none [] [
          ⟨some 129, .mov (.tmp 0), none⟩,
          ⟨some 130, .mov (.tmp 1), none⟩,
          ⟨some 131, .mov (.tmp 16), none⟩,
          ⟨some 132, .mov (.tmp 3), none⟩,
          ⟨some 133, .mov (.tmp 4), none⟩,
          ⟨some 134, .call .share 41 [(.tmp 129), (.tmp 130), (.tmp 131), (.tmp 132), (.tmp 133)], none⟩] [0, 2, 3, 4, 10, 11, 16] none)
        (.region none [] [
          ⟨some 135, .mov (.tmp 16), none⟩,
          ⟨some 136, .bin .add .int (.tmp 135) (.cst (.int .i64 1)), none⟩,
          ⟨some 1, .mov (.tmp 136), none⟩] [0, 1, 2, 3, 4, 10, 11] none)))
      (.seq (.region none [] [
          ⟨some 137, .mov (.tmp 19), none⟩,
          ⟨some 138, .mov (.tmp 20), none⟩,
          ⟨some 139, .bin .geq .int (.tmp 137) (.tmp 138), none⟩,
          ⟨some 10, .mov (.tmp 139), none⟩] [0, 1, 2, 3, 4, 10, 11, 16] none)
        (.seq (.region none [] [
          ⟨some 140, .mov (.tmp 0), none⟩,
          ⟨some 141, .mov (.tmp 16), none⟩,
          ⟨some 142, .bin .add .int (.tmp 141) (.cst (.int .i64 1)), none⟩,
          ⟨some 143, .mov (.tmp 2), none⟩,
          ⟨some 144, .mov (.tmp 3), none⟩,
          ⟨some 145, .mov (.tmp 4), none⟩,
          ⟨some 146, .call .share 41 [(.tmp 140), (.tmp 142), (.tmp 143), (.tmp 144), (.tmp 145)], none⟩] [0, 1, 3, 4, 10, 11, 16] none)
        (.region none [] [
          ⟨some 147, .mov (.tmp 16), none⟩,
          ⟨some 2, .mov (.tmp 147), none⟩] [0, 1, 2, 3, 4, 10, 11] none)))))))))))))))))

def c41 : ACode :=
  .seq (.region none [] [
      ⟨some 10, .mov (.cst (.bool true)), none⟩] [0, 1, 2, 3, 4, 10] none)
    (.seq (.region none [] [
      ⟨some 11, .mov (.cst (.bool true)), none⟩] [0, 1, 2, 3, 4, 10, 11] none)
    (.block 0 (.loop l41_0_h l41_0_b)))

def a41 : AFunc := ⟨5, c41, []⟩

def an41 : List RAnn := [
  { id := 0, live := [0, 1, 2, 3, 4, 10] },
  { id := 1, live := [0, 1, 2, 3, 4, 10, 11] },
  { id := 2, live := [0, 1, 2, 3, 4, 10, 11, 12], hdr := [0, 1, 2, 3, 4, 10, 11] },
  { id := 3, live := [0, 1, 2, 3, 4, 10, 11, 12, 25] },
  { id := 4, ops := [(4, .mode .share)] },
  { id := 5, live := [0, 1, 2, 3, 4, 10, 11, 12, 32] },
  { id := 6, ops := [(4, .mode .share)] },
  { id := 7, live := [0, 1, 2, 3, 4, 10, 11, 12, 39] },
  { id := 8, live := [0, 1, 2, 3, 4, 10, 11, 12], ops := [(4, .mode .share)] },
  { id := 9, live := [0, 1, 2, 3, 4, 10, 11, 12] },
  { id := 10, live := [0, 1, 2, 3, 4, 10, 11, 12, 13, 14], ops := [(4, .mode .share)] },
  { id := 11, live := [0, 1, 2, 3, 4, 10, 11, 12, 13, 14, 56] },
  { id := 12, live := [0, 1, 2, 3, 4, 10, 11, 12, 13], ops := [(4, .mode .share)] },
  { id := 13, live := [0, 1, 2, 3, 4, 10, 11, 12, 13] },
  { id := 14, live := [0, 1, 2, 3, 4, 10, 11, 12, 13, 14] },
  { id := 15, live := [0, 1, 2, 3, 4, 10, 11, 12, 13, 75] },
  { id := 16, live := [0, 1, 2, 3, 4, 10, 11, 12, 13, 80], ops := [(4, .mode .share)] },
  { id := 17, head := some 17, live := [0, 1, 2, 3, 4, 10, 11, 12, 13, 97] },
  { id := 18, live := [0, 2, 3, 4, 10, 11, 15], ops := [(5, .mode .share)] },
  { id := 19, live := [0, 1, 2, 3, 4, 10, 11] },
  { id := 20, live := [0, 1, 2, 3, 4, 12, 16, 17], ops := [(5, .mode .share)] },
  { id := 21, live := [0, 1, 2, 3, 4, 11, 12, 16] },
  { id := 22, live := [0, 1, 2, 3, 4, 11, 12, 16, 18, 19] },
  { id := 23, live := [0, 1, 2, 3, 4, 11, 16, 18, 19, 20] },
  { id := 24, live := [0, 1, 2, 3, 4, 11, 16, 18, 19, 20, 125] },
  { id := 25, live := [0, 1, 2, 3, 4, 10, 11, 16] },
  { id := 26, live := [0, 2, 3, 4, 10, 11, 16], ops := [(5, .mode .share)] },
  { id := 27, live := [0, 1, 2, 3, 4, 10, 11] },
  { id := 28, live := [0, 1, 2, 3, 4, 10, 11, 16] },
  { id := 29, live := [0, 1, 3, 4, 10, 11, 16], ops := [(6, .mode .share)] },
  { id := 30, live := [0, 1, 2, 3, 4, 10, 11] }]

theorem comp41 : compF Try.prog an41 Try.f41 = some a41 := by kernel_rfl

/- math/bits.Len -/
def c42 : ACode :=
  .seq (.region none [] [
      ⟨some 2, .mov (.cst (.int .i64 0)), none⟩] [0] none)
    (.seq (.cond (.cst (.bool false)) (.seq (.region none [] [
        ⟨some 3, .mov (.tmp 0), none⟩,
        ⟨some 4, .conv .u32 (.tmp 3), none⟩,
        ⟨some 5, .call .pure 61 [(.tmp 4)], none⟩,
        ⟨some 2, .mov (.tmp 5), none⟩] [2] none)
      (.ret))
    (.skip))
    (.seq (.region none [] [
      ⟨some 6, .mov (.tmp 0), none⟩,
      ⟨some 7, .call .pure 62 [(.tmp 6)], none⟩,
      ⟨some 2, .mov (.tmp 7), none⟩] [2] none)
    (.ret)))

def a42 : AFunc := ⟨1, c42, [.tmp 2]⟩

def an42 : List RAnn := [
  { id := 0, live := [0] },
  { id := 1, live := [2] },
  { id := 2, live := [2] }]

theorem comp42 : compF Try.prog an42 Try.f42 = some a42 := by kernel_rfl

/- cmp.Compare[int] -/
def c43 : ACode :=
  .seq (.region none [] [
      ⟨some 4, .mov (.cst (.int .i64 0)), none⟩] [0, 1] none)
    (.seq (.region none [] [
      ⟨some 7, .mov (.tmp 0), none⟩,
      ⟨some 8, .call .pure 63 [(.tmp 7)], none⟩,
      ⟨some 5, .mov (.tmp 8), none⟩] [0, 1, 5] none)
    (.seq (.region none [] [
      ⟨some 9, .mov (.tmp 1), none⟩,
      ⟨some 10, .call .pure 63 [(.tmp 9)], none⟩,
      ⟨some 6, .mov (.tmp 10), none⟩] [0, 1, 5, 6] none)
    (.seq (.seq (.region none [] [
      ⟨some 11, .mov (.tmp 5), none⟩] [0, 1, 6, 11] none)
    (.cond (.tmp 11) (.seq (.seq (.region none [] [
        ⟨some 12, .mov (.tmp 6), none⟩] [12] none)
      (.cond (.tmp 12) (.seq (.region none [] [
          ⟨some 4, .mov (.cst (.int .i64 0)), none⟩] [4] none)
        (.ret))
      (.skip)))
      (.seq (.region none [] [
        ⟨some 4, .mov (.cst (.int .i64 (-1))), none⟩] [4] none)
      (.ret)))
    (.skip)))
    (.seq (.seq (.region none [] [
      ⟨some 13, .mov (.tmp 6), none⟩] [0, 1, 13] none)
    (.cond (.tmp 13) (.seq (.region none [] [
        ⟨some 4, .mov (.cst (.int .i64 1)), none⟩] [4] none)
      (.ret))
    (.skip)))
    (.seq (.seq (.region none [] [
      ⟨some 14, .mov (.tmp 0), none⟩,
      ⟨some 15, .mov (.tmp 1), none⟩,
      ⟨some 16, .bin .lss .int (.tmp 14) (.tmp 15), none⟩] [0, 1, 16] none)
    (.cond (.tmp 16) (.seq (.region none [] [
        ⟨some 4, .mov (.cst (.int .i64 (-1))), none⟩] [4] none)
      (.ret))
    (.skip)))
    (.seq (.seq (.region none [] [
      ⟨some 17, .mov (.tmp 0), none⟩,
      ⟨some 18, .mov (.tmp 1), none⟩,
      ⟨some 19, .bin .gtr .int (.tmp 17) (.tmp 18), none⟩] [19] none)
    (.cond (.tmp 19) (.seq (.region none [] [
        ⟨some 4, .mov (.cst (.int .i64 1)), none⟩] [4] none)
      (.ret))
    (.skip)))
    (.seq (.region none [] [
      ⟨some 4, .mov (.cst (.int .i64 0)), none⟩] [4] none)
    (.ret))))))))

def a43 : AFunc := ⟨2, c43, [.tmp 4]⟩

def an43 : List RAnn := [
  { id := 0, live := [0, 1] },
  { id := 1, live := [0, 1, 5] },
  { id := 2, live := [0, 1, 5, 6] },
  { id := 3, live := [0, 1, 6, 11] },
  { id := 4, live := [12] },
  { id := 5, live := [4] },
  { id := 6, live := [4] },
  { id := 7, live := [0, 1, 13] },
  { id := 8, live := [4] },
  { id := 9, live := [0, 1, 16] },
  { id := 10, live := [4] },
  { id := 11, live := [19] },
  { id := 12, live := [4] },
  { id := 13, live := [4] }]

theorem comp43 : compF Try.prog an43 Try.f43 = some a43 := by kernel_rfl

/- slices.ContainsFunc[[]string,string] -/
def c44 : ACode :=
  .seq (.region none [] [
      ⟨some 4, .mov (.cst (.bool false)), none⟩] [0, 1] none)
    (.seq (.region none [] [
      ⟨some 5, .mov (.tmp 0), none⟩,
      ⟨some 6, .mov (.tmp 1), none⟩,
      ⟨some 7, .call .pure 64 [(.tmp 5), (.tmp 6)], none⟩,
      ⟨some 8, .bin .geq .int (.tmp 7) (.cst (.int .i64 0)), none⟩,
      ⟨some 4, .mov (.tmp 8), none⟩] [4] none)
    (.ret))

def a44 : AFunc := ⟨2, c44, [.tmp 4]⟩

def an44 : List RAnn := [
  { id := 0, live := [0, 1] },
  { id := 1, live := [4] }]

theorem comp44 : compF Try.prog an44 Try.f44 = some a44 := by kernel_rfl

/- graphdb/graph.unnamed -/
def c45 : ACode :=
  .seq (.region none [] [
      ⟨some 2, .mov (.cst (.bool false)), none⟩] [0] none)
    (.seq (.region none [] [
      ⟨some 3, .mov (.tmp 0), none⟩,
      ⟨some 4, .call .pure 37 [(.tmp 3)], none⟩,
      ⟨some 5, .un .not (.tmp 4), none⟩,
      ⟨some 2, .mov (.tmp 5), none⟩] [2] none)
    (.ret))

def a45 : AFunc := ⟨1, c45, [.tmp 2]⟩

def an45 : List RAnn := [
  { id := 0, live := [0] },
  { id := 1, live := [2] }]

theorem comp45 : compF Try.prog an45 Try.f45 = some a45 := by kernel_rfl

/- graphdb/graph.increasing -/
/-- loop 0 of function 46 -/
def l46_0_h : List Nat := [0, 3]

def l46_0_b : ACode :=
  .seq (.seq (.region none [] [
      ⟨some 4, .mov (.tmp 3), none⟩,
      ⟨some 5, .mov (.tmp 0), none⟩,
      ⟨some 6, .len .slice (.tmp 5), none⟩,
      ⟨some 7, .bin .lss .int (.tmp 4) (.tmp 6), none⟩] [0, 3, 7] none)
    (.cond (.tmp 7) (.skip)
    (.exit 0)))
    (.seq (.block 1 (.seq (.region (some 10) [] [
        ⟨some 10, .mov (.tmp 0), none⟩,
        ⟨some 11, .mov (.tmp 3), none⟩,
        ⟨some 12, .iaddr 1 (.tmp 10) (.tmp 11), none⟩,
        ⟨some 13, .load none (.tmp 12), none⟩,
        ⟨some 14, .mov (.tmp 0), none⟩,
        ⟨some 15, .mov (.tmp 3), none⟩,
        ⟨some 16, .bin .sub .int (.tmp 15) (.cst (.int .i64 1)), none⟩,
        ⟨some 17, .iaddr 1 (.tmp 14) (.tmp 16), none⟩,
        ⟨some 18, .load none (.tmp 17), none⟩,
        ⟨some 19, .bin .leq .str (.tmp 13) (.tmp 18), none⟩] [0, 3, 19] none)
      (.cond (.tmp 19) (.seq (.region none [] [
          ⟨some 2, .mov (.cst (.bool false)), none⟩] [2] none)
        (.ret))
      (.skip))))
    (.region none [] [
      ⟨some 8, .mov (.tmp 3), none⟩,
      ⟨some 9, .bin .add .int (.tmp 8) (.cst (.int .i64 1)), none⟩,
      ⟨some 3, .mov (.tmp 9), none⟩] [0, 3] none))

def c46 : ACode :=
  .seq (.region none [] [
      ⟨some 2, .mov (.cst (.bool false)), none⟩] [0] none)
    (.seq (.seq (.region none [] [
      ⟨some 3, .mov (.cst (.int .i64 1)), none⟩] [0, 3] none)
    (.block 0 (.loop l46_0_h l46_0_b)))
    (.seq (.region none [] [
      ⟨some 2, .mov (.cst (.bool true)), none⟩] [2] none)
    (.ret)))

def a46 : AFunc := ⟨1, c46, [.tmp 2]⟩

def an46 : List RAnn := [
  { id := 0, live := [0] },
  { id := 1, live := [0, 3] },
  { id := 2, live := [0, 3, 7], hdr := [0, 3] },
  { id := 4, head := some 10, live := [0, 3, 19] },
  { id := 5, live := [2] },
  { id := 3, live := [0, 3] },
  { id := 6, live := [2] }]

theorem comp46 : compF Try.prog an46 Try.f46 = some a46 := by kernel_rfl

/- graphdb/value.Plain -/
def c47 : ACode :=
  .seq (.region none [] [
      ⟨some 1, .box 5 (.tmp 0), none⟩,
      ⟨some 2, .mov (.cst (.bool false)), none⟩] [1] none)
    (.seq (.region none [] [
      ⟨some 3, .faddr 0 (.tmp 1), none⟩,
      ⟨some 4, .load none (.tmp 3), none⟩,
      ⟨some 5, .bin .eql .int (.tmp 4) (.cst (.int .i64 1)), none⟩,
      ⟨some 6, .mov (.tmp 5), none⟩,
      ⟨some 7, .faddr 0 (.tmp 1), some (6, false)⟩,
      ⟨some 8, .load none (.tmp 7), some (6, false)⟩,
      ⟨some 9, .bin .eql .int (.tmp 8) (.cst (.int .i64 2)), some (6, false)⟩,
      ⟨some 10, .pick (.tmp 6) (.cst (.bool true)) (.tmp 9), none⟩,
      ⟨some 11, .mov (.tmp 10), none⟩,
      ⟨some 12, .faddr 0 (.tmp 1), some (11, false)⟩,
      ⟨some 13, .load none (.tmp 12), some (11, false)⟩,
      ⟨some 14, .bin .eql .int (.tmp 13) (.cst (.int .i64 4)), some (11, false)⟩,
      ⟨some 15, .pick (.tmp 11) (.cst (.bool true)) (.tmp 14), none⟩,
      ⟨some 16, .mov (.tmp 15), none⟩,
      ⟨some 17, .load (some 5) (.tmp 1), some (16, true)⟩,
      ⟨some 18, .call .pure 65 [(.tmp 17)], some (16, true)⟩,
      ⟨some 19, .pick (.tmp 16) (.tmp 18) (.cst (.bool false)), none⟩,
      ⟨some 2, .mov (.tmp 19), none⟩] [2] none)
    (.ret))

def a47 : AFunc := ⟨1, c47, [.tmp 2]⟩

def an47 : List RAnn := [
  { id := 0, live := [1] },
  { id := 1, live := [2] }]

theorem comp47 : compF Try.prog an47 Try.f47 = some a47 := by kernel_rfl

/- slices.BinarySearchFunc[[]graphdb/api.Node,graphdb/api.Node,int] -/
/-- loop 0 of function 48 -/
def l48_0_h : List Nat := [0, 1, 2, 8, 9, 10]

def l48_0_b : ACode :=
  .seq (.seq (.region none [] [
      ⟨some 15, .mov (.tmp 9), none⟩,
      ⟨some 16, .mov (.tmp 10), none⟩,
      ⟨some 17, .bin .lss .int (.tmp 15) (.tmp 16), none⟩] [0, 1, 2, 8, 9, 10, 17] none)
    (.cond (.tmp 17) (.skip)
    (.exit 0)))
    (.block 1 (.seq (.region none [] [
        ⟨some 18, .mov (.tmp 9), none⟩,
        ⟨some 19, .mov (.tmp 10), none⟩,
        ⟨some 20, .bin .add .int (.tmp 18) (.tmp 19), none⟩,
        ⟨some 21, .conv .u64 (.tmp 20), none⟩,
        ⟨some 22, .bin .shr .int (.tmp 21) (.cst (.int .u64 1)), none⟩,
        ⟨some 23, .conv .i64 (.tmp 22), none⟩,
        ⟨some 11, .mov (.tmp 23), none⟩] [0, 1, 2, 8, 9, 10, 11] none)
      (.seq (.region none [] [
        ⟨some 24, .mov (.tmp 2), none⟩,
        ⟨some 25, .mov (.tmp 0), none⟩,
        ⟨some 26, .mov (.tmp 11), none⟩,
        ⟨some 27, .iaddr 3 (.tmp 25) (.tmp 26), none⟩,
        ⟨some 28, .load (some 3) (.tmp 27), none⟩,
        ⟨some 29, .mov (.tmp 1), none⟩,
        ⟨some 30, .callv .pure (.tmp 24) [(.tmp 28), (.tmp 29)], none⟩,
        ⟨some 31, .bin .lss .int (.tmp 30) (.cst (.int .i64 0)), none⟩] [0, 1, 2, 8, 9, 10, 11, 31] none)
      (.cond (.tmp 31) (.region none [] [
          ⟨some 32, .mov (.tmp 11), none⟩,
          ⟨some 33, .bin .add .int (.tmp 32) (.cst (.int .i64 1)), none⟩,
          ⟨some 9, .mov (.tmp 33), none⟩] [0, 1, 2, 8, 9, 10] none)
      (.region none [] [
          ⟨some 34, .mov (.tmp 11), none⟩,
          ⟨some 10, .mov (.tmp 34), none⟩] [0, 1, 2, 8, 9, 10] none)))))

def c48 : ACode :=
  .seq (.region none [] [
      ⟨some 6, .mov (.cst (.int .i64 0)), none⟩,
      ⟨some 7, .mov (.cst (.bool false)), none⟩] [0, 1, 2] none)
    (.seq (.region none [] [
      ⟨some 12, .mov (.tmp 0), none⟩,
      ⟨some 13, .len .slice (.tmp 12), none⟩,
      ⟨some 8, .mov (.tmp 13), none⟩] [0, 1, 2, 8] none)
    (.seq (.region none [] [
      ⟨some 14, .mov (.tmp 8), none⟩,
      ⟨some 9, .mov (.cst (.int .i64 0)), none⟩,
      ⟨some 10, .mov (.tmp 14), none⟩] [0, 1, 2, 8, 9, 10] none)
    (.seq (.block 0 (.loop l48_0_h l48_0_b))
    (.seq (.region none [] [
      ⟨some 35, .mov (.tmp 9), none⟩,
      ⟨some 36, .mov (.tmp 9), none⟩,
      ⟨some 37, .mov (.tmp 8), none⟩,
      ⟨some 38, .bin .lss .int (.tmp 36) (.tmp 37), none⟩,
      ⟨some 39, .mov (.tmp 38), none⟩,
      ⟨some 40, .mov (.tmp 2), some (39, true)⟩,
      ⟨some 41, .mov (.tmp 0), some (39, true)⟩,
      ⟨some 42, .mov (.tmp 9), some (39, true)⟩,
      ⟨some 43, .iaddr 3 (.tmp 41) (.tmp 42), some (39, true)⟩,
      ⟨some 44, .load (some 3) (.tmp 43), some (39, true)⟩,
      ⟨some 45, .mov (.tmp 1), some (39, true)⟩,
      ⟨some 46, .callv .pure (.tmp 40) [(.tmp 44), (.tmp 45)], some (39, true)⟩,
      ⟨some 47, .bin .eql .int (.tmp 46) (.cst (.int .i64 0)), some (39, true)⟩,
      ⟨some 48, .pick (.tmp 39) (.tmp 47) (.cst (.bool false)), none⟩,
      ⟨some 6, .mov (.tmp 35), none⟩,
      ⟨some 7, .mov (.tmp 48), none⟩] [6, 7] none)
    (.ret)))))

def a48 : AFunc := ⟨3, c48, [.tmp 6, .tmp 7]⟩

def an48 : List RAnn := [
  { id := 0, live := [0, 1, 2] },
  { id := 1, live := [0, 1, 2, 8] },
  { id := 2, live := [0, 1, 2, 8, 9, 10] },
  { id := 3, live := [0, 1, 2, 8, 9, 10, 17], hdr := [0, 1, 2, 8, 9, 10] },
  { id := 4, live := [0, 1, 2, 8, 9, 10, 11] },
  { id := 5, live := [0, 1, 2, 8, 9, 10, 11, 31] },
  { id := 6, live := [0, 1, 2, 8, 9, 10] },
  { id := 7, live := [0, 1, 2, 8, 9, 10] },
  { id := 8, live := [6, 7] }]

theorem comp48 : compF Try.prog an48 Try.f48 = some a48 := by kernel_rfl

/- graphdb/graph.has$1 -/
def c49 : ACode :=
  .seq (.region none [] [
      ⟨some 2, .box 3 (.tmp 0), none⟩,
      ⟨some 4, .mov (.cst (.int .i64 0)), none⟩] [1, 2] none)
    (.seq (.region none [] [
      ⟨some 5, .faddr 0 (.tmp 2), none⟩,
      ⟨some 6, .load none (.tmp 5), none⟩,
      ⟨some 7, .mov (.tmp 1), none⟩,
      ⟨some 8, .call .pure 43 [(.tmp 6), (.tmp 7)], none⟩,
      ⟨some 4, .mov (.tmp 8), none⟩] [4] none)
    (.ret))

def a49 : AFunc := ⟨2, c49, [.tmp 4]⟩

def an49 : List RAnn := [
  { id := 0, live := [1, 2] },
  { id := 1, live := [4] }]

theorem comp49 : compF Try.prog an49 Try.f49 = some a49 := by kernel_rfl

/- graphdb/graph.letter -/
def c50 : ACode :=
  .seq (.region none [] [
      ⟨some 2, .mov (.cst (.bool false)), none⟩] [0] none)
    (.seq (.region none [] [
      ⟨some 3, .mov (.tmp 0), none⟩,
      ⟨some 4, .bin .geq .int (.tmp 3) (.cst (.int .u8 97)), none⟩,
      ⟨some 5, .mov (.tmp 4), none⟩,
      ⟨some 6, .mov (.tmp 0), some (5, true)⟩,
      ⟨some 7, .bin .leq .int (.tmp 6) (.cst (.int .u8 122)), some (5, true)⟩,
      ⟨some 8, .pick (.tmp 5) (.tmp 7) (.cst (.bool false)), none⟩,
      ⟨some 9, .mov (.tmp 8), none⟩,
      ⟨some 10, .mov (.tmp 0), some (9, false)⟩,
      ⟨some 11, .bin .geq .int (.tmp 10) (.cst (.int .u8 65)), some (9, false)⟩,
      ⟨some 12, .mov (.tmp 11), some (9, false)⟩,
      ⟨some 13, .mov (.tmp 0), some (12, true)⟩,
      ⟨some 14, .bin .leq .int (.tmp 13) (.cst (.int .u8 90)), some (12, true)⟩,
      ⟨some 15, .pick (.tmp 12) (.tmp 14) (.cst (.bool false)), some (9, false)⟩,
      ⟨some 16, .pick (.tmp 9) (.cst (.bool true)) (.tmp 15), none⟩,
      ⟨some 2, .mov (.tmp 16), none⟩] [2] none)
    (.ret))

def a50 : AFunc := ⟨1, c50, [.tmp 2]⟩

def an50 : List RAnn := [
  { id := 0, live := [0] },
  { id := 1, live := [2] }]

theorem comp50 : compF Try.prog an50 Try.f50 = some a50 := by kernel_rfl

/- slices.pdqsortOrdered[string] -/
/-- loop 0 of function 51 -/
def l51_0_h : List Nat := [0, 1, 2, 3, 8, 9]

def l51_0_b : ACode :=
  .block 1 (.seq (.region none [] [
        ⟨some 19, .mov (.tmp 2), none⟩,
        ⟨some 20, .mov (.tmp 1), none⟩,
        ⟨some 21, .bin .sub .int (.tmp 19) (.tmp 20), none⟩,
        ⟨some 10, .mov (.tmp 21), none⟩] [0, 1, 2, 3, 8, 9, 10] none)
      (.seq (.seq (.region none [] [
        ⟨some 22, .mov (.tmp 10), none⟩,
        ⟨some 23, .bin .leq .int (.tmp 22) (.cst (.int .i64 12)), none⟩] [0, 1, 2, 3, 8, 9, 10, 23] none)
      (.cond (.tmp 23) (.seq (.region none [] [
          ⟨some 24, .mov (.tmp 0), none⟩,
          ⟨some 25, .mov (.tmp 1), none⟩,
          ⟨some 26, .mov (.tmp 2), none⟩,
          ⟨some 27, .call .share 66 [(.tmp 24), (.tmp 25), (.tmp 26)], none⟩] [] none)
        (.ret))
      (.skip)))
      (.seq (.seq (.region none [] [
        ⟨some 28, .mov (.tmp 3), none⟩,
        ⟨some 29, .bin .eql .int (.tmp 28) (.cst (.int .i64 0)), none⟩] [0, 1, 2, 3, 8, 9, 10, 29] none)
      (.cond (.tmp 29) (.seq (.region none [] [
          ⟨some 30, .mov (.tmp 0), none⟩,
          ⟨some 31, .mov (.tmp 1), none⟩,
          ⟨some 32, .mov (.tmp 2), none⟩,
          ⟨some 33, .call .share 67 [(.tmp 30), (.tmp 31), (.tmp 32)], none⟩] [] none)
        (.ret))
      (.skip)))
      (.seq (.seq (.region none [] [
        ⟨some 34, .mov (.tmp 8), none⟩,
        ⟨some 35, .un .not (.tmp 34), none⟩] [0, 1, 2, 3, 8, 9, 10, 35] none)
      (.cond (.tmp 35) (.seq (.region none [] [
          ⟨some 36, .mov (.tmp 0), none⟩,
          ⟨some 37, .mov (.tmp 1), none⟩,
          ⟨some 38, .mov (.tmp 2), none⟩,
          ⟨some 39, .call .share 68 [(.tmp 36), (.tmp 37), (.tmp 38)], none⟩] [0, 1, 2, 3, 8, 9, 10] none)
        (.region none [] [
          ⟨some 40, .mov (.tmp 3), none⟩,
          ⟨some 41, .bin .sub .int (.tmp 40) (.cst (.int .i64 1)), none⟩,
          ⟨some 3, .mov (.tmp 41), none⟩] [0, 1, 2, 3, 8, 9, 10] none))
      (.skip)))
      (.seq (.region none [] [
        ⟨some 43, .mov (.tmp 0), none⟩,
        ⟨some 44, .mov (.tmp 1), none⟩,
        ⟨some 45, .mov (.tmp 2), none⟩,
        ⟨some 46, .call .share 69 [(.tmp 43), (.tmp 44), (.tmp 45)], none⟩,
        ⟨some 42, .mov (.tmp 46), none⟩,
        ⟨some 47, .ext (.tmp 42) 0, none⟩,
        ⟨some 48, .ext (.tmp 42) 1, none⟩,
        ⟨some 11, .mov (.tmp 47), none⟩,
        ⟨some 12, .mov (.tmp 48), none⟩] [0, 1, 2, 3, 8, 9, 10, 11, 12] none)
      (.seq (.seq (.region none [] [
        ⟨some 49, .mov (.tmp 12), none⟩,
        ⟨some 50, .bin .eql .int (.tmp 49) (.cst (.int .i64 2)), none⟩] [0, 1, 2, 3, 8, 9, 10, 11, 12, 50] none)
      (.cond (.tmp 50) (.seq (.region none [] [
          ⟨some 51, .mov (.tmp 0), none⟩,
          ⟨some 52, .mov (.tmp 1), none⟩,
          ⟨some 53, .mov (.tmp 2), none⟩,
          ⟨some 54, .call .share 70 [(.tmp 51), (.tmp 52), (.tmp 53)], none⟩] [0, 1, 2, 3, 8, 9, 10, 11] none)
        (.seq (.region none [] [
          ⟨some 55, .mov (.tmp 2), none⟩,
          ⟨some 56, .bin .sub .int (.tmp 55) (.cst (.int .i64 1)), none⟩,
          ⟨some 57, .mov (.tmp 11), none⟩,
          ⟨some 58, .mov (.tmp 1), none⟩,
          ⟨some 59, .bin .sub .int (.tmp 57) (.tmp 58), none⟩,
          ⟨some 60, .bin .sub .int (.tmp 56) (.tmp 59), none⟩,
          ⟨some 11, .mov (.tmp 60), none⟩] [0, 1, 2, 3, 8, 9, 10, 11] none)
        (.region none [] [
          ⟨some 12, .mov (.cst (.int .i64 1)), none⟩] [0, 1, 2, 3, 8, 9, 10, 11, 12] none)))
      (.skip)))
      (.seq (.seq (.region none [] [
        ⟨some 61, .mov (.tmp 8), none⟩,
        ⟨some 62, .mov (.tmp 61), none⟩,
        ⟨some 63, .mov (.tmp 9), some (62, true)⟩,
        ⟨some 64, .pick (.tmp 62) (.tmp 63) (.cst (.bool false)), none⟩,
        ⟨some 65, .mov (.tmp 64), none⟩,
        ⟨some 66, .mov (.tmp 12), some (65, true)⟩,
        ⟨some 67, .bin .eql .int (.tmp 66) (.cst (.int .i64 1)), some (65, true)⟩,
        ⟨some 68, .pick (.tmp 65) (.tmp 67) (.cst (.bool false)), none⟩] [0, 1, 2, 3, 8, 9, 10, 11, 68] none)
      (.cond (.tmp 68) (.seq (.region none [] [
          ⟨some 69, .mov (.tmp 0), none⟩,
          ⟨some 70, .mov (.tmp 1), none⟩,
          ⟨some 71, .mov (.tmp 2), none⟩,
          ⟨some 72, .call .share 71 [(.tmp 69), (.tmp 70), (.tmp 71)], none⟩] [0, 1, 2, 3, 8, 9, 10, 11, 72] none)
        (.cond (.tmp 72) (.ret)
        (.skip)))
      (.skip)))
      (.seq (.seq (.region (some 15) [] [
        ⟨some 73, .mov (.tmp 1), none⟩,
        ⟨some 74, .bin .gtr .int (.tmp 73) (.cst (.int .i64 0)), none⟩,
        ⟨some 75, .mov (.tmp 74), none⟩,
        ⟨some 76, .mov (.tmp 0), some (75, true)⟩,
        ⟨some 77, .mov (.tmp 1), some (75, true)⟩,
        ⟨some 78, .bin .sub .int (.tmp 77) (.cst (.int .i64 1)), some (75, true)⟩,
        ⟨some 79, .iaddr 1 (.tmp 76) (.tmp 78), some (75, true)⟩,
        ⟨some 80, .load none (.tmp 79), some (75, true)⟩,
        ⟨some 81, .mov (.tmp 0), some (75, true)⟩,
        ⟨some 82, .mov (.tmp 11), some (75, true)⟩,
        ⟨some 83, .iaddr 1 (.tmp 81) (.tmp 82), some (75, true)⟩,
        ⟨some 84, .load none (.tmp 83), some (75, true)⟩,
        ⟨some 85, .call .pure 72 [(.tmp 80), (.tmp 84)], some (75, true)⟩,
        ⟨some 86, .un .not (.tmp 85), some (75, true)⟩,
        ⟨some 87, .pick (.tmp 75) (.tmp 86) (.cst (.bool false)), none⟩] [0, 1, 2, 3, 8, 9, 10, 11, 87] none)
      (.cond (.tmp 87) (.seq (.region none [] [
          ⟨some 88, .mov (.tmp 0), none⟩,
          ⟨some 89, .mov (.tmp 1), none⟩,
          ⟨some 90, .mov (.tmp 2), none⟩,
          ⟨some 91, .mov (.tmp 11), none⟩,
          ⟨some 92, .call .share 73 [(.tmp 88), (.tmp 89), (.tmp 90), (.tmp 91)], none⟩,
          ⟨some 13, .mov (.tmp 92), none⟩] [0, 2, 3, 8, 9, 13] none)
        (.seq (.region none [] [
          ⟨some 93, .mov (.tmp 13), none⟩,
          ⟨some 1, .mov (.tmp 93), none⟩] [0, 1, 2, 3, 8, 9] none)
        (.exit 1)))
      (.skip)))
      (.seq (.region none [] [
        ⟨some 95, .mov (.tmp 0), none⟩,
        ⟨some 96, .mov (.tmp 1), none⟩,
        ⟨some 97, .mov (.tmp 2), none⟩,
        ⟨some 98, .mov (.tmp 11), none⟩,
        ⟨some 99, .call .share 74 [(.tmp 95), (.tmp 96), (.tmp 97), (.tmp 98)], none⟩,
        ⟨some 94, .mov (.tmp 99), none⟩,
        ⟨some 100, .ext (.tmp 94) 0, none⟩,
        ⟨some 101, .ext (.tmp 94) 1, none⟩,
        ⟨some 14, .mov (.tmp 100), none⟩,
        ⟨some 15, .mov (.tmp 101), none⟩] [0, 1, 2, 3, 10, 14, 15] none)
      (.seq (.region none [] [
        ⟨some 102, .mov (.tmp 15), none⟩,
        ⟨some 9, .mov (.tmp 102), none⟩] [0, 1, 2, 3, 9, 10, 14] none)
      (.seq (.region none [] [
        ⟨some 103, .mov (.tmp 14), none⟩,
        ⟨some 104, .mov (.tmp 1), none⟩,
        ⟨some 105, .bin .sub .int (.tmp 103) (.tmp 104), none⟩,
        ⟨some 106, .mov (.tmp 2), none⟩,
        ⟨some 107, .mov (.tmp 14), none⟩,
        ⟨some 108, .bin .sub .int (.tmp 106) (.tmp 107), none⟩,
        ⟨some 16, .mov (.tmp 105), none⟩,
        ⟨some 17, .mov (.tmp 108), none⟩] [0, 1, 2, 3, 9, 10, 14, 16, 17] none)
      (.seq (.region none [] [
        ⟨some 109, .mov (.tmp 10), none⟩,
        ⟨some 110, .bin .quo .int (.tmp 109) (.cst (.int .i64 8)), none⟩,
        ⟨some 18, .mov (.tmp 110), none⟩] [0, 1, 2, 3, 9, 14, 16, 17, 18] none)
      (.seq (.region none [] [
        ⟨some 111, .mov (.tmp 16), none⟩,
        ⟨some 112, .mov (.tmp 17), none⟩,
        ⟨some 113, .bin .lss .int (.tmp 111) (.tmp 112), none⟩] [0, 1, 2, 3, 9, 14, 16, 17, 18, 113] none)
      (.cond (.tmp 113) (.seq (.region none [] [
          ⟨some 114, .mov (.tmp 16), none⟩,
          ⟨some 115, .mov (.tmp 18), none⟩,
          ⟨some 116, .bin .geq .int (.tmp 114) (.tmp 115), none⟩,
          ⟨some 8, .mov (.tmp 116), none⟩] [0, 1, 2, 3, 8, 9, 14] none)
        (.seq (.region none [] [
          ⟨some 117, .mov (.tmp 0), none⟩,
          ⟨some 118, .mov (.tmp 1), none⟩,
          ⟨some 119, .mov (.tmp 14), none⟩,
          ⟨some 120, .mov (.tmp 3), none⟩,
          ⟨some 121, .call .share 51 [(.tmp 117), (.tmp 118), (.tmp 119), (.tmp 120)], none⟩] [0, 2, 3, 8, 9, 14] none)
        (.region none [] [
          ⟨some 122, .mov (.tmp 14), none⟩,
          ⟨some 123, .bin .add .int (.tmp 122) (.cst (.int .i64 1)), none⟩,
          ⟨some 1, .mov (.tmp 123), none⟩] [0, 1, 2, 3, 8, 9] none)))
      (.seq (.region none [] [
          ⟨some 124, .mov (.tmp 17), none⟩,
          ⟨some 125, .mov (.tmp 18), none⟩,
          ⟨some 126, .bin .geq .int (.tmp 124) (.tmp 125), none⟩,
          ⟨some 8, .mov (.tmp 126), none⟩] [0, 1, 2, 3, 8, 9, 14] none)
        (.seq (.region none [] [
          ⟨some 127, .mov (.tmp 0), none⟩,
          ⟨some 128, .mov (.tmp 14), none⟩,
          ⟨some 129, .bin .add .int (.tmp 128) (.cst (.int .i64 1)), none⟩,
          ⟨some 130, .mov (.tmp 2), none⟩,
          ⟨some 131, .mov (.tmp 3), none⟩,
          ⟨some 132, .call .share 51 [(.tmp 127), (.tmp 129), (.tmp 130), (.tmp 131)], none⟩] [0, 1, 3, 8, 9, 14] none)
        (.region none [] [
          ⟨some 133, .mov (.tmp 14), none⟩,
          ⟨some 2, .mov (.tmp 133), none⟩] [0, 1, 2, 3, 8, 9] none)))))))))))))))))

def c51 : ACode :=
  .seq (.region none [] [
      ⟨some 8, .mov (.cst (.bool true)), none⟩] [0, 1, 2, 3, 8] none)
    (.seq (.region none [] [
      ⟨some 9, .mov (.cst (.bool true)), none⟩] [0, 1, 2, 3, 8, 9] none)
    (.block 0 (.loop l51_0_h l51_0_b)))

def a51 : AFunc := ⟨4, c51, []⟩

def an51 : List RAnn := [
  { id := 0, live := [0, 1, 2, 3, 8] },
  { id := 1, live := [0, 1, 2, 3, 8, 9] },
  { id := 2, live := [0, 1, 2, 3, 8, 9, 10], hdr := [0, 1, 2, 3, 8, 9] },
  { id := 3, live := [0, 1, 2, 3, 8, 9, 10, 23] },
  { id := 4, ops := [(3, .mode .share)] },
  { id := 5, live := [0, 1, 2, 3, 8, 9, 10, 29] },
  { id := 6, ops := [(3, .mode .share)] },
  { id := 7, live := [0, 1, 2, 3, 8, 9, 10, 35] },
  { id := 8, live := [0, 1, 2, 3, 8, 9, 10], ops := [(3, .mode .share)] },
  { id := 9, live := [0, 1, 2, 3, 8, 9, 10] },
  { id := 10, live := [0, 1, 2, 3, 8, 9, 10, 11, 12], ops := [(3, .mode .share)] },
  { id := 11, live := [0, 1, 2, 3, 8, 9, 10, 11, 12, 50] },
  { id := 12, live := [0, 1, 2, 3, 8, 9, 10, 11], ops := [(3, .mode .share)] },
  { id := 13, live := [0, 1, 2, 3, 8, 9, 10, 11] },
  { id := 14, live := [0, 1, 2, 3, 8, 9, 10, 11, 12] },
  { id := 15, live := [0, 1, 2, 3, 8, 9, 10, 11, 68] },
  { id := 16, live := [0, 1, 2, 3, 8, 9, 10, 11, 72], ops := [(3, .mode .share)] },
  { id := 17, head := some 15, live := [0, 1, 2, 3, 8, 9, 10, 11, 87] },
  { id := 18, live := [0, 2, 3, 8, 9, 13], ops := [(4, .mode .share)] },
  { id := 19, live := [0, 1, 2, 3, 8, 9] },
  { id := 20, live := [0, 1, 2, 3, 10, 14, 15], ops := [(4, .mode .share)] },
  { id := 21, live := [0, 1, 2, 3, 9, 10, 14] },
  { id := 22, live := [0, 1, 2, 3, 9, 10, 14, 16, 17] },
  { id := 23, live := [0, 1, 2, 3, 9, 14, 16, 17, 18] },
  { id := 24, live := [0, 1, 2, 3, 9, 14, 16, 17, 18, 113] },
  { id := 25, live := [0, 1, 2, 3, 8, 9, 14] },
  { id := 26, live := [0, 2, 3, 8, 9, 14], ops := [(4, .mode .share)] },
  { id := 27, live := [0, 1, 2, 3, 8, 9] },
  { id := 28, live := [0, 1, 2, 3, 8, 9, 14] },
  { id := 29, live := [0, 1, 3, 8, 9, 14], ops := [(5, .mode .share)] },
  { id := 30, live := [0, 1, 2, 3, 8, 9] }]

theorem comp51 : compF Try.prog an51 Try.f51 = some a51 := by kernel_rfl

/- slices.Index[[]string,string] -/
/-- loop 0 of function 52 -/
def l52_0_h : List Nat := [0, 1, 7, 8]

def l52_0_b : ACode :=
  .seq (.region none [] [
      ⟨some 9, .bin .lss .int (.tmp 8) (.tmp 7), none⟩] [0, 1, 7, 8, 9] none)
    (.seq (.cond (.tmp 9) (.skip)
    (.exit 0))
    (.seq (.block 1 (.seq (.region none [] [
        ⟨some 10, .mov (.tmp 8), none⟩,
        ⟨some 5, .mov (.tmp 10), none⟩] [0, 1, 5, 7, 8] none)
      (.seq (.region none [] [
        ⟨some 11, .mov (.tmp 1), none⟩,
        ⟨some 12, .mov (.tmp 0), none⟩,
        ⟨some 13, .mov (.tmp 5), none⟩,
        ⟨some 14, .iaddr 1 (.tmp 12) (.tmp 13), none⟩,
        ⟨some 15, .load none (.tmp 14), none⟩,
        ⟨some 16, .bin .eql .str (.tmp 11) (.tmp 15), none⟩] [0, 1, 5, 7, 8, 16] none)
      (.cond (.tmp 16) (.seq (.region none [] [
          ⟨some 17, .mov (.tmp 5), none⟩,
          ⟨some 4, .mov (.tmp 17), none⟩] [4] none)
        (.ret))
      (.skip)))))
    (.region none [] [
      ⟨some 18, .bin .add .int (.tmp 8) (.cst (.int .i64 1)), none⟩,
      ⟨some 8, .mov (.tmp 18), none⟩] [0, 1, 7, 8] none)))

def c52 : ACode :=
  .seq (.region none [] [
      ⟨some 4, .mov (.cst (.int .i64 0)), none⟩] [0, 1] none)
    (.seq (.seq (.region none [] [
      ⟨some 6, .mov (.tmp 0), none⟩,
      ⟨some 7, .len .slice (.tmp 6), none⟩,
      ⟨some 8, .mov (.cst (.int .i64 0)), none⟩] [0, 1, 7, 8] none)
    (.block 0 (.loop l52_0_h l52_0_b)))
    (.seq (.region none [] [
      ⟨some 4, .mov (.cst (.int .i64 (-1))), none⟩] [4] none)
    (.ret)))

def a52 : AFunc := ⟨2, c52, [.tmp 4]⟩

def an52 : List RAnn := [
  { id := 0, live := [0, 1] },
  { id := 1, live := [0, 1, 7, 8] },
  { id := 2, live := [0, 1, 7, 8, 9], hdr := [0, 1, 7, 8] },
  { id := 3, live := [0, 1, 5, 7, 8] },
  { id := 4, live := [0, 1, 5, 7, 8, 16] },
  { id := 5, live := [4] },
  { id := 6, live := [0, 1, 7, 8] },
  { id := 7, live := [4] }]

theorem comp52 : compF Try.prog an52 Try.f52 = some a52 := by kernel_rfl

/- slices.insertionSortCmpFunc[int] -/
/-- loop 0 of function 53 -/
def l53_0_h : List Nat := [0, 1, 2, 3, 8, 9]

def l53_0_b : ACode :=
  .seq (.seq (.region (some 17) [] [
      ⟨some 18, .mov (.tmp 9), none⟩,
      ⟨some 19, .mov (.tmp 1), none⟩,
      ⟨some 20, .bin .gtr .int (.tmp 18) (.tmp 19), none⟩,
      ⟨some 21, .mov (.tmp 20), none⟩,
      ⟨some 22, .mov (.tmp 3), some (21, true)⟩,
      ⟨some 23, .mov (.tmp 0), some (21, true)⟩,
      ⟨some 24, .mov (.tmp 9), some (21, true)⟩,
      ⟨some 25, .iaddr 1 (.tmp 23) (.tmp 24), some (21, true)⟩,
      ⟨some 26, .load none (.tmp 25), some (21, true)⟩,
      ⟨some 27, .mov (.tmp 0), some (21, true)⟩,
      ⟨some 28, .mov (.tmp 9), some (21, true)⟩,
      ⟨some 29, .bin .sub .int (.tmp 28) (.cst (.int .i64 1)), some (21, true)⟩,
      ⟨some 30, .iaddr 1 (.tmp 27) (.tmp 29), some (21, true)⟩,
      ⟨some 31, .load none (.tmp 30), some (21, true)⟩,
      ⟨some 32, .callv .pure (.tmp 22) [(.tmp 26), (.tmp 31)], some (21, true)⟩,
      ⟨some 33, .bin .lss .int (.tmp 32) (.cst (.int .i64 0)), some (21, true)⟩,
      ⟨some 34, .pick (.tmp 21) (.tmp 33) (.cst (.bool false)), none⟩] [0, 1, 2, 3, 8, 9, 34] none)
    (.cond (.tmp 34) (.skip)
    (.exit 2)))
    (.seq (.block 3 (.par 18 [] [] [
        ⟨some 37, .mov (.tmp 0), none⟩,
        ⟨some 38, .mov (.tmp 9), none⟩,
        ⟨some 39, .mov (.tmp 0), none⟩,
        ⟨some 40, .mov (.tmp 9), none⟩,
        ⟨some 41, .bin .sub .int (.tmp 40) (.cst (.int .i64 1)), none⟩,
        ⟨some 42, .mov (.tmp 0), none⟩,
        ⟨some 43, .mov (.tmp 9), none⟩,
        ⟨some 44, .bin .sub .int (.tmp 43) (.cst (.int .i64 1)), none⟩,
        ⟨some 45, .iaddr 1 (.tmp 42) (.tmp 44), none⟩,
        ⟨some 46, .load none (.tmp 45), none⟩,
        ⟨some 47, .mov (.tmp 0), none⟩,
        ⟨some 48, .mov (.tmp 9), none⟩,
        ⟨some 49, .iaddr 1 (.tmp 47) (.tmp 48), none⟩,
        ⟨some 50, .load none (.tmp 49), none⟩,
        ⟨some 51, .iaddr 1 (.tmp 37) (.tmp 38), none⟩,
        ⟨none, .store 1 (.tmp 51) (.tmp 46), none⟩,
        ⟨some 52, .iaddr 1 (.tmp 39) (.tmp 41), none⟩,
        ⟨none, .store 1 (.tmp 52) (.tmp 50), none⟩] [0, 1, 2, 3, 8, 9] none))
    (.region none [] [
      ⟨some 35, .mov (.tmp 9), none⟩,
      ⟨some 36, .bin .sub .int (.tmp 35) (.cst (.int .i64 1)), none⟩,
      ⟨some 9, .mov (.tmp 36), none⟩] [0, 1, 2, 3, 8, 9] none))

/-- loop 1 of function 53 -/
def l53_1_h : List Nat := [0, 1, 2, 3, 8]

def l53_1_b : ACode :=
  .seq (.seq (.region none [] [
      ⟨some 12, .mov (.tmp 8), none⟩,
      ⟨some 13, .mov (.tmp 2), none⟩,
      ⟨some 14, .bin .lss .int (.tmp 12) (.tmp 13), none⟩] [0, 1, 2, 3, 8, 14] none)
    (.cond (.tmp 14) (.skip)
    (.exit 0)))
    (.seq (.block 1 (.seq (.region none [] [
        ⟨some 17, .mov (.tmp 8), none⟩,
        ⟨some 9, .mov (.tmp 17), none⟩] [0, 1, 2, 3, 8, 9] none)
      (.block 2 (.loop l53_0_h l53_0_b))))
    (.region none [] [
      ⟨some 15, .mov (.tmp 8), none⟩,
      ⟨some 16, .bin .add .int (.tmp 15) (.cst (.int .i64 1)), none⟩,
      ⟨some 8, .mov (.tmp 16), none⟩] [0, 1, 2, 3, 8] none))

def c53 : ACode :=
  .seq (.region none [] [
      ⟨some 10, .mov (.tmp 1), none⟩,
      ⟨some 11, .bin .add .int (.tmp 10) (.cst (.int .i64 1)), none⟩,
      ⟨some 8, .mov (.tmp 11), none⟩] [0, 1, 2, 3, 8] none)
    (.block 0 (.loop l53_1_h l53_1_b))

def a53 : AFunc := ⟨4, c53, []⟩

def an53 : List RAnn := [
  { id := 0, live := [0, 1, 2, 3, 8] },
  { id := 1, live := [0, 1, 2, 3, 8, 14], hdr := [0, 1, 2, 3, 8] },
  { id := 3, live := [0, 1, 2, 3, 8, 9] },
  { id := 4, head := some 17, live := [0, 1, 2, 3, 8, 9, 34], hdr := [0, 1, 2, 3, 8, 9] },
  { id := 6, head := some 18, live := [0, 1, 2, 3, 8, 9], par := true },
  { id := 5, live := [0, 1, 2, 3, 8, 9] },
  { id := 2, live := [0, 1, 2, 3, 8] }]

theorem comp53 : compF Try.prog an53 Try.f53 = some a53 := by kernel_rfl

/- math/bits.Len64 -/
def c62 : ACode :=
  .seq (.region none [] [
      ⟨some 2, .mov (.cst (.int .i64 0)), none⟩] [0, 2] none)
    (.seq (.seq (.region none [] [
      ⟨some 3, .mov (.tmp 0), none⟩,
      ⟨some 4, .bin .geq .int (.tmp 3) (.cst (.int .u64 4294967296)), none⟩] [0, 2, 4] none)
    (.cond (.tmp 4) (.seq (.region none [] [
        ⟨some 5, .mov (.tmp 0), none⟩,
        ⟨some 6, .bin .shr .int (.tmp 5) (.cst (.int .u64 32)), none⟩,
        ⟨some 0, .mov (.tmp 6), none⟩] [0] none)
      (.region none [] [
        ⟨some 2, .mov (.cst (.int .i64 32)), none⟩] [0, 2] none))
    (.skip)))
    (.seq (.seq (.region none [] [
      ⟨some 7, .mov (.tmp 0), none⟩,
      ⟨some 8, .bin .geq .int (.tmp 7) (.cst (.int .u64 65536)), none⟩] [0, 2, 8] none)
    (.cond (.tmp 8) (.seq (.region none [] [
        ⟨some 9, .mov (.tmp 0), none⟩,
        ⟨some 10, .bin .shr .int (.tmp 9) (.cst (.int .u64 16)), none⟩,
        ⟨some 0, .mov (.tmp 10), none⟩] [0, 2] none)
      (.region none [] [
        ⟨some 11, .mov (.tmp 2), none⟩,
        ⟨some 12, .bin .add .int (.tmp 11) (.cst (.int .i64 16)), none⟩,
        ⟨some 2, .mov (.tmp 12), none⟩] [0, 2] none))
    (.skip)))
    (.seq (.seq (.region none [] [
      ⟨some 13, .mov (.tmp 0), none⟩,
      ⟨some 14, .bin .geq .int (.tmp 13) (.cst (.int .u64 256)), none⟩] [0, 2, 14] none)
    (.cond (.tmp 14) (.seq (.region none [] [
        ⟨some 15, .mov (.tmp 0), none⟩,
        ⟨some 16, .bin .shr .int (.tmp 15) (.cst (.int .u64 8)), none⟩,
        ⟨some 0, .mov (.tmp 16), none⟩] [0, 2] none)
      (.region none [] [
        ⟨some 17, .mov (.tmp 2), none⟩,
        ⟨some 18, .bin .add .int (.tmp 17) (.cst (.int .i64 8)), none⟩,
        ⟨some 2, .mov (.tmp 18), none⟩] [0, 2] none))
    (.skip)))
    (.seq (.region none [] [
      ⟨some 19, .mov (.tmp 2), none⟩,
      ⟨some 20, .mov (.tmp 0), none⟩,
      ⟨some 21, .conv .u8 (.tmp 20), none⟩,
      ⟨some 22, .sidx (.cst (.str [0, 1, 2, 2, 3, 3, 3, 3, 4, 4, 4, 4, 4, 4, 4, 4, 5, 5, 5, 5, 5, 5, 5, 5, 5, 5, 5, 5, 5, 5, 5, 5, 6, 6, 6, 6, 6, 6, 6, 6, 6, 6, 6, 6, 6, 6, 6, 6, 6, 6, 6, 6, 6, 6, 6, 6, 6, 6, 6, 6, 6, 6, 6, 6, 7, 7, 7, 7, 7, 7, 7, 7, 7, 7, 7, 7, 7, 7, 7, 7, 7, 7, 7, 7, 7, 7, 7, 7, 7, 7, 7, 7, 7, 7, 7, 7, 7, 7, 7, 7, 7, 7, 7, 7, 7, 7, 7, 7, 7, 7, 7, 7, 7, 7, 7, 7, 7, 7, 7, 7, 7, 7, 7, 7, 7, 7, 7, 7, 8, 8, 8, 8, 8, 8, 8, 8, 8, 8, 8, 8, 8, 8, 8, 8, 8, 8, 8, 8, 8, 8, 8, 8, 8, 8, 8, 8, 8, 8, 8, 8, 8, 8, 8, 8, 8, 8, 8, 8, 8, 8, 8, 8, 8, 8, 8, 8, 8, 8, 8, 8, 8, 8, 8, 8, 8, 8, 8, 8, 8, 8, 8, 8, 8, 8, 8, 8, 8, 8, 8, 8, 8, 8, 8, 8, 8, 8, 8, 8, 8, 8, 8, 8, 8, 8, 8, 8, 8, 8, 8, 8, 8, 8, 8, 8, 8, 8, 8, 8, 8, 8, 8, 8, 8, 8, 8, 8, 8, 8, 8, 8, 8, 8, 8, 8, 8, 8, 8, 8, 8, 8, 8, 8, 8, 8, 8, 8])) (.tmp 21), none⟩,
      ⟨some 23, .conv .i64 (.tmp 22), none⟩,
      ⟨some 24, .bin .add .int (.tmp 19) (.tmp 23), none⟩,
      ⟨some 2, .mov (.tmp 24), none⟩] [2] none)
    (.ret)))))

def a62 : AFunc := ⟨1, c62, [.tmp 2]⟩

def an62 : List RAnn := [
  { id := 0, live := [0, 2] },
  { id := 1, live := [0, 2, 4] },
  { id := 2, live := [0] },
  { id := 3, live := [0, 2] },
  { id := 4, live := [0, 2, 8] },
  { id := 5, live := [0, 2] },
  { id := 6, live := [0, 2] },
  { id := 7, live := [0, 2, 14] },
  { id := 8, live := [0, 2] },
  { id := 9, live := [0, 2] },
  { id := 10, live := [2] }]

theorem comp62 : compF Try.prog an62 Try.f62 = some a62 := by kernel_rfl

/- cmp.isNaN[int] -/
def c63 : ACode :=
  .seq (.region none [] [
      ⟨some 2, .mov (.cst (.bool false)), none⟩] [0] none)
    (.seq (.region none [] [
      ⟨some 3, .mov (.tmp 0), none⟩,
      ⟨some 4, .mov (.tmp 0), none⟩,
      ⟨some 5, .bin .neq .int (.tmp 3) (.tmp 4), none⟩,
      ⟨some 2, .mov (.tmp 5), none⟩] [2] none)
    (.ret))

def a63 : AFunc := ⟨1, c63, [.tmp 2]⟩

def an63 : List RAnn := [
  { id := 0, live := [0] },
  { id := 1, live := [2] }]

theorem comp63 : compF Try.prog an63 Try.f63 = some a63 := by kernel_rfl

/- slices.IndexFunc[[]string,string] -/
/-- loop 0 of function 64 -/
def l64_0_h : List Nat := [0, 1, 7, 8]

def l64_0_b : ACode :=
  .seq (.region none [] [
      ⟨some 9, .bin .lss .int (.tmp 8) (.tmp 7), none⟩] [0, 1, 7, 8, 9] none)
    (.seq (.cond (.tmp 9) (.skip)
    (.exit 0))
    (.seq (.block 1 (.seq (.region none [] [
        ⟨some 10, .mov (.tmp 8), none⟩,
        ⟨some 5, .mov (.tmp 10), none⟩] [0, 1, 5, 7, 8] none)
      (.seq (.region none [] [
        ⟨some 11, .mov (.tmp 1), none⟩,
        ⟨some 12, .mov (.tmp 0), none⟩,
        ⟨some 13, .mov (.tmp 5), none⟩,
        ⟨some 14, .iaddr 1 (.tmp 12) (.tmp 13), none⟩,
        ⟨some 15, .load none (.tmp 14), none⟩,
        ⟨some 16, .callv .pure (.tmp 11) [(.tmp 15)], none⟩] [0, 1, 5, 7, 8, 16] none)
      (.cond (.tmp 16) (.seq (.region none [] [
          ⟨some 17, .mov (.tmp 5), none⟩,
          ⟨some 4, .mov (.tmp 17), none⟩] [4] none)
        (.ret))
      (.skip)))))
    (.region none [] [
      ⟨some 18, .bin .add .int (.tmp 8) (.cst (.int .i64 1)), none⟩,
      ⟨some 8, .mov (.tmp 18), none⟩] [0, 1, 7, 8] none)))

def c64 : ACode :=
  .seq (.region none [] [
      ⟨some 4, .mov (.cst (.int .i64 0)), none⟩] [0, 1] none)
    (.seq (.seq (.region none [] [
      ⟨some 6, .mov (.tmp 0), none⟩,
      ⟨some 7, .len .slice (.tmp 6), none⟩,
      ⟨some 8, .mov (.cst (.int .i64 0)), none⟩] [0, 1, 7, 8] none)
    (.block 0 (.loop l64_0_h l64_0_b)))
    (.seq (.region none [] [
      ⟨some 4, .mov (.cst (.int .i64 (-1))), none⟩] [4] none)
    (.ret)))

def a64 : AFunc := ⟨2, c64, [.tmp 4]⟩

def an64 : List RAnn := [
  { id := 0, live := [0, 1] },
  { id := 1, live := [0, 1, 7, 8] },
  { id := 2, live := [0, 1, 7, 8, 9], hdr := [0, 1, 7, 8] },
  { id := 3, live := [0, 1, 5, 7, 8] },
  { id := 4, live := [0, 1, 5, 7, 8, 16] },
  { id := 5, live := [4] },
  { id := 6, live := [0, 1, 7, 8] },
  { id := 7, live := [4] }]

theorem comp64 : compF Try.prog an64 Try.f64 = some a64 := by kernel_rfl

/- slices.insertionSortOrdered[string] -/
/-- loop 0 of function 66 -/
def l66_0_h : List Nat := [0, 1, 2, 6, 7]

def l66_0_b : ACode :=
  .seq (.seq (.region (some 15) [] [
      ⟨some 16, .mov (.tmp 7), none⟩,
      ⟨some 17, .mov (.tmp 1), none⟩,
      ⟨some 18, .bin .gtr .int (.tmp 16) (.tmp 17), none⟩,
      ⟨some 19, .mov (.tmp 18), none⟩,
      ⟨some 20, .mov (.tmp 0), some (19, true)⟩,
      ⟨some 21, .mov (.tmp 7), some (19, true)⟩,
      ⟨some 22, .iaddr 1 (.tmp 20) (.tmp 21), some (19, true)⟩,
      ⟨some 23, .load none (.tmp 22), some (19, true)⟩,
      ⟨some 24, .mov (.tmp 0), some (19, true)⟩,
      ⟨some 25, .mov (.tmp 7), some (19, true)⟩,
      ⟨some 26, .bin .sub .int (.tmp 25) (.cst (.int .i64 1)), some (19, true)⟩,
      ⟨some 27, .iaddr 1 (.tmp 24) (.tmp 26), some (19, true)⟩,
      ⟨some 28, .load none (.tmp 27), some (19, true)⟩,
      ⟨some 29, .call .pure 72 [(.tmp 23), (.tmp 28)], some (19, true)⟩,
      ⟨some 30, .pick (.tmp 19) (.tmp 29) (.cst (.bool false)), none⟩] [0, 1, 2, 6, 7, 30] none)
    (.cond (.tmp 30) (.skip)
    (.exit 2)))
    (.seq (.block 3 (.par 18 [] [] [
        ⟨some 33, .mov (.tmp 0), none⟩,
        ⟨some 34, .mov (.tmp 7), none⟩,
        ⟨some 35, .mov (.tmp 0), none⟩,
        ⟨some 36, .mov (.tmp 7), none⟩,
        ⟨some 37, .bin .sub .int (.tmp 36) (.cst (.int .i64 1)), none⟩,
        ⟨some 38, .mov (.tmp 0), none⟩,
        ⟨some 39, .mov (.tmp 7), none⟩,
        ⟨some 40, .bin .sub .int (.tmp 39) (.cst (.int .i64 1)), none⟩,
        ⟨some 41, .iaddr 1 (.tmp 38) (.tmp 40), none⟩,
        ⟨some 42, .load none (.tmp 41), none⟩,
        ⟨some 43, .mov (.tmp 0), none⟩,
        ⟨some 44, .mov (.tmp 7), none⟩,
        ⟨some 45, .iaddr 1 (.tmp 43) (.tmp 44), none⟩,
        ⟨some 46, .load none (.tmp 45), none⟩,
        ⟨some 47, .iaddr 1 (.tmp 33) (.tmp 34), none⟩,
        ⟨none, .store 1 (.tmp 47) (.tmp 42), none⟩,
        ⟨some 48, .iaddr 1 (.tmp 35) (.tmp 37), none⟩,
        ⟨none, .store 1 (.tmp 48) (.tmp 46), none⟩] [0, 1, 2, 6, 7] none))
    (.region none [] [
      ⟨some 31, .mov (.tmp 7), none⟩,
      ⟨some 32, .bin .sub .int (.tmp 31) (.cst (.int .i64 1)), none⟩,
      ⟨some 7, .mov (.tmp 32), none⟩] [0, 1, 2, 6, 7] none))

/-- loop 1 of function 66 -/
def l66_1_h : List Nat := [0, 1, 2, 6]

def l66_1_b : ACode :=
  .seq (.seq (.region none [] [
      ⟨some 10, .mov (.tmp 6), none⟩,
      ⟨some 11, .mov (.tmp 2), none⟩,
      ⟨some 12, .bin .lss .int (.tmp 10) (.tmp 11), none⟩] [0, 1, 2, 6, 12] none)
    (.cond (.tmp 12) (.skip)
    (.exit 0)))
    (.seq (.block 1 (.seq (.region none [] [
        ⟨some 15, .mov (.tmp 6), none⟩,
        ⟨some 7, .mov (.tmp 15), none⟩] [0, 1, 2, 6, 7] none)
      (.block 2 (.loop l66_0_h l66_0_b))))
    (.region none [] [
      ⟨some 13, .mov (.tmp 6), none⟩,
      ⟨some 14, .bin .add .int (.tmp 13) (.cst (.int .i64 1)), none⟩,
      ⟨some 6, .mov (.tmp 14), none⟩] [0, 1, 2, 6] none))

def c66 : ACode :=
  .seq (.region none [] [
      ⟨some 8, .mov (.tmp 1), none⟩,
      ⟨some 9, .bin .add .int (.tmp 8) (.cst (.int .i64 1)), none⟩,
      ⟨some 6, .mov (.tmp 9), none⟩] [0, 1, 2, 6] none)
    (.block 0 (.loop l66_1_h l66_1_b))

def a66 : AFunc := ⟨3, c66, []⟩

def an66 : List RAnn := [
  { id := 0, live := [0, 1, 2, 6] },
  { id := 1, live := [0, 1, 2, 6, 12], hdr := [0, 1, 2, 6] },
  { id := 3, live := [0, 1, 2, 6, 7] },
  { id := 4, head := some 15, live := [0, 1, 2, 6, 7, 30], hdr := [0, 1, 2, 6, 7] },
  { id := 6, head := some 18, live := [0, 1, 2, 6, 7], par := true },
  { id := 5, live := [0, 1, 2, 6, 7] },
  { id := 2, live := [0, 1, 2, 6] }]

theorem comp66 : compF Try.prog an66 Try.f66 = some a66 := by kernel_rfl

/- cmp.Less[string] -/
def c72 : ACode :=
  .seq (.region none [] [
      ⟨some 4, .mov (.cst (.bool false)), none⟩] [0, 1] none)
    (.seq (.region none [] [
      ⟨some 5, .mov (.tmp 0), none⟩,
      ⟨some 6, .call .pure 84 [(.tmp 5)], none⟩,
      ⟨some 7, .mov (.tmp 6), none⟩,
      ⟨some 8, .mov (.tmp 1), some (7, true)⟩,
      ⟨some 9, .call .pure 84 [(.tmp 8)], some (7, true)⟩,
      ⟨some 10, .un .not (.tmp 9), some (7, true)⟩,
      ⟨some 11, .pick (.tmp 7) (.tmp 10) (.cst (.bool false)), none⟩,
      ⟨some 12, .mov (.tmp 11), none⟩,
      ⟨some 13, .mov (.tmp 0), some (12, false)⟩,
      ⟨some 14, .mov (.tmp 1), some (12, false)⟩,
      ⟨some 15, .bin .lss .str (.tmp 13) (.tmp 14), some (12, false)⟩,
      ⟨some 16, .pick (.tmp 12) (.cst (.bool true)) (.tmp 15), none⟩,
      ⟨some 4, .mov (.tmp 16), none⟩] [4] none)
    (.ret))

def a72 : AFunc := ⟨2, c72, [.tmp 4]⟩

def an72 : List RAnn := [
  { id := 0, live := [0, 1] },
  { id := 1, live := [4] }]

theorem comp72 : compF Try.prog an72 Try.f72 = some a72 := by kernel_rfl

/- cmp.isNaN[string] -/
def c84 : ACode :=
  .seq (.region none [] [
      ⟨some 2, .mov (.cst (.bool false)), none⟩] [0] none)
    (.seq (.region none [] [
      ⟨some 3, .mov (.tmp 0), none⟩,
      ⟨some 4, .mov (.tmp 0), none⟩,
      ⟨some 5, .bin .neq .str (.tmp 3) (.tmp 4), none⟩,
      ⟨some 2, .mov (.tmp 5), none⟩] [2] none)
    (.ret))

def a84 : AFunc := ⟨1, c84, [.tmp 2]⟩

def an84 : List RAnn := [
  { id := 0, live := [0] },
  { id := 1, live := [2] }]

theorem comp84 : compF Try.prog an84 Try.f84 = some a84 := by kernel_rfl

def tab : List (Nat × AFn) := [
  (3, .code a3),
  (5, .code a5),
  (6, .code a6),
  (7, .code a7),
  (8, .code a8),
  (9, .code a9),
  (10, .code a10),
  (11, .code a11),
  (12, .code a12),
  (13, .code a13),
  (15, .code a15),
  (16, .code a16),
  (17, .code a17),
  (18, .code a18),
  (19, .code a19),
  (20, .code a20),
  (21, .code a21),
  (22, .code a22),
  (23, .code a23),
  (24, .code a24),
  (25, .code a25),
  (27, .code a27),
  (28, .code a28),
  (29, .code a29),
  (30, .code a30),
  (31, .code a31),
  (32, .code a32),
  (33, .code a33),
  (34, .code a34),
  (35, .code a35),
  (36, .code a36),
  (37, .code a37),
  (38, .code a38),
  (39, .code a39),
  (40, .code a40),
  (41, .code a41),
  (42, .code a42),
  (43, .code a43),
  (44, .code a44),
  (45, .code a45),
  (46, .code a46),
  (47, .code a47),
  (48, .code a48),
  (49, .code a49),
  (50, .code a50),
  (51, .code a51),
  (52, .code a52),
  (53, .code a53),
  (62, .code a62),
  (63, .code a63),
  (64, .code a64),
  (66, .code a66),
  (72, .code a72),
  (84, .code a84)]

theorem tab_ok : TableOk Try.prog (findFn tab) := tableOk_of ⟨⟨Try.f3, an3, by kernel_rfl, by kernel_rfl, comp3⟩,
  ⟨Try.f5, an5, by kernel_rfl, by kernel_rfl, comp5⟩,
  ⟨Try.f6, an6, by kernel_rfl, by kernel_rfl, comp6⟩,
  ⟨Try.f7, an7, by kernel_rfl, by kernel_rfl, comp7⟩,
  ⟨Try.f8, an8, by kernel_rfl, by kernel_rfl, comp8⟩,
  ⟨Try.f9, an9, by kernel_rfl, by kernel_rfl, comp9⟩,
  ⟨Try.f10, an10, by kernel_rfl, by kernel_rfl, comp10⟩,
  ⟨Try.f11, an11, by kernel_rfl, by kernel_rfl, comp11⟩,
  ⟨Try.f12, an12, by kernel_rfl, by kernel_rfl, comp12⟩,
  ⟨Try.f13, an13, by kernel_rfl, by kernel_rfl, comp13⟩,
  ⟨Try.f15, an15, by kernel_rfl, by kernel_rfl, comp15⟩,
  ⟨Try.f16, an16, by kernel_rfl, by kernel_rfl, comp16⟩,
  ⟨Try.f17, an17, by kernel_rfl, by kernel_rfl, comp17⟩,
  ⟨Try.f18, an18, by kernel_rfl, by kernel_rfl, comp18⟩,
  ⟨Try.f19, an19, by kernel_rfl, by kernel_rfl, comp19⟩,
  ⟨Try.f20, an20, by kernel_rfl, by kernel_rfl, comp20⟩,
  ⟨Try.f21, an21, by kernel_rfl, by kernel_rfl, comp21⟩,
  ⟨Try.f22, an22, by kernel_rfl, by kernel_rfl, comp22⟩,
  ⟨Try.f23, an23, by kernel_rfl, by kernel_rfl, comp23⟩,
  ⟨Try.f24, an24, by kernel_rfl, by kernel_rfl, comp24⟩,
  ⟨Try.f25, an25, by kernel_rfl, by kernel_rfl, comp25⟩,
  ⟨Try.f27, an27, by kernel_rfl, by kernel_rfl, comp27⟩,
  ⟨Try.f28, an28, by kernel_rfl, by kernel_rfl, comp28⟩,
  ⟨Try.f29, an29, by kernel_rfl, by kernel_rfl, comp29⟩,
  ⟨Try.f30, an30, by kernel_rfl, by kernel_rfl, comp30⟩,
  ⟨Try.f31, an31, by kernel_rfl, by kernel_rfl, comp31⟩,
  ⟨Try.f32, an32, by kernel_rfl, by kernel_rfl, comp32⟩,
  ⟨Try.f33, an33, by kernel_rfl, by kernel_rfl, comp33⟩,
  ⟨Try.f34, an34, by kernel_rfl, by kernel_rfl, comp34⟩,
  ⟨Try.f35, an35, by kernel_rfl, by kernel_rfl, comp35⟩,
  ⟨Try.f36, an36, by kernel_rfl, by kernel_rfl, comp36⟩,
  ⟨Try.f37, an37, by kernel_rfl, by kernel_rfl, comp37⟩,
  ⟨Try.f38, an38, by kernel_rfl, by kernel_rfl, comp38⟩,
  ⟨Try.f39, an39, by kernel_rfl, by kernel_rfl, comp39⟩,
  ⟨Try.f40, an40, by kernel_rfl, by kernel_rfl, comp40⟩,
  ⟨Try.f41, an41, by kernel_rfl, by kernel_rfl, comp41⟩,
  ⟨Try.f42, an42, by kernel_rfl, by kernel_rfl, comp42⟩,
  ⟨Try.f43, an43, by kernel_rfl, by kernel_rfl, comp43⟩,
  ⟨Try.f44, an44, by kernel_rfl, by kernel_rfl, comp44⟩,
  ⟨Try.f45, an45, by kernel_rfl, by kernel_rfl, comp45⟩,
  ⟨Try.f46, an46, by kernel_rfl, by kernel_rfl, comp46⟩,
  ⟨Try.f47, an47, by kernel_rfl, by kernel_rfl, comp47⟩,
  ⟨Try.f48, an48, by kernel_rfl, by kernel_rfl, comp48⟩,
  ⟨Try.f49, an49, by kernel_rfl, by kernel_rfl, comp49⟩,
  ⟨Try.f50, an50, by kernel_rfl, by kernel_rfl, comp50⟩,
  ⟨Try.f51, an51, by kernel_rfl, by kernel_rfl, comp51⟩,
  ⟨Try.f52, an52, by kernel_rfl, by kernel_rfl, comp52⟩,
  ⟨Try.f53, an53, by kernel_rfl, by kernel_rfl, comp53⟩,
  ⟨Try.f62, an62, by kernel_rfl, by kernel_rfl, comp62⟩,
  ⟨Try.f63, an63, by kernel_rfl, by kernel_rfl, comp63⟩,
  ⟨Try.f64, an64, by kernel_rfl, by kernel_rfl, comp64⟩,
  ⟨Try.f66, an66, by kernel_rfl, by kernel_rfl, comp66⟩,
  ⟨Try.f72, an72, by kernel_rfl, by kernel_rfl, comp72⟩,
  ⟨Try.f84, an84, by kernel_rfl, by kernel_rfl, comp84⟩,
  trivial⟩

theorem mixed : Try.prog.follows .mixedOrders = true := by kernel_rfl

theorem run_ok (n : Nat) : CallSound Try.prog (run (findFn tab) n) := run_sound mixed tab_ok n

end AI
end Go.Proofs.Ytokdbmakkoleiaa
