/- Printed by a program of mine: the functions, compiled; the kernel checks each against the given form. -/
import Derived.Test.YtocgbgffpdphdaaSe
import Derived.Test.YtocgbgffpdphdaaProg
import Derived.KernelRfl
namespace Go.Proofs.Ytocgbgffpdphdaa
namespace AI

/- graphdb/graphdblaw29.HyperParts -/
def c3 : ACode :=
  .seq (.region none [] [
      ⟨some 1, .box 2 (.tmp 0), none⟩,
      ⟨some 2, .mov (.cst (.bool false)), none⟩] [1] none)
    (.seq (.region (some 16) [] [
      ⟨some 3, .load (some 2) (.tmp 1), none⟩,
      ⟨some 4, .call .pure 9 [(.tmp 3)], none⟩,
      ⟨some 5, .load (some 2) (.tmp 1), none⟩,
      ⟨some 6, .call .pure 10 [(.tmp 5)], none⟩,
      ⟨some 7, .bin .eql .bool (.tmp 4) (.tmp 6), none⟩,
      ⟨some 8, .mov (.tmp 7), none⟩,
      ⟨some 9, .load (some 2) (.tmp 1), some (8, true)⟩,
      ⟨some 10, .call .pure 12 [(.tmp 9)], some (8, true)⟩,
      ⟨some 11, .load (some 2) (.tmp 1), some (8, true)⟩,
      ⟨some 12, .call .pure 13 [(.tmp 11)], some (8, true)⟩,
      ⟨some 13, .call .pure 11 [(.tmp 10), (.tmp 12)], some (8, true)⟩,
      ⟨some 14, .pick (.tmp 8) (.tmp 13) (.cst (.bool false)), none⟩,
      ⟨some 15, .mov (.tmp 14), none⟩,
      ⟨some 16, .call .pure 14 [], some (15, true)⟩,
      ⟨some 17, .pick (.tmp 15) (.tmp 16) (.cst (.bool false)), none⟩,
      ⟨some 2, .mov (.tmp 17), none⟩] [2] none)
    (.ret))

def a3 : AFunc := ⟨1, c3, [.tmp 2]⟩

def an3 : List RAnn := [
  { id := 0, live := [1] },
  { id := 1, head := some 16, live := [2] }]

theorem comp3 : compF Try.prog an3 Try.f3 = some a3 := by kernel_rfl

/- graphdb/graphdblaw29.HyperReduces -/
def c4 : ACode :=
  .seq (.region none [] [
      ⟨some 1, .box 2 (.tmp 0), none⟩,
      ⟨some 2, .mov (.cst (.bool false)), none⟩] [1] none)
    (.seq (.region (some 16) [] [
      ⟨some 3, .load (some 2) (.tmp 1), none⟩,
      ⟨some 4, .call .pure 16 [(.tmp 3)], none⟩,
      ⟨some 5, .load (some 2) (.tmp 1), none⟩,
      ⟨some 6, .call .pure 17 [(.tmp 5)], none⟩,
      ⟨some 7, .call .pure 15 [(.tmp 4), (.tmp 6)], none⟩,
      ⟨some 8, .mov (.tmp 7), none⟩,
      ⟨some 9, .load (some 2) (.tmp 1), some (8, true)⟩,
      ⟨some 10, .call .pure 18 [(.tmp 9)], some (8, true)⟩,
      ⟨some 11, .load (some 2) (.tmp 1), some (8, true)⟩,
      ⟨some 12, .call .pure 19 [(.tmp 11)], some (8, true)⟩,
      ⟨some 13, .bin .eql .bool (.tmp 10) (.tmp 12), some (8, true)⟩,
      ⟨some 14, .pick (.tmp 8) (.tmp 13) (.cst (.bool false)), none⟩,
      ⟨some 15, .mov (.tmp 14), none⟩,
      ⟨some 16, .call .pure 14 [], some (15, true)⟩,
      ⟨some 17, .pick (.tmp 15) (.tmp 16) (.cst (.bool false)), none⟩,
      ⟨some 2, .mov (.tmp 17), none⟩] [2] none)
    (.ret))

def a4 : AFunc := ⟨1, c4, [.tmp 2]⟩

def an4 : List RAnn := [
  { id := 0, live := [1] },
  { id := 1, head := some 16, live := [2] }]

theorem comp4 : compF Try.prog an4 Try.f4 = some a4 := by kernel_rfl

/- graphdb/graphdblaw29.HyperTrees -/
def c5 : ACode :=
  .seq (.region none [] [
      ⟨some 2, .box 2 (.tmp 0), none⟩,
      ⟨some 4, .mov (.cst (.bool false)), none⟩] [1, 2] none)
    (.seq (.region none [] [
      ⟨some 10, .load (some 2) (.tmp 2), none⟩,
      ⟨some 11, .call .pure 20 [(.tmp 10)], none⟩,
      ⟨some 9, .mov (.tmp 11), none⟩,
      ⟨some 12, .ext (.tmp 9) 0, none⟩,
      ⟨some 13, .ext (.tmp 9) 1, none⟩,
      ⟨some 5, .mov (.tmp 12), none⟩,
      ⟨some 6, .mov (.tmp 13), none⟩] [1, 2, 5, 6] none)
    (.seq (.region none [] [
      ⟨some 15, .load (some 2) (.tmp 2), none⟩,
      ⟨some 16, .call .pure 21 [(.tmp 15)], none⟩,
      ⟨some 14, .mov (.tmp 16), none⟩,
      ⟨some 17, .ext (.tmp 14) 0, none⟩,
      ⟨some 18, .ext (.tmp 14) 1, none⟩,
      ⟨some 7, .mov (.tmp 17), none⟩,
      ⟨some 8, .mov (.tmp 18), none⟩] [1, 2, 5, 6, 7, 8] none)
    (.seq (.region (some 21) [] [
      ⟨some 19, .mov (.tmp 5), none⟩,
      ⟨some 20, .mov (.tmp 7), none⟩,
      ⟨some 21, .call .pure 22 [(.tmp 19), (.tmp 20)], none⟩,
      ⟨some 22, .mov (.tmp 21), none⟩,
      ⟨some 23, .mov (.tmp 6), some (22, true)⟩,
      ⟨some 24, .mov (.tmp 8), some (22, true)⟩,
      ⟨some 25, .bin .eql .bool (.tmp 23) (.tmp 24), some (22, true)⟩,
      ⟨some 26, .pick (.tmp 22) (.tmp 25) (.cst (.bool false)), none⟩,
      ⟨some 27, .mov (.tmp 26), none⟩,
      ⟨some 28, .load (some 2) (.tmp 2), some (27, true)⟩,
      ⟨some 29, .mov (.tmp 1), some (27, true)⟩,
      ⟨some 30, .call .pure 23 [(.tmp 28), (.tmp 29)], some (27, true)⟩,
      ⟨some 31, .load (some 2) (.tmp 2), some (27, true)⟩,
      ⟨some 32, .mov (.tmp 1), some (27, true)⟩,
      ⟨some 33, .call .pure 24 [(.tmp 31), (.tmp 32)], some (27, true)⟩,
      ⟨some 34, .bin .eql .bool (.tmp 30) (.tmp 33), some (27, true)⟩,
      ⟨some 35, .pick (.tmp 27) (.tmp 34) (.cst (.bool false)), none⟩,
      ⟨some 36, .mov (.tmp 35), none⟩,
      ⟨some 37, .call .pure 14 [], some (36, true)⟩,
      ⟨some 38, .pick (.tmp 36) (.tmp 37) (.cst (.bool false)), none⟩,
      ⟨some 4, .mov (.tmp 38), none⟩] [4] none)
    (.ret))))

def a5 : AFunc := ⟨2, c5, [.tmp 4]⟩

def an5 : List RAnn := [
  { id := 0, live := [1, 2] },
  { id := 1, live := [1, 2, 5, 6] },
  { id := 2, live := [1, 2, 5, 6, 7, 8] },
  { id := 3, head := some 21, live := [4] }]

theorem comp5 : compF Try.prog an5 Try.f5 = some a5 := by kernel_rfl

/- graphdb/graphdblaw29.HyperJoins -/
def c6 : ACode :=
  .seq (.region none [] [
      ⟨some 1, .box 2 (.tmp 0), none⟩,
      ⟨some 2, .mov (.cst (.bool false)), none⟩] [1] none)
    (.seq (.region none [] [
      ⟨some 6, .load (some 2) (.tmp 1), none⟩,
      ⟨some 7, .call .pure 20 [(.tmp 6)], none⟩,
      ⟨some 5, .mov (.tmp 7), none⟩,
      ⟨some 8, .ext (.tmp 5) 0, none⟩,
      ⟨some 9, .ext (.tmp 5) 1, none⟩,
      ⟨some 3, .mov (.tmp 8), none⟩,
      ⟨some 4, .mov (.tmp 9), none⟩] [1, 3, 4] none)
    (.seq (.seq (.region none [] [
      ⟨some 10, .mov (.tmp 4), none⟩,
      ⟨some 11, .load (some 2) (.tmp 1), none⟩,
      ⟨some 12, .call .pure 18 [(.tmp 11)], none⟩,
      ⟨some 13, .bin .neq .bool (.tmp 10) (.tmp 12), none⟩] [1, 3, 4, 13] none)
    (.cond (.tmp 13) (.seq (.region none [] [
        ⟨some 2, .mov (.cst (.bool false)), none⟩] [2] none)
      (.ret))
    (.skip)))
    (.seq (.region none [] [
      ⟨some 14, .mov (.tmp 4), none⟩,
      ⟨some 15, .un .not (.tmp 14), none⟩,
      ⟨some 16, .mov (.tmp 15), none⟩,
      ⟨some 17, .load (some 2) (.tmp 1), some (16, false)⟩,
      ⟨some 18, .mov (.tmp 3), some (16, false)⟩,
      ⟨some 19, .call .pure 23 [(.tmp 17), (.tmp 18)], some (16, false)⟩,
      ⟨some 20, .pick (.tmp 16) (.cst (.bool true)) (.tmp 19), none⟩,
      ⟨some 21, .mov (.tmp 20), none⟩,
      ⟨some 22, .call .pure 14 [], some (21, true)⟩,
      ⟨some 23, .pick (.tmp 21) (.tmp 22) (.cst (.bool false)), none⟩,
      ⟨some 2, .mov (.tmp 23), none⟩] [2] none)
    (.ret))))

def a6 : AFunc := ⟨1, c6, [.tmp 2]⟩

def an6 : List RAnn := [
  { id := 0, live := [1] },
  { id := 1, live := [1, 3, 4] },
  { id := 2, live := [1, 3, 4, 13] },
  { id := 3, live := [2] },
  { id := 4, live := [2] }]

theorem comp6 : compF Try.prog an6 Try.f6 = some a6 := by kernel_rfl

/- graphdb/graphdblaw29.HyperWitness -/
def c7 : ACode :=
  .seq (.region none [] [
      ⟨some 2, .box 2 (.tmp 0), none⟩,
      ⟨some 4, .mov (.cst (.bool false)), none⟩] [1, 2] none)
    (.seq (.region none [] [
      ⟨some 5, .load (some 2) (.tmp 2), none⟩,
      ⟨some 6, .mov (.tmp 1), none⟩,
      ⟨some 7, .call .pure 23 [(.tmp 5), (.tmp 6)], none⟩,
      ⟨some 8, .un .not (.tmp 7), none⟩,
      ⟨some 9, .mov (.tmp 8), none⟩,
      ⟨some 10, .load (some 2) (.tmp 2), some (9, false)⟩,
      ⟨some 11, .call .pure 18 [(.tmp 10)], some (9, false)⟩,
      ⟨some 12, .pick (.tmp 9) (.cst (.bool true)) (.tmp 11), none⟩,
      ⟨some 13, .mov (.tmp 12), none⟩,
      ⟨some 14, .call .pure 14 [], some (13, true)⟩,
      ⟨some 15, .pick (.tmp 13) (.tmp 14) (.cst (.bool false)), none⟩,
      ⟨some 4, .mov (.tmp 15), none⟩] [4] none)
    (.ret))

def a7 : AFunc := ⟨2, c7, [.tmp 4]⟩

def an7 : List RAnn := [
  { id := 0, live := [1, 2] },
  { id := 1, live := [4] }]

theorem comp7 : compF Try.prog an7 Try.f7 = some a7 := by kernel_rfl

/- graphdb/graphdblaw29.HyperFull -/
/-- loop 0 of function 8 -/
def l8_0_h : List Nat := [1, 3, 4, 5, 6]

def l8_0_b : ACode :=
  .seq (.seq (.region none [] [
      ⟨some 36, .mov (.tmp 6), none⟩,
      ⟨some 37, .faddr 1 (.tmp 1), none⟩,
      ⟨some 38, .load none (.tmp 37), none⟩,
      ⟨some 39, .len .slice (.tmp 38), none⟩,
      ⟨some 40, .bin .lss .int (.tmp 36) (.tmp 39), none⟩] [1, 3, 4, 5, 6, 40] none)
    (.cond (.tmp 40) (.skip)
    (.exit 2)))
    (.seq (.block 3 (.seq (.region (some 12) [] [
        ⟨some 43, .mov (.tmp 3), none⟩,
        ⟨some 44, .mov (.tmp 5), none⟩,
        ⟨some 45, .iaddr 1 (.tmp 43) (.tmp 44), none⟩,
        ⟨some 46, .load none (.tmp 45), none⟩,
        ⟨some 47, .faddr 1 (.tmp 1), none⟩,
        ⟨some 48, .load none (.tmp 47), none⟩,
        ⟨some 49, .mov (.tmp 6), none⟩,
        ⟨some 50, .iaddr 1 (.tmp 48) (.tmp 49), none⟩,
        ⟨some 51, .load none (.tmp 50), none⟩,
        ⟨some 52, .call .pure 25 [(.tmp 46), (.tmp 51)], none⟩,
        ⟨some 53, .len .slice (.tmp 52), none⟩,
        ⟨some 7, .mov (.tmp 53), none⟩] [1, 3, 4, 5, 6, 7] none)
      (.seq (.region none [] [
        ⟨some 54, .mov (.tmp 7), none⟩,
        ⟨some 55, .bin .gtr .int (.tmp 54) (.cst (.int .i64 0)), none⟩,
        ⟨some 56, .mov (.tmp 55), none⟩,
        ⟨some 57, .mov (.tmp 7), some (56, true)⟩,
        ⟨some 58, .faddr 1 (.tmp 1), some (56, true)⟩,
        ⟨some 59, .load none (.tmp 58), some (56, true)⟩,
        ⟨some 60, .mov (.tmp 6), some (56, true)⟩,
        ⟨some 61, .iaddr 1 (.tmp 59) (.tmp 60), some (56, true)⟩,
        ⟨some 62, .load none (.tmp 61), some (56, true)⟩,
        ⟨some 63, .len .slice (.tmp 62), some (56, true)⟩,
        ⟨some 64, .bin .lss .int (.tmp 57) (.tmp 63), some (56, true)⟩,
        ⟨some 65, .pick (.tmp 56) (.tmp 64) (.cst (.bool false)), none⟩] [1, 3, 4, 5, 6, 65] none)
      (.cond (.tmp 65) (.seq (.region none [] [
          ⟨some 2, .mov (.cst (.bool false)), none⟩] [2] none)
        (.ret))
      (.skip)))))
    (.region none [] [
      ⟨some 41, .mov (.tmp 6), none⟩,
      ⟨some 42, .bin .add .int (.tmp 41) (.cst (.int .i64 1)), none⟩,
      ⟨some 6, .mov (.tmp 42), none⟩] [1, 3, 4, 5, 6] none))

/-- loop 1 of function 8 -/
def l8_1_h : List Nat := [1, 3, 4, 5]

def l8_1_b : ACode :=
  .seq (.seq (.region none [] [
      ⟨some 23, .mov (.tmp 5), none⟩,
      ⟨some 24, .mov (.tmp 3), none⟩,
      ⟨some 25, .len .slice (.tmp 24), none⟩,
      ⟨some 26, .bin .lss .int (.tmp 23) (.tmp 25), none⟩] [1, 3, 4, 5, 26] none)
    (.cond (.tmp 26) (.skip)
    (.exit 0)))
    (.seq (.block 1 (.seq (.region none [] [
        ⟨some 29, .mov (.tmp 4), none⟩,
        ⟨some 30, .mov (.tmp 3), none⟩,
        ⟨some 31, .mov (.tmp 5), none⟩,
        ⟨some 32, .iaddr 1 (.tmp 30) (.tmp 31), none⟩,
        ⟨some 33, .load none (.tmp 32), none⟩,
        ⟨some 34, .len .slice (.tmp 33), none⟩,
        ⟨some 35, .bin .add .int (.tmp 29) (.tmp 34), none⟩,
        ⟨some 4, .mov (.tmp 35), none⟩] [1, 3, 4, 5] none)
      (.seq (.region none [] [
        ⟨some 6, .mov (.cst (.int .i64 0)), none⟩] [1, 3, 4, 5, 6] none)
      (.block 2 (.loop l8_0_h l8_0_b)))))
    (.region none [] [
      ⟨some 27, .mov (.tmp 5), none⟩,
      ⟨some 28, .bin .add .int (.tmp 27) (.cst (.int .i64 1)), none⟩,
      ⟨some 5, .mov (.tmp 28), none⟩] [1, 3, 4, 5] none))

/-- loop 2 of function 8 -/
def l8_2_h : List Nat := [1, 8, 9]

def l8_2_b : ACode :=
  .seq (.seq (.region none [] [
      ⟨some 80, .mov (.tmp 9), none⟩,
      ⟨some 81, .faddr 0 (.tmp 1), none⟩,
      ⟨some 82, .load none (.tmp 81), none⟩,
      ⟨some 83, .bin .lss .int (.tmp 80) (.tmp 82), none⟩] [1, 8, 9, 83] none)
    (.cond (.tmp 83) (.skip)
    (.exit 4)))
    (.seq (.block 5 (.region none [] [
        ⟨some 86, .mov (.tmp 8), none⟩,
        ⟨some 87, .mov (.tmp 9), none⟩,
        ⟨some 88, .lit false 1 (.int .i64 0) 1 [(0, (.tmp 87))], none⟩,
        ⟨some 89, .append 1 8 (.tmp 86) (.tmp 88), none⟩,
        ⟨some 8, .mov (.tmp 89), none⟩] [1, 8, 9] none))
    (.region none [] [
      ⟨some 84, .mov (.tmp 9), none⟩,
      ⟨some 85, .bin .add .int (.tmp 84) (.cst (.int .i64 1)), none⟩,
      ⟨some 9, .mov (.tmp 85), none⟩] [1, 8, 9] none))

def c8 : ACode :=
  .seq (.region none [] [
      ⟨some 1, .box 2 (.tmp 0), none⟩,
      ⟨some 2, .mov (.cst (.bool false)), none⟩] [1] none)
    (.seq (.seq (.region none [] [
      ⟨some 11, .load (some 2) (.tmp 1), none⟩,
      ⟨some 12, .call .pure 9 [(.tmp 11)], none⟩,
      ⟨some 13, .un .not (.tmp 12), none⟩] [1, 13] none)
    (.cond (.tmp 13) (.seq (.region none [] [
        ⟨some 14, .load (some 2) (.tmp 1), none⟩,
        ⟨some 15, .call .pure 12 [(.tmp 14)], none⟩,
        ⟨some 16, .len .slice (.tmp 15), none⟩,
        ⟨some 17, .bin .eql .int (.tmp 16) (.cst (.int .i64 0)), none⟩,
        ⟨some 18, .mov (.tmp 17), none⟩,
        ⟨some 19, .call .pure 14 [], some (18, true)⟩,
        ⟨some 20, .pick (.tmp 18) (.tmp 19) (.cst (.bool false)), none⟩,
        ⟨some 2, .mov (.tmp 20), none⟩] [2] none)
      (.ret))
    (.skip)))
    (.seq (.region none [] [
      ⟨some 21, .load (some 2) (.tmp 1), none⟩,
      ⟨some 22, .call .pure 12 [(.tmp 21)], none⟩,
      ⟨some 3, .mov (.tmp 22), none⟩] [1, 3] none)
    (.seq (.region none [] [
      ⟨some 4, .mov (.cst (.int .i64 0)), none⟩] [1, 3, 4] none)
    (.seq (.seq (.region none [] [
      ⟨some 5, .mov (.cst (.int .i64 0)), none⟩] [1, 3, 4, 5] none)
    (.block 0 (.loop l8_1_h l8_1_b)))
    (.seq (.seq (.region none [] [
      ⟨some 66, .mov (.tmp 4), none⟩,
      ⟨some 67, .faddr 0 (.tmp 1), none⟩,
      ⟨some 68, .load none (.tmp 67), none⟩,
      ⟨some 69, .bin .neq .int (.tmp 66) (.tmp 68), none⟩] [1, 69] none)
    (.cond (.tmp 69) (.seq (.region none [] [
        ⟨some 2, .mov (.cst (.bool false)), none⟩] [2] none)
      (.ret))
    (.skip)))
    (.seq (.seq (.region none [] [
      ⟨some 70, .faddr 0 (.tmp 1), none⟩,
      ⟨some 71, .load none (.tmp 70), none⟩,
      ⟨some 72, .bin .eql .int (.tmp 71) (.cst (.int .i64 0)), none⟩,
      ⟨some 73, .mov (.tmp 72), none⟩,
      ⟨some 74, .faddr 1 (.tmp 1), some (73, false)⟩,
      ⟨some 75, .load none (.tmp 74), some (73, false)⟩,
      ⟨some 76, .len .slice (.tmp 75), some (73, false)⟩,
      ⟨some 77, .bin .geq .int (.tmp 76) (.cst (.int .i64 12)), some (73, false)⟩,
      ⟨some 78, .pick (.tmp 73) (.cst (.bool true)) (.tmp 77), none⟩] [1, 78] none)
    (.cond (.tmp 78) (.seq (.region none [] [
        ⟨some 79, .call .pure 14 [], none⟩,
        ⟨some 2, .mov (.tmp 79), none⟩] [2] none)
      (.ret))
    (.skip)))
    (.seq (.region none [] [
      ⟨some 8, .newown 1, none⟩] [1, 8] none)
    (.seq (.seq (.region none [] [
      ⟨some 9, .mov (.cst (.int .i64 0)), none⟩] [1, 8, 9] none)
    (.block 4 (.loop l8_2_h l8_2_b)))
    (.seq (.region none [] [
      ⟨some 90, .faddr 1 (.tmp 1), none⟩,
      ⟨some 91, .load none (.tmp 90), none⟩,
      ⟨some 92, .len .slice (.tmp 91), none⟩,
      ⟨some 93, .bin .add .int (.tmp 92) (.cst (.int .i64 1)), none⟩,
      ⟨some 94, .mkslice 1 24 (.sl false []) (.cst (.int .i64 0)) (.tmp 93), none⟩,
      ⟨some 10, .mov (.tmp 94), none⟩] [1, 8, 10] none)
    (.seq (.region none [] [
      ⟨some 95, .mov (.tmp 10), none⟩,
      ⟨some 96, .faddr 1 (.tmp 1), none⟩,
      ⟨some 97, .load none (.tmp 96), none⟩,
      ⟨some 98, .append 1 24 (.tmp 95) (.tmp 97), none⟩,
      ⟨some 10, .mov (.tmp 98), none⟩] [1, 8, 10] none)
    (.seq (.region none [8] [
      ⟨some 99, .mov (.tmp 10), none⟩,
      ⟨some 100, .mov (.tmp 8), none⟩,
      ⟨some 101, .lit false 1 (.sl false []) 1 [(0, (.tmp 100))], none⟩,
      ⟨some 102, .append 1 24 (.tmp 99) (.tmp 101), none⟩,
      ⟨some 10, .mov (.tmp 102), none⟩] [1, 10] none)
    (.seq (.region none [10] [
      ⟨some 103, .faddr 0 (.tmp 1), none⟩,
      ⟨some 104, .load none (.tmp 103), none⟩,
      ⟨some 105, .mov (.tmp 10), none⟩,
      ⟨some 106, .build [.int .i64 0, .sl false []] [(0, 1, (.tmp 104)), (1, 1, (.tmp 105))], none⟩,
      ⟨some 107, .call .pure 18 [(.tmp 106)], none⟩,
      ⟨some 108, .mov (.tmp 107), none⟩,
      ⟨some 109, .call .pure 14 [], some (108, true)⟩,
      ⟨some 110, .pick (.tmp 108) (.tmp 109) (.cst (.bool false)), none⟩,
      ⟨some 2, .mov (.tmp 110), none⟩] [2] none)
    (.ret)))))))))))))

def a8 : AFunc := ⟨1, c8, [.tmp 2]⟩

def an8 : List RAnn := [
  { id := 0, live := [1] },
  { id := 1, live := [1, 13] },
  { id := 2, live := [2] },
  { id := 3, live := [1, 3] },
  { id := 4, live := [1, 3, 4] },
  { id := 5, live := [1, 3, 4, 5] },
  { id := 6, live := [1, 3, 4, 5, 26], hdr := [1, 3, 4, 5] },
  { id := 8, live := [1, 3, 4, 5] },
  { id := 9, live := [1, 3, 4, 5, 6] },
  { id := 10, live := [1, 3, 4, 5, 6, 40], hdr := [1, 3, 4, 5, 6] },
  { id := 12, head := some 12, live := [1, 3, 4, 5, 6, 7] },
  { id := 13, live := [1, 3, 4, 5, 6, 65] },
  { id := 14, live := [2] },
  { id := 11, live := [1, 3, 4, 5, 6] },
  { id := 7, live := [1, 3, 4, 5] },
  { id := 15, live := [1, 69] },
  { id := 16, live := [2] },
  { id := 17, live := [1, 78] },
  { id := 18, live := [2] },
  { id := 19, live := [1, 8], ops := [(0, .own)] },
  { id := 20, live := [1, 8, 9] },
  { id := 21, live := [1, 8, 9, 83], hdr := [1, 8, 9] },
  { id := 23, live := [1, 8, 9] },
  { id := 22, live := [1, 8, 9] },
  { id := 24, live := [1, 8, 10] },
  { id := 25, live := [1, 8, 10] },
  { id := 26, frz := [8], live := [1, 10] },
  { id := 27, frz := [10], live := [2] }]

theorem comp8 : compF Try.prog an8 Try.f8 = some a8 := by kernel_rfl

/- graphdb/hyper.Valid -/
/-- loop 0 of function 9 -/
def l9_0_h : List Nat := [1, 4, 22, 23, 24, 31, 32, 33]

def l9_0_b : ACode :=
  .seq (.region none [] [
      ⟨some 34, .bin .lss .int (.tmp 33) (.tmp 32), none⟩] [1, 4, 22, 23, 24, 31, 32, 33, 34] none)
    (.seq (.cond (.tmp 34) (.skip)
    (.exit 2))
    (.seq (.block 3 (.seq (.region none [] [
        ⟨some 35, .mov (.tmp 33), none⟩,
        ⟨some 36, .iaddr 1 (.tmp 31) (.tmp 33), none⟩,
        ⟨some 37, .load none (.tmp 36), none⟩,
        ⟨some 5, .mov (.tmp 35), none⟩,
        ⟨some 6, .mov (.tmp 37), none⟩] [1, 4, 5, 6, 22, 23, 24, 31, 32, 33] none)
      (.seq (.region none [] [
        ⟨some 38, .mov (.tmp 6), none⟩,
        ⟨some 39, .bin .lss .int (.tmp 38) (.cst (.int .i64 0)), none⟩,
        ⟨some 40, .mov (.tmp 39), none⟩,
        ⟨some 41, .mov (.tmp 6), some (40, false)⟩,
        ⟨some 42, .faddr 0 (.tmp 1), some (40, false)⟩,
        ⟨some 43, .load none (.tmp 42), some (40, false)⟩,
        ⟨some 44, .bin .geq .int (.tmp 41) (.tmp 43), some (40, false)⟩,
        ⟨some 45, .pick (.tmp 40) (.cst (.bool true)) (.tmp 44), none⟩,
        ⟨some 46, .mov (.tmp 45), none⟩,
        ⟨some 47, .mov (.tmp 5), some (46, false)⟩,
        ⟨some 48, .bin .gtr .int (.tmp 47) (.cst (.int .i64 0)), some (46, false)⟩,
        ⟨some 49, .mov (.tmp 48), some (46, false)⟩,
        ⟨some 50, .mov (.tmp 6), some (49, true)⟩,
        ⟨some 51, .mov (.tmp 4), some (49, true)⟩,
        ⟨some 52, .mov (.tmp 5), some (49, true)⟩,
        ⟨some 53, .bin .sub .int (.tmp 52) (.cst (.int .i64 1)), some (49, true)⟩,
        ⟨some 54, .iaddr 1 (.tmp 51) (.tmp 53), some (49, true)⟩,
        ⟨some 55, .load none (.tmp 54), some (49, true)⟩,
        ⟨some 56, .bin .leq .int (.tmp 50) (.tmp 55), some (49, true)⟩,
        ⟨some 57, .pick (.tmp 49) (.tmp 56) (.cst (.bool false)), some (46, false)⟩,
        ⟨some 58, .pick (.tmp 46) (.cst (.bool true)) (.tmp 57), none⟩] [1, 4, 22, 23, 24, 31, 32, 33, 58] none)
      (.cond (.tmp 58) (.seq (.region none [] [
          ⟨some 2, .mov (.cst (.bool false)), none⟩] [2] none)
        (.ret))
      (.skip)))))
    (.region none [] [
      ⟨some 59, .bin .add .int (.tmp 33) (.cst (.int .i64 1)), none⟩,
      ⟨some 33, .mov (.tmp 59), none⟩] [1, 4, 22, 23, 24, 31, 32, 33] none)))

/-- loop 1 of function 9 -/
def l9_1_h : List Nat := [1, 22, 23, 24]

def l9_1_b : ACode :=
  .seq (.region none [] [
      ⟨some 25, .bin .lss .int (.tmp 24) (.tmp 23), none⟩] [1, 22, 23, 24, 25] none)
    (.seq (.cond (.tmp 25) (.skip)
    (.exit 0))
    (.seq (.block 1 (.seq (.region none [] [
        ⟨some 26, .iaddr 1 (.tmp 22) (.tmp 24), none⟩,
        ⟨some 27, .load none (.tmp 26), none⟩,
        ⟨some 4, .mov (.tmp 27), none⟩] [1, 4, 22, 23, 24] none)
      (.seq (.seq (.region none [] [
        ⟨some 28, .mov (.tmp 4), none⟩,
        ⟨some 29, .len .slice (.tmp 28), none⟩,
        ⟨some 30, .bin .eql .int (.tmp 29) (.cst (.int .i64 0)), none⟩] [1, 4, 22, 23, 24, 30] none)
      (.cond (.tmp 30) (.seq (.region none [] [
          ⟨some 2, .mov (.cst (.bool false)), none⟩] [2] none)
        (.ret))
      (.skip)))
      (.seq (.region none [] [
        ⟨some 31, .mov (.tmp 4), none⟩,
        ⟨some 32, .len .slice (.tmp 31), none⟩,
        ⟨some 33, .mov (.cst (.int .i64 0)), none⟩] [1, 4, 22, 23, 24, 31, 32, 33] none)
      (.block 2 (.loop l9_0_h l9_0_b))))))
    (.region none [] [
      ⟨some 60, .bin .add .int (.tmp 24) (.cst (.int .i64 1)), none⟩,
      ⟨some 24, .mov (.tmp 60), none⟩] [1, 22, 23, 24] none)))

def c9 : ACode :=
  .seq (.region none [] [
      ⟨some 1, .box 2 (.tmp 0), none⟩,
      ⟨some 2, .mov (.cst (.bool false)), none⟩] [1] none)
    (.seq (.seq (.region none [] [
      ⟨some 7, .faddr 0 (.tmp 1), none⟩,
      ⟨some 8, .load none (.tmp 7), none⟩,
      ⟨some 9, .bin .lss .int (.tmp 8) (.cst (.int .i64 0)), none⟩,
      ⟨some 10, .mov (.tmp 9), none⟩,
      ⟨some 11, .faddr 0 (.tmp 1), some (10, false)⟩,
      ⟨some 12, .load none (.tmp 11), some (10, false)⟩,
      ⟨some 13, .bin .gtr .int (.tmp 12) (.cst (.int .i64 24)), some (10, false)⟩,
      ⟨some 14, .pick (.tmp 10) (.cst (.bool true)) (.tmp 13), none⟩,
      ⟨some 15, .mov (.tmp 14), none⟩,
      ⟨some 16, .faddr 1 (.tmp 1), some (15, false)⟩,
      ⟨some 17, .load none (.tmp 16), some (15, false)⟩,
      ⟨some 18, .len .slice (.tmp 17), some (15, false)⟩,
      ⟨some 19, .bin .gtr .int (.tmp 18) (.cst (.int .i64 12)), some (15, false)⟩,
      ⟨some 20, .pick (.tmp 15) (.cst (.bool true)) (.tmp 19), none⟩] [1, 20] none)
    (.cond (.tmp 20) (.seq (.region none [] [
        ⟨some 2, .mov (.cst (.bool false)), none⟩] [2] none)
      (.ret))
    (.skip)))
    (.seq (.seq (.region none [] [
      ⟨some 21, .faddr 1 (.tmp 1), none⟩,
      ⟨some 22, .load none (.tmp 21), none⟩,
      ⟨some 23, .len .slice (.tmp 22), none⟩,
      ⟨some 24, .mov (.cst (.int .i64 0)), none⟩] [1, 22, 23, 24] none)
    (.block 0 (.loop l9_1_h l9_1_b)))
    (.seq (.region none [] [
      ⟨some 2, .mov (.cst (.bool true)), none⟩] [2] none)
    (.ret))))

def a9 : AFunc := ⟨1, c9, [.tmp 2]⟩

def an9 : List RAnn := [
  { id := 0, live := [1] },
  { id := 1, live := [1, 20] },
  { id := 2, live := [2] },
  { id := 3, live := [1, 22, 23, 24] },
  { id := 4, live := [1, 22, 23, 24, 25], hdr := [1, 22, 23, 24] },
  { id := 5, live := [1, 4, 22, 23, 24] },
  { id := 6, live := [1, 4, 22, 23, 24, 30] },
  { id := 7, live := [2] },
  { id := 8, live := [1, 4, 22, 23, 24, 31, 32, 33] },
  { id := 9, live := [1, 4, 22, 23, 24, 31, 32, 33, 34], hdr := [1, 4, 22, 23, 24, 31, 32, 33] },
  { id := 10, live := [1, 4, 5, 6, 22, 23, 24, 31, 32, 33] },
  { id := 11, live := [1, 4, 22, 23, 24, 31, 32, 33, 58] },
  { id := 12, live := [2] },
  { id := 13, live := [1, 4, 22, 23, 24, 31, 32, 33] },
  { id := 14, live := [1, 22, 23, 24] },
  { id := 15, live := [2] }]

theorem comp9 : compF Try.prog an9 Try.f9 = some a9 := by kernel_rfl

/- graphdb/graphdbref29.Valid -/
/-- loop 0 of function 10 -/
def l10_0_h : List Nat := [1, 3, 4, 5]

def l10_0_b : ACode :=
  .seq (.seq (.region none [] [
      ⟨some 35, .mov (.tmp 5), none⟩,
      ⟨some 36, .mov (.tmp 4), none⟩,
      ⟨some 37, .len .slice (.tmp 36), none⟩,
      ⟨some 38, .bin .lss .int (.tmp 35) (.tmp 37), none⟩] [1, 3, 4, 5, 38] none)
    (.cond (.tmp 38) (.skip)
    (.exit 2)))
    (.seq (.block 3 (.seq (.region (some 30) [] [
        ⟨some 41, .mov (.tmp 4), none⟩,
        ⟨some 42, .mov (.tmp 5), none⟩,
        ⟨some 43, .iaddr 1 (.tmp 41) (.tmp 42), none⟩,
        ⟨some 44, .load none (.tmp 43), none⟩,
        ⟨some 45, .bin .lss .int (.tmp 44) (.cst (.int .i64 0)), none⟩,
        ⟨some 46, .mov (.tmp 45), none⟩,
        ⟨some 47, .mov (.tmp 4), some (46, false)⟩,
        ⟨some 48, .mov (.tmp 5), some (46, false)⟩,
        ⟨some 49, .iaddr 1 (.tmp 47) (.tmp 48), some (46, false)⟩,
        ⟨some 50, .load none (.tmp 49), some (46, false)⟩,
        ⟨some 51, .faddr 0 (.tmp 1), some (46, false)⟩,
        ⟨some 52, .load none (.tmp 51), some (46, false)⟩,
        ⟨some 53, .bin .geq .int (.tmp 50) (.tmp 52), some (46, false)⟩,
        ⟨some 54, .pick (.tmp 46) (.cst (.bool true)) (.tmp 53), none⟩,
        ⟨some 55, .mov (.tmp 54), none⟩,
        ⟨some 56, .mov (.tmp 5), some (55, false)⟩,
        ⟨some 57, .bin .gtr .int (.tmp 56) (.cst (.int .i64 0)), some (55, false)⟩,
        ⟨some 58, .mov (.tmp 57), some (55, false)⟩,
        ⟨some 59, .mov (.tmp 4), some (58, true)⟩,
        ⟨some 60, .mov (.tmp 5), some (58, true)⟩,
        ⟨some 61, .bin .sub .int (.tmp 60) (.cst (.int .i64 1)), some (58, true)⟩,
        ⟨some 62, .iaddr 1 (.tmp 59) (.tmp 61), some (58, true)⟩,
        ⟨some 63, .load none (.tmp 62), some (58, true)⟩,
        ⟨some 64, .mov (.tmp 4), some (58, true)⟩,
        ⟨some 65, .mov (.tmp 5), some (58, true)⟩,
        ⟨some 66, .iaddr 1 (.tmp 64) (.tmp 65), some (58, true)⟩,
        ⟨some 67, .load none (.tmp 66), some (58, true)⟩,
        ⟨some 68, .bin .geq .int (.tmp 63) (.tmp 67), some (58, true)⟩,
        ⟨some 69, .pick (.tmp 58) (.tmp 68) (.cst (.bool false)), some (55, false)⟩,
        ⟨some 70, .pick (.tmp 55) (.cst (.bool true)) (.tmp 69), none⟩] [1, 3, 4, 5, 70] none)
      (.cond (.tmp 70) (.seq (.region none [] [
          ⟨some 2, .mov (.cst (.bool false)), none⟩] [2] none)
        (.ret))
      (.skip))))
    (.region none [] [
      ⟨some 39, .mov (.tmp 5), none⟩,
      ⟨some 40, .bin .add .int (.tmp 39) (.cst (.int .i64 1)), none⟩,
      ⟨some 5, .mov (.tmp 40), none⟩] [1, 3, 4, 5] none))

/-- loop 1 of function 10 -/
def l10_1_h : List Nat := [1, 3]

def l10_1_b : ACode :=
  .seq (.seq (.region none [] [
      ⟨some 20, .mov (.tmp 3), none⟩,
      ⟨some 21, .faddr 1 (.tmp 1), none⟩,
      ⟨some 22, .load none (.tmp 21), none⟩,
      ⟨some 23, .len .slice (.tmp 22), none⟩,
      ⟨some 24, .bin .lss .int (.tmp 20) (.tmp 23), none⟩] [1, 3, 24] none)
    (.cond (.tmp 24) (.skip)
    (.exit 0)))
    (.seq (.block 1 (.seq (.region none [] [
        ⟨some 27, .faddr 1 (.tmp 1), none⟩,
        ⟨some 28, .load none (.tmp 27), none⟩,
        ⟨some 29, .mov (.tmp 3), none⟩,
        ⟨some 30, .iaddr 1 (.tmp 28) (.tmp 29), none⟩,
        ⟨some 31, .load none (.tmp 30), none⟩,
        ⟨some 4, .mov (.tmp 31), none⟩] [1, 3, 4] none)
      (.seq (.seq (.region none [] [
        ⟨some 32, .mov (.tmp 4), none⟩,
        ⟨some 33, .len .slice (.tmp 32), none⟩,
        ⟨some 34, .bin .eql .int (.tmp 33) (.cst (.int .i64 0)), none⟩] [1, 3, 4, 34] none)
      (.cond (.tmp 34) (.seq (.region none [] [
          ⟨some 2, .mov (.cst (.bool false)), none⟩] [2] none)
        (.ret))
      (.skip)))
      (.seq (.region none [] [
        ⟨some 5, .mov (.cst (.int .i64 0)), none⟩] [1, 3, 4, 5] none)
      (.block 2 (.loop l10_0_h l10_0_b))))))
    (.region none [] [
      ⟨some 25, .mov (.tmp 3), none⟩,
      ⟨some 26, .bin .add .int (.tmp 25) (.cst (.int .i64 1)), none⟩,
      ⟨some 3, .mov (.tmp 26), none⟩] [1, 3] none))

def c10 : ACode :=
  .seq (.region none [] [
      ⟨some 1, .box 2 (.tmp 0), none⟩,
      ⟨some 2, .mov (.cst (.bool false)), none⟩] [1] none)
    (.seq (.seq (.region none [] [
      ⟨some 6, .faddr 0 (.tmp 1), none⟩,
      ⟨some 7, .load none (.tmp 6), none⟩,
      ⟨some 8, .bin .lss .int (.tmp 7) (.cst (.int .i64 0)), none⟩,
      ⟨some 9, .mov (.tmp 8), none⟩,
      ⟨some 10, .faddr 0 (.tmp 1), some (9, false)⟩,
      ⟨some 11, .load none (.tmp 10), some (9, false)⟩,
      ⟨some 12, .bin .gtr .int (.tmp 11) (.cst (.int .i64 24)), some (9, false)⟩,
      ⟨some 13, .pick (.tmp 9) (.cst (.bool true)) (.tmp 12), none⟩,
      ⟨some 14, .mov (.tmp 13), none⟩,
      ⟨some 15, .faddr 1 (.tmp 1), some (14, false)⟩,
      ⟨some 16, .load none (.tmp 15), some (14, false)⟩,
      ⟨some 17, .len .slice (.tmp 16), some (14, false)⟩,
      ⟨some 18, .bin .gtr .int (.tmp 17) (.cst (.int .i64 12)), some (14, false)⟩,
      ⟨some 19, .pick (.tmp 14) (.cst (.bool true)) (.tmp 18), none⟩] [1, 19] none)
    (.cond (.tmp 19) (.seq (.region none [] [
        ⟨some 2, .mov (.cst (.bool false)), none⟩] [2] none)
      (.ret))
    (.skip)))
    (.seq (.seq (.region none [] [
      ⟨some 3, .mov (.cst (.int .i64 0)), none⟩] [1, 3] none)
    (.block 0 (.loop l10_1_h l10_1_b)))
    (.seq (.region none [] [
      ⟨some 2, .mov (.cst (.bool true)), none⟩] [2] none)
    (.ret))))

def a10 : AFunc := ⟨1, c10, [.tmp 2]⟩

def an10 : List RAnn := [
  { id := 0, live := [1] },
  { id := 1, live := [1, 19] },
  { id := 2, live := [2] },
  { id := 3, live := [1, 3] },
  { id := 4, live := [1, 3, 24], hdr := [1, 3] },
  { id := 6, live := [1, 3, 4] },
  { id := 7, live := [1, 3, 4, 34] },
  { id := 8, live := [2] },
  { id := 9, live := [1, 3, 4, 5] },
  { id := 10, live := [1, 3, 4, 5, 38], hdr := [1, 3, 4, 5] },
  { id := 12, head := some 30, live := [1, 3, 4, 5, 70] },
  { id := 13, live := [2] },
  { id := 11, live := [1, 3, 4, 5] },
  { id := 5, live := [1, 3] },
  { id := 14, live := [2] }]

theorem comp10 : compF Try.prog an10 Try.f10 = some a10 := by kernel_rfl

/- graphdb/graphdbref29.Same -/
/-- loop 0 of function 11 -/
def l11_0_h : List Nat := [0, 1, 5]

def l11_0_b : ACode :=
  .seq (.seq (.region none [] [
      ⟨some 11, .mov (.tmp 5), none⟩,
      ⟨some 12, .mov (.tmp 0), none⟩,
      ⟨some 13, .len .slice (.tmp 12), none⟩,
      ⟨some 14, .bin .lss .int (.tmp 11) (.tmp 13), none⟩] [0, 1, 5, 14] none)
    (.cond (.tmp 14) (.skip)
    (.exit 0)))
    (.seq (.block 1 (.seq (.region (some 10) [] [
        ⟨some 17, .mov (.tmp 0), none⟩,
        ⟨some 18, .mov (.tmp 5), none⟩,
        ⟨some 19, .iaddr 1 (.tmp 17) (.tmp 18), none⟩,
        ⟨some 20, .load none (.tmp 19), none⟩,
        ⟨some 21, .mov (.tmp 1), none⟩,
        ⟨some 22, .mov (.tmp 5), none⟩,
        ⟨some 23, .iaddr 1 (.tmp 21) (.tmp 22), none⟩,
        ⟨some 24, .load none (.tmp 23), none⟩,
        ⟨some 25, .call .pure 22 [(.tmp 20), (.tmp 24)], none⟩,
        ⟨some 26, .un .not (.tmp 25), none⟩] [0, 1, 5, 26] none)
      (.cond (.tmp 26) (.seq (.region none [] [
          ⟨some 4, .mov (.cst (.bool false)), none⟩] [4] none)
        (.ret))
      (.skip))))
    (.region none [] [
      ⟨some 15, .mov (.tmp 5), none⟩,
      ⟨some 16, .bin .add .int (.tmp 15) (.cst (.int .i64 1)), none⟩,
      ⟨some 5, .mov (.tmp 16), none⟩] [0, 1, 5] none))

def c11 : ACode :=
  .seq (.region none [] [
      ⟨some 4, .mov (.cst (.bool false)), none⟩] [0, 1] none)
    (.seq (.seq (.region none [] [
      ⟨some 6, .mov (.tmp 0), none⟩,
      ⟨some 7, .len .slice (.tmp 6), none⟩,
      ⟨some 8, .mov (.tmp 1), none⟩,
      ⟨some 9, .len .slice (.tmp 8), none⟩,
      ⟨some 10, .bin .neq .int (.tmp 7) (.tmp 9), none⟩] [0, 1, 10] none)
    (.cond (.tmp 10) (.seq (.region none [] [
        ⟨some 4, .mov (.cst (.bool false)), none⟩] [4] none)
      (.ret))
    (.skip)))
    (.seq (.seq (.region none [] [
      ⟨some 5, .mov (.cst (.int .i64 0)), none⟩] [0, 1, 5] none)
    (.block 0 (.loop l11_0_h l11_0_b)))
    (.seq (.region none [] [
      ⟨some 4, .mov (.cst (.bool true)), none⟩] [4] none)
    (.ret))))

def a11 : AFunc := ⟨2, c11, [.tmp 4]⟩

def an11 : List RAnn := [
  { id := 0, live := [0, 1] },
  { id := 1, live := [0, 1, 10] },
  { id := 2, live := [4] },
  { id := 3, live := [0, 1, 5] },
  { id := 4, live := [0, 1, 5, 14], hdr := [0, 1, 5] },
  { id := 6, head := some 10, live := [0, 1, 5, 26] },
  { id := 7, live := [4] },
  { id := 5, live := [0, 1, 5] },
  { id := 8, live := [4] }]

theorem comp11 : compF Try.prog an11 Try.f11 = some a11 := by kernel_rfl

/- graphdb/hyper.Parts -/
/-- loop 0 of function 12 -/
def l12_0_h : List Nat := [1, 3, 25, 26]

def l12_0_b : ACode :=
  .seq (.region none [] [
      ⟨some 27, .bin .lss .int (.tmp 26) (.tmp 25), none⟩] [1, 3, 25, 26, 27] none)
    (.seq (.cond (.tmp 27) (.skip)
    (.exit 0))
    (.seq (.block 1 (.seq (.region none [] [
        ⟨some 28, .mov (.tmp 26), none⟩,
        ⟨some 4, .mov (.tmp 28), none⟩] [1, 3, 4, 25, 26] none)
      (.region none [] [
        ⟨some 29, .mov (.tmp 3), none⟩,
        ⟨some 30, .mov (.tmp 4), none⟩,
        ⟨some 31, .mov (.tmp 4), none⟩,
        ⟨some 32, .iaddr 1 (.tmp 29) (.tmp 30), none⟩,
        ⟨none, .store 1 (.tmp 32) (.tmp 31), none⟩] [1, 3, 25, 26] none)))
    (.region none [] [
      ⟨some 33, .bin .add .int (.tmp 26) (.cst (.int .i64 1)), none⟩,
      ⟨some 26, .mov (.tmp 33), none⟩] [1, 3, 25, 26] none)))

/-- loop 1 of function 12 -/
def l12_1_h : List Nat := [3, 6, 9, 10, 35, 36, 37, 41, 42, 43, 69, 70, 71]

def l12_1_b : ACode :=
  .seq (.region none [] [
      ⟨some 72, .bin .lss .int (.tmp 71) (.tmp 70), none⟩] [3, 6, 9, 10, 35, 36, 37, 41, 42, 43, 69, 70, 71, 72] none)
    (.seq (.cond (.tmp 72) (.skip)
    (.exit 6))
    (.seq (.block 7 (.seq (.region none [] [
        ⟨some 73, .mov (.tmp 71), none⟩,
        ⟨some 74, .iaddr 1 (.tmp 69) (.tmp 71), none⟩,
        ⟨some 75, .load none (.tmp 74), none⟩,
        ⟨some 11, .mov (.tmp 73), none⟩,
        ⟨some 12, .mov (.tmp 75), none⟩] [3, 6, 9, 10, 11, 12, 35, 36, 37, 41, 42, 43, 69, 70, 71] none)
      (.seq (.region none [] [
        ⟨some 76, .mov (.tmp 12), none⟩,
        ⟨some 77, .mov (.tmp 9), none⟩,
        ⟨some 78, .bin .eql .int (.tmp 76) (.tmp 77), none⟩] [3, 6, 9, 10, 11, 35, 36, 37, 41, 42, 43, 69, 70, 71, 78] none)
      (.cond (.tmp 78) (.region none [] [
          ⟨some 79, .mov (.tmp 3), none⟩,
          ⟨some 80, .mov (.tmp 11), none⟩,
          ⟨some 81, .mov (.tmp 10), none⟩,
          ⟨some 82, .iaddr 1 (.tmp 79) (.tmp 80), none⟩,
          ⟨none, .store 1 (.tmp 82) (.tmp 81), none⟩] [3, 6, 9, 10, 35, 36, 37, 41, 42, 43, 69, 70, 71] none)
      (.skip)))))
    (.region none [] [
      ⟨some 83, .bin .add .int (.tmp 71) (.cst (.int .i64 1)), none⟩,
      ⟨some 71, .mov (.tmp 83), none⟩] [3, 6, 9, 10, 35, 36, 37, 41, 42, 43, 69, 70, 71] none)))

/-- loop 2 of function 12 -/
def l12_2_h : List Nat := [3, 6, 35, 36, 37, 41, 42, 43]

def l12_2_b : ACode :=
  .seq (.region none [] [
      ⟨some 44, .bin .lss .int (.tmp 43) (.tmp 42), none⟩] [3, 6, 35, 36, 37, 41, 42, 43, 44] none)
    (.seq (.cond (.tmp 44) (.skip)
    (.exit 4))
    (.seq (.block 5 (.seq (.region none [] [
        ⟨some 45, .iaddr 1 (.tmp 41) (.tmp 43), none⟩,
        ⟨some 46, .load none (.tmp 45), none⟩,
        ⟨some 8, .mov (.tmp 46), none⟩] [3, 6, 8, 35, 36, 37, 41, 42, 43] none)
      (.seq (.region (some 24) [] [
        ⟨some 47, .mov (.tmp 3), none⟩,
        ⟨some 48, .mov (.tmp 6), none⟩,
        ⟨some 49, .iaddr 1 (.tmp 48) (.cst (.int .i64 0)), none⟩,
        ⟨some 50, .load none (.tmp 49), none⟩,
        ⟨some 51, .iaddr 1 (.tmp 47) (.tmp 50), none⟩,
        ⟨some 52, .load none (.tmp 51), none⟩,
        ⟨some 53, .mov (.tmp 3), none⟩,
        ⟨some 54, .mov (.tmp 8), none⟩,
        ⟨some 55, .iaddr 1 (.tmp 53) (.tmp 54), none⟩,
        ⟨some 56, .load none (.tmp 55), none⟩,
        ⟨some 57, .max (.tmp 52) (.tmp 56), none⟩,
        ⟨some 58, .mov (.tmp 3), none⟩,
        ⟨some 59, .mov (.tmp 6), none⟩,
        ⟨some 60, .iaddr 1 (.tmp 59) (.cst (.int .i64 0)), none⟩,
        ⟨some 61, .load none (.tmp 60), none⟩,
        ⟨some 62, .iaddr 1 (.tmp 58) (.tmp 61), none⟩,
        ⟨some 63, .load none (.tmp 62), none⟩,
        ⟨some 64, .mov (.tmp 3), none⟩,
        ⟨some 65, .mov (.tmp 8), none⟩,
        ⟨some 66, .iaddr 1 (.tmp 64) (.tmp 65), none⟩,
        ⟨some 67, .load none (.tmp 66), none⟩,
        ⟨some 68, .min (.tmp 63) (.tmp 67), none⟩,
        ⟨some 9, .mov (.tmp 57), none⟩,
        ⟨some 10, .mov (.tmp 68), none⟩] [3, 6, 9, 10, 35, 36, 37, 41, 42, 43] none)
      (.seq (.region none [] [
        ⟨some 69, .mov (.tmp 3), none⟩,
        ⟨some 70, .len .slice (.tmp 69), none⟩,
        ⟨some 71, .mov (.cst (.int .i64 0)), none⟩] [3, 6, 9, 10, 35, 36, 37, 41, 42, 43, 69, 70, 71] none)
      (.block 6 (.loop l12_1_h l12_1_b))))))
    (.region none [] [
      ⟨some 84, .bin .add .int (.tmp 43) (.cst (.int .i64 1)), none⟩,
      ⟨some 43, .mov (.tmp 84), none⟩] [3, 6, 35, 36, 37, 41, 42, 43] none)))

/-- loop 3 of function 12 -/
def l12_3_h : List Nat := [3, 35, 36, 37]

def l12_3_b : ACode :=
  .seq (.region none [] [
      ⟨some 38, .bin .lss .int (.tmp 37) (.tmp 36), none⟩] [3, 35, 36, 37, 38] none)
    (.seq (.cond (.tmp 38) (.skip)
    (.exit 2))
    (.seq (.block 3 (.seq (.region none [] [
        ⟨some 39, .iaddr 1 (.tmp 35) (.tmp 37), none⟩,
        ⟨some 40, .load none (.tmp 39), none⟩,
        ⟨some 6, .mov (.tmp 40), none⟩] [3, 6, 35, 36, 37] none)
      (.seq (.region none [] [
        ⟨some 41, .mov (.tmp 6), none⟩,
        ⟨some 42, .len .slice (.tmp 41), none⟩,
        ⟨some 43, .mov (.cst (.int .i64 0)), none⟩] [3, 6, 35, 36, 37, 41, 42, 43] none)
      (.block 4 (.loop l12_2_h l12_2_b)))))
    (.region none [] [
      ⟨some 85, .bin .add .int (.tmp 37) (.cst (.int .i64 1)), none⟩,
      ⟨some 37, .mov (.tmp 85), none⟩] [3, 35, 36, 37] none)))

/-- loop 4 of function 12 -/
def l12_4_h : List Nat := [3, 13, 14, 15, 87, 88, 97, 98, 99]

def l12_4_b : ACode :=
  .seq (.region none [] [
      ⟨some 100, .bin .lss .int (.tmp 99) (.tmp 98), none⟩] [3, 13, 14, 15, 87, 88, 97, 98, 99, 100] none)
    (.seq (.cond (.tmp 100) (.skip)
    (.exit 10))
    (.seq (.block 11 (.seq (.region none [] [
        ⟨some 101, .mov (.tmp 99), none⟩,
        ⟨some 102, .iaddr 1 (.tmp 97) (.tmp 99), none⟩,
        ⟨some 103, .load none (.tmp 102), none⟩,
        ⟨some 16, .mov (.tmp 101), none⟩,
        ⟨some 17, .mov (.tmp 103), none⟩] [3, 13, 14, 15, 16, 17, 87, 88, 97, 98, 99] none)
      (.seq (.region none [] [
        ⟨some 104, .mov (.tmp 17), none⟩,
        ⟨some 105, .mov (.tmp 14), none⟩,
        ⟨some 106, .bin .eql .int (.tmp 104) (.tmp 105), none⟩] [3, 13, 14, 15, 16, 87, 88, 97, 98, 99, 106] none)
      (.cond (.tmp 106) (.region none [] [
          ⟨some 107, .mov (.tmp 15), none⟩,
          ⟨some 108, .mov (.tmp 16), none⟩,
          ⟨some 109, .lit false 1 (.int .i64 0) 1 [(0, (.tmp 108))], none⟩,
          ⟨some 110, .append 1 8 (.tmp 107) (.tmp 109), none⟩,
          ⟨some 15, .mov (.tmp 110), none⟩] [3, 13, 14, 15, 87, 88, 97, 98, 99] none)
      (.skip)))))
    (.region none [] [
      ⟨some 111, .bin .add .int (.tmp 99) (.cst (.int .i64 1)), none⟩,
      ⟨some 99, .mov (.tmp 111), none⟩] [3, 13, 14, 15, 87, 88, 97, 98, 99] none)))

/-- loop 5 of function 12 -/
def l12_5_h : List Nat := [3, 13, 87, 88]

def l12_5_b : ACode :=
  .seq (.region none [] [
      ⟨some 89, .bin .lss .int (.tmp 88) (.tmp 87), none⟩] [3, 13, 87, 88, 89] none)
    (.seq (.cond (.tmp 89) (.skip)
    (.exit 8))
    (.seq (.block 9 (.seq (.region none [] [
        ⟨some 90, .mov (.tmp 88), none⟩,
        ⟨some 14, .mov (.tmp 90), none⟩] [3, 13, 14, 87, 88] none)
      (.seq (.seq (.region none [] [
        ⟨some 91, .mov (.tmp 3), none⟩,
        ⟨some 92, .mov (.tmp 14), none⟩,
        ⟨some 93, .iaddr 1 (.tmp 91) (.tmp 92), none⟩,
        ⟨some 94, .load none (.tmp 93), none⟩,
        ⟨some 95, .mov (.tmp 14), none⟩,
        ⟨some 96, .bin .neq .int (.tmp 94) (.tmp 95), none⟩] [3, 13, 14, 87, 88, 96] none)
      (.cond (.tmp 96) (.exit 9)
      (.skip)))
      (.seq (.region none [] [
        ⟨some 15, .newown 1, none⟩] [3, 13, 14, 15, 87, 88] none)
      (.seq (.seq (.region none [] [
        ⟨some 97, .mov (.tmp 3), none⟩,
        ⟨some 98, .len .slice (.tmp 97), none⟩,
        ⟨some 99, .mov (.cst (.int .i64 0)), none⟩] [3, 13, 14, 15, 87, 88, 97, 98, 99] none)
      (.block 10 (.loop l12_4_h l12_4_b)))
      (.region none [15] [
        ⟨some 112, .mov (.tmp 13), none⟩,
        ⟨some 113, .mov (.tmp 15), none⟩,
        ⟨some 114, .lit false 1 (.sl false []) 1 [(0, (.tmp 113))], none⟩,
        ⟨some 115, .append 1 24 (.tmp 112) (.tmp 114), none⟩,
        ⟨some 13, .mov (.tmp 115), none⟩] [3, 13, 87, 88] none))))))
    (.region none [] [
      ⟨some 116, .bin .add .int (.tmp 88) (.cst (.int .i64 1)), none⟩,
      ⟨some 88, .mov (.tmp 116), none⟩] [3, 13, 87, 88] (some 3))))

def c12 : ACode :=
  .seq (.region none [] [
      ⟨some 1, .box 2 (.tmp 0), none⟩,
      ⟨some 2, .mov (.cst (.sl false [])), none⟩] [1] none)
    (.seq (.seq (.region none [] [
      ⟨some 18, .load (some 2) (.tmp 1), none⟩,
      ⟨some 19, .call .pure 9 [(.tmp 18)], none⟩,
      ⟨some 20, .un .not (.tmp 19), none⟩] [1, 20] none)
    (.cond (.tmp 20) (.seq (.region none [] [
        ⟨some 2, .mov (.cst (.sl false [])), none⟩] [2] none)
      (.ret))
    (.skip)))
    (.seq (.region none [] [
      ⟨some 21, .faddr 0 (.tmp 1), none⟩,
      ⟨some 22, .load none (.tmp 21), none⟩,
      ⟨some 23, .mkslice 1 8 (.int .i64 0) (.tmp 22) (.tmp 22), none⟩,
      ⟨some 3, .mov (.tmp 23), none⟩] [1, 3] none)
    (.seq (.seq (.region none [] [
      ⟨some 24, .mov (.tmp 3), none⟩,
      ⟨some 25, .len .slice (.tmp 24), none⟩,
      ⟨some 26, .mov (.cst (.int .i64 0)), none⟩] [1, 3, 25, 26] none)
    (.block 0 (.loop l12_0_h l12_0_b)))
    (.seq (.seq (.region none [] [
      ⟨some 34, .faddr 1 (.tmp 1), none⟩,
      ⟨some 35, .load none (.tmp 34), none⟩,
      ⟨some 36, .len .slice (.tmp 35), none⟩,
      ⟨some 37, .mov (.cst (.int .i64 0)), none⟩] [3, 35, 36, 37] none)
    (.block 2 (.loop l12_3_h l12_3_b)))
    (.seq (.region none [] [
      ⟨some 13, .newown 1, none⟩] [3, 13] none)
    (.seq (.seq (.region none [] [
      ⟨some 86, .mov (.tmp 3), none⟩,
      ⟨some 87, .len .slice (.tmp 86), none⟩,
      ⟨some 88, .mov (.cst (.int .i64 0)), none⟩] [3, 13, 87, 88] none)
    (.block 8 (.loop l12_5_h l12_5_b)))
    (.seq (.region none [] [
      ⟨some 117, .mov (.tmp 13), none⟩,
      ⟨some 2, .mov (.tmp 117), none⟩] [2] none)
    (.ret))))))))

def a12 : AFunc := ⟨1, c12, [.tmp 2]⟩

def an12 : List RAnn := [
  { id := 0, live := [1] },
  { id := 1, live := [1, 20] },
  { id := 2, live := [2] },
  { id := 3, live := [1, 3] },
  { id := 4, live := [1, 3, 25, 26] },
  { id := 5, live := [1, 3, 25, 26, 27], hdr := [1, 3, 25, 26] },
  { id := 6, live := [1, 3, 4, 25, 26] },
  { id := 7, live := [1, 3, 25, 26] },
  { id := 8, live := [1, 3, 25, 26] },
  { id := 9, live := [3, 35, 36, 37] },
  { id := 10, live := [3, 35, 36, 37, 38], hdr := [3, 35, 36, 37] },
  { id := 11, live := [3, 6, 35, 36, 37] },
  { id := 12, live := [3, 6, 35, 36, 37, 41, 42, 43] },
  { id := 13, live := [3, 6, 35, 36, 37, 41, 42, 43, 44], hdr := [3, 6, 35, 36, 37, 41, 42, 43] },
  { id := 14, live := [3, 6, 8, 35, 36, 37, 41, 42, 43] },
  { id := 15, head := some 24, live := [3, 6, 9, 10, 35, 36, 37, 41, 42, 43] },
  { id := 16, live := [3, 6, 9, 10, 35, 36, 37, 41, 42, 43, 69, 70, 71] },
  { id := 17, live := [3, 6, 9, 10, 35, 36, 37, 41, 42, 43, 69, 70, 71, 72], hdr := [3, 6, 9, 10, 35, 36, 37, 41, 42, 43, 69, 70, 71] },
  { id := 18, live := [3, 6, 9, 10, 11, 12, 35, 36, 37, 41, 42, 43, 69, 70, 71] },
  { id := 19, live := [3, 6, 9, 10, 11, 35, 36, 37, 41, 42, 43, 69, 70, 71, 78] },
  { id := 20, live := [3, 6, 9, 10, 35, 36, 37, 41, 42, 43, 69, 70, 71] },
  { id := 21, live := [3, 6, 9, 10, 35, 36, 37, 41, 42, 43, 69, 70, 71] },
  { id := 22, live := [3, 6, 35, 36, 37, 41, 42, 43] },
  { id := 23, live := [3, 35, 36, 37] },
  { id := 24, live := [3, 13], ops := [(0, .own)] },
  { id := 25, live := [3, 13, 87, 88] },
  { id := 26, live := [3, 13, 87, 88, 89], hdr := [3, 13, 87, 88] },
  { id := 27, live := [3, 13, 14, 87, 88] },
  { id := 28, live := [3, 13, 14, 87, 88, 96] },
  { id := 29, live := [3, 13, 14, 15, 87, 88], ops := [(0, .own)] },
  { id := 30, live := [3, 13, 14, 15, 87, 88, 97, 98, 99] },
  { id := 31, live := [3, 13, 14, 15, 87, 88, 97, 98, 99, 100], hdr := [3, 13, 14, 15, 87, 88, 97, 98, 99] },
  { id := 32, live := [3, 13, 14, 15, 16, 17, 87, 88, 97, 98, 99] },
  { id := 33, live := [3, 13, 14, 15, 16, 87, 88, 97, 98, 99, 106] },
  { id := 34, live := [3, 13, 14, 15, 87, 88, 97, 98, 99] },
  { id := 35, live := [3, 13, 14, 15, 87, 88, 97, 98, 99] },
  { id := 36, frz := [15], live := [3, 13, 87, 88] },
  { id := 37, live := [3, 13, 87, 88], trunc := some 3 },
  { id := 38, live := [2] }]

theorem comp12 : compF Try.prog an12 Try.f12 = some a12 := by kernel_rfl

/- graphdb/graphdbref29.Parts -/
/-- loop 0 of function 13 -/
def l13_0_h : List Nat := [1, 3, 4]

def l13_0_b : ACode :=
  .seq (.seq (.region none [] [
      ⟨some 20, .mov (.tmp 4), none⟩,
      ⟨some 21, .faddr 0 (.tmp 1), none⟩,
      ⟨some 22, .load none (.tmp 21), none⟩,
      ⟨some 23, .bin .lss .int (.tmp 20) (.tmp 22), none⟩] [1, 3, 4, 23] none)
    (.cond (.tmp 23) (.skip)
    (.exit 0)))
    (.seq (.block 1 (.region none [] [
        ⟨some 26, .mov (.tmp 3), none⟩,
        ⟨some 27, .mov (.tmp 4), none⟩,
        ⟨some 28, .mov (.tmp 4), none⟩,
        ⟨some 29, .iaddr 1 (.tmp 26) (.tmp 27), none⟩,
        ⟨none, .store 1 (.tmp 29) (.tmp 28), none⟩] [1, 3, 4] none))
    (.region none [] [
      ⟨some 24, .mov (.tmp 4), none⟩,
      ⟨some 25, .bin .add .int (.tmp 24) (.cst (.int .i64 1)), none⟩,
      ⟨some 4, .mov (.tmp 25), none⟩] [1, 3, 4] none))

/-- loop 1 of function 13 -/
def l13_1_h : List Nat := [1, 3, 5, 6, 7, 8]

def l13_1_b : ACode :=
  .seq (.seq (.region none [] [
      ⟨some 45, .mov (.tmp 8), none⟩,
      ⟨some 46, .faddr 1 (.tmp 1), none⟩,
      ⟨some 47, .load none (.tmp 46), none⟩,
      ⟨some 48, .mov (.tmp 6), none⟩,
      ⟨some 49, .iaddr 1 (.tmp 47) (.tmp 48), none⟩,
      ⟨some 50, .load none (.tmp 49), none⟩,
      ⟨some 51, .len .slice (.tmp 50), none⟩,
      ⟨some 52, .bin .lss .int (.tmp 45) (.tmp 51), none⟩] [1, 3, 5, 6, 7, 8, 52] none)
    (.cond (.tmp 52) (.skip)
    (.exit 6)))
    (.seq (.block 7 (.region none [] [
        ⟨some 55, .mov (.tmp 7), none⟩,
        ⟨some 56, .mov (.tmp 3), none⟩,
        ⟨some 57, .faddr 1 (.tmp 1), none⟩,
        ⟨some 58, .load none (.tmp 57), none⟩,
        ⟨some 59, .mov (.tmp 6), none⟩,
        ⟨some 60, .iaddr 1 (.tmp 58) (.tmp 59), none⟩,
        ⟨some 61, .load none (.tmp 60), none⟩,
        ⟨some 62, .mov (.tmp 8), none⟩,
        ⟨some 63, .iaddr 1 (.tmp 61) (.tmp 62), none⟩,
        ⟨some 64, .load none (.tmp 63), none⟩,
        ⟨some 65, .iaddr 1 (.tmp 56) (.tmp 64), none⟩,
        ⟨some 66, .load none (.tmp 65), none⟩,
        ⟨some 67, .min (.tmp 55) (.tmp 66), none⟩,
        ⟨some 7, .mov (.tmp 67), none⟩] [1, 3, 5, 6, 7, 8] none))
    (.region none [] [
      ⟨some 53, .mov (.tmp 8), none⟩,
      ⟨some 54, .bin .add .int (.tmp 53) (.cst (.int .i64 1)), none⟩,
      ⟨some 8, .mov (.tmp 54), none⟩] [1, 3, 5, 6, 7, 8] none))

/-- loop 2 of function 13 -/
def l13_2_h : List Nat := [1, 3, 5, 6, 7, 9]

def l13_2_b : ACode :=
  .seq (.seq (.region none [] [
      ⟨some 68, .mov (.tmp 9), none⟩,
      ⟨some 69, .faddr 1 (.tmp 1), none⟩,
      ⟨some 70, .load none (.tmp 69), none⟩,
      ⟨some 71, .mov (.tmp 6), none⟩,
      ⟨some 72, .iaddr 1 (.tmp 70) (.tmp 71), none⟩,
      ⟨some 73, .load none (.tmp 72), none⟩,
      ⟨some 74, .len .slice (.tmp 73), none⟩,
      ⟨some 75, .bin .lss .int (.tmp 68) (.tmp 74), none⟩] [1, 3, 5, 6, 7, 9, 75] none)
    (.cond (.tmp 75) (.skip)
    (.exit 8)))
    (.seq (.block 9 (.region none [] [
        ⟨some 78, .mov (.tmp 3), none⟩,
        ⟨some 79, .faddr 1 (.tmp 1), none⟩,
        ⟨some 80, .load none (.tmp 79), none⟩,
        ⟨some 81, .mov (.tmp 6), none⟩,
        ⟨some 82, .iaddr 1 (.tmp 80) (.tmp 81), none⟩,
        ⟨some 83, .load none (.tmp 82), none⟩,
        ⟨some 84, .mov (.tmp 9), none⟩,
        ⟨some 85, .iaddr 1 (.tmp 83) (.tmp 84), none⟩,
        ⟨some 86, .load none (.tmp 85), none⟩,
        ⟨some 87, .mov (.tmp 7), none⟩,
        ⟨some 88, .iaddr 1 (.tmp 78) (.tmp 86), none⟩,
        ⟨none, .store 1 (.tmp 88) (.tmp 87), none⟩] [1, 3, 5, 6, 7, 9] none))
    (.region none [] [
      ⟨some 76, .mov (.tmp 9), none⟩,
      ⟨some 77, .bin .add .int (.tmp 76) (.cst (.int .i64 1)), none⟩,
      ⟨some 9, .mov (.tmp 77), none⟩] [1, 3, 5, 6, 7, 9] none))

/-- loop 3 of function 13 -/
def l13_3_h : List Nat := [1, 3, 5, 6]

def l13_3_b : ACode :=
  .seq (.seq (.region none [] [
      ⟨some 36, .mov (.tmp 6), none⟩,
      ⟨some 37, .faddr 1 (.tmp 1), none⟩,
      ⟨some 38, .load none (.tmp 37), none⟩,
      ⟨some 39, .len .slice (.tmp 38), none⟩,
      ⟨some 40, .bin .lss .int (.tmp 36) (.tmp 39), none⟩] [1, 3, 5, 6, 40] none)
    (.cond (.tmp 40) (.skip)
    (.exit 4)))
    (.seq (.block 5 (.seq (.region none [] [
        ⟨some 43, .faddr 0 (.tmp 1), none⟩,
        ⟨some 44, .load none (.tmp 43), none⟩,
        ⟨some 7, .mov (.tmp 44), none⟩] [1, 3, 5, 6, 7] none)
      (.seq (.seq (.region none [] [
        ⟨some 8, .mov (.cst (.int .i64 0)), none⟩] [1, 3, 5, 6, 7, 8] none)
      (.block 6 (.loop l13_1_h l13_1_b)))
      (.seq (.region none [] [
        ⟨some 9, .mov (.cst (.int .i64 0)), none⟩] [1, 3, 5, 6, 7, 9] none)
      (.block 8 (.loop l13_2_h l13_2_b))))))
    (.region none [] [
      ⟨some 41, .mov (.tmp 6), none⟩,
      ⟨some 42, .bin .add .int (.tmp 41) (.cst (.int .i64 1)), none⟩,
      ⟨some 6, .mov (.tmp 42), none⟩] [1, 3, 5, 6] none))

/-- loop 4 of function 13 -/
def l13_4_h : List Nat := [1, 3, 5]

def l13_4_b : ACode :=
  .seq (.seq (.region none [] [
      ⟨some 30, .mov (.tmp 5), none⟩,
      ⟨some 31, .faddr 0 (.tmp 1), none⟩,
      ⟨some 32, .load none (.tmp 31), none⟩,
      ⟨some 33, .bin .lss .int (.tmp 30) (.tmp 32), none⟩] [1, 3, 5, 33] none)
    (.cond (.tmp 33) (.skip)
    (.exit 2)))
    (.seq (.block 3 (.seq (.region none [] [
        ⟨some 6, .mov (.cst (.int .i64 0)), none⟩] [1, 3, 5, 6] none)
      (.block 4 (.loop l13_3_h l13_3_b))))
    (.region none [] [
      ⟨some 34, .mov (.tmp 5), none⟩,
      ⟨some 35, .bin .add .int (.tmp 34) (.cst (.int .i64 1)), none⟩,
      ⟨some 5, .mov (.tmp 35), none⟩] [1, 3, 5] none))

/-- loop 5 of function 13 -/
def l13_5_h : List Nat := [1, 3, 10, 11, 12, 13]

def l13_5_b : ACode :=
  .seq (.seq (.region none [] [
      ⟨some 96, .mov (.tmp 13), none⟩,
      ⟨some 97, .faddr 0 (.tmp 1), none⟩,
      ⟨some 98, .load none (.tmp 97), none⟩,
      ⟨some 99, .bin .lss .int (.tmp 96) (.tmp 98), none⟩] [1, 3, 10, 11, 12, 13, 99] none)
    (.cond (.tmp 99) (.skip)
    (.exit 12)))
    (.seq (.block 13 (.seq (.region none [] [
        ⟨some 102, .mov (.tmp 3), none⟩,
        ⟨some 103, .mov (.tmp 13), none⟩,
        ⟨some 104, .iaddr 1 (.tmp 102) (.tmp 103), none⟩,
        ⟨some 105, .load none (.tmp 104), none⟩,
        ⟨some 106, .mov (.tmp 11), none⟩,
        ⟨some 107, .bin .eql .int (.tmp 105) (.tmp 106), none⟩] [1, 3, 10, 11, 12, 13, 107] none)
      (.cond (.tmp 107) (.region none [] [
          ⟨some 108, .mov (.tmp 12), none⟩,
          ⟨some 109, .mov (.tmp 13), none⟩,
          ⟨some 110, .lit false 1 (.int .i64 0) 1 [(0, (.tmp 109))], none⟩,
          ⟨some 111, .append 1 8 (.tmp 108) (.tmp 110), none⟩,
          ⟨some 12, .mov (.tmp 111), none⟩] [1, 3, 10, 11, 12, 13] none)
      (.skip))))
    (.region none [] [
      ⟨some 100, .mov (.tmp 13), none⟩,
      ⟨some 101, .bin .add .int (.tmp 100) (.cst (.int .i64 1)), none⟩,
      ⟨some 13, .mov (.tmp 101), none⟩] [1, 3, 10, 11, 12, 13] none))

/-- loop 6 of function 13 -/
def l13_6_h : List Nat := [1, 3, 10, 11]

def l13_6_b : ACode :=
  .seq (.seq (.region none [] [
      ⟨some 89, .mov (.tmp 11), none⟩,
      ⟨some 90, .faddr 0 (.tmp 1), none⟩,
      ⟨some 91, .load none (.tmp 90), none⟩,
      ⟨some 92, .bin .lss .int (.tmp 89) (.tmp 91), none⟩] [1, 3, 10, 11, 92] none)
    (.cond (.tmp 92) (.skip)
    (.exit 10)))
    (.seq (.block 11 (.seq (.region none [] [
        ⟨some 12, .newown 1, none⟩] [1, 3, 10, 11, 12] none)
      (.seq (.seq (.region none [] [
        ⟨some 95, .mov (.tmp 11), none⟩,
        ⟨some 13, .mov (.tmp 95), none⟩] [1, 3, 10, 11, 12, 13] none)
      (.block 12 (.loop l13_5_h l13_5_b)))
      (.seq (.region none [] [
        ⟨some 112, .mov (.tmp 12), none⟩,
        ⟨some 113, .len .slice (.tmp 112), none⟩,
        ⟨some 114, .bin .gtr .int (.tmp 113) (.cst (.int .i64 0)), none⟩] [1, 3, 10, 11, 12, 114] none)
      (.cond (.tmp 114) (.region none [12] [
          ⟨some 115, .mov (.tmp 10), none⟩,
          ⟨some 116, .mov (.tmp 12), none⟩,
          ⟨some 117, .lit false 1 (.sl false []) 1 [(0, (.tmp 116))], none⟩,
          ⟨some 118, .append 1 24 (.tmp 115) (.tmp 117), none⟩,
          ⟨some 10, .mov (.tmp 118), none⟩] [1, 3, 10, 11] none)
      (.skip))))))
    (.region none [] [
      ⟨some 93, .mov (.tmp 11), none⟩,
      ⟨some 94, .bin .add .int (.tmp 93) (.cst (.int .i64 1)), none⟩,
      ⟨some 11, .mov (.tmp 94), none⟩] [1, 3, 10, 11] (some 3)))

def c13 : ACode :=
  .seq (.region none [] [
      ⟨some 1, .box 2 (.tmp 0), none⟩,
      ⟨some 2, .mov (.cst (.sl false [])), none⟩] [1] none)
    (.seq (.seq (.region none [] [
      ⟨some 14, .load (some 2) (.tmp 1), none⟩,
      ⟨some 15, .call .pure 10 [(.tmp 14)], none⟩,
      ⟨some 16, .un .not (.tmp 15), none⟩] [1, 16] none)
    (.cond (.tmp 16) (.seq (.region none [] [
        ⟨some 2, .mov (.cst (.sl false [])), none⟩] [2] none)
      (.ret))
    (.skip)))
    (.seq (.region none [] [
      ⟨some 17, .faddr 0 (.tmp 1), none⟩,
      ⟨some 18, .load none (.tmp 17), none⟩,
      ⟨some 19, .mkslice 1 8 (.int .i64 0) (.tmp 18) (.tmp 18), none⟩,
      ⟨some 3, .mov (.tmp 19), none⟩] [1, 3] none)
    (.seq (.seq (.region none [] [
      ⟨some 4, .mov (.cst (.int .i64 0)), none⟩] [1, 3, 4] none)
    (.block 0 (.loop l13_0_h l13_0_b)))
    (.seq (.seq (.region none [] [
      ⟨some 5, .mov (.cst (.int .i64 0)), none⟩] [1, 3, 5] none)
    (.block 2 (.loop l13_4_h l13_4_b)))
    (.seq (.region none [] [
      ⟨some 10, .newown 1, none⟩] [1, 3, 10] none)
    (.seq (.seq (.region none [] [
      ⟨some 11, .mov (.cst (.int .i64 0)), none⟩] [1, 3, 10, 11] none)
    (.block 10 (.loop l13_6_h l13_6_b)))
    (.seq (.region none [] [
      ⟨some 119, .mov (.tmp 10), none⟩,
      ⟨some 2, .mov (.tmp 119), none⟩] [2] none)
    (.ret))))))))

def a13 : AFunc := ⟨1, c13, [.tmp 2]⟩

def an13 : List RAnn := [
  { id := 0, live := [1] },
  { id := 1, live := [1, 16] },
  { id := 2, live := [2] },
  { id := 3, live := [1, 3] },
  { id := 4, live := [1, 3, 4] },
  { id := 5, live := [1, 3, 4, 23], hdr := [1, 3, 4] },
  { id := 7, live := [1, 3, 4] },
  { id := 6, live := [1, 3, 4] },
  { id := 8, live := [1, 3, 5] },
  { id := 9, live := [1, 3, 5, 33], hdr := [1, 3, 5] },
  { id := 11, live := [1, 3, 5, 6] },
  { id := 12, live := [1, 3, 5, 6, 40], hdr := [1, 3, 5, 6] },
  { id := 14, live := [1, 3, 5, 6, 7] },
  { id := 15, live := [1, 3, 5, 6, 7, 8] },
  { id := 16, live := [1, 3, 5, 6, 7, 8, 52], hdr := [1, 3, 5, 6, 7, 8] },
  { id := 18, live := [1, 3, 5, 6, 7, 8] },
  { id := 17, live := [1, 3, 5, 6, 7, 8] },
  { id := 19, live := [1, 3, 5, 6, 7, 9] },
  { id := 20, live := [1, 3, 5, 6, 7, 9, 75], hdr := [1, 3, 5, 6, 7, 9] },
  { id := 22, live := [1, 3, 5, 6, 7, 9] },
  { id := 21, live := [1, 3, 5, 6, 7, 9] },
  { id := 13, live := [1, 3, 5, 6] },
  { id := 10, live := [1, 3, 5] },
  { id := 23, live := [1, 3, 10], ops := [(0, .own)] },
  { id := 24, live := [1, 3, 10, 11] },
  { id := 25, live := [1, 3, 10, 11, 92], hdr := [1, 3, 10, 11] },
  { id := 27, live := [1, 3, 10, 11, 12], ops := [(0, .own)] },
  { id := 28, live := [1, 3, 10, 11, 12, 13] },
  { id := 29, live := [1, 3, 10, 11, 12, 13, 99], hdr := [1, 3, 10, 11, 12, 13] },
  { id := 31, live := [1, 3, 10, 11, 12, 13, 107] },
  { id := 32, live := [1, 3, 10, 11, 12, 13] },
  { id := 30, live := [1, 3, 10, 11, 12, 13] },
  { id := 33, live := [1, 3, 10, 11, 12, 114] },
  { id := 34, frz := [12], live := [1, 3, 10, 11] },
  { id := 26, live := [1, 3, 10, 11], trunc := some 3 },
  { id := 35, live := [2] }]

theorem comp13 : compF Try.prog an13 Try.f13 = some a13 := by kernel_rfl

/- graphdb/graphdblaw29.lives -/
def c14 : ACode :=
  .seq (.region none [] [
      ⟨some 0, .mov (.cst (.bool false)), none⟩] [] none)
    (.seq (.region none [] [
      ⟨some 13, .lit false 1 (.int .i64 0) 2 [(0, (.cst (.int .i64 0))), (1, (.cst (.int .i64 1)))], none⟩,
      ⟨some 14, .lit false 1 (.int .i64 0) 2 [(0, (.cst (.int .i64 1))), (1, (.cst (.int .i64 2)))], none⟩,
      ⟨some 15, .lit false 1 (.int .i64 0) 2 [(0, (.cst (.int .i64 0))), (1, (.cst (.int .i64 2)))], none⟩,
      ⟨some 16, .lit false 1 (.sl false []) 3 [(0, (.tmp 13)), (1, (.tmp 14)), (2, (.tmp 15))], none⟩,
      ⟨some 17, .build [.int .i64 0, .sl false []] [(0, 1, (.cst (.int .i64 3))), (1, 1, (.tmp 16))], none⟩,
      ⟨some 1, .alloc 2 (.agg [.int .i64 0, .sl false []]), none⟩,
      ⟨none, .store 2 (.tmp 1) (.tmp 17), none⟩] [1] none)
    (.seq (.region none [] [
      ⟨some 18, .lit false 1 (.int .i64 0) 2 [(0, (.cst (.int .i64 0))), (1, (.cst (.int .i64 1)))], none⟩,
      ⟨some 19, .lit false 1 (.int .i64 0) 2 [(0, (.cst (.int .i64 1))), (1, (.cst (.int .i64 2)))], none⟩,
      ⟨some 20, .lit false 1 (.sl false []) 2 [(0, (.tmp 18)), (1, (.tmp 19))], none⟩,
      ⟨some 21, .build [.int .i64 0, .sl false []] [(0, 1, (.cst (.int .i64 3))), (1, 1, (.tmp 20))], none⟩,
      ⟨some 2, .alloc 2 (.agg [.int .i64 0, .sl false []]), none⟩,
      ⟨none, .store 2 (.tmp 2) (.tmp 21), none⟩] [1, 2] none)
    (.seq (.region none [] [
      ⟨some 22, .lit false 1 (.int .i64 0) 1 [(0, (.cst (.int .i64 0)))], none⟩,
      ⟨some 23, .lit false 1 (.int .i64 0) 1 [(0, (.cst (.int .i64 1)))], none⟩,
      ⟨some 24, .lit false 1 (.sl false []) 2 [(0, (.tmp 22)), (1, (.tmp 23))], none⟩,
      ⟨some 25, .build [.int .i64 0, .sl false []] [(0, 1, (.cst (.int .i64 3))), (1, 1, (.tmp 24))], none⟩,
      ⟨some 3, .alloc 2 (.agg [.int .i64 0, .sl false []]), none⟩,
      ⟨none, .store 2 (.tmp 3) (.tmp 25), none⟩] [1, 2, 3] none)
    (.seq (.region none [] [
      ⟨some 26, .lit false 1 (.int .i64 0) 2 [(0, (.cst (.int .i64 0))), (1, (.cst (.int .i64 1)))], none⟩,
      ⟨some 27, .lit false 1 (.int .i64 0) 2 [(0, (.cst (.int .i64 1))), (1, (.cst (.int .i64 2)))], none⟩,
      ⟨some 28, .lit false 1 (.int .i64 0) 2 [(0, (.cst (.int .i64 0))), (1, (.cst (.int .i64 2)))], none⟩,
      ⟨some 29, .lit false 1 (.int .i64 0) 3 [(0, (.cst (.int .i64 0))), (1, (.cst (.int .i64 1))), (2, (.cst (.int .i64 2)))], none⟩,
      ⟨some 30, .lit false 1 (.sl false []) 4 [(0, (.tmp 26)), (1, (.tmp 27)), (2, (.tmp 28)), (3, (.tmp 29))], none⟩,
      ⟨some 31, .build [.int .i64 0, .sl false []] [(0, 1, (.cst (.int .i64 3))), (1, 1, (.tmp 30))], none⟩,
      ⟨some 4, .alloc 2 (.agg [.int .i64 0, .sl false []]), none⟩,
      ⟨none, .store 2 (.tmp 4) (.tmp 31), none⟩] [1, 2, 3, 4] none)
    (.seq (.region none [] [
      ⟨some 33, .load (some 2) (.tmp 2), none⟩,
      ⟨some 34, .call .pure 20 [(.tmp 33)], none⟩,
      ⟨some 32, .mov (.tmp 34), none⟩,
      ⟨some 35, .ext (.tmp 32) 0, none⟩,
      ⟨some 36, .ext (.tmp 32) 1, none⟩,
      ⟨some 5, .mov (.tmp 35), none⟩,
      ⟨some 6, .mov (.tmp 36), none⟩] [1, 2, 3, 4, 5, 6] none)
    (.seq (.region none [] [
      ⟨some 38, .load (some 2) (.tmp 3), none⟩,
      ⟨some 39, .call .pure 20 [(.tmp 38)], none⟩,
      ⟨some 37, .mov (.tmp 39), none⟩,
      ⟨some 40, .ext (.tmp 37) 0, none⟩,
      ⟨some 41, .ext (.tmp 37) 1, none⟩,
      ⟨some 7, .mov (.tmp 40), none⟩,
      ⟨some 8, .mov (.tmp 41), none⟩] [1, 2, 3, 4, 5, 6, 7, 8] none)
    (.seq (.region none [] [
      ⟨some 43, .load (some 2) (.tmp 4), none⟩,
      ⟨some 44, .call .pure 20 [(.tmp 43)], none⟩,
      ⟨some 42, .mov (.tmp 44), none⟩,
      ⟨some 45, .ext (.tmp 42) 0, none⟩,
      ⟨some 46, .ext (.tmp 42) 1, none⟩,
      ⟨some 9, .mov (.tmp 45), none⟩,
      ⟨some 10, .mov (.tmp 46), none⟩] [1, 2, 3, 4, 5, 6, 7, 8, 9, 10] none)
    (.seq (.region none [] [
      ⟨some 48, .load (some 2) (.tmp 1), none⟩,
      ⟨some 49, .call .pure 20 [(.tmp 48)], none⟩,
      ⟨some 47, .mov (.tmp 49), none⟩,
      ⟨some 50, .ext (.tmp 47) 0, none⟩,
      ⟨some 51, .ext (.tmp 47) 1, none⟩,
      ⟨some 11, .mov (.tmp 50), none⟩,
      ⟨some 12, .mov (.tmp 51), none⟩] [1, 2, 3, 4, 5, 6, 7, 8, 9, 10, 12] none)
    (.seq (.region (some 83) [] [
      ⟨some 52, .load (some 2) (.tmp 1), none⟩,
      ⟨some 53, .call .pure 9 [(.tmp 52)], none⟩,
      ⟨some 54, .mov (.tmp 53), none⟩,
      ⟨some 55, .load (some 2) (.tmp 1), some (54, true)⟩,
      ⟨some 56, .call .pure 16 [(.tmp 55)], some (54, true)⟩,
      ⟨some 57, .load (some 2) (.tmp 1), some (54, true)⟩,
      ⟨some 58, .call .pure 15 [(.tmp 56), (.tmp 57)], some (54, true)⟩,
      ⟨some 59, .pick (.tmp 54) (.tmp 58) (.cst (.bool false)), none⟩,
      ⟨some 60, .mov (.tmp 59), none⟩,
      ⟨some 61, .load (some 2) (.tmp 1), some (60, true)⟩,
      ⟨some 62, .call .pure 18 [(.tmp 61)], some (60, true)⟩,
      ⟨some 63, .un .not (.tmp 62), some (60, true)⟩,
      ⟨some 64, .pick (.tmp 60) (.tmp 63) (.cst (.bool false)), none⟩,
      ⟨some 65, .mov (.tmp 64), none⟩,
      ⟨some 66, .load (some 2) (.tmp 2), some (65, true)⟩,
      ⟨some 67, .call .pure 18 [(.tmp 66)], some (65, true)⟩,
      ⟨some 68, .pick (.tmp 65) (.tmp 67) (.cst (.bool false)), none⟩,
      ⟨some 69, .mov (.tmp 68), none⟩,
      ⟨some 70, .mov (.tmp 6), some (69, true)⟩,
      ⟨some 71, .pick (.tmp 69) (.tmp 70) (.cst (.bool false)), none⟩,
      ⟨some 72, .mov (.tmp 71), none⟩,
      ⟨some 73, .mov (.tmp 5), some (72, true)⟩,
      ⟨some 74, .lit false 1 (.int .i64 0) 2 [(0, (.cst (.int .i64 1))), (1, (.cst (.int .i64 (-1))))], some (72, true)⟩,
      ⟨some 75, .call .pure 22 [(.tmp 73), (.tmp 74)], some (72, true)⟩,
      ⟨some 76, .pick (.tmp 72) (.tmp 75) (.cst (.bool false)), none⟩,
      ⟨some 77, .mov (.tmp 76), none⟩,
      ⟨some 78, .mov (.tmp 8), some (77, true)⟩,
      ⟨some 79, .pick (.tmp 77) (.tmp 78) (.cst (.bool false)), none⟩,
      ⟨some 80, .mov (.tmp 79), none⟩,
      ⟨some 81, .mov (.tmp 7), some (80, true)⟩,
      ⟨some 82, .lit false 1 (.int .i64 0) 2 [(0, (.cst (.int .i64 (-1)))), (1, (.cst (.int .i64 (-1))))], some (80, true)⟩,
      ⟨some 83, .call .pure 22 [(.tmp 81), (.tmp 82)], some (80, true)⟩,
      ⟨some 84, .pick (.tmp 80) (.tmp 83) (.cst (.bool false)), none⟩,
      ⟨some 85, .mov (.tmp 84), none⟩,
      ⟨some 86, .load (some 2) (.tmp 3), some (85, true)⟩,
      ⟨some 87, .call .pure 12 [(.tmp 86)], some (85, true)⟩,
      ⟨some 88, .lit false 1 (.int .i64 0) 1 [(0, (.cst (.int .i64 0)))], some (85, true)⟩,
      ⟨some 89, .lit false 1 (.int .i64 0) 1 [(0, (.cst (.int .i64 1)))], some (85, true)⟩,
      ⟨some 90, .lit false 1 (.int .i64 0) 1 [(0, (.cst (.int .i64 2)))], some (85, true)⟩,
      ⟨some 91, .lit false 1 (.sl false []) 3 [(0, (.tmp 88)), (1, (.tmp 89)), (2, (.tmp 90))], some (85, true)⟩,
      ⟨some 92, .call .pure 11 [(.tmp 87), (.tmp 91)], some (85, true)⟩,
      ⟨some 93, .pick (.tmp 85) (.tmp 92) (.cst (.bool false)), none⟩,
      ⟨some 94, .mov (.tmp 93), none⟩,
      ⟨some 95, .load (some 2) (.tmp 4), some (94, true)⟩,
      ⟨some 96, .call .pure 18 [(.tmp 95)], some (94, true)⟩,
      ⟨some 97, .pick (.tmp 94) (.tmp 96) (.cst (.bool false)), none⟩,
      ⟨some 98, .mov (.tmp 97), none⟩,
      ⟨some 99, .mov (.tmp 10), some (98, true)⟩,
      ⟨some 100, .pick (.tmp 98) (.tmp 99) (.cst (.bool false)), none⟩,
      ⟨some 101, .mov (.tmp 100), none⟩,
      ⟨some 102, .mov (.tmp 9), some (101, true)⟩,
      ⟨some 103, .lit false 1 (.int .i64 0) 4 [(0, (.cst (.int .i64 3))), (1, (.cst (.int .i64 3))), (2, (.cst (.int .i64 3))), (3, (.cst (.int .i64 (-1))))], some (101, true)⟩,
      ⟨some 104, .call .pure 22 [(.tmp 102), (.tmp 103)], some (101, true)⟩,
      ⟨some 105, .pick (.tmp 101) (.tmp 104) (.cst (.bool false)), none⟩,
      ⟨some 106, .mov (.tmp 105), none⟩,
      ⟨some 107, .mov (.tmp 12), some (106, true)⟩,
      ⟨some 108, .un .not (.tmp 107), some (106, true)⟩,
      ⟨some 109, .pick (.tmp 106) (.tmp 108) (.cst (.bool false)), none⟩,
      ⟨some 110, .mov (.tmp 109), none⟩,
      ⟨some 111, .load (some 2) (.tmp 2), some (110, true)⟩,
      ⟨some 112, .lit false 1 (.int .i64 0) 2 [(0, (.cst (.int .i64 (-1)))), (1, (.cst (.int .i64 0)))], some (110, true)⟩,
      ⟨some 113, .call .pure 23 [(.tmp 111), (.tmp 112)], some (110, true)⟩,
      ⟨some 114, .pick (.tmp 110) (.tmp 113) (.cst (.bool false)), none⟩,
      ⟨some 115, .mov (.tmp 114), none⟩,
      ⟨some 116, .load (some 2) (.tmp 1), some (115, true)⟩,
      ⟨some 117, .lit false 1 (.int .i64 0) 3 [(0, (.cst (.int .i64 (-1)))), (1, (.cst (.int .i64 0))), (2, (.cst (.int .i64 0)))], some (115, true)⟩,
      ⟨some 118, .call .pure 23 [(.tmp 116), (.tmp 117)], some (115, true)⟩,
      ⟨some 119, .un .not (.tmp 118), some (115, true)⟩,
      ⟨some 120, .pick (.tmp 115) (.tmp 119) (.cst (.bool false)), none⟩,
      ⟨some 121, .mov (.tmp 120), none⟩,
      ⟨some 122, .lit false 1 (.int .i64 0) 0 [], some (121, true)⟩,
      ⟨some 123, .lit false 1 (.sl false []) 1 [(0, (.tmp 122))], some (121, true)⟩,
      ⟨some 124, .build [.int .i64 0, .sl false []] [(0, 1, (.cst (.int .i64 1))), (1, 1, (.tmp 123))], some (121, true)⟩,
      ⟨some 125, .call .pure 9 [(.tmp 124)], some (121, true)⟩,
      ⟨some 126, .un .not (.tmp 125), some (121, true)⟩,
      ⟨some 127, .pick (.tmp 121) (.tmp 126) (.cst (.bool false)), none⟩,
      ⟨some 128, .mov (.tmp 127), none⟩,
      ⟨some 129, .build [.int .i64 0, .sl false []] [(0, 1, (.cst (.int .i64 (-1))))], some (128, true)⟩,
      ⟨some 130, .call .pure 12 [(.tmp 129)], some (128, true)⟩,
      ⟨some 131, .len .slice (.tmp 130), some (128, true)⟩,
      ⟨some 132, .bin .eql .int (.tmp 131) (.cst (.int .i64 0)), some (128, true)⟩,
      ⟨some 133, .pick (.tmp 128) (.tmp 132) (.cst (.bool false)), none⟩,
      ⟨some 0, .mov (.tmp 133), none⟩] [0] none)
    (.ret))))))))))

def a14 : AFunc := ⟨0, c14, [.tmp 0]⟩

def an14 : List RAnn := [
  { id := 0 },
  { id := 1, live := [1] },
  { id := 2, live := [1, 2] },
  { id := 3, live := [1, 2, 3] },
  { id := 4, live := [1, 2, 3, 4] },
  { id := 5, live := [1, 2, 3, 4, 5, 6] },
  { id := 6, live := [1, 2, 3, 4, 5, 6, 7, 8] },
  { id := 7, live := [1, 2, 3, 4, 5, 6, 7, 8, 9, 10] },
  { id := 8, live := [1, 2, 3, 4, 5, 6, 7, 8, 9, 10, 12] },
  { id := 9, head := some 83, live := [0] }]

theorem comp14 : compF Try.prog an14 Try.f14 = some a14 := by kernel_rfl

/- graphdb/graphdbref29.Equal -/
def c15 : ACode :=
  .seq (.region none [] [
      ⟨some 2, .box 2 (.tmp 0), none⟩,
      ⟨some 3, .box 2 (.tmp 1), none⟩,
      ⟨some 4, .mov (.cst (.bool false)), none⟩] [2, 3] none)
    (.seq (.region none [] [
      ⟨some 5, .faddr 0 (.tmp 2), none⟩,
      ⟨some 6, .load none (.tmp 5), none⟩,
      ⟨some 7, .faddr 0 (.tmp 3), none⟩,
      ⟨some 8, .load none (.tmp 7), none⟩,
      ⟨some 9, .bin .eql .int (.tmp 6) (.tmp 8), none⟩,
      ⟨some 10, .mov (.tmp 9), none⟩,
      ⟨some 11, .faddr 1 (.tmp 2), some (10, true)⟩,
      ⟨some 12, .load none (.tmp 11), some (10, true)⟩,
      ⟨some 13, .faddr 1 (.tmp 3), some (10, true)⟩,
      ⟨some 14, .load none (.tmp 13), some (10, true)⟩,
      ⟨some 15, .call .pure 11 [(.tmp 12), (.tmp 14)], some (10, true)⟩,
      ⟨some 16, .pick (.tmp 10) (.tmp 15) (.cst (.bool false)), none⟩,
      ⟨some 4, .mov (.tmp 16), none⟩] [4] none)
    (.ret))

def a15 : AFunc := ⟨2, c15, [.tmp 4]⟩

def an15 : List RAnn := [
  { id := 0, live := [2, 3] },
  { id := 1, live := [4] }]

theorem comp15 : compF Try.prog an15 Try.f15 = some a15 := by kernel_rfl

/- graphdb/hyper.Reduce -/
/-- loop 0 of function 16 -/
def l16_0_h : List Nat := [1, 2, 3, 12, 13, 14]

def l16_0_b : ACode :=
  .seq (.region none [] [
      ⟨some 15, .bin .lss .int (.tmp 14) (.tmp 13), none⟩] [1, 2, 3, 12, 13, 14, 15] none)
    (.seq (.cond (.tmp 15) (.skip)
    (.exit 0))
    (.seq (.block 1 (.seq (.region none [] [
        ⟨some 16, .iaddr 1 (.tmp 12) (.tmp 14), none⟩,
        ⟨some 17, .load none (.tmp 16), none⟩,
        ⟨some 5, .mov (.tmp 17), none⟩] [1, 2, 3, 5, 12, 13, 14] none)
      (.region none [] [
        ⟨some 18, .mov (.tmp 3), none⟩,
        ⟨some 19, .mov (.tmp 5), none⟩,
        ⟨some 20, .call .pure 26 [(.tmp 19)], none⟩,
        ⟨some 21, .lit false 1 (.sl false []) 1 [(0, (.tmp 20))], none⟩,
        ⟨some 22, .append 1 24 (.tmp 18) (.tmp 21), none⟩,
        ⟨some 3, .mov (.tmp 22), none⟩] [1, 2, 3, 12, 13, 14] none)))
    (.region none [] [
      ⟨some 23, .bin .add .int (.tmp 14) (.cst (.int .i64 1)), none⟩,
      ⟨some 14, .mov (.tmp 23), none⟩] [1, 2, 3, 12, 13, 14] none)))

/-- loop 1 of function 16 -/
def l16_1_h : List Nat := [1, 2, 3]

def l16_1_b : ACode :=
  .block 3 (.seq (.region none [3] [
        ⟨some 24, .mov (.tmp 3), none⟩,
        ⟨some 25, .call .pure 27 [(.tmp 24)], none⟩,
        ⟨some 6, .mov (.tmp 25), none⟩] [1, 2, 3, 6] none)
      (.seq (.seq (.region none [] [
        ⟨some 26, .mov (.tmp 3), none⟩,
        ⟨some 27, .mov (.tmp 6), none⟩,
        ⟨some 28, .call .pure 28 [(.tmp 26), (.tmp 27), (.cst (.fn 29 []))], none⟩] [1, 2, 3, 6, 28] none)
      (.cond (.tmp 28) (.seq (.region none [] [
          ⟨some 29, .faddr 0 (.tmp 1), none⟩,
          ⟨some 30, .load none (.tmp 29), none⟩,
          ⟨some 31, .mov (.tmp 3), none⟩,
          ⟨some 32, .build [.int .i64 0, .sl false []] [(0, 1, (.tmp 30)), (1, 1, (.tmp 31))], none⟩,
          ⟨none, .store 2 (.tmp 2) (.tmp 32), none⟩] [2] none)
        (.ret))
      (.skip)))
      (.region none [] [
        ⟨some 33, .mov (.tmp 6), none⟩,
        ⟨some 3, .mov (.tmp 33), none⟩] [1, 2, 3] none)))

def c16 : ACode :=
  .seq (.region none [] [
      ⟨some 1, .box 2 (.tmp 0), none⟩,
      ⟨some 2, .alloc 2 (.agg [.int .i64 0, .sl false []]), none⟩] [1, 2] none)
    (.seq (.seq (.region none [] [
      ⟨some 7, .load (some 2) (.tmp 1), none⟩,
      ⟨some 8, .call .pure 9 [(.tmp 7)], none⟩,
      ⟨some 9, .un .not (.tmp 8), none⟩] [1, 2, 9] none)
    (.cond (.tmp 9) (.seq (.region none [] [
        ⟨some 10, .build [.int .i64 0, .sl false []] [], none⟩,
        ⟨none, .store 2 (.tmp 2) (.tmp 10), none⟩] [2] none)
      (.ret))
    (.skip)))
    (.seq (.region none [] [
      ⟨some 3, .newown 1, none⟩] [1, 2, 3] none)
    (.seq (.seq (.region none [] [
      ⟨some 11, .faddr 1 (.tmp 1), none⟩,
      ⟨some 12, .load none (.tmp 11), none⟩,
      ⟨some 13, .len .slice (.tmp 12), none⟩,
      ⟨some 14, .mov (.cst (.int .i64 0)), none⟩] [1, 2, 3, 12, 13, 14] none)
    (.block 0 (.loop l16_0_h l16_0_b)))
    (.block 2 (.loop l16_1_h l16_1_b)))))

def a16 : AFunc := ⟨1, c16, [.cell 2 (some 2)]⟩

def an16 : List RAnn := [
  { id := 0, live := [1, 2] },
  { id := 1, live := [1, 2, 9] },
  { id := 2, live := [2] },
  { id := 3, live := [1, 2, 3], ops := [(0, .own)] },
  { id := 4, live := [1, 2, 3, 12, 13, 14] },
  { id := 5, live := [1, 2, 3, 12, 13, 14, 15], hdr := [1, 2, 3, 12, 13, 14] },
  { id := 6, live := [1, 2, 3, 5, 12, 13, 14] },
  { id := 7, live := [1, 2, 3, 12, 13, 14] },
  { id := 8, live := [1, 2, 3, 12, 13, 14] },
  { id := 9, frz := [3], live := [1, 2, 3, 6], hdr := [1, 2, 3] },
  { id := 10, live := [1, 2, 3, 6, 28] },
  { id := 11, live := [2] },
  { id := 12, live := [1, 2, 3] }]

theorem comp16 : compF Try.prog an16 Try.f16 = some a16 := by kernel_rfl

/- graphdb/graphdbref29.Reduce -/
/-- loop 0 of function 17 -/
def l17_0_h : List Nat := [1, 2, 3]

def l17_0_b : ACode :=
  .block 1 (.seq (.region none [] [
        ⟨some 11, .mov (.tmp 3), none⟩,
        ⟨some 12, .call .pure 30 [(.tmp 11)], none⟩,
        ⟨some 4, .mov (.tmp 12), none⟩] [1, 2, 3, 4] none)
      (.seq (.seq (.region none [] [
        ⟨some 13, .mov (.tmp 3), none⟩,
        ⟨some 14, .mov (.tmp 4), none⟩,
        ⟨some 15, .call .pure 11 [(.tmp 13), (.tmp 14)], none⟩] [1, 2, 4, 15] none)
      (.cond (.tmp 15) (.seq (.region none [] [
          ⟨some 16, .faddr 0 (.tmp 1), none⟩,
          ⟨some 17, .load none (.tmp 16), none⟩,
          ⟨some 18, .mov (.tmp 4), none⟩,
          ⟨some 19, .build [.int .i64 0, .sl false []] [(0, 1, (.tmp 17)), (1, 1, (.tmp 18))], none⟩,
          ⟨none, .store 2 (.tmp 2) (.tmp 19), none⟩] [2] none)
        (.ret))
      (.skip)))
      (.region none [] [
        ⟨some 20, .mov (.tmp 4), none⟩,
        ⟨some 3, .mov (.tmp 20), none⟩] [1, 2, 3] none)))

def c17 : ACode :=
  .seq (.region none [] [
      ⟨some 1, .box 2 (.tmp 0), none⟩,
      ⟨some 2, .alloc 2 (.agg [.int .i64 0, .sl false []]), none⟩] [1, 2] none)
    (.seq (.seq (.region none [] [
      ⟨some 5, .load (some 2) (.tmp 1), none⟩,
      ⟨some 6, .call .pure 10 [(.tmp 5)], none⟩,
      ⟨some 7, .un .not (.tmp 6), none⟩] [1, 2, 7] none)
    (.cond (.tmp 7) (.seq (.region none [] [
        ⟨some 8, .build [.int .i64 0, .sl false []] [], none⟩,
        ⟨none, .store 2 (.tmp 2) (.tmp 8), none⟩] [2] none)
      (.ret))
    (.skip)))
    (.seq (.region none [] [
      ⟨some 9, .faddr 1 (.tmp 1), none⟩,
      ⟨some 10, .load none (.tmp 9), none⟩,
      ⟨some 3, .mov (.tmp 10), none⟩] [1, 2, 3] none)
    (.block 0 (.loop l17_0_h l17_0_b))))

def a17 : AFunc := ⟨1, c17, [.cell 2 (some 2)]⟩

def an17 : List RAnn := [
  { id := 0, live := [1, 2] },
  { id := 1, live := [1, 2, 7] },
  { id := 2, live := [2] },
  { id := 3, live := [1, 2, 3] },
  { id := 4, live := [1, 2, 3, 4], hdr := [1, 2, 3] },
  { id := 5, live := [1, 2, 4, 15] },
  { id := 6, live := [2] },
  { id := 7, live := [1, 2, 3] }]

theorem comp17 : compF Try.prog an17 Try.f17 = some a17 := by kernel_rfl

/- graphdb/hyper.Acyclic -/
def c18 : ACode :=
  .seq (.region none [] [
      ⟨some 1, .box 2 (.tmp 0), none⟩,
      ⟨some 2, .mov (.cst (.bool false)), none⟩] [1] none)
    (.seq (.region none [] [
      ⟨some 3, .load (some 2) (.tmp 1), none⟩,
      ⟨some 4, .call .pure 9 [(.tmp 3)], none⟩,
      ⟨some 5, .mov (.tmp 4), none⟩,
      ⟨some 6, .load (some 2) (.tmp 1), some (5, true)⟩,
      ⟨some 7, .call .pure 16 [(.tmp 6)], some (5, true)⟩,
      ⟨some 8, .field 1 none (.tmp 7), some (5, true)⟩,
      ⟨some 9, .len .slice (.tmp 8), some (5, true)⟩,
      ⟨some 10, .bin .eql .int (.tmp 9) (.cst (.int .i64 0)), some (5, true)⟩,
      ⟨some 11, .pick (.tmp 5) (.tmp 10) (.cst (.bool false)), none⟩,
      ⟨some 2, .mov (.tmp 11), none⟩] [2] none)
    (.ret))

def a18 : AFunc := ⟨1, c18, [.tmp 2]⟩

def an18 : List RAnn := [
  { id := 0, live := [1] },
  { id := 1, live := [2] }]

theorem comp18 : compF Try.prog an18 Try.f18 = some a18 := by kernel_rfl

/- graphdb/graphdbref29.Acyclic -/
def c19 : ACode :=
  .seq (.region none [] [
      ⟨some 1, .box 2 (.tmp 0), none⟩,
      ⟨some 2, .mov (.cst (.bool false)), none⟩] [1] none)
    (.seq (.region none [] [
      ⟨some 3, .load (some 2) (.tmp 1), none⟩,
      ⟨some 4, .call .pure 10 [(.tmp 3)], none⟩,
      ⟨some 5, .mov (.tmp 4), none⟩,
      ⟨some 6, .load (some 2) (.tmp 1), some (5, true)⟩,
      ⟨some 7, .call .pure 17 [(.tmp 6)], some (5, true)⟩,
      ⟨some 8, .field 1 none (.tmp 7), some (5, true)⟩,
      ⟨some 9, .len .slice (.tmp 8), some (5, true)⟩,
      ⟨some 10, .bin .eql .int (.tmp 9) (.cst (.int .i64 0)), some (5, true)⟩,
      ⟨some 11, .pick (.tmp 5) (.tmp 10) (.cst (.bool false)), none⟩,
      ⟨some 2, .mov (.tmp 11), none⟩] [2] none)
    (.ret))

def a19 : AFunc := ⟨1, c19, [.tmp 2]⟩

def an19 : List RAnn := [
  { id := 0, live := [1] },
  { id := 1, live := [2] }]

theorem comp19 : compF Try.prog an19 Try.f19 = some a19 := by kernel_rfl

/- graphdb/hyper.Tree -/
/-- loop 0 of function 20 -/
def l20_0_h : List Nat := [4, 22, 23]

def l20_0_b : ACode :=
  .seq (.region none [] [
      ⟨some 24, .bin .lss .int (.tmp 23) (.tmp 22), none⟩] [4, 22, 23, 24] none)
    (.seq (.cond (.tmp 24) (.skip)
    (.exit 0))
    (.seq (.block 1 (.seq (.region none [] [
        ⟨some 25, .mov (.tmp 4), none⟩,
        ⟨some 26, .call .share 31 [(.tmp 25)], none⟩,
        ⟨some 27, .un .not (.tmp 26), none⟩] [4, 22, 23, 27] none)
      (.cond (.tmp 27) (.seq (.region none [] [
          ⟨some 2, .mov (.cst (.sl false [])), none⟩,
          ⟨some 3, .mov (.cst (.bool false)), none⟩] [2, 3] none)
        (.ret))
      (.skip))))
    (.region none [] [
      ⟨some 28, .bin .add .int (.tmp 23) (.cst (.int .i64 1)), none⟩,
      ⟨some 23, .mov (.tmp 28), none⟩] [4, 22, 23] none)))

def c20 : ACode :=
  .seq (.region none [] [
      ⟨some 1, .box 2 (.tmp 0), none⟩,
      ⟨some 2, .mov (.cst (.sl false [])), none⟩,
      ⟨some 3, .mov (.cst (.bool false)), none⟩] [1] none)
    (.seq (.seq (.region none [] [
      ⟨some 5, .load (some 2) (.tmp 1), none⟩,
      ⟨some 6, .call .pure 9 [(.tmp 5)], none⟩,
      ⟨some 7, .un .not (.tmp 6), none⟩] [1, 7] none)
    (.cond (.tmp 7) (.seq (.region none [] [
        ⟨some 2, .mov (.cst (.sl false [])), none⟩,
        ⟨some 3, .mov (.cst (.bool false)), none⟩] [2, 3] none)
      (.ret))
    (.skip)))
    (.seq (.par 13 [(1, 5), (5, 7), (5, 8), (1, 9), (3, 9), (4, 9), (5, 9)] [] [
      ⟨some 8, .faddr 1 (.tmp 1), none⟩,
      ⟨some 9, .load none (.tmp 8), none⟩,
      ⟨some 10, .faddr 1 (.tmp 1), none⟩,
      ⟨some 11, .load none (.tmp 10), none⟩,
      ⟨some 12, .len .slice (.tmp 11), none⟩,
      ⟨some 13, .mkslice 1 1 (.bool false) (.tmp 12) (.tmp 12), none⟩,
      ⟨some 14, .faddr 1 (.tmp 1), none⟩,
      ⟨some 15, .load none (.tmp 14), none⟩,
      ⟨some 16, .len .slice (.tmp 15), none⟩,
      ⟨some 17, .mkslice 1 8 (.int .i64 0) (.tmp 16) (.tmp 16), none⟩,
      ⟨some 18, .build [.sl false [], .sl false [], .sl false []] [(0, 1, (.tmp 9)), (1, 1, (.tmp 13)), (2, 1, (.tmp 17))], none⟩,
      ⟨some 19, .box 3 (.tmp 18), none⟩,
      ⟨some 4, .mov (.tmp 19), none⟩] [1, 4] none)
    (.seq (.seq (.region none [] [
      ⟨some 20, .faddr 1 (.tmp 1), none⟩,
      ⟨some 21, .load none (.tmp 20), none⟩,
      ⟨some 22, .len .slice (.tmp 21), none⟩,
      ⟨some 23, .mov (.cst (.int .i64 0)), none⟩] [4, 22, 23] none)
    (.block 0 (.loop l20_0_h l20_0_b)))
    (.seq (.region none [] [
      ⟨some 29, .mov (.tmp 4), none⟩,
      ⟨some 30, .nilchk (.tmp 29), none⟩,
      ⟨some 31, .faddr 2 (.tmp 30), none⟩,
      ⟨some 32, .load none (.tmp 31), none⟩,
      ⟨some 2, .mov (.tmp 32), none⟩,
      ⟨some 3, .mov (.cst (.bool true)), none⟩] [2, 3] none)
    (.ret)))))

def a20 : AFunc := ⟨1, c20, [.tmp 2, .tmp 3]⟩

def an20 : List RAnn := [
  { id := 0, live := [1] },
  { id := 1, live := [1, 7] },
  { id := 2, live := [2, 3] },
  { id := 3, head := some 13, live := [1, 4], par := true },
  { id := 4, live := [4, 22, 23] },
  { id := 5, live := [4, 22, 23, 24], hdr := [4, 22, 23] },
  { id := 6, live := [4, 22, 23, 27], ops := [(1, .mode .share)] },
  { id := 7, live := [2, 3] },
  { id := 8, live := [4, 22, 23] },
  { id := 9, live := [2, 3] }]

theorem comp20 : compF Try.prog an20 Try.f20 = some a20 := by kernel_rfl

/- graphdb/graphdbref29.Tree -/
/-- loop 0 of function 21 -/
def l21_0_h : List Nat := [1, 4, 5, 6, 7, 22, 23]

def l21_0_b : ACode :=
  .seq (.seq (.region none [] [
      ⟨some 25, .mov (.tmp 7), none⟩,
      ⟨some 26, .faddr 1 (.tmp 1), none⟩,
      ⟨some 27, .load none (.tmp 26), none⟩,
      ⟨some 28, .len .slice (.tmp 27), none⟩,
      ⟨some 29, .bin .lss .int (.tmp 25) (.tmp 28), none⟩,
      ⟨some 30, .mov (.tmp 29), none⟩,
      ⟨some 31, .mov (.tmp 6), some (30, true)⟩,
      ⟨some 32, .un .not (.tmp 31), some (30, true)⟩,
      ⟨some 33, .pick (.tmp 30) (.tmp 32) (.cst (.bool false)), none⟩] [1, 4, 5, 6, 7, 22, 23, 33] none)
    (.cond (.tmp 33) (.skip)
    (.exit 2)))
    (.seq (.block 3 (.seq (.seq (.region none [] [
        ⟨some 36, .mov (.tmp 5), none⟩,
        ⟨some 37, .mov (.tmp 7), none⟩,
        ⟨some 38, .iaddr 1 (.tmp 36) (.tmp 37), none⟩,
        ⟨some 39, .load none (.tmp 38), none⟩] [1, 4, 5, 6, 7, 22, 23, 39] none)
      (.cond (.tmp 39) (.exit 3)
      (.skip)))
      (.seq (.region none [] [
        ⟨some 40, .load (some 2) (.tmp 1), none⟩,
        ⟨some 41, .mov (.tmp 5), none⟩,
        ⟨some 42, .mov (.tmp 7), none⟩,
        ⟨some 43, .call .borrow 32 [(.tmp 40), (.tmp 41), (.tmp 42)], none⟩,
        ⟨some 8, .mov (.tmp 43), none⟩] [1, 4, 5, 6, 7, 8, 22, 23] none)
      (.seq (.region none [] [
        ⟨some 44, .mov (.tmp 8), none⟩,
        ⟨some 45, .bin .gtr .int (.tmp 44) (.cst (.int .i64 (-2))), none⟩] [1, 4, 5, 6, 7, 8, 22, 23, 45] none)
      (.cond (.tmp 45) (.seq (.region none [] [
          ⟨some 46, .mov (.tmp 4), none⟩,
          ⟨some 47, .mov (.tmp 7), none⟩,
          ⟨some 48, .mov (.tmp 8), none⟩,
          ⟨some 49, .iaddr 1 (.tmp 46) (.tmp 47), none⟩,
          ⟨none, .store 1 (.tmp 49) (.tmp 48), none⟩] [1, 4, 5, 7, 22, 23] none)
        (.seq (.region none [] [
          ⟨some 50, .mov (.tmp 5), none⟩,
          ⟨some 51, .mov (.tmp 7), none⟩,
          ⟨some 52, .iaddr 1 (.tmp 50) (.tmp 51), none⟩,
          ⟨none, .store 1 (.tmp 52) (.cst (.bool true)), none⟩] [1, 4, 5, 7, 22, 23] none)
        (.region none [] [
          ⟨some 6, .mov (.cst (.bool true)), none⟩] [1, 4, 5, 6, 7, 22, 23] none)))
      (.skip))))))
    (.region none [] [
      ⟨some 34, .mov (.tmp 7), none⟩,
      ⟨some 35, .bin .add .int (.tmp 34) (.cst (.int .i64 1)), none⟩,
      ⟨some 7, .mov (.tmp 35), none⟩] [1, 4, 5, 6, 7, 22, 23] none))

/-- loop 1 of function 21 -/
def l21_1_h : List Nat := [1, 4, 5, 22, 23]

def l21_1_b : ACode :=
  .seq (.region none [] [
      ⟨some 24, .bin .lss .int (.tmp 23) (.tmp 22), none⟩] [1, 4, 5, 22, 23, 24] none)
    (.seq (.cond (.tmp 24) (.skip)
    (.exit 0))
    (.seq (.block 1 (.seq (.region none [] [
        ⟨some 6, .mov (.cst (.bool false)), none⟩] [1, 4, 5, 6, 22, 23] none)
      (.seq (.seq (.region none [] [
        ⟨some 7, .mov (.cst (.int .i64 0)), none⟩] [1, 4, 5, 6, 7, 22, 23] none)
      (.block 2 (.loop l21_0_h l21_0_b)))
      (.seq (.region none [] [
        ⟨some 53, .mov (.tmp 6), none⟩,
        ⟨some 54, .un .not (.tmp 53), none⟩] [1, 4, 5, 22, 23, 54] none)
      (.cond (.tmp 54) (.seq (.region none [] [
          ⟨some 2, .mov (.cst (.sl false [])), none⟩,
          ⟨some 3, .mov (.cst (.bool false)), none⟩] [2, 3] none)
        (.ret))
      (.skip))))))
    (.region none [] [
      ⟨some 55, .bin .add .int (.tmp 23) (.cst (.int .i64 1)), none⟩,
      ⟨some 23, .mov (.tmp 55), none⟩] [1, 4, 5, 22, 23] none)))

def c21 : ACode :=
  .seq (.region none [] [
      ⟨some 1, .box 2 (.tmp 0), none⟩,
      ⟨some 2, .mov (.cst (.sl false [])), none⟩,
      ⟨some 3, .mov (.cst (.bool false)), none⟩] [1] none)
    (.seq (.seq (.region none [] [
      ⟨some 9, .load (some 2) (.tmp 1), none⟩,
      ⟨some 10, .call .pure 10 [(.tmp 9)], none⟩,
      ⟨some 11, .un .not (.tmp 10), none⟩] [1, 11] none)
    (.cond (.tmp 11) (.seq (.region none [] [
        ⟨some 2, .mov (.cst (.sl false [])), none⟩,
        ⟨some 3, .mov (.cst (.bool false)), none⟩] [2, 3] none)
      (.ret))
    (.skip)))
    (.seq (.region none [] [
      ⟨some 12, .faddr 1 (.tmp 1), none⟩,
      ⟨some 13, .load none (.tmp 12), none⟩,
      ⟨some 14, .len .slice (.tmp 13), none⟩,
      ⟨some 15, .mkslice 1 8 (.int .i64 0) (.tmp 14) (.tmp 14), none⟩,
      ⟨some 4, .mov (.tmp 15), none⟩] [1, 4] none)
    (.seq (.region none [] [
      ⟨some 16, .faddr 1 (.tmp 1), none⟩,
      ⟨some 17, .load none (.tmp 16), none⟩,
      ⟨some 18, .len .slice (.tmp 17), none⟩,
      ⟨some 19, .mkslice 1 1 (.bool false) (.tmp 18) (.tmp 18), none⟩,
      ⟨some 5, .mov (.tmp 19), none⟩] [1, 4, 5] none)
    (.seq (.seq (.region none [] [
      ⟨some 20, .faddr 1 (.tmp 1), none⟩,
      ⟨some 21, .load none (.tmp 20), none⟩,
      ⟨some 22, .len .slice (.tmp 21), none⟩,
      ⟨some 23, .mov (.cst (.int .i64 0)), none⟩] [1, 4, 5, 22, 23] none)
    (.block 0 (.loop l21_1_h l21_1_b)))
    (.seq (.region none [] [
      ⟨some 56, .mov (.tmp 4), none⟩,
      ⟨some 2, .mov (.tmp 56), none⟩,
      ⟨some 3, .mov (.cst (.bool true)), none⟩] [2, 3] none)
    (.ret))))))

def a21 : AFunc := ⟨1, c21, [.tmp 2, .tmp 3]⟩

def an21 : List RAnn := [
  { id := 0, live := [1] },
  { id := 1, live := [1, 11] },
  { id := 2, live := [2, 3] },
  { id := 3, live := [1, 4] },
  { id := 4, live := [1, 4, 5] },
  { id := 5, live := [1, 4, 5, 22, 23] },
  { id := 6, live := [1, 4, 5, 22, 23, 24], hdr := [1, 4, 5, 22, 23] },
  { id := 7, live := [1, 4, 5, 6, 22, 23] },
  { id := 8, live := [1, 4, 5, 6, 7, 22, 23] },
  { id := 9, live := [1, 4, 5, 6, 7, 22, 23, 33], hdr := [1, 4, 5, 6, 7, 22, 23] },
  { id := 11, live := [1, 4, 5, 6, 7, 22, 23, 39] },
  { id := 12, live := [1, 4, 5, 6, 7, 8, 22, 23], ops := [(3, .mode .borrow)] },
  { id := 13, live := [1, 4, 5, 6, 7, 8, 22, 23, 45] },
  { id := 14, live := [1, 4, 5, 7, 22, 23] },
  { id := 15, live := [1, 4, 5, 7, 22, 23] },
  { id := 16, live := [1, 4, 5, 6, 7, 22, 23] },
  { id := 10, live := [1, 4, 5, 6, 7, 22, 23] },
  { id := 17, live := [1, 4, 5, 22, 23, 54] },
  { id := 18, live := [2, 3] },
  { id := 19, live := [1, 4, 5, 22, 23] },
  { id := 20, live := [2, 3] }]

theorem comp21 : compF Try.prog an21 Try.f21 = some a21 := by kernel_rfl

/- graphdb/graphdbref06.Same -/
/-- loop 0 of function 22 -/
def l22_0_h : List Nat := [0, 1, 5]

def l22_0_b : ACode :=
  .seq (.seq (.region none [] [
      ⟨some 11, .mov (.tmp 5), none⟩,
      ⟨some 12, .mov (.tmp 0), none⟩,
      ⟨some 13, .len .slice (.tmp 12), none⟩,
      ⟨some 14, .bin .lss .int (.tmp 11) (.tmp 13), none⟩] [0, 1, 5, 14] none)
    (.cond (.tmp 14) (.skip)
    (.exit 0)))
    (.seq (.block 1 (.seq (.region (some 9) [] [
        ⟨some 17, .mov (.tmp 0), none⟩,
        ⟨some 18, .mov (.tmp 5), none⟩,
        ⟨some 19, .iaddr 1 (.tmp 17) (.tmp 18), none⟩,
        ⟨some 20, .load none (.tmp 19), none⟩,
        ⟨some 21, .mov (.tmp 1), none⟩,
        ⟨some 22, .mov (.tmp 5), none⟩,
        ⟨some 23, .iaddr 1 (.tmp 21) (.tmp 22), none⟩,
        ⟨some 24, .load none (.tmp 23), none⟩,
        ⟨some 25, .bin .neq .int (.tmp 20) (.tmp 24), none⟩] [0, 1, 5, 25] none)
      (.cond (.tmp 25) (.seq (.region none [] [
          ⟨some 4, .mov (.cst (.bool false)), none⟩] [4] none)
        (.ret))
      (.skip))))
    (.region none [] [
      ⟨some 15, .mov (.tmp 5), none⟩,
      ⟨some 16, .bin .add .int (.tmp 15) (.cst (.int .i64 1)), none⟩,
      ⟨some 5, .mov (.tmp 16), none⟩] [0, 1, 5] none))

def c22 : ACode :=
  .seq (.region none [] [
      ⟨some 4, .mov (.cst (.bool false)), none⟩] [0, 1] none)
    (.seq (.seq (.region none [] [
      ⟨some 6, .mov (.tmp 0), none⟩,
      ⟨some 7, .len .slice (.tmp 6), none⟩,
      ⟨some 8, .mov (.tmp 1), none⟩,
      ⟨some 9, .len .slice (.tmp 8), none⟩,
      ⟨some 10, .bin .neq .int (.tmp 7) (.tmp 9), none⟩] [0, 1, 10] none)
    (.cond (.tmp 10) (.seq (.region none [] [
        ⟨some 4, .mov (.cst (.bool false)), none⟩] [4] none)
      (.ret))
    (.skip)))
    (.seq (.seq (.region none [] [
      ⟨some 5, .mov (.cst (.int .i64 0)), none⟩] [0, 1, 5] none)
    (.block 0 (.loop l22_0_h l22_0_b)))
    (.seq (.region none [] [
      ⟨some 4, .mov (.cst (.bool true)), none⟩] [4] none)
    (.ret))))

def a22 : AFunc := ⟨2, c22, [.tmp 4]⟩

def an22 : List RAnn := [
  { id := 0, live := [0, 1] },
  { id := 1, live := [0, 1, 10] },
  { id := 2, live := [4] },
  { id := 3, live := [0, 1, 5] },
  { id := 4, live := [0, 1, 5, 14], hdr := [0, 1, 5] },
  { id := 6, head := some 9, live := [0, 1, 5, 25] },
  { id := 7, live := [4] },
  { id := 5, live := [0, 1, 5] },
  { id := 8, live := [4] }]

theorem comp22 : compF Try.prog an22 Try.f22 = some a22 := by kernel_rfl

/- graphdb/hyper.IsTree -/
/-- loop 0 of function 23 -/
def l23_0_h : List Nat := [1, 2, 24, 25, 26]

def l23_0_b : ACode :=
  .seq (.region none [] [
      ⟨some 27, .bin .lss .int (.tmp 26) (.tmp 25), none⟩] [1, 2, 24, 25, 26, 27] none)
    (.seq (.cond (.tmp 27) (.skip)
    (.exit 0))
    (.seq (.block 1 (.seq (.region none [] [
        ⟨some 28, .mov (.tmp 26), none⟩,
        ⟨some 29, .iaddr 1 (.tmp 24) (.tmp 26), none⟩,
        ⟨some 30, .load none (.tmp 29), none⟩,
        ⟨some 5, .mov (.tmp 28), none⟩,
        ⟨some 6, .mov (.tmp 30), none⟩] [1, 2, 5, 6, 24, 25, 26] none)
      (.seq (.region none [] [
        ⟨some 31, .mov (.tmp 6), none⟩,
        ⟨some 32, .bin .lss .int (.tmp 31) (.cst (.int .i64 (-1))), none⟩,
        ⟨some 33, .mov (.tmp 32), none⟩,
        ⟨some 34, .mov (.tmp 6), some (33, false)⟩,
        ⟨some 35, .mov (.tmp 1), some (33, false)⟩,
        ⟨some 36, .len .slice (.tmp 35), some (33, false)⟩,
        ⟨some 37, .bin .geq .int (.tmp 34) (.tmp 36), some (33, false)⟩,
        ⟨some 38, .pick (.tmp 33) (.cst (.bool true)) (.tmp 37), none⟩,
        ⟨some 39, .mov (.tmp 38), none⟩,
        ⟨some 40, .mov (.tmp 6), some (39, false)⟩,
        ⟨some 41, .mov (.tmp 5), some (39, false)⟩,
        ⟨some 42, .bin .eql .int (.tmp 40) (.tmp 41), some (39, false)⟩,
        ⟨some 43, .pick (.tmp 39) (.cst (.bool true)) (.tmp 42), none⟩] [1, 2, 24, 25, 26, 43] none)
      (.cond (.tmp 43) (.seq (.region none [] [
          ⟨some 4, .mov (.cst (.bool false)), none⟩] [4] none)
        (.ret))
      (.skip)))))
    (.region none [] [
      ⟨some 44, .bin .add .int (.tmp 26) (.cst (.int .i64 1)), none⟩,
      ⟨some 26, .mov (.tmp 44), none⟩] [1, 2, 24, 25, 26] none)))

/-- loop 1 of function 23 -/
def l23_1_h : List Nat := [1, 2, 7, 8, 9, 49, 50, 54, 55, 56]

def l23_1_b : ACode :=
  .seq (.region none [] [
      ⟨some 57, .bin .lss .int (.tmp 56) (.tmp 55), none⟩] [1, 2, 7, 8, 9, 49, 50, 54, 55, 56, 57] none)
    (.seq (.cond (.tmp 57) (.skip)
    (.exit 4))
    (.seq (.block 5 (.seq (.region none [] [
        ⟨some 58, .mov (.tmp 56), none⟩,
        ⟨some 59, .iaddr 1 (.tmp 54) (.tmp 56), none⟩,
        ⟨some 60, .load none (.tmp 59), none⟩,
        ⟨some 10, .mov (.tmp 58), none⟩,
        ⟨some 11, .mov (.tmp 60), none⟩] [1, 2, 7, 8, 9, 10, 11, 49, 50, 54, 55, 56] none)
      (.seq (.seq (.region none [] [
        ⟨some 61, .mov (.tmp 11), none⟩,
        ⟨some 62, .mov (.tmp 7), none⟩,
        ⟨some 63, .call .pure 34 [(.tmp 61), (.tmp 62)], none⟩,
        ⟨some 64, .un .not (.tmp 63), none⟩] [1, 2, 7, 8, 9, 10, 49, 50, 54, 55, 56, 64] none)
      (.cond (.tmp 64) (.exit 5)
      (.skip)))
      (.seq (.region none [] [
        ⟨some 8, .mov (.cst (.bool true)), none⟩] [1, 2, 7, 8, 9, 10, 49, 50, 54, 55, 56] none)
      (.seq (.region none [] [
        ⟨some 65, .mov (.tmp 1), none⟩,
        ⟨some 66, .mov (.tmp 10), none⟩,
        ⟨some 67, .iaddr 1 (.tmp 65) (.tmp 66), none⟩,
        ⟨some 68, .load none (.tmp 67), none⟩,
        ⟨some 12, .mov (.tmp 68), none⟩] [1, 2, 7, 8, 9, 12, 49, 50, 54, 55, 56] none)
      (.seq (.region none [] [
        ⟨some 69, .mov (.tmp 12), none⟩,
        ⟨some 70, .bin .lss .int (.tmp 69) (.cst (.int .i64 0)), none⟩,
        ⟨some 71, .mov (.tmp 70), none⟩,
        ⟨some 72, .faddr 1 (.tmp 2), some (71, false)⟩,
        ⟨some 73, .load none (.tmp 72), some (71, false)⟩,
        ⟨some 74, .mov (.tmp 12), some (71, false)⟩,
        ⟨some 75, .iaddr 1 (.tmp 73) (.tmp 74), some (71, false)⟩,
        ⟨some 76, .load none (.tmp 75), some (71, false)⟩,
        ⟨some 77, .mov (.tmp 7), some (71, false)⟩,
        ⟨some 78, .call .pure 34 [(.tmp 76), (.tmp 77)], some (71, false)⟩,
        ⟨some 79, .un .not (.tmp 78), some (71, false)⟩,
        ⟨some 80, .pick (.tmp 71) (.cst (.bool true)) (.tmp 79), none⟩] [1, 2, 7, 8, 9, 49, 50, 54, 55, 56, 80] none)
      (.cond (.tmp 80) (.region none [] [
          ⟨some 81, .mov (.tmp 9), none⟩,
          ⟨some 82, .bin .add .int (.tmp 81) (.cst (.int .i64 1)), none⟩,
          ⟨some 9, .mov (.tmp 82), none⟩] [1, 2, 7, 8, 9, 49, 50, 54, 55, 56] none)
      (.skip))))))))
    (.region none [] [
      ⟨some 83, .bin .add .int (.tmp 56) (.cst (.int .i64 1)), none⟩,
      ⟨some 56, .mov (.tmp 83), none⟩] [1, 2, 7, 8, 9, 49, 50, 54, 55, 56] none)))

/-- loop 2 of function 23 -/
def l23_2_h : List Nat := [1, 2, 49, 50]

def l23_2_b : ACode :=
  .seq (.region none [] [
      ⟨some 51, .bin .lss .int (.tmp 50) (.tmp 49), none⟩] [1, 2, 49, 50, 51] none)
    (.seq (.cond (.tmp 51) (.skip)
    (.exit 2))
    (.seq (.block 3 (.seq (.region none [] [
        ⟨some 52, .mov (.tmp 50), none⟩,
        ⟨some 7, .mov (.tmp 52), none⟩] [1, 2, 7, 49, 50] none)
      (.seq (.region none [] [
        ⟨some 8, .mov (.cst (.bool false)), none⟩,
        ⟨some 9, .mov (.cst (.int .i64 0)), none⟩] [1, 2, 7, 8, 9, 49, 50] none)
      (.seq (.seq (.region none [] [
        ⟨some 53, .faddr 1 (.tmp 2), none⟩,
        ⟨some 54, .load none (.tmp 53), none⟩,
        ⟨some 55, .len .slice (.tmp 54), none⟩,
        ⟨some 56, .mov (.cst (.int .i64 0)), none⟩] [1, 2, 7, 8, 9, 49, 50, 54, 55, 56] none)
      (.block 4 (.loop l23_1_h l23_1_b)))
      (.seq (.region none [] [
        ⟨some 84, .mov (.tmp 8), none⟩,
        ⟨some 85, .mov (.tmp 84), none⟩,
        ⟨some 86, .mov (.tmp 9), some (85, true)⟩,
        ⟨some 87, .bin .neq .int (.tmp 86) (.cst (.int .i64 1)), some (85, true)⟩,
        ⟨some 88, .pick (.tmp 85) (.tmp 87) (.cst (.bool false)), none⟩] [1, 2, 49, 50, 88] none)
      (.cond (.tmp 88) (.seq (.region none [] [
          ⟨some 4, .mov (.cst (.bool false)), none⟩] [4] none)
        (.ret))
      (.skip)))))))
    (.region none [] [
      ⟨some 89, .bin .add .int (.tmp 50) (.cst (.int .i64 1)), none⟩,
      ⟨some 50, .mov (.tmp 89), none⟩] [1, 2, 49, 50] none)))

def c23 : ACode :=
  .seq (.region none [] [
      ⟨some 2, .box 2 (.tmp 0), none⟩,
      ⟨some 4, .mov (.cst (.bool false)), none⟩] [1, 2] none)
    (.seq (.seq (.region none [] [
      ⟨some 13, .load (some 2) (.tmp 2), none⟩,
      ⟨some 14, .call .pure 9 [(.tmp 13)], none⟩,
      ⟨some 15, .un .not (.tmp 14), none⟩,
      ⟨some 16, .mov (.tmp 15), none⟩,
      ⟨some 17, .mov (.tmp 1), some (16, false)⟩,
      ⟨some 18, .len .slice (.tmp 17), some (16, false)⟩,
      ⟨some 19, .faddr 1 (.tmp 2), some (16, false)⟩,
      ⟨some 20, .load none (.tmp 19), some (16, false)⟩,
      ⟨some 21, .len .slice (.tmp 20), some (16, false)⟩,
      ⟨some 22, .bin .neq .int (.tmp 18) (.tmp 21), some (16, false)⟩,
      ⟨some 23, .pick (.tmp 16) (.cst (.bool true)) (.tmp 22), none⟩] [1, 2, 23] none)
    (.cond (.tmp 23) (.seq (.region none [] [
        ⟨some 4, .mov (.cst (.bool false)), none⟩] [4] none)
      (.ret))
    (.skip)))
    (.seq (.seq (.region none [] [
      ⟨some 24, .mov (.tmp 1), none⟩,
      ⟨some 25, .len .slice (.tmp 24), none⟩,
      ⟨some 26, .mov (.cst (.int .i64 0)), none⟩] [1, 2, 24, 25, 26] none)
    (.block 0 (.loop l23_0_h l23_0_b)))
    (.seq (.seq (.region none [] [
      ⟨some 45, .mov (.tmp 1), none⟩,
      ⟨some 46, .call .pure 33 [(.tmp 45)], none⟩,
      ⟨some 47, .un .not (.tmp 46), none⟩] [1, 2, 47] none)
    (.cond (.tmp 47) (.seq (.region none [] [
        ⟨some 4, .mov (.cst (.bool false)), none⟩] [4] none)
      (.ret))
    (.skip)))
    (.seq (.seq (.region none [] [
      ⟨some 48, .faddr 0 (.tmp 2), none⟩,
      ⟨some 49, .load none (.tmp 48), none⟩,
      ⟨some 50, .mov (.cst (.int .i64 0)), none⟩] [1, 2, 49, 50] none)
    (.block 2 (.loop l23_2_h l23_2_b)))
    (.seq (.region none [] [
      ⟨some 4, .mov (.cst (.bool true)), none⟩] [4] none)
    (.ret))))))

def a23 : AFunc := ⟨2, c23, [.tmp 4]⟩

def an23 : List RAnn := [
  { id := 0, live := [1, 2] },
  { id := 1, live := [1, 2, 23] },
  { id := 2, live := [4] },
  { id := 3, live := [1, 2, 24, 25, 26] },
  { id := 4, live := [1, 2, 24, 25, 26, 27], hdr := [1, 2, 24, 25, 26] },
  { id := 5, live := [1, 2, 5, 6, 24, 25, 26] },
  { id := 6, live := [1, 2, 24, 25, 26, 43] },
  { id := 7, live := [4] },
  { id := 8, live := [1, 2, 24, 25, 26] },
  { id := 9, live := [1, 2, 47] },
  { id := 10, live := [4] },
  { id := 11, live := [1, 2, 49, 50] },
  { id := 12, live := [1, 2, 49, 50, 51], hdr := [1, 2, 49, 50] },
  { id := 13, live := [1, 2, 7, 49, 50] },
  { id := 14, live := [1, 2, 7, 8, 9, 49, 50] },
  { id := 15, live := [1, 2, 7, 8, 9, 49, 50, 54, 55, 56] },
  { id := 16, live := [1, 2, 7, 8, 9, 49, 50, 54, 55, 56, 57], hdr := [1, 2, 7, 8, 9, 49, 50, 54, 55, 56] },
  { id := 17, live := [1, 2, 7, 8, 9, 10, 11, 49, 50, 54, 55, 56] },
  { id := 18, live := [1, 2, 7, 8, 9, 10, 49, 50, 54, 55, 56, 64] },
  { id := 19, live := [1, 2, 7, 8, 9, 10, 49, 50, 54, 55, 56] },
  { id := 20, live := [1, 2, 7, 8, 9, 12, 49, 50, 54, 55, 56] },
  { id := 21, live := [1, 2, 7, 8, 9, 49, 50, 54, 55, 56, 80] },
  { id := 22, live := [1, 2, 7, 8, 9, 49, 50, 54, 55, 56] },
  { id := 23, live := [1, 2, 7, 8, 9, 49, 50, 54, 55, 56] },
  { id := 24, live := [1, 2, 49, 50, 88] },
  { id := 25, live := [4] },
  { id := 26, live := [1, 2, 49, 50] },
  { id := 27, live := [4] }]

theorem comp23 : compF Try.prog an23 Try.f23 = some a23 := by kernel_rfl

/- graphdb/graphdbref29.IsTree -/
/-- loop 0 of function 24 -/
def l24_0_h : List Nat := [1, 2, 5]

def l24_0_b : ACode :=
  .seq (.seq (.region none [] [
      ⟨some 21, .mov (.tmp 5), none⟩,
      ⟨some 22, .mov (.tmp 1), none⟩,
      ⟨some 23, .len .slice (.tmp 22), none⟩,
      ⟨some 24, .bin .lss .int (.tmp 21) (.tmp 23), none⟩] [1, 2, 5, 24] none)
    (.cond (.tmp 24) (.skip)
    (.exit 0)))
    (.seq (.block 1 (.seq (.region none [] [
        ⟨some 27, .mov (.tmp 1), none⟩,
        ⟨some 28, .mov (.tmp 5), none⟩,
        ⟨some 29, .iaddr 1 (.tmp 27) (.tmp 28), none⟩,
        ⟨some 30, .load none (.tmp 29), none⟩,
        ⟨some 31, .bin .lss .int (.tmp 30) (.cst (.int .i64 (-1))), none⟩,
        ⟨some 32, .mov (.tmp 31), none⟩,
        ⟨some 33, .mov (.tmp 1), some (32, false)⟩,
        ⟨some 34, .mov (.tmp 5), some (32, false)⟩,
        ⟨some 35, .iaddr 1 (.tmp 33) (.tmp 34), some (32, false)⟩,
        ⟨some 36, .load none (.tmp 35), some (32, false)⟩,
        ⟨some 37, .mov (.tmp 1), some (32, false)⟩,
        ⟨some 38, .len .slice (.tmp 37), some (32, false)⟩,
        ⟨some 39, .bin .geq .int (.tmp 36) (.tmp 38), some (32, false)⟩,
        ⟨some 40, .pick (.tmp 32) (.cst (.bool true)) (.tmp 39), none⟩,
        ⟨some 41, .mov (.tmp 40), none⟩,
        ⟨some 42, .mov (.tmp 1), some (41, false)⟩,
        ⟨some 43, .mov (.tmp 5), some (41, false)⟩,
        ⟨some 44, .iaddr 1 (.tmp 42) (.tmp 43), some (41, false)⟩,
        ⟨some 45, .load none (.tmp 44), some (41, false)⟩,
        ⟨some 46, .mov (.tmp 5), some (41, false)⟩,
        ⟨some 47, .bin .eql .int (.tmp 45) (.tmp 46), some (41, false)⟩,
        ⟨some 48, .pick (.tmp 41) (.cst (.bool true)) (.tmp 47), none⟩] [1, 2, 5, 48] none)
      (.cond (.tmp 48) (.seq (.region none [] [
          ⟨some 4, .mov (.cst (.bool false)), none⟩] [4] none)
        (.ret))
      (.skip))))
    (.region none [] [
      ⟨some 25, .mov (.tmp 5), none⟩,
      ⟨some 26, .bin .add .int (.tmp 25) (.cst (.int .i64 1)), none⟩,
      ⟨some 5, .mov (.tmp 26), none⟩] [1, 2, 5] none))

/-- loop 1 of function 24 -/
def l24_1_h : List Nat := [1, 2, 6, 7, 8, 9]

def l24_1_b : ACode :=
  .seq (.seq (.region none [] [
      ⟨some 58, .mov (.tmp 9), none⟩,
      ⟨some 59, .faddr 1 (.tmp 2), none⟩,
      ⟨some 60, .load none (.tmp 59), none⟩,
      ⟨some 61, .len .slice (.tmp 60), none⟩,
      ⟨some 62, .bin .lss .int (.tmp 58) (.tmp 61), none⟩] [1, 2, 6, 7, 8, 9, 62] none)
    (.cond (.tmp 62) (.skip)
    (.exit 4)))
    (.seq (.block 5 (.seq (.region none [] [
        ⟨some 65, .faddr 1 (.tmp 2), none⟩,
        ⟨some 66, .load none (.tmp 65), none⟩,
        ⟨some 67, .mov (.tmp 9), none⟩,
        ⟨some 68, .iaddr 1 (.tmp 66) (.tmp 67), none⟩,
        ⟨some 69, .load none (.tmp 68), none⟩,
        ⟨some 70, .mov (.tmp 6), none⟩,
        ⟨some 71, .call .pure 36 [(.tmp 69), (.tmp 70)], none⟩] [1, 2, 6, 7, 8, 9, 71] none)
      (.cond (.tmp 71) (.seq (.region none [] [
          ⟨some 8, .mov (.cst (.bool true)), none⟩] [1, 2, 6, 7, 8, 9] none)
        (.seq (.region (some 18) [] [
          ⟨some 72, .mov (.tmp 1), none⟩,
          ⟨some 73, .mov (.tmp 9), none⟩,
          ⟨some 74, .iaddr 1 (.tmp 72) (.tmp 73), none⟩,
          ⟨some 75, .load none (.tmp 74), none⟩,
          ⟨some 76, .bin .lss .int (.tmp 75) (.cst (.int .i64 0)), none⟩,
          ⟨some 77, .mov (.tmp 76), none⟩,
          ⟨some 78, .faddr 1 (.tmp 2), some (77, false)⟩,
          ⟨some 79, .load none (.tmp 78), some (77, false)⟩,
          ⟨some 80, .mov (.tmp 1), some (77, false)⟩,
          ⟨some 81, .mov (.tmp 9), some (77, false)⟩,
          ⟨some 82, .iaddr 1 (.tmp 80) (.tmp 81), some (77, false)⟩,
          ⟨some 83, .load none (.tmp 82), some (77, false)⟩,
          ⟨some 84, .iaddr 1 (.tmp 79) (.tmp 83), some (77, false)⟩,
          ⟨some 85, .load none (.tmp 84), some (77, false)⟩,
          ⟨some 86, .mov (.tmp 6), some (77, false)⟩,
          ⟨some 87, .call .pure 36 [(.tmp 85), (.tmp 86)], some (77, false)⟩,
          ⟨some 88, .un .not (.tmp 87), some (77, false)⟩,
          ⟨some 89, .pick (.tmp 77) (.cst (.bool true)) (.tmp 88), none⟩] [1, 2, 6, 7, 8, 9, 89] none)
        (.cond (.tmp 89) (.region none [] [
            ⟨some 90, .mov (.tmp 7), none⟩,
            ⟨some 91, .bin .add .int (.tmp 90) (.cst (.int .i64 1)), none⟩,
            ⟨some 7, .mov (.tmp 91), none⟩] [1, 2, 6, 7, 8, 9] none)
        (.skip))))
      (.skip))))
    (.region none [] [
      ⟨some 63, .mov (.tmp 9), none⟩,
      ⟨some 64, .bin .add .int (.tmp 63) (.cst (.int .i64 1)), none⟩,
      ⟨some 9, .mov (.tmp 64), none⟩] [1, 2, 6, 7, 8, 9] none))

/-- loop 2 of function 24 -/
def l24_2_h : List Nat := [1, 2, 6]

def l24_2_b : ACode :=
  .seq (.seq (.region none [] [
      ⟨some 52, .mov (.tmp 6), none⟩,
      ⟨some 53, .faddr 0 (.tmp 2), none⟩,
      ⟨some 54, .load none (.tmp 53), none⟩,
      ⟨some 55, .bin .lss .int (.tmp 52) (.tmp 54), none⟩] [1, 2, 6, 55] none)
    (.cond (.tmp 55) (.skip)
    (.exit 2)))
    (.seq (.block 3 (.seq (.region none [] [
        ⟨some 7, .mov (.cst (.int .i64 0)), none⟩,
        ⟨some 8, .mov (.cst (.bool false)), none⟩] [1, 2, 6, 7, 8] none)
      (.seq (.seq (.region none [] [
        ⟨some 9, .mov (.cst (.int .i64 0)), none⟩] [1, 2, 6, 7, 8, 9] none)
      (.block 4 (.loop l24_1_h l24_1_b)))
      (.seq (.region none [] [
        ⟨some 92, .mov (.tmp 8), none⟩,
        ⟨some 93, .mov (.tmp 92), none⟩,
        ⟨some 94, .mov (.tmp 7), some (93, true)⟩,
        ⟨some 95, .bin .neq .int (.tmp 94) (.cst (.int .i64 1)), some (93, true)⟩,
        ⟨some 96, .pick (.tmp 93) (.tmp 95) (.cst (.bool false)), none⟩] [1, 2, 6, 96] none)
      (.cond (.tmp 96) (.seq (.region none [] [
          ⟨some 4, .mov (.cst (.bool false)), none⟩] [4] none)
        (.ret))
      (.skip))))))
    (.region none [] [
      ⟨some 56, .mov (.tmp 6), none⟩,
      ⟨some 57, .bin .add .int (.tmp 56) (.cst (.int .i64 1)), none⟩,
      ⟨some 6, .mov (.tmp 57), none⟩] [1, 2, 6] none))

def c24 : ACode :=
  .seq (.region none [] [
      ⟨some 2, .box 2 (.tmp 0), none⟩,
      ⟨some 4, .mov (.cst (.bool false)), none⟩] [1, 2] none)
    (.seq (.seq (.region none [] [
      ⟨some 10, .load (some 2) (.tmp 2), none⟩,
      ⟨some 11, .call .pure 10 [(.tmp 10)], none⟩,
      ⟨some 12, .un .not (.tmp 11), none⟩,
      ⟨some 13, .mov (.tmp 12), none⟩,
      ⟨some 14, .mov (.tmp 1), some (13, false)⟩,
      ⟨some 15, .len .slice (.tmp 14), some (13, false)⟩,
      ⟨some 16, .faddr 1 (.tmp 2), some (13, false)⟩,
      ⟨some 17, .load none (.tmp 16), some (13, false)⟩,
      ⟨some 18, .len .slice (.tmp 17), some (13, false)⟩,
      ⟨some 19, .bin .neq .int (.tmp 15) (.tmp 18), some (13, false)⟩,
      ⟨some 20, .pick (.tmp 13) (.cst (.bool true)) (.tmp 19), none⟩] [1, 2, 20] none)
    (.cond (.tmp 20) (.seq (.region none [] [
        ⟨some 4, .mov (.cst (.bool false)), none⟩] [4] none)
      (.ret))
    (.skip)))
    (.seq (.seq (.region none [] [
      ⟨some 5, .mov (.cst (.int .i64 0)), none⟩] [1, 2, 5] none)
    (.block 0 (.loop l24_0_h l24_0_b)))
    (.seq (.seq (.region none [] [
      ⟨some 49, .mov (.tmp 1), none⟩,
      ⟨some 50, .call .pure 35 [(.tmp 49)], none⟩,
      ⟨some 51, .un .not (.tmp 50), none⟩] [1, 2, 51] none)
    (.cond (.tmp 51) (.seq (.region none [] [
        ⟨some 4, .mov (.cst (.bool false)), none⟩] [4] none)
      (.ret))
    (.skip)))
    (.seq (.seq (.region none [] [
      ⟨some 6, .mov (.cst (.int .i64 0)), none⟩] [1, 2, 6] none)
    (.block 2 (.loop l24_2_h l24_2_b)))
    (.seq (.region none [] [
      ⟨some 4, .mov (.cst (.bool true)), none⟩] [4] none)
    (.ret))))))

def a24 : AFunc := ⟨2, c24, [.tmp 4]⟩

def an24 : List RAnn := [
  { id := 0, live := [1, 2] },
  { id := 1, live := [1, 2, 20] },
  { id := 2, live := [4] },
  { id := 3, live := [1, 2, 5] },
  { id := 4, live := [1, 2, 5, 24], hdr := [1, 2, 5] },
  { id := 6, live := [1, 2, 5, 48] },
  { id := 7, live := [4] },
  { id := 5, live := [1, 2, 5] },
  { id := 8, live := [1, 2, 51] },
  { id := 9, live := [4] },
  { id := 10, live := [1, 2, 6] },
  { id := 11, live := [1, 2, 6, 55], hdr := [1, 2, 6] },
  { id := 13, live := [1, 2, 6, 7, 8] },
  { id := 14, live := [1, 2, 6, 7, 8, 9] },
  { id := 15, live := [1, 2, 6, 7, 8, 9, 62], hdr := [1, 2, 6, 7, 8, 9] },
  { id := 17, live := [1, 2, 6, 7, 8, 9, 71] },
  { id := 18, live := [1, 2, 6, 7, 8, 9] },
  { id := 19, head := some 18, live := [1, 2, 6, 7, 8, 9, 89] },
  { id := 20, live := [1, 2, 6, 7, 8, 9] },
  { id := 16, live := [1, 2, 6, 7, 8, 9] },
  { id := 21, live := [1, 2, 6, 96] },
  { id := 22, live := [4] },
  { id := 12, live := [1, 2, 6] },
  { id := 23, live := [4] }]

theorem comp24 : compF Try.prog an24 Try.f24 = some a24 := by kernel_rfl

/- graphdb/graphdbref06.Meet -/
/-- loop 0 of function 25 -/
def l25_0_h : List Nat := [1, 5, 6, 7]

def l25_0_b : ACode :=
  .seq (.seq (.region none [] [
      ⟨some 10, .mov (.tmp 7), none⟩,
      ⟨some 11, .mov (.tmp 6), none⟩,
      ⟨some 12, .len .slice (.tmp 11), none⟩,
      ⟨some 13, .bin .lss .int (.tmp 10) (.tmp 12), none⟩] [1, 5, 6, 7, 13] none)
    (.cond (.tmp 13) (.skip)
    (.exit 0)))
    (.seq (.block 1 (.seq (.region none [] [
        ⟨some 16, .mov (.tmp 1), none⟩,
        ⟨some 17, .mov (.tmp 6), none⟩,
        ⟨some 18, .mov (.tmp 7), none⟩,
        ⟨some 19, .iaddr 1 (.tmp 17) (.tmp 18), none⟩,
        ⟨some 20, .load none (.tmp 19), none⟩,
        ⟨some 21, .call .pure 38 [(.tmp 16), (.tmp 20)], none⟩] [1, 5, 6, 7, 21] none)
      (.cond (.tmp 21) (.region none [] [
          ⟨some 22, .mov (.tmp 5), none⟩,
          ⟨some 23, .mov (.tmp 6), none⟩,
          ⟨some 24, .mov (.tmp 7), none⟩,
          ⟨some 25, .iaddr 1 (.tmp 23) (.tmp 24), none⟩,
          ⟨some 26, .load none (.tmp 25), none⟩,
          ⟨some 27, .lit false 1 (.int .i64 0) 1 [(0, (.tmp 26))], none⟩,
          ⟨some 28, .append 1 8 (.tmp 22) (.tmp 27), none⟩,
          ⟨some 5, .mov (.tmp 28), none⟩] [1, 5, 6, 7] none)
      (.skip))))
    (.region none [] [
      ⟨some 14, .mov (.tmp 7), none⟩,
      ⟨some 15, .bin .add .int (.tmp 14) (.cst (.int .i64 1)), none⟩,
      ⟨some 7, .mov (.tmp 15), none⟩] [1, 5, 6, 7] none))

def c25 : ACode :=
  .seq (.region none [] [
      ⟨some 4, .mov (.cst (.sl false [])), none⟩] [0, 1] none)
    (.seq (.region none [] [
      ⟨some 5, .newown 1, none⟩] [0, 1, 5] none)
    (.seq (.region none [] [
      ⟨some 8, .mov (.tmp 0), none⟩,
      ⟨some 9, .call .pure 37 [(.tmp 8)], none⟩,
      ⟨some 6, .mov (.tmp 9), none⟩] [1, 5, 6] none)
    (.seq (.seq (.region none [] [
      ⟨some 7, .mov (.cst (.int .i64 0)), none⟩] [1, 5, 6, 7] none)
    (.block 0 (.loop l25_0_h l25_0_b)))
    (.seq (.region none [] [
      ⟨some 29, .mov (.tmp 5), none⟩,
      ⟨some 4, .mov (.tmp 29), none⟩] [4] none)
    (.ret)))))

def a25 : AFunc := ⟨2, c25, [.tmp 4]⟩

def an25 : List RAnn := [
  { id := 0, live := [0, 1] },
  { id := 1, live := [0, 1, 5], ops := [(0, .own)] },
  { id := 2, live := [1, 5, 6] },
  { id := 3, live := [1, 5, 6, 7] },
  { id := 4, live := [1, 5, 6, 7, 13], hdr := [1, 5, 6, 7] },
  { id := 6, live := [1, 5, 6, 7, 21] },
  { id := 7, live := [1, 5, 6, 7] },
  { id := 5, live := [1, 5, 6, 7] },
  { id := 8, live := [4] }]

theorem comp25 : compF Try.prog an25 Try.f25 = some a25 := by kernel_rfl

/- slices.Clone[[]int,int] -/
def c26 : ACode :=
  .seq (.region none [] [
      ⟨some 2, .mov (.cst (.sl false [])), none⟩] [0] none)
    (.seq (.seq (.region none [] [
      ⟨some 3, .mov (.tmp 0), none⟩,
      ⟨some 4, .bin .eql .slice (.tmp 3) (.cst (.sl false [])), none⟩] [0, 4] none)
    (.cond (.tmp 4) (.seq (.region none [] [
        ⟨some 2, .mov (.cst (.sl false [])), none⟩] [2] none)
      (.ret))
    (.skip)))
    (.seq (.region none [] [
      ⟨some 5, .lit true 1 (.int .i64 0) 0 [], none⟩,
      ⟨some 6, .mov (.tmp 0), none⟩,
      ⟨some 7, .append 1 8 (.tmp 5) (.tmp 6), none⟩,
      ⟨some 2, .mov (.tmp 7), none⟩] [2] none)
    (.ret)))

def a26 : AFunc := ⟨1, c26, [.tmp 2]⟩

def an26 : List RAnn := [
  { id := 0, live := [0] },
  { id := 1, live := [0, 4] },
  { id := 2, live := [2] },
  { id := 3, live := [2], ops := [(0, .own)] }]

theorem comp26 : compF Try.prog an26 Try.f26 = some a26 := by kernel_rfl

/- graphdb/hyper.round -/
/-- loop 0 of function 27 -/
def l27_0_h : List Nat := [0, 3, 21, 22, 23, 27, 28, 29]

def l27_0_b : ACode :=
  .seq (.region none [] [
      ⟨some 30, .bin .lss .int (.tmp 29) (.tmp 28), none⟩] [0, 3, 21, 22, 23, 27, 28, 29, 30] none)
    (.seq (.cond (.tmp 30) (.skip)
    (.exit 2))
    (.seq (.block 3 (.seq (.region none [] [
        ⟨some 31, .iaddr 1 (.tmp 27) (.tmp 29), none⟩,
        ⟨some 32, .load none (.tmp 31), none⟩,
        ⟨some 7, .mov (.tmp 32), none⟩] [0, 3, 7, 21, 22, 23, 27, 28, 29] none)
      (.region none [] [
        ⟨some 33, .mov (.tmp 3), none⟩,
        ⟨some 34, .mov (.tmp 7), none⟩,
        ⟨some 35, .lookup .int (.int .i64 0) false (.tmp 33) (.tmp 34), none⟩,
        ⟨some 36, .bin .add .int (.tmp 35) (.cst (.int .i64 1)), none⟩,
        ⟨none, .mapset .int (.tmp 33) (.tmp 34) (.tmp 36), none⟩] [0, 3, 21, 22, 23, 27, 28, 29] none)))
    (.region none [] [
      ⟨some 37, .bin .add .int (.tmp 29) (.cst (.int .i64 1)), none⟩,
      ⟨some 29, .mov (.tmp 37), none⟩] [0, 3, 21, 22, 23, 27, 28, 29] none)))

/-- loop 1 of function 27 -/
def l27_1_h : List Nat := [0, 3, 21, 22, 23]

def l27_1_b : ACode :=
  .seq (.region none [] [
      ⟨some 24, .bin .lss .int (.tmp 23) (.tmp 22), none⟩] [0, 3, 21, 22, 23, 24] none)
    (.seq (.cond (.tmp 24) (.skip)
    (.exit 0))
    (.seq (.block 1 (.seq (.region none [] [
        ⟨some 25, .iaddr 1 (.tmp 21) (.tmp 23), none⟩,
        ⟨some 26, .load none (.tmp 25), none⟩,
        ⟨some 5, .mov (.tmp 26), none⟩] [0, 3, 5, 21, 22, 23] none)
      (.seq (.region none [] [
        ⟨some 27, .mov (.tmp 5), none⟩,
        ⟨some 28, .len .slice (.tmp 27), none⟩,
        ⟨some 29, .mov (.cst (.int .i64 0)), none⟩] [0, 3, 21, 22, 23, 27, 28, 29] none)
      (.block 2 (.loop l27_0_h l27_0_b)))))
    (.region none [] [
      ⟨some 38, .bin .add .int (.tmp 23) (.cst (.int .i64 1)), none⟩,
      ⟨some 23, .mov (.tmp 38), none⟩] [0, 3, 21, 22, 23] none)))

/-- loop 2 of function 27 -/
def l27_2_h : List Nat := [3, 8, 11, 39, 40, 41, 45, 46, 47]

def l27_2_b : ACode :=
  .seq (.region none [] [
      ⟨some 48, .bin .lss .int (.tmp 47) (.tmp 46), none⟩] [3, 8, 11, 39, 40, 41, 45, 46, 47, 48] none)
    (.seq (.cond (.tmp 48) (.skip)
    (.exit 6))
    (.seq (.block 7 (.seq (.region none [] [
        ⟨some 49, .iaddr 1 (.tmp 45) (.tmp 47), none⟩,
        ⟨some 50, .load none (.tmp 49), none⟩,
        ⟨some 13, .mov (.tmp 50), none⟩] [3, 8, 11, 13, 39, 40, 41, 45, 46, 47] none)
      (.seq (.region none [] [
        ⟨some 51, .mov (.tmp 3), none⟩,
        ⟨some 52, .mov (.tmp 13), none⟩,
        ⟨some 53, .lookup .int (.int .i64 0) false (.tmp 51) (.tmp 52), none⟩,
        ⟨some 54, .bin .gtr .int (.tmp 53) (.cst (.int .i64 1)), none⟩] [3, 8, 11, 13, 39, 40, 41, 45, 46, 47, 54] none)
      (.cond (.tmp 54) (.region none [] [
          ⟨some 55, .mov (.tmp 11), none⟩,
          ⟨some 56, .mov (.tmp 13), none⟩,
          ⟨some 57, .lit false 1 (.int .i64 0) 1 [(0, (.tmp 56))], none⟩,
          ⟨some 58, .append 1 8 (.tmp 55) (.tmp 57), none⟩,
          ⟨some 11, .mov (.tmp 58), none⟩] [3, 8, 11, 39, 40, 41, 45, 46, 47] none)
      (.skip)))))
    (.region none [] [
      ⟨some 59, .bin .add .int (.tmp 47) (.cst (.int .i64 1)), none⟩,
      ⟨some 47, .mov (.tmp 59), none⟩] [3, 8, 11, 39, 40, 41, 45, 46, 47] none)))

/-- loop 3 of function 27 -/
def l27_3_h : List Nat := [3, 8, 39, 40, 41]

def l27_3_b : ACode :=
  .seq (.region none [] [
      ⟨some 42, .bin .lss .int (.tmp 41) (.tmp 40), none⟩] [3, 8, 39, 40, 41, 42] none)
    (.seq (.cond (.tmp 42) (.skip)
    (.exit 4))
    (.seq (.block 5 (.seq (.region none [] [
        ⟨some 43, .iaddr 1 (.tmp 39) (.tmp 41), none⟩,
        ⟨some 44, .load none (.tmp 43), none⟩,
        ⟨some 10, .mov (.tmp 44), none⟩] [3, 8, 10, 39, 40, 41] none)
      (.seq (.region none [] [
        ⟨some 11, .newown 1, none⟩] [3, 8, 10, 11, 39, 40, 41] none)
      (.seq (.seq (.region none [] [
        ⟨some 45, .mov (.tmp 10), none⟩,
        ⟨some 46, .len .slice (.tmp 45), none⟩,
        ⟨some 47, .mov (.cst (.int .i64 0)), none⟩] [3, 8, 11, 39, 40, 41, 45, 46, 47] none)
      (.block 6 (.loop l27_2_h l27_2_b)))
      (.region none [11] [
        ⟨some 60, .mov (.tmp 8), none⟩,
        ⟨some 61, .mov (.tmp 11), none⟩,
        ⟨some 62, .lit false 1 (.sl false []) 1 [(0, (.tmp 61))], none⟩,
        ⟨some 63, .append 1 24 (.tmp 60) (.tmp 62), none⟩,
        ⟨some 8, .mov (.tmp 63), none⟩] [3, 8, 39, 40, 41] none)))))
    (.region none [] [
      ⟨some 64, .bin .add .int (.tmp 41) (.cst (.int .i64 1)), none⟩,
      ⟨some 41, .mov (.tmp 64), none⟩] [3, 8, 39, 40, 41] (some 2))))

/-- loop 4 of function 27 -/
def l27_4_h : List Nat := [8, 14, 15, 16, 17, 65, 66, 67, 75, 76, 77]

def l27_4_b : ACode :=
  .seq (.region none [] [
      ⟨some 78, .bin .lss .int (.tmp 77) (.tmp 76), none⟩] [8, 14, 15, 16, 17, 65, 66, 67, 75, 76, 77, 78] none)
    (.seq (.cond (.tmp 78) (.skip)
    (.exit 10))
    (.seq (.block 11 (.seq (.region none [] [
        ⟨some 79, .mov (.tmp 77), none⟩,
        ⟨some 80, .iaddr 1 (.tmp 75) (.tmp 77), none⟩,
        ⟨some 81, .load none (.tmp 80), none⟩,
        ⟨some 18, .mov (.tmp 79), none⟩,
        ⟨some 19, .mov (.tmp 81), none⟩] [8, 14, 15, 16, 17, 18, 19, 65, 66, 67, 75, 76, 77] none)
      (.seq (.region none [] [
        ⟨some 82, .mov (.tmp 18), none⟩,
        ⟨some 83, .mov (.tmp 15), none⟩,
        ⟨some 84, .bin .neq .int (.tmp 82) (.tmp 83), none⟩,
        ⟨some 85, .mov (.tmp 84), none⟩,
        ⟨some 86, .mov (.tmp 16), some (85, true)⟩,
        ⟨some 87, .mov (.tmp 19), some (85, true)⟩,
        ⟨some 88, .call .pure 39 [(.tmp 86), (.tmp 87)], some (85, true)⟩,
        ⟨some 89, .pick (.tmp 85) (.tmp 88) (.cst (.bool false)), none⟩,
        ⟨some 90, .mov (.tmp 89), none⟩,
        ⟨some 91, .mov (.tmp 16), some (90, true)⟩,
        ⟨some 92, .len .slice (.tmp 91), some (90, true)⟩,
        ⟨some 93, .mov (.tmp 19), some (90, true)⟩,
        ⟨some 94, .len .slice (.tmp 93), some (90, true)⟩,
        ⟨some 95, .bin .lss .int (.tmp 92) (.tmp 94), some (90, true)⟩,
        ⟨some 96, .mov (.tmp 95), some (90, true)⟩,
        ⟨some 97, .mov (.tmp 18), some (96, false)⟩,
        ⟨some 98, .mov (.tmp 15), some (96, false)⟩,
        ⟨some 99, .bin .lss .int (.tmp 97) (.tmp 98), some (96, false)⟩,
        ⟨some 100, .pick (.tmp 96) (.cst (.bool true)) (.tmp 99), some (90, true)⟩,
        ⟨some 101, .pick (.tmp 90) (.tmp 100) (.cst (.bool false)), none⟩] [8, 14, 15, 16, 17, 65, 66, 67, 75, 76, 77, 101] none)
      (.cond (.tmp 101) (.region none [] [
          ⟨some 17, .mov (.cst (.bool true)), none⟩] [8, 14, 15, 16, 17, 65, 66, 67, 75, 76, 77] none)
      (.skip)))))
    (.region none [] [
      ⟨some 102, .bin .add .int (.tmp 77) (.cst (.int .i64 1)), none⟩,
      ⟨some 77, .mov (.tmp 102), none⟩] [8, 14, 15, 16, 17, 65, 66, 67, 75, 76, 77] none)))

/-- loop 5 of function 27 -/
def l27_5_h : List Nat := [8, 14, 65, 66, 67]

def l27_5_b : ACode :=
  .seq (.region none [] [
      ⟨some 68, .bin .lss .int (.tmp 67) (.tmp 66), none⟩] [8, 14, 65, 66, 67, 68] none)
    (.seq (.cond (.tmp 68) (.skip)
    (.exit 8))
    (.seq (.block 9 (.seq (.region none [] [
        ⟨some 69, .mov (.tmp 67), none⟩,
        ⟨some 70, .iaddr 1 (.tmp 65) (.tmp 67), none⟩,
        ⟨some 71, .load none (.tmp 70), none⟩,
        ⟨some 15, .mov (.tmp 69), none⟩,
        ⟨some 16, .mov (.tmp 71), none⟩] [8, 14, 15, 16, 65, 66, 67] none)
      (.seq (.region none [] [
        ⟨some 72, .mov (.tmp 16), none⟩,
        ⟨some 73, .len .slice (.tmp 72), none⟩,
        ⟨some 74, .bin .eql .int (.tmp 73) (.cst (.int .i64 0)), none⟩,
        ⟨some 17, .mov (.tmp 74), none⟩] [8, 14, 15, 16, 17, 65, 66, 67] none)
      (.seq (.seq (.region none [] [
        ⟨some 75, .mov (.tmp 8), none⟩,
        ⟨some 76, .len .slice (.tmp 75), none⟩,
        ⟨some 77, .mov (.cst (.int .i64 0)), none⟩] [8, 14, 15, 16, 17, 65, 66, 67, 75, 76, 77] none)
      (.block 10 (.loop l27_4_h l27_4_b)))
      (.seq (.region none [] [
        ⟨some 103, .mov (.tmp 17), none⟩,
        ⟨some 104, .un .not (.tmp 103), none⟩] [8, 14, 16, 65, 66, 67, 104] none)
      (.cond (.tmp 104) (.region none [] [
          ⟨some 105, .mov (.tmp 14), none⟩,
          ⟨some 106, .mov (.tmp 16), none⟩,
          ⟨some 107, .lit false 1 (.sl false []) 1 [(0, (.tmp 106))], none⟩,
          ⟨some 108, .append 1 24 (.tmp 105) (.tmp 107), none⟩,
          ⟨some 14, .mov (.tmp 108), none⟩] [8, 14, 65, 66, 67] none)
      (.skip)))))))
    (.region none [] [
      ⟨some 109, .bin .add .int (.tmp 67) (.cst (.int .i64 1)), none⟩,
      ⟨some 67, .mov (.tmp 109), none⟩] [8, 14, 65, 66, 67] none)))

def c27 : ACode :=
  .seq (.region none [] [
      ⟨some 2, .mov (.cst (.sl false [])), none⟩] [0] none)
    (.seq (.region none [] [
      ⟨some 20, .mkmap, none⟩,
      ⟨some 3, .mov (.tmp 20), none⟩] [0, 3] none)
    (.seq (.seq (.region none [] [
      ⟨some 21, .mov (.tmp 0), none⟩,
      ⟨some 22, .len .slice (.tmp 21), none⟩,
      ⟨some 23, .mov (.cst (.int .i64 0)), none⟩] [0, 3, 21, 22, 23] none)
    (.block 0 (.loop l27_1_h l27_1_b)))
    (.seq (.region none [] [
      ⟨some 8, .newown 1, none⟩] [0, 3, 8] none)
    (.seq (.seq (.region none [] [
      ⟨some 39, .mov (.tmp 0), none⟩,
      ⟨some 40, .len .slice (.tmp 39), none⟩,
      ⟨some 41, .mov (.cst (.int .i64 0)), none⟩] [3, 8, 39, 40, 41] none)
    (.block 4 (.loop l27_3_h l27_3_b)))
    (.seq (.region none [] [
      ⟨some 14, .newown 1, none⟩] [8, 14] none)
    (.seq (.seq (.region none [] [
      ⟨some 65, .mov (.tmp 8), none⟩,
      ⟨some 66, .len .slice (.tmp 65), none⟩,
      ⟨some 67, .mov (.cst (.int .i64 0)), none⟩] [8, 14, 65, 66, 67] none)
    (.block 8 (.loop l27_5_h l27_5_b)))
    (.seq (.region none [] [
      ⟨some 110, .mov (.tmp 14), none⟩,
      ⟨some 2, .mov (.tmp 110), none⟩] [2] none)
    (.ret))))))))

def a27 : AFunc := ⟨1, c27, [.tmp 2]⟩

def an27 : List RAnn := [
  { id := 0, live := [0] },
  { id := 1, live := [0, 3] },
  { id := 2, live := [0, 3, 21, 22, 23] },
  { id := 3, live := [0, 3, 21, 22, 23, 24], hdr := [0, 3, 21, 22, 23] },
  { id := 4, live := [0, 3, 5, 21, 22, 23] },
  { id := 5, live := [0, 3, 21, 22, 23, 27, 28, 29] },
  { id := 6, live := [0, 3, 21, 22, 23, 27, 28, 29, 30], hdr := [0, 3, 21, 22, 23, 27, 28, 29] },
  { id := 7, live := [0, 3, 7, 21, 22, 23, 27, 28, 29] },
  { id := 8, live := [0, 3, 21, 22, 23, 27, 28, 29] },
  { id := 9, live := [0, 3, 21, 22, 23, 27, 28, 29] },
  { id := 10, live := [0, 3, 21, 22, 23] },
  { id := 11, live := [0, 3, 8], ops := [(0, .own)] },
  { id := 12, live := [3, 8, 39, 40, 41] },
  { id := 13, live := [3, 8, 39, 40, 41, 42], hdr := [3, 8, 39, 40, 41] },
  { id := 14, live := [3, 8, 10, 39, 40, 41] },
  { id := 15, live := [3, 8, 10, 11, 39, 40, 41], ops := [(0, .own)] },
  { id := 16, live := [3, 8, 11, 39, 40, 41, 45, 46, 47] },
  { id := 17, live := [3, 8, 11, 39, 40, 41, 45, 46, 47, 48], hdr := [3, 8, 11, 39, 40, 41, 45, 46, 47] },
  { id := 18, live := [3, 8, 11, 13, 39, 40, 41, 45, 46, 47] },
  { id := 19, live := [3, 8, 11, 13, 39, 40, 41, 45, 46, 47, 54] },
  { id := 20, live := [3, 8, 11, 39, 40, 41, 45, 46, 47] },
  { id := 21, live := [3, 8, 11, 39, 40, 41, 45, 46, 47] },
  { id := 22, frz := [11], live := [3, 8, 39, 40, 41] },
  { id := 23, live := [3, 8, 39, 40, 41], trunc := some 2 },
  { id := 24, live := [8, 14], ops := [(0, .own)] },
  { id := 25, live := [8, 14, 65, 66, 67] },
  { id := 26, live := [8, 14, 65, 66, 67, 68], hdr := [8, 14, 65, 66, 67] },
  { id := 27, live := [8, 14, 15, 16, 65, 66, 67] },
  { id := 28, live := [8, 14, 15, 16, 17, 65, 66, 67] },
  { id := 29, live := [8, 14, 15, 16, 17, 65, 66, 67, 75, 76, 77] },
  { id := 30, live := [8, 14, 15, 16, 17, 65, 66, 67, 75, 76, 77, 78], hdr := [8, 14, 15, 16, 17, 65, 66, 67, 75, 76, 77] },
  { id := 31, live := [8, 14, 15, 16, 17, 18, 19, 65, 66, 67, 75, 76, 77] },
  { id := 32, live := [8, 14, 15, 16, 17, 65, 66, 67, 75, 76, 77, 101] },
  { id := 33, live := [8, 14, 15, 16, 17, 65, 66, 67, 75, 76, 77] },
  { id := 34, live := [8, 14, 15, 16, 17, 65, 66, 67, 75, 76, 77] },
  { id := 35, live := [8, 14, 16, 65, 66, 67, 104] },
  { id := 36, live := [8, 14, 65, 66, 67] },
  { id := 37, live := [8, 14, 65, 66, 67] },
  { id := 38, live := [2] }]

theorem comp27 : compF Try.prog an27 Try.f27 = some a27 := by kernel_rfl

/- slices.EqualFunc[[][]int,[][]int,[]int,[]int] -/
/-- loop 0 of function 28 -/
def l28_0_h : List Nat := [1, 2, 15, 16, 17]

def l28_0_b : ACode :=
  .seq (.region none [] [
      ⟨some 18, .bin .lss .int (.tmp 17) (.tmp 16), none⟩] [1, 2, 15, 16, 17, 18] none)
    (.seq (.cond (.tmp 18) (.skip)
    (.exit 0))
    (.seq (.block 1 (.seq (.region none [] [
        ⟨some 19, .mov (.tmp 17), none⟩,
        ⟨some 20, .iaddr 1 (.tmp 15) (.tmp 17), none⟩,
        ⟨some 21, .load none (.tmp 20), none⟩,
        ⟨some 7, .mov (.tmp 19), none⟩,
        ⟨some 8, .mov (.tmp 21), none⟩] [1, 2, 7, 8, 15, 16, 17] none)
      (.seq (.region none [] [
        ⟨some 22, .mov (.tmp 1), none⟩,
        ⟨some 23, .mov (.tmp 7), none⟩,
        ⟨some 24, .iaddr 1 (.tmp 22) (.tmp 23), none⟩,
        ⟨some 25, .load none (.tmp 24), none⟩,
        ⟨some 9, .mov (.tmp 25), none⟩] [1, 2, 8, 9, 15, 16, 17] none)
      (.seq (.region none [] [
        ⟨some 26, .mov (.tmp 2), none⟩,
        ⟨some 27, .mov (.tmp 8), none⟩,
        ⟨some 28, .mov (.tmp 9), none⟩,
        ⟨some 29, .callv .pure (.tmp 26) [(.tmp 27), (.tmp 28)], none⟩,
        ⟨some 30, .un .not (.tmp 29), none⟩] [1, 2, 15, 16, 17, 30] none)
      (.cond (.tmp 30) (.seq (.region none [] [
          ⟨some 6, .mov (.cst (.bool false)), none⟩] [6] none)
        (.ret))
      (.skip))))))
    (.region none [] [
      ⟨some 31, .bin .add .int (.tmp 17) (.cst (.int .i64 1)), none⟩,
      ⟨some 17, .mov (.tmp 31), none⟩] [1, 2, 15, 16, 17] none)))

def c28 : ACode :=
  .seq (.region none [] [
      ⟨some 6, .mov (.cst (.bool false)), none⟩] [0, 1, 2] none)
    (.seq (.seq (.region none [] [
      ⟨some 10, .mov (.tmp 0), none⟩,
      ⟨some 11, .len .slice (.tmp 10), none⟩,
      ⟨some 12, .mov (.tmp 1), none⟩,
      ⟨some 13, .len .slice (.tmp 12), none⟩,
      ⟨some 14, .bin .neq .int (.tmp 11) (.tmp 13), none⟩] [0, 1, 2, 14] none)
    (.cond (.tmp 14) (.seq (.region none [] [
        ⟨some 6, .mov (.cst (.bool false)), none⟩] [6] none)
      (.ret))
    (.skip)))
    (.seq (.seq (.region none [] [
      ⟨some 15, .mov (.tmp 0), none⟩,
      ⟨some 16, .len .slice (.tmp 15), none⟩,
      ⟨some 17, .mov (.cst (.int .i64 0)), none⟩] [1, 2, 15, 16, 17] none)
    (.block 0 (.loop l28_0_h l28_0_b)))
    (.seq (.region none [] [
      ⟨some 6, .mov (.cst (.bool true)), none⟩] [6] none)
    (.ret))))

def a28 : AFunc := ⟨3, c28, [.tmp 6]⟩

def an28 : List RAnn := [
  { id := 0, live := [0, 1, 2] },
  { id := 1, live := [0, 1, 2, 14] },
  { id := 2, live := [6] },
  { id := 3, live := [1, 2, 15, 16, 17] },
  { id := 4, live := [1, 2, 15, 16, 17, 18], hdr := [1, 2, 15, 16, 17] },
  { id := 5, live := [1, 2, 7, 8, 15, 16, 17] },
  { id := 6, live := [1, 2, 8, 9, 15, 16, 17] },
  { id := 7, live := [1, 2, 15, 16, 17, 30] },
  { id := 8, live := [6] },
  { id := 9, live := [1, 2, 15, 16, 17] },
  { id := 10, live := [6] }]

theorem comp28 : compF Try.prog an28 Try.f28 = some a28 := by kernel_rfl

/- slices.Equal[[]int,int] -/
/-- loop 0 of function 29 -/
def l29_0_h : List Nat := [0, 1, 12, 13]

def l29_0_b : ACode :=
  .seq (.region none [] [
      ⟨some 14, .bin .lss .int (.tmp 13) (.tmp 12), none⟩] [0, 1, 12, 13, 14] none)
    (.seq (.cond (.tmp 14) (.skip)
    (.exit 0))
    (.seq (.block 1 (.seq (.region none [] [
        ⟨some 15, .mov (.tmp 13), none⟩,
        ⟨some 5, .mov (.tmp 15), none⟩] [0, 1, 5, 12, 13] none)
      (.seq (.region (some 9) [] [
        ⟨some 16, .mov (.tmp 0), none⟩,
        ⟨some 17, .mov (.tmp 5), none⟩,
        ⟨some 18, .iaddr 1 (.tmp 16) (.tmp 17), none⟩,
        ⟨some 19, .load none (.tmp 18), none⟩,
        ⟨some 20, .mov (.tmp 1), none⟩,
        ⟨some 21, .mov (.tmp 5), none⟩,
        ⟨some 22, .iaddr 1 (.tmp 20) (.tmp 21), none⟩,
        ⟨some 23, .load none (.tmp 22), none⟩,
        ⟨some 24, .bin .neq .int (.tmp 19) (.tmp 23), none⟩] [0, 1, 12, 13, 24] none)
      (.cond (.tmp 24) (.seq (.region none [] [
          ⟨some 4, .mov (.cst (.bool false)), none⟩] [4] none)
        (.ret))
      (.skip)))))
    (.region none [] [
      ⟨some 25, .bin .add .int (.tmp 13) (.cst (.int .i64 1)), none⟩,
      ⟨some 13, .mov (.tmp 25), none⟩] [0, 1, 12, 13] none)))

def c29 : ACode :=
  .seq (.region none [] [
      ⟨some 4, .mov (.cst (.bool false)), none⟩] [0, 1] none)
    (.seq (.seq (.region none [] [
      ⟨some 6, .mov (.tmp 0), none⟩,
      ⟨some 7, .len .slice (.tmp 6), none⟩,
      ⟨some 8, .mov (.tmp 1), none⟩,
      ⟨some 9, .len .slice (.tmp 8), none⟩,
      ⟨some 10, .bin .neq .int (.tmp 7) (.tmp 9), none⟩] [0, 1, 10] none)
    (.cond (.tmp 10) (.seq (.region none [] [
        ⟨some 4, .mov (.cst (.bool false)), none⟩] [4] none)
      (.ret))
    (.skip)))
    (.seq (.seq (.region none [] [
      ⟨some 11, .mov (.tmp 0), none⟩,
      ⟨some 12, .len .slice (.tmp 11), none⟩,
      ⟨some 13, .mov (.cst (.int .i64 0)), none⟩] [0, 1, 12, 13] none)
    (.block 0 (.loop l29_0_h l29_0_b)))
    (.seq (.region none [] [
      ⟨some 4, .mov (.cst (.bool true)), none⟩] [4] none)
    (.ret))))

def a29 : AFunc := ⟨2, c29, [.tmp 4]⟩

def an29 : List RAnn := [
  { id := 0, live := [0, 1] },
  { id := 1, live := [0, 1, 10] },
  { id := 2, live := [4] },
  { id := 3, live := [0, 1, 12, 13] },
  { id := 4, live := [0, 1, 12, 13, 14], hdr := [0, 1, 12, 13] },
  { id := 5, live := [0, 1, 5, 12, 13] },
  { id := 6, head := some 9, live := [0, 1, 12, 13, 24] },
  { id := 7, live := [4] },
  { id := 8, live := [0, 1, 12, 13] },
  { id := 9, live := [4] }]

theorem comp29 : compF Try.prog an29 Try.f29 = some a29 := by kernel_rfl

/- graphdb/graphdbref29.round -/
/-- loop 0 of function 30 -/
def l30_0_h : List Nat := [0, 3, 4]

def l30_0_b : ACode :=
  .seq (.seq (.region none [] [
      ⟨some 9, .mov (.tmp 4), none⟩,
      ⟨some 10, .mov (.tmp 0), none⟩,
      ⟨some 11, .len .slice (.tmp 10), none⟩,
      ⟨some 12, .bin .lss .int (.tmp 9) (.tmp 11), none⟩] [0, 3, 4, 12] none)
    (.cond (.tmp 12) (.skip)
    (.exit 0)))
    (.seq (.block 1 (.region none [] [
        ⟨some 15, .mov (.tmp 3), none⟩,
        ⟨some 16, .mov (.tmp 0), none⟩,
        ⟨some 17, .mov (.tmp 0), none⟩,
        ⟨some 18, .mov (.tmp 4), none⟩,
        ⟨some 19, .iaddr 1 (.tmp 17) (.tmp 18), none⟩,
        ⟨some 20, .load none (.tmp 19), none⟩,
        ⟨some 21, .call .pure 40 [(.tmp 16), (.tmp 20)], none⟩,
        ⟨some 22, .lit false 1 (.sl false []) 1 [(0, (.tmp 21))], none⟩,
        ⟨some 23, .append 1 24 (.tmp 15) (.tmp 22), none⟩,
        ⟨some 3, .mov (.tmp 23), none⟩] [0, 3, 4] none))
    (.region none [] [
      ⟨some 13, .mov (.tmp 4), none⟩,
      ⟨some 14, .bin .add .int (.tmp 13) (.cst (.int .i64 1)), none⟩,
      ⟨some 4, .mov (.tmp 14), none⟩] [0, 3, 4] none))

/-- loop 1 of function 30 -/
def l30_1_h : List Nat := [3, 5, 6, 7, 8]

def l30_1_b : ACode :=
  .seq (.seq (.region none [] [
      ⟨some 36, .mov (.tmp 8), none⟩,
      ⟨some 37, .mov (.tmp 3), none⟩,
      ⟨some 38, .len .slice (.tmp 37), none⟩,
      ⟨some 39, .bin .lss .int (.tmp 36) (.tmp 38), none⟩] [3, 5, 6, 7, 8, 39] none)
    (.cond (.tmp 39) (.skip)
    (.exit 4)))
    (.seq (.block 5 (.seq (.region (some 32) [] [
        ⟨some 42, .mov (.tmp 8), none⟩,
        ⟨some 43, .mov (.tmp 6), none⟩,
        ⟨some 44, .bin .neq .int (.tmp 42) (.tmp 43), none⟩,
        ⟨some 45, .mov (.tmp 44), none⟩,
        ⟨some 46, .mov (.tmp 3), some (45, true)⟩,
        ⟨some 47, .mov (.tmp 6), some (45, true)⟩,
        ⟨some 48, .iaddr 1 (.tmp 46) (.tmp 47), some (45, true)⟩,
        ⟨some 49, .load none (.tmp 48), some (45, true)⟩,
        ⟨some 50, .mov (.tmp 3), some (45, true)⟩,
        ⟨some 51, .mov (.tmp 8), some (45, true)⟩,
        ⟨some 52, .iaddr 1 (.tmp 50) (.tmp 51), some (45, true)⟩,
        ⟨some 53, .load none (.tmp 52), some (45, true)⟩,
        ⟨some 54, .call .pure 41 [(.tmp 49), (.tmp 53)], some (45, true)⟩,
        ⟨some 55, .pick (.tmp 45) (.tmp 54) (.cst (.bool false)), none⟩,
        ⟨some 56, .mov (.tmp 55), none⟩,
        ⟨some 57, .mov (.tmp 3), some (56, true)⟩,
        ⟨some 58, .mov (.tmp 6), some (56, true)⟩,
        ⟨some 59, .iaddr 1 (.tmp 57) (.tmp 58), some (56, true)⟩,
        ⟨some 60, .load none (.tmp 59), some (56, true)⟩,
        ⟨some 61, .len .slice (.tmp 60), some (56, true)⟩,
        ⟨some 62, .mov (.tmp 3), some (56, true)⟩,
        ⟨some 63, .mov (.tmp 8), some (56, true)⟩,
        ⟨some 64, .iaddr 1 (.tmp 62) (.tmp 63), some (56, true)⟩,
        ⟨some 65, .load none (.tmp 64), some (56, true)⟩,
        ⟨some 66, .len .slice (.tmp 65), some (56, true)⟩,
        ⟨some 67, .bin .lss .int (.tmp 61) (.tmp 66), some (56, true)⟩,
        ⟨some 68, .mov (.tmp 67), some (56, true)⟩,
        ⟨some 69, .mov (.tmp 8), some (68, false)⟩,
        ⟨some 70, .mov (.tmp 6), some (68, false)⟩,
        ⟨some 71, .bin .lss .int (.tmp 69) (.tmp 70), some (68, false)⟩,
        ⟨some 72, .pick (.tmp 68) (.cst (.bool true)) (.tmp 71), some (56, true)⟩,
        ⟨some 73, .pick (.tmp 56) (.tmp 72) (.cst (.bool false)), none⟩] [3, 5, 6, 7, 8, 73] none)
      (.cond (.tmp 73) (.region none [] [
          ⟨some 7, .mov (.cst (.bool false)), none⟩] [3, 5, 6, 7, 8] none)
      (.skip))))
    (.region none [] [
      ⟨some 40, .mov (.tmp 8), none⟩,
      ⟨some 41, .bin .add .int (.tmp 40) (.cst (.int .i64 1)), none⟩,
      ⟨some 8, .mov (.tmp 41), none⟩] [3, 5, 6, 7, 8] none))

/-- loop 2 of function 30 -/
def l30_2_h : List Nat := [3, 5, 6]

def l30_2_b : ACode :=
  .seq (.seq (.region none [] [
      ⟨some 24, .mov (.tmp 6), none⟩,
      ⟨some 25, .mov (.tmp 3), none⟩,
      ⟨some 26, .len .slice (.tmp 25), none⟩,
      ⟨some 27, .bin .lss .int (.tmp 24) (.tmp 26), none⟩] [3, 5, 6, 27] none)
    (.cond (.tmp 27) (.skip)
    (.exit 2)))
    (.seq (.block 3 (.seq (.region none [] [
        ⟨some 30, .mov (.tmp 3), none⟩,
        ⟨some 31, .mov (.tmp 6), none⟩,
        ⟨some 32, .iaddr 1 (.tmp 30) (.tmp 31), none⟩,
        ⟨some 33, .load none (.tmp 32), none⟩,
        ⟨some 34, .len .slice (.tmp 33), none⟩,
        ⟨some 35, .bin .gtr .int (.tmp 34) (.cst (.int .i64 0)), none⟩,
        ⟨some 7, .mov (.tmp 35), none⟩] [3, 5, 6, 7] none)
      (.seq (.seq (.region none [] [
        ⟨some 8, .mov (.cst (.int .i64 0)), none⟩] [3, 5, 6, 7, 8] none)
      (.block 4 (.loop l30_1_h l30_1_b)))
      (.seq (.region none [] [
        ⟨some 74, .mov (.tmp 7), none⟩] [3, 5, 6, 74] none)
      (.cond (.tmp 74) (.region none [] [
          ⟨some 75, .mov (.tmp 5), none⟩,
          ⟨some 76, .mov (.tmp 3), none⟩,
          ⟨some 77, .mov (.tmp 6), none⟩,
          ⟨some 78, .iaddr 1 (.tmp 76) (.tmp 77), none⟩,
          ⟨some 79, .load none (.tmp 78), none⟩,
          ⟨some 80, .lit false 1 (.sl false []) 1 [(0, (.tmp 79))], none⟩,
          ⟨some 81, .append 1 24 (.tmp 75) (.tmp 80), none⟩,
          ⟨some 5, .mov (.tmp 81), none⟩] [3, 5, 6] none)
      (.skip))))))
    (.region none [] [
      ⟨some 28, .mov (.tmp 6), none⟩,
      ⟨some 29, .bin .add .int (.tmp 28) (.cst (.int .i64 1)), none⟩,
      ⟨some 6, .mov (.tmp 29), none⟩] [3, 5, 6] none))

def c30 : ACode :=
  .seq (.region none [] [
      ⟨some 2, .mov (.cst (.sl false [])), none⟩] [0] none)
    (.seq (.region none [] [
      ⟨some 3, .newown 1, none⟩] [0, 3] none)
    (.seq (.seq (.region none [] [
      ⟨some 4, .mov (.cst (.int .i64 0)), none⟩] [0, 3, 4] none)
    (.block 0 (.loop l30_0_h l30_0_b)))
    (.seq (.region none [] [
      ⟨some 5, .newown 1, none⟩] [3, 5] none)
    (.seq (.seq (.region none [] [
      ⟨some 6, .mov (.cst (.int .i64 0)), none⟩] [3, 5, 6] none)
    (.block 2 (.loop l30_2_h l30_2_b)))
    (.seq (.region none [] [
      ⟨some 82, .mov (.tmp 5), none⟩,
      ⟨some 2, .mov (.tmp 82), none⟩] [2] none)
    (.ret))))))

def a30 : AFunc := ⟨1, c30, [.tmp 2]⟩

def an30 : List RAnn := [
  { id := 0, live := [0] },
  { id := 1, live := [0, 3], ops := [(0, .own)] },
  { id := 2, live := [0, 3, 4] },
  { id := 3, live := [0, 3, 4, 12], hdr := [0, 3, 4] },
  { id := 5, live := [0, 3, 4] },
  { id := 4, live := [0, 3, 4] },
  { id := 6, live := [3, 5], ops := [(0, .own)] },
  { id := 7, live := [3, 5, 6] },
  { id := 8, live := [3, 5, 6, 27], hdr := [3, 5, 6] },
  { id := 10, live := [3, 5, 6, 7] },
  { id := 11, live := [3, 5, 6, 7, 8] },
  { id := 12, live := [3, 5, 6, 7, 8, 39], hdr := [3, 5, 6, 7, 8] },
  { id := 14, head := some 32, live := [3, 5, 6, 7, 8, 73] },
  { id := 15, live := [3, 5, 6, 7, 8] },
  { id := 13, live := [3, 5, 6, 7, 8] },
  { id := 16, live := [3, 5, 6, 74] },
  { id := 17, live := [3, 5, 6] },
  { id := 9, live := [3, 5, 6] },
  { id := 18, live := [2] }]

theorem comp30 : compF Try.prog an30 Try.f30 = some a30 := by kernel_rfl

/- (*graphdb/hyper.forest).remove -/
/-- loop 0 of function 31 -/
def l31_0_h : List Nat := [0, 10, 11]

def l31_0_b : ACode :=
  .seq (.region none [] [
      ⟨some 12, .bin .lss .int (.tmp 11) (.tmp 10), none⟩] [0, 10, 11, 12] none)
    (.seq (.cond (.tmp 12) (.skip)
    (.exit 0))
    (.seq (.block 1 (.seq (.region none [] [
        ⟨some 13, .mov (.tmp 11), none⟩,
        ⟨some 3, .mov (.tmp 13), none⟩] [0, 3, 10, 11] none)
      (.seq (.seq (.region none [] [
        ⟨some 14, .mov (.tmp 0), none⟩,
        ⟨some 15, .nilchk (.tmp 14), none⟩,
        ⟨some 16, .faddr 1 (.tmp 15), none⟩,
        ⟨some 17, .load none (.tmp 16), none⟩,
        ⟨some 18, .mov (.tmp 3), none⟩,
        ⟨some 19, .iaddr 1 (.tmp 17) (.tmp 18), none⟩,
        ⟨some 20, .load none (.tmp 19), none⟩] [0, 3, 10, 11, 20] none)
      (.cond (.tmp 20) (.exit 1)
      (.skip)))
      (.seq (.region none [] [
        ⟨some 22, .mov (.tmp 0), none⟩,
        ⟨some 23, .mov (.tmp 3), none⟩,
        ⟨some 24, .call .share 42 [(.tmp 22), (.tmp 23)], none⟩,
        ⟨some 21, .mov (.tmp 24), none⟩,
        ⟨some 25, .ext (.tmp 21) 0, none⟩,
        ⟨some 26, .ext (.tmp 21) 1, none⟩,
        ⟨some 4, .mov (.tmp 25), none⟩,
        ⟨some 5, .mov (.tmp 26), none⟩] [0, 3, 4, 5, 10, 11] none)
      (.seq (.region none [] [
        ⟨some 27, .mov (.tmp 5), none⟩] [0, 3, 4, 10, 11, 27] none)
      (.cond (.tmp 27) (.seq (.region none [] [
          ⟨some 28, .mov (.tmp 0), none⟩,
          ⟨some 29, .nilchk (.tmp 28), none⟩,
          ⟨some 30, .faddr 1 (.tmp 29), none⟩,
          ⟨some 31, .load none (.tmp 30), none⟩,
          ⟨some 32, .mov (.tmp 3), none⟩,
          ⟨some 33, .iaddr 1 (.tmp 31) (.tmp 32), none⟩,
          ⟨none, .store 1 (.tmp 33) (.cst (.bool true)), none⟩] [0, 3, 4] none)
        (.seq (.region none [] [
          ⟨some 34, .mov (.tmp 0), none⟩,
          ⟨some 35, .nilchk (.tmp 34), none⟩,
          ⟨some 36, .faddr 2 (.tmp 35), none⟩,
          ⟨some 37, .load none (.tmp 36), none⟩,
          ⟨some 38, .mov (.tmp 3), none⟩,
          ⟨some 39, .mov (.tmp 4), none⟩,
          ⟨some 40, .iaddr 1 (.tmp 37) (.tmp 38), none⟩,
          ⟨none, .store 1 (.tmp 40) (.tmp 39), none⟩] [] none)
        (.seq (.region none [] [
          ⟨some 2, .mov (.cst (.bool true)), none⟩] [2] none)
        (.ret))))
      (.skip)))))))
    (.region none [] [
      ⟨some 41, .bin .add .int (.tmp 11) (.cst (.int .i64 1)), none⟩,
      ⟨some 11, .mov (.tmp 41), none⟩] [0, 10, 11] none)))

def c31 : ACode :=
  .seq (.region none [] [
      ⟨some 2, .mov (.cst (.bool false)), none⟩] [0] none)
    (.seq (.seq (.region none [] [
      ⟨some 6, .mov (.tmp 0), none⟩,
      ⟨some 7, .nilchk (.tmp 6), none⟩,
      ⟨some 8, .faddr 0 (.tmp 7), none⟩,
      ⟨some 9, .load none (.tmp 8), none⟩,
      ⟨some 10, .len .slice (.tmp 9), none⟩,
      ⟨some 11, .mov (.cst (.int .i64 0)), none⟩] [0, 10, 11] none)
    (.block 0 (.loop l31_0_h l31_0_b)))
    (.seq (.region none [] [
      ⟨some 2, .mov (.cst (.bool false)), none⟩] [2] none)
    (.ret)))

def a31 : AFunc := ⟨1, c31, [.tmp 2]⟩

def an31 : List RAnn := [
  { id := 0, live := [0] },
  { id := 1, live := [0, 10, 11] },
  { id := 2, live := [0, 10, 11, 12], hdr := [0, 10, 11] },
  { id := 3, live := [0, 3, 10, 11] },
  { id := 4, live := [0, 3, 10, 11, 20] },
  { id := 5, live := [0, 3, 4, 5, 10, 11], ops := [(2, .mode .share)] },
  { id := 6, live := [0, 3, 4, 10, 11, 27] },
  { id := 7, live := [0, 3, 4] },
  { id := 8 },
  { id := 9, live := [2] },
  { id := 10, live := [0, 10, 11] },
  { id := 11, live := [2] }]

theorem comp31 : compF Try.prog an31 Try.f31 = some a31 := by kernel_rfl

/- graphdb/graphdbref29.ear -/
/-- loop 0 of function 32 -/
def l32_0_h : List Nat := [1, 2, 3, 7, 8, 9]

def l32_0_b : ACode :=
  .seq (.seq (.region none [] [
      ⟨some 21, .mov (.tmp 9), none⟩,
      ⟨some 22, .faddr 1 (.tmp 3), none⟩,
      ⟨some 23, .load none (.tmp 22), none⟩,
      ⟨some 24, .len .slice (.tmp 23), none⟩,
      ⟨some 25, .bin .lss .int (.tmp 21) (.tmp 24), none⟩] [1, 2, 3, 7, 8, 9, 25] none)
    (.cond (.tmp 25) (.skip)
    (.exit 2)))
    (.seq (.block 3 (.seq (.region (some 39) [] [
        ⟨some 28, .mov (.tmp 9), none⟩,
        ⟨some 29, .mov (.tmp 2), none⟩,
        ⟨some 30, .bin .neq .int (.tmp 28) (.tmp 29), none⟩,
        ⟨some 31, .mov (.tmp 30), none⟩,
        ⟨some 32, .mov (.tmp 1), some (31, true)⟩,
        ⟨some 33, .mov (.tmp 9), some (31, true)⟩,
        ⟨some 34, .iaddr 1 (.tmp 32) (.tmp 33), some (31, true)⟩,
        ⟨some 35, .load none (.tmp 34), some (31, true)⟩,
        ⟨some 36, .un .not (.tmp 35), some (31, true)⟩,
        ⟨some 37, .pick (.tmp 31) (.tmp 36) (.cst (.bool false)), none⟩,
        ⟨some 38, .mov (.tmp 37), none⟩,
        ⟨some 39, .faddr 1 (.tmp 3), some (38, true)⟩,
        ⟨some 40, .load none (.tmp 39), some (38, true)⟩,
        ⟨some 41, .mov (.tmp 9), some (38, true)⟩,
        ⟨some 42, .iaddr 1 (.tmp 40) (.tmp 41), some (38, true)⟩,
        ⟨some 43, .load none (.tmp 42), some (38, true)⟩,
        ⟨some 44, .faddr 1 (.tmp 3), some (38, true)⟩,
        ⟨some 45, .load none (.tmp 44), some (38, true)⟩,
        ⟨some 46, .mov (.tmp 2), some (38, true)⟩,
        ⟨some 47, .iaddr 1 (.tmp 45) (.tmp 46), some (38, true)⟩,
        ⟨some 48, .load none (.tmp 47), some (38, true)⟩,
        ⟨some 49, .mov (.tmp 8), some (38, true)⟩,
        ⟨some 50, .iaddr 1 (.tmp 48) (.tmp 49), some (38, true)⟩,
        ⟨some 51, .load none (.tmp 50), some (38, true)⟩,
        ⟨some 52, .call .pure 36 [(.tmp 43), (.tmp 51)], some (38, true)⟩,
        ⟨some 53, .pick (.tmp 38) (.tmp 52) (.cst (.bool false)), none⟩,
        ⟨some 54, .mov (.tmp 53), none⟩,
        ⟨some 55, .mov (.tmp 7), some (54, true)⟩,
        ⟨some 56, .faddr 1 (.tmp 3), some (54, true)⟩,
        ⟨some 57, .load none (.tmp 56), some (54, true)⟩,
        ⟨some 58, .mov (.tmp 2), some (54, true)⟩,
        ⟨some 59, .iaddr 1 (.tmp 57) (.tmp 58), some (54, true)⟩,
        ⟨some 60, .load none (.tmp 59), some (54, true)⟩,
        ⟨some 61, .mov (.tmp 8), some (54, true)⟩,
        ⟨some 62, .iaddr 1 (.tmp 60) (.tmp 61), some (54, true)⟩,
        ⟨some 63, .load none (.tmp 62), some (54, true)⟩,
        ⟨some 64, .call .borrow 36 [(.tmp 55), (.tmp 63)], some (54, true)⟩,
        ⟨some 65, .un .not (.tmp 64), some (54, true)⟩,
        ⟨some 66, .pick (.tmp 54) (.tmp 65) (.cst (.bool false)), none⟩] [1, 2, 3, 7, 8, 9, 66] none)
      (.cond (.tmp 66) (.region none [] [
          ⟨some 67, .mov (.tmp 7), none⟩,
          ⟨some 68, .faddr 1 (.tmp 3), none⟩,
          ⟨some 69, .load none (.tmp 68), none⟩,
          ⟨some 70, .mov (.tmp 2), none⟩,
          ⟨some 71, .iaddr 1 (.tmp 69) (.tmp 70), none⟩,
          ⟨some 72, .load none (.tmp 71), none⟩,
          ⟨some 73, .mov (.tmp 8), none⟩,
          ⟨some 74, .iaddr 1 (.tmp 72) (.tmp 73), none⟩,
          ⟨some 75, .load none (.tmp 74), none⟩,
          ⟨some 76, .lit false 1 (.int .i64 0) 1 [(0, (.tmp 75))], none⟩,
          ⟨some 77, .append 1 8 (.tmp 67) (.tmp 76), none⟩,
          ⟨some 7, .mov (.tmp 77), none⟩] [1, 2, 3, 7, 8, 9] none)
      (.skip))))
    (.region none [] [
      ⟨some 26, .mov (.tmp 9), none⟩,
      ⟨some 27, .bin .add .int (.tmp 26) (.cst (.int .i64 1)), none⟩,
      ⟨some 9, .mov (.tmp 27), none⟩] [1, 2, 3, 7, 8, 9] none))

/-- loop 1 of function 32 -/
def l32_1_h : List Nat := [1, 2, 3, 7, 8]

def l32_1_b : ACode :=
  .seq (.seq (.region none [] [
      ⟨some 11, .mov (.tmp 8), none⟩,
      ⟨some 12, .faddr 1 (.tmp 3), none⟩,
      ⟨some 13, .load none (.tmp 12), none⟩,
      ⟨some 14, .mov (.tmp 2), none⟩,
      ⟨some 15, .iaddr 1 (.tmp 13) (.tmp 14), none⟩,
      ⟨some 16, .load none (.tmp 15), none⟩,
      ⟨some 17, .len .slice (.tmp 16), none⟩,
      ⟨some 18, .bin .lss .int (.tmp 11) (.tmp 17), none⟩] [1, 2, 3, 7, 8, 18] none)
    (.cond (.tmp 18) (.skip)
    (.exit 0)))
    (.seq (.block 1 (.seq (.region none [] [
        ⟨some 9, .mov (.cst (.int .i64 0)), none⟩] [1, 2, 3, 7, 8, 9] none)
      (.block 2 (.loop l32_0_h l32_0_b))))
    (.region none [] [
      ⟨some 19, .mov (.tmp 8), none⟩,
      ⟨some 20, .bin .add .int (.tmp 19) (.cst (.int .i64 1)), none⟩,
      ⟨some 8, .mov (.tmp 20), none⟩] [1, 2, 3, 7, 8] none))

/-- loop 2 of function 32 -/
def l32_2_h : List Nat := [1, 2, 3, 7, 10]

def l32_2_b : ACode :=
  .seq (.seq (.region none [] [
      ⟨some 81, .mov (.tmp 10), none⟩,
      ⟨some 82, .faddr 1 (.tmp 3), none⟩,
      ⟨some 83, .load none (.tmp 82), none⟩,
      ⟨some 84, .len .slice (.tmp 83), none⟩,
      ⟨some 85, .bin .lss .int (.tmp 81) (.tmp 84), none⟩] [1, 2, 3, 7, 10, 85] none)
    (.cond (.tmp 85) (.skip)
    (.exit 4)))
    (.seq (.block 5 (.seq (.region none [] [
        ⟨some 88, .mov (.tmp 10), none⟩,
        ⟨some 89, .mov (.tmp 2), none⟩,
        ⟨some 90, .bin .neq .int (.tmp 88) (.tmp 89), none⟩,
        ⟨some 91, .mov (.tmp 90), none⟩,
        ⟨some 92, .mov (.tmp 1), some (91, true)⟩,
        ⟨some 93, .mov (.tmp 10), some (91, true)⟩,
        ⟨some 94, .iaddr 1 (.tmp 92) (.tmp 93), some (91, true)⟩,
        ⟨some 95, .load none (.tmp 94), some (91, true)⟩,
        ⟨some 96, .un .not (.tmp 95), some (91, true)⟩,
        ⟨some 97, .pick (.tmp 91) (.tmp 96) (.cst (.bool false)), none⟩,
        ⟨some 98, .mov (.tmp 97), none⟩,
        ⟨some 99, .mov (.tmp 7), some (98, true)⟩,
        ⟨some 100, .faddr 1 (.tmp 3), some (98, true)⟩,
        ⟨some 101, .load none (.tmp 100), some (98, true)⟩,
        ⟨some 102, .mov (.tmp 10), some (98, true)⟩,
        ⟨some 103, .iaddr 1 (.tmp 101) (.tmp 102), some (98, true)⟩,
        ⟨some 104, .load none (.tmp 103), some (98, true)⟩,
        ⟨some 105, .call .borrow 41 [(.tmp 99), (.tmp 104)], some (98, true)⟩,
        ⟨some 106, .pick (.tmp 98) (.tmp 105) (.cst (.bool false)), none⟩] [1, 2, 3, 7, 10, 106] none)
      (.cond (.tmp 106) (.seq (.region none [] [
          ⟨some 107, .mov (.tmp 10), none⟩,
          ⟨some 6, .mov (.tmp 107), none⟩] [6] none)
        (.ret))
      (.skip))))
    (.region none [] [
      ⟨some 86, .mov (.tmp 10), none⟩,
      ⟨some 87, .bin .add .int (.tmp 86) (.cst (.int .i64 1)), none⟩,
      ⟨some 10, .mov (.tmp 87), none⟩] [1, 2, 3, 7, 10] none))

def c32 : ACode :=
  .seq (.region none [] [
      ⟨some 3, .box 2 (.tmp 0), none⟩,
      ⟨some 6, .mov (.cst (.int .i64 0)), none⟩] [1, 2, 3] none)
    (.seq (.region none [] [
      ⟨some 7, .newown 1, none⟩] [1, 2, 3, 7] none)
    (.seq (.seq (.region none [] [
      ⟨some 8, .mov (.cst (.int .i64 0)), none⟩] [1, 2, 3, 7, 8] none)
    (.block 0 (.loop l32_1_h l32_1_b)))
    (.seq (.seq (.region none [] [
      ⟨some 78, .mov (.tmp 7), none⟩,
      ⟨some 79, .len .slice (.tmp 78), none⟩,
      ⟨some 80, .bin .eql .int (.tmp 79) (.cst (.int .i64 0)), none⟩] [1, 2, 3, 7, 80] none)
    (.cond (.tmp 80) (.seq (.region none [] [
        ⟨some 6, .mov (.cst (.int .i64 (-1))), none⟩] [6] none)
      (.ret))
    (.skip)))
    (.seq (.seq (.region none [] [
      ⟨some 10, .mov (.cst (.int .i64 0)), none⟩] [1, 2, 3, 7, 10] none)
    (.block 4 (.loop l32_2_h l32_2_b)))
    (.seq (.region none [] [
      ⟨some 6, .mov (.cst (.int .i64 (-2))), none⟩] [6] none)
    (.ret))))))

def a32 : AFunc := ⟨3, c32, [.tmp 6]⟩

def an32 : List RAnn := [
  { id := 0, live := [1, 2, 3] },
  { id := 1, live := [1, 2, 3, 7], ops := [(0, .own)] },
  { id := 2, live := [1, 2, 3, 7, 8] },
  { id := 3, live := [1, 2, 3, 7, 8, 18], hdr := [1, 2, 3, 7, 8] },
  { id := 5, live := [1, 2, 3, 7, 8, 9] },
  { id := 6, live := [1, 2, 3, 7, 8, 9, 25], hdr := [1, 2, 3, 7, 8, 9] },
  { id := 8, head := some 39, live := [1, 2, 3, 7, 8, 9, 66], ops := [(36, .mode .borrow)] },
  { id := 9, live := [1, 2, 3, 7, 8, 9] },
  { id := 7, live := [1, 2, 3, 7, 8, 9] },
  { id := 4, live := [1, 2, 3, 7, 8] },
  { id := 10, live := [1, 2, 3, 7, 80] },
  { id := 11, live := [6] },
  { id := 12, live := [1, 2, 3, 7, 10] },
  { id := 13, live := [1, 2, 3, 7, 10, 85], hdr := [1, 2, 3, 7, 10] },
  { id := 15, live := [1, 2, 3, 7, 10, 106], ops := [(17, .mode .borrow)] },
  { id := 16, live := [6] },
  { id := 14, live := [1, 2, 3, 7, 10] },
  { id := 17, live := [6] }]

theorem comp32 : compF Try.prog an32 Try.f32 = some a32 := by kernel_rfl

/- graphdb/hyper.rooted -/
/-- loop 0 of function 33 -/
def l33_0_h : List Nat := [0, 4, 6, 7, 12, 13]

def l33_0_b : ACode :=
  .seq (.region none [] [
      ⟨some 14, .bin .lss .int (.tmp 13) (.tmp 12), none⟩] [0, 4, 6, 7, 12, 13, 14] none)
    (.seq (.cond (.tmp 14) (.skip)
    (.exit 2))
    (.seq (.block 3 (.seq (.region none [] [
        ⟨some 15, .mov (.tmp 0), none⟩,
        ⟨some 16, .mov (.tmp 4), none⟩,
        ⟨some 17, .iaddr 1 (.tmp 15) (.tmp 16), none⟩,
        ⟨some 18, .load none (.tmp 17), none⟩,
        ⟨some 4, .mov (.tmp 18), none⟩] [0, 4, 6, 7, 12, 13] none)
      (.seq (.region none [] [
        ⟨some 19, .mov (.tmp 4), none⟩,
        ⟨some 20, .bin .lss .int (.tmp 19) (.cst (.int .i64 0)), none⟩] [0, 4, 6, 7, 12, 13, 20] none)
      (.cond (.tmp 20) (.exit 2)
      (.skip)))))
    (.region none [] [
      ⟨some 21, .bin .add .int (.tmp 13) (.cst (.int .i64 1)), none⟩,
      ⟨some 13, .mov (.tmp 21), none⟩] [0, 4, 6, 7, 12, 13] none)))

/-- loop 1 of function 33 -/
def l33_1_h : List Nat := [0, 6, 7]

def l33_1_b : ACode :=
  .seq (.region none [] [
      ⟨some 8, .bin .lss .int (.tmp 7) (.tmp 6), none⟩] [0, 6, 7, 8] none)
    (.seq (.cond (.tmp 8) (.skip)
    (.exit 0))
    (.seq (.block 1 (.seq (.region none [] [
        ⟨some 9, .mov (.tmp 7), none⟩,
        ⟨some 3, .mov (.tmp 9), none⟩] [0, 3, 6, 7] none)
      (.seq (.region none [] [
        ⟨some 10, .mov (.tmp 3), none⟩,
        ⟨some 4, .mov (.tmp 10), none⟩] [0, 4, 6, 7] none)
      (.seq (.seq (.region none [] [
        ⟨some 11, .mov (.tmp 0), none⟩,
        ⟨some 12, .len .slice (.tmp 11), none⟩,
        ⟨some 13, .mov (.cst (.int .i64 0)), none⟩] [0, 4, 6, 7, 12, 13] none)
      (.block 2 (.loop l33_0_h l33_0_b)))
      (.seq (.region none [] [
        ⟨some 22, .mov (.tmp 4), none⟩,
        ⟨some 23, .bin .geq .int (.tmp 22) (.cst (.int .i64 0)), none⟩] [0, 6, 7, 23] none)
      (.cond (.tmp 23) (.seq (.region none [] [
          ⟨some 2, .mov (.cst (.bool false)), none⟩] [2] none)
        (.ret))
      (.skip)))))))
    (.region none [] [
      ⟨some 24, .bin .add .int (.tmp 7) (.cst (.int .i64 1)), none⟩,
      ⟨some 7, .mov (.tmp 24), none⟩] [0, 6, 7] none)))

def c33 : ACode :=
  .seq (.region none [] [
      ⟨some 2, .mov (.cst (.bool false)), none⟩] [0] none)
    (.seq (.seq (.region none [] [
      ⟨some 5, .mov (.tmp 0), none⟩,
      ⟨some 6, .len .slice (.tmp 5), none⟩,
      ⟨some 7, .mov (.cst (.int .i64 0)), none⟩] [0, 6, 7] none)
    (.block 0 (.loop l33_1_h l33_1_b)))
    (.seq (.region none [] [
      ⟨some 2, .mov (.cst (.bool true)), none⟩] [2] none)
    (.ret)))

def a33 : AFunc := ⟨1, c33, [.tmp 2]⟩

def an33 : List RAnn := [
  { id := 0, live := [0] },
  { id := 1, live := [0, 6, 7] },
  { id := 2, live := [0, 6, 7, 8], hdr := [0, 6, 7] },
  { id := 3, live := [0, 3, 6, 7] },
  { id := 4, live := [0, 4, 6, 7] },
  { id := 5, live := [0, 4, 6, 7, 12, 13] },
  { id := 6, live := [0, 4, 6, 7, 12, 13, 14], hdr := [0, 4, 6, 7, 12, 13] },
  { id := 7, live := [0, 4, 6, 7, 12, 13] },
  { id := 8, live := [0, 4, 6, 7, 12, 13, 20] },
  { id := 9, live := [0, 4, 6, 7, 12, 13] },
  { id := 10, live := [0, 6, 7, 23] },
  { id := 11, live := [2] },
  { id := 12, live := [0, 6, 7] },
  { id := 13, live := [2] }]

theorem comp33 : compF Try.prog an33 Try.f33 = some a33 := by kernel_rfl

/- slices.Contains[[]int,int] -/
def c34 : ACode :=
  .seq (.region none [] [
      ⟨some 4, .mov (.cst (.bool false)), none⟩] [0, 1] none)
    (.seq (.region none [] [
      ⟨some 5, .mov (.tmp 0), none⟩,
      ⟨some 6, .mov (.tmp 1), none⟩,
      ⟨some 7, .call .pure 43 [(.tmp 5), (.tmp 6)], none⟩,
      ⟨some 8, .bin .geq .int (.tmp 7) (.cst (.int .i64 0)), none⟩,
      ⟨some 4, .mov (.tmp 8), none⟩] [4] none)
    (.ret))

def a34 : AFunc := ⟨2, c34, [.tmp 4]⟩

def an34 : List RAnn := [
  { id := 0, live := [0, 1] },
  { id := 1, live := [4] }]

theorem comp34 : compF Try.prog an34 Try.f34 = some a34 := by kernel_rfl

/- graphdb/graphdbref29.rooted -/
/-- loop 0 of function 35 -/
def l35_0_h : List Nat := [0, 3, 4, 5]

def l35_0_b : ACode :=
  .seq (.seq (.region none [] [
      ⟨some 13, .mov (.tmp 5), none⟩,
      ⟨some 14, .mov (.tmp 0), none⟩,
      ⟨some 15, .len .slice (.tmp 14), none⟩,
      ⟨some 16, .bin .leq .int (.tmp 13) (.tmp 15), none⟩,
      ⟨some 17, .mov (.tmp 16), none⟩,
      ⟨some 18, .mov (.tmp 4), some (17, true)⟩,
      ⟨some 19, .bin .geq .int (.tmp 18) (.cst (.int .i64 0)), some (17, true)⟩,
      ⟨some 20, .pick (.tmp 17) (.tmp 19) (.cst (.bool false)), none⟩] [0, 3, 4, 5, 20] none)
    (.cond (.tmp 20) (.skip)
    (.exit 2)))
    (.seq (.block 3 (.region none [] [
        ⟨some 23, .mov (.tmp 0), none⟩,
        ⟨some 24, .mov (.tmp 4), none⟩,
        ⟨some 25, .iaddr 1 (.tmp 23) (.tmp 24), none⟩,
        ⟨some 26, .load none (.tmp 25), none⟩,
        ⟨some 4, .mov (.tmp 26), none⟩] [0, 3, 4, 5] none))
    (.region none [] [
      ⟨some 21, .mov (.tmp 5), none⟩,
      ⟨some 22, .bin .add .int (.tmp 21) (.cst (.int .i64 1)), none⟩,
      ⟨some 5, .mov (.tmp 22), none⟩] [0, 3, 4, 5] none))

/-- loop 1 of function 35 -/
def l35_1_h : List Nat := [0, 3]

def l35_1_b : ACode :=
  .seq (.seq (.region none [] [
      ⟨some 6, .mov (.tmp 3), none⟩,
      ⟨some 7, .mov (.tmp 0), none⟩,
      ⟨some 8, .len .slice (.tmp 7), none⟩,
      ⟨some 9, .bin .lss .int (.tmp 6) (.tmp 8), none⟩] [0, 3, 9] none)
    (.cond (.tmp 9) (.skip)
    (.exit 0)))
    (.seq (.block 1 (.seq (.region none [] [
        ⟨some 12, .mov (.tmp 3), none⟩,
        ⟨some 4, .mov (.tmp 12), none⟩] [0, 3, 4] none)
      (.seq (.seq (.region none [] [
        ⟨some 5, .mov (.cst (.int .i64 0)), none⟩] [0, 3, 4, 5] none)
      (.block 2 (.loop l35_0_h l35_0_b)))
      (.seq (.region none [] [
        ⟨some 27, .mov (.tmp 4), none⟩,
        ⟨some 28, .bin .geq .int (.tmp 27) (.cst (.int .i64 0)), none⟩] [0, 3, 28] none)
      (.cond (.tmp 28) (.seq (.region none [] [
          ⟨some 2, .mov (.cst (.bool false)), none⟩] [2] none)
        (.ret))
      (.skip))))))
    (.region none [] [
      ⟨some 10, .mov (.tmp 3), none⟩,
      ⟨some 11, .bin .add .int (.tmp 10) (.cst (.int .i64 1)), none⟩,
      ⟨some 3, .mov (.tmp 11), none⟩] [0, 3] none))

def c35 : ACode :=
  .seq (.region none [] [
      ⟨some 2, .mov (.cst (.bool false)), none⟩] [0] none)
    (.seq (.seq (.region none [] [
      ⟨some 3, .mov (.cst (.int .i64 0)), none⟩] [0, 3] none)
    (.block 0 (.loop l35_1_h l35_1_b)))
    (.seq (.region none [] [
      ⟨some 2, .mov (.cst (.bool true)), none⟩] [2] none)
    (.ret)))

def a35 : AFunc := ⟨1, c35, [.tmp 2]⟩

def an35 : List RAnn := [
  { id := 0, live := [0] },
  { id := 1, live := [0, 3] },
  { id := 2, live := [0, 3, 9], hdr := [0, 3] },
  { id := 4, live := [0, 3, 4] },
  { id := 5, live := [0, 3, 4, 5] },
  { id := 6, live := [0, 3, 4, 5, 20], hdr := [0, 3, 4, 5] },
  { id := 8, live := [0, 3, 4, 5] },
  { id := 7, live := [0, 3, 4, 5] },
  { id := 9, live := [0, 3, 28] },
  { id := 10, live := [2] },
  { id := 3, live := [0, 3] },
  { id := 11, live := [2] }]

theorem comp35 : compF Try.prog an35 Try.f35 = some a35 := by kernel_rfl

/- graphdb/graphdbref29.Has -/
/-- loop 0 of function 36 -/
def l36_0_h : List Nat := [0, 1, 5]

def l36_0_b : ACode :=
  .seq (.seq (.region none [] [
      ⟨some 6, .mov (.tmp 5), none⟩,
      ⟨some 7, .mov (.tmp 0), none⟩,
      ⟨some 8, .len .slice (.tmp 7), none⟩,
      ⟨some 9, .bin .lss .int (.tmp 6) (.tmp 8), none⟩] [0, 1, 5, 9] none)
    (.cond (.tmp 9) (.skip)
    (.exit 0)))
    (.seq (.block 1 (.seq (.region none [] [
        ⟨some 12, .mov (.tmp 0), none⟩,
        ⟨some 13, .mov (.tmp 5), none⟩,
        ⟨some 14, .iaddr 1 (.tmp 12) (.tmp 13), none⟩,
        ⟨some 15, .load none (.tmp 14), none⟩,
        ⟨some 16, .mov (.tmp 1), none⟩,
        ⟨some 17, .bin .eql .int (.tmp 15) (.tmp 16), none⟩] [0, 1, 5, 17] none)
      (.cond (.tmp 17) (.seq (.region none [] [
          ⟨some 4, .mov (.cst (.bool true)), none⟩] [4] none)
        (.ret))
      (.skip))))
    (.region none [] [
      ⟨some 10, .mov (.tmp 5), none⟩,
      ⟨some 11, .bin .add .int (.tmp 10) (.cst (.int .i64 1)), none⟩,
      ⟨some 5, .mov (.tmp 11), none⟩] [0, 1, 5] none))

def c36 : ACode :=
  .seq (.region none [] [
      ⟨some 4, .mov (.cst (.bool false)), none⟩] [0, 1] none)
    (.seq (.seq (.region none [] [
      ⟨some 5, .mov (.cst (.int .i64 0)), none⟩] [0, 1, 5] none)
    (.block 0 (.loop l36_0_h l36_0_b)))
    (.seq (.region none [] [
      ⟨some 4, .mov (.cst (.bool false)), none⟩] [4] none)
    (.ret)))

def a36 : AFunc := ⟨2, c36, [.tmp 4]⟩

def an36 : List RAnn := [
  { id := 0, live := [0, 1] },
  { id := 1, live := [0, 1, 5] },
  { id := 2, live := [0, 1, 5, 9], hdr := [0, 1, 5] },
  { id := 4, live := [0, 1, 5, 17] },
  { id := 5, live := [4] },
  { id := 3, live := [0, 1, 5] },
  { id := 6, live := [4] }]

theorem comp36 : compF Try.prog an36 Try.f36 = some a36 := by kernel_rfl

/- graphdb/graphdbref06.Of -/
/-- loop 0 of function 37 -/
def l37_0_h : List Nat := [0, 3, 4]

def l37_0_b : ACode :=
  .seq (.seq (.region none [] [
      ⟨some 5, .mov (.tmp 4), none⟩,
      ⟨some 6, .mov (.tmp 0), none⟩,
      ⟨some 7, .len .slice (.tmp 6), none⟩,
      ⟨some 8, .bin .lss .int (.tmp 5) (.tmp 7), none⟩] [0, 3, 4, 8] none)
    (.cond (.tmp 8) (.skip)
    (.exit 0)))
    (.seq (.block 1 (.region none [] [
        ⟨some 11, .mov (.tmp 3), none⟩,
        ⟨some 12, .mov (.tmp 0), none⟩,
        ⟨some 13, .mov (.tmp 4), none⟩,
        ⟨some 14, .iaddr 1 (.tmp 12) (.tmp 13), none⟩,
        ⟨some 15, .load none (.tmp 14), none⟩,
        ⟨some 16, .call .pure 44 [(.tmp 11), (.tmp 15)], none⟩,
        ⟨some 3, .mov (.tmp 16), none⟩] [0, 3, 4] none))
    (.region none [] [
      ⟨some 9, .mov (.tmp 4), none⟩,
      ⟨some 10, .bin .add .int (.tmp 9) (.cst (.int .i64 1)), none⟩,
      ⟨some 4, .mov (.tmp 10), none⟩] [0, 3, 4] none))

def c37 : ACode :=
  .seq (.region none [] [
      ⟨some 2, .mov (.cst (.sl false [])), none⟩] [0] none)
    (.seq (.region none [] [
      ⟨some 3, .mov (.cst (.sl false [])), none⟩] [0, 3] none)
    (.seq (.seq (.region none [] [
      ⟨some 4, .mov (.cst (.int .i64 0)), none⟩] [0, 3, 4] none)
    (.block 0 (.loop l37_0_h l37_0_b)))
    (.seq (.region none [] [
      ⟨some 17, .mov (.tmp 3), none⟩,
      ⟨some 2, .mov (.tmp 17), none⟩] [2] none)
    (.ret))))

def a37 : AFunc := ⟨1, c37, [.tmp 2]⟩

def an37 : List RAnn := [
  { id := 0, live := [0] },
  { id := 1, live := [0, 3] },
  { id := 2, live := [0, 3, 4] },
  { id := 3, live := [0, 3, 4, 8], hdr := [0, 3, 4] },
  { id := 5, live := [0, 3, 4] },
  { id := 4, live := [0, 3, 4] },
  { id := 6, live := [2] }]

theorem comp37 : compF Try.prog an37 Try.f37 = some a37 := by kernel_rfl

/- graphdb/graphdbref06.Has -/
/-- loop 0 of function 38 -/
def l38_0_h : List Nat := [0, 1, 5]

def l38_0_b : ACode :=
  .seq (.seq (.region none [] [
      ⟨some 6, .mov (.tmp 5), none⟩,
      ⟨some 7, .mov (.tmp 0), none⟩,
      ⟨some 8, .len .slice (.tmp 7), none⟩,
      ⟨some 9, .bin .lss .int (.tmp 6) (.tmp 8), none⟩] [0, 1, 5, 9] none)
    (.cond (.tmp 9) (.skip)
    (.exit 0)))
    (.seq (.block 1 (.seq (.region none [] [
        ⟨some 12, .mov (.tmp 0), none⟩,
        ⟨some 13, .mov (.tmp 5), none⟩,
        ⟨some 14, .iaddr 1 (.tmp 12) (.tmp 13), none⟩,
        ⟨some 15, .load none (.tmp 14), none⟩,
        ⟨some 16, .mov (.tmp 1), none⟩,
        ⟨some 17, .bin .eql .int (.tmp 15) (.tmp 16), none⟩] [0, 1, 5, 17] none)
      (.cond (.tmp 17) (.seq (.region none [] [
          ⟨some 4, .mov (.cst (.bool true)), none⟩] [4] none)
        (.ret))
      (.skip))))
    (.region none [] [
      ⟨some 10, .mov (.tmp 5), none⟩,
      ⟨some 11, .bin .add .int (.tmp 10) (.cst (.int .i64 1)), none⟩,
      ⟨some 5, .mov (.tmp 11), none⟩] [0, 1, 5] none))

def c38 : ACode :=
  .seq (.region none [] [
      ⟨some 4, .mov (.cst (.bool false)), none⟩] [0, 1] none)
    (.seq (.seq (.region none [] [
      ⟨some 5, .mov (.cst (.int .i64 0)), none⟩] [0, 1, 5] none)
    (.block 0 (.loop l38_0_h l38_0_b)))
    (.seq (.region none [] [
      ⟨some 4, .mov (.cst (.bool false)), none⟩] [4] none)
    (.ret)))

def a38 : AFunc := ⟨2, c38, [.tmp 4]⟩

def an38 : List RAnn := [
  { id := 0, live := [0, 1] },
  { id := 1, live := [0, 1, 5] },
  { id := 2, live := [0, 1, 5, 9], hdr := [0, 1, 5] },
  { id := 4, live := [0, 1, 5, 17] },
  { id := 5, live := [4] },
  { id := 3, live := [0, 1, 5] },
  { id := 6, live := [4] }]

theorem comp38 : compF Try.prog an38 Try.f38 = some a38 := by kernel_rfl

/- graphdb/hyper.within -/
def c39 : ACode :=
  .seq (.region none [] [
      ⟨some 3, .box 1 (.tmp 1), none⟩,
      ⟨some 4, .mov (.cst (.bool false)), none⟩] [0, 3] none)
    (.seq (.region none [] [
      ⟨some 5, .mov (.tmp 0), none⟩,
      ⟨some 6, .mkfn 46 [(.tmp 3)], none⟩,
      ⟨some 7, .call .borrow 45 [(.tmp 5), (.tmp 6)], none⟩,
      ⟨some 8, .un .not (.tmp 7), none⟩,
      ⟨some 4, .mov (.tmp 8), none⟩] [4] none)
    (.ret))

def a39 : AFunc := ⟨2, c39, [.tmp 4]⟩

def an39 : List RAnn := [
  { id := 0, live := [0, 3] },
  { id := 1, live := [4], ops := [(2, .mode .borrow)] }]

theorem comp39 : compF Try.prog an39 Try.f39 = some a39 := by kernel_rfl

/- graphdb/graphdbref29.shared -/
/-- loop 0 of function 40 -/
def l40_0_h : List Nat := [0, 1, 5, 6, 7, 8]

def l40_0_b : ACode :=
  .seq (.seq (.region none [] [
      ⟨some 15, .mov (.tmp 8), none⟩,
      ⟨some 16, .mov (.tmp 0), none⟩,
      ⟨some 17, .len .slice (.tmp 16), none⟩,
      ⟨some 18, .bin .lss .int (.tmp 15) (.tmp 17), none⟩] [0, 1, 5, 6, 7, 8, 18] none)
    (.cond (.tmp 18) (.skip)
    (.exit 2)))
    (.seq (.block 3 (.seq (.region (some 9) [] [
        ⟨some 21, .mov (.tmp 0), none⟩,
        ⟨some 22, .mov (.tmp 8), none⟩,
        ⟨some 23, .iaddr 1 (.tmp 21) (.tmp 22), none⟩,
        ⟨some 24, .load none (.tmp 23), none⟩,
        ⟨some 25, .mov (.tmp 1), none⟩,
        ⟨some 26, .mov (.tmp 6), none⟩,
        ⟨some 27, .iaddr 1 (.tmp 25) (.tmp 26), none⟩,
        ⟨some 28, .load none (.tmp 27), none⟩,
        ⟨some 29, .call .pure 36 [(.tmp 24), (.tmp 28)], none⟩] [0, 1, 5, 6, 7, 8, 29] none)
      (.cond (.tmp 29) (.region none [] [
          ⟨some 30, .mov (.tmp 7), none⟩,
          ⟨some 31, .bin .add .int (.tmp 30) (.cst (.int .i64 1)), none⟩,
          ⟨some 7, .mov (.tmp 31), none⟩] [0, 1, 5, 6, 7, 8] none)
      (.skip))))
    (.region none [] [
      ⟨some 19, .mov (.tmp 8), none⟩,
      ⟨some 20, .bin .add .int (.tmp 19) (.cst (.int .i64 1)), none⟩,
      ⟨some 8, .mov (.tmp 20), none⟩] [0, 1, 5, 6, 7, 8] none))

/-- loop 1 of function 40 -/
def l40_1_h : List Nat := [0, 1, 5, 6]

def l40_1_b : ACode :=
  .seq (.seq (.region none [] [
      ⟨some 9, .mov (.tmp 6), none⟩,
      ⟨some 10, .mov (.tmp 1), none⟩,
      ⟨some 11, .len .slice (.tmp 10), none⟩,
      ⟨some 12, .bin .lss .int (.tmp 9) (.tmp 11), none⟩] [0, 1, 5, 6, 12] none)
    (.cond (.tmp 12) (.skip)
    (.exit 0)))
    (.seq (.block 1 (.seq (.region none [] [
        ⟨some 7, .mov (.cst (.int .i64 0)), none⟩] [0, 1, 5, 6, 7] none)
      (.seq (.seq (.region none [] [
        ⟨some 8, .mov (.cst (.int .i64 0)), none⟩] [0, 1, 5, 6, 7, 8] none)
      (.block 2 (.loop l40_0_h l40_0_b)))
      (.seq (.region none [] [
        ⟨some 32, .mov (.tmp 7), none⟩,
        ⟨some 33, .bin .gtr .int (.tmp 32) (.cst (.int .i64 1)), none⟩] [0, 1, 5, 6, 33] none)
      (.cond (.tmp 33) (.region none [] [
          ⟨some 34, .mov (.tmp 5), none⟩,
          ⟨some 35, .mov (.tmp 1), none⟩,
          ⟨some 36, .mov (.tmp 6), none⟩,
          ⟨some 37, .iaddr 1 (.tmp 35) (.tmp 36), none⟩,
          ⟨some 38, .load none (.tmp 37), none⟩,
          ⟨some 39, .lit false 1 (.int .i64 0) 1 [(0, (.tmp 38))], none⟩,
          ⟨some 40, .append 1 8 (.tmp 34) (.tmp 39), none⟩,
          ⟨some 5, .mov (.tmp 40), none⟩] [0, 1, 5, 6] none)
      (.skip))))))
    (.region none [] [
      ⟨some 13, .mov (.tmp 6), none⟩,
      ⟨some 14, .bin .add .int (.tmp 13) (.cst (.int .i64 1)), none⟩,
      ⟨some 6, .mov (.tmp 14), none⟩] [0, 1, 5, 6] none))

def c40 : ACode :=
  .seq (.region none [] [
      ⟨some 4, .mov (.cst (.sl false [])), none⟩] [0, 1] none)
    (.seq (.region none [] [
      ⟨some 5, .newown 1, none⟩] [0, 1, 5] none)
    (.seq (.seq (.region none [] [
      ⟨some 6, .mov (.cst (.int .i64 0)), none⟩] [0, 1, 5, 6] none)
    (.block 0 (.loop l40_1_h l40_1_b)))
    (.seq (.region none [] [
      ⟨some 41, .mov (.tmp 5), none⟩,
      ⟨some 4, .mov (.tmp 41), none⟩] [4] none)
    (.ret))))

def a40 : AFunc := ⟨2, c40, [.tmp 4]⟩

def an40 : List RAnn := [
  { id := 0, live := [0, 1] },
  { id := 1, live := [0, 1, 5], ops := [(0, .own)] },
  { id := 2, live := [0, 1, 5, 6] },
  { id := 3, live := [0, 1, 5, 6, 12], hdr := [0, 1, 5, 6] },
  { id := 5, live := [0, 1, 5, 6, 7] },
  { id := 6, live := [0, 1, 5, 6, 7, 8] },
  { id := 7, live := [0, 1, 5, 6, 7, 8, 18], hdr := [0, 1, 5, 6, 7, 8] },
  { id := 9, head := some 9, live := [0, 1, 5, 6, 7, 8, 29] },
  { id := 10, live := [0, 1, 5, 6, 7, 8] },
  { id := 8, live := [0, 1, 5, 6, 7, 8] },
  { id := 11, live := [0, 1, 5, 6, 33] },
  { id := 12, live := [0, 1, 5, 6] },
  { id := 4, live := [0, 1, 5, 6] },
  { id := 13, live := [4] }]

theorem comp40 : compF Try.prog an40 Try.f40 = some a40 := by kernel_rfl

/- graphdb/graphdbref29.within -/
/-- loop 0 of function 41 -/
def l41_0_h : List Nat := [0, 1, 5]

def l41_0_b : ACode :=
  .seq (.seq (.region none [] [
      ⟨some 6, .mov (.tmp 5), none⟩,
      ⟨some 7, .mov (.tmp 0), none⟩,
      ⟨some 8, .len .slice (.tmp 7), none⟩,
      ⟨some 9, .bin .lss .int (.tmp 6) (.tmp 8), none⟩] [0, 1, 5, 9] none)
    (.cond (.tmp 9) (.skip)
    (.exit 0)))
    (.seq (.block 1 (.seq (.region none [] [
        ⟨some 12, .mov (.tmp 1), none⟩,
        ⟨some 13, .mov (.tmp 0), none⟩,
        ⟨some 14, .mov (.tmp 5), none⟩,
        ⟨some 15, .iaddr 1 (.tmp 13) (.tmp 14), none⟩,
        ⟨some 16, .load none (.tmp 15), none⟩,
        ⟨some 17, .call .pure 36 [(.tmp 12), (.tmp 16)], none⟩,
        ⟨some 18, .un .not (.tmp 17), none⟩] [0, 1, 5, 18] none)
      (.cond (.tmp 18) (.seq (.region none [] [
          ⟨some 4, .mov (.cst (.bool false)), none⟩] [4] none)
        (.ret))
      (.skip))))
    (.region none [] [
      ⟨some 10, .mov (.tmp 5), none⟩,
      ⟨some 11, .bin .add .int (.tmp 10) (.cst (.int .i64 1)), none⟩,
      ⟨some 5, .mov (.tmp 11), none⟩] [0, 1, 5] none))

def c41 : ACode :=
  .seq (.region none [] [
      ⟨some 4, .mov (.cst (.bool false)), none⟩] [0, 1] none)
    (.seq (.seq (.region none [] [
      ⟨some 5, .mov (.cst (.int .i64 0)), none⟩] [0, 1, 5] none)
    (.block 0 (.loop l41_0_h l41_0_b)))
    (.seq (.region none [] [
      ⟨some 4, .mov (.cst (.bool true)), none⟩] [4] none)
    (.ret)))

def a41 : AFunc := ⟨2, c41, [.tmp 4]⟩

def an41 : List RAnn := [
  { id := 0, live := [0, 1] },
  { id := 1, live := [0, 1, 5] },
  { id := 2, live := [0, 1, 5, 9], hdr := [0, 1, 5] },
  { id := 4, live := [0, 1, 5, 18] },
  { id := 5, live := [4] },
  { id := 3, live := [0, 1, 5] },
  { id := 6, live := [4] }]

theorem comp41 : compF Try.prog an41 Try.f41 = some a41 := by kernel_rfl

/- (*graphdb/hyper.forest).ear -/
/-- loop 0 of function 42 -/
def l42_0_h : List Nat := [0, 1, 6, 8, 19, 20, 21, 28, 29, 30]

def l42_0_b : ACode :=
  .seq (.region none [] [
      ⟨some 31, .bin .lss .int (.tmp 30) (.tmp 29), none⟩] [0, 1, 6, 8, 19, 20, 21, 28, 29, 30, 31] none)
    (.seq (.cond (.tmp 31) (.skip)
    (.exit 2))
    (.seq (.block 3 (.seq (.region none [] [
        ⟨some 32, .mov (.tmp 30), none⟩,
        ⟨some 33, .iaddr 1 (.tmp 28) (.tmp 30), none⟩,
        ⟨some 34, .load none (.tmp 33), none⟩,
        ⟨some 9, .mov (.tmp 32), none⟩,
        ⟨some 10, .mov (.tmp 34), none⟩] [0, 1, 6, 8, 9, 10, 19, 20, 21, 28, 29, 30] none)
      (.seq (.region none [] [
        ⟨some 35, .mov (.tmp 9), none⟩,
        ⟨some 36, .mov (.tmp 1), none⟩,
        ⟨some 37, .bin .neq .int (.tmp 35) (.tmp 36), none⟩,
        ⟨some 38, .mov (.tmp 37), none⟩,
        ⟨some 39, .mov (.tmp 0), some (38, true)⟩,
        ⟨some 40, .nilchk (.tmp 39), some (38, true)⟩,
        ⟨some 41, .faddr 1 (.tmp 40), some (38, true)⟩,
        ⟨some 42, .load none (.tmp 41), some (38, true)⟩,
        ⟨some 43, .mov (.tmp 9), some (38, true)⟩,
        ⟨some 44, .iaddr 1 (.tmp 42) (.tmp 43), some (38, true)⟩,
        ⟨some 45, .load none (.tmp 44), some (38, true)⟩,
        ⟨some 46, .un .not (.tmp 45), some (38, true)⟩,
        ⟨some 47, .pick (.tmp 38) (.tmp 46) (.cst (.bool false)), none⟩,
        ⟨some 48, .mov (.tmp 47), none⟩,
        ⟨some 49, .mov (.tmp 10), some (48, true)⟩,
        ⟨some 50, .mov (.tmp 8), some (48, true)⟩,
        ⟨some 51, .call .pure 34 [(.tmp 49), (.tmp 50)], some (48, true)⟩,
        ⟨some 52, .pick (.tmp 48) (.tmp 51) (.cst (.bool false)), none⟩] [0, 1, 6, 8, 19, 20, 21, 28, 29, 30, 52] none)
      (.cond (.tmp 52) (.seq (.region none [] [
          ⟨some 53, .mov (.tmp 6), none⟩,
          ⟨some 54, .mov (.tmp 8), none⟩,
          ⟨some 55, .lit false 1 (.int .i64 0) 1 [(0, (.tmp 54))], none⟩,
          ⟨some 56, .append 1 8 (.tmp 53) (.tmp 55), none⟩,
          ⟨some 6, .mov (.tmp 56), none⟩] [0, 1, 6, 19, 20, 21] none)
        (.exit 2))
      (.skip)))))
    (.region none [] [
      ⟨some 57, .bin .add .int (.tmp 30) (.cst (.int .i64 1)), none⟩,
      ⟨some 30, .mov (.tmp 57), none⟩] [0, 1, 6, 8, 19, 20, 21, 28, 29, 30] none)))

/-- loop 1 of function 42 -/
def l42_1_h : List Nat := [0, 1, 6, 19, 20, 21]

def l42_1_b : ACode :=
  .seq (.region none [] [
      ⟨some 22, .bin .lss .int (.tmp 21) (.tmp 20), none⟩] [0, 1, 6, 19, 20, 21, 22] none)
    (.seq (.cond (.tmp 22) (.skip)
    (.exit 0))
    (.seq (.block 1 (.seq (.region none [] [
        ⟨some 23, .iaddr 1 (.tmp 19) (.tmp 21), none⟩,
        ⟨some 24, .load none (.tmp 23), none⟩,
        ⟨some 8, .mov (.tmp 24), none⟩] [0, 1, 6, 8, 19, 20, 21] none)
      (.seq (.region none [] [
        ⟨some 25, .mov (.tmp 0), none⟩,
        ⟨some 26, .nilchk (.tmp 25), none⟩,
        ⟨some 27, .faddr 0 (.tmp 26), none⟩,
        ⟨some 28, .load none (.tmp 27), none⟩,
        ⟨some 29, .len .slice (.tmp 28), none⟩,
        ⟨some 30, .mov (.cst (.int .i64 0)), none⟩] [0, 1, 6, 8, 19, 20, 21, 28, 29, 30] none)
      (.block 2 (.loop l42_0_h l42_0_b)))))
    (.region none [] [
      ⟨some 58, .bin .add .int (.tmp 21) (.cst (.int .i64 1)), none⟩,
      ⟨some 21, .mov (.tmp 58), none⟩] [0, 1, 6, 19, 20, 21] none)))

/-- loop 2 of function 42 -/
def l42_2_h : List Nat := [0, 1, 6, 65, 66, 67]

def l42_2_b : ACode :=
  .seq (.region none [] [
      ⟨some 68, .bin .lss .int (.tmp 67) (.tmp 66), none⟩] [0, 1, 6, 65, 66, 67, 68] none)
    (.seq (.cond (.tmp 68) (.skip)
    (.exit 4))
    (.seq (.block 5 (.seq (.region none [] [
        ⟨some 69, .mov (.tmp 67), none⟩,
        ⟨some 70, .iaddr 1 (.tmp 65) (.tmp 67), none⟩,
        ⟨some 71, .load none (.tmp 70), none⟩,
        ⟨some 11, .mov (.tmp 69), none⟩,
        ⟨some 12, .mov (.tmp 71), none⟩] [0, 1, 6, 11, 12, 65, 66, 67] none)
      (.seq (.region none [] [
        ⟨some 72, .mov (.tmp 11), none⟩,
        ⟨some 73, .mov (.tmp 1), none⟩,
        ⟨some 74, .bin .neq .int (.tmp 72) (.tmp 73), none⟩,
        ⟨some 75, .mov (.tmp 74), none⟩,
        ⟨some 76, .mov (.tmp 0), some (75, true)⟩,
        ⟨some 77, .nilchk (.tmp 76), some (75, true)⟩,
        ⟨some 78, .faddr 1 (.tmp 77), some (75, true)⟩,
        ⟨some 79, .load none (.tmp 78), some (75, true)⟩,
        ⟨some 80, .mov (.tmp 11), some (75, true)⟩,
        ⟨some 81, .iaddr 1 (.tmp 79) (.tmp 80), some (75, true)⟩,
        ⟨some 82, .load none (.tmp 81), some (75, true)⟩,
        ⟨some 83, .un .not (.tmp 82), some (75, true)⟩,
        ⟨some 84, .pick (.tmp 75) (.tmp 83) (.cst (.bool false)), none⟩,
        ⟨some 85, .mov (.tmp 84), none⟩,
        ⟨some 86, .mov (.tmp 6), some (85, true)⟩,
        ⟨some 87, .mov (.tmp 12), some (85, true)⟩,
        ⟨some 88, .call .borrow 39 [(.tmp 86), (.tmp 87)], some (85, true)⟩,
        ⟨some 89, .pick (.tmp 85) (.tmp 88) (.cst (.bool false)), none⟩] [0, 1, 6, 11, 65, 66, 67, 89] none)
      (.cond (.tmp 89) (.seq (.region none [] [
          ⟨some 90, .mov (.tmp 11), none⟩,
          ⟨some 4, .mov (.tmp 90), none⟩,
          ⟨some 5, .mov (.cst (.bool true)), none⟩] [4, 5] none)
        (.ret))
      (.skip)))))
    (.region none [] [
      ⟨some 91, .bin .add .int (.tmp 67) (.cst (.int .i64 1)), none⟩,
      ⟨some 67, .mov (.tmp 91), none⟩] [0, 1, 6, 65, 66, 67] none)))

def c42 : ACode :=
  .seq (.region none [] [
      ⟨some 4, .mov (.cst (.int .i64 0)), none⟩,
      ⟨some 5, .mov (.cst (.bool false)), none⟩] [0, 1] none)
    (.seq (.region none [] [
      ⟨some 6, .newown 1, none⟩] [0, 1, 6] none)
    (.seq (.seq (.region none [] [
      ⟨some 13, .mov (.tmp 0), none⟩,
      ⟨some 14, .nilchk (.tmp 13), none⟩,
      ⟨some 15, .faddr 0 (.tmp 14), none⟩,
      ⟨some 16, .load none (.tmp 15), none⟩,
      ⟨some 17, .mov (.tmp 1), none⟩,
      ⟨some 18, .iaddr 1 (.tmp 16) (.tmp 17), none⟩,
      ⟨some 19, .load none (.tmp 18), none⟩,
      ⟨some 20, .len .slice (.tmp 19), none⟩,
      ⟨some 21, .mov (.cst (.int .i64 0)), none⟩] [0, 1, 6, 19, 20, 21] none)
    (.block 0 (.loop l42_1_h l42_1_b)))
    (.seq (.seq (.region none [] [
      ⟨some 59, .mov (.tmp 6), none⟩,
      ⟨some 60, .len .slice (.tmp 59), none⟩,
      ⟨some 61, .bin .eql .int (.tmp 60) (.cst (.int .i64 0)), none⟩] [0, 1, 6, 61] none)
    (.cond (.tmp 61) (.seq (.region none [] [
        ⟨some 4, .mov (.cst (.int .i64 (-1))), none⟩,
        ⟨some 5, .mov (.cst (.bool true)), none⟩] [4, 5] none)
      (.ret))
    (.skip)))
    (.seq (.seq (.region none [] [
      ⟨some 62, .mov (.tmp 0), none⟩,
      ⟨some 63, .nilchk (.tmp 62), none⟩,
      ⟨some 64, .faddr 0 (.tmp 63), none⟩,
      ⟨some 65, .load none (.tmp 64), none⟩,
      ⟨some 66, .len .slice (.tmp 65), none⟩,
      ⟨some 67, .mov (.cst (.int .i64 0)), none⟩] [0, 1, 6, 65, 66, 67] none)
    (.block 4 (.loop l42_2_h l42_2_b)))
    (.seq (.region none [] [
      ⟨some 4, .mov (.cst (.int .i64 0)), none⟩,
      ⟨some 5, .mov (.cst (.bool false)), none⟩] [4, 5] none)
    (.ret))))))

def a42 : AFunc := ⟨2, c42, [.tmp 4, .tmp 5]⟩

def an42 : List RAnn := [
  { id := 0, live := [0, 1] },
  { id := 1, live := [0, 1, 6], ops := [(0, .own)] },
  { id := 2, live := [0, 1, 6, 19, 20, 21] },
  { id := 3, live := [0, 1, 6, 19, 20, 21, 22], hdr := [0, 1, 6, 19, 20, 21] },
  { id := 4, live := [0, 1, 6, 8, 19, 20, 21] },
  { id := 5, live := [0, 1, 6, 8, 19, 20, 21, 28, 29, 30] },
  { id := 6, live := [0, 1, 6, 8, 19, 20, 21, 28, 29, 30, 31], hdr := [0, 1, 6, 8, 19, 20, 21, 28, 29, 30] },
  { id := 7, live := [0, 1, 6, 8, 9, 10, 19, 20, 21, 28, 29, 30] },
  { id := 8, live := [0, 1, 6, 8, 19, 20, 21, 28, 29, 30, 52] },
  { id := 9, live := [0, 1, 6, 19, 20, 21] },
  { id := 10, live := [0, 1, 6, 8, 19, 20, 21, 28, 29, 30] },
  { id := 11, live := [0, 1, 6, 19, 20, 21] },
  { id := 12, live := [0, 1, 6, 61] },
  { id := 13, live := [4, 5] },
  { id := 14, live := [0, 1, 6, 65, 66, 67] },
  { id := 15, live := [0, 1, 6, 65, 66, 67, 68], hdr := [0, 1, 6, 65, 66, 67] },
  { id := 16, live := [0, 1, 6, 11, 12, 65, 66, 67] },
  { id := 17, live := [0, 1, 6, 11, 65, 66, 67, 89], ops := [(16, .mode .borrow)] },
  { id := 18, live := [4, 5] },
  { id := 19, live := [0, 1, 6, 65, 66, 67] },
  { id := 20, live := [4, 5] }]

theorem comp42 : compF Try.prog an42 Try.f42 = some a42 := by kernel_rfl

/- slices.Index[[]int,int] -/
/-- loop 0 of function 43 -/
def l43_0_h : List Nat := [0, 1, 7, 8]

def l43_0_b : ACode :=
  .seq (.region none [] [
      ⟨some 9, .bin .lss .int (.tmp 8) (.tmp 7), none⟩] [0, 1, 7, 8, 9] none)
    (.seq (.cond (.tmp 9) (.skip)
    (.exit 0))
    (.seq (.block 1 (.seq (.region none [] [
        ⟨some 10, .mov (.tmp 8), none⟩,
        ⟨some 5, .mov (.tmp 10), none⟩] [0, 1, 5, 7, 8] none)
      (.seq (.region none [] [
        ⟨some 11, .mov (.tmp 1), none⟩,
        ⟨some 12, .mov (.tmp 0), none⟩,
        ⟨some 13, .mov (.tmp 5), none⟩,
        ⟨some 14, .iaddr 1 (.tmp 12) (.tmp 13), none⟩,
        ⟨some 15, .load none (.tmp 14), none⟩,
        ⟨some 16, .bin .eql .int (.tmp 11) (.tmp 15), none⟩] [0, 1, 5, 7, 8, 16] none)
      (.cond (.tmp 16) (.seq (.region none [] [
          ⟨some 17, .mov (.tmp 5), none⟩,
          ⟨some 4, .mov (.tmp 17), none⟩] [4] none)
        (.ret))
      (.skip)))))
    (.region none [] [
      ⟨some 18, .bin .add .int (.tmp 8) (.cst (.int .i64 1)), none⟩,
      ⟨some 8, .mov (.tmp 18), none⟩] [0, 1, 7, 8] none)))

def c43 : ACode :=
  .seq (.region none [] [
      ⟨some 4, .mov (.cst (.int .i64 0)), none⟩] [0, 1] none)
    (.seq (.seq (.region none [] [
      ⟨some 6, .mov (.tmp 0), none⟩,
      ⟨some 7, .len .slice (.tmp 6), none⟩,
      ⟨some 8, .mov (.cst (.int .i64 0)), none⟩] [0, 1, 7, 8] none)
    (.block 0 (.loop l43_0_h l43_0_b)))
    (.seq (.region none [] [
      ⟨some 4, .mov (.cst (.int .i64 (-1))), none⟩] [4] none)
    (.ret)))

def a43 : AFunc := ⟨2, c43, [.tmp 4]⟩

def an43 : List RAnn := [
  { id := 0, live := [0, 1] },
  { id := 1, live := [0, 1, 7, 8] },
  { id := 2, live := [0, 1, 7, 8, 9], hdr := [0, 1, 7, 8] },
  { id := 3, live := [0, 1, 5, 7, 8] },
  { id := 4, live := [0, 1, 5, 7, 8, 16] },
  { id := 5, live := [4] },
  { id := 6, live := [0, 1, 7, 8] },
  { id := 7, live := [4] }]

theorem comp43 : compF Try.prog an43 Try.f43 = some a43 := by kernel_rfl

/- graphdb/graphdbref06.with -/
/-- loop 0 of function 44 -/
def l44_0_h : List Nat := [0, 1, 5, 6, 7]

def l44_0_b : ACode :=
  .seq (.seq (.region none [] [
      ⟨some 8, .mov (.tmp 7), none⟩,
      ⟨some 9, .mov (.tmp 0), none⟩,
      ⟨some 10, .len .slice (.tmp 9), none⟩,
      ⟨some 11, .bin .lss .int (.tmp 8) (.tmp 10), none⟩] [0, 1, 5, 6, 7, 11] none)
    (.cond (.tmp 11) (.skip)
    (.exit 0)))
    (.seq (.block 1 (.seq (.seq (.region none [] [
        ⟨some 14, .mov (.tmp 0), none⟩,
        ⟨some 15, .mov (.tmp 7), none⟩,
        ⟨some 16, .iaddr 1 (.tmp 14) (.tmp 15), none⟩,
        ⟨some 17, .load none (.tmp 16), none⟩,
        ⟨some 18, .mov (.tmp 1), none⟩,
        ⟨some 19, .bin .eql .int (.tmp 17) (.tmp 18), none⟩] [0, 1, 5, 6, 7, 19] none)
      (.cond (.tmp 19) (.region none [] [
          ⟨some 6, .mov (.cst (.bool true)), none⟩] [0, 1, 5, 6, 7] none)
      (.skip)))
      (.seq (.seq (.region none [] [
        ⟨some 20, .mov (.tmp 0), none⟩,
        ⟨some 21, .mov (.tmp 7), none⟩,
        ⟨some 22, .iaddr 1 (.tmp 20) (.tmp 21), none⟩,
        ⟨some 23, .load none (.tmp 22), none⟩,
        ⟨some 24, .mov (.tmp 1), none⟩,
        ⟨some 25, .bin .gtr .int (.tmp 23) (.tmp 24), none⟩,
        ⟨some 26, .mov (.tmp 25), none⟩,
        ⟨some 27, .mov (.tmp 6), some (26, true)⟩,
        ⟨some 28, .un .not (.tmp 27), some (26, true)⟩,
        ⟨some 29, .pick (.tmp 26) (.tmp 28) (.cst (.bool false)), none⟩] [0, 1, 5, 6, 7, 29] none)
      (.cond (.tmp 29) (.seq (.region none [] [
          ⟨some 30, .mov (.tmp 5), none⟩,
          ⟨some 31, .mov (.tmp 1), none⟩,
          ⟨some 32, .lit false 1 (.int .i64 0) 1 [(0, (.tmp 31))], none⟩,
          ⟨some 33, .append 1 8 (.tmp 30) (.tmp 32), none⟩,
          ⟨some 5, .mov (.tmp 33), none⟩] [0, 1, 5, 7] none)
        (.region none [] [
          ⟨some 6, .mov (.cst (.bool true)), none⟩] [0, 1, 5, 6, 7] none))
      (.skip)))
      (.region none [] [
        ⟨some 34, .mov (.tmp 5), none⟩,
        ⟨some 35, .mov (.tmp 0), none⟩,
        ⟨some 36, .mov (.tmp 7), none⟩,
        ⟨some 37, .iaddr 1 (.tmp 35) (.tmp 36), none⟩,
        ⟨some 38, .load none (.tmp 37), none⟩,
        ⟨some 39, .lit false 1 (.int .i64 0) 1 [(0, (.tmp 38))], none⟩,
        ⟨some 40, .append 1 8 (.tmp 34) (.tmp 39), none⟩,
        ⟨some 5, .mov (.tmp 40), none⟩] [0, 1, 5, 6, 7] none))))
    (.region none [] [
      ⟨some 12, .mov (.tmp 7), none⟩,
      ⟨some 13, .bin .add .int (.tmp 12) (.cst (.int .i64 1)), none⟩,
      ⟨some 7, .mov (.tmp 13), none⟩] [0, 1, 5, 6, 7] none))

def c44 : ACode :=
  .seq (.region none [] [
      ⟨some 4, .mov (.cst (.sl false [])), none⟩] [0, 1] none)
    (.seq (.region none [] [
      ⟨some 5, .newown 1, none⟩] [0, 1, 5] none)
    (.seq (.region none [] [
      ⟨some 6, .mov (.cst (.bool false)), none⟩] [0, 1, 5, 6] none)
    (.seq (.seq (.region none [] [
      ⟨some 7, .mov (.cst (.int .i64 0)), none⟩] [0, 1, 5, 6, 7] none)
    (.block 0 (.loop l44_0_h l44_0_b)))
    (.seq (.seq (.region none [] [
      ⟨some 41, .mov (.tmp 6), none⟩,
      ⟨some 42, .un .not (.tmp 41), none⟩] [1, 5, 42] none)
    (.cond (.tmp 42) (.region none [] [
        ⟨some 43, .mov (.tmp 5), none⟩,
        ⟨some 44, .mov (.tmp 1), none⟩,
        ⟨some 45, .lit false 1 (.int .i64 0) 1 [(0, (.tmp 44))], none⟩,
        ⟨some 46, .append 1 8 (.tmp 43) (.tmp 45), none⟩,
        ⟨some 5, .mov (.tmp 46), none⟩] [5] none)
    (.skip)))
    (.seq (.region none [] [
      ⟨some 47, .mov (.tmp 5), none⟩,
      ⟨some 4, .mov (.tmp 47), none⟩] [4] none)
    (.ret))))))

def a44 : AFunc := ⟨2, c44, [.tmp 4]⟩

def an44 : List RAnn := [
  { id := 0, live := [0, 1] },
  { id := 1, live := [0, 1, 5], ops := [(0, .own)] },
  { id := 2, live := [0, 1, 5, 6] },
  { id := 3, live := [0, 1, 5, 6, 7] },
  { id := 4, live := [0, 1, 5, 6, 7, 11], hdr := [0, 1, 5, 6, 7] },
  { id := 6, live := [0, 1, 5, 6, 7, 19] },
  { id := 7, live := [0, 1, 5, 6, 7] },
  { id := 8, live := [0, 1, 5, 6, 7, 29] },
  { id := 9, live := [0, 1, 5, 7] },
  { id := 10, live := [0, 1, 5, 6, 7] },
  { id := 11, live := [0, 1, 5, 6, 7] },
  { id := 5, live := [0, 1, 5, 6, 7] },
  { id := 12, live := [1, 5, 42] },
  { id := 13, live := [5] },
  { id := 14, live := [4] }]

theorem comp44 : compF Try.prog an44 Try.f44 = some a44 := by kernel_rfl

/- slices.ContainsFunc[[]int,int] -/
def c45 : ACode :=
  .seq (.region none [] [
      ⟨some 4, .mov (.cst (.bool false)), none⟩] [0, 1] none)
    (.seq (.region none [] [
      ⟨some 5, .mov (.tmp 0), none⟩,
      ⟨some 6, .mov (.tmp 1), none⟩,
      ⟨some 7, .call .pure 47 [(.tmp 5), (.tmp 6)], none⟩,
      ⟨some 8, .bin .geq .int (.tmp 7) (.cst (.int .i64 0)), none⟩,
      ⟨some 4, .mov (.tmp 8), none⟩] [4] none)
    (.ret))

def a45 : AFunc := ⟨2, c45, [.tmp 4]⟩

def an45 : List RAnn := [
  { id := 0, live := [0, 1] },
  { id := 1, live := [4] }]

theorem comp45 : compF Try.prog an45 Try.f45 = some a45 := by kernel_rfl

/- graphdb/hyper.within$1 -/
def c46 : ACode :=
  .seq (.region none [] [
      ⟨some 3, .mov (.cst (.bool false)), none⟩] [0, 1] none)
    (.seq (.region none [] [
      ⟨some 4, .load none (.tmp 1), none⟩,
      ⟨some 5, .mov (.tmp 0), none⟩,
      ⟨some 6, .call .pure 34 [(.tmp 4), (.tmp 5)], none⟩,
      ⟨some 7, .un .not (.tmp 6), none⟩,
      ⟨some 3, .mov (.tmp 7), none⟩] [3] none)
    (.ret))

def a46 : AFunc := ⟨2, c46, [.tmp 3]⟩

def an46 : List RAnn := [
  { id := 0, live := [0, 1] },
  { id := 1, live := [3] }]

theorem comp46 : compF Try.prog an46 Try.f46 = some a46 := by kernel_rfl

/- slices.IndexFunc[[]int,int] -/
/-- loop 0 of function 47 -/
def l47_0_h : List Nat := [0, 1, 7, 8]

def l47_0_b : ACode :=
  .seq (.region none [] [
      ⟨some 9, .bin .lss .int (.tmp 8) (.tmp 7), none⟩] [0, 1, 7, 8, 9] none)
    (.seq (.cond (.tmp 9) (.skip)
    (.exit 0))
    (.seq (.block 1 (.seq (.region none [] [
        ⟨some 10, .mov (.tmp 8), none⟩,
        ⟨some 5, .mov (.tmp 10), none⟩] [0, 1, 5, 7, 8] none)
      (.seq (.region none [] [
        ⟨some 11, .mov (.tmp 1), none⟩,
        ⟨some 12, .mov (.tmp 0), none⟩,
        ⟨some 13, .mov (.tmp 5), none⟩,
        ⟨some 14, .iaddr 1 (.tmp 12) (.tmp 13), none⟩,
        ⟨some 15, .load none (.tmp 14), none⟩,
        ⟨some 16, .callv .pure (.tmp 11) [(.tmp 15)], none⟩] [0, 1, 5, 7, 8, 16] none)
      (.cond (.tmp 16) (.seq (.region none [] [
          ⟨some 17, .mov (.tmp 5), none⟩,
          ⟨some 4, .mov (.tmp 17), none⟩] [4] none)
        (.ret))
      (.skip)))))
    (.region none [] [
      ⟨some 18, .bin .add .int (.tmp 8) (.cst (.int .i64 1)), none⟩,
      ⟨some 8, .mov (.tmp 18), none⟩] [0, 1, 7, 8] none)))

def c47 : ACode :=
  .seq (.region none [] [
      ⟨some 4, .mov (.cst (.int .i64 0)), none⟩] [0, 1] none)
    (.seq (.seq (.region none [] [
      ⟨some 6, .mov (.tmp 0), none⟩,
      ⟨some 7, .len .slice (.tmp 6), none⟩,
      ⟨some 8, .mov (.cst (.int .i64 0)), none⟩] [0, 1, 7, 8] none)
    (.block 0 (.loop l47_0_h l47_0_b)))
    (.seq (.region none [] [
      ⟨some 4, .mov (.cst (.int .i64 (-1))), none⟩] [4] none)
    (.ret)))

def a47 : AFunc := ⟨2, c47, [.tmp 4]⟩

def an47 : List RAnn := [
  { id := 0, live := [0, 1] },
  { id := 1, live := [0, 1, 7, 8] },
  { id := 2, live := [0, 1, 7, 8, 9], hdr := [0, 1, 7, 8] },
  { id := 3, live := [0, 1, 5, 7, 8] },
  { id := 4, live := [0, 1, 5, 7, 8, 16] },
  { id := 5, live := [4] },
  { id := 6, live := [0, 1, 7, 8] },
  { id := 7, live := [4] }]

theorem comp47 : compF Try.prog an47 Try.f47 = some a47 := by kernel_rfl

def tab : List (Nat × AFn) := [
  (3, .code a3),
  (4, .code a4),
  (5, .code a5),
  (6, .code a6),
  (7, .code a7),
  (8, .code a8),
  (9, .code a9),
  (10, .code a10),
  (11, .code a11),
  (12, .code a12),
  (13, .code a13),
  (14, .code a14),
  (15, .code a15),
  (16, .code a16),
  (17, .code a17),
  (18, .code a18),
  (19, .code a19),
  (20, .code a20),
  (21, .code a21),
  (22, .code a22),
  (23, .code a23),
  (24, .code a24),
  (25, .code a25),
  (26, .code a26),
  (27, .code a27),
  (28, .code a28),
  (29, .code a29),
  (30, .code a30),
  (31, .code a31),
  (32, .code a32),
  (33, .code a33),
  (34, .code a34),
  (35, .code a35),
  (36, .code a36),
  (37, .code a37),
  (38, .code a38),
  (39, .code a39),
  (40, .code a40),
  (41, .code a41),
  (42, .code a42),
  (43, .code a43),
  (44, .code a44),
  (45, .code a45),
  (46, .code a46),
  (47, .code a47)]

theorem tab_ok : TableOk Try.prog (findFn tab) := tableOk_of ⟨⟨Try.f3, an3, by kernel_rfl, by kernel_rfl, comp3⟩,
  ⟨Try.f4, an4, by kernel_rfl, by kernel_rfl, comp4⟩,
  ⟨Try.f5, an5, by kernel_rfl, by kernel_rfl, comp5⟩,
  ⟨Try.f6, an6, by kernel_rfl, by kernel_rfl, comp6⟩,
  ⟨Try.f7, an7, by kernel_rfl, by kernel_rfl, comp7⟩,
  ⟨Try.f8, an8, by kernel_rfl, by kernel_rfl, comp8⟩,
  ⟨Try.f9, an9, by kernel_rfl, by kernel_rfl, comp9⟩,
  ⟨Try.f10, an10, by kernel_rfl, by kernel_rfl, comp10⟩,
  ⟨Try.f11, an11, by kernel_rfl, by kernel_rfl, comp11⟩,
  ⟨Try.f12, an12, by kernel_rfl, by kernel_rfl, comp12⟩,
  ⟨Try.f13, an13, by kernel_rfl, by kernel_rfl, comp13⟩,
  ⟨Try.f14, an14, by kernel_rfl, by kernel_rfl, comp14⟩,
  ⟨Try.f15, an15, by kernel_rfl, by kernel_rfl, comp15⟩,
  ⟨Try.f16, an16, by kernel_rfl, by kernel_rfl, comp16⟩,
  ⟨Try.f17, an17, by kernel_rfl, by kernel_rfl, comp17⟩,
  ⟨Try.f18, an18, by kernel_rfl, by kernel_rfl, comp18⟩,
  ⟨Try.f19, an19, by kernel_rfl, by kernel_rfl, comp19⟩,
  ⟨Try.f20, an20, by kernel_rfl, by kernel_rfl, comp20⟩,
  ⟨Try.f21, an21, by kernel_rfl, by kernel_rfl, comp21⟩,
  ⟨Try.f22, an22, by kernel_rfl, by kernel_rfl, comp22⟩,
  ⟨Try.f23, an23, by kernel_rfl, by kernel_rfl, comp23⟩,
  ⟨Try.f24, an24, by kernel_rfl, by kernel_rfl, comp24⟩,
  ⟨Try.f25, an25, by kernel_rfl, by kernel_rfl, comp25⟩,
  ⟨Try.f26, an26, by kernel_rfl, by kernel_rfl, comp26⟩,
  ⟨Try.f27, an27, by kernel_rfl, by kernel_rfl, comp27⟩,
  ⟨Try.f28, an28, by kernel_rfl, by kernel_rfl, comp28⟩,
  ⟨Try.f29, an29, by kernel_rfl, by kernel_rfl, comp29⟩,
  ⟨Try.f30, an30, by kernel_rfl, by kernel_rfl, comp30⟩,
  ⟨Try.f31, an31, by kernel_rfl, by kernel_rfl, comp31⟩,
  ⟨Try.f32, an32, by kernel_rfl, by kernel_rfl, comp32⟩,
  ⟨Try.f33, an33, by kernel_rfl, by kernel_rfl, comp33⟩,
  ⟨Try.f34, an34, by kernel_rfl, by kernel_rfl, comp34⟩,
  ⟨Try.f35, an35, by kernel_rfl, by kernel_rfl, comp35⟩,
  ⟨Try.f36, an36, by kernel_rfl, by kernel_rfl, comp36⟩,
  ⟨Try.f37, an37, by kernel_rfl, by kernel_rfl, comp37⟩,
  ⟨Try.f38, an38, by kernel_rfl, by kernel_rfl, comp38⟩,
  ⟨Try.f39, an39, by kernel_rfl, by kernel_rfl, comp39⟩,
  ⟨Try.f40, an40, by kernel_rfl, by kernel_rfl, comp40⟩,
  ⟨Try.f41, an41, by kernel_rfl, by kernel_rfl, comp41⟩,
  ⟨Try.f42, an42, by kernel_rfl, by kernel_rfl, comp42⟩,
  ⟨Try.f43, an43, by kernel_rfl, by kernel_rfl, comp43⟩,
  ⟨Try.f44, an44, by kernel_rfl, by kernel_rfl, comp44⟩,
  ⟨Try.f45, an45, by kernel_rfl, by kernel_rfl, comp45⟩,
  ⟨Try.f46, an46, by kernel_rfl, by kernel_rfl, comp46⟩,
  ⟨Try.f47, an47, by kernel_rfl, by kernel_rfl, comp47⟩,
  trivial⟩

theorem mixed : Try.prog.follows .mixedOrders = true := by kernel_rfl

theorem run_ok (n : Nat) : CallSound Try.prog (run (findFn tab) n) := run_sound mixed tab_ok n

end AI
end Go.Proofs.Ytocgbgffpdphdaa
