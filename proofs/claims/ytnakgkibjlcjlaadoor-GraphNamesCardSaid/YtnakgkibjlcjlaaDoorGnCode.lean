/- Printed by a program of mine: the functions, compiled; the kernel checks each against the given form. -/
import Derived.Test.YtnakgkibjlcjlaaDoorSe
import Derived.Test.YtnakgkibjlcjlaaDoorProg
import Derived.KernelRfl
namespace Go.Proofs.YtnakgkibjlcjlaaDoor
namespace AI

/- graphdb/graphdblaw07.GraphNames -/
def c3 : ACode :=
  .seq (.region none [] [
      ⟨some 2, .mov (.cst (.bool false)), none⟩] [0] none)
    (.seq (.seq (.region none [] [
      ⟨some 3, .mov (.tmp 0), none⟩,
      ⟨some 4, .len .str (.tmp 3), none⟩,
      ⟨some 5, .bin .gtr .int (.tmp 4) (.cst (.int .i64 200)), none⟩] [0, 5] none)
    (.cond (.tmp 5) (.seq (.region none [] [
        ⟨some 6, .call .pure 4 [], none⟩,
        ⟨some 2, .mov (.tmp 6), none⟩] [2] none)
      (.ret))
    (.skip)))
    (.seq (.region none [] [
      ⟨some 7, .mov (.tmp 0), none⟩,
      ⟨some 8, .call .pure 5 [(.tmp 7)], none⟩,
      ⟨some 9, .mov (.tmp 0), none⟩,
      ⟨some 10, .call .pure 6 [(.tmp 9)], none⟩,
      ⟨some 11, .bin .eql .bool (.tmp 8) (.tmp 10), none⟩,
      ⟨some 12, .mov (.tmp 11), none⟩,
      ⟨some 13, .call .pure 8 [], some (12, true)⟩,
      ⟨some 14, .call .pure 9 [], some (12, true)⟩,
      ⟨some 15, .call .pure 7 [(.tmp 13), (.tmp 14)], some (12, true)⟩,
      ⟨some 16, .pick (.tmp 12) (.tmp 15) (.cst (.bool false)), none⟩,
      ⟨some 17, .mov (.tmp 16), none⟩,
      ⟨some 18, .call .pure 4 [], some (17, true)⟩,
      ⟨some 19, .pick (.tmp 17) (.tmp 18) (.cst (.bool false)), none⟩,
      ⟨some 2, .mov (.tmp 19), none⟩] [2] none)
    (.ret)))

def a3 : AFunc := ⟨1, c3, [.tmp 2]⟩

def an3 : List RAnn := [
  { id := 0, live := [0] },
  { id := 1, live := [0, 5] },
  { id := 2, live := [2] },
  { id := 3, live := [2] }]

theorem comp3 : compF Tryd.prog an3 Tryd.f3 = some a3 := by kernel_rfl

/- graphdb/graphdblaw07.alive -/
def c4 : ACode :=
  .seq (.region none [] [
      ⟨some 0, .mov (.cst (.bool false)), none⟩] [] none)
    (.seq (.region none [] [
      ⟨some 5, .call .pure 10 [], none⟩,
      ⟨some 1, .alloc 4 (.agg [.sl false [], .sl false [], .int .i64 0, .int .i64 0]), none⟩,
      ⟨none, .store 4 (.tmp 1) (.tmp 5), none⟩] [1] none)
    (.seq (.region none [] [
      ⟨some 6, .call .share 10 [], none⟩,
      ⟨some 2, .alloc 4 (.agg [.sl false [], .sl false [], .int .i64 0, .int .i64 0]), none⟩,
      ⟨none, .store 4 (.tmp 2) (.tmp 6), none⟩] [1, 2] none)
    (.seq (.region none [] [
      ⟨some 7, .faddr 1 (.tmp 2), none⟩,
      ⟨some 8, .load none (.tmp 7), none⟩,
      ⟨some 9, .iaddr 5 (.tmp 8) (.cst (.int .i64 0)), none⟩,
      ⟨some 10, .faddr 2 (.tmp 9), none⟩,
      ⟨none, .store 1 (.tmp 10) (.cst (.int .i64 9)), none⟩] [1, 2] none)
    (.seq (.region none [] [
      ⟨some 11, .load (some 4) (.tmp 1), none⟩,
      ⟨some 12, .call .pure 11 [(.tmp 11), (.cst (.int .i64 2)), (.cst (.sl false [])), (.cst (.int .i64 3))], none⟩,
      ⟨some 3, .mov (.tmp 12), none⟩] [1, 2, 3] none)
    (.seq (.region none [] [
      ⟨some 13, .load (some 4) (.tmp 1), none⟩,
      ⟨some 14, .lit false 1 (.str []) 1 [(0, (.cst (.str [84])))], none⟩,
      ⟨some 15, .call .pure 11 [(.tmp 13), (.cst (.int .i64 2)), (.tmp 14), (.cst (.int .i64 2))], none⟩,
      ⟨some 4, .mov (.tmp 15), none⟩] [1, 2, 3, 4] none)
    (.seq (.region none [] [
      ⟨some 16, .load (some 4) (.tmp 1), none⟩,
      ⟨some 17, .call .pure 12 [(.tmp 16)], none⟩,
      ⟨some 18, .bin .eql .int (.tmp 17) (.cst (.int .i64 0)), none⟩,
      ⟨some 19, .mov (.tmp 18), none⟩,
      ⟨some 20, .load (some 4) (.tmp 2), some (19, true)⟩,
      ⟨some 21, .call .borrow 12 [(.tmp 20)], some (19, true)⟩,
      ⟨some 22, .bin .eql .int (.tmp 21) (.cst (.int .i64 10)), some (19, true)⟩,
      ⟨some 23, .pick (.tmp 19) (.tmp 22) (.cst (.bool false)), none⟩,
      ⟨some 24, .mov (.tmp 23), none⟩,
      ⟨some 25, .mov (.tmp 3), some (24, true)⟩,
      ⟨some 26, .build [.int .i64 0, .int .i64 0, .int .i64 0] [(0, 1, (.cst (.int .i64 2))), (1, 1, (.cst (.int .i64 1))), (2, 1, (.cst (.int .i64 1)))], some (24, true)⟩,
      ⟨some 27, .build [.int .i64 0, .int .i64 0, .int .i64 0] [(0, 1, (.cst (.int .i64 2))), (1, 1, (.cst (.int .i64 2))), (2, 1, (.cst (.int .i64 2)))], some (24, true)⟩,
      ⟨some 28, .lit false 3 (.agg [.int .i64 0, .int .i64 0, .int .i64 0]) 2 [(0, (.tmp 26)), (1, (.tmp 27))], some (24, true)⟩,
      ⟨some 29, .call .pure 13 [(.tmp 25), (.tmp 28)], some (24, true)⟩,
      ⟨some 30, .pick (.tmp 24) (.tmp 29) (.cst (.bool false)), none⟩,
      ⟨some 31, .mov (.tmp 30), none⟩,
      ⟨some 32, .mov (.tmp 4), some (31, true)⟩,
      ⟨some 33, .mov (.tmp 3), some (31, true)⟩,
      ⟨some 34, .call .pure 13 [(.tmp 32), (.tmp 33)], some (31, true)⟩,
      ⟨some 35, .pick (.tmp 31) (.tmp 34) (.cst (.bool false)), none⟩,
      ⟨some 36, .mov (.tmp 35), none⟩,
      ⟨some 37, .load (some 4) (.tmp 1), some (36, true)⟩,
      ⟨some 38, .call .pure 11 [(.tmp 37), (.cst (.int .i64 2)), (.cst (.sl false [])), (.cst (.int .i64 1))], some (36, true)⟩,
      ⟨some 39, .len .slice (.tmp 38), some (36, true)⟩,
      ⟨some 40, .bin .eql .int (.tmp 39) (.cst (.int .i64 1)), some (36, true)⟩,
      ⟨some 41, .pick (.tmp 36) (.tmp 40) (.cst (.bool false)), none⟩,
      ⟨some 42, .mov (.tmp 41), none⟩,
      ⟨some 43, .call .pure 8 [], some (42, true)⟩,
      ⟨some 44, .call .pure 12 [(.tmp 43)], some (42, true)⟩,
      ⟨some 45, .bin .eql .int (.tmp 44) (.cst (.int .i64 0)), some (42, true)⟩,
      ⟨some 46, .pick (.tmp 42) (.tmp 45) (.cst (.bool false)), none⟩,
      ⟨some 47, .mov (.tmp 46), none⟩,
      ⟨some 48, .call .pure 5 [(.cst (.str [97, 95, 49]))], some (47, true)⟩,
      ⟨some 49, .pick (.tmp 47) (.tmp 48) (.cst (.bool false)), none⟩,
      ⟨some 50, .mov (.tmp 49), none⟩,
      ⟨some 51, .call .pure 5 [(.cst (.str [49, 97]))], some (50, true)⟩,
      ⟨some 52, .un .not (.tmp 51), some (50, true)⟩,
      ⟨some 53, .pick (.tmp 50) (.tmp 52) (.cst (.bool false)), none⟩,
      ⟨some 0, .mov (.tmp 53), none⟩] [0] none)
    (.ret)))))))

def a4 : AFunc := ⟨0, c4, [.tmp 0]⟩

def an4 : List RAnn := [
  { id := 0 },
  { id := 1, live := [1] },
  { id := 2, live := [1, 2], ops := [(0, .mode .share)] },
  { id := 3, live := [1, 2] },
  { id := 4, live := [1, 2, 3] },
  { id := 5, live := [1, 2, 3, 4] },
  { id := 6, live := [0], ops := [(5, .mode .borrow)] }]

theorem comp4 : compF Tryd.prog an4 Tryd.f4 = some a4 := by kernel_rfl

/- graphdb/graph.Name -/
/-- loop 0 of function 5 -/
def l5_0_h : List Nat := [0, 18, 19]

def l5_0_b : ACode :=
  .seq (.region none [] [
      ⟨some 20, .bin .lss .int (.tmp 19) (.tmp 18), none⟩] [0, 18, 19, 20] none)
    (.seq (.cond (.tmp 20) (.skip)
    (.exit 0))
    (.seq (.block 1 (.seq (.region none [] [
        ⟨some 21, .mov (.tmp 19), none⟩,
        ⟨some 3, .mov (.tmp 21), none⟩] [0, 3, 18, 19] none)
      (.seq (.region none [] [
        ⟨some 22, .mov (.tmp 0), none⟩,
        ⟨some 23, .mov (.tmp 3), none⟩,
        ⟨some 24, .sidx (.tmp 22) (.tmp 23), none⟩,
        ⟨some 25, .call .pure 14 [(.tmp 24)], none⟩,
        ⟨some 26, .un .not (.tmp 25), none⟩,
        ⟨some 27, .mov (.tmp 26), none⟩,
        ⟨some 28, .mov (.tmp 0), some (27, true)⟩,
        ⟨some 29, .mov (.tmp 3), some (27, true)⟩,
        ⟨some 30, .sidx (.tmp 28) (.tmp 29), some (27, true)⟩,
        ⟨some 31, .bin .lss .int (.tmp 30) (.cst (.int .u8 48)), some (27, true)⟩,
        ⟨some 32, .mov (.tmp 31), some (27, true)⟩,
        ⟨some 33, .mov (.tmp 0), some (32, false)⟩,
        ⟨some 34, .mov (.tmp 3), some (32, false)⟩,
        ⟨some 35, .sidx (.tmp 33) (.tmp 34), some (32, false)⟩,
        ⟨some 36, .bin .gtr .int (.tmp 35) (.cst (.int .u8 57)), some (32, false)⟩,
        ⟨some 37, .pick (.tmp 32) (.cst (.bool true)) (.tmp 36), some (27, true)⟩,
        ⟨some 38, .pick (.tmp 27) (.tmp 37) (.cst (.bool false)), none⟩,
        ⟨some 39, .mov (.tmp 38), none⟩,
        ⟨some 40, .mov (.tmp 0), some (39, true)⟩,
        ⟨some 41, .mov (.tmp 3), some (39, true)⟩,
        ⟨some 42, .sidx (.tmp 40) (.tmp 41), some (39, true)⟩,
        ⟨some 43, .bin .neq .int (.tmp 42) (.cst (.int .u8 95)), some (39, true)⟩,
        ⟨some 44, .pick (.tmp 39) (.tmp 43) (.cst (.bool false)), none⟩] [0, 18, 19, 44] none)
      (.cond (.tmp 44) (.seq (.region none [] [
          ⟨some 2, .mov (.cst (.bool false)), none⟩] [2] none)
        (.ret))
      (.skip)))))
    (.region none [] [
      ⟨some 45, .bin .add .int (.tmp 19) (.cst (.int .i64 1)), none⟩,
      ⟨some 19, .mov (.tmp 45), none⟩] [0, 18, 19] none)))

def c5 : ACode :=
  .seq (.region none [] [
      ⟨some 2, .mov (.cst (.bool false)), none⟩] [0] none)
    (.seq (.seq (.region none [] [
      ⟨some 4, .mov (.tmp 0), none⟩,
      ⟨some 5, .bin .eql .str (.tmp 4) (.cst (.str [])), none⟩,
      ⟨some 6, .mov (.tmp 5), none⟩,
      ⟨some 7, .mov (.tmp 0), some (6, false)⟩,
      ⟨some 8, .len .str (.tmp 7), some (6, false)⟩,
      ⟨some 9, .bin .gtr .int (.tmp 8) (.cst (.int .i64 20)), some (6, false)⟩,
      ⟨some 10, .pick (.tmp 6) (.cst (.bool true)) (.tmp 9), none⟩,
      ⟨some 11, .mov (.tmp 10), none⟩,
      ⟨some 12, .mov (.tmp 0), some (11, false)⟩,
      ⟨some 13, .sidx (.tmp 12) (.cst (.int .i64 0)), some (11, false)⟩,
      ⟨some 14, .call .pure 14 [(.tmp 13)], some (11, false)⟩,
      ⟨some 15, .un .not (.tmp 14), some (11, false)⟩,
      ⟨some 16, .pick (.tmp 11) (.cst (.bool true)) (.tmp 15), none⟩] [0, 16] none)
    (.cond (.tmp 16) (.seq (.region none [] [
        ⟨some 2, .mov (.cst (.bool false)), none⟩] [2] none)
      (.ret))
    (.skip)))
    (.seq (.seq (.region none [] [
      ⟨some 17, .mov (.tmp 0), none⟩,
      ⟨some 18, .len .str (.tmp 17), none⟩,
      ⟨some 19, .mov (.cst (.int .i64 0)), none⟩] [0, 18, 19] none)
    (.block 0 (.loop l5_0_h l5_0_b)))
    (.seq (.region none [] [
      ⟨some 2, .mov (.cst (.bool true)), none⟩] [2] none)
    (.ret))))

def a5 : AFunc := ⟨1, c5, [.tmp 2]⟩

def an5 : List RAnn := [
  { id := 0, live := [0] },
  { id := 1, live := [0, 16] },
  { id := 2, live := [2] },
  { id := 3, live := [0, 18, 19] },
  { id := 4, live := [0, 18, 19, 20], hdr := [0, 18, 19] },
  { id := 5, live := [0, 3, 18, 19] },
  { id := 6, live := [0, 18, 19, 44] },
  { id := 7, live := [2] },
  { id := 8, live := [0, 18, 19] },
  { id := 9, live := [2] }]

theorem comp5 : compF Tryd.prog an5 Tryd.f5 = some a5 := by kernel_rfl

/- graphdb/graphdbref07.Name -/
/-- loop 0 of function 6 -/
def l6_0_h : List Nat := [0, 3]

def l6_0_b : ACode :=
  .seq (.seq (.region none [] [
      ⟨some 18, .mov (.tmp 3), none⟩,
      ⟨some 19, .mov (.tmp 0), none⟩,
      ⟨some 20, .len .str (.tmp 19), none⟩,
      ⟨some 21, .bin .lss .int (.tmp 18) (.tmp 20), none⟩] [0, 3, 21] none)
    (.cond (.tmp 21) (.skip)
    (.exit 0)))
    (.seq (.block 1 (.seq (.region none [] [
        ⟨some 24, .mov (.tmp 0), none⟩,
        ⟨some 25, .mov (.tmp 3), none⟩,
        ⟨some 26, .sidx (.tmp 24) (.tmp 25), none⟩,
        ⟨some 27, .call .pure 15 [(.tmp 26)], none⟩,
        ⟨some 28, .un .not (.tmp 27), none⟩,
        ⟨some 29, .mov (.tmp 28), none⟩,
        ⟨some 30, .mov (.tmp 0), some (29, true)⟩,
        ⟨some 31, .mov (.tmp 3), some (29, true)⟩,
        ⟨some 32, .sidx (.tmp 30) (.tmp 31), some (29, true)⟩,
        ⟨some 33, .bin .neq .int (.tmp 32) (.cst (.int .u8 95)), some (29, true)⟩,
        ⟨some 34, .pick (.tmp 29) (.tmp 33) (.cst (.bool false)), none⟩,
        ⟨some 35, .mov (.tmp 34), none⟩,
        ⟨some 36, .mov (.tmp 0), some (35, true)⟩,
        ⟨some 37, .mov (.tmp 3), some (35, true)⟩,
        ⟨some 38, .sidx (.tmp 36) (.tmp 37), some (35, true)⟩,
        ⟨some 39, .bin .lss .int (.tmp 38) (.cst (.int .u8 48)), some (35, true)⟩,
        ⟨some 40, .mov (.tmp 39), some (35, true)⟩,
        ⟨some 41, .mov (.tmp 0), some (40, false)⟩,
        ⟨some 42, .mov (.tmp 3), some (40, false)⟩,
        ⟨some 43, .sidx (.tmp 41) (.tmp 42), some (40, false)⟩,
        ⟨some 44, .bin .gtr .int (.tmp 43) (.cst (.int .u8 57)), some (40, false)⟩,
        ⟨some 45, .pick (.tmp 40) (.cst (.bool true)) (.tmp 44), some (35, true)⟩,
        ⟨some 46, .pick (.tmp 35) (.tmp 45) (.cst (.bool false)), none⟩] [0, 3, 46] none)
      (.cond (.tmp 46) (.seq (.region none [] [
          ⟨some 2, .mov (.cst (.bool false)), none⟩] [2] none)
        (.ret))
      (.skip))))
    (.region none [] [
      ⟨some 22, .mov (.tmp 3), none⟩,
      ⟨some 23, .bin .add .int (.tmp 22) (.cst (.int .i64 1)), none⟩,
      ⟨some 3, .mov (.tmp 23), none⟩] [0, 3] none))

def c6 : ACode :=
  .seq (.region none [] [
      ⟨some 2, .mov (.cst (.bool false)), none⟩] [0] none)
    (.seq (.seq (.region none [] [
      ⟨some 4, .mov (.tmp 0), none⟩,
      ⟨some 5, .len .str (.tmp 4), none⟩,
      ⟨some 6, .bin .lss .int (.tmp 5) (.cst (.int .i64 1)), none⟩,
      ⟨some 7, .mov (.tmp 6), none⟩,
      ⟨some 8, .mov (.tmp 0), some (7, false)⟩,
      ⟨some 9, .len .str (.tmp 8), some (7, false)⟩,
      ⟨some 10, .bin .gtr .int (.tmp 9) (.cst (.int .i64 20)), some (7, false)⟩,
      ⟨some 11, .pick (.tmp 7) (.cst (.bool true)) (.tmp 10), none⟩,
      ⟨some 12, .mov (.tmp 11), none⟩,
      ⟨some 13, .mov (.tmp 0), some (12, false)⟩,
      ⟨some 14, .sidx (.tmp 13) (.cst (.int .i64 0)), some (12, false)⟩,
      ⟨some 15, .call .pure 15 [(.tmp 14)], some (12, false)⟩,
      ⟨some 16, .un .not (.tmp 15), some (12, false)⟩,
      ⟨some 17, .pick (.tmp 12) (.cst (.bool true)) (.tmp 16), none⟩] [0, 17] none)
    (.cond (.tmp 17) (.seq (.region none [] [
        ⟨some 2, .mov (.cst (.bool false)), none⟩] [2] none)
      (.ret))
    (.skip)))
    (.seq (.seq (.region none [] [
      ⟨some 3, .mov (.cst (.int .i64 1)), none⟩] [0, 3] none)
    (.block 0 (.loop l6_0_h l6_0_b)))
    (.seq (.region none [] [
      ⟨some 2, .mov (.cst (.bool true)), none⟩] [2] none)
    (.ret))))

def a6 : AFunc := ⟨1, c6, [.tmp 2]⟩

def an6 : List RAnn := [
  { id := 0, live := [0] },
  { id := 1, live := [0, 17] },
  { id := 2, live := [2] },
  { id := 3, live := [0, 3] },
  { id := 4, live := [0, 3, 21], hdr := [0, 3] },
  { id := 6, live := [0, 3, 46] },
  { id := 7, live := [2] },
  { id := 5, live := [0, 3] },
  { id := 8, live := [2] }]

theorem comp6 : compF Tryd.prog an6 Tryd.f6 = some a6 := by kernel_rfl

/- graphdb/graph.Same -/
def c7 : ACode :=
  .seq (.region none [] [
      ⟨some 2, .box 4 (.tmp 0), none⟩,
      ⟨some 3, .box 4 (.tmp 1), none⟩,
      ⟨some 4, .mov (.cst (.bool false)), none⟩] [2, 3] none)
    (.seq (.seq (.region none [] [
      ⟨some 6, .faddr 2 (.tmp 2), none⟩,
      ⟨some 7, .load none (.tmp 6), none⟩,
      ⟨some 8, .faddr 2 (.tmp 3), none⟩,
      ⟨some 9, .load none (.tmp 8), none⟩,
      ⟨some 10, .bin .neq .int (.tmp 7) (.tmp 9), none⟩,
      ⟨some 11, .mov (.tmp 10), none⟩,
      ⟨some 12, .faddr 3 (.tmp 2), some (11, false)⟩,
      ⟨some 13, .load none (.tmp 12), some (11, false)⟩,
      ⟨some 14, .faddr 3 (.tmp 3), some (11, false)⟩,
      ⟨some 15, .load none (.tmp 14), some (11, false)⟩,
      ⟨some 16, .bin .neq .int (.tmp 13) (.tmp 15), some (11, false)⟩,
      ⟨some 17, .pick (.tmp 11) (.cst (.bool true)) (.tmp 16), none⟩] [2, 3, 17] none)
    (.cond (.tmp 17) (.seq (.region none [] [
        ⟨some 4, .mov (.cst (.bool false)), none⟩] [4] none)
      (.ret))
    (.skip)))
    (.seq (.region none [] [
      ⟨some 18, .faddr 0 (.tmp 2), none⟩,
      ⟨some 19, .load none (.tmp 18), none⟩,
      ⟨some 20, .faddr 0 (.tmp 3), none⟩,
      ⟨some 21, .load none (.tmp 20), none⟩,
      ⟨some 22, .call .pure 16 [(.tmp 19), (.tmp 21), (.cst (.fn 17 []))], none⟩,
      ⟨some 5, .mov (.tmp 22), none⟩] [2, 3, 5] none)
    (.seq (.region none [] [
      ⟨some 23, .mov (.tmp 5), none⟩,
      ⟨some 24, .mov (.tmp 23), none⟩,
      ⟨some 25, .faddr 1 (.tmp 2), some (24, true)⟩,
      ⟨some 26, .load none (.tmp 25), some (24, true)⟩,
      ⟨some 27, .faddr 1 (.tmp 3), some (24, true)⟩,
      ⟨some 28, .load none (.tmp 27), some (24, true)⟩,
      ⟨some 29, .call .pure 20 [(.tmp 26), (.tmp 28), (.cst (.fn 21 []))], some (24, true)⟩,
      ⟨some 30, .pick (.tmp 24) (.tmp 29) (.cst (.bool false)), none⟩,
      ⟨some 4, .mov (.tmp 30), none⟩] [4] none)
    (.ret))))

def a7 : AFunc := ⟨2, c7, [.tmp 4]⟩

def an7 : List RAnn := [
  { id := 0, live := [2, 3] },
  { id := 1, live := [2, 3, 17] },
  { id := 2, live := [4] },
  { id := 3, live := [2, 3, 5] },
  { id := 4, live := [4] }]

theorem comp7 : compF Tryd.prog an7 Tryd.f7 = some a7 := by kernel_rfl

/- graphdb/graph.New -/
def c8 : ACode :=
  .seq (.region none [] [
      ⟨some 0, .alloc 4 (.agg [.sl false [], .sl false [], .int .i64 0, .int .i64 0]), none⟩] [0] none)
    (.seq (.region none [] [
      ⟨some 1, .build [.sl false [], .sl false [], .int .i64 0, .int .i64 0] [(2, 1, (.cst (.int .i64 1))), (3, 1, (.cst (.int .i64 1)))], none⟩,
      ⟨none, .store 4 (.tmp 0) (.tmp 1), none⟩] [0] none)
    (.ret))

def a8 : AFunc := ⟨0, c8, [.cell 0 (some 4)]⟩

def an8 : List RAnn := [
  { id := 0, live := [0] },
  { id := 1, live := [0] }]

theorem comp8 : compF Tryd.prog an8 Tryd.f8 = some a8 := by kernel_rfl

/- graphdb/graphdbref07.New -/
def c9 : ACode :=
  .seq (.region none [] [
      ⟨some 0, .alloc 4 (.agg [.sl false [], .sl false [], .int .i64 0, .int .i64 0]), none⟩] [0] none)
    (.seq (.region none [] [
      ⟨some 1, .build [.sl false [], .sl false [], .int .i64 0, .int .i64 0] [(2, 1, (.cst (.int .i64 1))), (3, 1, (.cst (.int .i64 1)))], none⟩,
      ⟨none, .store 4 (.tmp 0) (.tmp 1), none⟩] [0] none)
    (.ret))

def a9 : AFunc := ⟨0, c9, [.cell 0 (some 4)]⟩

def an9 : List RAnn := [
  { id := 0, live := [0] },
  { id := 1, live := [0] }]

theorem comp9 : compF Tryd.prog an9 Tryd.f9 = some a9 := by kernel_rfl

/- graphdb/graphdblaw07.example -/
def c10 : ACode :=
  .seq (.region none [] [
      ⟨some 0, .alloc 4 (.agg [.sl false [], .sl false [], .int .i64 0, .int .i64 0]), none⟩] [0] none)
    (.seq (.region none [] [
      ⟨some 1, .build [.int .i64 0, .sl false [], .sl false []] [(0, 1, (.cst (.int .i64 1)))], none⟩,
      ⟨some 2, .build [.int .i64 0, .sl false [], .sl false []] [(0, 1, (.cst (.int .i64 2)))], none⟩,
      ⟨some 3, .lit true 3 (.agg [.int .i64 0, .sl false [], .sl false []]) 2 [(0, (.tmp 1)), (1, (.tmp 2))], none⟩,
      ⟨some 4, .build [.int .i64 0, .int .i64 0, .int .i64 0, .str [], .sl false []] [(0, 1, (.cst (.int .i64 1))), (1, 1, (.cst (.int .i64 1))), (2, 1, (.cst (.int .i64 2))), (3, 1, (.cst (.str [84])))], none⟩,
      ⟨some 5, .build [.int .i64 0, .int .i64 0, .int .i64 0, .str [], .sl false []] [(0, 1, (.cst (.int .i64 2))), (1, 1, (.cst (.int .i64 2))), (2, 1, (.cst (.int .i64 2))), (3, 1, (.cst (.str [84])))], none⟩,
      ⟨some 6, .lit true 5 (.agg [.int .i64 0, .int .i64 0, .int .i64 0, .str [], .sl false []]) 2 [(0, (.tmp 4)), (1, (.tmp 5))], none⟩,
      ⟨some 7, .build [.sl false [], .sl false [], .int .i64 0, .int .i64 0] [(0, 1, (.tmp 3)), (1, 1, (.tmp 6)), (2, 1, (.cst (.int .i64 3))), (3, 1, (.cst (.int .i64 3)))], none⟩,
      ⟨none, .store 4 (.tmp 0) (.tmp 7), none⟩] [0] none)
    (.ret))

def a10 : AFunc := ⟨0, c10, [.cell 0 (some 4)]⟩

def an10 : List RAnn := [
  { id := 0, live := [0] },
  { id := 1, live := [0], ops := [(2, .own), (5, .own)] }]

theorem comp10 : compF Tryd.prog an10 Tryd.f10 = some a10 := by kernel_rfl

/- graphdb/graph.Steps -/
/-- loop 0 of function 11 -/
def l11_0_h : List Nat := [1, 2, 3, 9, 13, 14, 15]

def l11_0_b : ACode :=
  .seq (.region none [] [
      ⟨some 16, .bin .lss .int (.tmp 15) (.tmp 14), none⟩] [1, 2, 3, 9, 13, 14, 15, 16] none)
    (.seq (.cond (.tmp 16) (.skip)
    (.exit 0))
    (.seq (.block 1 (.seq (.region none [] [
        ⟨some 17, .iaddr 5 (.tmp 13) (.tmp 15), none⟩,
        ⟨some 18, .load (some 5) (.tmp 17), none⟩,
        ⟨some 11, .alloc 5 (.agg [.int .i64 0, .int .i64 0, .int .i64 0, .str [], .sl false []]), none⟩,
        ⟨none, .store 5 (.tmp 11) (.tmp 18), none⟩] [1, 2, 3, 9, 11, 13, 14, 15] none)
      (.seq (.seq (.region none [] [
        ⟨some 19, .load (some 5) (.tmp 11), none⟩,
        ⟨some 20, .mov (.tmp 2), none⟩,
        ⟨some 21, .call .pure 22 [(.tmp 19), (.tmp 20)], none⟩,
        ⟨some 22, .un .not (.tmp 21), none⟩] [1, 2, 3, 9, 11, 13, 14, 15, 22] none)
      (.cond (.tmp 22) (.exit 1)
      (.skip)))
      (.block 2 (.seq (.region none [] [
          ⟨some 24, .mov (.tmp 3), none⟩,
          ⟨some 25, .bin .eql .int (.tmp 24) (.cst (.int .i64 1)), none⟩,
          ⟨some 26, .mov (.tmp 25), none⟩,
          ⟨some 27, .mov (.tmp 3), some (26, false)⟩,
          ⟨some 28, .bin .eql .int (.tmp 27) (.cst (.int .i64 3)), some (26, false)⟩,
          ⟨some 29, .pick (.tmp 26) (.cst (.bool true)) (.tmp 28), none⟩,
          ⟨some 30, .mov (.tmp 29), none⟩,
          ⟨some 31, .faddr 1 (.tmp 11), some (30, true)⟩,
          ⟨some 32, .load none (.tmp 31), some (30, true)⟩,
          ⟨some 33, .mov (.tmp 1), some (30, true)⟩,
          ⟨some 34, .bin .eql .int (.tmp 32) (.tmp 33), some (30, true)⟩,
          ⟨some 35, .pick (.tmp 30) (.tmp 34) (.cst (.bool false)), none⟩,
          ⟨some 23, .mov (.tmp 35), none⟩] [1, 2, 3, 9, 11, 13, 14, 15, 23] none)
        (.cond (.tmp 23) (.region none [] [
            ⟨some 36, .mov (.tmp 9), none⟩,
            ⟨some 37, .mov (.tmp 1), none⟩,
            ⟨some 38, .faddr 2 (.tmp 11), none⟩,
            ⟨some 39, .load none (.tmp 38), none⟩,
            ⟨some 40, .faddr 0 (.tmp 11), none⟩,
            ⟨some 41, .load none (.tmp 40), none⟩,
            ⟨some 42, .build [.int .i64 0, .int .i64 0, .int .i64 0] [(0, 1, (.tmp 37)), (1, 1, (.tmp 39)), (2, 1, (.tmp 41))], none⟩,
            ⟨some 43, .lit false 3 (.agg [.int .i64 0, .int .i64 0, .int .i64 0]) 1 [(0, (.tmp 42))], none⟩,
            ⟨some 44, .append 3 24 (.tmp 36) (.tmp 43), none⟩,
            ⟨some 9, .mov (.tmp 44), none⟩] [1, 2, 3, 9, 13, 14, 15] none)
        (.seq (.region none [] [
            ⟨some 46, .mov (.tmp 3), none⟩,
            ⟨some 47, .bin .eql .int (.tmp 46) (.cst (.int .i64 2)), none⟩,
            ⟨some 48, .mov (.tmp 47), none⟩,
            ⟨some 49, .mov (.tmp 3), some (48, false)⟩,
            ⟨some 50, .bin .eql .int (.tmp 49) (.cst (.int .i64 3)), some (48, false)⟩,
            ⟨some 51, .pick (.tmp 48) (.cst (.bool true)) (.tmp 50), none⟩,
            ⟨some 52, .mov (.tmp 51), none⟩,
            ⟨some 53, .faddr 2 (.tmp 11), some (52, true)⟩,
            ⟨some 54, .load none (.tmp 53), some (52, true)⟩,
            ⟨some 55, .mov (.tmp 1), some (52, true)⟩,
            ⟨some 56, .bin .eql .int (.tmp 54) (.tmp 55), some (52, true)⟩,
            ⟨some 57, .pick (.tmp 52) (.tmp 56) (.cst (.bool false)), none⟩,
            ⟨some 45, .mov (.tmp 57), none⟩] [1, 2, 3, 9, 11, 13, 14, 15, 45] none)
          (.cond (.tmp 45) (.region none [] [
              ⟨some 58, .mov (.tmp 9), none⟩,
              ⟨some 59, .mov (.tmp 1), none⟩,
              ⟨some 60, .faddr 1 (.tmp 11), none⟩,
              ⟨some 61, .load none (.tmp 60), none⟩,
              ⟨some 62, .faddr 0 (.tmp 11), none⟩,
              ⟨some 63, .load none (.tmp 62), none⟩,
              ⟨some 64, .build [.int .i64 0, .int .i64 0, .int .i64 0] [(0, 1, (.tmp 59)), (1, 1, (.tmp 61)), (2, 1, (.tmp 63))], none⟩,
              ⟨some 65, .lit false 3 (.agg [.int .i64 0, .int .i64 0, .int .i64 0]) 1 [(0, (.tmp 64))], none⟩,
              ⟨some 66, .append 3 24 (.tmp 58) (.tmp 65), none⟩,
              ⟨some 9, .mov (.tmp 66), none⟩] [1, 2, 3, 9, 13, 14, 15] none)
          (.skip)))))))))
    (.region none [] [
      ⟨some 67, .bin .add .int (.tmp 15) (.cst (.int .i64 1)), none⟩,
      ⟨some 15, .mov (.tmp 67), none⟩] [1, 2, 3, 9, 13, 14, 15] (some 2))))

def c11 : ACode :=
  .seq (.region none [] [
      ⟨some 4, .box 4 (.tmp 0), none⟩,
      ⟨some 8, .mov (.cst (.sl false [])), none⟩] [1, 2, 3, 4] none)
    (.seq (.region none [] [
      ⟨some 9, .newown 3, none⟩] [1, 2, 3, 4, 9] none)
    (.seq (.seq (.region none [] [
      ⟨some 12, .faddr 1 (.tmp 4), none⟩,
      ⟨some 13, .load none (.tmp 12), none⟩,
      ⟨some 14, .len .slice (.tmp 13), none⟩,
      ⟨some 15, .mov (.cst (.int .i64 0)), none⟩] [1, 2, 3, 9, 13, 14, 15] none)
    (.block 0 (.loop l11_0_h l11_0_b)))
    (.seq (.region none [] [
      ⟨some 68, .mov (.tmp 9), none⟩,
      ⟨some 69, .call .share 23 [(.tmp 68), (.cst (.fn 24 []))], none⟩] [9] none)
    (.seq (.region none [] [
      ⟨some 70, .mov (.tmp 9), none⟩,
      ⟨some 8, .mov (.tmp 70), none⟩] [8] none)
    (.ret)))))

def a11 : AFunc := ⟨4, c11, [.tmp 8]⟩

def an11 : List RAnn := [
  { id := 0, live := [1, 2, 3, 4] },
  { id := 1, live := [1, 2, 3, 4, 9], ops := [(0, .own)] },
  { id := 2, live := [1, 2, 3, 9, 13, 14, 15] },
  { id := 3, live := [1, 2, 3, 9, 13, 14, 15, 16], hdr := [1, 2, 3, 9, 13, 14, 15] },
  { id := 4, live := [1, 2, 3, 9, 11, 13, 14, 15] },
  { id := 5, live := [1, 2, 3, 9, 11, 13, 14, 15, 22] },
  { id := 6, live := [1, 2, 3, 9, 11, 13, 14, 15, 23] },
  { id := 7, live := [1, 2, 3, 9, 13, 14, 15] },
  { id := 8, live := [1, 2, 3, 9, 11, 13, 14, 15, 45] },
  { id := 9, live := [1, 2, 3, 9, 13, 14, 15] },
  { id := 10, live := [1, 2, 3, 9, 13, 14, 15], trunc := some 2 },
  { id := 11, live := [9], ops := [(1, .mode .share)] },
  { id := 12, live := [8] }]

theorem comp11 : compF Tryd.prog an11 Tryd.f11 = some a11 := by kernel_rfl

/- graphdb/graph.Check -/
/-- loop 0 of function 12 -/
def l12_0_h : List Nat := [1, 38, 39, 40]

def l12_0_b : ACode :=
  .seq (.region none [] [
      ⟨some 41, .bin .lss .int (.tmp 40) (.tmp 39), none⟩] [1, 38, 39, 40, 41] none)
    (.seq (.cond (.tmp 41) (.skip)
    (.exit 0))
    (.seq (.block 1 (.seq (.region none [] [
        ⟨some 42, .mov (.tmp 40), none⟩,
        ⟨some 43, .iaddr 3 (.tmp 38) (.tmp 40), none⟩,
        ⟨some 44, .load (some 3) (.tmp 43), none⟩,
        ⟨some 4, .alloc 3 (.agg [.int .i64 0, .sl false [], .sl false []]), none⟩,
        ⟨some 3, .mov (.tmp 42), none⟩,
        ⟨none, .store 3 (.tmp 4) (.tmp 44), none⟩] [1, 3, 4, 38, 39, 40] none)
      (.seq (.seq (.region (some 14) [] [
        ⟨some 45, .mov (.tmp 3), none⟩,
        ⟨some 46, .bin .gtr .int (.tmp 45) (.cst (.int .i64 0)), none⟩,
        ⟨some 47, .mov (.tmp 46), none⟩,
        ⟨some 48, .faddr 0 (.tmp 4), some (47, true)⟩,
        ⟨some 49, .load none (.tmp 48), some (47, true)⟩,
        ⟨some 50, .faddr 0 (.tmp 1), some (47, true)⟩,
        ⟨some 51, .load none (.tmp 50), some (47, true)⟩,
        ⟨some 52, .mov (.tmp 3), some (47, true)⟩,
        ⟨some 53, .bin .sub .int (.tmp 52) (.cst (.int .i64 1)), some (47, true)⟩,
        ⟨some 54, .iaddr 3 (.tmp 51) (.tmp 53), some (47, true)⟩,
        ⟨some 55, .faddr 0 (.tmp 54), some (47, true)⟩,
        ⟨some 56, .load none (.tmp 55), some (47, true)⟩,
        ⟨some 57, .bin .leq .int (.tmp 49) (.tmp 56), some (47, true)⟩,
        ⟨some 58, .pick (.tmp 47) (.tmp 57) (.cst (.bool false)), none⟩] [1, 4, 38, 39, 40, 58] none)
      (.cond (.tmp 58) (.seq (.region none [] [
          ⟨some 2, .mov (.cst (.int .i64 26)), none⟩] [2] none)
        (.ret))
      (.skip)))
      (.seq (.seq (.region none [] [
        ⟨some 59, .faddr 0 (.tmp 4), none⟩,
        ⟨some 60, .load none (.tmp 59), none⟩,
        ⟨some 61, .bin .lss .int (.tmp 60) (.cst (.int .i64 1)), none⟩,
        ⟨some 62, .mov (.tmp 61), none⟩,
        ⟨some 63, .faddr 0 (.tmp 4), some (62, false)⟩,
        ⟨some 64, .load none (.tmp 63), some (62, false)⟩,
        ⟨some 65, .faddr 2 (.tmp 1), some (62, false)⟩,
        ⟨some 66, .load none (.tmp 65), some (62, false)⟩,
        ⟨some 67, .bin .geq .int (.tmp 64) (.tmp 66), some (62, false)⟩,
        ⟨some 68, .pick (.tmp 62) (.cst (.bool true)) (.tmp 67), none⟩] [1, 4, 38, 39, 40, 68] none)
      (.cond (.tmp 68) (.seq (.region none [] [
          ⟨some 2, .mov (.cst (.int .i64 1)), none⟩] [2] none)
        (.ret))
      (.skip)))
      (.seq (.region none [] [
        ⟨some 69, .faddr 1 (.tmp 4), none⟩,
        ⟨some 70, .load none (.tmp 69), none⟩,
        ⟨some 71, .faddr 2 (.tmp 4), none⟩,
        ⟨some 72, .load none (.tmp 71), none⟩,
        ⟨some 73, .call .pure 27 [(.tmp 70), (.tmp 72)], none⟩,
        ⟨some 5, .mov (.tmp 73), none⟩] [1, 5, 38, 39, 40] none)
      (.seq (.region none [] [
        ⟨some 74, .mov (.tmp 5), none⟩,
        ⟨some 75, .bin .neq .int (.tmp 74) (.cst (.int .i64 0)), none⟩] [1, 5, 38, 39, 40, 75] none)
      (.cond (.tmp 75) (.seq (.region none [] [
          ⟨some 76, .mov (.tmp 5), none⟩,
          ⟨some 2, .mov (.tmp 76), none⟩] [2] none)
        (.ret))
      (.skip))))))))
    (.region none [] [
      ⟨some 77, .bin .add .int (.tmp 40) (.cst (.int .i64 1)), none⟩,
      ⟨some 40, .mov (.tmp 77), none⟩] [1, 38, 39, 40] none)))

/-- loop 1 of function 12 -/
def l12_1_h : List Nat := [1, 79, 80, 81]

def l12_1_b : ACode :=
  .seq (.region none [] [
      ⟨some 82, .bin .lss .int (.tmp 81) (.tmp 80), none⟩] [1, 79, 80, 81, 82] none)
    (.seq (.cond (.tmp 82) (.skip)
    (.exit 2))
    (.seq (.block 3 (.seq (.region none [] [
        ⟨some 83, .mov (.tmp 81), none⟩,
        ⟨some 84, .iaddr 5 (.tmp 79) (.tmp 81), none⟩,
        ⟨some 85, .load (some 5) (.tmp 84), none⟩,
        ⟨some 7, .alloc 5 (.agg [.int .i64 0, .int .i64 0, .int .i64 0, .str [], .sl false []]), none⟩,
        ⟨some 6, .mov (.tmp 83), none⟩,
        ⟨none, .store 5 (.tmp 7) (.tmp 85), none⟩] [1, 6, 7, 79, 80, 81] none)
      (.seq (.seq (.region (some 14) [] [
        ⟨some 86, .mov (.tmp 6), none⟩,
        ⟨some 87, .bin .gtr .int (.tmp 86) (.cst (.int .i64 0)), none⟩,
        ⟨some 88, .mov (.tmp 87), none⟩,
        ⟨some 89, .faddr 0 (.tmp 7), some (88, true)⟩,
        ⟨some 90, .load none (.tmp 89), some (88, true)⟩,
        ⟨some 91, .faddr 1 (.tmp 1), some (88, true)⟩,
        ⟨some 92, .load none (.tmp 91), some (88, true)⟩,
        ⟨some 93, .mov (.tmp 6), some (88, true)⟩,
        ⟨some 94, .bin .sub .int (.tmp 93) (.cst (.int .i64 1)), some (88, true)⟩,
        ⟨some 95, .iaddr 5 (.tmp 92) (.tmp 94), some (88, true)⟩,
        ⟨some 96, .faddr 0 (.tmp 95), some (88, true)⟩,
        ⟨some 97, .load none (.tmp 96), some (88, true)⟩,
        ⟨some 98, .bin .leq .int (.tmp 90) (.tmp 97), some (88, true)⟩,
        ⟨some 99, .pick (.tmp 88) (.tmp 98) (.cst (.bool false)), none⟩] [1, 7, 79, 80, 81, 99] none)
      (.cond (.tmp 99) (.seq (.region none [] [
          ⟨some 2, .mov (.cst (.int .i64 26)), none⟩] [2] none)
        (.ret))
      (.skip)))
      (.seq (.seq (.region none [] [
        ⟨some 100, .faddr 0 (.tmp 7), none⟩,
        ⟨some 101, .load none (.tmp 100), none⟩,
        ⟨some 102, .bin .lss .int (.tmp 101) (.cst (.int .i64 1)), none⟩,
        ⟨some 103, .mov (.tmp 102), none⟩,
        ⟨some 104, .faddr 0 (.tmp 7), some (103, false)⟩,
        ⟨some 105, .load none (.tmp 104), some (103, false)⟩,
        ⟨some 106, .faddr 3 (.tmp 1), some (103, false)⟩,
        ⟨some 107, .load none (.tmp 106), some (103, false)⟩,
        ⟨some 108, .bin .geq .int (.tmp 105) (.tmp 107), some (103, false)⟩,
        ⟨some 109, .pick (.tmp 103) (.cst (.bool true)) (.tmp 108), none⟩] [1, 7, 79, 80, 81, 109] none)
      (.cond (.tmp 109) (.seq (.region none [] [
          ⟨some 2, .mov (.cst (.int .i64 1)), none⟩] [2] none)
        (.ret))
      (.skip)))
      (.seq (.seq (.region none [] [
        ⟨some 110, .faddr 0 (.tmp 1), none⟩,
        ⟨some 111, .load none (.tmp 110), none⟩,
        ⟨some 112, .faddr 1 (.tmp 7), none⟩,
        ⟨some 113, .load none (.tmp 112), none⟩,
        ⟨some 114, .call .pure 28 [(.tmp 111), (.tmp 113)], none⟩,
        ⟨some 115, .un .not (.tmp 114), none⟩,
        ⟨some 116, .mov (.tmp 115), none⟩,
        ⟨some 117, .faddr 0 (.tmp 1), some (116, false)⟩,
        ⟨some 118, .load none (.tmp 117), some (116, false)⟩,
        ⟨some 119, .faddr 2 (.tmp 7), some (116, false)⟩,
        ⟨some 120, .load none (.tmp 119), some (116, false)⟩,
        ⟨some 121, .call .pure 28 [(.tmp 118), (.tmp 120)], some (116, false)⟩,
        ⟨some 122, .un .not (.tmp 121), some (116, false)⟩,
        ⟨some 123, .pick (.tmp 116) (.cst (.bool true)) (.tmp 122), none⟩] [1, 7, 79, 80, 81, 123] none)
      (.cond (.tmp 123) (.seq (.region none [] [
          ⟨some 2, .mov (.cst (.int .i64 10)), none⟩] [2] none)
        (.ret))
      (.skip)))
      (.seq (.seq (.region none [] [
        ⟨some 124, .faddr 3 (.tmp 7), none⟩,
        ⟨some 125, .load none (.tmp 124), none⟩,
        ⟨some 126, .call .pure 5 [(.tmp 125)], none⟩,
        ⟨some 127, .un .not (.tmp 126), none⟩] [1, 7, 79, 80, 81, 127] none)
      (.cond (.tmp 127) (.seq (.region none [] [
          ⟨some 2, .mov (.cst (.int .i64 6)), none⟩] [2] none)
        (.ret))
      (.skip)))
      (.seq (.region none [] [
        ⟨some 128, .faddr 4 (.tmp 7), none⟩,
        ⟨some 129, .load none (.tmp 128), none⟩,
        ⟨some 130, .call .pure 27 [(.cst (.sl false [])), (.tmp 129)], none⟩,
        ⟨some 8, .mov (.tmp 130), none⟩] [1, 8, 79, 80, 81] none)
      (.seq (.region none [] [
        ⟨some 131, .mov (.tmp 8), none⟩,
        ⟨some 132, .bin .neq .int (.tmp 131) (.cst (.int .i64 0)), none⟩] [1, 8, 79, 80, 81, 132] none)
      (.cond (.tmp 132) (.seq (.region none [] [
          ⟨some 133, .mov (.tmp 8), none⟩,
          ⟨some 2, .mov (.tmp 133), none⟩] [2] none)
        (.ret))
      (.skip))))))))))
    (.region none [] [
      ⟨some 134, .bin .add .int (.tmp 81) (.cst (.int .i64 1)), none⟩,
      ⟨some 81, .mov (.tmp 134), none⟩] [1, 79, 80, 81] none)))

def c12 : ACode :=
  .seq (.region none [] [
      ⟨some 1, .box 4 (.tmp 0), none⟩,
      ⟨some 2, .mov (.cst (.int .i64 0)), none⟩] [1] none)
    (.seq (.seq (.region none [] [
      ⟨some 9, .faddr 0 (.tmp 1), none⟩,
      ⟨some 10, .load none (.tmp 9), none⟩,
      ⟨some 11, .len .slice (.tmp 10), none⟩,
      ⟨some 12, .bin .gtr .int (.tmp 11) (.cst (.int .i64 2000)), none⟩,
      ⟨some 13, .mov (.tmp 12), none⟩,
      ⟨some 14, .faddr 1 (.tmp 1), some (13, false)⟩,
      ⟨some 15, .load none (.tmp 14), some (13, false)⟩,
      ⟨some 16, .len .slice (.tmp 15), some (13, false)⟩,
      ⟨some 17, .bin .gtr .int (.tmp 16) (.cst (.int .i64 4000)), some (13, false)⟩,
      ⟨some 18, .pick (.tmp 13) (.cst (.bool true)) (.tmp 17), none⟩] [1, 18] none)
    (.cond (.tmp 18) (.seq (.region none [] [
        ⟨some 2, .mov (.cst (.int .i64 4)), none⟩] [2] none)
      (.ret))
    (.skip)))
    (.seq (.seq (.region none [] [
      ⟨some 19, .faddr 2 (.tmp 1), none⟩,
      ⟨some 20, .load none (.tmp 19), none⟩,
      ⟨some 21, .bin .lss .int (.tmp 20) (.cst (.int .i64 1)), none⟩,
      ⟨some 22, .mov (.tmp 21), none⟩,
      ⟨some 23, .faddr 2 (.tmp 1), some (22, false)⟩,
      ⟨some 24, .load none (.tmp 23), some (22, false)⟩,
      ⟨some 25, .bin .gtr .int (.tmp 24) (.cst (.int .i64 1000001)), some (22, false)⟩,
      ⟨some 26, .pick (.tmp 22) (.cst (.bool true)) (.tmp 25), none⟩,
      ⟨some 27, .mov (.tmp 26), none⟩,
      ⟨some 28, .faddr 3 (.tmp 1), some (27, false)⟩,
      ⟨some 29, .load none (.tmp 28), some (27, false)⟩,
      ⟨some 30, .bin .lss .int (.tmp 29) (.cst (.int .i64 1)), some (27, false)⟩,
      ⟨some 31, .pick (.tmp 27) (.cst (.bool true)) (.tmp 30), none⟩,
      ⟨some 32, .mov (.tmp 31), none⟩,
      ⟨some 33, .faddr 3 (.tmp 1), some (32, false)⟩,
      ⟨some 34, .load none (.tmp 33), some (32, false)⟩,
      ⟨some 35, .bin .gtr .int (.tmp 34) (.cst (.int .i64 1000001)), some (32, false)⟩,
      ⟨some 36, .pick (.tmp 32) (.cst (.bool true)) (.tmp 35), none⟩] [1, 36] none)
    (.cond (.tmp 36) (.seq (.region none [] [
        ⟨some 2, .mov (.cst (.int .i64 1)), none⟩] [2] none)
      (.ret))
    (.skip)))
    (.seq (.seq (.region none [] [
      ⟨some 37, .faddr 0 (.tmp 1), none⟩,
      ⟨some 38, .load none (.tmp 37), none⟩,
      ⟨some 39, .len .slice (.tmp 38), none⟩,
      ⟨some 40, .mov (.cst (.int .i64 0)), none⟩] [1, 38, 39, 40] none)
    (.block 0 (.loop l12_0_h l12_0_b)))
    (.seq (.seq (.region none [] [
      ⟨some 78, .faddr 1 (.tmp 1), none⟩,
      ⟨some 79, .load none (.tmp 78), none⟩,
      ⟨some 80, .len .slice (.tmp 79), none⟩,
      ⟨some 81, .mov (.cst (.int .i64 0)), none⟩] [1, 79, 80, 81] none)
    (.block 2 (.loop l12_1_h l12_1_b)))
    (.seq (.region none [] [
      ⟨some 2, .mov (.cst (.int .i64 0)), none⟩] [2] none)
    (.ret))))))

def a12 : AFunc := ⟨1, c12, [.tmp 2]⟩

def an12 : List RAnn := [
  { id := 0, live := [1] },
  { id := 1, live := [1, 18] },
  { id := 2, live := [2] },
  { id := 3, live := [1, 36] },
  { id := 4, live := [2] },
  { id := 5, live := [1, 38, 39, 40] },
  { id := 6, live := [1, 38, 39, 40, 41], hdr := [1, 38, 39, 40] },
  { id := 7, live := [1, 3, 4, 38, 39, 40] },
  { id := 8, head := some 14, live := [1, 4, 38, 39, 40, 58] },
  { id := 9, live := [2] },
  { id := 10, live := [1, 4, 38, 39, 40, 68] },
  { id := 11, live := [2] },
  { id := 12, live := [1, 5, 38, 39, 40] },
  { id := 13, live := [1, 5, 38, 39, 40, 75] },
  { id := 14, live := [2] },
  { id := 15, live := [1, 38, 39, 40] },
  { id := 16, live := [1, 79, 80, 81] },
  { id := 17, live := [1, 79, 80, 81, 82], hdr := [1, 79, 80, 81] },
  { id := 18, live := [1, 6, 7, 79, 80, 81] },
  { id := 19, head := some 14, live := [1, 7, 79, 80, 81, 99] },
  { id := 20, live := [2] },
  { id := 21, live := [1, 7, 79, 80, 81, 109] },
  { id := 22, live := [2] },
  { id := 23, live := [1, 7, 79, 80, 81, 123] },
  { id := 24, live := [2] },
  { id := 25, live := [1, 7, 79, 80, 81, 127] },
  { id := 26, live := [2] },
  { id := 27, live := [1, 8, 79, 80, 81] },
  { id := 28, live := [1, 8, 79, 80, 81, 132] },
  { id := 29, live := [2] },
  { id := 30, live := [1, 79, 80, 81] },
  { id := 31, live := [2] }]

theorem comp12 : compF Tryd.prog an12 Tryd.f12 = some a12 := by kernel_rfl

/- graphdb/graphdbref07.SameAdj -/
/-- loop 0 of function 13 -/
def l13_0_h : List Nat := [0, 1, 5]

def l13_0_b : ACode :=
  .seq (.seq (.region none [] [
      ⟨some 11, .mov (.tmp 5), none⟩,
      ⟨some 12, .mov (.tmp 0), none⟩,
      ⟨some 13, .len .slice (.tmp 12), none⟩,
      ⟨some 14, .bin .lss .int (.tmp 11) (.tmp 13), none⟩] [0, 1, 5, 14] none)
    (.cond (.tmp 14) (.skip)
    (.exit 0)))
    (.seq (.block 1 (.seq (.region (some 9) [] [
        ⟨some 17, .mov (.tmp 0), none⟩,
        ⟨some 18, .mov (.tmp 5), none⟩,
        ⟨some 19, .iaddr 3 (.tmp 17) (.tmp 18), none⟩,
        ⟨some 20, .load (some 3) (.tmp 19), none⟩,
        ⟨some 21, .mov (.tmp 1), none⟩,
        ⟨some 22, .mov (.tmp 5), none⟩,
        ⟨some 23, .iaddr 3 (.tmp 21) (.tmp 22), none⟩,
        ⟨some 24, .load (some 3) (.tmp 23), none⟩,
        ⟨some 25, .bin .neq (.flat [.int, .int, .int]) (.tmp 20) (.tmp 24), none⟩] [0, 1, 5, 25] none)
      (.cond (.tmp 25) (.seq (.region none [] [
          ⟨some 4, .mov (.cst (.bool false)), none⟩] [4] none)
        (.ret))
      (.skip))))
    (.region none [] [
      ⟨some 15, .mov (.tmp 5), none⟩,
      ⟨some 16, .bin .add .int (.tmp 15) (.cst (.int .i64 1)), none⟩,
      ⟨some 5, .mov (.tmp 16), none⟩] [0, 1, 5] none))

def c13 : ACode :=
  .seq (.region none [] [
      ⟨some 4, .mov (.cst (.bool false)), none⟩] [0, 1] none)
    (.seq (.seq (.region none [] [
      ⟨some 6, .mov (.tmp 0), none⟩,
      ⟨some 7, .len .slice (.tmp 6), none⟩,
      ⟨some 8, .mov (.tmp 1), none⟩,
      ⟨some 9, .len .slice (.tmp 8), none⟩,
      ⟨some 10, .bin .neq .int (.tmp 7) (.tmp 9), none⟩] [0, 1, 10] none)
    (.cond (.tmp 10) (.seq (.region none [] [
        ⟨some 4, .mov (.cst (.bool false)), none⟩] [4] none)
      (.ret))
    (.skip)))
    (.seq (.seq (.region none [] [
      ⟨some 5, .mov (.cst (.int .i64 0)), none⟩] [0, 1, 5] none)
    (.block 0 (.loop l13_0_h l13_0_b)))
    (.seq (.region none [] [
      ⟨some 4, .mov (.cst (.bool true)), none⟩] [4] none)
    (.ret))))

def a13 : AFunc := ⟨2, c13, [.tmp 4]⟩

def an13 : List RAnn := [
  { id := 0, live := [0, 1] },
  { id := 1, live := [0, 1, 10] },
  { id := 2, live := [4] },
  { id := 3, live := [0, 1, 5] },
  { id := 4, live := [0, 1, 5, 14], hdr := [0, 1, 5] },
  { id := 6, head := some 9, live := [0, 1, 5, 25] },
  { id := 7, live := [4] },
  { id := 5, live := [0, 1, 5] },
  { id := 8, live := [4] }]

theorem comp13 : compF Tryd.prog an13 Tryd.f13 = some a13 := by kernel_rfl

/- graphdb/graph.letter -/
def c14 : ACode :=
  .seq (.region none [] [
      ⟨some 2, .mov (.cst (.bool false)), none⟩] [0] none)
    (.seq (.region none [] [
      ⟨some 3, .mov (.tmp 0), none⟩,
      ⟨some 4, .bin .geq .int (.tmp 3) (.cst (.int .u8 97)), none⟩,
      ⟨some 5, .mov (.tmp 4), none⟩,
      ⟨some 6, .mov (.tmp 0), some (5, true)⟩,
      ⟨some 7, .bin .leq .int (.tmp 6) (.cst (.int .u8 122)), some (5, true)⟩,
      ⟨some 8, .pick (.tmp 5) (.tmp 7) (.cst (.bool false)), none⟩,
      ⟨some 9, .mov (.tmp 8), none⟩,
      ⟨some 10, .mov (.tmp 0), some (9, false)⟩,
      ⟨some 11, .bin .geq .int (.tmp 10) (.cst (.int .u8 65)), some (9, false)⟩,
      ⟨some 12, .mov (.tmp 11), some (9, false)⟩,
      ⟨some 13, .mov (.tmp 0), some (12, true)⟩,
      ⟨some 14, .bin .leq .int (.tmp 13) (.cst (.int .u8 90)), some (12, true)⟩,
      ⟨some 15, .pick (.tmp 12) (.tmp 14) (.cst (.bool false)), some (9, false)⟩,
      ⟨some 16, .pick (.tmp 9) (.cst (.bool true)) (.tmp 15), none⟩,
      ⟨some 2, .mov (.tmp 16), none⟩] [2] none)
    (.ret))

def a14 : AFunc := ⟨1, c14, [.tmp 2]⟩

def an14 : List RAnn := [
  { id := 0, live := [0] },
  { id := 1, live := [2] }]

theorem comp14 : compF Tryd.prog an14 Tryd.f14 = some a14 := by kernel_rfl

/- graphdb/graphdbref07.letter -/
def c15 : ACode :=
  .seq (.region none [] [
      ⟨some 2, .mov (.cst (.bool false)), none⟩] [0] none)
    (.seq (.region none [] [
      ⟨some 3, .mov (.tmp 0), none⟩,
      ⟨some 4, .bin .geq .int (.tmp 3) (.cst (.int .u8 97)), none⟩,
      ⟨some 5, .mov (.tmp 4), none⟩,
      ⟨some 6, .mov (.tmp 0), some (5, true)⟩,
      ⟨some 7, .bin .leq .int (.tmp 6) (.cst (.int .u8 122)), some (5, true)⟩,
      ⟨some 8, .pick (.tmp 5) (.tmp 7) (.cst (.bool false)), none⟩,
      ⟨some 9, .mov (.tmp 8), none⟩,
      ⟨some 10, .mov (.tmp 0), some (9, false)⟩,
      ⟨some 11, .bin .geq .int (.tmp 10) (.cst (.int .u8 65)), some (9, false)⟩,
      ⟨some 12, .mov (.tmp 11), some (9, false)⟩,
      ⟨some 13, .mov (.tmp 0), some (12, true)⟩,
      ⟨some 14, .bin .leq .int (.tmp 13) (.cst (.int .u8 90)), some (12, true)⟩,
      ⟨some 15, .pick (.tmp 12) (.tmp 14) (.cst (.bool false)), some (9, false)⟩,
      ⟨some 16, .pick (.tmp 9) (.cst (.bool true)) (.tmp 15), none⟩,
      ⟨some 2, .mov (.tmp 16), none⟩] [2] none)
    (.ret))

def a15 : AFunc := ⟨1, c15, [.tmp 2]⟩

def an15 : List RAnn := [
  { id := 0, live := [0] },
  { id := 1, live := [2] }]

theorem comp15 : compF Tryd.prog an15 Tryd.f15 = some a15 := by kernel_rfl

/- slices.EqualFunc[[]graphdb/api.Node,[]graphdb/api.Node,graphdb/api.Node,graphdb/api.Node] -/
/-- loop 0 of function 16 -/
def l16_0_h : List Nat := [1, 2, 15, 16, 17]

def l16_0_b : ACode :=
  .seq (.region none [] [
      ⟨some 18, .bin .lss .int (.tmp 17) (.tmp 16), none⟩] [1, 2, 15, 16, 17, 18] none)
    (.seq (.cond (.tmp 18) (.skip)
    (.exit 0))
    (.seq (.block 1 (.seq (.region none [] [
        ⟨some 19, .mov (.tmp 17), none⟩,
        ⟨some 20, .iaddr 3 (.tmp 15) (.tmp 17), none⟩,
        ⟨some 21, .load (some 3) (.tmp 20), none⟩,
        ⟨some 8, .alloc 3 (.agg [.int .i64 0, .sl false [], .sl false []]), none⟩,
        ⟨some 7, .mov (.tmp 19), none⟩,
        ⟨none, .store 3 (.tmp 8) (.tmp 21), none⟩] [1, 2, 7, 8, 15, 16, 17] none)
      (.seq (.region none [] [
        ⟨some 22, .mov (.tmp 1), none⟩,
        ⟨some 23, .mov (.tmp 7), none⟩,
        ⟨some 24, .iaddr 3 (.tmp 22) (.tmp 23), none⟩,
        ⟨some 25, .load (some 3) (.tmp 24), none⟩,
        ⟨some 9, .alloc 3 (.agg [.int .i64 0, .sl false [], .sl false []]), none⟩,
        ⟨none, .store 3 (.tmp 9) (.tmp 25), none⟩] [1, 2, 8, 9, 15, 16, 17] none)
      (.seq (.region none [] [
        ⟨some 26, .mov (.tmp 2), none⟩,
        ⟨some 27, .load (some 3) (.tmp 8), none⟩,
        ⟨some 28, .load (some 3) (.tmp 9), none⟩,
        ⟨some 29, .callv .pure (.tmp 26) [(.tmp 27), (.tmp 28)], none⟩,
        ⟨some 30, .un .not (.tmp 29), none⟩] [1, 2, 15, 16, 17, 30] none)
      (.cond (.tmp 30) (.seq (.region none [] [
          ⟨some 6, .mov (.cst (.bool false)), none⟩] [6] none)
        (.ret))
      (.skip))))))
    (.region none [] [
      ⟨some 31, .bin .add .int (.tmp 17) (.cst (.int .i64 1)), none⟩,
      ⟨some 17, .mov (.tmp 31), none⟩] [1, 2, 15, 16, 17] none)))

def c16 : ACode :=
  .seq (.region none [] [
      ⟨some 6, .mov (.cst (.bool false)), none⟩] [0, 1, 2] none)
    (.seq (.seq (.region none [] [
      ⟨some 10, .mov (.tmp 0), none⟩,
      ⟨some 11, .len .slice (.tmp 10), none⟩,
      ⟨some 12, .mov (.tmp 1), none⟩,
      ⟨some 13, .len .slice (.tmp 12), none⟩,
      ⟨some 14, .bin .neq .int (.tmp 11) (.tmp 13), none⟩] [0, 1, 2, 14] none)
    (.cond (.tmp 14) (.seq (.region none [] [
        ⟨some 6, .mov (.cst (.bool false)), none⟩] [6] none)
      (.ret))
    (.skip)))
    (.seq (.seq (.region none [] [
      ⟨some 15, .mov (.tmp 0), none⟩,
      ⟨some 16, .len .slice (.tmp 15), none⟩,
      ⟨some 17, .mov (.cst (.int .i64 0)), none⟩] [1, 2, 15, 16, 17] none)
    (.block 0 (.loop l16_0_h l16_0_b)))
    (.seq (.region none [] [
      ⟨some 6, .mov (.cst (.bool true)), none⟩] [6] none)
    (.ret))))

def a16 : AFunc := ⟨3, c16, [.tmp 6]⟩

def an16 : List RAnn := [
  { id := 0, live := [0, 1, 2] },
  { id := 1, live := [0, 1, 2, 14] },
  { id := 2, live := [6] },
  { id := 3, live := [1, 2, 15, 16, 17] },
  { id := 4, live := [1, 2, 15, 16, 17, 18], hdr := [1, 2, 15, 16, 17] },
  { id := 5, live := [1, 2, 7, 8, 15, 16, 17] },
  { id := 6, live := [1, 2, 8, 9, 15, 16, 17] },
  { id := 7, live := [1, 2, 15, 16, 17, 30] },
  { id := 8, live := [6] },
  { id := 9, live := [1, 2, 15, 16, 17] },
  { id := 10, live := [6] }]

theorem comp16 : compF Tryd.prog an16 Tryd.f16 = some a16 := by kernel_rfl

/- graphdb/graph.Same$1 -/
def c17 : ACode :=
  .seq (.region none [] [
      ⟨some 2, .box 3 (.tmp 0), none⟩,
      ⟨some 3, .box 3 (.tmp 1), none⟩,
      ⟨some 4, .mov (.cst (.bool false)), none⟩] [2, 3] none)
    (.seq (.region none [] [
      ⟨some 5, .faddr 0 (.tmp 2), none⟩,
      ⟨some 6, .load none (.tmp 5), none⟩,
      ⟨some 7, .faddr 0 (.tmp 3), none⟩,
      ⟨some 8, .load none (.tmp 7), none⟩,
      ⟨some 9, .bin .eql .int (.tmp 6) (.tmp 8), none⟩,
      ⟨some 10, .mov (.tmp 9), none⟩,
      ⟨some 11, .faddr 1 (.tmp 2), some (10, true)⟩,
      ⟨some 12, .load none (.tmp 11), some (10, true)⟩,
      ⟨some 13, .faddr 1 (.tmp 3), some (10, true)⟩,
      ⟨some 14, .load none (.tmp 13), some (10, true)⟩,
      ⟨some 15, .call .pure 18 [(.tmp 12), (.tmp 14)], some (10, true)⟩,
      ⟨some 16, .pick (.tmp 10) (.tmp 15) (.cst (.bool false)), none⟩,
      ⟨some 17, .mov (.tmp 16), none⟩,
      ⟨some 18, .faddr 2 (.tmp 2), some (17, true)⟩,
      ⟨some 19, .load none (.tmp 18), some (17, true)⟩,
      ⟨some 20, .faddr 2 (.tmp 3), some (17, true)⟩,
      ⟨some 21, .load none (.tmp 20), some (17, true)⟩,
      ⟨some 22, .call .pure 19 [(.tmp 19), (.tmp 21)], some (17, true)⟩,
      ⟨some 23, .pick (.tmp 17) (.tmp 22) (.cst (.bool false)), none⟩,
      ⟨some 4, .mov (.tmp 23), none⟩] [4] none)
    (.ret))

def a17 : AFunc := ⟨2, c17, [.tmp 4]⟩

def an17 : List RAnn := [
  { id := 0, live := [2, 3] },
  { id := 1, live := [4] }]

theorem comp17 : compF Tryd.prog an17 Tryd.f17 = some a17 := by kernel_rfl

/- slices.Equal[[]string,string] -/
/-- loop 0 of function 18 -/
def l18_0_h : List Nat := [0, 1, 12, 13]

def l18_0_b : ACode :=
  .seq (.region none [] [
      ⟨some 14, .bin .lss .int (.tmp 13) (.tmp 12), none⟩] [0, 1, 12, 13, 14] none)
    (.seq (.cond (.tmp 14) (.skip)
    (.exit 0))
    (.seq (.block 1 (.seq (.region none [] [
        ⟨some 15, .mov (.tmp 13), none⟩,
        ⟨some 5, .mov (.tmp 15), none⟩] [0, 1, 5, 12, 13] none)
      (.seq (.region (some 9) [] [
        ⟨some 16, .mov (.tmp 0), none⟩,
        ⟨some 17, .mov (.tmp 5), none⟩,
        ⟨some 18, .iaddr 1 (.tmp 16) (.tmp 17), none⟩,
        ⟨some 19, .load none (.tmp 18), none⟩,
        ⟨some 20, .mov (.tmp 1), none⟩,
        ⟨some 21, .mov (.tmp 5), none⟩,
        ⟨some 22, .iaddr 1 (.tmp 20) (.tmp 21), none⟩,
        ⟨some 23, .load none (.tmp 22), none⟩,
        ⟨some 24, .bin .neq .str (.tmp 19) (.tmp 23), none⟩] [0, 1, 12, 13, 24] none)
      (.cond (.tmp 24) (.seq (.region none [] [
          ⟨some 4, .mov (.cst (.bool false)), none⟩] [4] none)
        (.ret))
      (.skip)))))
    (.region none [] [
      ⟨some 25, .bin .add .int (.tmp 13) (.cst (.int .i64 1)), none⟩,
      ⟨some 13, .mov (.tmp 25), none⟩] [0, 1, 12, 13] none)))

def c18 : ACode :=
  .seq (.region none [] [
      ⟨some 4, .mov (.cst (.bool false)), none⟩] [0, 1] none)
    (.seq (.seq (.region none [] [
      ⟨some 6, .mov (.tmp 0), none⟩,
      ⟨some 7, .len .slice (.tmp 6), none⟩,
      ⟨some 8, .mov (.tmp 1), none⟩,
      ⟨some 9, .len .slice (.tmp 8), none⟩,
      ⟨some 10, .bin .neq .int (.tmp 7) (.tmp 9), none⟩] [0, 1, 10] none)
    (.cond (.tmp 10) (.seq (.region none [] [
        ⟨some 4, .mov (.cst (.bool false)), none⟩] [4] none)
      (.ret))
    (.skip)))
    (.seq (.seq (.region none [] [
      ⟨some 11, .mov (.tmp 0), none⟩,
      ⟨some 12, .len .slice (.tmp 11), none⟩,
      ⟨some 13, .mov (.cst (.int .i64 0)), none⟩] [0, 1, 12, 13] none)
    (.block 0 (.loop l18_0_h l18_0_b)))
    (.seq (.region none [] [
      ⟨some 4, .mov (.cst (.bool true)), none⟩] [4] none)
    (.ret))))

def a18 : AFunc := ⟨2, c18, [.tmp 4]⟩

def an18 : List RAnn := [
  { id := 0, live := [0, 1] },
  { id := 1, live := [0, 1, 10] },
  { id := 2, live := [4] },
  { id := 3, live := [0, 1, 12, 13] },
  { id := 4, live := [0, 1, 12, 13, 14], hdr := [0, 1, 12, 13] },
  { id := 5, live := [0, 1, 5, 12, 13] },
  { id := 6, head := some 9, live := [0, 1, 12, 13, 24] },
  { id := 7, live := [4] },
  { id := 8, live := [0, 1, 12, 13] },
  { id := 9, live := [4] }]

theorem comp18 : compF Tryd.prog an18 Tryd.f18 = some a18 := by kernel_rfl

/- graphdb/graph.sameProps -/
def c19 : ACode :=
  .seq (.region none [] [
      ⟨some 4, .mov (.cst (.bool false)), none⟩] [0, 1] none)
    (.seq (.region none [] [
      ⟨some 5, .mov (.tmp 0), none⟩,
      ⟨some 6, .mov (.tmp 1), none⟩,
      ⟨some 7, .call .pure 29 [(.tmp 5), (.tmp 6), (.cst (.fn 30 []))], none⟩,
      ⟨some 4, .mov (.tmp 7), none⟩] [4] none)
    (.ret))

def a19 : AFunc := ⟨2, c19, [.tmp 4]⟩

def an19 : List RAnn := [
  { id := 0, live := [0, 1] },
  { id := 1, live := [4] }]

theorem comp19 : compF Tryd.prog an19 Tryd.f19 = some a19 := by kernel_rfl

/- slices.EqualFunc[[]graphdb/api.Edge,[]graphdb/api.Edge,graphdb/api.Edge,graphdb/api.Edge] -/
/-- loop 0 of function 20 -/
def l20_0_h : List Nat := [1, 2, 15, 16, 17]

def l20_0_b : ACode :=
  .seq (.region none [] [
      ⟨some 18, .bin .lss .int (.tmp 17) (.tmp 16), none⟩] [1, 2, 15, 16, 17, 18] none)
    (.seq (.cond (.tmp 18) (.skip)
    (.exit 0))
    (.seq (.block 1 (.seq (.region none [] [
        ⟨some 19, .mov (.tmp 17), none⟩,
        ⟨some 20, .iaddr 5 (.tmp 15) (.tmp 17), none⟩,
        ⟨some 21, .load (some 5) (.tmp 20), none⟩,
        ⟨some 8, .alloc 5 (.agg [.int .i64 0, .int .i64 0, .int .i64 0, .str [], .sl false []]), none⟩,
        ⟨some 7, .mov (.tmp 19), none⟩,
        ⟨none, .store 5 (.tmp 8) (.tmp 21), none⟩] [1, 2, 7, 8, 15, 16, 17] none)
      (.seq (.region none [] [
        ⟨some 22, .mov (.tmp 1), none⟩,
        ⟨some 23, .mov (.tmp 7), none⟩,
        ⟨some 24, .iaddr 5 (.tmp 22) (.tmp 23), none⟩,
        ⟨some 25, .load (some 5) (.tmp 24), none⟩,
        ⟨some 9, .alloc 5 (.agg [.int .i64 0, .int .i64 0, .int .i64 0, .str [], .sl false []]), none⟩,
        ⟨none, .store 5 (.tmp 9) (.tmp 25), none⟩] [1, 2, 8, 9, 15, 16, 17] none)
      (.seq (.region none [] [
        ⟨some 26, .mov (.tmp 2), none⟩,
        ⟨some 27, .load (some 5) (.tmp 8), none⟩,
        ⟨some 28, .load (some 5) (.tmp 9), none⟩,
        ⟨some 29, .callv .pure (.tmp 26) [(.tmp 27), (.tmp 28)], none⟩,
        ⟨some 30, .un .not (.tmp 29), none⟩] [1, 2, 15, 16, 17, 30] none)
      (.cond (.tmp 30) (.seq (.region none [] [
          ⟨some 6, .mov (.cst (.bool false)), none⟩] [6] none)
        (.ret))
      (.skip))))))
    (.region none [] [
      ⟨some 31, .bin .add .int (.tmp 17) (.cst (.int .i64 1)), none⟩,
      ⟨some 17, .mov (.tmp 31), none⟩] [1, 2, 15, 16, 17] none)))

def c20 : ACode :=
  .seq (.region none [] [
      ⟨some 6, .mov (.cst (.bool false)), none⟩] [0, 1, 2] none)
    (.seq (.seq (.region none [] [
      ⟨some 10, .mov (.tmp 0), none⟩,
      ⟨some 11, .len .slice (.tmp 10), none⟩,
      ⟨some 12, .mov (.tmp 1), none⟩,
      ⟨some 13, .len .slice (.tmp 12), none⟩,
      ⟨some 14, .bin .neq .int (.tmp 11) (.tmp 13), none⟩] [0, 1, 2, 14] none)
    (.cond (.tmp 14) (.seq (.region none [] [
        ⟨some 6, .mov (.cst (.bool false)), none⟩] [6] none)
      (.ret))
    (.skip)))
    (.seq (.seq (.region none [] [
      ⟨some 15, .mov (.tmp 0), none⟩,
      ⟨some 16, .len .slice (.tmp 15), none⟩,
      ⟨some 17, .mov (.cst (.int .i64 0)), none⟩] [1, 2, 15, 16, 17] none)
    (.block 0 (.loop l20_0_h l20_0_b)))
    (.seq (.region none [] [
      ⟨some 6, .mov (.cst (.bool true)), none⟩] [6] none)
    (.ret))))

def a20 : AFunc := ⟨3, c20, [.tmp 6]⟩

def an20 : List RAnn := [
  { id := 0, live := [0, 1, 2] },
  { id := 1, live := [0, 1, 2, 14] },
  { id := 2, live := [6] },
  { id := 3, live := [1, 2, 15, 16, 17] },
  { id := 4, live := [1, 2, 15, 16, 17, 18], hdr := [1, 2, 15, 16, 17] },
  { id := 5, live := [1, 2, 7, 8, 15, 16, 17] },
  { id := 6, live := [1, 2, 8, 9, 15, 16, 17] },
  { id := 7, live := [1, 2, 15, 16, 17, 30] },
  { id := 8, live := [6] },
  { id := 9, live := [1, 2, 15, 16, 17] },
  { id := 10, live := [6] }]

theorem comp20 : compF Tryd.prog an20 Tryd.f20 = some a20 := by kernel_rfl

/- graphdb/graph.Same$2 -/
def c21 : ACode :=
  .seq (.region none [] [
      ⟨some 2, .box 5 (.tmp 0), none⟩,
      ⟨some 3, .box 5 (.tmp 1), none⟩,
      ⟨some 4, .mov (.cst (.bool false)), none⟩] [2, 3] none)
    (.seq (.region none [] [
      ⟨some 5, .faddr 0 (.tmp 2), none⟩,
      ⟨some 6, .load none (.tmp 5), none⟩,
      ⟨some 7, .faddr 0 (.tmp 3), none⟩,
      ⟨some 8, .load none (.tmp 7), none⟩,
      ⟨some 9, .bin .eql .int (.tmp 6) (.tmp 8), none⟩,
      ⟨some 10, .mov (.tmp 9), none⟩,
      ⟨some 11, .faddr 1 (.tmp 2), some (10, true)⟩,
      ⟨some 12, .load none (.tmp 11), some (10, true)⟩,
      ⟨some 13, .faddr 1 (.tmp 3), some (10, true)⟩,
      ⟨some 14, .load none (.tmp 13), some (10, true)⟩,
      ⟨some 15, .bin .eql .int (.tmp 12) (.tmp 14), some (10, true)⟩,
      ⟨some 16, .pick (.tmp 10) (.tmp 15) (.cst (.bool false)), none⟩,
      ⟨some 17, .mov (.tmp 16), none⟩,
      ⟨some 18, .faddr 2 (.tmp 2), some (17, true)⟩,
      ⟨some 19, .load none (.tmp 18), some (17, true)⟩,
      ⟨some 20, .faddr 2 (.tmp 3), some (17, true)⟩,
      ⟨some 21, .load none (.tmp 20), some (17, true)⟩,
      ⟨some 22, .bin .eql .int (.tmp 19) (.tmp 21), some (17, true)⟩,
      ⟨some 23, .pick (.tmp 17) (.tmp 22) (.cst (.bool false)), none⟩,
      ⟨some 24, .mov (.tmp 23), none⟩,
      ⟨some 25, .faddr 3 (.tmp 2), some (24, true)⟩,
      ⟨some 26, .load none (.tmp 25), some (24, true)⟩,
      ⟨some 27, .faddr 3 (.tmp 3), some (24, true)⟩,
      ⟨some 28, .load none (.tmp 27), some (24, true)⟩,
      ⟨some 29, .bin .eql .str (.tmp 26) (.tmp 28), some (24, true)⟩,
      ⟨some 30, .pick (.tmp 24) (.tmp 29) (.cst (.bool false)), none⟩,
      ⟨some 31, .mov (.tmp 30), none⟩,
      ⟨some 32, .faddr 4 (.tmp 2), some (31, true)⟩,
      ⟨some 33, .load none (.tmp 32), some (31, true)⟩,
      ⟨some 34, .faddr 4 (.tmp 3), some (31, true)⟩,
      ⟨some 35, .load none (.tmp 34), some (31, true)⟩,
      ⟨some 36, .call .pure 19 [(.tmp 33), (.tmp 35)], some (31, true)⟩,
      ⟨some 37, .pick (.tmp 31) (.tmp 36) (.cst (.bool false)), none⟩,
      ⟨some 4, .mov (.tmp 37), none⟩] [4] none)
    (.ret))

def a21 : AFunc := ⟨2, c21, [.tmp 4]⟩

def an21 : List RAnn := [
  { id := 0, live := [2, 3] },
  { id := 1, live := [4] }]

theorem comp21 : compF Tryd.prog an21 Tryd.f21 = some a21 := by kernel_rfl

/- graphdb/graph.HasType -/
def c22 : ACode :=
  .seq (.region none [] [
      ⟨some 2, .box 5 (.tmp 0), none⟩,
      ⟨some 4, .mov (.cst (.bool false)), none⟩] [1, 2] none)
    (.seq (.region none [] [
      ⟨some 5, .mov (.tmp 1), none⟩,
      ⟨some 6, .len .slice (.tmp 5), none⟩,
      ⟨some 7, .bin .eql .int (.tmp 6) (.cst (.int .i64 0)), none⟩,
      ⟨some 8, .mov (.tmp 7), none⟩,
      ⟨some 9, .mov (.tmp 1), some (8, false)⟩,
      ⟨some 10, .faddr 3 (.tmp 2), some (8, false)⟩,
      ⟨some 11, .load none (.tmp 10), some (8, false)⟩,
      ⟨some 12, .call .pure 32 [(.tmp 9), (.tmp 11)], some (8, false)⟩,
      ⟨some 13, .pick (.tmp 8) (.cst (.bool true)) (.tmp 12), none⟩,
      ⟨some 4, .mov (.tmp 13), none⟩] [4] none)
    (.ret))

def a22 : AFunc := ⟨2, c22, [.tmp 4]⟩

def an22 : List RAnn := [
  { id := 0, live := [1, 2] },
  { id := 1, live := [4] }]

theorem comp22 : compF Tryd.prog an22 Tryd.f22 = some a22 := by kernel_rfl

/- slices.SortStableFunc[[]graphdb/api.Adj,graphdb/api.Adj] -/
def c23 : ACode :=
  .region none [] [
      ⟨some 4, .mov (.tmp 0), none⟩,
      ⟨some 5, .mov (.tmp 0), none⟩,
      ⟨some 6, .len .slice (.tmp 5), none⟩,
      ⟨some 7, .mov (.tmp 1), none⟩,
      ⟨some 8, .call .share 33 [(.tmp 4), (.tmp 6), (.tmp 7)], none⟩] [] none

def a23 : AFunc := ⟨2, c23, []⟩

def an23 : List RAnn := [
  { id := 0, ops := [(4, .mode .share)] }]

theorem comp23 : compF Tryd.prog an23 Tryd.f23 = some a23 := by kernel_rfl

/- graphdb/graph.Steps$1 -/
def c24 : ACode :=
  .seq (.region none [] [
      ⟨some 2, .box 3 (.tmp 0), none⟩,
      ⟨some 3, .box 3 (.tmp 1), none⟩,
      ⟨some 4, .mov (.cst (.int .i64 0)), none⟩] [2, 3] none)
    (.seq (.region (some 13) [] [
      ⟨some 5, .faddr 1 (.tmp 2), none⟩,
      ⟨some 6, .load none (.tmp 5), none⟩,
      ⟨some 7, .faddr 1 (.tmp 3), none⟩,
      ⟨some 8, .load none (.tmp 7), none⟩,
      ⟨some 9, .call .pure 26 [(.tmp 6), (.tmp 8)], none⟩,
      ⟨some 10, .faddr 2 (.tmp 2), none⟩,
      ⟨some 11, .load none (.tmp 10), none⟩,
      ⟨some 12, .faddr 2 (.tmp 3), none⟩,
      ⟨some 13, .load none (.tmp 12), none⟩,
      ⟨some 14, .call .pure 26 [(.tmp 11), (.tmp 13)], none⟩,
      ⟨some 15, .lit false 1 (.int .i64 0) 2 [(0, (.tmp 9)), (1, (.tmp 14))], none⟩,
      ⟨some 16, .call .pure 25 [(.tmp 15)], none⟩,
      ⟨some 4, .mov (.tmp 16), none⟩] [4] none)
    (.ret))

def a24 : AFunc := ⟨2, c24, [.tmp 4]⟩

def an24 : List RAnn := [
  { id := 0, live := [2, 3] },
  { id := 1, head := some 13, live := [4] }]

theorem comp24 : compF Tryd.prog an24 Tryd.f24 = some a24 := by kernel_rfl

/- cmp.Or[int] -/
/-- loop 0 of function 25 -/
def l25_0_h : List Nat := [3, 6, 7, 8]

def l25_0_b : ACode :=
  .seq (.region none [] [
      ⟨some 9, .bin .lss .int (.tmp 8) (.tmp 7), none⟩] [3, 6, 7, 8, 9] none)
    (.seq (.cond (.tmp 9) (.skip)
    (.exit 0))
    (.seq (.block 1 (.seq (.region none [] [
        ⟨some 10, .iaddr 1 (.tmp 6) (.tmp 8), none⟩,
        ⟨some 11, .load none (.tmp 10), none⟩,
        ⟨some 5, .mov (.tmp 11), none⟩] [3, 5, 6, 7, 8] none)
      (.seq (.region none [] [
        ⟨some 12, .mov (.tmp 5), none⟩,
        ⟨some 13, .mov (.tmp 3), none⟩,
        ⟨some 14, .bin .neq .int (.tmp 12) (.tmp 13), none⟩] [3, 5, 6, 7, 8, 14] none)
      (.cond (.tmp 14) (.seq (.region none [] [
          ⟨some 15, .mov (.tmp 5), none⟩,
          ⟨some 2, .mov (.tmp 15), none⟩] [2] none)
        (.ret))
      (.skip)))))
    (.region none [] [
      ⟨some 16, .bin .add .int (.tmp 8) (.cst (.int .i64 1)), none⟩,
      ⟨some 8, .mov (.tmp 16), none⟩] [3, 6, 7, 8] none)))

def c25 : ACode :=
  .seq (.region none [] [
      ⟨some 2, .mov (.cst (.int .i64 0)), none⟩] [0] none)
    (.seq (.region none [] [
      ⟨some 3, .mov (.cst (.int .i64 0)), none⟩] [0, 3] none)
    (.seq (.seq (.region none [] [
      ⟨some 6, .mov (.tmp 0), none⟩,
      ⟨some 7, .len .slice (.tmp 6), none⟩,
      ⟨some 8, .mov (.cst (.int .i64 0)), none⟩] [3, 6, 7, 8] none)
    (.block 0 (.loop l25_0_h l25_0_b)))
    (.seq (.region none [] [
      ⟨some 17, .mov (.tmp 3), none⟩,
      ⟨some 2, .mov (.tmp 17), none⟩] [2] none)
    (.ret))))

def a25 : AFunc := ⟨1, c25, [.tmp 2]⟩

def an25 : List RAnn := [
  { id := 0, live := [0] },
  { id := 1, live := [0, 3] },
  { id := 2, live := [3, 6, 7, 8] },
  { id := 3, live := [3, 6, 7, 8, 9], hdr := [3, 6, 7, 8] },
  { id := 4, live := [3, 5, 6, 7, 8] },
  { id := 5, live := [3, 5, 6, 7, 8, 14] },
  { id := 6, live := [2] },
  { id := 7, live := [3, 6, 7, 8] },
  { id := 8, live := [2] }]

theorem comp25 : compF Tryd.prog an25 Tryd.f25 = some a25 := by kernel_rfl

/- cmp.Compare[int] -/
def c26 : ACode :=
  .seq (.region none [] [
      ⟨some 4, .mov (.cst (.int .i64 0)), none⟩] [0, 1] none)
    (.seq (.region none [] [
      ⟨some 7, .mov (.tmp 0), none⟩,
      ⟨some 8, .call .pure 34 [(.tmp 7)], none⟩,
      ⟨some 5, .mov (.tmp 8), none⟩] [0, 1, 5] none)
    (.seq (.region none [] [
      ⟨some 9, .mov (.tmp 1), none⟩,
      ⟨some 10, .call .pure 34 [(.tmp 9)], none⟩,
      ⟨some 6, .mov (.tmp 10), none⟩] [0, 1, 5, 6] none)
    (.seq (.seq (.region none [] [
      ⟨some 11, .mov (.tmp 5), none⟩] [0, 1, 6, 11] none)
    (.cond (.tmp 11) (.seq (.seq (.region none [] [
        ⟨some 12, .mov (.tmp 6), none⟩] [12] none)
      (.cond (.tmp 12) (.seq (.region none [] [
          ⟨some 4, .mov (.cst (.int .i64 0)), none⟩] [4] none)
        (.ret))
      (.skip)))
      (.seq (.region none [] [
        ⟨some 4, .mov (.cst (.int .i64 (-1))), none⟩] [4] none)
      (.ret)))
    (.skip)))
    (.seq (.seq (.region none [] [
      ⟨some 13, .mov (.tmp 6), none⟩] [0, 1, 13] none)
    (.cond (.tmp 13) (.seq (.region none [] [
        ⟨some 4, .mov (.cst (.int .i64 1)), none⟩] [4] none)
      (.ret))
    (.skip)))
    (.seq (.seq (.region none [] [
      ⟨some 14, .mov (.tmp 0), none⟩,
      ⟨some 15, .mov (.tmp 1), none⟩,
      ⟨some 16, .bin .lss .int (.tmp 14) (.tmp 15), none⟩] [0, 1, 16] none)
    (.cond (.tmp 16) (.seq (.region none [] [
        ⟨some 4, .mov (.cst (.int .i64 (-1))), none⟩] [4] none)
      (.ret))
    (.skip)))
    (.seq (.seq (.region none [] [
      ⟨some 17, .mov (.tmp 0), none⟩,
      ⟨some 18, .mov (.tmp 1), none⟩,
      ⟨some 19, .bin .gtr .int (.tmp 17) (.tmp 18), none⟩] [19] none)
    (.cond (.tmp 19) (.seq (.region none [] [
        ⟨some 4, .mov (.cst (.int .i64 1)), none⟩] [4] none)
      (.ret))
    (.skip)))
    (.seq (.region none [] [
      ⟨some 4, .mov (.cst (.int .i64 0)), none⟩] [4] none)
    (.ret))))))))

def a26 : AFunc := ⟨2, c26, [.tmp 4]⟩

def an26 : List RAnn := [
  { id := 0, live := [0, 1] },
  { id := 1, live := [0, 1, 5] },
  { id := 2, live := [0, 1, 5, 6] },
  { id := 3, live := [0, 1, 6, 11] },
  { id := 4, live := [12] },
  { id := 5, live := [4] },
  { id := 6, live := [4] },
  { id := 7, live := [0, 1, 13] },
  { id := 8, live := [4] },
  { id := 9, live := [0, 1, 16] },
  { id := 10, live := [4] },
  { id := 11, live := [19] },
  { id := 12, live := [4] },
  { id := 13, live := [4] }]

theorem comp26 : compF Tryd.prog an26 Tryd.f26 = some a26 := by kernel_rfl

/- graphdb/graph.parts -/
/-- loop 0 of function 27 -/
def l27_0_h : List Nat := [0, 1, 5, 18, 19, 20]

def l27_0_b : ACode :=
  .seq (.region none [] [
      ⟨some 21, .bin .lss .int (.tmp 20) (.tmp 19), none⟩] [0, 1, 5, 18, 19, 20, 21] none)
    (.seq (.cond (.tmp 21) (.skip)
    (.exit 0))
    (.seq (.block 1 (.seq (.region none [] [
        ⟨some 22, .iaddr 6 (.tmp 18) (.tmp 20), none⟩,
        ⟨some 23, .load (some 6) (.tmp 22), none⟩,
        ⟨some 7, .alloc 6 (.agg [.str [], .int .i64 0, .int .i64 0, .int .i64 0, .str [], .sl false []]), none⟩,
        ⟨none, .store 6 (.tmp 7) (.tmp 23), none⟩] [0, 1, 5, 7, 18, 19, 20] none)
      (.region none [] [
        ⟨some 24, .mov (.tmp 5), none⟩,
        ⟨some 25, .faddr 0 (.tmp 7), none⟩,
        ⟨some 26, .load none (.tmp 25), none⟩,
        ⟨some 27, .lit false 1 (.str []) 1 [(0, (.tmp 26))], none⟩,
        ⟨some 28, .append 1 16 (.tmp 24) (.tmp 27), none⟩,
        ⟨some 5, .mov (.tmp 28), none⟩] [0, 1, 5, 18, 19, 20] none)))
    (.region none [] [
      ⟨some 29, .bin .add .int (.tmp 20) (.cst (.int .i64 1)), none⟩,
      ⟨some 20, .mov (.tmp 29), none⟩] [0, 1, 5, 18, 19, 20] none)))

/-- loop 1 of function 27 -/
def l27_1_h : List Nat := [44, 45, 46]

def l27_1_b : ACode :=
  .seq (.region none [] [
      ⟨some 47, .bin .lss .int (.tmp 46) (.tmp 45), none⟩] [44, 45, 46, 47] none)
    (.seq (.cond (.tmp 47) (.skip)
    (.exit 2))
    (.seq (.block 3 (.seq (.region none [] [
        ⟨some 48, .iaddr 6 (.tmp 44) (.tmp 46), none⟩,
        ⟨some 49, .load (some 6) (.tmp 48), none⟩,
        ⟨some 9, .alloc 6 (.agg [.str [], .int .i64 0, .int .i64 0, .int .i64 0, .str [], .sl false []]), none⟩,
        ⟨none, .store 6 (.tmp 9) (.tmp 49), none⟩] [9, 44, 45, 46] none)
      (.seq (.region none [] [
        ⟨some 50, .faddr 1 (.tmp 9), none⟩,
        ⟨some 51, .load (some 5) (.tmp 50), none⟩,
        ⟨some 52, .call .pure 38 [(.tmp 51)], none⟩,
        ⟨some 53, .un .not (.tmp 52), none⟩] [44, 45, 46, 53] none)
      (.cond (.tmp 53) (.seq (.region none [] [
          ⟨some 4, .mov (.cst (.int .i64 8)), none⟩] [4] none)
        (.ret))
      (.skip)))))
    (.region none [] [
      ⟨some 54, .bin .add .int (.tmp 46) (.cst (.int .i64 1)), none⟩,
      ⟨some 46, .mov (.tmp 54), none⟩] [44, 45, 46] none)))

def c27 : ACode :=
  .seq (.region none [] [
      ⟨some 4, .mov (.cst (.int .i64 0)), none⟩] [0, 1] none)
    (.seq (.seq (.region none [] [
      ⟨some 10, .mov (.tmp 0), none⟩,
      ⟨some 11, .len .slice (.tmp 10), none⟩,
      ⟨some 12, .bin .gtr .int (.tmp 11) (.cst (.int .i64 8)), none⟩,
      ⟨some 13, .mov (.tmp 12), none⟩,
      ⟨some 14, .mov (.tmp 1), some (13, false)⟩,
      ⟨some 15, .len .slice (.tmp 14), some (13, false)⟩,
      ⟨some 16, .bin .gtr .int (.tmp 15) (.cst (.int .i64 16)), some (13, false)⟩,
      ⟨some 17, .pick (.tmp 13) (.cst (.bool true)) (.tmp 16), none⟩] [0, 1, 17] none)
    (.cond (.tmp 17) (.seq (.region none [] [
        ⟨some 4, .mov (.cst (.int .i64 4)), none⟩] [4] none)
      (.ret))
    (.skip)))
    (.seq (.region none [] [
      ⟨some 5, .newown 1, none⟩] [0, 1, 5] none)
    (.seq (.seq (.region none [] [
      ⟨some 18, .mov (.tmp 1), none⟩,
      ⟨some 19, .len .slice (.tmp 18), none⟩,
      ⟨some 20, .mov (.cst (.int .i64 0)), none⟩] [0, 1, 5, 18, 19, 20] none)
    (.block 0 (.loop l27_0_h l27_0_b)))
    (.seq (.seq (.region none [] [
      ⟨some 30, .mov (.tmp 0), none⟩,
      ⟨some 31, .call .pure 35 [(.tmp 30), (.cst (.fn 36 []))], none⟩,
      ⟨some 32, .mov (.tmp 31), none⟩,
      ⟨some 33, .mov (.tmp 5), some (32, false)⟩,
      ⟨some 34, .call .borrow 35 [(.tmp 33), (.cst (.fn 36 []))], some (32, false)⟩,
      ⟨some 35, .pick (.tmp 32) (.cst (.bool true)) (.tmp 34), none⟩] [0, 1, 5, 35] none)
    (.cond (.tmp 35) (.seq (.region none [] [
        ⟨some 4, .mov (.cst (.int .i64 6)), none⟩] [4] none)
      (.ret))
    (.skip)))
    (.seq (.seq (.region none [] [
      ⟨some 36, .mov (.tmp 0), none⟩,
      ⟨some 37, .call .pure 37 [(.tmp 36)], none⟩,
      ⟨some 38, .un .not (.tmp 37), none⟩,
      ⟨some 39, .mov (.tmp 38), none⟩,
      ⟨some 40, .mov (.tmp 5), some (39, false)⟩,
      ⟨some 41, .call .borrow 37 [(.tmp 40)], some (39, false)⟩,
      ⟨some 42, .un .not (.tmp 41), some (39, false)⟩,
      ⟨some 43, .pick (.tmp 39) (.cst (.bool true)) (.tmp 42), none⟩] [1, 43] none)
    (.cond (.tmp 43) (.seq (.region none [] [
        ⟨some 4, .mov (.cst (.int .i64 26)), none⟩] [4] none)
      (.ret))
    (.skip)))
    (.seq (.seq (.region none [] [
      ⟨some 44, .mov (.tmp 1), none⟩,
      ⟨some 45, .len .slice (.tmp 44), none⟩,
      ⟨some 46, .mov (.cst (.int .i64 0)), none⟩] [44, 45, 46] none)
    (.block 2 (.loop l27_1_h l27_1_b)))
    (.seq (.region none [] [
      ⟨some 4, .mov (.cst (.int .i64 0)), none⟩] [4] none)
    (.ret))))))))

def a27 : AFunc := ⟨2, c27, [.tmp 4]⟩

def an27 : List RAnn := [
  { id := 0, live := [0, 1] },
  { id := 1, live := [0, 1, 17] },
  { id := 2, live := [4] },
  { id := 3, live := [0, 1, 5], ops := [(0, .own)] },
  { id := 4, live := [0, 1, 5, 18, 19, 20] },
  { id := 5, live := [0, 1, 5, 18, 19, 20, 21], hdr := [0, 1, 5, 18, 19, 20] },
  { id := 6, live := [0, 1, 5, 7, 18, 19, 20] },
  { id := 7, live := [0, 1, 5, 18, 19, 20] },
  { id := 8, live := [0, 1, 5, 18, 19, 20] },
  { id := 9, live := [0, 1, 5, 35], ops := [(4, .mode .borrow)] },
  { id := 10, live := [4] },
  { id := 11, live := [1, 43], ops := [(5, .mode .borrow)] },
  { id := 12, live := [4] },
  { id := 13, live := [44, 45, 46] },
  { id := 14, live := [44, 45, 46, 47], hdr := [44, 45, 46] },
  { id := 15, live := [9, 44, 45, 46] },
  { id := 16, live := [44, 45, 46, 53] },
  { id := 17, live := [4] },
  { id := 18, live := [44, 45, 46] },
  { id := 19, live := [4] }]

theorem comp27 : compF Tryd.prog an27 Tryd.f27 = some a27 := by kernel_rfl

/- graphdb/graph.has -/
def c28 : ACode :=
  .seq (.region none [] [
      ⟨some 4, .mov (.cst (.bool false)), none⟩] [0, 1] none)
    (.seq (.region none [] [
      ⟨some 8, .mov (.tmp 0), none⟩,
      ⟨some 9, .mov (.tmp 1), none⟩,
      ⟨some 10, .call .pure 39 [(.tmp 8), (.tmp 9), (.cst (.fn 40 []))], none⟩,
      ⟨some 7, .mov (.tmp 10), none⟩,
      ⟨some 11, .ext (.tmp 7) 0, none⟩,
      ⟨some 12, .ext (.tmp 7) 1, none⟩,
      ⟨some 5, .mov (.tmp 11), none⟩,
      ⟨some 6, .mov (.tmp 12), none⟩] [6] none)
    (.seq (.region none [] [
      ⟨some 13, .mov (.tmp 6), none⟩,
      ⟨some 4, .mov (.tmp 13), none⟩] [4] none)
    (.ret)))

def a28 : AFunc := ⟨2, c28, [.tmp 4]⟩

def an28 : List RAnn := [
  { id := 0, live := [0, 1] },
  { id := 1, live := [6] },
  { id := 2, live := [4] }]

theorem comp28 : compF Tryd.prog an28 Tryd.f28 = some a28 := by kernel_rfl

/- slices.Contains[[]string,string] -/
def c32 : ACode :=
  .seq (.region none [] [
      ⟨some 4, .mov (.cst (.bool false)), none⟩] [0, 1] none)
    (.seq (.region none [] [
      ⟨some 5, .mov (.tmp 0), none⟩,
      ⟨some 6, .mov (.tmp 1), none⟩,
      ⟨some 7, .call .pure 45 [(.tmp 5), (.tmp 6)], none⟩,
      ⟨some 8, .bin .geq .int (.tmp 7) (.cst (.int .i64 0)), none⟩,
      ⟨some 4, .mov (.tmp 8), none⟩] [4] none)
    (.ret))

def a32 : AFunc := ⟨2, c32, [.tmp 4]⟩

def an32 : List RAnn := [
  { id := 0, live := [0, 1] },
  { id := 1, live := [4] }]

theorem comp32 : compF Tryd.prog an32 Tryd.f32 = some a32 := by kernel_rfl

/- slices.stableCmpFunc[graphdb/api.Adj] -/
/-- loop 0 of function 33 -/
def l33_0_h : List Nat := [0, 1, 2, 6, 7, 8]

def l33_0_b : ACode :=
  .seq (.seq (.region none [] [
      ⟨some 11, .mov (.tmp 8), none⟩,
      ⟨some 12, .mov (.tmp 1), none⟩,
      ⟨some 13, .bin .leq .int (.tmp 11) (.tmp 12), none⟩] [0, 1, 2, 6, 7, 8, 13] none)
    (.cond (.tmp 13) (.skip)
    (.exit 0)))
    (.block 1 (.seq (.region none [] [
        ⟨some 14, .mov (.tmp 0), none⟩,
        ⟨some 15, .mov (.tmp 7), none⟩,
        ⟨some 16, .mov (.tmp 8), none⟩,
        ⟨some 17, .mov (.tmp 2), none⟩,
        ⟨some 18, .call .share 46 [(.tmp 14), (.tmp 15), (.tmp 16), (.tmp 17)], none⟩] [0, 1, 2, 6, 8] none)
      (.seq (.region none [] [
        ⟨some 19, .mov (.tmp 8), none⟩,
        ⟨some 7, .mov (.tmp 19), none⟩] [0, 1, 2, 6, 7, 8] none)
      (.region none [] [
        ⟨some 20, .mov (.tmp 8), none⟩,
        ⟨some 21, .mov (.tmp 6), none⟩,
        ⟨some 22, .bin .add .int (.tmp 20) (.tmp 21), none⟩,
        ⟨some 8, .mov (.tmp 22), none⟩] [0, 1, 2, 6, 7, 8] none))))

/-- loop 1 of function 33 -/
def l33_1_h : List Nat := [0, 1, 2, 6, 7, 8]

def l33_1_b : ACode :=
  .seq (.seq (.region none [] [
      ⟨some 33, .mov (.tmp 8), none⟩,
      ⟨some 34, .mov (.tmp 1), none⟩,
      ⟨some 35, .bin .leq .int (.tmp 33) (.tmp 34), none⟩] [0, 1, 2, 6, 7, 8, 35] none)
    (.cond (.tmp 35) (.skip)
    (.exit 4)))
    (.block 5 (.seq (.region none [] [
        ⟨some 36, .mov (.tmp 0), none⟩,
        ⟨some 37, .mov (.tmp 7), none⟩,
        ⟨some 38, .mov (.tmp 7), none⟩,
        ⟨some 39, .mov (.tmp 6), none⟩,
        ⟨some 40, .bin .add .int (.tmp 38) (.tmp 39), none⟩,
        ⟨some 41, .mov (.tmp 8), none⟩,
        ⟨some 42, .mov (.tmp 2), none⟩,
        ⟨some 43, .call .share 47 [(.tmp 36), (.tmp 37), (.tmp 40), (.tmp 41), (.tmp 42)], none⟩] [0, 1, 2, 6, 8] none)
      (.seq (.region none [] [
        ⟨some 44, .mov (.tmp 8), none⟩,
        ⟨some 7, .mov (.tmp 44), none⟩] [0, 1, 2, 6, 7, 8] none)
      (.region none [] [
        ⟨some 45, .mov (.tmp 8), none⟩,
        ⟨some 46, .mov (.tmp 6), none⟩,
        ⟨some 47, .bin .mul .int (.cst (.int .i64 2)) (.tmp 46), none⟩,
        ⟨some 48, .bin .add .int (.tmp 45) (.tmp 47), none⟩,
        ⟨some 8, .mov (.tmp 48), none⟩] [0, 1, 2, 6, 7, 8] none))))

/-- loop 2 of function 33 -/
def l33_2_h : List Nat := [0, 1, 2, 6]

def l33_2_b : ACode :=
  .seq (.seq (.region none [] [
      ⟨some 28, .mov (.tmp 6), none⟩,
      ⟨some 29, .mov (.tmp 1), none⟩,
      ⟨some 30, .bin .lss .int (.tmp 28) (.tmp 29), none⟩] [0, 1, 2, 6, 30] none)
    (.cond (.tmp 30) (.skip)
    (.exit 2)))
    (.block 3 (.seq (.region none [] [
        ⟨some 31, .mov (.tmp 6), none⟩,
        ⟨some 32, .bin .mul .int (.cst (.int .i64 2)) (.tmp 31), none⟩,
        ⟨some 7, .mov (.cst (.int .i64 0)), none⟩,
        ⟨some 8, .mov (.tmp 32), none⟩] [0, 1, 2, 6, 7, 8] none)
      (.seq (.block 4 (.loop l33_1_h l33_1_b))
      (.seq (.seq (.region none [] [
        ⟨some 49, .mov (.tmp 7), none⟩,
        ⟨some 50, .mov (.tmp 6), none⟩,
        ⟨some 51, .bin .add .int (.tmp 49) (.tmp 50), none⟩,
        ⟨some 9, .mov (.tmp 51), none⟩] [0, 1, 2, 6, 7, 9] none)
      (.seq (.region none [] [
        ⟨some 52, .mov (.tmp 9), none⟩,
        ⟨some 53, .mov (.tmp 1), none⟩,
        ⟨some 54, .bin .lss .int (.tmp 52) (.tmp 53), none⟩] [0, 1, 2, 6, 7, 9, 54] none)
      (.cond (.tmp 54) (.region none [] [
          ⟨some 55, .mov (.tmp 0), none⟩,
          ⟨some 56, .mov (.tmp 7), none⟩,
          ⟨some 57, .mov (.tmp 9), none⟩,
          ⟨some 58, .mov (.tmp 1), none⟩,
          ⟨some 59, .mov (.tmp 2), none⟩,
          ⟨some 60, .call .share 47 [(.tmp 55), (.tmp 56), (.tmp 57), (.tmp 58), (.tmp 59)], none⟩] [0, 1, 2, 6] none)
      (.skip))))
      (.region none [] [
        ⟨some 61, .mov (.tmp 6), none⟩,
        ⟨some 62, .bin .mul .int (.tmp 61) (.cst (.int .i64 2)), none⟩,
        ⟨some 6, .mov (.tmp 62), none⟩] [0, 1, 2, 6] none)))))

def c33 : ACode :=
  .seq (.region none [] [
      ⟨some 6, .mov (.cst (.int .i64 20)), none⟩] [0, 1, 2, 6] none)
    (.seq (.region none [] [
      ⟨some 10, .mov (.tmp 6), none⟩,
      ⟨some 7, .mov (.cst (.int .i64 0)), none⟩,
      ⟨some 8, .mov (.tmp 10), none⟩] [0, 1, 2, 6, 7, 8] none)
    (.seq (.block 0 (.loop l33_0_h l33_0_b))
    (.seq (.region none [] [
      ⟨some 23, .mov (.tmp 0), none⟩,
      ⟨some 24, .mov (.tmp 7), none⟩,
      ⟨some 25, .mov (.tmp 1), none⟩,
      ⟨some 26, .mov (.tmp 2), none⟩,
      ⟨some 27, .call .share 46 [(.tmp 23), (.tmp 24), (.tmp 25), (.tmp 26)], none⟩] [0, 1, 2, 6] none)
    (.block 2 (.loop l33_2_h l33_2_b)))))

def a33 : AFunc := ⟨3, c33, []⟩

def an33 : List RAnn := [
  { id := 0, live := [0, 1, 2, 6] },
  { id := 1, live := [0, 1, 2, 6, 7, 8] },
  { id := 2, live := [0, 1, 2, 6, 7, 8, 13], hdr := [0, 1, 2, 6, 7, 8] },
  { id := 3, live := [0, 1, 2, 6, 8], ops := [(4, .mode .share)] },
  { id := 4, live := [0, 1, 2, 6, 7, 8] },
  { id := 5, live := [0, 1, 2, 6, 7, 8] },
  { id := 6, live := [0, 1, 2, 6], ops := [(4, .mode .share)] },
  { id := 7, live := [0, 1, 2, 6, 30], hdr := [0, 1, 2, 6] },
  { id := 8, live := [0, 1, 2, 6, 7, 8] },
  { id := 9, live := [0, 1, 2, 6, 7, 8, 35], hdr := [0, 1, 2, 6, 7, 8] },
  { id := 10, live := [0, 1, 2, 6, 8], ops := [(7, .mode .share)] },
  { id := 11, live := [0, 1, 2, 6, 7, 8] },
  { id := 12, live := [0, 1, 2, 6, 7, 8] },
  { id := 13, live := [0, 1, 2, 6, 7, 9] },
  { id := 14, live := [0, 1, 2, 6, 7, 9, 54] },
  { id := 15, live := [0, 1, 2, 6], ops := [(5, .mode .share)] },
  { id := 16, live := [0, 1, 2, 6] }]

theorem comp33 : compF Tryd.prog an33 Tryd.f33 = some a33 := by kernel_rfl

/- cmp.isNaN[int] -/
def c34 : ACode :=
  .seq (.region none [] [
      ⟨some 2, .mov (.cst (.bool false)), none⟩] [0] none)
    (.seq (.region none [] [
      ⟨some 3, .mov (.tmp 0), none⟩,
      ⟨some 4, .mov (.tmp 0), none⟩,
      ⟨some 5, .bin .neq .int (.tmp 3) (.tmp 4), none⟩,
      ⟨some 2, .mov (.tmp 5), none⟩] [2] none)
    (.ret))

def a34 : AFunc := ⟨1, c34, [.tmp 2]⟩

def an34 : List RAnn := [
  { id := 0, live := [0] },
  { id := 1, live := [2] }]

theorem comp34 : compF Tryd.prog an34 Tryd.f34 = some a34 := by kernel_rfl

/- slices.ContainsFunc[[]string,string] -/
def c35 : ACode :=
  .seq (.region none [] [
      ⟨some 4, .mov (.cst (.bool false)), none⟩] [0, 1] none)
    (.seq (.region none [] [
      ⟨some 5, .mov (.tmp 0), none⟩,
      ⟨some 6, .mov (.tmp 1), none⟩,
      ⟨some 7, .call .pure 48 [(.tmp 5), (.tmp 6)], none⟩,
      ⟨some 8, .bin .geq .int (.tmp 7) (.cst (.int .i64 0)), none⟩,
      ⟨some 4, .mov (.tmp 8), none⟩] [4] none)
    (.ret))

def a35 : AFunc := ⟨2, c35, [.tmp 4]⟩

def an35 : List RAnn := [
  { id := 0, live := [0, 1] },
  { id := 1, live := [4] }]

theorem comp35 : compF Tryd.prog an35 Tryd.f35 = some a35 := by kernel_rfl

/- graphdb/graph.unnamed -/
def c36 : ACode :=
  .seq (.region none [] [
      ⟨some 2, .mov (.cst (.bool false)), none⟩] [0] none)
    (.seq (.region none [] [
      ⟨some 3, .mov (.tmp 0), none⟩,
      ⟨some 4, .call .pure 5 [(.tmp 3)], none⟩,
      ⟨some 5, .un .not (.tmp 4), none⟩,
      ⟨some 2, .mov (.tmp 5), none⟩] [2] none)
    (.ret))

def a36 : AFunc := ⟨1, c36, [.tmp 2]⟩

def an36 : List RAnn := [
  { id := 0, live := [0] },
  { id := 1, live := [2] }]

theorem comp36 : compF Tryd.prog an36 Tryd.f36 = some a36 := by kernel_rfl

/- graphdb/graph.increasing -/
/-- loop 0 of function 37 -/
def l37_0_h : List Nat := [0, 3]

def l37_0_b : ACode :=
  .seq (.seq (.region none [] [
      ⟨some 4, .mov (.tmp 3), none⟩,
      ⟨some 5, .mov (.tmp 0), none⟩,
      ⟨some 6, .len .slice (.tmp 5), none⟩,
      ⟨some 7, .bin .lss .int (.tmp 4) (.tmp 6), none⟩] [0, 3, 7] none)
    (.cond (.tmp 7) (.skip)
    (.exit 0)))
    (.seq (.block 1 (.seq (.region (some 10) [] [
        ⟨some 10, .mov (.tmp 0), none⟩,
        ⟨some 11, .mov (.tmp 3), none⟩,
        ⟨some 12, .iaddr 1 (.tmp 10) (.tmp 11), none⟩,
        ⟨some 13, .load none (.tmp 12), none⟩,
        ⟨some 14, .mov (.tmp 0), none⟩,
        ⟨some 15, .mov (.tmp 3), none⟩,
        ⟨some 16, .bin .sub .int (.tmp 15) (.cst (.int .i64 1)), none⟩,
        ⟨some 17, .iaddr 1 (.tmp 14) (.tmp 16), none⟩,
        ⟨some 18, .load none (.tmp 17), none⟩,
        ⟨some 19, .bin .leq .str (.tmp 13) (.tmp 18), none⟩] [0, 3, 19] none)
      (.cond (.tmp 19) (.seq (.region none [] [
          ⟨some 2, .mov (.cst (.bool false)), none⟩] [2] none)
        (.ret))
      (.skip))))
    (.region none [] [
      ⟨some 8, .mov (.tmp 3), none⟩,
      ⟨some 9, .bin .add .int (.tmp 8) (.cst (.int .i64 1)), none⟩,
      ⟨some 3, .mov (.tmp 9), none⟩] [0, 3] none))

def c37 : ACode :=
  .seq (.region none [] [
      ⟨some 2, .mov (.cst (.bool false)), none⟩] [0] none)
    (.seq (.seq (.region none [] [
      ⟨some 3, .mov (.cst (.int .i64 1)), none⟩] [0, 3] none)
    (.block 0 (.loop l37_0_h l37_0_b)))
    (.seq (.region none [] [
      ⟨some 2, .mov (.cst (.bool true)), none⟩] [2] none)
    (.ret)))

def a37 : AFunc := ⟨1, c37, [.tmp 2]⟩

def an37 : List RAnn := [
  { id := 0, live := [0] },
  { id := 1, live := [0, 3] },
  { id := 2, live := [0, 3, 7], hdr := [0, 3] },
  { id := 4, head := some 10, live := [0, 3, 19] },
  { id := 5, live := [2] },
  { id := 3, live := [0, 3] },
  { id := 6, live := [2] }]

theorem comp37 : compF Tryd.prog an37 Tryd.f37 = some a37 := by kernel_rfl

/- graphdb/value.Plain -/
def c38 : ACode :=
  .seq (.region none [] [
      ⟨some 1, .box 5 (.tmp 0), none⟩,
      ⟨some 2, .mov (.cst (.bool false)), none⟩] [1] none)
    (.seq (.region none [] [
      ⟨some 3, .faddr 0 (.tmp 1), none⟩,
      ⟨some 4, .load none (.tmp 3), none⟩,
      ⟨some 5, .bin .eql .int (.tmp 4) (.cst (.int .i64 1)), none⟩,
      ⟨some 6, .mov (.tmp 5), none⟩,
      ⟨some 7, .faddr 0 (.tmp 1), some (6, false)⟩,
      ⟨some 8, .load none (.tmp 7), some (6, false)⟩,
      ⟨some 9, .bin .eql .int (.tmp 8) (.cst (.int .i64 2)), some (6, false)⟩,
      ⟨some 10, .pick (.tmp 6) (.cst (.bool true)) (.tmp 9), none⟩,
      ⟨some 11, .mov (.tmp 10), none⟩,
      ⟨some 12, .faddr 0 (.tmp 1), some (11, false)⟩,
      ⟨some 13, .load none (.tmp 12), some (11, false)⟩,
      ⟨some 14, .bin .eql .int (.tmp 13) (.cst (.int .i64 4)), some (11, false)⟩,
      ⟨some 15, .pick (.tmp 11) (.cst (.bool true)) (.tmp 14), none⟩,
      ⟨some 16, .mov (.tmp 15), none⟩,
      ⟨some 17, .load (some 5) (.tmp 1), some (16, true)⟩,
      ⟨some 18, .call .pure 41 [(.tmp 17)], some (16, true)⟩,
      ⟨some 19, .pick (.tmp 16) (.tmp 18) (.cst (.bool false)), none⟩,
      ⟨some 2, .mov (.tmp 19), none⟩] [2] none)
    (.ret))

def a38 : AFunc := ⟨1, c38, [.tmp 2]⟩

def an38 : List RAnn := [
  { id := 0, live := [1] },
  { id := 1, live := [2] }]

theorem comp38 : compF Tryd.prog an38 Tryd.f38 = some a38 := by kernel_rfl

/- slices.BinarySearchFunc[[]graphdb/api.Node,graphdb/api.Node,int] -/
/-- loop 0 of function 39 -/
def l39_0_h : List Nat := [0, 1, 2, 8, 9, 10]

def l39_0_b : ACode :=
  .seq (.seq (.region none [] [
      ⟨some 15, .mov (.tmp 9), none⟩,
      ⟨some 16, .mov (.tmp 10), none⟩,
      ⟨some 17, .bin .lss .int (.tmp 15) (.tmp 16), none⟩] [0, 1, 2, 8, 9, 10, 17] none)
    (.cond (.tmp 17) (.skip)
    (.exit 0)))
    (.block 1 (.seq (.region none [] [
        ⟨some 18, .mov (.tmp 9), none⟩,
        ⟨some 19, .mov (.tmp 10), none⟩,
        ⟨some 20, .bin .add .int (.tmp 18) (.tmp 19), none⟩,
        ⟨some 21, .conv .u64 (.tmp 20), none⟩,
        ⟨some 22, .bin .shr .int (.tmp 21) (.cst (.int .u64 1)), none⟩,
        ⟨some 23, .conv .i64 (.tmp 22), none⟩,
        ⟨some 11, .mov (.tmp 23), none⟩] [0, 1, 2, 8, 9, 10, 11] none)
      (.seq (.region none [] [
        ⟨some 24, .mov (.tmp 2), none⟩,
        ⟨some 25, .mov (.tmp 0), none⟩,
        ⟨some 26, .mov (.tmp 11), none⟩,
        ⟨some 27, .iaddr 3 (.tmp 25) (.tmp 26), none⟩,
        ⟨some 28, .load (some 3) (.tmp 27), none⟩,
        ⟨some 29, .mov (.tmp 1), none⟩,
        ⟨some 30, .callv .pure (.tmp 24) [(.tmp 28), (.tmp 29)], none⟩,
        ⟨some 31, .bin .lss .int (.tmp 30) (.cst (.int .i64 0)), none⟩] [0, 1, 2, 8, 9, 10, 11, 31] none)
      (.cond (.tmp 31) (.region none [] [
          ⟨some 32, .mov (.tmp 11), none⟩,
          ⟨some 33, .bin .add .int (.tmp 32) (.cst (.int .i64 1)), none⟩,
          ⟨some 9, .mov (.tmp 33), none⟩] [0, 1, 2, 8, 9, 10] none)
      (.region none [] [
          ⟨some 34, .mov (.tmp 11), none⟩,
          ⟨some 10, .mov (.tmp 34), none⟩] [0, 1, 2, 8, 9, 10] none)))))

def c39 : ACode :=
  .seq (.region none [] [
      ⟨some 6, .mov (.cst (.int .i64 0)), none⟩,
      ⟨some 7, .mov (.cst (.bool false)), none⟩] [0, 1, 2] none)
    (.seq (.region none [] [
      ⟨some 12, .mov (.tmp 0), none⟩,
      ⟨some 13, .len .slice (.tmp 12), none⟩,
      ⟨some 8, .mov (.tmp 13), none⟩] [0, 1, 2, 8] none)
    (.seq (.region none [] [
      ⟨some 14, .mov (.tmp 8), none⟩,
      ⟨some 9, .mov (.cst (.int .i64 0)), none⟩,
      ⟨some 10, .mov (.tmp 14), none⟩] [0, 1, 2, 8, 9, 10] none)
    (.seq (.block 0 (.loop l39_0_h l39_0_b))
    (.seq (.region none [] [
      ⟨some 35, .mov (.tmp 9), none⟩,
      ⟨some 36, .mov (.tmp 9), none⟩,
      ⟨some 37, .mov (.tmp 8), none⟩,
      ⟨some 38, .bin .lss .int (.tmp 36) (.tmp 37), none⟩,
      ⟨some 39, .mov (.tmp 38), none⟩,
      ⟨some 40, .mov (.tmp 2), some (39, true)⟩,
      ⟨some 41, .mov (.tmp 0), some (39, true)⟩,
      ⟨some 42, .mov (.tmp 9), some (39, true)⟩,
      ⟨some 43, .iaddr 3 (.tmp 41) (.tmp 42), some (39, true)⟩,
      ⟨some 44, .load (some 3) (.tmp 43), some (39, true)⟩,
      ⟨some 45, .mov (.tmp 1), some (39, true)⟩,
      ⟨some 46, .callv .pure (.tmp 40) [(.tmp 44), (.tmp 45)], some (39, true)⟩,
      ⟨some 47, .bin .eql .int (.tmp 46) (.cst (.int .i64 0)), some (39, true)⟩,
      ⟨some 48, .pick (.tmp 39) (.tmp 47) (.cst (.bool false)), none⟩,
      ⟨some 6, .mov (.tmp 35), none⟩,
      ⟨some 7, .mov (.tmp 48), none⟩] [6, 7] none)
    (.ret)))))

def a39 : AFunc := ⟨3, c39, [.tmp 6, .tmp 7]⟩

def an39 : List RAnn := [
  { id := 0, live := [0, 1, 2] },
  { id := 1, live := [0, 1, 2, 8] },
  { id := 2, live := [0, 1, 2, 8, 9, 10] },
  { id := 3, live := [0, 1, 2, 8, 9, 10, 17], hdr := [0, 1, 2, 8, 9, 10] },
  { id := 4, live := [0, 1, 2, 8, 9, 10, 11] },
  { id := 5, live := [0, 1, 2, 8, 9, 10, 11, 31] },
  { id := 6, live := [0, 1, 2, 8, 9, 10] },
  { id := 7, live := [0, 1, 2, 8, 9, 10] },
  { id := 8, live := [6, 7] }]

theorem comp39 : compF Tryd.prog an39 Tryd.f39 = some a39 := by kernel_rfl

/- graphdb/graph.has$1 -/
def c40 : ACode :=
  .seq (.region none [] [
      ⟨some 2, .box 3 (.tmp 0), none⟩,
      ⟨some 4, .mov (.cst (.int .i64 0)), none⟩] [1, 2] none)
    (.seq (.region none [] [
      ⟨some 5, .faddr 0 (.tmp 2), none⟩,
      ⟨some 6, .load none (.tmp 5), none⟩,
      ⟨some 7, .mov (.tmp 1), none⟩,
      ⟨some 8, .call .pure 26 [(.tmp 6), (.tmp 7)], none⟩,
      ⟨some 4, .mov (.tmp 8), none⟩] [4] none)
    (.ret))

def a40 : AFunc := ⟨2, c40, [.tmp 4]⟩

def an40 : List RAnn := [
  { id := 0, live := [1, 2] },
  { id := 1, live := [4] }]

theorem comp40 : compF Tryd.prog an40 Tryd.f40 = some a40 := by kernel_rfl

/- graphdb/value.Valid -/
def c41 : ACode :=
  .seq (.region none [] [
      ⟨some 1, .box 5 (.tmp 0), none⟩,
      ⟨some 2, .mov (.cst (.bool false)), none⟩] [1] none)
    (.seq (.region none [] [
      ⟨some 3, .load (some 5) (.tmp 1), none⟩,
      ⟨some 4, .call .pure 49 [(.tmp 3), (.cst (.int .i64 0))], none⟩,
      ⟨some 2, .mov (.tmp 4), none⟩] [2] none)
    (.ret))

def a41 : AFunc := ⟨1, c41, [.tmp 2]⟩

def an41 : List RAnn := [
  { id := 0, live := [1] },
  { id := 1, live := [2] }]

theorem comp41 : compF Tryd.prog an41 Tryd.f41 = some a41 := by kernel_rfl

/- slices.Index[[]string,string] -/
/-- loop 0 of function 45 -/
def l45_0_h : List Nat := [0, 1, 7, 8]

def l45_0_b : ACode :=
  .seq (.region none [] [
      ⟨some 9, .bin .lss .int (.tmp 8) (.tmp 7), none⟩] [0, 1, 7, 8, 9] none)
    (.seq (.cond (.tmp 9) (.skip)
    (.exit 0))
    (.seq (.block 1 (.seq (.region none [] [
        ⟨some 10, .mov (.tmp 8), none⟩,
        ⟨some 5, .mov (.tmp 10), none⟩] [0, 1, 5, 7, 8] none)
      (.seq (.region none [] [
        ⟨some 11, .mov (.tmp 1), none⟩,
        ⟨some 12, .mov (.tmp 0), none⟩,
        ⟨some 13, .mov (.tmp 5), none⟩,
        ⟨some 14, .iaddr 1 (.tmp 12) (.tmp 13), none⟩,
        ⟨some 15, .load none (.tmp 14), none⟩,
        ⟨some 16, .bin .eql .str (.tmp 11) (.tmp 15), none⟩] [0, 1, 5, 7, 8, 16] none)
      (.cond (.tmp 16) (.seq (.region none [] [
          ⟨some 17, .mov (.tmp 5), none⟩,
          ⟨some 4, .mov (.tmp 17), none⟩] [4] none)
        (.ret))
      (.skip)))))
    (.region none [] [
      ⟨some 18, .bin .add .int (.tmp 8) (.cst (.int .i64 1)), none⟩,
      ⟨some 8, .mov (.tmp 18), none⟩] [0, 1, 7, 8] none)))

def c45 : ACode :=
  .seq (.region none [] [
      ⟨some 4, .mov (.cst (.int .i64 0)), none⟩] [0, 1] none)
    (.seq (.seq (.region none [] [
      ⟨some 6, .mov (.tmp 0), none⟩,
      ⟨some 7, .len .slice (.tmp 6), none⟩,
      ⟨some 8, .mov (.cst (.int .i64 0)), none⟩] [0, 1, 7, 8] none)
    (.block 0 (.loop l45_0_h l45_0_b)))
    (.seq (.region none [] [
      ⟨some 4, .mov (.cst (.int .i64 (-1))), none⟩] [4] none)
    (.ret)))

def a45 : AFunc := ⟨2, c45, [.tmp 4]⟩

def an45 : List RAnn := [
  { id := 0, live := [0, 1] },
  { id := 1, live := [0, 1, 7, 8] },
  { id := 2, live := [0, 1, 7, 8, 9], hdr := [0, 1, 7, 8] },
  { id := 3, live := [0, 1, 5, 7, 8] },
  { id := 4, live := [0, 1, 5, 7, 8, 16] },
  { id := 5, live := [4] },
  { id := 6, live := [0, 1, 7, 8] },
  { id := 7, live := [4] }]

theorem comp45 : compF Tryd.prog an45 Tryd.f45 = some a45 := by kernel_rfl

/- slices.insertionSortCmpFunc[graphdb/api.Adj] -/
/-- loop 0 of function 46 -/
def l46_0_h : List Nat := [0, 1, 2, 3, 8, 9]

def l46_0_b : ACode :=
  .seq (.seq (.region (some 17) [] [
      ⟨some 18, .mov (.tmp 9), none⟩,
      ⟨some 19, .mov (.tmp 1), none⟩,
      ⟨some 20, .bin .gtr .int (.tmp 18) (.tmp 19), none⟩,
      ⟨some 21, .mov (.tmp 20), none⟩,
      ⟨some 22, .mov (.tmp 3), some (21, true)⟩,
      ⟨some 23, .mov (.tmp 0), some (21, true)⟩,
      ⟨some 24, .mov (.tmp 9), some (21, true)⟩,
      ⟨some 25, .iaddr 3 (.tmp 23) (.tmp 24), some (21, true)⟩,
      ⟨some 26, .load (some 3) (.tmp 25), some (21, true)⟩,
      ⟨some 27, .mov (.tmp 0), some (21, true)⟩,
      ⟨some 28, .mov (.tmp 9), some (21, true)⟩,
      ⟨some 29, .bin .sub .int (.tmp 28) (.cst (.int .i64 1)), some (21, true)⟩,
      ⟨some 30, .iaddr 3 (.tmp 27) (.tmp 29), some (21, true)⟩,
      ⟨some 31, .load (some 3) (.tmp 30), some (21, true)⟩,
      ⟨some 32, .callv .pure (.tmp 22) [(.tmp 26), (.tmp 31)], some (21, true)⟩,
      ⟨some 33, .bin .lss .int (.tmp 32) (.cst (.int .i64 0)), some (21, true)⟩,
      ⟨some 34, .pick (.tmp 21) (.tmp 33) (.cst (.bool false)), none⟩] [0, 1, 2, 3, 8, 9, 34] none)
    (.cond (.tmp 34) (.skip)
    (.exit 2)))
    (.seq (.block 3 (.par 18 [] [] [
        ⟨some 37, .mov (.tmp 0), none⟩,
        ⟨some 38, .mov (.tmp 9), none⟩,
        ⟨some 39, .mov (.tmp 0), none⟩,
        ⟨some 40, .mov (.tmp 9), none⟩,
        ⟨some 41, .bin .sub .int (.tmp 40) (.cst (.int .i64 1)), none⟩,
        ⟨some 42, .mov (.tmp 0), none⟩,
        ⟨some 43, .mov (.tmp 9), none⟩,
        ⟨some 44, .bin .sub .int (.tmp 43) (.cst (.int .i64 1)), none⟩,
        ⟨some 45, .iaddr 3 (.tmp 42) (.tmp 44), none⟩,
        ⟨some 46, .load (some 3) (.tmp 45), none⟩,
        ⟨some 47, .mov (.tmp 0), none⟩,
        ⟨some 48, .mov (.tmp 9), none⟩,
        ⟨some 49, .iaddr 3 (.tmp 47) (.tmp 48), none⟩,
        ⟨some 50, .load (some 3) (.tmp 49), none⟩,
        ⟨some 51, .iaddr 3 (.tmp 37) (.tmp 38), none⟩,
        ⟨none, .store 3 (.tmp 51) (.tmp 46), none⟩,
        ⟨some 52, .iaddr 3 (.tmp 39) (.tmp 41), none⟩,
        ⟨none, .store 3 (.tmp 52) (.tmp 50), none⟩] [0, 1, 2, 3, 8, 9] none))
    (.region none [] [
      ⟨some 35, .mov (.tmp 9), none⟩,
      ⟨some 36, .bin .sub .int (.tmp 35) (.cst (.int .i64 1)), none⟩,
      ⟨some 9, .mov (.tmp 36), none⟩] [0, 1, 2, 3, 8, 9] none))

/-- loop 1 of function 46 -/
def l46_1_h : List Nat := [0, 1, 2, 3, 8]

def l46_1_b : ACode :=
  .seq (.seq (.region none [] [
      ⟨some 12, .mov (.tmp 8), none⟩,
      ⟨some 13, .mov (.tmp 2), none⟩,
      ⟨some 14, .bin .lss .int (.tmp 12) (.tmp 13), none⟩] [0, 1, 2, 3, 8, 14] none)
    (.cond (.tmp 14) (.skip)
    (.exit 0)))
    (.seq (.block 1 (.seq (.region none [] [
        ⟨some 17, .mov (.tmp 8), none⟩,
        ⟨some 9, .mov (.tmp 17), none⟩] [0, 1, 2, 3, 8, 9] none)
      (.block 2 (.loop l46_0_h l46_0_b))))
    (.region none [] [
      ⟨some 15, .mov (.tmp 8), none⟩,
      ⟨some 16, .bin .add .int (.tmp 15) (.cst (.int .i64 1)), none⟩,
      ⟨some 8, .mov (.tmp 16), none⟩] [0, 1, 2, 3, 8] none))

def c46 : ACode :=
  .seq (.region none [] [
      ⟨some 10, .mov (.tmp 1), none⟩,
      ⟨some 11, .bin .add .int (.tmp 10) (.cst (.int .i64 1)), none⟩,
      ⟨some 8, .mov (.tmp 11), none⟩] [0, 1, 2, 3, 8] none)
    (.block 0 (.loop l46_1_h l46_1_b))

def a46 : AFunc := ⟨4, c46, []⟩

def an46 : List RAnn := [
  { id := 0, live := [0, 1, 2, 3, 8] },
  { id := 1, live := [0, 1, 2, 3, 8, 14], hdr := [0, 1, 2, 3, 8] },
  { id := 3, live := [0, 1, 2, 3, 8, 9] },
  { id := 4, head := some 17, live := [0, 1, 2, 3, 8, 9, 34], hdr := [0, 1, 2, 3, 8, 9] },
  { id := 6, head := some 18, live := [0, 1, 2, 3, 8, 9], par := true },
  { id := 5, live := [0, 1, 2, 3, 8, 9] },
  { id := 2, live := [0, 1, 2, 3, 8] }]

theorem comp46 : compF Tryd.prog an46 Tryd.f46 = some a46 := by kernel_rfl

/- slices.symMergeCmpFunc[graphdb/api.Adj] -/
/-- loop 0 of function 47 -/
def l47_0_h : List Nat := [0, 1, 4, 10, 11]

def l47_0_b : ACode :=
  .seq (.seq (.region none [] [
      ⟨some 31, .mov (.tmp 10), none⟩,
      ⟨some 32, .mov (.tmp 11), none⟩,
      ⟨some 33, .bin .lss .int (.tmp 31) (.tmp 32), none⟩] [0, 1, 4, 10, 11, 33] none)
    (.cond (.tmp 33) (.skip)
    (.exit 0)))
    (.block 1 (.seq (.region none [] [
        ⟨some 34, .mov (.tmp 10), none⟩,
        ⟨some 35, .mov (.tmp 11), none⟩,
        ⟨some 36, .bin .add .int (.tmp 34) (.tmp 35), none⟩,
        ⟨some 37, .conv .u64 (.tmp 36), none⟩,
        ⟨some 38, .bin .shr .int (.tmp 37) (.cst (.int .u64 1)), none⟩,
        ⟨some 39, .conv .i64 (.tmp 38), none⟩,
        ⟨some 12, .mov (.tmp 39), none⟩] [0, 1, 4, 10, 11, 12] none)
      (.seq (.region (some 11) [] [
        ⟨some 40, .mov (.tmp 4), none⟩,
        ⟨some 41, .mov (.tmp 0), none⟩,
        ⟨some 42, .mov (.tmp 12), none⟩,
        ⟨some 43, .iaddr 3 (.tmp 41) (.tmp 42), none⟩,
        ⟨some 44, .load (some 3) (.tmp 43), none⟩,
        ⟨some 45, .mov (.tmp 0), none⟩,
        ⟨some 46, .mov (.tmp 1), none⟩,
        ⟨some 47, .iaddr 3 (.tmp 45) (.tmp 46), none⟩,
        ⟨some 48, .load (some 3) (.tmp 47), none⟩,
        ⟨some 49, .callv .pure (.tmp 40) [(.tmp 44), (.tmp 48)], none⟩,
        ⟨some 50, .bin .lss .int (.tmp 49) (.cst (.int .i64 0)), none⟩] [0, 1, 4, 10, 11, 12, 50] none)
      (.cond (.tmp 50) (.region none [] [
          ⟨some 51, .mov (.tmp 12), none⟩,
          ⟨some 52, .bin .add .int (.tmp 51) (.cst (.int .i64 1)), none⟩,
          ⟨some 10, .mov (.tmp 52), none⟩] [0, 1, 4, 10, 11] none)
      (.region none [] [
          ⟨some 53, .mov (.tmp 12), none⟩,
          ⟨some 11, .mov (.tmp 53), none⟩] [0, 1, 4, 10, 11] none)))))

/-- loop 1 of function 47 -/
def l47_1_h : List Nat := [0, 10, 13]

def l47_1_b : ACode :=
  .seq (.seq (.region none [] [
      ⟨some 55, .mov (.tmp 13), none⟩,
      ⟨some 56, .mov (.tmp 10), none⟩,
      ⟨some 57, .bin .sub .int (.tmp 56) (.cst (.int .i64 1)), none⟩,
      ⟨some 58, .bin .lss .int (.tmp 55) (.tmp 57), none⟩] [0, 10, 13, 58] none)
    (.cond (.tmp 58) (.skip)
    (.exit 2)))
    (.seq (.block 3 (.par 18 [] [] [
        ⟨some 61, .mov (.tmp 0), none⟩,
        ⟨some 62, .mov (.tmp 13), none⟩,
        ⟨some 63, .mov (.tmp 0), none⟩,
        ⟨some 64, .mov (.tmp 13), none⟩,
        ⟨some 65, .bin .add .int (.tmp 64) (.cst (.int .i64 1)), none⟩,
        ⟨some 66, .mov (.tmp 0), none⟩,
        ⟨some 67, .mov (.tmp 13), none⟩,
        ⟨some 68, .bin .add .int (.tmp 67) (.cst (.int .i64 1)), none⟩,
        ⟨some 69, .iaddr 3 (.tmp 66) (.tmp 68), none⟩,
        ⟨some 70, .load (some 3) (.tmp 69), none⟩,
        ⟨some 71, .mov (.tmp 0), none⟩,
        ⟨some 72, .mov (.tmp 13), none⟩,
        ⟨some 73, .iaddr 3 (.tmp 71) (.tmp 72), none⟩,
        ⟨some 74, .load (some 3) (.tmp 73), none⟩,
        ⟨some 75, .iaddr 3 (.tmp 61) (.tmp 62), none⟩,
        ⟨none, .store 3 (.tmp 75) (.tmp 70), none⟩,
        ⟨some 76, .iaddr 3 (.tmp 63) (.tmp 65), none⟩,
        ⟨none, .store 3 (.tmp 76) (.tmp 74), none⟩] [0, 10, 13] none))
    (.region none [] [
      ⟨some 59, .mov (.tmp 13), none⟩,
      ⟨some 60, .bin .add .int (.tmp 59) (.cst (.int .i64 1)), none⟩,
      ⟨some 13, .mov (.tmp 60), none⟩] [0, 10, 13] none))

/-- loop 2 of function 47 -/
def l47_2_h : List Nat := [0, 2, 4, 14, 15]

def l47_2_b : ACode :=
  .seq (.seq (.region none [] [
      ⟨some 83, .mov (.tmp 14), none⟩,
      ⟨some 84, .mov (.tmp 15), none⟩,
      ⟨some 85, .bin .lss .int (.tmp 83) (.tmp 84), none⟩] [0, 2, 4, 14, 15, 85] none)
    (.cond (.tmp 85) (.skip)
    (.exit 4)))
    (.block 5 (.seq (.region none [] [
        ⟨some 86, .mov (.tmp 14), none⟩,
        ⟨some 87, .mov (.tmp 15), none⟩,
        ⟨some 88, .bin .add .int (.tmp 86) (.tmp 87), none⟩,
        ⟨some 89, .conv .u64 (.tmp 88), none⟩,
        ⟨some 90, .bin .shr .int (.tmp 89) (.cst (.int .u64 1)), none⟩,
        ⟨some 91, .conv .i64 (.tmp 90), none⟩,
        ⟨some 16, .mov (.tmp 91), none⟩] [0, 2, 4, 14, 15, 16] none)
      (.seq (.region (some 12) [] [
        ⟨some 92, .mov (.tmp 4), none⟩,
        ⟨some 93, .mov (.tmp 0), none⟩,
        ⟨some 94, .mov (.tmp 2), none⟩,
        ⟨some 95, .iaddr 3 (.tmp 93) (.tmp 94), none⟩,
        ⟨some 96, .load (some 3) (.tmp 95), none⟩,
        ⟨some 97, .mov (.tmp 0), none⟩,
        ⟨some 98, .mov (.tmp 16), none⟩,
        ⟨some 99, .iaddr 3 (.tmp 97) (.tmp 98), none⟩,
        ⟨some 100, .load (some 3) (.tmp 99), none⟩,
        ⟨some 101, .callv .pure (.tmp 92) [(.tmp 96), (.tmp 100)], none⟩,
        ⟨some 102, .bin .lss .int (.tmp 101) (.cst (.int .i64 0)), none⟩,
        ⟨some 103, .un .not (.tmp 102), none⟩] [0, 2, 4, 14, 15, 16, 103] none)
      (.cond (.tmp 103) (.region none [] [
          ⟨some 104, .mov (.tmp 16), none⟩,
          ⟨some 105, .bin .add .int (.tmp 104) (.cst (.int .i64 1)), none⟩,
          ⟨some 14, .mov (.tmp 105), none⟩] [0, 2, 4, 14, 15] none)
      (.region none [] [
          ⟨some 106, .mov (.tmp 16), none⟩,
          ⟨some 15, .mov (.tmp 106), none⟩] [0, 2, 4, 14, 15] none)))))

/-- loop 3 of function 47 -/
def l47_3_h : List Nat := [0, 14, 17]

def l47_3_b : ACode :=
  .seq (.seq (.region none [] [
      ⟨some 108, .mov (.tmp 17), none⟩,
      ⟨some 109, .mov (.tmp 14), none⟩,
      ⟨some 110, .bin .gtr .int (.tmp 108) (.tmp 109), none⟩] [0, 14, 17, 110] none)
    (.cond (.tmp 110) (.skip)
    (.exit 6)))
    (.seq (.block 7 (.par 18 [] [] [
        ⟨some 113, .mov (.tmp 0), none⟩,
        ⟨some 114, .mov (.tmp 17), none⟩,
        ⟨some 115, .mov (.tmp 0), none⟩,
        ⟨some 116, .mov (.tmp 17), none⟩,
        ⟨some 117, .bin .sub .int (.tmp 116) (.cst (.int .i64 1)), none⟩,
        ⟨some 118, .mov (.tmp 0), none⟩,
        ⟨some 119, .mov (.tmp 17), none⟩,
        ⟨some 120, .bin .sub .int (.tmp 119) (.cst (.int .i64 1)), none⟩,
        ⟨some 121, .iaddr 3 (.tmp 118) (.tmp 120), none⟩,
        ⟨some 122, .load (some 3) (.tmp 121), none⟩,
        ⟨some 123, .mov (.tmp 0), none⟩,
        ⟨some 124, .mov (.tmp 17), none⟩,
        ⟨some 125, .iaddr 3 (.tmp 123) (.tmp 124), none⟩,
        ⟨some 126, .load (some 3) (.tmp 125), none⟩,
        ⟨some 127, .iaddr 3 (.tmp 113) (.tmp 114), none⟩,
        ⟨none, .store 3 (.tmp 127) (.tmp 122), none⟩,
        ⟨some 128, .iaddr 3 (.tmp 115) (.tmp 117), none⟩,
        ⟨none, .store 3 (.tmp 128) (.tmp 126), none⟩] [0, 14, 17] none))
    (.region none [] [
      ⟨some 111, .mov (.tmp 17), none⟩,
      ⟨some 112, .bin .sub .int (.tmp 111) (.cst (.int .i64 1)), none⟩,
      ⟨some 17, .mov (.tmp 112), none⟩] [0, 14, 17] none))

/-- loop 4 of function 47 -/
def l47_4_h : List Nat := [0, 1, 2, 3, 4, 18, 19, 20, 21, 22]

def l47_4_b : ACode :=
  .seq (.seq (.region none [] [
      ⟨some 149, .mov (.tmp 20), none⟩,
      ⟨some 150, .mov (.tmp 21), none⟩,
      ⟨some 151, .bin .lss .int (.tmp 149) (.tmp 150), none⟩] [0, 1, 2, 3, 4, 18, 19, 20, 21, 22, 151] none)
    (.cond (.tmp 151) (.skip)
    (.exit 8)))
    (.block 9 (.seq (.region none [] [
        ⟨some 152, .mov (.tmp 20), none⟩,
        ⟨some 153, .mov (.tmp 21), none⟩,
        ⟨some 154, .bin .add .int (.tmp 152) (.tmp 153), none⟩,
        ⟨some 155, .conv .u64 (.tmp 154), none⟩,
        ⟨some 156, .bin .shr .int (.tmp 155) (.cst (.int .u64 1)), none⟩,
        ⟨some 157, .conv .i64 (.tmp 156), none⟩,
        ⟨some 23, .mov (.tmp 157), none⟩] [0, 1, 2, 3, 4, 18, 19, 20, 21, 22, 23] none)
      (.seq (.region (some 14) [] [
        ⟨some 158, .mov (.tmp 4), none⟩,
        ⟨some 159, .mov (.tmp 0), none⟩,
        ⟨some 160, .mov (.tmp 22), none⟩,
        ⟨some 161, .mov (.tmp 23), none⟩,
        ⟨some 162, .bin .sub .int (.tmp 160) (.tmp 161), none⟩,
        ⟨some 163, .iaddr 3 (.tmp 159) (.tmp 162), none⟩,
        ⟨some 164, .load (some 3) (.tmp 163), none⟩,
        ⟨some 165, .mov (.tmp 0), none⟩,
        ⟨some 166, .mov (.tmp 23), none⟩,
        ⟨some 167, .iaddr 3 (.tmp 165) (.tmp 166), none⟩,
        ⟨some 168, .load (some 3) (.tmp 167), none⟩,
        ⟨some 169, .callv .pure (.tmp 158) [(.tmp 164), (.tmp 168)], none⟩,
        ⟨some 170, .bin .lss .int (.tmp 169) (.cst (.int .i64 0)), none⟩,
        ⟨some 171, .un .not (.tmp 170), none⟩] [0, 1, 2, 3, 4, 18, 19, 20, 21, 22, 23, 171] none)
      (.cond (.tmp 171) (.region none [] [
          ⟨some 172, .mov (.tmp 23), none⟩,
          ⟨some 173, .bin .add .int (.tmp 172) (.cst (.int .i64 1)), none⟩,
          ⟨some 20, .mov (.tmp 173), none⟩] [0, 1, 2, 3, 4, 18, 19, 20, 21, 22] none)
      (.region none [] [
          ⟨some 174, .mov (.tmp 23), none⟩,
          ⟨some 21, .mov (.tmp 174), none⟩] [0, 1, 2, 3, 4, 18, 19, 20, 21, 22] none)))))

def c47 : ACode :=
  .seq (.seq (.region none [] [
      ⟨some 25, .mov (.tmp 2), none⟩,
      ⟨some 26, .mov (.tmp 1), none⟩,
      ⟨some 27, .bin .sub .int (.tmp 25) (.tmp 26), none⟩,
      ⟨some 28, .bin .eql .int (.tmp 27) (.cst (.int .i64 1)), none⟩] [0, 1, 2, 3, 4, 28] none)
    (.cond (.tmp 28) (.seq (.region none [] [
        ⟨some 29, .mov (.tmp 2), none⟩,
        ⟨some 10, .mov (.tmp 29), none⟩] [0, 1, 3, 4, 10] none)
      (.seq (.region none [] [
        ⟨some 30, .mov (.tmp 3), none⟩,
        ⟨some 11, .mov (.tmp 30), none⟩] [0, 1, 4, 10, 11] none)
      (.seq (.block 0 (.loop l47_0_h l47_0_b))
      (.seq (.seq (.region none [] [
        ⟨some 54, .mov (.tmp 1), none⟩,
        ⟨some 13, .mov (.tmp 54), none⟩] [0, 10, 13] none)
      (.block 2 (.loop l47_1_h l47_1_b)))
      (.ret)))))
    (.skip)))
    (.seq (.seq (.region none [] [
      ⟨some 77, .mov (.tmp 3), none⟩,
      ⟨some 78, .mov (.tmp 2), none⟩,
      ⟨some 79, .bin .sub .int (.tmp 77) (.tmp 78), none⟩,
      ⟨some 80, .bin .eql .int (.tmp 79) (.cst (.int .i64 1)), none⟩] [0, 1, 2, 3, 4, 80] none)
    (.cond (.tmp 80) (.seq (.region none [] [
        ⟨some 81, .mov (.tmp 1), none⟩,
        ⟨some 14, .mov (.tmp 81), none⟩] [0, 2, 4, 14] none)
      (.seq (.region none [] [
        ⟨some 82, .mov (.tmp 2), none⟩,
        ⟨some 15, .mov (.tmp 82), none⟩] [0, 2, 4, 14, 15] none)
      (.seq (.block 4 (.loop l47_2_h l47_2_b))
      (.seq (.seq (.region none [] [
        ⟨some 107, .mov (.tmp 2), none⟩,
        ⟨some 17, .mov (.tmp 107), none⟩] [0, 14, 17] none)
      (.block 6 (.loop l47_3_h l47_3_b)))
      (.ret)))))
    (.skip)))
    (.seq (.region none [] [
      ⟨some 129, .mov (.tmp 1), none⟩,
      ⟨some 130, .mov (.tmp 3), none⟩,
      ⟨some 131, .bin .add .int (.tmp 129) (.tmp 130), none⟩,
      ⟨some 132, .conv .u64 (.tmp 131), none⟩,
      ⟨some 133, .bin .shr .int (.tmp 132) (.cst (.int .u64 1)), none⟩,
      ⟨some 134, .conv .i64 (.tmp 133), none⟩,
      ⟨some 18, .mov (.tmp 134), none⟩] [0, 1, 2, 3, 4, 18] none)
    (.seq (.region none [] [
      ⟨some 135, .mov (.tmp 18), none⟩,
      ⟨some 136, .mov (.tmp 2), none⟩,
      ⟨some 137, .bin .add .int (.tmp 135) (.tmp 136), none⟩,
      ⟨some 19, .mov (.tmp 137), none⟩] [0, 1, 2, 3, 4, 18, 19] none)
    (.seq (.region none [] [
      ⟨some 20, .mov (.cst (.int .i64 0)), none⟩,
      ⟨some 21, .mov (.cst (.int .i64 0)), none⟩] [0, 1, 2, 3, 4, 18, 19] none)
    (.seq (.seq (.region none [] [
      ⟨some 138, .mov (.tmp 2), none⟩,
      ⟨some 139, .mov (.tmp 18), none⟩,
      ⟨some 140, .bin .gtr .int (.tmp 138) (.tmp 139), none⟩] [0, 1, 2, 3, 4, 18, 19, 140] none)
    (.cond (.tmp 140) (.seq (.region none [] [
        ⟨some 141, .mov (.tmp 19), none⟩,
        ⟨some 142, .mov (.tmp 3), none⟩,
        ⟨some 143, .bin .sub .int (.tmp 141) (.tmp 142), none⟩,
        ⟨some 20, .mov (.tmp 143), none⟩] [0, 1, 2, 3, 4, 18, 19, 20] none)
      (.region none [] [
        ⟨some 144, .mov (.tmp 18), none⟩,
        ⟨some 21, .mov (.tmp 144), none⟩] [0, 1, 2, 3, 4, 18, 19, 20, 21] none))
    (.seq (.region none [] [
        ⟨some 145, .mov (.tmp 1), none⟩,
        ⟨some 20, .mov (.tmp 145), none⟩] [0, 1, 2, 3, 4, 18, 19, 20] none)
      (.region none [] [
        ⟨some 146, .mov (.tmp 2), none⟩,
        ⟨some 21, .mov (.tmp 146), none⟩] [0, 1, 2, 3, 4, 18, 19, 20, 21] none))))
    (.seq (.region none [] [
      ⟨some 147, .mov (.tmp 19), none⟩,
      ⟨some 148, .bin .sub .int (.tmp 147) (.cst (.int .i64 1)), none⟩,
      ⟨some 22, .mov (.tmp 148), none⟩] [0, 1, 2, 3, 4, 18, 19, 20, 21, 22] none)
    (.seq (.block 8 (.loop l47_4_h l47_4_b))
    (.seq (.region none [] [
      ⟨some 175, .mov (.tmp 19), none⟩,
      ⟨some 176, .mov (.tmp 20), none⟩,
      ⟨some 177, .bin .sub .int (.tmp 175) (.tmp 176), none⟩,
      ⟨some 24, .mov (.tmp 177), none⟩] [0, 1, 2, 3, 4, 18, 20, 24] none)
    (.seq (.seq (.region none [] [
      ⟨some 178, .mov (.tmp 20), none⟩,
      ⟨some 179, .mov (.tmp 2), none⟩,
      ⟨some 180, .bin .lss .int (.tmp 178) (.tmp 179), none⟩,
      ⟨some 181, .mov (.tmp 180), none⟩,
      ⟨some 182, .mov (.tmp 2), some (181, true)⟩,
      ⟨some 183, .mov (.tmp 24), some (181, true)⟩,
      ⟨some 184, .bin .lss .int (.tmp 182) (.tmp 183), some (181, true)⟩,
      ⟨some 185, .pick (.tmp 181) (.tmp 184) (.cst (.bool false)), none⟩] [0, 1, 2, 3, 4, 18, 20, 24, 185] none)
    (.cond (.tmp 185) (.region none [] [
        ⟨some 186, .mov (.tmp 0), none⟩,
        ⟨some 187, .mov (.tmp 20), none⟩,
        ⟨some 188, .mov (.tmp 2), none⟩,
        ⟨some 189, .mov (.tmp 24), none⟩,
        ⟨some 190, .mov (.tmp 4), none⟩,
        ⟨some 191, .call .share 54 [(.tmp 186), (.tmp 187), (.tmp 188), (.tmp 189), (.tmp 190)], none⟩] [0, 1, 3, 4, 18, 20, 24] none)
    (.skip)))
    (.seq (.seq (.region none [] [
      ⟨some 192, .mov (.tmp 1), none⟩,
      ⟨some 193, .mov (.tmp 20), none⟩,
      ⟨some 194, .bin .lss .int (.tmp 192) (.tmp 193), none⟩,
      ⟨some 195, .mov (.tmp 194), none⟩,
      ⟨some 196, .mov (.tmp 20), some (195, true)⟩,
      ⟨some 197, .mov (.tmp 18), some (195, true)⟩,
      ⟨some 198, .bin .lss .int (.tmp 196) (.tmp 197), some (195, true)⟩,
      ⟨some 199, .pick (.tmp 195) (.tmp 198) (.cst (.bool false)), none⟩] [0, 1, 3, 4, 18, 20, 24, 199] none)
    (.cond (.tmp 199) (.region none [] [
        ⟨some 200, .mov (.tmp 0), none⟩,
        ⟨some 201, .mov (.tmp 1), none⟩,
        ⟨some 202, .mov (.tmp 20), none⟩,
        ⟨some 203, .mov (.tmp 18), none⟩,
        ⟨some 204, .mov (.tmp 4), none⟩,
        ⟨some 205, .call .share 47 [(.tmp 200), (.tmp 201), (.tmp 202), (.tmp 203), (.tmp 204)], none⟩] [0, 3, 4, 18, 24] none)
    (.skip)))
    (.seq (.region none [] [
      ⟨some 206, .mov (.tmp 18), none⟩,
      ⟨some 207, .mov (.tmp 24), none⟩,
      ⟨some 208, .bin .lss .int (.tmp 206) (.tmp 207), none⟩,
      ⟨some 209, .mov (.tmp 208), none⟩,
      ⟨some 210, .mov (.tmp 24), some (209, true)⟩,
      ⟨some 211, .mov (.tmp 3), some (209, true)⟩,
      ⟨some 212, .bin .lss .int (.tmp 210) (.tmp 211), some (209, true)⟩,
      ⟨some 213, .pick (.tmp 209) (.tmp 212) (.cst (.bool false)), none⟩] [0, 3, 4, 18, 24, 213] none)
    (.cond (.tmp 213) (.region none [] [
        ⟨some 214, .mov (.tmp 0), none⟩,
        ⟨some 215, .mov (.tmp 18), none⟩,
        ⟨some 216, .mov (.tmp 24), none⟩,
        ⟨some 217, .mov (.tmp 3), none⟩,
        ⟨some 218, .mov (.tmp 4), none⟩,
        ⟨some 219, .call .share 47 [(.tmp 214), (.tmp 215), (.tmp 216), (.tmp 217), (.tmp 218)], none⟩] [] none)
    (.skip)))))))))))))

def a47 : AFunc := ⟨5, c47, []⟩

def an47 : List RAnn := [
  { id := 0, live := [0, 1, 2, 3, 4, 28] },
  { id := 1, live := [0, 1, 3, 4, 10] },
  { id := 2, live := [0, 1, 4, 10, 11] },
  { id := 3, live := [0, 1, 4, 10, 11, 33], hdr := [0, 1, 4, 10, 11] },
  { id := 4, live := [0, 1, 4, 10, 11, 12] },
  { id := 5, head := some 11, live := [0, 1, 4, 10, 11, 12, 50] },
  { id := 6, live := [0, 1, 4, 10, 11] },
  { id := 7, live := [0, 1, 4, 10, 11] },
  { id := 8, live := [0, 10, 13] },
  { id := 9, live := [0, 10, 13, 58], hdr := [0, 10, 13] },
  { id := 11, head := some 18, live := [0, 10, 13], par := true },
  { id := 10, live := [0, 10, 13] },
  { id := 12, live := [0, 1, 2, 3, 4, 80] },
  { id := 13, live := [0, 2, 4, 14] },
  { id := 14, live := [0, 2, 4, 14, 15] },
  { id := 15, live := [0, 2, 4, 14, 15, 85], hdr := [0, 2, 4, 14, 15] },
  { id := 16, live := [0, 2, 4, 14, 15, 16] },
  { id := 17, head := some 12, live := [0, 2, 4, 14, 15, 16, 103] },
  { id := 18, live := [0, 2, 4, 14, 15] },
  { id := 19, live := [0, 2, 4, 14, 15] },
  { id := 20, live := [0, 14, 17] },
  { id := 21, live := [0, 14, 17, 110], hdr := [0, 14, 17] },
  { id := 23, head := some 18, live := [0, 14, 17], par := true },
  { id := 22, live := [0, 14, 17] },
  { id := 24, live := [0, 1, 2, 3, 4, 18] },
  { id := 25, live := [0, 1, 2, 3, 4, 18, 19] },
  { id := 26, live := [0, 1, 2, 3, 4, 18, 19] },
  { id := 27, live := [0, 1, 2, 3, 4, 18, 19, 140] },
  { id := 28, live := [0, 1, 2, 3, 4, 18, 19, 20] },
  { id := 29, live := [0, 1, 2, 3, 4, 18, 19, 20, 21] },
  { id := 30, live := [0, 1, 2, 3, 4, 18, 19, 20] },
  { id := 31, live := [0, 1, 2, 3, 4, 18, 19, 20, 21] },
  { id := 32, live := [0, 1, 2, 3, 4, 18, 19, 20, 21, 22] },
  { id := 33, live := [0, 1, 2, 3, 4, 18, 19, 20, 21, 22, 151], hdr := [0, 1, 2, 3, 4, 18, 19, 20, 21, 22] },
  { id := 34, live := [0, 1, 2, 3, 4, 18, 19, 20, 21, 22, 23] },
  { id := 35, head := some 14, live := [0, 1, 2, 3, 4, 18, 19, 20, 21, 22, 23, 171] },
  { id := 36, live := [0, 1, 2, 3, 4, 18, 19, 20, 21, 22] },
  { id := 37, live := [0, 1, 2, 3, 4, 18, 19, 20, 21, 22] },
  { id := 38, live := [0, 1, 2, 3, 4, 18, 20, 24] },
  { id := 39, live := [0, 1, 2, 3, 4, 18, 20, 24, 185] },
  { id := 40, live := [0, 1, 3, 4, 18, 20, 24], ops := [(5, .mode .share)] },
  { id := 41, live := [0, 1, 3, 4, 18, 20, 24, 199] },
  { id := 42, live := [0, 3, 4, 18, 24], ops := [(5, .mode .share)] },
  { id := 43, live := [0, 3, 4, 18, 24, 213] },
  { id := 44, ops := [(5, .mode .share)] }]

theorem comp47 : compF Tryd.prog an47 Tryd.f47 = some a47 := by kernel_rfl

/- slices.IndexFunc[[]string,string] -/
/-- loop 0 of function 48 -/
def l48_0_h : List Nat := [0, 1, 7, 8]

def l48_0_b : ACode :=
  .seq (.region none [] [
      ⟨some 9, .bin .lss .int (.tmp 8) (.tmp 7), none⟩] [0, 1, 7, 8, 9] none)
    (.seq (.cond (.tmp 9) (.skip)
    (.exit 0))
    (.seq (.block 1 (.seq (.region none [] [
        ⟨some 10, .mov (.tmp 8), none⟩,
        ⟨some 5, .mov (.tmp 10), none⟩] [0, 1, 5, 7, 8] none)
      (.seq (.region none [] [
        ⟨some 11, .mov (.tmp 1), none⟩,
        ⟨some 12, .mov (.tmp 0), none⟩,
        ⟨some 13, .mov (.tmp 5), none⟩,
        ⟨some 14, .iaddr 1 (.tmp 12) (.tmp 13), none⟩,
        ⟨some 15, .load none (.tmp 14), none⟩,
        ⟨some 16, .callv .pure (.tmp 11) [(.tmp 15)], none⟩] [0, 1, 5, 7, 8, 16] none)
      (.cond (.tmp 16) (.seq (.region none [] [
          ⟨some 17, .mov (.tmp 5), none⟩,
          ⟨some 4, .mov (.tmp 17), none⟩] [4] none)
        (.ret))
      (.skip)))))
    (.region none [] [
      ⟨some 18, .bin .add .int (.tmp 8) (.cst (.int .i64 1)), none⟩,
      ⟨some 8, .mov (.tmp 18), none⟩] [0, 1, 7, 8] none)))

def c48 : ACode :=
  .seq (.region none [] [
      ⟨some 4, .mov (.cst (.int .i64 0)), none⟩] [0, 1] none)
    (.seq (.seq (.region none [] [
      ⟨some 6, .mov (.tmp 0), none⟩,
      ⟨some 7, .len .slice (.tmp 6), none⟩,
      ⟨some 8, .mov (.cst (.int .i64 0)), none⟩] [0, 1, 7, 8] none)
    (.block 0 (.loop l48_0_h l48_0_b)))
    (.seq (.region none [] [
      ⟨some 4, .mov (.cst (.int .i64 (-1))), none⟩] [4] none)
    (.ret)))

def a48 : AFunc := ⟨2, c48, [.tmp 4]⟩

def an48 : List RAnn := [
  { id := 0, live := [0, 1] },
  { id := 1, live := [0, 1, 7, 8] },
  { id := 2, live := [0, 1, 7, 8, 9], hdr := [0, 1, 7, 8] },
  { id := 3, live := [0, 1, 5, 7, 8] },
  { id := 4, live := [0, 1, 5, 7, 8, 16] },
  { id := 5, live := [4] },
  { id := 6, live := [0, 1, 7, 8] },
  { id := 7, live := [4] }]

theorem comp48 : compF Tryd.prog an48 Tryd.f48 = some a48 := by kernel_rfl

/- slices.rotateCmpFunc[graphdb/api.Adj] -/
/-- loop 0 of function 54 -/
def l54_0_h : List Nat := [0, 2, 4, 10, 11]

def l54_0_b : ACode :=
  .seq (.seq (.region none [] [
      ⟨some 18, .mov (.tmp 10), none⟩,
      ⟨some 19, .mov (.tmp 11), none⟩,
      ⟨some 20, .bin .neq .int (.tmp 18) (.tmp 19), none⟩] [0, 2, 4, 10, 11, 20] none)
    (.cond (.tmp 20) (.skip)
    (.exit 0)))
    (.block 1 (.seq (.region none [] [
        ⟨some 21, .mov (.tmp 10), none⟩,
        ⟨some 22, .mov (.tmp 11), none⟩,
        ⟨some 23, .bin .gtr .int (.tmp 21) (.tmp 22), none⟩] [0, 2, 4, 10, 11, 23] none)
      (.cond (.tmp 23) (.seq (.region none [] [
          ⟨some 24, .mov (.tmp 0), none⟩,
          ⟨some 25, .mov (.tmp 2), none⟩,
          ⟨some 26, .mov (.tmp 10), none⟩,
          ⟨some 27, .bin .sub .int (.tmp 25) (.tmp 26), none⟩,
          ⟨some 28, .mov (.tmp 2), none⟩,
          ⟨some 29, .mov (.tmp 11), none⟩,
          ⟨some 30, .mov (.tmp 4), none⟩,
          ⟨some 31, .call .share 63 [(.tmp 24), (.tmp 27), (.tmp 28), (.tmp 29), (.tmp 30)], none⟩] [0, 2, 4, 10, 11] none)
        (.region none [] [
          ⟨some 32, .mov (.tmp 10), none⟩,
          ⟨some 33, .mov (.tmp 11), none⟩,
          ⟨some 34, .bin .sub .int (.tmp 32) (.tmp 33), none⟩,
          ⟨some 10, .mov (.tmp 34), none⟩] [0, 2, 4, 10, 11] none))
      (.seq (.region none [] [
          ⟨some 35, .mov (.tmp 0), none⟩,
          ⟨some 36, .mov (.tmp 2), none⟩,
          ⟨some 37, .mov (.tmp 10), none⟩,
          ⟨some 38, .bin .sub .int (.tmp 36) (.tmp 37), none⟩,
          ⟨some 39, .mov (.tmp 2), none⟩,
          ⟨some 40, .mov (.tmp 11), none⟩,
          ⟨some 41, .bin .add .int (.tmp 39) (.tmp 40), none⟩,
          ⟨some 42, .mov (.tmp 10), none⟩,
          ⟨some 43, .bin .sub .int (.tmp 41) (.tmp 42), none⟩,
          ⟨some 44, .mov (.tmp 10), none⟩,
          ⟨some 45, .mov (.tmp 4), none⟩,
          ⟨some 46, .call .share 63 [(.tmp 35), (.tmp 38), (.tmp 43), (.tmp 44), (.tmp 45)], none⟩] [0, 2, 4, 10, 11] none)
        (.region none [] [
          ⟨some 47, .mov (.tmp 11), none⟩,
          ⟨some 48, .mov (.tmp 10), none⟩,
          ⟨some 49, .bin .sub .int (.tmp 47) (.tmp 48), none⟩,
          ⟨some 11, .mov (.tmp 49), none⟩] [0, 2, 4, 10, 11] none)))))

def c54 : ACode :=
  .seq (.region none [] [
      ⟨some 12, .mov (.tmp 2), none⟩,
      ⟨some 13, .mov (.tmp 1), none⟩,
      ⟨some 14, .bin .sub .int (.tmp 12) (.tmp 13), none⟩,
      ⟨some 10, .mov (.tmp 14), none⟩] [0, 2, 3, 4, 10] none)
    (.seq (.region none [] [
      ⟨some 15, .mov (.tmp 3), none⟩,
      ⟨some 16, .mov (.tmp 2), none⟩,
      ⟨some 17, .bin .sub .int (.tmp 15) (.tmp 16), none⟩,
      ⟨some 11, .mov (.tmp 17), none⟩] [0, 2, 4, 10, 11] none)
    (.seq (.block 0 (.loop l54_0_h l54_0_b))
    (.region none [] [
      ⟨some 50, .mov (.tmp 0), none⟩,
      ⟨some 51, .mov (.tmp 2), none⟩,
      ⟨some 52, .mov (.tmp 10), none⟩,
      ⟨some 53, .bin .sub .int (.tmp 51) (.tmp 52), none⟩,
      ⟨some 54, .mov (.tmp 2), none⟩,
      ⟨some 55, .mov (.tmp 10), none⟩,
      ⟨some 56, .mov (.tmp 4), none⟩,
      ⟨some 57, .call .share 63 [(.tmp 50), (.tmp 53), (.tmp 54), (.tmp 55), (.tmp 56)], none⟩] [] none)))

def a54 : AFunc := ⟨5, c54, []⟩

def an54 : List RAnn := [
  { id := 0, live := [0, 2, 3, 4, 10] },
  { id := 1, live := [0, 2, 4, 10, 11] },
  { id := 2, live := [0, 2, 4, 10, 11, 20], hdr := [0, 2, 4, 10, 11] },
  { id := 3, live := [0, 2, 4, 10, 11, 23] },
  { id := 4, live := [0, 2, 4, 10, 11], ops := [(7, .mode .share)] },
  { id := 5, live := [0, 2, 4, 10, 11] },
  { id := 6, live := [0, 2, 4, 10, 11], ops := [(11, .mode .share)] },
  { id := 7, live := [0, 2, 4, 10, 11] },
  { id := 8, ops := [(7, .mode .share)] }]

theorem comp54 : compF Tryd.prog an54 Tryd.f54 = some a54 := by kernel_rfl

/- slices.swapRangeCmpFunc[graphdb/api.Adj] -/
/-- loop 0 of function 63 -/
def l63_0_h : List Nat := [0, 1, 2, 3, 10]

def l63_0_b : ACode :=
  .seq (.seq (.region none [] [
      ⟨some 11, .mov (.tmp 10), none⟩,
      ⟨some 12, .mov (.tmp 3), none⟩,
      ⟨some 13, .bin .lss .int (.tmp 11) (.tmp 12), none⟩] [0, 1, 2, 3, 10, 13] none)
    (.cond (.tmp 13) (.skip)
    (.exit 0)))
    (.seq (.block 1 (.par 24 [] [] [
        ⟨some 16, .mov (.tmp 0), none⟩,
        ⟨some 17, .mov (.tmp 1), none⟩,
        ⟨some 18, .mov (.tmp 10), none⟩,
        ⟨some 19, .bin .add .int (.tmp 17) (.tmp 18), none⟩,
        ⟨some 20, .mov (.tmp 0), none⟩,
        ⟨some 21, .mov (.tmp 2), none⟩,
        ⟨some 22, .mov (.tmp 10), none⟩,
        ⟨some 23, .bin .add .int (.tmp 21) (.tmp 22), none⟩,
        ⟨some 24, .mov (.tmp 0), none⟩,
        ⟨some 25, .mov (.tmp 2), none⟩,
        ⟨some 26, .mov (.tmp 10), none⟩,
        ⟨some 27, .bin .add .int (.tmp 25) (.tmp 26), none⟩,
        ⟨some 28, .iaddr 3 (.tmp 24) (.tmp 27), none⟩,
        ⟨some 29, .load (some 3) (.tmp 28), none⟩,
        ⟨some 30, .mov (.tmp 0), none⟩,
        ⟨some 31, .mov (.tmp 1), none⟩,
        ⟨some 32, .mov (.tmp 10), none⟩,
        ⟨some 33, .bin .add .int (.tmp 31) (.tmp 32), none⟩,
        ⟨some 34, .iaddr 3 (.tmp 30) (.tmp 33), none⟩,
        ⟨some 35, .load (some 3) (.tmp 34), none⟩,
        ⟨some 36, .iaddr 3 (.tmp 16) (.tmp 19), none⟩,
        ⟨none, .store 3 (.tmp 36) (.tmp 29), none⟩,
        ⟨some 37, .iaddr 3 (.tmp 20) (.tmp 23), none⟩,
        ⟨none, .store 3 (.tmp 37) (.tmp 35), none⟩] [0, 1, 2, 3, 10] none))
    (.region none [] [
      ⟨some 14, .mov (.tmp 10), none⟩,
      ⟨some 15, .bin .add .int (.tmp 14) (.cst (.int .i64 1)), none⟩,
      ⟨some 10, .mov (.tmp 15), none⟩] [0, 1, 2, 3, 10] none))

def c63 : ACode :=
  .seq (.region none [] [
      ⟨some 10, .mov (.cst (.int .i64 0)), none⟩] [0, 1, 2, 3, 10] none)
    (.block 0 (.loop l63_0_h l63_0_b))

def a63 : AFunc := ⟨5, c63, []⟩

def an63 : List RAnn := [
  { id := 0, live := [0, 1, 2, 3, 10] },
  { id := 1, live := [0, 1, 2, 3, 10, 13], hdr := [0, 1, 2, 3, 10] },
  { id := 3, head := some 24, live := [0, 1, 2, 3, 10], par := true },
  { id := 2, live := [0, 1, 2, 3, 10] }]

theorem comp63 : compF Tryd.prog an63 Tryd.f63 = some a63 := by kernel_rfl

def tab : List (Nat × AFn) := [
  (3, .code a3),
  (4, .code a4),
  (5, .code a5),
  (6, .code a6),
  (7, .code a7),
  (8, .code a8),
  (9, .code a9),
  (10, .code a10),
  (11, .code a11),
  (12, .code a12),
  (13, .code a13),
  (14, .code a14),
  (15, .code a15),
  (16, .code a16),
  (17, .code a17),
  (18, .code a18),
  (19, .code a19),
  (20, .code a20),
  (21, .code a21),
  (22, .code a22),
  (23, .code a23),
  (24, .code a24),
  (25, .code a25),
  (26, .code a26),
  (27, .code a27),
  (28, .code a28),
  (32, .code a32),
  (33, .code a33),
  (34, .code a34),
  (35, .code a35),
  (36, .code a36),
  (37, .code a37),
  (38, .code a38),
  (39, .code a39),
  (40, .code a40),
  (41, .code a41),
  (45, .code a45),
  (46, .code a46),
  (47, .code a47),
  (48, .code a48),
  (54, .code a54),
  (63, .code a63)]

theorem tab_ok : TableOk Tryd.prog (findFn tab) := tableOk_of ⟨⟨Tryd.f3, an3, by kernel_rfl, by kernel_rfl, comp3⟩,
  ⟨Tryd.f4, an4, by kernel_rfl, by kernel_rfl, comp4⟩,
  ⟨Tryd.f5, an5, by kernel_rfl, by kernel_rfl, comp5⟩,
  ⟨Tryd.f6, an6, by kernel_rfl, by kernel_rfl, comp6⟩,
  ⟨Tryd.f7, an7, by kernel_rfl, by kernel_rfl, comp7⟩,
  ⟨Tryd.f8, an8, by kernel_rfl, by kernel_rfl, comp8⟩,
  ⟨Tryd.f9, an9, by kernel_rfl, by kernel_rfl, comp9⟩,
  ⟨Tryd.f10, an10, by kernel_rfl, by kernel_rfl, comp10⟩,
  ⟨Tryd.f11, an11, by kernel_rfl, by kernel_rfl, comp11⟩,
  ⟨Tryd.f12, an12, by kernel_rfl, by kernel_rfl, comp12⟩,
  ⟨Tryd.f13, an13, by kernel_rfl, by kernel_rfl, comp13⟩,
  ⟨Tryd.f14, an14, by kernel_rfl, by kernel_rfl, comp14⟩,
  ⟨Tryd.f15, an15, by kernel_rfl, by kernel_rfl, comp15⟩,
  ⟨Tryd.f16, an16, by kernel_rfl, by kernel_rfl, comp16⟩,
  ⟨Tryd.f17, an17, by kernel_rfl, by kernel_rfl, comp17⟩,
  ⟨Tryd.f18, an18, by kernel_rfl, by kernel_rfl, comp18⟩,
  ⟨Tryd.f19, an19, by kernel_rfl, by kernel_rfl, comp19⟩,
  ⟨Tryd.f20, an20, by kernel_rfl, by kernel_rfl, comp20⟩,
  ⟨Tryd.f21, an21, by kernel_rfl, by kernel_rfl, comp21⟩,
  ⟨Tryd.f22, an22, by kernel_rfl, by kernel_rfl, comp22⟩,
  ⟨Tryd.f23, an23, by kernel_rfl, by kernel_rfl, comp23⟩,
  ⟨Tryd.f24, an24, by kernel_rfl, by kernel_rfl, comp24⟩,
  ⟨Tryd.f25, an25, by kernel_rfl, by kernel_rfl, comp25⟩,
  ⟨Tryd.f26, an26, by kernel_rfl, by kernel_rfl, comp26⟩,
  ⟨Tryd.f27, an27, by kernel_rfl, by kernel_rfl, comp27⟩,
  ⟨Tryd.f28, an28, by kernel_rfl, by kernel_rfl, comp28⟩,
  ⟨Tryd.f32, an32, by kernel_rfl, by kernel_rfl, comp32⟩,
  ⟨Tryd.f33, an33, by kernel_rfl, by kernel_rfl, comp33⟩,
  ⟨Tryd.f34, an34, by kernel_rfl, by kernel_rfl, comp34⟩,
  ⟨Tryd.f35, an35, by kernel_rfl, by kernel_rfl, comp35⟩,
  ⟨Tryd.f36, an36, by kernel_rfl, by kernel_rfl, comp36⟩,
  ⟨Tryd.f37, an37, by kernel_rfl, by kernel_rfl, comp37⟩,
  ⟨Tryd.f38, an38, by kernel_rfl, by kernel_rfl, comp38⟩,
  ⟨Tryd.f39, an39, by kernel_rfl, by kernel_rfl, comp39⟩,
  ⟨Tryd.f40, an40, by kernel_rfl, by kernel_rfl, comp40⟩,
  ⟨Tryd.f41, an41, by kernel_rfl, by kernel_rfl, comp41⟩,
  ⟨Tryd.f45, an45, by kernel_rfl, by kernel_rfl, comp45⟩,
  ⟨Tryd.f46, an46, by kernel_rfl, by kernel_rfl, comp46⟩,
  ⟨Tryd.f47, an47, by kernel_rfl, by kernel_rfl, comp47⟩,
  ⟨Tryd.f48, an48, by kernel_rfl, by kernel_rfl, comp48⟩,
  ⟨Tryd.f54, an54, by kernel_rfl, by kernel_rfl, comp54⟩,
  ⟨Tryd.f63, an63, by kernel_rfl, by kernel_rfl, comp63⟩,
  trivial⟩

theorem mixed : Tryd.prog.follows .mixedOrders = true := by kernel_rfl

theorem run_ok (n : Nat) : CallSound Tryd.prog (run (findFn tab) n) := run_sound mixed tab_ok n

end AI
end Go.Proofs.YtnakgkibjlcjlaaDoor
