/- Printed by a program of mine: the functions, compiled; the kernel checks each against the given form. -/
import Derived.Test.YtnakgkibjlcjlaaSe
import Derived.Test.YtnakgkibjlcjlaaProg
import Derived.KernelRfl
import Derived.Test.YtnakgkibjlcjlaaIxF
namespace Go.Proofs.Ytnakgkibjlcjlaa
namespace AI
/- math/bits.Len -/
def c87 : ACode :=
  .seq (.region none [] [
      ⟨some 2, .mov (.cst (.int .i64 0)), none⟩] [0] none)
    (.seq (.cond (.cst (.bool false)) (.seq (.region none [] [
        ⟨some 3, .mov (.tmp 0), none⟩,
        ⟨some 4, .conv .u32 (.tmp 3), none⟩,
        ⟨some 5, .call .pure 115 [(.tmp 4)], none⟩,
        ⟨some 2, .mov (.tmp 5), none⟩] [2] none)
      (.ret))
    (.skip))
    (.seq (.region none [] [
      ⟨some 6, .mov (.tmp 0), none⟩,
      ⟨some 7, .call .pure 116 [(.tmp 6)], none⟩,
      ⟨some 2, .mov (.tmp 7), none⟩] [2] none)
    (.ret)))

def a87 : AFunc := ⟨1, c87, [.tmp 2]⟩

def an87 : List RAnn := [
  { id := 0, live := [0] },
  { id := 1, live := [2] },
  { id := 2, live := [2] }]

theorem comp87 : compF Try.prog an87 Try.f87 = some a87 := by kernel_rfl

/- slices.insertionSortCmpFunc[graphdb/api.Adj] -/
/-- loop 0 of function 88 -/
def l88_0_h : List Nat := [0, 1, 2, 3, 8, 9]

def l88_0_b : ACode :=
  .seq (.seq (.region (some 17) [] [
      ⟨some 18, .mov (.tmp 9), none⟩,
      ⟨some 19, .mov (.tmp 1), none⟩,
      ⟨some 20, .bin .gtr .int (.tmp 18) (.tmp 19), none⟩,
      ⟨some 21, .mov (.tmp 20), none⟩,
      ⟨some 22, .mov (.tmp 3), some (21, true)⟩,
      ⟨some 23, .mov (.tmp 0), some (21, true)⟩,
      ⟨some 24, .mov (.tmp 9), some (21, true)⟩,
      ⟨some 25, .iaddr 3 (.tmp 23) (.tmp 24), some (21, true)⟩,
      ⟨some 26, .load (some 3) (.tmp 25), some (21, true)⟩,
      ⟨some 27, .mov (.tmp 0), some (21, true)⟩,
      ⟨some 28, .mov (.tmp 9), some (21, true)⟩,
      ⟨some 29, .bin .sub .int (.tmp 28) (.cst (.int .i64 1)), some (21, true)⟩,
      ⟨some 30, .iaddr 3 (.tmp 27) (.tmp 29), some (21, true)⟩,
      ⟨some 31, .load (some 3) (.tmp 30), some (21, true)⟩,
      ⟨some 32, .callv .pure (.tmp 22) [(.tmp 26), (.tmp 31)], some (21, true)⟩,
      ⟨some 33, .bin .lss .int (.tmp 32) (.cst (.int .i64 0)), some (21, true)⟩,
      ⟨some 34, .pick (.tmp 21) (.tmp 33) (.cst (.bool false)), none⟩] [0, 1, 2, 3, 8, 9, 34] none)
    (.cond (.tmp 34) (.skip)
    (.exit 2)))
    (.seq (.block 3 (.par 18 [] [] [
        ⟨some 37, .mov (.tmp 0), none⟩,
        ⟨some 38, .mov (.tmp 9), none⟩,
        ⟨some 39, .mov (.tmp 0), none⟩,
        ⟨some 40, .mov (.tmp 9), none⟩,
        ⟨some 41, .bin .sub .int (.tmp 40) (.cst (.int .i64 1)), none⟩,
        ⟨some 42, .mov (.tmp 0), none⟩,
        ⟨some 43, .mov (.tmp 9), none⟩,
        ⟨some 44, .bin .sub .int (.tmp 43) (.cst (.int .i64 1)), none⟩,
        ⟨some 45, .iaddr 3 (.tmp 42) (.tmp 44), none⟩,
        ⟨some 46, .load (some 3) (.tmp 45), none⟩,
        ⟨some 47, .mov (.tmp 0), none⟩,
        ⟨some 48, .mov (.tmp 9), none⟩,
        ⟨some 49, .iaddr 3 (.tmp 47) (.tmp 48), none⟩,
        ⟨some 50, .load (some 3) (.tmp 49), none⟩,
        ⟨some 51, .iaddr 3 (.tmp 37) (.tmp 38), none⟩,
        ⟨none, .store 3 (.tmp 51) (.tmp 46), none⟩,
        ⟨some 52, .iaddr 3 (.tmp 39) (.tmp 41), none⟩,
        ⟨none, .store 3 (.tmp 52) (.tmp 50), none⟩] [0, 1, 2, 3, 8, 9] none))
    (.region none [] [
      ⟨some 35, .mov (.tmp 9), none⟩,
      ⟨some 36, .bin .sub .int (.tmp 35) (.cst (.int .i64 1)), none⟩,
      ⟨some 9, .mov (.tmp 36), none⟩] [0, 1, 2, 3, 8, 9] none))

/-- loop 1 of function 88 -/
def l88_1_h : List Nat := [0, 1, 2, 3, 8]

def l88_1_b : ACode :=
  .seq (.seq (.region none [] [
      ⟨some 12, .mov (.tmp 8), none⟩,
      ⟨some 13, .mov (.tmp 2), none⟩,
      ⟨some 14, .bin .lss .int (.tmp 12) (.tmp 13), none⟩] [0, 1, 2, 3, 8, 14] none)
    (.cond (.tmp 14) (.skip)
    (.exit 0)))
    (.seq (.block 1 (.seq (.region none [] [
        ⟨some 17, .mov (.tmp 8), none⟩,
        ⟨some 9, .mov (.tmp 17), none⟩] [0, 1, 2, 3, 8, 9] none)
      (.block 2 (.loop l88_0_h l88_0_b))))
    (.region none [] [
      ⟨some 15, .mov (.tmp 8), none⟩,
      ⟨some 16, .bin .add .int (.tmp 15) (.cst (.int .i64 1)), none⟩,
      ⟨some 8, .mov (.tmp 16), none⟩] [0, 1, 2, 3, 8] none))

def c88 : ACode :=
  .seq (.region none [] [
      ⟨some 10, .mov (.tmp 1), none⟩,
      ⟨some 11, .bin .add .int (.tmp 10) (.cst (.int .i64 1)), none⟩,
      ⟨some 8, .mov (.tmp 11), none⟩] [0, 1, 2, 3, 8] none)
    (.block 0 (.loop l88_1_h l88_1_b))

def a88 : AFunc := ⟨4, c88, []⟩

def an88 : List RAnn := [
  { id := 0, live := [0, 1, 2, 3, 8] },
  { id := 1, live := [0, 1, 2, 3, 8, 14], hdr := [0, 1, 2, 3, 8] },
  { id := 3, live := [0, 1, 2, 3, 8, 9] },
  { id := 4, head := some 17, live := [0, 1, 2, 3, 8, 9, 34], hdr := [0, 1, 2, 3, 8, 9] },
  { id := 6, head := some 18, live := [0, 1, 2, 3, 8, 9], par := true },
  { id := 5, live := [0, 1, 2, 3, 8, 9] },
  { id := 2, live := [0, 1, 2, 3, 8] }]

theorem comp88 : compF Try.prog an88 Try.f88 = some a88 := by kernel_rfl

/- slices.symMergeCmpFunc[graphdb/api.Adj] -/
/-- loop 0 of function 89 -/
def l89_0_h : List Nat := [0, 1, 4, 10, 11]

def l89_0_b : ACode :=
  .seq (.seq (.region none [] [
      ⟨some 31, .mov (.tmp 10), none⟩,
      ⟨some 32, .mov (.tmp 11), none⟩,
      ⟨some 33, .bin .lss .int (.tmp 31) (.tmp 32), none⟩] [0, 1, 4, 10, 11, 33] none)
    (.cond (.tmp 33) (.skip)
    (.exit 0)))
    (.block 1 (.seq (.region none [] [
        ⟨some 34, .mov (.tmp 10), none⟩,
        ⟨some 35, .mov (.tmp 11), none⟩,
        ⟨some 36, .bin .add .int (.tmp 34) (.tmp 35), none⟩,
        ⟨some 37, .conv .u64 (.tmp 36), none⟩,
        ⟨some 38, .bin .shr .int (.tmp 37) (.cst (.int .u64 1)), none⟩,
        ⟨some 39, .conv .i64 (.tmp 38), none⟩,
        ⟨some 12, .mov (.tmp 39), none⟩] [0, 1, 4, 10, 11, 12] none)
      (.seq (.region (some 11) [] [
        ⟨some 40, .mov (.tmp 4), none⟩,
        ⟨some 41, .mov (.tmp 0), none⟩,
        ⟨some 42, .mov (.tmp 12), none⟩,
        ⟨some 43, .iaddr 3 (.tmp 41) (.tmp 42), none⟩,
        ⟨some 44, .load (some 3) (.tmp 43), none⟩,
        ⟨some 45, .mov (.tmp 0), none⟩,
        ⟨some 46, .mov (.tmp 1), none⟩,
        ⟨some 47, .iaddr 3 (.tmp 45) (.tmp 46), none⟩,
        ⟨some 48, .load (some 3) (.tmp 47), none⟩,
        ⟨some 49, .callv .pure (.tmp 40) [(.tmp 44), (.tmp 48)], none⟩,
        ⟨some 50, .bin .lss .int (.tmp 49) (.cst (.int .i64 0)), none⟩] [0, 1, 4, 10, 11, 12, 50] none)
      (.cond (.tmp 50) (.region none [] [
          ⟨some 51, .mov (.tmp 12), none⟩,
          ⟨some 52, .bin .add .int (.tmp 51) (.cst (.int .i64 1)), none⟩,
          ⟨some 10, .mov (.tmp 52), none⟩] [0, 1, 4, 10, 11] none)
      (.region none [] [
          ⟨some 53, .mov (.tmp 12), none⟩,
          ⟨some 11, .mov (.tmp 53), none⟩] [0, 1, 4, 10, 11] none)))))

/-- loop 1 of function 89 -/
def l89_1_h : List Nat := [0, 10, 13]

def l89_1_b : ACode :=
  .seq (.seq (.region none [] [
      ⟨some 55, .mov (.tmp 13), none⟩,
      ⟨some 56, .mov (.tmp 10), none⟩,
      ⟨some 57, .bin .sub .int (.tmp 56) (.cst (.int .i64 1)), none⟩,
      ⟨some 58, .bin .lss .int (.tmp 55) (.tmp 57), none⟩] [0, 10, 13, 58] none)
    (.cond (.tmp 58) (.skip)
    (.exit 2)))
    (.seq (.block 3 (.par 18 [] [] [
        ⟨some 61, .mov (.tmp 0), none⟩,
        ⟨some 62, .mov (.tmp 13), none⟩,
        ⟨some 63, .mov (.tmp 0), none⟩,
        ⟨some 64, .mov (.tmp 13), none⟩,
        ⟨some 65, .bin .add .int (.tmp 64) (.cst (.int .i64 1)), none⟩,
        ⟨some 66, .mov (.tmp 0), none⟩,
        ⟨some 67, .mov (.tmp 13), none⟩,
        ⟨some 68, .bin .add .int (.tmp 67) (.cst (.int .i64 1)), none⟩,
        ⟨some 69, .iaddr 3 (.tmp 66) (.tmp 68), none⟩,
        ⟨some 70, .load (some 3) (.tmp 69), none⟩,
        ⟨some 71, .mov (.tmp 0), none⟩,
        ⟨some 72, .mov (.tmp 13), none⟩,
        ⟨some 73, .iaddr 3 (.tmp 71) (.tmp 72), none⟩,
        ⟨some 74, .load (some 3) (.tmp 73), none⟩,
        ⟨some 75, .iaddr 3 (.tmp 61) (.tmp 62), none⟩,
        ⟨none, .store 3 (.tmp 75) (.tmp 70), none⟩,
        ⟨some 76, .iaddr 3 (.tmp 63) (.tmp 65), none⟩,
        ⟨none, .store 3 (.tmp 76) (.tmp 74), none⟩] [0, 10, 13] none))
    (.region none [] [
      ⟨some 59, .mov (.tmp 13), none⟩,
      ⟨some 60, .bin .add .int (.tmp 59) (.cst (.int .i64 1)), none⟩,
      ⟨some 13, .mov (.tmp 60), none⟩] [0, 10, 13] none))

/-- loop 2 of function 89 -/
def l89_2_h : List Nat := [0, 2, 4, 14, 15]

def l89_2_b : ACode :=
  .seq (.seq (.region none [] [
      ⟨some 83, .mov (.tmp 14), none⟩,
      ⟨some 84, .mov (.tmp 15), none⟩,
      ⟨some 85, .bin .lss .int (.tmp 83) (.tmp 84), none⟩] [0, 2, 4, 14, 15, 85] none)
    (.cond (.tmp 85) (.skip)
    (.exit 4)))
    (.block 5 (.seq (.region none [] [
        ⟨some 86, .mov (.tmp 14), none⟩,
        ⟨some 87, .mov (.tmp 15), none⟩,
        ⟨some 88, .bin .add .int (.tmp 86) (.tmp 87), none⟩,
        ⟨some 89, .conv .u64 (.tmp 88), none⟩,
        ⟨some 90, .bin .shr .int (.tmp 89) (.cst (.int .u64 1)), none⟩,
        ⟨some 91, .conv .i64 (.tmp 90), none⟩,
        ⟨some 16, .mov (.tmp 91), none⟩] [0, 2, 4, 14, 15, 16] none)
      (.seq (.region (some 12) [] [
        ⟨some 92, .mov (.tmp 4), none⟩,
        ⟨some 93, .mov (.tmp 0), none⟩,
        ⟨some 94, .mov (.tmp 2), none⟩,
        ⟨some 95, .iaddr 3 (.tmp 93) (.tmp 94), none⟩,
        ⟨some 96, .load (some 3) (.tmp 95), none⟩,
        ⟨some 97, .mov (.tmp 0), none⟩,
        ⟨some 98, .mov (.tmp 16), none⟩,
        ⟨some 99, .iaddr 3 (.tmp 97) (.tmp 98), none⟩,
        ⟨some 100, .load (some 3) (.tmp 99), none⟩,
        ⟨some 101, .callv .pure (.tmp 92) [(.tmp 96), (.tmp 100)], none⟩,
        ⟨some 102, .bin .lss .int (.tmp 101) (.cst (.int .i64 0)), none⟩,
        ⟨some 103, .un .not (.tmp 102), none⟩] [0, 2, 4, 14, 15, 16, 103] none)
      (.cond (.tmp 103) (.region none [] [
          ⟨some 104, .mov (.tmp 16), none⟩,
          ⟨some 105, .bin .add .int (.tmp 104) (.cst (.int .i64 1)), none⟩,
          ⟨some 14, .mov (.tmp 105), none⟩] [0, 2, 4, 14, 15] none)
      (.region none [] [
          ⟨some 106, .mov (.tmp 16), none⟩,
          ⟨some 15, .mov (.tmp 106), none⟩] [0, 2, 4, 14, 15] none)))))

/-- loop 3 of function 89 -/
def l89_3_h : List Nat := [0, 14, 17]

def l89_3_b : ACode :=
  .seq (.seq (.region none [] [
      ⟨some 108, .mov (.tmp 17), none⟩,
      ⟨some 109, .mov (.tmp 14), none⟩,
      ⟨some 110, .bin .gtr .int (.tmp 108) (.tmp 109), none⟩] [0, 14, 17, 110] none)
    (.cond (.tmp 110) (.skip)
    (.exit 6)))
    (.seq (.block 7 (.par 18 [] [] [
        ⟨some 113, .mov (.tmp 0), none⟩,
        ⟨some 114, .mov (.tmp 17), none⟩,
        ⟨some 115, .mov (.tmp 0), none⟩,
        ⟨some 116, .mov (.tmp 17), none⟩,
        ⟨some 117, .bin .sub .int (.tmp 116) (.cst (.int .i64 1)), none⟩,
        ⟨some 118, .mov (.tmp 0), none⟩,
        ⟨some 119, .mov (.tmp 17), none⟩,
        ⟨some 120, .bin .sub .int (.tmp 119) (.cst (.int .i64 1)), none⟩,
        ⟨some 121, .iaddr 3 (.tmp 118) (.tmp 120), none⟩,
        ⟨some 122, .load (some 3) (.tmp 121), none⟩,
        ⟨some 123, .mov (.tmp 0), none⟩,
        ⟨some 124, .mov (.tmp 17), none⟩,
        ⟨some 125, .iaddr 3 (.tmp 123) (.tmp 124), none⟩,
        ⟨some 126, .load (some 3) (.tmp 125), none⟩,
        ⟨some 127, .iaddr 3 (.tmp 113) (.tmp 114), none⟩,
        ⟨none, .store 3 (.tmp 127) (.tmp 122), none⟩,
        ⟨some 128, .iaddr 3 (.tmp 115) (.tmp 117), none⟩,
        ⟨none, .store 3 (.tmp 128) (.tmp 126), none⟩] [0, 14, 17] none))
    (.region none [] [
      ⟨some 111, .mov (.tmp 17), none⟩,
      ⟨some 112, .bin .sub .int (.tmp 111) (.cst (.int .i64 1)), none⟩,
      ⟨some 17, .mov (.tmp 112), none⟩] [0, 14, 17] none))

/-- loop 4 of function 89 -/
def l89_4_h : List Nat := [0, 1, 2, 3, 4, 18, 19, 20, 21, 22]

def l89_4_b : ACode :=
  .seq (.seq (.region none [] [
      ⟨some 149, .mov (.tmp 20), none⟩,
      ⟨some 150, .mov (.tmp 21), none⟩,
      ⟨some 151, .bin .lss .int (.tmp 149) (.tmp 150), none⟩] [0, 1, 2, 3, 4, 18, 19, 20, 21, 22, 151] none)
    (.cond (.tmp 151) (.skip)
    (.exit 8)))
    (.block 9 (.seq (.region none [] [
        ⟨some 152, .mov (.tmp 20), none⟩,
        ⟨some 153, .mov (.tmp 21), none⟩,
        ⟨some 154, .bin .add .int (.tmp 152) (.tmp 153), none⟩,
        ⟨some 155, .conv .u64 (.tmp 154), none⟩,
        ⟨some 156, .bin .shr .int (.tmp 155) (.cst (.int .u64 1)), none⟩,
        ⟨some 157, .conv .i64 (.tmp 156), none⟩,
        ⟨some 23, .mov (.tmp 157), none⟩] [0, 1, 2, 3, 4, 18, 19, 20, 21, 22, 23] none)
      (.seq (.region (some 14) [] [
        ⟨some 158, .mov (.tmp 4), none⟩,
        ⟨some 159, .mov (.tmp 0), none⟩,
        ⟨some 160, .mov (.tmp 22), none⟩,
        ⟨some 161, .mov (.tmp 23), none⟩,
        ⟨some 162, .bin .sub .int (.tmp 160) (.tmp 161), none⟩,
        ⟨some 163, .iaddr 3 (.tmp 159) (.tmp 162), none⟩,
        ⟨some 164, .load (some 3) (.tmp 163), none⟩,
        ⟨some 165, .mov (.tmp 0), none⟩,
        ⟨some 166, .mov (.tmp 23), none⟩,
        ⟨some 167, .iaddr 3 (.tmp 165) (.tmp 166), none⟩,
        ⟨some 168, .load (some 3) (.tmp 167), none⟩,
        ⟨some 169, .callv .pure (.tmp 158) [(.tmp 164), (.tmp 168)], none⟩,
        ⟨some 170, .bin .lss .int (.tmp 169) (.cst (.int .i64 0)), none⟩,
        ⟨some 171, .un .not (.tmp 170), none⟩] [0, 1, 2, 3, 4, 18, 19, 20, 21, 22, 23, 171] none)
      (.cond (.tmp 171) (.region none [] [
          ⟨some 172, .mov (.tmp 23), none⟩,
          ⟨some 173, .bin .add .int (.tmp 172) (.cst (.int .i64 1)), none⟩,
          ⟨some 20, .mov (.tmp 173), none⟩] [0, 1, 2, 3, 4, 18, 19, 20, 21, 22] none)
      (.region none [] [
          ⟨some 174, .mov (.tmp 23), none⟩,
          ⟨some 21, .mov (.tmp 174), none⟩] [0, 1, 2, 3, 4, 18, 19, 20, 21, 22] none)))))

def c89 : ACode :=
  .seq (.seq (.region none [] [
      ⟨some 25, .mov (.tmp 2), none⟩,
      ⟨some 26, .mov (.tmp 1), none⟩,
      ⟨some 27, .bin .sub .int (.tmp 25) (.tmp 26), none⟩,
      ⟨some 28, .bin .eql .int (.tmp 27) (.cst (.int .i64 1)), none⟩] [0, 1, 2, 3, 4, 28] none)
    (.cond (.tmp 28) (.seq (.region none [] [
        ⟨some 29, .mov (.tmp 2), none⟩,
        ⟨some 10, .mov (.tmp 29), none⟩] [0, 1, 3, 4, 10] none)
      (.seq (.region none [] [
        ⟨some 30, .mov (.tmp 3), none⟩,
        ⟨some 11, .mov (.tmp 30), none⟩] [0, 1, 4, 10, 11] none)
      (.seq (.block 0 (.loop l89_0_h l89_0_b))
      (.seq (.seq (.region none [] [
        ⟨some 54, .mov (.tmp 1), none⟩,
        ⟨some 13, .mov (.tmp 54), none⟩] [0, 10, 13] none)
      (.block 2 (.loop l89_1_h l89_1_b)))
      (.ret)))))
    (.skip)))
    (.seq (.seq (.region none [] [
      ⟨some 77, .mov (.tmp 3), none⟩,
      ⟨some 78, .mov (.tmp 2), none⟩,
      ⟨some 79, .bin .sub .int (.tmp 77) (.tmp 78), none⟩,
      ⟨some 80, .bin .eql .int (.tmp 79) (.cst (.int .i64 1)), none⟩] [0, 1, 2, 3, 4, 80] none)
    (.cond (.tmp 80) (.seq (.region none [] [
        ⟨some 81, .mov (.tmp 1), none⟩,
        ⟨some 14, .mov (.tmp 81), none⟩] [0, 2, 4, 14] none)
      (.seq (.region none [] [
        ⟨some 82, .mov (.tmp 2), none⟩,
        ⟨some 15, .mov (.tmp 82), none⟩] [0, 2, 4, 14, 15] none)
      (.seq (.block 4 (.loop l89_2_h l89_2_b))
      (.seq (.seq (.region none [] [
        ⟨some 107, .mov (.tmp 2), none⟩,
        ⟨some 17, .mov (.tmp 107), none⟩] [0, 14, 17] none)
      (.block 6 (.loop l89_3_h l89_3_b)))
      (.ret)))))
    (.skip)))
    (.seq (.region none [] [
      ⟨some 129, .mov (.tmp 1), none⟩,
      ⟨some 130, .mov (.tmp 3), none⟩,
      ⟨some 131, .bin .add .int (.tmp 129) (.tmp 130), none⟩,
      ⟨some 132, .conv .u64 (.tmp 131), none⟩,
      ⟨some 133, .bin .shr .int (.tmp 132) (.cst (.int .u64 1)), none⟩,
      ⟨some 134, .conv .i64 (.tmp 133), none⟩,
      ⟨some 18, .mov (.tmp 134), none⟩] [0, 1, 2, 3, 4, 18] none)
    (.seq (.region none [] [
      ⟨some 135, .mov (.tmp 18), none⟩,
      ⟨some 136, .mov (.tmp 2), none⟩,
      ⟨some 137, .bin .add .int (.tmp 135) (.tmp 136), none⟩,
      ⟨some 19, .mov (.tmp 137), none⟩] [0, 1, 2, 3, 4, 18, 19] none)
    (.seq (.region none [] [
      ⟨some 20, .mov (.cst (.int .i64 0)), none⟩,
      ⟨some 21, .mov (.cst (.int .i64 0)), none⟩] [0, 1, 2, 3, 4, 18, 19] none)
    (.seq (.seq (.region none [] [
      ⟨some 138, .mov (.tmp 2), none⟩,
      ⟨some 139, .mov (.tmp 18), none⟩,
      ⟨some 140, .bin .gtr .int (.tmp 138) (.tmp 139), none⟩] [0, 1, 2, 3, 4, 18, 19, 140] none)
    (.cond (.tmp 140) (.seq (.region none [] [
        ⟨some 141, .mov (.tmp 19), none⟩,
        ⟨some 142, .mov (.tmp 3), none⟩,
        ⟨some 143, .bin .sub .int (.tmp 141) (.tmp 142), none⟩,
        ⟨some 20, .mov (.tmp 143), none⟩] [0, 1, 2, 3, 4, 18, 19, 20] none)
      (.region none [] [
        ⟨some 144, .mov (.tmp 18), none⟩,
        ⟨some 21, .mov (.tmp 144), none⟩] [0, 1, 2, 3, 4, 18, 19, 20, 21] none))
    (.seq (.region none [] [
        ⟨some 145, .mov (.tmp 1), none⟩,
        ⟨some 20, .mov (.tmp 145), none⟩] [0, 1, 2, 3, 4, 18, 19, 20] none)
      (.region none [] [
        ⟨some 146, .mov (.tmp 2), none⟩,
        ⟨some 21, .mov (.tmp 146), none⟩] [0, 1, 2, 3, 4, 18, 19, 20, 21] none))))
    (.seq (.region none [] [
      ⟨some 147, .mov (.tmp 19), none⟩,
      ⟨some 148, .bin .sub .int (.tmp 147) (.cst (.int .i64 1)), none⟩,
      ⟨some 22, .mov (.tmp 148), none⟩] [0, 1, 2, 3, 4, 18, 19, 20, 21, 22] none)
    (.seq (.block 8 (.loop l89_4_h l89_4_b))
    (.seq (.region none [] [
      ⟨some 175, .mov (.tmp 19), none⟩,
      ⟨some 176, .mov (.tmp 20), none⟩,
      ⟨some 177, .bin .sub .int (.tmp 175) (.tmp 176), none⟩,
      ⟨some 24, .mov (.tmp 177), none⟩] [0, 1, 2, 3, 4, 18, 20, 24] none)
    (.seq (.seq (.region none [] [
      ⟨some 178, .mov (.tmp 20), none⟩,
      ⟨some 179, .mov (.tmp 2), none⟩,
      ⟨some 180, .bin .lss .int (.tmp 178) (.tmp 179), none⟩,
      ⟨some 181, .mov (.tmp 180), none⟩,
      ⟨some 182, .mov (.tmp 2), some (181, true)⟩,
      ⟨some 183, .mov (.tmp 24), some (181, true)⟩,
      ⟨some 184, .bin .lss .int (.tmp 182) (.tmp 183), some (181, true)⟩,
      ⟨some 185, .pick (.tmp 181) (.tmp 184) (.cst (.bool false)), none⟩] [0, 1, 2, 3, 4, 18, 20, 24, 185] none)
    (.cond (.tmp 185) (.region none [] [
        ⟨some 186, .mov (.tmp 0), none⟩,
        ⟨some 187, .mov (.tmp 20), none⟩,
        ⟨some 188, .mov (.tmp 2), none⟩,
        ⟨some 189, .mov (.tmp 24), none⟩,
        ⟨some 190, .mov (.tmp 4), none⟩,
        ⟨some 191, .call .share 117 [(.tmp 186), (.tmp 187), (.tmp 188), (.tmp 189), (.tmp 190)], none⟩] [0, 1, 3, 4, 18, 20, 24] none)
    (.skip)))
    (.seq (.seq (.region none [] [
      ⟨some 192, .mov (.tmp 1), none⟩,
      ⟨some 193, .mov (.tmp 20), none⟩,
      ⟨some 194, .bin .lss .int (.tmp 192) (.tmp 193), none⟩,
      ⟨some 195, .mov (.tmp 194), none⟩,
      ⟨some 196, .mov (.tmp 20), some (195, true)⟩,
      ⟨some 197, .mov (.tmp 18), some (195, true)⟩,
      ⟨some 198, .bin .lss .int (.tmp 196) (.tmp 197), some (195, true)⟩,
      ⟨some 199, .pick (.tmp 195) (.tmp 198) (.cst (.bool false)), none⟩] [0, 1, 3, 4, 18, 20, 24, 199] none)
    (.cond (.tmp 199) (.region none [] [
        ⟨some 200, .mov (.tmp 0), none⟩,
        ⟨some 201, .mov (.tmp 1), none⟩,
        ⟨some 202, .mov (.tmp 20), none⟩,
        ⟨some 203, .mov (.tmp 18), none⟩,
        ⟨some 204, .mov (.tmp 4), none⟩,
        ⟨some 205, .call .share 89 [(.tmp 200), (.tmp 201), (.tmp 202), (.tmp 203), (.tmp 204)], none⟩] [0, 3, 4, 18, 24] none)
    (.skip)))
    (.seq (.region none [] [
      ⟨some 206, .mov (.tmp 18), none⟩,
      ⟨some 207, .mov (.tmp 24), none⟩,
      ⟨some 208, .bin .lss .int (.tmp 206) (.tmp 207), none⟩,
      ⟨some 209, .mov (.tmp 208), none⟩,
      ⟨some 210, .mov (.tmp 24), some (209, true)⟩,
      ⟨some 211, .mov (.tmp 3), some (209, true)⟩,
      ⟨some 212, .bin .lss .int (.tmp 210) (.tmp 211), some (209, true)⟩,
      ⟨some 213, .pick (.tmp 209) (.tmp 212) (.cst (.bool false)), none⟩] [0, 3, 4, 18, 24, 213] none)
    (.cond (.tmp 213) (.region none [] [
        ⟨some 214, .mov (.tmp 0), none⟩,
        ⟨some 215, .mov (.tmp 18), none⟩,
        ⟨some 216, .mov (.tmp 24), none⟩,
        ⟨some 217, .mov (.tmp 3), none⟩,
        ⟨some 218, .mov (.tmp 4), none⟩,
        ⟨some 219, .call .share 89 [(.tmp 214), (.tmp 215), (.tmp 216), (.tmp 217), (.tmp 218)], none⟩] [] none)
    (.skip)))))))))))))

def a89 : AFunc := ⟨5, c89, []⟩

def an89 : List RAnn := [
  { id := 0, live := [0, 1, 2, 3, 4, 28] },
  { id := 1, live := [0, 1, 3, 4, 10] },
  { id := 2, live := [0, 1, 4, 10, 11] },
  { id := 3, live := [0, 1, 4, 10, 11, 33], hdr := [0, 1, 4, 10, 11] },
  { id := 4, live := [0, 1, 4, 10, 11, 12] },
  { id := 5, head := some 11, live := [0, 1, 4, 10, 11, 12, 50] },
  { id := 6, live := [0, 1, 4, 10, 11] },
  { id := 7, live := [0, 1, 4, 10, 11] },
  { id := 8, live := [0, 10, 13] },
  { id := 9, live := [0, 10, 13, 58], hdr := [0, 10, 13] },
  { id := 11, head := some 18, live := [0, 10, 13], par := true },
  { id := 10, live := [0, 10, 13] },
  { id := 12, live := [0, 1, 2, 3, 4, 80] },
  { id := 13, live := [0, 2, 4, 14] },
  { id := 14, live := [0, 2, 4, 14, 15] },
  { id := 15, live := [0, 2, 4, 14, 15, 85], hdr := [0, 2, 4, 14, 15] },
  { id := 16, live := [0, 2, 4, 14, 15, 16] },
  { id := 17, head := some 12, live := [0, 2, 4, 14, 15, 16, 103] },
  { id := 18, live := [0, 2, 4, 14, 15] },
  { id := 19, live := [0, 2, 4, 14, 15] },
  { id := 20, live := [0, 14, 17] },
  { id := 21, live := [0, 14, 17, 110], hdr := [0, 14, 17] },
  { id := 23, head := some 18, live := [0, 14, 17], par := true },
  { id := 22, live := [0, 14, 17] },
  { id := 24, live := [0, 1, 2, 3, 4, 18] },
  { id := 25, live := [0, 1, 2, 3, 4, 18, 19] },
  { id := 26, live := [0, 1, 2, 3, 4, 18, 19] },
  { id := 27, live := [0, 1, 2, 3, 4, 18, 19, 140] },
  { id := 28, live := [0, 1, 2, 3, 4, 18, 19, 20] },
  { id := 29, live := [0, 1, 2, 3, 4, 18, 19, 20, 21] },
  { id := 30, live := [0, 1, 2, 3, 4, 18, 19, 20] },
  { id := 31, live := [0, 1, 2, 3, 4, 18, 19, 20, 21] },
  { id := 32, live := [0, 1, 2, 3, 4, 18, 19, 20, 21, 22] },
  { id := 33, live := [0, 1, 2, 3, 4, 18, 19, 20, 21, 22, 151], hdr := [0, 1, 2, 3, 4, 18, 19, 20, 21, 22] },
  { id := 34, live := [0, 1, 2, 3, 4, 18, 19, 20, 21, 22, 23] },
  { id := 35, head := some 14, live := [0, 1, 2, 3, 4, 18, 19, 20, 21, 22, 23, 171] },
  { id := 36, live := [0, 1, 2, 3, 4, 18, 19, 20, 21, 22] },
  { id := 37, live := [0, 1, 2, 3, 4, 18, 19, 20, 21, 22] },
  { id := 38, live := [0, 1, 2, 3, 4, 18, 20, 24] },
  { id := 39, live := [0, 1, 2, 3, 4, 18, 20, 24, 185] },
  { id := 40, live := [0, 1, 3, 4, 18, 20, 24], ops := [(5, .mode .share)] },
  { id := 41, live := [0, 1, 3, 4, 18, 20, 24, 199] },
  { id := 42, live := [0, 3, 4, 18, 24], ops := [(5, .mode .share)] },
  { id := 43, live := [0, 3, 4, 18, 24, 213] },
  { id := 44, ops := [(5, .mode .share)] }]

theorem comp89 : compF Try.prog an89 Try.f89 = some a89 := by kernel_rfl

/- slices.IndexFunc[[]string,string] -/
/-- loop 0 of function 90 -/
def l90_0_h : List Nat := [0, 1, 7, 8]

def l90_0_b : ACode :=
  .seq (.region none [] [
      ⟨some 9, .bin .lss .int (.tmp 8) (.tmp 7), none⟩] [0, 1, 7, 8, 9] none)
    (.seq (.cond (.tmp 9) (.skip)
    (.exit 0))
    (.seq (.block 1 (.seq (.region none [] [
        ⟨some 10, .mov (.tmp 8), none⟩,
        ⟨some 5, .mov (.tmp 10), none⟩] [0, 1, 5, 7, 8] none)
      (.seq (.region none [] [
        ⟨some 11, .mov (.tmp 1), none⟩,
        ⟨some 12, .mov (.tmp 0), none⟩,
        ⟨some 13, .mov (.tmp 5), none⟩,
        ⟨some 14, .iaddr 1 (.tmp 12) (.tmp 13), none⟩,
        ⟨some 15, .load none (.tmp 14), none⟩,
        ⟨some 16, .callv .pure (.tmp 11) [(.tmp 15)], none⟩] [0, 1, 5, 7, 8, 16] none)
      (.cond (.tmp 16) (.seq (.region none [] [
          ⟨some 17, .mov (.tmp 5), none⟩,
          ⟨some 4, .mov (.tmp 17), none⟩] [4] none)
        (.ret))
      (.skip)))))
    (.region none [] [
      ⟨some 18, .bin .add .int (.tmp 8) (.cst (.int .i64 1)), none⟩,
      ⟨some 8, .mov (.tmp 18), none⟩] [0, 1, 7, 8] none)))

def c90 : ACode :=
  .seq (.region none [] [
      ⟨some 4, .mov (.cst (.int .i64 0)), none⟩] [0, 1] none)
    (.seq (.seq (.region none [] [
      ⟨some 6, .mov (.tmp 0), none⟩,
      ⟨some 7, .len .slice (.tmp 6), none⟩,
      ⟨some 8, .mov (.cst (.int .i64 0)), none⟩] [0, 1, 7, 8] none)
    (.block 0 (.loop l90_0_h l90_0_b)))
    (.seq (.region none [] [
      ⟨some 4, .mov (.cst (.int .i64 (-1))), none⟩] [4] none)
    (.ret)))

def a90 : AFunc := ⟨2, c90, [.tmp 4]⟩

def an90 : List RAnn := [
  { id := 0, live := [0, 1] },
  { id := 1, live := [0, 1, 7, 8] },
  { id := 2, live := [0, 1, 7, 8, 9], hdr := [0, 1, 7, 8] },
  { id := 3, live := [0, 1, 5, 7, 8] },
  { id := 4, live := [0, 1, 5, 7, 8, 16] },
  { id := 5, live := [4] },
  { id := 6, live := [0, 1, 7, 8] },
  { id := 7, live := [4] }]

theorem comp90 : compF Try.prog an90 Try.f90 = some a90 := by kernel_rfl

/- graphdb/value.Valid -/
def c91 : ACode :=
  .seq (.region none [] [
      ⟨some 1, .box 5 (.tmp 0), none⟩,
      ⟨some 2, .mov (.cst (.bool false)), none⟩] [1] none)
    (.seq (.region none [] [
      ⟨some 3, .load (some 5) (.tmp 1), none⟩,
      ⟨some 4, .call .pure 118 [(.tmp 3), (.cst (.int .i64 0))], none⟩,
      ⟨some 2, .mov (.tmp 4), none⟩] [2] none)
    (.ret))

def a91 : AFunc := ⟨1, c91, [.tmp 2]⟩

def an91 : List RAnn := [
  { id := 0, live := [1] },
  { id := 1, live := [2] }]

theorem comp91 : compF Try.prog an91 Try.f91 = some a91 := by kernel_rfl

/- graphdb/graphdbref04.bare -/
def c92 : ACode :=
  .seq (.region none [] [
      ⟨some 5, .box 5 (.tmp 0), none⟩,
      ⟨some 10, .mov (.cst (.bool false)), none⟩] [1, 2, 3, 4, 5] none)
    (.seq (.region none [] [
      ⟨some 11, .mov (.tmp 1), none⟩,
      ⟨some 12, .mov (.tmp 11), none⟩,
      ⟨some 13, .faddr 1 (.tmp 5), some (12, false)⟩,
      ⟨some 14, .load none (.tmp 13), some (12, false)⟩,
      ⟨some 15, .bin .eql .int (.tmp 14) (.cst (.int .i64 0)), some (12, false)⟩,
      ⟨some 16, .pick (.tmp 12) (.cst (.bool true)) (.tmp 15), none⟩,
      ⟨some 17, .mov (.tmp 16), none⟩,
      ⟨some 18, .mov (.tmp 2), some (17, true)⟩,
      ⟨some 19, .mov (.tmp 18), some (17, true)⟩,
      ⟨some 20, .faddr 2 (.tmp 5), some (19, false)⟩,
      ⟨some 21, .load none (.tmp 20), some (19, false)⟩,
      ⟨some 22, .bin .eql .int (.tmp 21) (.cst (.int .i64 0)), some (19, false)⟩,
      ⟨some 23, .pick (.tmp 19) (.cst (.bool true)) (.tmp 22), some (17, true)⟩,
      ⟨some 24, .pick (.tmp 17) (.tmp 23) (.cst (.bool false)), none⟩,
      ⟨some 25, .mov (.tmp 24), none⟩,
      ⟨some 26, .mov (.tmp 3), some (25, true)⟩,
      ⟨some 27, .mov (.tmp 26), some (25, true)⟩,
      ⟨some 28, .faddr 3 (.tmp 5), some (27, false)⟩,
      ⟨some 29, .load none (.tmp 28), some (27, false)⟩,
      ⟨some 30, .bin .eql .str (.tmp 29) (.cst (.str [])), some (27, false)⟩,
      ⟨some 31, .pick (.tmp 27) (.cst (.bool true)) (.tmp 30), some (25, true)⟩,
      ⟨some 32, .pick (.tmp 25) (.tmp 31) (.cst (.bool false)), none⟩,
      ⟨some 33, .mov (.tmp 32), none⟩,
      ⟨some 34, .mov (.tmp 4), some (33, true)⟩,
      ⟨some 35, .mov (.tmp 34), some (33, true)⟩,
      ⟨some 36, .faddr 4 (.tmp 5), some (35, false)⟩,
      ⟨some 37, .load none (.tmp 36), some (35, false)⟩,
      ⟨some 38, .len .slice (.tmp 37), some (35, false)⟩,
      ⟨some 39, .bin .eql .int (.tmp 38) (.cst (.int .i64 0)), some (35, false)⟩,
      ⟨some 40, .pick (.tmp 35) (.cst (.bool true)) (.tmp 39), some (33, true)⟩,
      ⟨some 41, .pick (.tmp 33) (.tmp 40) (.cst (.bool false)), none⟩,
      ⟨some 10, .mov (.tmp 41), none⟩] [10] none)
    (.ret))

def a92 : AFunc := ⟨5, c92, [.tmp 10]⟩

def an92 : List RAnn := [
  { id := 0, live := [1, 2, 3, 4, 5] },
  { id := 1, live := [10] }]

theorem comp92 : compF Try.prog an92 Try.f92 = some a92 := by kernel_rfl

/- graphdb/graphdbref01.In -/
def c93 : ACode :=
  .seq (.region none [] [
      ⟨some 2, .mov (.cst (.bool false)), none⟩] [0] none)
    (.seq (.region none [] [
      ⟨some 3, .mov (.tmp 0), none⟩,
      ⟨some 4, .bin .geq .int (.tmp 3) (.cst (.int .i64 (-1000000000000000))), none⟩,
      ⟨some 5, .mov (.tmp 4), none⟩,
      ⟨some 6, .mov (.tmp 0), some (5, true)⟩,
      ⟨some 7, .bin .leq .int (.tmp 6) (.cst (.int .i64 1000000000000000)), some (5, true)⟩,
      ⟨some 8, .pick (.tmp 5) (.tmp 7) (.cst (.bool false)), none⟩,
      ⟨some 2, .mov (.tmp 8), none⟩] [2] none)
    (.ret))

def a93 : AFunc := ⟨1, c93, [.tmp 2]⟩

def an93 : List RAnn := [
  { id := 0, live := [0] },
  { id := 1, live := [2] }]

theorem comp93 : compF Try.prog an93 Try.f93 = some a93 := by kernel_rfl

/- graphdb/graphdbref04.str -/
/-- loop 0 of function 94 -/
def l94_0_h : List Nat := [0, 3]

def l94_0_b : ACode :=
  .seq (.seq (.region none [] [
      ⟨some 4, .mov (.tmp 3), none⟩,
      ⟨some 5, .mov (.tmp 0), none⟩,
      ⟨some 6, .len .str (.tmp 5), none⟩,
      ⟨some 7, .bin .lss .int (.tmp 4) (.tmp 6), none⟩] [0, 3, 7] none)
    (.cond (.tmp 7) (.skip)
    (.exit 0)))
    (.seq (.block 1 (.seq (.region none [] [
        ⟨some 10, .mov (.tmp 0), none⟩,
        ⟨some 11, .mov (.tmp 3), none⟩,
        ⟨some 12, .sidx (.tmp 10) (.tmp 11), none⟩,
        ⟨some 13, .bin .lss .int (.tmp 12) (.cst (.int .u8 32)), none⟩,
        ⟨some 14, .mov (.tmp 13), none⟩,
        ⟨some 15, .mov (.tmp 0), some (14, false)⟩,
        ⟨some 16, .mov (.tmp 3), some (14, false)⟩,
        ⟨some 17, .sidx (.tmp 15) (.tmp 16), some (14, false)⟩,
        ⟨some 18, .bin .gtr .int (.tmp 17) (.cst (.int .u8 126)), some (14, false)⟩,
        ⟨some 19, .pick (.tmp 14) (.cst (.bool true)) (.tmp 18), none⟩] [0, 3, 19] none)
      (.cond (.tmp 19) (.seq (.region none [] [
          ⟨some 2, .mov (.cst (.bool false)), none⟩] [2] none)
        (.ret))
      (.skip))))
    (.region none [] [
      ⟨some 8, .mov (.tmp 3), none⟩,
      ⟨some 9, .bin .add .int (.tmp 8) (.cst (.int .i64 1)), none⟩,
      ⟨some 3, .mov (.tmp 9), none⟩] [0, 3] none))

def c94 : ACode :=
  .seq (.region none [] [
      ⟨some 2, .mov (.cst (.bool false)), none⟩] [0] none)
    (.seq (.seq (.region none [] [
      ⟨some 3, .mov (.cst (.int .i64 0)), none⟩] [0, 3] none)
    (.block 0 (.loop l94_0_h l94_0_b)))
    (.seq (.region none [] [
      ⟨some 20, .mov (.tmp 0), none⟩,
      ⟨some 21, .len .str (.tmp 20), none⟩,
      ⟨some 22, .bin .leq .int (.tmp 21) (.cst (.int .i64 100)), none⟩,
      ⟨some 2, .mov (.tmp 22), none⟩] [2] none)
    (.ret)))

def a94 : AFunc := ⟨1, c94, [.tmp 2]⟩

def an94 : List RAnn := [
  { id := 0, live := [0] },
  { id := 1, live := [0, 3] },
  { id := 2, live := [0, 3, 7], hdr := [0, 3] },
  { id := 4, live := [0, 3, 19] },
  { id := 5, live := [2] },
  { id := 3, live := [0, 3] },
  { id := 6, live := [2] }]

theorem comp94 : compF Try.prog an94 Try.f94 = some a94 := by kernel_rfl

/- graphdb/graphdbref04.path -/
/-- loop 0 of function 95 -/
def l95_0_h : List Nat := [0, 3]

def l95_0_b : ACode :=
  .seq (.seq (.region none [] [
      ⟨some 14, .mov (.tmp 3), none⟩,
      ⟨some 15, .mov (.tmp 0), none⟩,
      ⟨some 16, .len .slice (.tmp 15), none⟩,
      ⟨some 17, .bin .lss .int (.tmp 14) (.tmp 16), none⟩] [0, 3, 17] none)
    (.cond (.tmp 17) (.skip)
    (.exit 0)))
    (.seq (.block 1 (.seq (.region none [] [
        ⟨some 4, .mov (.cst (.int .i64 5)), none⟩] [0, 3, 4] none)
      (.seq (.seq (.region none [] [
        ⟨some 20, .mov (.tmp 3), none⟩,
        ⟨some 21, .bin .rem .int (.tmp 20) (.cst (.int .i64 2)), none⟩,
        ⟨some 22, .bin .eql .int (.tmp 21) (.cst (.int .i64 1)), none⟩] [0, 3, 4, 22] none)
      (.cond (.tmp 22) (.region none [] [
          ⟨some 4, .mov (.cst (.int .i64 6)), none⟩] [0, 3, 4] none)
      (.skip)))
      (.seq (.region none [] [
        ⟨some 23, .mov (.tmp 0), none⟩,
        ⟨some 24, .mov (.tmp 3), none⟩,
        ⟨some 25, .iaddr 5 (.tmp 23) (.tmp 24), none⟩,
        ⟨some 26, .faddr 0 (.tmp 25), none⟩,
        ⟨some 27, .load none (.tmp 26), none⟩,
        ⟨some 28, .mov (.tmp 4), none⟩,
        ⟨some 29, .bin .neq .int (.tmp 27) (.tmp 28), none⟩,
        ⟨some 30, .mov (.tmp 29), none⟩,
        ⟨some 31, .mov (.tmp 0), some (30, false)⟩,
        ⟨some 32, .mov (.tmp 3), some (30, false)⟩,
        ⟨some 33, .iaddr 5 (.tmp 31) (.tmp 32), some (30, false)⟩,
        ⟨some 34, .load (some 5) (.tmp 33), some (30, false)⟩,
        ⟨some 35, .call .pure 75 [(.tmp 34), (.cst (.int .i64 0))], some (30, false)⟩,
        ⟨some 36, .un .not (.tmp 35), some (30, false)⟩,
        ⟨some 37, .pick (.tmp 30) (.cst (.bool true)) (.tmp 36), none⟩] [0, 3, 37] none)
      (.cond (.tmp 37) (.seq (.region none [] [
          ⟨some 2, .mov (.cst (.bool false)), none⟩] [2] none)
        (.ret))
      (.skip))))))
    (.region none [] [
      ⟨some 18, .mov (.tmp 3), none⟩,
      ⟨some 19, .bin .add .int (.tmp 18) (.cst (.int .i64 1)), none⟩,
      ⟨some 3, .mov (.tmp 19), none⟩] [0, 3] none))

def c95 : ACode :=
  .seq (.region none [] [
      ⟨some 2, .mov (.cst (.bool false)), none⟩] [0] none)
    (.seq (.seq (.region none [] [
      ⟨some 5, .mov (.tmp 0), none⟩,
      ⟨some 6, .len .slice (.tmp 5), none⟩,
      ⟨some 7, .bin .rem .int (.tmp 6) (.cst (.int .i64 2)), none⟩,
      ⟨some 8, .bin .eql .int (.tmp 7) (.cst (.int .i64 0)), none⟩,
      ⟨some 9, .mov (.tmp 8), none⟩,
      ⟨some 10, .mov (.tmp 0), some (9, false)⟩,
      ⟨some 11, .len .slice (.tmp 10), some (9, false)⟩,
      ⟨some 12, .bin .gtr .int (.tmp 11) (.cst (.int .i64 25)), some (9, false)⟩,
      ⟨some 13, .pick (.tmp 9) (.cst (.bool true)) (.tmp 12), none⟩] [0, 13] none)
    (.cond (.tmp 13) (.seq (.region none [] [
        ⟨some 2, .mov (.cst (.bool false)), none⟩] [2] none)
      (.ret))
    (.skip)))
    (.seq (.seq (.region none [] [
      ⟨some 3, .mov (.cst (.int .i64 0)), none⟩] [0, 3] none)
    (.block 0 (.loop l95_0_h l95_0_b)))
    (.seq (.region none [] [
      ⟨some 2, .mov (.cst (.bool true)), none⟩] [2] none)
    (.ret))))

def a95 : AFunc := ⟨1, c95, [.tmp 2]⟩

def an95 : List RAnn := [
  { id := 0, live := [0] },
  { id := 1, live := [0, 13] },
  { id := 2, live := [2] },
  { id := 3, live := [0, 3] },
  { id := 4, live := [0, 3, 17], hdr := [0, 3] },
  { id := 6, live := [0, 3, 4] },
  { id := 7, live := [0, 3, 4, 22] },
  { id := 8, live := [0, 3, 4] },
  { id := 9, live := [0, 3, 37] },
  { id := 10, live := [2] },
  { id := 5, live := [0, 3] },
  { id := 11, live := [2] }]

theorem comp95 : compF Try.prog an95 Try.f95 = some a95 := by kernel_rfl

/- graphdb/graphdbref04.list -/
/-- loop 0 of function 96 -/
def l96_0_h : List Nat := [0, 1, 5]

def l96_0_b : ACode :=
  .seq (.seq (.region none [] [
      ⟨some 13, .mov (.tmp 5), none⟩,
      ⟨some 14, .mov (.tmp 0), none⟩,
      ⟨some 15, .len .slice (.tmp 14), none⟩,
      ⟨some 16, .bin .lss .int (.tmp 13) (.tmp 15), none⟩] [0, 1, 5, 16] none)
    (.cond (.tmp 16) (.skip)
    (.exit 0)))
    (.seq (.block 1 (.seq (.region none [] [
        ⟨some 19, .mov (.tmp 0), none⟩,
        ⟨some 20, .mov (.tmp 5), none⟩,
        ⟨some 21, .iaddr 5 (.tmp 19) (.tmp 20), none⟩,
        ⟨some 22, .load (some 5) (.tmp 21), none⟩,
        ⟨some 23, .mov (.tmp 1), none⟩,
        ⟨some 24, .bin .sub .int (.tmp 23) (.cst (.int .i64 1)), none⟩,
        ⟨some 25, .call .pure 75 [(.tmp 22), (.tmp 24)], none⟩,
        ⟨some 26, .un .not (.tmp 25), none⟩] [0, 1, 5, 26] none)
      (.cond (.tmp 26) (.seq (.region none [] [
          ⟨some 4, .mov (.cst (.bool false)), none⟩] [4] none)
        (.ret))
      (.skip))))
    (.region none [] [
      ⟨some 17, .mov (.tmp 5), none⟩,
      ⟨some 18, .bin .add .int (.tmp 17) (.cst (.int .i64 1)), none⟩,
      ⟨some 5, .mov (.tmp 18), none⟩] [0, 1, 5] none))

def c96 : ACode :=
  .seq (.region none [] [
      ⟨some 4, .mov (.cst (.bool false)), none⟩] [0, 1] none)
    (.seq (.seq (.region none [] [
      ⟨some 6, .mov (.tmp 1), none⟩,
      ⟨some 7, .bin .lss .int (.tmp 6) (.cst (.int .i64 1)), none⟩,
      ⟨some 8, .mov (.tmp 7), none⟩,
      ⟨some 9, .mov (.tmp 0), some (8, false)⟩,
      ⟨some 10, .len .slice (.tmp 9), some (8, false)⟩,
      ⟨some 11, .bin .gtr .int (.tmp 10) (.cst (.int .i64 64)), some (8, false)⟩,
      ⟨some 12, .pick (.tmp 8) (.cst (.bool true)) (.tmp 11), none⟩] [0, 1, 12] none)
    (.cond (.tmp 12) (.seq (.region none [] [
        ⟨some 4, .mov (.cst (.bool false)), none⟩] [4] none)
      (.ret))
    (.skip)))
    (.seq (.seq (.region none [] [
      ⟨some 5, .mov (.cst (.int .i64 0)), none⟩] [0, 1, 5] none)
    (.block 0 (.loop l96_0_h l96_0_b)))
    (.seq (.region none [] [
      ⟨some 4, .mov (.cst (.bool true)), none⟩] [4] none)
    (.ret))))

def a96 : AFunc := ⟨2, c96, [.tmp 4]⟩

def an96 : List RAnn := [
  { id := 0, live := [0, 1] },
  { id := 1, live := [0, 1, 12] },
  { id := 2, live := [4] },
  { id := 3, live := [0, 1, 5] },
  { id := 4, live := [0, 1, 5, 16], hdr := [0, 1, 5] },
  { id := 6, live := [0, 1, 5, 26] },
  { id := 7, live := [4] },
  { id := 5, live := [0, 1, 5] },
  { id := 8, live := [4] }]

theorem comp96 : compF Try.prog an96 Try.f96 = some a96 := by kernel_rfl

/- graphdb/graphdbref03.gcd -/
/-- loop 0 of function 97 -/
def l97_0_h : List Nat := [0, 1]

def l97_0_b : ACode :=
  .seq (.seq (.region none [] [
      ⟨some 5, .mov (.tmp 1), none⟩,
      ⟨some 6, .bin .gtr .int (.tmp 5) (.cst (.int .i64 0)), none⟩] [0, 1, 6] none)
    (.cond (.tmp 6) (.skip)
    (.exit 0)))
    (.block 1 (.region (some 6) [] [
        ⟨some 7, .mov (.tmp 1), none⟩,
        ⟨some 8, .mov (.tmp 0), none⟩,
        ⟨some 9, .mov (.tmp 1), none⟩,
        ⟨some 10, .bin .rem .int (.tmp 8) (.tmp 9), none⟩,
        ⟨some 0, .mov (.tmp 7), none⟩,
        ⟨some 1, .mov (.tmp 10), none⟩] [0, 1] none))

def c97 : ACode :=
  .seq (.region none [] [
      ⟨some 4, .mov (.cst (.int .i64 0)), none⟩] [0, 1] none)
    (.seq (.block 0 (.loop l97_0_h l97_0_b))
    (.seq (.region none [] [
      ⟨some 11, .mov (.tmp 0), none⟩,
      ⟨some 4, .mov (.tmp 11), none⟩] [4] none)
    (.ret)))

def a97 : AFunc := ⟨2, c97, [.tmp 4]⟩

def an97 : List RAnn := [
  { id := 0, live := [0, 1] },
  { id := 1, live := [0, 1, 6], hdr := [0, 1] },
  { id := 2, head := some 6, live := [0, 1] },
  { id := 3, live := [4] }]

theorem comp97 : compF Try.prog an97 Try.f97 = some a97 := by kernel_rfl

/- graphdb/graphdbref03.plus -/
/-- loop 0 of function 98 -/
def l98_0_h : List Nat := [0, 1, 5, 6, 7]

def l98_0_b : ACode :=
  .seq (.seq (.region none [] [
      ⟨some 11, .mov (.tmp 7), none⟩,
      ⟨some 12, .mov (.tmp 0), none⟩,
      ⟨some 13, .len .slice (.tmp 12), none⟩,
      ⟨some 14, .bin .lss .int (.tmp 11) (.tmp 13), none⟩] [0, 1, 5, 6, 7, 14] none)
    (.cond (.tmp 14) (.skip)
    (.exit 0)))
    (.seq (.block 1 (.seq (.region (some 12) [] [
        ⟨some 17, .mov (.tmp 6), none⟩,
        ⟨some 18, .mov (.tmp 0), none⟩,
        ⟨some 19, .mov (.tmp 7), none⟩,
        ⟨some 20, .iaddr 1 (.tmp 18) (.tmp 19), none⟩,
        ⟨some 21, .load none (.tmp 20), none⟩,
        ⟨some 22, .bin .add .int (.tmp 17) (.tmp 21), none⟩,
        ⟨some 23, .mov (.tmp 1), none⟩,
        ⟨some 24, .mov (.tmp 7), none⟩,
        ⟨some 25, .iaddr 1 (.tmp 23) (.tmp 24), none⟩,
        ⟨some 26, .load none (.tmp 25), none⟩,
        ⟨some 27, .bin .add .int (.tmp 22) (.tmp 26), none⟩,
        ⟨some 6, .mov (.tmp 27), none⟩] [0, 1, 5, 6, 7] none)
      (.seq (.region none [] [
        ⟨some 28, .mov (.tmp 5), none⟩,
        ⟨some 29, .mov (.tmp 7), none⟩,
        ⟨some 30, .mov (.tmp 6), none⟩,
        ⟨some 31, .bin .rem .int (.tmp 30) (.cst (.int .i64 1000)), none⟩,
        ⟨some 32, .iaddr 1 (.tmp 28) (.tmp 29), none⟩,
        ⟨none, .store 1 (.tmp 32) (.tmp 31), none⟩] [0, 1, 5, 6, 7] none)
      (.region none [] [
        ⟨some 33, .mov (.tmp 6), none⟩,
        ⟨some 34, .bin .quo .int (.tmp 33) (.cst (.int .i64 1000)), none⟩,
        ⟨some 6, .mov (.tmp 34), none⟩] [0, 1, 5, 6, 7] none))))
    (.region none [] [
      ⟨some 15, .mov (.tmp 7), none⟩,
      ⟨some 16, .bin .add .int (.tmp 15) (.cst (.int .i64 1)), none⟩,
      ⟨some 7, .mov (.tmp 16), none⟩] [0, 1, 5, 6, 7] none))

def c98 : ACode :=
  .seq (.region none [] [
      ⟨some 4, .mov (.cst (.sl false [])), none⟩] [0, 1] none)
    (.seq (.region none [] [
      ⟨some 8, .mov (.tmp 0), none⟩,
      ⟨some 9, .len .slice (.tmp 8), none⟩,
      ⟨some 10, .mkslice 1 8 (.int .i64 0) (.tmp 9) (.tmp 9), none⟩,
      ⟨some 5, .mov (.tmp 10), none⟩] [0, 1, 5] none)
    (.seq (.region none [] [
      ⟨some 6, .mov (.cst (.int .i64 0)), none⟩] [0, 1, 5, 6] none)
    (.seq (.seq (.region none [] [
      ⟨some 7, .mov (.cst (.int .i64 0)), none⟩] [0, 1, 5, 6, 7] none)
    (.block 0 (.loop l98_0_h l98_0_b)))
    (.seq (.region none [] [
      ⟨some 35, .mov (.tmp 5), none⟩,
      ⟨some 4, .mov (.tmp 35), none⟩] [4] none)
    (.ret)))))

def a98 : AFunc := ⟨2, c98, [.tmp 4]⟩

def an98 : List RAnn := [
  { id := 0, live := [0, 1] },
  { id := 1, live := [0, 1, 5] },
  { id := 2, live := [0, 1, 5, 6] },
  { id := 3, live := [0, 1, 5, 6, 7] },
  { id := 4, live := [0, 1, 5, 6, 7, 14], hdr := [0, 1, 5, 6, 7] },
  { id := 6, head := some 12, live := [0, 1, 5, 6, 7] },
  { id := 7, live := [0, 1, 5, 6, 7] },
  { id := 8, live := [0, 1, 5, 6, 7] },
  { id := 5, live := [0, 1, 5, 6, 7] },
  { id := 9, live := [4] }]

theorem comp98 : compF Try.prog an98 Try.f98 = some a98 := by kernel_rfl

/- graphdb/graphdbref03.order -/
/-- loop 0 of function 99 -/
def l99_0_h : List Nat := [0, 1, 5]

def l99_0_b : ACode :=
  .seq (.seq (.region none [] [
      ⟨some 9, .mov (.tmp 5), none⟩,
      ⟨some 10, .bin .geq .int (.tmp 9) (.cst (.int .i64 0)), none⟩] [0, 1, 5, 10] none)
    (.cond (.tmp 10) (.skip)
    (.exit 0)))
    (.seq (.block 1 (.seq (.seq (.region (some 9) [] [
        ⟨some 13, .mov (.tmp 0), none⟩,
        ⟨some 14, .mov (.tmp 5), none⟩,
        ⟨some 15, .iaddr 1 (.tmp 13) (.tmp 14), none⟩,
        ⟨some 16, .load none (.tmp 15), none⟩,
        ⟨some 17, .mov (.tmp 1), none⟩,
        ⟨some 18, .mov (.tmp 5), none⟩,
        ⟨some 19, .iaddr 1 (.tmp 17) (.tmp 18), none⟩,
        ⟨some 20, .load none (.tmp 19), none⟩,
        ⟨some 21, .bin .lss .int (.tmp 16) (.tmp 20), none⟩] [0, 1, 5, 21] none)
      (.cond (.tmp 21) (.seq (.region none [] [
          ⟨some 4, .mov (.cst (.int .i64 (-1))), none⟩] [4] none)
        (.ret))
      (.skip)))
      (.seq (.region (some 9) [] [
        ⟨some 22, .mov (.tmp 0), none⟩,
        ⟨some 23, .mov (.tmp 5), none⟩,
        ⟨some 24, .iaddr 1 (.tmp 22) (.tmp 23), none⟩,
        ⟨some 25, .load none (.tmp 24), none⟩,
        ⟨some 26, .mov (.tmp 1), none⟩,
        ⟨some 27, .mov (.tmp 5), none⟩,
        ⟨some 28, .iaddr 1 (.tmp 26) (.tmp 27), none⟩,
        ⟨some 29, .load none (.tmp 28), none⟩,
        ⟨some 30, .bin .gtr .int (.tmp 25) (.tmp 29), none⟩] [0, 1, 5, 30] none)
      (.cond (.tmp 30) (.seq (.region none [] [
          ⟨some 4, .mov (.cst (.int .i64 1)), none⟩] [4] none)
        (.ret))
      (.skip)))))
    (.region none [] [
      ⟨some 11, .mov (.tmp 5), none⟩,
      ⟨some 12, .bin .sub .int (.tmp 11) (.cst (.int .i64 1)), none⟩,
      ⟨some 5, .mov (.tmp 12), none⟩] [0, 1, 5] none))

def c99 : ACode :=
  .seq (.region none [] [
      ⟨some 4, .mov (.cst (.int .i64 0)), none⟩] [0, 1] none)
    (.seq (.seq (.region none [] [
      ⟨some 6, .mov (.tmp 0), none⟩,
      ⟨some 7, .len .slice (.tmp 6), none⟩,
      ⟨some 8, .bin .sub .int (.tmp 7) (.cst (.int .i64 1)), none⟩,
      ⟨some 5, .mov (.tmp 8), none⟩] [0, 1, 5] none)
    (.block 0 (.loop l99_0_h l99_0_b)))
    (.seq (.region none [] [
      ⟨some 4, .mov (.cst (.int .i64 0)), none⟩] [4] none)
    (.ret)))

def a99 : AFunc := ⟨2, c99, [.tmp 4]⟩

def an99 : List RAnn := [
  { id := 0, live := [0, 1] },
  { id := 1, live := [0, 1, 5] },
  { id := 2, live := [0, 1, 5, 10], hdr := [0, 1, 5] },
  { id := 4, head := some 9, live := [0, 1, 5, 21] },
  { id := 5, live := [4] },
  { id := 6, head := some 9, live := [0, 1, 5, 30] },
  { id := 7, live := [4] },
  { id := 3, live := [0, 1, 5] },
  { id := 8, live := [4] }]

theorem comp99 : compF Try.prog an99 Try.f99 = some a99 := by kernel_rfl

/- graphdb/graphdbref03.minus -/
/-- loop 0 of function 100 -/
def l100_0_h : List Nat := [0, 1, 5, 6, 7]

def l100_0_b : ACode :=
  .seq (.seq (.region none [] [
      ⟨some 11, .mov (.tmp 7), none⟩,
      ⟨some 12, .mov (.tmp 0), none⟩,
      ⟨some 13, .len .slice (.tmp 12), none⟩,
      ⟨some 14, .bin .lss .int (.tmp 11) (.tmp 13), none⟩] [0, 1, 5, 6, 7, 14] none)
    (.cond (.tmp 14) (.skip)
    (.exit 0)))
    (.seq (.block 1 (.seq (.region (some 12) [] [
        ⟨some 17, .mov (.tmp 6), none⟩,
        ⟨some 18, .mov (.tmp 0), none⟩,
        ⟨some 19, .mov (.tmp 7), none⟩,
        ⟨some 20, .iaddr 1 (.tmp 18) (.tmp 19), none⟩,
        ⟨some 21, .load none (.tmp 20), none⟩,
        ⟨some 22, .bin .add .int (.tmp 17) (.tmp 21), none⟩,
        ⟨some 23, .mov (.tmp 1), none⟩,
        ⟨some 24, .mov (.tmp 7), none⟩,
        ⟨some 25, .iaddr 1 (.tmp 23) (.tmp 24), none⟩,
        ⟨some 26, .load none (.tmp 25), none⟩,
        ⟨some 27, .bin .sub .int (.tmp 22) (.tmp 26), none⟩,
        ⟨some 6, .mov (.tmp 27), none⟩] [0, 1, 5, 6, 7] none)
      (.seq (.region none [] [
        ⟨some 28, .mov (.tmp 6), none⟩,
        ⟨some 29, .bin .lss .int (.tmp 28) (.cst (.int .i64 0)), none⟩] [0, 1, 5, 6, 7, 29] none)
      (.cond (.tmp 29) (.seq (.region none [] [
          ⟨some 30, .mov (.tmp 5), none⟩,
          ⟨some 31, .mov (.tmp 7), none⟩,
          ⟨some 32, .mov (.tmp 6), none⟩,
          ⟨some 33, .bin .add .int (.tmp 32) (.cst (.int .i64 1000)), none⟩,
          ⟨some 34, .iaddr 1 (.tmp 30) (.tmp 31), none⟩,
          ⟨none, .store 1 (.tmp 34) (.tmp 33), none⟩] [0, 1, 5, 7] none)
        (.region none [] [
          ⟨some 6, .mov (.cst (.int .i64 (-1))), none⟩] [0, 1, 5, 6, 7] none))
      (.seq (.region none [] [
          ⟨some 35, .mov (.tmp 5), none⟩,
          ⟨some 36, .mov (.tmp 7), none⟩,
          ⟨some 37, .mov (.tmp 6), none⟩,
          ⟨some 38, .iaddr 1 (.tmp 35) (.tmp 36), none⟩,
          ⟨none, .store 1 (.tmp 38) (.tmp 37), none⟩] [0, 1, 5, 7] none)
        (.region none [] [
          ⟨some 6, .mov (.cst (.int .i64 0)), none⟩] [0, 1, 5, 6, 7] none))))))
    (.region none [] [
      ⟨some 15, .mov (.tmp 7), none⟩,
      ⟨some 16, .bin .add .int (.tmp 15) (.cst (.int .i64 1)), none⟩,
      ⟨some 7, .mov (.tmp 16), none⟩] [0, 1, 5, 6, 7] none))

def c100 : ACode :=
  .seq (.region none [] [
      ⟨some 4, .mov (.cst (.sl false [])), none⟩] [0, 1] none)
    (.seq (.region none [] [
      ⟨some 8, .mov (.tmp 0), none⟩,
      ⟨some 9, .len .slice (.tmp 8), none⟩,
      ⟨some 10, .mkslice 1 8 (.int .i64 0) (.tmp 9) (.tmp 9), none⟩,
      ⟨some 5, .mov (.tmp 10), none⟩] [0, 1, 5] none)
    (.seq (.region none [] [
      ⟨some 6, .mov (.cst (.int .i64 0)), none⟩] [0, 1, 5, 6] none)
    (.seq (.seq (.region none [] [
      ⟨some 7, .mov (.cst (.int .i64 0)), none⟩] [0, 1, 5, 6, 7] none)
    (.block 0 (.loop l100_0_h l100_0_b)))
    (.seq (.region none [] [
      ⟨some 39, .mov (.tmp 5), none⟩,
      ⟨some 4, .mov (.tmp 39), none⟩] [4] none)
    (.ret)))))

def a100 : AFunc := ⟨2, c100, [.tmp 4]⟩

def an100 : List RAnn := [
  { id := 0, live := [0, 1] },
  { id := 1, live := [0, 1, 5] },
  { id := 2, live := [0, 1, 5, 6] },
  { id := 3, live := [0, 1, 5, 6, 7] },
  { id := 4, live := [0, 1, 5, 6, 7, 14], hdr := [0, 1, 5, 6, 7] },
  { id := 6, head := some 12, live := [0, 1, 5, 6, 7] },
  { id := 7, live := [0, 1, 5, 6, 7, 29] },
  { id := 8, live := [0, 1, 5, 7] },
  { id := 9, live := [0, 1, 5, 6, 7] },
  { id := 10, live := [0, 1, 5, 7] },
  { id := 11, live := [0, 1, 5, 6, 7] },
  { id := 5, live := [0, 1, 5, 6, 7] },
  { id := 12, live := [4] }]

theorem comp100 : compF Try.prog an100 Try.f100 = some a100 := by kernel_rfl

/- graphdb/graphdbref07.keys -/
/-- loop 0 of function 101 -/
def l101_0_h : List Nat := [0, 3, 4]

def l101_0_b : ACode :=
  .seq (.seq (.region none [] [
      ⟨some 5, .mov (.tmp 4), none⟩,
      ⟨some 6, .mov (.tmp 0), none⟩,
      ⟨some 7, .len .slice (.tmp 6), none⟩,
      ⟨some 8, .bin .lss .int (.tmp 5) (.tmp 7), none⟩] [0, 3, 4, 8] none)
    (.cond (.tmp 8) (.skip)
    (.exit 0)))
    (.seq (.block 1 (.region none [] [
        ⟨some 11, .mov (.tmp 3), none⟩,
        ⟨some 12, .mov (.tmp 0), none⟩,
        ⟨some 13, .mov (.tmp 4), none⟩,
        ⟨some 14, .iaddr 6 (.tmp 12) (.tmp 13), none⟩,
        ⟨some 15, .faddr 0 (.tmp 14), none⟩,
        ⟨some 16, .load none (.tmp 15), none⟩,
        ⟨some 17, .lit false 1 (.str []) 1 [(0, (.tmp 16))], none⟩,
        ⟨some 18, .append 1 16 (.tmp 11) (.tmp 17), none⟩,
        ⟨some 3, .mov (.tmp 18), none⟩] [0, 3, 4] none))
    (.region none [] [
      ⟨some 9, .mov (.tmp 4), none⟩,
      ⟨some 10, .bin .add .int (.tmp 9) (.cst (.int .i64 1)), none⟩,
      ⟨some 4, .mov (.tmp 10), none⟩] [0, 3, 4] none))

def c101 : ACode :=
  .seq (.region none [] [
      ⟨some 2, .mov (.cst (.sl false [])), none⟩] [0] none)
    (.seq (.region none [] [
      ⟨some 3, .newown 1, none⟩] [0, 3] none)
    (.seq (.seq (.region none [] [
      ⟨some 4, .mov (.cst (.int .i64 0)), none⟩] [0, 3, 4] none)
    (.block 0 (.loop l101_0_h l101_0_b)))
    (.seq (.region none [] [
      ⟨some 19, .mov (.tmp 3), none⟩,
      ⟨some 2, .mov (.tmp 19), none⟩] [2] none)
    (.ret))))

def a101 : AFunc := ⟨1, c101, [.tmp 2]⟩

def an101 : List RAnn := [
  { id := 0, live := [0] },
  { id := 1, live := [0, 3], ops := [(0, .own)] },
  { id := 2, live := [0, 3, 4] },
  { id := 3, live := [0, 3, 4, 8], hdr := [0, 3, 4] },
  { id := 5, live := [0, 3, 4] },
  { id := 4, live := [0, 3, 4] },
  { id := 6, live := [2] }]

theorem comp101 : compF Try.prog an101 Try.f101 = some a101 := by kernel_rfl

/- graphdb/graphdbref07.Names -/
/-- loop 0 of function 102 -/
def l102_0_h : List Nat := [0, 3]

def l102_0_b : ACode :=
  .seq (.seq (.region none [] [
      ⟨some 4, .mov (.tmp 3), none⟩,
      ⟨some 5, .mov (.tmp 0), none⟩,
      ⟨some 6, .len .slice (.tmp 5), none⟩,
      ⟨some 7, .bin .lss .int (.tmp 4) (.tmp 6), none⟩] [0, 3, 7] none)
    (.cond (.tmp 7) (.skip)
    (.exit 0)))
    (.seq (.block 1 (.seq (.region none [] [
        ⟨some 10, .mov (.tmp 0), none⟩,
        ⟨some 11, .mov (.tmp 3), none⟩,
        ⟨some 12, .iaddr 1 (.tmp 10) (.tmp 11), none⟩,
        ⟨some 13, .load none (.tmp 12), none⟩,
        ⟨some 14, .call .pure 85 [(.tmp 13)], none⟩,
        ⟨some 15, .un .not (.tmp 14), none⟩] [0, 3, 15] none)
      (.cond (.tmp 15) (.seq (.region none [] [
          ⟨some 2, .mov (.cst (.bool false)), none⟩] [2] none)
        (.ret))
      (.skip))))
    (.region none [] [
      ⟨some 8, .mov (.tmp 3), none⟩,
      ⟨some 9, .bin .add .int (.tmp 8) (.cst (.int .i64 1)), none⟩,
      ⟨some 3, .mov (.tmp 9), none⟩] [0, 3] none))

def c102 : ACode :=
  .seq (.region none [] [
      ⟨some 2, .mov (.cst (.bool false)), none⟩] [0] none)
    (.seq (.seq (.region none [] [
      ⟨some 3, .mov (.cst (.int .i64 0)), none⟩] [0, 3] none)
    (.block 0 (.loop l102_0_h l102_0_b)))
    (.seq (.region none [] [
      ⟨some 2, .mov (.cst (.bool true)), none⟩] [2] none)
    (.ret)))

def a102 : AFunc := ⟨1, c102, [.tmp 2]⟩

def an102 : List RAnn := [
  { id := 0, live := [0] },
  { id := 1, live := [0, 3] },
  { id := 2, live := [0, 3, 7], hdr := [0, 3] },
  { id := 4, live := [0, 3, 15] },
  { id := 5, live := [2] },
  { id := 3, live := [0, 3] },
  { id := 6, live := [2] }]

theorem comp102 : compF Try.prog an102 Try.f102 = some a102 := by kernel_rfl

/- graphdb/graphdbref07.Rises -/
/-- loop 0 of function 103 -/
def l103_0_h : List Nat := [0, 3]

def l103_0_b : ACode :=
  .seq (.seq (.region none [] [
      ⟨some 4, .mov (.tmp 3), none⟩,
      ⟨some 5, .mov (.tmp 0), none⟩,
      ⟨some 6, .len .slice (.tmp 5), none⟩,
      ⟨some 7, .bin .lss .int (.tmp 4) (.tmp 6), none⟩] [0, 3, 7] none)
    (.cond (.tmp 7) (.skip)
    (.exit 0)))
    (.seq (.block 1 (.seq (.region (some 10) [] [
        ⟨some 10, .mov (.tmp 0), none⟩,
        ⟨some 11, .mov (.tmp 3), none⟩,
        ⟨some 12, .iaddr 1 (.tmp 10) (.tmp 11), none⟩,
        ⟨some 13, .load none (.tmp 12), none⟩,
        ⟨some 14, .mov (.tmp 0), none⟩,
        ⟨some 15, .mov (.tmp 3), none⟩,
        ⟨some 16, .bin .sub .int (.tmp 15) (.cst (.int .i64 1)), none⟩,
        ⟨some 17, .iaddr 1 (.tmp 14) (.tmp 16), none⟩,
        ⟨some 18, .load none (.tmp 17), none⟩,
        ⟨some 19, .bin .leq .str (.tmp 13) (.tmp 18), none⟩] [0, 3, 19] none)
      (.cond (.tmp 19) (.seq (.region none [] [
          ⟨some 2, .mov (.cst (.bool false)), none⟩] [2] none)
        (.ret))
      (.skip))))
    (.region none [] [
      ⟨some 8, .mov (.tmp 3), none⟩,
      ⟨some 9, .bin .add .int (.tmp 8) (.cst (.int .i64 1)), none⟩,
      ⟨some 3, .mov (.tmp 9), none⟩] [0, 3] none))

def c103 : ACode :=
  .seq (.region none [] [
      ⟨some 2, .mov (.cst (.bool false)), none⟩] [0] none)
    (.seq (.seq (.region none [] [
      ⟨some 3, .mov (.cst (.int .i64 1)), none⟩] [0, 3] none)
    (.block 0 (.loop l103_0_h l103_0_b)))
    (.seq (.region none [] [
      ⟨some 2, .mov (.cst (.bool true)), none⟩] [2] none)
    (.ret)))

def a103 : AFunc := ⟨1, c103, [.tmp 2]⟩

def an103 : List RAnn := [
  { id := 0, live := [0] },
  { id := 1, live := [0, 3] },
  { id := 2, live := [0, 3, 7], hdr := [0, 3] },
  { id := 4, head := some 10, live := [0, 3, 19] },
  { id := 5, live := [2] },
  { id := 3, live := [0, 3] },
  { id := 6, live := [2] }]

theorem comp103 : compF Try.prog an103 Try.f103 = some a103 := by kernel_rfl

/- graphdb/graphdbref04.Plain -/
def c104 : ACode :=
  .seq (.region none [] [
      ⟨some 1, .box 5 (.tmp 0), none⟩,
      ⟨some 2, .mov (.cst (.bool false)), none⟩] [1] none)
    (.seq (.region none [] [
      ⟨some 3, .load (some 5) (.tmp 1), none⟩,
      ⟨some 4, .call .pure 49 [(.tmp 3)], none⟩,
      ⟨some 5, .mov (.tmp 4), none⟩,
      ⟨some 6, .faddr 0 (.tmp 1), some (5, true)⟩,
      ⟨some 7, .load none (.tmp 6), some (5, true)⟩,
      ⟨some 8, .bin .eql .int (.tmp 7) (.cst (.int .i64 1)), some (5, true)⟩,
      ⟨some 9, .mov (.tmp 8), some (5, true)⟩,
      ⟨some 10, .faddr 0 (.tmp 1), some (9, false)⟩,
      ⟨some 11, .load none (.tmp 10), some (9, false)⟩,
      ⟨some 12, .bin .eql .int (.tmp 11) (.cst (.int .i64 2)), some (9, false)⟩,
      ⟨some 13, .pick (.tmp 9) (.cst (.bool true)) (.tmp 12), some (5, true)⟩,
      ⟨some 14, .mov (.tmp 13), some (5, true)⟩,
      ⟨some 15, .faddr 0 (.tmp 1), some (14, false)⟩,
      ⟨some 16, .load none (.tmp 15), some (14, false)⟩,
      ⟨some 17, .bin .eql .int (.tmp 16) (.cst (.int .i64 4)), some (14, false)⟩,
      ⟨some 18, .pick (.tmp 14) (.cst (.bool true)) (.tmp 17), some (5, true)⟩,
      ⟨some 19, .pick (.tmp 5) (.tmp 18) (.cst (.bool false)), none⟩,
      ⟨some 2, .mov (.tmp 19), none⟩] [2] none)
    (.ret))

def a104 : AFunc := ⟨1, c104, [.tmp 2]⟩

def an104 : List RAnn := [
  { id := 0, live := [1] },
  { id := 1, live := [2] }]

theorem comp104 : compF Try.prog an104 Try.f104 = some a104 := by kernel_rfl

/- graphdb/graphdbref07.letter -/
def c105 : ACode :=
  .seq (.region none [] [
      ⟨some 2, .mov (.cst (.bool false)), none⟩] [0] none)
    (.seq (.region none [] [
      ⟨some 3, .mov (.tmp 0), none⟩,
      ⟨some 4, .bin .geq .int (.tmp 3) (.cst (.int .u8 97)), none⟩,
      ⟨some 5, .mov (.tmp 4), none⟩,
      ⟨some 6, .mov (.tmp 0), some (5, true)⟩,
      ⟨some 7, .bin .leq .int (.tmp 6) (.cst (.int .u8 122)), some (5, true)⟩,
      ⟨some 8, .pick (.tmp 5) (.tmp 7) (.cst (.bool false)), none⟩,
      ⟨some 9, .mov (.tmp 8), none⟩,
      ⟨some 10, .mov (.tmp 0), some (9, false)⟩,
      ⟨some 11, .bin .geq .int (.tmp 10) (.cst (.int .u8 65)), some (9, false)⟩,
      ⟨some 12, .mov (.tmp 11), some (9, false)⟩,
      ⟨some 13, .mov (.tmp 0), some (12, true)⟩,
      ⟨some 14, .bin .leq .int (.tmp 13) (.cst (.int .u8 90)), some (12, true)⟩,
      ⟨some 15, .pick (.tmp 12) (.tmp 14) (.cst (.bool false)), some (9, false)⟩,
      ⟨some 16, .pick (.tmp 9) (.cst (.bool true)) (.tmp 15), none⟩,
      ⟨some 2, .mov (.tmp 16), none⟩] [2] none)
    (.ret))

def a105 : AFunc := ⟨1, c105, [.tmp 2]⟩

def an105 : List RAnn := [
  { id := 0, live := [0] },
  { id := 1, live := [2] }]

theorem comp105 : compF Try.prog an105 Try.f105 = some a105 := by kernel_rfl

/- slices.insertionSortOrdered[string] -/
/-- loop 0 of function 106 -/
def l106_0_h : List Nat := [0, 1, 2, 6, 7]

def l106_0_b : ACode :=
  .seq (.seq (.region (some 15) [] [
      ⟨some 16, .mov (.tmp 7), none⟩,
      ⟨some 17, .mov (.tmp 1), none⟩,
      ⟨some 18, .bin .gtr .int (.tmp 16) (.tmp 17), none⟩,
      ⟨some 19, .mov (.tmp 18), none⟩,
      ⟨some 20, .mov (.tmp 0), some (19, true)⟩,
      ⟨some 21, .mov (.tmp 7), some (19, true)⟩,
      ⟨some 22, .iaddr 1 (.tmp 20) (.tmp 21), some (19, true)⟩,
      ⟨some 23, .load none (.tmp 22), some (19, true)⟩,
      ⟨some 24, .mov (.tmp 0), some (19, true)⟩,
      ⟨some 25, .mov (.tmp 7), some (19, true)⟩,
      ⟨some 26, .bin .sub .int (.tmp 25) (.cst (.int .i64 1)), some (19, true)⟩,
      ⟨some 27, .iaddr 1 (.tmp 24) (.tmp 26), some (19, true)⟩,
      ⟨some 28, .load none (.tmp 27), some (19, true)⟩,
      ⟨some 29, .call .pure 112 [(.tmp 23), (.tmp 28)], some (19, true)⟩,
      ⟨some 30, .pick (.tmp 19) (.tmp 29) (.cst (.bool false)), none⟩] [0, 1, 2, 6, 7, 30] none)
    (.cond (.tmp 30) (.skip)
    (.exit 2)))
    (.seq (.block 3 (.par 18 [] [] [
        ⟨some 33, .mov (.tmp 0), none⟩,
        ⟨some 34, .mov (.tmp 7), none⟩,
        ⟨some 35, .mov (.tmp 0), none⟩,
        ⟨some 36, .mov (.tmp 7), none⟩,
        ⟨some 37, .bin .sub .int (.tmp 36) (.cst (.int .i64 1)), none⟩,
        ⟨some 38, .mov (.tmp 0), none⟩,
        ⟨some 39, .mov (.tmp 7), none⟩,
        ⟨some 40, .bin .sub .int (.tmp 39) (.cst (.int .i64 1)), none⟩,
        ⟨some 41, .iaddr 1 (.tmp 38) (.tmp 40), none⟩,
        ⟨some 42, .load none (.tmp 41), none⟩,
        ⟨some 43, .mov (.tmp 0), none⟩,
        ⟨some 44, .mov (.tmp 7), none⟩,
        ⟨some 45, .iaddr 1 (.tmp 43) (.tmp 44), none⟩,
        ⟨some 46, .load none (.tmp 45), none⟩,
        ⟨some 47, .iaddr 1 (.tmp 33) (.tmp 34), none⟩,
        ⟨none, .store 1 (.tmp 47) (.tmp 42), none⟩,
        ⟨some 48, .iaddr 1 (.tmp 35) (.tmp 37), none⟩,
        ⟨none, .store 1 (.tmp 48) (.tmp 46), none⟩] [0, 1, 2, 6, 7] none))
    (.region none [] [
      ⟨some 31, .mov (.tmp 7), none⟩,
      ⟨some 32, .bin .sub .int (.tmp 31) (.cst (.int .i64 1)), none⟩,
      ⟨some 7, .mov (.tmp 32), none⟩] [0, 1, 2, 6, 7] none))

/-- loop 1 of function 106 -/
def l106_1_h : List Nat := [0, 1, 2, 6]

def l106_1_b : ACode :=
  .seq (.seq (.region none [] [
      ⟨some 10, .mov (.tmp 6), none⟩,
      ⟨some 11, .mov (.tmp 2), none⟩,
      ⟨some 12, .bin .lss .int (.tmp 10) (.tmp 11), none⟩] [0, 1, 2, 6, 12] none)
    (.cond (.tmp 12) (.skip)
    (.exit 0)))
    (.seq (.block 1 (.seq (.region none [] [
        ⟨some 15, .mov (.tmp 6), none⟩,
        ⟨some 7, .mov (.tmp 15), none⟩] [0, 1, 2, 6, 7] none)
      (.block 2 (.loop l106_0_h l106_0_b))))
    (.region none [] [
      ⟨some 13, .mov (.tmp 6), none⟩,
      ⟨some 14, .bin .add .int (.tmp 13) (.cst (.int .i64 1)), none⟩,
      ⟨some 6, .mov (.tmp 14), none⟩] [0, 1, 2, 6] none))

def c106 : ACode :=
  .seq (.region none [] [
      ⟨some 8, .mov (.tmp 1), none⟩,
      ⟨some 9, .bin .add .int (.tmp 8) (.cst (.int .i64 1)), none⟩,
      ⟨some 6, .mov (.tmp 9), none⟩] [0, 1, 2, 6] none)
    (.block 0 (.loop l106_1_h l106_1_b))

def a106 : AFunc := ⟨3, c106, []⟩

def an106 : List RAnn := [
  { id := 0, live := [0, 1, 2, 6] },
  { id := 1, live := [0, 1, 2, 6, 12], hdr := [0, 1, 2, 6] },
  { id := 3, live := [0, 1, 2, 6, 7] },
  { id := 4, head := some 15, live := [0, 1, 2, 6, 7, 30], hdr := [0, 1, 2, 6, 7] },
  { id := 6, head := some 18, live := [0, 1, 2, 6, 7], par := true },
  { id := 5, live := [0, 1, 2, 6, 7] },
  { id := 2, live := [0, 1, 2, 6] }]

theorem comp106 : compF Try.prog an106 Try.f106 = some a106 := by kernel_rfl

/- slices.heapSortOrdered[string] -/
/-- loop 0 of function 107 -/
def l107_0_h : List Nat := [0, 6, 7, 8, 9]

def l107_0_b : ACode :=
  .seq (.seq (.region none [] [
      ⟨some 18, .mov (.tmp 9), none⟩,
      ⟨some 19, .bin .geq .int (.tmp 18) (.cst (.int .i64 0)), none⟩] [0, 6, 7, 8, 9, 19] none)
    (.cond (.tmp 19) (.skip)
    (.exit 0)))
    (.seq (.block 1 (.region none [] [
        ⟨some 22, .mov (.tmp 0), none⟩,
        ⟨some 23, .mov (.tmp 9), none⟩,
        ⟨some 24, .mov (.tmp 8), none⟩,
        ⟨some 25, .mov (.tmp 6), none⟩,
        ⟨some 26, .call .share 119 [(.tmp 22), (.tmp 23), (.tmp 24), (.tmp 25)], none⟩] [0, 6, 7, 8, 9] none))
    (.region none [] [
      ⟨some 20, .mov (.tmp 9), none⟩,
      ⟨some 21, .bin .sub .int (.tmp 20) (.cst (.int .i64 1)), none⟩,
      ⟨some 9, .mov (.tmp 21), none⟩] [0, 6, 7, 8, 9] none))

/-- loop 1 of function 107 -/
def l107_1_h : List Nat := [0, 6, 7, 10]

def l107_1_b : ACode :=
  .seq (.seq (.region none [] [
      ⟨some 29, .mov (.tmp 10), none⟩,
      ⟨some 30, .bin .geq .int (.tmp 29) (.cst (.int .i64 0)), none⟩] [0, 6, 7, 10, 30] none)
    (.cond (.tmp 30) (.skip)
    (.exit 2)))
    (.seq (.block 3 (.seq (.par 20 [] [] [
        ⟨some 33, .mov (.tmp 0), none⟩,
        ⟨some 34, .mov (.tmp 6), none⟩,
        ⟨some 35, .mov (.tmp 0), none⟩,
        ⟨some 36, .mov (.tmp 6), none⟩,
        ⟨some 37, .mov (.tmp 10), none⟩,
        ⟨some 38, .bin .add .int (.tmp 36) (.tmp 37), none⟩,
        ⟨some 39, .mov (.tmp 0), none⟩,
        ⟨some 40, .mov (.tmp 6), none⟩,
        ⟨some 41, .mov (.tmp 10), none⟩,
        ⟨some 42, .bin .add .int (.tmp 40) (.tmp 41), none⟩,
        ⟨some 43, .iaddr 1 (.tmp 39) (.tmp 42), none⟩,
        ⟨some 44, .load none (.tmp 43), none⟩,
        ⟨some 45, .mov (.tmp 0), none⟩,
        ⟨some 46, .mov (.tmp 6), none⟩,
        ⟨some 47, .iaddr 1 (.tmp 45) (.tmp 46), none⟩,
        ⟨some 48, .load none (.tmp 47), none⟩,
        ⟨some 49, .iaddr 1 (.tmp 33) (.tmp 34), none⟩,
        ⟨none, .store 1 (.tmp 49) (.tmp 44), none⟩,
        ⟨some 50, .iaddr 1 (.tmp 35) (.tmp 38), none⟩,
        ⟨none, .store 1 (.tmp 50) (.tmp 48), none⟩] [0, 6, 7, 10] none)
      (.region none [] [
        ⟨some 51, .mov (.tmp 0), none⟩,
        ⟨some 52, .mov (.tmp 7), none⟩,
        ⟨some 53, .mov (.tmp 10), none⟩,
        ⟨some 54, .mov (.tmp 6), none⟩,
        ⟨some 55, .call .share 119 [(.tmp 51), (.tmp 52), (.tmp 53), (.tmp 54)], none⟩] [0, 6, 7, 10] none)))
    (.region none [] [
      ⟨some 31, .mov (.tmp 10), none⟩,
      ⟨some 32, .bin .sub .int (.tmp 31) (.cst (.int .i64 1)), none⟩,
      ⟨some 10, .mov (.tmp 32), none⟩] [0, 6, 7, 10] none))

def c107 : ACode :=
  .seq (.region none [] [
      ⟨some 11, .mov (.tmp 1), none⟩,
      ⟨some 6, .mov (.tmp 11), none⟩] [0, 1, 2, 6] none)
    (.seq (.region none [] [
      ⟨some 7, .mov (.cst (.int .i64 0)), none⟩] [0, 1, 2, 6, 7] none)
    (.seq (.region none [] [
      ⟨some 12, .mov (.tmp 2), none⟩,
      ⟨some 13, .mov (.tmp 1), none⟩,
      ⟨some 14, .bin .sub .int (.tmp 12) (.tmp 13), none⟩,
      ⟨some 8, .mov (.tmp 14), none⟩] [0, 6, 7, 8] none)
    (.seq (.seq (.region none [] [
      ⟨some 15, .mov (.tmp 8), none⟩,
      ⟨some 16, .bin .sub .int (.tmp 15) (.cst (.int .i64 1)), none⟩,
      ⟨some 17, .bin .quo .int (.tmp 16) (.cst (.int .i64 2)), none⟩,
      ⟨some 9, .mov (.tmp 17), none⟩] [0, 6, 7, 8, 9] none)
    (.block 0 (.loop l107_0_h l107_0_b)))
    (.seq (.region none [] [
      ⟨some 27, .mov (.tmp 8), none⟩,
      ⟨some 28, .bin .sub .int (.tmp 27) (.cst (.int .i64 1)), none⟩,
      ⟨some 10, .mov (.tmp 28), none⟩] [0, 6, 7, 10] none)
    (.block 2 (.loop l107_1_h l107_1_b))))))

def a107 : AFunc := ⟨3, c107, []⟩

def an107 : List RAnn := [
  { id := 0, live := [0, 1, 2, 6] },
  { id := 1, live := [0, 1, 2, 6, 7] },
  { id := 2, live := [0, 6, 7, 8] },
  { id := 3, live := [0, 6, 7, 8, 9] },
  { id := 4, live := [0, 6, 7, 8, 9, 19], hdr := [0, 6, 7, 8, 9] },
  { id := 6, live := [0, 6, 7, 8, 9], ops := [(4, .mode .share)] },
  { id := 5, live := [0, 6, 7, 8, 9] },
  { id := 7, live := [0, 6, 7, 10] },
  { id := 8, live := [0, 6, 7, 10, 30], hdr := [0, 6, 7, 10] },
  { id := 10, head := some 20, live := [0, 6, 7, 10], par := true },
  { id := 11, live := [0, 6, 7, 10], ops := [(4, .mode .share)] },
  { id := 9, live := [0, 6, 7, 10] }]

theorem comp107 : compF Try.prog an107 Try.f107 = some a107 := by kernel_rfl

/- slices.breakPatternsOrdered[string] -/
/-- loop 0 of function 108 -/
def l108_0_h : List Nat := [0, 1, 6, 7, 8, 9]

def l108_0_b : ACode :=
  .seq (.seq (.region none [] [
      ⟨some 26, .mov (.tmp 9), none⟩,
      ⟨some 27, .mov (.tmp 1), none⟩,
      ⟨some 28, .mov (.tmp 6), none⟩,
      ⟨some 29, .bin .quo .int (.tmp 28) (.cst (.int .i64 4)), none⟩,
      ⟨some 30, .bin .mul .int (.tmp 29) (.cst (.int .i64 2)), none⟩,
      ⟨some 31, .bin .add .int (.tmp 27) (.tmp 30), none⟩,
      ⟨some 32, .bin .add .int (.tmp 31) (.cst (.int .i64 1)), none⟩,
      ⟨some 33, .bin .leq .int (.tmp 26) (.tmp 32), none⟩] [0, 1, 6, 7, 8, 9, 33] none)
    (.cond (.tmp 33) (.skip)
    (.exit 0)))
    (.seq (.block 1 (.seq (.region none [] [
        ⟨some 36, .call .share 121 [(.tmp 7)], none⟩,
        ⟨some 37, .mov (.tmp 8), none⟩,
        ⟨some 38, .bin .sub .int (.tmp 37) (.cst (.int .u64 1)), none⟩,
        ⟨some 39, .bin .and .int (.tmp 36) (.tmp 38), none⟩,
        ⟨some 40, .conv .i64 (.tmp 39), none⟩,
        ⟨some 10, .mov (.tmp 40), none⟩] [0, 1, 6, 7, 8, 9, 10] none)
      (.seq (.seq (.region none [] [
        ⟨some 41, .mov (.tmp 10), none⟩,
        ⟨some 42, .mov (.tmp 6), none⟩,
        ⟨some 43, .bin .geq .int (.tmp 41) (.tmp 42), none⟩] [0, 1, 6, 7, 8, 9, 10, 43] none)
      (.cond (.tmp 43) (.region none [] [
          ⟨some 44, .mov (.tmp 10), none⟩,
          ⟨some 45, .mov (.tmp 6), none⟩,
          ⟨some 46, .bin .sub .int (.tmp 44) (.tmp 45), none⟩,
          ⟨some 10, .mov (.tmp 46), none⟩] [0, 1, 6, 7, 8, 9, 10] none)
      (.skip)))
      (.par 20 [] [] [
        ⟨some 47, .mov (.tmp 0), none⟩,
        ⟨some 48, .mov (.tmp 9), none⟩,
        ⟨some 49, .mov (.tmp 0), none⟩,
        ⟨some 50, .mov (.tmp 1), none⟩,
        ⟨some 51, .mov (.tmp 10), none⟩,
        ⟨some 52, .bin .add .int (.tmp 50) (.tmp 51), none⟩,
        ⟨some 53, .mov (.tmp 0), none⟩,
        ⟨some 54, .mov (.tmp 1), none⟩,
        ⟨some 55, .mov (.tmp 10), none⟩,
        ⟨some 56, .bin .add .int (.tmp 54) (.tmp 55), none⟩,
        ⟨some 57, .iaddr 1 (.tmp 53) (.tmp 56), none⟩,
        ⟨some 58, .load none (.tmp 57), none⟩,
        ⟨some 59, .mov (.tmp 0), none⟩,
        ⟨some 60, .mov (.tmp 9), none⟩,
        ⟨some 61, .iaddr 1 (.tmp 59) (.tmp 60), none⟩,
        ⟨some 62, .load none (.tmp 61), none⟩,
        ⟨some 63, .iaddr 1 (.tmp 47) (.tmp 48), none⟩,
        ⟨none, .store 1 (.tmp 63) (.tmp 58), none⟩,
        ⟨some 64, .iaddr 1 (.tmp 49) (.tmp 52), none⟩,
        ⟨none, .store 1 (.tmp 64) (.tmp 62), none⟩] [0, 1, 6, 7, 8, 9] none))))
    (.region none [] [
      ⟨some 34, .mov (.tmp 9), none⟩,
      ⟨some 35, .bin .add .int (.tmp 34) (.cst (.int .i64 1)), none⟩,
      ⟨some 9, .mov (.tmp 35), none⟩] [0, 1, 6, 7, 8, 9] none))

def c108 : ACode :=
  .seq (.region none [] [
      ⟨some 11, .mov (.tmp 2), none⟩,
      ⟨some 12, .mov (.tmp 1), none⟩,
      ⟨some 13, .bin .sub .int (.tmp 11) (.tmp 12), none⟩,
      ⟨some 6, .mov (.tmp 13), none⟩] [0, 1, 6] none)
    (.seq (.region none [] [
      ⟨some 14, .mov (.tmp 6), none⟩,
      ⟨some 15, .bin .geq .int (.tmp 14) (.cst (.int .i64 8)), none⟩] [0, 1, 6, 15] none)
    (.cond (.tmp 15) (.seq (.region none [] [
        ⟨some 16, .mov (.tmp 6), none⟩,
        ⟨some 17, .conv .u64 (.tmp 16), none⟩,
        ⟨some 7, .alloc 1 (.int .u64 0), none⟩,
        ⟨none, .store 1 (.tmp 7) (.tmp 17), none⟩] [0, 1, 6, 7] none)
      (.seq (.region none [] [
        ⟨some 18, .mov (.tmp 6), none⟩,
        ⟨some 19, .call .pure 120 [(.tmp 18)], none⟩,
        ⟨some 8, .mov (.tmp 19), none⟩] [0, 1, 6, 7, 8] none)
      (.seq (.region none [] [
        ⟨some 20, .mov (.tmp 1), none⟩,
        ⟨some 21, .mov (.tmp 6), none⟩,
        ⟨some 22, .bin .quo .int (.tmp 21) (.cst (.int .i64 4)), none⟩,
        ⟨some 23, .bin .mul .int (.tmp 22) (.cst (.int .i64 2)), none⟩,
        ⟨some 24, .bin .add .int (.tmp 20) (.tmp 23), none⟩,
        ⟨some 25, .bin .sub .int (.tmp 24) (.cst (.int .i64 1)), none⟩,
        ⟨some 9, .mov (.tmp 25), none⟩] [0, 1, 6, 7, 8, 9] none)
      (.block 0 (.loop l108_0_h l108_0_b)))))
    (.skip)))

def a108 : AFunc := ⟨3, c108, []⟩

def an108 : List RAnn := [
  { id := 0, live := [0, 1, 6] },
  { id := 1, live := [0, 1, 6, 15] },
  { id := 2, live := [0, 1, 6, 7] },
  { id := 3, live := [0, 1, 6, 7, 8] },
  { id := 4, live := [0, 1, 6, 7, 8, 9] },
  { id := 5, live := [0, 1, 6, 7, 8, 9, 33], hdr := [0, 1, 6, 7, 8, 9] },
  { id := 7, live := [0, 1, 6, 7, 8, 9, 10], ops := [(0, .mode .share)] },
  { id := 8, live := [0, 1, 6, 7, 8, 9, 10, 43] },
  { id := 9, live := [0, 1, 6, 7, 8, 9, 10] },
  { id := 10, head := some 20, live := [0, 1, 6, 7, 8, 9], par := true },
  { id := 6, live := [0, 1, 6, 7, 8, 9] }]

theorem comp108 : compF Try.prog an108 Try.f108 = some a108 := by kernel_rfl

/- slices.choosePivotOrdered[string] -/
def c109 : ACode :=
  .seq (.region none [] [
      ⟨some 6, .mov (.cst (.int .i64 0)), none⟩,
      ⟨some 7, .mov (.cst (.int .i64 0)), none⟩] [0, 1, 2] none)
    (.seq (.region none [] [
      ⟨some 13, .mov (.tmp 2), none⟩,
      ⟨some 14, .mov (.tmp 1), none⟩,
      ⟨some 15, .bin .sub .int (.tmp 13) (.tmp 14), none⟩,
      ⟨some 8, .mov (.tmp 15), none⟩] [0, 1, 8] none)
    (.seq (.region none [] [
      ⟨some 9, .alloc 1 (.int .i64 0), none⟩] [0, 1, 8, 9] none)
    (.seq (.region none [] [
      ⟨some 16, .mov (.tmp 1), none⟩,
      ⟨some 17, .mov (.tmp 8), none⟩,
      ⟨some 18, .bin .quo .int (.tmp 17) (.cst (.int .i64 4)), none⟩,
      ⟨some 19, .bin .mul .int (.tmp 18) (.cst (.int .i64 1)), none⟩,
      ⟨some 20, .bin .add .int (.tmp 16) (.tmp 19), none⟩,
      ⟨some 10, .mov (.tmp 20), none⟩] [0, 1, 8, 9, 10] none)
    (.seq (.region none [] [
      ⟨some 21, .mov (.tmp 1), none⟩,
      ⟨some 22, .mov (.tmp 8), none⟩,
      ⟨some 23, .bin .quo .int (.tmp 22) (.cst (.int .i64 4)), none⟩,
      ⟨some 24, .bin .mul .int (.tmp 23) (.cst (.int .i64 2)), none⟩,
      ⟨some 25, .bin .add .int (.tmp 21) (.tmp 24), none⟩,
      ⟨some 11, .mov (.tmp 25), none⟩] [0, 1, 8, 9, 10, 11] none)
    (.seq (.region none [] [
      ⟨some 26, .mov (.tmp 1), none⟩,
      ⟨some 27, .mov (.tmp 8), none⟩,
      ⟨some 28, .bin .quo .int (.tmp 27) (.cst (.int .i64 4)), none⟩,
      ⟨some 29, .bin .mul .int (.tmp 28) (.cst (.int .i64 3)), none⟩,
      ⟨some 30, .bin .add .int (.tmp 26) (.tmp 29), none⟩,
      ⟨some 12, .mov (.tmp 30), none⟩] [0, 8, 9, 10, 11, 12] none)
    (.seq (.seq (.region none [] [
      ⟨some 31, .mov (.tmp 8), none⟩,
      ⟨some 32, .bin .geq .int (.tmp 31) (.cst (.int .i64 8)), none⟩] [0, 8, 9, 10, 11, 12, 32] none)
    (.cond (.tmp 32) (.seq (.seq (.region none [] [
        ⟨some 33, .mov (.tmp 8), none⟩,
        ⟨some 34, .bin .geq .int (.tmp 33) (.cst (.int .i64 50)), none⟩] [0, 9, 10, 11, 12, 34] none)
      (.cond (.tmp 34) (.seq (.region none [] [
          ⟨some 35, .mov (.tmp 0), none⟩,
          ⟨some 36, .mov (.tmp 10), none⟩,
          ⟨some 37, .call .share 122 [(.tmp 35), (.tmp 36), (.tmp 9)], none⟩,
          ⟨some 10, .mov (.tmp 37), none⟩] [0, 9, 10, 11, 12] none)
        (.seq (.region none [] [
          ⟨some 38, .mov (.tmp 0), none⟩,
          ⟨some 39, .mov (.tmp 11), none⟩,
          ⟨some 40, .call .share 122 [(.tmp 38), (.tmp 39), (.tmp 9)], none⟩,
          ⟨some 11, .mov (.tmp 40), none⟩] [0, 9, 10, 11, 12] none)
        (.region none [] [
          ⟨some 41, .mov (.tmp 0), none⟩,
          ⟨some 42, .mov (.tmp 12), none⟩,
          ⟨some 43, .call .share 122 [(.tmp 41), (.tmp 42), (.tmp 9)], none⟩,
          ⟨some 12, .mov (.tmp 43), none⟩] [0, 9, 10, 11, 12] none)))
      (.skip)))
      (.region none [] [
        ⟨some 44, .mov (.tmp 0), none⟩,
        ⟨some 45, .mov (.tmp 10), none⟩,
        ⟨some 46, .mov (.tmp 11), none⟩,
        ⟨some 47, .mov (.tmp 12), none⟩,
        ⟨some 48, .call .share 123 [(.tmp 44), (.tmp 45), (.tmp 46), (.tmp 47), (.tmp 9)], none⟩,
        ⟨some 11, .mov (.tmp 48), none⟩] [9, 11] none))
    (.skip)))
    (.seq (.region none [] [
      ⟨some 49, .load none (.tmp 9), none⟩] [11, 49] none)
    (.block 0 (.seq (.region none [] [
        ⟨some 52, .bin .eql .int (.tmp 49) (.cst (.int .i64 0)), none⟩,
        ⟨some 51, .mov (.tmp 52), none⟩] [11, 49, 51] none)
      (.cond (.tmp 51) (.seq (.region none [] [
          ⟨some 53, .mov (.tmp 11), none⟩,
          ⟨some 6, .mov (.tmp 53), none⟩,
          ⟨some 7, .mov (.cst (.int .i64 1)), none⟩] [6, 7] none)
        (.ret))
      (.seq (.region none [] [
          ⟨some 55, .bin .eql .int (.tmp 49) (.cst (.int .i64 12)), none⟩,
          ⟨some 54, .mov (.tmp 55), none⟩] [11, 54] none)
        (.cond (.tmp 54) (.seq (.region none [] [
            ⟨some 56, .mov (.tmp 11), none⟩,
            ⟨some 6, .mov (.tmp 56), none⟩,
            ⟨some 7, .mov (.cst (.int .i64 2)), none⟩] [6, 7] none)
          (.ret))
        (.seq (.region none [] [
            ⟨some 50, .mov (.tmp 11), none⟩,
            ⟨some 6, .mov (.tmp 50), none⟩,
            ⟨some 7, .mov (.cst (.int .i64 0)), none⟩] [6, 7] none)
          (.ret))))))))))))))

def a109 : AFunc := ⟨3, c109, [.tmp 6, .tmp 7]⟩

def an109 : List RAnn := [
  { id := 0, live := [0, 1, 2] },
  { id := 1, live := [0, 1, 8] },
  { id := 2, live := [0, 1, 8, 9] },
  { id := 3, live := [0, 1, 8, 9, 10] },
  { id := 4, live := [0, 1, 8, 9, 10, 11] },
  { id := 5, live := [0, 8, 9, 10, 11, 12] },
  { id := 6, live := [0, 8, 9, 10, 11, 12, 32] },
  { id := 7, live := [0, 9, 10, 11, 12, 34] },
  { id := 8, live := [0, 9, 10, 11, 12], ops := [(2, .mode .share)] },
  { id := 9, live := [0, 9, 10, 11, 12], ops := [(2, .mode .share)] },
  { id := 10, live := [0, 9, 10, 11, 12], ops := [(2, .mode .share)] },
  { id := 11, live := [9, 11], ops := [(4, .mode .share)] },
  { id := 12, live := [11, 49] },
  { id := 14, live := [11, 49, 51] },
  { id := 15, live := [6, 7] },
  { id := 16, live := [11, 54] },
  { id := 17, live := [6, 7] },
  { id := 13, live := [6, 7] }]

theorem comp109 : compF Try.prog an109 Try.f109 = some a109 := by kernel_rfl

/- slices.reverseRangeOrdered[string] -/
/-- loop 0 of function 110 -/
def l110_0_h : List Nat := [0, 6, 7]

def l110_0_b : ACode :=
  .seq (.seq (.region none [] [
      ⟨some 11, .mov (.tmp 6), none⟩,
      ⟨some 12, .mov (.tmp 7), none⟩,
      ⟨some 13, .bin .lss .int (.tmp 11) (.tmp 12), none⟩] [0, 6, 7, 13] none)
    (.cond (.tmp 13) (.skip)
    (.exit 0)))
    (.block 1 (.seq (.par 16 [] [] [
        ⟨some 14, .mov (.tmp 0), none⟩,
        ⟨some 15, .mov (.tmp 6), none⟩,
        ⟨some 16, .mov (.tmp 0), none⟩,
        ⟨some 17, .mov (.tmp 7), none⟩,
        ⟨some 18, .mov (.tmp 0), none⟩,
        ⟨some 19, .mov (.tmp 7), none⟩,
        ⟨some 20, .iaddr 1 (.tmp 18) (.tmp 19), none⟩,
        ⟨some 21, .load none (.tmp 20), none⟩,
        ⟨some 22, .mov (.tmp 0), none⟩,
        ⟨some 23, .mov (.tmp 6), none⟩,
        ⟨some 24, .iaddr 1 (.tmp 22) (.tmp 23), none⟩,
        ⟨some 25, .load none (.tmp 24), none⟩,
        ⟨some 26, .iaddr 1 (.tmp 14) (.tmp 15), none⟩,
        ⟨none, .store 1 (.tmp 26) (.tmp 21), none⟩,
        ⟨some 27, .iaddr 1 (.tmp 16) (.tmp 17), none⟩,
        ⟨none, .store 1 (.tmp 27) (.tmp 25), none⟩] [0, 6, 7] none)
      (.seq (.region none [] [
        ⟨some 28, .mov (.tmp 6), none⟩,
        ⟨some 29, .bin .add .int (.tmp 28) (.cst (.int .i64 1)), none⟩,
        ⟨some 6, .mov (.tmp 29), none⟩] [0, 6, 7] none)
      (.region none [] [
        ⟨some 30, .mov (.tmp 7), none⟩,
        ⟨some 31, .bin .sub .int (.tmp 30) (.cst (.int .i64 1)), none⟩,
        ⟨some 7, .mov (.tmp 31), none⟩] [0, 6, 7] none))))

def c110 : ACode :=
  .seq (.region none [] [
      ⟨some 8, .mov (.tmp 1), none⟩,
      ⟨some 6, .mov (.tmp 8), none⟩] [0, 2, 6] none)
    (.seq (.region none [] [
      ⟨some 9, .mov (.tmp 2), none⟩,
      ⟨some 10, .bin .sub .int (.tmp 9) (.cst (.int .i64 1)), none⟩,
      ⟨some 7, .mov (.tmp 10), none⟩] [0, 6, 7] none)
    (.block 0 (.loop l110_0_h l110_0_b)))

def a110 : AFunc := ⟨3, c110, []⟩

def an110 : List RAnn := [
  { id := 0, live := [0, 2, 6] },
  { id := 1, live := [0, 6, 7] },
  { id := 2, live := [0, 6, 7, 13], hdr := [0, 6, 7] },
  { id := 3, head := some 16, live := [0, 6, 7], par := true },
  { id := 4, live := [0, 6, 7] },
  { id := 5, live := [0, 6, 7] }]

theorem comp110 : compF Try.prog an110 Try.f110 = some a110 := by kernel_rfl

/- slices.partialInsertionSortOrdered[string] -/
/-- loop 0 of function 111 -/
def l111_0_h : List Nat := [0, 1, 2, 7, 8]

def l111_0_b : ACode :=
  .seq (.seq (.region (some 16) [] [
      ⟨some 17, .mov (.tmp 7), none⟩,
      ⟨some 18, .mov (.tmp 2), none⟩,
      ⟨some 19, .bin .lss .int (.tmp 17) (.tmp 18), none⟩,
      ⟨some 20, .mov (.tmp 19), none⟩,
      ⟨some 21, .mov (.tmp 0), some (20, true)⟩,
      ⟨some 22, .mov (.tmp 7), some (20, true)⟩,
      ⟨some 23, .iaddr 1 (.tmp 21) (.tmp 22), some (20, true)⟩,
      ⟨some 24, .load none (.tmp 23), some (20, true)⟩,
      ⟨some 25, .mov (.tmp 0), some (20, true)⟩,
      ⟨some 26, .mov (.tmp 7), some (20, true)⟩,
      ⟨some 27, .bin .sub .int (.tmp 26) (.cst (.int .i64 1)), some (20, true)⟩,
      ⟨some 28, .iaddr 1 (.tmp 25) (.tmp 27), some (20, true)⟩,
      ⟨some 29, .load none (.tmp 28), some (20, true)⟩,
      ⟨some 30, .call .pure 112 [(.tmp 24), (.tmp 29)], some (20, true)⟩,
      ⟨some 31, .un .not (.tmp 30), some (20, true)⟩,
      ⟨some 32, .pick (.tmp 20) (.tmp 31) (.cst (.bool false)), none⟩] [0, 1, 2, 7, 8, 32] none)
    (.cond (.tmp 32) (.skip)
    (.exit 2)))
    (.block 3 (.region none [] [
        ⟨some 33, .mov (.tmp 7), none⟩,
        ⟨some 34, .bin .add .int (.tmp 33) (.cst (.int .i64 1)), none⟩,
        ⟨some 7, .mov (.tmp 34), none⟩] [0, 1, 2, 7, 8] none))

/-- loop 1 of function 111 -/
def l111_1_h : List Nat := [0, 1, 2, 7, 8, 9]

def l111_1_b : ACode :=
  .seq (.seq (.region none [] [
      ⟨some 64, .mov (.tmp 9), none⟩,
      ⟨some 65, .bin .geq .int (.tmp 64) (.cst (.int .i64 1)), none⟩] [0, 1, 2, 7, 8, 9, 65] none)
    (.cond (.tmp 65) (.skip)
    (.exit 4)))
    (.seq (.block 5 (.seq (.seq (.region (some 11) [] [
        ⟨some 68, .mov (.tmp 0), none⟩,
        ⟨some 69, .mov (.tmp 9), none⟩,
        ⟨some 70, .iaddr 1 (.tmp 68) (.tmp 69), none⟩,
        ⟨some 71, .load none (.tmp 70), none⟩,
        ⟨some 72, .mov (.tmp 0), none⟩,
        ⟨some 73, .mov (.tmp 9), none⟩,
        ⟨some 74, .bin .sub .int (.tmp 73) (.cst (.int .i64 1)), none⟩,
        ⟨some 75, .iaddr 1 (.tmp 72) (.tmp 74), none⟩,
        ⟨some 76, .load none (.tmp 75), none⟩,
        ⟨some 77, .call .pure 112 [(.tmp 71), (.tmp 76)], none⟩,
        ⟨some 78, .un .not (.tmp 77), none⟩] [0, 1, 2, 7, 8, 9, 78] none)
      (.cond (.tmp 78) (.exit 4)
      (.skip)))
      (.par 18 [] [] [
        ⟨some 79, .mov (.tmp 0), none⟩,
        ⟨some 80, .mov (.tmp 9), none⟩,
        ⟨some 81, .mov (.tmp 0), none⟩,
        ⟨some 82, .mov (.tmp 9), none⟩,
        ⟨some 83, .bin .sub .int (.tmp 82) (.cst (.int .i64 1)), none⟩,
        ⟨some 84, .mov (.tmp 0), none⟩,
        ⟨some 85, .mov (.tmp 9), none⟩,
        ⟨some 86, .bin .sub .int (.tmp 85) (.cst (.int .i64 1)), none⟩,
        ⟨some 87, .iaddr 1 (.tmp 84) (.tmp 86), none⟩,
        ⟨some 88, .load none (.tmp 87), none⟩,
        ⟨some 89, .mov (.tmp 0), none⟩,
        ⟨some 90, .mov (.tmp 9), none⟩,
        ⟨some 91, .iaddr 1 (.tmp 89) (.tmp 90), none⟩,
        ⟨some 92, .load none (.tmp 91), none⟩,
        ⟨some 93, .iaddr 1 (.tmp 79) (.tmp 80), none⟩,
        ⟨none, .store 1 (.tmp 93) (.tmp 88), none⟩,
        ⟨some 94, .iaddr 1 (.tmp 81) (.tmp 83), none⟩,
        ⟨none, .store 1 (.tmp 94) (.tmp 92), none⟩] [0, 1, 2, 7, 8, 9] none)))
    (.region none [] [
      ⟨some 66, .mov (.tmp 9), none⟩,
      ⟨some 67, .bin .sub .int (.tmp 66) (.cst (.int .i64 1)), none⟩,
      ⟨some 9, .mov (.tmp 67), none⟩] [0, 1, 2, 7, 8, 9] none))

/-- loop 2 of function 111 -/
def l111_2_h : List Nat := [0, 1, 2, 7, 8, 10]

def l111_2_b : ACode :=
  .seq (.seq (.region none [] [
      ⟨some 101, .mov (.tmp 10), none⟩,
      ⟨some 102, .mov (.tmp 2), none⟩,
      ⟨some 103, .bin .lss .int (.tmp 101) (.tmp 102), none⟩] [0, 1, 2, 7, 8, 10, 103] none)
    (.cond (.tmp 103) (.skip)
    (.exit 6)))
    (.seq (.block 7 (.seq (.seq (.region (some 11) [] [
        ⟨some 106, .mov (.tmp 0), none⟩,
        ⟨some 107, .mov (.tmp 10), none⟩,
        ⟨some 108, .iaddr 1 (.tmp 106) (.tmp 107), none⟩,
        ⟨some 109, .load none (.tmp 108), none⟩,
        ⟨some 110, .mov (.tmp 0), none⟩,
        ⟨some 111, .mov (.tmp 10), none⟩,
        ⟨some 112, .bin .sub .int (.tmp 111) (.cst (.int .i64 1)), none⟩,
        ⟨some 113, .iaddr 1 (.tmp 110) (.tmp 112), none⟩,
        ⟨some 114, .load none (.tmp 113), none⟩,
        ⟨some 115, .call .pure 112 [(.tmp 109), (.tmp 114)], none⟩,
        ⟨some 116, .un .not (.tmp 115), none⟩] [0, 1, 2, 7, 8, 10, 116] none)
      (.cond (.tmp 116) (.exit 6)
      (.skip)))
      (.par 18 [] [] [
        ⟨some 117, .mov (.tmp 0), none⟩,
        ⟨some 118, .mov (.tmp 10), none⟩,
        ⟨some 119, .mov (.tmp 0), none⟩,
        ⟨some 120, .mov (.tmp 10), none⟩,
        ⟨some 121, .bin .sub .int (.tmp 120) (.cst (.int .i64 1)), none⟩,
        ⟨some 122, .mov (.tmp 0), none⟩,
        ⟨some 123, .mov (.tmp 10), none⟩,
        ⟨some 124, .bin .sub .int (.tmp 123) (.cst (.int .i64 1)), none⟩,
        ⟨some 125, .iaddr 1 (.tmp 122) (.tmp 124), none⟩,
        ⟨some 126, .load none (.tmp 125), none⟩,
        ⟨some 127, .mov (.tmp 0), none⟩,
        ⟨some 128, .mov (.tmp 10), none⟩,
        ⟨some 129, .iaddr 1 (.tmp 127) (.tmp 128), none⟩,
        ⟨some 130, .load none (.tmp 129), none⟩,
        ⟨some 131, .iaddr 1 (.tmp 117) (.tmp 118), none⟩,
        ⟨none, .store 1 (.tmp 131) (.tmp 126), none⟩,
        ⟨some 132, .iaddr 1 (.tmp 119) (.tmp 121), none⟩,
        ⟨none, .store 1 (.tmp 132) (.tmp 130), none⟩] [0, 1, 2, 7, 8, 10] none)))
    (.region none [] [
      ⟨some 104, .mov (.tmp 10), none⟩,
      ⟨some 105, .bin .add .int (.tmp 104) (.cst (.int .i64 1)), none⟩,
      ⟨some 10, .mov (.tmp 105), none⟩] [0, 1, 2, 7, 8, 10] none))

/-- loop 3 of function 111 -/
def l111_3_h : List Nat := [0, 1, 2, 7, 8]

def l111_3_b : ACode :=
  .seq (.seq (.region none [] [
      ⟨some 13, .mov (.tmp 8), none⟩,
      ⟨some 14, .bin .lss .int (.tmp 13) (.cst (.int .i64 5)), none⟩] [0, 1, 2, 7, 8, 14] none)
    (.cond (.tmp 14) (.skip)
    (.exit 0)))
    (.seq (.block 1 (.seq (.block 2 (.loop l111_0_h l111_0_b))
      (.seq (.seq (.region none [] [
        ⟨some 35, .mov (.tmp 7), none⟩,
        ⟨some 36, .mov (.tmp 2), none⟩,
        ⟨some 37, .bin .eql .int (.tmp 35) (.tmp 36), none⟩] [0, 1, 2, 7, 8, 37] none)
      (.cond (.tmp 37) (.seq (.region none [] [
          ⟨some 6, .mov (.cst (.bool true)), none⟩] [6] none)
        (.ret))
      (.skip)))
      (.seq (.seq (.region none [] [
        ⟨some 38, .mov (.tmp 2), none⟩,
        ⟨some 39, .mov (.tmp 1), none⟩,
        ⟨some 40, .bin .sub .int (.tmp 38) (.tmp 39), none⟩,
        ⟨some 41, .bin .lss .int (.tmp 40) (.cst (.int .i64 50)), none⟩] [0, 1, 2, 7, 8, 41] none)
      (.cond (.tmp 41) (.seq (.region none [] [
          ⟨some 6, .mov (.cst (.bool false)), none⟩] [6] none)
        (.ret))
      (.skip)))
      (.seq (.par 18 [] [] [
        ⟨some 42, .mov (.tmp 0), none⟩,
        ⟨some 43, .mov (.tmp 7), none⟩,
        ⟨some 44, .mov (.tmp 0), none⟩,
        ⟨some 45, .mov (.tmp 7), none⟩,
        ⟨some 46, .bin .sub .int (.tmp 45) (.cst (.int .i64 1)), none⟩,
        ⟨some 47, .mov (.tmp 0), none⟩,
        ⟨some 48, .mov (.tmp 7), none⟩,
        ⟨some 49, .bin .sub .int (.tmp 48) (.cst (.int .i64 1)), none⟩,
        ⟨some 50, .iaddr 1 (.tmp 47) (.tmp 49), none⟩,
        ⟨some 51, .load none (.tmp 50), none⟩,
        ⟨some 52, .mov (.tmp 0), none⟩,
        ⟨some 53, .mov (.tmp 7), none⟩,
        ⟨some 54, .iaddr 1 (.tmp 52) (.tmp 53), none⟩,
        ⟨some 55, .load none (.tmp 54), none⟩,
        ⟨some 56, .iaddr 1 (.tmp 42) (.tmp 43), none⟩,
        ⟨none, .store 1 (.tmp 56) (.tmp 51), none⟩,
        ⟨some 57, .iaddr 1 (.tmp 44) (.tmp 46), none⟩,
        ⟨none, .store 1 (.tmp 57) (.tmp 55), none⟩] [0, 1, 2, 7, 8] none)
      (.seq (.seq (.region none [] [
        ⟨some 58, .mov (.tmp 7), none⟩,
        ⟨some 59, .mov (.tmp 1), none⟩,
        ⟨some 60, .bin .sub .int (.tmp 58) (.tmp 59), none⟩,
        ⟨some 61, .bin .geq .int (.tmp 60) (.cst (.int .i64 2)), none⟩] [0, 1, 2, 7, 8, 61] none)
      (.cond (.tmp 61) (.seq (.region none [] [
          ⟨some 62, .mov (.tmp 7), none⟩,
          ⟨some 63, .bin .sub .int (.tmp 62) (.cst (.int .i64 1)), none⟩,
          ⟨some 9, .mov (.tmp 63), none⟩] [0, 1, 2, 7, 8, 9] none)
        (.block 4 (.loop l111_1_h l111_1_b)))
      (.skip)))
      (.seq (.region none [] [
        ⟨some 95, .mov (.tmp 2), none⟩,
        ⟨some 96, .mov (.tmp 7), none⟩,
        ⟨some 97, .bin .sub .int (.tmp 95) (.tmp 96), none⟩,
        ⟨some 98, .bin .geq .int (.tmp 97) (.cst (.int .i64 2)), none⟩] [0, 1, 2, 7, 8, 98] none)
      (.cond (.tmp 98) (.seq (.region none [] [
          ⟨some 99, .mov (.tmp 7), none⟩,
          ⟨some 100, .bin .add .int (.tmp 99) (.cst (.int .i64 1)), none⟩,
          ⟨some 10, .mov (.tmp 100), none⟩] [0, 1, 2, 7, 8, 10] none)
        (.block 6 (.loop l111_2_h l111_2_b)))
      (.skip)))))))))
    (.region none [] [
      ⟨some 15, .mov (.tmp 8), none⟩,
      ⟨some 16, .bin .add .int (.tmp 15) (.cst (.int .i64 1)), none⟩,
      ⟨some 8, .mov (.tmp 16), none⟩] [0, 1, 2, 7, 8] none))

def c111 : ACode :=
  .seq (.region none [] [
      ⟨some 6, .mov (.cst (.bool false)), none⟩] [0, 1, 2] none)
    (.seq (.region none [] [
      ⟨some 11, .mov (.tmp 1), none⟩,
      ⟨some 12, .bin .add .int (.tmp 11) (.cst (.int .i64 1)), none⟩,
      ⟨some 7, .mov (.tmp 12), none⟩] [0, 1, 2, 7] none)
    (.seq (.seq (.region none [] [
      ⟨some 8, .mov (.cst (.int .i64 0)), none⟩] [0, 1, 2, 7, 8] none)
    (.block 0 (.loop l111_3_h l111_3_b)))
    (.seq (.region none [] [
      ⟨some 6, .mov (.cst (.bool false)), none⟩] [6] none)
    (.ret))))

def a111 : AFunc := ⟨3, c111, [.tmp 6]⟩

def an111 : List RAnn := [
  { id := 0, live := [0, 1, 2] },
  { id := 1, live := [0, 1, 2, 7] },
  { id := 2, live := [0, 1, 2, 7, 8] },
  { id := 3, live := [0, 1, 2, 7, 8, 14], hdr := [0, 1, 2, 7, 8] },
  { id := 5, head := some 16, live := [0, 1, 2, 7, 8, 32], hdr := [0, 1, 2, 7, 8] },
  { id := 6, live := [0, 1, 2, 7, 8] },
  { id := 7, live := [0, 1, 2, 7, 8, 37] },
  { id := 8, live := [6] },
  { id := 9, live := [0, 1, 2, 7, 8, 41] },
  { id := 10, live := [6] },
  { id := 11, head := some 18, live := [0, 1, 2, 7, 8], par := true },
  { id := 12, live := [0, 1, 2, 7, 8, 61] },
  { id := 13, live := [0, 1, 2, 7, 8, 9] },
  { id := 14, live := [0, 1, 2, 7, 8, 9, 65], hdr := [0, 1, 2, 7, 8, 9] },
  { id := 16, head := some 11, live := [0, 1, 2, 7, 8, 9, 78] },
  { id := 17, head := some 18, live := [0, 1, 2, 7, 8, 9], par := true },
  { id := 15, live := [0, 1, 2, 7, 8, 9] },
  { id := 18, live := [0, 1, 2, 7, 8, 98] },
  { id := 19, live := [0, 1, 2, 7, 8, 10] },
  { id := 20, live := [0, 1, 2, 7, 8, 10, 103], hdr := [0, 1, 2, 7, 8, 10] },
  { id := 22, head := some 11, live := [0, 1, 2, 7, 8, 10, 116] },
  { id := 23, head := some 18, live := [0, 1, 2, 7, 8, 10], par := true },
  { id := 21, live := [0, 1, 2, 7, 8, 10] },
  { id := 4, live := [0, 1, 2, 7, 8] },
  { id := 24, live := [6] }]

theorem comp111 : compF Try.prog an111 Try.f111 = some a111 := by kernel_rfl

/- cmp.Less[string] -/
def c112 : ACode :=
  .seq (.region none [] [
      ⟨some 4, .mov (.cst (.bool false)), none⟩] [0, 1] none)
    (.seq (.region none [] [
      ⟨some 5, .mov (.tmp 0), none⟩,
      ⟨some 6, .call .pure 124 [(.tmp 5)], none⟩,
      ⟨some 7, .mov (.tmp 6), none⟩,
      ⟨some 8, .mov (.tmp 1), some (7, true)⟩,
      ⟨some 9, .call .pure 124 [(.tmp 8)], some (7, true)⟩,
      ⟨some 10, .un .not (.tmp 9), some (7, true)⟩,
      ⟨some 11, .pick (.tmp 7) (.tmp 10) (.cst (.bool false)), none⟩,
      ⟨some 12, .mov (.tmp 11), none⟩,
      ⟨some 13, .mov (.tmp 0), some (12, false)⟩,
      ⟨some 14, .mov (.tmp 1), some (12, false)⟩,
      ⟨some 15, .bin .lss .str (.tmp 13) (.tmp 14), some (12, false)⟩,
      ⟨some 16, .pick (.tmp 12) (.cst (.bool true)) (.tmp 15), none⟩,
      ⟨some 4, .mov (.tmp 16), none⟩] [4] none)
    (.ret))

def a112 : AFunc := ⟨2, c112, [.tmp 4]⟩

def an112 : List RAnn := [
  { id := 0, live := [0, 1] },
  { id := 1, live := [4] }]

theorem comp112 : compF Try.prog an112 Try.f112 = some a112 := by kernel_rfl

/- slices.partitionEqualOrdered[string] -/
/-- loop 0 of function 113 -/
def l113_0_h : List Nat := [0, 1, 9, 10]

def l113_0_b : ACode :=
  .seq (.seq (.region (some 15) [] [
      ⟨some 29, .mov (.tmp 9), none⟩,
      ⟨some 30, .mov (.tmp 10), none⟩,
      ⟨some 31, .bin .leq .int (.tmp 29) (.tmp 30), none⟩,
      ⟨some 32, .mov (.tmp 31), none⟩,
      ⟨some 33, .mov (.tmp 0), some (32, true)⟩,
      ⟨some 34, .mov (.tmp 1), some (32, true)⟩,
      ⟨some 35, .iaddr 1 (.tmp 33) (.tmp 34), some (32, true)⟩,
      ⟨some 36, .load none (.tmp 35), some (32, true)⟩,
      ⟨some 37, .mov (.tmp 0), some (32, true)⟩,
      ⟨some 38, .mov (.tmp 9), some (32, true)⟩,
      ⟨some 39, .iaddr 1 (.tmp 37) (.tmp 38), some (32, true)⟩,
      ⟨some 40, .load none (.tmp 39), some (32, true)⟩,
      ⟨some 41, .call .pure 112 [(.tmp 36), (.tmp 40)], some (32, true)⟩,
      ⟨some 42, .un .not (.tmp 41), some (32, true)⟩,
      ⟨some 43, .pick (.tmp 32) (.tmp 42) (.cst (.bool false)), none⟩] [0, 1, 9, 10, 43] none)
    (.cond (.tmp 43) (.skip)
    (.exit 2)))
    (.block 3 (.region none [] [
        ⟨some 44, .mov (.tmp 9), none⟩,
        ⟨some 45, .bin .add .int (.tmp 44) (.cst (.int .i64 1)), none⟩,
        ⟨some 9, .mov (.tmp 45), none⟩] [0, 1, 9, 10] none))

/-- loop 1 of function 113 -/
def l113_1_h : List Nat := [0, 1, 9, 10]

def l113_1_b : ACode :=
  .seq (.seq (.region (some 14) [] [
      ⟨some 46, .mov (.tmp 9), none⟩,
      ⟨some 47, .mov (.tmp 10), none⟩,
      ⟨some 48, .bin .leq .int (.tmp 46) (.tmp 47), none⟩,
      ⟨some 49, .mov (.tmp 48), none⟩,
      ⟨some 50, .mov (.tmp 0), some (49, true)⟩,
      ⟨some 51, .mov (.tmp 1), some (49, true)⟩,
      ⟨some 52, .iaddr 1 (.tmp 50) (.tmp 51), some (49, true)⟩,
      ⟨some 53, .load none (.tmp 52), some (49, true)⟩,
      ⟨some 54, .mov (.tmp 0), some (49, true)⟩,
      ⟨some 55, .mov (.tmp 10), some (49, true)⟩,
      ⟨some 56, .iaddr 1 (.tmp 54) (.tmp 55), some (49, true)⟩,
      ⟨some 57, .load none (.tmp 56), some (49, true)⟩,
      ⟨some 58, .call .pure 112 [(.tmp 53), (.tmp 57)], some (49, true)⟩,
      ⟨some 59, .pick (.tmp 49) (.tmp 58) (.cst (.bool false)), none⟩] [0, 1, 9, 10, 59] none)
    (.cond (.tmp 59) (.skip)
    (.exit 4)))
    (.block 5 (.region none [] [
        ⟨some 60, .mov (.tmp 10), none⟩,
        ⟨some 61, .bin .sub .int (.tmp 60) (.cst (.int .i64 1)), none⟩,
        ⟨some 10, .mov (.tmp 61), none⟩] [0, 1, 9, 10] none))

/-- loop 2 of function 113 -/
def l113_2_h : List Nat := [0, 1, 9, 10]

def l113_2_b : ACode :=
  .block 1 (.seq (.block 2 (.loop l113_0_h l113_0_b))
      (.seq (.block 4 (.loop l113_1_h l113_1_b))
      (.seq (.seq (.region none [] [
        ⟨some 62, .mov (.tmp 9), none⟩,
        ⟨some 63, .mov (.tmp 10), none⟩,
        ⟨some 64, .bin .gtr .int (.tmp 62) (.tmp 63), none⟩] [0, 1, 9, 10, 64] none)
      (.cond (.tmp 64) (.exit 0)
      (.skip)))
      (.seq (.par 16 [] [] [
        ⟨some 65, .mov (.tmp 0), none⟩,
        ⟨some 66, .mov (.tmp 9), none⟩,
        ⟨some 67, .mov (.tmp 0), none⟩,
        ⟨some 68, .mov (.tmp 10), none⟩,
        ⟨some 69, .mov (.tmp 0), none⟩,
        ⟨some 70, .mov (.tmp 10), none⟩,
        ⟨some 71, .iaddr 1 (.tmp 69) (.tmp 70), none⟩,
        ⟨some 72, .load none (.tmp 71), none⟩,
        ⟨some 73, .mov (.tmp 0), none⟩,
        ⟨some 74, .mov (.tmp 9), none⟩,
        ⟨some 75, .iaddr 1 (.tmp 73) (.tmp 74), none⟩,
        ⟨some 76, .load none (.tmp 75), none⟩,
        ⟨some 77, .iaddr 1 (.tmp 65) (.tmp 66), none⟩,
        ⟨none, .store 1 (.tmp 77) (.tmp 72), none⟩,
        ⟨some 78, .iaddr 1 (.tmp 67) (.tmp 68), none⟩,
        ⟨none, .store 1 (.tmp 78) (.tmp 76), none⟩] [0, 1, 9, 10] none)
      (.seq (.region none [] [
        ⟨some 79, .mov (.tmp 9), none⟩,
        ⟨some 80, .bin .add .int (.tmp 79) (.cst (.int .i64 1)), none⟩,
        ⟨some 9, .mov (.tmp 80), none⟩] [0, 1, 9, 10] none)
      (.region none [] [
        ⟨some 81, .mov (.tmp 10), none⟩,
        ⟨some 82, .bin .sub .int (.tmp 81) (.cst (.int .i64 1)), none⟩,
        ⟨some 10, .mov (.tmp 82), none⟩] [0, 1, 9, 10] none))))))

def c113 : ACode :=
  .seq (.region none [] [
      ⟨some 8, .mov (.cst (.int .i64 0)), none⟩] [0, 1, 2, 3] none)
    (.seq (.par 16 [] [] [
      ⟨some 11, .mov (.tmp 0), none⟩,
      ⟨some 12, .mov (.tmp 1), none⟩,
      ⟨some 13, .mov (.tmp 0), none⟩,
      ⟨some 14, .mov (.tmp 3), none⟩,
      ⟨some 15, .mov (.tmp 0), none⟩,
      ⟨some 16, .mov (.tmp 3), none⟩,
      ⟨some 17, .iaddr 1 (.tmp 15) (.tmp 16), none⟩,
      ⟨some 18, .load none (.tmp 17), none⟩,
      ⟨some 19, .mov (.tmp 0), none⟩,
      ⟨some 20, .mov (.tmp 1), none⟩,
      ⟨some 21, .iaddr 1 (.tmp 19) (.tmp 20), none⟩,
      ⟨some 22, .load none (.tmp 21), none⟩,
      ⟨some 23, .iaddr 1 (.tmp 11) (.tmp 12), none⟩,
      ⟨none, .store 1 (.tmp 23) (.tmp 18), none⟩,
      ⟨some 24, .iaddr 1 (.tmp 13) (.tmp 14), none⟩,
      ⟨none, .store 1 (.tmp 24) (.tmp 22), none⟩] [0, 1, 2] none)
    (.seq (.region none [] [
      ⟨some 25, .mov (.tmp 1), none⟩,
      ⟨some 26, .bin .add .int (.tmp 25) (.cst (.int .i64 1)), none⟩,
      ⟨some 27, .mov (.tmp 2), none⟩,
      ⟨some 28, .bin .sub .int (.tmp 27) (.cst (.int .i64 1)), none⟩,
      ⟨some 9, .mov (.tmp 26), none⟩,
      ⟨some 10, .mov (.tmp 28), none⟩] [0, 1, 9, 10] none)
    (.seq (.block 0 (.loop l113_2_h l113_2_b))
    (.seq (.region none [] [
      ⟨some 83, .mov (.tmp 9), none⟩,
      ⟨some 8, .mov (.tmp 83), none⟩] [8] none)
    (.ret)))))

def a113 : AFunc := ⟨4, c113, [.tmp 8]⟩

def an113 : List RAnn := [
  { id := 0, live := [0, 1, 2, 3] },
  { id := 1, head := some 16, live := [0, 1, 2], par := true },
  { id := 2, live := [0, 1, 9, 10] },
  { id := 3, head := some 15, live := [0, 1, 9, 10, 43], hdr := [0, 1, 9, 10] },
  { id := 4, live := [0, 1, 9, 10] },
  { id := 5, head := some 14, live := [0, 1, 9, 10, 59], hdr := [0, 1, 9, 10] },
  { id := 6, live := [0, 1, 9, 10] },
  { id := 7, live := [0, 1, 9, 10, 64] },
  { id := 8, head := some 16, live := [0, 1, 9, 10], par := true },
  { id := 9, live := [0, 1, 9, 10] },
  { id := 10, live := [0, 1, 9, 10] },
  { id := 11, live := [8] }]

theorem comp113 : compF Try.prog an113 Try.f113 = some a113 := by kernel_rfl

/- slices.partitionOrdered[string] -/
/-- loop 0 of function 114 -/
def l114_0_h : List Nat := [0, 1, 10, 11]

def l114_0_b : ACode :=
  .seq (.seq (.region (some 14) [] [
      ⟨some 30, .mov (.tmp 10), none⟩,
      ⟨some 31, .mov (.tmp 11), none⟩,
      ⟨some 32, .bin .leq .int (.tmp 30) (.tmp 31), none⟩,
      ⟨some 33, .mov (.tmp 32), none⟩,
      ⟨some 34, .mov (.tmp 0), some (33, true)⟩,
      ⟨some 35, .mov (.tmp 10), some (33, true)⟩,
      ⟨some 36, .iaddr 1 (.tmp 34) (.tmp 35), some (33, true)⟩,
      ⟨some 37, .load none (.tmp 36), some (33, true)⟩,
      ⟨some 38, .mov (.tmp 0), some (33, true)⟩,
      ⟨some 39, .mov (.tmp 1), some (33, true)⟩,
      ⟨some 40, .iaddr 1 (.tmp 38) (.tmp 39), some (33, true)⟩,
      ⟨some 41, .load none (.tmp 40), some (33, true)⟩,
      ⟨some 42, .call .pure 112 [(.tmp 37), (.tmp 41)], some (33, true)⟩,
      ⟨some 43, .pick (.tmp 33) (.tmp 42) (.cst (.bool false)), none⟩] [0, 1, 10, 11, 43] none)
    (.cond (.tmp 43) (.skip)
    (.exit 0)))
    (.block 1 (.region none [] [
        ⟨some 44, .mov (.tmp 10), none⟩,
        ⟨some 45, .bin .add .int (.tmp 44) (.cst (.int .i64 1)), none⟩,
        ⟨some 10, .mov (.tmp 45), none⟩] [0, 1, 10, 11] none))

/-- loop 1 of function 114 -/
def l114_1_h : List Nat := [0, 1, 10, 11]

def l114_1_b : ACode :=
  .seq (.seq (.region (some 15) [] [
      ⟨some 46, .mov (.tmp 10), none⟩,
      ⟨some 47, .mov (.tmp 11), none⟩,
      ⟨some 48, .bin .leq .int (.tmp 46) (.tmp 47), none⟩,
      ⟨some 49, .mov (.tmp 48), none⟩,
      ⟨some 50, .mov (.tmp 0), some (49, true)⟩,
      ⟨some 51, .mov (.tmp 11), some (49, true)⟩,
      ⟨some 52, .iaddr 1 (.tmp 50) (.tmp 51), some (49, true)⟩,
      ⟨some 53, .load none (.tmp 52), some (49, true)⟩,
      ⟨some 54, .mov (.tmp 0), some (49, true)⟩,
      ⟨some 55, .mov (.tmp 1), some (49, true)⟩,
      ⟨some 56, .iaddr 1 (.tmp 54) (.tmp 55), some (49, true)⟩,
      ⟨some 57, .load none (.tmp 56), some (49, true)⟩,
      ⟨some 58, .call .pure 112 [(.tmp 53), (.tmp 57)], some (49, true)⟩,
      ⟨some 59, .un .not (.tmp 58), some (49, true)⟩,
      ⟨some 60, .pick (.tmp 49) (.tmp 59) (.cst (.bool false)), none⟩] [0, 1, 10, 11, 60] none)
    (.cond (.tmp 60) (.skip)
    (.exit 2)))
    (.block 3 (.region none [] [
        ⟨some 61, .mov (.tmp 11), none⟩,
        ⟨some 62, .bin .sub .int (.tmp 61) (.cst (.int .i64 1)), none⟩,
        ⟨some 11, .mov (.tmp 62), none⟩] [0, 1, 10, 11] none))

/-- loop 2 of function 114 -/
def l114_2_h : List Nat := [0, 1, 10, 11]

def l114_2_b : ACode :=
  .seq (.seq (.region (some 14) [] [
      ⟨some 99, .mov (.tmp 10), none⟩,
      ⟨some 100, .mov (.tmp 11), none⟩,
      ⟨some 101, .bin .leq .int (.tmp 99) (.tmp 100), none⟩,
      ⟨some 102, .mov (.tmp 101), none⟩,
      ⟨some 103, .mov (.tmp 0), some (102, true)⟩,
      ⟨some 104, .mov (.tmp 10), some (102, true)⟩,
      ⟨some 105, .iaddr 1 (.tmp 103) (.tmp 104), some (102, true)⟩,
      ⟨some 106, .load none (.tmp 105), some (102, true)⟩,
      ⟨some 107, .mov (.tmp 0), some (102, true)⟩,
      ⟨some 108, .mov (.tmp 1), some (102, true)⟩,
      ⟨some 109, .iaddr 1 (.tmp 107) (.tmp 108), some (102, true)⟩,
      ⟨some 110, .load none (.tmp 109), some (102, true)⟩,
      ⟨some 111, .call .pure 112 [(.tmp 106), (.tmp 110)], some (102, true)⟩,
      ⟨some 112, .pick (.tmp 102) (.tmp 111) (.cst (.bool false)), none⟩] [0, 1, 10, 11, 112] none)
    (.cond (.tmp 112) (.skip)
    (.exit 6)))
    (.block 7 (.region none [] [
        ⟨some 113, .mov (.tmp 10), none⟩,
        ⟨some 114, .bin .add .int (.tmp 113) (.cst (.int .i64 1)), none⟩,
        ⟨some 10, .mov (.tmp 114), none⟩] [0, 1, 10, 11] none))

/-- loop 3 of function 114 -/
def l114_3_h : List Nat := [0, 1, 10, 11]

def l114_3_b : ACode :=
  .seq (.seq (.region (some 15) [] [
      ⟨some 115, .mov (.tmp 10), none⟩,
      ⟨some 116, .mov (.tmp 11), none⟩,
      ⟨some 117, .bin .leq .int (.tmp 115) (.tmp 116), none⟩,
      ⟨some 118, .mov (.tmp 117), none⟩,
      ⟨some 119, .mov (.tmp 0), some (118, true)⟩,
      ⟨some 120, .mov (.tmp 11), some (118, true)⟩,
      ⟨some 121, .iaddr 1 (.tmp 119) (.tmp 120), some (118, true)⟩,
      ⟨some 122, .load none (.tmp 121), some (118, true)⟩,
      ⟨some 123, .mov (.tmp 0), some (118, true)⟩,
      ⟨some 124, .mov (.tmp 1), some (118, true)⟩,
      ⟨some 125, .iaddr 1 (.tmp 123) (.tmp 124), some (118, true)⟩,
      ⟨some 126, .load none (.tmp 125), some (118, true)⟩,
      ⟨some 127, .call .pure 112 [(.tmp 122), (.tmp 126)], some (118, true)⟩,
      ⟨some 128, .un .not (.tmp 127), some (118, true)⟩,
      ⟨some 129, .pick (.tmp 118) (.tmp 128) (.cst (.bool false)), none⟩] [0, 1, 10, 11, 129] none)
    (.cond (.tmp 129) (.skip)
    (.exit 8)))
    (.block 9 (.region none [] [
        ⟨some 130, .mov (.tmp 11), none⟩,
        ⟨some 131, .bin .sub .int (.tmp 130) (.cst (.int .i64 1)), none⟩,
        ⟨some 11, .mov (.tmp 131), none⟩] [0, 1, 10, 11] none))

/-- loop 4 of function 114 -/
def l114_4_h : List Nat := [0, 1, 10, 11]

def l114_4_b : ACode :=
  .block 5 (.seq (.block 6 (.loop l114_2_h l114_2_b))
      (.seq (.block 8 (.loop l114_3_h l114_3_b))
      (.seq (.seq (.region none [] [
        ⟨some 132, .mov (.tmp 10), none⟩,
        ⟨some 133, .mov (.tmp 11), none⟩,
        ⟨some 134, .bin .gtr .int (.tmp 132) (.tmp 133), none⟩] [0, 1, 10, 11, 134] none)
      (.cond (.tmp 134) (.exit 4)
      (.skip)))
      (.seq (.par 16 [] [] [
        ⟨some 135, .mov (.tmp 0), none⟩,
        ⟨some 136, .mov (.tmp 10), none⟩,
        ⟨some 137, .mov (.tmp 0), none⟩,
        ⟨some 138, .mov (.tmp 11), none⟩,
        ⟨some 139, .mov (.tmp 0), none⟩,
        ⟨some 140, .mov (.tmp 11), none⟩,
        ⟨some 141, .iaddr 1 (.tmp 139) (.tmp 140), none⟩,
        ⟨some 142, .load none (.tmp 141), none⟩,
        ⟨some 143, .mov (.tmp 0), none⟩,
        ⟨some 144, .mov (.tmp 10), none⟩,
        ⟨some 145, .iaddr 1 (.tmp 143) (.tmp 144), none⟩,
        ⟨some 146, .load none (.tmp 145), none⟩,
        ⟨some 147, .iaddr 1 (.tmp 135) (.tmp 136), none⟩,
        ⟨none, .store 1 (.tmp 147) (.tmp 142), none⟩,
        ⟨some 148, .iaddr 1 (.tmp 137) (.tmp 138), none⟩,
        ⟨none, .store 1 (.tmp 148) (.tmp 146), none⟩] [0, 1, 10, 11] none)
      (.seq (.region none [] [
        ⟨some 149, .mov (.tmp 10), none⟩,
        ⟨some 150, .bin .add .int (.tmp 149) (.cst (.int .i64 1)), none⟩,
        ⟨some 10, .mov (.tmp 150), none⟩] [0, 1, 10, 11] none)
      (.region none [] [
        ⟨some 151, .mov (.tmp 11), none⟩,
        ⟨some 152, .bin .sub .int (.tmp 151) (.cst (.int .i64 1)), none⟩,
        ⟨some 11, .mov (.tmp 152), none⟩] [0, 1, 10, 11] none))))))

def c114 : ACode :=
  .seq (.region none [] [
      ⟨some 8, .mov (.cst (.int .i64 0)), none⟩,
      ⟨some 9, .mov (.cst (.bool false)), none⟩] [0, 1, 2, 3] none)
    (.seq (.par 16 [] [] [
      ⟨some 12, .mov (.tmp 0), none⟩,
      ⟨some 13, .mov (.tmp 1), none⟩,
      ⟨some 14, .mov (.tmp 0), none⟩,
      ⟨some 15, .mov (.tmp 3), none⟩,
      ⟨some 16, .mov (.tmp 0), none⟩,
      ⟨some 17, .mov (.tmp 3), none⟩,
      ⟨some 18, .iaddr 1 (.tmp 16) (.tmp 17), none⟩,
      ⟨some 19, .load none (.tmp 18), none⟩,
      ⟨some 20, .mov (.tmp 0), none⟩,
      ⟨some 21, .mov (.tmp 1), none⟩,
      ⟨some 22, .iaddr 1 (.tmp 20) (.tmp 21), none⟩,
      ⟨some 23, .load none (.tmp 22), none⟩,
      ⟨some 24, .iaddr 1 (.tmp 12) (.tmp 13), none⟩,
      ⟨none, .store 1 (.tmp 24) (.tmp 19), none⟩,
      ⟨some 25, .iaddr 1 (.tmp 14) (.tmp 15), none⟩,
      ⟨none, .store 1 (.tmp 25) (.tmp 23), none⟩] [0, 1, 2] none)
    (.seq (.region none [] [
      ⟨some 26, .mov (.tmp 1), none⟩,
      ⟨some 27, .bin .add .int (.tmp 26) (.cst (.int .i64 1)), none⟩,
      ⟨some 28, .mov (.tmp 2), none⟩,
      ⟨some 29, .bin .sub .int (.tmp 28) (.cst (.int .i64 1)), none⟩,
      ⟨some 10, .mov (.tmp 27), none⟩,
      ⟨some 11, .mov (.tmp 29), none⟩] [0, 1, 10, 11] none)
    (.seq (.block 0 (.loop l114_0_h l114_0_b))
    (.seq (.block 2 (.loop l114_1_h l114_1_b))
    (.seq (.seq (.region none [] [
      ⟨some 63, .mov (.tmp 10), none⟩,
      ⟨some 64, .mov (.tmp 11), none⟩,
      ⟨some 65, .bin .gtr .int (.tmp 63) (.tmp 64), none⟩] [0, 1, 10, 11, 65] none)
    (.cond (.tmp 65) (.seq (.par 16 [] [] [
        ⟨some 66, .mov (.tmp 0), none⟩,
        ⟨some 67, .mov (.tmp 11), none⟩,
        ⟨some 68, .mov (.tmp 0), none⟩,
        ⟨some 69, .mov (.tmp 1), none⟩,
        ⟨some 70, .mov (.tmp 0), none⟩,
        ⟨some 71, .mov (.tmp 1), none⟩,
        ⟨some 72, .iaddr 1 (.tmp 70) (.tmp 71), none⟩,
        ⟨some 73, .load none (.tmp 72), none⟩,
        ⟨some 74, .mov (.tmp 0), none⟩,
        ⟨some 75, .mov (.tmp 11), none⟩,
        ⟨some 76, .iaddr 1 (.tmp 74) (.tmp 75), none⟩,
        ⟨some 77, .load none (.tmp 76), none⟩,
        ⟨some 78, .iaddr 1 (.tmp 66) (.tmp 67), none⟩,
        ⟨none, .store 1 (.tmp 78) (.tmp 73), none⟩,
        ⟨some 79, .iaddr 1 (.tmp 68) (.tmp 69), none⟩,
        ⟨none, .store 1 (.tmp 79) (.tmp 77), none⟩] [11] none)
      (.seq (.region none [] [
        ⟨some 80, .mov (.tmp 11), none⟩,
        ⟨some 8, .mov (.tmp 80), none⟩,
        ⟨some 9, .mov (.cst (.bool true)), none⟩] [8, 9] none)
      (.ret)))
    (.skip)))
    (.seq (.par 16 [] [] [
      ⟨some 81, .mov (.tmp 0), none⟩,
      ⟨some 82, .mov (.tmp 10), none⟩,
      ⟨some 83, .mov (.tmp 0), none⟩,
      ⟨some 84, .mov (.tmp 11), none⟩,
      ⟨some 85, .mov (.tmp 0), none⟩,
      ⟨some 86, .mov (.tmp 11), none⟩,
      ⟨some 87, .iaddr 1 (.tmp 85) (.tmp 86), none⟩,
      ⟨some 88, .load none (.tmp 87), none⟩,
      ⟨some 89, .mov (.tmp 0), none⟩,
      ⟨some 90, .mov (.tmp 10), none⟩,
      ⟨some 91, .iaddr 1 (.tmp 89) (.tmp 90), none⟩,
      ⟨some 92, .load none (.tmp 91), none⟩,
      ⟨some 93, .iaddr 1 (.tmp 81) (.tmp 82), none⟩,
      ⟨none, .store 1 (.tmp 93) (.tmp 88), none⟩,
      ⟨some 94, .iaddr 1 (.tmp 83) (.tmp 84), none⟩,
      ⟨none, .store 1 (.tmp 94) (.tmp 92), none⟩] [0, 1, 10, 11] none)
    (.seq (.region none [] [
      ⟨some 95, .mov (.tmp 10), none⟩,
      ⟨some 96, .bin .add .int (.tmp 95) (.cst (.int .i64 1)), none⟩,
      ⟨some 10, .mov (.tmp 96), none⟩] [0, 1, 10, 11] none)
    (.seq (.region none [] [
      ⟨some 97, .mov (.tmp 11), none⟩,
      ⟨some 98, .bin .sub .int (.tmp 97) (.cst (.int .i64 1)), none⟩,
      ⟨some 11, .mov (.tmp 98), none⟩] [0, 1, 10, 11] none)
    (.seq (.block 4 (.loop l114_4_h l114_4_b))
    (.seq (.par 16 [] [] [
      ⟨some 153, .mov (.tmp 0), none⟩,
      ⟨some 154, .mov (.tmp 11), none⟩,
      ⟨some 155, .mov (.tmp 0), none⟩,
      ⟨some 156, .mov (.tmp 1), none⟩,
      ⟨some 157, .mov (.tmp 0), none⟩,
      ⟨some 158, .mov (.tmp 1), none⟩,
      ⟨some 159, .iaddr 1 (.tmp 157) (.tmp 158), none⟩,
      ⟨some 160, .load none (.tmp 159), none⟩,
      ⟨some 161, .mov (.tmp 0), none⟩,
      ⟨some 162, .mov (.tmp 11), none⟩,
      ⟨some 163, .iaddr 1 (.tmp 161) (.tmp 162), none⟩,
      ⟨some 164, .load none (.tmp 163), none⟩,
      ⟨some 165, .iaddr 1 (.tmp 153) (.tmp 154), none⟩,
      ⟨none, .store 1 (.tmp 165) (.tmp 160), none⟩,
      ⟨some 166, .iaddr 1 (.tmp 155) (.tmp 156), none⟩,
      ⟨none, .store 1 (.tmp 166) (.tmp 164), none⟩] [11] none)
    (.seq (.region none [] [
      ⟨some 167, .mov (.tmp 11), none⟩,
      ⟨some 8, .mov (.tmp 167), none⟩,
      ⟨some 9, .mov (.cst (.bool false)), none⟩] [8, 9] none)
    (.ret))))))))))))

def a114 : AFunc := ⟨4, c114, [.tmp 8, .tmp 9]⟩

def an114 : List RAnn := [
  { id := 0, live := [0, 1, 2, 3] },
  { id := 1, head := some 16, live := [0, 1, 2], par := true },
  { id := 2, live := [0, 1, 10, 11] },
  { id := 3, head := some 14, live := [0, 1, 10, 11, 43], hdr := [0, 1, 10, 11] },
  { id := 4, live := [0, 1, 10, 11] },
  { id := 5, head := some 15, live := [0, 1, 10, 11, 60], hdr := [0, 1, 10, 11] },
  { id := 6, live := [0, 1, 10, 11] },
  { id := 7, live := [0, 1, 10, 11, 65] },
  { id := 8, head := some 16, live := [11], par := true },
  { id := 9, live := [8, 9] },
  { id := 10, head := some 16, live := [0, 1, 10, 11], par := true },
  { id := 11, live := [0, 1, 10, 11] },
  { id := 12, live := [0, 1, 10, 11] },
  { id := 13, head := some 14, live := [0, 1, 10, 11, 112], hdr := [0, 1, 10, 11] },
  { id := 14, live := [0, 1, 10, 11] },
  { id := 15, head := some 15, live := [0, 1, 10, 11, 129], hdr := [0, 1, 10, 11] },
  { id := 16, live := [0, 1, 10, 11] },
  { id := 17, live := [0, 1, 10, 11, 134] },
  { id := 18, head := some 16, live := [0, 1, 10, 11], par := true },
  { id := 19, live := [0, 1, 10, 11] },
  { id := 20, live := [0, 1, 10, 11] },
  { id := 21, head := some 16, live := [11], par := true },
  { id := 22, live := [8, 9] }]

theorem comp114 : compF Try.prog an114 Try.f114 = some a114 := by kernel_rfl

/- math/bits.Len32 -/
def c115 : ACode :=
  .seq (.region none [] [
      ⟨some 2, .mov (.cst (.int .i64 0)), none⟩] [0, 2] none)
    (.seq (.seq (.region none [] [
      ⟨some 3, .mov (.tmp 0), none⟩,
      ⟨some 4, .bin .geq .int (.tmp 3) (.cst (.int .u32 65536)), none⟩] [0, 2, 4] none)
    (.cond (.tmp 4) (.seq (.region none [] [
        ⟨some 5, .mov (.tmp 0), none⟩,
        ⟨some 6, .bin .shr .int (.tmp 5) (.cst (.int .u64 16)), none⟩,
        ⟨some 0, .mov (.tmp 6), none⟩] [0] none)
      (.region none [] [
        ⟨some 2, .mov (.cst (.int .i64 16)), none⟩] [0, 2] none))
    (.skip)))
    (.seq (.seq (.region none [] [
      ⟨some 7, .mov (.tmp 0), none⟩,
      ⟨some 8, .bin .geq .int (.tmp 7) (.cst (.int .u32 256)), none⟩] [0, 2, 8] none)
    (.cond (.tmp 8) (.seq (.region none [] [
        ⟨some 9, .mov (.tmp 0), none⟩,
        ⟨some 10, .bin .shr .int (.tmp 9) (.cst (.int .u64 8)), none⟩,
        ⟨some 0, .mov (.tmp 10), none⟩] [0, 2] none)
      (.region none [] [
        ⟨some 11, .mov (.tmp 2), none⟩,
        ⟨some 12, .bin .add .int (.tmp 11) (.cst (.int .i64 8)), none⟩,
        ⟨some 2, .mov (.tmp 12), none⟩] [0, 2] none))
    (.skip)))
    (.seq (.region none [] [
      ⟨some 13, .mov (.tmp 2), none⟩,
      ⟨some 14, .mov (.tmp 0), none⟩,
      ⟨some 15, .conv .u8 (.tmp 14), none⟩,
      ⟨some 16, .sidx (.cst (.str [0, 1, 2, 2, 3, 3, 3, 3, 4, 4, 4, 4, 4, 4, 4, 4, 5, 5, 5, 5, 5, 5, 5, 5, 5, 5, 5, 5, 5, 5, 5, 5, 6, 6, 6, 6, 6, 6, 6, 6, 6, 6, 6, 6, 6, 6, 6, 6, 6, 6, 6, 6, 6, 6, 6, 6, 6, 6, 6, 6, 6, 6, 6, 6, 7, 7, 7, 7, 7, 7, 7, 7, 7, 7, 7, 7, 7, 7, 7, 7, 7, 7, 7, 7, 7, 7, 7, 7, 7, 7, 7, 7, 7, 7, 7, 7, 7, 7, 7, 7, 7, 7, 7, 7, 7, 7, 7, 7, 7, 7, 7, 7, 7, 7, 7, 7, 7, 7, 7, 7, 7, 7, 7, 7, 7, 7, 7, 7, 8, 8, 8, 8, 8, 8, 8, 8, 8, 8, 8, 8, 8, 8, 8, 8, 8, 8, 8, 8, 8, 8, 8, 8, 8, 8, 8, 8, 8, 8, 8, 8, 8, 8, 8, 8, 8, 8, 8, 8, 8, 8, 8, 8, 8, 8, 8, 8, 8, 8, 8, 8, 8, 8, 8, 8, 8, 8, 8, 8, 8, 8, 8, 8, 8, 8, 8, 8, 8, 8, 8, 8, 8, 8, 8, 8, 8, 8, 8, 8, 8, 8, 8, 8, 8, 8, 8, 8, 8, 8, 8, 8, 8, 8, 8, 8, 8, 8, 8, 8, 8, 8, 8, 8, 8, 8, 8, 8, 8, 8, 8, 8, 8, 8, 8, 8, 8, 8, 8, 8, 8, 8, 8, 8, 8, 8, 8, 8])) (.tmp 15), none⟩,
      ⟨some 17, .conv .i64 (.tmp 16), none⟩,
      ⟨some 18, .bin .add .int (.tmp 13) (.tmp 17), none⟩,
      ⟨some 2, .mov (.tmp 18), none⟩] [2] none)
    (.ret))))

def a115 : AFunc := ⟨1, c115, [.tmp 2]⟩

def an115 : List RAnn := [
  { id := 0, live := [0, 2] },
  { id := 1, live := [0, 2, 4] },
  { id := 2, live := [0] },
  { id := 3, live := [0, 2] },
  { id := 4, live := [0, 2, 8] },
  { id := 5, live := [0, 2] },
  { id := 6, live := [0, 2] },
  { id := 7, live := [2] }]

theorem comp115 : compF Try.prog an115 Try.f115 = some a115 := by kernel_rfl

/- math/bits.Len64 -/
def c116 : ACode :=
  .seq (.region none [] [
      ⟨some 2, .mov (.cst (.int .i64 0)), none⟩] [0, 2] none)
    (.seq (.seq (.region none [] [
      ⟨some 3, .mov (.tmp 0), none⟩,
      ⟨some 4, .bin .geq .int (.tmp 3) (.cst (.int .u64 4294967296)), none⟩] [0, 2, 4] none)
    (.cond (.tmp 4) (.seq (.region none [] [
        ⟨some 5, .mov (.tmp 0), none⟩,
        ⟨some 6, .bin .shr .int (.tmp 5) (.cst (.int .u64 32)), none⟩,
        ⟨some 0, .mov (.tmp 6), none⟩] [0] none)
      (.region none [] [
        ⟨some 2, .mov (.cst (.int .i64 32)), none⟩] [0, 2] none))
    (.skip)))
    (.seq (.seq (.region none [] [
      ⟨some 7, .mov (.tmp 0), none⟩,
      ⟨some 8, .bin .geq .int (.tmp 7) (.cst (.int .u64 65536)), none⟩] [0, 2, 8] none)
    (.cond (.tmp 8) (.seq (.region none [] [
        ⟨some 9, .mov (.tmp 0), none⟩,
        ⟨some 10, .bin .shr .int (.tmp 9) (.cst (.int .u64 16)), none⟩,
        ⟨some 0, .mov (.tmp 10), none⟩] [0, 2] none)
      (.region none [] [
        ⟨some 11, .mov (.tmp 2), none⟩,
        ⟨some 12, .bin .add .int (.tmp 11) (.cst (.int .i64 16)), none⟩,
        ⟨some 2, .mov (.tmp 12), none⟩] [0, 2] none))
    (.skip)))
    (.seq (.seq (.region none [] [
      ⟨some 13, .mov (.tmp 0), none⟩,
      ⟨some 14, .bin .geq .int (.tmp 13) (.cst (.int .u64 256)), none⟩] [0, 2, 14] none)
    (.cond (.tmp 14) (.seq (.region none [] [
        ⟨some 15, .mov (.tmp 0), none⟩,
        ⟨some 16, .bin .shr .int (.tmp 15) (.cst (.int .u64 8)), none⟩,
        ⟨some 0, .mov (.tmp 16), none⟩] [0, 2] none)
      (.region none [] [
        ⟨some 17, .mov (.tmp 2), none⟩,
        ⟨some 18, .bin .add .int (.tmp 17) (.cst (.int .i64 8)), none⟩,
        ⟨some 2, .mov (.tmp 18), none⟩] [0, 2] none))
    (.skip)))
    (.seq (.region none [] [
      ⟨some 19, .mov (.tmp 2), none⟩,
      ⟨some 20, .mov (.tmp 0), none⟩,
      ⟨some 21, .conv .u8 (.tmp 20), none⟩,
      ⟨some 22, .sidx (.cst (.str [0, 1, 2, 2, 3, 3, 3, 3, 4, 4, 4, 4, 4, 4, 4, 4, 5, 5, 5, 5, 5, 5, 5, 5, 5, 5, 5, 5, 5, 5, 5, 5, 6, 6, 6, 6, 6, 6, 6, 6, 6, 6, 6, 6, 6, 6, 6, 6, 6, 6, 6, 6, 6, 6, 6, 6, 6, 6, 6, 6, 6, 6, 6, 6, 7, 7, 7, 7, 7, 7, 7, 7, 7, 7, 7, 7, 7, 7, 7, 7, 7, 7, 7, 7, 7, 7, 7, 7, 7, 7, 7, 7, 7, 7, 7, 7, 7, 7, 7, 7, 7, 7, 7, 7, 7, 7, 7, 7, 7, 7, 7, 7, 7, 7, 7, 7, 7, 7, 7, 7, 7, 7, 7, 7, 7, 7, 7, 7, 8, 8, 8, 8, 8, 8, 8, 8, 8, 8, 8, 8, 8, 8, 8, 8, 8, 8, 8, 8, 8, 8, 8, 8, 8, 8, 8, 8, 8, 8, 8, 8, 8, 8, 8, 8, 8, 8, 8, 8, 8, 8, 8, 8, 8, 8, 8, 8, 8, 8, 8, 8, 8, 8, 8, 8, 8, 8, 8, 8, 8, 8, 8, 8, 8, 8, 8, 8, 8, 8, 8, 8, 8, 8, 8, 8, 8, 8, 8, 8, 8, 8, 8, 8, 8, 8, 8, 8, 8, 8, 8, 8, 8, 8, 8, 8, 8, 8, 8, 8, 8, 8, 8, 8, 8, 8, 8, 8, 8, 8, 8, 8, 8, 8, 8, 8, 8, 8, 8, 8, 8, 8, 8, 8, 8, 8, 8, 8])) (.tmp 21), none⟩,
      ⟨some 23, .conv .i64 (.tmp 22), none⟩,
      ⟨some 24, .bin .add .int (.tmp 19) (.tmp 23), none⟩,
      ⟨some 2, .mov (.tmp 24), none⟩] [2] none)
    (.ret)))))

def a116 : AFunc := ⟨1, c116, [.tmp 2]⟩

def an116 : List RAnn := [
  { id := 0, live := [0, 2] },
  { id := 1, live := [0, 2, 4] },
  { id := 2, live := [0] },
  { id := 3, live := [0, 2] },
  { id := 4, live := [0, 2, 8] },
  { id := 5, live := [0, 2] },
  { id := 6, live := [0, 2] },
  { id := 7, live := [0, 2, 14] },
  { id := 8, live := [0, 2] },
  { id := 9, live := [0, 2] },
  { id := 10, live := [2] }]

theorem comp116 : compF Try.prog an116 Try.f116 = some a116 := by kernel_rfl

/- slices.rotateCmpFunc[graphdb/api.Adj] -/
/-- loop 0 of function 117 -/
def l117_0_h : List Nat := [0, 2, 4, 10, 11]

def l117_0_b : ACode :=
  .seq (.seq (.region none [] [
      ⟨some 18, .mov (.tmp 10), none⟩,
      ⟨some 19, .mov (.tmp 11), none⟩,
      ⟨some 20, .bin .neq .int (.tmp 18) (.tmp 19), none⟩] [0, 2, 4, 10, 11, 20] none)
    (.cond (.tmp 20) (.skip)
    (.exit 0)))
    (.block 1 (.seq (.region none [] [
        ⟨some 21, .mov (.tmp 10), none⟩,
        ⟨some 22, .mov (.tmp 11), none⟩,
        ⟨some 23, .bin .gtr .int (.tmp 21) (.tmp 22), none⟩] [0, 2, 4, 10, 11, 23] none)
      (.cond (.tmp 23) (.seq (.region none [] [
          ⟨some 24, .mov (.tmp 0), none⟩,
          ⟨some 25, .mov (.tmp 2), none⟩,
          ⟨some 26, .mov (.tmp 10), none⟩,
          ⟨some 27, .bin .sub .int (.tmp 25) (.tmp 26), none⟩,
          ⟨some 28, .mov (.tmp 2), none⟩,
          ⟨some 29, .mov (.tmp 11), none⟩,
          ⟨some 30, .mov (.tmp 4), none⟩,
          ⟨some 31, .call .share 125 [(.tmp 24), (.tmp 27), (.tmp 28), (.tmp 29), (.tmp 30)], none⟩] [0, 2, 4, 10, 11] none)
        (.region none [] [
          ⟨some 32, .mov (.tmp 10), none⟩,
          ⟨some 33, .mov (.tmp 11), none⟩,
          ⟨some 34, .bin .sub .int (.tmp 32) (.tmp 33), none⟩,
          ⟨some 10, .mov (.tmp 34), none⟩] [0, 2, 4, 10, 11] none))
      (.seq (.region none [] [
          ⟨some 35, .mov (.tmp 0), none⟩,
          ⟨some 36, .mov (.tmp 2), none⟩,
          ⟨some 37, .mov (.tmp 10), none⟩,
          ⟨some 38, .bin .sub .int (.tmp 36) (.tmp 37), none⟩,
          ⟨some 39, .mov (.tmp 2), none⟩,
          ⟨some 40, .mov (.tmp 11), none⟩,
          ⟨some 41, .bin .add .int (.tmp 39) (.tmp 40), none⟩,
          ⟨some 42, .mov (.tmp 10), none⟩,
          ⟨some 43, .bin .sub .int (.tmp 41) (.tmp 42), none⟩,
          ⟨some 44, .mov (.tmp 10), none⟩,
          ⟨some 45, .mov (.tmp 4), none⟩,
          ⟨some 46, .call .share 125 [(.tmp 35), (.tmp 38), (.tmp 43), (.tmp 44), (.tmp 45)], none⟩] [0, 2, 4, 10, 11] none)
        (.region none [] [
          ⟨some 47, .mov (.tmp 11), none⟩,
          ⟨some 48, .mov (.tmp 10), none⟩,
          ⟨some 49, .bin .sub .int (.tmp 47) (.tmp 48), none⟩,
          ⟨some 11, .mov (.tmp 49), none⟩] [0, 2, 4, 10, 11] none)))))

def c117 : ACode :=
  .seq (.region none [] [
      ⟨some 12, .mov (.tmp 2), none⟩,
      ⟨some 13, .mov (.tmp 1), none⟩,
      ⟨some 14, .bin .sub .int (.tmp 12) (.tmp 13), none⟩,
      ⟨some 10, .mov (.tmp 14), none⟩] [0, 2, 3, 4, 10] none)
    (.seq (.region none [] [
      ⟨some 15, .mov (.tmp 3), none⟩,
      ⟨some 16, .mov (.tmp 2), none⟩,
      ⟨some 17, .bin .sub .int (.tmp 15) (.tmp 16), none⟩,
      ⟨some 11, .mov (.tmp 17), none⟩] [0, 2, 4, 10, 11] none)
    (.seq (.block 0 (.loop l117_0_h l117_0_b))
    (.region none [] [
      ⟨some 50, .mov (.tmp 0), none⟩,
      ⟨some 51, .mov (.tmp 2), none⟩,
      ⟨some 52, .mov (.tmp 10), none⟩,
      ⟨some 53, .bin .sub .int (.tmp 51) (.tmp 52), none⟩,
      ⟨some 54, .mov (.tmp 2), none⟩,
      ⟨some 55, .mov (.tmp 10), none⟩,
      ⟨some 56, .mov (.tmp 4), none⟩,
      ⟨some 57, .call .share 125 [(.tmp 50), (.tmp 53), (.tmp 54), (.tmp 55), (.tmp 56)], none⟩] [] none)))

def a117 : AFunc := ⟨5, c117, []⟩

def an117 : List RAnn := [
  { id := 0, live := [0, 2, 3, 4, 10] },
  { id := 1, live := [0, 2, 4, 10, 11] },
  { id := 2, live := [0, 2, 4, 10, 11, 20], hdr := [0, 2, 4, 10, 11] },
  { id := 3, live := [0, 2, 4, 10, 11, 23] },
  { id := 4, live := [0, 2, 4, 10, 11], ops := [(7, .mode .share)] },
  { id := 5, live := [0, 2, 4, 10, 11] },
  { id := 6, live := [0, 2, 4, 10, 11], ops := [(11, .mode .share)] },
  { id := 7, live := [0, 2, 4, 10, 11] },
  { id := 8, ops := [(7, .mode .share)] }]

theorem comp117 : compF Try.prog an117 Try.f117 = some a117 := by kernel_rfl

/- graphdb/value.valid -/
/-- loop 0 of function 118 -/
def l118_0_h : List Nat := [1, 120, 121, 122]

def l118_0_b : ACode :=
  .seq (.region none [] [
      ⟨some 123, .bin .lss .int (.tmp 122) (.tmp 121), none⟩] [1, 120, 121, 122, 123] none)
    (.seq (.cond (.tmp 123) (.skip)
    (.exit 1))
    (.seq (.block 2 (.seq (.region none [] [
        ⟨some 124, .iaddr 5 (.tmp 120) (.tmp 122), none⟩,
        ⟨some 125, .load (some 5) (.tmp 124), none⟩,
        ⟨some 6, .alloc 5 (.agg [.int .i64 0, .int .i64 0, .int .i64 0, .str [], .sl false []]), none⟩,
        ⟨none, .store 5 (.tmp 6) (.tmp 125), none⟩] [1, 6, 120, 121, 122] none)
      (.seq (.region none [] [
        ⟨some 126, .load (some 5) (.tmp 6), none⟩,
        ⟨some 127, .mov (.tmp 1), none⟩,
        ⟨some 128, .bin .add .int (.tmp 127) (.cst (.int .i64 1)), none⟩,
        ⟨some 129, .call .pure 118 [(.tmp 126), (.tmp 128)], none⟩,
        ⟨some 130, .un .not (.tmp 129), none⟩] [1, 120, 121, 122, 130] none)
      (.cond (.tmp 130) (.seq (.region none [] [
          ⟨some 4, .mov (.cst (.bool false)), none⟩] [4] none)
        (.ret))
      (.skip)))))
    (.region none [] [
      ⟨some 131, .bin .add .int (.tmp 122) (.cst (.int .i64 1)), none⟩,
      ⟨some 122, .mov (.tmp 131), none⟩] [1, 120, 121, 122] none)))

def c118 : ACode :=
  .seq (.region none [] [
      ⟨some 2, .box 5 (.tmp 0), none⟩,
      ⟨some 4, .mov (.cst (.bool false)), none⟩] [1, 2] none)
    (.seq (.seq (.region none [] [
      ⟨some 7, .faddr 0 (.tmp 2), none⟩,
      ⟨some 8, .load none (.tmp 7), none⟩,
      ⟨some 9, .bin .neq .int (.tmp 8) (.cst (.int .i64 3)), none⟩,
      ⟨some 10, .mov (.tmp 9), none⟩,
      ⟨some 11, .faddr 2 (.tmp 2), some (10, true)⟩,
      ⟨some 12, .load none (.tmp 11), some (10, true)⟩,
      ⟨some 13, .bin .neq .int (.tmp 12) (.cst (.int .i64 0)), some (10, true)⟩,
      ⟨some 14, .pick (.tmp 10) (.tmp 13) (.cst (.bool false)), none⟩,
      ⟨some 15, .mov (.tmp 14), none⟩,
      ⟨some 16, .faddr 0 (.tmp 2), some (15, false)⟩,
      ⟨some 17, .load none (.tmp 16), some (15, false)⟩,
      ⟨some 18, .bin .neq .int (.tmp 17) (.cst (.int .i64 4)), some (15, false)⟩,
      ⟨some 19, .mov (.tmp 18), some (15, false)⟩,
      ⟨some 20, .faddr 3 (.tmp 2), some (19, true)⟩,
      ⟨some 21, .load none (.tmp 20), some (19, true)⟩,
      ⟨some 22, .bin .neq .str (.tmp 21) (.cst (.str [])), some (19, true)⟩,
      ⟨some 23, .pick (.tmp 19) (.tmp 22) (.cst (.bool false)), some (15, false)⟩,
      ⟨some 24, .pick (.tmp 15) (.cst (.bool true)) (.tmp 23), none⟩,
      ⟨some 25, .mov (.tmp 24), none⟩,
      ⟨some 26, .faddr 0 (.tmp 2), some (25, false)⟩,
      ⟨some 27, .load none (.tmp 26), some (25, false)⟩,
      ⟨some 28, .bin .neq .int (.tmp 27) (.cst (.int .i64 8)), some (25, false)⟩,
      ⟨some 29, .mov (.tmp 28), some (25, false)⟩,
      ⟨some 30, .faddr 0 (.tmp 2), some (29, true)⟩,
      ⟨some 31, .load none (.tmp 30), some (29, true)⟩,
      ⟨some 32, .bin .neq .int (.tmp 31) (.cst (.int .i64 7)), some (29, true)⟩,
      ⟨some 33, .pick (.tmp 29) (.tmp 32) (.cst (.bool false)), some (25, false)⟩,
      ⟨some 34, .mov (.tmp 33), some (25, false)⟩,
      ⟨some 35, .faddr 4 (.tmp 2), some (34, true)⟩,
      ⟨some 36, .load none (.tmp 35), some (34, true)⟩,
      ⟨some 37, .len .slice (.tmp 36), some (34, true)⟩,
      ⟨some 38, .bin .gtr .int (.tmp 37) (.cst (.int .i64 0)), some (34, true)⟩,
      ⟨some 39, .pick (.tmp 34) (.tmp 38) (.cst (.bool false)), some (25, false)⟩,
      ⟨some 40, .pick (.tmp 25) (.cst (.bool true)) (.tmp 39), none⟩] [1, 2, 40] none)
    (.cond (.tmp 40) (.seq (.region none [] [
        ⟨some 4, .mov (.cst (.bool false)), none⟩] [4] none)
      (.ret))
    (.skip)))
    (.seq (.seq (.region none [] [
      ⟨some 41, .faddr 0 (.tmp 2), none⟩,
      ⟨some 42, .load none (.tmp 41), none⟩] [1, 2, 42] none)
    (.block 0 (.seq (.region none [] [
        ⟨some 44, .bin .eql .int (.tmp 42) (.cst (.int .i64 0)), none⟩,
        ⟨some 43, .mov (.tmp 44), none⟩] [1, 2, 42, 43] none)
      (.cond (.tmp 43) (.seq (.region none [] [
          ⟨some 45, .faddr 1 (.tmp 2), none⟩,
          ⟨some 46, .load none (.tmp 45), none⟩,
          ⟨some 47, .bin .eql .int (.tmp 46) (.cst (.int .i64 0)), none⟩,
          ⟨some 4, .mov (.tmp 47), none⟩] [4] none)
        (.ret))
      (.seq (.region none [] [
          ⟨some 49, .bin .eql .int (.tmp 42) (.cst (.int .i64 1)), none⟩,
          ⟨some 48, .mov (.tmp 49), none⟩] [1, 2, 42, 48] none)
        (.cond (.tmp 48) (.seq (.region none [] [
            ⟨some 50, .faddr 1 (.tmp 2), none⟩,
            ⟨some 51, .load none (.tmp 50), none⟩,
            ⟨some 52, .bin .eql .int (.tmp 51) (.cst (.int .i64 0)), none⟩,
            ⟨some 53, .mov (.tmp 52), none⟩,
            ⟨some 54, .faddr 1 (.tmp 2), some (53, false)⟩,
            ⟨some 55, .load none (.tmp 54), some (53, false)⟩,
            ⟨some 56, .bin .eql .int (.tmp 55) (.cst (.int .i64 1)), some (53, false)⟩,
            ⟨some 57, .pick (.tmp 53) (.cst (.bool true)) (.tmp 56), none⟩,
            ⟨some 4, .mov (.tmp 57), none⟩] [4] none)
          (.ret))
        (.seq (.region none [] [
            ⟨some 59, .bin .eql .int (.tmp 42) (.cst (.int .i64 2)), none⟩,
            ⟨some 58, .mov (.tmp 59), none⟩] [1, 2, 42, 58] none)
          (.cond (.tmp 58) (.seq (.region none [] [
              ⟨some 60, .faddr 1 (.tmp 2), none⟩,
              ⟨some 61, .load none (.tmp 60), none⟩,
              ⟨some 62, .call .pure 126 [(.tmp 61)], none⟩,
              ⟨some 4, .mov (.tmp 62), none⟩] [4] none)
            (.ret))
          (.seq (.region none [] [
              ⟨some 64, .bin .eql .int (.tmp 42) (.cst (.int .i64 3)), none⟩,
              ⟨some 63, .mov (.tmp 64), none⟩] [1, 2, 42, 63] none)
            (.cond (.tmp 63) (.seq (.region none [] [
                ⟨some 65, .faddr 2 (.tmp 2), none⟩,
                ⟨some 66, .load none (.tmp 65), none⟩,
                ⟨some 67, .bin .geq .int (.tmp 66) (.cst (.int .i64 2)), none⟩,
                ⟨some 68, .mov (.tmp 67), none⟩,
                ⟨some 69, .faddr 1 (.tmp 2), some (68, true)⟩,
                ⟨some 70, .load none (.tmp 69), some (68, true)⟩,
                ⟨some 71, .faddr 2 (.tmp 2), some (68, true)⟩,
                ⟨some 72, .load none (.tmp 71), some (68, true)⟩,
                ⟨some 73, .build [.int .i64 0, .int .i64 0] [(0, 1, (.tmp 70)), (1, 1, (.tmp 72))], some (68, true)⟩,
                ⟨some 74, .call .pure 127 [(.tmp 73)], some (68, true)⟩,
                ⟨some 75, .pick (.tmp 68) (.tmp 74) (.cst (.bool false)), none⟩,
                ⟨some 4, .mov (.tmp 75), none⟩] [4] none)
              (.ret))
            (.seq (.region none [] [
                ⟨some 77, .bin .eql .int (.tmp 42) (.cst (.int .i64 4)), none⟩,
                ⟨some 76, .mov (.tmp 77), none⟩] [1, 2, 42, 76] none)
              (.cond (.tmp 76) (.seq (.region none [] [
                  ⟨some 78, .faddr 1 (.tmp 2), none⟩,
                  ⟨some 79, .load none (.tmp 78), none⟩,
                  ⟨some 80, .bin .eql .int (.tmp 79) (.cst (.int .i64 0)), none⟩,
                  ⟨some 81, .mov (.tmp 80), none⟩,
                  ⟨some 82, .faddr 3 (.tmp 2), some (81, true)⟩,
                  ⟨some 83, .load none (.tmp 82), some (81, true)⟩,
                  ⟨some 84, .len .str (.tmp 83), some (81, true)⟩,
                  ⟨some 85, .bin .leq .int (.tmp 84) (.cst (.int .i64 100)), some (81, true)⟩,
                  ⟨some 86, .pick (.tmp 81) (.tmp 85) (.cst (.bool false)), none⟩,
                  ⟨some 87, .mov (.tmp 86), none⟩,
                  ⟨some 88, .faddr 3 (.tmp 2), some (87, true)⟩,
                  ⟨some 89, .load none (.tmp 88), some (87, true)⟩,
                  ⟨some 90, .call .pure 128 [(.tmp 89), (.cst (.fn 129 []))], some (87, true)⟩,
                  ⟨some 91, .bin .lss .int (.tmp 90) (.cst (.int .i64 0)), some (87, true)⟩,
                  ⟨some 92, .pick (.tmp 87) (.tmp 91) (.cst (.bool false)), none⟩,
                  ⟨some 4, .mov (.tmp 92), none⟩] [4] none)
                (.ret))
              (.seq (.seq (.region none [] [
                  ⟨some 94, .bin .eql .int (.tmp 42) (.cst (.int .i64 5)), none⟩,
                  ⟨some 93, .mov (.tmp 94), none⟩] [1, 2, 42, 93] none)
                (.cond (.tmp 93) (.skip)
                (.region none [] [
                    ⟨some 95, .bin .eql .int (.tmp 42) (.cst (.int .i64 6)), none⟩,
                    ⟨some 93, .mov (.tmp 95), none⟩] [1, 2, 42, 93] none)))
                (.cond (.tmp 93) (.seq (.region none [] [
                    ⟨some 96, .faddr 1 (.tmp 2), none⟩,
                    ⟨some 97, .load none (.tmp 96), none⟩,
                    ⟨some 98, .bin .geq .int (.tmp 97) (.cst (.int .i64 1)), none⟩,
                    ⟨some 99, .mov (.tmp 98), none⟩,
                    ⟨some 100, .faddr 1 (.tmp 2), some (99, true)⟩,
                    ⟨some 101, .load none (.tmp 100), some (99, true)⟩,
                    ⟨some 102, .bin .leq .int (.tmp 101) (.cst (.int .i64 1000000)), some (99, true)⟩,
                    ⟨some 103, .pick (.tmp 99) (.tmp 102) (.cst (.bool false)), none⟩,
                    ⟨some 4, .mov (.tmp 103), none⟩] [4] none)
                  (.ret))
                (.seq (.region none [] [
                    ⟨some 105, .bin .eql .int (.tmp 42) (.cst (.int .i64 8)), none⟩,
                    ⟨some 104, .mov (.tmp 105), none⟩] [1, 2, 42, 104] none)
                  (.cond (.tmp 104) (.seq (.seq (.region none [] [
                      ⟨some 106, .faddr 1 (.tmp 2), none⟩,
                      ⟨some 107, .load none (.tmp 106), none⟩,
                      ⟨some 108, .bin .neq .int (.tmp 107) (.cst (.int .i64 0)), none⟩,
                      ⟨some 109, .mov (.tmp 108), none⟩,
                      ⟨some 110, .faddr 4 (.tmp 2), some (109, false)⟩,
                      ⟨some 111, .load none (.tmp 110), some (109, false)⟩,
                      ⟨some 112, .len .slice (.tmp 111), some (109, false)⟩,
                      ⟨some 113, .bin .gtr .int (.tmp 112) (.cst (.int .i64 64)), some (109, false)⟩,
                      ⟨some 114, .pick (.tmp 109) (.cst (.bool true)) (.tmp 113), none⟩,
                      ⟨some 115, .mov (.tmp 114), none⟩,
                      ⟨some 116, .mov (.tmp 1), some (115, false)⟩,
                      ⟨some 117, .bin .geq .int (.tmp 116) (.cst (.int .i64 8)), some (115, false)⟩,
                      ⟨some 118, .pick (.tmp 115) (.cst (.bool true)) (.tmp 117), none⟩] [1, 2, 118] none)
                    (.cond (.tmp 118) (.seq (.region none [] [
                        ⟨some 4, .mov (.cst (.bool false)), none⟩] [4] none)
                      (.ret))
                    (.skip)))
                    (.seq (.seq (.region none [] [
                      ⟨some 119, .faddr 4 (.tmp 2), none⟩,
                      ⟨some 120, .load none (.tmp 119), none⟩,
                      ⟨some 121, .len .slice (.tmp 120), none⟩,
                      ⟨some 122, .mov (.cst (.int .i64 0)), none⟩] [1, 120, 121, 122] none)
                    (.block 1 (.loop l118_0_h l118_0_b)))
                    (.seq (.region none [] [
                      ⟨some 4, .mov (.cst (.bool true)), none⟩] [4] none)
                    (.ret))))
                  (.seq (.region none [] [
                      ⟨some 133, .bin .eql .int (.tmp 42) (.cst (.int .i64 7)), none⟩,
                      ⟨some 132, .mov (.tmp 133), none⟩] [2, 132] none)
                    (.cond (.tmp 132) (.seq (.region none [] [
                        ⟨some 134, .faddr 1 (.tmp 2), none⟩,
                        ⟨some 135, .load none (.tmp 134), none⟩,
                        ⟨some 136, .bin .eql .int (.tmp 135) (.cst (.int .i64 0)), none⟩,
                        ⟨some 137, .mov (.tmp 136), none⟩,
                        ⟨some 138, .faddr 4 (.tmp 2), some (137, true)⟩,
                        ⟨some 139, .load none (.tmp 138), some (137, true)⟩,
                        ⟨some 140, .call .pure 130 [(.tmp 139)], some (137, true)⟩,
                        ⟨some 141, .pick (.tmp 137) (.tmp 140) (.cst (.bool false)), none⟩,
                        ⟨some 4, .mov (.tmp 141), none⟩] [4] none)
                      (.ret))
                    (.skip)))))))))))))))))))
    (.seq (.region none [] [
      ⟨some 4, .mov (.cst (.bool false)), none⟩] [4] none)
    (.ret))))

def a118 : AFunc := ⟨2, c118, [.tmp 4]⟩

def an118 : List RAnn := [
  { id := 0, live := [1, 2] },
  { id := 1, live := [1, 2, 40] },
  { id := 2, live := [4] },
  { id := 3, live := [1, 2, 42] },
  { id := 4, live := [1, 2, 42, 43] },
  { id := 5, live := [4] },
  { id := 6, live := [1, 2, 42, 48] },
  { id := 7, live := [4] },
  { id := 8, live := [1, 2, 42, 58] },
  { id := 9, live := [4] },
  { id := 10, live := [1, 2, 42, 63] },
  { id := 11, live := [4] },
  { id := 12, live := [1, 2, 42, 76] },
  { id := 13, live := [4] },
  { id := 14, live := [1, 2, 42, 93] },
  { id := 15, live := [1, 2, 42, 93] },
  { id := 16, live := [4] },
  { id := 17, live := [1, 2, 42, 104] },
  { id := 18, live := [1, 2, 118] },
  { id := 19, live := [4] },
  { id := 20, live := [1, 120, 121, 122] },
  { id := 21, live := [1, 120, 121, 122, 123], hdr := [1, 120, 121, 122] },
  { id := 22, live := [1, 6, 120, 121, 122] },
  { id := 23, live := [1, 120, 121, 122, 130] },
  { id := 24, live := [4] },
  { id := 25, live := [1, 120, 121, 122] },
  { id := 26, live := [4] },
  { id := 27, live := [2, 132] },
  { id := 28, live := [4] },
  { id := 29, live := [4] }]

theorem comp118 : compF Try.prog an118 Try.f118 = some a118 := by kernel_rfl

/- slices.siftDownOrdered[string] -/
/-- loop 0 of function 119 -/
def l119_0_h : List Nat := [0, 2, 3, 8]

def l119_0_b : ACode :=
  .block 1 (.seq (.region none [] [
        ⟨some 11, .mov (.tmp 8), none⟩,
        ⟨some 12, .bin .mul .int (.cst (.int .i64 2)) (.tmp 11), none⟩,
        ⟨some 13, .bin .add .int (.tmp 12) (.cst (.int .i64 1)), none⟩,
        ⟨some 9, .mov (.tmp 13), none⟩] [0, 2, 3, 8, 9] none)
      (.seq (.seq (.region none [] [
        ⟨some 14, .mov (.tmp 9), none⟩,
        ⟨some 15, .mov (.tmp 2), none⟩,
        ⟨some 16, .bin .geq .int (.tmp 14) (.tmp 15), none⟩] [0, 2, 3, 8, 9, 16] none)
      (.cond (.tmp 16) (.exit 0)
      (.skip)))
      (.seq (.seq (.region (some 20) [] [
        ⟨some 17, .mov (.tmp 9), none⟩,
        ⟨some 18, .bin .add .int (.tmp 17) (.cst (.int .i64 1)), none⟩,
        ⟨some 19, .mov (.tmp 2), none⟩,
        ⟨some 20, .bin .lss .int (.tmp 18) (.tmp 19), none⟩,
        ⟨some 21, .mov (.tmp 20), none⟩,
        ⟨some 22, .mov (.tmp 0), some (21, true)⟩,
        ⟨some 23, .mov (.tmp 3), some (21, true)⟩,
        ⟨some 24, .mov (.tmp 9), some (21, true)⟩,
        ⟨some 25, .bin .add .int (.tmp 23) (.tmp 24), some (21, true)⟩,
        ⟨some 26, .iaddr 1 (.tmp 22) (.tmp 25), some (21, true)⟩,
        ⟨some 27, .load none (.tmp 26), some (21, true)⟩,
        ⟨some 28, .mov (.tmp 0), some (21, true)⟩,
        ⟨some 29, .mov (.tmp 3), some (21, true)⟩,
        ⟨some 30, .mov (.tmp 9), some (21, true)⟩,
        ⟨some 31, .bin .add .int (.tmp 29) (.tmp 30), some (21, true)⟩,
        ⟨some 32, .bin .add .int (.tmp 31) (.cst (.int .i64 1)), some (21, true)⟩,
        ⟨some 33, .iaddr 1 (.tmp 28) (.tmp 32), some (21, true)⟩,
        ⟨some 34, .load none (.tmp 33), some (21, true)⟩,
        ⟨some 35, .call .pure 112 [(.tmp 27), (.tmp 34)], some (21, true)⟩,
        ⟨some 36, .pick (.tmp 21) (.tmp 35) (.cst (.bool false)), none⟩] [0, 2, 3, 8, 9, 36] none)
      (.cond (.tmp 36) (.region none [] [
          ⟨some 37, .mov (.tmp 9), none⟩,
          ⟨some 38, .bin .add .int (.tmp 37) (.cst (.int .i64 1)), none⟩,
          ⟨some 9, .mov (.tmp 38), none⟩] [0, 2, 3, 8, 9] none)
      (.skip)))
      (.seq (.seq (.region (some 14) [] [
        ⟨some 39, .mov (.tmp 0), none⟩,
        ⟨some 40, .mov (.tmp 3), none⟩,
        ⟨some 41, .mov (.tmp 8), none⟩,
        ⟨some 42, .bin .add .int (.tmp 40) (.tmp 41), none⟩,
        ⟨some 43, .iaddr 1 (.tmp 39) (.tmp 42), none⟩,
        ⟨some 44, .load none (.tmp 43), none⟩,
        ⟨some 45, .mov (.tmp 0), none⟩,
        ⟨some 46, .mov (.tmp 3), none⟩,
        ⟨some 47, .mov (.tmp 9), none⟩,
        ⟨some 48, .bin .add .int (.tmp 46) (.tmp 47), none⟩,
        ⟨some 49, .iaddr 1 (.tmp 45) (.tmp 48), none⟩,
        ⟨some 50, .load none (.tmp 49), none⟩,
        ⟨some 51, .call .pure 112 [(.tmp 44), (.tmp 50)], none⟩,
        ⟨some 52, .un .not (.tmp 51), none⟩] [0, 2, 3, 8, 9, 52] none)
      (.cond (.tmp 52) (.ret)
      (.skip)))
      (.seq (.par 24 [] [] [
        ⟨some 53, .mov (.tmp 0), none⟩,
        ⟨some 54, .mov (.tmp 3), none⟩,
        ⟨some 55, .mov (.tmp 8), none⟩,
        ⟨some 56, .bin .add .int (.tmp 54) (.tmp 55), none⟩,
        ⟨some 57, .mov (.tmp 0), none⟩,
        ⟨some 58, .mov (.tmp 3), none⟩,
        ⟨some 59, .mov (.tmp 9), none⟩,
        ⟨some 60, .bin .add .int (.tmp 58) (.tmp 59), none⟩,
        ⟨some 61, .mov (.tmp 0), none⟩,
        ⟨some 62, .mov (.tmp 3), none⟩,
        ⟨some 63, .mov (.tmp 9), none⟩,
        ⟨some 64, .bin .add .int (.tmp 62) (.tmp 63), none⟩,
        ⟨some 65, .iaddr 1 (.tmp 61) (.tmp 64), none⟩,
        ⟨some 66, .load none (.tmp 65), none⟩,
        ⟨some 67, .mov (.tmp 0), none⟩,
        ⟨some 68, .mov (.tmp 3), none⟩,
        ⟨some 69, .mov (.tmp 8), none⟩,
        ⟨some 70, .bin .add .int (.tmp 68) (.tmp 69), none⟩,
        ⟨some 71, .iaddr 1 (.tmp 67) (.tmp 70), none⟩,
        ⟨some 72, .load none (.tmp 71), none⟩,
        ⟨some 73, .iaddr 1 (.tmp 53) (.tmp 56), none⟩,
        ⟨none, .store 1 (.tmp 73) (.tmp 66), none⟩,
        ⟨some 74, .iaddr 1 (.tmp 57) (.tmp 60), none⟩,
        ⟨none, .store 1 (.tmp 74) (.tmp 72), none⟩] [0, 2, 3, 9] none)
      (.region none [] [
        ⟨some 75, .mov (.tmp 9), none⟩,
        ⟨some 8, .mov (.tmp 75), none⟩] [0, 2, 3, 8] none))))))

def c119 : ACode :=
  .seq (.region none [] [
      ⟨some 10, .mov (.tmp 1), none⟩,
      ⟨some 8, .mov (.tmp 10), none⟩] [0, 2, 3, 8] none)
    (.block 0 (.loop l119_0_h l119_0_b))

def a119 : AFunc := ⟨4, c119, []⟩

def an119 : List RAnn := [
  { id := 0, live := [0, 2, 3, 8] },
  { id := 1, live := [0, 2, 3, 8, 9], hdr := [0, 2, 3, 8] },
  { id := 2, live := [0, 2, 3, 8, 9, 16] },
  { id := 3, head := some 20, live := [0, 2, 3, 8, 9, 36] },
  { id := 4, live := [0, 2, 3, 8, 9] },
  { id := 5, head := some 14, live := [0, 2, 3, 8, 9, 52] },
  { id := 6, head := some 24, live := [0, 2, 3, 9], par := true },
  { id := 7, live := [0, 2, 3, 8] }]

theorem comp119 : compF Try.prog an119 Try.f119 = some a119 := by kernel_rfl

/- slices.nextPowerOfTwo -/
def c120 : ACode :=
  .seq (.region none [] [
      ⟨some 2, .mov (.cst (.int .u64 0)), none⟩] [0] none)
    (.seq (.region none [] [
      ⟨some 3, .mov (.tmp 0), none⟩,
      ⟨some 4, .conv .u64 (.tmp 3), none⟩,
      ⟨some 5, .call .pure 87 [(.tmp 4)], none⟩,
      ⟨some 6, .bin .shl .int (.cst (.int .u64 1)) (.tmp 5), none⟩,
      ⟨some 2, .mov (.tmp 6), none⟩] [2] none)
    (.ret))

def a120 : AFunc := ⟨1, c120, [.tmp 2]⟩

def an120 : List RAnn := [
  { id := 0, live := [0] },
  { id := 1, live := [2] }]

theorem comp120 : compF Try.prog an120 Try.f120 = some a120 := by kernel_rfl

/- (*slices.xorshift).Next -/
def c121 : ACode :=
  .seq (.region none [] [
      ⟨some 2, .mov (.cst (.int .u64 0)), none⟩] [0] none)
    (.seq (.region (some 9) [] [
      ⟨some 3, .mov (.tmp 0), none⟩,
      ⟨some 4, .nilchk (.tmp 3), none⟩,
      ⟨some 5, .load none (.tmp 4), none⟩,
      ⟨some 6, .mov (.tmp 0), none⟩,
      ⟨some 7, .nilchk (.tmp 6), none⟩,
      ⟨some 8, .load none (.tmp 7), none⟩,
      ⟨some 9, .bin .shl .int (.tmp 8) (.cst (.int .u64 13)), none⟩,
      ⟨some 10, .bin .xor .int (.tmp 5) (.tmp 9), none⟩,
      ⟨some 11, .nilchk (.tmp 3), none⟩,
      ⟨none, .store 1 (.tmp 11) (.tmp 10), none⟩] [0] none)
    (.seq (.region (some 9) [] [
      ⟨some 12, .mov (.tmp 0), none⟩,
      ⟨some 13, .nilchk (.tmp 12), none⟩,
      ⟨some 14, .load none (.tmp 13), none⟩,
      ⟨some 15, .mov (.tmp 0), none⟩,
      ⟨some 16, .nilchk (.tmp 15), none⟩,
      ⟨some 17, .load none (.tmp 16), none⟩,
      ⟨some 18, .bin .shr .int (.tmp 17) (.cst (.int .u64 7)), none⟩,
      ⟨some 19, .bin .xor .int (.tmp 14) (.tmp 18), none⟩,
      ⟨some 20, .nilchk (.tmp 12), none⟩,
      ⟨none, .store 1 (.tmp 20) (.tmp 19), none⟩] [0] none)
    (.seq (.region (some 9) [] [
      ⟨some 21, .mov (.tmp 0), none⟩,
      ⟨some 22, .nilchk (.tmp 21), none⟩,
      ⟨some 23, .load none (.tmp 22), none⟩,
      ⟨some 24, .mov (.tmp 0), none⟩,
      ⟨some 25, .nilchk (.tmp 24), none⟩,
      ⟨some 26, .load none (.tmp 25), none⟩,
      ⟨some 27, .bin .shl .int (.tmp 26) (.cst (.int .u64 17)), none⟩,
      ⟨some 28, .bin .xor .int (.tmp 23) (.tmp 27), none⟩,
      ⟨some 29, .nilchk (.tmp 21), none⟩,
      ⟨none, .store 1 (.tmp 29) (.tmp 28), none⟩] [0] none)
    (.seq (.region none [] [
      ⟨some 30, .mov (.tmp 0), none⟩,
      ⟨some 31, .nilchk (.tmp 30), none⟩,
      ⟨some 32, .load none (.tmp 31), none⟩,
      ⟨some 2, .mov (.tmp 32), none⟩] [2] none)
    (.ret)))))

def a121 : AFunc := ⟨1, c121, [.tmp 2]⟩

def an121 : List RAnn := [
  { id := 0, live := [0] },
  { id := 1, head := some 9, live := [0] },
  { id := 2, head := some 9, live := [0] },
  { id := 3, head := some 9, live := [0] },
  { id := 4, live := [2] }]

theorem comp121 : compF Try.prog an121 Try.f121 = some a121 := by kernel_rfl

/- slices.medianAdjacentOrdered[string] -/
def c122 : ACode :=
  .seq (.region none [] [
      ⟨some 6, .mov (.cst (.int .i64 0)), none⟩] [0, 1, 2] none)
    (.seq (.region none [] [
      ⟨some 7, .mov (.tmp 0), none⟩,
      ⟨some 8, .mov (.tmp 1), none⟩,
      ⟨some 9, .bin .sub .int (.tmp 8) (.cst (.int .i64 1)), none⟩,
      ⟨some 10, .mov (.tmp 1), none⟩,
      ⟨some 11, .mov (.tmp 1), none⟩,
      ⟨some 12, .bin .add .int (.tmp 11) (.cst (.int .i64 1)), none⟩,
      ⟨some 13, .mov (.tmp 2), none⟩,
      ⟨some 14, .call .share 123 [(.tmp 7), (.tmp 9), (.tmp 10), (.tmp 12), (.tmp 13)], none⟩,
      ⟨some 6, .mov (.tmp 14), none⟩] [6] none)
    (.ret))

def a122 : AFunc := ⟨3, c122, [.tmp 6]⟩

def an122 : List RAnn := [
  { id := 0, live := [0, 1, 2] },
  { id := 1, live := [6], ops := [(7, .mode .share)] }]

theorem comp122 : compF Try.prog an122 Try.f122 = some a122 := by kernel_rfl

/- slices.medianOrdered[string] -/
def c123 : ACode :=
  .seq (.region none [] [
      ⟨some 10, .mov (.cst (.int .i64 0)), none⟩] [0, 1, 2, 3, 4] none)
    (.seq (.region none [] [
      ⟨some 12, .mov (.tmp 0), none⟩,
      ⟨some 13, .mov (.tmp 1), none⟩,
      ⟨some 14, .mov (.tmp 2), none⟩,
      ⟨some 15, .mov (.tmp 4), none⟩,
      ⟨some 16, .call .share 131 [(.tmp 12), (.tmp 13), (.tmp 14), (.tmp 15)], none⟩,
      ⟨some 11, .mov (.tmp 16), none⟩,
      ⟨some 17, .ext (.tmp 11) 0, none⟩,
      ⟨some 18, .ext (.tmp 11) 1, none⟩,
      ⟨some 1, .mov (.tmp 17), none⟩,
      ⟨some 2, .mov (.tmp 18), none⟩] [0, 1, 2, 3, 4] none)
    (.seq (.region none [] [
      ⟨some 20, .mov (.tmp 0), none⟩,
      ⟨some 21, .mov (.tmp 2), none⟩,
      ⟨some 22, .mov (.tmp 3), none⟩,
      ⟨some 23, .mov (.tmp 4), none⟩,
      ⟨some 24, .call .share 131 [(.tmp 20), (.tmp 21), (.tmp 22), (.tmp 23)], none⟩,
      ⟨some 19, .mov (.tmp 24), none⟩,
      ⟨some 25, .ext (.tmp 19) 0, none⟩,
      ⟨some 26, .ext (.tmp 19) 1, none⟩,
      ⟨some 2, .mov (.tmp 25), none⟩,
      ⟨some 3, .mov (.tmp 26), none⟩] [0, 1, 2, 4] none)
    (.seq (.region none [] [
      ⟨some 28, .mov (.tmp 0), none⟩,
      ⟨some 29, .mov (.tmp 1), none⟩,
      ⟨some 30, .mov (.tmp 2), none⟩,
      ⟨some 31, .mov (.tmp 4), none⟩,
      ⟨some 32, .call .share 131 [(.tmp 28), (.tmp 29), (.tmp 30), (.tmp 31)], none⟩,
      ⟨some 27, .mov (.tmp 32), none⟩,
      ⟨some 33, .ext (.tmp 27) 0, none⟩,
      ⟨some 34, .ext (.tmp 27) 1, none⟩,
      ⟨some 1, .mov (.tmp 33), none⟩,
      ⟨some 2, .mov (.tmp 34), none⟩] [2] none)
    (.seq (.region none [] [
      ⟨some 35, .mov (.tmp 2), none⟩,
      ⟨some 10, .mov (.tmp 35), none⟩] [10] none)
    (.ret)))))

def a123 : AFunc := ⟨5, c123, [.tmp 10]⟩

def an123 : List RAnn := [
  { id := 0, live := [0, 1, 2, 3, 4] },
  { id := 1, live := [0, 1, 2, 3, 4], ops := [(4, .mode .share)] },
  { id := 2, live := [0, 1, 2, 4], ops := [(4, .mode .share)] },
  { id := 3, live := [2], ops := [(4, .mode .share)] },
  { id := 4, live := [10] }]

theorem comp123 : compF Try.prog an123 Try.f123 = some a123 := by kernel_rfl

end AI
end Go.Proofs.Ytnakgkibjlcjlaa
