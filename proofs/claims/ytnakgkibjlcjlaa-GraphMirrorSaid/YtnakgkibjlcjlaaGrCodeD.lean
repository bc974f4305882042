/- Printed by a program of mine: the functions, compiled; the kernel checks each against the given form. -/
import Derived.Test.YtnakgkibjlcjlaaSe
import Derived.Test.YtnakgkibjlcjlaaProg
import Derived.KernelRfl
import Derived.Test.YtnakgkibjlcjlaaIxF
namespace Go.Proofs.Ytnakgkibjlcjlaa
namespace AI
/- cmp.isNaN[string] -/
def c124 : ACode :=
  .seq (.region none [] [
      ⟨some 2, .mov (.cst (.bool false)), none⟩] [0] none)
    (.seq (.region none [] [
      ⟨some 3, .mov (.tmp 0), none⟩,
      ⟨some 4, .mov (.tmp 0), none⟩,
      ⟨some 5, .bin .neq .str (.tmp 3) (.tmp 4), none⟩,
      ⟨some 2, .mov (.tmp 5), none⟩] [2] none)
    (.ret))

def a124 : AFunc := ⟨1, c124, [.tmp 2]⟩

def an124 : List RAnn := [
  { id := 0, live := [0] },
  { id := 1, live := [2] }]

theorem comp124 : compF Try.prog an124 Try.f124 = some a124 := by kernel_rfl

/- slices.swapRangeCmpFunc[graphdb/api.Adj] -/
/-- loop 0 of function 125 -/
def l125_0_h : List Nat := [0, 1, 2, 3, 10]

def l125_0_b : ACode :=
  .seq (.seq (.region none [] [
      ⟨some 11, .mov (.tmp 10), none⟩,
      ⟨some 12, .mov (.tmp 3), none⟩,
      ⟨some 13, .bin .lss .int (.tmp 11) (.tmp 12), none⟩] [0, 1, 2, 3, 10, 13] none)
    (.cond (.tmp 13) (.skip)
    (.exit 0)))
    (.seq (.block 1 (.par 24 [] [] [
        ⟨some 16, .mov (.tmp 0), none⟩,
        ⟨some 17, .mov (.tmp 1), none⟩,
        ⟨some 18, .mov (.tmp 10), none⟩,
        ⟨some 19, .bin .add .int (.tmp 17) (.tmp 18), none⟩,
        ⟨some 20, .mov (.tmp 0), none⟩,
        ⟨some 21, .mov (.tmp 2), none⟩,
        ⟨some 22, .mov (.tmp 10), none⟩,
        ⟨some 23, .bin .add .int (.tmp 21) (.tmp 22), none⟩,
        ⟨some 24, .mov (.tmp 0), none⟩,
        ⟨some 25, .mov (.tmp 2), none⟩,
        ⟨some 26, .mov (.tmp 10), none⟩,
        ⟨some 27, .bin .add .int (.tmp 25) (.tmp 26), none⟩,
        ⟨some 28, .iaddr 3 (.tmp 24) (.tmp 27), none⟩,
        ⟨some 29, .load (some 3) (.tmp 28), none⟩,
        ⟨some 30, .mov (.tmp 0), none⟩,
        ⟨some 31, .mov (.tmp 1), none⟩,
        ⟨some 32, .mov (.tmp 10), none⟩,
        ⟨some 33, .bin .add .int (.tmp 31) (.tmp 32), none⟩,
        ⟨some 34, .iaddr 3 (.tmp 30) (.tmp 33), none⟩,
        ⟨some 35, .load (some 3) (.tmp 34), none⟩,
        ⟨some 36, .iaddr 3 (.tmp 16) (.tmp 19), none⟩,
        ⟨none, .store 3 (.tmp 36) (.tmp 29), none⟩,
        ⟨some 37, .iaddr 3 (.tmp 20) (.tmp 23), none⟩,
        ⟨none, .store 3 (.tmp 37) (.tmp 35), none⟩] [0, 1, 2, 3, 10] none))
    (.region none [] [
      ⟨some 14, .mov (.tmp 10), none⟩,
      ⟨some 15, .bin .add .int (.tmp 14) (.cst (.int .i64 1)), none⟩,
      ⟨some 10, .mov (.tmp 15), none⟩] [0, 1, 2, 3, 10] none))

def c125 : ACode :=
  .seq (.region none [] [
      ⟨some 10, .mov (.cst (.int .i64 0)), none⟩] [0, 1, 2, 3, 10] none)
    (.block 0 (.loop l125_0_h l125_0_b))

def a125 : AFunc := ⟨5, c125, []⟩

def an125 : List RAnn := [
  { id := 0, live := [0, 1, 2, 3, 10] },
  { id := 1, live := [0, 1, 2, 3, 10, 13], hdr := [0, 1, 2, 3, 10] },
  { id := 3, head := some 24, live := [0, 1, 2, 3, 10], par := true },
  { id := 2, live := [0, 1, 2, 3, 10] }]

theorem comp125 : compF Try.prog an125 Try.f125 = some a125 := by kernel_rfl

/- graphdb/num.In -/
def c126 : ACode :=
  .seq (.region none [] [
      ⟨some 2, .mov (.cst (.bool false)), none⟩] [0] none)
    (.seq (.region none [] [
      ⟨some 3, .mov (.tmp 0), none⟩,
      ⟨some 4, .bin .geq .int (.tmp 3) (.cst (.int .i64 (-1000000000000000))), none⟩,
      ⟨some 5, .mov (.tmp 4), none⟩,
      ⟨some 6, .mov (.tmp 0), some (5, true)⟩,
      ⟨some 7, .bin .leq .int (.tmp 6) (.cst (.int .i64 1000000000000000)), some (5, true)⟩,
      ⟨some 8, .pick (.tmp 5) (.tmp 7) (.cst (.bool false)), none⟩,
      ⟨some 2, .mov (.tmp 8), none⟩] [2] none)
    (.ret))

def a126 : AFunc := ⟨1, c126, [.tmp 2]⟩

def an126 : List RAnn := [
  { id := 0, live := [0] },
  { id := 1, live := [2] }]

theorem comp126 : compF Try.prog an126 Try.f126 = some a126 := by kernel_rfl

/- graphdb/frac.Valid -/
def c127 : ACode :=
  .seq (.region none [] [
      ⟨some 1, .box 2 (.tmp 0), none⟩,
      ⟨some 2, .mov (.cst (.bool false)), none⟩] [1] none)
    (.seq (.region none [] [
      ⟨some 3, .faddr 1 (.tmp 1), none⟩,
      ⟨some 4, .load none (.tmp 3), none⟩,
      ⟨some 5, .bin .geq .int (.tmp 4) (.cst (.int .i64 1)), none⟩,
      ⟨some 6, .mov (.tmp 5), none⟩,
      ⟨some 7, .faddr 1 (.tmp 1), some (6, true)⟩,
      ⟨some 8, .load none (.tmp 7), some (6, true)⟩,
      ⟨some 9, .bin .leq .int (.tmp 8) (.cst (.int .i64 1000000000000000)), some (6, true)⟩,
      ⟨some 10, .pick (.tmp 6) (.tmp 9) (.cst (.bool false)), none⟩,
      ⟨some 11, .mov (.tmp 10), none⟩,
      ⟨some 12, .faddr 0 (.tmp 1), some (11, true)⟩,
      ⟨some 13, .load none (.tmp 12), some (11, true)⟩,
      ⟨some 14, .call .pure 126 [(.tmp 13)], some (11, true)⟩,
      ⟨some 15, .pick (.tmp 11) (.tmp 14) (.cst (.bool false)), none⟩,
      ⟨some 16, .mov (.tmp 15), none⟩,
      ⟨some 17, .faddr 0 (.tmp 1), some (16, true)⟩,
      ⟨some 18, .load none (.tmp 17), some (16, true)⟩,
      ⟨some 19, .faddr 1 (.tmp 1), some (16, true)⟩,
      ⟨some 20, .load none (.tmp 19), some (16, true)⟩,
      ⟨some 21, .call .pure 132 [(.tmp 18), (.tmp 20)], some (16, true)⟩,
      ⟨some 22, .bin .eql .int (.tmp 21) (.cst (.int .i64 1)), some (16, true)⟩,
      ⟨some 23, .pick (.tmp 16) (.tmp 22) (.cst (.bool false)), none⟩,
      ⟨some 2, .mov (.tmp 23), none⟩] [2] none)
    (.ret))

def a127 : AFunc := ⟨1, c127, [.tmp 2]⟩

def an127 : List RAnn := [
  { id := 0, live := [1] },
  { id := 1, live := [2] }]

theorem comp127 : compF Try.prog an127 Try.f127 = some a127 := by kernel_rfl

/- graphdb/value.valid$1 -/
def c129 : ACode :=
  .seq (.region none [] [
      ⟨some 2, .mov (.cst (.bool false)), none⟩] [0] none)
    (.seq (.region none [] [
      ⟨some 3, .mov (.tmp 0), none⟩,
      ⟨some 4, .bin .lss .int (.tmp 3) (.cst (.int .i32 32)), none⟩,
      ⟨some 5, .mov (.tmp 4), none⟩,
      ⟨some 6, .mov (.tmp 0), some (5, false)⟩,
      ⟨some 7, .bin .gtr .int (.tmp 6) (.cst (.int .i32 126)), some (5, false)⟩,
      ⟨some 8, .pick (.tmp 5) (.cst (.bool true)) (.tmp 7), none⟩,
      ⟨some 2, .mov (.tmp 8), none⟩] [2] none)
    (.ret))

def a129 : AFunc := ⟨1, c129, [.tmp 2]⟩

def an129 : List RAnn := [
  { id := 0, live := [0] },
  { id := 1, live := [2] }]

theorem comp129 : compF Try.prog an129 Try.f129 = some a129 := by kernel_rfl

/- graphdb/value.path -/
/-- loop 0 of function 130 -/
def l130_0_h : List Nat := [15, 16, 17]

def l130_0_b : ACode :=
  .seq (.region none [] [
      ⟨some 18, .bin .lss .int (.tmp 17) (.tmp 16), none⟩] [15, 16, 17, 18] none)
    (.seq (.cond (.tmp 18) (.skip)
    (.exit 0))
    (.seq (.block 1 (.seq (.region none [] [
        ⟨some 19, .mov (.tmp 17), none⟩,
        ⟨some 20, .iaddr 5 (.tmp 15) (.tmp 17), none⟩,
        ⟨some 21, .load (some 5) (.tmp 20), none⟩,
        ⟨some 4, .alloc 5 (.agg [.int .i64 0, .int .i64 0, .int .i64 0, .str [], .sl false []]), none⟩,
        ⟨some 3, .mov (.tmp 19), none⟩,
        ⟨none, .store 5 (.tmp 4) (.tmp 21), none⟩] [3, 4, 15, 16, 17] none)
      (.seq (.region none [] [
        ⟨some 22, .lit false 1 (.int .i64 0) 2 [(0, (.cst (.int .i64 5))), (1, (.cst (.int .i64 6)))], none⟩,
        ⟨some 23, .mov (.tmp 3), none⟩,
        ⟨some 24, .bin .rem .int (.tmp 23) (.cst (.int .i64 2)), none⟩,
        ⟨some 25, .iaddr 1 (.tmp 22) (.tmp 24), none⟩,
        ⟨some 26, .load none (.tmp 25), none⟩,
        ⟨some 5, .mov (.tmp 26), none⟩] [4, 5, 15, 16, 17] none)
      (.seq (.region none [] [
        ⟨some 27, .faddr 0 (.tmp 4), none⟩,
        ⟨some 28, .load none (.tmp 27), none⟩,
        ⟨some 29, .mov (.tmp 5), none⟩,
        ⟨some 30, .bin .neq .int (.tmp 28) (.tmp 29), none⟩,
        ⟨some 31, .mov (.tmp 30), none⟩,
        ⟨some 32, .load (some 5) (.tmp 4), some (31, false)⟩,
        ⟨some 33, .call .pure 118 [(.tmp 32), (.cst (.int .i64 0))], some (31, false)⟩,
        ⟨some 34, .un .not (.tmp 33), some (31, false)⟩,
        ⟨some 35, .pick (.tmp 31) (.cst (.bool true)) (.tmp 34), none⟩] [15, 16, 17, 35] none)
      (.cond (.tmp 35) (.seq (.region none [] [
          ⟨some 2, .mov (.cst (.bool false)), none⟩] [2] none)
        (.ret))
      (.skip))))))
    (.region none [] [
      ⟨some 36, .bin .add .int (.tmp 17) (.cst (.int .i64 1)), none⟩,
      ⟨some 17, .mov (.tmp 36), none⟩] [15, 16, 17] none)))

def c130 : ACode :=
  .seq (.region none [] [
      ⟨some 2, .mov (.cst (.bool false)), none⟩] [0] none)
    (.seq (.seq (.region none [] [
      ⟨some 6, .mov (.tmp 0), none⟩,
      ⟨some 7, .len .slice (.tmp 6), none⟩,
      ⟨some 8, .bin .rem .int (.tmp 7) (.cst (.int .i64 2)), none⟩,
      ⟨some 9, .bin .eql .int (.tmp 8) (.cst (.int .i64 0)), none⟩,
      ⟨some 10, .mov (.tmp 9), none⟩,
      ⟨some 11, .mov (.tmp 0), some (10, false)⟩,
      ⟨some 12, .len .slice (.tmp 11), some (10, false)⟩,
      ⟨some 13, .bin .gtr .int (.tmp 12) (.cst (.int .i64 25)), some (10, false)⟩,
      ⟨some 14, .pick (.tmp 10) (.cst (.bool true)) (.tmp 13), none⟩] [0, 14] none)
    (.cond (.tmp 14) (.seq (.region none [] [
        ⟨some 2, .mov (.cst (.bool false)), none⟩] [2] none)
      (.ret))
    (.skip)))
    (.seq (.seq (.region none [] [
      ⟨some 15, .mov (.tmp 0), none⟩,
      ⟨some 16, .len .slice (.tmp 15), none⟩,
      ⟨some 17, .mov (.cst (.int .i64 0)), none⟩] [15, 16, 17] none)
    (.block 0 (.loop l130_0_h l130_0_b)))
    (.seq (.region none [] [
      ⟨some 2, .mov (.cst (.bool true)), none⟩] [2] none)
    (.ret))))

def a130 : AFunc := ⟨1, c130, [.tmp 2]⟩

def an130 : List RAnn := [
  { id := 0, live := [0] },
  { id := 1, live := [0, 14] },
  { id := 2, live := [2] },
  { id := 3, live := [15, 16, 17] },
  { id := 4, live := [15, 16, 17, 18], hdr := [15, 16, 17] },
  { id := 5, live := [3, 4, 15, 16, 17] },
  { id := 6, live := [4, 5, 15, 16, 17] },
  { id := 7, live := [15, 16, 17, 35] },
  { id := 8, live := [2] },
  { id := 9, live := [15, 16, 17] },
  { id := 10, live := [2] }]

theorem comp130 : compF Try.prog an130 Try.f130 = some a130 := by kernel_rfl

/- slices.order2Ordered[string] -/
def c131 : ACode :=
  .seq (.region none [] [
      ⟨some 8, .mov (.cst (.int .i64 0)), none⟩,
      ⟨some 9, .mov (.cst (.int .i64 0)), none⟩] [0, 1, 2, 3] none)
    (.seq (.seq (.region (some 9) [] [
      ⟨some 10, .mov (.tmp 0), none⟩,
      ⟨some 11, .mov (.tmp 2), none⟩,
      ⟨some 12, .iaddr 1 (.tmp 10) (.tmp 11), none⟩,
      ⟨some 13, .load none (.tmp 12), none⟩,
      ⟨some 14, .mov (.tmp 0), none⟩,
      ⟨some 15, .mov (.tmp 1), none⟩,
      ⟨some 16, .iaddr 1 (.tmp 14) (.tmp 15), none⟩,
      ⟨some 17, .load none (.tmp 16), none⟩,
      ⟨some 18, .call .pure 112 [(.tmp 13), (.tmp 17)], none⟩] [1, 2, 3, 18] none)
    (.cond (.tmp 18) (.seq (.region none [] [
        ⟨some 19, .mov (.tmp 3), none⟩,
        ⟨some 20, .nilchk (.tmp 19), none⟩,
        ⟨some 21, .load none (.tmp 20), none⟩,
        ⟨some 22, .bin .add .int (.tmp 21) (.cst (.int .i64 1)), none⟩,
        ⟨some 23, .nilchk (.tmp 19), none⟩,
        ⟨none, .store 1 (.tmp 23) (.tmp 22), none⟩] [1, 2] none)
      (.seq (.region none [] [
        ⟨some 24, .mov (.tmp 2), none⟩,
        ⟨some 25, .mov (.tmp 1), none⟩,
        ⟨some 8, .mov (.tmp 24), none⟩,
        ⟨some 9, .mov (.tmp 25), none⟩] [8, 9] none)
      (.ret)))
    (.skip)))
    (.seq (.region none [] [
      ⟨some 26, .mov (.tmp 1), none⟩,
      ⟨some 27, .mov (.tmp 2), none⟩,
      ⟨some 8, .mov (.tmp 26), none⟩,
      ⟨some 9, .mov (.tmp 27), none⟩] [8, 9] none)
    (.ret)))

def a131 : AFunc := ⟨4, c131, [.tmp 8, .tmp 9]⟩

def an131 : List RAnn := [
  { id := 0, live := [0, 1, 2, 3] },
  { id := 1, head := some 9, live := [1, 2, 3, 18] },
  { id := 2, live := [1, 2] },
  { id := 3, live := [8, 9] },
  { id := 4, live := [8, 9] }]

theorem comp131 : compF Try.prog an131 Try.f131 = some a131 := by kernel_rfl

/- graphdb/num.Gcd -/
/-- loop 0 of function 132 -/
def l132_0_h : List Nat := [0, 1]

def l132_0_b : ACode :=
  .seq (.seq (.region none [] [
      ⟨some 17, .mov (.tmp 1), none⟩,
      ⟨some 18, .bin .neq .int (.tmp 17) (.cst (.int .i64 0)), none⟩] [0, 1, 18] none)
    (.cond (.tmp 18) (.skip)
    (.exit 0)))
    (.block 1 (.region (some 6) [] [
        ⟨some 19, .mov (.tmp 1), none⟩,
        ⟨some 20, .mov (.tmp 0), none⟩,
        ⟨some 21, .mov (.tmp 1), none⟩,
        ⟨some 22, .bin .rem .int (.tmp 20) (.tmp 21), none⟩,
        ⟨some 0, .mov (.tmp 19), none⟩,
        ⟨some 1, .mov (.tmp 22), none⟩] [0, 1] none))

def c132 : ACode :=
  .seq (.region none [] [
      ⟨some 4, .mov (.cst (.int .i64 0)), none⟩] [0, 1] none)
    (.seq (.seq (.region none [] [
      ⟨some 5, .mov (.tmp 0), none⟩,
      ⟨some 6, .call .pure 126 [(.tmp 5)], none⟩,
      ⟨some 7, .un .not (.tmp 6), none⟩,
      ⟨some 8, .mov (.tmp 7), none⟩,
      ⟨some 9, .mov (.tmp 1), some (8, false)⟩,
      ⟨some 10, .call .pure 126 [(.tmp 9)], some (8, false)⟩,
      ⟨some 11, .un .not (.tmp 10), some (8, false)⟩,
      ⟨some 12, .pick (.tmp 8) (.cst (.bool true)) (.tmp 11), none⟩] [0, 1, 12] none)
    (.cond (.tmp 12) (.seq (.region none [] [
        ⟨some 4, .mov (.cst (.int .i64 0)), none⟩] [4] none)
      (.ret))
    (.skip)))
    (.seq (.region none [] [
      ⟨some 13, .mov (.tmp 0), none⟩,
      ⟨some 14, .call .pure 134 [(.tmp 13)], none⟩,
      ⟨some 15, .mov (.tmp 1), none⟩,
      ⟨some 16, .call .pure 134 [(.tmp 15)], none⟩,
      ⟨some 0, .mov (.tmp 14), none⟩,
      ⟨some 1, .mov (.tmp 16), none⟩] [0, 1] none)
    (.seq (.block 0 (.loop l132_0_h l132_0_b))
    (.seq (.region none [] [
      ⟨some 23, .mov (.tmp 0), none⟩,
      ⟨some 4, .mov (.tmp 23), none⟩] [4] none)
    (.ret)))))

def a132 : AFunc := ⟨2, c132, [.tmp 4]⟩

def an132 : List RAnn := [
  { id := 0, live := [0, 1] },
  { id := 1, live := [0, 1, 12] },
  { id := 2, live := [4] },
  { id := 3, live := [0, 1] },
  { id := 4, live := [0, 1, 18], hdr := [0, 1] },
  { id := 5, head := some 6, live := [0, 1] },
  { id := 6, live := [4] }]

theorem comp132 : compF Try.prog an132 Try.f132 = some a132 := by kernel_rfl

/- graphdb/num.abs -/
def c134 : ACode :=
  .seq (.region none [] [
      ⟨some 2, .mov (.cst (.int .i64 0)), none⟩] [0] none)
    (.seq (.region none [] [
      ⟨some 3, .mov (.tmp 0), none⟩,
      ⟨some 4, .mov (.tmp 0), none⟩,
      ⟨some 5, .un .neg (.tmp 4), none⟩,
      ⟨some 6, .max (.tmp 3) (.tmp 5), none⟩,
      ⟨some 2, .mov (.tmp 6), none⟩] [2] none)
    (.ret))

def a134 : AFunc := ⟨1, c134, [.tmp 2]⟩

def an134 : List RAnn := [
  { id := 0, live := [0] },
  { id := 1, live := [2] }]

theorem comp134 : compF Try.prog an134 Try.f134 = some a134 := by kernel_rfl

end AI
end Go.Proofs.Ytnakgkibjlcjlaa
