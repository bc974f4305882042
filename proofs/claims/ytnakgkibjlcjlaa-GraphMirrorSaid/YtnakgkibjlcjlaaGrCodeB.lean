/- Printed by a program of mine: the functions, compiled; the kernel checks each against the given form. -/
import Derived.Test.YtnakgkibjlcjlaaSe
import Derived.Test.YtnakgkibjlcjlaaProg
import Derived.KernelRfl
import Derived.Test.YtnakgkibjlcjlaaIxF
namespace Go.Proofs.Ytnakgkibjlcjlaa
namespace AI
/- graphdb/graphdbref07.HasType -/
def c41 : ACode :=
  .seq (.region none [] [
      ⟨some 2, .box 5 (.tmp 0), none⟩,
      ⟨some 4, .mov (.cst (.bool false)), none⟩] [1, 2] none)
    (.seq (.region none [] [
      ⟨some 5, .mov (.tmp 1), none⟩,
      ⟨some 6, .len .slice (.tmp 5), none⟩,
      ⟨some 7, .bin .eql .int (.tmp 6) (.cst (.int .i64 0)), none⟩,
      ⟨some 8, .mov (.tmp 7), none⟩,
      ⟨some 9, .mov (.tmp 1), some (8, false)⟩,
      ⟨some 10, .faddr 3 (.tmp 2), some (8, false)⟩,
      ⟨some 11, .load none (.tmp 10), some (8, false)⟩,
      ⟨some 12, .call .pure 48 [(.tmp 9), (.tmp 11)], some (8, false)⟩,
      ⟨some 13, .pick (.tmp 8) (.cst (.bool true)) (.tmp 12), none⟩,
      ⟨some 4, .mov (.tmp 13), none⟩] [4] none)
    (.ret))

def a41 : AFunc := ⟨2, c41, [.tmp 4]⟩

def an41 : List RAnn := [
  { id := 0, live := [1, 2] },
  { id := 1, live := [4] }]

theorem comp41 : compF Try.prog an41 Try.f41 = some a41 := by kernel_rfl

/- graphdb/graph.parts -/
/-- loop 0 of function 42 -/
def l42_0_h : List Nat := [0, 1, 5, 18, 19, 20]

def l42_0_b : ACode :=
  .seq (.region none [] [
      ⟨some 21, .bin .lss .int (.tmp 20) (.tmp 19), none⟩] [0, 1, 5, 18, 19, 20, 21] none)
    (.seq (.cond (.tmp 21) (.skip)
    (.exit 0))
    (.seq (.block 1 (.seq (.region none [] [
        ⟨some 22, .iaddr 6 (.tmp 18) (.tmp 20), none⟩,
        ⟨some 23, .load (some 6) (.tmp 22), none⟩,
        ⟨some 7, .alloc 6 (.agg [.str [], .int .i64 0, .int .i64 0, .int .i64 0, .str [], .sl false []]), none⟩,
        ⟨none, .store 6 (.tmp 7) (.tmp 23), none⟩] [0, 1, 5, 7, 18, 19, 20] none)
      (.region none [] [
        ⟨some 24, .mov (.tmp 5), none⟩,
        ⟨some 25, .faddr 0 (.tmp 7), none⟩,
        ⟨some 26, .load none (.tmp 25), none⟩,
        ⟨some 27, .lit false 1 (.str []) 1 [(0, (.tmp 26))], none⟩,
        ⟨some 28, .append 1 16 (.tmp 24) (.tmp 27), none⟩,
        ⟨some 5, .mov (.tmp 28), none⟩] [0, 1, 5, 18, 19, 20] none)))
    (.region none [] [
      ⟨some 29, .bin .add .int (.tmp 20) (.cst (.int .i64 1)), none⟩,
      ⟨some 20, .mov (.tmp 29), none⟩] [0, 1, 5, 18, 19, 20] (some 1))))

/-- loop 1 of function 42 -/
def l42_1_h : List Nat := [44, 45, 46]

def l42_1_b : ACode :=
  .seq (.region none [] [
      ⟨some 47, .bin .lss .int (.tmp 46) (.tmp 45), none⟩] [44, 45, 46, 47] none)
    (.seq (.cond (.tmp 47) (.skip)
    (.exit 2))
    (.seq (.block 3 (.seq (.region none [] [
        ⟨some 48, .iaddr 6 (.tmp 44) (.tmp 46), none⟩,
        ⟨some 49, .load (some 6) (.tmp 48), none⟩,
        ⟨some 9, .alloc 6 (.agg [.str [], .int .i64 0, .int .i64 0, .int .i64 0, .str [], .sl false []]), none⟩,
        ⟨none, .store 6 (.tmp 9) (.tmp 49), none⟩] [9, 44, 45, 46] none)
      (.seq (.region none [] [
        ⟨some 50, .faddr 1 (.tmp 9), none⟩,
        ⟨some 51, .load (some 5) (.tmp 50), none⟩,
        ⟨some 52, .call .pure 70 [(.tmp 51)], none⟩,
        ⟨some 53, .un .not (.tmp 52), none⟩] [44, 45, 46, 53] none)
      (.cond (.tmp 53) (.seq (.region none [] [
          ⟨some 4, .mov (.cst (.int .i64 8)), none⟩] [4] none)
        (.ret))
      (.skip)))))
    (.region none [] [
      ⟨some 54, .bin .add .int (.tmp 46) (.cst (.int .i64 1)), none⟩,
      ⟨some 46, .mov (.tmp 54), none⟩] [44, 45, 46] (some 1))))

def c42 : ACode :=
  .seq (.region none [] [
      ⟨some 4, .mov (.cst (.int .i64 0)), none⟩] [0, 1] none)
    (.seq (.seq (.region none [] [
      ⟨some 10, .mov (.tmp 0), none⟩,
      ⟨some 11, .len .slice (.tmp 10), none⟩,
      ⟨some 12, .bin .gtr .int (.tmp 11) (.cst (.int .i64 8)), none⟩,
      ⟨some 13, .mov (.tmp 12), none⟩,
      ⟨some 14, .mov (.tmp 1), some (13, false)⟩,
      ⟨some 15, .len .slice (.tmp 14), some (13, false)⟩,
      ⟨some 16, .bin .gtr .int (.tmp 15) (.cst (.int .i64 16)), some (13, false)⟩,
      ⟨some 17, .pick (.tmp 13) (.cst (.bool true)) (.tmp 16), none⟩] [0, 1, 17] none)
    (.cond (.tmp 17) (.seq (.region none [] [
        ⟨some 4, .mov (.cst (.int .i64 4)), none⟩] [4] none)
      (.ret))
    (.skip)))
    (.seq (.region none [] [
      ⟨some 5, .newown 1, none⟩] [0, 1, 5] none)
    (.seq (.seq (.region none [] [
      ⟨some 18, .mov (.tmp 1), none⟩,
      ⟨some 19, .len .slice (.tmp 18), none⟩,
      ⟨some 20, .mov (.cst (.int .i64 0)), none⟩] [0, 1, 5, 18, 19, 20] none)
    (.block 0 (.loop l42_0_h l42_0_b)))
    (.seq (.seq (.region none [] [
      ⟨some 30, .mov (.tmp 0), none⟩,
      ⟨some 31, .call .pure 67 [(.tmp 30), (.cst (.fn 68 []))], none⟩,
      ⟨some 32, .mov (.tmp 31), none⟩,
      ⟨some 33, .mov (.tmp 5), some (32, false)⟩,
      ⟨some 34, .call .borrow 67 [(.tmp 33), (.cst (.fn 68 []))], some (32, false)⟩,
      ⟨some 35, .pick (.tmp 32) (.cst (.bool true)) (.tmp 34), none⟩] [0, 1, 5, 35] none)
    (.cond (.tmp 35) (.seq (.region none [] [
        ⟨some 4, .mov (.cst (.int .i64 6)), none⟩] [4] none)
      (.ret))
    (.skip)))
    (.seq (.seq (.region none [] [
      ⟨some 36, .mov (.tmp 0), none⟩,
      ⟨some 37, .call .pure 69 [(.tmp 36)], none⟩,
      ⟨some 38, .un .not (.tmp 37), none⟩,
      ⟨some 39, .mov (.tmp 38), none⟩,
      ⟨some 40, .mov (.tmp 5), some (39, false)⟩,
      ⟨some 41, .call .borrow 69 [(.tmp 40)], some (39, false)⟩,
      ⟨some 42, .un .not (.tmp 41), some (39, false)⟩,
      ⟨some 43, .pick (.tmp 39) (.cst (.bool true)) (.tmp 42), none⟩] [1, 43] none)
    (.cond (.tmp 43) (.seq (.region none [] [
        ⟨some 4, .mov (.cst (.int .i64 26)), none⟩] [4] none)
      (.ret))
    (.skip)))
    (.seq (.seq (.region none [] [
      ⟨some 44, .mov (.tmp 1), none⟩,
      ⟨some 45, .len .slice (.tmp 44), none⟩,
      ⟨some 46, .mov (.cst (.int .i64 0)), none⟩] [44, 45, 46] none)
    (.block 2 (.loop l42_1_h l42_1_b)))
    (.seq (.region none [] [
      ⟨some 4, .mov (.cst (.int .i64 0)), none⟩] [4] none)
    (.ret))))))))

def a42 : AFunc := ⟨2, c42, [.tmp 4]⟩

def an42 : List RAnn := [
  { id := 0, live := [0, 1] },
  { id := 1, live := [0, 1, 17] },
  { id := 2, live := [4] },
  { id := 3, live := [0, 1, 5], ops := [(0, .own)] },
  { id := 4, live := [0, 1, 5, 18, 19, 20] },
  { id := 5, live := [0, 1, 5, 18, 19, 20, 21], hdr := [0, 1, 5, 18, 19, 20] },
  { id := 6, live := [0, 1, 5, 7, 18, 19, 20] },
  { id := 7, live := [0, 1, 5, 18, 19, 20] },
  { id := 8, live := [0, 1, 5, 18, 19, 20], trunc := some 1 },
  { id := 9, live := [0, 1, 5, 35], ops := [(4, .mode .borrow)] },
  { id := 10, live := [4] },
  { id := 11, live := [1, 43], ops := [(5, .mode .borrow)] },
  { id := 12, live := [4] },
  { id := 13, live := [44, 45, 46] },
  { id := 14, live := [44, 45, 46, 47], hdr := [44, 45, 46] },
  { id := 15, live := [9, 44, 45, 46] },
  { id := 16, live := [44, 45, 46, 53] },
  { id := 17, live := [4] },
  { id := 18, live := [44, 45, 46], trunc := some 1 },
  { id := 19, live := [4] }]

theorem comp42 : compF Try.prog an42 Try.f42 = some a42 := by kernel_rfl

/- graphdb/graph.has -/
def c43 : ACode :=
  .seq (.region none [] [
      ⟨some 4, .mov (.cst (.bool false)), none⟩] [0, 1] none)
    (.seq (.region none [] [
      ⟨some 8, .mov (.tmp 0), none⟩,
      ⟨some 9, .mov (.tmp 1), none⟩,
      ⟨some 10, .call .pure 71 [(.tmp 8), (.tmp 9), (.cst (.fn 72 []))], none⟩,
      ⟨some 7, .mov (.tmp 10), none⟩,
      ⟨some 11, .ext (.tmp 7) 0, none⟩,
      ⟨some 12, .ext (.tmp 7) 1, none⟩,
      ⟨some 5, .mov (.tmp 11), none⟩,
      ⟨some 6, .mov (.tmp 12), none⟩] [6] none)
    (.seq (.region none [] [
      ⟨some 13, .mov (.tmp 6), none⟩,
      ⟨some 4, .mov (.tmp 13), none⟩] [4] none)
    (.ret)))

def a43 : AFunc := ⟨2, c43, [.tmp 4]⟩

def an43 : List RAnn := [
  { id := 0, live := [0, 1] },
  { id := 1, live := [6] },
  { id := 2, live := [4] }]

theorem comp43 : compF Try.prog an43 Try.f43 = some a43 := by kernel_rfl

/- slices.Contains[[]string,string] -/
def c44 : ACode :=
  .seq (.region none [] [
      ⟨some 4, .mov (.cst (.bool false)), none⟩] [0, 1] none)
    (.seq (.region none [] [
      ⟨some 5, .mov (.tmp 0), none⟩,
      ⟨some 6, .mov (.tmp 1), none⟩,
      ⟨some 7, .call .pure 73 [(.tmp 5), (.tmp 6)], none⟩,
      ⟨some 8, .bin .geq .int (.tmp 7) (.cst (.int .i64 0)), none⟩,
      ⟨some 4, .mov (.tmp 8), none⟩] [4] none)
    (.ret))

def a44 : AFunc := ⟨2, c44, [.tmp 4]⟩

def an44 : List RAnn := [
  { id := 0, live := [0, 1] },
  { id := 1, live := [4] }]

theorem comp44 : compF Try.prog an44 Try.f44 = some a44 := by kernel_rfl

/- slices.Clone[[]string,string] -/
def c45 : ACode :=
  .seq (.region none [] [
      ⟨some 2, .mov (.cst (.sl false [])), none⟩] [0] none)
    (.seq (.seq (.region none [] [
      ⟨some 3, .mov (.tmp 0), none⟩,
      ⟨some 4, .bin .eql .slice (.tmp 3) (.cst (.sl false [])), none⟩] [0, 4] none)
    (.cond (.tmp 4) (.seq (.region none [] [
        ⟨some 2, .mov (.cst (.sl false [])), none⟩] [2] none)
      (.ret))
    (.skip)))
    (.seq (.region none [] [
      ⟨some 5, .lit true 1 (.str []) 0 [], none⟩,
      ⟨some 6, .mov (.tmp 0), none⟩,
      ⟨some 7, .append 1 16 (.tmp 5) (.tmp 6), none⟩,
      ⟨some 2, .mov (.tmp 7), none⟩] [2] none)
    (.ret)))

def a45 : AFunc := ⟨1, c45, [.tmp 2]⟩

def an45 : List RAnn := [
  { id := 0, live := [0] },
  { id := 1, live := [0, 4] },
  { id := 2, live := [2] },
  { id := 3, live := [2], ops := [(0, .own)] }]

theorem comp45 : compF Try.prog an45 Try.f45 = some a45 := by kernel_rfl

/- graphdb/graph.cloneProps -/
/-- loop 0 of function 46 -/
def l46_0_h : List Nat := [3, 8, 9]

def l46_0_b : ACode :=
  .seq (.region none [] [
      ⟨some 10, .bin .lss .int (.tmp 9) (.tmp 8), none⟩] [3, 8, 9, 10] none)
    (.seq (.cond (.tmp 10) (.skip)
    (.exit 0))
    (.seq (.block 1 (.seq (.region none [] [
        ⟨some 11, .mov (.tmp 9), none⟩,
        ⟨some 4, .mov (.tmp 11), none⟩] [3, 4, 8, 9] none)
      (.region none [] [
        ⟨some 12, .mov (.tmp 3), none⟩,
        ⟨some 13, .mov (.tmp 4), none⟩,
        ⟨some 14, .mov (.tmp 3), none⟩,
        ⟨some 15, .mov (.tmp 4), none⟩,
        ⟨some 16, .iaddr 6 (.tmp 14) (.tmp 15), none⟩,
        ⟨some 17, .faddr 1 (.tmp 16), none⟩,
        ⟨some 18, .load (some 5) (.tmp 17), none⟩,
        ⟨some 19, .call .pure 56 [(.tmp 18)], none⟩,
        ⟨some 20, .iaddr 6 (.tmp 12) (.tmp 13), none⟩,
        ⟨some 21, .faddr 1 (.tmp 20), none⟩,
        ⟨none, .store 5 (.tmp 21) (.tmp 19), none⟩] [3, 8, 9] none)))
    (.region none [] [
      ⟨some 22, .bin .add .int (.tmp 9) (.cst (.int .i64 1)), none⟩,
      ⟨some 9, .mov (.tmp 22), none⟩] [3, 8, 9] none)))

def c46 : ACode :=
  .seq (.region none [] [
      ⟨some 2, .mov (.cst (.sl false [])), none⟩] [0] none)
    (.seq (.region none [] [
      ⟨some 5, .mov (.tmp 0), none⟩,
      ⟨some 6, .call .own 74 [(.tmp 5)], none⟩,
      ⟨some 3, .mov (.tmp 6), none⟩] [3] none)
    (.seq (.seq (.region none [] [
      ⟨some 7, .mov (.tmp 3), none⟩,
      ⟨some 8, .len .slice (.tmp 7), none⟩,
      ⟨some 9, .mov (.cst (.int .i64 0)), none⟩] [3, 8, 9] none)
    (.block 0 (.loop l46_0_h l46_0_b)))
    (.seq (.region none [] [
      ⟨some 23, .mov (.tmp 3), none⟩,
      ⟨some 2, .mov (.tmp 23), none⟩] [2] none)
    (.ret))))

def a46 : AFunc := ⟨1, c46, [.tmp 2]⟩

def an46 : List RAnn := [
  { id := 0, live := [0] },
  { id := 1, live := [3], ops := [(1, .mode .own)] },
  { id := 2, live := [3, 8, 9] },
  { id := 3, live := [3, 8, 9, 10], hdr := [3, 8, 9] },
  { id := 4, live := [3, 4, 8, 9] },
  { id := 5, live := [3, 8, 9] },
  { id := 6, live := [3, 8, 9] },
  { id := 7, live := [2] }]

theorem comp46 : compF Try.prog an46 Try.f46 = some a46 := by kernel_rfl

/- graphdb/graphdbref07.SameProps -/
/-- loop 0 of function 47 -/
def l47_0_h : List Nat := [0, 1, 5]

def l47_0_b : ACode :=
  .seq (.seq (.region none [] [
      ⟨some 11, .mov (.tmp 5), none⟩,
      ⟨some 12, .mov (.tmp 0), none⟩,
      ⟨some 13, .len .slice (.tmp 12), none⟩,
      ⟨some 14, .bin .lss .int (.tmp 11) (.tmp 13), none⟩] [0, 1, 5, 14] none)
    (.cond (.tmp 14) (.skip)
    (.exit 0)))
    (.seq (.block 1 (.seq (.region (some 25) [] [
        ⟨some 17, .mov (.tmp 0), none⟩,
        ⟨some 18, .mov (.tmp 5), none⟩,
        ⟨some 19, .iaddr 6 (.tmp 17) (.tmp 18), none⟩,
        ⟨some 20, .faddr 0 (.tmp 19), none⟩,
        ⟨some 21, .load none (.tmp 20), none⟩,
        ⟨some 22, .mov (.tmp 1), none⟩,
        ⟨some 23, .mov (.tmp 5), none⟩,
        ⟨some 24, .iaddr 6 (.tmp 22) (.tmp 23), none⟩,
        ⟨some 25, .faddr 0 (.tmp 24), none⟩,
        ⟨some 26, .load none (.tmp 25), none⟩,
        ⟨some 27, .bin .neq .str (.tmp 21) (.tmp 26), none⟩,
        ⟨some 28, .mov (.tmp 27), none⟩,
        ⟨some 29, .mov (.tmp 0), some (28, false)⟩,
        ⟨some 30, .mov (.tmp 5), some (28, false)⟩,
        ⟨some 31, .iaddr 6 (.tmp 29) (.tmp 30), some (28, false)⟩,
        ⟨some 32, .faddr 1 (.tmp 31), some (28, false)⟩,
        ⟨some 33, .load (some 5) (.tmp 32), some (28, false)⟩,
        ⟨some 34, .mov (.tmp 1), some (28, false)⟩,
        ⟨some 35, .mov (.tmp 5), some (28, false)⟩,
        ⟨some 36, .iaddr 6 (.tmp 34) (.tmp 35), some (28, false)⟩,
        ⟨some 37, .faddr 1 (.tmp 36), some (28, false)⟩,
        ⟨some 38, .load (some 5) (.tmp 37), some (28, false)⟩,
        ⟨some 39, .call .pure 23 [(.tmp 33), (.tmp 38)], some (28, false)⟩,
        ⟨some 40, .bin .neq .int (.tmp 39) (.cst (.int .i64 0)), some (28, false)⟩,
        ⟨some 41, .pick (.tmp 28) (.cst (.bool true)) (.tmp 40), none⟩] [0, 1, 5, 41] none)
      (.cond (.tmp 41) (.seq (.region none [] [
          ⟨some 4, .mov (.cst (.bool false)), none⟩] [4] none)
        (.ret))
      (.skip))))
    (.region none [] [
      ⟨some 15, .mov (.tmp 5), none⟩,
      ⟨some 16, .bin .add .int (.tmp 15) (.cst (.int .i64 1)), none⟩,
      ⟨some 5, .mov (.tmp 16), none⟩] [0, 1, 5] none))

def c47 : ACode :=
  .seq (.region none [] [
      ⟨some 4, .mov (.cst (.bool false)), none⟩] [0, 1] none)
    (.seq (.seq (.region none [] [
      ⟨some 6, .mov (.tmp 0), none⟩,
      ⟨some 7, .len .slice (.tmp 6), none⟩,
      ⟨some 8, .mov (.tmp 1), none⟩,
      ⟨some 9, .len .slice (.tmp 8), none⟩,
      ⟨some 10, .bin .neq .int (.tmp 7) (.tmp 9), none⟩] [0, 1, 10] none)
    (.cond (.tmp 10) (.seq (.region none [] [
        ⟨some 4, .mov (.cst (.bool false)), none⟩] [4] none)
      (.ret))
    (.skip)))
    (.seq (.seq (.region none [] [
      ⟨some 5, .mov (.cst (.int .i64 0)), none⟩] [0, 1, 5] none)
    (.block 0 (.loop l47_0_h l47_0_b)))
    (.seq (.region none [] [
      ⟨some 4, .mov (.cst (.bool true)), none⟩] [4] none)
    (.ret))))

def a47 : AFunc := ⟨2, c47, [.tmp 4]⟩

def an47 : List RAnn := [
  { id := 0, live := [0, 1] },
  { id := 1, live := [0, 1, 10] },
  { id := 2, live := [4] },
  { id := 3, live := [0, 1, 5] },
  { id := 4, live := [0, 1, 5, 14], hdr := [0, 1, 5] },
  { id := 6, head := some 25, live := [0, 1, 5, 41] },
  { id := 7, live := [4] },
  { id := 5, live := [0, 1, 5] },
  { id := 8, live := [4] }]

theorem comp47 : compF Try.prog an47 Try.f47 = some a47 := by kernel_rfl

/- graphdb/graphdbref07.HasStr -/
/-- loop 0 of function 48 -/
def l48_0_h : List Nat := [0, 1, 5]

def l48_0_b : ACode :=
  .seq (.seq (.region none [] [
      ⟨some 6, .mov (.tmp 5), none⟩,
      ⟨some 7, .mov (.tmp 0), none⟩,
      ⟨some 8, .len .slice (.tmp 7), none⟩,
      ⟨some 9, .bin .lss .int (.tmp 6) (.tmp 8), none⟩] [0, 1, 5, 9] none)
    (.cond (.tmp 9) (.skip)
    (.exit 0)))
    (.seq (.block 1 (.seq (.region none [] [
        ⟨some 12, .mov (.tmp 0), none⟩,
        ⟨some 13, .mov (.tmp 5), none⟩,
        ⟨some 14, .iaddr 1 (.tmp 12) (.tmp 13), none⟩,
        ⟨some 15, .load none (.tmp 14), none⟩,
        ⟨some 16, .mov (.tmp 1), none⟩,
        ⟨some 17, .bin .eql .str (.tmp 15) (.tmp 16), none⟩] [0, 1, 5, 17] none)
      (.cond (.tmp 17) (.seq (.region none [] [
          ⟨some 4, .mov (.cst (.bool true)), none⟩] [4] none)
        (.ret))
      (.skip))))
    (.region none [] [
      ⟨some 10, .mov (.tmp 5), none⟩,
      ⟨some 11, .bin .add .int (.tmp 10) (.cst (.int .i64 1)), none⟩,
      ⟨some 5, .mov (.tmp 11), none⟩] [0, 1, 5] none))

def c48 : ACode :=
  .seq (.region none [] [
      ⟨some 4, .mov (.cst (.bool false)), none⟩] [0, 1] none)
    (.seq (.seq (.region none [] [
      ⟨some 5, .mov (.cst (.int .i64 0)), none⟩] [0, 1, 5] none)
    (.block 0 (.loop l48_0_h l48_0_b)))
    (.seq (.region none [] [
      ⟨some 4, .mov (.cst (.bool false)), none⟩] [4] none)
    (.ret)))

def a48 : AFunc := ⟨2, c48, [.tmp 4]⟩

def an48 : List RAnn := [
  { id := 0, live := [0, 1] },
  { id := 1, live := [0, 1, 5] },
  { id := 2, live := [0, 1, 5, 9], hdr := [0, 1, 5] },
  { id := 4, live := [0, 1, 5, 17] },
  { id := 5, live := [4] },
  { id := 3, live := [0, 1, 5] },
  { id := 6, live := [4] }]

theorem comp48 : compF Try.prog an48 Try.f48 = some a48 := by kernel_rfl

/- graphdb/graphdbref04.Valid -/
def c49 : ACode :=
  .seq (.region none [] [
      ⟨some 1, .box 5 (.tmp 0), none⟩,
      ⟨some 2, .mov (.cst (.bool false)), none⟩] [1] none)
    (.seq (.region none [] [
      ⟨some 3, .load (some 5) (.tmp 1), none⟩,
      ⟨some 4, .call .pure 75 [(.tmp 3), (.cst (.int .i64 8))], none⟩,
      ⟨some 2, .mov (.tmp 4), none⟩] [2] none)
    (.ret))

def a49 : AFunc := ⟨1, c49, [.tmp 2]⟩

def an49 : List RAnn := [
  { id := 0, live := [1] },
  { id := 1, live := [2] }]

theorem comp49 : compF Try.prog an49 Try.f49 = some a49 := by kernel_rfl

/- graphdb/graphdbref04.yes -/
def c50 : ACode :=
  .seq (.region none [] [
      ⟨some 2, .mov (.cst (.int .i64 0)), none⟩] [0] none)
    (.seq (.seq (.region none [] [
      ⟨some 3, .mov (.tmp 0), none⟩] [3] none)
    (.cond (.tmp 3) (.seq (.region none [] [
        ⟨some 2, .mov (.cst (.int .i64 2)), none⟩] [2] none)
      (.ret))
    (.skip)))
    (.seq (.region none [] [
      ⟨some 2, .mov (.cst (.int .i64 0)), none⟩] [2] none)
    (.ret)))

def a50 : AFunc := ⟨1, c50, [.tmp 2]⟩

def an50 : List RAnn := [
  { id := 0, live := [0] },
  { id := 1, live := [3] },
  { id := 2, live := [2] },
  { id := 3, live := [2] }]

theorem comp50 : compF Try.prog an50 Try.f50 = some a50 := by kernel_rfl

/- graphdb/graphdbref04.fields -/
def c51 : ACode :=
  .seq (.region none [] [
      ⟨some 2, .box 5 (.tmp 0), none⟩,
      ⟨some 3, .box 5 (.tmp 1), none⟩,
      ⟨some 4, .mov (.cst (.int .i64 0)), none⟩] [2, 3] none)
    (.seq (.seq (.region none [] [
      ⟨some 9, .faddr 0 (.tmp 2), none⟩,
      ⟨some 10, .load none (.tmp 9), none⟩,
      ⟨some 11, .faddr 0 (.tmp 3), none⟩,
      ⟨some 12, .load none (.tmp 11), none⟩,
      ⟨some 13, .call .pure 52 [(.tmp 10), (.tmp 12)], none⟩,
      ⟨some 5, .mov (.tmp 13), none⟩] [2, 3, 5] none)
    (.seq (.region none [] [
      ⟨some 14, .mov (.tmp 5), none⟩,
      ⟨some 15, .bin .neq .int (.tmp 14) (.cst (.int .i64 0)), none⟩] [2, 3, 5, 15] none)
    (.cond (.tmp 15) (.seq (.region none [] [
        ⟨some 16, .mov (.tmp 5), none⟩,
        ⟨some 4, .mov (.tmp 16), none⟩] [4] none)
      (.ret))
    (.skip))))
    (.seq (.seq (.region none [] [
      ⟨some 17, .faddr 1 (.tmp 2), none⟩,
      ⟨some 18, .load none (.tmp 17), none⟩,
      ⟨some 19, .faddr 1 (.tmp 3), none⟩,
      ⟨some 20, .load none (.tmp 19), none⟩,
      ⟨some 21, .call .pure 52 [(.tmp 18), (.tmp 20)], none⟩,
      ⟨some 6, .mov (.tmp 21), none⟩] [2, 3, 6] none)
    (.seq (.region none [] [
      ⟨some 22, .mov (.tmp 6), none⟩,
      ⟨some 23, .bin .neq .int (.tmp 22) (.cst (.int .i64 0)), none⟩] [2, 3, 6, 23] none)
    (.cond (.tmp 23) (.seq (.region none [] [
        ⟨some 24, .mov (.tmp 6), none⟩,
        ⟨some 4, .mov (.tmp 24), none⟩] [4] none)
      (.ret))
    (.skip))))
    (.seq (.seq (.region none [] [
      ⟨some 25, .faddr 2 (.tmp 2), none⟩,
      ⟨some 26, .load none (.tmp 25), none⟩,
      ⟨some 27, .faddr 2 (.tmp 3), none⟩,
      ⟨some 28, .load none (.tmp 27), none⟩,
      ⟨some 29, .call .pure 52 [(.tmp 26), (.tmp 28)], none⟩,
      ⟨some 7, .mov (.tmp 29), none⟩] [2, 3, 7] none)
    (.seq (.region none [] [
      ⟨some 30, .mov (.tmp 7), none⟩,
      ⟨some 31, .bin .neq .int (.tmp 30) (.cst (.int .i64 0)), none⟩] [2, 3, 7, 31] none)
    (.cond (.tmp 31) (.seq (.region none [] [
        ⟨some 32, .mov (.tmp 7), none⟩,
        ⟨some 4, .mov (.tmp 32), none⟩] [4] none)
      (.ret))
    (.skip))))
    (.seq (.seq (.region none [] [
      ⟨some 33, .faddr 3 (.tmp 2), none⟩,
      ⟨some 34, .load none (.tmp 33), none⟩,
      ⟨some 35, .faddr 3 (.tmp 3), none⟩,
      ⟨some 36, .load none (.tmp 35), none⟩,
      ⟨some 37, .call .pure 76 [(.tmp 34), (.tmp 36)], none⟩,
      ⟨some 8, .mov (.tmp 37), none⟩] [2, 3, 8] none)
    (.seq (.region none [] [
      ⟨some 38, .mov (.tmp 8), none⟩,
      ⟨some 39, .bin .neq .int (.tmp 38) (.cst (.int .i64 0)), none⟩] [2, 3, 8, 39] none)
    (.cond (.tmp 39) (.seq (.region none [] [
        ⟨some 40, .mov (.tmp 8), none⟩,
        ⟨some 4, .mov (.tmp 40), none⟩] [4] none)
      (.ret))
    (.skip))))
    (.seq (.region none [] [
      ⟨some 41, .faddr 4 (.tmp 2), none⟩,
      ⟨some 42, .load none (.tmp 41), none⟩,
      ⟨some 43, .faddr 4 (.tmp 3), none⟩,
      ⟨some 44, .load none (.tmp 43), none⟩,
      ⟨some 45, .call .pure 77 [(.tmp 42), (.tmp 44)], none⟩,
      ⟨some 4, .mov (.tmp 45), none⟩] [4] none)
    (.ret))))))

def a51 : AFunc := ⟨2, c51, [.tmp 4]⟩

def an51 : List RAnn := [
  { id := 0, live := [2, 3] },
  { id := 1, live := [2, 3, 5] },
  { id := 2, live := [2, 3, 5, 15] },
  { id := 3, live := [4] },
  { id := 4, live := [2, 3, 6] },
  { id := 5, live := [2, 3, 6, 23] },
  { id := 6, live := [4] },
  { id := 7, live := [2, 3, 7] },
  { id := 8, live := [2, 3, 7, 31] },
  { id := 9, live := [4] },
  { id := 10, live := [2, 3, 8] },
  { id := 11, live := [2, 3, 8, 39] },
  { id := 12, live := [4] },
  { id := 13, live := [4] }]

theorem comp51 : compF Try.prog an51 Try.f51 = some a51 := by kernel_rfl

/- graphdb/graphdbref04.ints -/
def c52 : ACode :=
  .seq (.region none [] [
      ⟨some 4, .mov (.cst (.int .i64 0)), none⟩] [0, 1] none)
    (.seq (.seq (.region none [] [
      ⟨some 5, .mov (.tmp 0), none⟩,
      ⟨some 6, .mov (.tmp 1), none⟩,
      ⟨some 7, .bin .lss .int (.tmp 5) (.tmp 6), none⟩] [0, 1, 7] none)
    (.cond (.tmp 7) (.seq (.region none [] [
        ⟨some 4, .mov (.cst (.int .i64 (-1))), none⟩] [4] none)
      (.ret))
    (.skip)))
    (.seq (.seq (.region none [] [
      ⟨some 8, .mov (.tmp 0), none⟩,
      ⟨some 9, .mov (.tmp 1), none⟩,
      ⟨some 10, .bin .gtr .int (.tmp 8) (.tmp 9), none⟩] [10] none)
    (.cond (.tmp 10) (.seq (.region none [] [
        ⟨some 4, .mov (.cst (.int .i64 1)), none⟩] [4] none)
      (.ret))
    (.skip)))
    (.seq (.region none [] [
      ⟨some 4, .mov (.cst (.int .i64 0)), none⟩] [4] none)
    (.ret))))

def a52 : AFunc := ⟨2, c52, [.tmp 4]⟩

def an52 : List RAnn := [
  { id := 0, live := [0, 1] },
  { id := 1, live := [0, 1, 7] },
  { id := 2, live := [4] },
  { id := 3, live := [10] },
  { id := 4, live := [4] },
  { id := 5, live := [4] }]

theorem comp52 : compF Try.prog an52 Try.f52 = some a52 := by kernel_rfl

/- graphdb/graphdbref04.class -/
def c53 : ACode :=
  .seq (.region none [] [
      ⟨some 2, .mov (.cst (.int .i64 0)), none⟩] [0] none)
    (.seq (.seq (.region none [] [
      ⟨some 3, .mov (.tmp 0), none⟩] [3] none)
    (.block 0 (.seq (.region none [] [
        ⟨some 5, .bin .eql .int (.tmp 3) (.cst (.int .i64 0)), none⟩,
        ⟨some 4, .mov (.tmp 5), none⟩] [3, 4] none)
      (.cond (.tmp 4) (.seq (.region none [] [
          ⟨some 2, .mov (.cst (.int .i64 0)), none⟩] [2] none)
        (.ret))
      (.seq (.region none [] [
          ⟨some 7, .bin .eql .int (.tmp 3) (.cst (.int .i64 1)), none⟩,
          ⟨some 6, .mov (.tmp 7), none⟩] [3, 6] none)
        (.cond (.tmp 6) (.seq (.region none [] [
            ⟨some 2, .mov (.cst (.int .i64 1)), none⟩] [2] none)
          (.ret))
        (.seq (.seq (.region none [] [
            ⟨some 9, .bin .eql .int (.tmp 3) (.cst (.int .i64 2)), none⟩,
            ⟨some 8, .mov (.tmp 9), none⟩] [3, 8] none)
          (.cond (.tmp 8) (.skip)
          (.region none [] [
              ⟨some 10, .bin .eql .int (.tmp 3) (.cst (.int .i64 3)), none⟩,
              ⟨some 8, .mov (.tmp 10), none⟩] [3, 8] none)))
          (.cond (.tmp 8) (.seq (.region none [] [
              ⟨some 2, .mov (.cst (.int .i64 2)), none⟩] [2] none)
            (.ret))
          (.seq (.region none [] [
              ⟨some 12, .bin .eql .int (.tmp 3) (.cst (.int .i64 4)), none⟩,
              ⟨some 11, .mov (.tmp 12), none⟩] [3, 11] none)
            (.cond (.tmp 11) (.seq (.region none [] [
                ⟨some 2, .mov (.cst (.int .i64 3)), none⟩] [2] none)
              (.ret))
            (.seq (.region none [] [
                ⟨some 14, .bin .eql .int (.tmp 3) (.cst (.int .i64 5)), none⟩,
                ⟨some 13, .mov (.tmp 14), none⟩] [3, 13] none)
              (.cond (.tmp 13) (.seq (.region none [] [
                  ⟨some 2, .mov (.cst (.int .i64 4)), none⟩] [2] none)
                (.ret))
              (.seq (.region none [] [
                  ⟨some 16, .bin .eql .int (.tmp 3) (.cst (.int .i64 6)), none⟩,
                  ⟨some 15, .mov (.tmp 16), none⟩] [3, 15] none)
                (.cond (.tmp 15) (.seq (.region none [] [
                    ⟨some 2, .mov (.cst (.int .i64 5)), none⟩] [2] none)
                  (.ret))
                (.seq (.region none [] [
                    ⟨some 18, .bin .eql .int (.tmp 3) (.cst (.int .i64 8)), none⟩,
                    ⟨some 17, .mov (.tmp 18), none⟩] [17] none)
                  (.cond (.tmp 17) (.seq (.region none [] [
                      ⟨some 2, .mov (.cst (.int .i64 6)), none⟩] [2] none)
                    (.ret))
                  (.skip)))))))))))))))))
    (.seq (.region none [] [
      ⟨some 2, .mov (.cst (.int .i64 7)), none⟩] [2] none)
    (.ret)))

def a53 : AFunc := ⟨1, c53, [.tmp 2]⟩

def an53 : List RAnn := [
  { id := 0, live := [0] },
  { id := 1, live := [3] },
  { id := 2, live := [3, 4] },
  { id := 3, live := [2] },
  { id := 4, live := [3, 6] },
  { id := 5, live := [2] },
  { id := 6, live := [3, 8] },
  { id := 7, live := [3, 8] },
  { id := 8, live := [2] },
  { id := 9, live := [3, 11] },
  { id := 10, live := [2] },
  { id := 11, live := [3, 13] },
  { id := 12, live := [2] },
  { id := 13, live := [3, 15] },
  { id := 14, live := [2] },
  { id := 15, live := [17] },
  { id := 16, live := [2] },
  { id := 17, live := [2] }]

theorem comp53 : compF Try.prog an53 Try.f53 = some a53 := by kernel_rfl

/- graphdb/graphdbref04.Number -/
def c54 : ACode :=
  .seq (.region none [] [
      ⟨some 1, .box 5 (.tmp 0), none⟩,
      ⟨some 2, .alloc 2 (.agg [.int .i64 0, .int .i64 0]), none⟩,
      ⟨some 3, .mov (.cst (.bool false)), none⟩] [1, 2] none)
    (.seq (.seq (.region none [] [
      ⟨some 4, .load (some 5) (.tmp 1), none⟩,
      ⟨some 5, .call .pure 49 [(.tmp 4)], none⟩,
      ⟨some 6, .un .not (.tmp 5), none⟩] [1, 2, 6] none)
    (.cond (.tmp 6) (.seq (.region none [] [
        ⟨some 7, .build [.int .i64 0, .int .i64 0] [], none⟩,
        ⟨none, .store 2 (.tmp 2) (.tmp 7), none⟩,
        ⟨some 3, .mov (.cst (.bool false)), none⟩] [2, 3] none)
      (.ret))
    (.skip)))
    (.seq (.seq (.region none [] [
      ⟨some 8, .faddr 0 (.tmp 1), none⟩,
      ⟨some 9, .load none (.tmp 8), none⟩,
      ⟨some 10, .bin .eql .int (.tmp 9) (.cst (.int .i64 2)), none⟩] [1, 2, 10] none)
    (.cond (.tmp 10) (.seq (.region none [] [
        ⟨some 11, .faddr 1 (.tmp 1), none⟩,
        ⟨some 12, .load none (.tmp 11), none⟩,
        ⟨some 13, .build [.int .i64 0, .int .i64 0] [(0, 1, (.tmp 12)), (1, 1, (.cst (.int .i64 1)))], none⟩,
        ⟨none, .store 2 (.tmp 2) (.tmp 13), none⟩,
        ⟨some 3, .mov (.cst (.bool true)), none⟩] [2, 3] none)
      (.ret))
    (.skip)))
    (.seq (.seq (.region none [] [
      ⟨some 14, .faddr 0 (.tmp 1), none⟩,
      ⟨some 15, .load none (.tmp 14), none⟩,
      ⟨some 16, .bin .eql .int (.tmp 15) (.cst (.int .i64 3)), none⟩] [1, 2, 16] none)
    (.cond (.tmp 16) (.seq (.region none [] [
        ⟨some 17, .faddr 1 (.tmp 1), none⟩,
        ⟨some 18, .load none (.tmp 17), none⟩,
        ⟨some 19, .faddr 2 (.tmp 1), none⟩,
        ⟨some 20, .load none (.tmp 19), none⟩,
        ⟨some 21, .build [.int .i64 0, .int .i64 0] [(0, 1, (.tmp 18)), (1, 1, (.tmp 20))], none⟩,
        ⟨none, .store 2 (.tmp 2) (.tmp 21), none⟩,
        ⟨some 3, .mov (.cst (.bool true)), none⟩] [2, 3] none)
      (.ret))
    (.skip)))
    (.seq (.region none [] [
      ⟨some 22, .build [.int .i64 0, .int .i64 0] [], none⟩,
      ⟨none, .store 2 (.tmp 2) (.tmp 22), none⟩,
      ⟨some 3, .mov (.cst (.bool false)), none⟩] [2, 3] none)
    (.ret)))))

def a54 : AFunc := ⟨1, c54, [.cell 2 (some 2), .tmp 3]⟩

def an54 : List RAnn := [
  { id := 0, live := [1, 2] },
  { id := 1, live := [1, 2, 6] },
  { id := 2, live := [2, 3] },
  { id := 3, live := [1, 2, 10] },
  { id := 4, live := [2, 3] },
  { id := 5, live := [1, 2, 16] },
  { id := 6, live := [2, 3] },
  { id := 7, live := [2, 3] }]

theorem comp54 : compF Try.prog an54 Try.f54 = some a54 := by kernel_rfl

/- graphdb/graphdbref03.Cmp -/
def c55 : ACode :=
  .seq (.region none [] [
      ⟨some 2, .box 2 (.tmp 0), none⟩,
      ⟨some 3, .box 2 (.tmp 1), none⟩,
      ⟨some 4, .mov (.cst (.int .i64 0)), none⟩] [2, 3] none)
    (.seq (.seq (.region none [] [
      ⟨some 7, .load (some 2) (.tmp 2), none⟩,
      ⟨some 8, .call .pure 78 [(.tmp 7)], none⟩,
      ⟨some 9, .un .not (.tmp 8), none⟩] [2, 3, 9] none)
    (.cond (.tmp 9) (.region none [] [
        ⟨some 10, .build [.int .i64 0, .int .i64 0] [(1, 1, (.cst (.int .i64 1)))], none⟩,
        ⟨none, .store 2 (.tmp 2) (.tmp 10), none⟩] [2, 3] none)
    (.skip)))
    (.seq (.seq (.region none [] [
      ⟨some 11, .load (some 2) (.tmp 3), none⟩,
      ⟨some 12, .call .pure 78 [(.tmp 11)], none⟩,
      ⟨some 13, .un .not (.tmp 12), none⟩] [2, 3, 13] none)
    (.cond (.tmp 13) (.region none [] [
        ⟨some 14, .build [.int .i64 0, .int .i64 0] [(1, 1, (.cst (.int .i64 1)))], none⟩,
        ⟨none, .store 2 (.tmp 3) (.tmp 14), none⟩] [2, 3] none)
    (.skip)))
    (.seq (.region (some 25) [] [
      ⟨some 16, .faddr 0 (.tmp 2), none⟩,
      ⟨some 17, .load none (.tmp 16), none⟩,
      ⟨some 18, .call .pure 80 [(.tmp 17)], none⟩,
      ⟨some 19, .faddr 0 (.tmp 2), none⟩,
      ⟨some 20, .load none (.tmp 19), none⟩,
      ⟨some 21, .call .pure 82 [(.tmp 20)], none⟩,
      ⟨some 22, .faddr 1 (.tmp 3), none⟩,
      ⟨some 23, .load none (.tmp 22), none⟩,
      ⟨some 24, .call .pure 81 [(.tmp 21), (.tmp 23)], none⟩,
      ⟨some 25, .faddr 0 (.tmp 3), none⟩,
      ⟨some 26, .load none (.tmp 25), none⟩,
      ⟨some 27, .call .pure 80 [(.tmp 26)], none⟩,
      ⟨some 28, .un .neg (.tmp 27), none⟩,
      ⟨some 29, .faddr 0 (.tmp 3), none⟩,
      ⟨some 30, .load none (.tmp 29), none⟩,
      ⟨some 31, .call .pure 82 [(.tmp 30)], none⟩,
      ⟨some 32, .faddr 1 (.tmp 2), none⟩,
      ⟨some 33, .load none (.tmp 32), none⟩,
      ⟨some 34, .call .pure 81 [(.tmp 31), (.tmp 33)], none⟩,
      ⟨some 35, .call .pure 79 [(.tmp 18), (.tmp 24), (.tmp 28), (.tmp 34)], none⟩,
      ⟨some 15, .mov (.tmp 35), none⟩,
      ⟨some 36, .ext (.tmp 15) 0, none⟩,
      ⟨some 37, .ext (.tmp 15) 1, none⟩,
      ⟨some 5, .mov (.tmp 36), none⟩,
      ⟨some 6, .mov (.tmp 37), none⟩] [5] none)
    (.seq (.region none [] [
      ⟨some 38, .mov (.tmp 5), none⟩,
      ⟨some 4, .mov (.tmp 38), none⟩] [4] none)
    (.ret)))))

def a55 : AFunc := ⟨2, c55, [.tmp 4]⟩

def an55 : List RAnn := [
  { id := 0, live := [2, 3] },
  { id := 1, live := [2, 3, 9] },
  { id := 2, live := [2, 3] },
  { id := 3, live := [2, 3, 13] },
  { id := 4, live := [2, 3] },
  { id := 5, head := some 25, live := [5] },
  { id := 6, live := [4] }]

theorem comp55 : compF Try.prog an55 Try.f55 = some a55 := by kernel_rfl

/- graphdb/graph.cloneValue -/
/-- loop 0 of function 56 -/
def l56_0_h : List Nat := [1, 2, 10, 11]

def l56_0_b : ACode :=
  .seq (.region none [] [
      ⟨some 12, .bin .lss .int (.tmp 11) (.tmp 10), none⟩] [1, 2, 10, 11, 12] none)
    (.seq (.cond (.tmp 12) (.skip)
    (.exit 0))
    (.seq (.block 1 (.seq (.region none [] [
        ⟨some 13, .mov (.tmp 11), none⟩,
        ⟨some 3, .mov (.tmp 13), none⟩] [1, 2, 3, 10, 11] none)
      (.region (some 10) [] [
        ⟨some 14, .faddr 4 (.tmp 1), none⟩,
        ⟨some 15, .load none (.tmp 14), none⟩,
        ⟨some 16, .mov (.tmp 3), none⟩,
        ⟨some 17, .faddr 4 (.tmp 1), none⟩,
        ⟨some 18, .load none (.tmp 17), none⟩,
        ⟨some 19, .mov (.tmp 3), none⟩,
        ⟨some 20, .iaddr 5 (.tmp 18) (.tmp 19), none⟩,
        ⟨some 21, .load (some 5) (.tmp 20), none⟩,
        ⟨some 22, .call .pure 56 [(.tmp 21)], none⟩,
        ⟨some 23, .iaddr 5 (.tmp 15) (.tmp 16), none⟩,
        ⟨none, .store 5 (.tmp 23) (.tmp 22), none⟩] [1, 2, 10, 11] none)))
    (.region none [] [
      ⟨some 24, .bin .add .int (.tmp 11) (.cst (.int .i64 1)), none⟩,
      ⟨some 11, .mov (.tmp 24), none⟩] [1, 2, 10, 11] none)))

def c56 : ACode :=
  .seq (.region none [] [
      ⟨some 1, .box 5 (.tmp 0), none⟩,
      ⟨some 2, .alloc 5 (.agg [.int .i64 0, .int .i64 0, .int .i64 0, .str [], .sl false []]), none⟩] [1, 2] none)
    (.seq (.region none [] [
      ⟨some 4, .faddr 4 (.tmp 1), none⟩,
      ⟨some 5, .load none (.tmp 4), none⟩,
      ⟨some 6, .call .own 83 [(.tmp 5)], none⟩,
      ⟨some 7, .faddr 4 (.tmp 1), none⟩,
      ⟨none, .store 1 (.tmp 7) (.tmp 6), none⟩] [1, 2] none)
    (.seq (.seq (.region none [] [
      ⟨some 8, .faddr 4 (.tmp 1), none⟩,
      ⟨some 9, .load none (.tmp 8), none⟩,
      ⟨some 10, .len .slice (.tmp 9), none⟩,
      ⟨some 11, .mov (.cst (.int .i64 0)), none⟩] [1, 2, 10, 11] none)
    (.block 0 (.loop l56_0_h l56_0_b)))
    (.seq (.region none [] [
      ⟨some 25, .load (some 5) (.tmp 1), none⟩,
      ⟨none, .store 5 (.tmp 2) (.tmp 25), none⟩] [2] none)
    (.ret))))

def a56 : AFunc := ⟨1, c56, [.cell 2 (some 5)]⟩

def an56 : List RAnn := [
  { id := 0, live := [1, 2] },
  { id := 1, live := [1, 2], ops := [(2, .mode .own)] },
  { id := 2, live := [1, 2, 10, 11] },
  { id := 3, live := [1, 2, 10, 11, 12], hdr := [1, 2, 10, 11] },
  { id := 4, live := [1, 2, 3, 10, 11] },
  { id := 5, head := some 10, live := [1, 2, 10, 11] },
  { id := 6, live := [1, 2, 10, 11] },
  { id := 7, live := [2] }]

theorem comp56 : compF Try.prog an56 Try.f56 = some a56 := by kernel_rfl

/- graphdb/value.Null -/
def c57 : ACode :=
  .seq (.region none [] [
      ⟨some 0, .alloc 5 (.agg [.int .i64 0, .int .i64 0, .int .i64 0, .str [], .sl false []]), none⟩] [0] none)
    (.seq (.region none [] [
      ⟨some 1, .build [.int .i64 0, .int .i64 0, .int .i64 0, .str [], .sl false []] [], none⟩,
      ⟨none, .store 5 (.tmp 0) (.tmp 1), none⟩] [0] none)
    (.ret))

def a57 : AFunc := ⟨0, c57, [.cell 0 (some 5)]⟩

def an57 : List RAnn := [
  { id := 0, live := [0] },
  { id := 1, live := [0] }]

theorem comp57 : compF Try.prog an57 Try.f57 = some a57 := by kernel_rfl

/- graphdb/graphdbref07.node -/
def c58 : ACode :=
  .seq (.region none [] [
      ⟨some 2, .box 4 (.tmp 0), none⟩,
      ⟨some 4, .mov (.cst (.int .i64 0)), none⟩] [1, 2] none)
    (.seq (.region none [] [
      ⟨some 6, .faddr 0 (.tmp 2), none⟩,
      ⟨some 7, .load none (.tmp 6), none⟩,
      ⟨some 8, .mov (.tmp 1), none⟩,
      ⟨some 9, .iaddr 3 (.tmp 7) (.tmp 8), none⟩,
      ⟨some 10, .load (some 3) (.tmp 9), none⟩,
      ⟨some 5, .alloc 3 (.agg [.int .i64 0, .sl false [], .sl false []]), none⟩,
      ⟨none, .store 3 (.tmp 5) (.tmp 10), none⟩] [1, 2, 5] none)
    (.seq (.seq (.region (some 14) [] [
      ⟨some 11, .mov (.tmp 1), none⟩,
      ⟨some 12, .bin .gtr .int (.tmp 11) (.cst (.int .i64 0)), none⟩,
      ⟨some 13, .mov (.tmp 12), none⟩,
      ⟨some 14, .faddr 0 (.tmp 5), some (13, true)⟩,
      ⟨some 15, .load none (.tmp 14), some (13, true)⟩,
      ⟨some 16, .faddr 0 (.tmp 2), some (13, true)⟩,
      ⟨some 17, .load none (.tmp 16), some (13, true)⟩,
      ⟨some 18, .mov (.tmp 1), some (13, true)⟩,
      ⟨some 19, .bin .sub .int (.tmp 18) (.cst (.int .i64 1)), some (13, true)⟩,
      ⟨some 20, .iaddr 3 (.tmp 17) (.tmp 19), some (13, true)⟩,
      ⟨some 21, .faddr 0 (.tmp 20), some (13, true)⟩,
      ⟨some 22, .load none (.tmp 21), some (13, true)⟩,
      ⟨some 23, .bin .leq .int (.tmp 15) (.tmp 22), some (13, true)⟩,
      ⟨some 24, .pick (.tmp 13) (.tmp 23) (.cst (.bool false)), none⟩] [2, 5, 24] none)
    (.cond (.tmp 24) (.seq (.region none [] [
        ⟨some 4, .mov (.cst (.int .i64 26)), none⟩] [4] none)
      (.ret))
    (.skip)))
    (.seq (.seq (.region none [] [
      ⟨some 25, .faddr 0 (.tmp 5), none⟩,
      ⟨some 26, .load none (.tmp 25), none⟩,
      ⟨some 27, .bin .lss .int (.tmp 26) (.cst (.int .i64 1)), none⟩,
      ⟨some 28, .mov (.tmp 27), none⟩,
      ⟨some 29, .faddr 0 (.tmp 5), some (28, false)⟩,
      ⟨some 30, .load none (.tmp 29), some (28, false)⟩,
      ⟨some 31, .faddr 2 (.tmp 2), some (28, false)⟩,
      ⟨some 32, .load none (.tmp 31), some (28, false)⟩,
      ⟨some 33, .bin .geq .int (.tmp 30) (.tmp 32), some (28, false)⟩,
      ⟨some 34, .pick (.tmp 28) (.cst (.bool true)) (.tmp 33), none⟩] [5, 34] none)
    (.cond (.tmp 34) (.seq (.region none [] [
        ⟨some 4, .mov (.cst (.int .i64 1)), none⟩] [4] none)
      (.ret))
    (.skip)))
    (.seq (.region none [] [
      ⟨some 35, .faddr 1 (.tmp 5), none⟩,
      ⟨some 36, .load none (.tmp 35), none⟩,
      ⟨some 37, .faddr 2 (.tmp 5), none⟩,
      ⟨some 38, .load none (.tmp 37), none⟩,
      ⟨some 39, .call .pure 84 [(.tmp 36), (.tmp 38)], none⟩,
      ⟨some 4, .mov (.tmp 39), none⟩] [4] none)
    (.ret)))))

def a58 : AFunc := ⟨2, c58, [.tmp 4]⟩

def an58 : List RAnn := [
  { id := 0, live := [1, 2] },
  { id := 1, live := [1, 2, 5] },
  { id := 2, head := some 14, live := [2, 5, 24] },
  { id := 3, live := [4] },
  { id := 4, live := [5, 34] },
  { id := 5, live := [4] },
  { id := 6, live := [4] }]

theorem comp58 : compF Try.prog an58 Try.f58 = some a58 := by kernel_rfl

/- graphdb/graphdbref07.edge -/
def c59 : ACode :=
  .seq (.region none [] [
      ⟨some 2, .box 4 (.tmp 0), none⟩,
      ⟨some 4, .mov (.cst (.int .i64 0)), none⟩] [1, 2] none)
    (.seq (.region none [] [
      ⟨some 10, .faddr 1 (.tmp 2), none⟩,
      ⟨some 11, .load none (.tmp 10), none⟩,
      ⟨some 12, .mov (.tmp 1), none⟩,
      ⟨some 13, .iaddr 5 (.tmp 11) (.tmp 12), none⟩,
      ⟨some 14, .load (some 5) (.tmp 13), none⟩,
      ⟨some 5, .alloc 5 (.agg [.int .i64 0, .int .i64 0, .int .i64 0, .str [], .sl false []]), none⟩,
      ⟨none, .store 5 (.tmp 5) (.tmp 14), none⟩] [1, 2, 5] none)
    (.seq (.seq (.region (some 14) [] [
      ⟨some 15, .mov (.tmp 1), none⟩,
      ⟨some 16, .bin .gtr .int (.tmp 15) (.cst (.int .i64 0)), none⟩,
      ⟨some 17, .mov (.tmp 16), none⟩,
      ⟨some 18, .faddr 0 (.tmp 5), some (17, true)⟩,
      ⟨some 19, .load none (.tmp 18), some (17, true)⟩,
      ⟨some 20, .faddr 1 (.tmp 2), some (17, true)⟩,
      ⟨some 21, .load none (.tmp 20), some (17, true)⟩,
      ⟨some 22, .mov (.tmp 1), some (17, true)⟩,
      ⟨some 23, .bin .sub .int (.tmp 22) (.cst (.int .i64 1)), some (17, true)⟩,
      ⟨some 24, .iaddr 5 (.tmp 21) (.tmp 23), some (17, true)⟩,
      ⟨some 25, .faddr 0 (.tmp 24), some (17, true)⟩,
      ⟨some 26, .load none (.tmp 25), some (17, true)⟩,
      ⟨some 27, .bin .leq .int (.tmp 19) (.tmp 26), some (17, true)⟩,
      ⟨some 28, .pick (.tmp 17) (.tmp 27) (.cst (.bool false)), none⟩] [2, 5, 28] none)
    (.cond (.tmp 28) (.seq (.region none [] [
        ⟨some 4, .mov (.cst (.int .i64 26)), none⟩] [4] none)
      (.ret))
    (.skip)))
    (.seq (.seq (.region none [] [
      ⟨some 29, .faddr 0 (.tmp 5), none⟩,
      ⟨some 30, .load none (.tmp 29), none⟩,
      ⟨some 31, .bin .lss .int (.tmp 30) (.cst (.int .i64 1)), none⟩,
      ⟨some 32, .mov (.tmp 31), none⟩,
      ⟨some 33, .faddr 0 (.tmp 5), some (32, false)⟩,
      ⟨some 34, .load none (.tmp 33), some (32, false)⟩,
      ⟨some 35, .faddr 3 (.tmp 2), some (32, false)⟩,
      ⟨some 36, .load none (.tmp 35), some (32, false)⟩,
      ⟨some 37, .bin .geq .int (.tmp 34) (.tmp 36), some (32, false)⟩,
      ⟨some 38, .pick (.tmp 32) (.cst (.bool true)) (.tmp 37), none⟩] [2, 5, 38] none)
    (.cond (.tmp 38) (.seq (.region none [] [
        ⟨some 4, .mov (.cst (.int .i64 1)), none⟩] [4] none)
      (.ret))
    (.skip)))
    (.seq (.region none [] [
      ⟨some 40, .load (some 4) (.tmp 2), none⟩,
      ⟨some 41, .faddr 1 (.tmp 5), none⟩,
      ⟨some 42, .load none (.tmp 41), none⟩,
      ⟨some 43, .call .pure 17 [(.tmp 40), (.tmp 42)], none⟩,
      ⟨some 39, .mov (.tmp 43), none⟩,
      ⟨some 44, .ext (.tmp 39) 0, none⟩,
      ⟨some 45, .ext (.tmp 39) 1, none⟩,
      ⟨some 6, .alloc 3 (.agg [.int .i64 0, .sl false [], .sl false []]), none⟩,
      ⟨none, .store 3 (.tmp 6) (.tmp 44), none⟩,
      ⟨some 7, .mov (.tmp 45), none⟩] [2, 5, 7] none)
    (.seq (.region none [] [
      ⟨some 47, .load (some 4) (.tmp 2), none⟩,
      ⟨some 48, .faddr 2 (.tmp 5), none⟩,
      ⟨some 49, .load none (.tmp 48), none⟩,
      ⟨some 50, .call .pure 17 [(.tmp 47), (.tmp 49)], none⟩,
      ⟨some 46, .mov (.tmp 50), none⟩,
      ⟨some 51, .ext (.tmp 46) 0, none⟩,
      ⟨some 52, .ext (.tmp 46) 1, none⟩,
      ⟨some 8, .alloc 3 (.agg [.int .i64 0, .sl false [], .sl false []]), none⟩,
      ⟨none, .store 3 (.tmp 8) (.tmp 51), none⟩,
      ⟨some 9, .mov (.tmp 52), none⟩] [5, 7, 9] none)
    (.seq (.seq (.region none [] [
      ⟨some 53, .mov (.tmp 7), none⟩,
      ⟨some 54, .un .not (.tmp 53), none⟩,
      ⟨some 55, .mov (.tmp 54), none⟩,
      ⟨some 56, .mov (.tmp 9), some (55, false)⟩,
      ⟨some 57, .un .not (.tmp 56), some (55, false)⟩,
      ⟨some 58, .pick (.tmp 55) (.cst (.bool true)) (.tmp 57), none⟩] [5, 58] none)
    (.cond (.tmp 58) (.seq (.region none [] [
        ⟨some 4, .mov (.cst (.int .i64 10)), none⟩] [4] none)
      (.ret))
    (.skip)))
    (.seq (.seq (.region none [] [
      ⟨some 59, .faddr 3 (.tmp 5), none⟩,
      ⟨some 60, .load none (.tmp 59), none⟩,
      ⟨some 61, .call .pure 85 [(.tmp 60)], none⟩,
      ⟨some 62, .un .not (.tmp 61), none⟩] [5, 62] none)
    (.cond (.tmp 62) (.seq (.region none [] [
        ⟨some 4, .mov (.cst (.int .i64 6)), none⟩] [4] none)
      (.ret))
    (.skip)))
    (.seq (.region none [] [
      ⟨some 63, .faddr 4 (.tmp 5), none⟩,
      ⟨some 64, .load none (.tmp 63), none⟩,
      ⟨some 65, .call .pure 84 [(.cst (.sl false [])), (.tmp 64)], none⟩,
      ⟨some 4, .mov (.tmp 65), none⟩] [4] none)
    (.ret)))))))))

def a59 : AFunc := ⟨2, c59, [.tmp 4]⟩

def an59 : List RAnn := [
  { id := 0, live := [1, 2] },
  { id := 1, live := [1, 2, 5] },
  { id := 2, head := some 14, live := [2, 5, 28] },
  { id := 3, live := [4] },
  { id := 4, live := [2, 5, 38] },
  { id := 5, live := [4] },
  { id := 6, live := [2, 5, 7] },
  { id := 7, live := [5, 7, 9] },
  { id := 8, live := [5, 58] },
  { id := 9, live := [4] },
  { id := 10, live := [5, 62] },
  { id := 11, live := [4] },
  { id := 12, live := [4] }]

theorem comp59 : compF Try.prog an59 Try.f59 = some a59 := by kernel_rfl

/- slices.Sort[[]string,string] -/
def c60 : ACode :=
  .seq (.region none [] [
      ⟨some 3, .mov (.tmp 0), none⟩,
      ⟨some 4, .len .slice (.tmp 3), none⟩,
      ⟨some 2, .mov (.tmp 4), none⟩] [0, 2] none)
    (.region none [] [
      ⟨some 5, .mov (.tmp 0), none⟩,
      ⟨some 6, .mov (.tmp 2), none⟩,
      ⟨some 7, .mov (.tmp 2), none⟩,
      ⟨some 8, .conv .u64 (.tmp 7), none⟩,
      ⟨some 9, .call .pure 87 [(.tmp 8)], none⟩,
      ⟨some 10, .call .share 86 [(.tmp 5), (.cst (.int .i64 0)), (.tmp 6), (.tmp 9)], none⟩] [] none)

def a60 : AFunc := ⟨1, c60, []⟩

def an60 : List RAnn := [
  { id := 0, live := [0, 2] },
  { id := 1, ops := [(5, .mode .share)] }]

theorem comp60 : compF Try.prog an60 Try.f60 = some a60 := by kernel_rfl

/- slices.Compact[[]string,string] -/
/-- loop 0 of function 61 -/
def l61_0_h : List Nat := [0, 3, 4, 5]

def l61_0_b : ACode :=
  .seq (.seq (.region none [] [
      ⟨some 29, .mov (.tmp 5), none⟩,
      ⟨some 30, .mov (.tmp 4), none⟩,
      ⟨some 31, .len .slice (.tmp 30), none⟩,
      ⟨some 32, .bin .lss .int (.tmp 29) (.tmp 31), none⟩] [0, 3, 4, 5, 32] none)
    (.cond (.tmp 32) (.skip)
    (.exit 2)))
    (.seq (.block 3 (.seq (.region (some 10) [] [
        ⟨some 35, .mov (.tmp 4), none⟩,
        ⟨some 36, .mov (.tmp 5), none⟩,
        ⟨some 37, .iaddr 1 (.tmp 35) (.tmp 36), none⟩,
        ⟨some 38, .load none (.tmp 37), none⟩,
        ⟨some 39, .mov (.tmp 4), none⟩,
        ⟨some 40, .mov (.tmp 5), none⟩,
        ⟨some 41, .bin .sub .int (.tmp 40) (.cst (.int .i64 1)), none⟩,
        ⟨some 42, .iaddr 1 (.tmp 39) (.tmp 41), none⟩,
        ⟨some 43, .load none (.tmp 42), none⟩,
        ⟨some 44, .bin .neq .str (.tmp 38) (.tmp 43), none⟩] [0, 3, 4, 5, 44] none)
      (.cond (.tmp 44) (.seq (.region none [] [
          ⟨some 45, .mov (.tmp 0), none⟩,
          ⟨some 46, .mov (.tmp 3), none⟩,
          ⟨some 47, .mov (.tmp 4), none⟩,
          ⟨some 48, .mov (.tmp 5), none⟩,
          ⟨some 49, .iaddr 1 (.tmp 47) (.tmp 48), none⟩,
          ⟨some 50, .load none (.tmp 49), none⟩,
          ⟨some 51, .iaddr 1 (.tmp 45) (.tmp 46), none⟩,
          ⟨none, .store 1 (.tmp 51) (.tmp 50), none⟩] [0, 3, 4, 5] none)
        (.region none [] [
          ⟨some 52, .mov (.tmp 3), none⟩,
          ⟨some 53, .bin .add .int (.tmp 52) (.cst (.int .i64 1)), none⟩,
          ⟨some 3, .mov (.tmp 53), none⟩] [0, 3, 4, 5] none))
      (.skip))))
    (.region none [] [
      ⟨some 33, .mov (.tmp 5), none⟩,
      ⟨some 34, .bin .add .int (.tmp 33) (.cst (.int .i64 1)), none⟩,
      ⟨some 5, .mov (.tmp 34), none⟩] [0, 3, 4, 5] none))

/-- loop 1 of function 61 -/
def l61_1_h : List Nat := [0, 3]

def l61_1_b : ACode :=
  .seq (.seq (.region none [] [
      ⟨some 10, .mov (.tmp 3), none⟩,
      ⟨some 11, .mov (.tmp 0), none⟩,
      ⟨some 12, .len .slice (.tmp 11), none⟩,
      ⟨some 13, .bin .lss .int (.tmp 10) (.tmp 12), none⟩] [0, 3, 13] none)
    (.cond (.tmp 13) (.skip)
    (.exit 0)))
    (.seq (.block 1 (.seq (.region (some 10) [] [
        ⟨some 16, .mov (.tmp 0), none⟩,
        ⟨some 17, .mov (.tmp 3), none⟩,
        ⟨some 18, .iaddr 1 (.tmp 16) (.tmp 17), none⟩,
        ⟨some 19, .load none (.tmp 18), none⟩,
        ⟨some 20, .mov (.tmp 0), none⟩,
        ⟨some 21, .mov (.tmp 3), none⟩,
        ⟨some 22, .bin .sub .int (.tmp 21) (.cst (.int .i64 1)), none⟩,
        ⟨some 23, .iaddr 1 (.tmp 20) (.tmp 22), none⟩,
        ⟨some 24, .load none (.tmp 23), none⟩,
        ⟨some 25, .bin .eql .str (.tmp 19) (.tmp 24), none⟩] [0, 3, 25] none)
      (.cond (.tmp 25) (.seq (.region none [] [
          ⟨some 26, .mov (.tmp 0), none⟩,
          ⟨some 27, .mov (.tmp 3), none⟩,
          ⟨some 28, .slice 1 (.tmp 26) (some (.tmp 27)) none, none⟩,
          ⟨some 4, .mov (.tmp 28), none⟩] [0, 3, 4] none)
        (.seq (.seq (.region none [] [
          ⟨some 5, .mov (.cst (.int .i64 1)), none⟩] [0, 3, 4, 5] none)
        (.block 2 (.loop l61_0_h l61_0_b)))
        (.seq (.region none [] [
          ⟨some 54, .mov (.tmp 0), none⟩,
          ⟨some 55, .mov (.tmp 3), none⟩,
          ⟨some 56, .slice 1 (.tmp 54) (some (.tmp 55)) none, none⟩,
          ⟨none, .clear 1 (.tmp 56), none⟩] [0, 3] none)
        (.seq (.region none [] [
          ⟨some 57, .mov (.tmp 0), none⟩,
          ⟨some 58, .mov (.tmp 3), none⟩,
          ⟨some 59, .slice 1 (.tmp 57) none (some (.tmp 58)), none⟩,
          ⟨some 2, .mov (.tmp 59), none⟩] [2] none)
        (.ret)))))
      (.skip))))
    (.region none [] [
      ⟨some 14, .mov (.tmp 3), none⟩,
      ⟨some 15, .bin .add .int (.tmp 14) (.cst (.int .i64 1)), none⟩,
      ⟨some 3, .mov (.tmp 15), none⟩] [0, 3] none))

def c61 : ACode :=
  .seq (.region none [] [
      ⟨some 2, .mov (.cst (.sl false [])), none⟩] [0] none)
    (.seq (.seq (.region none [] [
      ⟨some 6, .mov (.tmp 0), none⟩,
      ⟨some 7, .len .slice (.tmp 6), none⟩,
      ⟨some 8, .bin .lss .int (.tmp 7) (.cst (.int .i64 2)), none⟩] [0, 8] none)
    (.cond (.tmp 8) (.seq (.region none [] [
        ⟨some 9, .mov (.tmp 0), none⟩,
        ⟨some 2, .mov (.tmp 9), none⟩] [2] none)
      (.ret))
    (.skip)))
    (.seq (.seq (.region none [] [
      ⟨some 3, .mov (.cst (.int .i64 1)), none⟩] [0, 3] none)
    (.block 0 (.loop l61_1_h l61_1_b)))
    (.seq (.region none [] [
      ⟨some 60, .mov (.tmp 0), none⟩,
      ⟨some 2, .mov (.tmp 60), none⟩] [2] none)
    (.ret))))

def a61 : AFunc := ⟨1, c61, [.tmp 2]⟩

def an61 : List RAnn := [
  { id := 0, live := [0] },
  { id := 1, live := [0, 8] },
  { id := 2, live := [2] },
  { id := 3, live := [0, 3] },
  { id := 4, live := [0, 3, 13], hdr := [0, 3] },
  { id := 6, head := some 10, live := [0, 3, 25] },
  { id := 7, live := [0, 3, 4] },
  { id := 8, live := [0, 3, 4, 5] },
  { id := 9, live := [0, 3, 4, 5, 32], hdr := [0, 3, 4, 5] },
  { id := 11, head := some 10, live := [0, 3, 4, 5, 44] },
  { id := 12, live := [0, 3, 4, 5] },
  { id := 13, live := [0, 3, 4, 5] },
  { id := 10, live := [0, 3, 4, 5] },
  { id := 14, live := [0, 3] },
  { id := 15, live := [2] },
  { id := 5, live := [0, 3] },
  { id := 16, live := [2] }]

theorem comp61 : compF Try.prog an61 Try.f61 = some a61 := by kernel_rfl

/- graphdb/graphdbref07.PutStr -/
/-- loop 0 of function 62 -/
def l62_0_h : List Nat := [0, 1, 5, 6]

def l62_0_b : ACode :=
  .seq (.seq (.region none [] [
      ⟨some 7, .mov (.tmp 6), none⟩,
      ⟨some 8, .mov (.tmp 0), none⟩,
      ⟨some 9, .len .slice (.tmp 8), none⟩,
      ⟨some 10, .bin .lss .int (.tmp 7) (.tmp 9), none⟩,
      ⟨some 11, .mov (.tmp 10), none⟩,
      ⟨some 12, .mov (.tmp 0), some (11, true)⟩,
      ⟨some 13, .mov (.tmp 6), some (11, true)⟩,
      ⟨some 14, .iaddr 1 (.tmp 12) (.tmp 13), some (11, true)⟩,
      ⟨some 15, .load none (.tmp 14), some (11, true)⟩,
      ⟨some 16, .mov (.tmp 1), some (11, true)⟩,
      ⟨some 17, .bin .lss .str (.tmp 15) (.tmp 16), some (11, true)⟩,
      ⟨some 18, .pick (.tmp 11) (.tmp 17) (.cst (.bool false)), none⟩] [0, 1, 5, 6, 18] none)
    (.cond (.tmp 18) (.skip)
    (.exit 0)))
    (.block 1 (.region none [] [
        ⟨some 19, .mov (.tmp 6), none⟩,
        ⟨some 20, .bin .add .int (.tmp 19) (.cst (.int .i64 1)), none⟩,
        ⟨some 6, .mov (.tmp 20), none⟩] [0, 1, 5, 6] none))

def c62 : ACode :=
  .seq (.region none [] [
      ⟨some 4, .mov (.cst (.sl false [])), none⟩] [0, 1] none)
    (.seq (.region none [] [
      ⟨some 5, .newown 1, none⟩] [0, 1, 5] none)
    (.seq (.region none [] [
      ⟨some 6, .mov (.cst (.int .i64 0)), none⟩] [0, 1, 5, 6] none)
    (.seq (.block 0 (.loop l62_0_h l62_0_b))
    (.seq (.region none [] [
      ⟨some 21, .mov (.tmp 5), none⟩,
      ⟨some 22, .mov (.tmp 0), none⟩,
      ⟨some 23, .mov (.tmp 6), none⟩,
      ⟨some 24, .slice 1 (.tmp 22) none (some (.tmp 23)), none⟩,
      ⟨some 25, .append 1 16 (.tmp 21) (.tmp 24), none⟩,
      ⟨some 5, .mov (.tmp 25), none⟩] [0, 1, 5, 6] none)
    (.seq (.seq (.region none [] [
      ⟨some 26, .mov (.tmp 6), none⟩,
      ⟨some 27, .mov (.tmp 0), none⟩,
      ⟨some 28, .len .slice (.tmp 27), none⟩,
      ⟨some 29, .bin .eql .int (.tmp 26) (.tmp 28), none⟩,
      ⟨some 30, .mov (.tmp 29), none⟩,
      ⟨some 31, .mov (.tmp 0), some (30, false)⟩,
      ⟨some 32, .mov (.tmp 6), some (30, false)⟩,
      ⟨some 33, .iaddr 1 (.tmp 31) (.tmp 32), some (30, false)⟩,
      ⟨some 34, .load none (.tmp 33), some (30, false)⟩,
      ⟨some 35, .mov (.tmp 1), some (30, false)⟩,
      ⟨some 36, .bin .neq .str (.tmp 34) (.tmp 35), some (30, false)⟩,
      ⟨some 37, .pick (.tmp 30) (.cst (.bool true)) (.tmp 36), none⟩] [0, 1, 5, 6, 37] none)
    (.cond (.tmp 37) (.region none [] [
        ⟨some 38, .mov (.tmp 5), none⟩,
        ⟨some 39, .mov (.tmp 1), none⟩,
        ⟨some 40, .lit false 1 (.str []) 1 [(0, (.tmp 39))], none⟩,
        ⟨some 41, .append 1 16 (.tmp 38) (.tmp 40), none⟩,
        ⟨some 5, .mov (.tmp 41), none⟩] [0, 5, 6] none)
    (.skip)))
    (.seq (.region none [] [
      ⟨some 42, .mov (.tmp 5), none⟩,
      ⟨some 43, .mov (.tmp 0), none⟩,
      ⟨some 44, .mov (.tmp 6), none⟩,
      ⟨some 45, .slice 1 (.tmp 43) (some (.tmp 44)) none, none⟩,
      ⟨some 46, .append 1 16 (.tmp 42) (.tmp 45), none⟩,
      ⟨some 4, .mov (.tmp 46), none⟩] [4] none)
    (.ret)))))))

def a62 : AFunc := ⟨2, c62, [.tmp 4]⟩

def an62 : List RAnn := [
  { id := 0, live := [0, 1] },
  { id := 1, live := [0, 1, 5], ops := [(0, .own)] },
  { id := 2, live := [0, 1, 5, 6] },
  { id := 3, live := [0, 1, 5, 6, 18], hdr := [0, 1, 5, 6] },
  { id := 4, live := [0, 1, 5, 6] },
  { id := 5, live := [0, 1, 5, 6] },
  { id := 6, live := [0, 1, 5, 6, 37] },
  { id := 7, live := [0, 5, 6] },
  { id := 8, live := [4] }]

theorem comp62 : compF Try.prog an62 Try.f62 = some a62 := by kernel_rfl

/- graphdb/graphdbref04.Weigh -/
/-- loop 0 of function 63 -/
def l63_0_h : List Nat := [1, 2, 3, 7]

def l63_0_b : ACode :=
  .seq (.seq (.region none [] [
      ⟨some 17, .mov (.tmp 7), none⟩,
      ⟨some 18, .faddr 4 (.tmp 3), none⟩,
      ⟨some 19, .load none (.tmp 18), none⟩,
      ⟨some 20, .len .slice (.tmp 19), none⟩,
      ⟨some 21, .bin .lss .int (.tmp 17) (.tmp 20), none⟩,
      ⟨some 22, .mov (.tmp 21), none⟩,
      ⟨some 23, .mov (.tmp 1), some (22, true)⟩,
      ⟨some 24, .bin .geq .int (.tmp 23) (.cst (.int .i64 0)), some (22, true)⟩,
      ⟨some 25, .pick (.tmp 22) (.tmp 24) (.cst (.bool false)), none⟩] [1, 2, 3, 7, 25] none)
    (.cond (.tmp 25) (.skip)
    (.exit 0)))
    (.seq (.block 1 (.region none [] [
        ⟨some 28, .faddr 4 (.tmp 3), none⟩,
        ⟨some 29, .load none (.tmp 28), none⟩,
        ⟨some 30, .mov (.tmp 7), none⟩,
        ⟨some 31, .iaddr 5 (.tmp 29) (.tmp 30), none⟩,
        ⟨some 32, .load (some 5) (.tmp 31), none⟩,
        ⟨some 33, .mov (.tmp 1), none⟩,
        ⟨some 34, .mov (.tmp 2), none⟩,
        ⟨some 35, .bin .sub .int (.tmp 34) (.cst (.int .i64 1)), none⟩,
        ⟨some 36, .call .pure 63 [(.tmp 32), (.tmp 33), (.tmp 35)], none⟩,
        ⟨some 1, .mov (.tmp 36), none⟩] [1, 2, 3, 7] none))
    (.region none [] [
      ⟨some 26, .mov (.tmp 7), none⟩,
      ⟨some 27, .bin .add .int (.tmp 26) (.cst (.int .i64 1)), none⟩,
      ⟨some 7, .mov (.tmp 27), none⟩] [1, 2, 3, 7] none))

def c63 : ACode :=
  .seq (.region none [] [
      ⟨some 3, .box 5 (.tmp 0), none⟩,
      ⟨some 6, .mov (.cst (.int .i64 0)), none⟩] [1, 2, 3] none)
    (.seq (.region none [] [
      ⟨some 8, .mov (.tmp 1), none⟩,
      ⟨some 9, .bin .sub .int (.tmp 8) (.cst (.int .i64 1)), none⟩,
      ⟨some 10, .faddr 3 (.tmp 3), none⟩,
      ⟨some 11, .load none (.tmp 10), none⟩,
      ⟨some 12, .len .str (.tmp 11), none⟩,
      ⟨some 13, .bin .quo .int (.tmp 12) (.cst (.int .i64 50)), none⟩,
      ⟨some 14, .bin .sub .int (.tmp 9) (.tmp 13), none⟩,
      ⟨some 1, .mov (.tmp 14), none⟩] [1, 2, 3] none)
    (.seq (.seq (.region none [] [
      ⟨some 15, .mov (.tmp 2), none⟩,
      ⟨some 16, .bin .lss .int (.tmp 15) (.cst (.int .i64 1)), none⟩] [1, 2, 3, 16] none)
    (.cond (.tmp 16) (.seq (.region none [] [
        ⟨some 6, .mov (.cst (.int .i64 (-1))), none⟩] [6] none)
      (.ret))
    (.skip)))
    (.seq (.seq (.region none [] [
      ⟨some 7, .mov (.cst (.int .i64 0)), none⟩] [1, 2, 3, 7] none)
    (.block 0 (.loop l63_0_h l63_0_b)))
    (.seq (.region none [] [
      ⟨some 37, .mov (.tmp 1), none⟩,
      ⟨some 6, .mov (.tmp 37), none⟩] [6] none)
    (.ret)))))

def a63 : AFunc := ⟨3, c63, [.tmp 6]⟩

def an63 : List RAnn := [
  { id := 0, live := [1, 2, 3] },
  { id := 1, live := [1, 2, 3] },
  { id := 2, live := [1, 2, 3, 16] },
  { id := 3, live := [6] },
  { id := 4, live := [1, 2, 3, 7] },
  { id := 5, live := [1, 2, 3, 7, 25], hdr := [1, 2, 3, 7] },
  { id := 7, live := [1, 2, 3, 7] },
  { id := 6, live := [1, 2, 3, 7] },
  { id := 8, live := [6] }]

theorem comp63 : compF Try.prog an63 Try.f63 = some a63 := by kernel_rfl

/- graphdb/graph.letter -/
def c64 : ACode :=
  .seq (.region none [] [
      ⟨some 2, .mov (.cst (.bool false)), none⟩] [0] none)
    (.seq (.region none [] [
      ⟨some 3, .mov (.tmp 0), none⟩,
      ⟨some 4, .bin .geq .int (.tmp 3) (.cst (.int .u8 97)), none⟩,
      ⟨some 5, .mov (.tmp 4), none⟩,
      ⟨some 6, .mov (.tmp 0), some (5, true)⟩,
      ⟨some 7, .bin .leq .int (.tmp 6) (.cst (.int .u8 122)), some (5, true)⟩,
      ⟨some 8, .pick (.tmp 5) (.tmp 7) (.cst (.bool false)), none⟩,
      ⟨some 9, .mov (.tmp 8), none⟩,
      ⟨some 10, .mov (.tmp 0), some (9, false)⟩,
      ⟨some 11, .bin .geq .int (.tmp 10) (.cst (.int .u8 65)), some (9, false)⟩,
      ⟨some 12, .mov (.tmp 11), some (9, false)⟩,
      ⟨some 13, .mov (.tmp 0), some (12, true)⟩,
      ⟨some 14, .bin .leq .int (.tmp 13) (.cst (.int .u8 90)), some (12, true)⟩,
      ⟨some 15, .pick (.tmp 12) (.tmp 14) (.cst (.bool false)), some (9, false)⟩,
      ⟨some 16, .pick (.tmp 9) (.cst (.bool true)) (.tmp 15), none⟩,
      ⟨some 2, .mov (.tmp 16), none⟩] [2] none)
    (.ret))

def a64 : AFunc := ⟨1, c64, [.tmp 2]⟩

def an64 : List RAnn := [
  { id := 0, live := [0] },
  { id := 1, live := [2] }]

theorem comp64 : compF Try.prog an64 Try.f64 = some a64 := by kernel_rfl

/- slices.stableCmpFunc[graphdb/api.Adj] -/
/-- loop 0 of function 65 -/
def l65_0_h : List Nat := [0, 1, 2, 6, 7, 8]

def l65_0_b : ACode :=
  .seq (.seq (.region none [] [
      ⟨some 11, .mov (.tmp 8), none⟩,
      ⟨some 12, .mov (.tmp 1), none⟩,
      ⟨some 13, .bin .leq .int (.tmp 11) (.tmp 12), none⟩] [0, 1, 2, 6, 7, 8, 13] none)
    (.cond (.tmp 13) (.skip)
    (.exit 0)))
    (.block 1 (.seq (.region none [] [
        ⟨some 14, .mov (.tmp 0), none⟩,
        ⟨some 15, .mov (.tmp 7), none⟩,
        ⟨some 16, .mov (.tmp 8), none⟩,
        ⟨some 17, .mov (.tmp 2), none⟩,
        ⟨some 18, .call .share 88 [(.tmp 14), (.tmp 15), (.tmp 16), (.tmp 17)], none⟩] [0, 1, 2, 6, 8] none)
      (.seq (.region none [] [
        ⟨some 19, .mov (.tmp 8), none⟩,
        ⟨some 7, .mov (.tmp 19), none⟩] [0, 1, 2, 6, 7, 8] none)
      (.region none [] [
        ⟨some 20, .mov (.tmp 8), none⟩,
        ⟨some 21, .mov (.tmp 6), none⟩,
        ⟨some 22, .bin .add .int (.tmp 20) (.tmp 21), none⟩,
        ⟨some 8, .mov (.tmp 22), none⟩] [0, 1, 2, 6, 7, 8] none))))

/-- loop 1 of function 65 -/
def l65_1_h : List Nat := [0, 1, 2, 6, 7, 8]

def l65_1_b : ACode :=
  .seq (.seq (.region none [] [
      ⟨some 33, .mov (.tmp 8), none⟩,
      ⟨some 34, .mov (.tmp 1), none⟩,
      ⟨some 35, .bin .leq .int (.tmp 33) (.tmp 34), none⟩] [0, 1, 2, 6, 7, 8, 35] none)
    (.cond (.tmp 35) (.skip)
    (.exit 4)))
    (.block 5 (.seq (.region none [] [
        ⟨some 36, .mov (.tmp 0), none⟩,
        ⟨some 37, .mov (.tmp 7), none⟩,
        ⟨some 38, .mov (.tmp 7), none⟩,
        ⟨some 39, .mov (.tmp 6), none⟩,
        ⟨some 40, .bin .add .int (.tmp 38) (.tmp 39), none⟩,
        ⟨some 41, .mov (.tmp 8), none⟩,
        ⟨some 42, .mov (.tmp 2), none⟩,
        ⟨some 43, .call .share 89 [(.tmp 36), (.tmp 37), (.tmp 40), (.tmp 41), (.tmp 42)], none⟩] [0, 1, 2, 6, 8] none)
      (.seq (.region none [] [
        ⟨some 44, .mov (.tmp 8), none⟩,
        ⟨some 7, .mov (.tmp 44), none⟩] [0, 1, 2, 6, 7, 8] none)
      (.region none [] [
        ⟨some 45, .mov (.tmp 8), none⟩,
        ⟨some 46, .mov (.tmp 6), none⟩,
        ⟨some 47, .bin .mul .int (.cst (.int .i64 2)) (.tmp 46), none⟩,
        ⟨some 48, .bin .add .int (.tmp 45) (.tmp 47), none⟩,
        ⟨some 8, .mov (.tmp 48), none⟩] [0, 1, 2, 6, 7, 8] none))))

/-- loop 2 of function 65 -/
def l65_2_h : List Nat := [0, 1, 2, 6]

def l65_2_b : ACode :=
  .seq (.seq (.region none [] [
      ⟨some 28, .mov (.tmp 6), none⟩,
      ⟨some 29, .mov (.tmp 1), none⟩,
      ⟨some 30, .bin .lss .int (.tmp 28) (.tmp 29), none⟩] [0, 1, 2, 6, 30] none)
    (.cond (.tmp 30) (.skip)
    (.exit 2)))
    (.block 3 (.seq (.region none [] [
        ⟨some 31, .mov (.tmp 6), none⟩,
        ⟨some 32, .bin .mul .int (.cst (.int .i64 2)) (.tmp 31), none⟩,
        ⟨some 7, .mov (.cst (.int .i64 0)), none⟩,
        ⟨some 8, .mov (.tmp 32), none⟩] [0, 1, 2, 6, 7, 8] none)
      (.seq (.block 4 (.loop l65_1_h l65_1_b))
      (.seq (.seq (.region none [] [
        ⟨some 49, .mov (.tmp 7), none⟩,
        ⟨some 50, .mov (.tmp 6), none⟩,
        ⟨some 51, .bin .add .int (.tmp 49) (.tmp 50), none⟩,
        ⟨some 9, .mov (.tmp 51), none⟩] [0, 1, 2, 6, 7, 9] none)
      (.seq (.region none [] [
        ⟨some 52, .mov (.tmp 9), none⟩,
        ⟨some 53, .mov (.tmp 1), none⟩,
        ⟨some 54, .bin .lss .int (.tmp 52) (.tmp 53), none⟩] [0, 1, 2, 6, 7, 9, 54] none)
      (.cond (.tmp 54) (.region none [] [
          ⟨some 55, .mov (.tmp 0), none⟩,
          ⟨some 56, .mov (.tmp 7), none⟩,
          ⟨some 57, .mov (.tmp 9), none⟩,
          ⟨some 58, .mov (.tmp 1), none⟩,
          ⟨some 59, .mov (.tmp 2), none⟩,
          ⟨some 60, .call .share 89 [(.tmp 55), (.tmp 56), (.tmp 57), (.tmp 58), (.tmp 59)], none⟩] [0, 1, 2, 6] none)
      (.skip))))
      (.region none [] [
        ⟨some 61, .mov (.tmp 6), none⟩,
        ⟨some 62, .bin .mul .int (.tmp 61) (.cst (.int .i64 2)), none⟩,
        ⟨some 6, .mov (.tmp 62), none⟩] [0, 1, 2, 6] none)))))

def c65 : ACode :=
  .seq (.region none [] [
      ⟨some 6, .mov (.cst (.int .i64 20)), none⟩] [0, 1, 2, 6] none)
    (.seq (.region none [] [
      ⟨some 10, .mov (.tmp 6), none⟩,
      ⟨some 7, .mov (.cst (.int .i64 0)), none⟩,
      ⟨some 8, .mov (.tmp 10), none⟩] [0, 1, 2, 6, 7, 8] none)
    (.seq (.block 0 (.loop l65_0_h l65_0_b))
    (.seq (.region none [] [
      ⟨some 23, .mov (.tmp 0), none⟩,
      ⟨some 24, .mov (.tmp 7), none⟩,
      ⟨some 25, .mov (.tmp 1), none⟩,
      ⟨some 26, .mov (.tmp 2), none⟩,
      ⟨some 27, .call .share 88 [(.tmp 23), (.tmp 24), (.tmp 25), (.tmp 26)], none⟩] [0, 1, 2, 6] none)
    (.block 2 (.loop l65_2_h l65_2_b)))))

def a65 : AFunc := ⟨3, c65, []⟩

def an65 : List RAnn := [
  { id := 0, live := [0, 1, 2, 6] },
  { id := 1, live := [0, 1, 2, 6, 7, 8] },
  { id := 2, live := [0, 1, 2, 6, 7, 8, 13], hdr := [0, 1, 2, 6, 7, 8] },
  { id := 3, live := [0, 1, 2, 6, 8], ops := [(4, .mode .share)] },
  { id := 4, live := [0, 1, 2, 6, 7, 8] },
  { id := 5, live := [0, 1, 2, 6, 7, 8] },
  { id := 6, live := [0, 1, 2, 6], ops := [(4, .mode .share)] },
  { id := 7, live := [0, 1, 2, 6, 30], hdr := [0, 1, 2, 6] },
  { id := 8, live := [0, 1, 2, 6, 7, 8] },
  { id := 9, live := [0, 1, 2, 6, 7, 8, 35], hdr := [0, 1, 2, 6, 7, 8] },
  { id := 10, live := [0, 1, 2, 6, 8], ops := [(7, .mode .share)] },
  { id := 11, live := [0, 1, 2, 6, 7, 8] },
  { id := 12, live := [0, 1, 2, 6, 7, 8] },
  { id := 13, live := [0, 1, 2, 6, 7, 9] },
  { id := 14, live := [0, 1, 2, 6, 7, 9, 54] },
  { id := 15, live := [0, 1, 2, 6], ops := [(5, .mode .share)] },
  { id := 16, live := [0, 1, 2, 6] }]

theorem comp65 : compF Try.prog an65 Try.f65 = some a65 := by kernel_rfl

/- cmp.isNaN[int] -/
def c66 : ACode :=
  .seq (.region none [] [
      ⟨some 2, .mov (.cst (.bool false)), none⟩] [0] none)
    (.seq (.region none [] [
      ⟨some 3, .mov (.tmp 0), none⟩,
      ⟨some 4, .mov (.tmp 0), none⟩,
      ⟨some 5, .bin .neq .int (.tmp 3) (.tmp 4), none⟩,
      ⟨some 2, .mov (.tmp 5), none⟩] [2] none)
    (.ret))

def a66 : AFunc := ⟨1, c66, [.tmp 2]⟩

def an66 : List RAnn := [
  { id := 0, live := [0] },
  { id := 1, live := [2] }]

theorem comp66 : compF Try.prog an66 Try.f66 = some a66 := by kernel_rfl

/- slices.ContainsFunc[[]string,string] -/
def c67 : ACode :=
  .seq (.region none [] [
      ⟨some 4, .mov (.cst (.bool false)), none⟩] [0, 1] none)
    (.seq (.region none [] [
      ⟨some 5, .mov (.tmp 0), none⟩,
      ⟨some 6, .mov (.tmp 1), none⟩,
      ⟨some 7, .call .pure 90 [(.tmp 5), (.tmp 6)], none⟩,
      ⟨some 8, .bin .geq .int (.tmp 7) (.cst (.int .i64 0)), none⟩,
      ⟨some 4, .mov (.tmp 8), none⟩] [4] none)
    (.ret))

def a67 : AFunc := ⟨2, c67, [.tmp 4]⟩

def an67 : List RAnn := [
  { id := 0, live := [0, 1] },
  { id := 1, live := [4] }]

theorem comp67 : compF Try.prog an67 Try.f67 = some a67 := by kernel_rfl

/- graphdb/graph.unnamed -/
def c68 : ACode :=
  .seq (.region none [] [
      ⟨some 2, .mov (.cst (.bool false)), none⟩] [0] none)
    (.seq (.region none [] [
      ⟨some 3, .mov (.tmp 0), none⟩,
      ⟨some 4, .call .pure 35 [(.tmp 3)], none⟩,
      ⟨some 5, .un .not (.tmp 4), none⟩,
      ⟨some 2, .mov (.tmp 5), none⟩] [2] none)
    (.ret))

def a68 : AFunc := ⟨1, c68, [.tmp 2]⟩

def an68 : List RAnn := [
  { id := 0, live := [0] },
  { id := 1, live := [2] }]

theorem comp68 : compF Try.prog an68 Try.f68 = some a68 := by kernel_rfl

/- graphdb/graph.increasing -/
/-- loop 0 of function 69 -/
def l69_0_h : List Nat := [0, 3]

def l69_0_b : ACode :=
  .seq (.seq (.region none [] [
      ⟨some 4, .mov (.tmp 3), none⟩,
      ⟨some 5, .mov (.tmp 0), none⟩,
      ⟨some 6, .len .slice (.tmp 5), none⟩,
      ⟨some 7, .bin .lss .int (.tmp 4) (.tmp 6), none⟩] [0, 3, 7] none)
    (.cond (.tmp 7) (.skip)
    (.exit 0)))
    (.seq (.block 1 (.seq (.region (some 10) [] [
        ⟨some 10, .mov (.tmp 0), none⟩,
        ⟨some 11, .mov (.tmp 3), none⟩,
        ⟨some 12, .iaddr 1 (.tmp 10) (.tmp 11), none⟩,
        ⟨some 13, .load none (.tmp 12), none⟩,
        ⟨some 14, .mov (.tmp 0), none⟩,
        ⟨some 15, .mov (.tmp 3), none⟩,
        ⟨some 16, .bin .sub .int (.tmp 15) (.cst (.int .i64 1)), none⟩,
        ⟨some 17, .iaddr 1 (.tmp 14) (.tmp 16), none⟩,
        ⟨some 18, .load none (.tmp 17), none⟩,
        ⟨some 19, .bin .leq .str (.tmp 13) (.tmp 18), none⟩] [0, 3, 19] none)
      (.cond (.tmp 19) (.seq (.region none [] [
          ⟨some 2, .mov (.cst (.bool false)), none⟩] [2] none)
        (.ret))
      (.skip))))
    (.region none [] [
      ⟨some 8, .mov (.tmp 3), none⟩,
      ⟨some 9, .bin .add .int (.tmp 8) (.cst (.int .i64 1)), none⟩,
      ⟨some 3, .mov (.tmp 9), none⟩] [0, 3] none))

def c69 : ACode :=
  .seq (.region none [] [
      ⟨some 2, .mov (.cst (.bool false)), none⟩] [0] none)
    (.seq (.seq (.region none [] [
      ⟨some 3, .mov (.cst (.int .i64 1)), none⟩] [0, 3] none)
    (.block 0 (.loop l69_0_h l69_0_b)))
    (.seq (.region none [] [
      ⟨some 2, .mov (.cst (.bool true)), none⟩] [2] none)
    (.ret)))

def a69 : AFunc := ⟨1, c69, [.tmp 2]⟩

def an69 : List RAnn := [
  { id := 0, live := [0] },
  { id := 1, live := [0, 3] },
  { id := 2, live := [0, 3, 7], hdr := [0, 3] },
  { id := 4, head := some 10, live := [0, 3, 19] },
  { id := 5, live := [2] },
  { id := 3, live := [0, 3] },
  { id := 6, live := [2] }]

theorem comp69 : compF Try.prog an69 Try.f69 = some a69 := by kernel_rfl

/- graphdb/value.Plain -/
def c70 : ACode :=
  .seq (.region none [] [
      ⟨some 1, .box 5 (.tmp 0), none⟩,
      ⟨some 2, .mov (.cst (.bool false)), none⟩] [1] none)
    (.seq (.region none [] [
      ⟨some 3, .faddr 0 (.tmp 1), none⟩,
      ⟨some 4, .load none (.tmp 3), none⟩,
      ⟨some 5, .bin .eql .int (.tmp 4) (.cst (.int .i64 1)), none⟩,
      ⟨some 6, .mov (.tmp 5), none⟩,
      ⟨some 7, .faddr 0 (.tmp 1), some (6, false)⟩,
      ⟨some 8, .load none (.tmp 7), some (6, false)⟩,
      ⟨some 9, .bin .eql .int (.tmp 8) (.cst (.int .i64 2)), some (6, false)⟩,
      ⟨some 10, .pick (.tmp 6) (.cst (.bool true)) (.tmp 9), none⟩,
      ⟨some 11, .mov (.tmp 10), none⟩,
      ⟨some 12, .faddr 0 (.tmp 1), some (11, false)⟩,
      ⟨some 13, .load none (.tmp 12), some (11, false)⟩,
      ⟨some 14, .bin .eql .int (.tmp 13) (.cst (.int .i64 4)), some (11, false)⟩,
      ⟨some 15, .pick (.tmp 11) (.cst (.bool true)) (.tmp 14), none⟩,
      ⟨some 16, .mov (.tmp 15), none⟩,
      ⟨some 17, .load (some 5) (.tmp 1), some (16, true)⟩,
      ⟨some 18, .call .pure 91 [(.tmp 17)], some (16, true)⟩,
      ⟨some 19, .pick (.tmp 16) (.tmp 18) (.cst (.bool false)), none⟩,
      ⟨some 2, .mov (.tmp 19), none⟩] [2] none)
    (.ret))

def a70 : AFunc := ⟨1, c70, [.tmp 2]⟩

def an70 : List RAnn := [
  { id := 0, live := [1] },
  { id := 1, live := [2] }]

theorem comp70 : compF Try.prog an70 Try.f70 = some a70 := by kernel_rfl

/- slices.BinarySearchFunc[[]graphdb/api.Node,graphdb/api.Node,int] -/
/-- loop 0 of function 71 -/
def l71_0_h : List Nat := [0, 1, 2, 8, 9, 10]

def l71_0_b : ACode :=
  .seq (.seq (.region none [] [
      ⟨some 15, .mov (.tmp 9), none⟩,
      ⟨some 16, .mov (.tmp 10), none⟩,
      ⟨some 17, .bin .lss .int (.tmp 15) (.tmp 16), none⟩] [0, 1, 2, 8, 9, 10, 17] none)
    (.cond (.tmp 17) (.skip)
    (.exit 0)))
    (.block 1 (.seq (.region none [] [
        ⟨some 18, .mov (.tmp 9), none⟩,
        ⟨some 19, .mov (.tmp 10), none⟩,
        ⟨some 20, .bin .add .int (.tmp 18) (.tmp 19), none⟩,
        ⟨some 21, .conv .u64 (.tmp 20), none⟩,
        ⟨some 22, .bin .shr .int (.tmp 21) (.cst (.int .u64 1)), none⟩,
        ⟨some 23, .conv .i64 (.tmp 22), none⟩,
        ⟨some 11, .mov (.tmp 23), none⟩] [0, 1, 2, 8, 9, 10, 11] none)
      (.seq (.region none [] [
        ⟨some 24, .mov (.tmp 2), none⟩,
        ⟨some 25, .mov (.tmp 0), none⟩,
        ⟨some 26, .mov (.tmp 11), none⟩,
        ⟨some 27, .iaddr 3 (.tmp 25) (.tmp 26), none⟩,
        ⟨some 28, .load (some 3) (.tmp 27), none⟩,
        ⟨some 29, .mov (.tmp 1), none⟩,
        ⟨some 30, .callv .pure (.tmp 24) [(.tmp 28), (.tmp 29)], none⟩,
        ⟨some 31, .bin .lss .int (.tmp 30) (.cst (.int .i64 0)), none⟩] [0, 1, 2, 8, 9, 10, 11, 31] none)
      (.cond (.tmp 31) (.region none [] [
          ⟨some 32, .mov (.tmp 11), none⟩,
          ⟨some 33, .bin .add .int (.tmp 32) (.cst (.int .i64 1)), none⟩,
          ⟨some 9, .mov (.tmp 33), none⟩] [0, 1, 2, 8, 9, 10] none)
      (.region none [] [
          ⟨some 34, .mov (.tmp 11), none⟩,
          ⟨some 10, .mov (.tmp 34), none⟩] [0, 1, 2, 8, 9, 10] none)))))

def c71 : ACode :=
  .seq (.region none [] [
      ⟨some 6, .mov (.cst (.int .i64 0)), none⟩,
      ⟨some 7, .mov (.cst (.bool false)), none⟩] [0, 1, 2] none)
    (.seq (.region none [] [
      ⟨some 12, .mov (.tmp 0), none⟩,
      ⟨some 13, .len .slice (.tmp 12), none⟩,
      ⟨some 8, .mov (.tmp 13), none⟩] [0, 1, 2, 8] none)
    (.seq (.region none [] [
      ⟨some 14, .mov (.tmp 8), none⟩,
      ⟨some 9, .mov (.cst (.int .i64 0)), none⟩,
      ⟨some 10, .mov (.tmp 14), none⟩] [0, 1, 2, 8, 9, 10] none)
    (.seq (.block 0 (.loop l71_0_h l71_0_b))
    (.seq (.region none [] [
      ⟨some 35, .mov (.tmp 9), none⟩,
      ⟨some 36, .mov (.tmp 9), none⟩,
      ⟨some 37, .mov (.tmp 8), none⟩,
      ⟨some 38, .bin .lss .int (.tmp 36) (.tmp 37), none⟩,
      ⟨some 39, .mov (.tmp 38), none⟩,
      ⟨some 40, .mov (.tmp 2), some (39, true)⟩,
      ⟨some 41, .mov (.tmp 0), some (39, true)⟩,
      ⟨some 42, .mov (.tmp 9), some (39, true)⟩,
      ⟨some 43, .iaddr 3 (.tmp 41) (.tmp 42), some (39, true)⟩,
      ⟨some 44, .load (some 3) (.tmp 43), some (39, true)⟩,
      ⟨some 45, .mov (.tmp 1), some (39, true)⟩,
      ⟨some 46, .callv .pure (.tmp 40) [(.tmp 44), (.tmp 45)], some (39, true)⟩,
      ⟨some 47, .bin .eql .int (.tmp 46) (.cst (.int .i64 0)), some (39, true)⟩,
      ⟨some 48, .pick (.tmp 39) (.tmp 47) (.cst (.bool false)), none⟩,
      ⟨some 6, .mov (.tmp 35), none⟩,
      ⟨some 7, .mov (.tmp 48), none⟩] [6, 7] none)
    (.ret)))))

def a71 : AFunc := ⟨3, c71, [.tmp 6, .tmp 7]⟩

def an71 : List RAnn := [
  { id := 0, live := [0, 1, 2] },
  { id := 1, live := [0, 1, 2, 8] },
  { id := 2, live := [0, 1, 2, 8, 9, 10] },
  { id := 3, live := [0, 1, 2, 8, 9, 10, 17], hdr := [0, 1, 2, 8, 9, 10] },
  { id := 4, live := [0, 1, 2, 8, 9, 10, 11] },
  { id := 5, live := [0, 1, 2, 8, 9, 10, 11, 31] },
  { id := 6, live := [0, 1, 2, 8, 9, 10] },
  { id := 7, live := [0, 1, 2, 8, 9, 10] },
  { id := 8, live := [6, 7] }]

theorem comp71 : compF Try.prog an71 Try.f71 = some a71 := by kernel_rfl

/- graphdb/graph.has$1 -/
def c72 : ACode :=
  .seq (.region none [] [
      ⟨some 2, .box 3 (.tmp 0), none⟩,
      ⟨some 4, .mov (.cst (.int .i64 0)), none⟩] [1, 2] none)
    (.seq (.region none [] [
      ⟨some 5, .faddr 0 (.tmp 2), none⟩,
      ⟨some 6, .load none (.tmp 5), none⟩,
      ⟨some 7, .mov (.tmp 1), none⟩,
      ⟨some 8, .call .pure 39 [(.tmp 6), (.tmp 7)], none⟩,
      ⟨some 4, .mov (.tmp 8), none⟩] [4] none)
    (.ret))

def a72 : AFunc := ⟨2, c72, [.tmp 4]⟩

def an72 : List RAnn := [
  { id := 0, live := [1, 2] },
  { id := 1, live := [4] }]

theorem comp72 : compF Try.prog an72 Try.f72 = some a72 := by kernel_rfl

/- slices.Index[[]string,string] -/
/-- loop 0 of function 73 -/
def l73_0_h : List Nat := [0, 1, 7, 8]

def l73_0_b : ACode :=
  .seq (.region none [] [
      ⟨some 9, .bin .lss .int (.tmp 8) (.tmp 7), none⟩] [0, 1, 7, 8, 9] none)
    (.seq (.cond (.tmp 9) (.skip)
    (.exit 0))
    (.seq (.block 1 (.seq (.region none [] [
        ⟨some 10, .mov (.tmp 8), none⟩,
        ⟨some 5, .mov (.tmp 10), none⟩] [0, 1, 5, 7, 8] none)
      (.seq (.region none [] [
        ⟨some 11, .mov (.tmp 1), none⟩,
        ⟨some 12, .mov (.tmp 0), none⟩,
        ⟨some 13, .mov (.tmp 5), none⟩,
        ⟨some 14, .iaddr 1 (.tmp 12) (.tmp 13), none⟩,
        ⟨some 15, .load none (.tmp 14), none⟩,
        ⟨some 16, .bin .eql .str (.tmp 11) (.tmp 15), none⟩] [0, 1, 5, 7, 8, 16] none)
      (.cond (.tmp 16) (.seq (.region none [] [
          ⟨some 17, .mov (.tmp 5), none⟩,
          ⟨some 4, .mov (.tmp 17), none⟩] [4] none)
        (.ret))
      (.skip)))))
    (.region none [] [
      ⟨some 18, .bin .add .int (.tmp 8) (.cst (.int .i64 1)), none⟩,
      ⟨some 8, .mov (.tmp 18), none⟩] [0, 1, 7, 8] none)))

def c73 : ACode :=
  .seq (.region none [] [
      ⟨some 4, .mov (.cst (.int .i64 0)), none⟩] [0, 1] none)
    (.seq (.seq (.region none [] [
      ⟨some 6, .mov (.tmp 0), none⟩,
      ⟨some 7, .len .slice (.tmp 6), none⟩,
      ⟨some 8, .mov (.cst (.int .i64 0)), none⟩] [0, 1, 7, 8] none)
    (.block 0 (.loop l73_0_h l73_0_b)))
    (.seq (.region none [] [
      ⟨some 4, .mov (.cst (.int .i64 (-1))), none⟩] [4] none)
    (.ret)))

def a73 : AFunc := ⟨2, c73, [.tmp 4]⟩

def an73 : List RAnn := [
  { id := 0, live := [0, 1] },
  { id := 1, live := [0, 1, 7, 8] },
  { id := 2, live := [0, 1, 7, 8, 9], hdr := [0, 1, 7, 8] },
  { id := 3, live := [0, 1, 5, 7, 8] },
  { id := 4, live := [0, 1, 5, 7, 8, 16] },
  { id := 5, live := [4] },
  { id := 6, live := [0, 1, 7, 8] },
  { id := 7, live := [4] }]

theorem comp73 : compF Try.prog an73 Try.f73 = some a73 := by kernel_rfl

/- slices.Clone[[]graphdb/api.Prop,graphdb/api.Prop] -/
def c74 : ACode :=
  .seq (.region none [] [
      ⟨some 2, .mov (.cst (.sl false [])), none⟩] [0] none)
    (.seq (.seq (.region none [] [
      ⟨some 3, .mov (.tmp 0), none⟩,
      ⟨some 4, .bin .eql .slice (.tmp 3) (.cst (.sl false [])), none⟩] [0, 4] none)
    (.cond (.tmp 4) (.seq (.region none [] [
        ⟨some 2, .mov (.cst (.sl false [])), none⟩] [2] none)
      (.ret))
    (.skip)))
    (.seq (.region none [] [
      ⟨some 5, .lit true 6 (.agg [.str [], .int .i64 0, .int .i64 0, .int .i64 0, .str [], .sl false []]) 0 [], none⟩,
      ⟨some 6, .mov (.tmp 0), none⟩,
      ⟨some 7, .append 6 80 (.tmp 5) (.tmp 6), none⟩,
      ⟨some 2, .mov (.tmp 7), none⟩] [2] none)
    (.ret)))

def a74 : AFunc := ⟨1, c74, [.tmp 2]⟩

def an74 : List RAnn := [
  { id := 0, live := [0] },
  { id := 1, live := [0, 4] },
  { id := 2, live := [2] },
  { id := 3, live := [2], ops := [(0, .own)] }]

theorem comp74 : compF Try.prog an74 Try.f74 = some a74 := by kernel_rfl

/- graphdb/graphdbref04.valid -/
def c75 : ACode :=
  .seq (.region none [] [
      ⟨some 2, .box 5 (.tmp 0), none⟩,
      ⟨some 4, .mov (.cst (.bool false)), none⟩] [1, 2] none)
    (.seq (.seq (.region none [] [
      ⟨some 5, .faddr 0 (.tmp 2), none⟩,
      ⟨some 6, .load none (.tmp 5), none⟩] [1, 2, 6] none)
    (.block 0 (.seq (.region none [] [
        ⟨some 8, .bin .eql .int (.tmp 6) (.cst (.int .i64 0)), none⟩,
        ⟨some 7, .mov (.tmp 8), none⟩] [1, 2, 6, 7] none)
      (.cond (.tmp 7) (.seq (.region none [] [
          ⟨some 9, .load (some 5) (.tmp 2), none⟩,
          ⟨some 10, .call .pure 92 [(.tmp 9), (.cst (.bool false)), (.cst (.bool false)), (.cst (.bool false)), (.cst (.bool false))], none⟩,
          ⟨some 4, .mov (.tmp 10), none⟩] [4] none)
        (.ret))
      (.seq (.region none [] [
          ⟨some 12, .bin .eql .int (.tmp 6) (.cst (.int .i64 1)), none⟩,
          ⟨some 11, .mov (.tmp 12), none⟩] [1, 2, 6, 11] none)
        (.cond (.tmp 11) (.seq (.region none [] [
            ⟨some 13, .load (some 5) (.tmp 2), none⟩,
            ⟨some 14, .call .pure 92 [(.tmp 13), (.cst (.bool true)), (.cst (.bool false)), (.cst (.bool false)), (.cst (.bool false))], none⟩,
            ⟨some 15, .mov (.tmp 14), none⟩,
            ⟨some 16, .faddr 1 (.tmp 2), some (15, true)⟩,
            ⟨some 17, .load none (.tmp 16), some (15, true)⟩,
            ⟨some 18, .bin .eql .int (.tmp 17) (.cst (.int .i64 0)), some (15, true)⟩,
            ⟨some 19, .mov (.tmp 18), some (15, true)⟩,
            ⟨some 20, .faddr 1 (.tmp 2), some (19, false)⟩,
            ⟨some 21, .load none (.tmp 20), some (19, false)⟩,
            ⟨some 22, .bin .eql .int (.tmp 21) (.cst (.int .i64 1)), some (19, false)⟩,
            ⟨some 23, .pick (.tmp 19) (.cst (.bool true)) (.tmp 22), some (15, true)⟩,
            ⟨some 24, .pick (.tmp 15) (.tmp 23) (.cst (.bool false)), none⟩,
            ⟨some 4, .mov (.tmp 24), none⟩] [4] none)
          (.ret))
        (.seq (.region none [] [
            ⟨some 26, .bin .eql .int (.tmp 6) (.cst (.int .i64 2)), none⟩,
            ⟨some 25, .mov (.tmp 26), none⟩] [1, 2, 6, 25] none)
          (.cond (.tmp 25) (.seq (.region none [] [
              ⟨some 27, .load (some 5) (.tmp 2), none⟩,
              ⟨some 28, .call .pure 92 [(.tmp 27), (.cst (.bool true)), (.cst (.bool false)), (.cst (.bool false)), (.cst (.bool false))], none⟩,
              ⟨some 29, .mov (.tmp 28), none⟩,
              ⟨some 30, .faddr 1 (.tmp 2), some (29, true)⟩,
              ⟨some 31, .load none (.tmp 30), some (29, true)⟩,
              ⟨some 32, .call .pure 93 [(.tmp 31)], some (29, true)⟩,
              ⟨some 33, .pick (.tmp 29) (.tmp 32) (.cst (.bool false)), none⟩,
              ⟨some 4, .mov (.tmp 33), none⟩] [4] none)
            (.ret))
          (.seq (.region none [] [
              ⟨some 35, .bin .eql .int (.tmp 6) (.cst (.int .i64 3)), none⟩,
              ⟨some 34, .mov (.tmp 35), none⟩] [1, 2, 6, 34] none)
            (.cond (.tmp 34) (.seq (.region none [] [
                ⟨some 36, .load (some 5) (.tmp 2), none⟩,
                ⟨some 37, .call .pure 92 [(.tmp 36), (.cst (.bool true)), (.cst (.bool true)), (.cst (.bool false)), (.cst (.bool false))], none⟩,
                ⟨some 38, .mov (.tmp 37), none⟩,
                ⟨some 39, .faddr 2 (.tmp 2), some (38, true)⟩,
                ⟨some 40, .load none (.tmp 39), some (38, true)⟩,
                ⟨some 41, .bin .geq .int (.tmp 40) (.cst (.int .i64 2)), some (38, true)⟩,
                ⟨some 42, .pick (.tmp 38) (.tmp 41) (.cst (.bool false)), none⟩,
                ⟨some 43, .mov (.tmp 42), none⟩,
                ⟨some 44, .faddr 1 (.tmp 2), some (43, true)⟩,
                ⟨some 45, .load none (.tmp 44), some (43, true)⟩,
                ⟨some 46, .faddr 2 (.tmp 2), some (43, true)⟩,
                ⟨some 47, .load none (.tmp 46), some (43, true)⟩,
                ⟨some 48, .build [.int .i64 0, .int .i64 0] [(0, 1, (.tmp 45)), (1, 1, (.tmp 47))], some (43, true)⟩,
                ⟨some 49, .call .pure 78 [(.tmp 48)], some (43, true)⟩,
                ⟨some 50, .pick (.tmp 43) (.tmp 49) (.cst (.bool false)), none⟩,
                ⟨some 4, .mov (.tmp 50), none⟩] [4] none)
              (.ret))
            (.seq (.region none [] [
                ⟨some 52, .bin .eql .int (.tmp 6) (.cst (.int .i64 4)), none⟩,
                ⟨some 51, .mov (.tmp 52), none⟩] [1, 2, 6, 51] none)
              (.cond (.tmp 51) (.seq (.region none [] [
                  ⟨some 53, .load (some 5) (.tmp 2), none⟩,
                  ⟨some 54, .call .pure 92 [(.tmp 53), (.cst (.bool false)), (.cst (.bool false)), (.cst (.bool true)), (.cst (.bool false))], none⟩,
                  ⟨some 55, .mov (.tmp 54), none⟩,
                  ⟨some 56, .faddr 3 (.tmp 2), some (55, true)⟩,
                  ⟨some 57, .load none (.tmp 56), some (55, true)⟩,
                  ⟨some 58, .call .pure 94 [(.tmp 57)], some (55, true)⟩,
                  ⟨some 59, .pick (.tmp 55) (.tmp 58) (.cst (.bool false)), none⟩,
                  ⟨some 4, .mov (.tmp 59), none⟩] [4] none)
                (.ret))
              (.seq (.seq (.region none [] [
                  ⟨some 61, .bin .eql .int (.tmp 6) (.cst (.int .i64 5)), none⟩,
                  ⟨some 60, .mov (.tmp 61), none⟩] [1, 2, 6, 60] none)
                (.cond (.tmp 60) (.skip)
                (.region none [] [
                    ⟨some 62, .bin .eql .int (.tmp 6) (.cst (.int .i64 6)), none⟩,
                    ⟨some 60, .mov (.tmp 62), none⟩] [1, 2, 6, 60] none)))
                (.cond (.tmp 60) (.seq (.region none [] [
                    ⟨some 63, .load (some 5) (.tmp 2), none⟩,
                    ⟨some 64, .call .pure 92 [(.tmp 63), (.cst (.bool true)), (.cst (.bool false)), (.cst (.bool false)), (.cst (.bool false))], none⟩,
                    ⟨some 65, .mov (.tmp 64), none⟩,
                    ⟨some 66, .faddr 1 (.tmp 2), some (65, true)⟩,
                    ⟨some 67, .load none (.tmp 66), some (65, true)⟩,
                    ⟨some 68, .bin .geq .int (.tmp 67) (.cst (.int .i64 1)), some (65, true)⟩,
                    ⟨some 69, .pick (.tmp 65) (.tmp 68) (.cst (.bool false)), none⟩,
                    ⟨some 70, .mov (.tmp 69), none⟩,
                    ⟨some 71, .faddr 1 (.tmp 2), some (70, true)⟩,
                    ⟨some 72, .load none (.tmp 71), some (70, true)⟩,
                    ⟨some 73, .bin .leq .int (.tmp 72) (.cst (.int .i64 1000000)), some (70, true)⟩,
                    ⟨some 74, .pick (.tmp 70) (.tmp 73) (.cst (.bool false)), none⟩,
                    ⟨some 4, .mov (.tmp 74), none⟩] [4] none)
                  (.ret))
                (.seq (.region none [] [
                    ⟨some 76, .bin .eql .int (.tmp 6) (.cst (.int .i64 7)), none⟩,
                    ⟨some 75, .mov (.tmp 76), none⟩] [1, 2, 6, 75] none)
                  (.cond (.tmp 75) (.seq (.region none [] [
                      ⟨some 77, .load (some 5) (.tmp 2), none⟩,
                      ⟨some 78, .call .pure 92 [(.tmp 77), (.cst (.bool false)), (.cst (.bool false)), (.cst (.bool false)), (.cst (.bool true))], none⟩,
                      ⟨some 79, .mov (.tmp 78), none⟩,
                      ⟨some 80, .faddr 4 (.tmp 2), some (79, true)⟩,
                      ⟨some 81, .load none (.tmp 80), some (79, true)⟩,
                      ⟨some 82, .call .pure 95 [(.tmp 81)], some (79, true)⟩,
                      ⟨some 83, .pick (.tmp 79) (.tmp 82) (.cst (.bool false)), none⟩,
                      ⟨some 4, .mov (.tmp 83), none⟩] [4] none)
                    (.ret))
                  (.seq (.region none [] [
                      ⟨some 85, .bin .eql .int (.tmp 6) (.cst (.int .i64 8)), none⟩,
                      ⟨some 84, .mov (.tmp 85), none⟩] [1, 2, 84] none)
                    (.cond (.tmp 84) (.seq (.region none [] [
                        ⟨some 86, .load (some 5) (.tmp 2), none⟩,
                        ⟨some 87, .call .pure 92 [(.tmp 86), (.cst (.bool false)), (.cst (.bool false)), (.cst (.bool false)), (.cst (.bool true))], none⟩,
                        ⟨some 88, .mov (.tmp 87), none⟩,
                        ⟨some 89, .faddr 4 (.tmp 2), some (88, true)⟩,
                        ⟨some 90, .load none (.tmp 89), some (88, true)⟩,
                        ⟨some 91, .mov (.tmp 1), some (88, true)⟩,
                        ⟨some 92, .call .pure 96 [(.tmp 90), (.tmp 91)], some (88, true)⟩,
                        ⟨some 93, .pick (.tmp 88) (.tmp 92) (.cst (.bool false)), none⟩,
                        ⟨some 4, .mov (.tmp 93), none⟩] [4] none)
                      (.ret))
                    (.skip)))))))))))))))))))
    (.seq (.region none [] [
      ⟨some 4, .mov (.cst (.bool false)), none⟩] [4] none)
    (.ret)))

def a75 : AFunc := ⟨2, c75, [.tmp 4]⟩

def an75 : List RAnn := [
  { id := 0, live := [1, 2] },
  { id := 1, live := [1, 2, 6] },
  { id := 2, live := [1, 2, 6, 7] },
  { id := 3, live := [4] },
  { id := 4, live := [1, 2, 6, 11] },
  { id := 5, live := [4] },
  { id := 6, live := [1, 2, 6, 25] },
  { id := 7, live := [4] },
  { id := 8, live := [1, 2, 6, 34] },
  { id := 9, live := [4] },
  { id := 10, live := [1, 2, 6, 51] },
  { id := 11, live := [4] },
  { id := 12, live := [1, 2, 6, 60] },
  { id := 13, live := [1, 2, 6, 60] },
  { id := 14, live := [4] },
  { id := 15, live := [1, 2, 6, 75] },
  { id := 16, live := [4] },
  { id := 17, live := [1, 2, 84] },
  { id := 18, live := [4] },
  { id := 19, live := [4] }]

theorem comp75 : compF Try.prog an75 Try.f75 = some a75 := by kernel_rfl

/- graphdb/graphdbref04.strs -/
def c76 : ACode :=
  .seq (.region none [] [
      ⟨some 4, .mov (.cst (.int .i64 0)), none⟩] [0, 1] none)
    (.seq (.seq (.region none [] [
      ⟨some 5, .mov (.tmp 0), none⟩,
      ⟨some 6, .mov (.tmp 1), none⟩,
      ⟨some 7, .bin .lss .str (.tmp 5) (.tmp 6), none⟩] [0, 1, 7] none)
    (.cond (.tmp 7) (.seq (.region none [] [
        ⟨some 4, .mov (.cst (.int .i64 (-1))), none⟩] [4] none)
      (.ret))
    (.skip)))
    (.seq (.seq (.region none [] [
      ⟨some 8, .mov (.tmp 0), none⟩,
      ⟨some 9, .mov (.tmp 1), none⟩,
      ⟨some 10, .bin .gtr .str (.tmp 8) (.tmp 9), none⟩] [10] none)
    (.cond (.tmp 10) (.seq (.region none [] [
        ⟨some 4, .mov (.cst (.int .i64 1)), none⟩] [4] none)
      (.ret))
    (.skip)))
    (.seq (.region none [] [
      ⟨some 4, .mov (.cst (.int .i64 0)), none⟩] [4] none)
    (.ret))))

def a76 : AFunc := ⟨2, c76, [.tmp 4]⟩

def an76 : List RAnn := [
  { id := 0, live := [0, 1] },
  { id := 1, live := [0, 1, 7] },
  { id := 2, live := [4] },
  { id := 3, live := [10] },
  { id := 4, live := [4] },
  { id := 5, live := [4] }]

theorem comp76 : compF Try.prog an76 Try.f76 = some a76 := by kernel_rfl

/- graphdb/graphdbref04.lists -/
/-- loop 0 of function 77 -/
def l77_0_h : List Nat := [0, 1, 5]

def l77_0_b : ACode :=
  .seq (.seq (.region none [] [
      ⟨some 7, .mov (.tmp 5), none⟩,
      ⟨some 8, .mov (.tmp 0), none⟩,
      ⟨some 9, .len .slice (.tmp 8), none⟩,
      ⟨some 10, .bin .lss .int (.tmp 7) (.tmp 9), none⟩,
      ⟨some 11, .mov (.tmp 10), none⟩,
      ⟨some 12, .mov (.tmp 5), some (11, true)⟩,
      ⟨some 13, .mov (.tmp 1), some (11, true)⟩,
      ⟨some 14, .len .slice (.tmp 13), some (11, true)⟩,
      ⟨some 15, .bin .lss .int (.tmp 12) (.tmp 14), some (11, true)⟩,
      ⟨some 16, .pick (.tmp 11) (.tmp 15) (.cst (.bool false)), none⟩] [0, 1, 5, 16] none)
    (.cond (.tmp 16) (.skip)
    (.exit 0)))
    (.seq (.block 1 (.seq (.region (some 10) [] [
        ⟨some 19, .mov (.tmp 0), none⟩,
        ⟨some 20, .mov (.tmp 5), none⟩,
        ⟨some 21, .iaddr 5 (.tmp 19) (.tmp 20), none⟩,
        ⟨some 22, .load (some 5) (.tmp 21), none⟩,
        ⟨some 23, .mov (.tmp 1), none⟩,
        ⟨some 24, .mov (.tmp 5), none⟩,
        ⟨some 25, .iaddr 5 (.tmp 23) (.tmp 24), none⟩,
        ⟨some 26, .load (some 5) (.tmp 25), none⟩,
        ⟨some 27, .call .pure 23 [(.tmp 22), (.tmp 26)], none⟩,
        ⟨some 6, .mov (.tmp 27), none⟩] [0, 1, 5, 6] none)
      (.seq (.region none [] [
        ⟨some 28, .mov (.tmp 6), none⟩,
        ⟨some 29, .bin .neq .int (.tmp 28) (.cst (.int .i64 0)), none⟩] [0, 1, 5, 6, 29] none)
      (.cond (.tmp 29) (.seq (.region none [] [
          ⟨some 30, .mov (.tmp 6), none⟩,
          ⟨some 4, .mov (.tmp 30), none⟩] [4] none)
        (.ret))
      (.skip)))))
    (.region none [] [
      ⟨some 17, .mov (.tmp 5), none⟩,
      ⟨some 18, .bin .add .int (.tmp 17) (.cst (.int .i64 1)), none⟩,
      ⟨some 5, .mov (.tmp 18), none⟩] [0, 1, 5] none))

def c77 : ACode :=
  .seq (.region none [] [
      ⟨some 4, .mov (.cst (.int .i64 0)), none⟩] [0, 1] none)
    (.seq (.seq (.region none [] [
      ⟨some 5, .mov (.cst (.int .i64 0)), none⟩] [0, 1, 5] none)
    (.block 0 (.loop l77_0_h l77_0_b)))
    (.seq (.region none [] [
      ⟨some 31, .mov (.tmp 0), none⟩,
      ⟨some 32, .len .slice (.tmp 31), none⟩,
      ⟨some 33, .mov (.tmp 1), none⟩,
      ⟨some 34, .len .slice (.tmp 33), none⟩,
      ⟨some 35, .call .pure 52 [(.tmp 32), (.tmp 34)], none⟩,
      ⟨some 4, .mov (.tmp 35), none⟩] [4] none)
    (.ret)))

def a77 : AFunc := ⟨2, c77, [.tmp 4]⟩

def an77 : List RAnn := [
  { id := 0, live := [0, 1] },
  { id := 1, live := [0, 1, 5] },
  { id := 2, live := [0, 1, 5, 16], hdr := [0, 1, 5] },
  { id := 4, head := some 10, live := [0, 1, 5, 6] },
  { id := 5, live := [0, 1, 5, 6, 29] },
  { id := 6, live := [4] },
  { id := 3, live := [0, 1, 5] },
  { id := 7, live := [4] }]

theorem comp77 : compF Try.prog an77 Try.f77 = some a77 := by kernel_rfl

/- graphdb/graphdbref03.Valid -/
def c78 : ACode :=
  .seq (.region none [] [
      ⟨some 1, .box 2 (.tmp 0), none⟩,
      ⟨some 2, .mov (.cst (.bool false)), none⟩] [1] none)
    (.seq (.region (some 28) [] [
      ⟨some 3, .faddr 1 (.tmp 1), none⟩,
      ⟨some 4, .load none (.tmp 3), none⟩,
      ⟨some 5, .bin .geq .int (.tmp 4) (.cst (.int .i64 1)), none⟩,
      ⟨some 6, .mov (.tmp 5), none⟩,
      ⟨some 7, .faddr 1 (.tmp 1), some (6, true)⟩,
      ⟨some 8, .load none (.tmp 7), some (6, true)⟩,
      ⟨some 9, .bin .leq .int (.tmp 8) (.cst (.int .i64 1000000000000000)), some (6, true)⟩,
      ⟨some 10, .pick (.tmp 6) (.tmp 9) (.cst (.bool false)), none⟩,
      ⟨some 11, .mov (.tmp 10), none⟩,
      ⟨some 12, .faddr 0 (.tmp 1), some (11, true)⟩,
      ⟨some 13, .load none (.tmp 12), some (11, true)⟩,
      ⟨some 14, .bin .geq .int (.tmp 13) (.cst (.int .i64 (-1000000000000000))), some (11, true)⟩,
      ⟨some 15, .pick (.tmp 11) (.tmp 14) (.cst (.bool false)), none⟩,
      ⟨some 16, .mov (.tmp 15), none⟩,
      ⟨some 17, .faddr 0 (.tmp 1), some (16, true)⟩,
      ⟨some 18, .load none (.tmp 17), some (16, true)⟩,
      ⟨some 19, .bin .leq .int (.tmp 18) (.cst (.int .i64 1000000000000000)), some (16, true)⟩,
      ⟨some 20, .pick (.tmp 16) (.tmp 19) (.cst (.bool false)), none⟩,
      ⟨some 21, .mov (.tmp 20), none⟩,
      ⟨some 22, .faddr 0 (.tmp 1), some (21, true)⟩,
      ⟨some 23, .load none (.tmp 22), some (21, true)⟩,
      ⟨some 24, .call .pure 82 [(.tmp 23)], some (21, true)⟩,
      ⟨some 25, .faddr 1 (.tmp 1), some (21, true)⟩,
      ⟨some 26, .load none (.tmp 25), some (21, true)⟩,
      ⟨some 27, .call .pure 97 [(.tmp 24), (.tmp 26)], some (21, true)⟩,
      ⟨some 28, .bin .eql .int (.tmp 27) (.cst (.int .i64 1)), some (21, true)⟩,
      ⟨some 29, .pick (.tmp 21) (.tmp 28) (.cst (.bool false)), none⟩,
      ⟨some 2, .mov (.tmp 29), none⟩] [2] none)
    (.ret))

def a78 : AFunc := ⟨1, c78, [.tmp 2]⟩

def an78 : List RAnn := [
  { id := 0, live := [1] },
  { id := 1, head := some 28, live := [2] }]

theorem comp78 : compF Try.prog an78 Try.f78 = some a78 := by kernel_rfl

/- graphdb/graphdbref03.sum -/
def c79 : ACode :=
  .seq (.region none [] [
      ⟨some 8, .mov (.cst (.int .i64 0)), none⟩,
      ⟨some 9, .mov (.cst (.sl false [])), none⟩] [0, 1, 2, 3] none)
    (.seq (.seq (.region none [] [
      ⟨some 11, .mov (.tmp 0), none⟩,
      ⟨some 12, .mov (.tmp 2), none⟩,
      ⟨some 13, .bin .eql .int (.tmp 11) (.tmp 12), none⟩,
      ⟨some 14, .mov (.tmp 13), none⟩,
      ⟨some 15, .mov (.tmp 2), some (14, false)⟩,
      ⟨some 16, .bin .eql .int (.tmp 15) (.cst (.int .i64 0)), some (14, false)⟩,
      ⟨some 17, .pick (.tmp 14) (.cst (.bool true)) (.tmp 16), none⟩] [0, 1, 2, 3, 17] none)
    (.cond (.tmp 17) (.seq (.region none [] [
        ⟨some 18, .mov (.tmp 0), none⟩,
        ⟨some 19, .mov (.tmp 1), none⟩,
        ⟨some 20, .mov (.tmp 3), none⟩,
        ⟨some 21, .call .pure 98 [(.tmp 19), (.tmp 20)], none⟩,
        ⟨some 8, .mov (.tmp 18), none⟩,
        ⟨some 9, .mov (.tmp 21), none⟩] [8, 9] none)
      (.ret))
    (.skip)))
    (.seq (.seq (.region none [] [
      ⟨some 22, .mov (.tmp 0), none⟩,
      ⟨some 23, .bin .eql .int (.tmp 22) (.cst (.int .i64 0)), none⟩] [0, 1, 2, 3, 23] none)
    (.cond (.tmp 23) (.seq (.region none [] [
        ⟨some 24, .mov (.tmp 2), none⟩,
        ⟨some 25, .mov (.tmp 3), none⟩,
        ⟨some 8, .mov (.tmp 24), none⟩,
        ⟨some 9, .mov (.tmp 25), none⟩] [8, 9] none)
      (.ret))
    (.skip)))
    (.seq (.region none [] [
      ⟨some 26, .mov (.tmp 1), none⟩,
      ⟨some 27, .mov (.tmp 3), none⟩,
      ⟨some 28, .call .pure 99 [(.tmp 26), (.tmp 27)], none⟩,
      ⟨some 10, .mov (.tmp 28), none⟩] [0, 1, 2, 3, 10] none)
    (.seq (.seq (.region none [] [
      ⟨some 29, .mov (.tmp 10), none⟩,
      ⟨some 30, .bin .eql .int (.tmp 29) (.cst (.int .i64 0)), none⟩] [0, 1, 2, 3, 10, 30] none)
    (.cond (.tmp 30) (.seq (.par 2 [(0, 1)] [] [
        ⟨some 31, .mkslice 1 8 (.int .i64 0) (.cst (.int .i64 14)) (.cst (.int .i64 14)), none⟩,
        ⟨some 32, .mkslice 1 8 (.int .i64 0) (.cst (.int .i64 14)) (.cst (.int .i64 14)), none⟩,
        ⟨some 33, .call .share 98 [(.tmp 31), (.tmp 32)], none⟩,
        ⟨some 8, .mov (.cst (.int .i64 0)), none⟩,
        ⟨some 9, .mov (.tmp 33), none⟩] [8, 9] none)
      (.ret))
    (.skip)))
    (.seq (.seq (.region none [] [
      ⟨some 34, .mov (.tmp 10), none⟩,
      ⟨some 35, .bin .gtr .int (.tmp 34) (.cst (.int .i64 0)), none⟩] [0, 1, 2, 3, 35] none)
    (.cond (.tmp 35) (.seq (.region none [] [
        ⟨some 36, .mov (.tmp 0), none⟩,
        ⟨some 37, .mov (.tmp 1), none⟩,
        ⟨some 38, .mov (.tmp 3), none⟩,
        ⟨some 39, .call .pure 100 [(.tmp 37), (.tmp 38)], none⟩,
        ⟨some 8, .mov (.tmp 36), none⟩,
        ⟨some 9, .mov (.tmp 39), none⟩] [8, 9] none)
      (.ret))
    (.skip)))
    (.seq (.region none [] [
      ⟨some 40, .mov (.tmp 2), none⟩,
      ⟨some 41, .mov (.tmp 3), none⟩,
      ⟨some 42, .mov (.tmp 1), none⟩,
      ⟨some 43, .call .pure 100 [(.tmp 41), (.tmp 42)], none⟩,
      ⟨some 8, .mov (.tmp 40), none⟩,
      ⟨some 9, .mov (.tmp 43), none⟩] [8, 9] none)
    (.ret)))))))

def a79 : AFunc := ⟨4, c79, [.tmp 8, .tmp 9]⟩

def an79 : List RAnn := [
  { id := 0, live := [0, 1, 2, 3] },
  { id := 1, live := [0, 1, 2, 3, 17] },
  { id := 2, live := [8, 9] },
  { id := 3, live := [0, 1, 2, 3, 23] },
  { id := 4, live := [8, 9] },
  { id := 5, live := [0, 1, 2, 3, 10] },
  { id := 6, live := [0, 1, 2, 3, 10, 30] },
  { id := 7, head := some 2, live := [8, 9], ops := [(2, .mode .share)], par := true },
  { id := 8, live := [0, 1, 2, 3, 35] },
  { id := 9, live := [8, 9] },
  { id := 10, live := [8, 9] }]

theorem comp79 : compF Try.prog an79 Try.f79 = some a79 := by kernel_rfl

/- graphdb/graphdbref03.sign -/
def c80 : ACode :=
  .seq (.region none [] [
      ⟨some 2, .mov (.cst (.int .i64 0)), none⟩] [0] none)
    (.seq (.seq (.region none [] [
      ⟨some 3, .mov (.tmp 0), none⟩,
      ⟨some 4, .bin .lss .int (.tmp 3) (.cst (.int .i64 0)), none⟩] [0, 4] none)
    (.cond (.tmp 4) (.seq (.region none [] [
        ⟨some 2, .mov (.cst (.int .i64 (-1))), none⟩] [2] none)
      (.ret))
    (.skip)))
    (.seq (.seq (.region none [] [
      ⟨some 5, .mov (.tmp 0), none⟩,
      ⟨some 6, .bin .gtr .int (.tmp 5) (.cst (.int .i64 0)), none⟩] [6] none)
    (.cond (.tmp 6) (.seq (.region none [] [
        ⟨some 2, .mov (.cst (.int .i64 1)), none⟩] [2] none)
      (.ret))
    (.skip)))
    (.seq (.region none [] [
      ⟨some 2, .mov (.cst (.int .i64 0)), none⟩] [2] none)
    (.ret))))

def a80 : AFunc := ⟨1, c80, [.tmp 2]⟩

def an80 : List RAnn := [
  { id := 0, live := [0] },
  { id := 1, live := [0, 4] },
  { id := 2, live := [2] },
  { id := 3, live := [6] },
  { id := 4, live := [2] },
  { id := 5, live := [2] }]

theorem comp80 : compF Try.prog an80 Try.f80 = some a80 := by kernel_rfl

/- graphdb/graphdbref03.times -/
/-- loop 0 of function 81 -/
def l81_0_h : List Nat := [0, 1, 5, 6, 7, 8, 9, 10]

def l81_0_b : ACode :=
  .seq (.seq (.region none [] [
      ⟨some 22, .mov (.tmp 8), none⟩,
      ⟨some 23, .bin .gtr .int (.tmp 22) (.cst (.int .i64 0)), none⟩,
      ⟨some 24, .mov (.tmp 23), none⟩,
      ⟨some 25, .mov (.tmp 9), some (24, false)⟩,
      ⟨some 26, .bin .gtr .int (.tmp 25) (.cst (.int .i64 0)), some (24, false)⟩,
      ⟨some 27, .pick (.tmp 24) (.cst (.bool true)) (.tmp 26), none⟩] [0, 1, 5, 6, 7, 8, 9, 10, 27] none)
    (.cond (.tmp 27) (.skip)
    (.exit 2)))
    (.seq (.block 3 (.seq (.region none [] [
        ⟨some 30, .mov (.tmp 9), none⟩,
        ⟨some 31, .mov (.tmp 5), none⟩,
        ⟨some 32, .mov (.tmp 10), none⟩,
        ⟨some 33, .iaddr 1 (.tmp 31) (.tmp 32), none⟩,
        ⟨some 34, .load none (.tmp 33), none⟩,
        ⟨some 35, .bin .add .int (.tmp 30) (.tmp 34), none⟩,
        ⟨some 36, .mov (.tmp 7), none⟩,
        ⟨some 37, .mov (.tmp 8), none⟩,
        ⟨some 38, .bin .rem .int (.tmp 37) (.cst (.int .i64 1000)), none⟩,
        ⟨some 39, .bin .mul .int (.tmp 36) (.tmp 38), none⟩,
        ⟨some 40, .bin .add .int (.tmp 35) (.tmp 39), none⟩,
        ⟨some 9, .mov (.tmp 40), none⟩] [0, 1, 5, 6, 7, 8, 9, 10] none)
      (.seq (.region none [] [
        ⟨some 41, .mov (.tmp 8), none⟩,
        ⟨some 42, .bin .quo .int (.tmp 41) (.cst (.int .i64 1000)), none⟩,
        ⟨some 8, .mov (.tmp 42), none⟩] [0, 1, 5, 6, 7, 8, 9, 10] none)
      (.seq (.region none [] [
        ⟨some 43, .mov (.tmp 5), none⟩,
        ⟨some 44, .mov (.tmp 10), none⟩,
        ⟨some 45, .mov (.tmp 9), none⟩,
        ⟨some 46, .bin .rem .int (.tmp 45) (.cst (.int .i64 1000)), none⟩,
        ⟨some 47, .iaddr 1 (.tmp 43) (.tmp 44), none⟩,
        ⟨none, .store 1 (.tmp 47) (.tmp 46), none⟩] [0, 1, 5, 6, 7, 8, 9, 10] none)
      (.region none [] [
        ⟨some 48, .mov (.tmp 9), none⟩,
        ⟨some 49, .bin .quo .int (.tmp 48) (.cst (.int .i64 1000)), none⟩,
        ⟨some 9, .mov (.tmp 49), none⟩] [0, 1, 5, 6, 7, 8, 9, 10] none)))))
    (.region none [] [
      ⟨some 28, .mov (.tmp 10), none⟩,
      ⟨some 29, .bin .add .int (.tmp 28) (.cst (.int .i64 1)), none⟩,
      ⟨some 10, .mov (.tmp 29), none⟩] [0, 1, 5, 6, 7, 8, 9, 10] none))

/-- loop 1 of function 81 -/
def l81_1_h : List Nat := [0, 1, 5, 6]

def l81_1_b : ACode :=
  .seq (.seq (.region none [] [
      ⟨some 12, .mov (.tmp 0), none⟩,
      ⟨some 13, .bin .gtr .int (.tmp 12) (.cst (.int .i64 0)), none⟩] [0, 1, 5, 6, 13] none)
    (.cond (.tmp 13) (.skip)
    (.exit 0)))
    (.seq (.block 1 (.seq (.region none [] [
        ⟨some 16, .mov (.tmp 0), none⟩,
        ⟨some 17, .bin .rem .int (.tmp 16) (.cst (.int .i64 1000)), none⟩,
        ⟨some 7, .mov (.tmp 17), none⟩] [0, 1, 5, 6, 7] none)
      (.seq (.region none [] [
        ⟨some 18, .mov (.tmp 0), none⟩,
        ⟨some 19, .bin .quo .int (.tmp 18) (.cst (.int .i64 1000)), none⟩,
        ⟨some 0, .mov (.tmp 19), none⟩] [0, 1, 5, 6, 7] none)
      (.seq (.region none [] [
        ⟨some 20, .mov (.tmp 1), none⟩,
        ⟨some 8, .mov (.tmp 20), none⟩] [0, 1, 5, 6, 7, 8] none)
      (.seq (.region none [] [
        ⟨some 9, .mov (.cst (.int .i64 0)), none⟩] [0, 1, 5, 6, 7, 8, 9] none)
      (.seq (.region none [] [
        ⟨some 21, .mov (.tmp 6), none⟩,
        ⟨some 10, .mov (.tmp 21), none⟩] [0, 1, 5, 6, 7, 8, 9, 10] none)
      (.block 2 (.loop l81_0_h l81_0_b))))))))
    (.region none [] [
      ⟨some 14, .mov (.tmp 6), none⟩,
      ⟨some 15, .bin .add .int (.tmp 14) (.cst (.int .i64 1)), none⟩,
      ⟨some 6, .mov (.tmp 15), none⟩] [0, 1, 5, 6] none))

def c81 : ACode :=
  .seq (.region none [] [
      ⟨some 4, .mov (.cst (.sl false [])), none⟩] [0, 1] none)
    (.seq (.region none [] [
      ⟨some 11, .mkslice 1 8 (.int .i64 0) (.cst (.int .i64 14)) (.cst (.int .i64 14)), none⟩,
      ⟨some 5, .mov (.tmp 11), none⟩] [0, 1, 5] none)
    (.seq (.seq (.region none [] [
      ⟨some 6, .mov (.cst (.int .i64 0)), none⟩] [0, 1, 5, 6] none)
    (.block 0 (.loop l81_1_h l81_1_b)))
    (.seq (.region none [] [
      ⟨some 50, .mov (.tmp 5), none⟩,
      ⟨some 4, .mov (.tmp 50), none⟩] [4] none)
    (.ret))))

def a81 : AFunc := ⟨2, c81, [.tmp 4]⟩

def an81 : List RAnn := [
  { id := 0, live := [0, 1] },
  { id := 1, live := [0, 1, 5] },
  { id := 2, live := [0, 1, 5, 6] },
  { id := 3, live := [0, 1, 5, 6, 13], hdr := [0, 1, 5, 6] },
  { id := 5, live := [0, 1, 5, 6, 7] },
  { id := 6, live := [0, 1, 5, 6, 7] },
  { id := 7, live := [0, 1, 5, 6, 7, 8] },
  { id := 8, live := [0, 1, 5, 6, 7, 8, 9] },
  { id := 9, live := [0, 1, 5, 6, 7, 8, 9, 10] },
  { id := 10, live := [0, 1, 5, 6, 7, 8, 9, 10, 27], hdr := [0, 1, 5, 6, 7, 8, 9, 10] },
  { id := 12, live := [0, 1, 5, 6, 7, 8, 9, 10] },
  { id := 13, live := [0, 1, 5, 6, 7, 8, 9, 10] },
  { id := 14, live := [0, 1, 5, 6, 7, 8, 9, 10] },
  { id := 15, live := [0, 1, 5, 6, 7, 8, 9, 10] },
  { id := 11, live := [0, 1, 5, 6, 7, 8, 9, 10] },
  { id := 4, live := [0, 1, 5, 6] },
  { id := 16, live := [4] }]

theorem comp81 : compF Try.prog an81 Try.f81 = some a81 := by kernel_rfl

/- graphdb/graphdbref03.size -/
def c82 : ACode :=
  .seq (.region none [] [
      ⟨some 2, .mov (.cst (.int .i64 0)), none⟩] [0] none)
    (.seq (.seq (.region none [] [
      ⟨some 3, .mov (.tmp 0), none⟩,
      ⟨some 4, .bin .lss .int (.tmp 3) (.cst (.int .i64 0)), none⟩] [0, 4] none)
    (.cond (.tmp 4) (.seq (.region none [] [
        ⟨some 5, .mov (.tmp 0), none⟩,
        ⟨some 6, .un .neg (.tmp 5), none⟩,
        ⟨some 2, .mov (.tmp 6), none⟩] [2] none)
      (.ret))
    (.skip)))
    (.seq (.region none [] [
      ⟨some 7, .mov (.tmp 0), none⟩,
      ⟨some 2, .mov (.tmp 7), none⟩] [2] none)
    (.ret)))

def a82 : AFunc := ⟨1, c82, [.tmp 2]⟩

def an82 : List RAnn := [
  { id := 0, live := [0] },
  { id := 1, live := [0, 4] },
  { id := 2, live := [2] },
  { id := 3, live := [2] }]

theorem comp82 : compF Try.prog an82 Try.f82 = some a82 := by kernel_rfl

/- slices.Clone[[]graphdb/api.Value,graphdb/api.Value] -/
def c83 : ACode :=
  .seq (.region none [] [
      ⟨some 2, .mov (.cst (.sl false [])), none⟩] [0] none)
    (.seq (.seq (.region none [] [
      ⟨some 3, .mov (.tmp 0), none⟩,
      ⟨some 4, .bin .eql .slice (.tmp 3) (.cst (.sl false [])), none⟩] [0, 4] none)
    (.cond (.tmp 4) (.seq (.region none [] [
        ⟨some 2, .mov (.cst (.sl false [])), none⟩] [2] none)
      (.ret))
    (.skip)))
    (.seq (.region none [] [
      ⟨some 5, .lit true 5 (.agg [.int .i64 0, .int .i64 0, .int .i64 0, .str [], .sl false []]) 0 [], none⟩,
      ⟨some 6, .mov (.tmp 0), none⟩,
      ⟨some 7, .append 5 64 (.tmp 5) (.tmp 6), none⟩,
      ⟨some 2, .mov (.tmp 7), none⟩] [2] none)
    (.ret)))

def a83 : AFunc := ⟨1, c83, [.tmp 2]⟩

def an83 : List RAnn := [
  { id := 0, live := [0] },
  { id := 1, live := [0, 4] },
  { id := 2, live := [2] },
  { id := 3, live := [2], ops := [(0, .own)] }]

theorem comp83 : compF Try.prog an83 Try.f83 = some a83 := by kernel_rfl

/- graphdb/graphdbref07.parts -/
/-- loop 0 of function 84 -/
def l84_0_h : List Nat := [1, 6]

def l84_0_b : ACode :=
  .seq (.seq (.region none [] [
      ⟨some 33, .mov (.tmp 6), none⟩,
      ⟨some 34, .mov (.tmp 1), none⟩,
      ⟨some 35, .len .slice (.tmp 34), none⟩,
      ⟨some 36, .bin .lss .int (.tmp 33) (.tmp 35), none⟩] [1, 6, 36] none)
    (.cond (.tmp 36) (.skip)
    (.exit 0)))
    (.seq (.block 1 (.seq (.region none [] [
        ⟨some 39, .mov (.tmp 1), none⟩,
        ⟨some 40, .mov (.tmp 6), none⟩,
        ⟨some 41, .iaddr 6 (.tmp 39) (.tmp 40), none⟩,
        ⟨some 42, .faddr 1 (.tmp 41), none⟩,
        ⟨some 43, .load (some 5) (.tmp 42), none⟩,
        ⟨some 44, .call .pure 104 [(.tmp 43)], none⟩,
        ⟨some 45, .un .not (.tmp 44), none⟩] [1, 6, 45] none)
      (.cond (.tmp 45) (.seq (.region none [] [
          ⟨some 4, .mov (.cst (.int .i64 8)), none⟩] [4] none)
        (.ret))
      (.skip))))
    (.region none [] [
      ⟨some 37, .mov (.tmp 6), none⟩,
      ⟨some 38, .bin .add .int (.tmp 37) (.cst (.int .i64 1)), none⟩,
      ⟨some 6, .mov (.tmp 38), none⟩] [1, 6] none))

def c84 : ACode :=
  .seq (.region none [] [
      ⟨some 4, .mov (.cst (.int .i64 0)), none⟩] [0, 1] none)
    (.seq (.seq (.region none [] [
      ⟨some 7, .mov (.tmp 0), none⟩,
      ⟨some 8, .len .slice (.tmp 7), none⟩,
      ⟨some 9, .bin .gtr .int (.tmp 8) (.cst (.int .i64 8)), none⟩,
      ⟨some 10, .mov (.tmp 9), none⟩,
      ⟨some 11, .mov (.tmp 1), some (10, false)⟩,
      ⟨some 12, .len .slice (.tmp 11), some (10, false)⟩,
      ⟨some 13, .bin .gtr .int (.tmp 12) (.cst (.int .i64 16)), some (10, false)⟩,
      ⟨some 14, .pick (.tmp 10) (.cst (.bool true)) (.tmp 13), none⟩] [0, 1, 14] none)
    (.cond (.tmp 14) (.seq (.region none [] [
        ⟨some 4, .mov (.cst (.int .i64 4)), none⟩] [4] none)
      (.ret))
    (.skip)))
    (.seq (.region none [] [
      ⟨some 15, .mov (.tmp 1), none⟩,
      ⟨some 16, .call .pure 101 [(.tmp 15)], none⟩,
      ⟨some 5, .mov (.tmp 16), none⟩] [0, 1, 5] none)
    (.seq (.seq (.region none [] [
      ⟨some 17, .mov (.tmp 0), none⟩,
      ⟨some 18, .call .pure 102 [(.tmp 17)], none⟩,
      ⟨some 19, .un .not (.tmp 18), none⟩,
      ⟨some 20, .mov (.tmp 19), none⟩,
      ⟨some 21, .mov (.tmp 5), some (20, false)⟩,
      ⟨some 22, .call .pure 102 [(.tmp 21)], some (20, false)⟩,
      ⟨some 23, .un .not (.tmp 22), some (20, false)⟩,
      ⟨some 24, .pick (.tmp 20) (.cst (.bool true)) (.tmp 23), none⟩] [0, 1, 5, 24] none)
    (.cond (.tmp 24) (.seq (.region none [] [
        ⟨some 4, .mov (.cst (.int .i64 6)), none⟩] [4] none)
      (.ret))
    (.skip)))
    (.seq (.seq (.region none [] [
      ⟨some 25, .mov (.tmp 0), none⟩,
      ⟨some 26, .call .pure 103 [(.tmp 25)], none⟩,
      ⟨some 27, .un .not (.tmp 26), none⟩,
      ⟨some 28, .mov (.tmp 27), none⟩,
      ⟨some 29, .mov (.tmp 5), some (28, false)⟩,
      ⟨some 30, .call .pure 103 [(.tmp 29)], some (28, false)⟩,
      ⟨some 31, .un .not (.tmp 30), some (28, false)⟩,
      ⟨some 32, .pick (.tmp 28) (.cst (.bool true)) (.tmp 31), none⟩] [1, 32] none)
    (.cond (.tmp 32) (.seq (.region none [] [
        ⟨some 4, .mov (.cst (.int .i64 26)), none⟩] [4] none)
      (.ret))
    (.skip)))
    (.seq (.seq (.region none [] [
      ⟨some 6, .mov (.cst (.int .i64 0)), none⟩] [1, 6] none)
    (.block 0 (.loop l84_0_h l84_0_b)))
    (.seq (.region none [] [
      ⟨some 4, .mov (.cst (.int .i64 0)), none⟩] [4] none)
    (.ret)))))))

def a84 : AFunc := ⟨2, c84, [.tmp 4]⟩

def an84 : List RAnn := [
  { id := 0, live := [0, 1] },
  { id := 1, live := [0, 1, 14] },
  { id := 2, live := [4] },
  { id := 3, live := [0, 1, 5] },
  { id := 4, live := [0, 1, 5, 24] },
  { id := 5, live := [4] },
  { id := 6, live := [1, 32] },
  { id := 7, live := [4] },
  { id := 8, live := [1, 6] },
  { id := 9, live := [1, 6, 36], hdr := [1, 6] },
  { id := 11, live := [1, 6, 45] },
  { id := 12, live := [4] },
  { id := 10, live := [1, 6] },
  { id := 13, live := [4] }]

theorem comp84 : compF Try.prog an84 Try.f84 = some a84 := by kernel_rfl

/- graphdb/graphdbref07.Name -/
/-- loop 0 of function 85 -/
def l85_0_h : List Nat := [0, 3]

def l85_0_b : ACode :=
  .seq (.seq (.region none [] [
      ⟨some 18, .mov (.tmp 3), none⟩,
      ⟨some 19, .mov (.tmp 0), none⟩,
      ⟨some 20, .len .str (.tmp 19), none⟩,
      ⟨some 21, .bin .lss .int (.tmp 18) (.tmp 20), none⟩] [0, 3, 21] none)
    (.cond (.tmp 21) (.skip)
    (.exit 0)))
    (.seq (.block 1 (.seq (.region none [] [
        ⟨some 24, .mov (.tmp 0), none⟩,
        ⟨some 25, .mov (.tmp 3), none⟩,
        ⟨some 26, .sidx (.tmp 24) (.tmp 25), none⟩,
        ⟨some 27, .call .pure 105 [(.tmp 26)], none⟩,
        ⟨some 28, .un .not (.tmp 27), none⟩,
        ⟨some 29, .mov (.tmp 28), none⟩,
        ⟨some 30, .mov (.tmp 0), some (29, true)⟩,
        ⟨some 31, .mov (.tmp 3), some (29, true)⟩,
        ⟨some 32, .sidx (.tmp 30) (.tmp 31), some (29, true)⟩,
        ⟨some 33, .bin .neq .int (.tmp 32) (.cst (.int .u8 95)), some (29, true)⟩,
        ⟨some 34, .pick (.tmp 29) (.tmp 33) (.cst (.bool false)), none⟩,
        ⟨some 35, .mov (.tmp 34), none⟩,
        ⟨some 36, .mov (.tmp 0), some (35, true)⟩,
        ⟨some 37, .mov (.tmp 3), some (35, true)⟩,
        ⟨some 38, .sidx (.tmp 36) (.tmp 37), some (35, true)⟩,
        ⟨some 39, .bin .lss .int (.tmp 38) (.cst (.int .u8 48)), some (35, true)⟩,
        ⟨some 40, .mov (.tmp 39), some (35, true)⟩,
        ⟨some 41, .mov (.tmp 0), some (40, false)⟩,
        ⟨some 42, .mov (.tmp 3), some (40, false)⟩,
        ⟨some 43, .sidx (.tmp 41) (.tmp 42), some (40, false)⟩,
        ⟨some 44, .bin .gtr .int (.tmp 43) (.cst (.int .u8 57)), some (40, false)⟩,
        ⟨some 45, .pick (.tmp 40) (.cst (.bool true)) (.tmp 44), some (35, true)⟩,
        ⟨some 46, .pick (.tmp 35) (.tmp 45) (.cst (.bool false)), none⟩] [0, 3, 46] none)
      (.cond (.tmp 46) (.seq (.region none [] [
          ⟨some 2, .mov (.cst (.bool false)), none⟩] [2] none)
        (.ret))
      (.skip))))
    (.region none [] [
      ⟨some 22, .mov (.tmp 3), none⟩,
      ⟨some 23, .bin .add .int (.tmp 22) (.cst (.int .i64 1)), none⟩,
      ⟨some 3, .mov (.tmp 23), none⟩] [0, 3] none))

def c85 : ACode :=
  .seq (.region none [] [
      ⟨some 2, .mov (.cst (.bool false)), none⟩] [0] none)
    (.seq (.seq (.region none [] [
      ⟨some 4, .mov (.tmp 0), none⟩,
      ⟨some 5, .len .str (.tmp 4), none⟩,
      ⟨some 6, .bin .lss .int (.tmp 5) (.cst (.int .i64 1)), none⟩,
      ⟨some 7, .mov (.tmp 6), none⟩,
      ⟨some 8, .mov (.tmp 0), some (7, false)⟩,
      ⟨some 9, .len .str (.tmp 8), some (7, false)⟩,
      ⟨some 10, .bin .gtr .int (.tmp 9) (.cst (.int .i64 20)), some (7, false)⟩,
      ⟨some 11, .pick (.tmp 7) (.cst (.bool true)) (.tmp 10), none⟩,
      ⟨some 12, .mov (.tmp 11), none⟩,
      ⟨some 13, .mov (.tmp 0), some (12, false)⟩,
      ⟨some 14, .sidx (.tmp 13) (.cst (.int .i64 0)), some (12, false)⟩,
      ⟨some 15, .call .pure 105 [(.tmp 14)], some (12, false)⟩,
      ⟨some 16, .un .not (.tmp 15), some (12, false)⟩,
      ⟨some 17, .pick (.tmp 12) (.cst (.bool true)) (.tmp 16), none⟩] [0, 17] none)
    (.cond (.tmp 17) (.seq (.region none [] [
        ⟨some 2, .mov (.cst (.bool false)), none⟩] [2] none)
      (.ret))
    (.skip)))
    (.seq (.seq (.region none [] [
      ⟨some 3, .mov (.cst (.int .i64 1)), none⟩] [0, 3] none)
    (.block 0 (.loop l85_0_h l85_0_b)))
    (.seq (.region none [] [
      ⟨some 2, .mov (.cst (.bool true)), none⟩] [2] none)
    (.ret))))

def a85 : AFunc := ⟨1, c85, [.tmp 2]⟩

def an85 : List RAnn := [
  { id := 0, live := [0] },
  { id := 1, live := [0, 17] },
  { id := 2, live := [2] },
  { id := 3, live := [0, 3] },
  { id := 4, live := [0, 3, 21], hdr := [0, 3] },
  { id := 6, live := [0, 3, 46] },
  { id := 7, live := [2] },
  { id := 5, live := [0, 3] },
  { id := 8, live := [2] }]

theorem comp85 : compF Try.prog an85 Try.f85 = some a85 := by kernel_rfl

/- slices.pdqsortOrdered[string] -/
/-- loop 0 of function 86 -/
def l86_0_h : List Nat := [0, 1, 2, 3, 8, 9]

def l86_0_b : ACode :=
  .block 1 (.seq (.region none [] [
        ⟨some 19, .mov (.tmp 2), none⟩,
        ⟨some 20, .mov (.tmp 1), none⟩,
        ⟨some 21, .bin .sub .int (.tmp 19) (.tmp 20), none⟩,
        ⟨some 10, .mov (.tmp 21), none⟩] [0, 1, 2, 3, 8, 9, 10] none)
      (.seq (.seq (.region none [] [
        ⟨some 22, .mov (.tmp 10), none⟩,
        ⟨some 23, .bin .leq .int (.tmp 22) (.cst (.int .i64 12)), none⟩] [0, 1, 2, 3, 8, 9, 10, 23] none)
      (.cond (.tmp 23) (.seq (.region none [] [
          ⟨some 24, .mov (.tmp 0), none⟩,
          ⟨some 25, .mov (.tmp 1), none⟩,
          ⟨some 26, .mov (.tmp 2), none⟩,
          ⟨some 27, .call .share 106 [(.tmp 24), (.tmp 25), (.tmp 26)], none⟩] [] none)
        (.ret))
      (.skip)))
      (.seq (.seq (.region none [] [
        ⟨some 28, .mov (.tmp 3), none⟩,
        ⟨some 29, .bin .eql .int (.tmp 28) (.cst (.int .i64 0)), none⟩] [0, 1, 2, 3, 8, 9, 10, 29] none)
      (.cond (.tmp 29) (.seq (.region none [] [
          ⟨some 30, .mov (.tmp 0), none⟩,
          ⟨some 31, .mov (.tmp 1), none⟩,
          ⟨some 32, .mov (.tmp 2), none⟩,
          ⟨some 33, .call .share 107 [(.tmp 30), (.tmp 31), (.tmp 32)], none⟩] [] none)
        (.ret))
      (.skip)))
      (.seq (.seq (.region none [] [
        ⟨some 34, .mov (.tmp 8), none⟩,
        ⟨some 35, .un .not (.tmp 34), none⟩] [0, 1, 2, 3, 8, 9, 10, 35] none)
      (.cond (.tmp 35) (.seq (.region none [] [
          ⟨some 36, .mov (.tmp 0), none⟩,
          ⟨some 37, .mov (.tmp 1), none⟩,
          ⟨some 38, .mov (.tmp 2), none⟩,
          ⟨some 39, .call .share 108 [(.tmp 36), (.tmp 37), (.tmp 38)], none⟩] [0, 1, 2, 3, 8, 9, 10] none)
        (.region none [] [
          ⟨some 40, .mov (.tmp 3), none⟩,
          ⟨some 41, .bin .sub .int (.tmp 40) (.cst (.int .i64 1)), none⟩,
          ⟨some 3, .mov (.tmp 41), none⟩] [0, 1, 2, 3, 8, 9, 10] none))
      (.skip)))
      (.seq (.region none [] [
        ⟨some 43, .mov (.tmp 0), none⟩,
        ⟨some 44, .mov (.tmp 1), none⟩,
        ⟨some 45, .mov (.tmp 2), none⟩,
        ⟨some 46, .call .share 109 [(.tmp 43), (.tmp 44), (.tmp 45)], none⟩,
        ⟨some 42, .mov (.tmp 46), none⟩,
        ⟨some 47, .ext (.tmp 42) 0, none⟩,
        ⟨some 48, .ext (.tmp 42) 1, none⟩,
        ⟨some 11, .mov (.tmp 47), none⟩,
        ⟨some 12, .mov (.tmp 48), none⟩] [0, 1, 2, 3, 8, 9, 10, 11, 12] none)
      (.seq (.seq (.region none [] [
        ⟨some 49, .mov (.tmp 12), none⟩,
        ⟨some 50, .bin .eql .int (.tmp 49) (.cst (.int .i64 2)), none⟩] [0, 1, 2, 3, 8, 9, 10, 11, 12, 50] none)
      (.cond (.tmp 50) (.seq (.region none [] [
          ⟨some 51, .mov (.tmp 0), none⟩,
          ⟨some 52, .mov (.tmp 1), none⟩,
          ⟨some 53, .mov (.tmp 2), none⟩,
          ⟨some 54, .call .share 110 [(.tmp 51), (.tmp 52), (.tmp 53)], none⟩] [0, 1, 2, 3, 8, 9, 10, 11] none)
        (.seq (.region none [] [
          ⟨some 55, .mov (.tmp 2), none⟩,
          ⟨some 56, .bin .sub .int (.tmp 55) (.cst (.int .i64 1)), none⟩,
          ⟨some 57, .mov (.tmp 11), none⟩,
          ⟨some 58, .mov (.tmp 1), none⟩,
          ⟨some 59, .bin .sub .int (.tmp 57) (.tmp 58), none⟩,
          ⟨some 60, .bin .sub .int (.tmp 56) (.tmp 59), none⟩,
          ⟨some 11, .mov (.tmp 60), none⟩] [0, 1, 2, 3, 8, 9, 10, 11] none)
        (.region none [] [
          ⟨some 12, .mov (.cst (.int .i64 1)), none⟩] [0, 1, 2, 3, 8, 9, 10, 11, 12] none)))
      (.skip)))
      (.seq (.seq (.region none [] [
        ⟨some 61, .mov (.tmp 8), none⟩,
        ⟨some 62, .mov (.tmp 61), none⟩,
        ⟨some 63, .mov (.tmp 9), some (62, true)⟩,
        ⟨some 64, .pick (.tmp 62) (.tmp 63) (.cst (.bool false)), none⟩,
        ⟨some 65, .mov (.tmp 64), none⟩,
        ⟨some 66, .mov (.tmp 12), some (65, true)⟩,
        ⟨some 67, .bin .eql .int (.tmp 66) (.cst (.int .i64 1)), some (65, true)⟩,
        ⟨some 68, .pick (.tmp 65) (.tmp 67) (.cst (.bool false)), none⟩] [0, 1, 2, 3, 8, 9, 10, 11, 68] none)
      (.cond (.tmp 68) (.seq (.region none [] [
          ⟨some 69, .mov (.tmp 0), none⟩,
          ⟨some 70, .mov (.tmp 1), none⟩,
          ⟨some 71, .mov (.tmp 2), none⟩,
          ⟨some 72, .call .share 111 [(.tmp 69), (.tmp 70), (.tmp 71)], none⟩] [0, 1, 2, 3, 8, 9, 10, 11, 72] none)
        (.cond (.tmp 72) (.ret)
        (.skip)))
      (.skip)))
      (.seq (.seq (.region (some 15) [] [
        ⟨some 73, .mov (.tmp 1), none⟩,
        ⟨some 74, .bin .gtr .int (.tmp 73) (.cst (.int .i64 0)), none⟩,
        ⟨some 75, .mov (.tmp 74), none⟩,
        ⟨some 76, .mov (.tmp 0), some (75, true)⟩,
        ⟨some 77, .mov (.tmp 1), some (75, true)⟩,
        ⟨some 78, .bin .sub .int (.tmp 77) (.cst (.int .i64 1)), some (75, true)⟩,
        ⟨some 79, .iaddr 1 (.tmp 76) (.tmp 78), some (75, true)⟩,
        ⟨some 80, .load none (.tmp 79), some (75, true)⟩,
        ⟨some 81, .mov (.tmp 0), some (75, true)⟩,
        ⟨some 82, .mov (.tmp 11), some (75, true)⟩,
        ⟨some 83, .iaddr 1 (.tmp 81) (.tmp 82), some (75, true)⟩,
        ⟨some 84, .load none (.tmp 83), some (75, true)⟩,
        ⟨some 85, .call .pure 112 [(.tmp 80), (.tmp 84)], some (75, true)⟩,
        ⟨some 86, .un .not (.tmp 85), some (75, true)⟩,
        ⟨some 87, .pick (.tmp 75) (.tmp 86) (.cst (.bool false)), none⟩] [0, 1, 2, 3, 8, 9, 10, 11, 87] none)
      (.cond (.tmp 87) (.seq (.region none [] [
          ⟨some 88, .mov (.tmp 0), none⟩,
          ⟨some 89, .mov (.tmp 1), none⟩,
          ⟨some 90, .mov (.tmp 2), none⟩,
          ⟨some 91, .mov (.tmp 11), none⟩,
          ⟨some 92, .call .share 113 [(.tmp 88), (.tmp 89), (.tmp 90), (.tmp 91)], none⟩,
          ⟨some 13, .mov (.tmp 92), none⟩] [0, 2, 3, 8, 9, 13] none)
        (.seq (.region none [] [
          ⟨some 93, .mov (.tmp 13), none⟩,
          ⟨some 1, .mov (.tmp 93), none⟩] [0, 1, 2, 3, 8, 9] none)
        (.exit 1)))
      (.skip)))
      (.seq (.region none [] [
        ⟨some 95, .mov (.tmp 0), none⟩,
        ⟨some 96, .mov (.tmp 1), none⟩,
        ⟨some 97, .mov (.tmp 2), none⟩,
        ⟨some 98, .mov (.tmp 11), none⟩,
        ⟨some 99, .call .share 114 [(.tmp 95), (.tmp 96), (.tmp 97), (.tmp 98)], none⟩,
        ⟨some 94, .mov (.tmp 99), none⟩,
        ⟨some 100, .ext (.tmp 94) 0, none⟩,
        ⟨some 101, .ext (.tmp 94) 1, none⟩,
        ⟨some 14, .mov (.tmp 100), none⟩,
        ⟨some 15, .mov (.tmp 101), none⟩] [0, 1, 2, 3, 10, 14, 15] none)
      (.seq (.region none [] [
        ⟨some 102, .mov (.tmp 15), none⟩,
        ⟨some 9, .mov (.tmp 102), none⟩] [0, 1, 2, 3, 9, 10, 14] none)
      (.seq (.region none [] [
        ⟨some 103, .mov (.tmp 14), none⟩,
        ⟨some 104, .mov (.tmp 1), none⟩,
        ⟨some 105, .bin .sub .int (.tmp 103) (.tmp 104), none⟩,
        ⟨some 106, .mov (.tmp 2), none⟩,
        ⟨some 107, .mov (.tmp 14), none⟩,
        ⟨some 108, .bin .sub .int (.tmp 106) (.tmp 107), none⟩,
        ⟨some 16, .mov (.tmp 105), none⟩,
        ⟨some 17, .mov (.tmp 108), none⟩] [0, 1, 2, 3, 9, 10, 14, 16, 17] none)
      (.seq (.region none [] [
        ⟨some 109, .mov (.tmp 10), none⟩,
        ⟨some 110, .bin .quo .int (.tmp 109) (.cst (.int .i64 8)), none⟩,
        ⟨some 18, .mov (.tmp 110), none⟩] [0, 1, 2, 3, 9, 14, 16, 17, 18] none)
      (.seq (.region none [] [
        ⟨some 111, .mov (.tmp 16), none⟩,
        ⟨some 112, .mov (.tmp 17), none⟩,
        ⟨some 113, .bin .lss .int (.tmp 111) (.tmp 112), none⟩] [0, 1, 2, 3, 9, 14, 16, 17, 18, 113] none)
      (.cond (.tmp 113) (.seq (.region none [] [
          ⟨some 114, .mov (.tmp 16), none⟩,
          ⟨some 115, .mov (.tmp 18), none⟩,
          ⟨some 116, .bin .geq .int (.tmp 114) (.tmp 115), none⟩,
          ⟨some 8, .mov (.tmp 116), none⟩] [0, 1, 2, 3, 8, 9, 14] none)
        (.seq (.region none [] [
          ⟨some 117, .mov (.tmp 0), none⟩,
          ⟨some 118, .mov (.tmp 1), none⟩,
          ⟨some 119, .mov (.tmp 14), none⟩,
          ⟨some 120, .mov (.tmp 3), none⟩,
          ⟨some 121, .call .share 86 [(.tmp 117), (.tmp 118), (.tmp 119), (.tmp 120)], none⟩] [0, 2, 3, 8, 9, 14] none)
        (.region none [] [
          ⟨some 122, .mov (.tmp 14), none⟩,
          ⟨some 123, .bin .add .int (.tmp 122) (.cst (.int .i64 1)), none⟩,
          ⟨some 1, .mov (.tmp 123), none⟩] [0, 1, 2, 3, 8, 9] none)))
      (.seq (.region none [] [
          ⟨some 124, .mov (.tmp 17), none⟩,
          ⟨some 125, .mov (.tmp 18), none⟩,
          ⟨some 126, .bin .geq .int (.tmp 124) (.tmp 125), none⟩,
          ⟨some 8, .mov (.tmp 126), none⟩] [0, 1, 2, 3, 8, 9, 14] none)
        (.seq (.region none [] [
          ⟨some 127, .mov (.tmp 0), none⟩,
          ⟨some 128, .mov (.tmp 14), none⟩,
          ⟨some 129, .bin .add .int (.tmp 128) (.cst (.int .i64 1)), none⟩,
          ⟨some 130, .mov (.tmp 2), none⟩,
          ⟨some 131, .mov (.tmp 3), none⟩,
          ⟨some 132, .call .share 86 [(.tmp 127), (.tmp 129), (.tmp 130), (.tmp 131)], none⟩] [0, 1, 3, 8, 9, 14] none)
        (.region none [] [
          ⟨some 133, .mov (.tmp 14), none⟩,
          ⟨some 2, .mov (.tmp 133), none⟩] [0, 1, 2, 3, 8, 9] none)))))))))))))))))

def c86 : ACode :=
  .seq (.region none [] [
      ⟨some 8, .mov (.cst (.bool true)), none⟩] [0, 1, 2, 3, 8] none)
    (.seq (.region none [] [
      ⟨some 9, .mov (.cst (.bool true)), none⟩] [0, 1, 2, 3, 8, 9] none)
    (.block 0 (.loop l86_0_h l86_0_b)))

def a86 : AFunc := ⟨4, c86, []⟩

def an86 : List RAnn := [
  { id := 0, live := [0, 1, 2, 3, 8] },
  { id := 1, live := [0, 1, 2, 3, 8, 9] },
  { id := 2, live := [0, 1, 2, 3, 8, 9, 10], hdr := [0, 1, 2, 3, 8, 9] },
  { id := 3, live := [0, 1, 2, 3, 8, 9, 10, 23] },
  { id := 4, ops := [(3, .mode .share)] },
  { id := 5, live := [0, 1, 2, 3, 8, 9, 10, 29] },
  { id := 6, ops := [(3, .mode .share)] },
  { id := 7, live := [0, 1, 2, 3, 8, 9, 10, 35] },
  { id := 8, live := [0, 1, 2, 3, 8, 9, 10], ops := [(3, .mode .share)] },
  { id := 9, live := [0, 1, 2, 3, 8, 9, 10] },
  { id := 10, live := [0, 1, 2, 3, 8, 9, 10, 11, 12], ops := [(3, .mode .share)] },
  { id := 11, live := [0, 1, 2, 3, 8, 9, 10, 11, 12, 50] },
  { id := 12, live := [0, 1, 2, 3, 8, 9, 10, 11], ops := [(3, .mode .share)] },
  { id := 13, live := [0, 1, 2, 3, 8, 9, 10, 11] },
  { id := 14, live := [0, 1, 2, 3, 8, 9, 10, 11, 12] },
  { id := 15, live := [0, 1, 2, 3, 8, 9, 10, 11, 68] },
  { id := 16, live := [0, 1, 2, 3, 8, 9, 10, 11, 72], ops := [(3, .mode .share)] },
  { id := 17, head := some 15, live := [0, 1, 2, 3, 8, 9, 10, 11, 87] },
  { id := 18, live := [0, 2, 3, 8, 9, 13], ops := [(4, .mode .share)] },
  { id := 19, live := [0, 1, 2, 3, 8, 9] },
  { id := 20, live := [0, 1, 2, 3, 10, 14, 15], ops := [(4, .mode .share)] },
  { id := 21, live := [0, 1, 2, 3, 9, 10, 14] },
  { id := 22, live := [0, 1, 2, 3, 9, 10, 14, 16, 17] },
  { id := 23, live := [0, 1, 2, 3, 9, 14, 16, 17, 18] },
  { id := 24, live := [0, 1, 2, 3, 9, 14, 16, 17, 18, 113] },
  { id := 25, live := [0, 1, 2, 3, 8, 9, 14] },
  { id := 26, live := [0, 2, 3, 8, 9, 14], ops := [(4, .mode .share)] },
  { id := 27, live := [0, 1, 2, 3, 8, 9] },
  { id := 28, live := [0, 1, 2, 3, 8, 9, 14] },
  { id := 29, live := [0, 1, 3, 8, 9, 14], ops := [(5, .mode .share)] },
  { id := 30, live := [0, 1, 2, 3, 8, 9] }]

theorem comp86 : compF Try.prog an86 Try.f86 = some a86 := by kernel_rfl

end AI
end Go.Proofs.Ytnakgkibjlcjlaa
