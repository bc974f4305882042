/- Printed by a program of mine: the functions, compiled; the kernel checks each against the given form. -/
import Derived.Test.YtdlkcancogpafaaGreatDoorSe
import Derived.Test.YtdlkcancogpafaaGreatDoorProg
import Derived.Test.YtdlkcancogpafaaGreatDoorAb
import Derived.KernelRfl
import Derived.Test.YtdlkcancogpafaaGreatDoorIxF
namespace Go.Proofs.YtdlkcancogpafaaGreatDoor
namespace AI
/- cmp.Compare[int] -/
def c67 : ACode :=
 .seq (.region none [] [
 op 4 (.mov (ci (0)))] [0, 1] none)
 (.seq (.region none [] [
 mv 7 0, op 8 (.call .pure 114 [(tm 7)]), mv 5 8] [0, 1, 5] none)
 (.seq (.region none [] [
 mv 9 1, op 10 (.call .pure 114 [(tm 9)]), mv 6 10] [0, 1, 5, 6] none)
 (.seq (.seq (.region none [] [
 mv 11 5] [0, 1, 6, 11] none)
 (.cond (tm 11) (.seq (.seq (.region none [] [
 mv 12 6] [12] none)
 (.cond (tm 12) (.seq (.region none [] [
 op 4 (.mov (ci (0)))] [4] none)
 (.ret))
 (.skip)))
 (.seq (.region none [] [
 op 4 (.mov (ci ((-1))))] [4] none)
 (.ret)))
 (.skip)))
 (.seq (.seq (.region none [] [
 mv 13 6] [0, 1, 13] none)
 (.cond (tm 13) (.seq (.region none [] [
 op 4 (.mov (ci (1)))] [4] none)
 (.ret))
 (.skip)))
 (.seq (.seq (.region none [] [
 mv 14 0, mv 15 1, op 16 (.bin .lss .int (tm 14) (tm 15))] [0, 1, 16] none)
 (.cond (tm 16) (.seq (.region none [] [
 op 4 (.mov (ci ((-1))))] [4] none)
 (.ret))
 (.skip)))
 (.seq (.seq (.region none [] [
 mv 17 0, mv 18 1, op 19 (.bin .gtr .int (tm 17) (tm 18))] [19] none)
 (.cond (tm 19) (.seq (.region none [] [
 op 4 (.mov (ci (1)))] [4] none)
 (.ret))
 (.skip)))
 (.seq (.region none [] [
 op 4 (.mov (ci (0)))] [4] none)
 (.ret))))))))

def a67 : AFunc := ⟨2, c67, [.tmp 4]⟩

def an67 : List RAnn := [
 { id := 0, live := [0, 1] },
 { id := 1, live := [0, 1, 5] },
 { id := 2, live := [0, 1, 5, 6] },
 { id := 3, live := [0, 1, 6, 11] },
 { id := 4, live := [12] },
 { id := 5, live := [4] },
 { id := 6, live := [4] },
 { id := 7, live := [0, 1, 13] },
 { id := 8, live := [4] },
 { id := 9, live := [0, 1, 16] },
 { id := 10, live := [4] },
 { id := 11, live := [19] },
 { id := 12, live := [4] },
 { id := 13, live := [4] }]

theorem comp67 : compF Tryz.prog an67 Tryz.f67 = some a67 := by kernel_rfl

/- cmp.Compare[string] -/
def c68 : ACode :=
 .seq (.region none [] [
 op 4 (.mov (ci (0)))] [0, 1] none)
 (.seq (.region none [] [
 mv 7 0, op 8 (.call .pure 115 [(tm 7)]), mv 5 8] [0, 1, 5] none)
 (.seq (.region none [] [
 mv 9 1, op 10 (.call .pure 115 [(tm 9)]), mv 6 10] [0, 1, 5, 6] none)
 (.seq (.seq (.region none [] [
 mv 11 5] [0, 1, 6, 11] none)
 (.cond (tm 11) (.seq (.seq (.region none [] [
 mv 12 6] [12] none)
 (.cond (tm 12) (.seq (.region none [] [
 op 4 (.mov (ci (0)))] [4] none)
 (.ret))
 (.skip)))
 (.seq (.region none [] [
 op 4 (.mov (ci ((-1))))] [4] none)
 (.ret)))
 (.skip)))
 (.seq (.seq (.region none [] [
 mv 13 6] [0, 1, 13] none)
 (.cond (tm 13) (.seq (.region none [] [
 op 4 (.mov (ci (1)))] [4] none)
 (.ret))
 (.skip)))
 (.seq (.seq (.region none [] [
 mv 14 0, mv 15 1, op 16 (.bin .lss .str (tm 14) (tm 15))] [0, 1, 16] none)
 (.cond (tm 16) (.seq (.region none [] [
 op 4 (.mov (ci ((-1))))] [4] none)
 (.ret))
 (.skip)))
 (.seq (.seq (.region none [] [
 mv 17 0, mv 18 1, op 19 (.bin .gtr .str (tm 17) (tm 18))] [19] none)
 (.cond (tm 19) (.seq (.region none [] [
 op 4 (.mov (ci (1)))] [4] none)
 (.ret))
 (.skip)))
 (.seq (.region none [] [
 op 4 (.mov (ci (0)))] [4] none)
 (.ret))))))))

def a68 : AFunc := ⟨2, c68, [.tmp 4]⟩

def an68 : List RAnn := [
 { id := 0, live := [0, 1] },
 { id := 1, live := [0, 1, 5] },
 { id := 2, live := [0, 1, 5, 6] },
 { id := 3, live := [0, 1, 6, 11] },
 { id := 4, live := [12] },
 { id := 5, live := [4] },
 { id := 6, live := [4] },
 { id := 7, live := [0, 1, 13] },
 { id := 8, live := [4] },
 { id := 9, live := [0, 1, 16] },
 { id := 10, live := [4] },
 { id := 11, live := [19] },
 { id := 12, live := [4] },
 { id := 13, live := [4] }]

theorem comp68 : compF Tryz.prog an68 Tryz.f68 = some a68 := by kernel_rfl

/- graphdb/graphdbref07.weigh -/
/-- loop 0 of function 72 -/
def l72_0_h : List Nat := [0, 1, 5]

def l72_0_b : ACode :=
 .seq (.seq (.region none [] [
 mv 6 5, mv 7 0, op 8 (.len .slice (tm 7)), op 9 (.bin .lss .int (tm 6) (tm 8)), mv 10 9, mg 11 1 10 true, ⟨some 12, .bin .geq .int (tm 11) (ci (0)), some (10, true)⟩, op 13 (.pick (tm 10) (tm 12) (.cst (.bool false)))] [0, 1, 5, 13] none)
 (.cond (tm 13) (.skip)
 (.exit 0)))
 (.seq (.block 1 (.region (some 16) [] [
 mv 16 0, mv 17 5, op 18 (.iaddr 6 (tm 16) (tm 17)), op 19 (.faddr 1 (tm 18)), op 20 (.load (some 5) (tm 19)), mv 21 1, mv 22 0, mv 23 5, op 24 (.iaddr 6 (tm 22) (tm 23)), op 25 (.faddr 0 (tm 24)), op 26 (.load none (tm 25)), op 27 (.len .str (tm 26)), op 28 (.bin .quo .int (tm 27) (ci (50))), op 29 (.bin .sub .int (tm 21) (tm 28)), op 30 (.call .pure 57 [(tm 20), (tm 29), (ci (12))]), mv 1 30] [0, 1, 5] none))
 (.region none [] [
 mv 14 5, op 15 (.bin .add .int (tm 14) (ci (1))), mv 5 15] [0, 1, 5] none))

def c72 : ACode :=
 .seq (.region none [] [
 op 4 (.mov (ci (0)))] [0, 1] none)
 (.seq (.seq (.region none [] [
 op 5 (.mov (ci (0)))] [0, 1, 5] none)
 (.block 0 (.loop l72_0_h l72_0_b)))
 (.seq (.region none [] [
 mv 31 1, mv 4 31] [4] none)
 (.ret)))

def a72 : AFunc := ⟨2, c72, [.tmp 4]⟩

def an72 : List RAnn := [
 { id := 0, live := [0, 1] },
 { id := 1, live := [0, 1, 5] },
 { id := 2, live := [0, 1, 5, 13], hdr := [0, 1, 5] },
 { id := 4, head := some 16, live := [0, 1, 5] },
 { id := 3, live := [0, 1, 5] },
 { id := 5, live := [4] }]

theorem comp72 : compF Tryz.prog an72 Tryz.f72 = some a72 := by kernel_rfl

/- graphdb/graph.parts -/
/-- loop 0 of function 73 -/
def l73_0_h : List Nat := [0, 1, 5, 18, 19, 20]

def l73_0_b : ACode :=
 .seq (.region none [] [
 op 21 (.bin .lss .int (tm 20) (tm 19))] [0, 1, 5, 18, 19, 20, 21] none)
 (.seq (.cond (tm 21) (.skip)
 (.exit 0))
 (.seq (.block 1 (.seq (.region none [] [
 op 22 (.iaddr 6 (tm 18) (tm 20)), op 23 (.load (some 6) (tm 22)), op 7 (.alloc 6 (.agg [.str [], .int .i64 0, .int .i64 0, .int .i64 0, .str [], .sl false []])), ⟨none, .store 6 (tm 7) (tm 23), none⟩] [0, 1, 5, 7, 18, 19, 20] none)
 (.region none [] [
 mv 24 5, op 25 (.faddr 0 (tm 7)), op 26 (.load none (tm 25)), op 27 (.lit false 1 (.str []) 1 [(0, (tm 26))]), op 28 (.append 1 16 (tm 24) (tm 27)), mv 5 28] [0, 1, 5, 18, 19, 20] none)))
 (.region none [] [
 op 29 (.bin .add .int (tm 20) (ci (1))), mv 20 29] [0, 1, 5, 18, 19, 20] (some 1))))

/-- loop 1 of function 73 -/
def l73_1_h : List Nat := [44, 45, 46]

def l73_1_b : ACode :=
 .seq (.region none [] [
 op 47 (.bin .lss .int (tm 46) (tm 45))] [44, 45, 46, 47] none)
 (.seq (.cond (tm 47) (.skip)
 (.exit 2))
 (.seq (.block 3 (.seq (.region none [] [
 op 48 (.iaddr 6 (tm 44) (tm 46)), op 49 (.load (some 6) (tm 48)), op 9 (.alloc 6 (.agg [.str [], .int .i64 0, .int .i64 0, .int .i64 0, .str [], .sl false []])), ⟨none, .store 6 (tm 9) (tm 49), none⟩] [9, 44, 45, 46] none)
 (.seq (.region none [] [
 op 50 (.faddr 1 (tm 9)), op 51 (.load (some 5) (tm 50)), op 52 (.call .pure 46 [(tm 51)]), op 53 (.un .not (tm 52))] [44, 45, 46, 53] none)
 (.cond (tm 53) (.seq (.region none [] [
 op 4 (.mov (ci (8)))] [4] none)
 (.ret))
 (.skip)))))
 (.region none [] [
 op 54 (.bin .add .int (tm 46) (ci (1))), mv 46 54] [44, 45, 46] (some 1))))

def c73 : ACode :=
 .seq (.region none [] [
 op 4 (.mov (ci (0)))] [0, 1] none)
 (.seq (.seq (.region none [] [
 mv 10 0, op 11 (.len .slice (tm 10)), op 12 (.bin .gtr .int (tm 11) (ci (8))), mv 13 12, mg 14 1 13 false, ⟨some 15, .len .slice (tm 14), some (13, false)⟩, ⟨some 16, .bin .gtr .int (tm 15) (ci (16)), some (13, false)⟩, op 17 (.pick (tm 13) (.cst (.bool true)) (tm 16))] [0, 1, 17] none)
 (.cond (tm 17) (.seq (.region none [] [
 op 4 (.mov (ci (4)))] [4] none)
 (.ret))
 (.skip)))
 (.seq (.region none [] [
 op 5 (.newown 1)] [0, 1, 5] none)
 (.seq (.seq (.region none [] [
 mv 18 1, op 19 (.len .slice (tm 18)), op 20 (.mov (ci (0)))] [0, 1, 5, 18, 19, 20] none)
 (.block 0 (.loop l73_0_h l73_0_b)))
 (.seq (.seq (.region none [] [
 mv 30 0, op 31 (.call .pure 117 [(tm 30), (.cst (.fn 118 []))]), mv 32 31, mg 33 5 32 false, ⟨some 34, .call .borrow 117 [(tm 33), (.cst (.fn 118 []))], some (32, false)⟩, op 35 (.pick (tm 32) (.cst (.bool true)) (tm 34))] [0, 1, 5, 35] none)
 (.cond (tm 35) (.seq (.region none [] [
 op 4 (.mov (ci (6)))] [4] none)
 (.ret))
 (.skip)))
 (.seq (.seq (.region none [] [
 mv 36 0, op 37 (.call .pure 119 [(tm 36)]), op 38 (.un .not (tm 37)), mv 39 38, mg 40 5 39 false, ⟨some 41, .call .borrow 119 [(tm 40)], some (39, false)⟩, ⟨some 42, .un .not (tm 41), some (39, false)⟩, op 43 (.pick (tm 39) (.cst (.bool true)) (tm 42))] [1, 43] none)
 (.cond (tm 43) (.seq (.region none [] [
 op 4 (.mov (ci (26)))] [4] none)
 (.ret))
 (.skip)))
 (.seq (.seq (.region none [] [
 mv 44 1, op 45 (.len .slice (tm 44)), op 46 (.mov (ci (0)))] [44, 45, 46] none)
 (.block 2 (.loop l73_1_h l73_1_b)))
 (.seq (.region none [] [
 op 4 (.mov (ci (0)))] [4] none)
 (.ret))))))))

def a73 : AFunc := ⟨2, c73, [.tmp 4]⟩

def an73 : List RAnn := [
 { id := 0, live := [0, 1] },
 { id := 1, live := [0, 1, 17] },
 { id := 2, live := [4] },
 { id := 3, live := [0, 1, 5], ops := [(0, .own)] },
 { id := 4, live := [0, 1, 5, 18, 19, 20] },
 { id := 5, live := [0, 1, 5, 18, 19, 20, 21], hdr := [0, 1, 5, 18, 19, 20] },
 { id := 6, live := [0, 1, 5, 7, 18, 19, 20] },
 { id := 7, live := [0, 1, 5, 18, 19, 20] },
 { id := 8, live := [0, 1, 5, 18, 19, 20], trunc := some 1 },
 { id := 9, live := [0, 1, 5, 35], ops := [(4, .mode .borrow)] },
 { id := 10, live := [4] },
 { id := 11, live := [1, 43], ops := [(5, .mode .borrow)] },
 { id := 12, live := [4] },
 { id := 13, live := [44, 45, 46] },
 { id := 14, live := [44, 45, 46, 47], hdr := [44, 45, 46] },
 { id := 15, live := [9, 44, 45, 46] },
 { id := 16, live := [44, 45, 46, 53] },
 { id := 17, live := [4] },
 { id := 18, live := [44, 45, 46], trunc := some 1 },
 { id := 19, live := [4] }]

theorem comp73 : compF Tryz.prog an73 Tryz.f73 = some a73 := by kernel_rfl

/- graphdb/graph.has -/
def c74 : ACode :=
 .seq (.region none [] [
 op 4 (.mov (.cst (.bool false)))] [0, 1] none)
 (.seq (.region none [] [
 mv 8 0, mv 9 1, op 10 (.call .pure 120 [(tm 8), (tm 9), (.cst (.fn 121 []))]), mv 7 10, op 11 (.ext (tm 7) 0), op 12 (.ext (tm 7) 1), mv 5 11, mv 6 12] [6] none)
 (.seq (.region none [] [
 mv 13 6, mv 4 13] [4] none)
 (.ret)))

def a74 : AFunc := ⟨2, c74, [.tmp 4]⟩

def an74 : List RAnn := [
 { id := 0, live := [0, 1] },
 { id := 1, live := [6] },
 { id := 2, live := [4] }]

theorem comp74 : compF Tryz.prog an74 Tryz.f74 = some a74 := by kernel_rfl

/- slices.Contains[[]string,string] -/
def c75 : ACode :=
 .seq (.region none [] [
 op 4 (.mov (.cst (.bool false)))] [0, 1] none)
 (.seq (.region none [] [
 mv 5 0, mv 6 1, op 7 (.call .pure 122 [(tm 5), (tm 6)]), op 8 (.bin .geq .int (tm 7) (ci (0))), mv 4 8] [4] none)
 (.ret))

def a75 : AFunc := ⟨2, c75, [.tmp 4]⟩

def an75 : List RAnn := [
 { id := 0, live := [0, 1] },
 { id := 1, live := [4] }]

theorem comp75 : compF Tryz.prog an75 Tryz.f75 = some a75 := by kernel_rfl

/- graphdb/graph.Labels -/
/-- loop 0 of function 76 -/
def l76_0_h : List Nat := [3, 7, 8, 9]

def l76_0_b : ACode :=
 .seq (.region none [] [
 op 10 (.bin .lss .int (tm 9) (tm 8))] [3, 7, 8, 9, 10] none)
 (.seq (.cond (tm 10) (.skip)
 (.exit 0))
 (.seq (.block 1 (.seq (.region none [] [
 op 11 (.iaddr 3 (tm 7) (tm 9)), op 12 (.load (some 3) (tm 11)), op 5 (.alloc 3 (.agg [.int .i64 0, .sl false [], .sl false []])), ⟨none, .store 3 (tm 5) (tm 12), none⟩] [3, 5, 7, 8, 9] none)
 (.region none [] [
 mv 13 3, op 14 (.faddr 1 (tm 5)), op 15 (.load none (tm 14)), op 16 (.append 1 16 (tm 13) (tm 15)), mv 3 16] [3, 7, 8, 9] none)))
 (.region none [] [
 op 17 (.bin .add .int (tm 9) (ci (1))), mv 9 17] [3, 7, 8, 9] (some 2))))

def c76 : ACode :=
 .seq (.region none [] [
 op 1 (.box 4 (tm 0)), op 2 (.mov (.cst (.sl false [])))] [1] none)
 (.seq (.region none [] [
 op 3 (.newown 1)] [1, 3] none)
 (.seq (.seq (.region none [] [
 op 6 (.faddr 0 (tm 1)), op 7 (.load none (tm 6)), op 8 (.len .slice (tm 7)), op 9 (.mov (ci (0)))] [3, 7, 8, 9] none)
 (.block 0 (.loop l76_0_h l76_0_b)))
 (.seq (.region none [] [
 mv 18 3, op 19 (.call .share 123 [(tm 18)])] [3] none)
 (.seq (.region none [] [
 mv 20 3, op 21 (.call .share 124 [(tm 20)]), mv 2 21] [2] none)
 (.ret)))))

def a76 : AFunc := ⟨1, c76, [.tmp 2]⟩

def an76 : List RAnn := [
 { id := 0, live := [1] },
 { id := 1, live := [1, 3], ops := [(0, .own)] },
 { id := 2, live := [3, 7, 8, 9] },
 { id := 3, live := [3, 7, 8, 9, 10], hdr := [3, 7, 8, 9] },
 { id := 4, live := [3, 5, 7, 8, 9] },
 { id := 5, live := [3, 7, 8, 9] },
 { id := 6, live := [3, 7, 8, 9], trunc := some 2 },
 { id := 7, live := [3], ops := [(1, .mode .share)] },
 { id := 8, live := [2], ops := [(1, .mode .share)] }]

theorem comp76 : compF Tryz.prog an76 Tryz.f76 = some a76 := by kernel_rfl

/- graphdb/graph.Types -/
/-- loop 0 of function 77 -/
def l77_0_h : List Nat := [3, 7, 8, 9]

def l77_0_b : ACode :=
 .seq (.region none [] [
 op 10 (.bin .lss .int (tm 9) (tm 8))] [3, 7, 8, 9, 10] none)
 (.seq (.cond (tm 10) (.skip)
 (.exit 0))
 (.seq (.block 1 (.seq (.region none [] [
 op 11 (.iaddr 5 (tm 7) (tm 9)), op 12 (.load (some 5) (tm 11)), op 5 (.alloc 5 (.agg [.int .i64 0, .int .i64 0, .int .i64 0, .str [], .sl false []])), ⟨none, .store 5 (tm 5) (tm 12), none⟩] [3, 5, 7, 8, 9] none)
 (.region none [] [
 mv 13 3, op 14 (.faddr 3 (tm 5)), op 15 (.load none (tm 14)), op 16 (.lit false 1 (.str []) 1 [(0, (tm 15))]), op 17 (.append 1 16 (tm 13) (tm 16)), mv 3 17] [3, 7, 8, 9] none)))
 (.region none [] [
 op 18 (.bin .add .int (tm 9) (ci (1))), mv 9 18] [3, 7, 8, 9] (some 2))))

def c77 : ACode :=
 .seq (.region none [] [
 op 1 (.box 4 (tm 0)), op 2 (.mov (.cst (.sl false [])))] [1] none)
 (.seq (.region none [] [
 op 3 (.newown 1)] [1, 3] none)
 (.seq (.seq (.region none [] [
 op 6 (.faddr 1 (tm 1)), op 7 (.load none (tm 6)), op 8 (.len .slice (tm 7)), op 9 (.mov (ci (0)))] [3, 7, 8, 9] none)
 (.block 0 (.loop l77_0_h l77_0_b)))
 (.seq (.region none [] [
 mv 19 3, op 20 (.call .share 123 [(tm 19)])] [3] none)
 (.seq (.region none [] [
 mv 21 3, op 22 (.call .share 124 [(tm 21)]), mv 2 22] [2] none)
 (.ret)))))

def a77 : AFunc := ⟨1, c77, [.tmp 2]⟩

def an77 : List RAnn := [
 { id := 0, live := [1] },
 { id := 1, live := [1, 3], ops := [(0, .own)] },
 { id := 2, live := [3, 7, 8, 9] },
 { id := 3, live := [3, 7, 8, 9, 10], hdr := [3, 7, 8, 9] },
 { id := 4, live := [3, 5, 7, 8, 9] },
 { id := 5, live := [3, 7, 8, 9] },
 { id := 6, live := [3, 7, 8, 9], trunc := some 2 },
 { id := 7, live := [3], ops := [(1, .mode .share)] },
 { id := 8, live := [2], ops := [(1, .mode .share)] }]

theorem comp77 : compF Tryz.prog an77 Tryz.f77 = some a77 := by kernel_rfl

/- slices.ContainsFunc[[]graphdb/api.Node,graphdb/api.Node] -/
def c78 : ACode :=
 .seq (.region none [] [
 op 4 (.mov (.cst (.bool false)))] [0, 1] none)
 (.seq (.region none [] [
 mv 5 0, mv 6 1, op 7 (.call .pure 125 [(tm 5), (tm 6)]), op 8 (.bin .geq .int (tm 7) (ci (0))), mv 4 8] [4] none)
 (.ret))

def a78 : AFunc := ⟨2, c78, [.tmp 4]⟩

def an78 : List RAnn := [
 { id := 0, live := [0, 1] },
 { id := 1, live := [4] }]

theorem comp78 : compF Tryz.prog an78 Tryz.f78 = some a78 := by kernel_rfl

/- graphdb/evolve.taken$1 -/
def c79 : ACode :=
 .seq (.region none [] [
 op 2 (.box 3 (tm 0)), op 3 (.mov (.cst (.bool false)))] [1, 2] none)
 (.seq (.region none [] [
 op 4 (.load (some 3) (tm 2)), op 5 (.faddr 1 (tm 1)), op 6 (.load none (tm 5)), op 7 (.call .pure 80 [(tm 4), (tm 6)]), mv 8 7, ⟨some 9, .faddr 2 (tm 2), some (8, true)⟩, ⟨some 10, .load none (tm 9), some (8, true)⟩, ⟨some 11, .faddr 2 (tm 1), some (8, true)⟩, ⟨some 12, .load none (tm 11), some (8, true)⟩, ⟨some 13, .call .pure 81 [(tm 10), (tm 12)], some (8, true)⟩, op 14 (.pick (tm 8) (tm 13) (.cst (.bool false))), mv 15 14, ⟨some 16, .faddr 2 (tm 2), some (15, true)⟩, ⟨some 17, .load none (tm 16), some (15, true)⟩, ⟨some 18, .faddr 3 (tm 1), some (15, true)⟩, ⟨some 19, .load none (tm 18), some (15, true)⟩, ⟨some 20, .call .pure 81 [(tm 17), (tm 19)], some (15, true)⟩, op 21 (.pick (tm 15) (tm 20) (.cst (.bool false))), mv 3 21] [3] none)
 (.ret))

def a79 : AFunc := ⟨2, c79, [.tmp 3]⟩

def an79 : List RAnn := [
 { id := 0, live := [1, 2] },
 { id := 1, live := [3] }]

theorem comp79 : compF Tryz.prog an79 Tryz.f79 = some a79 := by kernel_rfl

/- graphdb/graph.HasLabel -/
def c80 : ACode :=
 .seq (.region none [] [
 op 2 (.box 3 (tm 0)), op 4 (.mov (.cst (.bool false)))] [1, 2] none)
 (.seq (.region none [] [
 op 5 (.faddr 1 (tm 2)), op 6 (.load none (tm 5)), mv 7 1, op 8 (.call .pure 75 [(tm 6), (tm 7)]), mv 4 8] [4] none)
 (.ret))

def a80 : AFunc := ⟨2, c80, [.tmp 4]⟩

def an80 : List RAnn := [
 { id := 0, live := [1, 2] },
 { id := 1, live := [4] }]

theorem comp80 : compF Tryz.prog an80 Tryz.f80 = some a80 := by kernel_rfl

/- graphdb/evolve.has -/
def c81 : ACode :=
 .seq (.region none [] [
 op 4 (.mov (.cst (.bool false)))] [0, 1] none)
 (.seq (.region none [] [
 mv 5 0, mv 6 1, op 7 (.call .pure 83 [(tm 5), (tm 6)]), op 8 (.field 0 none (tm 7)), op 9 (.bin .neq .int (tm 8) (ci (0))), mv 4 9] [4] none)
 (.ret))

def a81 : AFunc := ⟨2, c81, [.tmp 4]⟩

def an81 : List RAnn := [
 { id := 0, live := [0, 1] },
 { id := 1, live := [4] }]

theorem comp81 : compF Tryz.prog an81 Tryz.f81 = some a81 := by kernel_rfl

/- graphdb/evolve.set -/
def c82 : ACode :=
 .seq (.region none [] [
 op 5 (.box 5 (tm 2)), op 6 (.alloc 10 (.agg [.int .i64 0, .int .i64 0, .int .i64 0, .int .i64 0, .str [], .int .i64 0, .int .i64 0, .int .i64 0, .str [], .sl false []]))] [0, 1, 5, 6] none)
 (.seq (.region none [] [
 mv 7 0, mv 8 1, op 9 (.load (some 5) (tm 5)), op 10 (.build [.int .i64 0, .int .i64 0, .int .i64 0, .int .i64 0, .str [], .int .i64 0, .int .i64 0, .int .i64 0, .str [], .sl false []] [(0, 1, (ci (5))), (1, 1, (tm 7)), (4, 1, (tm 8)), (5, 5, (tm 9))]), ⟨none, .store 10 (tm 6) (tm 10), none⟩] [6] none)
 (.ret))

def a82 : AFunc := ⟨3, c82, [.cell 6 (some 10)]⟩

def an82 : List RAnn := [
 { id := 0, live := [0, 1, 5, 6] },
 { id := 1, live := [6] }]

theorem comp82 : compF Tryz.prog an82 Tryz.f82 = some a82 := by kernel_rfl

/- graphdb/graph.Prop -/
/-- loop 0 of function 83 -/
def l83_0_h : List Nat := [1, 4, 7, 8, 9]

def l83_0_b : ACode :=
 .seq (.region none [] [
 op 10 (.bin .lss .int (tm 9) (tm 8))] [1, 4, 7, 8, 9, 10] none)
 (.seq (.cond (tm 10) (.skip)
 (.exit 0))
 (.seq (.block 1 (.seq (.region none [] [
 op 11 (.iaddr 6 (tm 7) (tm 9)), op 12 (.load (some 6) (tm 11)), op 6 (.alloc 6 (.agg [.str [], .int .i64 0, .int .i64 0, .int .i64 0, .str [], .sl false []])), ⟨none, .store 6 (tm 6) (tm 12), none⟩] [1, 4, 6, 7, 8, 9] none)
 (.seq (.region none [] [
 op 13 (.faddr 0 (tm 6)), op 14 (.load none (tm 13)), mv 15 1, op 16 (.bin .eql .str (tm 14) (tm 15))] [1, 4, 6, 7, 8, 9, 16] none)
 (.cond (tm 16) (.seq (.region none [] [
 op 17 (.faddr 1 (tm 6)), op 18 (.load (some 5) (tm 17)), op 19 (.call .pure 126 [(tm 18)]), ⟨none, .store 5 (tm 4) (tm 19), none⟩] [4] none)
 (.ret))
 (.skip)))))
 (.region none [] [
 op 20 (.bin .add .int (tm 9) (ci (1))), mv 9 20] [1, 4, 7, 8, 9] (some 1))))

def c83 : ACode :=
 .seq (.region none [] [
 op 4 (.alloc 5 (.agg [.int .i64 0, .int .i64 0, .int .i64 0, .str [], .sl false []]))] [0, 1, 4] none)
 (.seq (.seq (.region none [] [
 mv 7 0, op 8 (.len .slice (tm 7)), op 9 (.mov (ci (0)))] [1, 4, 7, 8, 9] none)
 (.block 0 (.loop l83_0_h l83_0_b)))
 (.seq (.region none [] [
 op 21 (.call .pure 44 []), ⟨none, .store 5 (tm 4) (tm 21), none⟩] [4] none)
 (.ret)))

def a83 : AFunc := ⟨2, c83, [.cell 4 (some 5)]⟩

def an83 : List RAnn := [
 { id := 0, live := [0, 1, 4] },
 { id := 1, live := [1, 4, 7, 8, 9] },
 { id := 2, live := [1, 4, 7, 8, 9, 10], hdr := [1, 4, 7, 8, 9] },
 { id := 3, live := [1, 4, 6, 7, 8, 9] },
 { id := 4, live := [1, 4, 6, 7, 8, 9, 16] },
 { id := 5, live := [4] },
 { id := 6, live := [1, 4, 7, 8, 9], trunc := some 1 },
 { id := 7, live := [4] }]

theorem comp83 : compF Tryz.prog an83 Tryz.f83 = some a83 := by kernel_rfl

/- graphdb/graphdbref07.node -/
def c84 : ACode :=
 .seq (.region none [] [
 op 2 (.box 4 (tm 0)), op 4 (.mov (ci (0)))] [1, 2] none)
 (.seq (.region none [] [
 op 6 (.faddr 0 (tm 2)), op 7 (.load none (tm 6)), mv 8 1, op 9 (.iaddr 3 (tm 7) (tm 8)), op 10 (.load (some 3) (tm 9)), op 5 (.alloc 3 (.agg [.int .i64 0, .sl false [], .sl false []])), ⟨none, .store 3 (tm 5) (tm 10), none⟩] [1, 2, 5] none)
 (.seq (.seq (.region (some 14) [] [
 mv 11 1, op 12 (.bin .gtr .int (tm 11) (ci (0))), mv 13 12, ⟨some 14, .faddr 0 (tm 5), some (13, true)⟩, ⟨some 15, .load none (tm 14), some (13, true)⟩, ⟨some 16, .faddr 0 (tm 2), some (13, true)⟩, ⟨some 17, .load none (tm 16), some (13, true)⟩, mg 18 1 13 true, ⟨some 19, .bin .sub .int (tm 18) (ci (1)), some (13, true)⟩, ⟨some 20, .iaddr 3 (tm 17) (tm 19), some (13, true)⟩, ⟨some 21, .faddr 0 (tm 20), some (13, true)⟩, ⟨some 22, .load none (tm 21), some (13, true)⟩, ⟨some 23, .bin .leq .int (tm 15) (tm 22), some (13, true)⟩, op 24 (.pick (tm 13) (tm 23) (.cst (.bool false)))] [2, 5, 24] none)
 (.cond (tm 24) (.seq (.region none [] [
 op 4 (.mov (ci (26)))] [4] none)
 (.ret))
 (.skip)))
 (.seq (.seq (.region none [] [
 op 25 (.faddr 0 (tm 5)), op 26 (.load none (tm 25)), op 27 (.bin .lss .int (tm 26) (ci (1))), mv 28 27, ⟨some 29, .faddr 0 (tm 5), some (28, false)⟩, ⟨some 30, .load none (tm 29), some (28, false)⟩, ⟨some 31, .faddr 2 (tm 2), some (28, false)⟩, ⟨some 32, .load none (tm 31), some (28, false)⟩, ⟨some 33, .bin .geq .int (tm 30) (tm 32), some (28, false)⟩, op 34 (.pick (tm 28) (.cst (.bool true)) (tm 33))] [5, 34] none)
 (.cond (tm 34) (.seq (.region none [] [
 op 4 (.mov (ci (1)))] [4] none)
 (.ret))
 (.skip)))
 (.seq (.region none [] [
 op 35 (.faddr 1 (tm 5)), op 36 (.load none (tm 35)), op 37 (.faddr 2 (tm 5)), op 38 (.load none (tm 37)), op 39 (.call .pure 127 [(tm 36), (tm 38)]), mv 4 39] [4] none)
 (.ret)))))

def a84 : AFunc := ⟨2, c84, [.tmp 4]⟩

def an84 : List RAnn := [
 { id := 0, live := [1, 2] },
 { id := 1, live := [1, 2, 5] },
 { id := 2, head := some 14, live := [2, 5, 24] },
 { id := 3, live := [4] },
 { id := 4, live := [5, 34] },
 { id := 5, live := [4] },
 { id := 6, live := [4] }]

theorem comp84 : compF Tryz.prog an84 Tryz.f84 = some a84 := by kernel_rfl

/- graphdb/graphdbref07.edge -/
def c85 : ACode :=
 .seq (.region none [] [
 op 2 (.box 4 (tm 0)), op 4 (.mov (ci (0)))] [1, 2] none)
 (.seq (.region none [] [
 op 10 (.faddr 1 (tm 2)), op 11 (.load none (tm 10)), mv 12 1, op 13 (.iaddr 5 (tm 11) (tm 12)), op 14 (.load (some 5) (tm 13)), op 5 (.alloc 5 (.agg [.int .i64 0, .int .i64 0, .int .i64 0, .str [], .sl false []])), ⟨none, .store 5 (tm 5) (tm 14), none⟩] [1, 2, 5] none)
 (.seq (.seq (.region (some 14) [] [
 mv 15 1, op 16 (.bin .gtr .int (tm 15) (ci (0))), mv 17 16, ⟨some 18, .faddr 0 (tm 5), some (17, true)⟩, ⟨some 19, .load none (tm 18), some (17, true)⟩, ⟨some 20, .faddr 1 (tm 2), some (17, true)⟩, ⟨some 21, .load none (tm 20), some (17, true)⟩, mg 22 1 17 true, ⟨some 23, .bin .sub .int (tm 22) (ci (1)), some (17, true)⟩, ⟨some 24, .iaddr 5 (tm 21) (tm 23), some (17, true)⟩, ⟨some 25, .faddr 0 (tm 24), some (17, true)⟩, ⟨some 26, .load none (tm 25), some (17, true)⟩, ⟨some 27, .bin .leq .int (tm 19) (tm 26), some (17, true)⟩, op 28 (.pick (tm 17) (tm 27) (.cst (.bool false)))] [2, 5, 28] none)
 (.cond (tm 28) (.seq (.region none [] [
 op 4 (.mov (ci (26)))] [4] none)
 (.ret))
 (.skip)))
 (.seq (.seq (.region none [] [
 op 29 (.faddr 0 (tm 5)), op 30 (.load none (tm 29)), op 31 (.bin .lss .int (tm 30) (ci (1))), mv 32 31, ⟨some 33, .faddr 0 (tm 5), some (32, false)⟩, ⟨some 34, .load none (tm 33), some (32, false)⟩, ⟨some 35, .faddr 3 (tm 2), some (32, false)⟩, ⟨some 36, .load none (tm 35), some (32, false)⟩, ⟨some 37, .bin .geq .int (tm 34) (tm 36), some (32, false)⟩, op 38 (.pick (tm 32) (.cst (.bool true)) (tm 37))] [2, 5, 38] none)
 (.cond (tm 38) (.seq (.region none [] [
 op 4 (.mov (ci (1)))] [4] none)
 (.ret))
 (.skip)))
 (.seq (.region none [] [
 op 40 (.load (some 4) (tm 2)), op 41 (.faddr 1 (tm 5)), op 42 (.load none (tm 41)), op 43 (.call .pure 128 [(tm 40), (tm 42)]), mv 39 43, op 44 (.ext (tm 39) 0), op 45 (.ext (tm 39) 1), op 6 (.alloc 3 (.agg [.int .i64 0, .sl false [], .sl false []])), ⟨none, .store 3 (tm 6) (tm 44), none⟩, mv 7 45] [2, 5, 7] none)
 (.seq (.region none [] [
 op 47 (.load (some 4) (tm 2)), op 48 (.faddr 2 (tm 5)), op 49 (.load none (tm 48)), op 50 (.call .pure 128 [(tm 47), (tm 49)]), mv 46 50, op 51 (.ext (tm 46) 0), op 52 (.ext (tm 46) 1), op 8 (.alloc 3 (.agg [.int .i64 0, .sl false [], .sl false []])), ⟨none, .store 3 (tm 8) (tm 51), none⟩, mv 9 52] [5, 7, 9] none)
 (.seq (.seq (.region none [] [
 mv 53 7, op 54 (.un .not (tm 53)), mv 55 54, mg 56 9 55 false, ⟨some 57, .un .not (tm 56), some (55, false)⟩, op 58 (.pick (tm 55) (.cst (.bool true)) (tm 57))] [5, 58] none)
 (.cond (tm 58) (.seq (.region none [] [
 op 4 (.mov (ci (10)))] [4] none)
 (.ret))
 (.skip)))
 (.seq (.seq (.region none [] [
 op 59 (.faddr 3 (tm 5)), op 60 (.load none (tm 59)), op 61 (.call .pure 50 [(tm 60)]), op 62 (.un .not (tm 61))] [5, 62] none)
 (.cond (tm 62) (.seq (.region none [] [
 op 4 (.mov (ci (6)))] [4] none)
 (.ret))
 (.skip)))
 (.seq (.region none [] [
 op 63 (.faddr 4 (tm 5)), op 64 (.load none (tm 63)), op 65 (.call .pure 127 [(.cst (.sl false [])), (tm 64)]), mv 4 65] [4] none)
 (.ret)))))))))

def a85 : AFunc := ⟨2, c85, [.tmp 4]⟩

def an85 : List RAnn := [
 { id := 0, live := [1, 2] },
 { id := 1, live := [1, 2, 5] },
 { id := 2, head := some 14, live := [2, 5, 28] },
 { id := 3, live := [4] },
 { id := 4, live := [2, 5, 38] },
 { id := 5, live := [4] },
 { id := 6, live := [2, 5, 7] },
 { id := 7, live := [5, 7, 9] },
 { id := 8, live := [5, 58] },
 { id := 9, live := [4] },
 { id := 10, live := [5, 62] },
 { id := 11, live := [4] },
 { id := 12, live := [4] }]

theorem comp85 : compF Tryz.prog an85 Tryz.f85 = some a85 := by kernel_rfl

/- graphdb/graphdbref07.HasLabel -/
def c86 : ACode :=
 .seq (.region none [] [
 op 2 (.box 3 (tm 0)), op 4 (.mov (.cst (.bool false)))] [1, 2] none)
 (.seq (.region none [] [
 op 5 (.faddr 1 (tm 2)), op 6 (.load none (tm 5)), mv 7 1, op 8 (.call .pure 129 [(tm 6), (tm 7)]), mv 4 8] [4] none)
 (.ret))

def a86 : AFunc := ⟨2, c86, [.tmp 4]⟩

def an86 : List RAnn := [
 { id := 0, live := [1, 2] },
 { id := 1, live := [4] }]

theorem comp86 : compF Tryz.prog an86 Tryz.f86 = some a86 := by kernel_rfl

/- graphdb/graphdbref55.has -/
/-- loop 0 of function 87 -/
def l87_0_h : List Nat := [1, 2, 5]

def l87_0_b : ACode :=
 .seq (.seq (.region none [] [
 mv 6 5, op 7 (.faddr 2 (tm 2)), op 8 (.load none (tm 7)), op 9 (.len .slice (tm 8)), op 10 (.bin .lss .int (tm 6) (tm 9))] [1, 2, 5, 10] none)
 (.cond (tm 10) (.skip)
 (.exit 0)))
 (.seq (.block 1 (.seq (.region none [] [
 op 13 (.faddr 2 (tm 2)), op 14 (.load none (tm 13)), mv 15 5, op 16 (.iaddr 6 (tm 14) (tm 15)), op 17 (.faddr 0 (tm 16)), op 18 (.load none (tm 17)), mv 19 1, op 20 (.bin .eql .str (tm 18) (tm 19))] [1, 2, 5, 20] none)
 (.cond (tm 20) (.seq (.region none [] [
 op 4 (.mov (.cst (.bool true)))] [4] none)
 (.ret))
 (.skip))))
 (.region none [] [
 mv 11 5, op 12 (.bin .add .int (tm 11) (ci (1))), mv 5 12] [1, 2, 5] none))

def c87 : ACode :=
 .seq (.region none [] [
 op 2 (.box 3 (tm 0)), op 4 (.mov (.cst (.bool false)))] [1, 2] none)
 (.seq (.seq (.region none [] [
 op 5 (.mov (ci (0)))] [1, 2, 5] none)
 (.block 0 (.loop l87_0_h l87_0_b)))
 (.seq (.region none [] [
 op 4 (.mov (.cst (.bool false)))] [4] none)
 (.ret)))

def a87 : AFunc := ⟨2, c87, [.tmp 4]⟩

def an87 : List RAnn := [
 { id := 0, live := [1, 2] },
 { id := 1, live := [1, 2, 5] },
 { id := 2, live := [1, 2, 5, 10], hdr := [1, 2, 5] },
 { id := 4, live := [1, 2, 5, 20] },
 { id := 5, live := [4] },
 { id := 3, live := [1, 2, 5] },
 { id := 6, live := [4] }]

theorem comp87 : compF Tryz.prog an87 Tryz.f87 = some a87 := by kernel_rfl

/- graphdb/graphdbref07.Prop -/
/-- loop 0 of function 88 -/
def l88_0_h : List Nat := [0, 1, 4, 5]

def l88_0_b : ACode :=
 .seq (.seq (.region none [] [
 mv 6 5, mv 7 0, op 8 (.len .slice (tm 7)), op 9 (.bin .lss .int (tm 6) (tm 8))] [0, 1, 4, 5, 9] none)
 (.cond (tm 9) (.skip)
 (.exit 0)))
 (.seq (.block 1 (.seq (.region none [] [
 mv 12 0, mv 13 5, op 14 (.iaddr 6 (tm 12) (tm 13)), op 15 (.faddr 0 (tm 14)), op 16 (.load none (tm 15)), mv 17 1, op 18 (.bin .eql .str (tm 16) (tm 17))] [0, 1, 4, 5, 18] none)
 (.cond (tm 18) (.seq (.region none [] [
 mv 19 0, mv 20 5, op 21 (.iaddr 6 (tm 19) (tm 20)), op 22 (.faddr 1 (tm 21)), op 23 (.load (some 5) (tm 22)), ⟨none, .store 5 (tm 4) (tm 23), none⟩] [4] none)
 (.ret))
 (.skip))))
 (.region none [] [
 mv 10 5, op 11 (.bin .add .int (tm 10) (ci (1))), mv 5 11] [0, 1, 4, 5] none))

def c88 : ACode :=
 .seq (.region none [] [
 op 4 (.alloc 5 (.agg [.int .i64 0, .int .i64 0, .int .i64 0, .str [], .sl false []]))] [0, 1, 4] none)
 (.seq (.seq (.region none [] [
 op 5 (.mov (ci (0)))] [0, 1, 4, 5] none)
 (.block 0 (.loop l88_0_h l88_0_b)))
 (.seq (.region none [] [
 op 24 (.build [.int .i64 0, .int .i64 0, .int .i64 0, .str [], .sl false []] []), ⟨none, .store 5 (tm 4) (tm 24), none⟩] [4] none)
 (.ret)))

def a88 : AFunc := ⟨2, c88, [.cell 4 (some 5)]⟩

def an88 : List RAnn := [
 { id := 0, live := [0, 1, 4] },
 { id := 1, live := [0, 1, 4, 5] },
 { id := 2, live := [0, 1, 4, 5, 9], hdr := [0, 1, 4, 5] },
 { id := 4, live := [0, 1, 4, 5, 18] },
 { id := 5, live := [4] },
 { id := 3, live := [0, 1, 4, 5] },
 { id := 6, live := [4] }]

theorem comp88 : compF Tryz.prog an88 Tryz.f88 = some a88 := by kernel_rfl

/- graphdb/value.Valid -/
def c89 : ACode :=
 .seq (.region none [] [
 op 1 (.box 5 (tm 0)), op 2 (.mov (.cst (.bool false)))] [1] none)
 (.seq (.region none [] [
 op 3 (.load (some 5) (tm 1)), op 4 (.call .pure 130 [(tm 3), (ci (0))]), mv 2 4] [2] none)
 (.ret))

def a89 : AFunc := ⟨1, c89, [.tmp 2]⟩

def an89 : List RAnn := [
 { id := 0, live := [1] },
 { id := 1, live := [2] }]

theorem comp89 : compF Tryz.prog an89 Tryz.f89 = some a89 := by kernel_rfl

/- graphdb/value.order -/
def c90 : ACode :=
 .seq (.region none [] [
 op 2 (.box 5 (tm 0)), op 3 (.box 5 (tm 1)), op 4 (.mov (ci (0)))] [2, 3] none)
 (.seq (.seq (.region (some 6) [] [
 op 10 (.load (some 5) (tm 2)), op 11 (.call .pure 131 [(tm 10)]), op 12 (.load (some 5) (tm 3)), op 13 (.call .pure 131 [(tm 12)]), op 14 (.call .pure 67 [(tm 11), (tm 13)]), mv 5 14] [2, 3, 5] none)
 (.seq (.region none [] [
 mv 15 5, op 16 (.bin .neq .int (tm 15) (ci (0)))] [2, 3, 5, 16] none)
 (.cond (tm 16) (.seq (.region none [] [
 mv 17 5, mv 4 17] [4] none)
 (.ret))
 (.skip))))
 (.seq (.seq (.region none [] [
 op 18 (.load (some 5) (tm 2)), op 19 (.call .pure 131 [(tm 18)]), op 20 (.bin .eql .int (tm 19) (ci (2)))] [2, 3, 20] none)
 (.cond (tm 20) (.seq (.region none [] [
 op 22 (.load (some 5) (tm 2)), op 23 (.call .pure 132 [(tm 22)]), mv 21 23, op 24 (.ext (tm 21) 0), op 25 (.ext (tm 21) 1), op 6 (.alloc 2 (.agg [.int .i64 0, .int .i64 0])), ⟨none, .store 2 (tm 6) (tm 24), none⟩, mv 7 25] [3, 6] none)
 (.seq (.region none [] [
 op 27 (.load (some 5) (tm 3)), op 28 (.call .pure 132 [(tm 27)]), mv 26 28, op 29 (.ext (tm 26) 0), op 30 (.ext (tm 26) 1), op 8 (.alloc 2 (.agg [.int .i64 0, .int .i64 0])), ⟨none, .store 2 (tm 8) (tm 29), none⟩, mv 9 30] [6, 8] none)
 (.seq (.region none [] [
 op 31 (.load (some 2) (tm 6)), op 32 (.load (some 2) (tm 8)), op 33 (.call .pure 133 [(tm 31), (tm 32)]), mv 4 33] [4] none)
 (.ret))))
 (.skip)))
 (.seq (.region (some 18) [] [
 op 34 (.faddr 3 (tm 2)), op 35 (.load none (tm 34)), op 36 (.faddr 3 (tm 3)), op 37 (.load none (tm 36)), op 38 (.call .pure 68 [(tm 35), (tm 37)]), op 39 (.faddr 1 (tm 2)), op 40 (.load none (tm 39)), op 41 (.faddr 1 (tm 3)), op 42 (.load none (tm 41)), op 43 (.call .pure 67 [(tm 40), (tm 42)]), op 44 (.faddr 4 (tm 2)), op 45 (.load none (tm 44)), op 46 (.faddr 4 (tm 3)), op 47 (.load none (tm 46)), op 48 (.call .pure 91 [(tm 45), (tm 47), (.cst (.fn 90 []))]), op 49 (.lit false 1 (.int .i64 0) 3 [(0, (tm 38)), (1, (tm 43)), (2, (tm 48))]), op 50 (.call .pure 66 [(tm 49)]), mv 4 50] [4] none)
 (.ret))))

def a90 : AFunc := ⟨2, c90, [.tmp 4]⟩

def an90 : List RAnn := [
 { id := 0, live := [2, 3] },
 { id := 1, head := some 6, live := [2, 3, 5] },
 { id := 2, live := [2, 3, 5, 16] },
 { id := 3, live := [4] },
 { id := 4, live := [2, 3, 20] },
 { id := 5, live := [3, 6] },
 { id := 6, live := [6, 8] },
 { id := 7, live := [4] },
 { id := 8, head := some 18, live := [4] }]

theorem comp90 : compF Tryz.prog an90 Tryz.f90 = some a90 := by kernel_rfl

/- slices.CompareFunc[[]graphdb/api.Value,[]graphdb/api.Value,graphdb/api.Value,graphdb/api.Value] -/
/-- loop 0 of function 91 -/
def l91_0_h : List Nat := [0, 1, 2, 11, 12, 13]

def l91_0_b : ACode :=
 .seq (.region none [] [
 op 14 (.bin .lss .int (tm 13) (tm 12))] [0, 1, 2, 11, 12, 13, 14] none)
 (.seq (.cond (tm 14) (.skip)
 (.exit 0))
 (.seq (.block 1 (.seq (.region none [] [
 mv 15 13, op 16 (.iaddr 5 (tm 11) (tm 13)), op 17 (.load (some 5) (tm 16)), op 8 (.alloc 5 (.agg [.int .i64 0, .int .i64 0, .int .i64 0, .str [], .sl false []])), mv 7 15, ⟨none, .store 5 (tm 8) (tm 17), none⟩] [0, 1, 2, 7, 8, 11, 12, 13] none)
 (.seq (.seq (.region none [] [
 mv 18 7, mv 19 1, op 20 (.len .slice (tm 19)), op 21 (.bin .geq .int (tm 18) (tm 20))] [0, 1, 2, 7, 8, 11, 12, 13, 21] none)
 (.cond (tm 21) (.seq (.region none [] [
 op 6 (.mov (ci (1)))] [6] none)
 (.ret))
 (.skip)))
 (.seq (.region none [] [
 mv 22 1, mv 23 7, op 24 (.iaddr 5 (tm 22) (tm 23)), op 25 (.load (some 5) (tm 24)), op 9 (.alloc 5 (.agg [.int .i64 0, .int .i64 0, .int .i64 0, .str [], .sl false []])), ⟨none, .store 5 (tm 9) (tm 25), none⟩] [0, 1, 2, 8, 9, 11, 12, 13] none)
 (.seq (.region none [] [
 mv 26 2, op 27 (.load (some 5) (tm 8)), op 28 (.load (some 5) (tm 9)), op 29 (.callv .pure (tm 26) [(tm 27), (tm 28)]), mv 10 29] [0, 1, 2, 10, 11, 12, 13] none)
 (.seq (.region none [] [
 mv 30 10, op 31 (.bin .neq .int (tm 30) (ci (0)))] [0, 1, 2, 10, 11, 12, 13, 31] none)
 (.cond (tm 31) (.seq (.region none [] [
 mv 32 10, mv 6 32] [6] none)
 (.ret))
 (.skip))))))))
 (.region none [] [
 op 33 (.bin .add .int (tm 13) (ci (1))), mv 13 33] [0, 1, 2, 11, 12, 13] (some 0))))

def c91 : ACode :=
 .seq (.region none [] [
 op 6 (.mov (ci (0)))] [0, 1, 2] none)
 (.seq (.seq (.region none [] [
 mv 11 0, op 12 (.len .slice (tm 11)), op 13 (.mov (ci (0)))] [0, 1, 2, 11, 12, 13] none)
 (.block 0 (.loop l91_0_h l91_0_b)))
 (.seq (.seq (.region none [] [
 mv 34 0, op 35 (.len .slice (tm 34)), mv 36 1, op 37 (.len .slice (tm 36)), op 38 (.bin .lss .int (tm 35) (tm 37))] [38] none)
 (.cond (tm 38) (.seq (.region none [] [
 op 6 (.mov (ci ((-1))))] [6] none)
 (.ret))
 (.skip)))
 (.seq (.region none [] [
 op 6 (.mov (ci (0)))] [6] none)
 (.ret))))

def a91 : AFunc := ⟨3, c91, [.tmp 6]⟩

def an91 : List RAnn := [
 { id := 0, live := [0, 1, 2] },
 { id := 1, live := [0, 1, 2, 11, 12, 13] },
 { id := 2, live := [0, 1, 2, 11, 12, 13, 14], hdr := [0, 1, 2, 11, 12, 13] },
 { id := 3, live := [0, 1, 2, 7, 8, 11, 12, 13] },
 { id := 4, live := [0, 1, 2, 7, 8, 11, 12, 13, 21] },
 { id := 5, live := [6] },
 { id := 6, live := [0, 1, 2, 8, 9, 11, 12, 13] },
 { id := 7, live := [0, 1, 2, 10, 11, 12, 13] },
 { id := 8, live := [0, 1, 2, 10, 11, 12, 13, 31] },
 { id := 9, live := [6] },
 { id := 10, live := [0, 1, 2, 11, 12, 13], trunc := some 0 },
 { id := 11, live := [38] },
 { id := 12, live := [6] },
 { id := 13, live := [6] }]

theorem comp91 : compF Tryz.prog an91 Tryz.f91 = some a91 := by kernel_rfl

/- graphdb/graph.letter -/
def c92 : ACode :=
 .seq (.region none [] [
 op 2 (.mov (.cst (.bool false)))] [0] none)
 (.seq (.region none [] [
 mv 3 0, op 4 (.bin .geq .int (tm 3) (.cst (.int .u8 97))), mv 5 4, mg 6 0 5 true, ⟨some 7, .bin .leq .int (tm 6) (.cst (.int .u8 122)), some (5, true)⟩, op 8 (.pick (tm 5) (tm 7) (.cst (.bool false))), mv 9 8, mg 10 0 9 false, ⟨some 11, .bin .geq .int (tm 10) (.cst (.int .u8 65)), some (9, false)⟩, mg 12 11 9 false, mg 13 0 12 true, ⟨some 14, .bin .leq .int (tm 13) (.cst (.int .u8 90)), some (12, true)⟩, ⟨some 15, .pick (tm 12) (tm 14) (.cst (.bool false)), some (9, false)⟩, op 16 (.pick (tm 9) (.cst (.bool true)) (tm 15)), mv 2 16] [2] none)
 (.ret))

def a92 : AFunc := ⟨1, c92, [.tmp 2]⟩

def an92 : List RAnn := [
 { id := 0, live := [0] },
 { id := 1, live := [2] }]

theorem comp92 : compF Tryz.prog an92 Tryz.f92 = some a92 := by kernel_rfl

/- graphdb/schema.fields -/
def c93 : ACode :=
 .seq (.region none [] [
 op 2 (.alloc 3 (.agg [.bool false, .bool false, .bool false])), op 3 (.mov (.cst (.bool false)))] [0, 2] none)
 (.seq (.seq (.region none [] [
 mv 4 0] [2, 4] none)
 (.block 0 (.seq (.seq (.region none [] [
 op 6 (.bin .eql .int (tm 4) (ci (1))), mv 5 6] [2, 4, 5] none)
 (.cond (tm 5) (.skip)
 (.seq (.region none [] [
 op 7 (.bin .eql .int (tm 4) (ci (2))), mv 5 7] [2, 4, 5] none)
 (.cond (tm 5) (.skip)
 (.region none [] [
 op 8 (.bin .eql .int (tm 4) (ci (4))), mv 5 8] [2, 4, 5] none)))))
 (.cond (tm 5) (.seq (.region none [] [
 op 9 (.build [.bool false, .bool false, .bool false] [(0, 1, (.cst (.bool true)))]), ⟨none, .store 3 (tm 2) (tm 9), none⟩, op 3 (.mov (.cst (.bool true)))] [2, 3] none)
 (.ret))
 (.seq (.seq (.region none [] [
 op 11 (.bin .eql .int (tm 4) (ci (3))), mv 10 11] [2, 4, 10] none)
 (.cond (tm 10) (.skip)
 (.region none [] [
 op 12 (.bin .eql .int (tm 4) (ci (5))), mv 10 12] [2, 4, 10] none)))
 (.cond (tm 10) (.seq (.region none [] [
 op 13 (.build [.bool false, .bool false, .bool false] [(0, 1, (.cst (.bool true))), (1, 1, (.cst (.bool true)))]), ⟨none, .store 3 (tm 2) (tm 13), none⟩, op 3 (.mov (.cst (.bool true)))] [2, 3] none)
 (.ret))
 (.seq (.region none [] [
 op 15 (.bin .eql .int (tm 4) (ci (6))), mv 14 15] [2, 4, 14] none)
 (.cond (tm 14) (.seq (.region none [] [
 op 16 (.build [.bool false, .bool false, .bool false] [(2, 1, (.cst (.bool true)))]), ⟨none, .store 3 (tm 2) (tm 16), none⟩, op 3 (.mov (.cst (.bool true)))] [2, 3] none)
 (.ret))
 (.seq (.region none [] [
 op 18 (.bin .eql .int (tm 4) (ci (7))), mv 17 18] [2, 17] none)
 (.cond (tm 17) (.seq (.region none [] [
 op 19 (.build [.bool false, .bool false, .bool false] [(1, 1, (.cst (.bool true)))]), ⟨none, .store 3 (tm 2) (tm 19), none⟩, op 3 (.mov (.cst (.bool true)))] [2, 3] none)
 (.ret))
 (.skip)))))))))))
 (.seq (.region none [] [
 op 20 (.build [.bool false, .bool false, .bool false] []), ⟨none, .store 3 (tm 2) (tm 20), none⟩, op 3 (.mov (.cst (.bool false)))] [2, 3] none)
 (.ret)))

def a93 : AFunc := ⟨1, c93, [.cell 2 (some 3), .tmp 3]⟩

def an93 : List RAnn := [
 { id := 0, live := [0, 2] },
 { id := 1, live := [2, 4] },
 { id := 2, live := [2, 4, 5] },
 { id := 3, live := [2, 4, 5] },
 { id := 4, live := [2, 4, 5] },
 { id := 5, live := [2, 3] },
 { id := 6, live := [2, 4, 10] },
 { id := 7, live := [2, 4, 10] },
 { id := 8, live := [2, 3] },
 { id := 9, live := [2, 4, 14] },
 { id := 10, live := [2, 3] },
 { id := 11, live := [2, 17] },
 { id := 12, live := [2, 3] },
 { id := 13, live := [2, 3] }]

theorem comp93 : compF Tryz.prog an93 Tryz.f93 = some a93 := by kernel_rfl

/- graphdb/schema.kindText -/
def c94 : ACode :=
 .seq (.region none [] [
 op 2 (.mov (.cst (.str [])))] [0] none)
 (.seq (.seq (.region none [] [
 mv 3 0] [3] none)
 (.block 0 (.seq (.region none [] [
 op 5 (.bin .eql .int (tm 3) (ci (1))), mv 4 5] [3, 4] none)
 (.cond (tm 4) (.seq (.region none [] [
 op 2 (.mov (.cst (.str [98, 111, 111, 108])))] [2] none)
 (.ret))
 (.seq (.region none [] [
 op 7 (.bin .eql .int (tm 3) (ci (2))), mv 6 7] [3, 6] none)
 (.cond (tm 6) (.seq (.region none [] [
 op 2 (.mov (.cst (.str [105, 110, 116])))] [2] none)
 (.ret))
 (.seq (.region none [] [
 op 9 (.bin .eql .int (tm 3) (ci (4))), mv 8 9] [8] none)
 (.cond (tm 8) (.seq (.region none [] [
 op 2 (.mov (.cst (.str [115, 116, 114])))] [2] none)
 (.ret))
 (.skip)))))))))
 (.seq (.region none [] [
 op 2 (.mov (.cst (.str [])))] [2] none)
 (.ret)))

def a94 : AFunc := ⟨1, c94, [.tmp 2]⟩

def an94 : List RAnn := [
 { id := 0, live := [0] },
 { id := 1, live := [3] },
 { id := 2, live := [3, 4] },
 { id := 3, live := [2] },
 { id := 4, live := [3, 6] },
 { id := 5, live := [2] },
 { id := 6, live := [8] },
 { id := 7, live := [2] },
 { id := 8, live := [2] }]

theorem comp94 : compF Tryz.prog an94 Tryz.f94 = some a94 := by kernel_rfl

/- graphdb/graphdbref04.Order -/
def c95 : ACode :=
 .seq (.region none [] [
 op 2 (.box 5 (tm 0)), op 3 (.box 5 (tm 1)), op 4 (.mov (ci (0)))] [2, 3] none)
 (.seq (.region (some 6) [] [
 op 12 (.load (some 5) (tm 2)), op 13 (.call .pure 98 [(tm 12)]), op 14 (.load (some 5) (tm 3)), op 15 (.call .pure 98 [(tm 14)]), mv 5 13, mv 6 15] [2, 3, 5, 6] none)
 (.seq (.seq (.region none [] [
 mv 16 5, mv 17 6, op 18 (.bin .neq .bool (tm 16) (tm 17))] [2, 3, 5, 18] none)
 (.cond (tm 18) (.seq (.region none [] [
 mv 19 5, op 20 (.call .pure 134 [(tm 19)]), op 21 (.bin .sub .int (ci (1)) (tm 20)), mv 4 21] [4] none)
 (.ret))
 (.skip)))
 (.seq (.seq (.region none [] [
 mv 22 5, op 23 (.un .not (tm 22))] [2, 3, 23] none)
 (.cond (tm 23) (.seq (.region none [] [
 op 24 (.load (some 5) (tm 2)), op 25 (.load (some 5) (tm 3)), op 26 (.call .pure 135 [(tm 24), (tm 25)]), mv 4 26] [4] none)
 (.ret))
 (.skip)))
 (.seq (.seq (.region (some 8) [] [
 op 27 (.faddr 0 (tm 2)), op 28 (.load none (tm 27)), op 29 (.call .pure 137 [(tm 28)]), op 30 (.faddr 0 (tm 3)), op 31 (.load none (tm 30)), op 32 (.call .pure 137 [(tm 31)]), op 33 (.call .pure 136 [(tm 29), (tm 32)]), mv 7 33] [2, 3, 7] none)
 (.seq (.region none [] [
 mv 34 7, op 35 (.bin .neq .int (tm 34) (ci (0)))] [2, 3, 7, 35] none)
 (.cond (tm 35) (.seq (.region none [] [
 mv 36 7, mv 4 36] [4] none)
 (.ret))
 (.skip))))
 (.seq (.region none [] [
 op 38 (.load (some 5) (tm 2)), op 39 (.call .pure 138 [(tm 38)]), mv 37 39, op 40 (.ext (tm 37) 0), op 41 (.ext (tm 37) 1), op 8 (.alloc 2 (.agg [.int .i64 0, .int .i64 0])), ⟨none, .store 2 (tm 8) (tm 40), none⟩, mv 9 41] [2, 3, 8, 9] none)
 (.seq (.region none [] [
 op 43 (.load (some 5) (tm 3)), op 44 (.call .pure 138 [(tm 43)]), mv 42 44, op 45 (.ext (tm 42) 0), op 46 (.ext (tm 42) 1), op 10 (.alloc 2 (.agg [.int .i64 0, .int .i64 0])), ⟨none, .store 2 (tm 10) (tm 45), none⟩, mv 11 46] [2, 3, 8, 9, 10] none)
 (.seq (.seq (.region none [] [
 mv 47 9] [2, 3, 8, 10, 47] none)
 (.cond (tm 47) (.seq (.region none [] [
 op 48 (.load (some 2) (tm 8)), op 49 (.load (some 2) (tm 10)), op 50 (.call .pure 139 [(tm 48), (tm 49)]), mv 4 50] [4] none)
 (.ret))
 (.skip)))
 (.seq (.region none [] [
 op 51 (.load (some 5) (tm 2)), op 52 (.load (some 5) (tm 3)), op 53 (.call .pure 135 [(tm 51), (tm 52)]), mv 4 53] [4] none)
 (.ret)))))))))

def a95 : AFunc := ⟨2, c95, [.tmp 4]⟩

def an95 : List RAnn := [
 { id := 0, live := [2, 3] },
 { id := 1, head := some 6, live := [2, 3, 5, 6] },
 { id := 2, live := [2, 3, 5, 18] },
 { id := 3, live := [4] },
 { id := 4, live := [2, 3, 23] },
 { id := 5, live := [4] },
 { id := 6, head := some 8, live := [2, 3, 7] },
 { id := 7, live := [2, 3, 7, 35] },
 { id := 8, live := [4] },
 { id := 9, live := [2, 3, 8, 9] },
 { id := 10, live := [2, 3, 8, 9, 10] },
 { id := 11, live := [2, 3, 8, 10, 47] },
 { id := 12, live := [4] },
 { id := 13, live := [4] }]

theorem comp95 : compF Tryz.prog an95 Tryz.f95 = some a95 := by kernel_rfl

/- graphdb/graphdbref04.Null -/
def c96 : ACode :=
 .seq (.region none [] [
 op 0 (.alloc 5 (.agg [.int .i64 0, .int .i64 0, .int .i64 0, .str [], .sl false []]))] [0] none)
 (.seq (.region none [] [
 op 1 (.build [.int .i64 0, .int .i64 0, .int .i64 0, .str [], .sl false []] []), ⟨none, .store 5 (tm 0) (tm 1), none⟩] [0] none)
 (.ret))

def a96 : AFunc := ⟨0, c96, [.cell 0 (some 5)]⟩

def an96 : List RAnn := [
 { id := 0, live := [0] },
 { id := 1, live := [0] }]

theorem comp96 : compF Tryz.prog an96 Tryz.f96 = some a96 := by kernel_rfl

/- graphdb/graphdbref07.letter -/
def c97 : ACode :=
 .seq (.region none [] [
 op 2 (.mov (.cst (.bool false)))] [0] none)
 (.seq (.region none [] [
 mv 3 0, op 4 (.bin .geq .int (tm 3) (.cst (.int .u8 97))), mv 5 4, mg 6 0 5 true, ⟨some 7, .bin .leq .int (tm 6) (.cst (.int .u8 122)), some (5, true)⟩, op 8 (.pick (tm 5) (tm 7) (.cst (.bool false))), mv 9 8, mg 10 0 9 false, ⟨some 11, .bin .geq .int (tm 10) (.cst (.int .u8 65)), some (9, false)⟩, mg 12 11 9 false, mg 13 0 12 true, ⟨some 14, .bin .leq .int (tm 13) (.cst (.int .u8 90)), some (12, true)⟩, ⟨some 15, .pick (tm 12) (tm 14) (.cst (.bool false)), some (9, false)⟩, op 16 (.pick (tm 9) (.cst (.bool true)) (tm 15)), mv 2 16] [2] none)
 (.ret))

def a97 : AFunc := ⟨1, c97, [.tmp 2]⟩

def an97 : List RAnn := [
 { id := 0, live := [0] },
 { id := 1, live := [2] }]

theorem comp97 : compF Tryz.prog an97 Tryz.f97 = some a97 := by kernel_rfl

/- graphdb/graphdbref04.Valid -/
def c98 : ACode :=
 .seq (.region none [] [
 op 1 (.box 5 (tm 0)), op 2 (.mov (.cst (.bool false)))] [1] none)
 (.seq (.region none [] [
 op 3 (.load (some 5) (tm 1)), op 4 (.call .pure 140 [(tm 3), (ci (8))]), mv 2 4] [2] none)
 (.ret))

def a98 : AFunc := ⟨1, c98, [.tmp 2]⟩

def an98 : List RAnn := [
 { id := 0, live := [1] },
 { id := 1, live := [2] }]

theorem comp98 : compF Tryz.prog an98 Tryz.f98 = some a98 := by kernel_rfl

/- graphdb/graphdbref09.number -/
def c99 : ACode :=
 .seq (.region none [] [
 op 1 (.box 6 (tm 0)), op 2 (.mov (.cst (.bool false)))] [1] none)
 (.seq (.seq (.region none [] [
 op 3 (.faddr 0 (tm 1)), op 4 (.load none (tm 3)), op 5 (.bin .eql .int (tm 4) (ci (3))), mv 6 5, ⟨some 7, .faddr 0 (tm 1), some (6, false)⟩, ⟨some 8, .load none (tm 7), some (6, false)⟩, ⟨some 9, .bin .eql .int (tm 8) (ci (5)), some (6, false)⟩, op 10 (.pick (tm 6) (.cst (.bool true)) (tm 9))] [1, 10] none)
 (.cond (tm 10) (.seq (.region none [] [
 op 11 (.faddr 1 (tm 1)), op 12 (.load none (tm 11)), op 13 (.bin .eql .int (tm 12) (ci (1))), mv 14 13, ⟨some 15, .faddr 1 (tm 1), some (14, false)⟩, ⟨some 16, .load none (tm 15), some (14, false)⟩, ⟨some 17, .bin .eql .int (tm 16) (ci (2)), some (14, false)⟩, op 18 (.pick (tm 14) (.cst (.bool true)) (tm 17)), mv 19 18, ⟨some 20, .faddr 1 (tm 1), some (19, false)⟩, ⟨some 21, .load none (tm 20), some (19, false)⟩, ⟨some 22, .bin .eql .int (tm 21) (ci (4)), some (19, false)⟩, op 23 (.pick (tm 19) (.cst (.bool true)) (tm 22)), mv 2 23] [2] none)
 (.ret))
 (.skip)))
 (.seq (.seq (.region none [] [
 op 24 (.faddr 0 (tm 1)), op 25 (.load none (tm 24)), op 26 (.bin .eql .int (tm 25) (ci (7)))] [1, 26] none)
 (.cond (tm 26) (.seq (.region none [] [
 op 27 (.faddr 1 (tm 1)), op 28 (.load none (tm 27)), op 29 (.bin .geq .int (tm 28) (ci (0))), mv 30 29, ⟨some 31, .faddr 1 (tm 1), some (30, true)⟩, ⟨some 32, .load none (tm 31), some (30, true)⟩, ⟨some 33, .bin .leq .int (tm 32) (ci (4000)), some (30, true)⟩, op 34 (.pick (tm 30) (tm 33) (.cst (.bool false))), mv 2 34] [2] none)
 (.ret))
 (.skip)))
 (.seq (.region none [] [
 op 35 (.faddr 1 (tm 1)), op 36 (.load none (tm 35)), op 37 (.bin .eql .int (tm 36) (ci (0))), mv 2 37] [2] none)
 (.ret))))

def a99 : AFunc := ⟨1, c99, [.tmp 2]⟩

def an99 : List RAnn := [
 { id := 0, live := [1] },
 { id := 1, live := [1, 10] },
 { id := 2, live := [2] },
 { id := 3, live := [1, 26] },
 { id := 4, live := [2] },
 { id := 5, live := [2] }]

theorem comp99 : compF Tryz.prog an99 Tryz.f99 = some a99 := by kernel_rfl

/- graphdb/graphdbref09.keyed -/
def c100 : ACode :=
 .seq (.region none [] [
 op 2 (.mov (.cst (.bool false)))] [0] none)
 (.seq (.region none [] [
 mv 3 0, op 4 (.bin .geq .int (tm 3) (ci (1))), mv 5 4, mg 6 0 5 true, ⟨some 7, .bin .leq .int (tm 6) (ci (5)), some (5, true)⟩, op 8 (.pick (tm 5) (tm 7) (.cst (.bool false))), mv 2 8] [2] none)
 (.ret))

def a100 : AFunc := ⟨1, c100, [.tmp 2]⟩

def an100 : List RAnn := [
 { id := 0, live := [0] },
 { id := 1, live := [2] }]

theorem comp100 : compF Tryz.prog an100 Tryz.f100 = some a100 := by kernel_rfl

/- graphdb/graphdbref09.name -/
/-- loop 0 of function 101 -/
def l101_0_h : List Nat := [0, 3]

def l101_0_b : ACode :=
 .seq (.seq (.region none [] [
 mv 13 3, mv 14 0, op 15 (.len .str (tm 14)), op 16 (.bin .lss .int (tm 13) (tm 15))] [0, 3, 16] none)
 (.cond (tm 16) (.skip)
 (.exit 0)))
 (.seq (.block 1 (.seq (.region none [] [
 mv 19 0, mv 20 3, op 21 (.sidx (tm 19) (tm 20)), op 22 (.bin .geq .int (tm 21) (.cst (.int .u8 97))), mv 23 22, mg 24 0 23 true, mg 25 3 23 true, ⟨some 26, .sidx (tm 24) (tm 25), some (23, true)⟩, ⟨some 27, .bin .leq .int (tm 26) (.cst (.int .u8 122)), some (23, true)⟩, op 28 (.pick (tm 23) (tm 27) (.cst (.bool false))), mv 29 28, mg 30 0 29 false, mg 31 3 29 false, ⟨some 32, .sidx (tm 30) (tm 31), some (29, false)⟩, ⟨some 33, .bin .geq .int (tm 32) (.cst (.int .u8 65)), some (29, false)⟩, mg 34 33 29 false, mg 35 0 34 true, mg 36 3 34 true, ⟨some 37, .sidx (tm 35) (tm 36), some (34, true)⟩, ⟨some 38, .bin .leq .int (tm 37) (.cst (.int .u8 90)), some (34, true)⟩, ⟨some 39, .pick (tm 34) (tm 38) (.cst (.bool false)), some (29, false)⟩, op 40 (.pick (tm 29) (.cst (.bool true)) (tm 39)), mv 4 40] [0, 3, 4] none)
 (.seq (.region none [] [
 mv 41 4, op 42 (.un .not (tm 41)), mv 43 42, mg 44 3 43 true, ⟨some 45, .bin .eql .int (tm 44) (ci (0)), some (43, true)⟩, mg 46 45 43 true, mg 47 0 46 false, mg 48 3 46 false, ⟨some 49, .sidx (tm 47) (tm 48), some (46, false)⟩, ⟨some 50, .bin .neq .int (tm 49) (.cst (.int .u8 95)), some (46, false)⟩, mg 51 50 46 false, mg 52 0 51 true, mg 53 3 51 true, ⟨some 54, .sidx (tm 52) (tm 53), some (51, true)⟩, ⟨some 55, .bin .lss .int (tm 54) (.cst (.int .u8 48)), some (51, true)⟩, mg 56 55 51 true, mg 57 0 56 false, mg 58 3 56 false, ⟨some 59, .sidx (tm 57) (tm 58), some (56, false)⟩, ⟨some 60, .bin .gtr .int (tm 59) (.cst (.int .u8 57)), some (56, false)⟩, ⟨some 61, .pick (tm 56) (.cst (.bool true)) (tm 60), some (51, true)⟩, ⟨some 62, .pick (tm 51) (tm 61) (.cst (.bool false)), some (46, false)⟩, ⟨some 63, .pick (tm 46) (.cst (.bool true)) (tm 62), some (43, true)⟩, op 64 (.pick (tm 43) (tm 63) (.cst (.bool false)))] [0, 3, 64] none)
 (.cond (tm 64) (.seq (.region none [] [
 op 2 (.mov (.cst (.bool false)))] [2] none)
 (.ret))
 (.skip)))))
 (.region none [] [
 mv 17 3, op 18 (.bin .add .int (tm 17) (ci (1))), mv 3 18] [0, 3] none))

def c101 : ACode :=
 .seq (.region none [] [
 op 2 (.mov (.cst (.bool false)))] [0] none)
 (.seq (.seq (.region none [] [
 mv 5 0, op 6 (.len .str (tm 5)), op 7 (.bin .lss .int (tm 6) (ci (1))), mv 8 7, mg 9 0 8 false, ⟨some 10, .len .str (tm 9), some (8, false)⟩, ⟨some 11, .bin .gtr .int (tm 10) (ci (20)), some (8, false)⟩, op 12 (.pick (tm 8) (.cst (.bool true)) (tm 11))] [0, 12] none)
 (.cond (tm 12) (.seq (.region none [] [
 op 2 (.mov (.cst (.bool false)))] [2] none)
 (.ret))
 (.skip)))
 (.seq (.seq (.region none [] [
 op 3 (.mov (ci (0)))] [0, 3] none)
 (.block 0 (.loop l101_0_h l101_0_b)))
 (.seq (.region none [] [
 op 2 (.mov (.cst (.bool true)))] [2] none)
 (.ret))))

def a101 : AFunc := ⟨1, c101, [.tmp 2]⟩

def an101 : List RAnn := [
 { id := 0, live := [0] },
 { id := 1, live := [0, 12] },
 { id := 2, live := [2] },
 { id := 3, live := [0, 3] },
 { id := 4, live := [0, 3, 16], hdr := [0, 3] },
 { id := 6, live := [0, 3, 4] },
 { id := 7, live := [0, 3, 64] },
 { id := 8, live := [2] },
 { id := 5, live := [0, 3] },
 { id := 9, live := [2] }]

theorem comp101 : compF Tryz.prog an101 Tryz.f101 = some a101 := by kernel_rfl

/- slices.insertionSortCmpFunc[graphdb/api.Rule] -/
/-- loop 0 of function 104 -/
def l104_0_h : List Nat := [0, 1, 2, 3, 8, 9]

def l104_0_b : ACode :=
 .seq (.seq (.region (some 17) [] [
 mv 18 9, mv 19 1, op 20 (.bin .gtr .int (tm 18) (tm 19)), mv 21 20, mg 22 3 21 true, mg 23 0 21 true, mg 24 9 21 true, ⟨some 25, .iaddr 6 (tm 23) (tm 24), some (21, true)⟩, ⟨some 26, .load (some 6) (tm 25), some (21, true)⟩, mg 27 0 21 true, mg 28 9 21 true, ⟨some 29, .bin .sub .int (tm 28) (ci (1)), some (21, true)⟩, ⟨some 30, .iaddr 6 (tm 27) (tm 29), some (21, true)⟩, ⟨some 31, .load (some 6) (tm 30), some (21, true)⟩, ⟨some 32, .callv .pure (tm 22) [(tm 26), (tm 31)], some (21, true)⟩, ⟨some 33, .bin .lss .int (tm 32) (ci (0)), some (21, true)⟩, op 34 (.pick (tm 21) (tm 33) (.cst (.bool false)))] [0, 1, 2, 3, 8, 9, 34] none)
 (.cond (tm 34) (.skip)
 (.exit 2)))
 (.seq (.block 3 (.par 18 [] [] [
 mv 37 0, mv 38 9, mv 39 0, mv 40 9, op 41 (.bin .sub .int (tm 40) (ci (1))), mv 42 0, mv 43 9, op 44 (.bin .sub .int (tm 43) (ci (1))), op 45 (.iaddr 6 (tm 42) (tm 44)), op 46 (.load (some 6) (tm 45)), mv 47 0, mv 48 9, op 49 (.iaddr 6 (tm 47) (tm 48)), op 50 (.load (some 6) (tm 49)), op 51 (.iaddr 6 (tm 37) (tm 38)), ⟨none, .store 6 (tm 51) (tm 46), none⟩, op 52 (.iaddr 6 (tm 39) (tm 41)), ⟨none, .store 6 (tm 52) (tm 50), none⟩] [0, 1, 2, 3, 8, 9] none))
 (.region none [] [
 mv 35 9, op 36 (.bin .sub .int (tm 35) (ci (1))), mv 9 36] [0, 1, 2, 3, 8, 9] none))

/-- loop 1 of function 104 -/
def l104_1_h : List Nat := [0, 1, 2, 3, 8]

def l104_1_b : ACode :=
 .seq (.seq (.region none [] [
 mv 12 8, mv 13 2, op 14 (.bin .lss .int (tm 12) (tm 13))] [0, 1, 2, 3, 8, 14] none)
 (.cond (tm 14) (.skip)
 (.exit 0)))
 (.seq (.block 1 (.seq (.region none [] [
 mv 17 8, mv 9 17] [0, 1, 2, 3, 8, 9] none)
 (.block 2 (.loop l104_0_h l104_0_b))))
 (.region none [] [
 mv 15 8, op 16 (.bin .add .int (tm 15) (ci (1))), mv 8 16] [0, 1, 2, 3, 8] none))

def c104 : ACode :=
 .seq (.region none [] [
 mv 10 1, op 11 (.bin .add .int (tm 10) (ci (1))), mv 8 11] [0, 1, 2, 3, 8] none)
 (.block 0 (.loop l104_1_h l104_1_b))

def a104 : AFunc := ⟨4, c104, []⟩

def an104 : List RAnn := [
 { id := 0, live := [0, 1, 2, 3, 8] },
 { id := 1, live := [0, 1, 2, 3, 8, 14], hdr := [0, 1, 2, 3, 8] },
 { id := 3, live := [0, 1, 2, 3, 8, 9] },
 { id := 4, head := some 17, live := [0, 1, 2, 3, 8, 9, 34], hdr := [0, 1, 2, 3, 8, 9] },
 { id := 6, head := some 18, live := [0, 1, 2, 3, 8, 9], par := true },
 { id := 5, live := [0, 1, 2, 3, 8, 9] },
 { id := 2, live := [0, 1, 2, 3, 8] }]

theorem comp104 : compF Tryz.prog an104 Tryz.f104 = some a104 := by kernel_rfl

/- math/bits.Len32 -/
def c112 : ACode :=
 .seq (.region none [] [
 op 2 (.mov (ci (0)))] [0, 2] none)
 (.seq (.seq (.region none [] [
 mv 3 0, op 4 (.bin .geq .int (tm 3) (.cst (.int .u32 65536)))] [0, 2, 4] none)
 (.cond (tm 4) (.seq (.region none [] [
 mv 5 0, op 6 (.bin .shr .int (tm 5) (.cst (.int .u64 16))), mv 0 6] [0] none)
 (.region none [] [
 op 2 (.mov (ci (16)))] [0, 2] none))
 (.skip)))
 (.seq (.seq (.region none [] [
 mv 7 0, op 8 (.bin .geq .int (tm 7) (.cst (.int .u32 256)))] [0, 2, 8] none)
 (.cond (tm 8) (.seq (.region none [] [
 mv 9 0, op 10 (.bin .shr .int (tm 9) (.cst (.int .u64 8))), mv 0 10] [0, 2] none)
 (.region none [] [
 mv 11 2, op 12 (.bin .add .int (tm 11) (ci (8))), mv 2 12] [0, 2] none))
 (.skip)))
 (.seq (.region none [] [
 mv 13 2, mv 14 0, op 15 (.conv .u8 (tm 14)), op 16 (.sidx (.cst (.str [0, 1, 2, 2, 3, 3, 3, 3, 4, 4, 4, 4, 4, 4, 4, 4, 5, 5, 5, 5, 5, 5, 5, 5, 5, 5, 5, 5, 5, 5, 5, 5, 6, 6, 6, 6, 6, 6, 6, 6, 6, 6, 6, 6, 6, 6, 6, 6, 6, 6, 6, 6, 6, 6, 6, 6, 6, 6, 6, 6, 6, 6, 6, 6, 7, 7, 7, 7, 7, 7, 7, 7, 7, 7, 7, 7, 7, 7, 7, 7, 7, 7, 7, 7, 7, 7, 7, 7, 7, 7, 7, 7, 7, 7, 7, 7, 7, 7, 7, 7, 7, 7, 7, 7, 7, 7, 7, 7, 7, 7, 7, 7, 7, 7, 7, 7, 7, 7, 7, 7, 7, 7, 7, 7, 7, 7, 7, 7, 8, 8, 8, 8, 8, 8, 8, 8, 8, 8, 8, 8, 8, 8, 8, 8, 8, 8, 8, 8, 8, 8, 8, 8, 8, 8, 8, 8, 8, 8, 8, 8, 8, 8, 8, 8, 8, 8, 8, 8, 8, 8, 8, 8, 8, 8, 8, 8, 8, 8, 8, 8, 8, 8, 8, 8, 8, 8, 8, 8, 8, 8, 8, 8, 8, 8, 8, 8, 8, 8, 8, 8, 8, 8, 8, 8, 8, 8, 8, 8, 8, 8, 8, 8, 8, 8, 8, 8, 8, 8, 8, 8, 8, 8, 8, 8, 8, 8, 8, 8, 8, 8, 8, 8, 8, 8, 8, 8, 8, 8, 8, 8, 8, 8, 8, 8, 8, 8, 8, 8, 8, 8, 8, 8, 8, 8, 8, 8])) (tm 15)), op 17 (.conv .i64 (tm 16)), op 18 (.bin .add .int (tm 13) (tm 17)), mv 2 18] [2] none)
 (.ret))))

def a112 : AFunc := ⟨1, c112, [.tmp 2]⟩

def an112 : List RAnn := [
 { id := 0, live := [0, 2] },
 { id := 1, live := [0, 2, 4] },
 { id := 2, live := [0] },
 { id := 3, live := [0, 2] },
 { id := 4, live := [0, 2, 8] },
 { id := 5, live := [0, 2] },
 { id := 6, live := [0, 2] },
 { id := 7, live := [2] }]

theorem comp112 : compF Tryz.prog an112 Tryz.f112 = some a112 := by kernel_rfl

/- math/bits.Len64 -/
def c113 : ACode :=
 .seq (.region none [] [
 op 2 (.mov (ci (0)))] [0, 2] none)
 (.seq (.seq (.region none [] [
 mv 3 0, op 4 (.bin .geq .int (tm 3) (.cst (.int .u64 4294967296)))] [0, 2, 4] none)
 (.cond (tm 4) (.seq (.region none [] [
 mv 5 0, op 6 (.bin .shr .int (tm 5) (.cst (.int .u64 32))), mv 0 6] [0] none)
 (.region none [] [
 op 2 (.mov (ci (32)))] [0, 2] none))
 (.skip)))
 (.seq (.seq (.region none [] [
 mv 7 0, op 8 (.bin .geq .int (tm 7) (.cst (.int .u64 65536)))] [0, 2, 8] none)
 (.cond (tm 8) (.seq (.region none [] [
 mv 9 0, op 10 (.bin .shr .int (tm 9) (.cst (.int .u64 16))), mv 0 10] [0, 2] none)
 (.region none [] [
 mv 11 2, op 12 (.bin .add .int (tm 11) (ci (16))), mv 2 12] [0, 2] none))
 (.skip)))
 (.seq (.seq (.region none [] [
 mv 13 0, op 14 (.bin .geq .int (tm 13) (.cst (.int .u64 256)))] [0, 2, 14] none)
 (.cond (tm 14) (.seq (.region none [] [
 mv 15 0, op 16 (.bin .shr .int (tm 15) (.cst (.int .u64 8))), mv 0 16] [0, 2] none)
 (.region none [] [
 mv 17 2, op 18 (.bin .add .int (tm 17) (ci (8))), mv 2 18] [0, 2] none))
 (.skip)))
 (.seq (.region none [] [
 mv 19 2, mv 20 0, op 21 (.conv .u8 (tm 20)), op 22 (.sidx (.cst (.str [0, 1, 2, 2, 3, 3, 3, 3, 4, 4, 4, 4, 4, 4, 4, 4, 5, 5, 5, 5, 5, 5, 5, 5, 5, 5, 5, 5, 5, 5, 5, 5, 6, 6, 6, 6, 6, 6, 6, 6, 6, 6, 6, 6, 6, 6, 6, 6, 6, 6, 6, 6, 6, 6, 6, 6, 6, 6, 6, 6, 6, 6, 6, 6, 7, 7, 7, 7, 7, 7, 7, 7, 7, 7, 7, 7, 7, 7, 7, 7, 7, 7, 7, 7, 7, 7, 7, 7, 7, 7, 7, 7, 7, 7, 7, 7, 7, 7, 7, 7, 7, 7, 7, 7, 7, 7, 7, 7, 7, 7, 7, 7, 7, 7, 7, 7, 7, 7, 7, 7, 7, 7, 7, 7, 7, 7, 7, 7, 8, 8, 8, 8, 8, 8, 8, 8, 8, 8, 8, 8, 8, 8, 8, 8, 8, 8, 8, 8, 8, 8, 8, 8, 8, 8, 8, 8, 8, 8, 8, 8, 8, 8, 8, 8, 8, 8, 8, 8, 8, 8, 8, 8, 8, 8, 8, 8, 8, 8, 8, 8, 8, 8, 8, 8, 8, 8, 8, 8, 8, 8, 8, 8, 8, 8, 8, 8, 8, 8, 8, 8, 8, 8, 8, 8, 8, 8, 8, 8, 8, 8, 8, 8, 8, 8, 8, 8, 8, 8, 8, 8, 8, 8, 8, 8, 8, 8, 8, 8, 8, 8, 8, 8, 8, 8, 8, 8, 8, 8, 8, 8, 8, 8, 8, 8, 8, 8, 8, 8, 8, 8, 8, 8, 8, 8, 8, 8])) (tm 21)), op 23 (.conv .i64 (tm 22)), op 24 (.bin .add .int (tm 19) (tm 23)), mv 2 24] [2] none)
 (.ret)))))

def a113 : AFunc := ⟨1, c113, [.tmp 2]⟩

def an113 : List RAnn := [
 { id := 0, live := [0, 2] },
 { id := 1, live := [0, 2, 4] },
 { id := 2, live := [0] },
 { id := 3, live := [0, 2] },
 { id := 4, live := [0, 2, 8] },
 { id := 5, live := [0, 2] },
 { id := 6, live := [0, 2] },
 { id := 7, live := [0, 2, 14] },
 { id := 8, live := [0, 2] },
 { id := 9, live := [0, 2] },
 { id := 10, live := [2] }]

theorem comp113 : compF Tryz.prog an113 Tryz.f113 = some a113 := by kernel_rfl

/- cmp.isNaN[int] -/
def c114 : ACode :=
 .seq (.region none [] [
 op 2 (.mov (.cst (.bool false)))] [0] none)
 (.seq (.region none [] [
 mv 3 0, mv 4 0, op 5 (.bin .neq .int (tm 3) (tm 4)), mv 2 5] [2] none)
 (.ret))

def a114 : AFunc := ⟨1, c114, [.tmp 2]⟩

def an114 : List RAnn := [
 { id := 0, live := [0] },
 { id := 1, live := [2] }]

theorem comp114 : compF Tryz.prog an114 Tryz.f114 = some a114 := by kernel_rfl

/- cmp.isNaN[string] -/
def c115 : ACode :=
 .seq (.region none [] [
 op 2 (.mov (.cst (.bool false)))] [0] none)
 (.seq (.region none [] [
 mv 3 0, mv 4 0, op 5 (.bin .neq .str (tm 3) (tm 4)), mv 2 5] [2] none)
 (.ret))

def a115 : AFunc := ⟨1, c115, [.tmp 2]⟩

def an115 : List RAnn := [
 { id := 0, live := [0] },
 { id := 1, live := [2] }]

theorem comp115 : compF Tryz.prog an115 Tryz.f115 = some a115 := by kernel_rfl

/- graphdb/graphdbref09.texts -/
def c116 : ACode :=
 .seq (.region none [] [
 op 4 (.mov (ci (0)))] [0, 1] none)
 (.seq (.seq (.region none [] [
 mv 5 0, mv 6 1, op 7 (.bin .lss .str (tm 5) (tm 6))] [0, 1, 7] none)
 (.cond (tm 7) (.seq (.region none [] [
 op 4 (.mov (ci ((-1))))] [4] none)
 (.ret))
 (.skip)))
 (.seq (.seq (.region none [] [
 mv 8 0, mv 9 1, op 10 (.bin .gtr .str (tm 8) (tm 9))] [10] none)
 (.cond (tm 10) (.seq (.region none [] [
 op 4 (.mov (ci (1)))] [4] none)
 (.ret))
 (.skip)))
 (.seq (.region none [] [
 op 4 (.mov (ci (0)))] [4] none)
 (.ret))))

def a116 : AFunc := ⟨2, c116, [.tmp 4]⟩

def an116 : List RAnn := [
 { id := 0, live := [0, 1] },
 { id := 1, live := [0, 1, 7] },
 { id := 2, live := [4] },
 { id := 3, live := [10] },
 { id := 4, live := [4] },
 { id := 5, live := [4] }]

theorem comp116 : compF Tryz.prog an116 Tryz.f116 = some a116 := by kernel_rfl

/- slices.ContainsFunc[[]string,string] -/
def c117 : ACode :=
 .seq (.region none [] [
 op 4 (.mov (.cst (.bool false)))] [0, 1] none)
 (.seq (.region none [] [
 mv 5 0, mv 6 1, op 7 (.call .pure 147 [(tm 5), (tm 6)]), op 8 (.bin .geq .int (tm 7) (ci (0))), mv 4 8] [4] none)
 (.ret))

def a117 : AFunc := ⟨2, c117, [.tmp 4]⟩

def an117 : List RAnn := [
 { id := 0, live := [0, 1] },
 { id := 1, live := [4] }]

theorem comp117 : compF Tryz.prog an117 Tryz.f117 = some a117 := by kernel_rfl

/- graphdb/graph.unnamed -/
def c118 : ACode :=
 .seq (.region none [] [
 op 2 (.mov (.cst (.bool false)))] [0] none)
 (.seq (.region none [] [
 mv 3 0, op 4 (.call .pure 45 [(tm 3)]), op 5 (.un .not (tm 4)), mv 2 5] [2] none)
 (.ret))

def a118 : AFunc := ⟨1, c118, [.tmp 2]⟩

def an118 : List RAnn := [
 { id := 0, live := [0] },
 { id := 1, live := [2] }]

theorem comp118 : compF Tryz.prog an118 Tryz.f118 = some a118 := by kernel_rfl

/- graphdb/graph.increasing -/
/-- loop 0 of function 119 -/
def l119_0_h : List Nat := [0, 3]

def l119_0_b : ACode :=
 .seq (.seq (.region none [] [
 mv 4 3, mv 5 0, op 6 (.len .slice (tm 5)), op 7 (.bin .lss .int (tm 4) (tm 6))] [0, 3, 7] none)
 (.cond (tm 7) (.skip)
 (.exit 0)))
 (.seq (.block 1 (.seq (.region (some 10) [] [
 mv 10 0, mv 11 3, op 12 (.iaddr 1 (tm 10) (tm 11)), op 13 (.load none (tm 12)), mv 14 0, mv 15 3, op 16 (.bin .sub .int (tm 15) (ci (1))), op 17 (.iaddr 1 (tm 14) (tm 16)), op 18 (.load none (tm 17)), op 19 (.bin .leq .str (tm 13) (tm 18))] [0, 3, 19] none)
 (.cond (tm 19) (.seq (.region none [] [
 op 2 (.mov (.cst (.bool false)))] [2] none)
 (.ret))
 (.skip))))
 (.region none [] [
 mv 8 3, op 9 (.bin .add .int (tm 8) (ci (1))), mv 3 9] [0, 3] none))

def c119 : ACode :=
 .seq (.region none [] [
 op 2 (.mov (.cst (.bool false)))] [0] none)
 (.seq (.seq (.region none [] [
 op 3 (.mov (ci (1)))] [0, 3] none)
 (.block 0 (.loop l119_0_h l119_0_b)))
 (.seq (.region none [] [
 op 2 (.mov (.cst (.bool true)))] [2] none)
 (.ret)))

def a119 : AFunc := ⟨1, c119, [.tmp 2]⟩

def an119 : List RAnn := [
 { id := 0, live := [0] },
 { id := 1, live := [0, 3] },
 { id := 2, live := [0, 3, 7], hdr := [0, 3] },
 { id := 4, head := some 10, live := [0, 3, 19] },
 { id := 5, live := [2] },
 { id := 3, live := [0, 3] },
 { id := 6, live := [2] }]

theorem comp119 : compF Tryz.prog an119 Tryz.f119 = some a119 := by kernel_rfl

/- slices.BinarySearchFunc[[]graphdb/api.Node,graphdb/api.Node,int] -/
/-- loop 0 of function 120 -/
def l120_0_h : List Nat := [0, 1, 2, 8, 9, 10]

def l120_0_b : ACode :=
 .seq (.seq (.region none [] [
 mv 15 9, mv 16 10, op 17 (.bin .lss .int (tm 15) (tm 16))] [0, 1, 2, 8, 9, 10, 17] none)
 (.cond (tm 17) (.skip)
 (.exit 0)))
 (.block 1 (.seq (.region none [] [
 mv 18 9, mv 19 10, op 20 (.bin .add .int (tm 18) (tm 19)), op 21 (.conv .u64 (tm 20)), op 22 (.bin .shr .int (tm 21) (.cst (.int .u64 1))), op 23 (.conv .i64 (tm 22)), mv 11 23] [0, 1, 2, 8, 9, 10, 11] none)
 (.seq (.region none [] [
 mv 24 2, mv 25 0, mv 26 11, op 27 (.iaddr 3 (tm 25) (tm 26)), op 28 (.load (some 3) (tm 27)), mv 29 1, op 30 (.callv .pure (tm 24) [(tm 28), (tm 29)]), op 31 (.bin .lss .int (tm 30) (ci (0)))] [0, 1, 2, 8, 9, 10, 11, 31] none)
 (.cond (tm 31) (.region none [] [
 mv 32 11, op 33 (.bin .add .int (tm 32) (ci (1))), mv 9 33] [0, 1, 2, 8, 9, 10] none)
 (.region none [] [
 mv 34 11, mv 10 34] [0, 1, 2, 8, 9, 10] none)))))

def c120 : ACode :=
 .seq (.region none [] [
 op 6 (.mov (ci (0))), op 7 (.mov (.cst (.bool false)))] [0, 1, 2] none)
 (.seq (.region none [] [
 mv 12 0, op 13 (.len .slice (tm 12)), mv 8 13] [0, 1, 2, 8] none)
 (.seq (.region none [] [
 mv 14 8, op 9 (.mov (ci (0))), mv 10 14] [0, 1, 2, 8, 9, 10] none)
 (.seq (.block 0 (.loop l120_0_h l120_0_b))
 (.seq (.region none [] [
 mv 35 9, mv 36 9, mv 37 8, op 38 (.bin .lss .int (tm 36) (tm 37)), mv 39 38, mg 40 2 39 true, mg 41 0 39 true, mg 42 9 39 true, ⟨some 43, .iaddr 3 (tm 41) (tm 42), some (39, true)⟩, ⟨some 44, .load (some 3) (tm 43), some (39, true)⟩, mg 45 1 39 true, ⟨some 46, .callv .pure (tm 40) [(tm 44), (tm 45)], some (39, true)⟩, ⟨some 47, .bin .eql .int (tm 46) (ci (0)), some (39, true)⟩, op 48 (.pick (tm 39) (tm 47) (.cst (.bool false))), mv 6 35, mv 7 48] [6, 7] none)
 (.ret)))))

def a120 : AFunc := ⟨3, c120, [.tmp 6, .tmp 7]⟩

def an120 : List RAnn := [
 { id := 0, live := [0, 1, 2] },
 { id := 1, live := [0, 1, 2, 8] },
 { id := 2, live := [0, 1, 2, 8, 9, 10] },
 { id := 3, live := [0, 1, 2, 8, 9, 10, 17], hdr := [0, 1, 2, 8, 9, 10] },
 { id := 4, live := [0, 1, 2, 8, 9, 10, 11] },
 { id := 5, live := [0, 1, 2, 8, 9, 10, 11, 31] },
 { id := 6, live := [0, 1, 2, 8, 9, 10] },
 { id := 7, live := [0, 1, 2, 8, 9, 10] },
 { id := 8, live := [6, 7] }]

theorem comp120 : compF Tryz.prog an120 Tryz.f120 = some a120 := by kernel_rfl

/- graphdb/graph.has$1 -/
def c121 : ACode :=
 .seq (.region none [] [
 op 2 (.box 3 (tm 0)), op 4 (.mov (ci (0)))] [1, 2] none)
 (.seq (.region none [] [
 op 5 (.faddr 0 (tm 2)), op 6 (.load none (tm 5)), mv 7 1, op 8 (.call .pure 67 [(tm 6), (tm 7)]), mv 4 8] [4] none)
 (.ret))

def a121 : AFunc := ⟨2, c121, [.tmp 4]⟩

def an121 : List RAnn := [
 { id := 0, live := [1, 2] },
 { id := 1, live := [4] }]

theorem comp121 : compF Tryz.prog an121 Tryz.f121 = some a121 := by kernel_rfl

/- slices.Index[[]string,string] -/
/-- loop 0 of function 122 -/
def l122_0_h : List Nat := [0, 1, 7, 8]

def l122_0_b : ACode :=
 .seq (.region none [] [
 op 9 (.bin .lss .int (tm 8) (tm 7))] [0, 1, 7, 8, 9] none)
 (.seq (.cond (tm 9) (.skip)
 (.exit 0))
 (.seq (.block 1 (.seq (.region none [] [
 mv 10 8, mv 5 10] [0, 1, 5, 7, 8] none)
 (.seq (.region none [] [
 mv 11 1, mv 12 0, mv 13 5, op 14 (.iaddr 1 (tm 12) (tm 13)), op 15 (.load none (tm 14)), op 16 (.bin .eql .str (tm 11) (tm 15))] [0, 1, 5, 7, 8, 16] none)
 (.cond (tm 16) (.seq (.region none [] [
 mv 17 5, mv 4 17] [4] none)
 (.ret))
 (.skip)))))
 (.region none [] [
 op 18 (.bin .add .int (tm 8) (ci (1))), mv 8 18] [0, 1, 7, 8] none)))

def c122 : ACode :=
 .seq (.region none [] [
 op 4 (.mov (ci (0)))] [0, 1] none)
 (.seq (.seq (.region none [] [
 mv 6 0, op 7 (.len .slice (tm 6)), op 8 (.mov (ci (0)))] [0, 1, 7, 8] none)
 (.block 0 (.loop l122_0_h l122_0_b)))
 (.seq (.region none [] [
 op 4 (.mov (ci ((-1))))] [4] none)
 (.ret)))

def a122 : AFunc := ⟨2, c122, [.tmp 4]⟩

def an122 : List RAnn := [
 { id := 0, live := [0, 1] },
 { id := 1, live := [0, 1, 7, 8] },
 { id := 2, live := [0, 1, 7, 8, 9], hdr := [0, 1, 7, 8] },
 { id := 3, live := [0, 1, 5, 7, 8] },
 { id := 4, live := [0, 1, 5, 7, 8, 16] },
 { id := 5, live := [4] },
 { id := 6, live := [0, 1, 7, 8] },
 { id := 7, live := [4] }]

theorem comp122 : compF Tryz.prog an122 Tryz.f122 = some a122 := by kernel_rfl

/- slices.Sort[[]string,string] -/
def c123 : ACode :=
 .seq (.region none [] [
 mv 3 0, op 4 (.len .slice (tm 3)), mv 2 4] [0, 2] none)
 (.region none [] [
 mv 5 0, mv 6 2, mv 7 2, op 8 (.conv .u64 (tm 7)), op 9 (.call .pure 65 [(tm 8)]), op 10 (.call .share 148 [(tm 5), (ci (0)), (tm 6), (tm 9)])] [] none)

def a123 : AFunc := ⟨1, c123, []⟩

def an123 : List RAnn := [
 { id := 0, live := [0, 2] },
 { id := 1, ops := [(5, .mode .share)] }]

theorem comp123 : compF Tryz.prog an123 Tryz.f123 = some a123 := by kernel_rfl

/- slices.Compact[[]string,string] -/
/-- loop 0 of function 124 -/
def l124_0_h : List Nat := [0, 3, 4, 5]

def l124_0_b : ACode :=
 .seq (.seq (.region none [] [
 mv 29 5, mv 30 4, op 31 (.len .slice (tm 30)), op 32 (.bin .lss .int (tm 29) (tm 31))] [0, 3, 4, 5, 32] none)
 (.cond (tm 32) (.skip)
 (.exit 2)))
 (.seq (.block 3 (.seq (.region (some 10) [] [
 mv 35 4, mv 36 5, op 37 (.iaddr 1 (tm 35) (tm 36)), op 38 (.load none (tm 37)), mv 39 4, mv 40 5, op 41 (.bin .sub .int (tm 40) (ci (1))), op 42 (.iaddr 1 (tm 39) (tm 41)), op 43 (.load none (tm 42)), op 44 (.bin .neq .str (tm 38) (tm 43))] [0, 3, 4, 5, 44] none)
 (.cond (tm 44) (.seq (.region none [] [
 mv 45 0, mv 46 3, mv 47 4, mv 48 5, op 49 (.iaddr 1 (tm 47) (tm 48)), op 50 (.load none (tm 49)), op 51 (.iaddr 1 (tm 45) (tm 46)), ⟨none, .store 1 (tm 51) (tm 50), none⟩] [0, 3, 4, 5] none)
 (.region none [] [
 mv 52 3, op 53 (.bin .add .int (tm 52) (ci (1))), mv 3 53] [0, 3, 4, 5] none))
 (.skip))))
 (.region none [] [
 mv 33 5, op 34 (.bin .add .int (tm 33) (ci (1))), mv 5 34] [0, 3, 4, 5] none))

/-- loop 1 of function 124 -/
def l124_1_h : List Nat := [0, 3]

def l124_1_b : ACode :=
 .seq (.seq (.region none [] [
 mv 10 3, mv 11 0, op 12 (.len .slice (tm 11)), op 13 (.bin .lss .int (tm 10) (tm 12))] [0, 3, 13] none)
 (.cond (tm 13) (.skip)
 (.exit 0)))
 (.seq (.block 1 (.seq (.region (some 10) [] [
 mv 16 0, mv 17 3, op 18 (.iaddr 1 (tm 16) (tm 17)), op 19 (.load none (tm 18)), mv 20 0, mv 21 3, op 22 (.bin .sub .int (tm 21) (ci (1))), op 23 (.iaddr 1 (tm 20) (tm 22)), op 24 (.load none (tm 23)), op 25 (.bin .eql .str (tm 19) (tm 24))] [0, 3, 25] none)
 (.cond (tm 25) (.seq (.region none [] [
 mv 26 0, mv 27 3, op 28 (.slice 1 (tm 26) (some (tm 27)) none), mv 4 28] [0, 3, 4] none)
 (.seq (.seq (.region none [] [
 op 5 (.mov (ci (1)))] [0, 3, 4, 5] none)
 (.block 2 (.loop l124_0_h l124_0_b)))
 (.seq (.region none [] [
 mv 54 0, mv 55 3, op 56 (.slice 1 (tm 54) (some (tm 55)) none), ⟨none, .clear 1 (tm 56), none⟩] [0, 3] none)
 (.seq (.region none [] [
 mv 57 0, mv 58 3, op 59 (.slice 1 (tm 57) none (some (tm 58))), mv 2 59] [2] none)
 (.ret)))))
 (.skip))))
 (.region none [] [
 mv 14 3, op 15 (.bin .add .int (tm 14) (ci (1))), mv 3 15] [0, 3] none))

def c124 : ACode :=
 .seq (.region none [] [
 op 2 (.mov (.cst (.sl false [])))] [0] none)
 (.seq (.seq (.region none [] [
 mv 6 0, op 7 (.len .slice (tm 6)), op 8 (.bin .lss .int (tm 7) (ci (2)))] [0, 8] none)
 (.cond (tm 8) (.seq (.region none [] [
 mv 9 0, mv 2 9] [2] none)
 (.ret))
 (.skip)))
 (.seq (.seq (.region none [] [
 op 3 (.mov (ci (1)))] [0, 3] none)
 (.block 0 (.loop l124_1_h l124_1_b)))
 (.seq (.region none [] [
 mv 60 0, mv 2 60] [2] none)
 (.ret))))

def a124 : AFunc := ⟨1, c124, [.tmp 2]⟩

def an124 : List RAnn := [
 { id := 0, live := [0] },
 { id := 1, live := [0, 8] },
 { id := 2, live := [2] },
 { id := 3, live := [0, 3] },
 { id := 4, live := [0, 3, 13], hdr := [0, 3] },
 { id := 6, head := some 10, live := [0, 3, 25] },
 { id := 7, live := [0, 3, 4] },
 { id := 8, live := [0, 3, 4, 5] },
 { id := 9, live := [0, 3, 4, 5, 32], hdr := [0, 3, 4, 5] },
 { id := 11, head := some 10, live := [0, 3, 4, 5, 44] },
 { id := 12, live := [0, 3, 4, 5] },
 { id := 13, live := [0, 3, 4, 5] },
 { id := 10, live := [0, 3, 4, 5] },
 { id := 14, live := [0, 3] },
 { id := 15, live := [2] },
 { id := 5, live := [0, 3] },
 { id := 16, live := [2] }]

theorem comp124 : compF Tryz.prog an124 Tryz.f124 = some a124 := by kernel_rfl

/- slices.IndexFunc[[]graphdb/api.Node,graphdb/api.Node] -/
/-- loop 0 of function 125 -/
def l125_0_h : List Nat := [0, 1, 7, 8]

def l125_0_b : ACode :=
 .seq (.region none [] [
 op 9 (.bin .lss .int (tm 8) (tm 7))] [0, 1, 7, 8, 9] none)
 (.seq (.cond (tm 9) (.skip)
 (.exit 0))
 (.seq (.block 1 (.seq (.region none [] [
 mv 10 8, mv 5 10] [0, 1, 5, 7, 8] none)
 (.seq (.region none [] [
 mv 11 1, mv 12 0, mv 13 5, op 14 (.iaddr 3 (tm 12) (tm 13)), op 15 (.load (some 3) (tm 14)), op 16 (.callv .pure (tm 11) [(tm 15)])] [0, 1, 5, 7, 8, 16] none)
 (.cond (tm 16) (.seq (.region none [] [
 mv 17 5, mv 4 17] [4] none)
 (.ret))
 (.skip)))))
 (.region none [] [
 op 18 (.bin .add .int (tm 8) (ci (1))), mv 8 18] [0, 1, 7, 8] none)))

def c125 : ACode :=
 .seq (.region none [] [
 op 4 (.mov (ci (0)))] [0, 1] none)
 (.seq (.seq (.region none [] [
 mv 6 0, op 7 (.len .slice (tm 6)), op 8 (.mov (ci (0)))] [0, 1, 7, 8] none)
 (.block 0 (.loop l125_0_h l125_0_b)))
 (.seq (.region none [] [
 op 4 (.mov (ci ((-1))))] [4] none)
 (.ret)))

def a125 : AFunc := ⟨2, c125, [.tmp 4]⟩

def an125 : List RAnn := [
 { id := 0, live := [0, 1] },
 { id := 1, live := [0, 1, 7, 8] },
 { id := 2, live := [0, 1, 7, 8, 9], hdr := [0, 1, 7, 8] },
 { id := 3, live := [0, 1, 5, 7, 8] },
 { id := 4, live := [0, 1, 5, 7, 8, 16] },
 { id := 5, live := [4] },
 { id := 6, live := [0, 1, 7, 8] },
 { id := 7, live := [4] }]

theorem comp125 : compF Tryz.prog an125 Tryz.f125 = some a125 := by kernel_rfl

/- graphdb/graph.cloneValue -/
/-- loop 0 of function 126 -/
def l126_0_h : List Nat := [1, 2, 10, 11]

def l126_0_b : ACode :=
 .seq (.region none [] [
 op 12 (.bin .lss .int (tm 11) (tm 10))] [1, 2, 10, 11, 12] none)
 (.seq (.cond (tm 12) (.skip)
 (.exit 0))
 (.seq (.block 1 (.seq (.region none [] [
 mv 13 11, mv 3 13] [1, 2, 3, 10, 11] none)
 (.region (some 10) [] [
 op 14 (.faddr 4 (tm 1)), op 15 (.load none (tm 14)), mv 16 3, op 17 (.faddr 4 (tm 1)), op 18 (.load none (tm 17)), mv 19 3, op 20 (.iaddr 5 (tm 18) (tm 19)), op 21 (.load (some 5) (tm 20)), op 22 (.call .pure 126 [(tm 21)]), op 23 (.iaddr 5 (tm 15) (tm 16)), ⟨none, .store 5 (tm 23) (tm 22), none⟩] [1, 2, 10, 11] none)))
 (.region none [] [
 op 24 (.bin .add .int (tm 11) (ci (1))), mv 11 24] [1, 2, 10, 11] none)))

def c126 : ACode :=
 .seq (.region none [] [
 op 1 (.box 5 (tm 0)), op 2 (.alloc 5 (.agg [.int .i64 0, .int .i64 0, .int .i64 0, .str [], .sl false []]))] [1, 2] none)
 (.seq (.region none [] [
 op 4 (.faddr 4 (tm 1)), op 5 (.load none (tm 4)), op 6 (.call .own 149 [(tm 5)]), op 7 (.faddr 4 (tm 1)), ⟨none, .store 1 (tm 7) (tm 6), none⟩] [1, 2] none)
 (.seq (.seq (.region none [] [
 op 8 (.faddr 4 (tm 1)), op 9 (.load none (tm 8)), op 10 (.len .slice (tm 9)), op 11 (.mov (ci (0)))] [1, 2, 10, 11] none)
 (.block 0 (.loop l126_0_h l126_0_b)))
 (.seq (.region none [] [
 op 25 (.load (some 5) (tm 1)), ⟨none, .store 5 (tm 2) (tm 25), none⟩] [2] none)
 (.ret))))

def a126 : AFunc := ⟨1, c126, [.cell 2 (some 5)]⟩

def an126 : List RAnn := [
 { id := 0, live := [1, 2] },
 { id := 1, live := [1, 2], ops := [(2, .mode .own)] },
 { id := 2, live := [1, 2, 10, 11] },
 { id := 3, live := [1, 2, 10, 11, 12], hdr := [1, 2, 10, 11] },
 { id := 4, live := [1, 2, 3, 10, 11] },
 { id := 5, head := some 10, live := [1, 2, 10, 11] },
 { id := 6, live := [1, 2, 10, 11] },
 { id := 7, live := [2] }]

theorem comp126 : compF Tryz.prog an126 Tryz.f126 = some a126 := by kernel_rfl

/- graphdb/graphdbref07.parts -/
/-- loop 0 of function 127 -/
def l127_0_h : List Nat := [1, 6]

def l127_0_b : ACode :=
 .seq (.seq (.region none [] [
 mv 33 6, mv 34 1, op 35 (.len .slice (tm 34)), op 36 (.bin .lss .int (tm 33) (tm 35))] [1, 6, 36] none)
 (.cond (tm 36) (.skip)
 (.exit 0)))
 (.seq (.block 1 (.seq (.region none [] [
 mv 39 1, mv 40 6, op 41 (.iaddr 6 (tm 39) (tm 40)), op 42 (.faddr 1 (tm 41)), op 43 (.load (some 5) (tm 42)), op 44 (.call .pure 53 [(tm 43)]), op 45 (.un .not (tm 44))] [1, 6, 45] none)
 (.cond (tm 45) (.seq (.region none [] [
 op 4 (.mov (ci (8)))] [4] none)
 (.ret))
 (.skip))))
 (.region none [] [
 mv 37 6, op 38 (.bin .add .int (tm 37) (ci (1))), mv 6 38] [1, 6] none))

def c127 : ACode :=
 .seq (.region none [] [
 op 4 (.mov (ci (0)))] [0, 1] none)
 (.seq (.seq (.region none [] [
 mv 7 0, op 8 (.len .slice (tm 7)), op 9 (.bin .gtr .int (tm 8) (ci (8))), mv 10 9, mg 11 1 10 false, ⟨some 12, .len .slice (tm 11), some (10, false)⟩, ⟨some 13, .bin .gtr .int (tm 12) (ci (16)), some (10, false)⟩, op 14 (.pick (tm 10) (.cst (.bool true)) (tm 13))] [0, 1, 14] none)
 (.cond (tm 14) (.seq (.region none [] [
 op 4 (.mov (ci (4)))] [4] none)
 (.ret))
 (.skip)))
 (.seq (.region none [] [
 mv 15 1, op 16 (.call .pure 150 [(tm 15)]), mv 5 16] [0, 1, 5] none)
 (.seq (.seq (.region none [] [
 mv 17 0, op 18 (.call .pure 151 [(tm 17)]), op 19 (.un .not (tm 18)), mv 20 19, mg 21 5 20 false, ⟨some 22, .call .pure 151 [(tm 21)], some (20, false)⟩, ⟨some 23, .un .not (tm 22), some (20, false)⟩, op 24 (.pick (tm 20) (.cst (.bool true)) (tm 23))] [0, 1, 5, 24] none)
 (.cond (tm 24) (.seq (.region none [] [
 op 4 (.mov (ci (6)))] [4] none)
 (.ret))
 (.skip)))
 (.seq (.seq (.region none [] [
 mv 25 0, op 26 (.call .pure 152 [(tm 25)]), op 27 (.un .not (tm 26)), mv 28 27, mg 29 5 28 false, ⟨some 30, .call .pure 152 [(tm 29)], some (28, false)⟩, ⟨some 31, .un .not (tm 30), some (28, false)⟩, op 32 (.pick (tm 28) (.cst (.bool true)) (tm 31))] [1, 32] none)
 (.cond (tm 32) (.seq (.region none [] [
 op 4 (.mov (ci (26)))] [4] none)
 (.ret))
 (.skip)))
 (.seq (.seq (.region none [] [
 op 6 (.mov (ci (0)))] [1, 6] none)
 (.block 0 (.loop l127_0_h l127_0_b)))
 (.seq (.region none [] [
 op 4 (.mov (ci (0)))] [4] none)
 (.ret)))))))

def a127 : AFunc := ⟨2, c127, [.tmp 4]⟩

def an127 : List RAnn := [
 { id := 0, live := [0, 1] },
 { id := 1, live := [0, 1, 14] },
 { id := 2, live := [4] },
 { id := 3, live := [0, 1, 5] },
 { id := 4, live := [0, 1, 5, 24] },
 { id := 5, live := [4] },
 { id := 6, live := [1, 32] },
 { id := 7, live := [4] },
 { id := 8, live := [1, 6] },
 { id := 9, live := [1, 6, 36], hdr := [1, 6] },
 { id := 11, live := [1, 6, 45] },
 { id := 12, live := [4] },
 { id := 10, live := [1, 6] },
 { id := 13, live := [4] }]

theorem comp127 : compF Tryz.prog an127 Tryz.f127 = some a127 := by kernel_rfl

/- graphdb/graphdbref07.Node -/
/-- loop 0 of function 128 -/
def l128_0_h : List Nat := [1, 2, 4, 6]

def l128_0_b : ACode :=
 .seq (.seq (.region none [] [
 mv 7 6, op 8 (.faddr 0 (tm 2)), op 9 (.load none (tm 8)), op 10 (.len .slice (tm 9)), op 11 (.bin .lss .int (tm 7) (tm 10))] [1, 2, 4, 6, 11] none)
 (.cond (tm 11) (.skip)
 (.exit 0)))
 (.seq (.block 1 (.seq (.region none [] [
 op 14 (.faddr 0 (tm 2)), op 15 (.load none (tm 14)), mv 16 6, op 17 (.iaddr 3 (tm 15) (tm 16)), op 18 (.faddr 0 (tm 17)), op 19 (.load none (tm 18)), mv 20 1, op 21 (.bin .eql .int (tm 19) (tm 20))] [1, 2, 4, 6, 21] none)
 (.cond (tm 21) (.seq (.region none [] [
 op 22 (.faddr 0 (tm 2)), op 23 (.load none (tm 22)), mv 24 6, op 25 (.iaddr 3 (tm 23) (tm 24)), op 26 (.load (some 3) (tm 25)), ⟨none, .store 3 (tm 4) (tm 26), none⟩, op 5 (.mov (.cst (.bool true)))] [4, 5] none)
 (.ret))
 (.skip))))
 (.region none [] [
 mv 12 6, op 13 (.bin .add .int (tm 12) (ci (1))), mv 6 13] [1, 2, 4, 6] none))

def c128 : ACode :=
 .seq (.region none [] [
 op 2 (.box 4 (tm 0)), op 4 (.alloc 3 (.agg [.int .i64 0, .sl false [], .sl false []])), op 5 (.mov (.cst (.bool false)))] [1, 2, 4] none)
 (.seq (.seq (.region none [] [
 op 6 (.mov (ci (0)))] [1, 2, 4, 6] none)
 (.block 0 (.loop l128_0_h l128_0_b)))
 (.seq (.region none [] [
 op 27 (.build [.int .i64 0, .sl false [], .sl false []] []), ⟨none, .store 3 (tm 4) (tm 27), none⟩, op 5 (.mov (.cst (.bool false)))] [4, 5] none)
 (.ret)))

def a128 : AFunc := ⟨2, c128, [.cell 4 (some 3), .tmp 5]⟩

def an128 : List RAnn := [
 { id := 0, live := [1, 2, 4] },
 { id := 1, live := [1, 2, 4, 6] },
 { id := 2, live := [1, 2, 4, 6, 11], hdr := [1, 2, 4, 6] },
 { id := 4, live := [1, 2, 4, 6, 21] },
 { id := 5, live := [4, 5] },
 { id := 3, live := [1, 2, 4, 6] },
 { id := 6, live := [4, 5] }]

theorem comp128 : compF Tryz.prog an128 Tryz.f128 = some a128 := by kernel_rfl

/- graphdb/graphdbref07.HasStr -/
/-- loop 0 of function 129 -/
def l129_0_h : List Nat := [0, 1, 5]

def l129_0_b : ACode :=
 .seq (.seq (.region none [] [
 mv 6 5, mv 7 0, op 8 (.len .slice (tm 7)), op 9 (.bin .lss .int (tm 6) (tm 8))] [0, 1, 5, 9] none)
 (.cond (tm 9) (.skip)
 (.exit 0)))
 (.seq (.block 1 (.seq (.region none [] [
 mv 12 0, mv 13 5, op 14 (.iaddr 1 (tm 12) (tm 13)), op 15 (.load none (tm 14)), mv 16 1, op 17 (.bin .eql .str (tm 15) (tm 16))] [0, 1, 5, 17] none)
 (.cond (tm 17) (.seq (.region none [] [
 op 4 (.mov (.cst (.bool true)))] [4] none)
 (.ret))
 (.skip))))
 (.region none [] [
 mv 10 5, op 11 (.bin .add .int (tm 10) (ci (1))), mv 5 11] [0, 1, 5] none))

def c129 : ACode :=
 .seq (.region none [] [
 op 4 (.mov (.cst (.bool false)))] [0, 1] none)
 (.seq (.seq (.region none [] [
 op 5 (.mov (ci (0)))] [0, 1, 5] none)
 (.block 0 (.loop l129_0_h l129_0_b)))
 (.seq (.region none [] [
 op 4 (.mov (.cst (.bool false)))] [4] none)
 (.ret)))

def a129 : AFunc := ⟨2, c129, [.tmp 4]⟩

def an129 : List RAnn := [
 { id := 0, live := [0, 1] },
 { id := 1, live := [0, 1, 5] },
 { id := 2, live := [0, 1, 5, 9], hdr := [0, 1, 5] },
 { id := 4, live := [0, 1, 5, 17] },
 { id := 5, live := [4] },
 { id := 3, live := [0, 1, 5] },
 { id := 6, live := [4] }]

theorem comp129 : compF Tryz.prog an129 Tryz.f129 = some a129 := by kernel_rfl

/- graphdb/value.valid -/
/-- loop 0 of function 130 -/
def l130_0_h : List Nat := [1, 120, 121, 122]

def l130_0_b : ACode :=
 .seq (.region none [] [
 op 123 (.bin .lss .int (tm 122) (tm 121))] [1, 120, 121, 122, 123] none)
 (.seq (.cond (tm 123) (.skip)
 (.exit 1))
 (.seq (.block 2 (.seq (.region none [] [
 op 124 (.iaddr 5 (tm 120) (tm 122)), op 125 (.load (some 5) (tm 124)), op 6 (.alloc 5 (.agg [.int .i64 0, .int .i64 0, .int .i64 0, .str [], .sl false []])), ⟨none, .store 5 (tm 6) (tm 125), none⟩] [1, 6, 120, 121, 122] none)
 (.seq (.region none [] [
 op 126 (.load (some 5) (tm 6)), mv 127 1, op 128 (.bin .add .int (tm 127) (ci (1))), op 129 (.call .pure 130 [(tm 126), (tm 128)]), op 130 (.un .not (tm 129))] [1, 120, 121, 122, 130] none)
 (.cond (tm 130) (.seq (.region none [] [
 op 4 (.mov (.cst (.bool false)))] [4] none)
 (.ret))
 (.skip)))))
 (.region none [] [
 op 131 (.bin .add .int (tm 122) (ci (1))), mv 122 131] [1, 120, 121, 122] (some 1))))

def c130 : ACode :=
 .seq (.region none [] [
 op 2 (.box 5 (tm 0)), op 4 (.mov (.cst (.bool false)))] [1, 2] none)
 (.seq (.seq (.region none [] [
 op 7 (.faddr 0 (tm 2)), op 8 (.load none (tm 7)), op 9 (.bin .neq .int (tm 8) (ci (3))), mv 10 9, ⟨some 11, .faddr 2 (tm 2), some (10, true)⟩, ⟨some 12, .load none (tm 11), some (10, true)⟩, ⟨some 13, .bin .neq .int (tm 12) (ci (0)), some (10, true)⟩, op 14 (.pick (tm 10) (tm 13) (.cst (.bool false))), mv 15 14, ⟨some 16, .faddr 0 (tm 2), some (15, false)⟩, ⟨some 17, .load none (tm 16), some (15, false)⟩, ⟨some 18, .bin .neq .int (tm 17) (ci (4)), some (15, false)⟩, mg 19 18 15 false, ⟨some 20, .faddr 3 (tm 2), some (19, true)⟩, ⟨some 21, .load none (tm 20), some (19, true)⟩, ⟨some 22, .bin .neq .str (tm 21) (.cst (.str [])), some (19, true)⟩, ⟨some 23, .pick (tm 19) (tm 22) (.cst (.bool false)), some (15, false)⟩, op 24 (.pick (tm 15) (.cst (.bool true)) (tm 23)), mv 25 24, ⟨some 26, .faddr 0 (tm 2), some (25, false)⟩, ⟨some 27, .load none (tm 26), some (25, false)⟩, ⟨some 28, .bin .neq .int (tm 27) (ci (8)), some (25, false)⟩, mg 29 28 25 false, ⟨some 30, .faddr 0 (tm 2), some (29, true)⟩, ⟨some 31, .load none (tm 30), some (29, true)⟩, ⟨some 32, .bin .neq .int (tm 31) (ci (7)), some (29, true)⟩, ⟨some 33, .pick (tm 29) (tm 32) (.cst (.bool false)), some (25, false)⟩, mg 34 33 25 false, ⟨some 35, .faddr 4 (tm 2), some (34, true)⟩, ⟨some 36, .load none (tm 35), some (34, true)⟩, ⟨some 37, .len .slice (tm 36), some (34, true)⟩, ⟨some 38, .bin .gtr .int (tm 37) (ci (0)), some (34, true)⟩, ⟨some 39, .pick (tm 34) (tm 38) (.cst (.bool false)), some (25, false)⟩, op 40 (.pick (tm 25) (.cst (.bool true)) (tm 39))] [1, 2, 40] none)
 (.cond (tm 40) (.seq (.region none [] [
 op 4 (.mov (.cst (.bool false)))] [4] none)
 (.ret))
 (.skip)))
 (.seq (.seq (.region none [] [
 op 41 (.faddr 0 (tm 2)), op 42 (.load none (tm 41))] [1, 2, 42] none)
 (.block 0 (.seq (.region none [] [
 op 44 (.bin .eql .int (tm 42) (ci (0))), mv 43 44] [1, 2, 42, 43] none)
 (.cond (tm 43) (.seq (.region none [] [
 op 45 (.faddr 1 (tm 2)), op 46 (.load none (tm 45)), op 47 (.bin .eql .int (tm 46) (ci (0))), mv 4 47] [4] none)
 (.ret))
 (.seq (.region none [] [
 op 49 (.bin .eql .int (tm 42) (ci (1))), mv 48 49] [1, 2, 42, 48] none)
 (.cond (tm 48) (.seq (.region none [] [
 op 50 (.faddr 1 (tm 2)), op 51 (.load none (tm 50)), op 52 (.bin .eql .int (tm 51) (ci (0))), mv 53 52, ⟨some 54, .faddr 1 (tm 2), some (53, false)⟩, ⟨some 55, .load none (tm 54), some (53, false)⟩, ⟨some 56, .bin .eql .int (tm 55) (ci (1)), some (53, false)⟩, op 57 (.pick (tm 53) (.cst (.bool true)) (tm 56)), mv 4 57] [4] none)
 (.ret))
 (.seq (.region none [] [
 op 59 (.bin .eql .int (tm 42) (ci (2))), mv 58 59] [1, 2, 42, 58] none)
 (.cond (tm 58) (.seq (.region none [] [
 op 60 (.faddr 1 (tm 2)), op 61 (.load none (tm 60)), op 62 (.call .pure 153 [(tm 61)]), mv 4 62] [4] none)
 (.ret))
 (.seq (.region none [] [
 op 64 (.bin .eql .int (tm 42) (ci (3))), mv 63 64] [1, 2, 42, 63] none)
 (.cond (tm 63) (.seq (.region none [] [
 op 65 (.faddr 2 (tm 2)), op 66 (.load none (tm 65)), op 67 (.bin .geq .int (tm 66) (ci (2))), mv 68 67, ⟨some 69, .faddr 1 (tm 2), some (68, true)⟩, ⟨some 70, .load none (tm 69), some (68, true)⟩, ⟨some 71, .faddr 2 (tm 2), some (68, true)⟩, ⟨some 72, .load none (tm 71), some (68, true)⟩, ⟨some 73, .build [.int .i64 0, .int .i64 0] [(0, 1, (tm 70)), (1, 1, (tm 72))], some (68, true)⟩, ⟨some 74, .call .pure 154 [(tm 73)], some (68, true)⟩, op 75 (.pick (tm 68) (tm 74) (.cst (.bool false))), mv 4 75] [4] none)
 (.ret))
 (.seq (.region none [] [
 op 77 (.bin .eql .int (tm 42) (ci (4))), mv 76 77] [1, 2, 42, 76] none)
 (.cond (tm 76) (.seq (.region none [] [
 op 78 (.faddr 1 (tm 2)), op 79 (.load none (tm 78)), op 80 (.bin .eql .int (tm 79) (ci (0))), mv 81 80, ⟨some 82, .faddr 3 (tm 2), some (81, true)⟩, ⟨some 83, .load none (tm 82), some (81, true)⟩, ⟨some 84, .len .str (tm 83), some (81, true)⟩, ⟨some 85, .bin .leq .int (tm 84) (ci (100)), some (81, true)⟩, op 86 (.pick (tm 81) (tm 85) (.cst (.bool false))), mv 87 86, ⟨some 88, .faddr 3 (tm 2), some (87, true)⟩, ⟨some 89, .load none (tm 88), some (87, true)⟩, ⟨some 90, .call .pure 155 [(tm 89), (.cst (.fn 156 []))], some (87, true)⟩, ⟨some 91, .bin .lss .int (tm 90) (ci (0)), some (87, true)⟩, op 92 (.pick (tm 87) (tm 91) (.cst (.bool false))), mv 4 92] [4] none)
 (.ret))
 (.seq (.seq (.region none [] [
 op 94 (.bin .eql .int (tm 42) (ci (5))), mv 93 94] [1, 2, 42, 93] none)
 (.cond (tm 93) (.skip)
 (.region none [] [
 op 95 (.bin .eql .int (tm 42) (ci (6))), mv 93 95] [1, 2, 42, 93] none)))
 (.cond (tm 93) (.seq (.region none [] [
 op 96 (.faddr 1 (tm 2)), op 97 (.load none (tm 96)), op 98 (.bin .geq .int (tm 97) (ci (1))), mv 99 98, ⟨some 100, .faddr 1 (tm 2), some (99, true)⟩, ⟨some 101, .load none (tm 100), some (99, true)⟩, ⟨some 102, .bin .leq .int (tm 101) (ci (1000000)), some (99, true)⟩, op 103 (.pick (tm 99) (tm 102) (.cst (.bool false))), mv 4 103] [4] none)
 (.ret))
 (.seq (.region none [] [
 op 105 (.bin .eql .int (tm 42) (ci (8))), mv 104 105] [1, 2, 42, 104] none)
 (.cond (tm 104) (.seq (.seq (.region none [] [
 op 106 (.faddr 1 (tm 2)), op 107 (.load none (tm 106)), op 108 (.bin .neq .int (tm 107) (ci (0))), mv 109 108, ⟨some 110, .faddr 4 (tm 2), some (109, false)⟩, ⟨some 111, .load none (tm 110), some (109, false)⟩, ⟨some 112, .len .slice (tm 111), some (109, false)⟩, ⟨some 113, .bin .gtr .int (tm 112) (ci (64)), some (109, false)⟩, op 114 (.pick (tm 109) (.cst (.bool true)) (tm 113)), mv 115 114, mg 116 1 115 false, ⟨some 117, .bin .geq .int (tm 116) (ci (8)), some (115, false)⟩, op 118 (.pick (tm 115) (.cst (.bool true)) (tm 117))] [1, 2, 118] none)
 (.cond (tm 118) (.seq (.region none [] [
 op 4 (.mov (.cst (.bool false)))] [4] none)
 (.ret))
 (.skip)))
 (.seq (.seq (.region none [] [
 op 119 (.faddr 4 (tm 2)), op 120 (.load none (tm 119)), op 121 (.len .slice (tm 120)), op 122 (.mov (ci (0)))] [1, 120, 121, 122] none)
 (.block 1 (.loop l130_0_h l130_0_b)))
 (.seq (.region none [] [
 op 4 (.mov (.cst (.bool true)))] [4] none)
 (.ret))))
 (.seq (.region none [] [
 op 133 (.bin .eql .int (tm 42) (ci (7))), mv 132 133] [2, 132] none)
 (.cond (tm 132) (.seq (.region none [] [
 op 134 (.faddr 1 (tm 2)), op 135 (.load none (tm 134)), op 136 (.bin .eql .int (tm 135) (ci (0))), mv 137 136, ⟨some 138, .faddr 4 (tm 2), some (137, true)⟩, ⟨some 139, .load none (tm 138), some (137, true)⟩, ⟨some 140, .call .pure 157 [(tm 139)], some (137, true)⟩, op 141 (.pick (tm 137) (tm 140) (.cst (.bool false))), mv 4 141] [4] none)
 (.ret))
 (.skip)))))))))))))))))))
 (.seq (.region none [] [
 op 4 (.mov (.cst (.bool false)))] [4] none)
 (.ret))))

def a130 : AFunc := ⟨2, c130, [.tmp 4]⟩

def an130 : List RAnn := [
 { id := 0, live := [1, 2] },
 { id := 1, live := [1, 2, 40] },
 { id := 2, live := [4] },
 { id := 3, live := [1, 2, 42] },
 { id := 4, live := [1, 2, 42, 43] },
 { id := 5, live := [4] },
 { id := 6, live := [1, 2, 42, 48] },
 { id := 7, live := [4] },
 { id := 8, live := [1, 2, 42, 58] },
 { id := 9, live := [4] },
 { id := 10, live := [1, 2, 42, 63] },
 { id := 11, live := [4] },
 { id := 12, live := [1, 2, 42, 76] },
 { id := 13, live := [4] },
 { id := 14, live := [1, 2, 42, 93] },
 { id := 15, live := [1, 2, 42, 93] },
 { id := 16, live := [4] },
 { id := 17, live := [1, 2, 42, 104] },
 { id := 18, live := [1, 2, 118] },
 { id := 19, live := [4] },
 { id := 20, live := [1, 120, 121, 122] },
 { id := 21, live := [1, 120, 121, 122, 123], hdr := [1, 120, 121, 122] },
 { id := 22, live := [1, 6, 120, 121, 122] },
 { id := 23, live := [1, 120, 121, 122, 130] },
 { id := 24, live := [4] },
 { id := 25, live := [1, 120, 121, 122], trunc := some 1 },
 { id := 26, live := [4] },
 { id := 27, live := [2, 132] },
 { id := 28, live := [4] },
 { id := 29, live := [4] }]

theorem comp130 : compF Tryz.prog an130 Tryz.f130 = some a130 := by kernel_rfl

/- graphdb/value.class -/
def c131 : ACode :=
 .seq (.region none [] [
 op 1 (.box 5 (tm 0)), op 2 (.mov (ci (0)))] [1] none)
 (.seq (.seq (.region none [] [
 op 3 (.faddr 0 (tm 1)), op 4 (.load none (tm 3))] [1, 4] none)
 (.block 0 (.seq (.region none [] [
 op 6 (.bin .eql .int (tm 4) (ci (3))), mv 5 6] [1, 4, 5] none)
 (.cond (tm 5) (.seq (.region none [] [
 op 2 (.mov (ci (2)))] [2] none)
 (.ret))
 (.seq (.region none [] [
 op 8 (.bin .eql .int (tm 4) (ci (7))), mv 7 8] [1, 7] none)
 (.cond (tm 7) (.seq (.region none [] [
 op 2 (.mov (ci (9)))] [2] none)
 (.ret))
 (.skip)))))))
 (.seq (.region none [] [
 op 9 (.faddr 0 (tm 1)), op 10 (.load none (tm 9)), mv 2 10] [2] none)
 (.ret)))

def a131 : AFunc := ⟨1, c131, [.tmp 2]⟩

def an131 : List RAnn := [
 { id := 0, live := [1] },
 { id := 1, live := [1, 4] },
 { id := 2, live := [1, 4, 5] },
 { id := 3, live := [2] },
 { id := 4, live := [1, 7] },
 { id := 5, live := [2] },
 { id := 6, live := [2] }]

theorem comp131 : compF Tryz.prog an131 Tryz.f131 = some a131 := by kernel_rfl

/- graphdb/value.Number -/
def c132 : ACode :=
 .seq (.region none [] [
 op 1 (.box 5 (tm 0)), op 2 (.alloc 2 (.agg [.int .i64 0, .int .i64 0])), op 3 (.mov (.cst (.bool false)))] [1, 2] none)
 (.seq (.block 0 (.seq (.region none [] [
 op 5 (.faddr 0 (tm 1)), op 6 (.load none (tm 5)), op 7 (.bin .eql .int (tm 6) (ci (2))), mv 8 7, ⟨some 9, .load (some 5) (tm 1), some (8, true)⟩, ⟨some 10, .call .pure 89 [(tm 9)], some (8, true)⟩, op 11 (.pick (tm 8) (tm 10) (.cst (.bool false))), mv 4 11] [1, 2, 4] none)
 (.cond (tm 4) (.seq (.region none [] [
 op 12 (.faddr 1 (tm 1)), op 13 (.load none (tm 12)), op 14 (.build [.int .i64 0, .int .i64 0] [(0, 1, (tm 13)), (1, 1, (ci (1)))]), ⟨none, .store 2 (tm 2) (tm 14), none⟩, op 3 (.mov (.cst (.bool true)))] [2, 3] none)
 (.ret))
 (.seq (.region none [] [
 op 16 (.faddr 0 (tm 1)), op 17 (.load none (tm 16)), op 18 (.bin .eql .int (tm 17) (ci (3))), mv 19 18, ⟨some 20, .load (some 5) (tm 1), some (19, true)⟩, ⟨some 21, .call .pure 89 [(tm 20)], some (19, true)⟩, op 22 (.pick (tm 19) (tm 21) (.cst (.bool false))), mv 15 22] [1, 2, 15] none)
 (.cond (tm 15) (.seq (.region none [] [
 op 23 (.faddr 1 (tm 1)), op 24 (.load none (tm 23)), op 25 (.faddr 2 (tm 1)), op 26 (.load none (tm 25)), op 27 (.build [.int .i64 0, .int .i64 0] [(0, 1, (tm 24)), (1, 1, (tm 26))]), ⟨none, .store 2 (tm 2) (tm 27), none⟩, op 3 (.mov (.cst (.bool true)))] [2, 3] none)
 (.ret))
 (.skip))))))
 (.seq (.region none [] [
 op 28 (.build [.int .i64 0, .int .i64 0] []), ⟨none, .store 2 (tm 2) (tm 28), none⟩, op 3 (.mov (.cst (.bool false)))] [2, 3] none)
 (.ret)))

def a132 : AFunc := ⟨1, c132, [.cell 2 (some 2), .tmp 3]⟩

def an132 : List RAnn := [
 { id := 0, live := [1, 2] },
 { id := 1, live := [1, 2, 4] },
 { id := 2, live := [2, 3] },
 { id := 3, live := [1, 2, 15] },
 { id := 4, live := [2, 3] },
 { id := 5, live := [2, 3] }]

theorem comp132 : compF Tryz.prog an132 Tryz.f132 = some a132 := by kernel_rfl

/- graphdb/graphdbref04.yes -/
def c134 : ACode :=
 .seq (.region none [] [
 op 2 (.mov (ci (0)))] [0] none)
 (.seq (.seq (.region none [] [
 mv 3 0] [3] none)
 (.cond (tm 3) (.seq (.region none [] [
 op 2 (.mov (ci (2)))] [2] none)
 (.ret))
 (.skip)))
 (.seq (.region none [] [
 op 2 (.mov (ci (0)))] [2] none)
 (.ret)))

def a134 : AFunc := ⟨1, c134, [.tmp 2]⟩

def an134 : List RAnn := [
 { id := 0, live := [0] },
 { id := 1, live := [3] },
 { id := 2, live := [2] },
 { id := 3, live := [2] }]

theorem comp134 : compF Tryz.prog an134 Tryz.f134 = some a134 := by kernel_rfl

/- graphdb/graphdbref04.fields -/
def c135 : ACode :=
 .seq (.region none [] [
 op 2 (.box 5 (tm 0)), op 3 (.box 5 (tm 1)), op 4 (.mov (ci (0)))] [2, 3] none)
 (.seq (.seq (.region none [] [
 op 9 (.faddr 0 (tm 2)), op 10 (.load none (tm 9)), op 11 (.faddr 0 (tm 3)), op 12 (.load none (tm 11)), op 13 (.call .pure 136 [(tm 10), (tm 12)]), mv 5 13] [2, 3, 5] none)
 (.seq (.region none [] [
 mv 14 5, op 15 (.bin .neq .int (tm 14) (ci (0)))] [2, 3, 5, 15] none)
 (.cond (tm 15) (.seq (.region none [] [
 mv 16 5, mv 4 16] [4] none)
 (.ret))
 (.skip))))
 (.seq (.seq (.region none [] [
 op 17 (.faddr 1 (tm 2)), op 18 (.load none (tm 17)), op 19 (.faddr 1 (tm 3)), op 20 (.load none (tm 19)), op 21 (.call .pure 136 [(tm 18), (tm 20)]), mv 6 21] [2, 3, 6] none)
 (.seq (.region none [] [
 mv 22 6, op 23 (.bin .neq .int (tm 22) (ci (0)))] [2, 3, 6, 23] none)
 (.cond (tm 23) (.seq (.region none [] [
 mv 24 6, mv 4 24] [4] none)
 (.ret))
 (.skip))))
 (.seq (.seq (.region none [] [
 op 25 (.faddr 2 (tm 2)), op 26 (.load none (tm 25)), op 27 (.faddr 2 (tm 3)), op 28 (.load none (tm 27)), op 29 (.call .pure 136 [(tm 26), (tm 28)]), mv 7 29] [2, 3, 7] none)
 (.seq (.region none [] [
 mv 30 7, op 31 (.bin .neq .int (tm 30) (ci (0)))] [2, 3, 7, 31] none)
 (.cond (tm 31) (.seq (.region none [] [
 mv 32 7, mv 4 32] [4] none)
 (.ret))
 (.skip))))
 (.seq (.seq (.region none [] [
 op 33 (.faddr 3 (tm 2)), op 34 (.load none (tm 33)), op 35 (.faddr 3 (tm 3)), op 36 (.load none (tm 35)), op 37 (.call .pure 161 [(tm 34), (tm 36)]), mv 8 37] [2, 3, 8] none)
 (.seq (.region none [] [
 mv 38 8, op 39 (.bin .neq .int (tm 38) (ci (0)))] [2, 3, 8, 39] none)
 (.cond (tm 39) (.seq (.region none [] [
 mv 40 8, mv 4 40] [4] none)
 (.ret))
 (.skip))))
 (.seq (.region none [] [
 op 41 (.faddr 4 (tm 2)), op 42 (.load none (tm 41)), op 43 (.faddr 4 (tm 3)), op 44 (.load none (tm 43)), op 45 (.call .pure 162 [(tm 42), (tm 44)]), mv 4 45] [4] none)
 (.ret))))))

def a135 : AFunc := ⟨2, c135, [.tmp 4]⟩

def an135 : List RAnn := [
 { id := 0, live := [2, 3] },
 { id := 1, live := [2, 3, 5] },
 { id := 2, live := [2, 3, 5, 15] },
 { id := 3, live := [4] },
 { id := 4, live := [2, 3, 6] },
 { id := 5, live := [2, 3, 6, 23] },
 { id := 6, live := [4] },
 { id := 7, live := [2, 3, 7] },
 { id := 8, live := [2, 3, 7, 31] },
 { id := 9, live := [4] },
 { id := 10, live := [2, 3, 8] },
 { id := 11, live := [2, 3, 8, 39] },
 { id := 12, live := [4] },
 { id := 13, live := [4] }]

theorem comp135 : compF Tryz.prog an135 Tryz.f135 = some a135 := by kernel_rfl

/- graphdb/graphdbref04.ints -/
def c136 : ACode :=
 .seq (.region none [] [
 op 4 (.mov (ci (0)))] [0, 1] none)
 (.seq (.seq (.region none [] [
 mv 5 0, mv 6 1, op 7 (.bin .lss .int (tm 5) (tm 6))] [0, 1, 7] none)
 (.cond (tm 7) (.seq (.region none [] [
 op 4 (.mov (ci ((-1))))] [4] none)
 (.ret))
 (.skip)))
 (.seq (.seq (.region none [] [
 mv 8 0, mv 9 1, op 10 (.bin .gtr .int (tm 8) (tm 9))] [10] none)
 (.cond (tm 10) (.seq (.region none [] [
 op 4 (.mov (ci (1)))] [4] none)
 (.ret))
 (.skip)))
 (.seq (.region none [] [
 op 4 (.mov (ci (0)))] [4] none)
 (.ret))))

def a136 : AFunc := ⟨2, c136, [.tmp 4]⟩

def an136 : List RAnn := [
 { id := 0, live := [0, 1] },
 { id := 1, live := [0, 1, 7] },
 { id := 2, live := [4] },
 { id := 3, live := [10] },
 { id := 4, live := [4] },
 { id := 5, live := [4] }]

theorem comp136 : compF Tryz.prog an136 Tryz.f136 = some a136 := by kernel_rfl

/- graphdb/graphdbref04.class -/
def c137 : ACode :=
 .seq (.region none [] [
 op 2 (.mov (ci (0)))] [0] none)
 (.seq (.seq (.region none [] [
 mv 3 0] [3] none)
 (.block 0 (.seq (.region none [] [
 op 5 (.bin .eql .int (tm 3) (ci (0))), mv 4 5] [3, 4] none)
 (.cond (tm 4) (.seq (.region none [] [
 op 2 (.mov (ci (0)))] [2] none)
 (.ret))
 (.seq (.region none [] [
 op 7 (.bin .eql .int (tm 3) (ci (1))), mv 6 7] [3, 6] none)
 (.cond (tm 6) (.seq (.region none [] [
 op 2 (.mov (ci (1)))] [2] none)
 (.ret))
 (.seq (.seq (.region none [] [
 op 9 (.bin .eql .int (tm 3) (ci (2))), mv 8 9] [3, 8] none)
 (.cond (tm 8) (.skip)
 (.region none [] [
 op 10 (.bin .eql .int (tm 3) (ci (3))), mv 8 10] [3, 8] none)))
 (.cond (tm 8) (.seq (.region none [] [
 op 2 (.mov (ci (2)))] [2] none)
 (.ret))
 (.seq (.region none [] [
 op 12 (.bin .eql .int (tm 3) (ci (4))), mv 11 12] [3, 11] none)
 (.cond (tm 11) (.seq (.region none [] [
 op 2 (.mov (ci (3)))] [2] none)
 (.ret))
 (.seq (.region none [] [
 op 14 (.bin .eql .int (tm 3) (ci (5))), mv 13 14] [3, 13] none)
 (.cond (tm 13) (.seq (.region none [] [
 op 2 (.mov (ci (4)))] [2] none)
 (.ret))
 (.seq (.region none [] [
 op 16 (.bin .eql .int (tm 3) (ci (6))), mv 15 16] [3, 15] none)
 (.cond (tm 15) (.seq (.region none [] [
 op 2 (.mov (ci (5)))] [2] none)
 (.ret))
 (.seq (.region none [] [
 op 18 (.bin .eql .int (tm 3) (ci (8))), mv 17 18] [17] none)
 (.cond (tm 17) (.seq (.region none [] [
 op 2 (.mov (ci (6)))] [2] none)
 (.ret))
 (.skip)))))))))))))))))
 (.seq (.region none [] [
 op 2 (.mov (ci (7)))] [2] none)
 (.ret)))

def a137 : AFunc := ⟨1, c137, [.tmp 2]⟩

def an137 : List RAnn := [
 { id := 0, live := [0] },
 { id := 1, live := [3] },
 { id := 2, live := [3, 4] },
 { id := 3, live := [2] },
 { id := 4, live := [3, 6] },
 { id := 5, live := [2] },
 { id := 6, live := [3, 8] },
 { id := 7, live := [3, 8] },
 { id := 8, live := [2] },
 { id := 9, live := [3, 11] },
 { id := 10, live := [2] },
 { id := 11, live := [3, 13] },
 { id := 12, live := [2] },
 { id := 13, live := [3, 15] },
 { id := 14, live := [2] },
 { id := 15, live := [17] },
 { id := 16, live := [2] },
 { id := 17, live := [2] }]

theorem comp137 : compF Tryz.prog an137 Tryz.f137 = some a137 := by kernel_rfl

/- graphdb/graphdbref04.Number -/
def c138 : ACode :=
 .seq (.region none [] [
 op 1 (.box 5 (tm 0)), op 2 (.alloc 2 (.agg [.int .i64 0, .int .i64 0])), op 3 (.mov (.cst (.bool false)))] [1, 2] none)
 (.seq (.seq (.region none [] [
 op 4 (.load (some 5) (tm 1)), op 5 (.call .pure 98 [(tm 4)]), op 6 (.un .not (tm 5))] [1, 2, 6] none)
 (.cond (tm 6) (.seq (.region none [] [
 op 7 (.build [.int .i64 0, .int .i64 0] []), ⟨none, .store 2 (tm 2) (tm 7), none⟩, op 3 (.mov (.cst (.bool false)))] [2, 3] none)
 (.ret))
 (.skip)))
 (.seq (.seq (.region none [] [
 op 8 (.faddr 0 (tm 1)), op 9 (.load none (tm 8)), op 10 (.bin .eql .int (tm 9) (ci (2)))] [1, 2, 10] none)
 (.cond (tm 10) (.seq (.region none [] [
 op 11 (.faddr 1 (tm 1)), op 12 (.load none (tm 11)), op 13 (.build [.int .i64 0, .int .i64 0] [(0, 1, (tm 12)), (1, 1, (ci (1)))]), ⟨none, .store 2 (tm 2) (tm 13), none⟩, op 3 (.mov (.cst (.bool true)))] [2, 3] none)
 (.ret))
 (.skip)))
 (.seq (.seq (.region none [] [
 op 14 (.faddr 0 (tm 1)), op 15 (.load none (tm 14)), op 16 (.bin .eql .int (tm 15) (ci (3)))] [1, 2, 16] none)
 (.cond (tm 16) (.seq (.region none [] [
 op 17 (.faddr 1 (tm 1)), op 18 (.load none (tm 17)), op 19 (.faddr 2 (tm 1)), op 20 (.load none (tm 19)), op 21 (.build [.int .i64 0, .int .i64 0] [(0, 1, (tm 18)), (1, 1, (tm 20))]), ⟨none, .store 2 (tm 2) (tm 21), none⟩, op 3 (.mov (.cst (.bool true)))] [2, 3] none)
 (.ret))
 (.skip)))
 (.seq (.region none [] [
 op 22 (.build [.int .i64 0, .int .i64 0] []), ⟨none, .store 2 (tm 2) (tm 22), none⟩, op 3 (.mov (.cst (.bool false)))] [2, 3] none)
 (.ret)))))

def a138 : AFunc := ⟨1, c138, [.cell 2 (some 2), .tmp 3]⟩

def an138 : List RAnn := [
 { id := 0, live := [1, 2] },
 { id := 1, live := [1, 2, 6] },
 { id := 2, live := [2, 3] },
 { id := 3, live := [1, 2, 10] },
 { id := 4, live := [2, 3] },
 { id := 5, live := [1, 2, 16] },
 { id := 6, live := [2, 3] },
 { id := 7, live := [2, 3] }]

theorem comp138 : compF Tryz.prog an138 Tryz.f138 = some a138 := by kernel_rfl

/- graphdb/graphdbref03.Cmp -/
def c139 : ACode :=
 .seq (.region none [] [
 op 2 (.box 2 (tm 0)), op 3 (.box 2 (tm 1)), op 4 (.mov (ci (0)))] [2, 3] none)
 (.seq (.seq (.region none [] [
 op 7 (.load (some 2) (tm 2)), op 8 (.call .pure 163 [(tm 7)]), op 9 (.un .not (tm 8))] [2, 3, 9] none)
 (.cond (tm 9) (.region none [] [
 op 10 (.build [.int .i64 0, .int .i64 0] [(1, 1, (ci (1)))]), ⟨none, .store 2 (tm 2) (tm 10), none⟩] [2, 3] none)
 (.skip)))
 (.seq (.seq (.region none [] [
 op 11 (.load (some 2) (tm 3)), op 12 (.call .pure 163 [(tm 11)]), op 13 (.un .not (tm 12))] [2, 3, 13] none)
 (.cond (tm 13) (.region none [] [
 op 14 (.build [.int .i64 0, .int .i64 0] [(1, 1, (ci (1)))]), ⟨none, .store 2 (tm 3) (tm 14), none⟩] [2, 3] none)
 (.skip)))
 (.seq (.region (some 25) [] [
 op 16 (.faddr 0 (tm 2)), op 17 (.load none (tm 16)), op 18 (.call .pure 165 [(tm 17)]), op 19 (.faddr 0 (tm 2)), op 20 (.load none (tm 19)), op 21 (.call .pure 167 [(tm 20)]), op 22 (.faddr 1 (tm 3)), op 23 (.load none (tm 22)), op 24 (.call .pure 166 [(tm 21), (tm 23)]), op 25 (.faddr 0 (tm 3)), op 26 (.load none (tm 25)), op 27 (.call .pure 165 [(tm 26)]), op 28 (.un .neg (tm 27)), op 29 (.faddr 0 (tm 3)), op 30 (.load none (tm 29)), op 31 (.call .pure 167 [(tm 30)]), op 32 (.faddr 1 (tm 2)), op 33 (.load none (tm 32)), op 34 (.call .pure 166 [(tm 31), (tm 33)]), op 35 (.call .pure 164 [(tm 18), (tm 24), (tm 28), (tm 34)]), mv 15 35, op 36 (.ext (tm 15) 0), op 37 (.ext (tm 15) 1), mv 5 36, mv 6 37] [5] none)
 (.seq (.region none [] [
 mv 38 5, mv 4 38] [4] none)
 (.ret)))))

def a139 : AFunc := ⟨2, c139, [.tmp 4]⟩

def an139 : List RAnn := [
 { id := 0, live := [2, 3] },
 { id := 1, live := [2, 3, 9] },
 { id := 2, live := [2, 3] },
 { id := 3, live := [2, 3, 13] },
 { id := 4, live := [2, 3] },
 { id := 5, head := some 25, live := [5] },
 { id := 6, live := [4] }]

theorem comp139 : compF Tryz.prog an139 Tryz.f139 = some a139 := by kernel_rfl

/- graphdb/graphdbref04.valid -/
def c140 : ACode :=
 .seq (.region none [] [
 op 2 (.box 5 (tm 0)), op 4 (.mov (.cst (.bool false)))] [1, 2] none)
 (.seq (.seq (.region none [] [
 op 5 (.faddr 0 (tm 2)), op 6 (.load none (tm 5))] [1, 2, 6] none)
 (.block 0 (.seq (.region none [] [
 op 8 (.bin .eql .int (tm 6) (ci (0))), mv 7 8] [1, 2, 6, 7] none)
 (.cond (tm 7) (.seq (.region none [] [
 op 9 (.load (some 5) (tm 2)), op 10 (.call .pure 168 [(tm 9), (.cst (.bool false)), (.cst (.bool false)), (.cst (.bool false)), (.cst (.bool false))]), mv 4 10] [4] none)
 (.ret))
 (.seq (.region none [] [
 op 12 (.bin .eql .int (tm 6) (ci (1))), mv 11 12] [1, 2, 6, 11] none)
 (.cond (tm 11) (.seq (.region none [] [
 op 13 (.load (some 5) (tm 2)), op 14 (.call .pure 168 [(tm 13), (.cst (.bool true)), (.cst (.bool false)), (.cst (.bool false)), (.cst (.bool false))]), mv 15 14, ⟨some 16, .faddr 1 (tm 2), some (15, true)⟩, ⟨some 17, .load none (tm 16), some (15, true)⟩, ⟨some 18, .bin .eql .int (tm 17) (ci (0)), some (15, true)⟩, mg 19 18 15 true, ⟨some 20, .faddr 1 (tm 2), some (19, false)⟩, ⟨some 21, .load none (tm 20), some (19, false)⟩, ⟨some 22, .bin .eql .int (tm 21) (ci (1)), some (19, false)⟩, ⟨some 23, .pick (tm 19) (.cst (.bool true)) (tm 22), some (15, true)⟩, op 24 (.pick (tm 15) (tm 23) (.cst (.bool false))), mv 4 24] [4] none)
 (.ret))
 (.seq (.region none [] [
 op 26 (.bin .eql .int (tm 6) (ci (2))), mv 25 26] [1, 2, 6, 25] none)
 (.cond (tm 25) (.seq (.region none [] [
 op 27 (.load (some 5) (tm 2)), op 28 (.call .pure 168 [(tm 27), (.cst (.bool true)), (.cst (.bool false)), (.cst (.bool false)), (.cst (.bool false))]), mv 29 28, ⟨some 30, .faddr 1 (tm 2), some (29, true)⟩, ⟨some 31, .load none (tm 30), some (29, true)⟩, ⟨some 32, .call .pure 169 [(tm 31)], some (29, true)⟩, op 33 (.pick (tm 29) (tm 32) (.cst (.bool false))), mv 4 33] [4] none)
 (.ret))
 (.seq (.region none [] [
 op 35 (.bin .eql .int (tm 6) (ci (3))), mv 34 35] [1, 2, 6, 34] none)
 (.cond (tm 34) (.seq (.region none [] [
 op 36 (.load (some 5) (tm 2)), op 37 (.call .pure 168 [(tm 36), (.cst (.bool true)), (.cst (.bool true)), (.cst (.bool false)), (.cst (.bool false))]), mv 38 37, ⟨some 39, .faddr 2 (tm 2), some (38, true)⟩, ⟨some 40, .load none (tm 39), some (38, true)⟩, ⟨some 41, .bin .geq .int (tm 40) (ci (2)), some (38, true)⟩, op 42 (.pick (tm 38) (tm 41) (.cst (.bool false))), mv 43 42, ⟨some 44, .faddr 1 (tm 2), some (43, true)⟩, ⟨some 45, .load none (tm 44), some (43, true)⟩, ⟨some 46, .faddr 2 (tm 2), some (43, true)⟩, ⟨some 47, .load none (tm 46), some (43, true)⟩, ⟨some 48, .build [.int .i64 0, .int .i64 0] [(0, 1, (tm 45)), (1, 1, (tm 47))], some (43, true)⟩, ⟨some 49, .call .pure 163 [(tm 48)], some (43, true)⟩, op 50 (.pick (tm 43) (tm 49) (.cst (.bool false))), mv 4 50] [4] none)
 (.ret))
 (.seq (.region none [] [
 op 52 (.bin .eql .int (tm 6) (ci (4))), mv 51 52] [1, 2, 6, 51] none)
 (.cond (tm 51) (.seq (.region none [] [
 op 53 (.load (some 5) (tm 2)), op 54 (.call .pure 168 [(tm 53), (.cst (.bool false)), (.cst (.bool false)), (.cst (.bool true)), (.cst (.bool false))]), mv 55 54, ⟨some 56, .faddr 3 (tm 2), some (55, true)⟩, ⟨some 57, .load none (tm 56), some (55, true)⟩, ⟨some 58, .call .pure 170 [(tm 57)], some (55, true)⟩, op 59 (.pick (tm 55) (tm 58) (.cst (.bool false))), mv 4 59] [4] none)
 (.ret))
 (.seq (.seq (.region none [] [
 op 61 (.bin .eql .int (tm 6) (ci (5))), mv 60 61] [1, 2, 6, 60] none)
 (.cond (tm 60) (.skip)
 (.region none [] [
 op 62 (.bin .eql .int (tm 6) (ci (6))), mv 60 62] [1, 2, 6, 60] none)))
 (.cond (tm 60) (.seq (.region none [] [
 op 63 (.load (some 5) (tm 2)), op 64 (.call .pure 168 [(tm 63), (.cst (.bool true)), (.cst (.bool false)), (.cst (.bool false)), (.cst (.bool false))]), mv 65 64, ⟨some 66, .faddr 1 (tm 2), some (65, true)⟩, ⟨some 67, .load none (tm 66), some (65, true)⟩, ⟨some 68, .bin .geq .int (tm 67) (ci (1)), some (65, true)⟩, op 69 (.pick (tm 65) (tm 68) (.cst (.bool false))), mv 70 69, ⟨some 71, .faddr 1 (tm 2), some (70, true)⟩, ⟨some 72, .load none (tm 71), some (70, true)⟩, ⟨some 73, .bin .leq .int (tm 72) (ci (1000000)), some (70, true)⟩, op 74 (.pick (tm 70) (tm 73) (.cst (.bool false))), mv 4 74] [4] none)
 (.ret))
 (.seq (.region none [] [
 op 76 (.bin .eql .int (tm 6) (ci (7))), mv 75 76] [1, 2, 6, 75] none)
 (.cond (tm 75) (.seq (.region none [] [
 op 77 (.load (some 5) (tm 2)), op 78 (.call .pure 168 [(tm 77), (.cst (.bool false)), (.cst (.bool false)), (.cst (.bool false)), (.cst (.bool true))]), mv 79 78, ⟨some 80, .faddr 4 (tm 2), some (79, true)⟩, ⟨some 81, .load none (tm 80), some (79, true)⟩, ⟨some 82, .call .pure 171 [(tm 81)], some (79, true)⟩, op 83 (.pick (tm 79) (tm 82) (.cst (.bool false))), mv 4 83] [4] none)
 (.ret))
 (.seq (.region none [] [
 op 85 (.bin .eql .int (tm 6) (ci (8))), mv 84 85] [1, 2, 84] none)
 (.cond (tm 84) (.seq (.region none [] [
 op 86 (.load (some 5) (tm 2)), op 87 (.call .pure 168 [(tm 86), (.cst (.bool false)), (.cst (.bool false)), (.cst (.bool false)), (.cst (.bool true))]), mv 88 87, ⟨some 89, .faddr 4 (tm 2), some (88, true)⟩, ⟨some 90, .load none (tm 89), some (88, true)⟩, mg 91 1 88 true, ⟨some 92, .call .pure 172 [(tm 90), (tm 91)], some (88, true)⟩, op 93 (.pick (tm 88) (tm 92) (.cst (.bool false))), mv 4 93] [4] none)
 (.ret))
 (.skip)))))))))))))))))))
 (.seq (.region none [] [
 op 4 (.mov (.cst (.bool false)))] [4] none)
 (.ret)))

def a140 : AFunc := ⟨2, c140, [.tmp 4]⟩

def an140 : List RAnn := [
 { id := 0, live := [1, 2] },
 { id := 1, live := [1, 2, 6] },
 { id := 2, live := [1, 2, 6, 7] },
 { id := 3, live := [4] },
 { id := 4, live := [1, 2, 6, 11] },
 { id := 5, live := [4] },
 { id := 6, live := [1, 2, 6, 25] },
 { id := 7, live := [4] },
 { id := 8, live := [1, 2, 6, 34] },
 { id := 9, live := [4] },
 { id := 10, live := [1, 2, 6, 51] },
 { id := 11, live := [4] },
 { id := 12, live := [1, 2, 6, 60] },
 { id := 13, live := [1, 2, 6, 60] },
 { id := 14, live := [4] },
 { id := 15, live := [1, 2, 6, 75] },
 { id := 16, live := [4] },
 { id := 17, live := [1, 2, 84] },
 { id := 18, live := [4] },
 { id := 19, live := [4] }]

theorem comp140 : compF Tryz.prog an140 Tryz.f140 = some a140 := by kernel_rfl

/- slices.nextPowerOfTwo -/
def c143 : ACode :=
 .seq (.region none [] [
 op 2 (.mov (.cst (.int .u64 0)))] [0] none)
 (.seq (.region none [] [
 mv 3 0, op 4 (.conv .u64 (tm 3)), op 5 (.call .pure 65 [(tm 4)]), op 6 (.bin .shl .int (.cst (.int .u64 1)) (tm 5)), mv 2 6] [2] none)
 (.ret))

def a143 : AFunc := ⟨1, c143, [.tmp 2]⟩

def an143 : List RAnn := [
 { id := 0, live := [0] },
 { id := 1, live := [2] }]

theorem comp143 : compF Tryz.prog an143 Tryz.f143 = some a143 := by kernel_rfl

/- (*slices.xorshift).Next -/
def c144 : ACode :=
 .seq (.region none [] [
 op 2 (.mov (.cst (.int .u64 0)))] [0] none)
 (.seq (.region (some 9) [] [
 mv 3 0, op 4 (.nilchk (tm 3)), op 5 (.load none (tm 4)), mv 6 0, op 7 (.nilchk (tm 6)), op 8 (.load none (tm 7)), op 9 (.bin .shl .int (tm 8) (.cst (.int .u64 13))), op 10 (.bin .xor .int (tm 5) (tm 9)), op 11 (.nilchk (tm 3)), ⟨none, .store 1 (tm 11) (tm 10), none⟩] [0] none)
 (.seq (.region (some 9) [] [
 mv 12 0, op 13 (.nilchk (tm 12)), op 14 (.load none (tm 13)), mv 15 0, op 16 (.nilchk (tm 15)), op 17 (.load none (tm 16)), op 18 (.bin .shr .int (tm 17) (.cst (.int .u64 7))), op 19 (.bin .xor .int (tm 14) (tm 18)), op 20 (.nilchk (tm 12)), ⟨none, .store 1 (tm 20) (tm 19), none⟩] [0] none)
 (.seq (.region (some 9) [] [
 mv 21 0, op 22 (.nilchk (tm 21)), op 23 (.load none (tm 22)), mv 24 0, op 25 (.nilchk (tm 24)), op 26 (.load none (tm 25)), op 27 (.bin .shl .int (tm 26) (.cst (.int .u64 17))), op 28 (.bin .xor .int (tm 23) (tm 27)), op 29 (.nilchk (tm 21)), ⟨none, .store 1 (tm 29) (tm 28), none⟩] [0] none)
 (.seq (.region none [] [
 mv 30 0, op 31 (.nilchk (tm 30)), op 32 (.load none (tm 31)), mv 2 32] [2] none)
 (.ret)))))

def a144 : AFunc := ⟨1, c144, [.tmp 2]⟩

def an144 : List RAnn := [
 { id := 0, live := [0] },
 { id := 1, head := some 9, live := [0] },
 { id := 2, head := some 9, live := [0] },
 { id := 3, head := some 9, live := [0] },
 { id := 4, live := [2] }]

theorem comp144 : compF Tryz.prog an144 Tryz.f144 = some a144 := by kernel_rfl

/- slices.IndexFunc[[]string,string] -/
/-- loop 0 of function 147 -/
def l147_0_h : List Nat := [0, 1, 7, 8]

def l147_0_b : ACode :=
 .seq (.region none [] [
 op 9 (.bin .lss .int (tm 8) (tm 7))] [0, 1, 7, 8, 9] none)
 (.seq (.cond (tm 9) (.skip)
 (.exit 0))
 (.seq (.block 1 (.seq (.region none [] [
 mv 10 8, mv 5 10] [0, 1, 5, 7, 8] none)
 (.seq (.region none [] [
 mv 11 1, mv 12 0, mv 13 5, op 14 (.iaddr 1 (tm 12) (tm 13)), op 15 (.load none (tm 14)), op 16 (.callv .pure (tm 11) [(tm 15)])] [0, 1, 5, 7, 8, 16] none)
 (.cond (tm 16) (.seq (.region none [] [
 mv 17 5, mv 4 17] [4] none)
 (.ret))
 (.skip)))))
 (.region none [] [
 op 18 (.bin .add .int (tm 8) (ci (1))), mv 8 18] [0, 1, 7, 8] none)))

def c147 : ACode :=
 .seq (.region none [] [
 op 4 (.mov (ci (0)))] [0, 1] none)
 (.seq (.seq (.region none [] [
 mv 6 0, op 7 (.len .slice (tm 6)), op 8 (.mov (ci (0)))] [0, 1, 7, 8] none)
 (.block 0 (.loop l147_0_h l147_0_b)))
 (.seq (.region none [] [
 op 4 (.mov (ci ((-1))))] [4] none)
 (.ret)))

def a147 : AFunc := ⟨2, c147, [.tmp 4]⟩

def an147 : List RAnn := [
 { id := 0, live := [0, 1] },
 { id := 1, live := [0, 1, 7, 8] },
 { id := 2, live := [0, 1, 7, 8, 9], hdr := [0, 1, 7, 8] },
 { id := 3, live := [0, 1, 5, 7, 8] },
 { id := 4, live := [0, 1, 5, 7, 8, 16] },
 { id := 5, live := [4] },
 { id := 6, live := [0, 1, 7, 8] },
 { id := 7, live := [4] }]

theorem comp147 : compF Tryz.prog an147 Tryz.f147 = some a147 := by kernel_rfl

/- slices.pdqsortOrdered[string] -/
/-- loop 0 of function 148 -/
def l148_0_h : List Nat := [0, 1, 2, 3, 8, 9]

def l148_0_b : ACode :=
 .block 1 (.seq (.region none [] [
 mv 19 2, mv 20 1, op 21 (.bin .sub .int (tm 19) (tm 20)), mv 10 21] [0, 1, 2, 3, 8, 9, 10] none)
 (.seq (.seq (.region none [] [
 mv 22 10, op 23 (.bin .leq .int (tm 22) (ci (12)))] [0, 1, 2, 3, 8, 9, 10, 23] none)
 (.cond (tm 23) (.seq (.region none [] [
 mv 24 0, mv 25 1, mv 26 2, op 27 (.call .share 175 [(tm 24), (tm 25), (tm 26)])] [] none)
 (.ret))
 (.skip)))
 (.seq (.seq (.region none [] [
 mv 28 3, op 29 (.bin .eql .int (tm 28) (ci (0)))] [0, 1, 2, 3, 8, 9, 10, 29] none)
 (.cond (tm 29) (.seq (.region none [] [
 mv 30 0, mv 31 1, mv 32 2, op 33 (.call .share 176 [(tm 30), (tm 31), (tm 32)])] [] none)
 (.ret))
 (.skip)))
 (.seq (.seq (.region none [] [
 mv 34 8, op 35 (.un .not (tm 34))] [0, 1, 2, 3, 8, 9, 10, 35] none)
 (.cond (tm 35) (.seq (.region none [] [
 mv 36 0, mv 37 1, mv 38 2, op 39 (.call .share 177 [(tm 36), (tm 37), (tm 38)])] [0, 1, 2, 3, 8, 9, 10] none)
 (.region none [] [
 mv 40 3, op 41 (.bin .sub .int (tm 40) (ci (1))), mv 3 41] [0, 1, 2, 3, 8, 9, 10] none))
 (.skip)))
 (.seq (.region none [] [
 mv 43 0, mv 44 1, mv 45 2, op 46 (.call .share 178 [(tm 43), (tm 44), (tm 45)]), mv 42 46, op 47 (.ext (tm 42) 0), op 48 (.ext (tm 42) 1), mv 11 47, mv 12 48] [0, 1, 2, 3, 8, 9, 10, 11, 12] none)
 (.seq (.seq (.region none [] [
 mv 49 12, op 50 (.bin .eql .int (tm 49) (ci (2)))] [0, 1, 2, 3, 8, 9, 10, 11, 12, 50] none)
 (.cond (tm 50) (.seq (.region none [] [
 mv 51 0, mv 52 1, mv 53 2, op 54 (.call .share 179 [(tm 51), (tm 52), (tm 53)])] [0, 1, 2, 3, 8, 9, 10, 11] none)
 (.seq (.region none [] [
 mv 55 2, op 56 (.bin .sub .int (tm 55) (ci (1))), mv 57 11, mv 58 1, op 59 (.bin .sub .int (tm 57) (tm 58)), op 60 (.bin .sub .int (tm 56) (tm 59)), mv 11 60] [0, 1, 2, 3, 8, 9, 10, 11] none)
 (.region none [] [
 op 12 (.mov (ci (1)))] [0, 1, 2, 3, 8, 9, 10, 11, 12] none)))
 (.skip)))
 (.seq (.seq (.region none [] [
 mv 61 8, mv 62 61, mg 63 9 62 true, op 64 (.pick (tm 62) (tm 63) (.cst (.bool false))), mv 65 64, mg 66 12 65 true, ⟨some 67, .bin .eql .int (tm 66) (ci (1)), some (65, true)⟩, op 68 (.pick (tm 65) (tm 67) (.cst (.bool false)))] [0, 1, 2, 3, 8, 9, 10, 11, 68] none)
 (.cond (tm 68) (.seq (.region none [] [
 mv 69 0, mv 70 1, mv 71 2, op 72 (.call .share 180 [(tm 69), (tm 70), (tm 71)])] [0, 1, 2, 3, 8, 9, 10, 11, 72] none)
 (.cond (tm 72) (.ret)
 (.skip)))
 (.skip)))
 (.seq (.seq (.region (some 15) [] [
 mv 73 1, op 74 (.bin .gtr .int (tm 73) (ci (0))), mv 75 74, mg 76 0 75 true, mg 77 1 75 true, ⟨some 78, .bin .sub .int (tm 77) (ci (1)), some (75, true)⟩, ⟨some 79, .iaddr 1 (tm 76) (tm 78), some (75, true)⟩, ⟨some 80, .load none (tm 79), some (75, true)⟩, mg 81 0 75 true, mg 82 11 75 true, ⟨some 83, .iaddr 1 (tm 81) (tm 82), some (75, true)⟩, ⟨some 84, .load none (tm 83), some (75, true)⟩, ⟨some 85, .call .pure 181 [(tm 80), (tm 84)], some (75, true)⟩, ⟨some 86, .un .not (tm 85), some (75, true)⟩, op 87 (.pick (tm 75) (tm 86) (.cst (.bool false)))] [0, 1, 2, 3, 8, 9, 10, 11, 87] none)
 (.cond (tm 87) (.seq (.region none [] [
 mv 88 0, mv 89 1, mv 90 2, mv 91 11, op 92 (.call .share 182 [(tm 88), (tm 89), (tm 90), (tm 91)]), mv 13 92] [0, 2, 3, 8, 9, 13] none)
 (.seq (.region none [] [
 mv 93 13, mv 1 93] [0, 1, 2, 3, 8, 9] none)
 (.exit 1)))
 (.skip)))
 (.seq (.region none [] [
 mv 95 0, mv 96 1, mv 97 2, mv 98 11, op 99 (.call .share 183 [(tm 95), (tm 96), (tm 97), (tm 98)]), mv 94 99, op 100 (.ext (tm 94) 0), op 101 (.ext (tm 94) 1), mv 14 100, mv 15 101] [0, 1, 2, 3, 10, 14, 15] none)
 (.seq (.region none [] [
 mv 102 15, mv 9 102] [0, 1, 2, 3, 9, 10, 14] none)
 (.seq (.region none [] [
 mv 103 14, mv 104 1, op 105 (.bin .sub .int (tm 103) (tm 104)), mv 106 2, mv 107 14, op 108 (.bin .sub .int (tm 106) (tm 107)), mv 16 105, mv 17 108] [0, 1, 2, 3, 9, 10, 14, 16, 17] none)
 (.seq (.region none [] [
 mv 109 10, op 110 (.bin .quo .int (tm 109) (ci (8))), mv 18 110] [0, 1, 2, 3, 9, 14, 16, 17, 18] none)
 (.seq (.region none [] [
 mv 111 16, mv 112 17, op 113 (.bin .lss .int (tm 111) (tm 112))] [0, 1, 2, 3, 9, 14, 16, 17, 18, 113] none)
 (.cond (tm 113) (.seq (.region none [] [
 mv 114 16, mv 115 18, op 116 (.bin .geq .int (tm 114) (tm 115)), mv 8 116] [0, 1, 2, 3, 8, 9, 14] none)
 (.seq (.region none [] [
 mv 117 0, mv 118 1, mv 119 14, mv 120 3, op 121 (.call .share 148 [(tm 117), (tm 118), (tm 119), (tm 120)])] [0, 2, 3, 8, 9, 14] none)
 (.region none [] [
 mv 122 14, op 123 (.bin .add .int (tm 122) (ci (1))), mv 1 123] [0, 1, 2, 3, 8, 9] none)))
 (.seq (.region none [] [
 mv 124 17, mv 125 18, op 126 (.bin .geq .int (tm 124) (tm 125)), mv 8 126] [0, 1, 2, 3, 8, 9, 14] none)
 (.seq (.region none [] [
 mv 127 0, mv 128 14, op 129 (.bin .add .int (tm 128) (ci (1))), mv 130 2, mv 131 3, op 132 (.call .share 148 [(tm 127), (tm 129), (tm 130), (tm 131)])] [0, 1, 3, 8, 9, 14] none)
 (.region none [] [
 mv 133 14, mv 2 133] [0, 1, 2, 3, 8, 9] none)))))))))))))))))

def c148 : ACode :=
 .seq (.region none [] [
 op 8 (.mov (.cst (.bool true)))] [0, 1, 2, 3, 8] none)
 (.seq (.region none [] [
 op 9 (.mov (.cst (.bool true)))] [0, 1, 2, 3, 8, 9] none)
 (.block 0 (.loop l148_0_h l148_0_b)))

def a148 : AFunc := ⟨4, c148, []⟩

def an148 : List RAnn := [
 { id := 0, live := [0, 1, 2, 3, 8] },
 { id := 1, live := [0, 1, 2, 3, 8, 9] },
 { id := 2, live := [0, 1, 2, 3, 8, 9, 10], hdr := [0, 1, 2, 3, 8, 9] },
 { id := 3, live := [0, 1, 2, 3, 8, 9, 10, 23] },
 { id := 4, ops := [(3, .mode .share)] },
 { id := 5, live := [0, 1, 2, 3, 8, 9, 10, 29] },
 { id := 6, ops := [(3, .mode .share)] },
 { id := 7, live := [0, 1, 2, 3, 8, 9, 10, 35] },
 { id := 8, live := [0, 1, 2, 3, 8, 9, 10], ops := [(3, .mode .share)] },
 { id := 9, live := [0, 1, 2, 3, 8, 9, 10] },
 { id := 10, live := [0, 1, 2, 3, 8, 9, 10, 11, 12], ops := [(3, .mode .share)] },
 { id := 11, live := [0, 1, 2, 3, 8, 9, 10, 11, 12, 50] },
 { id := 12, live := [0, 1, 2, 3, 8, 9, 10, 11], ops := [(3, .mode .share)] },
 { id := 13, live := [0, 1, 2, 3, 8, 9, 10, 11] },
 { id := 14, live := [0, 1, 2, 3, 8, 9, 10, 11, 12] },
 { id := 15, live := [0, 1, 2, 3, 8, 9, 10, 11, 68] },
 { id := 16, live := [0, 1, 2, 3, 8, 9, 10, 11, 72], ops := [(3, .mode .share)] },
 { id := 17, head := some 15, live := [0, 1, 2, 3, 8, 9, 10, 11, 87] },
 { id := 18, live := [0, 2, 3, 8, 9, 13], ops := [(4, .mode .share)] },
 { id := 19, live := [0, 1, 2, 3, 8, 9] },
 { id := 20, live := [0, 1, 2, 3, 10, 14, 15], ops := [(4, .mode .share)] },
 { id := 21, live := [0, 1, 2, 3, 9, 10, 14] },
 { id := 22, live := [0, 1, 2, 3, 9, 10, 14, 16, 17] },
 { id := 23, live := [0, 1, 2, 3, 9, 14, 16, 17, 18] },
 { id := 24, live := [0, 1, 2, 3, 9, 14, 16, 17, 18, 113] },
 { id := 25, live := [0, 1, 2, 3, 8, 9, 14] },
 { id := 26, live := [0, 2, 3, 8, 9, 14], ops := [(4, .mode .share)] },
 { id := 27, live := [0, 1, 2, 3, 8, 9] },
 { id := 28, live := [0, 1, 2, 3, 8, 9, 14] },
 { id := 29, live := [0, 1, 3, 8, 9, 14], ops := [(5, .mode .share)] },
 { id := 30, live := [0, 1, 2, 3, 8, 9] }]

theorem comp148 : compF Tryz.prog an148 Tryz.f148 = some a148 := by kernel_rfl

/- slices.Clone[[]graphdb/api.Value,graphdb/api.Value] -/
def c149 : ACode :=
 .seq (.region none [] [
 op 2 (.mov (.cst (.sl false [])))] [0] none)
 (.seq (.seq (.region none [] [
 mv 3 0, op 4 (.bin .eql .slice (tm 3) (.cst (.sl false [])))] [0, 4] none)
 (.cond (tm 4) (.seq (.region none [] [
 op 2 (.mov (.cst (.sl false [])))] [2] none)
 (.ret))
 (.skip)))
 (.seq (.region none [] [
 op 5 (.lit true 5 (.agg [.int .i64 0, .int .i64 0, .int .i64 0, .str [], .sl false []]) 0 []), mv 6 0, op 7 (.append 5 64 (tm 5) (tm 6)), mv 2 7] [2] none)
 (.ret)))

def a149 : AFunc := ⟨1, c149, [.tmp 2]⟩

def an149 : List RAnn := [
 { id := 0, live := [0] },
 { id := 1, live := [0, 4] },
 { id := 2, live := [2] },
 { id := 3, live := [2], ops := [(0, .own)] }]

theorem comp149 : compF Tryz.prog an149 Tryz.f149 = some a149 := by kernel_rfl

/- graphdb/graphdbref07.keys -/
/-- loop 0 of function 150 -/
def l150_0_h : List Nat := [0, 3, 4]

def l150_0_b : ACode :=
 .seq (.seq (.region none [] [
 mv 5 4, mv 6 0, op 7 (.len .slice (tm 6)), op 8 (.bin .lss .int (tm 5) (tm 7))] [0, 3, 4, 8] none)
 (.cond (tm 8) (.skip)
 (.exit 0)))
 (.seq (.block 1 (.region none [] [
 mv 11 3, mv 12 0, mv 13 4, op 14 (.iaddr 6 (tm 12) (tm 13)), op 15 (.faddr 0 (tm 14)), op 16 (.load none (tm 15)), op 17 (.lit false 1 (.str []) 1 [(0, (tm 16))]), op 18 (.append 1 16 (tm 11) (tm 17)), mv 3 18] [0, 3, 4] none))
 (.region none [] [
 mv 9 4, op 10 (.bin .add .int (tm 9) (ci (1))), mv 4 10] [0, 3, 4] none))

def c150 : ACode :=
 .seq (.region none [] [
 op 2 (.mov (.cst (.sl false [])))] [0] none)
 (.seq (.region none [] [
 op 3 (.newown 1)] [0, 3] none)
 (.seq (.seq (.region none [] [
 op 4 (.mov (ci (0)))] [0, 3, 4] none)
 (.block 0 (.loop l150_0_h l150_0_b)))
 (.seq (.region none [] [
 mv 19 3, mv 2 19] [2] none)
 (.ret))))

def a150 : AFunc := ⟨1, c150, [.tmp 2]⟩

def an150 : List RAnn := [
 { id := 0, live := [0] },
 { id := 1, live := [0, 3], ops := [(0, .own)] },
 { id := 2, live := [0, 3, 4] },
 { id := 3, live := [0, 3, 4, 8], hdr := [0, 3, 4] },
 { id := 5, live := [0, 3, 4] },
 { id := 4, live := [0, 3, 4] },
 { id := 6, live := [2] }]

theorem comp150 : compF Tryz.prog an150 Tryz.f150 = some a150 := by kernel_rfl

/- graphdb/graphdbref07.Names -/
/-- loop 0 of function 151 -/
def l151_0_h : List Nat := [0, 3]

def l151_0_b : ACode :=
 .seq (.seq (.region none [] [
 mv 4 3, mv 5 0, op 6 (.len .slice (tm 5)), op 7 (.bin .lss .int (tm 4) (tm 6))] [0, 3, 7] none)
 (.cond (tm 7) (.skip)
 (.exit 0)))
 (.seq (.block 1 (.seq (.region none [] [
 mv 10 0, mv 11 3, op 12 (.iaddr 1 (tm 10) (tm 11)), op 13 (.load none (tm 12)), op 14 (.call .pure 50 [(tm 13)]), op 15 (.un .not (tm 14))] [0, 3, 15] none)
 (.cond (tm 15) (.seq (.region none [] [
 op 2 (.mov (.cst (.bool false)))] [2] none)
 (.ret))
 (.skip))))
 (.region none [] [
 mv 8 3, op 9 (.bin .add .int (tm 8) (ci (1))), mv 3 9] [0, 3] none))

def c151 : ACode :=
 .seq (.region none [] [
 op 2 (.mov (.cst (.bool false)))] [0] none)
 (.seq (.seq (.region none [] [
 op 3 (.mov (ci (0)))] [0, 3] none)
 (.block 0 (.loop l151_0_h l151_0_b)))
 (.seq (.region none [] [
 op 2 (.mov (.cst (.bool true)))] [2] none)
 (.ret)))

def a151 : AFunc := ⟨1, c151, [.tmp 2]⟩

def an151 : List RAnn := [
 { id := 0, live := [0] },
 { id := 1, live := [0, 3] },
 { id := 2, live := [0, 3, 7], hdr := [0, 3] },
 { id := 4, live := [0, 3, 15] },
 { id := 5, live := [2] },
 { id := 3, live := [0, 3] },
 { id := 6, live := [2] }]

theorem comp151 : compF Tryz.prog an151 Tryz.f151 = some a151 := by kernel_rfl

/- graphdb/graphdbref07.Rises -/
/-- loop 0 of function 152 -/
def l152_0_h : List Nat := [0, 3]

def l152_0_b : ACode :=
 .seq (.seq (.region none [] [
 mv 4 3, mv 5 0, op 6 (.len .slice (tm 5)), op 7 (.bin .lss .int (tm 4) (tm 6))] [0, 3, 7] none)
 (.cond (tm 7) (.skip)
 (.exit 0)))
 (.seq (.block 1 (.seq (.region (some 10) [] [
 mv 10 0, mv 11 3, op 12 (.iaddr 1 (tm 10) (tm 11)), op 13 (.load none (tm 12)), mv 14 0, mv 15 3, op 16 (.bin .sub .int (tm 15) (ci (1))), op 17 (.iaddr 1 (tm 14) (tm 16)), op 18 (.load none (tm 17)), op 19 (.bin .leq .str (tm 13) (tm 18))] [0, 3, 19] none)
 (.cond (tm 19) (.seq (.region none [] [
 op 2 (.mov (.cst (.bool false)))] [2] none)
 (.ret))
 (.skip))))
 (.region none [] [
 mv 8 3, op 9 (.bin .add .int (tm 8) (ci (1))), mv 3 9] [0, 3] none))

def c152 : ACode :=
 .seq (.region none [] [
 op 2 (.mov (.cst (.bool false)))] [0] none)
 (.seq (.seq (.region none [] [
 op 3 (.mov (ci (1)))] [0, 3] none)
 (.block 0 (.loop l152_0_h l152_0_b)))
 (.seq (.region none [] [
 op 2 (.mov (.cst (.bool true)))] [2] none)
 (.ret)))

def a152 : AFunc := ⟨1, c152, [.tmp 2]⟩

def an152 : List RAnn := [
 { id := 0, live := [0] },
 { id := 1, live := [0, 3] },
 { id := 2, live := [0, 3, 7], hdr := [0, 3] },
 { id := 4, head := some 10, live := [0, 3, 19] },
 { id := 5, live := [2] },
 { id := 3, live := [0, 3] },
 { id := 6, live := [2] }]

theorem comp152 : compF Tryz.prog an152 Tryz.f152 = some a152 := by kernel_rfl

/- graphdb/num.In -/
def c153 : ACode :=
 .seq (.region none [] [
 op 2 (.mov (.cst (.bool false)))] [0] none)
 (.seq (.region none [] [
 mv 3 0, op 4 (.bin .geq .int (tm 3) (ci ((-1000000000000000)))), mv 5 4, mg 6 0 5 true, ⟨some 7, .bin .leq .int (tm 6) (ci (1000000000000000)), some (5, true)⟩, op 8 (.pick (tm 5) (tm 7) (.cst (.bool false))), mv 2 8] [2] none)
 (.ret))

def a153 : AFunc := ⟨1, c153, [.tmp 2]⟩

def an153 : List RAnn := [
 { id := 0, live := [0] },
 { id := 1, live := [2] }]

theorem comp153 : compF Tryz.prog an153 Tryz.f153 = some a153 := by kernel_rfl

/- graphdb/frac.Valid -/
def c154 : ACode :=
 .seq (.region none [] [
 op 1 (.box 2 (tm 0)), op 2 (.mov (.cst (.bool false)))] [1] none)
 (.seq (.region none [] [
 op 3 (.faddr 1 (tm 1)), op 4 (.load none (tm 3)), op 5 (.bin .geq .int (tm 4) (ci (1))), mv 6 5, ⟨some 7, .faddr 1 (tm 1), some (6, true)⟩, ⟨some 8, .load none (tm 7), some (6, true)⟩, ⟨some 9, .bin .leq .int (tm 8) (ci (1000000000000000)), some (6, true)⟩, op 10 (.pick (tm 6) (tm 9) (.cst (.bool false))), mv 11 10, ⟨some 12, .faddr 0 (tm 1), some (11, true)⟩, ⟨some 13, .load none (tm 12), some (11, true)⟩, ⟨some 14, .call .pure 153 [(tm 13)], some (11, true)⟩, op 15 (.pick (tm 11) (tm 14) (.cst (.bool false))), mv 16 15, ⟨some 17, .faddr 0 (tm 1), some (16, true)⟩, ⟨some 18, .load none (tm 17), some (16, true)⟩, ⟨some 19, .faddr 1 (tm 1), some (16, true)⟩, ⟨some 20, .load none (tm 19), some (16, true)⟩, ⟨some 21, .call .pure 184 [(tm 18), (tm 20)], some (16, true)⟩, ⟨some 22, .bin .eql .int (tm 21) (ci (1)), some (16, true)⟩, op 23 (.pick (tm 16) (tm 22) (.cst (.bool false))), mv 2 23] [2] none)
 (.ret))

def a154 : AFunc := ⟨1, c154, [.tmp 2]⟩

def an154 : List RAnn := [
 { id := 0, live := [1] },
 { id := 1, live := [2] }]

theorem comp154 : compF Tryz.prog an154 Tryz.f154 = some a154 := by kernel_rfl

/- graphdb/value.valid$1 -/
def c156 : ACode :=
 .seq (.region none [] [
 op 2 (.mov (.cst (.bool false)))] [0] none)
 (.seq (.region none [] [
 mv 3 0, op 4 (.bin .lss .int (tm 3) (.cst (.int .i32 32))), mv 5 4, mg 6 0 5 false, ⟨some 7, .bin .gtr .int (tm 6) (.cst (.int .i32 126)), some (5, false)⟩, op 8 (.pick (tm 5) (.cst (.bool true)) (tm 7)), mv 2 8] [2] none)
 (.ret))

def a156 : AFunc := ⟨1, c156, [.tmp 2]⟩

def an156 : List RAnn := [
 { id := 0, live := [0] },
 { id := 1, live := [2] }]

theorem comp156 : compF Tryz.prog an156 Tryz.f156 = some a156 := by kernel_rfl

/- graphdb/value.path -/
/-- loop 0 of function 157 -/
def l157_0_h : List Nat := [15, 16, 17]

def l157_0_b : ACode :=
 .seq (.region none [] [
 op 18 (.bin .lss .int (tm 17) (tm 16))] [15, 16, 17, 18] none)
 (.seq (.cond (tm 18) (.skip)
 (.exit 0))
 (.seq (.block 1 (.seq (.region none [] [
 mv 19 17, op 20 (.iaddr 5 (tm 15) (tm 17)), op 21 (.load (some 5) (tm 20)), op 4 (.alloc 5 (.agg [.int .i64 0, .int .i64 0, .int .i64 0, .str [], .sl false []])), mv 3 19, ⟨none, .store 5 (tm 4) (tm 21), none⟩] [3, 4, 15, 16, 17] none)
 (.seq (.region none [] [
 op 22 (.lit false 1 (.int .i64 0) 2 [(0, (ci (5))), (1, (ci (6)))]), mv 23 3, op 24 (.bin .rem .int (tm 23) (ci (2))), op 25 (.iaddr 1 (tm 22) (tm 24)), op 26 (.load none (tm 25)), mv 5 26] [4, 5, 15, 16, 17] none)
 (.seq (.region none [] [
 op 27 (.faddr 0 (tm 4)), op 28 (.load none (tm 27)), mv 29 5, op 30 (.bin .neq .int (tm 28) (tm 29)), mv 31 30, ⟨some 32, .load (some 5) (tm 4), some (31, false)⟩, ⟨some 33, .call .pure 130 [(tm 32), (ci (0))], some (31, false)⟩, ⟨some 34, .un .not (tm 33), some (31, false)⟩, op 35 (.pick (tm 31) (.cst (.bool true)) (tm 34))] [15, 16, 17, 35] none)
 (.cond (tm 35) (.seq (.region none [] [
 op 2 (.mov (.cst (.bool false)))] [2] none)
 (.ret))
 (.skip))))))
 (.region none [] [
 op 36 (.bin .add .int (tm 17) (ci (1))), mv 17 36] [15, 16, 17] (some 0))))

def c157 : ACode :=
 .seq (.region none [] [
 op 2 (.mov (.cst (.bool false)))] [0] none)
 (.seq (.seq (.region none [] [
 mv 6 0, op 7 (.len .slice (tm 6)), op 8 (.bin .rem .int (tm 7) (ci (2))), op 9 (.bin .eql .int (tm 8) (ci (0))), mv 10 9, mg 11 0 10 false, ⟨some 12, .len .slice (tm 11), some (10, false)⟩, ⟨some 13, .bin .gtr .int (tm 12) (ci (25)), some (10, false)⟩, op 14 (.pick (tm 10) (.cst (.bool true)) (tm 13))] [0, 14] none)
 (.cond (tm 14) (.seq (.region none [] [
 op 2 (.mov (.cst (.bool false)))] [2] none)
 (.ret))
 (.skip)))
 (.seq (.seq (.region none [] [
 mv 15 0, op 16 (.len .slice (tm 15)), op 17 (.mov (ci (0)))] [15, 16, 17] none)
 (.block 0 (.loop l157_0_h l157_0_b)))
 (.seq (.region none [] [
 op 2 (.mov (.cst (.bool true)))] [2] none)
 (.ret))))

def a157 : AFunc := ⟨1, c157, [.tmp 2]⟩

def an157 : List RAnn := [
 { id := 0, live := [0] },
 { id := 1, live := [0, 14] },
 { id := 2, live := [2] },
 { id := 3, live := [15, 16, 17] },
 { id := 4, live := [15, 16, 17, 18], hdr := [15, 16, 17] },
 { id := 5, live := [3, 4, 15, 16, 17] },
 { id := 6, live := [4, 5, 15, 16, 17] },
 { id := 7, live := [15, 16, 17, 35] },
 { id := 8, live := [2] },
 { id := 9, live := [15, 16, 17], trunc := some 0 },
 { id := 10, live := [2] }]

theorem comp157 : compF Tryz.prog an157 Tryz.f157 = some a157 := by kernel_rfl

/- graphdb/graphdbref04.strs -/
def c161 : ACode :=
 .seq (.region none [] [
 op 4 (.mov (ci (0)))] [0, 1] none)
 (.seq (.seq (.region none [] [
 mv 5 0, mv 6 1, op 7 (.bin .lss .str (tm 5) (tm 6))] [0, 1, 7] none)
 (.cond (tm 7) (.seq (.region none [] [
 op 4 (.mov (ci ((-1))))] [4] none)
 (.ret))
 (.skip)))
 (.seq (.seq (.region none [] [
 mv 8 0, mv 9 1, op 10 (.bin .gtr .str (tm 8) (tm 9))] [10] none)
 (.cond (tm 10) (.seq (.region none [] [
 op 4 (.mov (ci (1)))] [4] none)
 (.ret))
 (.skip)))
 (.seq (.region none [] [
 op 4 (.mov (ci (0)))] [4] none)
 (.ret))))

def a161 : AFunc := ⟨2, c161, [.tmp 4]⟩

def an161 : List RAnn := [
 { id := 0, live := [0, 1] },
 { id := 1, live := [0, 1, 7] },
 { id := 2, live := [4] },
 { id := 3, live := [10] },
 { id := 4, live := [4] },
 { id := 5, live := [4] }]

theorem comp161 : compF Tryz.prog an161 Tryz.f161 = some a161 := by kernel_rfl

/- graphdb/graphdbref04.lists -/
/-- loop 0 of function 162 -/
def l162_0_h : List Nat := [0, 1, 5]

def l162_0_b : ACode :=
 .seq (.seq (.region none [] [
 mv 7 5, mv 8 0, op 9 (.len .slice (tm 8)), op 10 (.bin .lss .int (tm 7) (tm 9)), mv 11 10, mg 12 5 11 true, mg 13 1 11 true, ⟨some 14, .len .slice (tm 13), some (11, true)⟩, ⟨some 15, .bin .lss .int (tm 12) (tm 14), some (11, true)⟩, op 16 (.pick (tm 11) (tm 15) (.cst (.bool false)))] [0, 1, 5, 16] none)
 (.cond (tm 16) (.skip)
 (.exit 0)))
 (.seq (.block 1 (.seq (.region (some 10) [] [
 mv 19 0, mv 20 5, op 21 (.iaddr 5 (tm 19) (tm 20)), op 22 (.load (some 5) (tm 21)), mv 23 1, mv 24 5, op 25 (.iaddr 5 (tm 23) (tm 24)), op 26 (.load (some 5) (tm 25)), op 27 (.call .pure 95 [(tm 22), (tm 26)]), mv 6 27] [0, 1, 5, 6] none)
 (.seq (.region none [] [
 mv 28 6, op 29 (.bin .neq .int (tm 28) (ci (0)))] [0, 1, 5, 6, 29] none)
 (.cond (tm 29) (.seq (.region none [] [
 mv 30 6, mv 4 30] [4] none)
 (.ret))
 (.skip)))))
 (.region none [] [
 mv 17 5, op 18 (.bin .add .int (tm 17) (ci (1))), mv 5 18] [0, 1, 5] none))

def c162 : ACode :=
 .seq (.region none [] [
 op 4 (.mov (ci (0)))] [0, 1] none)
 (.seq (.seq (.region none [] [
 op 5 (.mov (ci (0)))] [0, 1, 5] none)
 (.block 0 (.loop l162_0_h l162_0_b)))
 (.seq (.region none [] [
 mv 31 0, op 32 (.len .slice (tm 31)), mv 33 1, op 34 (.len .slice (tm 33)), op 35 (.call .pure 136 [(tm 32), (tm 34)]), mv 4 35] [4] none)
 (.ret)))

def a162 : AFunc := ⟨2, c162, [.tmp 4]⟩

def an162 : List RAnn := [
 { id := 0, live := [0, 1] },
 { id := 1, live := [0, 1, 5] },
 { id := 2, live := [0, 1, 5, 16], hdr := [0, 1, 5] },
 { id := 4, head := some 10, live := [0, 1, 5, 6] },
 { id := 5, live := [0, 1, 5, 6, 29] },
 { id := 6, live := [4] },
 { id := 3, live := [0, 1, 5] },
 { id := 7, live := [4] }]

theorem comp162 : compF Tryz.prog an162 Tryz.f162 = some a162 := by kernel_rfl

/- graphdb/graphdbref03.Valid -/
def c163 : ACode :=
 .seq (.region none [] [
 op 1 (.box 2 (tm 0)), op 2 (.mov (.cst (.bool false)))] [1] none)
 (.seq (.region (some 28) [] [
 op 3 (.faddr 1 (tm 1)), op 4 (.load none (tm 3)), op 5 (.bin .geq .int (tm 4) (ci (1))), mv 6 5, ⟨some 7, .faddr 1 (tm 1), some (6, true)⟩, ⟨some 8, .load none (tm 7), some (6, true)⟩, ⟨some 9, .bin .leq .int (tm 8) (ci (1000000000000000)), some (6, true)⟩, op 10 (.pick (tm 6) (tm 9) (.cst (.bool false))), mv 11 10, ⟨some 12, .faddr 0 (tm 1), some (11, true)⟩, ⟨some 13, .load none (tm 12), some (11, true)⟩, ⟨some 14, .bin .geq .int (tm 13) (ci ((-1000000000000000))), some (11, true)⟩, op 15 (.pick (tm 11) (tm 14) (.cst (.bool false))), mv 16 15, ⟨some 17, .faddr 0 (tm 1), some (16, true)⟩, ⟨some 18, .load none (tm 17), some (16, true)⟩, ⟨some 19, .bin .leq .int (tm 18) (ci (1000000000000000)), some (16, true)⟩, op 20 (.pick (tm 16) (tm 19) (.cst (.bool false))), mv 21 20, ⟨some 22, .faddr 0 (tm 1), some (21, true)⟩, ⟨some 23, .load none (tm 22), some (21, true)⟩, ⟨some 24, .call .pure 167 [(tm 23)], some (21, true)⟩, ⟨some 25, .faddr 1 (tm 1), some (21, true)⟩, ⟨some 26, .load none (tm 25), some (21, true)⟩, ⟨some 27, .call .pure 191 [(tm 24), (tm 26)], some (21, true)⟩, ⟨some 28, .bin .eql .int (tm 27) (ci (1)), some (21, true)⟩, op 29 (.pick (tm 21) (tm 28) (.cst (.bool false))), mv 2 29] [2] none)
 (.ret))

def a163 : AFunc := ⟨1, c163, [.tmp 2]⟩

def an163 : List RAnn := [
 { id := 0, live := [1] },
 { id := 1, head := some 28, live := [2] }]

theorem comp163 : compF Tryz.prog an163 Tryz.f163 = some a163 := by kernel_rfl

/- graphdb/graphdbref03.sum -/
def c164 : ACode :=
 .seq (.region none [] [
 op 8 (.mov (ci (0))), op 9 (.mov (.cst (.sl false [])))] [0, 1, 2, 3] none)
 (.seq (.seq (.region none [] [
 mv 11 0, mv 12 2, op 13 (.bin .eql .int (tm 11) (tm 12)), mv 14 13, mg 15 2 14 false, ⟨some 16, .bin .eql .int (tm 15) (ci (0)), some (14, false)⟩, op 17 (.pick (tm 14) (.cst (.bool true)) (tm 16))] [0, 1, 2, 3, 17] none)
 (.cond (tm 17) (.seq (.region none [] [
 mv 18 0, mv 19 1, mv 20 3, op 21 (.call .pure 192 [(tm 19), (tm 20)]), mv 8 18, mv 9 21] [8, 9] none)
 (.ret))
 (.skip)))
 (.seq (.seq (.region none [] [
 mv 22 0, op 23 (.bin .eql .int (tm 22) (ci (0)))] [0, 1, 2, 3, 23] none)
 (.cond (tm 23) (.seq (.region none [] [
 mv 24 2, mv 25 3, mv 8 24, mv 9 25] [8, 9] none)
 (.ret))
 (.skip)))
 (.seq (.region none [] [
 mv 26 1, mv 27 3, op 28 (.call .pure 193 [(tm 26), (tm 27)]), mv 10 28] [0, 1, 2, 3, 10] none)
 (.seq (.seq (.region none [] [
 mv 29 10, op 30 (.bin .eql .int (tm 29) (ci (0)))] [0, 1, 2, 3, 10, 30] none)
 (.cond (tm 30) (.seq (.par 2 [(0, 1)] [] [
 op 31 (.mkslice 1 8 (.int .i64 0) (ci (14)) (ci (14))), op 32 (.mkslice 1 8 (.int .i64 0) (ci (14)) (ci (14))), op 33 (.call .share 192 [(tm 31), (tm 32)]), op 8 (.mov (ci (0))), mv 9 33] [8, 9] none)
 (.ret))
 (.skip)))
 (.seq (.seq (.region none [] [
 mv 34 10, op 35 (.bin .gtr .int (tm 34) (ci (0)))] [0, 1, 2, 3, 35] none)
 (.cond (tm 35) (.seq (.region none [] [
 mv 36 0, mv 37 1, mv 38 3, op 39 (.call .pure 194 [(tm 37), (tm 38)]), mv 8 36, mv 9 39] [8, 9] none)
 (.ret))
 (.skip)))
 (.seq (.region none [] [
 mv 40 2, mv 41 3, mv 42 1, op 43 (.call .pure 194 [(tm 41), (tm 42)]), mv 8 40, mv 9 43] [8, 9] none)
 (.ret)))))))

def a164 : AFunc := ⟨4, c164, [.tmp 8, .tmp 9]⟩

def an164 : List RAnn := [
 { id := 0, live := [0, 1, 2, 3] },
 { id := 1, live := [0, 1, 2, 3, 17] },
 { id := 2, live := [8, 9] },
 { id := 3, live := [0, 1, 2, 3, 23] },
 { id := 4, live := [8, 9] },
 { id := 5, live := [0, 1, 2, 3, 10] },
 { id := 6, live := [0, 1, 2, 3, 10, 30] },
 { id := 7, head := some 2, live := [8, 9], ops := [(2, .mode .share)], par := true },
 { id := 8, live := [0, 1, 2, 3, 35] },
 { id := 9, live := [8, 9] },
 { id := 10, live := [8, 9] }]

theorem comp164 : compF Tryz.prog an164 Tryz.f164 = some a164 := by kernel_rfl

/- graphdb/graphdbref03.sign -/
def c165 : ACode :=
 .seq (.region none [] [
 op 2 (.mov (ci (0)))] [0] none)
 (.seq (.seq (.region none [] [
 mv 3 0, op 4 (.bin .lss .int (tm 3) (ci (0)))] [0, 4] none)
 (.cond (tm 4) (.seq (.region none [] [
 op 2 (.mov (ci ((-1))))] [2] none)
 (.ret))
 (.skip)))
 (.seq (.seq (.region none [] [
 mv 5 0, op 6 (.bin .gtr .int (tm 5) (ci (0)))] [6] none)
 (.cond (tm 6) (.seq (.region none [] [
 op 2 (.mov (ci (1)))] [2] none)
 (.ret))
 (.skip)))
 (.seq (.region none [] [
 op 2 (.mov (ci (0)))] [2] none)
 (.ret))))

def a165 : AFunc := ⟨1, c165, [.tmp 2]⟩

def an165 : List RAnn := [
 { id := 0, live := [0] },
 { id := 1, live := [0, 4] },
 { id := 2, live := [2] },
 { id := 3, live := [6] },
 { id := 4, live := [2] },
 { id := 5, live := [2] }]

theorem comp165 : compF Tryz.prog an165 Tryz.f165 = some a165 := by kernel_rfl

/- graphdb/graphdbref03.times -/
/-- loop 0 of function 166 -/
def l166_0_h : List Nat := [0, 1, 5, 6, 7, 8, 9, 10]

def l166_0_b : ACode :=
 .seq (.seq (.region none [] [
 mv 22 8, op 23 (.bin .gtr .int (tm 22) (ci (0))), mv 24 23, mg 25 9 24 false, ⟨some 26, .bin .gtr .int (tm 25) (ci (0)), some (24, false)⟩, op 27 (.pick (tm 24) (.cst (.bool true)) (tm 26))] [0, 1, 5, 6, 7, 8, 9, 10, 27] none)
 (.cond (tm 27) (.skip)
 (.exit 2)))
 (.seq (.block 3 (.seq (.region none [] [
 mv 30 9, mv 31 5, mv 32 10, op 33 (.iaddr 1 (tm 31) (tm 32)), op 34 (.load none (tm 33)), op 35 (.bin .add .int (tm 30) (tm 34)), mv 36 7, mv 37 8, op 38 (.bin .rem .int (tm 37) (ci (1000))), op 39 (.bin .mul .int (tm 36) (tm 38)), op 40 (.bin .add .int (tm 35) (tm 39)), mv 9 40] [0, 1, 5, 6, 7, 8, 9, 10] none)
 (.seq (.region none [] [
 mv 41 8, op 42 (.bin .quo .int (tm 41) (ci (1000))), mv 8 42] [0, 1, 5, 6, 7, 8, 9, 10] none)
 (.seq (.region none [] [
 mv 43 5, mv 44 10, mv 45 9, op 46 (.bin .rem .int (tm 45) (ci (1000))), op 47 (.iaddr 1 (tm 43) (tm 44)), ⟨none, .store 1 (tm 47) (tm 46), none⟩] [0, 1, 5, 6, 7, 8, 9, 10] none)
 (.region none [] [
 mv 48 9, op 49 (.bin .quo .int (tm 48) (ci (1000))), mv 9 49] [0, 1, 5, 6, 7, 8, 9, 10] none)))))
 (.region none [] [
 mv 28 10, op 29 (.bin .add .int (tm 28) (ci (1))), mv 10 29] [0, 1, 5, 6, 7, 8, 9, 10] none))

/-- loop 1 of function 166 -/
def l166_1_h : List Nat := [0, 1, 5, 6]

def l166_1_b : ACode :=
 .seq (.seq (.region none [] [
 mv 12 0, op 13 (.bin .gtr .int (tm 12) (ci (0)))] [0, 1, 5, 6, 13] none)
 (.cond (tm 13) (.skip)
 (.exit 0)))
 (.seq (.block 1 (.seq (.region none [] [
 mv 16 0, op 17 (.bin .rem .int (tm 16) (ci (1000))), mv 7 17] [0, 1, 5, 6, 7] none)
 (.seq (.region none [] [
 mv 18 0, op 19 (.bin .quo .int (tm 18) (ci (1000))), mv 0 19] [0, 1, 5, 6, 7] none)
 (.seq (.region none [] [
 mv 20 1, mv 8 20] [0, 1, 5, 6, 7, 8] none)
 (.seq (.region none [] [
 op 9 (.mov (ci (0)))] [0, 1, 5, 6, 7, 8, 9] none)
 (.seq (.region none [] [
 mv 21 6, mv 10 21] [0, 1, 5, 6, 7, 8, 9, 10] none)
 (.block 2 (.loop l166_0_h l166_0_b))))))))
 (.region none [] [
 mv 14 6, op 15 (.bin .add .int (tm 14) (ci (1))), mv 6 15] [0, 1, 5, 6] none))

def c166 : ACode :=
 .seq (.region none [] [
 op 4 (.mov (.cst (.sl false [])))] [0, 1] none)
 (.seq (.region none [] [
 op 11 (.mkslice 1 8 (.int .i64 0) (ci (14)) (ci (14))), mv 5 11] [0, 1, 5] none)
 (.seq (.seq (.region none [] [
 op 6 (.mov (ci (0)))] [0, 1, 5, 6] none)
 (.block 0 (.loop l166_1_h l166_1_b)))
 (.seq (.region none [] [
 mv 50 5, mv 4 50] [4] none)
 (.ret))))

def a166 : AFunc := ⟨2, c166, [.tmp 4]⟩

def an166 : List RAnn := [
 { id := 0, live := [0, 1] },
 { id := 1, live := [0, 1, 5] },
 { id := 2, live := [0, 1, 5, 6] },
 { id := 3, live := [0, 1, 5, 6, 13], hdr := [0, 1, 5, 6] },
 { id := 5, live := [0, 1, 5, 6, 7] },
 { id := 6, live := [0, 1, 5, 6, 7] },
 { id := 7, live := [0, 1, 5, 6, 7, 8] },
 { id := 8, live := [0, 1, 5, 6, 7, 8, 9] },
 { id := 9, live := [0, 1, 5, 6, 7, 8, 9, 10] },
 { id := 10, live := [0, 1, 5, 6, 7, 8, 9, 10, 27], hdr := [0, 1, 5, 6, 7, 8, 9, 10] },
 { id := 12, live := [0, 1, 5, 6, 7, 8, 9, 10] },
 { id := 13, live := [0, 1, 5, 6, 7, 8, 9, 10] },
 { id := 14, live := [0, 1, 5, 6, 7, 8, 9, 10] },
 { id := 15, live := [0, 1, 5, 6, 7, 8, 9, 10] },
 { id := 11, live := [0, 1, 5, 6, 7, 8, 9, 10] },
 { id := 4, live := [0, 1, 5, 6] },
 { id := 16, live := [4] }]

theorem comp166 : compF Tryz.prog an166 Tryz.f166 = some a166 := by kernel_rfl

/- graphdb/graphdbref03.size -/
def c167 : ACode :=
 .seq (.region none [] [
 op 2 (.mov (ci (0)))] [0] none)
 (.seq (.seq (.region none [] [
 mv 3 0, op 4 (.bin .lss .int (tm 3) (ci (0)))] [0, 4] none)
 (.cond (tm 4) (.seq (.region none [] [
 mv 5 0, op 6 (.un .neg (tm 5)), mv 2 6] [2] none)
 (.ret))
 (.skip)))
 (.seq (.region none [] [
 mv 7 0, mv 2 7] [2] none)
 (.ret)))

def a167 : AFunc := ⟨1, c167, [.tmp 2]⟩

def an167 : List RAnn := [
 { id := 0, live := [0] },
 { id := 1, live := [0, 4] },
 { id := 2, live := [2] },
 { id := 3, live := [2] }]

theorem comp167 : compF Tryz.prog an167 Tryz.f167 = some a167 := by kernel_rfl

/- graphdb/graphdbref04.bare -/
def c168 : ACode :=
 .seq (.region none [] [
 op 5 (.box 5 (tm 0)), op 10 (.mov (.cst (.bool false)))] [1, 2, 3, 4, 5] none)
 (.seq (.region none [] [
 mv 11 1, mv 12 11, ⟨some 13, .faddr 1 (tm 5), some (12, false)⟩, ⟨some 14, .load none (tm 13), some (12, false)⟩, ⟨some 15, .bin .eql .int (tm 14) (ci (0)), some (12, false)⟩, op 16 (.pick (tm 12) (.cst (.bool true)) (tm 15)), mv 17 16, mg 18 2 17 true, mg 19 18 17 true, ⟨some 20, .faddr 2 (tm 5), some (19, false)⟩, ⟨some 21, .load none (tm 20), some (19, false)⟩, ⟨some 22, .bin .eql .int (tm 21) (ci (0)), some (19, false)⟩, ⟨some 23, .pick (tm 19) (.cst (.bool true)) (tm 22), some (17, true)⟩, op 24 (.pick (tm 17) (tm 23) (.cst (.bool false))), mv 25 24, mg 26 3 25 true, mg 27 26 25 true, ⟨some 28, .faddr 3 (tm 5), some (27, false)⟩, ⟨some 29, .load none (tm 28), some (27, false)⟩, ⟨some 30, .bin .eql .str (tm 29) (.cst (.str [])), some (27, false)⟩, ⟨some 31, .pick (tm 27) (.cst (.bool true)) (tm 30), some (25, true)⟩, op 32 (.pick (tm 25) (tm 31) (.cst (.bool false))), mv 33 32, mg 34 4 33 true, mg 35 34 33 true, ⟨some 36, .faddr 4 (tm 5), some (35, false)⟩, ⟨some 37, .load none (tm 36), some (35, false)⟩, ⟨some 38, .len .slice (tm 37), some (35, false)⟩, ⟨some 39, .bin .eql .int (tm 38) (ci (0)), some (35, false)⟩, ⟨some 40, .pick (tm 35) (.cst (.bool true)) (tm 39), some (33, true)⟩, op 41 (.pick (tm 33) (tm 40) (.cst (.bool false))), mv 10 41] [10] none)
 (.ret))

def a168 : AFunc := ⟨5, c168, [.tmp 10]⟩

def an168 : List RAnn := [
 { id := 0, live := [1, 2, 3, 4, 5] },
 { id := 1, live := [10] }]

theorem comp168 : compF Tryz.prog an168 Tryz.f168 = some a168 := by kernel_rfl

end AI
end Go.Proofs.YtdlkcancogpafaaGreatDoor
