/- Printed by a program of mine: the functions, compiled; the kernel checks each against the given form. -/
import Derived.Test.YtnfdpfeeenmffaaGreatDoorSe
import Derived.Test.YtnfdpfeeenmffaaGreatDoorProg
import Derived.Test.YtnfdpfeeenmffaaGreatDoorAb
import Derived.KernelRfl
import Derived.Test.YtnfdpfeeenmffaaGreatDoorIxF
namespace Go.Proofs.YtnfdpfeeenmffaaGreatDoor
namespace AI
/- (*graphdb/delta.script).add -/
def c47 : ACode :=
 .seq (.region none [] [
 op 3 (.box 10 (tm 1))] [0, 3] none)
 (.par 11 [] [] [
 mv 4 0, mv 5 0, op 6 (.nilchk (tm 5)), op 7 (.faddr 0 (tm 6)), op 8 (.load none (tm 7)), op 9 (.load (some 10) (tm 3)), op 10 (.lit false 10 (.agg [.int .i64 0, .int .i64 0, .int .i64 0, .int .i64 0, .str [], .int .i64 0, .int .i64 0, .int .i64 0, .str [], .sl false []]) 1 [(0, (tm 9))]), op 11 (.append 10 112 (tm 8) (tm 10)), op 12 (.nilchk (tm 4)), op 13 (.faddr 0 (tm 12)), ⟨none, .store 1 (tm 13) (tm 11), none⟩] [] none)

def a47 : AFunc := ⟨2, c47, []⟩

def an47 : List RAnn := [
 { id := 0, live := [0, 3] },
 { id := 1, head := some 11, par := true }]

theorem comp47 : compF Tryz.prog an47 Tryz.f47 = some a47 := by kernel_rfl

/- graphdb/graph.Node -/
/-- loop 0 of function 48 -/
def l48_0_h : List Nat := [1, 4, 9, 10, 11]

def l48_0_b : ACode :=
 .seq (.region none [] [
 op 12 (.bin .lss .int (tm 11) (tm 10))] [1, 4, 9, 10, 11, 12] none)
 (.seq (.cond (tm 12) (.skip)
 (.exit 0))
 (.seq (.block 1 (.seq (.region none [] [
 op 13 (.iaddr 3 (tm 9) (tm 11)), op 14 (.load (some 3) (tm 13)), op 7 (.alloc 3 (.agg [.int .i64 0, .sl false [], .sl false []])), ⟨none, .store 3 (tm 7) (tm 14), none⟩] [1, 4, 7, 9, 10, 11] none)
 (.seq (.region none [] [
 op 15 (.faddr 0 (tm 7)), op 16 (.load none (tm 15)), mv 17 1, op 18 (.bin .eql .int (tm 16) (tm 17))] [1, 4, 7, 9, 10, 11, 18] none)
 (.cond (tm 18) (.seq (.region (some 8) [] [
 mv 19 1, op 20 (.faddr 1 (tm 7)), op 21 (.load none (tm 20)), op 22 (.call .pure 93 [(tm 21)]), op 23 (.faddr 2 (tm 7)), op 24 (.load none (tm 23)), op 25 (.call .pure 92 [(tm 24)]), op 26 (.build [.int .i64 0, .sl false [], .sl false []] [(0, 1, (tm 19)), (1, 1, (tm 22)), (2, 1, (tm 25))]), ⟨none, .store 3 (tm 4) (tm 26), none⟩, op 5 (.mov (.cst (.bool true)))] [4, 5] none)
 (.ret))
 (.skip)))))
 (.region none [] [
 op 27 (.bin .add .int (tm 11) (ci (1))), mv 11 27] [1, 4, 9, 10, 11] (some 2))))

def c48 : ACode :=
 .seq (.region none [] [
 op 2 (.box 4 (tm 0)), op 4 (.alloc 3 (.agg [.int .i64 0, .sl false [], .sl false []])), op 5 (.mov (.cst (.bool false)))] [1, 2, 4] none)
 (.seq (.seq (.region none [] [
 op 8 (.faddr 0 (tm 2)), op 9 (.load none (tm 8)), op 10 (.len .slice (tm 9)), op 11 (.mov (ci (0)))] [1, 4, 9, 10, 11] none)
 (.block 0 (.loop l48_0_h l48_0_b)))
 (.seq (.region none [] [
 op 28 (.build [.int .i64 0, .sl false [], .sl false []] []), ⟨none, .store 3 (tm 4) (tm 28), none⟩, op 5 (.mov (.cst (.bool false)))] [4, 5] none)
 (.ret)))

def a48 : AFunc := ⟨2, c48, [.cell 4 (some 3), .tmp 5]⟩

def an48 : List RAnn := [
 { id := 0, live := [1, 2, 4] },
 { id := 1, live := [1, 4, 9, 10, 11] },
 { id := 2, live := [1, 4, 9, 10, 11, 12], hdr := [1, 4, 9, 10, 11] },
 { id := 3, live := [1, 4, 7, 9, 10, 11] },
 { id := 4, live := [1, 4, 7, 9, 10, 11, 18] },
 { id := 5, head := some 8, live := [4, 5] },
 { id := 6, live := [1, 4, 9, 10, 11], trunc := some 2 },
 { id := 7, live := [4, 5] }]

theorem comp48 : compF Tryz.prog an48 Tryz.f48 = some a48 := by kernel_rfl

/- (*graphdb/delta.script).names -/
/-- loop 0 of function 49 -/
def l49_0_h : List Nat := [0, 1, 2, 4, 12, 13, 14]

def l49_0_b : ACode :=
 .seq (.region none [] [
 op 15 (.bin .lss .int (tm 14) (tm 13))] [0, 1, 2, 4, 12, 13, 14, 15] none)
 (.seq (.cond (tm 15) (.skip)
 (.exit 0))
 (.seq (.block 1 (.seq (.region none [] [
 op 16 (.iaddr 1 (tm 12) (tm 14)), op 17 (.load none (tm 16)), mv 11 17] [0, 1, 2, 4, 11, 12, 13, 14] none)
 (.seq (.region none [] [
 mv 18 4, mv 19 11, op 20 (.call .pure 94 [(tm 18), (tm 19)]), op 21 (.un .not (tm 20))] [0, 1, 2, 4, 11, 12, 13, 14, 21] none)
 (.cond (tm 21) (.region none [] [
 mv 22 0, mv 23 1, mv 24 2, mv 25 11, op 26 (.build [.int .i64 0, .int .i64 0, .int .i64 0, .int .i64 0, .str [], .int .i64 0, .int .i64 0, .int .i64 0, .str [], .sl false []] [(0, 1, (tm 23)), (1, 1, (tm 24)), (4, 1, (tm 25))]), op 27 (.call .keep 47 [(tm 22), (tm 26)])] [0, 1, 2, 4, 12, 13, 14] none)
 (.skip)))))
 (.region none [] [
 op 28 (.bin .add .int (tm 14) (ci (1))), mv 14 28] [0, 1, 2, 4, 12, 13, 14] none)))

def c49 : ACode :=
 .seq (.region none [] [
 mv 12 3, op 13 (.len .slice (tm 12)), op 14 (.mov (ci (0)))] [0, 1, 2, 4, 12, 13, 14] none)
 (.block 0 (.loop l49_0_h l49_0_b))

def a49 : AFunc := ⟨5, c49, []⟩

def an49 : List RAnn := [
 { id := 0, live := [0, 1, 2, 4, 12, 13, 14] },
 { id := 1, live := [0, 1, 2, 4, 12, 13, 14, 15], hdr := [0, 1, 2, 4, 12, 13, 14] },
 { id := 2, live := [0, 1, 2, 4, 11, 12, 13, 14] },
 { id := 3, live := [0, 1, 2, 4, 11, 12, 13, 14, 21] },
 { id := 4, live := [0, 1, 2, 4, 12, 13, 14], ops := [(5, .mode .keep)] },
 { id := 5, live := [0, 1, 2, 4, 12, 13, 14] }]

theorem comp49 : compF Tryz.prog an49 Tryz.f49 = some a49 := by kernel_rfl

/- graphdb/delta.keys -/
/-- loop 0 of function 50 -/
def l50_0_h : List Nat := [3, 9, 10, 11]

def l50_0_b : ACode :=
 .seq (.region none [] [
 op 12 (.bin .lss .int (tm 11) (tm 10))] [3, 9, 10, 11, 12] none)
 (.seq (.cond (tm 12) (.skip)
 (.exit 0))
 (.seq (.block 1 (.seq (.region none [] [
 mv 13 11, op 14 (.iaddr 6 (tm 9) (tm 11)), op 15 (.load (some 6) (tm 14)), op 5 (.alloc 6 (.agg [.str [], .int .i64 0, .int .i64 0, .int .i64 0, .str [], .sl false []])), mv 4 13, ⟨none, .store 6 (tm 5) (tm 15), none⟩] [3, 4, 5, 9, 10, 11] none)
 (.region none [] [
 mv 16 3, mv 17 4, op 18 (.faddr 0 (tm 5)), op 19 (.load none (tm 18)), op 20 (.iaddr 1 (tm 16) (tm 17)), ⟨none, .store 1 (tm 20) (tm 19), none⟩] [3, 9, 10, 11] none)))
 (.region none [] [
 op 21 (.bin .add .int (tm 11) (ci (1))), mv 11 21] [3, 9, 10, 11] none)))

def c50 : ACode :=
 .seq (.region none [] [
 op 2 (.mov (.cst (.sl false [])))] [0] none)
 (.seq (.region none [] [
 mv 6 0, op 7 (.len .slice (tm 6)), op 8 (.mkslice 1 16 (.str []) (tm 7) (tm 7)), mv 3 8] [0, 3] none)
 (.seq (.seq (.region none [] [
 mv 9 0, op 10 (.len .slice (tm 9)), op 11 (.mov (ci (0)))] [3, 9, 10, 11] none)
 (.block 0 (.loop l50_0_h l50_0_b)))
 (.seq (.region none [] [
 mv 22 3, mv 2 22] [2] none)
 (.ret))))

def a50 : AFunc := ⟨1, c50, [.tmp 2]⟩

def an50 : List RAnn := [
 { id := 0, live := [0] },
 { id := 1, live := [0, 3] },
 { id := 2, live := [3, 9, 10, 11] },
 { id := 3, live := [3, 9, 10, 11, 12], hdr := [3, 9, 10, 11] },
 { id := 4, live := [3, 4, 5, 9, 10, 11] },
 { id := 5, live := [3, 9, 10, 11] },
 { id := 6, live := [3, 9, 10, 11] },
 { id := 7, live := [2] }]

theorem comp50 : compF Tryz.prog an50 Tryz.f50 = some a50 := by kernel_rfl

/- (*graphdb/delta.script).values -/
/-- loop 0 of function 51 -/
def l51_0_h : List Nat := [0, 1, 2, 3, 12, 13, 14]

def l51_0_b : ACode :=
 .seq (.region none [] [
 op 15 (.bin .lss .int (tm 14) (tm 13))] [0, 1, 2, 3, 12, 13, 14, 15] none)
 (.seq (.cond (tm 15) (.skip)
 (.exit 0))
 (.seq (.block 1 (.seq (.region none [] [
 op 16 (.iaddr 6 (tm 12) (tm 14)), op 17 (.load (some 6) (tm 16)), op 11 (.alloc 6 (.agg [.str [], .int .i64 0, .int .i64 0, .int .i64 0, .str [], .sl false []])), ⟨none, .store 6 (tm 11) (tm 17), none⟩] [0, 1, 2, 3, 11, 12, 13, 14] none)
 (.seq (.region (some 8) [] [
 mv 18 3, op 19 (.faddr 0 (tm 11)), op 20 (.load none (tm 19)), op 21 (.call .pure 96 [(tm 18), (tm 20)]), op 22 (.faddr 1 (tm 11)), op 23 (.load (some 5) (tm 22)), op 24 (.call .pure 95 [(tm 21), (tm 23)]), op 25 (.bin .neq .int (tm 24) (ci (0)))] [0, 1, 2, 3, 11, 12, 13, 14, 25] none)
 (.cond (tm 25) (.region none [] [
 mv 26 0, mv 27 1, mv 28 2, op 29 (.faddr 0 (tm 11)), op 30 (.load none (tm 29)), op 31 (.faddr 1 (tm 11)), op 32 (.load (some 5) (tm 31)), op 33 (.build [.int .i64 0, .int .i64 0, .int .i64 0, .int .i64 0, .str [], .int .i64 0, .int .i64 0, .int .i64 0, .str [], .sl false []] [(0, 1, (tm 27)), (1, 1, (tm 28)), (4, 1, (tm 30)), (5, 5, (tm 32))]), op 34 (.call .keep 47 [(tm 26), (tm 33)])] [0, 1, 2, 3, 12, 13, 14] none)
 (.skip)))))
 (.region none [] [
 op 35 (.bin .add .int (tm 14) (ci (1))), mv 14 35] [0, 1, 2, 3, 12, 13, 14] none)))

def c51 : ACode :=
 .seq (.region none [] [
 mv 12 4, op 13 (.len .slice (tm 12)), op 14 (.mov (ci (0)))] [0, 1, 2, 3, 12, 13, 14] none)
 (.block 0 (.loop l51_0_h l51_0_b))

def a51 : AFunc := ⟨5, c51, []⟩

def an51 : List RAnn := [
 { id := 0, live := [0, 1, 2, 3, 12, 13, 14] },
 { id := 1, live := [0, 1, 2, 3, 12, 13, 14, 15], hdr := [0, 1, 2, 3, 12, 13, 14] },
 { id := 2, live := [0, 1, 2, 3, 11, 12, 13, 14] },
 { id := 3, head := some 8, live := [0, 1, 2, 3, 11, 12, 13, 14, 25] },
 { id := 4, live := [0, 1, 2, 3, 12, 13, 14], ops := [(8, .mode .keep)] },
 { id := 5, live := [0, 1, 2, 3, 12, 13, 14] }]

theorem comp51 : compF Tryz.prog an51 Tryz.f51 = some a51 := by kernel_rfl

/- graphdb/graphdbref04.Order -/
def c52 : ACode :=
 .seq (.region none [] [
 op 2 (.box 5 (tm 0)), op 3 (.box 5 (tm 1)), op 4 (.mov (ci (0)))] [2, 3] none)
 (.seq (.region (some 6) [] [
 op 12 (.load (some 5) (tm 2)), op 13 (.call .pure 97 [(tm 12)]), op 14 (.load (some 5) (tm 3)), op 15 (.call .pure 97 [(tm 14)]), mv 5 13, mv 6 15] [2, 3, 5, 6] none)
 (.seq (.seq (.region none [] [
 mv 16 5, mv 17 6, op 18 (.bin .neq .bool (tm 16) (tm 17))] [2, 3, 5, 18] none)
 (.cond (tm 18) (.seq (.region none [] [
 mv 19 5, op 20 (.call .pure 98 [(tm 19)]), op 21 (.bin .sub .int (ci (1)) (tm 20)), mv 4 21] [4] none)
 (.ret))
 (.skip)))
 (.seq (.seq (.region none [] [
 mv 22 5, op 23 (.un .not (tm 22))] [2, 3, 23] none)
 (.cond (tm 23) (.seq (.region none [] [
 op 24 (.load (some 5) (tm 2)), op 25 (.load (some 5) (tm 3)), op 26 (.call .pure 99 [(tm 24), (tm 25)]), mv 4 26] [4] none)
 (.ret))
 (.skip)))
 (.seq (.seq (.region (some 8) [] [
 op 27 (.faddr 0 (tm 2)), op 28 (.load none (tm 27)), op 29 (.call .pure 101 [(tm 28)]), op 30 (.faddr 0 (tm 3)), op 31 (.load none (tm 30)), op 32 (.call .pure 101 [(tm 31)]), op 33 (.call .pure 100 [(tm 29), (tm 32)]), mv 7 33] [2, 3, 7] none)
 (.seq (.region none [] [
 mv 34 7, op 35 (.bin .neq .int (tm 34) (ci (0)))] [2, 3, 7, 35] none)
 (.cond (tm 35) (.seq (.region none [] [
 mv 36 7, mv 4 36] [4] none)
 (.ret))
 (.skip))))
 (.seq (.region none [] [
 op 38 (.load (some 5) (tm 2)), op 39 (.call .pure 102 [(tm 38)]), mv 37 39, op 40 (.ext (tm 37) 0), op 41 (.ext (tm 37) 1), op 8 (.alloc 2 (.agg [.int .i64 0, .int .i64 0])), ⟨none, .store 2 (tm 8) (tm 40), none⟩, mv 9 41] [2, 3, 8, 9] none)
 (.seq (.region none [] [
 op 43 (.load (some 5) (tm 3)), op 44 (.call .pure 102 [(tm 43)]), mv 42 44, op 45 (.ext (tm 42) 0), op 46 (.ext (tm 42) 1), op 10 (.alloc 2 (.agg [.int .i64 0, .int .i64 0])), ⟨none, .store 2 (tm 10) (tm 45), none⟩, mv 11 46] [2, 3, 8, 9, 10] none)
 (.seq (.seq (.region none [] [
 mv 47 9] [2, 3, 8, 10, 47] none)
 (.cond (tm 47) (.seq (.region none [] [
 op 48 (.load (some 2) (tm 8)), op 49 (.load (some 2) (tm 10)), op 50 (.call .pure 103 [(tm 48), (tm 49)]), mv 4 50] [4] none)
 (.ret))
 (.skip)))
 (.seq (.region none [] [
 op 51 (.load (some 5) (tm 2)), op 52 (.load (some 5) (tm 3)), op 53 (.call .pure 99 [(tm 51), (tm 52)]), mv 4 53] [4] none)
 (.ret)))))))))

def a52 : AFunc := ⟨2, c52, [.tmp 4]⟩

def an52 : List RAnn := [
 { id := 0, live := [2, 3] },
 { id := 1, head := some 6, live := [2, 3, 5, 6] },
 { id := 2, live := [2, 3, 5, 18] },
 { id := 3, live := [4] },
 { id := 4, live := [2, 3, 23] },
 { id := 5, live := [4] },
 { id := 6, head := some 8, live := [2, 3, 7] },
 { id := 7, live := [2, 3, 7, 35] },
 { id := 8, live := [4] },
 { id := 9, live := [2, 3, 8, 9] },
 { id := 10, live := [2, 3, 8, 9, 10] },
 { id := 11, live := [2, 3, 8, 10, 47] },
 { id := 12, live := [4] },
 { id := 13, live := [4] }]

theorem comp52 : compF Tryz.prog an52 Tryz.f52 = some a52 := by kernel_rfl

/- slices.EqualFunc[[]graphdb/api.Node,[]graphdb/api.Node,graphdb/api.Node,graphdb/api.Node] -/
/-- loop 0 of function 53 -/
def l53_0_h : List Nat := [1, 2, 15, 16, 17]

def l53_0_b : ACode :=
 .seq (.region none [] [
 op 18 (.bin .lss .int (tm 17) (tm 16))] [1, 2, 15, 16, 17, 18] none)
 (.seq (.cond (tm 18) (.skip)
 (.exit 0))
 (.seq (.block 1 (.seq (.region none [] [
 mv 19 17, op 20 (.iaddr 3 (tm 15) (tm 17)), op 21 (.load (some 3) (tm 20)), op 8 (.alloc 3 (.agg [.int .i64 0, .sl false [], .sl false []])), mv 7 19, ⟨none, .store 3 (tm 8) (tm 21), none⟩] [1, 2, 7, 8, 15, 16, 17] none)
 (.seq (.region none [] [
 mv 22 1, mv 23 7, op 24 (.iaddr 3 (tm 22) (tm 23)), op 25 (.load (some 3) (tm 24)), op 9 (.alloc 3 (.agg [.int .i64 0, .sl false [], .sl false []])), ⟨none, .store 3 (tm 9) (tm 25), none⟩] [1, 2, 8, 9, 15, 16, 17] none)
 (.seq (.region none [] [
 mv 26 2, op 27 (.load (some 3) (tm 8)), op 28 (.load (some 3) (tm 9)), op 29 (.callv .pure (tm 26) [(tm 27), (tm 28)]), op 30 (.un .not (tm 29))] [1, 2, 15, 16, 17, 30] none)
 (.cond (tm 30) (.seq (.region none [] [
 op 6 (.mov (.cst (.bool false)))] [6] none)
 (.ret))
 (.skip))))))
 (.region none [] [
 op 31 (.bin .add .int (tm 17) (ci (1))), mv 17 31] [1, 2, 15, 16, 17] none)))

def c53 : ACode :=
 .seq (.region none [] [
 op 6 (.mov (.cst (.bool false)))] [0, 1, 2] none)
 (.seq (.seq (.region none [] [
 mv 10 0, op 11 (.len .slice (tm 10)), mv 12 1, op 13 (.len .slice (tm 12)), op 14 (.bin .neq .int (tm 11) (tm 13))] [0, 1, 2, 14] none)
 (.cond (tm 14) (.seq (.region none [] [
 op 6 (.mov (.cst (.bool false)))] [6] none)
 (.ret))
 (.skip)))
 (.seq (.seq (.region none [] [
 mv 15 0, op 16 (.len .slice (tm 15)), op 17 (.mov (ci (0)))] [1, 2, 15, 16, 17] none)
 (.block 0 (.loop l53_0_h l53_0_b)))
 (.seq (.region none [] [
 op 6 (.mov (.cst (.bool true)))] [6] none)
 (.ret))))

def a53 : AFunc := ⟨3, c53, [.tmp 6]⟩

def an53 : List RAnn := [
 { id := 0, live := [0, 1, 2] },
 { id := 1, live := [0, 1, 2, 14] },
 { id := 2, live := [6] },
 { id := 3, live := [1, 2, 15, 16, 17] },
 { id := 4, live := [1, 2, 15, 16, 17, 18], hdr := [1, 2, 15, 16, 17] },
 { id := 5, live := [1, 2, 7, 8, 15, 16, 17] },
 { id := 6, live := [1, 2, 8, 9, 15, 16, 17] },
 { id := 7, live := [1, 2, 15, 16, 17, 30] },
 { id := 8, live := [6] },
 { id := 9, live := [1, 2, 15, 16, 17] },
 { id := 10, live := [6] }]

theorem comp53 : compF Tryz.prog an53 Tryz.f53 = some a53 := by kernel_rfl

/- graphdb/graph.Same$1 -/
def c54 : ACode :=
 .seq (.region none [] [
 op 2 (.box 3 (tm 0)), op 3 (.box 3 (tm 1)), op 4 (.mov (.cst (.bool false)))] [2, 3] none)
 (.seq (.region none [] [
 op 5 (.faddr 0 (tm 2)), op 6 (.load none (tm 5)), op 7 (.faddr 0 (tm 3)), op 8 (.load none (tm 7)), op 9 (.bin .eql .int (tm 6) (tm 8)), mv 10 9, ⟨some 11, .faddr 1 (tm 2), some (10, true)⟩, ⟨some 12, .load none (tm 11), some (10, true)⟩, ⟨some 13, .faddr 1 (tm 3), some (10, true)⟩, ⟨some 14, .load none (tm 13), some (10, true)⟩, ⟨some 15, .call .pure 55 [(tm 12), (tm 14)], some (10, true)⟩, op 16 (.pick (tm 10) (tm 15) (.cst (.bool false))), mv 17 16, ⟨some 18, .faddr 2 (tm 2), some (17, true)⟩, ⟨some 19, .load none (tm 18), some (17, true)⟩, ⟨some 20, .faddr 2 (tm 3), some (17, true)⟩, ⟨some 21, .load none (tm 20), some (17, true)⟩, ⟨some 22, .call .pure 56 [(tm 19), (tm 21)], some (17, true)⟩, op 23 (.pick (tm 17) (tm 22) (.cst (.bool false))), mv 4 23] [4] none)
 (.ret))

def a54 : AFunc := ⟨2, c54, [.tmp 4]⟩

def an54 : List RAnn := [
 { id := 0, live := [2, 3] },
 { id := 1, live := [4] }]

theorem comp54 : compF Tryz.prog an54 Tryz.f54 = some a54 := by kernel_rfl

/- slices.Equal[[]string,string] -/
/-- loop 0 of function 55 -/
def l55_0_h : List Nat := [0, 1, 12, 13]

def l55_0_b : ACode :=
 .seq (.region none [] [
 op 14 (.bin .lss .int (tm 13) (tm 12))] [0, 1, 12, 13, 14] none)
 (.seq (.cond (tm 14) (.skip)
 (.exit 0))
 (.seq (.block 1 (.seq (.region none [] [
 mv 15 13, mv 5 15] [0, 1, 5, 12, 13] none)
 (.seq (.region (some 9) [] [
 mv 16 0, mv 17 5, op 18 (.iaddr 1 (tm 16) (tm 17)), op 19 (.load none (tm 18)), mv 20 1, mv 21 5, op 22 (.iaddr 1 (tm 20) (tm 21)), op 23 (.load none (tm 22)), op 24 (.bin .neq .str (tm 19) (tm 23))] [0, 1, 12, 13, 24] none)
 (.cond (tm 24) (.seq (.region none [] [
 op 4 (.mov (.cst (.bool false)))] [4] none)
 (.ret))
 (.skip)))))
 (.region none [] [
 op 25 (.bin .add .int (tm 13) (ci (1))), mv 13 25] [0, 1, 12, 13] none)))

def c55 : ACode :=
 .seq (.region none [] [
 op 4 (.mov (.cst (.bool false)))] [0, 1] none)
 (.seq (.seq (.region none [] [
 mv 6 0, op 7 (.len .slice (tm 6)), mv 8 1, op 9 (.len .slice (tm 8)), op 10 (.bin .neq .int (tm 7) (tm 9))] [0, 1, 10] none)
 (.cond (tm 10) (.seq (.region none [] [
 op 4 (.mov (.cst (.bool false)))] [4] none)
 (.ret))
 (.skip)))
 (.seq (.seq (.region none [] [
 mv 11 0, op 12 (.len .slice (tm 11)), op 13 (.mov (ci (0)))] [0, 1, 12, 13] none)
 (.block 0 (.loop l55_0_h l55_0_b)))
 (.seq (.region none [] [
 op 4 (.mov (.cst (.bool true)))] [4] none)
 (.ret))))

def a55 : AFunc := ⟨2, c55, [.tmp 4]⟩

def an55 : List RAnn := [
 { id := 0, live := [0, 1] },
 { id := 1, live := [0, 1, 10] },
 { id := 2, live := [4] },
 { id := 3, live := [0, 1, 12, 13] },
 { id := 4, live := [0, 1, 12, 13, 14], hdr := [0, 1, 12, 13] },
 { id := 5, live := [0, 1, 5, 12, 13] },
 { id := 6, head := some 9, live := [0, 1, 12, 13, 24] },
 { id := 7, live := [4] },
 { id := 8, live := [0, 1, 12, 13] },
 { id := 9, live := [4] }]

theorem comp55 : compF Tryz.prog an55 Tryz.f55 = some a55 := by kernel_rfl

/- graphdb/graph.sameProps -/
def c56 : ACode :=
 .seq (.region none [] [
 op 4 (.mov (.cst (.bool false)))] [0, 1] none)
 (.seq (.region none [] [
 mv 5 0, mv 6 1, op 7 (.call .pure 104 [(tm 5), (tm 6), (.cst (.fn 105 []))]), mv 4 7] [4] none)
 (.ret))

def a56 : AFunc := ⟨2, c56, [.tmp 4]⟩

def an56 : List RAnn := [
 { id := 0, live := [0, 1] },
 { id := 1, live := [4] }]

theorem comp56 : compF Tryz.prog an56 Tryz.f56 = some a56 := by kernel_rfl

/- slices.EqualFunc[[]graphdb/api.Edge,[]graphdb/api.Edge,graphdb/api.Edge,graphdb/api.Edge] -/
/-- loop 0 of function 57 -/
def l57_0_h : List Nat := [1, 2, 15, 16, 17]

def l57_0_b : ACode :=
 .seq (.region none [] [
 op 18 (.bin .lss .int (tm 17) (tm 16))] [1, 2, 15, 16, 17, 18] none)
 (.seq (.cond (tm 18) (.skip)
 (.exit 0))
 (.seq (.block 1 (.seq (.region none [] [
 mv 19 17, op 20 (.iaddr 5 (tm 15) (tm 17)), op 21 (.load (some 5) (tm 20)), op 8 (.alloc 5 (.agg [.int .i64 0, .int .i64 0, .int .i64 0, .str [], .sl false []])), mv 7 19, ⟨none, .store 5 (tm 8) (tm 21), none⟩] [1, 2, 7, 8, 15, 16, 17] none)
 (.seq (.region none [] [
 mv 22 1, mv 23 7, op 24 (.iaddr 5 (tm 22) (tm 23)), op 25 (.load (some 5) (tm 24)), op 9 (.alloc 5 (.agg [.int .i64 0, .int .i64 0, .int .i64 0, .str [], .sl false []])), ⟨none, .store 5 (tm 9) (tm 25), none⟩] [1, 2, 8, 9, 15, 16, 17] none)
 (.seq (.region none [] [
 mv 26 2, op 27 (.load (some 5) (tm 8)), op 28 (.load (some 5) (tm 9)), op 29 (.callv .pure (tm 26) [(tm 27), (tm 28)]), op 30 (.un .not (tm 29))] [1, 2, 15, 16, 17, 30] none)
 (.cond (tm 30) (.seq (.region none [] [
 op 6 (.mov (.cst (.bool false)))] [6] none)
 (.ret))
 (.skip))))))
 (.region none [] [
 op 31 (.bin .add .int (tm 17) (ci (1))), mv 17 31] [1, 2, 15, 16, 17] none)))

def c57 : ACode :=
 .seq (.region none [] [
 op 6 (.mov (.cst (.bool false)))] [0, 1, 2] none)
 (.seq (.seq (.region none [] [
 mv 10 0, op 11 (.len .slice (tm 10)), mv 12 1, op 13 (.len .slice (tm 12)), op 14 (.bin .neq .int (tm 11) (tm 13))] [0, 1, 2, 14] none)
 (.cond (tm 14) (.seq (.region none [] [
 op 6 (.mov (.cst (.bool false)))] [6] none)
 (.ret))
 (.skip)))
 (.seq (.seq (.region none [] [
 mv 15 0, op 16 (.len .slice (tm 15)), op 17 (.mov (ci (0)))] [1, 2, 15, 16, 17] none)
 (.block 0 (.loop l57_0_h l57_0_b)))
 (.seq (.region none [] [
 op 6 (.mov (.cst (.bool true)))] [6] none)
 (.ret))))

def a57 : AFunc := ⟨3, c57, [.tmp 6]⟩

def an57 : List RAnn := [
 { id := 0, live := [0, 1, 2] },
 { id := 1, live := [0, 1, 2, 14] },
 { id := 2, live := [6] },
 { id := 3, live := [1, 2, 15, 16, 17] },
 { id := 4, live := [1, 2, 15, 16, 17, 18], hdr := [1, 2, 15, 16, 17] },
 { id := 5, live := [1, 2, 7, 8, 15, 16, 17] },
 { id := 6, live := [1, 2, 8, 9, 15, 16, 17] },
 { id := 7, live := [1, 2, 15, 16, 17, 30] },
 { id := 8, live := [6] },
 { id := 9, live := [1, 2, 15, 16, 17] },
 { id := 10, live := [6] }]

theorem comp57 : compF Tryz.prog an57 Tryz.f57 = some a57 := by kernel_rfl

/- graphdb/graph.Same$2 -/
def c58 : ACode :=
 .seq (.region none [] [
 op 2 (.box 5 (tm 0)), op 3 (.box 5 (tm 1)), op 4 (.mov (.cst (.bool false)))] [2, 3] none)
 (.seq (.region none [] [
 op 5 (.faddr 0 (tm 2)), op 6 (.load none (tm 5)), op 7 (.faddr 0 (tm 3)), op 8 (.load none (tm 7)), op 9 (.bin .eql .int (tm 6) (tm 8)), mv 10 9, ⟨some 11, .faddr 1 (tm 2), some (10, true)⟩, ⟨some 12, .load none (tm 11), some (10, true)⟩, ⟨some 13, .faddr 1 (tm 3), some (10, true)⟩, ⟨some 14, .load none (tm 13), some (10, true)⟩, ⟨some 15, .bin .eql .int (tm 12) (tm 14), some (10, true)⟩, op 16 (.pick (tm 10) (tm 15) (.cst (.bool false))), mv 17 16, ⟨some 18, .faddr 2 (tm 2), some (17, true)⟩, ⟨some 19, .load none (tm 18), some (17, true)⟩, ⟨some 20, .faddr 2 (tm 3), some (17, true)⟩, ⟨some 21, .load none (tm 20), some (17, true)⟩, ⟨some 22, .bin .eql .int (tm 19) (tm 21), some (17, true)⟩, op 23 (.pick (tm 17) (tm 22) (.cst (.bool false))), mv 24 23, ⟨some 25, .faddr 3 (tm 2), some (24, true)⟩, ⟨some 26, .load none (tm 25), some (24, true)⟩, ⟨some 27, .faddr 3 (tm 3), some (24, true)⟩, ⟨some 28, .load none (tm 27), some (24, true)⟩, ⟨some 29, .bin .eql .str (tm 26) (tm 28), some (24, true)⟩, op 30 (.pick (tm 24) (tm 29) (.cst (.bool false))), mv 31 30, ⟨some 32, .faddr 4 (tm 2), some (31, true)⟩, ⟨some 33, .load none (tm 32), some (31, true)⟩, ⟨some 34, .faddr 4 (tm 3), some (31, true)⟩, ⟨some 35, .load none (tm 34), some (31, true)⟩, ⟨some 36, .call .pure 56 [(tm 33), (tm 35)], some (31, true)⟩, op 37 (.pick (tm 31) (tm 36) (.cst (.bool false))), mv 4 37] [4] none)
 (.ret))

def a58 : AFunc := ⟨2, c58, [.tmp 4]⟩

def an58 : List RAnn := [
 { id := 0, live := [2, 3] },
 { id := 1, live := [4] }]

theorem comp58 : compF Tryz.prog an58 Tryz.f58 = some a58 := by kernel_rfl

/- graphdb/graphdbref07.parts -/
/-- loop 0 of function 59 -/
def l59_0_h : List Nat := [1, 6]

def l59_0_b : ACode :=
 .seq (.seq (.region none [] [
 mv 33 6, mv 34 1, op 35 (.len .slice (tm 34)), op 36 (.bin .lss .int (tm 33) (tm 35))] [1, 6, 36] none)
 (.cond (tm 36) (.skip)
 (.exit 0)))
 (.seq (.block 1 (.seq (.region none [] [
 mv 39 1, mv 40 6, op 41 (.iaddr 6 (tm 39) (tm 40)), op 42 (.faddr 1 (tm 41)), op 43 (.load (some 5) (tm 42)), op 44 (.call .pure 65 [(tm 43)]), op 45 (.un .not (tm 44))] [1, 6, 45] none)
 (.cond (tm 45) (.seq (.region none [] [
 op 4 (.mov (ci (8)))] [4] none)
 (.ret))
 (.skip))))
 (.region none [] [
 mv 37 6, op 38 (.bin .add .int (tm 37) (ci (1))), mv 6 38] [1, 6] none))

def c59 : ACode :=
 .seq (.region none [] [
 op 4 (.mov (ci (0)))] [0, 1] none)
 (.seq (.seq (.region none [] [
 mv 7 0, op 8 (.len .slice (tm 7)), op 9 (.bin .gtr .int (tm 8) (ci (8))), mv 10 9, mg 11 1 10 false, ⟨some 12, .len .slice (tm 11), some (10, false)⟩, ⟨some 13, .bin .gtr .int (tm 12) (ci (16)), some (10, false)⟩, op 14 (.pick (tm 10) (.cst (.bool true)) (tm 13))] [0, 1, 14] none)
 (.cond (tm 14) (.seq (.region none [] [
 op 4 (.mov (ci (4)))] [4] none)
 (.ret))
 (.skip)))
 (.seq (.region none [] [
 mv 15 1, op 16 (.call .pure 106 [(tm 15)]), mv 5 16] [0, 1, 5] none)
 (.seq (.seq (.region none [] [
 mv 17 0, op 18 (.call .pure 107 [(tm 17)]), op 19 (.un .not (tm 18)), mv 20 19, mg 21 5 20 false, ⟨some 22, .call .pure 107 [(tm 21)], some (20, false)⟩, ⟨some 23, .un .not (tm 22), some (20, false)⟩, op 24 (.pick (tm 20) (.cst (.bool true)) (tm 23))] [0, 1, 5, 24] none)
 (.cond (tm 24) (.seq (.region none [] [
 op 4 (.mov (ci (6)))] [4] none)
 (.ret))
 (.skip)))
 (.seq (.seq (.region none [] [
 mv 25 0, op 26 (.call .pure 108 [(tm 25)]), op 27 (.un .not (tm 26)), mv 28 27, mg 29 5 28 false, ⟨some 30, .call .pure 108 [(tm 29)], some (28, false)⟩, ⟨some 31, .un .not (tm 30), some (28, false)⟩, op 32 (.pick (tm 28) (.cst (.bool true)) (tm 31))] [1, 32] none)
 (.cond (tm 32) (.seq (.region none [] [
 op 4 (.mov (ci (26)))] [4] none)
 (.ret))
 (.skip)))
 (.seq (.seq (.region none [] [
 op 6 (.mov (ci (0)))] [1, 6] none)
 (.block 0 (.loop l59_0_h l59_0_b)))
 (.seq (.region none [] [
 op 4 (.mov (ci (0)))] [4] none)
 (.ret)))))))

def a59 : AFunc := ⟨2, c59, [.tmp 4]⟩

def an59 : List RAnn := [
 { id := 0, live := [0, 1] },
 { id := 1, live := [0, 1, 14] },
 { id := 2, live := [4] },
 { id := 3, live := [0, 1, 5] },
 { id := 4, live := [0, 1, 5, 24] },
 { id := 5, live := [4] },
 { id := 6, live := [1, 32] },
 { id := 7, live := [4] },
 { id := 8, live := [1, 6] },
 { id := 9, live := [1, 6, 36], hdr := [1, 6] },
 { id := 11, live := [1, 6, 45] },
 { id := 12, live := [4] },
 { id := 10, live := [1, 6] },
 { id := 13, live := [4] }]

theorem comp59 : compF Tryz.prog an59 Tryz.f59 = some a59 := by kernel_rfl

/- graphdb/graphdbref07.Name -/
/-- loop 0 of function 60 -/
def l60_0_h : List Nat := [0, 3]

def l60_0_b : ACode :=
 .seq (.seq (.region none [] [
 mv 18 3, mv 19 0, op 20 (.len .str (tm 19)), op 21 (.bin .lss .int (tm 18) (tm 20))] [0, 3, 21] none)
 (.cond (tm 21) (.skip)
 (.exit 0)))
 (.seq (.block 1 (.seq (.region none [] [
 mv 24 0, mv 25 3, op 26 (.sidx (tm 24) (tm 25)), op 27 (.call .pure 109 [(tm 26)]), op 28 (.un .not (tm 27)), mv 29 28, mg 30 0 29 true, mg 31 3 29 true, ⟨some 32, .sidx (tm 30) (tm 31), some (29, true)⟩, ⟨some 33, .bin .neq .int (tm 32) (.cst (.int .u8 95)), some (29, true)⟩, op 34 (.pick (tm 29) (tm 33) (.cst (.bool false))), mv 35 34, mg 36 0 35 true, mg 37 3 35 true, ⟨some 38, .sidx (tm 36) (tm 37), some (35, true)⟩, ⟨some 39, .bin .lss .int (tm 38) (.cst (.int .u8 48)), some (35, true)⟩, mg 40 39 35 true, mg 41 0 40 false, mg 42 3 40 false, ⟨some 43, .sidx (tm 41) (tm 42), some (40, false)⟩, ⟨some 44, .bin .gtr .int (tm 43) (.cst (.int .u8 57)), some (40, false)⟩, ⟨some 45, .pick (tm 40) (.cst (.bool true)) (tm 44), some (35, true)⟩, op 46 (.pick (tm 35) (tm 45) (.cst (.bool false)))] [0, 3, 46] none)
 (.cond (tm 46) (.seq (.region none [] [
 op 2 (.mov (.cst (.bool false)))] [2] none)
 (.ret))
 (.skip))))
 (.region none [] [
 mv 22 3, op 23 (.bin .add .int (tm 22) (ci (1))), mv 3 23] [0, 3] none))

def c60 : ACode :=
 .seq (.region none [] [
 op 2 (.mov (.cst (.bool false)))] [0] none)
 (.seq (.seq (.region none [] [
 mv 4 0, op 5 (.len .str (tm 4)), op 6 (.bin .lss .int (tm 5) (ci (1))), mv 7 6, mg 8 0 7 false, ⟨some 9, .len .str (tm 8), some (7, false)⟩, ⟨some 10, .bin .gtr .int (tm 9) (ci (20)), some (7, false)⟩, op 11 (.pick (tm 7) (.cst (.bool true)) (tm 10)), mv 12 11, mg 13 0 12 false, ⟨some 14, .sidx (tm 13) (ci (0)), some (12, false)⟩, ⟨some 15, .call .pure 109 [(tm 14)], some (12, false)⟩, ⟨some 16, .un .not (tm 15), some (12, false)⟩, op 17 (.pick (tm 12) (.cst (.bool true)) (tm 16))] [0, 17] none)
 (.cond (tm 17) (.seq (.region none [] [
 op 2 (.mov (.cst (.bool false)))] [2] none)
 (.ret))
 (.skip)))
 (.seq (.seq (.region none [] [
 op 3 (.mov (ci (1)))] [0, 3] none)
 (.block 0 (.loop l60_0_h l60_0_b)))
 (.seq (.region none [] [
 op 2 (.mov (.cst (.bool true)))] [2] none)
 (.ret))))

def a60 : AFunc := ⟨1, c60, [.tmp 2]⟩

def an60 : List RAnn := [
 { id := 0, live := [0] },
 { id := 1, live := [0, 17] },
 { id := 2, live := [2] },
 { id := 3, live := [0, 3] },
 { id := 4, live := [0, 3, 21], hdr := [0, 3] },
 { id := 6, live := [0, 3, 46] },
 { id := 7, live := [2] },
 { id := 5, live := [0, 3] },
 { id := 8, live := [2] }]

theorem comp60 : compF Tryz.prog an60 Tryz.f60 = some a60 := by kernel_rfl

/- graphdb/graphdbref08.id -/
def c61 : ACode :=
 .seq (.region none [] [
 op 2 (.mov (.cst (.bool false)))] [0] none)
 (.seq (.region none [] [
 mv 3 0, op 4 (.bin .geq .int (tm 3) (ci (1))), mv 5 4, mg 6 0 5 true, ⟨some 7, .bin .leq .int (tm 6) (ci (1000000)), some (5, true)⟩, op 8 (.pick (tm 5) (tm 7) (.cst (.bool false))), mv 2 8] [2] none)
 (.ret))

def a61 : AFunc := ⟨1, c61, [.tmp 2]⟩

def an61 : List RAnn := [
 { id := 0, live := [0] },
 { id := 1, live := [2] }]

theorem comp61 : compF Tryz.prog an61 Tryz.f61 = some a61 := by kernel_rfl

/- graphdb/graphdbref08.Named -/
def c62 : ACode :=
 .seq (.region none [] [
 op 2 (.mov (.cst (.bool false)))] [0] none)
 (.seq (.region none [] [
 mv 3 0, op 4 (.bin .eql .int (tm 3) (ci (3))), mv 5 4, mg 6 0 5 false, ⟨some 7, .bin .eql .int (tm 6) (ci (4)), some (5, false)⟩, op 8 (.pick (tm 5) (.cst (.bool true)) (tm 7)), mv 9 8, mg 10 0 9 false, ⟨some 11, .bin .eql .int (tm 10) (ci (5)), some (9, false)⟩, op 12 (.pick (tm 9) (.cst (.bool true)) (tm 11)), mv 13 12, mg 14 0 13 false, ⟨some 15, .bin .eql .int (tm 14) (ci (6)), some (13, false)⟩, op 16 (.pick (tm 13) (.cst (.bool true)) (tm 15)), mv 17 16, mg 18 0 17 false, ⟨some 19, .bin .eql .int (tm 18) (ci (8)), some (17, false)⟩, op 20 (.pick (tm 17) (.cst (.bool true)) (tm 19)), mv 2 20] [2] none)
 (.ret))

def a62 : AFunc := ⟨1, c62, [.tmp 2]⟩

def an62 : List RAnn := [
 { id := 0, live := [0] },
 { id := 1, live := [2] }]

theorem comp62 : compF Tryz.prog an62 Tryz.f62 = some a62 := by kernel_rfl

/- graphdb/graphdbref08.Valued -/
def c63 : ACode :=
 .seq (.region none [] [
 op 2 (.mov (.cst (.bool false)))] [0] none)
 (.seq (.region none [] [
 mv 3 0, op 4 (.bin .eql .int (tm 3) (ci (5))), mv 5 4, mg 6 0 5 false, ⟨some 7, .bin .eql .int (tm 6) (ci (8)), some (5, false)⟩, op 8 (.pick (tm 5) (.cst (.bool true)) (tm 7)), mv 2 8] [2] none)
 (.ret))

def a63 : AFunc := ⟨1, c63, [.tmp 2]⟩

def an63 : List RAnn := [
 { id := 0, live := [0] },
 { id := 1, live := [2] }]

theorem comp63 : compF Tryz.prog an63 Tryz.f63 = some a63 := by kernel_rfl

/- graphdb/graphdbref08.null -/
def c64 : ACode :=
 .seq (.region none [] [
 op 1 (.box 5 (tm 0)), op 2 (.mov (.cst (.bool false)))] [1] none)
 (.seq (.region none [] [
 op 3 (.load (some 5) (tm 1)), op 4 (.build [.int .i64 0, .int .i64 0, .int .i64 0, .str [], .sl false []] []), op 5 (.call .pure 52 [(tm 3), (tm 4)]), op 6 (.bin .eql .int (tm 5) (ci (0))), mv 2 6] [2] none)
 (.ret))

def a64 : AFunc := ⟨1, c64, [.tmp 2]⟩

def an64 : List RAnn := [
 { id := 0, live := [1] },
 { id := 1, live := [2] }]

theorem comp64 : compF Tryz.prog an64 Tryz.f64 = some a64 := by kernel_rfl

/- graphdb/graphdbref04.Plain -/
def c65 : ACode :=
 .seq (.region none [] [
 op 1 (.box 5 (tm 0)), op 2 (.mov (.cst (.bool false)))] [1] none)
 (.seq (.region none [] [
 op 3 (.load (some 5) (tm 1)), op 4 (.call .pure 97 [(tm 3)]), mv 5 4, ⟨some 6, .faddr 0 (tm 1), some (5, true)⟩, ⟨some 7, .load none (tm 6), some (5, true)⟩, ⟨some 8, .bin .eql .int (tm 7) (ci (1)), some (5, true)⟩, mg 9 8 5 true, ⟨some 10, .faddr 0 (tm 1), some (9, false)⟩, ⟨some 11, .load none (tm 10), some (9, false)⟩, ⟨some 12, .bin .eql .int (tm 11) (ci (2)), some (9, false)⟩, ⟨some 13, .pick (tm 9) (.cst (.bool true)) (tm 12), some (5, true)⟩, mg 14 13 5 true, ⟨some 15, .faddr 0 (tm 1), some (14, false)⟩, ⟨some 16, .load none (tm 15), some (14, false)⟩, ⟨some 17, .bin .eql .int (tm 16) (ci (4)), some (14, false)⟩, ⟨some 18, .pick (tm 14) (.cst (.bool true)) (tm 17), some (5, true)⟩, op 19 (.pick (tm 5) (tm 18) (.cst (.bool false))), mv 2 19] [2] none)
 (.ret))

def a65 : AFunc := ⟨1, c65, [.tmp 2]⟩

def an65 : List RAnn := [
 { id := 0, live := [1] },
 { id := 1, live := [2] }]

theorem comp65 : compF Tryz.prog an65 Tryz.f65 = some a65 := by kernel_rfl

/- graphdb/graphdbref08.setProp -/
/-- loop 0 of function 66 -/
def l66_0_h : List Nat := [0, 1, 5, 8, 9, 10]

def l66_0_b : ACode :=
 .seq (.seq (.region none [] [
 mv 11 10, mv 12 0, op 13 (.len .slice (tm 12)), op 14 (.bin .lss .int (tm 11) (tm 13))] [0, 1, 5, 8, 9, 10, 14] none)
 (.cond (tm 14) (.skip)
 (.exit 0)))
 (.seq (.block 1 (.seq (.seq (.region none [] [
 mv 17 9, op 18 (.un .not (tm 17)), mv 19 18, mg 20 0 19 true, mg 21 10 19 true, ⟨some 22, .iaddr 6 (tm 20) (tm 21), some (19, true)⟩, ⟨some 23, .faddr 0 (tm 22), some (19, true)⟩, ⟨some 24, .load none (tm 23), some (19, true)⟩, mg 25 1 19 true, ⟨some 26, .bin .geq .str (tm 24) (tm 25), some (19, true)⟩, op 27 (.pick (tm 19) (tm 26) (.cst (.bool false)))] [0, 1, 5, 8, 9, 10, 27] none)
 (.cond (tm 27) (.seq (.region none [] [
 op 9 (.mov (.cst (.bool true)))] [0, 1, 5, 8, 9, 10] none)
 (.seq (.region none [] [
 op 28 (.load (some 5) (tm 5)), op 29 (.call .pure 64 [(tm 28)]), op 30 (.un .not (tm 29))] [0, 1, 5, 8, 9, 10, 30] none)
 (.cond (tm 30) (.region none [] [
 mv 31 8, mv 32 1, op 33 (.load (some 5) (tm 5)), op 34 (.build [.str [], .int .i64 0, .int .i64 0, .int .i64 0, .str [], .sl false []] [(0, 1, (tm 32)), (1, 5, (tm 33))]), op 35 (.lit false 6 (.agg [.str [], .int .i64 0, .int .i64 0, .int .i64 0, .str [], .sl false []]) 1 [(0, (tm 34))]), op 36 (.append 6 80 (tm 31) (tm 35)), mv 8 36] [0, 1, 5, 8, 9, 10] none)
 (.skip))))
 (.skip)))
 (.seq (.region none [] [
 mv 37 0, mv 38 10, op 39 (.iaddr 6 (tm 37) (tm 38)), op 40 (.faddr 0 (tm 39)), op 41 (.load none (tm 40)), mv 42 1, op 43 (.bin .neq .str (tm 41) (tm 42))] [0, 1, 5, 8, 9, 10, 43] none)
 (.cond (tm 43) (.region none [] [
 mv 44 8, mv 45 0, mv 46 10, op 47 (.iaddr 6 (tm 45) (tm 46)), op 48 (.load (some 6) (tm 47)), op 49 (.lit false 6 (.agg [.str [], .int .i64 0, .int .i64 0, .int .i64 0, .str [], .sl false []]) 1 [(0, (tm 48))]), op 50 (.append 6 80 (tm 44) (tm 49)), mv 8 50] [0, 1, 5, 8, 9, 10] none)
 (.skip)))))
 (.region none [] [
 mv 15 10, op 16 (.bin .add .int (tm 15) (ci (1))), mv 10 16] [0, 1, 5, 8, 9, 10] none))

def c66 : ACode :=
 .seq (.region none [] [
 op 5 (.box 5 (tm 2)), op 6 (.mov (.cst (.sl false []))), op 7 (.mov (.cst (.bool false)))] [0, 1, 5] none)
 (.seq (.region none [] [
 op 8 (.newown 6)] [0, 1, 5, 8] none)
 (.seq (.region none [] [
 op 9 (.mov (.cst (.bool false)))] [0, 1, 5, 8, 9] none)
 (.seq (.seq (.region none [] [
 op 10 (.mov (ci (0)))] [0, 1, 5, 8, 9, 10] none)
 (.block 0 (.loop l66_0_h l66_0_b)))
 (.seq (.seq (.region none [] [
 mv 51 9, op 52 (.un .not (tm 51)), mv 53 52, ⟨some 54, .load (some 5) (tm 5), some (53, true)⟩, ⟨some 55, .call .pure 64 [(tm 54)], some (53, true)⟩, ⟨some 56, .un .not (tm 55), some (53, true)⟩, op 57 (.pick (tm 53) (tm 56) (.cst (.bool false)))] [1, 5, 8, 57] none)
 (.cond (tm 57) (.region none [] [
 mv 58 8, mv 59 1, op 60 (.load (some 5) (tm 5)), op 61 (.build [.str [], .int .i64 0, .int .i64 0, .int .i64 0, .str [], .sl false []] [(0, 1, (tm 59)), (1, 5, (tm 60))]), op 62 (.lit false 6 (.agg [.str [], .int .i64 0, .int .i64 0, .int .i64 0, .str [], .sl false []]) 1 [(0, (tm 61))]), op 63 (.append 6 80 (tm 58) (tm 62)), mv 8 63] [8] none)
 (.skip)))
 (.seq (.region none [] [
 mv 64 8, mv 65 8, op 66 (.len .slice (tm 65)), op 67 (.bin .leq .int (tm 66) (ci (16))), mv 6 64, mv 7 67] [6, 7] none)
 (.ret))))))

def a66 : AFunc := ⟨3, c66, [.tmp 6, .tmp 7]⟩

def an66 : List RAnn := [
 { id := 0, live := [0, 1, 5] },
 { id := 1, live := [0, 1, 5, 8], ops := [(0, .own)] },
 { id := 2, live := [0, 1, 5, 8, 9] },
 { id := 3, live := [0, 1, 5, 8, 9, 10] },
 { id := 4, live := [0, 1, 5, 8, 9, 10, 14], hdr := [0, 1, 5, 8, 9, 10] },
 { id := 6, live := [0, 1, 5, 8, 9, 10, 27] },
 { id := 7, live := [0, 1, 5, 8, 9, 10] },
 { id := 8, live := [0, 1, 5, 8, 9, 10, 30] },
 { id := 9, live := [0, 1, 5, 8, 9, 10] },
 { id := 10, live := [0, 1, 5, 8, 9, 10, 43] },
 { id := 11, live := [0, 1, 5, 8, 9, 10] },
 { id := 5, live := [0, 1, 5, 8, 9, 10] },
 { id := 12, live := [1, 5, 8, 57] },
 { id := 13, live := [8] },
 { id := 14, live := [6, 7] }]

theorem comp66 : compF Tryz.prog an66 Tryz.f66 = some a66 := by kernel_rfl

/- graphdb/graphdbref07.HasLabel -/
def c67 : ACode :=
 .seq (.region none [] [
 op 2 (.box 3 (tm 0)), op 4 (.mov (.cst (.bool false)))] [1, 2] none)
 (.seq (.region none [] [
 op 5 (.faddr 1 (tm 2)), op 6 (.load none (tm 5)), mv 7 1, op 8 (.call .pure 110 [(tm 6), (tm 7)]), mv 4 8] [4] none)
 (.ret))

def a67 : AFunc := ⟨2, c67, [.tmp 4]⟩

def an67 : List RAnn := [
 { id := 0, live := [1, 2] },
 { id := 1, live := [4] }]

theorem comp67 : compF Tryz.prog an67 Tryz.f67 = some a67 := by kernel_rfl

/- graphdb/graphdbref08.Used -/
def c68 : ACode :=
 .seq (.region none [] [
 op 2 (.box 4 (tm 0)), op 4 (.mov (.cst (.bool false)))] [1, 2] none)
 (.seq (.region none [] [
 op 5 (.load (some 4) (tm 2)), mv 6 1, op 7 (.call .pure 111 [(tm 5), (tm 6), (.cst (.sl false [])), (ci (3))]), op 8 (.len .slice (tm 7)), op 9 (.bin .gtr .int (tm 8) (ci (0))), mv 4 9] [4] none)
 (.ret))

def a68 : AFunc := ⟨2, c68, [.tmp 4]⟩

def an68 : List RAnn := [
 { id := 0, live := [1, 2] },
 { id := 1, live := [4] }]

theorem comp68 : compF Tryz.prog an68 Tryz.f68 = some a68 := by kernel_rfl

/- graphdb/graphdbref07.PutStr -/
/-- loop 0 of function 69 -/
def l69_0_h : List Nat := [0, 1, 5, 6]

def l69_0_b : ACode :=
 .seq (.seq (.region none [] [
 mv 7 6, mv 8 0, op 9 (.len .slice (tm 8)), op 10 (.bin .lss .int (tm 7) (tm 9)), mv 11 10, mg 12 0 11 true, mg 13 6 11 true, ⟨some 14, .iaddr 1 (tm 12) (tm 13), some (11, true)⟩, ⟨some 15, .load none (tm 14), some (11, true)⟩, mg 16 1 11 true, ⟨some 17, .bin .lss .str (tm 15) (tm 16), some (11, true)⟩, op 18 (.pick (tm 11) (tm 17) (.cst (.bool false)))] [0, 1, 5, 6, 18] none)
 (.cond (tm 18) (.skip)
 (.exit 0)))
 (.block 1 (.region none [] [
 mv 19 6, op 20 (.bin .add .int (tm 19) (ci (1))), mv 6 20] [0, 1, 5, 6] none))

def c69 : ACode :=
 .seq (.region none [] [
 op 4 (.mov (.cst (.sl false [])))] [0, 1] none)
 (.seq (.region none [] [
 op 5 (.newown 1)] [0, 1, 5] none)
 (.seq (.region none [] [
 op 6 (.mov (ci (0)))] [0, 1, 5, 6] none)
 (.seq (.block 0 (.loop l69_0_h l69_0_b))
 (.seq (.region none [] [
 mv 21 5, mv 22 0, mv 23 6, op 24 (.slice 1 (tm 22) none (some (tm 23))), op 25 (.append 1 16 (tm 21) (tm 24)), mv 5 25] [0, 1, 5, 6] none)
 (.seq (.seq (.region none [] [
 mv 26 6, mv 27 0, op 28 (.len .slice (tm 27)), op 29 (.bin .eql .int (tm 26) (tm 28)), mv 30 29, mg 31 0 30 false, mg 32 6 30 false, ⟨some 33, .iaddr 1 (tm 31) (tm 32), some (30, false)⟩, ⟨some 34, .load none (tm 33), some (30, false)⟩, mg 35 1 30 false, ⟨some 36, .bin .neq .str (tm 34) (tm 35), some (30, false)⟩, op 37 (.pick (tm 30) (.cst (.bool true)) (tm 36))] [0, 1, 5, 6, 37] none)
 (.cond (tm 37) (.region none [] [
 mv 38 5, mv 39 1, op 40 (.lit false 1 (.str []) 1 [(0, (tm 39))]), op 41 (.append 1 16 (tm 38) (tm 40)), mv 5 41] [0, 5, 6] none)
 (.skip)))
 (.seq (.region none [] [
 mv 42 5, mv 43 0, mv 44 6, op 45 (.slice 1 (tm 43) (some (tm 44)) none), op 46 (.append 1 16 (tm 42) (tm 45)), mv 4 46] [4] none)
 (.ret)))))))

def a69 : AFunc := ⟨2, c69, [.tmp 4]⟩

def an69 : List RAnn := [
 { id := 0, live := [0, 1] },
 { id := 1, live := [0, 1, 5], ops := [(0, .own)] },
 { id := 2, live := [0, 1, 5, 6] },
 { id := 3, live := [0, 1, 5, 6, 18], hdr := [0, 1, 5, 6] },
 { id := 4, live := [0, 1, 5, 6] },
 { id := 5, live := [0, 1, 5, 6] },
 { id := 6, live := [0, 1, 5, 6, 37] },
 { id := 7, live := [0, 5, 6] },
 { id := 8, live := [4] }]

theorem comp69 : compF Tryz.prog an69 Tryz.f69 = some a69 := by kernel_rfl

/- graphdb/graphdbref08.without -/
/-- loop 0 of function 70 -/
def l70_0_h : List Nat := [0, 1, 5, 6]

def l70_0_b : ACode :=
 .seq (.seq (.region none [] [
 mv 7 6, mv 8 0, op 9 (.len .slice (tm 8)), op 10 (.bin .lss .int (tm 7) (tm 9))] [0, 1, 5, 6, 10] none)
 (.cond (tm 10) (.skip)
 (.exit 0)))
 (.seq (.block 1 (.seq (.region none [] [
 mv 13 0, mv 14 6, op 15 (.iaddr 1 (tm 13) (tm 14)), op 16 (.load none (tm 15)), mv 17 1, op 18 (.bin .neq .str (tm 16) (tm 17))] [0, 1, 5, 6, 18] none)
 (.cond (tm 18) (.region none [] [
 mv 19 5, mv 20 0, mv 21 6, op 22 (.iaddr 1 (tm 20) (tm 21)), op 23 (.load none (tm 22)), op 24 (.lit false 1 (.str []) 1 [(0, (tm 23))]), op 25 (.append 1 16 (tm 19) (tm 24)), mv 5 25] [0, 1, 5, 6] none)
 (.skip))))
 (.region none [] [
 mv 11 6, op 12 (.bin .add .int (tm 11) (ci (1))), mv 6 12] [0, 1, 5, 6] none))

def c70 : ACode :=
 .seq (.region none [] [
 op 4 (.mov (.cst (.sl false [])))] [0, 1] none)
 (.seq (.region none [] [
 op 5 (.newown 1)] [0, 1, 5] none)
 (.seq (.seq (.region none [] [
 op 6 (.mov (ci (0)))] [0, 1, 5, 6] none)
 (.block 0 (.loop l70_0_h l70_0_b)))
 (.seq (.region none [] [
 mv 26 5, mv 4 26] [4] none)
 (.ret))))

def a70 : AFunc := ⟨2, c70, [.tmp 4]⟩

def an70 : List RAnn := [
 { id := 0, live := [0, 1] },
 { id := 1, live := [0, 1, 5], ops := [(0, .own)] },
 { id := 2, live := [0, 1, 5, 6] },
 { id := 3, live := [0, 1, 5, 6, 10], hdr := [0, 1, 5, 6] },
 { id := 5, live := [0, 1, 5, 6, 18] },
 { id := 6, live := [0, 1, 5, 6] },
 { id := 4, live := [0, 1, 5, 6] },
 { id := 7, live := [4] }]

theorem comp70 : compF Tryz.prog an70 Tryz.f70 = some a70 := by kernel_rfl

/- slices.insertionSortOrdered[int] -/
/-- loop 0 of function 71 -/
def l71_0_h : List Nat := [0, 1, 2, 6, 7]

def l71_0_b : ACode :=
 .seq (.seq (.region (some 15) [] [
 mv 16 7, mv 17 1, op 18 (.bin .gtr .int (tm 16) (tm 17)), mv 19 18, mg 20 0 19 true, mg 21 7 19 true, ⟨some 22, .iaddr 1 (tm 20) (tm 21), some (19, true)⟩, ⟨some 23, .load none (tm 22), some (19, true)⟩, mg 24 0 19 true, mg 25 7 19 true, ⟨some 26, .bin .sub .int (tm 25) (ci (1)), some (19, true)⟩, ⟨some 27, .iaddr 1 (tm 24) (tm 26), some (19, true)⟩, ⟨some 28, .load none (tm 27), some (19, true)⟩, ⟨some 29, .call .pure 77 [(tm 23), (tm 28)], some (19, true)⟩, op 30 (.pick (tm 19) (tm 29) (.cst (.bool false)))] [0, 1, 2, 6, 7, 30] none)
 (.cond (tm 30) (.skip)
 (.exit 2)))
 (.seq (.block 3 (.par 18 [] [] [
 mv 33 0, mv 34 7, mv 35 0, mv 36 7, op 37 (.bin .sub .int (tm 36) (ci (1))), mv 38 0, mv 39 7, op 40 (.bin .sub .int (tm 39) (ci (1))), op 41 (.iaddr 1 (tm 38) (tm 40)), op 42 (.load none (tm 41)), mv 43 0, mv 44 7, op 45 (.iaddr 1 (tm 43) (tm 44)), op 46 (.load none (tm 45)), op 47 (.iaddr 1 (tm 33) (tm 34)), ⟨none, .store 1 (tm 47) (tm 42), none⟩, op 48 (.iaddr 1 (tm 35) (tm 37)), ⟨none, .store 1 (tm 48) (tm 46), none⟩] [0, 1, 2, 6, 7] none))
 (.region none [] [
 mv 31 7, op 32 (.bin .sub .int (tm 31) (ci (1))), mv 7 32] [0, 1, 2, 6, 7] none))

/-- loop 1 of function 71 -/
def l71_1_h : List Nat := [0, 1, 2, 6]

def l71_1_b : ACode :=
 .seq (.seq (.region none [] [
 mv 10 6, mv 11 2, op 12 (.bin .lss .int (tm 10) (tm 11))] [0, 1, 2, 6, 12] none)
 (.cond (tm 12) (.skip)
 (.exit 0)))
 (.seq (.block 1 (.seq (.region none [] [
 mv 15 6, mv 7 15] [0, 1, 2, 6, 7] none)
 (.block 2 (.loop l71_0_h l71_0_b))))
 (.region none [] [
 mv 13 6, op 14 (.bin .add .int (tm 13) (ci (1))), mv 6 14] [0, 1, 2, 6] none))

def c71 : ACode :=
 .seq (.region none [] [
 mv 8 1, op 9 (.bin .add .int (tm 8) (ci (1))), mv 6 9] [0, 1, 2, 6] none)
 (.block 0 (.loop l71_1_h l71_1_b))

def a71 : AFunc := ⟨3, c71, []⟩

def an71 : List RAnn := [
 { id := 0, live := [0, 1, 2, 6] },
 { id := 1, live := [0, 1, 2, 6, 12], hdr := [0, 1, 2, 6] },
 { id := 3, live := [0, 1, 2, 6, 7] },
 { id := 4, head := some 15, live := [0, 1, 2, 6, 7, 30], hdr := [0, 1, 2, 6, 7] },
 { id := 6, head := some 18, live := [0, 1, 2, 6, 7], par := true },
 { id := 5, live := [0, 1, 2, 6, 7] },
 { id := 2, live := [0, 1, 2, 6] }]

theorem comp71 : compF Tryz.prog an71 Tryz.f71 = some a71 := by kernel_rfl

/- slices.heapSortOrdered[int] -/
/-- loop 0 of function 72 -/
def l72_0_h : List Nat := [0, 6, 7, 8, 9]

def l72_0_b : ACode :=
 .seq (.seq (.region none [] [
 mv 18 9, op 19 (.bin .geq .int (tm 18) (ci (0)))] [0, 6, 7, 8, 9, 19] none)
 (.cond (tm 19) (.skip)
 (.exit 0)))
 (.seq (.block 1 (.region none [] [
 mv 22 0, mv 23 9, mv 24 8, mv 25 6, op 26 (.call .share 112 [(tm 22), (tm 23), (tm 24), (tm 25)])] [0, 6, 7, 8, 9] none))
 (.region none [] [
 mv 20 9, op 21 (.bin .sub .int (tm 20) (ci (1))), mv 9 21] [0, 6, 7, 8, 9] none))

/-- loop 1 of function 72 -/
def l72_1_h : List Nat := [0, 6, 7, 10]

def l72_1_b : ACode :=
 .seq (.seq (.region none [] [
 mv 29 10, op 30 (.bin .geq .int (tm 29) (ci (0)))] [0, 6, 7, 10, 30] none)
 (.cond (tm 30) (.skip)
 (.exit 2)))
 (.seq (.block 3 (.seq (.par 20 [] [] [
 mv 33 0, mv 34 6, mv 35 0, mv 36 6, mv 37 10, op 38 (.bin .add .int (tm 36) (tm 37)), mv 39 0, mv 40 6, mv 41 10, op 42 (.bin .add .int (tm 40) (tm 41)), op 43 (.iaddr 1 (tm 39) (tm 42)), op 44 (.load none (tm 43)), mv 45 0, mv 46 6, op 47 (.iaddr 1 (tm 45) (tm 46)), op 48 (.load none (tm 47)), op 49 (.iaddr 1 (tm 33) (tm 34)), ⟨none, .store 1 (tm 49) (tm 44), none⟩, op 50 (.iaddr 1 (tm 35) (tm 38)), ⟨none, .store 1 (tm 50) (tm 48), none⟩] [0, 6, 7, 10] none)
 (.region none [] [
 mv 51 0, mv 52 7, mv 53 10, mv 54 6, op 55 (.call .share 112 [(tm 51), (tm 52), (tm 53), (tm 54)])] [0, 6, 7, 10] none)))
 (.region none [] [
 mv 31 10, op 32 (.bin .sub .int (tm 31) (ci (1))), mv 10 32] [0, 6, 7, 10] none))

def c72 : ACode :=
 .seq (.region none [] [
 mv 11 1, mv 6 11] [0, 1, 2, 6] none)
 (.seq (.region none [] [
 op 7 (.mov (ci (0)))] [0, 1, 2, 6, 7] none)
 (.seq (.region none [] [
 mv 12 2, mv 13 1, op 14 (.bin .sub .int (tm 12) (tm 13)), mv 8 14] [0, 6, 7, 8] none)
 (.seq (.seq (.region none [] [
 mv 15 8, op 16 (.bin .sub .int (tm 15) (ci (1))), op 17 (.bin .quo .int (tm 16) (ci (2))), mv 9 17] [0, 6, 7, 8, 9] none)
 (.block 0 (.loop l72_0_h l72_0_b)))
 (.seq (.region none [] [
 mv 27 8, op 28 (.bin .sub .int (tm 27) (ci (1))), mv 10 28] [0, 6, 7, 10] none)
 (.block 2 (.loop l72_1_h l72_1_b))))))

def a72 : AFunc := ⟨3, c72, []⟩

def an72 : List RAnn := [
 { id := 0, live := [0, 1, 2, 6] },
 { id := 1, live := [0, 1, 2, 6, 7] },
 { id := 2, live := [0, 6, 7, 8] },
 { id := 3, live := [0, 6, 7, 8, 9] },
 { id := 4, live := [0, 6, 7, 8, 9, 19], hdr := [0, 6, 7, 8, 9] },
 { id := 6, live := [0, 6, 7, 8, 9], ops := [(4, .mode .share)] },
 { id := 5, live := [0, 6, 7, 8, 9] },
 { id := 7, live := [0, 6, 7, 10] },
 { id := 8, live := [0, 6, 7, 10, 30], hdr := [0, 6, 7, 10] },
 { id := 10, head := some 20, live := [0, 6, 7, 10], par := true },
 { id := 11, live := [0, 6, 7, 10], ops := [(4, .mode .share)] },
 { id := 9, live := [0, 6, 7, 10] }]

theorem comp72 : compF Tryz.prog an72 Tryz.f72 = some a72 := by kernel_rfl

/- slices.breakPatternsOrdered[int] -/
/-- loop 0 of function 73 -/
def l73_0_h : List Nat := [0, 1, 6, 7, 8, 9]

def l73_0_b : ACode :=
 .seq (.seq (.region none [] [
 mv 26 9, mv 27 1, mv 28 6, op 29 (.bin .quo .int (tm 28) (ci (4))), op 30 (.bin .mul .int (tm 29) (ci (2))), op 31 (.bin .add .int (tm 27) (tm 30)), op 32 (.bin .add .int (tm 31) (ci (1))), op 33 (.bin .leq .int (tm 26) (tm 32))] [0, 1, 6, 7, 8, 9, 33] none)
 (.cond (tm 33) (.skip)
 (.exit 0)))
 (.seq (.block 1 (.seq (.region none [] [
 op 36 (.call .share 114 [(tm 7)]), mv 37 8, op 38 (.bin .sub .int (tm 37) (.cst (.int .u64 1))), op 39 (.bin .and .int (tm 36) (tm 38)), op 40 (.conv .i64 (tm 39)), mv 10 40] [0, 1, 6, 7, 8, 9, 10] none)
 (.seq (.seq (.region none [] [
 mv 41 10, mv 42 6, op 43 (.bin .geq .int (tm 41) (tm 42))] [0, 1, 6, 7, 8, 9, 10, 43] none)
 (.cond (tm 43) (.region none [] [
 mv 44 10, mv 45 6, op 46 (.bin .sub .int (tm 44) (tm 45)), mv 10 46] [0, 1, 6, 7, 8, 9, 10] none)
 (.skip)))
 (.par 20 [] [] [
 mv 47 0, mv 48 9, mv 49 0, mv 50 1, mv 51 10, op 52 (.bin .add .int (tm 50) (tm 51)), mv 53 0, mv 54 1, mv 55 10, op 56 (.bin .add .int (tm 54) (tm 55)), op 57 (.iaddr 1 (tm 53) (tm 56)), op 58 (.load none (tm 57)), mv 59 0, mv 60 9, op 61 (.iaddr 1 (tm 59) (tm 60)), op 62 (.load none (tm 61)), op 63 (.iaddr 1 (tm 47) (tm 48)), ⟨none, .store 1 (tm 63) (tm 58), none⟩, op 64 (.iaddr 1 (tm 49) (tm 52)), ⟨none, .store 1 (tm 64) (tm 62), none⟩] [0, 1, 6, 7, 8, 9] none))))
 (.region none [] [
 mv 34 9, op 35 (.bin .add .int (tm 34) (ci (1))), mv 9 35] [0, 1, 6, 7, 8, 9] none))

def c73 : ACode :=
 .seq (.region none [] [
 mv 11 2, mv 12 1, op 13 (.bin .sub .int (tm 11) (tm 12)), mv 6 13] [0, 1, 6] none)
 (.seq (.region none [] [
 mv 14 6, op 15 (.bin .geq .int (tm 14) (ci (8)))] [0, 1, 6, 15] none)
 (.cond (tm 15) (.seq (.region none [] [
 mv 16 6, op 17 (.conv .u64 (tm 16)), op 7 (.alloc 1 (.int .u64 0)), ⟨none, .store 1 (tm 7) (tm 17), none⟩] [0, 1, 6, 7] none)
 (.seq (.region none [] [
 mv 18 6, op 19 (.call .pure 113 [(tm 18)]), mv 8 19] [0, 1, 6, 7, 8] none)
 (.seq (.region none [] [
 mv 20 1, mv 21 6, op 22 (.bin .quo .int (tm 21) (ci (4))), op 23 (.bin .mul .int (tm 22) (ci (2))), op 24 (.bin .add .int (tm 20) (tm 23)), op 25 (.bin .sub .int (tm 24) (ci (1))), mv 9 25] [0, 1, 6, 7, 8, 9] none)
 (.block 0 (.loop l73_0_h l73_0_b)))))
 (.skip)))

def a73 : AFunc := ⟨3, c73, []⟩

def an73 : List RAnn := [
 { id := 0, live := [0, 1, 6] },
 { id := 1, live := [0, 1, 6, 15] },
 { id := 2, live := [0, 1, 6, 7] },
 { id := 3, live := [0, 1, 6, 7, 8] },
 { id := 4, live := [0, 1, 6, 7, 8, 9] },
 { id := 5, live := [0, 1, 6, 7, 8, 9, 33], hdr := [0, 1, 6, 7, 8, 9] },
 { id := 7, live := [0, 1, 6, 7, 8, 9, 10], ops := [(0, .mode .share)] },
 { id := 8, live := [0, 1, 6, 7, 8, 9, 10, 43] },
 { id := 9, live := [0, 1, 6, 7, 8, 9, 10] },
 { id := 10, head := some 20, live := [0, 1, 6, 7, 8, 9], par := true },
 { id := 6, live := [0, 1, 6, 7, 8, 9] }]

theorem comp73 : compF Tryz.prog an73 Tryz.f73 = some a73 := by kernel_rfl

/- slices.choosePivotOrdered[int] -/
def c74 : ACode :=
 .seq (.region none [] [
 op 6 (.mov (ci (0))), op 7 (.mov (ci (0)))] [0, 1, 2] none)
 (.seq (.region none [] [
 mv 13 2, mv 14 1, op 15 (.bin .sub .int (tm 13) (tm 14)), mv 8 15] [0, 1, 8] none)
 (.seq (.region none [] [
 op 9 (.alloc 1 (.int .i64 0))] [0, 1, 8, 9] none)
 (.seq (.region none [] [
 mv 16 1, mv 17 8, op 18 (.bin .quo .int (tm 17) (ci (4))), op 19 (.bin .mul .int (tm 18) (ci (1))), op 20 (.bin .add .int (tm 16) (tm 19)), mv 10 20] [0, 1, 8, 9, 10] none)
 (.seq (.region none [] [
 mv 21 1, mv 22 8, op 23 (.bin .quo .int (tm 22) (ci (4))), op 24 (.bin .mul .int (tm 23) (ci (2))), op 25 (.bin .add .int (tm 21) (tm 24)), mv 11 25] [0, 1, 8, 9, 10, 11] none)
 (.seq (.region none [] [
 mv 26 1, mv 27 8, op 28 (.bin .quo .int (tm 27) (ci (4))), op 29 (.bin .mul .int (tm 28) (ci (3))), op 30 (.bin .add .int (tm 26) (tm 29)), mv 12 30] [0, 8, 9, 10, 11, 12] none)
 (.seq (.seq (.region none [] [
 mv 31 8, op 32 (.bin .geq .int (tm 31) (ci (8)))] [0, 8, 9, 10, 11, 12, 32] none)
 (.cond (tm 32) (.seq (.seq (.region none [] [
 mv 33 8, op 34 (.bin .geq .int (tm 33) (ci (50)))] [0, 9, 10, 11, 12, 34] none)
 (.cond (tm 34) (.seq (.region none [] [
 mv 35 0, mv 36 10, op 37 (.call .share 115 [(tm 35), (tm 36), (tm 9)]), mv 10 37] [0, 9, 10, 11, 12] none)
 (.seq (.region none [] [
 mv 38 0, mv 39 11, op 40 (.call .share 115 [(tm 38), (tm 39), (tm 9)]), mv 11 40] [0, 9, 10, 11, 12] none)
 (.region none [] [
 mv 41 0, mv 42 12, op 43 (.call .share 115 [(tm 41), (tm 42), (tm 9)]), mv 12 43] [0, 9, 10, 11, 12] none)))
 (.skip)))
 (.region none [] [
 mv 44 0, mv 45 10, mv 46 11, mv 47 12, op 48 (.call .share 116 [(tm 44), (tm 45), (tm 46), (tm 47), (tm 9)]), mv 11 48] [9, 11] none))
 (.skip)))
 (.seq (.region none [] [
 op 49 (.load none (tm 9))] [11, 49] none)
 (.block 0 (.seq (.region none [] [
 op 52 (.bin .eql .int (tm 49) (ci (0))), mv 51 52] [11, 49, 51] none)
 (.cond (tm 51) (.seq (.region none [] [
 mv 53 11, mv 6 53, op 7 (.mov (ci (1)))] [6, 7] none)
 (.ret))
 (.seq (.region none [] [
 op 55 (.bin .eql .int (tm 49) (ci (12))), mv 54 55] [11, 54] none)
 (.cond (tm 54) (.seq (.region none [] [
 mv 56 11, mv 6 56, op 7 (.mov (ci (2)))] [6, 7] none)
 (.ret))
 (.seq (.region none [] [
 mv 50 11, mv 6 50, op 7 (.mov (ci (0)))] [6, 7] none)
 (.ret))))))))))))))

def a74 : AFunc := ⟨3, c74, [.tmp 6, .tmp 7]⟩

def an74 : List RAnn := [
 { id := 0, live := [0, 1, 2] },
 { id := 1, live := [0, 1, 8] },
 { id := 2, live := [0, 1, 8, 9] },
 { id := 3, live := [0, 1, 8, 9, 10] },
 { id := 4, live := [0, 1, 8, 9, 10, 11] },
 { id := 5, live := [0, 8, 9, 10, 11, 12] },
 { id := 6, live := [0, 8, 9, 10, 11, 12, 32] },
 { id := 7, live := [0, 9, 10, 11, 12, 34] },
 { id := 8, live := [0, 9, 10, 11, 12], ops := [(2, .mode .share)] },
 { id := 9, live := [0, 9, 10, 11, 12], ops := [(2, .mode .share)] },
 { id := 10, live := [0, 9, 10, 11, 12], ops := [(2, .mode .share)] },
 { id := 11, live := [9, 11], ops := [(4, .mode .share)] },
 { id := 12, live := [11, 49] },
 { id := 14, live := [11, 49, 51] },
 { id := 15, live := [6, 7] },
 { id := 16, live := [11, 54] },
 { id := 17, live := [6, 7] },
 { id := 13, live := [6, 7] }]

theorem comp74 : compF Tryz.prog an74 Tryz.f74 = some a74 := by kernel_rfl

/- slices.reverseRangeOrdered[int] -/
/-- loop 0 of function 75 -/
def l75_0_h : List Nat := [0, 6, 7]

def l75_0_b : ACode :=
 .seq (.seq (.region none [] [
 mv 11 6, mv 12 7, op 13 (.bin .lss .int (tm 11) (tm 12))] [0, 6, 7, 13] none)
 (.cond (tm 13) (.skip)
 (.exit 0)))
 (.block 1 (.seq (.par 16 [] [] [
 mv 14 0, mv 15 6, mv 16 0, mv 17 7, mv 18 0, mv 19 7, op 20 (.iaddr 1 (tm 18) (tm 19)), op 21 (.load none (tm 20)), mv 22 0, mv 23 6, op 24 (.iaddr 1 (tm 22) (tm 23)), op 25 (.load none (tm 24)), op 26 (.iaddr 1 (tm 14) (tm 15)), ⟨none, .store 1 (tm 26) (tm 21), none⟩, op 27 (.iaddr 1 (tm 16) (tm 17)), ⟨none, .store 1 (tm 27) (tm 25), none⟩] [0, 6, 7] none)
 (.seq (.region none [] [
 mv 28 6, op 29 (.bin .add .int (tm 28) (ci (1))), mv 6 29] [0, 6, 7] none)
 (.region none [] [
 mv 30 7, op 31 (.bin .sub .int (tm 30) (ci (1))), mv 7 31] [0, 6, 7] none))))

def c75 : ACode :=
 .seq (.region none [] [
 mv 8 1, mv 6 8] [0, 2, 6] none)
 (.seq (.region none [] [
 mv 9 2, op 10 (.bin .sub .int (tm 9) (ci (1))), mv 7 10] [0, 6, 7] none)
 (.block 0 (.loop l75_0_h l75_0_b)))

def a75 : AFunc := ⟨3, c75, []⟩

def an75 : List RAnn := [
 { id := 0, live := [0, 2, 6] },
 { id := 1, live := [0, 6, 7] },
 { id := 2, live := [0, 6, 7, 13], hdr := [0, 6, 7] },
 { id := 3, head := some 16, live := [0, 6, 7], par := true },
 { id := 4, live := [0, 6, 7] },
 { id := 5, live := [0, 6, 7] }]

theorem comp75 : compF Tryz.prog an75 Tryz.f75 = some a75 := by kernel_rfl

/- slices.partialInsertionSortOrdered[int] -/
/-- loop 0 of function 76 -/
def l76_0_h : List Nat := [0, 1, 2, 7, 8]

def l76_0_b : ACode :=
 .seq (.seq (.region (some 16) [] [
 mv 17 7, mv 18 2, op 19 (.bin .lss .int (tm 17) (tm 18)), mv 20 19, mg 21 0 20 true, mg 22 7 20 true, ⟨some 23, .iaddr 1 (tm 21) (tm 22), some (20, true)⟩, ⟨some 24, .load none (tm 23), some (20, true)⟩, mg 25 0 20 true, mg 26 7 20 true, ⟨some 27, .bin .sub .int (tm 26) (ci (1)), some (20, true)⟩, ⟨some 28, .iaddr 1 (tm 25) (tm 27), some (20, true)⟩, ⟨some 29, .load none (tm 28), some (20, true)⟩, ⟨some 30, .call .pure 77 [(tm 24), (tm 29)], some (20, true)⟩, ⟨some 31, .un .not (tm 30), some (20, true)⟩, op 32 (.pick (tm 20) (tm 31) (.cst (.bool false)))] [0, 1, 2, 7, 8, 32] none)
 (.cond (tm 32) (.skip)
 (.exit 2)))
 (.block 3 (.region none [] [
 mv 33 7, op 34 (.bin .add .int (tm 33) (ci (1))), mv 7 34] [0, 1, 2, 7, 8] none))

/-- loop 1 of function 76 -/
def l76_1_h : List Nat := [0, 1, 2, 7, 8, 9]

def l76_1_b : ACode :=
 .seq (.seq (.region none [] [
 mv 64 9, op 65 (.bin .geq .int (tm 64) (ci (1)))] [0, 1, 2, 7, 8, 9, 65] none)
 (.cond (tm 65) (.skip)
 (.exit 4)))
 (.seq (.block 5 (.seq (.seq (.region (some 11) [] [
 mv 68 0, mv 69 9, op 70 (.iaddr 1 (tm 68) (tm 69)), op 71 (.load none (tm 70)), mv 72 0, mv 73 9, op 74 (.bin .sub .int (tm 73) (ci (1))), op 75 (.iaddr 1 (tm 72) (tm 74)), op 76 (.load none (tm 75)), op 77 (.call .pure 77 [(tm 71), (tm 76)]), op 78 (.un .not (tm 77))] [0, 1, 2, 7, 8, 9, 78] none)
 (.cond (tm 78) (.exit 4)
 (.skip)))
 (.par 18 [] [] [
 mv 79 0, mv 80 9, mv 81 0, mv 82 9, op 83 (.bin .sub .int (tm 82) (ci (1))), mv 84 0, mv 85 9, op 86 (.bin .sub .int (tm 85) (ci (1))), op 87 (.iaddr 1 (tm 84) (tm 86)), op 88 (.load none (tm 87)), mv 89 0, mv 90 9, op 91 (.iaddr 1 (tm 89) (tm 90)), op 92 (.load none (tm 91)), op 93 (.iaddr 1 (tm 79) (tm 80)), ⟨none, .store 1 (tm 93) (tm 88), none⟩, op 94 (.iaddr 1 (tm 81) (tm 83)), ⟨none, .store 1 (tm 94) (tm 92), none⟩] [0, 1, 2, 7, 8, 9] none)))
 (.region none [] [
 mv 66 9, op 67 (.bin .sub .int (tm 66) (ci (1))), mv 9 67] [0, 1, 2, 7, 8, 9] none))

/-- loop 2 of function 76 -/
def l76_2_h : List Nat := [0, 1, 2, 7, 8, 10]

def l76_2_b : ACode :=
 .seq (.seq (.region none [] [
 mv 101 10, mv 102 2, op 103 (.bin .lss .int (tm 101) (tm 102))] [0, 1, 2, 7, 8, 10, 103] none)
 (.cond (tm 103) (.skip)
 (.exit 6)))
 (.seq (.block 7 (.seq (.seq (.region (some 11) [] [
 mv 106 0, mv 107 10, op 108 (.iaddr 1 (tm 106) (tm 107)), op 109 (.load none (tm 108)), mv 110 0, mv 111 10, op 112 (.bin .sub .int (tm 111) (ci (1))), op 113 (.iaddr 1 (tm 110) (tm 112)), op 114 (.load none (tm 113)), op 115 (.call .pure 77 [(tm 109), (tm 114)]), op 116 (.un .not (tm 115))] [0, 1, 2, 7, 8, 10, 116] none)
 (.cond (tm 116) (.exit 6)
 (.skip)))
 (.par 18 [] [] [
 mv 117 0, mv 118 10, mv 119 0, mv 120 10, op 121 (.bin .sub .int (tm 120) (ci (1))), mv 122 0, mv 123 10, op 124 (.bin .sub .int (tm 123) (ci (1))), op 125 (.iaddr 1 (tm 122) (tm 124)), op 126 (.load none (tm 125)), mv 127 0, mv 128 10, op 129 (.iaddr 1 (tm 127) (tm 128)), op 130 (.load none (tm 129)), op 131 (.iaddr 1 (tm 117) (tm 118)), ⟨none, .store 1 (tm 131) (tm 126), none⟩, op 132 (.iaddr 1 (tm 119) (tm 121)), ⟨none, .store 1 (tm 132) (tm 130), none⟩] [0, 1, 2, 7, 8, 10] none)))
 (.region none [] [
 mv 104 10, op 105 (.bin .add .int (tm 104) (ci (1))), mv 10 105] [0, 1, 2, 7, 8, 10] none))

/-- loop 3 of function 76 -/
def l76_3_h : List Nat := [0, 1, 2, 7, 8]

def l76_3_b : ACode :=
 .seq (.seq (.region none [] [
 mv 13 8, op 14 (.bin .lss .int (tm 13) (ci (5)))] [0, 1, 2, 7, 8, 14] none)
 (.cond (tm 14) (.skip)
 (.exit 0)))
 (.seq (.block 1 (.seq (.block 2 (.loop l76_0_h l76_0_b))
 (.seq (.seq (.region none [] [
 mv 35 7, mv 36 2, op 37 (.bin .eql .int (tm 35) (tm 36))] [0, 1, 2, 7, 8, 37] none)
 (.cond (tm 37) (.seq (.region none [] [
 op 6 (.mov (.cst (.bool true)))] [6] none)
 (.ret))
 (.skip)))
 (.seq (.seq (.region none [] [
 mv 38 2, mv 39 1, op 40 (.bin .sub .int (tm 38) (tm 39)), op 41 (.bin .lss .int (tm 40) (ci (50)))] [0, 1, 2, 7, 8, 41] none)
 (.cond (tm 41) (.seq (.region none [] [
 op 6 (.mov (.cst (.bool false)))] [6] none)
 (.ret))
 (.skip)))
 (.seq (.par 18 [] [] [
 mv 42 0, mv 43 7, mv 44 0, mv 45 7, op 46 (.bin .sub .int (tm 45) (ci (1))), mv 47 0, mv 48 7, op 49 (.bin .sub .int (tm 48) (ci (1))), op 50 (.iaddr 1 (tm 47) (tm 49)), op 51 (.load none (tm 50)), mv 52 0, mv 53 7, op 54 (.iaddr 1 (tm 52) (tm 53)), op 55 (.load none (tm 54)), op 56 (.iaddr 1 (tm 42) (tm 43)), ⟨none, .store 1 (tm 56) (tm 51), none⟩, op 57 (.iaddr 1 (tm 44) (tm 46)), ⟨none, .store 1 (tm 57) (tm 55), none⟩] [0, 1, 2, 7, 8] none)
 (.seq (.seq (.region none [] [
 mv 58 7, mv 59 1, op 60 (.bin .sub .int (tm 58) (tm 59)), op 61 (.bin .geq .int (tm 60) (ci (2)))] [0, 1, 2, 7, 8, 61] none)
 (.cond (tm 61) (.seq (.region none [] [
 mv 62 7, op 63 (.bin .sub .int (tm 62) (ci (1))), mv 9 63] [0, 1, 2, 7, 8, 9] none)
 (.block 4 (.loop l76_1_h l76_1_b)))
 (.skip)))
 (.seq (.region none [] [
 mv 95 2, mv 96 7, op 97 (.bin .sub .int (tm 95) (tm 96)), op 98 (.bin .geq .int (tm 97) (ci (2)))] [0, 1, 2, 7, 8, 98] none)
 (.cond (tm 98) (.seq (.region none [] [
 mv 99 7, op 100 (.bin .add .int (tm 99) (ci (1))), mv 10 100] [0, 1, 2, 7, 8, 10] none)
 (.block 6 (.loop l76_2_h l76_2_b)))
 (.skip)))))))))
 (.region none [] [
 mv 15 8, op 16 (.bin .add .int (tm 15) (ci (1))), mv 8 16] [0, 1, 2, 7, 8] none))

def c76 : ACode :=
 .seq (.region none [] [
 op 6 (.mov (.cst (.bool false)))] [0, 1, 2] none)
 (.seq (.region none [] [
 mv 11 1, op 12 (.bin .add .int (tm 11) (ci (1))), mv 7 12] [0, 1, 2, 7] none)
 (.seq (.seq (.region none [] [
 op 8 (.mov (ci (0)))] [0, 1, 2, 7, 8] none)
 (.block 0 (.loop l76_3_h l76_3_b)))
 (.seq (.region none [] [
 op 6 (.mov (.cst (.bool false)))] [6] none)
 (.ret))))

def a76 : AFunc := ⟨3, c76, [.tmp 6]⟩

def an76 : List RAnn := [
 { id := 0, live := [0, 1, 2] },
 { id := 1, live := [0, 1, 2, 7] },
 { id := 2, live := [0, 1, 2, 7, 8] },
 { id := 3, live := [0, 1, 2, 7, 8, 14], hdr := [0, 1, 2, 7, 8] },
 { id := 5, head := some 16, live := [0, 1, 2, 7, 8, 32], hdr := [0, 1, 2, 7, 8] },
 { id := 6, live := [0, 1, 2, 7, 8] },
 { id := 7, live := [0, 1, 2, 7, 8, 37] },
 { id := 8, live := [6] },
 { id := 9, live := [0, 1, 2, 7, 8, 41] },
 { id := 10, live := [6] },
 { id := 11, head := some 18, live := [0, 1, 2, 7, 8], par := true },
 { id := 12, live := [0, 1, 2, 7, 8, 61] },
 { id := 13, live := [0, 1, 2, 7, 8, 9] },
 { id := 14, live := [0, 1, 2, 7, 8, 9, 65], hdr := [0, 1, 2, 7, 8, 9] },
 { id := 16, head := some 11, live := [0, 1, 2, 7, 8, 9, 78] },
 { id := 17, head := some 18, live := [0, 1, 2, 7, 8, 9], par := true },
 { id := 15, live := [0, 1, 2, 7, 8, 9] },
 { id := 18, live := [0, 1, 2, 7, 8, 98] },
 { id := 19, live := [0, 1, 2, 7, 8, 10] },
 { id := 20, live := [0, 1, 2, 7, 8, 10, 103], hdr := [0, 1, 2, 7, 8, 10] },
 { id := 22, head := some 11, live := [0, 1, 2, 7, 8, 10, 116] },
 { id := 23, head := some 18, live := [0, 1, 2, 7, 8, 10], par := true },
 { id := 21, live := [0, 1, 2, 7, 8, 10] },
 { id := 4, live := [0, 1, 2, 7, 8] },
 { id := 24, live := [6] }]

theorem comp76 : compF Tryz.prog an76 Tryz.f76 = some a76 := by kernel_rfl

/- cmp.Less[int] -/
def c77 : ACode :=
 .seq (.region none [] [
 op 4 (.mov (.cst (.bool false)))] [0, 1] none)
 (.seq (.region none [] [
 mv 5 0, op 6 (.call .pure 117 [(tm 5)]), mv 7 6, mg 8 1 7 true, ⟨some 9, .call .pure 117 [(tm 8)], some (7, true)⟩, ⟨some 10, .un .not (tm 9), some (7, true)⟩, op 11 (.pick (tm 7) (tm 10) (.cst (.bool false))), mv 12 11, mg 13 0 12 false, mg 14 1 12 false, ⟨some 15, .bin .lss .int (tm 13) (tm 14), some (12, false)⟩, op 16 (.pick (tm 12) (.cst (.bool true)) (tm 15)), mv 4 16] [4] none)
 (.ret))

def a77 : AFunc := ⟨2, c77, [.tmp 4]⟩

def an77 : List RAnn := [
 { id := 0, live := [0, 1] },
 { id := 1, live := [4] }]

theorem comp77 : compF Tryz.prog an77 Tryz.f77 = some a77 := by kernel_rfl

/- slices.partitionEqualOrdered[int] -/
/-- loop 0 of function 78 -/
def l78_0_h : List Nat := [0, 1, 9, 10]

def l78_0_b : ACode :=
 .seq (.seq (.region (some 15) [] [
 mv 29 9, mv 30 10, op 31 (.bin .leq .int (tm 29) (tm 30)), mv 32 31, mg 33 0 32 true, mg 34 1 32 true, ⟨some 35, .iaddr 1 (tm 33) (tm 34), some (32, true)⟩, ⟨some 36, .load none (tm 35), some (32, true)⟩, mg 37 0 32 true, mg 38 9 32 true, ⟨some 39, .iaddr 1 (tm 37) (tm 38), some (32, true)⟩, ⟨some 40, .load none (tm 39), some (32, true)⟩, ⟨some 41, .call .pure 77 [(tm 36), (tm 40)], some (32, true)⟩, ⟨some 42, .un .not (tm 41), some (32, true)⟩, op 43 (.pick (tm 32) (tm 42) (.cst (.bool false)))] [0, 1, 9, 10, 43] none)
 (.cond (tm 43) (.skip)
 (.exit 2)))
 (.block 3 (.region none [] [
 mv 44 9, op 45 (.bin .add .int (tm 44) (ci (1))), mv 9 45] [0, 1, 9, 10] none))

/-- loop 1 of function 78 -/
def l78_1_h : List Nat := [0, 1, 9, 10]

def l78_1_b : ACode :=
 .seq (.seq (.region (some 14) [] [
 mv 46 9, mv 47 10, op 48 (.bin .leq .int (tm 46) (tm 47)), mv 49 48, mg 50 0 49 true, mg 51 1 49 true, ⟨some 52, .iaddr 1 (tm 50) (tm 51), some (49, true)⟩, ⟨some 53, .load none (tm 52), some (49, true)⟩, mg 54 0 49 true, mg 55 10 49 true, ⟨some 56, .iaddr 1 (tm 54) (tm 55), some (49, true)⟩, ⟨some 57, .load none (tm 56), some (49, true)⟩, ⟨some 58, .call .pure 77 [(tm 53), (tm 57)], some (49, true)⟩, op 59 (.pick (tm 49) (tm 58) (.cst (.bool false)))] [0, 1, 9, 10, 59] none)
 (.cond (tm 59) (.skip)
 (.exit 4)))
 (.block 5 (.region none [] [
 mv 60 10, op 61 (.bin .sub .int (tm 60) (ci (1))), mv 10 61] [0, 1, 9, 10] none))

/-- loop 2 of function 78 -/
def l78_2_h : List Nat := [0, 1, 9, 10]

def l78_2_b : ACode :=
 .block 1 (.seq (.block 2 (.loop l78_0_h l78_0_b))
 (.seq (.block 4 (.loop l78_1_h l78_1_b))
 (.seq (.seq (.region none [] [
 mv 62 9, mv 63 10, op 64 (.bin .gtr .int (tm 62) (tm 63))] [0, 1, 9, 10, 64] none)
 (.cond (tm 64) (.exit 0)
 (.skip)))
 (.seq (.par 16 [] [] [
 mv 65 0, mv 66 9, mv 67 0, mv 68 10, mv 69 0, mv 70 10, op 71 (.iaddr 1 (tm 69) (tm 70)), op 72 (.load none (tm 71)), mv 73 0, mv 74 9, op 75 (.iaddr 1 (tm 73) (tm 74)), op 76 (.load none (tm 75)), op 77 (.iaddr 1 (tm 65) (tm 66)), ⟨none, .store 1 (tm 77) (tm 72), none⟩, op 78 (.iaddr 1 (tm 67) (tm 68)), ⟨none, .store 1 (tm 78) (tm 76), none⟩] [0, 1, 9, 10] none)
 (.seq (.region none [] [
 mv 79 9, op 80 (.bin .add .int (tm 79) (ci (1))), mv 9 80] [0, 1, 9, 10] none)
 (.region none [] [
 mv 81 10, op 82 (.bin .sub .int (tm 81) (ci (1))), mv 10 82] [0, 1, 9, 10] none))))))

def c78 : ACode :=
 .seq (.region none [] [
 op 8 (.mov (ci (0)))] [0, 1, 2, 3] none)
 (.seq (.par 16 [] [] [
 mv 11 0, mv 12 1, mv 13 0, mv 14 3, mv 15 0, mv 16 3, op 17 (.iaddr 1 (tm 15) (tm 16)), op 18 (.load none (tm 17)), mv 19 0, mv 20 1, op 21 (.iaddr 1 (tm 19) (tm 20)), op 22 (.load none (tm 21)), op 23 (.iaddr 1 (tm 11) (tm 12)), ⟨none, .store 1 (tm 23) (tm 18), none⟩, op 24 (.iaddr 1 (tm 13) (tm 14)), ⟨none, .store 1 (tm 24) (tm 22), none⟩] [0, 1, 2] none)
 (.seq (.region none [] [
 mv 25 1, op 26 (.bin .add .int (tm 25) (ci (1))), mv 27 2, op 28 (.bin .sub .int (tm 27) (ci (1))), mv 9 26, mv 10 28] [0, 1, 9, 10] none)
 (.seq (.block 0 (.loop l78_2_h l78_2_b))
 (.seq (.region none [] [
 mv 83 9, mv 8 83] [8] none)
 (.ret)))))

def a78 : AFunc := ⟨4, c78, [.tmp 8]⟩

def an78 : List RAnn := [
 { id := 0, live := [0, 1, 2, 3] },
 { id := 1, head := some 16, live := [0, 1, 2], par := true },
 { id := 2, live := [0, 1, 9, 10] },
 { id := 3, head := some 15, live := [0, 1, 9, 10, 43], hdr := [0, 1, 9, 10] },
 { id := 4, live := [0, 1, 9, 10] },
 { id := 5, head := some 14, live := [0, 1, 9, 10, 59], hdr := [0, 1, 9, 10] },
 { id := 6, live := [0, 1, 9, 10] },
 { id := 7, live := [0, 1, 9, 10, 64] },
 { id := 8, head := some 16, live := [0, 1, 9, 10], par := true },
 { id := 9, live := [0, 1, 9, 10] },
 { id := 10, live := [0, 1, 9, 10] },
 { id := 11, live := [8] }]

theorem comp78 : compF Tryz.prog an78 Tryz.f78 = some a78 := by kernel_rfl

/- slices.partitionOrdered[int] -/
/-- loop 0 of function 79 -/
def l79_0_h : List Nat := [0, 1, 10, 11]

def l79_0_b : ACode :=
 .seq (.seq (.region (some 14) [] [
 mv 30 10, mv 31 11, op 32 (.bin .leq .int (tm 30) (tm 31)), mv 33 32, mg 34 0 33 true, mg 35 10 33 true, ⟨some 36, .iaddr 1 (tm 34) (tm 35), some (33, true)⟩, ⟨some 37, .load none (tm 36), some (33, true)⟩, mg 38 0 33 true, mg 39 1 33 true, ⟨some 40, .iaddr 1 (tm 38) (tm 39), some (33, true)⟩, ⟨some 41, .load none (tm 40), some (33, true)⟩, ⟨some 42, .call .pure 77 [(tm 37), (tm 41)], some (33, true)⟩, op 43 (.pick (tm 33) (tm 42) (.cst (.bool false)))] [0, 1, 10, 11, 43] none)
 (.cond (tm 43) (.skip)
 (.exit 0)))
 (.block 1 (.region none [] [
 mv 44 10, op 45 (.bin .add .int (tm 44) (ci (1))), mv 10 45] [0, 1, 10, 11] none))

/-- loop 1 of function 79 -/
def l79_1_h : List Nat := [0, 1, 10, 11]

def l79_1_b : ACode :=
 .seq (.seq (.region (some 15) [] [
 mv 46 10, mv 47 11, op 48 (.bin .leq .int (tm 46) (tm 47)), mv 49 48, mg 50 0 49 true, mg 51 11 49 true, ⟨some 52, .iaddr 1 (tm 50) (tm 51), some (49, true)⟩, ⟨some 53, .load none (tm 52), some (49, true)⟩, mg 54 0 49 true, mg 55 1 49 true, ⟨some 56, .iaddr 1 (tm 54) (tm 55), some (49, true)⟩, ⟨some 57, .load none (tm 56), some (49, true)⟩, ⟨some 58, .call .pure 77 [(tm 53), (tm 57)], some (49, true)⟩, ⟨some 59, .un .not (tm 58), some (49, true)⟩, op 60 (.pick (tm 49) (tm 59) (.cst (.bool false)))] [0, 1, 10, 11, 60] none)
 (.cond (tm 60) (.skip)
 (.exit 2)))
 (.block 3 (.region none [] [
 mv 61 11, op 62 (.bin .sub .int (tm 61) (ci (1))), mv 11 62] [0, 1, 10, 11] none))

/-- loop 2 of function 79 -/
def l79_2_h : List Nat := [0, 1, 10, 11]

def l79_2_b : ACode :=
 .seq (.seq (.region (some 14) [] [
 mv 99 10, mv 100 11, op 101 (.bin .leq .int (tm 99) (tm 100)), mv 102 101, mg 103 0 102 true, mg 104 10 102 true, ⟨some 105, .iaddr 1 (tm 103) (tm 104), some (102, true)⟩, ⟨some 106, .load none (tm 105), some (102, true)⟩, mg 107 0 102 true, mg 108 1 102 true, ⟨some 109, .iaddr 1 (tm 107) (tm 108), some (102, true)⟩, ⟨some 110, .load none (tm 109), some (102, true)⟩, ⟨some 111, .call .pure 77 [(tm 106), (tm 110)], some (102, true)⟩, op 112 (.pick (tm 102) (tm 111) (.cst (.bool false)))] [0, 1, 10, 11, 112] none)
 (.cond (tm 112) (.skip)
 (.exit 6)))
 (.block 7 (.region none [] [
 mv 113 10, op 114 (.bin .add .int (tm 113) (ci (1))), mv 10 114] [0, 1, 10, 11] none))

/-- loop 3 of function 79 -/
def l79_3_h : List Nat := [0, 1, 10, 11]

def l79_3_b : ACode :=
 .seq (.seq (.region (some 15) [] [
 mv 115 10, mv 116 11, op 117 (.bin .leq .int (tm 115) (tm 116)), mv 118 117, mg 119 0 118 true, mg 120 11 118 true, ⟨some 121, .iaddr 1 (tm 119) (tm 120), some (118, true)⟩, ⟨some 122, .load none (tm 121), some (118, true)⟩, mg 123 0 118 true, mg 124 1 118 true, ⟨some 125, .iaddr 1 (tm 123) (tm 124), some (118, true)⟩, ⟨some 126, .load none (tm 125), some (118, true)⟩, ⟨some 127, .call .pure 77 [(tm 122), (tm 126)], some (118, true)⟩, ⟨some 128, .un .not (tm 127), some (118, true)⟩, op 129 (.pick (tm 118) (tm 128) (.cst (.bool false)))] [0, 1, 10, 11, 129] none)
 (.cond (tm 129) (.skip)
 (.exit 8)))
 (.block 9 (.region none [] [
 mv 130 11, op 131 (.bin .sub .int (tm 130) (ci (1))), mv 11 131] [0, 1, 10, 11] none))

/-- loop 4 of function 79 -/
def l79_4_h : List Nat := [0, 1, 10, 11]

def l79_4_b : ACode :=
 .block 5 (.seq (.block 6 (.loop l79_2_h l79_2_b))
 (.seq (.block 8 (.loop l79_3_h l79_3_b))
 (.seq (.seq (.region none [] [
 mv 132 10, mv 133 11, op 134 (.bin .gtr .int (tm 132) (tm 133))] [0, 1, 10, 11, 134] none)
 (.cond (tm 134) (.exit 4)
 (.skip)))
 (.seq (.par 16 [] [] [
 mv 135 0, mv 136 10, mv 137 0, mv 138 11, mv 139 0, mv 140 11, op 141 (.iaddr 1 (tm 139) (tm 140)), op 142 (.load none (tm 141)), mv 143 0, mv 144 10, op 145 (.iaddr 1 (tm 143) (tm 144)), op 146 (.load none (tm 145)), op 147 (.iaddr 1 (tm 135) (tm 136)), ⟨none, .store 1 (tm 147) (tm 142), none⟩, op 148 (.iaddr 1 (tm 137) (tm 138)), ⟨none, .store 1 (tm 148) (tm 146), none⟩] [0, 1, 10, 11] none)
 (.seq (.region none [] [
 mv 149 10, op 150 (.bin .add .int (tm 149) (ci (1))), mv 10 150] [0, 1, 10, 11] none)
 (.region none [] [
 mv 151 11, op 152 (.bin .sub .int (tm 151) (ci (1))), mv 11 152] [0, 1, 10, 11] none))))))

def c79 : ACode :=
 .seq (.region none [] [
 op 8 (.mov (ci (0))), op 9 (.mov (.cst (.bool false)))] [0, 1, 2, 3] none)
 (.seq (.par 16 [] [] [
 mv 12 0, mv 13 1, mv 14 0, mv 15 3, mv 16 0, mv 17 3, op 18 (.iaddr 1 (tm 16) (tm 17)), op 19 (.load none (tm 18)), mv 20 0, mv 21 1, op 22 (.iaddr 1 (tm 20) (tm 21)), op 23 (.load none (tm 22)), op 24 (.iaddr 1 (tm 12) (tm 13)), ⟨none, .store 1 (tm 24) (tm 19), none⟩, op 25 (.iaddr 1 (tm 14) (tm 15)), ⟨none, .store 1 (tm 25) (tm 23), none⟩] [0, 1, 2] none)
 (.seq (.region none [] [
 mv 26 1, op 27 (.bin .add .int (tm 26) (ci (1))), mv 28 2, op 29 (.bin .sub .int (tm 28) (ci (1))), mv 10 27, mv 11 29] [0, 1, 10, 11] none)
 (.seq (.block 0 (.loop l79_0_h l79_0_b))
 (.seq (.block 2 (.loop l79_1_h l79_1_b))
 (.seq (.seq (.region none [] [
 mv 63 10, mv 64 11, op 65 (.bin .gtr .int (tm 63) (tm 64))] [0, 1, 10, 11, 65] none)
 (.cond (tm 65) (.seq (.par 16 [] [] [
 mv 66 0, mv 67 11, mv 68 0, mv 69 1, mv 70 0, mv 71 1, op 72 (.iaddr 1 (tm 70) (tm 71)), op 73 (.load none (tm 72)), mv 74 0, mv 75 11, op 76 (.iaddr 1 (tm 74) (tm 75)), op 77 (.load none (tm 76)), op 78 (.iaddr 1 (tm 66) (tm 67)), ⟨none, .store 1 (tm 78) (tm 73), none⟩, op 79 (.iaddr 1 (tm 68) (tm 69)), ⟨none, .store 1 (tm 79) (tm 77), none⟩] [11] none)
 (.seq (.region none [] [
 mv 80 11, mv 8 80, op 9 (.mov (.cst (.bool true)))] [8, 9] none)
 (.ret)))
 (.skip)))
 (.seq (.par 16 [] [] [
 mv 81 0, mv 82 10, mv 83 0, mv 84 11, mv 85 0, mv 86 11, op 87 (.iaddr 1 (tm 85) (tm 86)), op 88 (.load none (tm 87)), mv 89 0, mv 90 10, op 91 (.iaddr 1 (tm 89) (tm 90)), op 92 (.load none (tm 91)), op 93 (.iaddr 1 (tm 81) (tm 82)), ⟨none, .store 1 (tm 93) (tm 88), none⟩, op 94 (.iaddr 1 (tm 83) (tm 84)), ⟨none, .store 1 (tm 94) (tm 92), none⟩] [0, 1, 10, 11] none)
 (.seq (.region none [] [
 mv 95 10, op 96 (.bin .add .int (tm 95) (ci (1))), mv 10 96] [0, 1, 10, 11] none)
 (.seq (.region none [] [
 mv 97 11, op 98 (.bin .sub .int (tm 97) (ci (1))), mv 11 98] [0, 1, 10, 11] none)
 (.seq (.block 4 (.loop l79_4_h l79_4_b))
 (.seq (.par 16 [] [] [
 mv 153 0, mv 154 11, mv 155 0, mv 156 1, mv 157 0, mv 158 1, op 159 (.iaddr 1 (tm 157) (tm 158)), op 160 (.load none (tm 159)), mv 161 0, mv 162 11, op 163 (.iaddr 1 (tm 161) (tm 162)), op 164 (.load none (tm 163)), op 165 (.iaddr 1 (tm 153) (tm 154)), ⟨none, .store 1 (tm 165) (tm 160), none⟩, op 166 (.iaddr 1 (tm 155) (tm 156)), ⟨none, .store 1 (tm 166) (tm 164), none⟩] [11] none)
 (.seq (.region none [] [
 mv 167 11, mv 8 167, op 9 (.mov (.cst (.bool false)))] [8, 9] none)
 (.ret))))))))))))

def a79 : AFunc := ⟨4, c79, [.tmp 8, .tmp 9]⟩

def an79 : List RAnn := [
 { id := 0, live := [0, 1, 2, 3] },
 { id := 1, head := some 16, live := [0, 1, 2], par := true },
 { id := 2, live := [0, 1, 10, 11] },
 { id := 3, head := some 14, live := [0, 1, 10, 11, 43], hdr := [0, 1, 10, 11] },
 { id := 4, live := [0, 1, 10, 11] },
 { id := 5, head := some 15, live := [0, 1, 10, 11, 60], hdr := [0, 1, 10, 11] },
 { id := 6, live := [0, 1, 10, 11] },
 { id := 7, live := [0, 1, 10, 11, 65] },
 { id := 8, head := some 16, live := [11], par := true },
 { id := 9, live := [8, 9] },
 { id := 10, head := some 16, live := [0, 1, 10, 11], par := true },
 { id := 11, live := [0, 1, 10, 11] },
 { id := 12, live := [0, 1, 10, 11] },
 { id := 13, head := some 14, live := [0, 1, 10, 11, 112], hdr := [0, 1, 10, 11] },
 { id := 14, live := [0, 1, 10, 11] },
 { id := 15, head := some 15, live := [0, 1, 10, 11, 129], hdr := [0, 1, 10, 11] },
 { id := 16, live := [0, 1, 10, 11] },
 { id := 17, live := [0, 1, 10, 11, 134] },
 { id := 18, head := some 16, live := [0, 1, 10, 11], par := true },
 { id := 19, live := [0, 1, 10, 11] },
 { id := 20, live := [0, 1, 10, 11] },
 { id := 21, head := some 16, live := [11], par := true },
 { id := 22, live := [8, 9] }]

theorem comp79 : compF Tryz.prog an79 Tryz.f79 = some a79 := by kernel_rfl

/- math/bits.Len32 -/
def c80 : ACode :=
 .seq (.region none [] [
 op 2 (.mov (ci (0)))] [0, 2] none)
 (.seq (.seq (.region none [] [
 mv 3 0, op 4 (.bin .geq .int (tm 3) (.cst (.int .u32 65536)))] [0, 2, 4] none)
 (.cond (tm 4) (.seq (.region none [] [
 mv 5 0, op 6 (.bin .shr .int (tm 5) (.cst (.int .u64 16))), mv 0 6] [0] none)
 (.region none [] [
 op 2 (.mov (ci (16)))] [0, 2] none))
 (.skip)))
 (.seq (.seq (.region none [] [
 mv 7 0, op 8 (.bin .geq .int (tm 7) (.cst (.int .u32 256)))] [0, 2, 8] none)
 (.cond (tm 8) (.seq (.region none [] [
 mv 9 0, op 10 (.bin .shr .int (tm 9) (.cst (.int .u64 8))), mv 0 10] [0, 2] none)
 (.region none [] [
 mv 11 2, op 12 (.bin .add .int (tm 11) (ci (8))), mv 2 12] [0, 2] none))
 (.skip)))
 (.seq (.region none [] [
 mv 13 2, mv 14 0, op 15 (.conv .u8 (tm 14)), op 16 (.sidx (.cst (.str [0, 1, 2, 2, 3, 3, 3, 3, 4, 4, 4, 4, 4, 4, 4, 4, 5, 5, 5, 5, 5, 5, 5, 5, 5, 5, 5, 5, 5, 5, 5, 5, 6, 6, 6, 6, 6, 6, 6, 6, 6, 6, 6, 6, 6, 6, 6, 6, 6, 6, 6, 6, 6, 6, 6, 6, 6, 6, 6, 6, 6, 6, 6, 6, 7, 7, 7, 7, 7, 7, 7, 7, 7, 7, 7, 7, 7, 7, 7, 7, 7, 7, 7, 7, 7, 7, 7, 7, 7, 7, 7, 7, 7, 7, 7, 7, 7, 7, 7, 7, 7, 7, 7, 7, 7, 7, 7, 7, 7, 7, 7, 7, 7, 7, 7, 7, 7, 7, 7, 7, 7, 7, 7, 7, 7, 7, 7, 7, 8, 8, 8, 8, 8, 8, 8, 8, 8, 8, 8, 8, 8, 8, 8, 8, 8, 8, 8, 8, 8, 8, 8, 8, 8, 8, 8, 8, 8, 8, 8, 8, 8, 8, 8, 8, 8, 8, 8, 8, 8, 8, 8, 8, 8, 8, 8, 8, 8, 8, 8, 8, 8, 8, 8, 8, 8, 8, 8, 8, 8, 8, 8, 8, 8, 8, 8, 8, 8, 8, 8, 8, 8, 8, 8, 8, 8, 8, 8, 8, 8, 8, 8, 8, 8, 8, 8, 8, 8, 8, 8, 8, 8, 8, 8, 8, 8, 8, 8, 8, 8, 8, 8, 8, 8, 8, 8, 8, 8, 8, 8, 8, 8, 8, 8, 8, 8, 8, 8, 8, 8, 8, 8, 8, 8, 8, 8, 8])) (tm 15)), op 17 (.conv .i64 (tm 16)), op 18 (.bin .add .int (tm 13) (tm 17)), mv 2 18] [2] none)
 (.ret))))

def a80 : AFunc := ⟨1, c80, [.tmp 2]⟩

def an80 : List RAnn := [
 { id := 0, live := [0, 2] },
 { id := 1, live := [0, 2, 4] },
 { id := 2, live := [0] },
 { id := 3, live := [0, 2] },
 { id := 4, live := [0, 2, 8] },
 { id := 5, live := [0, 2] },
 { id := 6, live := [0, 2] },
 { id := 7, live := [2] }]

theorem comp80 : compF Tryz.prog an80 Tryz.f80 = some a80 := by kernel_rfl

/- math/bits.Len64 -/
def c81 : ACode :=
 .seq (.region none [] [
 op 2 (.mov (ci (0)))] [0, 2] none)
 (.seq (.seq (.region none [] [
 mv 3 0, op 4 (.bin .geq .int (tm 3) (.cst (.int .u64 4294967296)))] [0, 2, 4] none)
 (.cond (tm 4) (.seq (.region none [] [
 mv 5 0, op 6 (.bin .shr .int (tm 5) (.cst (.int .u64 32))), mv 0 6] [0] none)
 (.region none [] [
 op 2 (.mov (ci (32)))] [0, 2] none))
 (.skip)))
 (.seq (.seq (.region none [] [
 mv 7 0, op 8 (.bin .geq .int (tm 7) (.cst (.int .u64 65536)))] [0, 2, 8] none)
 (.cond (tm 8) (.seq (.region none [] [
 mv 9 0, op 10 (.bin .shr .int (tm 9) (.cst (.int .u64 16))), mv 0 10] [0, 2] none)
 (.region none [] [
 mv 11 2, op 12 (.bin .add .int (tm 11) (ci (16))), mv 2 12] [0, 2] none))
 (.skip)))
 (.seq (.seq (.region none [] [
 mv 13 0, op 14 (.bin .geq .int (tm 13) (.cst (.int .u64 256)))] [0, 2, 14] none)
 (.cond (tm 14) (.seq (.region none [] [
 mv 15 0, op 16 (.bin .shr .int (tm 15) (.cst (.int .u64 8))), mv 0 16] [0, 2] none)
 (.region none [] [
 mv 17 2, op 18 (.bin .add .int (tm 17) (ci (8))), mv 2 18] [0, 2] none))
 (.skip)))
 (.seq (.region none [] [
 mv 19 2, mv 20 0, op 21 (.conv .u8 (tm 20)), op 22 (.sidx (.cst (.str [0, 1, 2, 2, 3, 3, 3, 3, 4, 4, 4, 4, 4, 4, 4, 4, 5, 5, 5, 5, 5, 5, 5, 5, 5, 5, 5, 5, 5, 5, 5, 5, 6, 6, 6, 6, 6, 6, 6, 6, 6, 6, 6, 6, 6, 6, 6, 6, 6, 6, 6, 6, 6, 6, 6, 6, 6, 6, 6, 6, 6, 6, 6, 6, 7, 7, 7, 7, 7, 7, 7, 7, 7, 7, 7, 7, 7, 7, 7, 7, 7, 7, 7, 7, 7, 7, 7, 7, 7, 7, 7, 7, 7, 7, 7, 7, 7, 7, 7, 7, 7, 7, 7, 7, 7, 7, 7, 7, 7, 7, 7, 7, 7, 7, 7, 7, 7, 7, 7, 7, 7, 7, 7, 7, 7, 7, 7, 7, 8, 8, 8, 8, 8, 8, 8, 8, 8, 8, 8, 8, 8, 8, 8, 8, 8, 8, 8, 8, 8, 8, 8, 8, 8, 8, 8, 8, 8, 8, 8, 8, 8, 8, 8, 8, 8, 8, 8, 8, 8, 8, 8, 8, 8, 8, 8, 8, 8, 8, 8, 8, 8, 8, 8, 8, 8, 8, 8, 8, 8, 8, 8, 8, 8, 8, 8, 8, 8, 8, 8, 8, 8, 8, 8, 8, 8, 8, 8, 8, 8, 8, 8, 8, 8, 8, 8, 8, 8, 8, 8, 8, 8, 8, 8, 8, 8, 8, 8, 8, 8, 8, 8, 8, 8, 8, 8, 8, 8, 8, 8, 8, 8, 8, 8, 8, 8, 8, 8, 8, 8, 8, 8, 8, 8, 8, 8, 8])) (tm 21)), op 23 (.conv .i64 (tm 22)), op 24 (.bin .add .int (tm 19) (tm 23)), mv 2 24] [2] none)
 (.ret)))))

def a81 : AFunc := ⟨1, c81, [.tmp 2]⟩

def an81 : List RAnn := [
 { id := 0, live := [0, 2] },
 { id := 1, live := [0, 2, 4] },
 { id := 2, live := [0] },
 { id := 3, live := [0, 2] },
 { id := 4, live := [0, 2, 8] },
 { id := 5, live := [0, 2] },
 { id := 6, live := [0, 2] },
 { id := 7, live := [0, 2, 14] },
 { id := 8, live := [0, 2] },
 { id := 9, live := [0, 2] },
 { id := 10, live := [2] }]

theorem comp81 : compF Tryz.prog an81 Tryz.f81 = some a81 := by kernel_rfl

/- graphdb/graphdbref07.SameStrs -/
/-- loop 0 of function 82 -/
def l82_0_h : List Nat := [0, 1, 5]

def l82_0_b : ACode :=
 .seq (.seq (.region none [] [
 mv 11 5, mv 12 0, op 13 (.len .slice (tm 12)), op 14 (.bin .lss .int (tm 11) (tm 13))] [0, 1, 5, 14] none)
 (.cond (tm 14) (.skip)
 (.exit 0)))
 (.seq (.block 1 (.seq (.region (some 9) [] [
 mv 17 0, mv 18 5, op 19 (.iaddr 1 (tm 17) (tm 18)), op 20 (.load none (tm 19)), mv 21 1, mv 22 5, op 23 (.iaddr 1 (tm 21) (tm 22)), op 24 (.load none (tm 23)), op 25 (.bin .neq .str (tm 20) (tm 24))] [0, 1, 5, 25] none)
 (.cond (tm 25) (.seq (.region none [] [
 op 4 (.mov (.cst (.bool false)))] [4] none)
 (.ret))
 (.skip))))
 (.region none [] [
 mv 15 5, op 16 (.bin .add .int (tm 15) (ci (1))), mv 5 16] [0, 1, 5] none))

def c82 : ACode :=
 .seq (.region none [] [
 op 4 (.mov (.cst (.bool false)))] [0, 1] none)
 (.seq (.seq (.region none [] [
 mv 6 0, op 7 (.len .slice (tm 6)), mv 8 1, op 9 (.len .slice (tm 8)), op 10 (.bin .neq .int (tm 7) (tm 9))] [0, 1, 10] none)
 (.cond (tm 10) (.seq (.region none [] [
 op 4 (.mov (.cst (.bool false)))] [4] none)
 (.ret))
 (.skip)))
 (.seq (.seq (.region none [] [
 op 5 (.mov (ci (0)))] [0, 1, 5] none)
 (.block 0 (.loop l82_0_h l82_0_b)))
 (.seq (.region none [] [
 op 4 (.mov (.cst (.bool true)))] [4] none)
 (.ret))))

def a82 : AFunc := ⟨2, c82, [.tmp 4]⟩

def an82 : List RAnn := [
 { id := 0, live := [0, 1] },
 { id := 1, live := [0, 1, 10] },
 { id := 2, live := [4] },
 { id := 3, live := [0, 1, 5] },
 { id := 4, live := [0, 1, 5, 14], hdr := [0, 1, 5] },
 { id := 6, head := some 9, live := [0, 1, 5, 25] },
 { id := 7, live := [4] },
 { id := 5, live := [0, 1, 5] },
 { id := 8, live := [4] }]

theorem comp82 : compF Tryz.prog an82 Tryz.f82 = some a82 := by kernel_rfl

/- graphdb/graphdbref07.SameProps -/
/-- loop 0 of function 83 -/
def l83_0_h : List Nat := [0, 1, 5]

def l83_0_b : ACode :=
 .seq (.seq (.region none [] [
 mv 11 5, mv 12 0, op 13 (.len .slice (tm 12)), op 14 (.bin .lss .int (tm 11) (tm 13))] [0, 1, 5, 14] none)
 (.cond (tm 14) (.skip)
 (.exit 0)))
 (.seq (.block 1 (.seq (.region (some 25) [] [
 mv 17 0, mv 18 5, op 19 (.iaddr 6 (tm 17) (tm 18)), op 20 (.faddr 0 (tm 19)), op 21 (.load none (tm 20)), mv 22 1, mv 23 5, op 24 (.iaddr 6 (tm 22) (tm 23)), op 25 (.faddr 0 (tm 24)), op 26 (.load none (tm 25)), op 27 (.bin .neq .str (tm 21) (tm 26)), mv 28 27, mg 29 0 28 false, mg 30 5 28 false, ⟨some 31, .iaddr 6 (tm 29) (tm 30), some (28, false)⟩, ⟨some 32, .faddr 1 (tm 31), some (28, false)⟩, ⟨some 33, .load (some 5) (tm 32), some (28, false)⟩, mg 34 1 28 false, mg 35 5 28 false, ⟨some 36, .iaddr 6 (tm 34) (tm 35), some (28, false)⟩, ⟨some 37, .faddr 1 (tm 36), some (28, false)⟩, ⟨some 38, .load (some 5) (tm 37), some (28, false)⟩, ⟨some 39, .call .pure 52 [(tm 33), (tm 38)], some (28, false)⟩, ⟨some 40, .bin .neq .int (tm 39) (ci (0)), some (28, false)⟩, op 41 (.pick (tm 28) (.cst (.bool true)) (tm 40))] [0, 1, 5, 41] none)
 (.cond (tm 41) (.seq (.region none [] [
 op 4 (.mov (.cst (.bool false)))] [4] none)
 (.ret))
 (.skip))))
 (.region none [] [
 mv 15 5, op 16 (.bin .add .int (tm 15) (ci (1))), mv 5 16] [0, 1, 5] none))

def c83 : ACode :=
 .seq (.region none [] [
 op 4 (.mov (.cst (.bool false)))] [0, 1] none)
 (.seq (.seq (.region none [] [
 mv 6 0, op 7 (.len .slice (tm 6)), mv 8 1, op 9 (.len .slice (tm 8)), op 10 (.bin .neq .int (tm 7) (tm 9))] [0, 1, 10] none)
 (.cond (tm 10) (.seq (.region none [] [
 op 4 (.mov (.cst (.bool false)))] [4] none)
 (.ret))
 (.skip)))
 (.seq (.seq (.region none [] [
 op 5 (.mov (ci (0)))] [0, 1, 5] none)
 (.block 0 (.loop l83_0_h l83_0_b)))
 (.seq (.region none [] [
 op 4 (.mov (.cst (.bool true)))] [4] none)
 (.ret))))

def a83 : AFunc := ⟨2, c83, [.tmp 4]⟩

def an83 : List RAnn := [
 { id := 0, live := [0, 1] },
 { id := 1, live := [0, 1, 10] },
 { id := 2, live := [4] },
 { id := 3, live := [0, 1, 5] },
 { id := 4, live := [0, 1, 5, 14], hdr := [0, 1, 5] },
 { id := 6, head := some 25, live := [0, 1, 5, 41] },
 { id := 7, live := [4] },
 { id := 5, live := [0, 1, 5] },
 { id := 8, live := [4] }]

theorem comp83 : compF Tryz.prog an83 Tryz.f83 = some a83 := by kernel_rfl

/- slices.ContainsFunc[[]string,string] -/
def c84 : ACode :=
 .seq (.region none [] [
 op 4 (.mov (.cst (.bool false)))] [0, 1] none)
 (.seq (.region none [] [
 mv 5 0, mv 6 1, op 7 (.call .pure 118 [(tm 5), (tm 6)]), op 8 (.bin .geq .int (tm 7) (ci (0))), mv 4 8] [4] none)
 (.ret))

def a84 : AFunc := ⟨2, c84, [.tmp 4]⟩

def an84 : List RAnn := [
 { id := 0, live := [0, 1] },
 { id := 1, live := [4] }]

theorem comp84 : compF Tryz.prog an84 Tryz.f84 = some a84 := by kernel_rfl

/- graphdb/graph.unnamed -/
def c85 : ACode :=
 .seq (.region none [] [
 op 2 (.mov (.cst (.bool false)))] [0] none)
 (.seq (.region none [] [
 mv 3 0, op 4 (.call .pure 44 [(tm 3)]), op 5 (.un .not (tm 4)), mv 2 5] [2] none)
 (.ret))

def a85 : AFunc := ⟨1, c85, [.tmp 2]⟩

def an85 : List RAnn := [
 { id := 0, live := [0] },
 { id := 1, live := [2] }]

theorem comp85 : compF Tryz.prog an85 Tryz.f85 = some a85 := by kernel_rfl

/- graphdb/graph.increasing -/
/-- loop 0 of function 86 -/
def l86_0_h : List Nat := [0, 3]

def l86_0_b : ACode :=
 .seq (.seq (.region none [] [
 mv 4 3, mv 5 0, op 6 (.len .slice (tm 5)), op 7 (.bin .lss .int (tm 4) (tm 6))] [0, 3, 7] none)
 (.cond (tm 7) (.skip)
 (.exit 0)))
 (.seq (.block 1 (.seq (.region (some 10) [] [
 mv 10 0, mv 11 3, op 12 (.iaddr 1 (tm 10) (tm 11)), op 13 (.load none (tm 12)), mv 14 0, mv 15 3, op 16 (.bin .sub .int (tm 15) (ci (1))), op 17 (.iaddr 1 (tm 14) (tm 16)), op 18 (.load none (tm 17)), op 19 (.bin .leq .str (tm 13) (tm 18))] [0, 3, 19] none)
 (.cond (tm 19) (.seq (.region none [] [
 op 2 (.mov (.cst (.bool false)))] [2] none)
 (.ret))
 (.skip))))
 (.region none [] [
 mv 8 3, op 9 (.bin .add .int (tm 8) (ci (1))), mv 3 9] [0, 3] none))

def c86 : ACode :=
 .seq (.region none [] [
 op 2 (.mov (.cst (.bool false)))] [0] none)
 (.seq (.seq (.region none [] [
 op 3 (.mov (ci (1)))] [0, 3] none)
 (.block 0 (.loop l86_0_h l86_0_b)))
 (.seq (.region none [] [
 op 2 (.mov (.cst (.bool true)))] [2] none)
 (.ret)))

def a86 : AFunc := ⟨1, c86, [.tmp 2]⟩

def an86 : List RAnn := [
 { id := 0, live := [0] },
 { id := 1, live := [0, 3] },
 { id := 2, live := [0, 3, 7], hdr := [0, 3] },
 { id := 4, head := some 10, live := [0, 3, 19] },
 { id := 5, live := [2] },
 { id := 3, live := [0, 3] },
 { id := 6, live := [2] }]

theorem comp86 : compF Tryz.prog an86 Tryz.f86 = some a86 := by kernel_rfl

/- graphdb/value.Plain -/
def c87 : ACode :=
 .seq (.region none [] [
 op 1 (.box 5 (tm 0)), op 2 (.mov (.cst (.bool false)))] [1] none)
 (.seq (.region none [] [
 op 3 (.faddr 0 (tm 1)), op 4 (.load none (tm 3)), op 5 (.bin .eql .int (tm 4) (ci (1))), mv 6 5, ⟨some 7, .faddr 0 (tm 1), some (6, false)⟩, ⟨some 8, .load none (tm 7), some (6, false)⟩, ⟨some 9, .bin .eql .int (tm 8) (ci (2)), some (6, false)⟩, op 10 (.pick (tm 6) (.cst (.bool true)) (tm 9)), mv 11 10, ⟨some 12, .faddr 0 (tm 1), some (11, false)⟩, ⟨some 13, .load none (tm 12), some (11, false)⟩, ⟨some 14, .bin .eql .int (tm 13) (ci (4)), some (11, false)⟩, op 15 (.pick (tm 11) (.cst (.bool true)) (tm 14)), mv 16 15, ⟨some 17, .load (some 5) (tm 1), some (16, true)⟩, ⟨some 18, .call .pure 119 [(tm 17)], some (16, true)⟩, op 19 (.pick (tm 16) (tm 18) (.cst (.bool false))), mv 2 19] [2] none)
 (.ret))

def a87 : AFunc := ⟨1, c87, [.tmp 2]⟩

def an87 : List RAnn := [
 { id := 0, live := [1] },
 { id := 1, live := [2] }]

theorem comp87 : compF Tryz.prog an87 Tryz.f87 = some a87 := by kernel_rfl

/- slices.BinarySearchFunc[[]graphdb/api.Node,graphdb/api.Node,int] -/
/-- loop 0 of function 88 -/
def l88_0_h : List Nat := [0, 1, 2, 8, 9, 10]

def l88_0_b : ACode :=
 .seq (.seq (.region none [] [
 mv 15 9, mv 16 10, op 17 (.bin .lss .int (tm 15) (tm 16))] [0, 1, 2, 8, 9, 10, 17] none)
 (.cond (tm 17) (.skip)
 (.exit 0)))
 (.block 1 (.seq (.region none [] [
 mv 18 9, mv 19 10, op 20 (.bin .add .int (tm 18) (tm 19)), op 21 (.conv .u64 (tm 20)), op 22 (.bin .shr .int (tm 21) (.cst (.int .u64 1))), op 23 (.conv .i64 (tm 22)), mv 11 23] [0, 1, 2, 8, 9, 10, 11] none)
 (.seq (.region none [] [
 mv 24 2, mv 25 0, mv 26 11, op 27 (.iaddr 3 (tm 25) (tm 26)), op 28 (.load (some 3) (tm 27)), mv 29 1, op 30 (.callv .pure (tm 24) [(tm 28), (tm 29)]), op 31 (.bin .lss .int (tm 30) (ci (0)))] [0, 1, 2, 8, 9, 10, 11, 31] none)
 (.cond (tm 31) (.region none [] [
 mv 32 11, op 33 (.bin .add .int (tm 32) (ci (1))), mv 9 33] [0, 1, 2, 8, 9, 10] none)
 (.region none [] [
 mv 34 11, mv 10 34] [0, 1, 2, 8, 9, 10] none)))))

def c88 : ACode :=
 .seq (.region none [] [
 op 6 (.mov (ci (0))), op 7 (.mov (.cst (.bool false)))] [0, 1, 2] none)
 (.seq (.region none [] [
 mv 12 0, op 13 (.len .slice (tm 12)), mv 8 13] [0, 1, 2, 8] none)
 (.seq (.region none [] [
 mv 14 8, op 9 (.mov (ci (0))), mv 10 14] [0, 1, 2, 8, 9, 10] none)
 (.seq (.block 0 (.loop l88_0_h l88_0_b))
 (.seq (.region none [] [
 mv 35 9, mv 36 9, mv 37 8, op 38 (.bin .lss .int (tm 36) (tm 37)), mv 39 38, mg 40 2 39 true, mg 41 0 39 true, mg 42 9 39 true, ⟨some 43, .iaddr 3 (tm 41) (tm 42), some (39, true)⟩, ⟨some 44, .load (some 3) (tm 43), some (39, true)⟩, mg 45 1 39 true, ⟨some 46, .callv .pure (tm 40) [(tm 44), (tm 45)], some (39, true)⟩, ⟨some 47, .bin .eql .int (tm 46) (ci (0)), some (39, true)⟩, op 48 (.pick (tm 39) (tm 47) (.cst (.bool false))), mv 6 35, mv 7 48] [6, 7] none)
 (.ret)))))

def a88 : AFunc := ⟨3, c88, [.tmp 6, .tmp 7]⟩

def an88 : List RAnn := [
 { id := 0, live := [0, 1, 2] },
 { id := 1, live := [0, 1, 2, 8] },
 { id := 2, live := [0, 1, 2, 8, 9, 10] },
 { id := 3, live := [0, 1, 2, 8, 9, 10, 17], hdr := [0, 1, 2, 8, 9, 10] },
 { id := 4, live := [0, 1, 2, 8, 9, 10, 11] },
 { id := 5, live := [0, 1, 2, 8, 9, 10, 11, 31] },
 { id := 6, live := [0, 1, 2, 8, 9, 10] },
 { id := 7, live := [0, 1, 2, 8, 9, 10] },
 { id := 8, live := [6, 7] }]

theorem comp88 : compF Tryz.prog an88 Tryz.f88 = some a88 := by kernel_rfl

/- graphdb/graph.has$1 -/
def c89 : ACode :=
 .seq (.region none [] [
 op 2 (.box 3 (tm 0)), op 4 (.mov (ci (0)))] [1, 2] none)
 (.seq (.region none [] [
 op 5 (.faddr 0 (tm 2)), op 6 (.load none (tm 5)), mv 7 1, op 8 (.call .pure 90 [(tm 6), (tm 7)]), mv 4 8] [4] none)
 (.ret))

def a89 : AFunc := ⟨2, c89, [.tmp 4]⟩

def an89 : List RAnn := [
 { id := 0, live := [1, 2] },
 { id := 1, live := [4] }]

theorem comp89 : compF Tryz.prog an89 Tryz.f89 = some a89 := by kernel_rfl

/- cmp.Compare[int] -/
def c90 : ACode :=
 .seq (.region none [] [
 op 4 (.mov (ci (0)))] [0, 1] none)
 (.seq (.region none [] [
 mv 7 0, op 8 (.call .pure 117 [(tm 7)]), mv 5 8] [0, 1, 5] none)
 (.seq (.region none [] [
 mv 9 1, op 10 (.call .pure 117 [(tm 9)]), mv 6 10] [0, 1, 5, 6] none)
 (.seq (.seq (.region none [] [
 mv 11 5] [0, 1, 6, 11] none)
 (.cond (tm 11) (.seq (.seq (.region none [] [
 mv 12 6] [12] none)
 (.cond (tm 12) (.seq (.region none [] [
 op 4 (.mov (ci (0)))] [4] none)
 (.ret))
 (.skip)))
 (.seq (.region none [] [
 op 4 (.mov (ci ((-1))))] [4] none)
 (.ret)))
 (.skip)))
 (.seq (.seq (.region none [] [
 mv 13 6] [0, 1, 13] none)
 (.cond (tm 13) (.seq (.region none [] [
 op 4 (.mov (ci (1)))] [4] none)
 (.ret))
 (.skip)))
 (.seq (.seq (.region none [] [
 mv 14 0, mv 15 1, op 16 (.bin .lss .int (tm 14) (tm 15))] [0, 1, 16] none)
 (.cond (tm 16) (.seq (.region none [] [
 op 4 (.mov (ci ((-1))))] [4] none)
 (.ret))
 (.skip)))
 (.seq (.seq (.region none [] [
 mv 17 0, mv 18 1, op 19 (.bin .gtr .int (tm 17) (tm 18))] [19] none)
 (.cond (tm 19) (.seq (.region none [] [
 op 4 (.mov (ci (1)))] [4] none)
 (.ret))
 (.skip)))
 (.seq (.region none [] [
 op 4 (.mov (ci (0)))] [4] none)
 (.ret))))))))

def a90 : AFunc := ⟨2, c90, [.tmp 4]⟩

def an90 : List RAnn := [
 { id := 0, live := [0, 1] },
 { id := 1, live := [0, 1, 5] },
 { id := 2, live := [0, 1, 5, 6] },
 { id := 3, live := [0, 1, 6, 11] },
 { id := 4, live := [12] },
 { id := 5, live := [4] },
 { id := 6, live := [4] },
 { id := 7, live := [0, 1, 13] },
 { id := 8, live := [4] },
 { id := 9, live := [0, 1, 16] },
 { id := 10, live := [4] },
 { id := 11, live := [19] },
 { id := 12, live := [4] },
 { id := 13, live := [4] }]

theorem comp90 : compF Tryz.prog an90 Tryz.f90 = some a90 := by kernel_rfl

/- graphdb/graph.letter -/
def c91 : ACode :=
 .seq (.region none [] [
 op 2 (.mov (.cst (.bool false)))] [0] none)
 (.seq (.region none [] [
 mv 3 0, op 4 (.bin .geq .int (tm 3) (.cst (.int .u8 97))), mv 5 4, mg 6 0 5 true, ⟨some 7, .bin .leq .int (tm 6) (.cst (.int .u8 122)), some (5, true)⟩, op 8 (.pick (tm 5) (tm 7) (.cst (.bool false))), mv 9 8, mg 10 0 9 false, ⟨some 11, .bin .geq .int (tm 10) (.cst (.int .u8 65)), some (9, false)⟩, mg 12 11 9 false, mg 13 0 12 true, ⟨some 14, .bin .leq .int (tm 13) (.cst (.int .u8 90)), some (12, true)⟩, ⟨some 15, .pick (tm 12) (tm 14) (.cst (.bool false)), some (9, false)⟩, op 16 (.pick (tm 9) (.cst (.bool true)) (tm 15)), mv 2 16] [2] none)
 (.ret))

def a91 : AFunc := ⟨1, c91, [.tmp 2]⟩

def an91 : List RAnn := [
 { id := 0, live := [0] },
 { id := 1, live := [2] }]

theorem comp91 : compF Tryz.prog an91 Tryz.f91 = some a91 := by kernel_rfl

/- graphdb/graph.cloneProps -/
/-- loop 0 of function 92 -/
def l92_0_h : List Nat := [3, 8, 9]

def l92_0_b : ACode :=
 .seq (.region none [] [
 op 10 (.bin .lss .int (tm 9) (tm 8))] [3, 8, 9, 10] none)
 (.seq (.cond (tm 10) (.skip)
 (.exit 0))
 (.seq (.block 1 (.seq (.region none [] [
 mv 11 9, mv 4 11] [3, 4, 8, 9] none)
 (.region none [] [
 mv 12 3, mv 13 4, mv 14 3, mv 15 4, op 16 (.iaddr 6 (tm 14) (tm 15)), op 17 (.faddr 1 (tm 16)), op 18 (.load (some 5) (tm 17)), op 19 (.call .pure 121 [(tm 18)]), op 20 (.iaddr 6 (tm 12) (tm 13)), op 21 (.faddr 1 (tm 20)), ⟨none, .store 5 (tm 21) (tm 19), none⟩] [3, 8, 9] none)))
 (.region none [] [
 op 22 (.bin .add .int (tm 9) (ci (1))), mv 9 22] [3, 8, 9] none)))

def c92 : ACode :=
 .seq (.region none [] [
 op 2 (.mov (.cst (.sl false [])))] [0] none)
 (.seq (.region none [] [
 mv 5 0, op 6 (.call .own 120 [(tm 5)]), mv 3 6] [3] none)
 (.seq (.seq (.region none [] [
 mv 7 3, op 8 (.len .slice (tm 7)), op 9 (.mov (ci (0)))] [3, 8, 9] none)
 (.block 0 (.loop l92_0_h l92_0_b)))
 (.seq (.region none [] [
 mv 23 3, mv 2 23] [2] none)
 (.ret))))

def a92 : AFunc := ⟨1, c92, [.tmp 2]⟩

def an92 : List RAnn := [
 { id := 0, live := [0] },
 { id := 1, live := [3], ops := [(1, .mode .own)] },
 { id := 2, live := [3, 8, 9] },
 { id := 3, live := [3, 8, 9, 10], hdr := [3, 8, 9] },
 { id := 4, live := [3, 4, 8, 9] },
 { id := 5, live := [3, 8, 9] },
 { id := 6, live := [3, 8, 9] },
 { id := 7, live := [2] }]

theorem comp92 : compF Tryz.prog an92 Tryz.f92 = some a92 := by kernel_rfl

/- slices.Clone[[]string,string] -/
def c93 : ACode :=
 .seq (.region none [] [
 op 2 (.mov (.cst (.sl false [])))] [0] none)
 (.seq (.seq (.region none [] [
 mv 3 0, op 4 (.bin .eql .slice (tm 3) (.cst (.sl false [])))] [0, 4] none)
 (.cond (tm 4) (.seq (.region none [] [
 op 2 (.mov (.cst (.sl false [])))] [2] none)
 (.ret))
 (.skip)))
 (.seq (.region none [] [
 op 5 (.lit true 1 (.str []) 0 []), mv 6 0, op 7 (.append 1 16 (tm 5) (tm 6)), mv 2 7] [2] none)
 (.ret)))

def a93 : AFunc := ⟨1, c93, [.tmp 2]⟩

def an93 : List RAnn := [
 { id := 0, live := [0] },
 { id := 1, live := [0, 4] },
 { id := 2, live := [2] },
 { id := 3, live := [2], ops := [(0, .own)] }]

theorem comp93 : compF Tryz.prog an93 Tryz.f93 = some a93 := by kernel_rfl

/- slices.Contains[[]string,string] -/
def c94 : ACode :=
 .seq (.region none [] [
 op 4 (.mov (.cst (.bool false)))] [0, 1] none)
 (.seq (.region none [] [
 mv 5 0, mv 6 1, op 7 (.call .pure 122 [(tm 5), (tm 6)]), op 8 (.bin .geq .int (tm 7) (ci (0))), mv 4 8] [4] none)
 (.ret))

def a94 : AFunc := ⟨2, c94, [.tmp 4]⟩

def an94 : List RAnn := [
 { id := 0, live := [0, 1] },
 { id := 1, live := [4] }]

theorem comp94 : compF Tryz.prog an94 Tryz.f94 = some a94 := by kernel_rfl

/- graphdb/graph.Prop -/
/-- loop 0 of function 96 -/
def l96_0_h : List Nat := [1, 4, 7, 8, 9]

def l96_0_b : ACode :=
 .seq (.region none [] [
 op 10 (.bin .lss .int (tm 9) (tm 8))] [1, 4, 7, 8, 9, 10] none)
 (.seq (.cond (tm 10) (.skip)
 (.exit 0))
 (.seq (.block 1 (.seq (.region none [] [
 op 11 (.iaddr 6 (tm 7) (tm 9)), op 12 (.load (some 6) (tm 11)), op 6 (.alloc 6 (.agg [.str [], .int .i64 0, .int .i64 0, .int .i64 0, .str [], .sl false []])), ⟨none, .store 6 (tm 6) (tm 12), none⟩] [1, 4, 6, 7, 8, 9] none)
 (.seq (.region none [] [
 op 13 (.faddr 0 (tm 6)), op 14 (.load none (tm 13)), mv 15 1, op 16 (.bin .eql .str (tm 14) (tm 15))] [1, 4, 6, 7, 8, 9, 16] none)
 (.cond (tm 16) (.seq (.region none [] [
 op 17 (.faddr 1 (tm 6)), op 18 (.load (some 5) (tm 17)), op 19 (.call .pure 121 [(tm 18)]), ⟨none, .store 5 (tm 4) (tm 19), none⟩] [4] none)
 (.ret))
 (.skip)))))
 (.region none [] [
 op 20 (.bin .add .int (tm 9) (ci (1))), mv 9 20] [1, 4, 7, 8, 9] (some 1))))

def c96 : ACode :=
 .seq (.region none [] [
 op 4 (.alloc 5 (.agg [.int .i64 0, .int .i64 0, .int .i64 0, .str [], .sl false []]))] [0, 1, 4] none)
 (.seq (.seq (.region none [] [
 mv 7 0, op 8 (.len .slice (tm 7)), op 9 (.mov (ci (0)))] [1, 4, 7, 8, 9] none)
 (.block 0 (.loop l96_0_h l96_0_b)))
 (.seq (.region none [] [
 op 21 (.call .pure 127 []), ⟨none, .store 5 (tm 4) (tm 21), none⟩] [4] none)
 (.ret)))

def a96 : AFunc := ⟨2, c96, [.cell 4 (some 5)]⟩

def an96 : List RAnn := [
 { id := 0, live := [0, 1, 4] },
 { id := 1, live := [1, 4, 7, 8, 9] },
 { id := 2, live := [1, 4, 7, 8, 9, 10], hdr := [1, 4, 7, 8, 9] },
 { id := 3, live := [1, 4, 6, 7, 8, 9] },
 { id := 4, live := [1, 4, 6, 7, 8, 9, 16] },
 { id := 5, live := [4] },
 { id := 6, live := [1, 4, 7, 8, 9], trunc := some 1 },
 { id := 7, live := [4] }]

theorem comp96 : compF Tryz.prog an96 Tryz.f96 = some a96 := by kernel_rfl

/- graphdb/graphdbref04.Valid -/
def c97 : ACode :=
 .seq (.region none [] [
 op 1 (.box 5 (tm 0)), op 2 (.mov (.cst (.bool false)))] [1] none)
 (.seq (.region none [] [
 op 3 (.load (some 5) (tm 1)), op 4 (.call .pure 128 [(tm 3), (ci (8))]), mv 2 4] [2] none)
 (.ret))

def a97 : AFunc := ⟨1, c97, [.tmp 2]⟩

def an97 : List RAnn := [
 { id := 0, live := [1] },
 { id := 1, live := [2] }]

theorem comp97 : compF Tryz.prog an97 Tryz.f97 = some a97 := by kernel_rfl

/- graphdb/graphdbref04.yes -/
def c98 : ACode :=
 .seq (.region none [] [
 op 2 (.mov (ci (0)))] [0] none)
 (.seq (.seq (.region none [] [
 mv 3 0] [3] none)
 (.cond (tm 3) (.seq (.region none [] [
 op 2 (.mov (ci (2)))] [2] none)
 (.ret))
 (.skip)))
 (.seq (.region none [] [
 op 2 (.mov (ci (0)))] [2] none)
 (.ret)))

def a98 : AFunc := ⟨1, c98, [.tmp 2]⟩

def an98 : List RAnn := [
 { id := 0, live := [0] },
 { id := 1, live := [3] },
 { id := 2, live := [2] },
 { id := 3, live := [2] }]

theorem comp98 : compF Tryz.prog an98 Tryz.f98 = some a98 := by kernel_rfl

/- graphdb/graphdbref04.fields -/
def c99 : ACode :=
 .seq (.region none [] [
 op 2 (.box 5 (tm 0)), op 3 (.box 5 (tm 1)), op 4 (.mov (ci (0)))] [2, 3] none)
 (.seq (.seq (.region none [] [
 op 9 (.faddr 0 (tm 2)), op 10 (.load none (tm 9)), op 11 (.faddr 0 (tm 3)), op 12 (.load none (tm 11)), op 13 (.call .pure 100 [(tm 10), (tm 12)]), mv 5 13] [2, 3, 5] none)
 (.seq (.region none [] [
 mv 14 5, op 15 (.bin .neq .int (tm 14) (ci (0)))] [2, 3, 5, 15] none)
 (.cond (tm 15) (.seq (.region none [] [
 mv 16 5, mv 4 16] [4] none)
 (.ret))
 (.skip))))
 (.seq (.seq (.region none [] [
 op 17 (.faddr 1 (tm 2)), op 18 (.load none (tm 17)), op 19 (.faddr 1 (tm 3)), op 20 (.load none (tm 19)), op 21 (.call .pure 100 [(tm 18), (tm 20)]), mv 6 21] [2, 3, 6] none)
 (.seq (.region none [] [
 mv 22 6, op 23 (.bin .neq .int (tm 22) (ci (0)))] [2, 3, 6, 23] none)
 (.cond (tm 23) (.seq (.region none [] [
 mv 24 6, mv 4 24] [4] none)
 (.ret))
 (.skip))))
 (.seq (.seq (.region none [] [
 op 25 (.faddr 2 (tm 2)), op 26 (.load none (tm 25)), op 27 (.faddr 2 (tm 3)), op 28 (.load none (tm 27)), op 29 (.call .pure 100 [(tm 26), (tm 28)]), mv 7 29] [2, 3, 7] none)
 (.seq (.region none [] [
 mv 30 7, op 31 (.bin .neq .int (tm 30) (ci (0)))] [2, 3, 7, 31] none)
 (.cond (tm 31) (.seq (.region none [] [
 mv 32 7, mv 4 32] [4] none)
 (.ret))
 (.skip))))
 (.seq (.seq (.region none [] [
 op 33 (.faddr 3 (tm 2)), op 34 (.load none (tm 33)), op 35 (.faddr 3 (tm 3)), op 36 (.load none (tm 35)), op 37 (.call .pure 129 [(tm 34), (tm 36)]), mv 8 37] [2, 3, 8] none)
 (.seq (.region none [] [
 mv 38 8, op 39 (.bin .neq .int (tm 38) (ci (0)))] [2, 3, 8, 39] none)
 (.cond (tm 39) (.seq (.region none [] [
 mv 40 8, mv 4 40] [4] none)
 (.ret))
 (.skip))))
 (.seq (.region none [] [
 op 41 (.faddr 4 (tm 2)), op 42 (.load none (tm 41)), op 43 (.faddr 4 (tm 3)), op 44 (.load none (tm 43)), op 45 (.call .pure 130 [(tm 42), (tm 44)]), mv 4 45] [4] none)
 (.ret))))))

def a99 : AFunc := ⟨2, c99, [.tmp 4]⟩

def an99 : List RAnn := [
 { id := 0, live := [2, 3] },
 { id := 1, live := [2, 3, 5] },
 { id := 2, live := [2, 3, 5, 15] },
 { id := 3, live := [4] },
 { id := 4, live := [2, 3, 6] },
 { id := 5, live := [2, 3, 6, 23] },
 { id := 6, live := [4] },
 { id := 7, live := [2, 3, 7] },
 { id := 8, live := [2, 3, 7, 31] },
 { id := 9, live := [4] },
 { id := 10, live := [2, 3, 8] },
 { id := 11, live := [2, 3, 8, 39] },
 { id := 12, live := [4] },
 { id := 13, live := [4] }]

theorem comp99 : compF Tryz.prog an99 Tryz.f99 = some a99 := by kernel_rfl

/- graphdb/graphdbref04.ints -/
def c100 : ACode :=
 .seq (.region none [] [
 op 4 (.mov (ci (0)))] [0, 1] none)
 (.seq (.seq (.region none [] [
 mv 5 0, mv 6 1, op 7 (.bin .lss .int (tm 5) (tm 6))] [0, 1, 7] none)
 (.cond (tm 7) (.seq (.region none [] [
 op 4 (.mov (ci ((-1))))] [4] none)
 (.ret))
 (.skip)))
 (.seq (.seq (.region none [] [
 mv 8 0, mv 9 1, op 10 (.bin .gtr .int (tm 8) (tm 9))] [10] none)
 (.cond (tm 10) (.seq (.region none [] [
 op 4 (.mov (ci (1)))] [4] none)
 (.ret))
 (.skip)))
 (.seq (.region none [] [
 op 4 (.mov (ci (0)))] [4] none)
 (.ret))))

def a100 : AFunc := ⟨2, c100, [.tmp 4]⟩

def an100 : List RAnn := [
 { id := 0, live := [0, 1] },
 { id := 1, live := [0, 1, 7] },
 { id := 2, live := [4] },
 { id := 3, live := [10] },
 { id := 4, live := [4] },
 { id := 5, live := [4] }]

theorem comp100 : compF Tryz.prog an100 Tryz.f100 = some a100 := by kernel_rfl

/- graphdb/graphdbref04.class -/
def c101 : ACode :=
 .seq (.region none [] [
 op 2 (.mov (ci (0)))] [0] none)
 (.seq (.seq (.region none [] [
 mv 3 0] [3] none)
 (.block 0 (.seq (.region none [] [
 op 5 (.bin .eql .int (tm 3) (ci (0))), mv 4 5] [3, 4] none)
 (.cond (tm 4) (.seq (.region none [] [
 op 2 (.mov (ci (0)))] [2] none)
 (.ret))
 (.seq (.region none [] [
 op 7 (.bin .eql .int (tm 3) (ci (1))), mv 6 7] [3, 6] none)
 (.cond (tm 6) (.seq (.region none [] [
 op 2 (.mov (ci (1)))] [2] none)
 (.ret))
 (.seq (.seq (.region none [] [
 op 9 (.bin .eql .int (tm 3) (ci (2))), mv 8 9] [3, 8] none)
 (.cond (tm 8) (.skip)
 (.region none [] [
 op 10 (.bin .eql .int (tm 3) (ci (3))), mv 8 10] [3, 8] none)))
 (.cond (tm 8) (.seq (.region none [] [
 op 2 (.mov (ci (2)))] [2] none)
 (.ret))
 (.seq (.region none [] [
 op 12 (.bin .eql .int (tm 3) (ci (4))), mv 11 12] [3, 11] none)
 (.cond (tm 11) (.seq (.region none [] [
 op 2 (.mov (ci (3)))] [2] none)
 (.ret))
 (.seq (.region none [] [
 op 14 (.bin .eql .int (tm 3) (ci (5))), mv 13 14] [3, 13] none)
 (.cond (tm 13) (.seq (.region none [] [
 op 2 (.mov (ci (4)))] [2] none)
 (.ret))
 (.seq (.region none [] [
 op 16 (.bin .eql .int (tm 3) (ci (6))), mv 15 16] [3, 15] none)
 (.cond (tm 15) (.seq (.region none [] [
 op 2 (.mov (ci (5)))] [2] none)
 (.ret))
 (.seq (.region none [] [
 op 18 (.bin .eql .int (tm 3) (ci (8))), mv 17 18] [17] none)
 (.cond (tm 17) (.seq (.region none [] [
 op 2 (.mov (ci (6)))] [2] none)
 (.ret))
 (.skip)))))))))))))))))
 (.seq (.region none [] [
 op 2 (.mov (ci (7)))] [2] none)
 (.ret)))

def a101 : AFunc := ⟨1, c101, [.tmp 2]⟩

def an101 : List RAnn := [
 { id := 0, live := [0] },
 { id := 1, live := [3] },
 { id := 2, live := [3, 4] },
 { id := 3, live := [2] },
 { id := 4, live := [3, 6] },
 { id := 5, live := [2] },
 { id := 6, live := [3, 8] },
 { id := 7, live := [3, 8] },
 { id := 8, live := [2] },
 { id := 9, live := [3, 11] },
 { id := 10, live := [2] },
 { id := 11, live := [3, 13] },
 { id := 12, live := [2] },
 { id := 13, live := [3, 15] },
 { id := 14, live := [2] },
 { id := 15, live := [17] },
 { id := 16, live := [2] },
 { id := 17, live := [2] }]

theorem comp101 : compF Tryz.prog an101 Tryz.f101 = some a101 := by kernel_rfl

/- graphdb/graphdbref04.Number -/
def c102 : ACode :=
 .seq (.region none [] [
 op 1 (.box 5 (tm 0)), op 2 (.alloc 2 (.agg [.int .i64 0, .int .i64 0])), op 3 (.mov (.cst (.bool false)))] [1, 2] none)
 (.seq (.seq (.region none [] [
 op 4 (.load (some 5) (tm 1)), op 5 (.call .pure 97 [(tm 4)]), op 6 (.un .not (tm 5))] [1, 2, 6] none)
 (.cond (tm 6) (.seq (.region none [] [
 op 7 (.build [.int .i64 0, .int .i64 0] []), ⟨none, .store 2 (tm 2) (tm 7), none⟩, op 3 (.mov (.cst (.bool false)))] [2, 3] none)
 (.ret))
 (.skip)))
 (.seq (.seq (.region none [] [
 op 8 (.faddr 0 (tm 1)), op 9 (.load none (tm 8)), op 10 (.bin .eql .int (tm 9) (ci (2)))] [1, 2, 10] none)
 (.cond (tm 10) (.seq (.region none [] [
 op 11 (.faddr 1 (tm 1)), op 12 (.load none (tm 11)), op 13 (.build [.int .i64 0, .int .i64 0] [(0, 1, (tm 12)), (1, 1, (ci (1)))]), ⟨none, .store 2 (tm 2) (tm 13), none⟩, op 3 (.mov (.cst (.bool true)))] [2, 3] none)
 (.ret))
 (.skip)))
 (.seq (.seq (.region none [] [
 op 14 (.faddr 0 (tm 1)), op 15 (.load none (tm 14)), op 16 (.bin .eql .int (tm 15) (ci (3)))] [1, 2, 16] none)
 (.cond (tm 16) (.seq (.region none [] [
 op 17 (.faddr 1 (tm 1)), op 18 (.load none (tm 17)), op 19 (.faddr 2 (tm 1)), op 20 (.load none (tm 19)), op 21 (.build [.int .i64 0, .int .i64 0] [(0, 1, (tm 18)), (1, 1, (tm 20))]), ⟨none, .store 2 (tm 2) (tm 21), none⟩, op 3 (.mov (.cst (.bool true)))] [2, 3] none)
 (.ret))
 (.skip)))
 (.seq (.region none [] [
 op 22 (.build [.int .i64 0, .int .i64 0] []), ⟨none, .store 2 (tm 2) (tm 22), none⟩, op 3 (.mov (.cst (.bool false)))] [2, 3] none)
 (.ret)))))

def a102 : AFunc := ⟨1, c102, [.cell 2 (some 2), .tmp 3]⟩

def an102 : List RAnn := [
 { id := 0, live := [1, 2] },
 { id := 1, live := [1, 2, 6] },
 { id := 2, live := [2, 3] },
 { id := 3, live := [1, 2, 10] },
 { id := 4, live := [2, 3] },
 { id := 5, live := [1, 2, 16] },
 { id := 6, live := [2, 3] },
 { id := 7, live := [2, 3] }]

theorem comp102 : compF Tryz.prog an102 Tryz.f102 = some a102 := by kernel_rfl

/- graphdb/graphdbref03.Cmp -/
def c103 : ACode :=
 .seq (.region none [] [
 op 2 (.box 2 (tm 0)), op 3 (.box 2 (tm 1)), op 4 (.mov (ci (0)))] [2, 3] none)
 (.seq (.seq (.region none [] [
 op 7 (.load (some 2) (tm 2)), op 8 (.call .pure 131 [(tm 7)]), op 9 (.un .not (tm 8))] [2, 3, 9] none)
 (.cond (tm 9) (.region none [] [
 op 10 (.build [.int .i64 0, .int .i64 0] [(1, 1, (ci (1)))]), ⟨none, .store 2 (tm 2) (tm 10), none⟩] [2, 3] none)
 (.skip)))
 (.seq (.seq (.region none [] [
 op 11 (.load (some 2) (tm 3)), op 12 (.call .pure 131 [(tm 11)]), op 13 (.un .not (tm 12))] [2, 3, 13] none)
 (.cond (tm 13) (.region none [] [
 op 14 (.build [.int .i64 0, .int .i64 0] [(1, 1, (ci (1)))]), ⟨none, .store 2 (tm 3) (tm 14), none⟩] [2, 3] none)
 (.skip)))
 (.seq (.region (some 25) [] [
 op 16 (.faddr 0 (tm 2)), op 17 (.load none (tm 16)), op 18 (.call .pure 133 [(tm 17)]), op 19 (.faddr 0 (tm 2)), op 20 (.load none (tm 19)), op 21 (.call .pure 135 [(tm 20)]), op 22 (.faddr 1 (tm 3)), op 23 (.load none (tm 22)), op 24 (.call .pure 134 [(tm 21), (tm 23)]), op 25 (.faddr 0 (tm 3)), op 26 (.load none (tm 25)), op 27 (.call .pure 133 [(tm 26)]), op 28 (.un .neg (tm 27)), op 29 (.faddr 0 (tm 3)), op 30 (.load none (tm 29)), op 31 (.call .pure 135 [(tm 30)]), op 32 (.faddr 1 (tm 2)), op 33 (.load none (tm 32)), op 34 (.call .pure 134 [(tm 31), (tm 33)]), op 35 (.call .pure 132 [(tm 18), (tm 24), (tm 28), (tm 34)]), mv 15 35, op 36 (.ext (tm 15) 0), op 37 (.ext (tm 15) 1), mv 5 36, mv 6 37] [5] none)
 (.seq (.region none [] [
 mv 38 5, mv 4 38] [4] none)
 (.ret)))))

def a103 : AFunc := ⟨2, c103, [.tmp 4]⟩

def an103 : List RAnn := [
 { id := 0, live := [2, 3] },
 { id := 1, live := [2, 3, 9] },
 { id := 2, live := [2, 3] },
 { id := 3, live := [2, 3, 13] },
 { id := 4, live := [2, 3] },
 { id := 5, head := some 25, live := [5] },
 { id := 6, live := [4] }]

theorem comp103 : compF Tryz.prog an103 Tryz.f103 = some a103 := by kernel_rfl

/- graphdb/graphdbref07.keys -/
/-- loop 0 of function 106 -/
def l106_0_h : List Nat := [0, 3, 4]

def l106_0_b : ACode :=
 .seq (.seq (.region none [] [
 mv 5 4, mv 6 0, op 7 (.len .slice (tm 6)), op 8 (.bin .lss .int (tm 5) (tm 7))] [0, 3, 4, 8] none)
 (.cond (tm 8) (.skip)
 (.exit 0)))
 (.seq (.block 1 (.region none [] [
 mv 11 3, mv 12 0, mv 13 4, op 14 (.iaddr 6 (tm 12) (tm 13)), op 15 (.faddr 0 (tm 14)), op 16 (.load none (tm 15)), op 17 (.lit false 1 (.str []) 1 [(0, (tm 16))]), op 18 (.append 1 16 (tm 11) (tm 17)), mv 3 18] [0, 3, 4] none))
 (.region none [] [
 mv 9 4, op 10 (.bin .add .int (tm 9) (ci (1))), mv 4 10] [0, 3, 4] none))

def c106 : ACode :=
 .seq (.region none [] [
 op 2 (.mov (.cst (.sl false [])))] [0] none)
 (.seq (.region none [] [
 op 3 (.newown 1)] [0, 3] none)
 (.seq (.seq (.region none [] [
 op 4 (.mov (ci (0)))] [0, 3, 4] none)
 (.block 0 (.loop l106_0_h l106_0_b)))
 (.seq (.region none [] [
 mv 19 3, mv 2 19] [2] none)
 (.ret))))

def a106 : AFunc := ⟨1, c106, [.tmp 2]⟩

def an106 : List RAnn := [
 { id := 0, live := [0] },
 { id := 1, live := [0, 3], ops := [(0, .own)] },
 { id := 2, live := [0, 3, 4] },
 { id := 3, live := [0, 3, 4, 8], hdr := [0, 3, 4] },
 { id := 5, live := [0, 3, 4] },
 { id := 4, live := [0, 3, 4] },
 { id := 6, live := [2] }]

theorem comp106 : compF Tryz.prog an106 Tryz.f106 = some a106 := by kernel_rfl

/- graphdb/graphdbref07.Names -/
/-- loop 0 of function 107 -/
def l107_0_h : List Nat := [0, 3]

def l107_0_b : ACode :=
 .seq (.seq (.region none [] [
 mv 4 3, mv 5 0, op 6 (.len .slice (tm 5)), op 7 (.bin .lss .int (tm 4) (tm 6))] [0, 3, 7] none)
 (.cond (tm 7) (.skip)
 (.exit 0)))
 (.seq (.block 1 (.seq (.region none [] [
 mv 10 0, mv 11 3, op 12 (.iaddr 1 (tm 10) (tm 11)), op 13 (.load none (tm 12)), op 14 (.call .pure 60 [(tm 13)]), op 15 (.un .not (tm 14))] [0, 3, 15] none)
 (.cond (tm 15) (.seq (.region none [] [
 op 2 (.mov (.cst (.bool false)))] [2] none)
 (.ret))
 (.skip))))
 (.region none [] [
 mv 8 3, op 9 (.bin .add .int (tm 8) (ci (1))), mv 3 9] [0, 3] none))

def c107 : ACode :=
 .seq (.region none [] [
 op 2 (.mov (.cst (.bool false)))] [0] none)
 (.seq (.seq (.region none [] [
 op 3 (.mov (ci (0)))] [0, 3] none)
 (.block 0 (.loop l107_0_h l107_0_b)))
 (.seq (.region none [] [
 op 2 (.mov (.cst (.bool true)))] [2] none)
 (.ret)))

def a107 : AFunc := ⟨1, c107, [.tmp 2]⟩

def an107 : List RAnn := [
 { id := 0, live := [0] },
 { id := 1, live := [0, 3] },
 { id := 2, live := [0, 3, 7], hdr := [0, 3] },
 { id := 4, live := [0, 3, 15] },
 { id := 5, live := [2] },
 { id := 3, live := [0, 3] },
 { id := 6, live := [2] }]

theorem comp107 : compF Tryz.prog an107 Tryz.f107 = some a107 := by kernel_rfl

/- graphdb/graphdbref07.Rises -/
/-- loop 0 of function 108 -/
def l108_0_h : List Nat := [0, 3]

def l108_0_b : ACode :=
 .seq (.seq (.region none [] [
 mv 4 3, mv 5 0, op 6 (.len .slice (tm 5)), op 7 (.bin .lss .int (tm 4) (tm 6))] [0, 3, 7] none)
 (.cond (tm 7) (.skip)
 (.exit 0)))
 (.seq (.block 1 (.seq (.region (some 10) [] [
 mv 10 0, mv 11 3, op 12 (.iaddr 1 (tm 10) (tm 11)), op 13 (.load none (tm 12)), mv 14 0, mv 15 3, op 16 (.bin .sub .int (tm 15) (ci (1))), op 17 (.iaddr 1 (tm 14) (tm 16)), op 18 (.load none (tm 17)), op 19 (.bin .leq .str (tm 13) (tm 18))] [0, 3, 19] none)
 (.cond (tm 19) (.seq (.region none [] [
 op 2 (.mov (.cst (.bool false)))] [2] none)
 (.ret))
 (.skip))))
 (.region none [] [
 mv 8 3, op 9 (.bin .add .int (tm 8) (ci (1))), mv 3 9] [0, 3] none))

def c108 : ACode :=
 .seq (.region none [] [
 op 2 (.mov (.cst (.bool false)))] [0] none)
 (.seq (.seq (.region none [] [
 op 3 (.mov (ci (1)))] [0, 3] none)
 (.block 0 (.loop l108_0_h l108_0_b)))
 (.seq (.region none [] [
 op 2 (.mov (.cst (.bool true)))] [2] none)
 (.ret)))

def a108 : AFunc := ⟨1, c108, [.tmp 2]⟩

def an108 : List RAnn := [
 { id := 0, live := [0] },
 { id := 1, live := [0, 3] },
 { id := 2, live := [0, 3, 7], hdr := [0, 3] },
 { id := 4, head := some 10, live := [0, 3, 19] },
 { id := 5, live := [2] },
 { id := 3, live := [0, 3] },
 { id := 6, live := [2] }]

theorem comp108 : compF Tryz.prog an108 Tryz.f108 = some a108 := by kernel_rfl

/- graphdb/graphdbref07.letter -/
def c109 : ACode :=
 .seq (.region none [] [
 op 2 (.mov (.cst (.bool false)))] [0] none)
 (.seq (.region none [] [
 mv 3 0, op 4 (.bin .geq .int (tm 3) (.cst (.int .u8 97))), mv 5 4, mg 6 0 5 true, ⟨some 7, .bin .leq .int (tm 6) (.cst (.int .u8 122)), some (5, true)⟩, op 8 (.pick (tm 5) (tm 7) (.cst (.bool false))), mv 9 8, mg 10 0 9 false, ⟨some 11, .bin .geq .int (tm 10) (.cst (.int .u8 65)), some (9, false)⟩, mg 12 11 9 false, mg 13 0 12 true, ⟨some 14, .bin .leq .int (tm 13) (.cst (.int .u8 90)), some (12, true)⟩, ⟨some 15, .pick (tm 12) (tm 14) (.cst (.bool false)), some (9, false)⟩, op 16 (.pick (tm 9) (.cst (.bool true)) (tm 15)), mv 2 16] [2] none)
 (.ret))

def a109 : AFunc := ⟨1, c109, [.tmp 2]⟩

def an109 : List RAnn := [
 { id := 0, live := [0] },
 { id := 1, live := [2] }]

theorem comp109 : compF Tryz.prog an109 Tryz.f109 = some a109 := by kernel_rfl

/- graphdb/graphdbref07.HasStr -/
/-- loop 0 of function 110 -/
def l110_0_h : List Nat := [0, 1, 5]

def l110_0_b : ACode :=
 .seq (.seq (.region none [] [
 mv 6 5, mv 7 0, op 8 (.len .slice (tm 7)), op 9 (.bin .lss .int (tm 6) (tm 8))] [0, 1, 5, 9] none)
 (.cond (tm 9) (.skip)
 (.exit 0)))
 (.seq (.block 1 (.seq (.region none [] [
 mv 12 0, mv 13 5, op 14 (.iaddr 1 (tm 12) (tm 13)), op 15 (.load none (tm 14)), mv 16 1, op 17 (.bin .eql .str (tm 15) (tm 16))] [0, 1, 5, 17] none)
 (.cond (tm 17) (.seq (.region none [] [
 op 4 (.mov (.cst (.bool true)))] [4] none)
 (.ret))
 (.skip))))
 (.region none [] [
 mv 10 5, op 11 (.bin .add .int (tm 10) (ci (1))), mv 5 11] [0, 1, 5] none))

def c110 : ACode :=
 .seq (.region none [] [
 op 4 (.mov (.cst (.bool false)))] [0, 1] none)
 (.seq (.seq (.region none [] [
 op 5 (.mov (ci (0)))] [0, 1, 5] none)
 (.block 0 (.loop l110_0_h l110_0_b)))
 (.seq (.region none [] [
 op 4 (.mov (.cst (.bool false)))] [4] none)
 (.ret)))

def a110 : AFunc := ⟨2, c110, [.tmp 4]⟩

def an110 : List RAnn := [
 { id := 0, live := [0, 1] },
 { id := 1, live := [0, 1, 5] },
 { id := 2, live := [0, 1, 5, 9], hdr := [0, 1, 5] },
 { id := 4, live := [0, 1, 5, 17] },
 { id := 5, live := [4] },
 { id := 3, live := [0, 1, 5] },
 { id := 6, live := [4] }]

theorem comp110 : compF Tryz.prog an110 Tryz.f110 = some a110 := by kernel_rfl

/- graphdb/graphdbref07.Steps -/
/-- loop 0 of function 111 -/
def l111_0_h : List Nat := [1, 2, 3, 4, 9, 10, 11, 13]

def l111_0_b : ACode :=
 .seq (.seq (.region (some 35) [] [
 mv 50 13, op 51 (.bin .gtr .int (tm 50) (ci (0))), mv 52 51, ⟨some 53, .faddr 1 (tm 11), some (52, true)⟩, ⟨some 54, .load none (tm 53), some (52, true)⟩, mg 55 9 52 true, mg 56 13 52 true, ⟨some 57, .bin .sub .int (tm 56) (ci (1)), some (52, true)⟩, ⟨some 58, .iaddr 3 (tm 55) (tm 57), some (52, true)⟩, ⟨some 59, .faddr 1 (tm 58), some (52, true)⟩, ⟨some 60, .load none (tm 59), some (52, true)⟩, ⟨some 61, .bin .lss .int (tm 54) (tm 60), some (52, true)⟩, mg 62 61 52 true, ⟨some 63, .faddr 1 (tm 11), some (62, false)⟩, ⟨some 64, .load none (tm 63), some (62, false)⟩, mg 65 9 62 false, mg 66 13 62 false, ⟨some 67, .bin .sub .int (tm 66) (ci (1)), some (62, false)⟩, ⟨some 68, .iaddr 3 (tm 65) (tm 67), some (62, false)⟩, ⟨some 69, .faddr 1 (tm 68), some (62, false)⟩, ⟨some 70, .load none (tm 69), some (62, false)⟩, ⟨some 71, .bin .eql .int (tm 64) (tm 70), some (62, false)⟩, mg 72 71 62 false, ⟨some 73, .faddr 2 (tm 11), some (72, true)⟩, ⟨some 74, .load none (tm 73), some (72, true)⟩, mg 75 9 72 true, mg 76 13 72 true, ⟨some 77, .bin .sub .int (tm 76) (ci (1)), some (72, true)⟩, ⟨some 78, .iaddr 3 (tm 75) (tm 77), some (72, true)⟩, ⟨some 79, .faddr 2 (tm 78), some (72, true)⟩, ⟨some 80, .load none (tm 79), some (72, true)⟩, ⟨some 81, .bin .lss .int (tm 74) (tm 80), some (72, true)⟩, ⟨some 82, .pick (tm 72) (tm 81) (.cst (.bool false)), some (62, false)⟩, ⟨some 83, .pick (tm 62) (.cst (.bool true)) (tm 82), some (52, true)⟩, op 84 (.pick (tm 52) (tm 83) (.cst (.bool false)))] [1, 2, 3, 4, 9, 10, 11, 13, 84] none)
 (.cond (tm 84) (.skip)
 (.exit 2)))
 (.block 3 (.seq (.region none [] [
 mv 85 9, mv 86 13, mv 87 9, mv 88 13, op 89 (.bin .sub .int (tm 88) (ci (1))), op 90 (.iaddr 3 (tm 87) (tm 89)), op 91 (.load (some 3) (tm 90)), op 92 (.iaddr 3 (tm 85) (tm 86)), ⟨none, .store 3 (tm 92) (tm 91), none⟩] [1, 2, 3, 4, 9, 10, 11, 13] none)
 (.region none [] [
 mv 93 13, op 94 (.bin .sub .int (tm 93) (ci (1))), mv 13 94] [1, 2, 3, 4, 9, 10, 11, 13] none)))

/-- loop 1 of function 111 -/
def l111_1_h : List Nat := [1, 2, 3, 4, 9, 10]

def l111_1_b : ACode :=
 .seq (.seq (.region none [] [
 mv 14 10, op 15 (.faddr 1 (tm 4)), op 16 (.load none (tm 15)), op 17 (.len .slice (tm 16)), op 18 (.bin .lss .int (tm 14) (tm 17))] [1, 2, 3, 4, 9, 10, 18] none)
 (.cond (tm 18) (.skip)
 (.exit 0)))
 (.seq (.block 1 (.seq (.region none [] [
 op 22 (.faddr 1 (tm 4)), op 23 (.load none (tm 22)), mv 24 10, op 25 (.iaddr 5 (tm 23) (tm 24)), op 26 (.load (some 5) (tm 25)), mv 27 1, mv 28 3, op 29 (.call .pure 136 [(tm 26), (tm 27), (tm 28)]), mv 21 29, op 30 (.ext (tm 21) 0), op 31 (.ext (tm 21) 1), op 11 (.alloc 3 (.agg [.int .i64 0, .int .i64 0, .int .i64 0])), ⟨none, .store 3 (tm 11) (tm 30), none⟩, mv 12 31] [1, 2, 3, 4, 9, 10, 11, 12] none)
 (.seq (.seq (.region none [] [
 mv 32 12, op 33 (.un .not (tm 32)), mv 34 33, ⟨some 35, .faddr 1 (tm 4), some (34, false)⟩, ⟨some 36, .load none (tm 35), some (34, false)⟩, mg 37 10 34 false, ⟨some 38, .iaddr 5 (tm 36) (tm 37), some (34, false)⟩, ⟨some 39, .load (some 5) (tm 38), some (34, false)⟩, mg 40 2 34 false, ⟨some 41, .call .pure 137 [(tm 39), (tm 40)], some (34, false)⟩, ⟨some 42, .un .not (tm 41), some (34, false)⟩, op 43 (.pick (tm 34) (.cst (.bool true)) (tm 42))] [1, 2, 3, 4, 9, 10, 11, 43] none)
 (.cond (tm 43) (.exit 1)
 (.skip)))
 (.seq (.region none [] [
 mv 44 9, op 45 (.len .slice (tm 44)), mv 13 45] [1, 2, 3, 4, 9, 10, 11, 13] none)
 (.seq (.region none [] [
 mv 46 9, op 47 (.load (some 3) (tm 11)), op 48 (.lit false 3 (.agg [.int .i64 0, .int .i64 0, .int .i64 0]) 1 [(0, (tm 47))]), op 49 (.append 3 24 (tm 46) (tm 48)), mv 9 49] [1, 2, 3, 4, 9, 10, 11, 13] none)
 (.seq (.block 2 (.loop l111_0_h l111_0_b))
 (.region none [] [
 mv 95 9, mv 96 13, op 97 (.load (some 3) (tm 11)), op 98 (.iaddr 3 (tm 95) (tm 96)), ⟨none, .store 3 (tm 98) (tm 97), none⟩] [1, 2, 3, 4, 9, 10] none)))))))
 (.region none [] [
 mv 19 10, op 20 (.bin .add .int (tm 19) (ci (1))), mv 10 20] [1, 2, 3, 4, 9, 10] (some 2)))

def c111 : ACode :=
 .seq (.region none [] [
 op 4 (.box 4 (tm 0)), op 8 (.mov (.cst (.sl false [])))] [1, 2, 3, 4] none)
 (.seq (.region none [] [
 op 9 (.newown 3)] [1, 2, 3, 4, 9] none)
 (.seq (.seq (.region none [] [
 op 10 (.mov (ci (0)))] [1, 2, 3, 4, 9, 10] none)
 (.block 0 (.loop l111_1_h l111_1_b)))
 (.seq (.region none [] [
 mv 99 9, mv 8 99] [8] none)
 (.ret))))

def a111 : AFunc := ⟨4, c111, [.tmp 8]⟩

def an111 : List RAnn := [
 { id := 0, live := [1, 2, 3, 4] },
 { id := 1, live := [1, 2, 3, 4, 9], ops := [(0, .own)] },
 { id := 2, live := [1, 2, 3, 4, 9, 10] },
 { id := 3, live := [1, 2, 3, 4, 9, 10, 18], hdr := [1, 2, 3, 4, 9, 10] },
 { id := 5, live := [1, 2, 3, 4, 9, 10, 11, 12] },
 { id := 6, live := [1, 2, 3, 4, 9, 10, 11, 43] },
 { id := 7, live := [1, 2, 3, 4, 9, 10, 11, 13] },
 { id := 8, live := [1, 2, 3, 4, 9, 10, 11, 13] },
 { id := 9, head := some 35, live := [1, 2, 3, 4, 9, 10, 11, 13, 84], hdr := [1, 2, 3, 4, 9, 10, 11, 13] },
 { id := 10, live := [1, 2, 3, 4, 9, 10, 11, 13] },
 { id := 11, live := [1, 2, 3, 4, 9, 10, 11, 13] },
 { id := 12, live := [1, 2, 3, 4, 9, 10] },
 { id := 4, live := [1, 2, 3, 4, 9, 10], trunc := some 2 },
 { id := 13, live := [8] }]

theorem comp111 : compF Tryz.prog an111 Tryz.f111 = some a111 := by kernel_rfl

/- slices.siftDownOrdered[int] -/
/-- loop 0 of function 112 -/
def l112_0_h : List Nat := [0, 2, 3, 8]

def l112_0_b : ACode :=
 .block 1 (.seq (.region none [] [
 mv 11 8, op 12 (.bin .mul .int (ci (2)) (tm 11)), op 13 (.bin .add .int (tm 12) (ci (1))), mv 9 13] [0, 2, 3, 8, 9] none)
 (.seq (.seq (.region none [] [
 mv 14 9, mv 15 2, op 16 (.bin .geq .int (tm 14) (tm 15))] [0, 2, 3, 8, 9, 16] none)
 (.cond (tm 16) (.exit 0)
 (.skip)))
 (.seq (.seq (.region (some 20) [] [
 mv 17 9, op 18 (.bin .add .int (tm 17) (ci (1))), mv 19 2, op 20 (.bin .lss .int (tm 18) (tm 19)), mv 21 20, mg 22 0 21 true, mg 23 3 21 true, mg 24 9 21 true, ⟨some 25, .bin .add .int (tm 23) (tm 24), some (21, true)⟩, ⟨some 26, .iaddr 1 (tm 22) (tm 25), some (21, true)⟩, ⟨some 27, .load none (tm 26), some (21, true)⟩, mg 28 0 21 true, mg 29 3 21 true, mg 30 9 21 true, ⟨some 31, .bin .add .int (tm 29) (tm 30), some (21, true)⟩, ⟨some 32, .bin .add .int (tm 31) (ci (1)), some (21, true)⟩, ⟨some 33, .iaddr 1 (tm 28) (tm 32), some (21, true)⟩, ⟨some 34, .load none (tm 33), some (21, true)⟩, ⟨some 35, .call .pure 77 [(tm 27), (tm 34)], some (21, true)⟩, op 36 (.pick (tm 21) (tm 35) (.cst (.bool false)))] [0, 2, 3, 8, 9, 36] none)
 (.cond (tm 36) (.region none [] [
 mv 37 9, op 38 (.bin .add .int (tm 37) (ci (1))), mv 9 38] [0, 2, 3, 8, 9] none)
 (.skip)))
 (.seq (.seq (.region (some 14) [] [
 mv 39 0, mv 40 3, mv 41 8, op 42 (.bin .add .int (tm 40) (tm 41)), op 43 (.iaddr 1 (tm 39) (tm 42)), op 44 (.load none (tm 43)), mv 45 0, mv 46 3, mv 47 9, op 48 (.bin .add .int (tm 46) (tm 47)), op 49 (.iaddr 1 (tm 45) (tm 48)), op 50 (.load none (tm 49)), op 51 (.call .pure 77 [(tm 44), (tm 50)]), op 52 (.un .not (tm 51))] [0, 2, 3, 8, 9, 52] none)
 (.cond (tm 52) (.ret)
 (.skip)))
 (.seq (.par 24 [] [] [
 mv 53 0, mv 54 3, mv 55 8, op 56 (.bin .add .int (tm 54) (tm 55)), mv 57 0, mv 58 3, mv 59 9, op 60 (.bin .add .int (tm 58) (tm 59)), mv 61 0, mv 62 3, mv 63 9, op 64 (.bin .add .int (tm 62) (tm 63)), op 65 (.iaddr 1 (tm 61) (tm 64)), op 66 (.load none (tm 65)), mv 67 0, mv 68 3, mv 69 8, op 70 (.bin .add .int (tm 68) (tm 69)), op 71 (.iaddr 1 (tm 67) (tm 70)), op 72 (.load none (tm 71)), op 73 (.iaddr 1 (tm 53) (tm 56)), ⟨none, .store 1 (tm 73) (tm 66), none⟩, op 74 (.iaddr 1 (tm 57) (tm 60)), ⟨none, .store 1 (tm 74) (tm 72), none⟩] [0, 2, 3, 9] none)
 (.region none [] [
 mv 75 9, mv 8 75] [0, 2, 3, 8] none))))))

def c112 : ACode :=
 .seq (.region none [] [
 mv 10 1, mv 8 10] [0, 2, 3, 8] none)
 (.block 0 (.loop l112_0_h l112_0_b))

def a112 : AFunc := ⟨4, c112, []⟩

def an112 : List RAnn := [
 { id := 0, live := [0, 2, 3, 8] },
 { id := 1, live := [0, 2, 3, 8, 9], hdr := [0, 2, 3, 8] },
 { id := 2, live := [0, 2, 3, 8, 9, 16] },
 { id := 3, head := some 20, live := [0, 2, 3, 8, 9, 36] },
 { id := 4, live := [0, 2, 3, 8, 9] },
 { id := 5, head := some 14, live := [0, 2, 3, 8, 9, 52] },
 { id := 6, head := some 24, live := [0, 2, 3, 9], par := true },
 { id := 7, live := [0, 2, 3, 8] }]

theorem comp112 : compF Tryz.prog an112 Tryz.f112 = some a112 := by kernel_rfl

/- slices.nextPowerOfTwo -/
def c113 : ACode :=
 .seq (.region none [] [
 op 2 (.mov (.cst (.int .u64 0)))] [0] none)
 (.seq (.region none [] [
 mv 3 0, op 4 (.conv .u64 (tm 3)), op 5 (.call .pure 40 [(tm 4)]), op 6 (.bin .shl .int (.cst (.int .u64 1)) (tm 5)), mv 2 6] [2] none)
 (.ret))

def a113 : AFunc := ⟨1, c113, [.tmp 2]⟩

def an113 : List RAnn := [
 { id := 0, live := [0] },
 { id := 1, live := [2] }]

theorem comp113 : compF Tryz.prog an113 Tryz.f113 = some a113 := by kernel_rfl

/- (*slices.xorshift).Next -/
def c114 : ACode :=
 .seq (.region none [] [
 op 2 (.mov (.cst (.int .u64 0)))] [0] none)
 (.seq (.region (some 9) [] [
 mv 3 0, op 4 (.nilchk (tm 3)), op 5 (.load none (tm 4)), mv 6 0, op 7 (.nilchk (tm 6)), op 8 (.load none (tm 7)), op 9 (.bin .shl .int (tm 8) (.cst (.int .u64 13))), op 10 (.bin .xor .int (tm 5) (tm 9)), op 11 (.nilchk (tm 3)), ⟨none, .store 1 (tm 11) (tm 10), none⟩] [0] none)
 (.seq (.region (some 9) [] [
 mv 12 0, op 13 (.nilchk (tm 12)), op 14 (.load none (tm 13)), mv 15 0, op 16 (.nilchk (tm 15)), op 17 (.load none (tm 16)), op 18 (.bin .shr .int (tm 17) (.cst (.int .u64 7))), op 19 (.bin .xor .int (tm 14) (tm 18)), op 20 (.nilchk (tm 12)), ⟨none, .store 1 (tm 20) (tm 19), none⟩] [0] none)
 (.seq (.region (some 9) [] [
 mv 21 0, op 22 (.nilchk (tm 21)), op 23 (.load none (tm 22)), mv 24 0, op 25 (.nilchk (tm 24)), op 26 (.load none (tm 25)), op 27 (.bin .shl .int (tm 26) (.cst (.int .u64 17))), op 28 (.bin .xor .int (tm 23) (tm 27)), op 29 (.nilchk (tm 21)), ⟨none, .store 1 (tm 29) (tm 28), none⟩] [0] none)
 (.seq (.region none [] [
 mv 30 0, op 31 (.nilchk (tm 30)), op 32 (.load none (tm 31)), mv 2 32] [2] none)
 (.ret)))))

def a114 : AFunc := ⟨1, c114, [.tmp 2]⟩

def an114 : List RAnn := [
 { id := 0, live := [0] },
 { id := 1, head := some 9, live := [0] },
 { id := 2, head := some 9, live := [0] },
 { id := 3, head := some 9, live := [0] },
 { id := 4, live := [2] }]

theorem comp114 : compF Tryz.prog an114 Tryz.f114 = some a114 := by kernel_rfl

/- slices.medianAdjacentOrdered[int] -/
def c115 : ACode :=
 .seq (.region none [] [
 op 6 (.mov (ci (0)))] [0, 1, 2] none)
 (.seq (.region none [] [
 mv 7 0, mv 8 1, op 9 (.bin .sub .int (tm 8) (ci (1))), mv 10 1, mv 11 1, op 12 (.bin .add .int (tm 11) (ci (1))), mv 13 2, op 14 (.call .share 116 [(tm 7), (tm 9), (tm 10), (tm 12), (tm 13)]), mv 6 14] [6] none)
 (.ret))

def a115 : AFunc := ⟨3, c115, [.tmp 6]⟩

def an115 : List RAnn := [
 { id := 0, live := [0, 1, 2] },
 { id := 1, live := [6], ops := [(7, .mode .share)] }]

theorem comp115 : compF Tryz.prog an115 Tryz.f115 = some a115 := by kernel_rfl

/- slices.medianOrdered[int] -/
def c116 : ACode :=
 .seq (.region none [] [
 op 10 (.mov (ci (0)))] [0, 1, 2, 3, 4] none)
 (.seq (.region none [] [
 mv 12 0, mv 13 1, mv 14 2, mv 15 4, op 16 (.call .share 138 [(tm 12), (tm 13), (tm 14), (tm 15)]), mv 11 16, op 17 (.ext (tm 11) 0), op 18 (.ext (tm 11) 1), mv 1 17, mv 2 18] [0, 1, 2, 3, 4] none)
 (.seq (.region none [] [
 mv 20 0, mv 21 2, mv 22 3, mv 23 4, op 24 (.call .share 138 [(tm 20), (tm 21), (tm 22), (tm 23)]), mv 19 24, op 25 (.ext (tm 19) 0), op 26 (.ext (tm 19) 1), mv 2 25, mv 3 26] [0, 1, 2, 4] none)
 (.seq (.region none [] [
 mv 28 0, mv 29 1, mv 30 2, mv 31 4, op 32 (.call .share 138 [(tm 28), (tm 29), (tm 30), (tm 31)]), mv 27 32, op 33 (.ext (tm 27) 0), op 34 (.ext (tm 27) 1), mv 1 33, mv 2 34] [2] none)
 (.seq (.region none [] [
 mv 35 2, mv 10 35] [10] none)
 (.ret)))))

def a116 : AFunc := ⟨5, c116, [.tmp 10]⟩

def an116 : List RAnn := [
 { id := 0, live := [0, 1, 2, 3, 4] },
 { id := 1, live := [0, 1, 2, 3, 4], ops := [(4, .mode .share)] },
 { id := 2, live := [0, 1, 2, 4], ops := [(4, .mode .share)] },
 { id := 3, live := [2], ops := [(4, .mode .share)] },
 { id := 4, live := [10] }]

theorem comp116 : compF Tryz.prog an116 Tryz.f116 = some a116 := by kernel_rfl

/- cmp.isNaN[int] -/
def c117 : ACode :=
 .seq (.region none [] [
 op 2 (.mov (.cst (.bool false)))] [0] none)
 (.seq (.region none [] [
 mv 3 0, mv 4 0, op 5 (.bin .neq .int (tm 3) (tm 4)), mv 2 5] [2] none)
 (.ret))

def a117 : AFunc := ⟨1, c117, [.tmp 2]⟩

def an117 : List RAnn := [
 { id := 0, live := [0] },
 { id := 1, live := [2] }]

theorem comp117 : compF Tryz.prog an117 Tryz.f117 = some a117 := by kernel_rfl

/- slices.IndexFunc[[]string,string] -/
/-- loop 0 of function 118 -/
def l118_0_h : List Nat := [0, 1, 7, 8]

def l118_0_b : ACode :=
 .seq (.region none [] [
 op 9 (.bin .lss .int (tm 8) (tm 7))] [0, 1, 7, 8, 9] none)
 (.seq (.cond (tm 9) (.skip)
 (.exit 0))
 (.seq (.block 1 (.seq (.region none [] [
 mv 10 8, mv 5 10] [0, 1, 5, 7, 8] none)
 (.seq (.region none [] [
 mv 11 1, mv 12 0, mv 13 5, op 14 (.iaddr 1 (tm 12) (tm 13)), op 15 (.load none (tm 14)), op 16 (.callv .pure (tm 11) [(tm 15)])] [0, 1, 5, 7, 8, 16] none)
 (.cond (tm 16) (.seq (.region none [] [
 mv 17 5, mv 4 17] [4] none)
 (.ret))
 (.skip)))))
 (.region none [] [
 op 18 (.bin .add .int (tm 8) (ci (1))), mv 8 18] [0, 1, 7, 8] none)))

def c118 : ACode :=
 .seq (.region none [] [
 op 4 (.mov (ci (0)))] [0, 1] none)
 (.seq (.seq (.region none [] [
 mv 6 0, op 7 (.len .slice (tm 6)), op 8 (.mov (ci (0)))] [0, 1, 7, 8] none)
 (.block 0 (.loop l118_0_h l118_0_b)))
 (.seq (.region none [] [
 op 4 (.mov (ci ((-1))))] [4] none)
 (.ret)))

def a118 : AFunc := ⟨2, c118, [.tmp 4]⟩

def an118 : List RAnn := [
 { id := 0, live := [0, 1] },
 { id := 1, live := [0, 1, 7, 8] },
 { id := 2, live := [0, 1, 7, 8, 9], hdr := [0, 1, 7, 8] },
 { id := 3, live := [0, 1, 5, 7, 8] },
 { id := 4, live := [0, 1, 5, 7, 8, 16] },
 { id := 5, live := [4] },
 { id := 6, live := [0, 1, 7, 8] },
 { id := 7, live := [4] }]

theorem comp118 : compF Tryz.prog an118 Tryz.f118 = some a118 := by kernel_rfl

/- graphdb/value.Valid -/
def c119 : ACode :=
 .seq (.region none [] [
 op 1 (.box 5 (tm 0)), op 2 (.mov (.cst (.bool false)))] [1] none)
 (.seq (.region none [] [
 op 3 (.load (some 5) (tm 1)), op 4 (.call .pure 139 [(tm 3), (ci (0))]), mv 2 4] [2] none)
 (.ret))

def a119 : AFunc := ⟨1, c119, [.tmp 2]⟩

def an119 : List RAnn := [
 { id := 0, live := [1] },
 { id := 1, live := [2] }]

theorem comp119 : compF Tryz.prog an119 Tryz.f119 = some a119 := by kernel_rfl

/- slices.Clone[[]graphdb/api.Prop,graphdb/api.Prop] -/
def c120 : ACode :=
 .seq (.region none [] [
 op 2 (.mov (.cst (.sl false [])))] [0] none)
 (.seq (.seq (.region none [] [
 mv 3 0, op 4 (.bin .eql .slice (tm 3) (.cst (.sl false [])))] [0, 4] none)
 (.cond (tm 4) (.seq (.region none [] [
 op 2 (.mov (.cst (.sl false [])))] [2] none)
 (.ret))
 (.skip)))
 (.seq (.region none [] [
 op 5 (.lit true 6 (.agg [.str [], .int .i64 0, .int .i64 0, .int .i64 0, .str [], .sl false []]) 0 []), mv 6 0, op 7 (.append 6 80 (tm 5) (tm 6)), mv 2 7] [2] none)
 (.ret)))

def a120 : AFunc := ⟨1, c120, [.tmp 2]⟩

def an120 : List RAnn := [
 { id := 0, live := [0] },
 { id := 1, live := [0, 4] },
 { id := 2, live := [2] },
 { id := 3, live := [2], ops := [(0, .own)] }]

theorem comp120 : compF Tryz.prog an120 Tryz.f120 = some a120 := by kernel_rfl

/- graphdb/graph.cloneValue -/
/-- loop 0 of function 121 -/
def l121_0_h : List Nat := [1, 2, 10, 11]

def l121_0_b : ACode :=
 .seq (.region none [] [
 op 12 (.bin .lss .int (tm 11) (tm 10))] [1, 2, 10, 11, 12] none)
 (.seq (.cond (tm 12) (.skip)
 (.exit 0))
 (.seq (.block 1 (.seq (.region none [] [
 mv 13 11, mv 3 13] [1, 2, 3, 10, 11] none)
 (.region (some 10) [] [
 op 14 (.faddr 4 (tm 1)), op 15 (.load none (tm 14)), mv 16 3, op 17 (.faddr 4 (tm 1)), op 18 (.load none (tm 17)), mv 19 3, op 20 (.iaddr 5 (tm 18) (tm 19)), op 21 (.load (some 5) (tm 20)), op 22 (.call .pure 121 [(tm 21)]), op 23 (.iaddr 5 (tm 15) (tm 16)), ⟨none, .store 5 (tm 23) (tm 22), none⟩] [1, 2, 10, 11] none)))
 (.region none [] [
 op 24 (.bin .add .int (tm 11) (ci (1))), mv 11 24] [1, 2, 10, 11] none)))

def c121 : ACode :=
 .seq (.region none [] [
 op 1 (.box 5 (tm 0)), op 2 (.alloc 5 (.agg [.int .i64 0, .int .i64 0, .int .i64 0, .str [], .sl false []]))] [1, 2] none)
 (.seq (.region none [] [
 op 4 (.faddr 4 (tm 1)), op 5 (.load none (tm 4)), op 6 (.call .own 140 [(tm 5)]), op 7 (.faddr 4 (tm 1)), ⟨none, .store 1 (tm 7) (tm 6), none⟩] [1, 2] none)
 (.seq (.seq (.region none [] [
 op 8 (.faddr 4 (tm 1)), op 9 (.load none (tm 8)), op 10 (.len .slice (tm 9)), op 11 (.mov (ci (0)))] [1, 2, 10, 11] none)
 (.block 0 (.loop l121_0_h l121_0_b)))
 (.seq (.region none [] [
 op 25 (.load (some 5) (tm 1)), ⟨none, .store 5 (tm 2) (tm 25), none⟩] [2] none)
 (.ret))))

def a121 : AFunc := ⟨1, c121, [.cell 2 (some 5)]⟩

def an121 : List RAnn := [
 { id := 0, live := [1, 2] },
 { id := 1, live := [1, 2], ops := [(2, .mode .own)] },
 { id := 2, live := [1, 2, 10, 11] },
 { id := 3, live := [1, 2, 10, 11, 12], hdr := [1, 2, 10, 11] },
 { id := 4, live := [1, 2, 3, 10, 11] },
 { id := 5, head := some 10, live := [1, 2, 10, 11] },
 { id := 6, live := [1, 2, 10, 11] },
 { id := 7, live := [2] }]

theorem comp121 : compF Tryz.prog an121 Tryz.f121 = some a121 := by kernel_rfl

/- slices.Index[[]string,string] -/
/-- loop 0 of function 122 -/
def l122_0_h : List Nat := [0, 1, 7, 8]

def l122_0_b : ACode :=
 .seq (.region none [] [
 op 9 (.bin .lss .int (tm 8) (tm 7))] [0, 1, 7, 8, 9] none)
 (.seq (.cond (tm 9) (.skip)
 (.exit 0))
 (.seq (.block 1 (.seq (.region none [] [
 mv 10 8, mv 5 10] [0, 1, 5, 7, 8] none)
 (.seq (.region none [] [
 mv 11 1, mv 12 0, mv 13 5, op 14 (.iaddr 1 (tm 12) (tm 13)), op 15 (.load none (tm 14)), op 16 (.bin .eql .str (tm 11) (tm 15))] [0, 1, 5, 7, 8, 16] none)
 (.cond (tm 16) (.seq (.region none [] [
 mv 17 5, mv 4 17] [4] none)
 (.ret))
 (.skip)))))
 (.region none [] [
 op 18 (.bin .add .int (tm 8) (ci (1))), mv 8 18] [0, 1, 7, 8] none)))

def c122 : ACode :=
 .seq (.region none [] [
 op 4 (.mov (ci (0)))] [0, 1] none)
 (.seq (.seq (.region none [] [
 mv 6 0, op 7 (.len .slice (tm 6)), op 8 (.mov (ci (0)))] [0, 1, 7, 8] none)
 (.block 0 (.loop l122_0_h l122_0_b)))
 (.seq (.region none [] [
 op 4 (.mov (ci ((-1))))] [4] none)
 (.ret)))

def a122 : AFunc := ⟨2, c122, [.tmp 4]⟩

def an122 : List RAnn := [
 { id := 0, live := [0, 1] },
 { id := 1, live := [0, 1, 7, 8] },
 { id := 2, live := [0, 1, 7, 8, 9], hdr := [0, 1, 7, 8] },
 { id := 3, live := [0, 1, 5, 7, 8] },
 { id := 4, live := [0, 1, 5, 7, 8, 16] },
 { id := 5, live := [4] },
 { id := 6, live := [0, 1, 7, 8] },
 { id := 7, live := [4] }]

theorem comp122 : compF Tryz.prog an122 Tryz.f122 = some a122 := by kernel_rfl

/- cmp.Or[int] -/
/-- loop 0 of function 124 -/
def l124_0_h : List Nat := [3, 6, 7, 8]

def l124_0_b : ACode :=
 .seq (.region none [] [
 op 9 (.bin .lss .int (tm 8) (tm 7))] [3, 6, 7, 8, 9] none)
 (.seq (.cond (tm 9) (.skip)
 (.exit 0))
 (.seq (.block 1 (.seq (.region none [] [
 op 10 (.iaddr 1 (tm 6) (tm 8)), op 11 (.load none (tm 10)), mv 5 11] [3, 5, 6, 7, 8] none)
 (.seq (.region none [] [
 mv 12 5, mv 13 3, op 14 (.bin .neq .int (tm 12) (tm 13))] [3, 5, 6, 7, 8, 14] none)
 (.cond (tm 14) (.seq (.region none [] [
 mv 15 5, mv 2 15] [2] none)
 (.ret))
 (.skip)))))
 (.region none [] [
 op 16 (.bin .add .int (tm 8) (ci (1))), mv 8 16] [3, 6, 7, 8] none)))

def c124 : ACode :=
 .seq (.region none [] [
 op 2 (.mov (ci (0)))] [0] none)
 (.seq (.region none [] [
 op 3 (.mov (ci (0)))] [0, 3] none)
 (.seq (.seq (.region none [] [
 mv 6 0, op 7 (.len .slice (tm 6)), op 8 (.mov (ci (0)))] [3, 6, 7, 8] none)
 (.block 0 (.loop l124_0_h l124_0_b)))
 (.seq (.region none [] [
 mv 17 3, mv 2 17] [2] none)
 (.ret))))

def a124 : AFunc := ⟨1, c124, [.tmp 2]⟩

def an124 : List RAnn := [
 { id := 0, live := [0] },
 { id := 1, live := [0, 3] },
 { id := 2, live := [3, 6, 7, 8] },
 { id := 3, live := [3, 6, 7, 8, 9], hdr := [3, 6, 7, 8] },
 { id := 4, live := [3, 5, 6, 7, 8] },
 { id := 5, live := [3, 5, 6, 7, 8, 14] },
 { id := 6, live := [2] },
 { id := 7, live := [3, 6, 7, 8] },
 { id := 8, live := [2] }]

theorem comp124 : compF Tryz.prog an124 Tryz.f124 = some a124 := by kernel_rfl

/- cmp.Compare[string] -/
def c125 : ACode :=
 .seq (.region none [] [
 op 4 (.mov (ci (0)))] [0, 1] none)
 (.seq (.region none [] [
 mv 7 0, op 8 (.call .pure 144 [(tm 7)]), mv 5 8] [0, 1, 5] none)
 (.seq (.region none [] [
 mv 9 1, op 10 (.call .pure 144 [(tm 9)]), mv 6 10] [0, 1, 5, 6] none)
 (.seq (.seq (.region none [] [
 mv 11 5] [0, 1, 6, 11] none)
 (.cond (tm 11) (.seq (.seq (.region none [] [
 mv 12 6] [12] none)
 (.cond (tm 12) (.seq (.region none [] [
 op 4 (.mov (ci (0)))] [4] none)
 (.ret))
 (.skip)))
 (.seq (.region none [] [
 op 4 (.mov (ci ((-1))))] [4] none)
 (.ret)))
 (.skip)))
 (.seq (.seq (.region none [] [
 mv 13 6] [0, 1, 13] none)
 (.cond (tm 13) (.seq (.region none [] [
 op 4 (.mov (ci (1)))] [4] none)
 (.ret))
 (.skip)))
 (.seq (.seq (.region none [] [
 mv 14 0, mv 15 1, op 16 (.bin .lss .str (tm 14) (tm 15))] [0, 1, 16] none)
 (.cond (tm 16) (.seq (.region none [] [
 op 4 (.mov (ci ((-1))))] [4] none)
 (.ret))
 (.skip)))
 (.seq (.seq (.region none [] [
 mv 17 0, mv 18 1, op 19 (.bin .gtr .str (tm 17) (tm 18))] [19] none)
 (.cond (tm 19) (.seq (.region none [] [
 op 4 (.mov (ci (1)))] [4] none)
 (.ret))
 (.skip)))
 (.seq (.region none [] [
 op 4 (.mov (ci (0)))] [4] none)
 (.ret))))))))

def a125 : AFunc := ⟨2, c125, [.tmp 4]⟩

def an125 : List RAnn := [
 { id := 0, live := [0, 1] },
 { id := 1, live := [0, 1, 5] },
 { id := 2, live := [0, 1, 5, 6] },
 { id := 3, live := [0, 1, 6, 11] },
 { id := 4, live := [12] },
 { id := 5, live := [4] },
 { id := 6, live := [4] },
 { id := 7, live := [0, 1, 13] },
 { id := 8, live := [4] },
 { id := 9, live := [0, 1, 16] },
 { id := 10, live := [4] },
 { id := 11, live := [19] },
 { id := 12, live := [4] },
 { id := 13, live := [4] }]

theorem comp125 : compF Tryz.prog an125 Tryz.f125 = some a125 := by kernel_rfl

/- graphdb/value.Null -/
def c127 : ACode :=
 .seq (.region none [] [
 op 0 (.alloc 5 (.agg [.int .i64 0, .int .i64 0, .int .i64 0, .str [], .sl false []]))] [0] none)
 (.seq (.region none [] [
 op 1 (.build [.int .i64 0, .int .i64 0, .int .i64 0, .str [], .sl false []] []), ⟨none, .store 5 (tm 0) (tm 1), none⟩] [0] none)
 (.ret))

def a127 : AFunc := ⟨0, c127, [.cell 0 (some 5)]⟩

def an127 : List RAnn := [
 { id := 0, live := [0] },
 { id := 1, live := [0] }]

theorem comp127 : compF Tryz.prog an127 Tryz.f127 = some a127 := by kernel_rfl

/- graphdb/graphdbref04.valid -/
def c128 : ACode :=
 .seq (.region none [] [
 op 2 (.box 5 (tm 0)), op 4 (.mov (.cst (.bool false)))] [1, 2] none)
 (.seq (.seq (.region none [] [
 op 5 (.faddr 0 (tm 2)), op 6 (.load none (tm 5))] [1, 2, 6] none)
 (.block 0 (.seq (.region none [] [
 op 8 (.bin .eql .int (tm 6) (ci (0))), mv 7 8] [1, 2, 6, 7] none)
 (.cond (tm 7) (.seq (.region none [] [
 op 9 (.load (some 5) (tm 2)), op 10 (.call .pure 145 [(tm 9), (.cst (.bool false)), (.cst (.bool false)), (.cst (.bool false)), (.cst (.bool false))]), mv 4 10] [4] none)
 (.ret))
 (.seq (.region none [] [
 op 12 (.bin .eql .int (tm 6) (ci (1))), mv 11 12] [1, 2, 6, 11] none)
 (.cond (tm 11) (.seq (.region none [] [
 op 13 (.load (some 5) (tm 2)), op 14 (.call .pure 145 [(tm 13), (.cst (.bool true)), (.cst (.bool false)), (.cst (.bool false)), (.cst (.bool false))]), mv 15 14, ⟨some 16, .faddr 1 (tm 2), some (15, true)⟩, ⟨some 17, .load none (tm 16), some (15, true)⟩, ⟨some 18, .bin .eql .int (tm 17) (ci (0)), some (15, true)⟩, mg 19 18 15 true, ⟨some 20, .faddr 1 (tm 2), some (19, false)⟩, ⟨some 21, .load none (tm 20), some (19, false)⟩, ⟨some 22, .bin .eql .int (tm 21) (ci (1)), some (19, false)⟩, ⟨some 23, .pick (tm 19) (.cst (.bool true)) (tm 22), some (15, true)⟩, op 24 (.pick (tm 15) (tm 23) (.cst (.bool false))), mv 4 24] [4] none)
 (.ret))
 (.seq (.region none [] [
 op 26 (.bin .eql .int (tm 6) (ci (2))), mv 25 26] [1, 2, 6, 25] none)
 (.cond (tm 25) (.seq (.region none [] [
 op 27 (.load (some 5) (tm 2)), op 28 (.call .pure 145 [(tm 27), (.cst (.bool true)), (.cst (.bool false)), (.cst (.bool false)), (.cst (.bool false))]), mv 29 28, ⟨some 30, .faddr 1 (tm 2), some (29, true)⟩, ⟨some 31, .load none (tm 30), some (29, true)⟩, ⟨some 32, .call .pure 146 [(tm 31)], some (29, true)⟩, op 33 (.pick (tm 29) (tm 32) (.cst (.bool false))), mv 4 33] [4] none)
 (.ret))
 (.seq (.region none [] [
 op 35 (.bin .eql .int (tm 6) (ci (3))), mv 34 35] [1, 2, 6, 34] none)
 (.cond (tm 34) (.seq (.region none [] [
 op 36 (.load (some 5) (tm 2)), op 37 (.call .pure 145 [(tm 36), (.cst (.bool true)), (.cst (.bool true)), (.cst (.bool false)), (.cst (.bool false))]), mv 38 37, ⟨some 39, .faddr 2 (tm 2), some (38, true)⟩, ⟨some 40, .load none (tm 39), some (38, true)⟩, ⟨some 41, .bin .geq .int (tm 40) (ci (2)), some (38, true)⟩, op 42 (.pick (tm 38) (tm 41) (.cst (.bool false))), mv 43 42, ⟨some 44, .faddr 1 (tm 2), some (43, true)⟩, ⟨some 45, .load none (tm 44), some (43, true)⟩, ⟨some 46, .faddr 2 (tm 2), some (43, true)⟩, ⟨some 47, .load none (tm 46), some (43, true)⟩, ⟨some 48, .build [.int .i64 0, .int .i64 0] [(0, 1, (tm 45)), (1, 1, (tm 47))], some (43, true)⟩, ⟨some 49, .call .pure 131 [(tm 48)], some (43, true)⟩, op 50 (.pick (tm 43) (tm 49) (.cst (.bool false))), mv 4 50] [4] none)
 (.ret))
 (.seq (.region none [] [
 op 52 (.bin .eql .int (tm 6) (ci (4))), mv 51 52] [1, 2, 6, 51] none)
 (.cond (tm 51) (.seq (.region none [] [
 op 53 (.load (some 5) (tm 2)), op 54 (.call .pure 145 [(tm 53), (.cst (.bool false)), (.cst (.bool false)), (.cst (.bool true)), (.cst (.bool false))]), mv 55 54, ⟨some 56, .faddr 3 (tm 2), some (55, true)⟩, ⟨some 57, .load none (tm 56), some (55, true)⟩, ⟨some 58, .call .pure 147 [(tm 57)], some (55, true)⟩, op 59 (.pick (tm 55) (tm 58) (.cst (.bool false))), mv 4 59] [4] none)
 (.ret))
 (.seq (.seq (.region none [] [
 op 61 (.bin .eql .int (tm 6) (ci (5))), mv 60 61] [1, 2, 6, 60] none)
 (.cond (tm 60) (.skip)
 (.region none [] [
 op 62 (.bin .eql .int (tm 6) (ci (6))), mv 60 62] [1, 2, 6, 60] none)))
 (.cond (tm 60) (.seq (.region none [] [
 op 63 (.load (some 5) (tm 2)), op 64 (.call .pure 145 [(tm 63), (.cst (.bool true)), (.cst (.bool false)), (.cst (.bool false)), (.cst (.bool false))]), mv 65 64, ⟨some 66, .faddr 1 (tm 2), some (65, true)⟩, ⟨some 67, .load none (tm 66), some (65, true)⟩, ⟨some 68, .bin .geq .int (tm 67) (ci (1)), some (65, true)⟩, op 69 (.pick (tm 65) (tm 68) (.cst (.bool false))), mv 70 69, ⟨some 71, .faddr 1 (tm 2), some (70, true)⟩, ⟨some 72, .load none (tm 71), some (70, true)⟩, ⟨some 73, .bin .leq .int (tm 72) (ci (1000000)), some (70, true)⟩, op 74 (.pick (tm 70) (tm 73) (.cst (.bool false))), mv 4 74] [4] none)
 (.ret))
 (.seq (.region none [] [
 op 76 (.bin .eql .int (tm 6) (ci (7))), mv 75 76] [1, 2, 6, 75] none)
 (.cond (tm 75) (.seq (.region none [] [
 op 77 (.load (some 5) (tm 2)), op 78 (.call .pure 145 [(tm 77), (.cst (.bool false)), (.cst (.bool false)), (.cst (.bool false)), (.cst (.bool true))]), mv 79 78, ⟨some 80, .faddr 4 (tm 2), some (79, true)⟩, ⟨some 81, .load none (tm 80), some (79, true)⟩, ⟨some 82, .call .pure 148 [(tm 81)], some (79, true)⟩, op 83 (.pick (tm 79) (tm 82) (.cst (.bool false))), mv 4 83] [4] none)
 (.ret))
 (.seq (.region none [] [
 op 85 (.bin .eql .int (tm 6) (ci (8))), mv 84 85] [1, 2, 84] none)
 (.cond (tm 84) (.seq (.region none [] [
 op 86 (.load (some 5) (tm 2)), op 87 (.call .pure 145 [(tm 86), (.cst (.bool false)), (.cst (.bool false)), (.cst (.bool false)), (.cst (.bool true))]), mv 88 87, ⟨some 89, .faddr 4 (tm 2), some (88, true)⟩, ⟨some 90, .load none (tm 89), some (88, true)⟩, mg 91 1 88 true, ⟨some 92, .call .pure 149 [(tm 90), (tm 91)], some (88, true)⟩, op 93 (.pick (tm 88) (tm 92) (.cst (.bool false))), mv 4 93] [4] none)
 (.ret))
 (.skip)))))))))))))))))))
 (.seq (.region none [] [
 op 4 (.mov (.cst (.bool false)))] [4] none)
 (.ret)))

def a128 : AFunc := ⟨2, c128, [.tmp 4]⟩

def an128 : List RAnn := [
 { id := 0, live := [1, 2] },
 { id := 1, live := [1, 2, 6] },
 { id := 2, live := [1, 2, 6, 7] },
 { id := 3, live := [4] },
 { id := 4, live := [1, 2, 6, 11] },
 { id := 5, live := [4] },
 { id := 6, live := [1, 2, 6, 25] },
 { id := 7, live := [4] },
 { id := 8, live := [1, 2, 6, 34] },
 { id := 9, live := [4] },
 { id := 10, live := [1, 2, 6, 51] },
 { id := 11, live := [4] },
 { id := 12, live := [1, 2, 6, 60] },
 { id := 13, live := [1, 2, 6, 60] },
 { id := 14, live := [4] },
 { id := 15, live := [1, 2, 6, 75] },
 { id := 16, live := [4] },
 { id := 17, live := [1, 2, 84] },
 { id := 18, live := [4] },
 { id := 19, live := [4] }]

theorem comp128 : compF Tryz.prog an128 Tryz.f128 = some a128 := by kernel_rfl

/- graphdb/graphdbref04.strs -/
def c129 : ACode :=
 .seq (.region none [] [
 op 4 (.mov (ci (0)))] [0, 1] none)
 (.seq (.seq (.region none [] [
 mv 5 0, mv 6 1, op 7 (.bin .lss .str (tm 5) (tm 6))] [0, 1, 7] none)
 (.cond (tm 7) (.seq (.region none [] [
 op 4 (.mov (ci ((-1))))] [4] none)
 (.ret))
 (.skip)))
 (.seq (.seq (.region none [] [
 mv 8 0, mv 9 1, op 10 (.bin .gtr .str (tm 8) (tm 9))] [10] none)
 (.cond (tm 10) (.seq (.region none [] [
 op 4 (.mov (ci (1)))] [4] none)
 (.ret))
 (.skip)))
 (.seq (.region none [] [
 op 4 (.mov (ci (0)))] [4] none)
 (.ret))))

def a129 : AFunc := ⟨2, c129, [.tmp 4]⟩

def an129 : List RAnn := [
 { id := 0, live := [0, 1] },
 { id := 1, live := [0, 1, 7] },
 { id := 2, live := [4] },
 { id := 3, live := [10] },
 { id := 4, live := [4] },
 { id := 5, live := [4] }]

theorem comp129 : compF Tryz.prog an129 Tryz.f129 = some a129 := by kernel_rfl

/- graphdb/graphdbref04.lists -/
/-- loop 0 of function 130 -/
def l130_0_h : List Nat := [0, 1, 5]

def l130_0_b : ACode :=
 .seq (.seq (.region none [] [
 mv 7 5, mv 8 0, op 9 (.len .slice (tm 8)), op 10 (.bin .lss .int (tm 7) (tm 9)), mv 11 10, mg 12 5 11 true, mg 13 1 11 true, ⟨some 14, .len .slice (tm 13), some (11, true)⟩, ⟨some 15, .bin .lss .int (tm 12) (tm 14), some (11, true)⟩, op 16 (.pick (tm 11) (tm 15) (.cst (.bool false)))] [0, 1, 5, 16] none)
 (.cond (tm 16) (.skip)
 (.exit 0)))
 (.seq (.block 1 (.seq (.region (some 10) [] [
 mv 19 0, mv 20 5, op 21 (.iaddr 5 (tm 19) (tm 20)), op 22 (.load (some 5) (tm 21)), mv 23 1, mv 24 5, op 25 (.iaddr 5 (tm 23) (tm 24)), op 26 (.load (some 5) (tm 25)), op 27 (.call .pure 52 [(tm 22), (tm 26)]), mv 6 27] [0, 1, 5, 6] none)
 (.seq (.region none [] [
 mv 28 6, op 29 (.bin .neq .int (tm 28) (ci (0)))] [0, 1, 5, 6, 29] none)
 (.cond (tm 29) (.seq (.region none [] [
 mv 30 6, mv 4 30] [4] none)
 (.ret))
 (.skip)))))
 (.region none [] [
 mv 17 5, op 18 (.bin .add .int (tm 17) (ci (1))), mv 5 18] [0, 1, 5] none))

def c130 : ACode :=
 .seq (.region none [] [
 op 4 (.mov (ci (0)))] [0, 1] none)
 (.seq (.seq (.region none [] [
 op 5 (.mov (ci (0)))] [0, 1, 5] none)
 (.block 0 (.loop l130_0_h l130_0_b)))
 (.seq (.region none [] [
 mv 31 0, op 32 (.len .slice (tm 31)), mv 33 1, op 34 (.len .slice (tm 33)), op 35 (.call .pure 100 [(tm 32), (tm 34)]), mv 4 35] [4] none)
 (.ret)))

def a130 : AFunc := ⟨2, c130, [.tmp 4]⟩

def an130 : List RAnn := [
 { id := 0, live := [0, 1] },
 { id := 1, live := [0, 1, 5] },
 { id := 2, live := [0, 1, 5, 16], hdr := [0, 1, 5] },
 { id := 4, head := some 10, live := [0, 1, 5, 6] },
 { id := 5, live := [0, 1, 5, 6, 29] },
 { id := 6, live := [4] },
 { id := 3, live := [0, 1, 5] },
 { id := 7, live := [4] }]

theorem comp130 : compF Tryz.prog an130 Tryz.f130 = some a130 := by kernel_rfl

/- graphdb/graphdbref03.Valid -/
def c131 : ACode :=
 .seq (.region none [] [
 op 1 (.box 2 (tm 0)), op 2 (.mov (.cst (.bool false)))] [1] none)
 (.seq (.region (some 28) [] [
 op 3 (.faddr 1 (tm 1)), op 4 (.load none (tm 3)), op 5 (.bin .geq .int (tm 4) (ci (1))), mv 6 5, ⟨some 7, .faddr 1 (tm 1), some (6, true)⟩, ⟨some 8, .load none (tm 7), some (6, true)⟩, ⟨some 9, .bin .leq .int (tm 8) (ci (1000000000000000)), some (6, true)⟩, op 10 (.pick (tm 6) (tm 9) (.cst (.bool false))), mv 11 10, ⟨some 12, .faddr 0 (tm 1), some (11, true)⟩, ⟨some 13, .load none (tm 12), some (11, true)⟩, ⟨some 14, .bin .geq .int (tm 13) (ci ((-1000000000000000))), some (11, true)⟩, op 15 (.pick (tm 11) (tm 14) (.cst (.bool false))), mv 16 15, ⟨some 17, .faddr 0 (tm 1), some (16, true)⟩, ⟨some 18, .load none (tm 17), some (16, true)⟩, ⟨some 19, .bin .leq .int (tm 18) (ci (1000000000000000)), some (16, true)⟩, op 20 (.pick (tm 16) (tm 19) (.cst (.bool false))), mv 21 20, ⟨some 22, .faddr 0 (tm 1), some (21, true)⟩, ⟨some 23, .load none (tm 22), some (21, true)⟩, ⟨some 24, .call .pure 135 [(tm 23)], some (21, true)⟩, ⟨some 25, .faddr 1 (tm 1), some (21, true)⟩, ⟨some 26, .load none (tm 25), some (21, true)⟩, ⟨some 27, .call .pure 150 [(tm 24), (tm 26)], some (21, true)⟩, ⟨some 28, .bin .eql .int (tm 27) (ci (1)), some (21, true)⟩, op 29 (.pick (tm 21) (tm 28) (.cst (.bool false))), mv 2 29] [2] none)
 (.ret))

def a131 : AFunc := ⟨1, c131, [.tmp 2]⟩

def an131 : List RAnn := [
 { id := 0, live := [1] },
 { id := 1, head := some 28, live := [2] }]

theorem comp131 : compF Tryz.prog an131 Tryz.f131 = some a131 := by kernel_rfl

end AI
end Go.Proofs.YtnfdpfeeenmffaaGreatDoor
