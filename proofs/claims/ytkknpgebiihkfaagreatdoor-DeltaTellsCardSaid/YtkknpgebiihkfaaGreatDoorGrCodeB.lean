/- Printed by a program of mine: the functions,compiled; the kernel checks each against the given form. -/
import Derived.Test.YtkknpgebiihkfaaGreatDoorSe
import Derived.Test.YtkknpgebiihkfaaGreatDoorProg
import Derived.Test.YtkknpgebiihkfaaGreatDoorAb
import Derived.KernelRfl
import Derived.Test.YtkknpgebiihkfaaGreatDoorIxF
import Derived.Test.YtkknpgebiihkfaaGreatDoorBc
namespace Go.Proofs.YtkknpgebiihkfaaGreatDoor
namespace AI
/- graphdb/graph.sameProps$1 -/
def c77 : ACode :=
 .seq (rg [op 2 (.box 6 (tm 0)),op 3 (.box 6 (tm 1)),op 4 (.mov (.cst (.bool false)))] [2,3])
 (.seq (rg [op 5 (.faddr 0 (tm 2)),op 6 (.load none (tm 5)),op 7 (.faddr 0 (tm 3)),op 8 (.load none (tm 7)),op 9 (.bin .eql .str (tm 6) (tm 8)),mv 10 9,⟨some 11,.faddr 1 (tm 2),some (10,true)⟩,⟨some 12,.load (some 5) (tm 11),some (10,true)⟩,⟨some 13,.faddr 1 (tm 3),some (10,true)⟩,⟨some 14,.load (some 5) (tm 13),some (10,true)⟩,⟨some 15,.call .pure 68 [(tm 12),(tm 14)],some (10,true)⟩,⟨some 16,.bin .eql .int (tm 15) (ci (0)),some (10,true)⟩,op 17 (.pick (tm 10) (tm 16) (.cst (.bool false))),mv 4 17] [4])
 (.ret))

def a77 : AFunc := ⟨2,c77,[.tmp 4]⟩

def an77 : List RAnn := [
 ra 0 [2,3],ra 1 [4]]

theorem comp77 : compF Tryz.prog an77 Tryz.f77 = some a77 := by kernel_rfl

/- graphdb/graphdbref07.SameStrs -/
/-- loop 0 of function 78 -/
def l78_0_h : List Nat := [0,1,5]

def l78_0_b : ACode :=
 .seq (.seq (rg [mv 11 5,mv 12 0,op 13 (.len .slice (tm 12)),op 14 (.bin .lss .int (tm 11) (tm 13))] [0,1,5,14])
 (.cond (tm 14) (.skip)
 (.exit 0)))
 (.seq (.block 1 (.seq (.region (some 9) [] [
 mv 17 0,mv 18 5,op 19 (.iaddr 1 (tm 17) (tm 18)),op 20 (.load none (tm 19)),mv 21 1,mv 22 5,op 23 (.iaddr 1 (tm 21) (tm 22)),op 24 (.load none (tm 23)),op 25 (.bin .neq .str (tm 20) (tm 24))] [0,1,5,25] none)
 (.cond (tm 25) (.seq (rg [op 4 (.mov (.cst (.bool false)))] [4])
 (.ret))
 (.skip))))
 (rg [mv 15 5,op 16 (.bin .add .int (tm 15) (ci (1))),mv 5 16] [0,1,5]))

def c78 : ACode :=
 .seq (rg [op 4 (.mov (.cst (.bool false)))] [0,1])
 (.seq (.seq (rg [mv 6 0,op 7 (.len .slice (tm 6)),mv 8 1,op 9 (.len .slice (tm 8)),op 10 (.bin .neq .int (tm 7) (tm 9))] [0,1,10])
 (.cond (tm 10) (.seq (rg [op 4 (.mov (.cst (.bool false)))] [4])
 (.ret))
 (.skip)))
 (.seq (.seq (rg [op 5 (.mov (ci (0)))] [0,1,5])
 (.block 0 (.loop l78_0_h l78_0_b)))
 (.seq (rg [op 4 (.mov (.cst (.bool true)))] [4])
 (.ret))))

def a78 : AFunc := ⟨2,c78,[.tmp 4]⟩

def an78 : List RAnn := [
 ra 0 [0,1],ra 1 [0,1,10],ra 2 [4],ra 3 [0,1,5],rh 4 [0,1,5,14] [0,1,5],
 { id := 6,head := some 9,live := [0,1,5,25] },
 ra 7 [4],ra 5 [0,1,5],ra 8 [4]]

theorem comp78 : compF Tryz.prog an78 Tryz.f78 = some a78 := by kernel_rfl

/- graphdb/graphdbref07.SameProps -/
/-- loop 0 of function 79 -/
def l79_0_h : List Nat := [0,1,5]

def l79_0_b : ACode :=
 .seq (.seq (rg [mv 11 5,mv 12 0,op 13 (.len .slice (tm 12)),op 14 (.bin .lss .int (tm 11) (tm 13))] [0,1,5,14])
 (.cond (tm 14) (.skip)
 (.exit 0)))
 (.seq (.block 1 (.seq (.region (some 25) [] [
 mv 17 0,mv 18 5,op 19 (.iaddr 6 (tm 17) (tm 18)),op 20 (.faddr 0 (tm 19)),op 21 (.load none (tm 20)),mv 22 1,mv 23 5,op 24 (.iaddr 6 (tm 22) (tm 23)),op 25 (.faddr 0 (tm 24)),op 26 (.load none (tm 25)),op 27 (.bin .neq .str (tm 21) (tm 26)),mv 28 27,mg 29 0 28 false,mg 30 5 28 false,⟨some 31,.iaddr 6 (tm 29) (tm 30),some (28,false)⟩,⟨some 32,.faddr 1 (tm 31),some (28,false)⟩,⟨some 33,.load (some 5) (tm 32),some (28,false)⟩,mg 34 1 28 false,mg 35 5 28 false,⟨some 36,.iaddr 6 (tm 34) (tm 35),some (28,false)⟩,⟨some 37,.faddr 1 (tm 36),some (28,false)⟩,⟨some 38,.load (some 5) (tm 37),some (28,false)⟩,⟨some 39,.call .pure 53 [(tm 33),(tm 38)],some (28,false)⟩,⟨some 40,.bin .neq .int (tm 39) (ci (0)),some (28,false)⟩,op 41 (.pick (tm 28) (.cst (.bool true)) (tm 40))] [0,1,5,41] none)
 (.cond (tm 41) (.seq (rg [op 4 (.mov (.cst (.bool false)))] [4])
 (.ret))
 (.skip))))
 (rg [mv 15 5,op 16 (.bin .add .int (tm 15) (ci (1))),mv 5 16] [0,1,5]))

def c79 : ACode :=
 .seq (rg [op 4 (.mov (.cst (.bool false)))] [0,1])
 (.seq (.seq (rg [mv 6 0,op 7 (.len .slice (tm 6)),mv 8 1,op 9 (.len .slice (tm 8)),op 10 (.bin .neq .int (tm 7) (tm 9))] [0,1,10])
 (.cond (tm 10) (.seq (rg [op 4 (.mov (.cst (.bool false)))] [4])
 (.ret))
 (.skip)))
 (.seq (.seq (rg [op 5 (.mov (ci (0)))] [0,1,5])
 (.block 0 (.loop l79_0_h l79_0_b)))
 (.seq (rg [op 4 (.mov (.cst (.bool true)))] [4])
 (.ret))))

def a79 : AFunc := ⟨2,c79,[.tmp 4]⟩

def an79 : List RAnn := [
 ra 0 [0,1],ra 1 [0,1,10],ra 2 [4],ra 3 [0,1,5],rh 4 [0,1,5,14] [0,1,5],
 { id := 6,head := some 25,live := [0,1,5,41] },
 ra 7 [4],ra 5 [0,1,5],ra 8 [4]]

theorem comp79 : compF Tryz.prog an79 Tryz.f79 = some a79 := by kernel_rfl

/- graphdb/graphdbref04.Valid -/
def c80 : ACode :=
 .seq (rg [op 1 (.box 5 (tm 0)),op 2 (.mov (.cst (.bool false)))] [1])
 (.seq (rg [op 3 (.load (some 5) (tm 1)),op 4 (.call .pure 114 [(tm 3),(ci (8))]),mv 2 4] [2])
 (.ret))

def a80 : AFunc := ⟨1,c80,[.tmp 2]⟩

def an80 : List RAnn := [
 ra 0 [1],ra 1 [2]]

theorem comp80 : compF Tryz.prog an80 Tryz.f80 = some a80 := by kernel_rfl

/- graphdb/graphdbref04.yes -/
def c81 : ACode :=
 .seq (rg [op 2 (.mov (ci (0)))] [0])
 (.seq (.seq (rg [mv 3 0] [3])
 (.cond (tm 3) (.seq (rg [op 2 (.mov (ci (2)))] [2])
 (.ret))
 (.skip)))
 (.seq (rg [op 2 (.mov (ci (0)))] [2])
 (.ret)))

def a81 : AFunc := ⟨1,c81,[.tmp 2]⟩

def an81 : List RAnn := [
 ra 0 [0],ra 1 [3],ra 2 [2],ra 3 [2]]

theorem comp81 : compF Tryz.prog an81 Tryz.f81 = some a81 := by kernel_rfl

/- graphdb/graphdbref04.fields -/
def c82 : ACode :=
 .seq (rg [op 2 (.box 5 (tm 0)),op 3 (.box 5 (tm 1)),op 4 (.mov (ci (0)))] [2,3])
 (.seq (.seq (rg [op 9 (.faddr 0 (tm 2)),op 10 (.load none (tm 9)),op 11 (.faddr 0 (tm 3)),op 12 (.load none (tm 11)),op 13 (.call .pure 83 [(tm 10),(tm 12)]),mv 5 13] [2,3,5])
 (.seq (rg [mv 14 5,op 15 (.bin .neq .int (tm 14) (ci (0)))] [2,3,5,15])
 (.cond (tm 15) (.seq (rg [mv 16 5,mv 4 16] [4])
 (.ret))
 (.skip))))
 (.seq (.seq (rg [op 17 (.faddr 1 (tm 2)),op 18 (.load none (tm 17)),op 19 (.faddr 1 (tm 3)),op 20 (.load none (tm 19)),op 21 (.call .pure 83 [(tm 18),(tm 20)]),mv 6 21] [2,3,6])
 (.seq (rg [mv 22 6,op 23 (.bin .neq .int (tm 22) (ci (0)))] [2,3,6,23])
 (.cond (tm 23) (.seq (rg [mv 24 6,mv 4 24] [4])
 (.ret))
 (.skip))))
 (.seq (.seq (rg [op 25 (.faddr 2 (tm 2)),op 26 (.load none (tm 25)),op 27 (.faddr 2 (tm 3)),op 28 (.load none (tm 27)),op 29 (.call .pure 83 [(tm 26),(tm 28)]),mv 7 29] [2,3,7])
 (.seq (rg [mv 30 7,op 31 (.bin .neq .int (tm 30) (ci (0)))] [2,3,7,31])
 (.cond (tm 31) (.seq (rg [mv 32 7,mv 4 32] [4])
 (.ret))
 (.skip))))
 (.seq (.seq (rg [op 33 (.faddr 3 (tm 2)),op 34 (.load none (tm 33)),op 35 (.faddr 3 (tm 3)),op 36 (.load none (tm 35)),op 37 (.call .pure 115 [(tm 34),(tm 36)]),mv 8 37] [2,3,8])
 (.seq (rg [mv 38 8,op 39 (.bin .neq .int (tm 38) (ci (0)))] [2,3,8,39])
 (.cond (tm 39) (.seq (rg [mv 40 8,mv 4 40] [4])
 (.ret))
 (.skip))))
 (.seq (rg [op 41 (.faddr 4 (tm 2)),op 42 (.load none (tm 41)),op 43 (.faddr 4 (tm 3)),op 44 (.load none (tm 43)),op 45 (.call .pure 116 [(tm 42),(tm 44)]),mv 4 45] [4])
 (.ret))))))

def a82 : AFunc := ⟨2,c82,[.tmp 4]⟩

def an82 : List RAnn := [
 ra 0 [2,3],ra 1 [2,3,5],ra 2 [2,3,5,15],ra 3 [4],ra 4 [2,3,6],ra 5 [2,3,6,23],ra 6 [4],ra 7 [2,3,7],ra 8 [2,3,7,31],ra 9 [4],ra 10 [2,3,8],ra 11 [2,3,8,39],ra 12 [4],ra 13 [4]]

theorem comp82 : compF Tryz.prog an82 Tryz.f82 = some a82 := by kernel_rfl

/- graphdb/graphdbref04.ints -/
def c83 : ACode :=
 .seq (rg [op 4 (.mov (ci (0)))] [0,1])
 (.seq (.seq (rg [mv 5 0,mv 6 1,op 7 (.bin .lss .int (tm 5) (tm 6))] [0,1,7])
 (.cond (tm 7) (.seq (rg [op 4 (.mov (ci ((-1))))] [4])
 (.ret))
 (.skip)))
 (.seq (.seq (rg [mv 8 0,mv 9 1,op 10 (.bin .gtr .int (tm 8) (tm 9))] [10])
 (.cond (tm 10) (.seq (rg [op 4 (.mov (ci (1)))] [4])
 (.ret))
 (.skip)))
 (.seq (rg [op 4 (.mov (ci (0)))] [4])
 (.ret))))

def a83 : AFunc := ⟨2,c83,[.tmp 4]⟩

def an83 : List RAnn := [
 ra 0 [0,1],ra 1 [0,1,7],ra 2 [4],ra 3 [10],ra 4 [4],ra 5 [4]]

theorem comp83 : compF Tryz.prog an83 Tryz.f83 = some a83 := by kernel_rfl

/- graphdb/graphdbref04.class -/
def c84 : ACode :=
 .seq (rg [op 2 (.mov (ci (0)))] [0])
 (.seq (.seq (rg [mv 3 0] [3])
 (.block 0 (.seq (rg [op 5 (.bin .eql .int (tm 3) (ci (0))),mv 4 5] [3,4])
 (.cond (tm 4) (.seq (rg [op 2 (.mov (ci (0)))] [2])
 (.ret))
 (.seq (rg [op 7 (.bin .eql .int (tm 3) (ci (1))),mv 6 7] [3,6])
 (.cond (tm 6) (.seq (rg [op 2 (.mov (ci (1)))] [2])
 (.ret))
 (.seq (.seq (rg [op 9 (.bin .eql .int (tm 3) (ci (2))),mv 8 9] [3,8])
 (.cond (tm 8) (.skip)
 (rg [op 10 (.bin .eql .int (tm 3) (ci (3))),mv 8 10] [3,8])))
 (.cond (tm 8) (.seq (rg [op 2 (.mov (ci (2)))] [2])
 (.ret))
 (.seq (rg [op 12 (.bin .eql .int (tm 3) (ci (4))),mv 11 12] [3,11])
 (.cond (tm 11) (.seq (rg [op 2 (.mov (ci (3)))] [2])
 (.ret))
 (.seq (rg [op 14 (.bin .eql .int (tm 3) (ci (5))),mv 13 14] [3,13])
 (.cond (tm 13) (.seq (rg [op 2 (.mov (ci (4)))] [2])
 (.ret))
 (.seq (rg [op 16 (.bin .eql .int (tm 3) (ci (6))),mv 15 16] [3,15])
 (.cond (tm 15) (.seq (rg [op 2 (.mov (ci (5)))] [2])
 (.ret))
 (.seq (rg [op 18 (.bin .eql .int (tm 3) (ci (8))),mv 17 18] [17])
 (.cond (tm 17) (.seq (rg [op 2 (.mov (ci (6)))] [2])
 (.ret))
 (.skip)))))))))))))))))
 (.seq (rg [op 2 (.mov (ci (7)))] [2])
 (.ret)))

def a84 : AFunc := ⟨1,c84,[.tmp 2]⟩

def an84 : List RAnn := [
 ra 0 [0],ra 1 [3],ra 2 [3,4],ra 3 [2],ra 4 [3,6],ra 5 [2],ra 6 [3,8],ra 7 [3,8],ra 8 [2],ra 9 [3,11],ra 10 [2],ra 11 [3,13],ra 12 [2],ra 13 [3,15],ra 14 [2],ra 15 [17],ra 16 [2],ra 17 [2]]

theorem comp84 : compF Tryz.prog an84 Tryz.f84 = some a84 := by kernel_rfl

/- graphdb/graphdbref04.Number -/
def c85 : ACode :=
 .seq (rg [op 1 (.box 5 (tm 0)),op 2 (.alloc 2 (.agg [.int .i64 0,.int .i64 0])),op 3 (.mov (.cst (.bool false)))] [1,2])
 (.seq (.seq (rg [op 4 (.load (some 5) (tm 1)),op 5 (.call .pure 80 [(tm 4)]),op 6 (.un .not (tm 5))] [1,2,6])
 (.cond (tm 6) (.seq (rg [op 7 (.build [.int .i64 0,.int .i64 0] []),⟨none,.store 2 (tm 2) (tm 7),none⟩,op 3 (.mov (.cst (.bool false)))] [2,3])
 (.ret))
 (.skip)))
 (.seq (.seq (rg [op 8 (.faddr 0 (tm 1)),op 9 (.load none (tm 8)),op 10 (.bin .eql .int (tm 9) (ci (2)))] [1,2,10])
 (.cond (tm 10) (.seq (rg [op 11 (.faddr 1 (tm 1)),op 12 (.load none (tm 11)),op 13 (.build [.int .i64 0,.int .i64 0] [(0,1,(tm 12)),(1,1,(ci (1)))]),⟨none,.store 2 (tm 2) (tm 13),none⟩,op 3 (.mov (.cst (.bool true)))] [2,3])
 (.ret))
 (.skip)))
 (.seq (.seq (rg [op 14 (.faddr 0 (tm 1)),op 15 (.load none (tm 14)),op 16 (.bin .eql .int (tm 15) (ci (3)))] [1,2,16])
 (.cond (tm 16) (.seq (rg [op 17 (.faddr 1 (tm 1)),op 18 (.load none (tm 17)),op 19 (.faddr 2 (tm 1)),op 20 (.load none (tm 19)),op 21 (.build [.int .i64 0,.int .i64 0] [(0,1,(tm 18)),(1,1,(tm 20))]),⟨none,.store 2 (tm 2) (tm 21),none⟩,op 3 (.mov (.cst (.bool true)))] [2,3])
 (.ret))
 (.skip)))
 (.seq (rg [op 22 (.build [.int .i64 0,.int .i64 0] []),⟨none,.store 2 (tm 2) (tm 22),none⟩,op 3 (.mov (.cst (.bool false)))] [2,3])
 (.ret)))))

def a85 : AFunc := ⟨1,c85,[.cell 2 (some 2),.tmp 3]⟩

def an85 : List RAnn := [
 ra 0 [1,2],ra 1 [1,2,6],ra 2 [2,3],ra 3 [1,2,10],ra 4 [2,3],ra 5 [1,2,16],ra 6 [2,3],ra 7 [2,3]]

theorem comp85 : compF Tryz.prog an85 Tryz.f85 = some a85 := by kernel_rfl

/- graphdb/graphdbref03.Cmp -/
def c86 : ACode :=
 .seq (rg [op 2 (.box 2 (tm 0)),op 3 (.box 2 (tm 1)),op 4 (.mov (ci (0)))] [2,3])
 (.seq (.seq (rg [op 7 (.load (some 2) (tm 2)),op 8 (.call .pure 117 [(tm 7)]),op 9 (.un .not (tm 8))] [2,3,9])
 (.cond (tm 9) (rg [op 10 (.build [.int .i64 0,.int .i64 0] [(1,1,(ci (1)))]),⟨none,.store 2 (tm 2) (tm 10),none⟩] [2,3])
 (.skip)))
 (.seq (.seq (rg [op 11 (.load (some 2) (tm 3)),op 12 (.call .pure 117 [(tm 11)]),op 13 (.un .not (tm 12))] [2,3,13])
 (.cond (tm 13) (rg [op 14 (.build [.int .i64 0,.int .i64 0] [(1,1,(ci (1)))]),⟨none,.store 2 (tm 3) (tm 14),none⟩] [2,3])
 (.skip)))
 (.seq (.region (some 25) [] [
 op 16 (.faddr 0 (tm 2)),op 17 (.load none (tm 16)),op 18 (.call .pure 119 [(tm 17)]),op 19 (.faddr 0 (tm 2)),op 20 (.load none (tm 19)),op 21 (.call .pure 121 [(tm 20)]),op 22 (.faddr 1 (tm 3)),op 23 (.load none (tm 22)),op 24 (.call .pure 120 [(tm 21),(tm 23)]),op 25 (.faddr 0 (tm 3)),op 26 (.load none (tm 25)),op 27 (.call .pure 119 [(tm 26)]),op 28 (.un .neg (tm 27)),op 29 (.faddr 0 (tm 3)),op 30 (.load none (tm 29)),op 31 (.call .pure 121 [(tm 30)]),op 32 (.faddr 1 (tm 2)),op 33 (.load none (tm 32)),op 34 (.call .pure 120 [(tm 31),(tm 33)]),op 35 (.call .pure 118 [(tm 18),(tm 24),(tm 28),(tm 34)]),mv 15 35,op 36 (.ext (tm 15) 0),op 37 (.ext (tm 15) 1),mv 5 36,mv 6 37] [5] none)
 (.seq (rg [mv 38 5,mv 4 38] [4])
 (.ret)))))

def a86 : AFunc := ⟨2,c86,[.tmp 4]⟩

def an86 : List RAnn := [
 ra 0 [2,3],ra 1 [2,3,9],ra 2 [2,3],ra 3 [2,3,13],ra 4 [2,3],
 { id := 5,head := some 25,live := [5] },
 ra 6 [4]]

theorem comp86 : compF Tryz.prog an86 Tryz.f86 = some a86 := by kernel_rfl

/- slices.insertionSortOrdered[int] -/
/-- loop 0 of function 87 -/
def l87_0_h : List Nat := [0,1,2,6,7]

def l87_0_b : ACode :=
 .seq (.seq (.region (some 15) [] [
 mv 16 7,mv 17 1,op 18 (.bin .gtr .int (tm 16) (tm 17)),mv 19 18,mg 20 0 19 true,mg 21 7 19 true,⟨some 22,.iaddr 1 (tm 20) (tm 21),some (19,true)⟩,⟨some 23,.load none (tm 22),some (19,true)⟩,mg 24 0 19 true,mg 25 7 19 true,⟨some 26,.bin .sub .int (tm 25) (ci (1)),some (19,true)⟩,⟨some 27,.iaddr 1 (tm 24) (tm 26),some (19,true)⟩,⟨some 28,.load none (tm 27),some (19,true)⟩,⟨some 29,.call .pure 93 [(tm 23),(tm 28)],some (19,true)⟩,op 30 (.pick (tm 19) (tm 29) (.cst (.bool false)))] [0,1,2,6,7,30] none)
 (.cond (tm 30) (.skip)
 (.exit 2)))
 (.seq (.block 3 (.par 18 [] [] [
 mv 33 0,mv 34 7,mv 35 0,mv 36 7,op 37 (.bin .sub .int (tm 36) (ci (1))),mv 38 0,mv 39 7,op 40 (.bin .sub .int (tm 39) (ci (1))),op 41 (.iaddr 1 (tm 38) (tm 40)),op 42 (.load none (tm 41)),mv 43 0,mv 44 7,op 45 (.iaddr 1 (tm 43) (tm 44)),op 46 (.load none (tm 45)),op 47 (.iaddr 1 (tm 33) (tm 34)),⟨none,.store 1 (tm 47) (tm 42),none⟩,op 48 (.iaddr 1 (tm 35) (tm 37)),⟨none,.store 1 (tm 48) (tm 46),none⟩] [0,1,2,6,7] none))
 (rg [mv 31 7,op 32 (.bin .sub .int (tm 31) (ci (1))),mv 7 32] [0,1,2,6,7]))

/-- loop 1 of function 87 -/
def l87_1_h : List Nat := [0,1,2,6]

def l87_1_b : ACode :=
 .seq (.seq (rg [mv 10 6,mv 11 2,op 12 (.bin .lss .int (tm 10) (tm 11))] [0,1,2,6,12])
 (.cond (tm 12) (.skip)
 (.exit 0)))
 (.seq (.block 1 (.seq (rg [mv 15 6,mv 7 15] [0,1,2,6,7])
 (.block 2 (.loop l87_0_h l87_0_b))))
 (rg [mv 13 6,op 14 (.bin .add .int (tm 13) (ci (1))),mv 6 14] [0,1,2,6]))

def c87 : ACode :=
 .seq (rg [mv 8 1,op 9 (.bin .add .int (tm 8) (ci (1))),mv 6 9] [0,1,2,6])
 (.block 0 (.loop l87_1_h l87_1_b))

def a87 : AFunc := ⟨3,c87,[]⟩

def an87 : List RAnn := [
 ra 0 [0,1,2,6],rh 1 [0,1,2,6,12] [0,1,2,6],ra 3 [0,1,2,6,7],
 { id := 4,head := some 15,live := [0,1,2,6,7,30],hdr := [0,1,2,6,7] },
 { id := 6,head := some 18,live := [0,1,2,6,7],par := true },
 ra 5 [0,1,2,6,7],ra 2 [0,1,2,6]]

theorem comp87 : compF Tryz.prog an87 Tryz.f87 = some a87 := by kernel_rfl

/- cmp.Less[int] -/
def c93 : ACode :=
 .seq (rg [op 4 (.mov (.cst (.bool false)))] [0,1])
 (.seq (rg [mv 5 0,op 6 (.call .pure 100 [(tm 5)]),mv 7 6,mg 8 1 7 true,⟨some 9,.call .pure 100 [(tm 8)],some (7,true)⟩,⟨some 10,.un .not (tm 9),some (7,true)⟩,op 11 (.pick (tm 7) (tm 10) (.cst (.bool false))),mv 12 11,mg 13 0 12 false,mg 14 1 12 false,⟨some 15,.bin .lss .int (tm 13) (tm 14),some (12,false)⟩,op 16 (.pick (tm 12) (.cst (.bool true)) (tm 15)),mv 4 16] [4])
 (.ret))

def a93 : AFunc := ⟨2,c93,[.tmp 4]⟩

def an93 : List RAnn := [
 ra 0 [0,1],ra 1 [4]]

theorem comp93 : compF Tryz.prog an93 Tryz.f93 = some a93 := by kernel_rfl

/- math/bits.Len32 -/
def c96 : ACode :=
 .seq (rg [op 2 (.mov (ci (0)))] [0,2])
 (.seq (.seq (rg [mv 3 0,op 4 (.bin .geq .int (tm 3) (.cst (.int .u32 65536)))] [0,2,4])
 (.cond (tm 4) (.seq (rg [mv 5 0,op 6 (.bin .shr .int (tm 5) (.cst (.int .u64 16))),mv 0 6] [0])
 (rg [op 2 (.mov (ci (16)))] [0,2]))
 (.skip)))
 (.seq (.seq (rg [mv 7 0,op 8 (.bin .geq .int (tm 7) (.cst (.int .u32 256)))] [0,2,8])
 (.cond (tm 8) (.seq (rg [mv 9 0,op 10 (.bin .shr .int (tm 9) (.cst (.int .u64 8))),mv 0 10] [0,2])
 (rg [mv 11 2,op 12 (.bin .add .int (tm 11) (ci (8))),mv 2 12] [0,2]))
 (.skip)))
 (.seq (rg [mv 13 2,mv 14 0,op 15 (.conv .u8 (tm 14)),op 16 (.sidx (.cst (.str [0,1,2,2,3,3,3,3,4,4,4,4,4,4,4,4,5,5,5,5,5,5,5,5,5,5,5,5,5,5,5,5,6,6,6,6,6,6,6,6,6,6,6,6,6,6,6,6,6,6,6,6,6,6,6,6,6,6,6,6,6,6,6,6,7,7,7,7,7,7,7,7,7,7,7,7,7,7,7,7,7,7,7,7,7,7,7,7,7,7,7,7,7,7,7,7,7,7,7,7,7,7,7,7,7,7,7,7,7,7,7,7,7,7,7,7,7,7,7,7,7,7,7,7,7,7,7,7,8,8,8,8,8,8,8,8,8,8,8,8,8,8,8,8,8,8,8,8,8,8,8,8,8,8,8,8,8,8,8,8,8,8,8,8,8,8,8,8,8,8,8,8,8,8,8,8,8,8,8,8,8,8,8,8,8,8,8,8,8,8,8,8,8,8,8,8,8,8,8,8,8,8,8,8,8,8,8,8,8,8,8,8,8,8,8,8,8,8,8,8,8,8,8,8,8,8,8,8,8,8,8,8,8,8,8,8,8,8,8,8,8,8,8,8,8,8,8,8,8,8,8,8,8,8,8,8])) (tm 15)),op 17 (.conv .i64 (tm 16)),op 18 (.bin .add .int (tm 13) (tm 17)),mv 2 18] [2])
 (.ret))))

def a96 : AFunc := ⟨1,c96,[.tmp 2]⟩

def an96 : List RAnn := [
 ra 0 [0,2],ra 1 [0,2,4],ra 2 [0],ra 3 [0,2],ra 4 [0,2,8],ra 5 [0,2],ra 6 [0,2],ra 7 [2]]

theorem comp96 : compF Tryz.prog an96 Tryz.f96 = some a96 := by kernel_rfl

/- math/bits.Len64 -/
def c97 : ACode :=
 .seq (rg [op 2 (.mov (ci (0)))] [0,2])
 (.seq (.seq (rg [mv 3 0,op 4 (.bin .geq .int (tm 3) (.cst (.int .u64 4294967296)))] [0,2,4])
 (.cond (tm 4) (.seq (rg [mv 5 0,op 6 (.bin .shr .int (tm 5) (.cst (.int .u64 32))),mv 0 6] [0])
 (rg [op 2 (.mov (ci (32)))] [0,2]))
 (.skip)))
 (.seq (.seq (rg [mv 7 0,op 8 (.bin .geq .int (tm 7) (.cst (.int .u64 65536)))] [0,2,8])
 (.cond (tm 8) (.seq (rg [mv 9 0,op 10 (.bin .shr .int (tm 9) (.cst (.int .u64 16))),mv 0 10] [0,2])
 (rg [mv 11 2,op 12 (.bin .add .int (tm 11) (ci (16))),mv 2 12] [0,2]))
 (.skip)))
 (.seq (.seq (rg [mv 13 0,op 14 (.bin .geq .int (tm 13) (.cst (.int .u64 256)))] [0,2,14])
 (.cond (tm 14) (.seq (rg [mv 15 0,op 16 (.bin .shr .int (tm 15) (.cst (.int .u64 8))),mv 0 16] [0,2])
 (rg [mv 17 2,op 18 (.bin .add .int (tm 17) (ci (8))),mv 2 18] [0,2]))
 (.skip)))
 (.seq (rg [mv 19 2,mv 20 0,op 21 (.conv .u8 (tm 20)),op 22 (.sidx (.cst (.str [0,1,2,2,3,3,3,3,4,4,4,4,4,4,4,4,5,5,5,5,5,5,5,5,5,5,5,5,5,5,5,5,6,6,6,6,6,6,6,6,6,6,6,6,6,6,6,6,6,6,6,6,6,6,6,6,6,6,6,6,6,6,6,6,7,7,7,7,7,7,7,7,7,7,7,7,7,7,7,7,7,7,7,7,7,7,7,7,7,7,7,7,7,7,7,7,7,7,7,7,7,7,7,7,7,7,7,7,7,7,7,7,7,7,7,7,7,7,7,7,7,7,7,7,7,7,7,7,8,8,8,8,8,8,8,8,8,8,8,8,8,8,8,8,8,8,8,8,8,8,8,8,8,8,8,8,8,8,8,8,8,8,8,8,8,8,8,8,8,8,8,8,8,8,8,8,8,8,8,8,8,8,8,8,8,8,8,8,8,8,8,8,8,8,8,8,8,8,8,8,8,8,8,8,8,8,8,8,8,8,8,8,8,8,8,8,8,8,8,8,8,8,8,8,8,8,8,8,8,8,8,8,8,8,8,8,8,8,8,8,8,8,8,8,8,8,8,8,8,8,8,8,8,8,8,8])) (tm 21)),op 23 (.conv .i64 (tm 22)),op 24 (.bin .add .int (tm 19) (tm 23)),mv 2 24] [2])
 (.ret)))))

def a97 : AFunc := ⟨1,c97,[.tmp 2]⟩

def an97 : List RAnn := [
 ra 0 [0,2],ra 1 [0,2,4],ra 2 [0],ra 3 [0,2],ra 4 [0,2,8],ra 5 [0,2],ra 6 [0,2],ra 7 [0,2,14],ra 8 [0,2],ra 9 [0,2],ra 10 [2]]

theorem comp97 : compF Tryz.prog an97 Tryz.f97 = some a97 := by kernel_rfl

/- slices.IndexFunc[[]string,string] -/
/-- loop 0 of function 98 -/
def l98_0_h : List Nat := [0,1,7,8]

def l98_0_b : ACode :=
 .seq (rg [op 9 (.bin .lss .int (tm 8) (tm 7))] [0,1,7,8,9])
 (.seq (.cond (tm 9) (.skip)
 (.exit 0))
 (.seq (.block 1 (.seq (rg [mv 10 8,mv 5 10] [0,1,5,7,8])
 (.seq (rg [mv 11 1,mv 12 0,mv 13 5,op 14 (.iaddr 1 (tm 12) (tm 13)),op 15 (.load none (tm 14)),op 16 (.callv .pure (tm 11) [(tm 15)])] [0,1,5,7,8,16])
 (.cond (tm 16) (.seq (rg [mv 17 5,mv 4 17] [4])
 (.ret))
 (.skip)))))
 (rg [op 18 (.bin .add .int (tm 8) (ci (1))),mv 8 18] [0,1,7,8])))

def c98 : ACode :=
 .seq (rg [op 4 (.mov (ci (0)))] [0,1])
 (.seq (.seq (rg [mv 6 0,op 7 (.len .slice (tm 6)),op 8 (.mov (ci (0)))] [0,1,7,8])
 (.block 0 (.loop l98_0_h l98_0_b)))
 (.seq (rg [op 4 (.mov (ci ((-1))))] [4])
 (.ret)))

def a98 : AFunc := ⟨2,c98,[.tmp 4]⟩

def an98 : List RAnn := [
 ra 0 [0,1],ra 1 [0,1,7,8],rh 2 [0,1,7,8,9] [0,1,7,8],ra 3 [0,1,5,7,8],ra 4 [0,1,5,7,8,16],ra 5 [4],ra 6 [0,1,7,8],ra 7 [4]]

theorem comp98 : compF Tryz.prog an98 Tryz.f98 = some a98 := by kernel_rfl

/- graphdb/value.Valid -/
def c99 : ACode :=
 .seq (rg [op 1 (.box 5 (tm 0)),op 2 (.mov (.cst (.bool false)))] [1])
 (.seq (rg [op 3 (.load (some 5) (tm 1)),op 4 (.call .pure 127 [(tm 3),(ci (0))]),mv 2 4] [2])
 (.ret))

def a99 : AFunc := ⟨1,c99,[.tmp 2]⟩

def an99 : List RAnn := [
 ra 0 [1],ra 1 [2]]

theorem comp99 : compF Tryz.prog an99 Tryz.f99 = some a99 := by kernel_rfl

/- cmp.isNaN[int] -/
def c100 : ACode :=
 .seq (rg [op 2 (.mov (.cst (.bool false)))] [0])
 (.seq (rg [mv 3 0,mv 4 0,op 5 (.bin .neq .int (tm 3) (tm 4)),mv 2 5] [2])
 (.ret))

def a100 : AFunc := ⟨1,c100,[.tmp 2]⟩

def an100 : List RAnn := [
 ra 0 [0],ra 1 [2]]

theorem comp100 : compF Tryz.prog an100 Tryz.f100 = some a100 := by kernel_rfl

/- slices.Clone[[]graphdb/api.Prop,graphdb/api.Prop] -/
def c101 : ACode :=
 .seq (rg [op 2 (.mov (.cst (.sl false [])))] [0])
 (.seq (.seq (rg [mv 3 0,op 4 (.bin .eql .slice (tm 3) (.cst (.sl false [])))] [0,4])
 (.cond (tm 4) (.seq (rg [op 2 (.mov (.cst (.sl false [])))] [2])
 (.ret))
 (.skip)))
 (.seq (rg [op 5 (.lit true 6 (.agg [.str [],.int .i64 0,.int .i64 0,.int .i64 0,.str [],.sl false []]) 0 []),mv 6 0,op 7 (.append 6 80 (tm 5) (tm 6)),mv 2 7] [2])
 (.ret)))

def a101 : AFunc := ⟨1,c101,[.tmp 2]⟩

def an101 : List RAnn := [
 ra 0 [0],ra 1 [0,4],ra 2 [2],
 { id := 3,live := [2],ops := [(0,.own)] }]

theorem comp101 : compF Tryz.prog an101 Tryz.f101 = some a101 := by kernel_rfl

/- graphdb/graph.cloneValue -/
/-- loop 0 of function 102 -/
def l102_0_h : List Nat := [1,2,10,11]

def l102_0_b : ACode :=
 .seq (rg [op 12 (.bin .lss .int (tm 11) (tm 10))] [1,2,10,11,12])
 (.seq (.cond (tm 12) (.skip)
 (.exit 0))
 (.seq (.block 1 (.seq (rg [mv 13 11,mv 3 13] [1,2,3,10,11])
 (.region (some 10) [] [
 op 14 (.faddr 4 (tm 1)),op 15 (.load none (tm 14)),mv 16 3,op 17 (.faddr 4 (tm 1)),op 18 (.load none (tm 17)),mv 19 3,op 20 (.iaddr 5 (tm 18) (tm 19)),op 21 (.load (some 5) (tm 20)),op 22 (.call .pure 102 [(tm 21)]),op 23 (.iaddr 5 (tm 15) (tm 16)),⟨none,.store 5 (tm 23) (tm 22),none⟩] [1,2,10,11] none)))
 (rg [op 24 (.bin .add .int (tm 11) (ci (1))),mv 11 24] [1,2,10,11])))

def c102 : ACode :=
 .seq (rg [op 1 (.box 5 (tm 0)),op 2 (.alloc 5 (.agg [.int .i64 0,.int .i64 0,.int .i64 0,.str [],.sl false []]))] [1,2])
 (.seq (rg [op 4 (.faddr 4 (tm 1)),op 5 (.load none (tm 4)),op 6 (.call .own 128 [(tm 5)]),op 7 (.faddr 4 (tm 1)),⟨none,.store 1 (tm 7) (tm 6),none⟩] [1,2])
 (.seq (.seq (rg [op 8 (.faddr 4 (tm 1)),op 9 (.load none (tm 8)),op 10 (.len .slice (tm 9)),op 11 (.mov (ci (0)))] [1,2,10,11])
 (.block 0 (.loop l102_0_h l102_0_b)))
 (.seq (rg [op 25 (.load (some 5) (tm 1)),⟨none,.store 5 (tm 2) (tm 25),none⟩] [2])
 (.ret))))

def a102 : AFunc := ⟨1,c102,[.cell 2 (some 5)]⟩

def an102 : List RAnn := [
 ra 0 [1,2],
 { id := 1,live := [1,2],ops := [(2,.mode .own)] },
 ra 2 [1,2,10,11],rh 3 [1,2,10,11,12] [1,2,10,11],ra 4 [1,2,3,10,11],
 { id := 5,head := some 10,live := [1,2,10,11] },
 ra 6 [1,2,10,11],ra 7 [2]]

theorem comp102 : compF Tryz.prog an102 Tryz.f102 = some a102 := by kernel_rfl

/- slices.Index[[]string,string] -/
/-- loop 0 of function 103 -/
def l103_0_h : List Nat := [0,1,7,8]

def l103_0_b : ACode :=
 .seq (rg [op 9 (.bin .lss .int (tm 8) (tm 7))] [0,1,7,8,9])
 (.seq (.cond (tm 9) (.skip)
 (.exit 0))
 (.seq (.block 1 (.seq (rg [mv 10 8,mv 5 10] [0,1,5,7,8])
 (.seq (rg [mv 11 1,mv 12 0,mv 13 5,op 14 (.iaddr 1 (tm 12) (tm 13)),op 15 (.load none (tm 14)),op 16 (.bin .eql .str (tm 11) (tm 15))] [0,1,5,7,8,16])
 (.cond (tm 16) (.seq (rg [mv 17 5,mv 4 17] [4])
 (.ret))
 (.skip)))))
 (rg [op 18 (.bin .add .int (tm 8) (ci (1))),mv 8 18] [0,1,7,8])))

def c103 : ACode :=
 .seq (rg [op 4 (.mov (ci (0)))] [0,1])
 (.seq (.seq (rg [mv 6 0,op 7 (.len .slice (tm 6)),op 8 (.mov (ci (0)))] [0,1,7,8])
 (.block 0 (.loop l103_0_h l103_0_b)))
 (.seq (rg [op 4 (.mov (ci ((-1))))] [4])
 (.ret)))

def a103 : AFunc := ⟨2,c103,[.tmp 4]⟩

def an103 : List RAnn := [
 ra 0 [0,1],ra 1 [0,1,7,8],rh 2 [0,1,7,8,9] [0,1,7,8],ra 3 [0,1,5,7,8],ra 4 [0,1,5,7,8,16],ra 5 [4],ra 6 [0,1,7,8],ra 7 [4]]

theorem comp103 : compF Tryz.prog an103 Tryz.f103 = some a103 := by kernel_rfl

/- graphdb/value.order -/
def c104 : ACode :=
 .seq (rg [op 2 (.box 5 (tm 0)),op 3 (.box 5 (tm 1)),op 4 (.mov (ci (0)))] [2,3])
 (.seq (.seq (.region (some 6) [] [
 op 10 (.load (some 5) (tm 2)),op 11 (.call .pure 129 [(tm 10)]),op 12 (.load (some 5) (tm 3)),op 13 (.call .pure 129 [(tm 12)]),op 14 (.call .pure 63 [(tm 11),(tm 13)]),mv 5 14] [2,3,5] none)
 (.seq (rg [mv 15 5,op 16 (.bin .neq .int (tm 15) (ci (0)))] [2,3,5,16])
 (.cond (tm 16) (.seq (rg [mv 17 5,mv 4 17] [4])
 (.ret))
 (.skip))))
 (.seq (.seq (rg [op 18 (.load (some 5) (tm 2)),op 19 (.call .pure 129 [(tm 18)]),op 20 (.bin .eql .int (tm 19) (ci (2)))] [2,3,20])
 (.cond (tm 20) (.seq (rg [op 22 (.load (some 5) (tm 2)),op 23 (.call .pure 130 [(tm 22)]),mv 21 23,op 24 (.ext (tm 21) 0),op 25 (.ext (tm 21) 1),op 6 (.alloc 2 (.agg [.int .i64 0,.int .i64 0])),⟨none,.store 2 (tm 6) (tm 24),none⟩,mv 7 25] [3,6])
 (.seq (rg [op 27 (.load (some 5) (tm 3)),op 28 (.call .pure 130 [(tm 27)]),mv 26 28,op 29 (.ext (tm 26) 0),op 30 (.ext (tm 26) 1),op 8 (.alloc 2 (.agg [.int .i64 0,.int .i64 0])),⟨none,.store 2 (tm 8) (tm 29),none⟩,mv 9 30] [6,8])
 (.seq (rg [op 31 (.load (some 2) (tm 6)),op 32 (.load (some 2) (tm 8)),op 33 (.call .pure 131 [(tm 31),(tm 32)]),mv 4 33] [4])
 (.ret))))
 (.skip)))
 (.seq (.region (some 18) [] [
 op 34 (.faddr 3 (tm 2)),op 35 (.load none (tm 34)),op 36 (.faddr 3 (tm 3)),op 37 (.load none (tm 36)),op 38 (.call .pure 106 [(tm 35),(tm 37)]),op 39 (.faddr 1 (tm 2)),op 40 (.load none (tm 39)),op 41 (.faddr 1 (tm 3)),op 42 (.load none (tm 41)),op 43 (.call .pure 63 [(tm 40),(tm 42)]),op 44 (.faddr 4 (tm 2)),op 45 (.load none (tm 44)),op 46 (.faddr 4 (tm 3)),op 47 (.load none (tm 46)),op 48 (.call .pure 107 [(tm 45),(tm 47),(.cst (.fn 104 []))]),op 49 (.lit false 1 (.int .i64 0) 3 [(0,(tm 38)),(1,(tm 43)),(2,(tm 48))]),op 50 (.call .pure 105 [(tm 49)]),mv 4 50] [4] none)
 (.ret))))

def a104 : AFunc := ⟨2,c104,[.tmp 4]⟩

def an104 : List RAnn := [
 ra 0 [2,3],
 { id := 1,head := some 6,live := [2,3,5] },
 ra 2 [2,3,5,16],ra 3 [4],ra 4 [2,3,20],ra 5 [3,6],ra 6 [6,8],ra 7 [4],
 { id := 8,head := some 18,live := [4] }]

theorem comp104 : compF Tryz.prog an104 Tryz.f104 = some a104 := by kernel_rfl

/- cmp.Or[int] -/
/-- loop 0 of function 105 -/
def l105_0_h : List Nat := [3,6,7,8]

def l105_0_b : ACode :=
 .seq (rg [op 9 (.bin .lss .int (tm 8) (tm 7))] [3,6,7,8,9])
 (.seq (.cond (tm 9) (.skip)
 (.exit 0))
 (.seq (.block 1 (.seq (rg [op 10 (.iaddr 1 (tm 6) (tm 8)),op 11 (.load none (tm 10)),mv 5 11] [3,5,6,7,8])
 (.seq (rg [mv 12 5,mv 13 3,op 14 (.bin .neq .int (tm 12) (tm 13))] [3,5,6,7,8,14])
 (.cond (tm 14) (.seq (rg [mv 15 5,mv 2 15] [2])
 (.ret))
 (.skip)))))
 (rg [op 16 (.bin .add .int (tm 8) (ci (1))),mv 8 16] [3,6,7,8])))

def c105 : ACode :=
 .seq (rg [op 2 (.mov (ci (0)))] [0])
 (.seq (rg [op 3 (.mov (ci (0)))] [0,3])
 (.seq (.seq (rg [mv 6 0,op 7 (.len .slice (tm 6)),op 8 (.mov (ci (0)))] [3,6,7,8])
 (.block 0 (.loop l105_0_h l105_0_b)))
 (.seq (rg [mv 17 3,mv 2 17] [2])
 (.ret))))

def a105 : AFunc := ⟨1,c105,[.tmp 2]⟩

def an105 : List RAnn := [
 ra 0 [0],ra 1 [0,3],ra 2 [3,6,7,8],rh 3 [3,6,7,8,9] [3,6,7,8],ra 4 [3,5,6,7,8],ra 5 [3,5,6,7,8,14],ra 6 [2],ra 7 [3,6,7,8],ra 8 [2]]

theorem comp105 : compF Tryz.prog an105 Tryz.f105 = some a105 := by kernel_rfl

/- cmp.Compare[string] -/
def c106 : ACode :=
 .seq (rg [op 4 (.mov (ci (0)))] [0,1])
 (.seq (rg [mv 7 0,op 8 (.call .pure 132 [(tm 7)]),mv 5 8] [0,1,5])
 (.seq (rg [mv 9 1,op 10 (.call .pure 132 [(tm 9)]),mv 6 10] [0,1,5,6])
 (.seq (.seq (rg [mv 11 5] [0,1,6,11])
 (.cond (tm 11) (.seq (.seq (rg [mv 12 6] [12])
 (.cond (tm 12) (.seq (rg [op 4 (.mov (ci (0)))] [4])
 (.ret))
 (.skip)))
 (.seq (rg [op 4 (.mov (ci ((-1))))] [4])
 (.ret)))
 (.skip)))
 (.seq (.seq (rg [mv 13 6] [0,1,13])
 (.cond (tm 13) (.seq (rg [op 4 (.mov (ci (1)))] [4])
 (.ret))
 (.skip)))
 (.seq (.seq (rg [mv 14 0,mv 15 1,op 16 (.bin .lss .str (tm 14) (tm 15))] [0,1,16])
 (.cond (tm 16) (.seq (rg [op 4 (.mov (ci ((-1))))] [4])
 (.ret))
 (.skip)))
 (.seq (.seq (rg [mv 17 0,mv 18 1,op 19 (.bin .gtr .str (tm 17) (tm 18))] [19])
 (.cond (tm 19) (.seq (rg [op 4 (.mov (ci (1)))] [4])
 (.ret))
 (.skip)))
 (.seq (rg [op 4 (.mov (ci (0)))] [4])
 (.ret))))))))

def a106 : AFunc := ⟨2,c106,[.tmp 4]⟩

def an106 : List RAnn := [
 ra 0 [0,1],ra 1 [0,1,5],ra 2 [0,1,5,6],ra 3 [0,1,6,11],ra 4 [12],ra 5 [4],ra 6 [4],ra 7 [0,1,13],ra 8 [4],ra 9 [0,1,16],ra 10 [4],ra 11 [19],ra 12 [4],ra 13 [4]]

theorem comp106 : compF Tryz.prog an106 Tryz.f106 = some a106 := by kernel_rfl

/- slices.CompareFunc[[]graphdb/api.Value,[]graphdb/api.Value,graphdb/api.Value,graphdb/api.Value] -/
/-- loop 0 of function 107 -/
def l107_0_h : List Nat := [0,1,2,11,12,13]

def l107_0_b : ACode :=
 .seq (rg [op 14 (.bin .lss .int (tm 13) (tm 12))] [0,1,2,11,12,13,14])
 (.seq (.cond (tm 14) (.skip)
 (.exit 0))
 (.seq (.block 1 (.seq (rg [mv 15 13,op 16 (.iaddr 5 (tm 11) (tm 13)),op 17 (.load (some 5) (tm 16)),op 8 (.alloc 5 (.agg [.int .i64 0,.int .i64 0,.int .i64 0,.str [],.sl false []])),mv 7 15,⟨none,.store 5 (tm 8) (tm 17),none⟩] [0,1,2,7,8,11,12,13])
 (.seq (.seq (rg [mv 18 7,mv 19 1,op 20 (.len .slice (tm 19)),op 21 (.bin .geq .int (tm 18) (tm 20))] [0,1,2,7,8,11,12,13,21])
 (.cond (tm 21) (.seq (rg [op 6 (.mov (ci (1)))] [6])
 (.ret))
 (.skip)))
 (.seq (rg [mv 22 1,mv 23 7,op 24 (.iaddr 5 (tm 22) (tm 23)),op 25 (.load (some 5) (tm 24)),op 9 (.alloc 5 (.agg [.int .i64 0,.int .i64 0,.int .i64 0,.str [],.sl false []])),⟨none,.store 5 (tm 9) (tm 25),none⟩] [0,1,2,8,9,11,12,13])
 (.seq (rg [mv 26 2,op 27 (.load (some 5) (tm 8)),op 28 (.load (some 5) (tm 9)),op 29 (.callv .pure (tm 26) [(tm 27),(tm 28)]),mv 10 29] [0,1,2,10,11,12,13])
 (.seq (rg [mv 30 10,op 31 (.bin .neq .int (tm 30) (ci (0)))] [0,1,2,10,11,12,13,31])
 (.cond (tm 31) (.seq (rg [mv 32 10,mv 6 32] [6])
 (.ret))
 (.skip))))))))
 (.region none [] [op 33 (.bin .add .int (tm 13) (ci (1))),mv 13 33] [0,1,2,11,12,13] (some 0))))

def c107 : ACode :=
 .seq (rg [op 6 (.mov (ci (0)))] [0,1,2])
 (.seq (.seq (rg [mv 11 0,op 12 (.len .slice (tm 11)),op 13 (.mov (ci (0)))] [0,1,2,11,12,13])
 (.block 0 (.loop l107_0_h l107_0_b)))
 (.seq (.seq (rg [mv 34 0,op 35 (.len .slice (tm 34)),mv 36 1,op 37 (.len .slice (tm 36)),op 38 (.bin .lss .int (tm 35) (tm 37))] [38])
 (.cond (tm 38) (.seq (rg [op 6 (.mov (ci ((-1))))] [6])
 (.ret))
 (.skip)))
 (.seq (rg [op 6 (.mov (ci (0)))] [6])
 (.ret))))

def a107 : AFunc := ⟨3,c107,[.tmp 6]⟩

def an107 : List RAnn := [
 ra 0 [0,1,2],ra 1 [0,1,2,11,12,13],rh 2 [0,1,2,11,12,13,14] [0,1,2,11,12,13],ra 3 [0,1,2,7,8,11,12,13],ra 4 [0,1,2,7,8,11,12,13,21],ra 5 [6],ra 6 [0,1,2,8,9,11,12,13],ra 7 [0,1,2,10,11,12,13],ra 8 [0,1,2,10,11,12,13,31],ra 9 [6],
 { id := 10,live := [0,1,2,11,12,13],trunc := some 0 },
 ra 11 [38],ra 12 [6],ra 13 [6]]

theorem comp107 : compF Tryz.prog an107 Tryz.f107 = some a107 := by kernel_rfl

/- graphdb/value.Null -/
def c108 : ACode :=
 .seq (rg [op 0 (.alloc 5 (.agg [.int .i64 0,.int .i64 0,.int .i64 0,.str [],.sl false []]))] [0])
 (.seq (rg [op 1 (.build [.int .i64 0,.int .i64 0,.int .i64 0,.str [],.sl false []] []),⟨none,.store 5 (tm 0) (tm 1),none⟩] [0])
 (.ret))

def a108 : AFunc := ⟨0,c108,[.cell 0 (some 5)]⟩

def an108 : List RAnn := [
 ra 0 [0],ra 1 [0]]

theorem comp108 : compF Tryz.prog an108 Tryz.f108 = some a108 := by kernel_rfl

/- graphdb/graphdbref07.keys -/
/-- loop 0 of function 109 -/
def l109_0_h : List Nat := [0,3,4]

def l109_0_b : ACode :=
 .seq (.seq (rg [mv 5 4,mv 6 0,op 7 (.len .slice (tm 6)),op 8 (.bin .lss .int (tm 5) (tm 7))] [0,3,4,8])
 (.cond (tm 8) (.skip)
 (.exit 0)))
 (.seq (.block 1 (rg [mv 11 3,mv 12 0,mv 13 4,op 14 (.iaddr 6 (tm 12) (tm 13)),op 15 (.faddr 0 (tm 14)),op 16 (.load none (tm 15)),op 17 (.lit false 1 (.str []) 1 [(0,(tm 16))]),op 18 (.append 1 16 (tm 11) (tm 17)),mv 3 18] [0,3,4]))
 (rg [mv 9 4,op 10 (.bin .add .int (tm 9) (ci (1))),mv 4 10] [0,3,4]))

def c109 : ACode :=
 .seq (rg [op 2 (.mov (.cst (.sl false [])))] [0])
 (.seq (rg [op 3 (.newown 1)] [0,3])
 (.seq (.seq (rg [op 4 (.mov (ci (0)))] [0,3,4])
 (.block 0 (.loop l109_0_h l109_0_b)))
 (.seq (rg [mv 19 3,mv 2 19] [2])
 (.ret))))

def a109 : AFunc := ⟨1,c109,[.tmp 2]⟩

def an109 : List RAnn := [
 ra 0 [0],
 { id := 1,live := [0,3],ops := [(0,.own)] },
 ra 2 [0,3,4],rh 3 [0,3,4,8] [0,3,4],ra 5 [0,3,4],ra 4 [0,3,4],ra 6 [2]]

theorem comp109 : compF Tryz.prog an109 Tryz.f109 = some a109 := by kernel_rfl

/- graphdb/graphdbref07.Names -/
/-- loop 0 of function 110 -/
def l110_0_h : List Nat := [0,3]

def l110_0_b : ACode :=
 .seq (.seq (rg [mv 4 3,mv 5 0,op 6 (.len .slice (tm 5)),op 7 (.bin .lss .int (tm 4) (tm 6))] [0,3,7])
 (.cond (tm 7) (.skip)
 (.exit 0)))
 (.seq (.block 1 (.seq (rg [mv 10 0,mv 11 3,op 12 (.iaddr 1 (tm 10) (tm 11)),op 13 (.load none (tm 12)),op 14 (.call .pure 71 [(tm 13)]),op 15 (.un .not (tm 14))] [0,3,15])
 (.cond (tm 15) (.seq (rg [op 2 (.mov (.cst (.bool false)))] [2])
 (.ret))
 (.skip))))
 (rg [mv 8 3,op 9 (.bin .add .int (tm 8) (ci (1))),mv 3 9] [0,3]))

def c110 : ACode :=
 .seq (rg [op 2 (.mov (.cst (.bool false)))] [0])
 (.seq (.seq (rg [op 3 (.mov (ci (0)))] [0,3])
 (.block 0 (.loop l110_0_h l110_0_b)))
 (.seq (rg [op 2 (.mov (.cst (.bool true)))] [2])
 (.ret)))

def a110 : AFunc := ⟨1,c110,[.tmp 2]⟩

def an110 : List RAnn := [
 ra 0 [0],ra 1 [0,3],rh 2 [0,3,7] [0,3],ra 4 [0,3,15],ra 5 [2],ra 3 [0,3],ra 6 [2]]

theorem comp110 : compF Tryz.prog an110 Tryz.f110 = some a110 := by kernel_rfl

/- graphdb/graphdbref07.Rises -/
/-- loop 0 of function 111 -/
def l111_0_h : List Nat := [0,3]

def l111_0_b : ACode :=
 .seq (.seq (rg [mv 4 3,mv 5 0,op 6 (.len .slice (tm 5)),op 7 (.bin .lss .int (tm 4) (tm 6))] [0,3,7])
 (.cond (tm 7) (.skip)
 (.exit 0)))
 (.seq (.block 1 (.seq (.region (some 10) [] [
 mv 10 0,mv 11 3,op 12 (.iaddr 1 (tm 10) (tm 11)),op 13 (.load none (tm 12)),mv 14 0,mv 15 3,op 16 (.bin .sub .int (tm 15) (ci (1))),op 17 (.iaddr 1 (tm 14) (tm 16)),op 18 (.load none (tm 17)),op 19 (.bin .leq .str (tm 13) (tm 18))] [0,3,19] none)
 (.cond (tm 19) (.seq (rg [op 2 (.mov (.cst (.bool false)))] [2])
 (.ret))
 (.skip))))
 (rg [mv 8 3,op 9 (.bin .add .int (tm 8) (ci (1))),mv 3 9] [0,3]))

def c111 : ACode :=
 .seq (rg [op 2 (.mov (.cst (.bool false)))] [0])
 (.seq (.seq (rg [op 3 (.mov (ci (1)))] [0,3])
 (.block 0 (.loop l111_0_h l111_0_b)))
 (.seq (rg [op 2 (.mov (.cst (.bool true)))] [2])
 (.ret)))

def a111 : AFunc := ⟨1,c111,[.tmp 2]⟩

def an111 : List RAnn := [
 ra 0 [0],ra 1 [0,3],rh 2 [0,3,7] [0,3],
 { id := 4,head := some 10,live := [0,3,19] },
 ra 5 [2],ra 3 [0,3],ra 6 [2]]

theorem comp111 : compF Tryz.prog an111 Tryz.f111 = some a111 := by kernel_rfl

/- graphdb/graphdbref04.Plain -/
def c112 : ACode :=
 .seq (rg [op 1 (.box 5 (tm 0)),op 2 (.mov (.cst (.bool false)))] [1])
 (.seq (rg [op 3 (.load (some 5) (tm 1)),op 4 (.call .pure 80 [(tm 3)]),mv 5 4,⟨some 6,.faddr 0 (tm 1),some (5,true)⟩,⟨some 7,.load none (tm 6),some (5,true)⟩,⟨some 8,.bin .eql .int (tm 7) (ci (1)),some (5,true)⟩,mg 9 8 5 true,⟨some 10,.faddr 0 (tm 1),some (9,false)⟩,⟨some 11,.load none (tm 10),some (9,false)⟩,⟨some 12,.bin .eql .int (tm 11) (ci (2)),some (9,false)⟩,⟨some 13,.pick (tm 9) (.cst (.bool true)) (tm 12),some (5,true)⟩,mg 14 13 5 true,⟨some 15,.faddr 0 (tm 1),some (14,false)⟩,⟨some 16,.load none (tm 15),some (14,false)⟩,⟨some 17,.bin .eql .int (tm 16) (ci (4)),some (14,false)⟩,⟨some 18,.pick (tm 14) (.cst (.bool true)) (tm 17),some (5,true)⟩,op 19 (.pick (tm 5) (tm 18) (.cst (.bool false))),mv 2 19] [2])
 (.ret))

def a112 : AFunc := ⟨1,c112,[.tmp 2]⟩

def an112 : List RAnn := [
 ra 0 [1],ra 1 [2]]

theorem comp112 : compF Tryz.prog an112 Tryz.f112 = some a112 := by kernel_rfl

/- graphdb/graphdbref07.letter -/
def c113 : ACode :=
 .seq (rg [op 2 (.mov (.cst (.bool false)))] [0])
 (.seq (rg [mv 3 0,op 4 (.bin .geq .int (tm 3) (.cst (.int .u8 97))),mv 5 4,mg 6 0 5 true,⟨some 7,.bin .leq .int (tm 6) (.cst (.int .u8 122)),some (5,true)⟩,op 8 (.pick (tm 5) (tm 7) (.cst (.bool false))),mv 9 8,mg 10 0 9 false,⟨some 11,.bin .geq .int (tm 10) (.cst (.int .u8 65)),some (9,false)⟩,mg 12 11 9 false,mg 13 0 12 true,⟨some 14,.bin .leq .int (tm 13) (.cst (.int .u8 90)),some (12,true)⟩,⟨some 15,.pick (tm 12) (tm 14) (.cst (.bool false)),some (9,false)⟩,op 16 (.pick (tm 9) (.cst (.bool true)) (tm 15)),mv 2 16] [2])
 (.ret))

def a113 : AFunc := ⟨1,c113,[.tmp 2]⟩

def an113 : List RAnn := [
 ra 0 [0],ra 1 [2]]

theorem comp113 : compF Tryz.prog an113 Tryz.f113 = some a113 := by kernel_rfl

/- graphdb/graphdbref04.valid -/
def c114 : ACode :=
 .seq (rg [op 2 (.box 5 (tm 0)),op 4 (.mov (.cst (.bool false)))] [1,2])
 (.seq (.seq (rg [op 5 (.faddr 0 (tm 2)),op 6 (.load none (tm 5))] [1,2,6])
 (.block 0 (.seq (rg [op 8 (.bin .eql .int (tm 6) (ci (0))),mv 7 8] [1,2,6,7])
 (.cond (tm 7) (.seq (rg [op 9 (.load (some 5) (tm 2)),op 10 (.call .pure 133 [(tm 9),(.cst (.bool false)),(.cst (.bool false)),(.cst (.bool false)),(.cst (.bool false))]),mv 4 10] [4])
 (.ret))
 (.seq (rg [op 12 (.bin .eql .int (tm 6) (ci (1))),mv 11 12] [1,2,6,11])
 (.cond (tm 11) (.seq (rg [op 13 (.load (some 5) (tm 2)),op 14 (.call .pure 133 [(tm 13),(.cst (.bool true)),(.cst (.bool false)),(.cst (.bool false)),(.cst (.bool false))]),mv 15 14,⟨some 16,.faddr 1 (tm 2),some (15,true)⟩,⟨some 17,.load none (tm 16),some (15,true)⟩,⟨some 18,.bin .eql .int (tm 17) (ci (0)),some (15,true)⟩,mg 19 18 15 true,⟨some 20,.faddr 1 (tm 2),some (19,false)⟩,⟨some 21,.load none (tm 20),some (19,false)⟩,⟨some 22,.bin .eql .int (tm 21) (ci (1)),some (19,false)⟩,⟨some 23,.pick (tm 19) (.cst (.bool true)) (tm 22),some (15,true)⟩,op 24 (.pick (tm 15) (tm 23) (.cst (.bool false))),mv 4 24] [4])
 (.ret))
 (.seq (rg [op 26 (.bin .eql .int (tm 6) (ci (2))),mv 25 26] [1,2,6,25])
 (.cond (tm 25) (.seq (rg [op 27 (.load (some 5) (tm 2)),op 28 (.call .pure 133 [(tm 27),(.cst (.bool true)),(.cst (.bool false)),(.cst (.bool false)),(.cst (.bool false))]),mv 29 28,⟨some 30,.faddr 1 (tm 2),some (29,true)⟩,⟨some 31,.load none (tm 30),some (29,true)⟩,⟨some 32,.call .pure 134 [(tm 31)],some (29,true)⟩,op 33 (.pick (tm 29) (tm 32) (.cst (.bool false))),mv 4 33] [4])
 (.ret))
 (.seq (rg [op 35 (.bin .eql .int (tm 6) (ci (3))),mv 34 35] [1,2,6,34])
 (.cond (tm 34) (.seq (rg [op 36 (.load (some 5) (tm 2)),op 37 (.call .pure 133 [(tm 36),(.cst (.bool true)),(.cst (.bool true)),(.cst (.bool false)),(.cst (.bool false))]),mv 38 37,⟨some 39,.faddr 2 (tm 2),some (38,true)⟩,⟨some 40,.load none (tm 39),some (38,true)⟩,⟨some 41,.bin .geq .int (tm 40) (ci (2)),some (38,true)⟩,op 42 (.pick (tm 38) (tm 41) (.cst (.bool false))),mv 43 42,⟨some 44,.faddr 1 (tm 2),some (43,true)⟩,⟨some 45,.load none (tm 44),some (43,true)⟩,⟨some 46,.faddr 2 (tm 2),some (43,true)⟩,⟨some 47,.load none (tm 46),some (43,true)⟩,⟨some 48,.build [.int .i64 0,.int .i64 0] [(0,1,(tm 45)),(1,1,(tm 47))],some (43,true)⟩,⟨some 49,.call .pure 117 [(tm 48)],some (43,true)⟩,op 50 (.pick (tm 43) (tm 49) (.cst (.bool false))),mv 4 50] [4])
 (.ret))
 (.seq (rg [op 52 (.bin .eql .int (tm 6) (ci (4))),mv 51 52] [1,2,6,51])
 (.cond (tm 51) (.seq (rg [op 53 (.load (some 5) (tm 2)),op 54 (.call .pure 133 [(tm 53),(.cst (.bool false)),(.cst (.bool false)),(.cst (.bool true)),(.cst (.bool false))]),mv 55 54,⟨some 56,.faddr 3 (tm 2),some (55,true)⟩,⟨some 57,.load none (tm 56),some (55,true)⟩,⟨some 58,.call .pure 135 [(tm 57)],some (55,true)⟩,op 59 (.pick (tm 55) (tm 58) (.cst (.bool false))),mv 4 59] [4])
 (.ret))
 (.seq (.seq (rg [op 61 (.bin .eql .int (tm 6) (ci (5))),mv 60 61] [1,2,6,60])
 (.cond (tm 60) (.skip)
 (rg [op 62 (.bin .eql .int (tm 6) (ci (6))),mv 60 62] [1,2,6,60])))
 (.cond (tm 60) (.seq (rg [op 63 (.load (some 5) (tm 2)),op 64 (.call .pure 133 [(tm 63),(.cst (.bool true)),(.cst (.bool false)),(.cst (.bool false)),(.cst (.bool false))]),mv 65 64,⟨some 66,.faddr 1 (tm 2),some (65,true)⟩,⟨some 67,.load none (tm 66),some (65,true)⟩,⟨some 68,.bin .geq .int (tm 67) (ci (1)),some (65,true)⟩,op 69 (.pick (tm 65) (tm 68) (.cst (.bool false))),mv 70 69,⟨some 71,.faddr 1 (tm 2),some (70,true)⟩,⟨some 72,.load none (tm 71),some (70,true)⟩,⟨some 73,.bin .leq .int (tm 72) (ci (1000000)),some (70,true)⟩,op 74 (.pick (tm 70) (tm 73) (.cst (.bool false))),mv 4 74] [4])
 (.ret))
 (.seq (rg [op 76 (.bin .eql .int (tm 6) (ci (7))),mv 75 76] [1,2,6,75])
 (.cond (tm 75) (.seq (rg [op 77 (.load (some 5) (tm 2)),op 78 (.call .pure 133 [(tm 77),(.cst (.bool false)),(.cst (.bool false)),(.cst (.bool false)),(.cst (.bool true))]),mv 79 78,⟨some 80,.faddr 4 (tm 2),some (79,true)⟩,⟨some 81,.load none (tm 80),some (79,true)⟩,⟨some 82,.call .pure 136 [(tm 81)],some (79,true)⟩,op 83 (.pick (tm 79) (tm 82) (.cst (.bool false))),mv 4 83] [4])
 (.ret))
 (.seq (rg [op 85 (.bin .eql .int (tm 6) (ci (8))),mv 84 85] [1,2,84])
 (.cond (tm 84) (.seq (rg [op 86 (.load (some 5) (tm 2)),op 87 (.call .pure 133 [(tm 86),(.cst (.bool false)),(.cst (.bool false)),(.cst (.bool false)),(.cst (.bool true))]),mv 88 87,⟨some 89,.faddr 4 (tm 2),some (88,true)⟩,⟨some 90,.load none (tm 89),some (88,true)⟩,mg 91 1 88 true,⟨some 92,.call .pure 137 [(tm 90),(tm 91)],some (88,true)⟩,op 93 (.pick (tm 88) (tm 92) (.cst (.bool false))),mv 4 93] [4])
 (.ret))
 (.skip)))))))))))))))))))
 (.seq (rg [op 4 (.mov (.cst (.bool false)))] [4])
 (.ret)))

def a114 : AFunc := ⟨2,c114,[.tmp 4]⟩

def an114 : List RAnn := [
 ra 0 [1,2],ra 1 [1,2,6],ra 2 [1,2,6,7],ra 3 [4],ra 4 [1,2,6,11],ra 5 [4],ra 6 [1,2,6,25],ra 7 [4],ra 8 [1,2,6,34],ra 9 [4],ra 10 [1,2,6,51],ra 11 [4],ra 12 [1,2,6,60],ra 13 [1,2,6,60],ra 14 [4],ra 15 [1,2,6,75],ra 16 [4],ra 17 [1,2,84],ra 18 [4],ra 19 [4]]

theorem comp114 : compF Tryz.prog an114 Tryz.f114 = some a114 := by kernel_rfl

/- graphdb/graphdbref04.strs -/
def c115 : ACode :=
 .seq (rg [op 4 (.mov (ci (0)))] [0,1])
 (.seq (.seq (rg [mv 5 0,mv 6 1,op 7 (.bin .lss .str (tm 5) (tm 6))] [0,1,7])
 (.cond (tm 7) (.seq (rg [op 4 (.mov (ci ((-1))))] [4])
 (.ret))
 (.skip)))
 (.seq (.seq (rg [mv 8 0,mv 9 1,op 10 (.bin .gtr .str (tm 8) (tm 9))] [10])
 (.cond (tm 10) (.seq (rg [op 4 (.mov (ci (1)))] [4])
 (.ret))
 (.skip)))
 (.seq (rg [op 4 (.mov (ci (0)))] [4])
 (.ret))))

def a115 : AFunc := ⟨2,c115,[.tmp 4]⟩

def an115 : List RAnn := [
 ra 0 [0,1],ra 1 [0,1,7],ra 2 [4],ra 3 [10],ra 4 [4],ra 5 [4]]

theorem comp115 : compF Tryz.prog an115 Tryz.f115 = some a115 := by kernel_rfl

/- graphdb/graphdbref04.lists -/
/-- loop 0 of function 116 -/
def l116_0_h : List Nat := [0,1,5]

def l116_0_b : ACode :=
 .seq (.seq (rg [mv 7 5,mv 8 0,op 9 (.len .slice (tm 8)),op 10 (.bin .lss .int (tm 7) (tm 9)),mv 11 10,mg 12 5 11 true,mg 13 1 11 true,⟨some 14,.len .slice (tm 13),some (11,true)⟩,⟨some 15,.bin .lss .int (tm 12) (tm 14),some (11,true)⟩,op 16 (.pick (tm 11) (tm 15) (.cst (.bool false)))] [0,1,5,16])
 (.cond (tm 16) (.skip)
 (.exit 0)))
 (.seq (.block 1 (.seq (.region (some 10) [] [
 mv 19 0,mv 20 5,op 21 (.iaddr 5 (tm 19) (tm 20)),op 22 (.load (some 5) (tm 21)),mv 23 1,mv 24 5,op 25 (.iaddr 5 (tm 23) (tm 24)),op 26 (.load (some 5) (tm 25)),op 27 (.call .pure 53 [(tm 22),(tm 26)]),mv 6 27] [0,1,5,6] none)
 (.seq (rg [mv 28 6,op 29 (.bin .neq .int (tm 28) (ci (0)))] [0,1,5,6,29])
 (.cond (tm 29) (.seq (rg [mv 30 6,mv 4 30] [4])
 (.ret))
 (.skip)))))
 (rg [mv 17 5,op 18 (.bin .add .int (tm 17) (ci (1))),mv 5 18] [0,1,5]))

def c116 : ACode :=
 .seq (rg [op 4 (.mov (ci (0)))] [0,1])
 (.seq (.seq (rg [op 5 (.mov (ci (0)))] [0,1,5])
 (.block 0 (.loop l116_0_h l116_0_b)))
 (.seq (rg [mv 31 0,op 32 (.len .slice (tm 31)),mv 33 1,op 34 (.len .slice (tm 33)),op 35 (.call .pure 83 [(tm 32),(tm 34)]),mv 4 35] [4])
 (.ret)))

def a116 : AFunc := ⟨2,c116,[.tmp 4]⟩

def an116 : List RAnn := [
 ra 0 [0,1],ra 1 [0,1,5],rh 2 [0,1,5,16] [0,1,5],
 { id := 4,head := some 10,live := [0,1,5,6] },
 ra 5 [0,1,5,6,29],ra 6 [4],ra 3 [0,1,5],ra 7 [4]]

theorem comp116 : compF Tryz.prog an116 Tryz.f116 = some a116 := by kernel_rfl

/- graphdb/graphdbref03.Valid -/
def c117 : ACode :=
 .seq (rg [op 1 (.box 2 (tm 0)),op 2 (.mov (.cst (.bool false)))] [1])
 (.seq (.region (some 28) [] [
 op 3 (.faddr 1 (tm 1)),op 4 (.load none (tm 3)),op 5 (.bin .geq .int (tm 4) (ci (1))),mv 6 5,⟨some 7,.faddr 1 (tm 1),some (6,true)⟩,⟨some 8,.load none (tm 7),some (6,true)⟩,⟨some 9,.bin .leq .int (tm 8) (ci (1000000000000000)),some (6,true)⟩,op 10 (.pick (tm 6) (tm 9) (.cst (.bool false))),mv 11 10,⟨some 12,.faddr 0 (tm 1),some (11,true)⟩,⟨some 13,.load none (tm 12),some (11,true)⟩,⟨some 14,.bin .geq .int (tm 13) (ci ((-1000000000000000))),some (11,true)⟩,op 15 (.pick (tm 11) (tm 14) (.cst (.bool false))),mv 16 15,⟨some 17,.faddr 0 (tm 1),some (16,true)⟩,⟨some 18,.load none (tm 17),some (16,true)⟩,⟨some 19,.bin .leq .int (tm 18) (ci (1000000000000000)),some (16,true)⟩,op 20 (.pick (tm 16) (tm 19) (.cst (.bool false))),mv 21 20,⟨some 22,.faddr 0 (tm 1),some (21,true)⟩,⟨some 23,.load none (tm 22),some (21,true)⟩,⟨some 24,.call .pure 121 [(tm 23)],some (21,true)⟩,⟨some 25,.faddr 1 (tm 1),some (21,true)⟩,⟨some 26,.load none (tm 25),some (21,true)⟩,⟨some 27,.call .pure 138 [(tm 24),(tm 26)],some (21,true)⟩,⟨some 28,.bin .eql .int (tm 27) (ci (1)),some (21,true)⟩,op 29 (.pick (tm 21) (tm 28) (.cst (.bool false))),mv 2 29] [2] none)
 (.ret))

def a117 : AFunc := ⟨1,c117,[.tmp 2]⟩

def an117 : List RAnn := [
 ra 0 [1],
 { id := 1,head := some 28,live := [2] }]

theorem comp117 : compF Tryz.prog an117 Tryz.f117 = some a117 := by kernel_rfl

/- graphdb/graphdbref03.sum -/
def c118 : ACode :=
 .seq (rg [op 8 (.mov (ci (0))),op 9 (.mov (.cst (.sl false [])))] [0,1,2,3])
 (.seq (.seq (rg [mv 11 0,mv 12 2,op 13 (.bin .eql .int (tm 11) (tm 12)),mv 14 13,mg 15 2 14 false,⟨some 16,.bin .eql .int (tm 15) (ci (0)),some (14,false)⟩,op 17 (.pick (tm 14) (.cst (.bool true)) (tm 16))] [0,1,2,3,17])
 (.cond (tm 17) (.seq (rg [mv 18 0,mv 19 1,mv 20 3,op 21 (.call .pure 139 [(tm 19),(tm 20)]),mv 8 18,mv 9 21] [8,9])
 (.ret))
 (.skip)))
 (.seq (.seq (rg [mv 22 0,op 23 (.bin .eql .int (tm 22) (ci (0)))] [0,1,2,3,23])
 (.cond (tm 23) (.seq (rg [mv 24 2,mv 25 3,mv 8 24,mv 9 25] [8,9])
 (.ret))
 (.skip)))
 (.seq (rg [mv 26 1,mv 27 3,op 28 (.call .pure 140 [(tm 26),(tm 27)]),mv 10 28] [0,1,2,3,10])
 (.seq (.seq (rg [mv 29 10,op 30 (.bin .eql .int (tm 29) (ci (0)))] [0,1,2,3,10,30])
 (.cond (tm 30) (.seq (.par 2 [(0,1)] [] [
 op 31 (.mkslice 1 8 (.int .i64 0) (ci (14)) (ci (14))),op 32 (.mkslice 1 8 (.int .i64 0) (ci (14)) (ci (14))),op 33 (.call .share 139 [(tm 31),(tm 32)]),op 8 (.mov (ci (0))),mv 9 33] [8,9] none)
 (.ret))
 (.skip)))
 (.seq (.seq (rg [mv 34 10,op 35 (.bin .gtr .int (tm 34) (ci (0)))] [0,1,2,3,35])
 (.cond (tm 35) (.seq (rg [mv 36 0,mv 37 1,mv 38 3,op 39 (.call .pure 141 [(tm 37),(tm 38)]),mv 8 36,mv 9 39] [8,9])
 (.ret))
 (.skip)))
 (.seq (rg [mv 40 2,mv 41 3,mv 42 1,op 43 (.call .pure 141 [(tm 41),(tm 42)]),mv 8 40,mv 9 43] [8,9])
 (.ret)))))))

def a118 : AFunc := ⟨4,c118,[.tmp 8,.tmp 9]⟩

def an118 : List RAnn := [
 ra 0 [0,1,2,3],ra 1 [0,1,2,3,17],ra 2 [8,9],ra 3 [0,1,2,3,23],ra 4 [8,9],ra 5 [0,1,2,3,10],ra 6 [0,1,2,3,10,30],
 { id := 7,head := some 2,live := [8,9],ops := [(2,.mode .share)],par := true },
 ra 8 [0,1,2,3,35],ra 9 [8,9],ra 10 [8,9]]

theorem comp118 : compF Tryz.prog an118 Tryz.f118 = some a118 := by kernel_rfl

/- graphdb/graphdbref03.sign -/
def c119 : ACode :=
 .seq (rg [op 2 (.mov (ci (0)))] [0])
 (.seq (.seq (rg [mv 3 0,op 4 (.bin .lss .int (tm 3) (ci (0)))] [0,4])
 (.cond (tm 4) (.seq (rg [op 2 (.mov (ci ((-1))))] [2])
 (.ret))
 (.skip)))
 (.seq (.seq (rg [mv 5 0,op 6 (.bin .gtr .int (tm 5) (ci (0)))] [6])
 (.cond (tm 6) (.seq (rg [op 2 (.mov (ci (1)))] [2])
 (.ret))
 (.skip)))
 (.seq (rg [op 2 (.mov (ci (0)))] [2])
 (.ret))))

def a119 : AFunc := ⟨1,c119,[.tmp 2]⟩

def an119 : List RAnn := [
 ra 0 [0],ra 1 [0,4],ra 2 [2],ra 3 [6],ra 4 [2],ra 5 [2]]

theorem comp119 : compF Tryz.prog an119 Tryz.f119 = some a119 := by kernel_rfl

/- graphdb/graphdbref03.times -/
/-- loop 0 of function 120 -/
def l120_0_h : List Nat := [0,1,5,6,7,8,9,10]

def l120_0_b : ACode :=
 .seq (.seq (rg [mv 22 8,op 23 (.bin .gtr .int (tm 22) (ci (0))),mv 24 23,mg 25 9 24 false,⟨some 26,.bin .gtr .int (tm 25) (ci (0)),some (24,false)⟩,op 27 (.pick (tm 24) (.cst (.bool true)) (tm 26))] [0,1,5,6,7,8,9,10,27])
 (.cond (tm 27) (.skip)
 (.exit 2)))
 (.seq (.block 3 (.seq (rg [mv 30 9,mv 31 5,mv 32 10,op 33 (.iaddr 1 (tm 31) (tm 32)),op 34 (.load none (tm 33)),op 35 (.bin .add .int (tm 30) (tm 34)),mv 36 7,mv 37 8,op 38 (.bin .rem .int (tm 37) (ci (1000))),op 39 (.bin .mul .int (tm 36) (tm 38)),op 40 (.bin .add .int (tm 35) (tm 39)),mv 9 40] [0,1,5,6,7,8,9,10])
 (.seq (rg [mv 41 8,op 42 (.bin .quo .int (tm 41) (ci (1000))),mv 8 42] [0,1,5,6,7,8,9,10])
 (.seq (rg [mv 43 5,mv 44 10,mv 45 9,op 46 (.bin .rem .int (tm 45) (ci (1000))),op 47 (.iaddr 1 (tm 43) (tm 44)),⟨none,.store 1 (tm 47) (tm 46),none⟩] [0,1,5,6,7,8,9,10])
 (rg [mv 48 9,op 49 (.bin .quo .int (tm 48) (ci (1000))),mv 9 49] [0,1,5,6,7,8,9,10])))))
 (rg [mv 28 10,op 29 (.bin .add .int (tm 28) (ci (1))),mv 10 29] [0,1,5,6,7,8,9,10]))

/-- loop 1 of function 120 -/
def l120_1_h : List Nat := [0,1,5,6]

def l120_1_b : ACode :=
 .seq (.seq (rg [mv 12 0,op 13 (.bin .gtr .int (tm 12) (ci (0)))] [0,1,5,6,13])
 (.cond (tm 13) (.skip)
 (.exit 0)))
 (.seq (.block 1 (.seq (rg [mv 16 0,op 17 (.bin .rem .int (tm 16) (ci (1000))),mv 7 17] [0,1,5,6,7])
 (.seq (rg [mv 18 0,op 19 (.bin .quo .int (tm 18) (ci (1000))),mv 0 19] [0,1,5,6,7])
 (.seq (rg [mv 20 1,mv 8 20] [0,1,5,6,7,8])
 (.seq (rg [op 9 (.mov (ci (0)))] [0,1,5,6,7,8,9])
 (.seq (rg [mv 21 6,mv 10 21] [0,1,5,6,7,8,9,10])
 (.block 2 (.loop l120_0_h l120_0_b))))))))
 (rg [mv 14 6,op 15 (.bin .add .int (tm 14) (ci (1))),mv 6 15] [0,1,5,6]))

def c120 : ACode :=
 .seq (rg [op 4 (.mov (.cst (.sl false [])))] [0,1])
 (.seq (rg [op 11 (.mkslice 1 8 (.int .i64 0) (ci (14)) (ci (14))),mv 5 11] [0,1,5])
 (.seq (.seq (rg [op 6 (.mov (ci (0)))] [0,1,5,6])
 (.block 0 (.loop l120_1_h l120_1_b)))
 (.seq (rg [mv 50 5,mv 4 50] [4])
 (.ret))))

def a120 : AFunc := ⟨2,c120,[.tmp 4]⟩

def an120 : List RAnn := [
 ra 0 [0,1],ra 1 [0,1,5],ra 2 [0,1,5,6],rh 3 [0,1,5,6,13] [0,1,5,6],ra 5 [0,1,5,6,7],ra 6 [0,1,5,6,7],ra 7 [0,1,5,6,7,8],ra 8 [0,1,5,6,7,8,9],ra 9 [0,1,5,6,7,8,9,10],rh 10 [0,1,5,6,7,8,9,10,27] [0,1,5,6,7,8,9,10],ra 12 [0,1,5,6,7,8,9,10],ra 13 [0,1,5,6,7,8,9,10],ra 14 [0,1,5,6,7,8,9,10],ra 15 [0,1,5,6,7,8,9,10],ra 11 [0,1,5,6,7,8,9,10],ra 4 [0,1,5,6],ra 16 [4]]

theorem comp120 : compF Tryz.prog an120 Tryz.f120 = some a120 := by kernel_rfl

/- graphdb/graphdbref03.size -/
def c121 : ACode :=
 .seq (rg [op 2 (.mov (ci (0)))] [0])
 (.seq (.seq (rg [mv 3 0,op 4 (.bin .lss .int (tm 3) (ci (0)))] [0,4])
 (.cond (tm 4) (.seq (rg [mv 5 0,op 6 (.un .neg (tm 5)),mv 2 6] [2])
 (.ret))
 (.skip)))
 (.seq (rg [mv 7 0,mv 2 7] [2])
 (.ret)))

def a121 : AFunc := ⟨1,c121,[.tmp 2]⟩

def an121 : List RAnn := [
 ra 0 [0],ra 1 [0,4],ra 2 [2],ra 3 [2]]

theorem comp121 : compF Tryz.prog an121 Tryz.f121 = some a121 := by kernel_rfl

/- slices.nextPowerOfTwo -/
def c123 : ACode :=
 .seq (rg [op 2 (.mov (.cst (.int .u64 0)))] [0])
 (.seq (rg [mv 3 0,op 4 (.conv .u64 (tm 3)),op 5 (.call .pure 56 [(tm 4)]),op 6 (.bin .shl .int (.cst (.int .u64 1)) (tm 5)),mv 2 6] [2])
 (.ret))

def a123 : AFunc := ⟨1,c123,[.tmp 2]⟩

def an123 : List RAnn := [
 ra 0 [0],ra 1 [2]]

theorem comp123 : compF Tryz.prog an123 Tryz.f123 = some a123 := by kernel_rfl

/- graphdb/value.valid -/
/-- loop 0 of function 127 -/
def l127_0_h : List Nat := [1,120,121,122]

def l127_0_b : ACode :=
 .seq (rg [op 123 (.bin .lss .int (tm 122) (tm 121))] [1,120,121,122,123])
 (.seq (.cond (tm 123) (.skip)
 (.exit 1))
 (.seq (.block 2 (.seq (rg [op 124 (.iaddr 5 (tm 120) (tm 122)),op 125 (.load (some 5) (tm 124)),op 6 (.alloc 5 (.agg [.int .i64 0,.int .i64 0,.int .i64 0,.str [],.sl false []])),⟨none,.store 5 (tm 6) (tm 125),none⟩] [1,6,120,121,122])
 (.seq (rg [op 126 (.load (some 5) (tm 6)),mv 127 1,op 128 (.bin .add .int (tm 127) (ci (1))),op 129 (.call .pure 127 [(tm 126),(tm 128)]),op 130 (.un .not (tm 129))] [1,120,121,122,130])
 (.cond (tm 130) (.seq (rg [op 4 (.mov (.cst (.bool false)))] [4])
 (.ret))
 (.skip)))))
 (.region none [] [op 131 (.bin .add .int (tm 122) (ci (1))),mv 122 131] [1,120,121,122] (some 1))))

def c127 : ACode :=
 .seq (rg [op 2 (.box 5 (tm 0)),op 4 (.mov (.cst (.bool false)))] [1,2])
 (.seq (.seq (rg [op 7 (.faddr 0 (tm 2)),op 8 (.load none (tm 7)),op 9 (.bin .neq .int (tm 8) (ci (3))),mv 10 9,⟨some 11,.faddr 2 (tm 2),some (10,true)⟩,⟨some 12,.load none (tm 11),some (10,true)⟩,⟨some 13,.bin .neq .int (tm 12) (ci (0)),some (10,true)⟩,op 14 (.pick (tm 10) (tm 13) (.cst (.bool false))),mv 15 14,⟨some 16,.faddr 0 (tm 2),some (15,false)⟩,⟨some 17,.load none (tm 16),some (15,false)⟩,⟨some 18,.bin .neq .int (tm 17) (ci (4)),some (15,false)⟩,mg 19 18 15 false,⟨some 20,.faddr 3 (tm 2),some (19,true)⟩,⟨some 21,.load none (tm 20),some (19,true)⟩,⟨some 22,.bin .neq .str (tm 21) (.cst (.str [])),some (19,true)⟩,⟨some 23,.pick (tm 19) (tm 22) (.cst (.bool false)),some (15,false)⟩,op 24 (.pick (tm 15) (.cst (.bool true)) (tm 23)),mv 25 24,⟨some 26,.faddr 0 (tm 2),some (25,false)⟩,⟨some 27,.load none (tm 26),some (25,false)⟩,⟨some 28,.bin .neq .int (tm 27) (ci (8)),some (25,false)⟩,mg 29 28 25 false,⟨some 30,.faddr 0 (tm 2),some (29,true)⟩,⟨some 31,.load none (tm 30),some (29,true)⟩,⟨some 32,.bin .neq .int (tm 31) (ci (7)),some (29,true)⟩,⟨some 33,.pick (tm 29) (tm 32) (.cst (.bool false)),some (25,false)⟩,mg 34 33 25 false,⟨some 35,.faddr 4 (tm 2),some (34,true)⟩,⟨some 36,.load none (tm 35),some (34,true)⟩,⟨some 37,.len .slice (tm 36),some (34,true)⟩,⟨some 38,.bin .gtr .int (tm 37) (ci (0)),some (34,true)⟩,⟨some 39,.pick (tm 34) (tm 38) (.cst (.bool false)),some (25,false)⟩,op 40 (.pick (tm 25) (.cst (.bool true)) (tm 39))] [1,2,40])
 (.cond (tm 40) (.seq (rg [op 4 (.mov (.cst (.bool false)))] [4])
 (.ret))
 (.skip)))
 (.seq (.seq (rg [op 41 (.faddr 0 (tm 2)),op 42 (.load none (tm 41))] [1,2,42])
 (.block 0 (.seq (rg [op 44 (.bin .eql .int (tm 42) (ci (0))),mv 43 44] [1,2,42,43])
 (.cond (tm 43) (.seq (rg [op 45 (.faddr 1 (tm 2)),op 46 (.load none (tm 45)),op 47 (.bin .eql .int (tm 46) (ci (0))),mv 4 47] [4])
 (.ret))
 (.seq (rg [op 49 (.bin .eql .int (tm 42) (ci (1))),mv 48 49] [1,2,42,48])
 (.cond (tm 48) (.seq (rg [op 50 (.faddr 1 (tm 2)),op 51 (.load none (tm 50)),op 52 (.bin .eql .int (tm 51) (ci (0))),mv 53 52,⟨some 54,.faddr 1 (tm 2),some (53,false)⟩,⟨some 55,.load none (tm 54),some (53,false)⟩,⟨some 56,.bin .eql .int (tm 55) (ci (1)),some (53,false)⟩,op 57 (.pick (tm 53) (.cst (.bool true)) (tm 56)),mv 4 57] [4])
 (.ret))
 (.seq (rg [op 59 (.bin .eql .int (tm 42) (ci (2))),mv 58 59] [1,2,42,58])
 (.cond (tm 58) (.seq (rg [op 60 (.faddr 1 (tm 2)),op 61 (.load none (tm 60)),op 62 (.call .pure 143 [(tm 61)]),mv 4 62] [4])
 (.ret))
 (.seq (rg [op 64 (.bin .eql .int (tm 42) (ci (3))),mv 63 64] [1,2,42,63])
 (.cond (tm 63) (.seq (rg [op 65 (.faddr 2 (tm 2)),op 66 (.load none (tm 65)),op 67 (.bin .geq .int (tm 66) (ci (2))),mv 68 67,⟨some 69,.faddr 1 (tm 2),some (68,true)⟩,⟨some 70,.load none (tm 69),some (68,true)⟩,⟨some 71,.faddr 2 (tm 2),some (68,true)⟩,⟨some 72,.load none (tm 71),some (68,true)⟩,⟨some 73,.build [.int .i64 0,.int .i64 0] [(0,1,(tm 70)),(1,1,(tm 72))],some (68,true)⟩,⟨some 74,.call .pure 144 [(tm 73)],some (68,true)⟩,op 75 (.pick (tm 68) (tm 74) (.cst (.bool false))),mv 4 75] [4])
 (.ret))
 (.seq (rg [op 77 (.bin .eql .int (tm 42) (ci (4))),mv 76 77] [1,2,42,76])
 (.cond (tm 76) (.seq (rg [op 78 (.faddr 1 (tm 2)),op 79 (.load none (tm 78)),op 80 (.bin .eql .int (tm 79) (ci (0))),mv 81 80,⟨some 82,.faddr 3 (tm 2),some (81,true)⟩,⟨some 83,.load none (tm 82),some (81,true)⟩,⟨some 84,.len .str (tm 83),some (81,true)⟩,⟨some 85,.bin .leq .int (tm 84) (ci (100)),some (81,true)⟩,op 86 (.pick (tm 81) (tm 85) (.cst (.bool false))),mv 87 86,⟨some 88,.faddr 3 (tm 2),some (87,true)⟩,⟨some 89,.load none (tm 88),some (87,true)⟩,⟨some 90,.call .pure 145 [(tm 89),(.cst (.fn 146 []))],some (87,true)⟩,⟨some 91,.bin .lss .int (tm 90) (ci (0)),some (87,true)⟩,op 92 (.pick (tm 87) (tm 91) (.cst (.bool false))),mv 4 92] [4])
 (.ret))
 (.seq (.seq (rg [op 94 (.bin .eql .int (tm 42) (ci (5))),mv 93 94] [1,2,42,93])
 (.cond (tm 93) (.skip)
 (rg [op 95 (.bin .eql .int (tm 42) (ci (6))),mv 93 95] [1,2,42,93])))
 (.cond (tm 93) (.seq (rg [op 96 (.faddr 1 (tm 2)),op 97 (.load none (tm 96)),op 98 (.bin .geq .int (tm 97) (ci (1))),mv 99 98,⟨some 100,.faddr 1 (tm 2),some (99,true)⟩,⟨some 101,.load none (tm 100),some (99,true)⟩,⟨some 102,.bin .leq .int (tm 101) (ci (1000000)),some (99,true)⟩,op 103 (.pick (tm 99) (tm 102) (.cst (.bool false))),mv 4 103] [4])
 (.ret))
 (.seq (rg [op 105 (.bin .eql .int (tm 42) (ci (8))),mv 104 105] [1,2,42,104])
 (.cond (tm 104) (.seq (.seq (rg [op 106 (.faddr 1 (tm 2)),op 107 (.load none (tm 106)),op 108 (.bin .neq .int (tm 107) (ci (0))),mv 109 108,⟨some 110,.faddr 4 (tm 2),some (109,false)⟩,⟨some 111,.load none (tm 110),some (109,false)⟩,⟨some 112,.len .slice (tm 111),some (109,false)⟩,⟨some 113,.bin .gtr .int (tm 112) (ci (64)),some (109,false)⟩,op 114 (.pick (tm 109) (.cst (.bool true)) (tm 113)),mv 115 114,mg 116 1 115 false,⟨some 117,.bin .geq .int (tm 116) (ci (8)),some (115,false)⟩,op 118 (.pick (tm 115) (.cst (.bool true)) (tm 117))] [1,2,118])
 (.cond (tm 118) (.seq (rg [op 4 (.mov (.cst (.bool false)))] [4])
 (.ret))
 (.skip)))
 (.seq (.seq (rg [op 119 (.faddr 4 (tm 2)),op 120 (.load none (tm 119)),op 121 (.len .slice (tm 120)),op 122 (.mov (ci (0)))] [1,120,121,122])
 (.block 1 (.loop l127_0_h l127_0_b)))
 (.seq (rg [op 4 (.mov (.cst (.bool true)))] [4])
 (.ret))))
 (.seq (rg [op 133 (.bin .eql .int (tm 42) (ci (7))),mv 132 133] [2,132])
 (.cond (tm 132) (.seq (rg [op 134 (.faddr 1 (tm 2)),op 135 (.load none (tm 134)),op 136 (.bin .eql .int (tm 135) (ci (0))),mv 137 136,⟨some 138,.faddr 4 (tm 2),some (137,true)⟩,⟨some 139,.load none (tm 138),some (137,true)⟩,⟨some 140,.call .pure 147 [(tm 139)],some (137,true)⟩,op 141 (.pick (tm 137) (tm 140) (.cst (.bool false))),mv 4 141] [4])
 (.ret))
 (.skip)))))))))))))))))))
 (.seq (rg [op 4 (.mov (.cst (.bool false)))] [4])
 (.ret))))

def a127 : AFunc := ⟨2,c127,[.tmp 4]⟩

def an127 : List RAnn := [
 ra 0 [1,2],ra 1 [1,2,40],ra 2 [4],ra 3 [1,2,42],ra 4 [1,2,42,43],ra 5 [4],ra 6 [1,2,42,48],ra 7 [4],ra 8 [1,2,42,58],ra 9 [4],ra 10 [1,2,42,63],ra 11 [4],ra 12 [1,2,42,76],ra 13 [4],ra 14 [1,2,42,93],ra 15 [1,2,42,93],ra 16 [4],ra 17 [1,2,42,104],ra 18 [1,2,118],ra 19 [4],ra 20 [1,120,121,122],rh 21 [1,120,121,122,123] [1,120,121,122],ra 22 [1,6,120,121,122],ra 23 [1,120,121,122,130],ra 24 [4],
 { id := 25,live := [1,120,121,122],trunc := some 1 },
 ra 26 [4],ra 27 [2,132],ra 28 [4],ra 29 [4]]

theorem comp127 : compF Tryz.prog an127 Tryz.f127 = some a127 := by kernel_rfl

/- slices.Clone[[]graphdb/api.Value,graphdb/api.Value] -/
def c128 : ACode :=
 .seq (rg [op 2 (.mov (.cst (.sl false [])))] [0])
 (.seq (.seq (rg [mv 3 0,op 4 (.bin .eql .slice (tm 3) (.cst (.sl false [])))] [0,4])
 (.cond (tm 4) (.seq (rg [op 2 (.mov (.cst (.sl false [])))] [2])
 (.ret))
 (.skip)))
 (.seq (rg [op 5 (.lit true 5 (.agg [.int .i64 0,.int .i64 0,.int .i64 0,.str [],.sl false []]) 0 []),mv 6 0,op 7 (.append 5 64 (tm 5) (tm 6)),mv 2 7] [2])
 (.ret)))

def a128 : AFunc := ⟨1,c128,[.tmp 2]⟩

def an128 : List RAnn := [
 ra 0 [0],ra 1 [0,4],ra 2 [2],
 { id := 3,live := [2],ops := [(0,.own)] }]

theorem comp128 : compF Tryz.prog an128 Tryz.f128 = some a128 := by kernel_rfl

/- graphdb/value.class -/
def c129 : ACode :=
 .seq (rg [op 1 (.box 5 (tm 0)),op 2 (.mov (ci (0)))] [1])
 (.seq (.seq (rg [op 3 (.faddr 0 (tm 1)),op 4 (.load none (tm 3))] [1,4])
 (.block 0 (.seq (rg [op 6 (.bin .eql .int (tm 4) (ci (3))),mv 5 6] [1,4,5])
 (.cond (tm 5) (.seq (rg [op 2 (.mov (ci (2)))] [2])
 (.ret))
 (.seq (rg [op 8 (.bin .eql .int (tm 4) (ci (7))),mv 7 8] [1,7])
 (.cond (tm 7) (.seq (rg [op 2 (.mov (ci (9)))] [2])
 (.ret))
 (.skip)))))))
 (.seq (rg [op 9 (.faddr 0 (tm 1)),op 10 (.load none (tm 9)),mv 2 10] [2])
 (.ret)))

def a129 : AFunc := ⟨1,c129,[.tmp 2]⟩

def an129 : List RAnn := [
 ra 0 [1],ra 1 [1,4],ra 2 [1,4,5],ra 3 [2],ra 4 [1,7],ra 5 [2],ra 6 [2]]

theorem comp129 : compF Tryz.prog an129 Tryz.f129 = some a129 := by kernel_rfl

/- graphdb/value.Number -/
def c130 : ACode :=
 .seq (rg [op 1 (.box 5 (tm 0)),op 2 (.alloc 2 (.agg [.int .i64 0,.int .i64 0])),op 3 (.mov (.cst (.bool false)))] [1,2])
 (.seq (.block 0 (.seq (rg [op 5 (.faddr 0 (tm 1)),op 6 (.load none (tm 5)),op 7 (.bin .eql .int (tm 6) (ci (2))),mv 8 7,⟨some 9,.load (some 5) (tm 1),some (8,true)⟩,⟨some 10,.call .pure 99 [(tm 9)],some (8,true)⟩,op 11 (.pick (tm 8) (tm 10) (.cst (.bool false))),mv 4 11] [1,2,4])
 (.cond (tm 4) (.seq (rg [op 12 (.faddr 1 (tm 1)),op 13 (.load none (tm 12)),op 14 (.build [.int .i64 0,.int .i64 0] [(0,1,(tm 13)),(1,1,(ci (1)))]),⟨none,.store 2 (tm 2) (tm 14),none⟩,op 3 (.mov (.cst (.bool true)))] [2,3])
 (.ret))
 (.seq (rg [op 16 (.faddr 0 (tm 1)),op 17 (.load none (tm 16)),op 18 (.bin .eql .int (tm 17) (ci (3))),mv 19 18,⟨some 20,.load (some 5) (tm 1),some (19,true)⟩,⟨some 21,.call .pure 99 [(tm 20)],some (19,true)⟩,op 22 (.pick (tm 19) (tm 21) (.cst (.bool false))),mv 15 22] [1,2,15])
 (.cond (tm 15) (.seq (rg [op 23 (.faddr 1 (tm 1)),op 24 (.load none (tm 23)),op 25 (.faddr 2 (tm 1)),op 26 (.load none (tm 25)),op 27 (.build [.int .i64 0,.int .i64 0] [(0,1,(tm 24)),(1,1,(tm 26))]),⟨none,.store 2 (tm 2) (tm 27),none⟩,op 3 (.mov (.cst (.bool true)))] [2,3])
 (.ret))
 (.skip))))))
 (.seq (rg [op 28 (.build [.int .i64 0,.int .i64 0] []),⟨none,.store 2 (tm 2) (tm 28),none⟩,op 3 (.mov (.cst (.bool false)))] [2,3])
 (.ret)))

def a130 : AFunc := ⟨1,c130,[.cell 2 (some 2),.tmp 3]⟩

def an130 : List RAnn := [
 ra 0 [1,2],ra 1 [1,2,4],ra 2 [2,3],ra 3 [1,2,15],ra 4 [2,3],ra 5 [2,3]]

theorem comp130 : compF Tryz.prog an130 Tryz.f130 = some a130 := by kernel_rfl

/- graphdb/frac.Cmp -/
def c131 : ACode :=
 .seq (rg [op 2 (.box 2 (tm 0)),op 3 (.box 2 (tm 1)),op 4 (.mov (ci (0)))] [2,3])
 (.seq (.seq (rg [op 5 (.load (some 2) (tm 2)),op 6 (.call .pure 144 [(tm 5)]),op 7 (.un .not (tm 6))] [2,3,7])
 (.cond (tm 7) (.cond (ci (0)) (.skip)
 (.skip))
 (.skip)))
 (.seq (.seq (rg [op 9 (.load (some 2) (tm 3)),op 10 (.call .pure 144 [(tm 9)]),op 11 (.un .not (tm 10))] [2,3,11])
 (.cond (tm 11) (.cond (ci (0)) (.skip)
 (.skip))
 (.skip)))
 (.seq (.region (some 14) [] [
 op 13 (.faddr 0 (tm 2)),op 14 (.load none (tm 13)),op 15 (.faddr 1 (tm 3)),op 16 (.load none (tm 15)),op 17 (.call .pure 148 [(tm 14),(tm 16)]),op 18 (.faddr 0 (tm 3)),op 19 (.load none (tm 18)),op 20 (.un .neg (tm 19)),op 21 (.faddr 1 (tm 2)),op 22 (.load none (tm 21)),op 23 (.call .pure 148 [(tm 20),(tm 22)]),op 24 (.call .pure 149 [(tm 17),(tm 23)]),op 25 (.call .pure 150 [(tm 24)]),mv 4 25] [4] none)
 (.ret))))

def a131 : AFunc := ⟨2,c131,[.tmp 4]⟩

def an131 : List RAnn := [
 ra 0 [2,3],ra 1 [2,3,7],ra 2 [2,3],ra 3 [2,3,11],ra 4 [2,3],
 { id := 5,head := some 14,live := [4] }]

theorem comp131 : compF Tryz.prog an131 Tryz.f131 = some a131 := by kernel_rfl

/- cmp.isNaN[string] -/
def c132 : ACode :=
 .seq (rg [op 2 (.mov (.cst (.bool false)))] [0])
 (.seq (rg [mv 3 0,mv 4 0,op 5 (.bin .neq .str (tm 3) (tm 4)),mv 2 5] [2])
 (.ret))

def a132 : AFunc := ⟨1,c132,[.tmp 2]⟩

def an132 : List RAnn := [
 ra 0 [0],ra 1 [2]]

theorem comp132 : compF Tryz.prog an132 Tryz.f132 = some a132 := by kernel_rfl

/- graphdb/graphdbref04.bare -/
def c133 : ACode :=
 .seq (rg [op 5 (.box 5 (tm 0)),op 10 (.mov (.cst (.bool false)))] [1,2,3,4,5])
 (.seq (rg [mv 11 1,mv 12 11,⟨some 13,.faddr 1 (tm 5),some (12,false)⟩,⟨some 14,.load none (tm 13),some (12,false)⟩,⟨some 15,.bin .eql .int (tm 14) (ci (0)),some (12,false)⟩,op 16 (.pick (tm 12) (.cst (.bool true)) (tm 15)),mv 17 16,mg 18 2 17 true,mg 19 18 17 true,⟨some 20,.faddr 2 (tm 5),some (19,false)⟩,⟨some 21,.load none (tm 20),some (19,false)⟩,⟨some 22,.bin .eql .int (tm 21) (ci (0)),some (19,false)⟩,⟨some 23,.pick (tm 19) (.cst (.bool true)) (tm 22),some (17,true)⟩,op 24 (.pick (tm 17) (tm 23) (.cst (.bool false))),mv 25 24,mg 26 3 25 true,mg 27 26 25 true,⟨some 28,.faddr 3 (tm 5),some (27,false)⟩,⟨some 29,.load none (tm 28),some (27,false)⟩,⟨some 30,.bin .eql .str (tm 29) (.cst (.str [])),some (27,false)⟩,⟨some 31,.pick (tm 27) (.cst (.bool true)) (tm 30),some (25,true)⟩,op 32 (.pick (tm 25) (tm 31) (.cst (.bool false))),mv 33 32,mg 34 4 33 true,mg 35 34 33 true,⟨some 36,.faddr 4 (tm 5),some (35,false)⟩,⟨some 37,.load none (tm 36),some (35,false)⟩,⟨some 38,.len .slice (tm 37),some (35,false)⟩,⟨some 39,.bin .eql .int (tm 38) (ci (0)),some (35,false)⟩,⟨some 40,.pick (tm 35) (.cst (.bool true)) (tm 39),some (33,true)⟩,op 41 (.pick (tm 33) (tm 40) (.cst (.bool false))),mv 10 41] [10])
 (.ret))

def a133 : AFunc := ⟨5,c133,[.tmp 10]⟩

def an133 : List RAnn := [
 ra 0 [1,2,3,4,5],ra 1 [10]]

theorem comp133 : compF Tryz.prog an133 Tryz.f133 = some a133 := by kernel_rfl

/- graphdb/graphdbref01.In -/
def c134 : ACode :=
 .seq (rg [op 2 (.mov (.cst (.bool false)))] [0])
 (.seq (rg [mv 3 0,op 4 (.bin .geq .int (tm 3) (ci ((-1000000000000000)))),mv 5 4,mg 6 0 5 true,⟨some 7,.bin .leq .int (tm 6) (ci (1000000000000000)),some (5,true)⟩,op 8 (.pick (tm 5) (tm 7) (.cst (.bool false))),mv 2 8] [2])
 (.ret))

def a134 : AFunc := ⟨1,c134,[.tmp 2]⟩

def an134 : List RAnn := [
 ra 0 [0],ra 1 [2]]

theorem comp134 : compF Tryz.prog an134 Tryz.f134 = some a134 := by kernel_rfl

/- graphdb/graphdbref04.str -/
/-- loop 0 of function 135 -/
def l135_0_h : List Nat := [0,3]

def l135_0_b : ACode :=
 .seq (.seq (rg [mv 4 3,mv 5 0,op 6 (.len .str (tm 5)),op 7 (.bin .lss .int (tm 4) (tm 6))] [0,3,7])
 (.cond (tm 7) (.skip)
 (.exit 0)))
 (.seq (.block 1 (.seq (rg [mv 10 0,mv 11 3,op 12 (.sidx (tm 10) (tm 11)),op 13 (.bin .lss .int (tm 12) (.cst (.int .u8 32))),mv 14 13,mg 15 0 14 false,mg 16 3 14 false,⟨some 17,.sidx (tm 15) (tm 16),some (14,false)⟩,⟨some 18,.bin .gtr .int (tm 17) (.cst (.int .u8 126)),some (14,false)⟩,op 19 (.pick (tm 14) (.cst (.bool true)) (tm 18))] [0,3,19])
 (.cond (tm 19) (.seq (rg [op 2 (.mov (.cst (.bool false)))] [2])
 (.ret))
 (.skip))))
 (rg [mv 8 3,op 9 (.bin .add .int (tm 8) (ci (1))),mv 3 9] [0,3]))

def c135 : ACode :=
 .seq (rg [op 2 (.mov (.cst (.bool false)))] [0])
 (.seq (.seq (rg [op 3 (.mov (ci (0)))] [0,3])
 (.block 0 (.loop l135_0_h l135_0_b)))
 (.seq (rg [mv 20 0,op 21 (.len .str (tm 20)),op 22 (.bin .leq .int (tm 21) (ci (100))),mv 2 22] [2])
 (.ret)))

def a135 : AFunc := ⟨1,c135,[.tmp 2]⟩

def an135 : List RAnn := [
 ra 0 [0],ra 1 [0,3],rh 2 [0,3,7] [0,3],ra 4 [0,3,19],ra 5 [2],ra 3 [0,3],ra 6 [2]]

theorem comp135 : compF Tryz.prog an135 Tryz.f135 = some a135 := by kernel_rfl

/- graphdb/graphdbref04.path -/
/-- loop 0 of function 136 -/
def l136_0_h : List Nat := [0,3]

def l136_0_b : ACode :=
 .seq (.seq (rg [mv 14 3,mv 15 0,op 16 (.len .slice (tm 15)),op 17 (.bin .lss .int (tm 14) (tm 16))] [0,3,17])
 (.cond (tm 17) (.skip)
 (.exit 0)))
 (.seq (.block 1 (.seq (rg [op 4 (.mov (ci (5)))] [0,3,4])
 (.seq (.seq (rg [mv 20 3,op 21 (.bin .rem .int (tm 20) (ci (2))),op 22 (.bin .eql .int (tm 21) (ci (1)))] [0,3,4,22])
 (.cond (tm 22) (rg [op 4 (.mov (ci (6)))] [0,3,4])
 (.skip)))
 (.seq (rg [mv 23 0,mv 24 3,op 25 (.iaddr 5 (tm 23) (tm 24)),op 26 (.faddr 0 (tm 25)),op 27 (.load none (tm 26)),mv 28 4,op 29 (.bin .neq .int (tm 27) (tm 28)),mv 30 29,mg 31 0 30 false,mg 32 3 30 false,⟨some 33,.iaddr 5 (tm 31) (tm 32),some (30,false)⟩,⟨some 34,.load (some 5) (tm 33),some (30,false)⟩,⟨some 35,.call .pure 114 [(tm 34),(ci (0))],some (30,false)⟩,⟨some 36,.un .not (tm 35),some (30,false)⟩,op 37 (.pick (tm 30) (.cst (.bool true)) (tm 36))] [0,3,37])
 (.cond (tm 37) (.seq (rg [op 2 (.mov (.cst (.bool false)))] [2])
 (.ret))
 (.skip))))))
 (rg [mv 18 3,op 19 (.bin .add .int (tm 18) (ci (1))),mv 3 19] [0,3]))

def c136 : ACode :=
 .seq (rg [op 2 (.mov (.cst (.bool false)))] [0])
 (.seq (.seq (rg [mv 5 0,op 6 (.len .slice (tm 5)),op 7 (.bin .rem .int (tm 6) (ci (2))),op 8 (.bin .eql .int (tm 7) (ci (0))),mv 9 8,mg 10 0 9 false,⟨some 11,.len .slice (tm 10),some (9,false)⟩,⟨some 12,.bin .gtr .int (tm 11) (ci (25)),some (9,false)⟩,op 13 (.pick (tm 9) (.cst (.bool true)) (tm 12))] [0,13])
 (.cond (tm 13) (.seq (rg [op 2 (.mov (.cst (.bool false)))] [2])
 (.ret))
 (.skip)))
 (.seq (.seq (rg [op 3 (.mov (ci (0)))] [0,3])
 (.block 0 (.loop l136_0_h l136_0_b)))
 (.seq (rg [op 2 (.mov (.cst (.bool true)))] [2])
 (.ret))))

def a136 : AFunc := ⟨1,c136,[.tmp 2]⟩

def an136 : List RAnn := [
 ra 0 [0],ra 1 [0,13],ra 2 [2],ra 3 [0,3],rh 4 [0,3,17] [0,3],ra 6 [0,3,4],ra 7 [0,3,4,22],ra 8 [0,3,4],ra 9 [0,3,37],ra 10 [2],ra 5 [0,3],ra 11 [2]]

theorem comp136 : compF Tryz.prog an136 Tryz.f136 = some a136 := by kernel_rfl

/- graphdb/graphdbref04.list -/
/-- loop 0 of function 137 -/
def l137_0_h : List Nat := [0,1,5]

def l137_0_b : ACode :=
 .seq (.seq (rg [mv 13 5,mv 14 0,op 15 (.len .slice (tm 14)),op 16 (.bin .lss .int (tm 13) (tm 15))] [0,1,5,16])
 (.cond (tm 16) (.skip)
 (.exit 0)))
 (.seq (.block 1 (.seq (rg [mv 19 0,mv 20 5,op 21 (.iaddr 5 (tm 19) (tm 20)),op 22 (.load (some 5) (tm 21)),mv 23 1,op 24 (.bin .sub .int (tm 23) (ci (1))),op 25 (.call .pure 114 [(tm 22),(tm 24)]),op 26 (.un .not (tm 25))] [0,1,5,26])
 (.cond (tm 26) (.seq (rg [op 4 (.mov (.cst (.bool false)))] [4])
 (.ret))
 (.skip))))
 (rg [mv 17 5,op 18 (.bin .add .int (tm 17) (ci (1))),mv 5 18] [0,1,5]))

def c137 : ACode :=
 .seq (rg [op 4 (.mov (.cst (.bool false)))] [0,1])
 (.seq (.seq (rg [mv 6 1,op 7 (.bin .lss .int (tm 6) (ci (1))),mv 8 7,mg 9 0 8 false,⟨some 10,.len .slice (tm 9),some (8,false)⟩,⟨some 11,.bin .gtr .int (tm 10) (ci (64)),some (8,false)⟩,op 12 (.pick (tm 8) (.cst (.bool true)) (tm 11))] [0,1,12])
 (.cond (tm 12) (.seq (rg [op 4 (.mov (.cst (.bool false)))] [4])
 (.ret))
 (.skip)))
 (.seq (.seq (rg [op 5 (.mov (ci (0)))] [0,1,5])
 (.block 0 (.loop l137_0_h l137_0_b)))
 (.seq (rg [op 4 (.mov (.cst (.bool true)))] [4])
 (.ret))))

def a137 : AFunc := ⟨2,c137,[.tmp 4]⟩

def an137 : List RAnn := [
 ra 0 [0,1],ra 1 [0,1,12],ra 2 [4],ra 3 [0,1,5],rh 4 [0,1,5,16] [0,1,5],ra 6 [0,1,5,26],ra 7 [4],ra 5 [0,1,5],ra 8 [4]]

theorem comp137 : compF Tryz.prog an137 Tryz.f137 = some a137 := by kernel_rfl

/- graphdb/graphdbref03.gcd -/
/-- loop 0 of function 138 -/
def l138_0_h : List Nat := [0,1]

def l138_0_b : ACode :=
 .seq (.seq (rg [mv 5 1,op 6 (.bin .gtr .int (tm 5) (ci (0)))] [0,1,6])
 (.cond (tm 6) (.skip)
 (.exit 0)))
 (.block 1 (.region (some 6) [] [
 mv 7 1,mv 8 0,mv 9 1,op 10 (.bin .rem .int (tm 8) (tm 9)),mv 0 7,mv 1 10] [0,1] none))

def c138 : ACode :=
 .seq (rg [op 4 (.mov (ci (0)))] [0,1])
 (.seq (.block 0 (.loop l138_0_h l138_0_b))
 (.seq (rg [mv 11 0,mv 4 11] [4])
 (.ret)))

def a138 : AFunc := ⟨2,c138,[.tmp 4]⟩

def an138 : List RAnn := [
 ra 0 [0,1],rh 1 [0,1,6] [0,1],
 { id := 2,head := some 6,live := [0,1] },
 ra 3 [4]]

theorem comp138 : compF Tryz.prog an138 Tryz.f138 = some a138 := by kernel_rfl

/- graphdb/graphdbref03.plus -/
/-- loop 0 of function 139 -/
def l139_0_h : List Nat := [0,1,5,6,7]

def l139_0_b : ACode :=
 .seq (.seq (rg [mv 11 7,mv 12 0,op 13 (.len .slice (tm 12)),op 14 (.bin .lss .int (tm 11) (tm 13))] [0,1,5,6,7,14])
 (.cond (tm 14) (.skip)
 (.exit 0)))
 (.seq (.block 1 (.seq (.region (some 12) [] [
 mv 17 6,mv 18 0,mv 19 7,op 20 (.iaddr 1 (tm 18) (tm 19)),op 21 (.load none (tm 20)),op 22 (.bin .add .int (tm 17) (tm 21)),mv 23 1,mv 24 7,op 25 (.iaddr 1 (tm 23) (tm 24)),op 26 (.load none (tm 25)),op 27 (.bin .add .int (tm 22) (tm 26)),mv 6 27] [0,1,5,6,7] none)
 (.seq (rg [mv 28 5,mv 29 7,mv 30 6,op 31 (.bin .rem .int (tm 30) (ci (1000))),op 32 (.iaddr 1 (tm 28) (tm 29)),⟨none,.store 1 (tm 32) (tm 31),none⟩] [0,1,5,6,7])
 (rg [mv 33 6,op 34 (.bin .quo .int (tm 33) (ci (1000))),mv 6 34] [0,1,5,6,7]))))
 (rg [mv 15 7,op 16 (.bin .add .int (tm 15) (ci (1))),mv 7 16] [0,1,5,6,7]))

def c139 : ACode :=
 .seq (rg [op 4 (.mov (.cst (.sl false [])))] [0,1])
 (.seq (rg [mv 8 0,op 9 (.len .slice (tm 8)),op 10 (.mkslice 1 8 (.int .i64 0) (tm 9) (tm 9)),mv 5 10] [0,1,5])
 (.seq (rg [op 6 (.mov (ci (0)))] [0,1,5,6])
 (.seq (.seq (rg [op 7 (.mov (ci (0)))] [0,1,5,6,7])
 (.block 0 (.loop l139_0_h l139_0_b)))
 (.seq (rg [mv 35 5,mv 4 35] [4])
 (.ret)))))

def a139 : AFunc := ⟨2,c139,[.tmp 4]⟩

def an139 : List RAnn := [
 ra 0 [0,1],ra 1 [0,1,5],ra 2 [0,1,5,6],ra 3 [0,1,5,6,7],rh 4 [0,1,5,6,7,14] [0,1,5,6,7],
 { id := 6,head := some 12,live := [0,1,5,6,7] },
 ra 7 [0,1,5,6,7],ra 8 [0,1,5,6,7],ra 5 [0,1,5,6,7],ra 9 [4]]

theorem comp139 : compF Tryz.prog an139 Tryz.f139 = some a139 := by kernel_rfl

/- graphdb/graphdbref03.order -/
/-- loop 0 of function 140 -/
def l140_0_h : List Nat := [0,1,5]

def l140_0_b : ACode :=
 .seq (.seq (rg [mv 9 5,op 10 (.bin .geq .int (tm 9) (ci (0)))] [0,1,5,10])
 (.cond (tm 10) (.skip)
 (.exit 0)))
 (.seq (.block 1 (.seq (.seq (.region (some 9) [] [
 mv 13 0,mv 14 5,op 15 (.iaddr 1 (tm 13) (tm 14)),op 16 (.load none (tm 15)),mv 17 1,mv 18 5,op 19 (.iaddr 1 (tm 17) (tm 18)),op 20 (.load none (tm 19)),op 21 (.bin .lss .int (tm 16) (tm 20))] [0,1,5,21] none)
 (.cond (tm 21) (.seq (rg [op 4 (.mov (ci ((-1))))] [4])
 (.ret))
 (.skip)))
 (.seq (.region (some 9) [] [
 mv 22 0,mv 23 5,op 24 (.iaddr 1 (tm 22) (tm 23)),op 25 (.load none (tm 24)),mv 26 1,mv 27 5,op 28 (.iaddr 1 (tm 26) (tm 27)),op 29 (.load none (tm 28)),op 30 (.bin .gtr .int (tm 25) (tm 29))] [0,1,5,30] none)
 (.cond (tm 30) (.seq (rg [op 4 (.mov (ci (1)))] [4])
 (.ret))
 (.skip)))))
 (rg [mv 11 5,op 12 (.bin .sub .int (tm 11) (ci (1))),mv 5 12] [0,1,5]))

def c140 : ACode :=
 .seq (rg [op 4 (.mov (ci (0)))] [0,1])
 (.seq (.seq (rg [mv 6 0,op 7 (.len .slice (tm 6)),op 8 (.bin .sub .int (tm 7) (ci (1))),mv 5 8] [0,1,5])
 (.block 0 (.loop l140_0_h l140_0_b)))
 (.seq (rg [op 4 (.mov (ci (0)))] [4])
 (.ret)))

def a140 : AFunc := ⟨2,c140,[.tmp 4]⟩

def an140 : List RAnn := [
 ra 0 [0,1],ra 1 [0,1,5],rh 2 [0,1,5,10] [0,1,5],
 { id := 4,head := some 9,live := [0,1,5,21] },
 ra 5 [4],
 { id := 6,head := some 9,live := [0,1,5,30] },
 ra 7 [4],ra 3 [0,1,5],ra 8 [4]]

theorem comp140 : compF Tryz.prog an140 Tryz.f140 = some a140 := by kernel_rfl

/- graphdb/graphdbref03.minus -/
/-- loop 0 of function 141 -/
def l141_0_h : List Nat := [0,1,5,6,7]

def l141_0_b : ACode :=
 .seq (.seq (rg [mv 11 7,mv 12 0,op 13 (.len .slice (tm 12)),op 14 (.bin .lss .int (tm 11) (tm 13))] [0,1,5,6,7,14])
 (.cond (tm 14) (.skip)
 (.exit 0)))
 (.seq (.block 1 (.seq (.region (some 12) [] [
 mv 17 6,mv 18 0,mv 19 7,op 20 (.iaddr 1 (tm 18) (tm 19)),op 21 (.load none (tm 20)),op 22 (.bin .add .int (tm 17) (tm 21)),mv 23 1,mv 24 7,op 25 (.iaddr 1 (tm 23) (tm 24)),op 26 (.load none (tm 25)),op 27 (.bin .sub .int (tm 22) (tm 26)),mv 6 27] [0,1,5,6,7] none)
 (.seq (rg [mv 28 6,op 29 (.bin .lss .int (tm 28) (ci (0)))] [0,1,5,6,7,29])
 (.cond (tm 29) (.seq (rg [mv 30 5,mv 31 7,mv 32 6,op 33 (.bin .add .int (tm 32) (ci (1000))),op 34 (.iaddr 1 (tm 30) (tm 31)),⟨none,.store 1 (tm 34) (tm 33),none⟩] [0,1,5,7])
 (rg [op 6 (.mov (ci ((-1))))] [0,1,5,6,7]))
 (.seq (rg [mv 35 5,mv 36 7,mv 37 6,op 38 (.iaddr 1 (tm 35) (tm 36)),⟨none,.store 1 (tm 38) (tm 37),none⟩] [0,1,5,7])
 (rg [op 6 (.mov (ci (0)))] [0,1,5,6,7]))))))
 (rg [mv 15 7,op 16 (.bin .add .int (tm 15) (ci (1))),mv 7 16] [0,1,5,6,7]))

def c141 : ACode :=
 .seq (rg [op 4 (.mov (.cst (.sl false [])))] [0,1])
 (.seq (rg [mv 8 0,op 9 (.len .slice (tm 8)),op 10 (.mkslice 1 8 (.int .i64 0) (tm 9) (tm 9)),mv 5 10] [0,1,5])
 (.seq (rg [op 6 (.mov (ci (0)))] [0,1,5,6])
 (.seq (.seq (rg [op 7 (.mov (ci (0)))] [0,1,5,6,7])
 (.block 0 (.loop l141_0_h l141_0_b)))
 (.seq (rg [mv 39 5,mv 4 39] [4])
 (.ret)))))

def a141 : AFunc := ⟨2,c141,[.tmp 4]⟩

def an141 : List RAnn := [
 ra 0 [0,1],ra 1 [0,1,5],ra 2 [0,1,5,6],ra 3 [0,1,5,6,7],rh 4 [0,1,5,6,7,14] [0,1,5,6,7],
 { id := 6,head := some 12,live := [0,1,5,6,7] },
 ra 7 [0,1,5,6,7,29],ra 8 [0,1,5,7],ra 9 [0,1,5,6,7],ra 10 [0,1,5,7],ra 11 [0,1,5,6,7],ra 5 [0,1,5,6,7],ra 12 [4]]

theorem comp141 : compF Tryz.prog an141 Tryz.f141 = some a141 := by kernel_rfl

/- graphdb/num.In -/
def c143 : ACode :=
 .seq (rg [op 2 (.mov (.cst (.bool false)))] [0])
 (.seq (rg [mv 3 0,op 4 (.bin .geq .int (tm 3) (ci ((-1000000000000000)))),mv 5 4,mg 6 0 5 true,⟨some 7,.bin .leq .int (tm 6) (ci (1000000000000000)),some (5,true)⟩,op 8 (.pick (tm 5) (tm 7) (.cst (.bool false))),mv 2 8] [2])
 (.ret))

def a143 : AFunc := ⟨1,c143,[.tmp 2]⟩

def an143 : List RAnn := [
 ra 0 [0],ra 1 [2]]

theorem comp143 : compF Tryz.prog an143 Tryz.f143 = some a143 := by kernel_rfl

/- graphdb/frac.Valid -/
def c144 : ACode :=
 .seq (rg [op 1 (.box 2 (tm 0)),op 2 (.mov (.cst (.bool false)))] [1])
 (.seq (rg [op 3 (.faddr 1 (tm 1)),op 4 (.load none (tm 3)),op 5 (.bin .geq .int (tm 4) (ci (1))),mv 6 5,⟨some 7,.faddr 1 (tm 1),some (6,true)⟩,⟨some 8,.load none (tm 7),some (6,true)⟩,⟨some 9,.bin .leq .int (tm 8) (ci (1000000000000000)),some (6,true)⟩,op 10 (.pick (tm 6) (tm 9) (.cst (.bool false))),mv 11 10,⟨some 12,.faddr 0 (tm 1),some (11,true)⟩,⟨some 13,.load none (tm 12),some (11,true)⟩,⟨some 14,.call .pure 143 [(tm 13)],some (11,true)⟩,op 15 (.pick (tm 11) (tm 14) (.cst (.bool false))),mv 16 15,⟨some 17,.faddr 0 (tm 1),some (16,true)⟩,⟨some 18,.load none (tm 17),some (16,true)⟩,⟨some 19,.faddr 1 (tm 1),some (16,true)⟩,⟨some 20,.load none (tm 19),some (16,true)⟩,⟨some 21,.call .pure 151 [(tm 18),(tm 20)],some (16,true)⟩,⟨some 22,.bin .eql .int (tm 21) (ci (1)),some (16,true)⟩,op 23 (.pick (tm 16) (tm 22) (.cst (.bool false))),mv 2 23] [2])
 (.ret))

def a144 : AFunc := ⟨1,c144,[.tmp 2]⟩

def an144 : List RAnn := [
 ra 0 [1],ra 1 [2]]

theorem comp144 : compF Tryz.prog an144 Tryz.f144 = some a144 := by kernel_rfl

/- graphdb/value.valid$1 -/
def c146 : ACode :=
 .seq (rg [op 2 (.mov (.cst (.bool false)))] [0])
 (.seq (rg [mv 3 0,op 4 (.bin .lss .int (tm 3) (.cst (.int .i32 32))),mv 5 4,mg 6 0 5 false,⟨some 7,.bin .gtr .int (tm 6) (.cst (.int .i32 126)),some (5,false)⟩,op 8 (.pick (tm 5) (.cst (.bool true)) (tm 7)),mv 2 8] [2])
 (.ret))

def a146 : AFunc := ⟨1,c146,[.tmp 2]⟩

def an146 : List RAnn := [
 ra 0 [0],ra 1 [2]]

theorem comp146 : compF Tryz.prog an146 Tryz.f146 = some a146 := by kernel_rfl

/- graphdb/value.path -/
/-- loop 0 of function 147 -/
def l147_0_h : List Nat := [15,16,17]

def l147_0_b : ACode :=
 .seq (rg [op 18 (.bin .lss .int (tm 17) (tm 16))] [15,16,17,18])
 (.seq (.cond (tm 18) (.skip)
 (.exit 0))
 (.seq (.block 1 (.seq (rg [mv 19 17,op 20 (.iaddr 5 (tm 15) (tm 17)),op 21 (.load (some 5) (tm 20)),op 4 (.alloc 5 (.agg [.int .i64 0,.int .i64 0,.int .i64 0,.str [],.sl false []])),mv 3 19,⟨none,.store 5 (tm 4) (tm 21),none⟩] [3,4,15,16,17])
 (.seq (rg [op 22 (.lit false 1 (.int .i64 0) 2 [(0,(ci (5))),(1,(ci (6)))]),mv 23 3,op 24 (.bin .rem .int (tm 23) (ci (2))),op 25 (.iaddr 1 (tm 22) (tm 24)),op 26 (.load none (tm 25)),mv 5 26] [4,5,15,16,17])
 (.seq (rg [op 27 (.faddr 0 (tm 4)),op 28 (.load none (tm 27)),mv 29 5,op 30 (.bin .neq .int (tm 28) (tm 29)),mv 31 30,⟨some 32,.load (some 5) (tm 4),some (31,false)⟩,⟨some 33,.call .pure 127 [(tm 32),(ci (0))],some (31,false)⟩,⟨some 34,.un .not (tm 33),some (31,false)⟩,op 35 (.pick (tm 31) (.cst (.bool true)) (tm 34))] [15,16,17,35])
 (.cond (tm 35) (.seq (rg [op 2 (.mov (.cst (.bool false)))] [2])
 (.ret))
 (.skip))))))
 (.region none [] [op 36 (.bin .add .int (tm 17) (ci (1))),mv 17 36] [15,16,17] (some 0))))

def c147 : ACode :=
 .seq (rg [op 2 (.mov (.cst (.bool false)))] [0])
 (.seq (.seq (rg [mv 6 0,op 7 (.len .slice (tm 6)),op 8 (.bin .rem .int (tm 7) (ci (2))),op 9 (.bin .eql .int (tm 8) (ci (0))),mv 10 9,mg 11 0 10 false,⟨some 12,.len .slice (tm 11),some (10,false)⟩,⟨some 13,.bin .gtr .int (tm 12) (ci (25)),some (10,false)⟩,op 14 (.pick (tm 10) (.cst (.bool true)) (tm 13))] [0,14])
 (.cond (tm 14) (.seq (rg [op 2 (.mov (.cst (.bool false)))] [2])
 (.ret))
 (.skip)))
 (.seq (.seq (rg [mv 15 0,op 16 (.len .slice (tm 15)),op 17 (.mov (ci (0)))] [15,16,17])
 (.block 0 (.loop l147_0_h l147_0_b)))
 (.seq (rg [op 2 (.mov (.cst (.bool true)))] [2])
 (.ret))))

def a147 : AFunc := ⟨1,c147,[.tmp 2]⟩

def an147 : List RAnn := [
 ra 0 [0],ra 1 [0,14],ra 2 [2],ra 3 [15,16,17],rh 4 [15,16,17,18] [15,16,17],ra 5 [3,4,15,16,17],ra 6 [4,5,15,16,17],ra 7 [15,16,17,35],ra 8 [2],
 { id := 9,live := [15,16,17],trunc := some 0 },
 ra 10 [2]]

theorem comp147 : compF Tryz.prog an147 Tryz.f147 = some a147 := by kernel_rfl

/- graphdb/frac.product -/
def c148 : ACode :=
 .seq (rg [op 4 (.alloc 3 (.agg [.bool false,.int .u64 0,.int .u64 0]))] [0,1,4])
 (.seq (rg [mv 8 0,op 9 (.call .pure 154 [(tm 8)]),mv 10 1,op 11 (.call .pure 154 [(tm 10)]),op 12 (.call .pure 153 [(tm 9),(tm 11)]),mv 7 12,op 13 (.ext (tm 7) 0),op 14 (.ext (tm 7) 1),mv 5 13,mv 6 14] [0,1,4,5,6])
 (.seq (rg [mv 15 0,op 16 (.bin .lss .int (tm 15) (ci (0))),mv 17 1,op 18 (.bin .lss .int (tm 17) (ci (0))),op 19 (.bin .neq .bool (tm 16) (tm 18)),mv 20 5,mv 21 6,op 22 (.build [.bool false,.int .u64 0,.int .u64 0] [(0,1,(tm 19)),(1,1,(tm 20)),(2,1,(tm 21))]),⟨none,.store 3 (tm 4) (tm 22),none⟩] [4])
 (.ret)))

def a148 : AFunc := ⟨2,c148,[.cell 4 (some 3)]⟩

def an148 : List RAnn := [
 ra 0 [0,1,4],ra 1 [0,1,4,5,6],ra 2 [4]]

theorem comp148 : compF Tryz.prog an148 Tryz.f148 = some a148 := by kernel_rfl

/- (graphdb/frac.wide).plus -/
def c149 : ACode :=
 .seq (rg [op 2 (.box 3 (tm 0)),op 3 (.box 3 (tm 1)),op 4 (.alloc 3 (.agg [.bool false,.int .u64 0,.int .u64 0]))] [2,3,4])
 (.seq (.seq (rg [op 13 (.faddr 0 (tm 2)),op 14 (.load none (tm 13)),op 15 (.faddr 0 (tm 3)),op 16 (.load none (tm 15)),op 17 (.bin .eql .bool (tm 14) (tm 16))] [2,3,4,17])
 (.cond (tm 17) (.seq (rg [op 19 (.faddr 2 (tm 2)),op 20 (.load none (tm 19)),op 21 (.faddr 2 (tm 3)),op 22 (.load none (tm 21)),op 23 (.call .pure 155 [(tm 20),(tm 22),(.cst (.int .u64 0))]),mv 18 23,op 24 (.ext (tm 18) 0),op 25 (.ext (tm 18) 1),mv 5 24,mv 6 25] [2,3,4,5,6])
 (.seq (rg [op 27 (.faddr 1 (tm 2)),op 28 (.load none (tm 27)),op 29 (.faddr 1 (tm 3)),op 30 (.load none (tm 29)),mv 31 6,op 32 (.call .pure 155 [(tm 28),(tm 30),(tm 31)]),mv 26 32,op 33 (.ext (tm 26) 0),op 34 (.ext (tm 26) 1),mv 7 33,mv 8 34] [2,4,5,7])
 (.seq (rg [op 35 (.faddr 0 (tm 2)),op 36 (.load none (tm 35)),mv 37 7,mv 38 5,op 39 (.build [.bool false,.int .u64 0,.int .u64 0] [(0,1,(tm 36)),(1,1,(tm 37)),(2,1,(tm 38))]),⟨none,.store 3 (tm 4) (tm 39),none⟩] [4])
 (.ret))))
 (.skip)))
 (.seq (.seq (rg [op 40 (.load (some 3) (tm 2)),op 41 (.load (some 3) (tm 3)),op 42 (.call .pure 156 [(tm 40),(tm 41)])] [2,3,4,42])
 (.cond (tm 42) (rg [op 43 (.load (some 3) (tm 3)),op 44 (.load (some 3) (tm 2)),⟨none,.store 3 (tm 2) (tm 43),none⟩,⟨none,.store 3 (tm 3) (tm 44),none⟩] [2,3,4])
 (.skip)))
 (.seq (rg [op 46 (.faddr 2 (tm 2)),op 47 (.load none (tm 46)),op 48 (.faddr 2 (tm 3)),op 49 (.load none (tm 48)),op 50 (.call .pure 157 [(tm 47),(tm 49),(.cst (.int .u64 0))]),mv 45 50,op 51 (.ext (tm 45) 0),op 52 (.ext (tm 45) 1),mv 9 51,mv 10 52] [2,3,4,9,10])
 (.seq (rg [op 54 (.faddr 1 (tm 2)),op 55 (.load none (tm 54)),op 56 (.faddr 1 (tm 3)),op 57 (.load none (tm 56)),mv 58 10,op 59 (.call .pure 157 [(tm 55),(tm 57),(tm 58)]),mv 53 59,op 60 (.ext (tm 53) 0),op 61 (.ext (tm 53) 1),mv 11 60,mv 12 61] [2,4,9,11])
 (.seq (rg [op 62 (.faddr 0 (tm 2)),op 63 (.load none (tm 62)),mv 64 11,mv 65 9,op 66 (.build [.bool false,.int .u64 0,.int .u64 0] [(0,1,(tm 63)),(1,1,(tm 64)),(2,1,(tm 65))]),⟨none,.store 3 (tm 4) (tm 66),none⟩] [4])
 (.ret))))))

def a149 : AFunc := ⟨2,c149,[.cell 4 (some 3)]⟩

def an149 : List RAnn := [
 ra 0 [2,3,4],ra 1 [2,3,4,17],ra 2 [2,3,4,5,6],ra 3 [2,4,5,7],ra 4 [4],ra 5 [2,3,4,42],ra 6 [2,3,4],ra 7 [2,3,4,9,10],ra 8 [2,4,9,11],ra 9 [4]]

theorem comp149 : compF Tryz.prog an149 Tryz.f149 = some a149 := by kernel_rfl

/- (graphdb/frac.wide).sign -/
def c150 : ACode :=
 .seq (rg [op 1 (.box 3 (tm 0)),op 2 (.mov (ci (0)))] [1])
 (.seq (.block 0 (.seq (rg [op 4 (.faddr 1 (tm 1)),op 5 (.load none (tm 4)),op 6 (.faddr 2 (tm 1)),op 7 (.load none (tm 6)),op 8 (.bin .or .int (tm 5) (tm 7)),op 9 (.bin .eql .int (tm 8) (.cst (.int .u64 0))),mv 3 9] [1,3])
 (.cond (tm 3) (.seq (rg [op 2 (.mov (ci (0)))] [2])
 (.ret))
 (.seq (rg [op 11 (.faddr 0 (tm 1)),op 12 (.load none (tm 11)),mv 10 12] [10])
 (.cond (tm 10) (.seq (rg [op 2 (.mov (ci ((-1))))] [2])
 (.ret))
 (.skip))))))
 (.seq (rg [op 2 (.mov (ci (1)))] [2])
 (.ret)))

def a150 : AFunc := ⟨1,c150,[.tmp 2]⟩

def an150 : List RAnn := [
 ra 0 [1],ra 1 [1,3],ra 2 [2],ra 3 [10],ra 4 [2],ra 5 [2]]

theorem comp150 : compF Tryz.prog an150 Tryz.f150 = some a150 := by kernel_rfl

/- graphdb/num.Gcd -/
/-- loop 0 of function 151 -/
def l151_0_h : List Nat := [0,1]

def l151_0_b : ACode :=
 .seq (.seq (rg [mv 17 1,op 18 (.bin .neq .int (tm 17) (ci (0)))] [0,1,18])
 (.cond (tm 18) (.skip)
 (.exit 0)))
 (.block 1 (.region (some 6) [] [
 mv 19 1,mv 20 0,mv 21 1,op 22 (.bin .rem .int (tm 20) (tm 21)),mv 0 19,mv 1 22] [0,1] none))

def c151 : ACode :=
 .seq (rg [op 4 (.mov (ci (0)))] [0,1])
 (.seq (.seq (rg [mv 5 0,op 6 (.call .pure 143 [(tm 5)]),op 7 (.un .not (tm 6)),mv 8 7,mg 9 1 8 false,⟨some 10,.call .pure 143 [(tm 9)],some (8,false)⟩,⟨some 11,.un .not (tm 10),some (8,false)⟩,op 12 (.pick (tm 8) (.cst (.bool true)) (tm 11))] [0,1,12])
 (.cond (tm 12) (.seq (rg [op 4 (.mov (ci (0)))] [4])
 (.ret))
 (.skip)))
 (.seq (rg [mv 13 0,op 14 (.call .pure 158 [(tm 13)]),mv 15 1,op 16 (.call .pure 158 [(tm 15)]),mv 0 14,mv 1 16] [0,1])
 (.seq (.block 0 (.loop l151_0_h l151_0_b))
 (.seq (rg [mv 23 0,mv 4 23] [4])
 (.ret)))))

def a151 : AFunc := ⟨2,c151,[.tmp 4]⟩

def an151 : List RAnn := [
 ra 0 [0,1],ra 1 [0,1,12],ra 2 [4],ra 3 [0,1],rh 4 [0,1,18] [0,1],
 { id := 5,head := some 6,live := [0,1] },
 ra 6 [4]]

theorem comp151 : compF Tryz.prog an151 Tryz.f151 = some a151 := by kernel_rfl

/- strings.indexFunc -/
/-- loop 0 of function 152 -/
def l152_0_h : List Nat := [1,2,10]

def l152_0_b : ACode :=
 .seq (.cond (ci (0)) (.skip)
 (.skip))
 (.seq (.cond (tm 12) (.skip)
 (.exit 0))
 (.block 1 (.seq (rg [op 13 (.ext (tm 11) 1),op 14 (.ext (tm 11) 2),mv 7 13,mv 8 14] [1,2,7,8,10])
 (.seq (rg [mv 15 1,mv 16 8,op 17 (.callv .pure (tm 15) [(tm 16)]),mv 18 2,op 19 (.bin .eql .bool (tm 17) (tm 18))] [1,2,7,10,19])
 (.cond (tm 19) (.seq (rg [mv 20 7,mv 6 20] [6])
 (.ret))
 (.skip))))))

def c152 : ACode :=
 .seq (rg [op 6 (.mov (ci (0)))] [0,1,2])
 (.seq (.seq (.cond (ci (0)) (.skip)
 (.skip))
 (.block 0 (.loop l152_0_h l152_0_b)))
 (.seq (rg [op 6 (.mov (ci ((-1))))] [6])
 (.ret)))

def a152 : AFunc := ⟨3,c152,[.tmp 6]⟩

def an152 : List RAnn := [
 ra 0 [0,1,2],ra 1 [1,2,10],rh 2 [1,2,10,11,12] [1,2,10],ra 3 [1,2,7,8,10],ra 4 [1,2,7,10,19],ra 5 [6],ra 6 [6]]

theorem comp152 : compF Tryz.prog an152 Tryz.f152 = some a152 := by kernel_rfl

/- math/bits.Mul64 -/
def c153 : ACode :=
 .seq (rg [op 4 (.mov (.cst (.int .u64 0))),op 5 (.mov (.cst (.int .u64 0)))] [0,1])
 (.seq (rg [mv 14 0,op 15 (.bin .and .int (tm 14) (.cst (.int .u64 4294967295))),mv 6 15] [0,1,6])
 (.seq (rg [mv 16 0,op 17 (.bin .shr .int (tm 16) (.cst (.int .u64 32))),mv 7 17] [0,1,6,7])
 (.seq (rg [mv 18 1,op 19 (.bin .and .int (tm 18) (.cst (.int .u64 4294967295))),mv 8 19] [0,1,6,7,8])
 (.seq (rg [mv 20 1,op 21 (.bin .shr .int (tm 20) (.cst (.int .u64 32))),mv 9 21] [0,1,6,7,8,9])
 (.seq (rg [mv 22 6,mv 23 8,op 24 (.bin .mul .int (tm 22) (tm 23)),mv 10 24] [0,1,6,7,8,9,10])
 (.seq (rg [mv 25 7,mv 26 8,op 27 (.bin .mul .int (tm 25) (tm 26)),mv 28 10,op 29 (.bin .shr .int (tm 28) (.cst (.int .u64 32))),op 30 (.bin .add .int (tm 27) (tm 29)),mv 11 30] [0,1,6,7,9,11])
 (.seq (rg [mv 31 11,op 32 (.bin .and .int (tm 31) (.cst (.int .u64 4294967295))),mv 12 32] [0,1,6,7,9,11,12])
 (.seq (rg [mv 33 11,op 34 (.bin .shr .int (tm 33) (.cst (.int .u64 32))),mv 13 34] [0,1,6,7,9,12,13])
 (.seq (rg [mv 35 12,mv 36 6,mv 37 9,op 38 (.bin .mul .int (tm 36) (tm 37)),op 39 (.bin .add .int (tm 35) (tm 38)),mv 12 39] [0,1,7,9,12,13])
 (.seq (rg [mv 40 7,mv 41 9,op 42 (.bin .mul .int (tm 40) (tm 41)),mv 43 13,op 44 (.bin .add .int (tm 42) (tm 43)),mv 45 12,op 46 (.bin .shr .int (tm 45) (.cst (.int .u64 32))),op 47 (.bin .add .int (tm 44) (tm 46)),mv 4 47] [0,1,4])
 (.seq (rg [mv 48 0,mv 49 1,op 50 (.bin .mul .int (tm 48) (tm 49)),mv 5 50] [4,5])
 (.ret))))))))))))

def a153 : AFunc := ⟨2,c153,[.tmp 4,.tmp 5]⟩

def an153 : List RAnn := [
 ra 0 [0,1],ra 1 [0,1,6],ra 2 [0,1,6,7],ra 3 [0,1,6,7,8],ra 4 [0,1,6,7,8,9],ra 5 [0,1,6,7,8,9,10],ra 6 [0,1,6,7,9,11],ra 7 [0,1,6,7,9,11,12],ra 8 [0,1,6,7,9,12,13],ra 9 [0,1,7,9,12,13],ra 10 [0,1,4],ra 11 [4,5]]

theorem comp153 : compF Tryz.prog an153 Tryz.f153 = some a153 := by kernel_rfl

/- graphdb/frac.size -/
def c154 : ACode :=
 .seq (rg [op 2 (.mov (.cst (.int .u64 0)))] [0])
 (.seq (.seq (rg [mv 3 0,op 4 (.bin .lss .int (tm 3) (ci (0)))] [0,4])
 (.cond (tm 4) (.seq (rg [mv 5 0,op 6 (.conv .u64 (tm 5)),op 7 (.un .neg (tm 6)),mv 2 7] [2])
 (.ret))
 (.skip)))
 (.seq (rg [mv 8 0,op 9 (.conv .u64 (tm 8)),mv 2 9] [2])
 (.ret)))

def a154 : AFunc := ⟨1,c154,[.tmp 2]⟩

def an154 : List RAnn := [
 ra 0 [0],ra 1 [0,4],ra 2 [2],ra 3 [2]]

theorem comp154 : compF Tryz.prog an154 Tryz.f154 = some a154 := by kernel_rfl

/- (graphdb/frac.wide).less -/
def c156 : ACode :=
 .seq (rg [op 2 (.box 3 (tm 0)),op 3 (.box 3 (tm 1)),op 4 (.mov (.cst (.bool false)))] [2,3])
 (.seq (rg [op 5 (.faddr 1 (tm 2)),op 6 (.load none (tm 5)),op 7 (.faddr 1 (tm 3)),op 8 (.load none (tm 7)),op 9 (.bin .lss .int (tm 6) (tm 8)),mv 10 9,⟨some 11,.faddr 1 (tm 2),some (10,false)⟩,⟨some 12,.load none (tm 11),some (10,false)⟩,⟨some 13,.faddr 1 (tm 3),some (10,false)⟩,⟨some 14,.load none (tm 13),some (10,false)⟩,⟨some 15,.bin .eql .int (tm 12) (tm 14),some (10,false)⟩,mg 16 15 10 false,⟨some 17,.faddr 2 (tm 2),some (16,true)⟩,⟨some 18,.load none (tm 17),some (16,true)⟩,⟨some 19,.faddr 2 (tm 3),some (16,true)⟩,⟨some 20,.load none (tm 19),some (16,true)⟩,⟨some 21,.bin .lss .int (tm 18) (tm 20),some (16,true)⟩,⟨some 22,.pick (tm 16) (tm 21) (.cst (.bool false)),some (10,false)⟩,op 23 (.pick (tm 10) (.cst (.bool true)) (tm 22)),mv 4 23] [4])
 (.ret))

def a156 : AFunc := ⟨2,c156,[.tmp 4]⟩

def an156 : List RAnn := [
 ra 0 [2,3],ra 1 [4]]

theorem comp156 : compF Tryz.prog an156 Tryz.f156 = some a156 := by kernel_rfl

/- graphdb/num.abs -/
def c158 : ACode :=
 .seq (rg [op 2 (.mov (ci (0)))] [0])
 (.seq (rg [mv 3 0,mv 4 0,op 5 (.un .neg (tm 4)),op 6 (.max (tm 3) (tm 5)),mv 2 6] [2])
 (.ret))

def a158 : AFunc := ⟨1,c158,[.tmp 2]⟩

def an158 : List RAnn := [
 ra 0 [0],ra 1 [2]]

theorem comp158 : compF Tryz.prog an158 Tryz.f158 = some a158 := by kernel_rfl

end AI
end Go.Proofs.YtkknpgebiihkfaaGreatDoor
