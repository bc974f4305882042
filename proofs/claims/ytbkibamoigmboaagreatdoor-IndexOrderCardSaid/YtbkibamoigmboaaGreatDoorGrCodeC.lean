/- Printed by a program of mine: the functions,compiled; the kernel checks each against the given form. -/
import Derived.Test.YtbkibamoigmboaaGreatDoorSe
import Derived.Test.YtbkibamoigmboaaGreatDoorProg
import Derived.Test.YtbkibamoigmboaaGreatDoorAb
import Derived.KernelRfl
import Derived.Test.YtbkibamoigmboaaGreatDoorIxF
import Derived.Test.YtbkibamoigmboaaGreatDoorInS
import Derived.Test.YtbkibamoigmboaaGreatDoorBc
namespace Go.Proofs.YtbkibamoigmboaaGreatDoor
namespace AI
/- slices.choosePivotOrdered[int] -/
def c190 : ACode :=
 .seq (rg [op 6 (.mov (ci (0))),op 7 (.mov (ci (0)))] [0,1,2])
 (.seq (rg [mv 13 2,mv 14 1,op 15 (.bin .sub .int (tm 13) (tm 14)),mv 8 15] [0,1,8])
 (.seq (rg [op 9 (.alloc 1 (.int .i64 0))] [0,1,8,9])
 (.seq (rg [mv 16 1,mv 17 8,op 18 (.bin .quo .int (tm 17) (ci (4))),op 19 (.bin .mul .int (tm 18) (ci (1))),op 20 (.bin .add .int (tm 16) (tm 19)),mv 10 20] [0,1,8,9,10])
 (.seq (rg [mv 21 1,mv 22 8,op 23 (.bin .quo .int (tm 22) (ci (4))),op 24 (.bin .mul .int (tm 23) (ci (2))),op 25 (.bin .add .int (tm 21) (tm 24)),mv 11 25] [0,1,8,9,10,11])
 (.seq (rg [mv 26 1,mv 27 8,op 28 (.bin .quo .int (tm 27) (ci (4))),op 29 (.bin .mul .int (tm 28) (ci (3))),op 30 (.bin .add .int (tm 26) (tm 29)),mv 12 30] [0,8,9,10,11,12])
 (.seq (.seq (rg [mv 31 8,op 32 (.bin .geq .int (tm 31) (ci (8)))] [0,8,9,10,11,12,32])
 (.cond (tm 32) (.seq (.seq (rg [mv 33 8,op 34 (.bin .geq .int (tm 33) (ci (50)))] [0,9,10,11,12,34])
 (.cond (tm 34) (.seq (rg [mv 35 0,mv 36 10,op 37 (.call .share 234 [(tm 35),(tm 36),(tm 9)]),mv 10 37] [0,9,10,11,12])
 (.seq (rg [mv 38 0,mv 39 11,op 40 (.call .share 234 [(tm 38),(tm 39),(tm 9)]),mv 11 40] [0,9,10,11,12])
 (rg [mv 41 0,mv 42 12,op 43 (.call .share 234 [(tm 41),(tm 42),(tm 9)]),mv 12 43] [0,9,10,11,12])))
 (.skip)))
 (rg [mv 44 0,mv 45 10,mv 46 11,mv 47 12,op 48 (.call .share 235 [(tm 44),(tm 45),(tm 46),(tm 47),(tm 9)]),mv 11 48] [9,11]))
 (.skip)))
 (.seq (rg [op 49 (.load none (tm 9))] [11,49])
 (.block 0 (.seq (rg [op 52 (.bin .eql .int (tm 49) (ci (0))),mv 51 52] [11,49,51])
 (.cond (tm 51) (.seq (rg [mv 53 11,mv 6 53,op 7 (.mov (ci (1)))] [6,7])
 (.ret))
 (.seq (rg [op 55 (.bin .eql .int (tm 49) (ci (12))),mv 54 55] [11,54])
 (.cond (tm 54) (.seq (rg [mv 56 11,mv 6 56,op 7 (.mov (ci (2)))] [6,7])
 (.ret))
 (.seq (rg [mv 50 11,mv 6 50,op 7 (.mov (ci (0)))] [6,7])
 (.ret))))))))))))))

def a190 : AFunc := ⟨3,c190,[.tmp 6,.tmp 7]⟩

def an190 : List RAnn := [
 ra 0 [0,1,2],ra 1 [0,1,8],ra 2 [0,1,8,9],ra 3 [0,1,8,9,10],ra 4 [0,1,8,9,10,11],ra 5 [0,8,9,10,11,12],ra 6 [0,8,9,10,11,12,32],ra 7 [0,9,10,11,12,34],
 { id := 8,live := [0,9,10,11,12],ops := [(2,.mode .share)] },
 { id := 9,live := [0,9,10,11,12],ops := [(2,.mode .share)] },
 { id := 10,live := [0,9,10,11,12],ops := [(2,.mode .share)] },
 { id := 11,live := [9,11],ops := [(4,.mode .share)] },
 ra 12 [11,49],ra 14 [11,49,51],ra 15 [6,7],ra 16 [11,54],ra 17 [6,7],ra 13 [6,7]]

theorem comp190 : compF Tryz.prog an190 Tryz.f190 = some a190 := by kernel_rfl

/- slices.reverseRangeOrdered[int] -/
/-- loop 0 of function 191 -/
def l191_0_h : List Nat := [0,6,7]

def l191_0_b : ACode :=
 .seq (.seq (rg [mv 11 6,mv 12 7,op 13 (.bin .lss .int (tm 11) (tm 12))] [0,6,7,13])
 (.cond (tm 13) (.skip)
 (.exit 0)))
 (.block 1 (.seq (.par 16 [] [] [
 mv 14 0,mv 15 6,mv 16 0,mv 17 7,mv 18 0,mv 19 7,op 20 (.iaddr 1 (tm 18) (tm 19)),op 21 (.load none (tm 20)),mv 22 0,mv 23 6,op 24 (.iaddr 1 (tm 22) (tm 23)),op 25 (.load none (tm 24)),op 26 (.iaddr 1 (tm 14) (tm 15)),⟨none,.store 1 (tm 26) (tm 21),none⟩,op 27 (.iaddr 1 (tm 16) (tm 17)),⟨none,.store 1 (tm 27) (tm 25),none⟩] [0,6,7] none)
 (.seq (rg [mv 28 6,op 29 (.bin .add .int (tm 28) (ci (1))),mv 6 29] [0,6,7])
 (rg [mv 30 7,op 31 (.bin .sub .int (tm 30) (ci (1))),mv 7 31] [0,6,7]))))

def c191 : ACode :=
 .seq (rg [mv 8 1,mv 6 8] [0,2,6])
 (.seq (rg [mv 9 2,op 10 (.bin .sub .int (tm 9) (ci (1))),mv 7 10] [0,6,7])
 (.block 0 (.loop l191_0_h l191_0_b)))

def a191 : AFunc := ⟨3,c191,[]⟩

def an191 : List RAnn := [
 ra 0 [0,2,6],ra 1 [0,6,7],rh 2 [0,6,7,13] [0,6,7],
 { id := 3,head := some 16,live := [0,6,7],par := true },
 ra 4 [0,6,7],ra 5 [0,6,7]]

theorem comp191 : compF Tryz.prog an191 Tryz.f191 = some a191 := by kernel_rfl

/- slices.partialInsertionSortOrdered[int] -/
/-- loop 0 of function 192 -/
def l192_0_h : List Nat := [0,1,2,7,8]

def l192_0_b : ACode :=
 .seq (.seq (.region (some 16) [] [
 mv 17 7,mv 18 2,op 19 (.bin .lss .int (tm 17) (tm 18)),mv 20 19,mg 21 0 20 true,mg 22 7 20 true,⟨some 23,.iaddr 1 (tm 21) (tm 22),some (20,true)⟩,⟨some 24,.load none (tm 23),some (20,true)⟩,mg 25 0 20 true,mg 26 7 20 true,⟨some 27,.bin .sub .int (tm 26) (ci (1)),some (20,true)⟩,⟨some 28,.iaddr 1 (tm 25) (tm 27),some (20,true)⟩,⟨some 29,.load none (tm 28),some (20,true)⟩,⟨some 30,.call .pure 193 [(tm 24),(tm 29)],some (20,true)⟩,⟨some 31,.un .not (tm 30),some (20,true)⟩,op 32 (.pick (tm 20) (tm 31) (.cst (.bool false)))] [0,1,2,7,8,32] none)
 (.cond (tm 32) (.skip)
 (.exit 2)))
 (.block 3 (rg [mv 33 7,op 34 (.bin .add .int (tm 33) (ci (1))),mv 7 34] [0,1,2,7,8]))

/-- loop 1 of function 192 -/
def l192_1_h : List Nat := [0,1,2,7,8,9]

def l192_1_b : ACode :=
 .seq (.seq (rg [mv 64 9,op 65 (.bin .geq .int (tm 64) (ci (1)))] [0,1,2,7,8,9,65])
 (.cond (tm 65) (.skip)
 (.exit 4)))
 (.seq (.block 5 (.seq (.seq (.region (some 11) [] [
 mv 68 0,mv 69 9,op 70 (.iaddr 1 (tm 68) (tm 69)),op 71 (.load none (tm 70)),mv 72 0,mv 73 9,op 74 (.bin .sub .int (tm 73) (ci (1))),op 75 (.iaddr 1 (tm 72) (tm 74)),op 76 (.load none (tm 75)),op 77 (.call .pure 193 [(tm 71),(tm 76)]),op 78 (.un .not (tm 77))] [0,1,2,7,8,9,78] none)
 (.cond (tm 78) (.exit 4)
 (.skip)))
 (.par 18 [] [] [
 mv 79 0,mv 80 9,mv 81 0,mv 82 9,op 83 (.bin .sub .int (tm 82) (ci (1))),mv 84 0,mv 85 9,op 86 (.bin .sub .int (tm 85) (ci (1))),op 87 (.iaddr 1 (tm 84) (tm 86)),op 88 (.load none (tm 87)),mv 89 0,mv 90 9,op 91 (.iaddr 1 (tm 89) (tm 90)),op 92 (.load none (tm 91)),op 93 (.iaddr 1 (tm 79) (tm 80)),⟨none,.store 1 (tm 93) (tm 88),none⟩,op 94 (.iaddr 1 (tm 81) (tm 83)),⟨none,.store 1 (tm 94) (tm 92),none⟩] [0,1,2,7,8,9] none)))
 (rg [mv 66 9,op 67 (.bin .sub .int (tm 66) (ci (1))),mv 9 67] [0,1,2,7,8,9]))

/-- loop 2 of function 192 -/
def l192_2_h : List Nat := [0,1,2,7,8,10]

def l192_2_b : ACode :=
 .seq (.seq (rg [mv 101 10,mv 102 2,op 103 (.bin .lss .int (tm 101) (tm 102))] [0,1,2,7,8,10,103])
 (.cond (tm 103) (.skip)
 (.exit 6)))
 (.seq (.block 7 (.seq (.seq (.region (some 11) [] [
 mv 106 0,mv 107 10,op 108 (.iaddr 1 (tm 106) (tm 107)),op 109 (.load none (tm 108)),mv 110 0,mv 111 10,op 112 (.bin .sub .int (tm 111) (ci (1))),op 113 (.iaddr 1 (tm 110) (tm 112)),op 114 (.load none (tm 113)),op 115 (.call .pure 193 [(tm 109),(tm 114)]),op 116 (.un .not (tm 115))] [0,1,2,7,8,10,116] none)
 (.cond (tm 116) (.exit 6)
 (.skip)))
 (.par 18 [] [] [
 mv 117 0,mv 118 10,mv 119 0,mv 120 10,op 121 (.bin .sub .int (tm 120) (ci (1))),mv 122 0,mv 123 10,op 124 (.bin .sub .int (tm 123) (ci (1))),op 125 (.iaddr 1 (tm 122) (tm 124)),op 126 (.load none (tm 125)),mv 127 0,mv 128 10,op 129 (.iaddr 1 (tm 127) (tm 128)),op 130 (.load none (tm 129)),op 131 (.iaddr 1 (tm 117) (tm 118)),⟨none,.store 1 (tm 131) (tm 126),none⟩,op 132 (.iaddr 1 (tm 119) (tm 121)),⟨none,.store 1 (tm 132) (tm 130),none⟩] [0,1,2,7,8,10] none)))
 (rg [mv 104 10,op 105 (.bin .add .int (tm 104) (ci (1))),mv 10 105] [0,1,2,7,8,10]))

/-- loop 3 of function 192 -/
def l192_3_h : List Nat := [0,1,2,7,8]

def l192_3_b : ACode :=
 .seq (.seq (rg [mv 13 8,op 14 (.bin .lss .int (tm 13) (ci (5)))] [0,1,2,7,8,14])
 (.cond (tm 14) (.skip)
 (.exit 0)))
 (.seq (.block 1 (.seq (.block 2 (.loop l192_0_h l192_0_b))
 (.seq (.seq (rg [mv 35 7,mv 36 2,op 37 (.bin .eql .int (tm 35) (tm 36))] [0,1,2,7,8,37])
 (.cond (tm 37) (.seq (rg [op 6 (.mov (.cst (.bool true)))] [6])
 (.ret))
 (.skip)))
 (.seq (.seq (rg [mv 38 2,mv 39 1,op 40 (.bin .sub .int (tm 38) (tm 39)),op 41 (.bin .lss .int (tm 40) (ci (50)))] [0,1,2,7,8,41])
 (.cond (tm 41) (.seq (rg [op 6 (.mov (.cst (.bool false)))] [6])
 (.ret))
 (.skip)))
 (.seq (.par 18 [] [] [
 mv 42 0,mv 43 7,mv 44 0,mv 45 7,op 46 (.bin .sub .int (tm 45) (ci (1))),mv 47 0,mv 48 7,op 49 (.bin .sub .int (tm 48) (ci (1))),op 50 (.iaddr 1 (tm 47) (tm 49)),op 51 (.load none (tm 50)),mv 52 0,mv 53 7,op 54 (.iaddr 1 (tm 52) (tm 53)),op 55 (.load none (tm 54)),op 56 (.iaddr 1 (tm 42) (tm 43)),⟨none,.store 1 (tm 56) (tm 51),none⟩,op 57 (.iaddr 1 (tm 44) (tm 46)),⟨none,.store 1 (tm 57) (tm 55),none⟩] [0,1,2,7,8] none)
 (.seq (.seq (rg [mv 58 7,mv 59 1,op 60 (.bin .sub .int (tm 58) (tm 59)),op 61 (.bin .geq .int (tm 60) (ci (2)))] [0,1,2,7,8,61])
 (.cond (tm 61) (.seq (rg [mv 62 7,op 63 (.bin .sub .int (tm 62) (ci (1))),mv 9 63] [0,1,2,7,8,9])
 (.block 4 (.loop l192_1_h l192_1_b)))
 (.skip)))
 (.seq (rg [mv 95 2,mv 96 7,op 97 (.bin .sub .int (tm 95) (tm 96)),op 98 (.bin .geq .int (tm 97) (ci (2)))] [0,1,2,7,8,98])
 (.cond (tm 98) (.seq (rg [mv 99 7,op 100 (.bin .add .int (tm 99) (ci (1))),mv 10 100] [0,1,2,7,8,10])
 (.block 6 (.loop l192_2_h l192_2_b)))
 (.skip)))))))))
 (rg [mv 15 8,op 16 (.bin .add .int (tm 15) (ci (1))),mv 8 16] [0,1,2,7,8]))

def c192 : ACode :=
 .seq (rg [op 6 (.mov (.cst (.bool false)))] [0,1,2])
 (.seq (rg [mv 11 1,op 12 (.bin .add .int (tm 11) (ci (1))),mv 7 12] [0,1,2,7])
 (.seq (.seq (rg [op 8 (.mov (ci (0)))] [0,1,2,7,8])
 (.block 0 (.loop l192_3_h l192_3_b)))
 (.seq (rg [op 6 (.mov (.cst (.bool false)))] [6])
 (.ret))))

def a192 : AFunc := ⟨3,c192,[.tmp 6]⟩

def an192 : List RAnn := [
 ra 0 [0,1,2],ra 1 [0,1,2,7],ra 2 [0,1,2,7,8],rh 3 [0,1,2,7,8,14] [0,1,2,7,8],
 { id := 5,head := some 16,live := [0,1,2,7,8,32],hdr := [0,1,2,7,8] },
 ra 6 [0,1,2,7,8],ra 7 [0,1,2,7,8,37],ra 8 [6],ra 9 [0,1,2,7,8,41],ra 10 [6],
 { id := 11,head := some 18,live := [0,1,2,7,8],par := true },
 ra 12 [0,1,2,7,8,61],ra 13 [0,1,2,7,8,9],rh 14 [0,1,2,7,8,9,65] [0,1,2,7,8,9],
 { id := 16,head := some 11,live := [0,1,2,7,8,9,78] },
 { id := 17,head := some 18,live := [0,1,2,7,8,9],par := true },
 ra 15 [0,1,2,7,8,9],ra 18 [0,1,2,7,8,98],ra 19 [0,1,2,7,8,10],rh 20 [0,1,2,7,8,10,103] [0,1,2,7,8,10],
 { id := 22,head := some 11,live := [0,1,2,7,8,10,116] },
 { id := 23,head := some 18,live := [0,1,2,7,8,10],par := true },
 ra 21 [0,1,2,7,8,10],ra 4 [0,1,2,7,8],ra 24 [6]]

theorem comp192 : compF Tryz.prog an192 Tryz.f192 = some a192 := by kernel_rfl

/- cmp.Less[int] -/
def c193 : ACode :=
 .seq (rg [op 4 (.mov (.cst (.bool false)))] [0,1])
 (.seq (rg [mv 5 0,op 6 (.call .pure 97 [(tm 5)]),mv 7 6,mg 8 1 7 true,⟨some 9,.call .pure 97 [(tm 8)],some (7,true)⟩,⟨some 10,.un .not (tm 9),some (7,true)⟩,op 11 (.pick (tm 7) (tm 10) (.cst (.bool false))),mv 12 11,mg 13 0 12 false,mg 14 1 12 false,⟨some 15,.bin .lss .int (tm 13) (tm 14),some (12,false)⟩,op 16 (.pick (tm 12) (.cst (.bool true)) (tm 15)),mv 4 16] [4])
 (.ret))

def a193 : AFunc := ⟨2,c193,[.tmp 4]⟩

def an193 : List RAnn := [
 ra 0 [0,1],ra 1 [4]]

theorem comp193 : compF Tryz.prog an193 Tryz.f193 = some a193 := by kernel_rfl

/- slices.partitionEqualOrdered[int] -/
/-- loop 0 of function 194 -/
def l194_0_h : List Nat := [0,1,9,10]

def l194_0_b : ACode :=
 .seq (.seq (.region (some 15) [] [
 mv 29 9,mv 30 10,op 31 (.bin .leq .int (tm 29) (tm 30)),mv 32 31,mg 33 0 32 true,mg 34 1 32 true,⟨some 35,.iaddr 1 (tm 33) (tm 34),some (32,true)⟩,⟨some 36,.load none (tm 35),some (32,true)⟩,mg 37 0 32 true,mg 38 9 32 true,⟨some 39,.iaddr 1 (tm 37) (tm 38),some (32,true)⟩,⟨some 40,.load none (tm 39),some (32,true)⟩,⟨some 41,.call .pure 193 [(tm 36),(tm 40)],some (32,true)⟩,⟨some 42,.un .not (tm 41),some (32,true)⟩,op 43 (.pick (tm 32) (tm 42) (.cst (.bool false)))] [0,1,9,10,43] none)
 (.cond (tm 43) (.skip)
 (.exit 2)))
 (.block 3 (rg [mv 44 9,op 45 (.bin .add .int (tm 44) (ci (1))),mv 9 45] [0,1,9,10]))

/-- loop 1 of function 194 -/
def l194_1_h : List Nat := [0,1,9,10]

def l194_1_b : ACode :=
 .seq (.seq (.region (some 14) [] [
 mv 46 9,mv 47 10,op 48 (.bin .leq .int (tm 46) (tm 47)),mv 49 48,mg 50 0 49 true,mg 51 1 49 true,⟨some 52,.iaddr 1 (tm 50) (tm 51),some (49,true)⟩,⟨some 53,.load none (tm 52),some (49,true)⟩,mg 54 0 49 true,mg 55 10 49 true,⟨some 56,.iaddr 1 (tm 54) (tm 55),some (49,true)⟩,⟨some 57,.load none (tm 56),some (49,true)⟩,⟨some 58,.call .pure 193 [(tm 53),(tm 57)],some (49,true)⟩,op 59 (.pick (tm 49) (tm 58) (.cst (.bool false)))] [0,1,9,10,59] none)
 (.cond (tm 59) (.skip)
 (.exit 4)))
 (.block 5 (rg [mv 60 10,op 61 (.bin .sub .int (tm 60) (ci (1))),mv 10 61] [0,1,9,10]))

/-- loop 2 of function 194 -/
def l194_2_h : List Nat := [0,1,9,10]

def l194_2_b : ACode :=
 .block 1 (.seq (.block 2 (.loop l194_0_h l194_0_b))
 (.seq (.block 4 (.loop l194_1_h l194_1_b))
 (.seq (.seq (rg [mv 62 9,mv 63 10,op 64 (.bin .gtr .int (tm 62) (tm 63))] [0,1,9,10,64])
 (.cond (tm 64) (.exit 0)
 (.skip)))
 (.seq (.par 16 [] [] [
 mv 65 0,mv 66 9,mv 67 0,mv 68 10,mv 69 0,mv 70 10,op 71 (.iaddr 1 (tm 69) (tm 70)),op 72 (.load none (tm 71)),mv 73 0,mv 74 9,op 75 (.iaddr 1 (tm 73) (tm 74)),op 76 (.load none (tm 75)),op 77 (.iaddr 1 (tm 65) (tm 66)),⟨none,.store 1 (tm 77) (tm 72),none⟩,op 78 (.iaddr 1 (tm 67) (tm 68)),⟨none,.store 1 (tm 78) (tm 76),none⟩] [0,1,9,10] none)
 (.seq (rg [mv 79 9,op 80 (.bin .add .int (tm 79) (ci (1))),mv 9 80] [0,1,9,10])
 (rg [mv 81 10,op 82 (.bin .sub .int (tm 81) (ci (1))),mv 10 82] [0,1,9,10]))))))

def c194 : ACode :=
 .seq (rg [op 8 (.mov (ci (0)))] [0,1,2,3])
 (.seq (.par 16 [] [] [
 mv 11 0,mv 12 1,mv 13 0,mv 14 3,mv 15 0,mv 16 3,op 17 (.iaddr 1 (tm 15) (tm 16)),op 18 (.load none (tm 17)),mv 19 0,mv 20 1,op 21 (.iaddr 1 (tm 19) (tm 20)),op 22 (.load none (tm 21)),op 23 (.iaddr 1 (tm 11) (tm 12)),⟨none,.store 1 (tm 23) (tm 18),none⟩,op 24 (.iaddr 1 (tm 13) (tm 14)),⟨none,.store 1 (tm 24) (tm 22),none⟩] [0,1,2] none)
 (.seq (rg [mv 25 1,op 26 (.bin .add .int (tm 25) (ci (1))),mv 27 2,op 28 (.bin .sub .int (tm 27) (ci (1))),mv 9 26,mv 10 28] [0,1,9,10])
 (.seq (.block 0 (.loop l194_2_h l194_2_b))
 (.seq (rg [mv 83 9,mv 8 83] [8])
 (.ret)))))

def a194 : AFunc := ⟨4,c194,[.tmp 8]⟩

def an194 : List RAnn := [
 ra 0 [0,1,2,3],
 { id := 1,head := some 16,live := [0,1,2],par := true },
 ra 2 [0,1,9,10],
 { id := 3,head := some 15,live := [0,1,9,10,43],hdr := [0,1,9,10] },
 ra 4 [0,1,9,10],
 { id := 5,head := some 14,live := [0,1,9,10,59],hdr := [0,1,9,10] },
 ra 6 [0,1,9,10],ra 7 [0,1,9,10,64],
 { id := 8,head := some 16,live := [0,1,9,10],par := true },
 ra 9 [0,1,9,10],ra 10 [0,1,9,10],ra 11 [8]]

theorem comp194 : compF Tryz.prog an194 Tryz.f194 = some a194 := by kernel_rfl

/- slices.partitionOrdered[int] -/
/-- loop 0 of function 195 -/
def l195_0_h : List Nat := [0,1,10,11]

def l195_0_b : ACode :=
 .seq (.seq (.region (some 14) [] [
 mv 30 10,mv 31 11,op 32 (.bin .leq .int (tm 30) (tm 31)),mv 33 32,mg 34 0 33 true,mg 35 10 33 true,⟨some 36,.iaddr 1 (tm 34) (tm 35),some (33,true)⟩,⟨some 37,.load none (tm 36),some (33,true)⟩,mg 38 0 33 true,mg 39 1 33 true,⟨some 40,.iaddr 1 (tm 38) (tm 39),some (33,true)⟩,⟨some 41,.load none (tm 40),some (33,true)⟩,⟨some 42,.call .pure 193 [(tm 37),(tm 41)],some (33,true)⟩,op 43 (.pick (tm 33) (tm 42) (.cst (.bool false)))] [0,1,10,11,43] none)
 (.cond (tm 43) (.skip)
 (.exit 0)))
 (.block 1 (rg [mv 44 10,op 45 (.bin .add .int (tm 44) (ci (1))),mv 10 45] [0,1,10,11]))

/-- loop 1 of function 195 -/
def l195_1_h : List Nat := [0,1,10,11]

def l195_1_b : ACode :=
 .seq (.seq (.region (some 15) [] [
 mv 46 10,mv 47 11,op 48 (.bin .leq .int (tm 46) (tm 47)),mv 49 48,mg 50 0 49 true,mg 51 11 49 true,⟨some 52,.iaddr 1 (tm 50) (tm 51),some (49,true)⟩,⟨some 53,.load none (tm 52),some (49,true)⟩,mg 54 0 49 true,mg 55 1 49 true,⟨some 56,.iaddr 1 (tm 54) (tm 55),some (49,true)⟩,⟨some 57,.load none (tm 56),some (49,true)⟩,⟨some 58,.call .pure 193 [(tm 53),(tm 57)],some (49,true)⟩,⟨some 59,.un .not (tm 58),some (49,true)⟩,op 60 (.pick (tm 49) (tm 59) (.cst (.bool false)))] [0,1,10,11,60] none)
 (.cond (tm 60) (.skip)
 (.exit 2)))
 (.block 3 (rg [mv 61 11,op 62 (.bin .sub .int (tm 61) (ci (1))),mv 11 62] [0,1,10,11]))

/-- loop 2 of function 195 -/
def l195_2_h : List Nat := [0,1,10,11]

def l195_2_b : ACode :=
 .seq (.seq (.region (some 14) [] [
 mv 99 10,mv 100 11,op 101 (.bin .leq .int (tm 99) (tm 100)),mv 102 101,mg 103 0 102 true,mg 104 10 102 true,⟨some 105,.iaddr 1 (tm 103) (tm 104),some (102,true)⟩,⟨some 106,.load none (tm 105),some (102,true)⟩,mg 107 0 102 true,mg 108 1 102 true,⟨some 109,.iaddr 1 (tm 107) (tm 108),some (102,true)⟩,⟨some 110,.load none (tm 109),some (102,true)⟩,⟨some 111,.call .pure 193 [(tm 106),(tm 110)],some (102,true)⟩,op 112 (.pick (tm 102) (tm 111) (.cst (.bool false)))] [0,1,10,11,112] none)
 (.cond (tm 112) (.skip)
 (.exit 6)))
 (.block 7 (rg [mv 113 10,op 114 (.bin .add .int (tm 113) (ci (1))),mv 10 114] [0,1,10,11]))

/-- loop 3 of function 195 -/
def l195_3_h : List Nat := [0,1,10,11]

def l195_3_b : ACode :=
 .seq (.seq (.region (some 15) [] [
 mv 115 10,mv 116 11,op 117 (.bin .leq .int (tm 115) (tm 116)),mv 118 117,mg 119 0 118 true,mg 120 11 118 true,⟨some 121,.iaddr 1 (tm 119) (tm 120),some (118,true)⟩,⟨some 122,.load none (tm 121),some (118,true)⟩,mg 123 0 118 true,mg 124 1 118 true,⟨some 125,.iaddr 1 (tm 123) (tm 124),some (118,true)⟩,⟨some 126,.load none (tm 125),some (118,true)⟩,⟨some 127,.call .pure 193 [(tm 122),(tm 126)],some (118,true)⟩,⟨some 128,.un .not (tm 127),some (118,true)⟩,op 129 (.pick (tm 118) (tm 128) (.cst (.bool false)))] [0,1,10,11,129] none)
 (.cond (tm 129) (.skip)
 (.exit 8)))
 (.block 9 (rg [mv 130 11,op 131 (.bin .sub .int (tm 130) (ci (1))),mv 11 131] [0,1,10,11]))

/-- loop 4 of function 195 -/
def l195_4_h : List Nat := [0,1,10,11]

def l195_4_b : ACode :=
 .block 5 (.seq (.block 6 (.loop l195_2_h l195_2_b))
 (.seq (.block 8 (.loop l195_3_h l195_3_b))
 (.seq (.seq (rg [mv 132 10,mv 133 11,op 134 (.bin .gtr .int (tm 132) (tm 133))] [0,1,10,11,134])
 (.cond (tm 134) (.exit 4)
 (.skip)))
 (.seq (.par 16 [] [] [
 mv 135 0,mv 136 10,mv 137 0,mv 138 11,mv 139 0,mv 140 11,op 141 (.iaddr 1 (tm 139) (tm 140)),op 142 (.load none (tm 141)),mv 143 0,mv 144 10,op 145 (.iaddr 1 (tm 143) (tm 144)),op 146 (.load none (tm 145)),op 147 (.iaddr 1 (tm 135) (tm 136)),⟨none,.store 1 (tm 147) (tm 142),none⟩,op 148 (.iaddr 1 (tm 137) (tm 138)),⟨none,.store 1 (tm 148) (tm 146),none⟩] [0,1,10,11] none)
 (.seq (rg [mv 149 10,op 150 (.bin .add .int (tm 149) (ci (1))),mv 10 150] [0,1,10,11])
 (rg [mv 151 11,op 152 (.bin .sub .int (tm 151) (ci (1))),mv 11 152] [0,1,10,11]))))))

def c195 : ACode :=
 .seq (rg [op 8 (.mov (ci (0))),op 9 (.mov (.cst (.bool false)))] [0,1,2,3])
 (.seq (.par 16 [] [] [
 mv 12 0,mv 13 1,mv 14 0,mv 15 3,mv 16 0,mv 17 3,op 18 (.iaddr 1 (tm 16) (tm 17)),op 19 (.load none (tm 18)),mv 20 0,mv 21 1,op 22 (.iaddr 1 (tm 20) (tm 21)),op 23 (.load none (tm 22)),op 24 (.iaddr 1 (tm 12) (tm 13)),⟨none,.store 1 (tm 24) (tm 19),none⟩,op 25 (.iaddr 1 (tm 14) (tm 15)),⟨none,.store 1 (tm 25) (tm 23),none⟩] [0,1,2] none)
 (.seq (rg [mv 26 1,op 27 (.bin .add .int (tm 26) (ci (1))),mv 28 2,op 29 (.bin .sub .int (tm 28) (ci (1))),mv 10 27,mv 11 29] [0,1,10,11])
 (.seq (.block 0 (.loop l195_0_h l195_0_b))
 (.seq (.block 2 (.loop l195_1_h l195_1_b))
 (.seq (.seq (rg [mv 63 10,mv 64 11,op 65 (.bin .gtr .int (tm 63) (tm 64))] [0,1,10,11,65])
 (.cond (tm 65) (.seq (.par 16 [] [] [
 mv 66 0,mv 67 11,mv 68 0,mv 69 1,mv 70 0,mv 71 1,op 72 (.iaddr 1 (tm 70) (tm 71)),op 73 (.load none (tm 72)),mv 74 0,mv 75 11,op 76 (.iaddr 1 (tm 74) (tm 75)),op 77 (.load none (tm 76)),op 78 (.iaddr 1 (tm 66) (tm 67)),⟨none,.store 1 (tm 78) (tm 73),none⟩,op 79 (.iaddr 1 (tm 68) (tm 69)),⟨none,.store 1 (tm 79) (tm 77),none⟩] [11] none)
 (.seq (rg [mv 80 11,mv 8 80,op 9 (.mov (.cst (.bool true)))] [8,9])
 (.ret)))
 (.skip)))
 (.seq (.par 16 [] [] [
 mv 81 0,mv 82 10,mv 83 0,mv 84 11,mv 85 0,mv 86 11,op 87 (.iaddr 1 (tm 85) (tm 86)),op 88 (.load none (tm 87)),mv 89 0,mv 90 10,op 91 (.iaddr 1 (tm 89) (tm 90)),op 92 (.load none (tm 91)),op 93 (.iaddr 1 (tm 81) (tm 82)),⟨none,.store 1 (tm 93) (tm 88),none⟩,op 94 (.iaddr 1 (tm 83) (tm 84)),⟨none,.store 1 (tm 94) (tm 92),none⟩] [0,1,10,11] none)
 (.seq (rg [mv 95 10,op 96 (.bin .add .int (tm 95) (ci (1))),mv 10 96] [0,1,10,11])
 (.seq (rg [mv 97 11,op 98 (.bin .sub .int (tm 97) (ci (1))),mv 11 98] [0,1,10,11])
 (.seq (.block 4 (.loop l195_4_h l195_4_b))
 (.seq (.par 16 [] [] [
 mv 153 0,mv 154 11,mv 155 0,mv 156 1,mv 157 0,mv 158 1,op 159 (.iaddr 1 (tm 157) (tm 158)),op 160 (.load none (tm 159)),mv 161 0,mv 162 11,op 163 (.iaddr 1 (tm 161) (tm 162)),op 164 (.load none (tm 163)),op 165 (.iaddr 1 (tm 153) (tm 154)),⟨none,.store 1 (tm 165) (tm 160),none⟩,op 166 (.iaddr 1 (tm 155) (tm 156)),⟨none,.store 1 (tm 166) (tm 164),none⟩] [11] none)
 (.seq (rg [mv 167 11,mv 8 167,op 9 (.mov (.cst (.bool false)))] [8,9])
 (.ret))))))))))))

def a195 : AFunc := ⟨4,c195,[.tmp 8,.tmp 9]⟩

def an195 : List RAnn := [
 ra 0 [0,1,2,3],
 { id := 1,head := some 16,live := [0,1,2],par := true },
 ra 2 [0,1,10,11],
 { id := 3,head := some 14,live := [0,1,10,11,43],hdr := [0,1,10,11] },
 ra 4 [0,1,10,11],
 { id := 5,head := some 15,live := [0,1,10,11,60],hdr := [0,1,10,11] },
 ra 6 [0,1,10,11],ra 7 [0,1,10,11,65],
 { id := 8,head := some 16,live := [11],par := true },
 ra 9 [8,9],
 { id := 10,head := some 16,live := [0,1,10,11],par := true },
 ra 11 [0,1,10,11],ra 12 [0,1,10,11],
 { id := 13,head := some 14,live := [0,1,10,11,112],hdr := [0,1,10,11] },
 ra 14 [0,1,10,11],
 { id := 15,head := some 15,live := [0,1,10,11,129],hdr := [0,1,10,11] },
 ra 16 [0,1,10,11],ra 17 [0,1,10,11,134],
 { id := 18,head := some 16,live := [0,1,10,11],par := true },
 ra 19 [0,1,10,11],ra 20 [0,1,10,11],
 { id := 21,head := some 16,live := [11],par := true },
 ra 22 [8,9]]

theorem comp195 : compF Tryz.prog an195 Tryz.f195 = some a195 := by kernel_rfl

/- graphdb/graphdbref04.bare -/
def c196 : ACode :=
 .seq (rg [op 5 (.box 5 (tm 0)),op 10 (.mov (.cst (.bool false)))] [1,2,3,4,5])
 (.seq (rg [mv 11 1,mv 12 11,⟨some 13,.faddr 1 (tm 5),some (12,false)⟩,⟨some 14,.load none (tm 13),some (12,false)⟩,⟨some 15,.bin .eql .int (tm 14) (ci (0)),some (12,false)⟩,op 16 (.pick (tm 12) (.cst (.bool true)) (tm 15)),mv 17 16,mg 18 2 17 true,mg 19 18 17 true,⟨some 20,.faddr 2 (tm 5),some (19,false)⟩,⟨some 21,.load none (tm 20),some (19,false)⟩,⟨some 22,.bin .eql .int (tm 21) (ci (0)),some (19,false)⟩,⟨some 23,.pick (tm 19) (.cst (.bool true)) (tm 22),some (17,true)⟩,op 24 (.pick (tm 17) (tm 23) (.cst (.bool false))),mv 25 24,mg 26 3 25 true,mg 27 26 25 true,⟨some 28,.faddr 3 (tm 5),some (27,false)⟩,⟨some 29,.load none (tm 28),some (27,false)⟩,⟨some 30,.bin .eql .str (tm 29) (.cst (.str [])),some (27,false)⟩,⟨some 31,.pick (tm 27) (.cst (.bool true)) (tm 30),some (25,true)⟩,op 32 (.pick (tm 25) (tm 31) (.cst (.bool false))),mv 33 32,mg 34 4 33 true,mg 35 34 33 true,⟨some 36,.faddr 4 (tm 5),some (35,false)⟩,⟨some 37,.load none (tm 36),some (35,false)⟩,⟨some 38,.len .slice (tm 37),some (35,false)⟩,⟨some 39,.bin .eql .int (tm 38) (ci (0)),some (35,false)⟩,⟨some 40,.pick (tm 35) (.cst (.bool true)) (tm 39),some (33,true)⟩,op 41 (.pick (tm 33) (tm 40) (.cst (.bool false))),mv 10 41] [10])
 (.ret))

def a196 : AFunc := ⟨5,c196,[.tmp 10]⟩

def an196 : List RAnn := [
 ra 0 [1,2,3,4,5],ra 1 [10]]

theorem comp196 : compF Tryz.prog an196 Tryz.f196 = some a196 := by kernel_rfl

/- graphdb/graphdbref01.In -/
def c197 : ACode :=
 .seq (rg [op 2 (.mov (.cst (.bool false)))] [0])
 (.seq (rg [mv 3 0,op 4 (.bin .geq .int (tm 3) (ci ((-1000000000000000)))),mv 5 4,mg 6 0 5 true,⟨some 7,.bin .leq .int (tm 6) (ci (1000000000000000)),some (5,true)⟩,op 8 (.pick (tm 5) (tm 7) (.cst (.bool false))),mv 2 8] [2])
 (.ret))

def a197 : AFunc := ⟨1,c197,[.tmp 2]⟩

def an197 : List RAnn := [
 ra 0 [0],ra 1 [2]]

theorem comp197 : compF Tryz.prog an197 Tryz.f197 = some a197 := by kernel_rfl

/- graphdb/graphdbref04.str -/
/-- loop 0 of function 198 -/
def l198_0_h : List Nat := [0,3]

def l198_0_b : ACode :=
 .seq (.seq (rg [mv 4 3,mv 5 0,op 6 (.len .str (tm 5)),op 7 (.bin .lss .int (tm 4) (tm 6))] [0,3,7])
 (.cond (tm 7) (.skip)
 (.exit 0)))
 (.seq (.block 1 (.seq (rg [mv 10 0,mv 11 3,op 12 (.sidx (tm 10) (tm 11)),op 13 (.bin .lss .int (tm 12) (.cst (.int .u8 32))),mv 14 13,mg 15 0 14 false,mg 16 3 14 false,⟨some 17,.sidx (tm 15) (tm 16),some (14,false)⟩,⟨some 18,.bin .gtr .int (tm 17) (.cst (.int .u8 126)),some (14,false)⟩,op 19 (.pick (tm 14) (.cst (.bool true)) (tm 18))] [0,3,19])
 (.cond (tm 19) (.seq (rg [op 2 (.mov (.cst (.bool false)))] [2])
 (.ret))
 (.skip))))
 (rg [mv 8 3,op 9 (.bin .add .int (tm 8) (ci (1))),mv 3 9] [0,3]))

def c198 : ACode :=
 .seq (rg [op 2 (.mov (.cst (.bool false)))] [0])
 (.seq (.seq (rg [op 3 (.mov (ci (0)))] [0,3])
 (.block 0 (.loop l198_0_h l198_0_b)))
 (.seq (rg [mv 20 0,op 21 (.len .str (tm 20)),op 22 (.bin .leq .int (tm 21) (ci (100))),mv 2 22] [2])
 (.ret)))

def a198 : AFunc := ⟨1,c198,[.tmp 2]⟩

def an198 : List RAnn := [
 ra 0 [0],ra 1 [0,3],rh 2 [0,3,7] [0,3],ra 4 [0,3,19],ra 5 [2],ra 3 [0,3],ra 6 [2]]

theorem comp198 : compF Tryz.prog an198 Tryz.f198 = some a198 := by kernel_rfl

/- graphdb/graphdbref04.path -/
/-- loop 0 of function 199 -/
def l199_0_h : List Nat := [0,3]

def l199_0_b : ACode :=
 .seq (.seq (rg [mv 14 3,mv 15 0,op 16 (.len .slice (tm 15)),op 17 (.bin .lss .int (tm 14) (tm 16))] [0,3,17])
 (.cond (tm 17) (.skip)
 (.exit 0)))
 (.seq (.block 1 (.seq (rg [op 4 (.mov (ci (5)))] [0,3,4])
 (.seq (.seq (rg [mv 20 3,op 21 (.bin .rem .int (tm 20) (ci (2))),op 22 (.bin .eql .int (tm 21) (ci (1)))] [0,3,4,22])
 (.cond (tm 22) (rg [op 4 (.mov (ci (6)))] [0,3,4])
 (.skip)))
 (.seq (rg [mv 23 0,mv 24 3,op 25 (.iaddr 5 (tm 23) (tm 24)),op 26 (.faddr 0 (tm 25)),op 27 (.load none (tm 26)),mv 28 4,op 29 (.bin .neq .int (tm 27) (tm 28)),mv 30 29,mg 31 0 30 false,mg 32 3 30 false,⟨some 33,.iaddr 5 (tm 31) (tm 32),some (30,false)⟩,⟨some 34,.load (some 5) (tm 33),some (30,false)⟩,⟨some 35,.call .pure 134 [(tm 34),(ci (0))],some (30,false)⟩,⟨some 36,.un .not (tm 35),some (30,false)⟩,op 37 (.pick (tm 30) (.cst (.bool true)) (tm 36))] [0,3,37])
 (.cond (tm 37) (.seq (rg [op 2 (.mov (.cst (.bool false)))] [2])
 (.ret))
 (.skip))))))
 (rg [mv 18 3,op 19 (.bin .add .int (tm 18) (ci (1))),mv 3 19] [0,3]))

def c199 : ACode :=
 .seq (rg [op 2 (.mov (.cst (.bool false)))] [0])
 (.seq (.seq (rg [mv 5 0,op 6 (.len .slice (tm 5)),op 7 (.bin .rem .int (tm 6) (ci (2))),op 8 (.bin .eql .int (tm 7) (ci (0))),mv 9 8,mg 10 0 9 false,⟨some 11,.len .slice (tm 10),some (9,false)⟩,⟨some 12,.bin .gtr .int (tm 11) (ci (25)),some (9,false)⟩,op 13 (.pick (tm 9) (.cst (.bool true)) (tm 12))] [0,13])
 (.cond (tm 13) (.seq (rg [op 2 (.mov (.cst (.bool false)))] [2])
 (.ret))
 (.skip)))
 (.seq (.seq (rg [op 3 (.mov (ci (0)))] [0,3])
 (.block 0 (.loop l199_0_h l199_0_b)))
 (.seq (rg [op 2 (.mov (.cst (.bool true)))] [2])
 (.ret))))

def a199 : AFunc := ⟨1,c199,[.tmp 2]⟩

def an199 : List RAnn := [
 ra 0 [0],ra 1 [0,13],ra 2 [2],ra 3 [0,3],rh 4 [0,3,17] [0,3],ra 6 [0,3,4],ra 7 [0,3,4,22],ra 8 [0,3,4],ra 9 [0,3,37],ra 10 [2],ra 5 [0,3],ra 11 [2]]

theorem comp199 : compF Tryz.prog an199 Tryz.f199 = some a199 := by kernel_rfl

/- graphdb/graphdbref04.list -/
/-- loop 0 of function 200 -/
def l200_0_h : List Nat := [0,1,5]

def l200_0_b : ACode :=
 .seq (.seq (rg [mv 13 5,mv 14 0,op 15 (.len .slice (tm 14)),op 16 (.bin .lss .int (tm 13) (tm 15))] [0,1,5,16])
 (.cond (tm 16) (.skip)
 (.exit 0)))
 (.seq (.block 1 (.seq (rg [mv 19 0,mv 20 5,op 21 (.iaddr 5 (tm 19) (tm 20)),op 22 (.load (some 5) (tm 21)),mv 23 1,op 24 (.bin .sub .int (tm 23) (ci (1))),op 25 (.call .pure 134 [(tm 22),(tm 24)]),op 26 (.un .not (tm 25))] [0,1,5,26])
 (.cond (tm 26) (.seq (rg [op 4 (.mov (.cst (.bool false)))] [4])
 (.ret))
 (.skip))))
 (rg [mv 17 5,op 18 (.bin .add .int (tm 17) (ci (1))),mv 5 18] [0,1,5]))

def c200 : ACode :=
 .seq (rg [op 4 (.mov (.cst (.bool false)))] [0,1])
 (.seq (.seq (rg [mv 6 1,op 7 (.bin .lss .int (tm 6) (ci (1))),mv 8 7,mg 9 0 8 false,⟨some 10,.len .slice (tm 9),some (8,false)⟩,⟨some 11,.bin .gtr .int (tm 10) (ci (64)),some (8,false)⟩,op 12 (.pick (tm 8) (.cst (.bool true)) (tm 11))] [0,1,12])
 (.cond (tm 12) (.seq (rg [op 4 (.mov (.cst (.bool false)))] [4])
 (.ret))
 (.skip)))
 (.seq (.seq (rg [op 5 (.mov (ci (0)))] [0,1,5])
 (.block 0 (.loop l200_0_h l200_0_b)))
 (.seq (rg [op 4 (.mov (.cst (.bool true)))] [4])
 (.ret))))

def a200 : AFunc := ⟨2,c200,[.tmp 4]⟩

def an200 : List RAnn := [
 ra 0 [0,1],ra 1 [0,1,12],ra 2 [4],ra 3 [0,1,5],rh 4 [0,1,5,16] [0,1,5],ra 6 [0,1,5,26],ra 7 [4],ra 5 [0,1,5],ra 8 [4]]

theorem comp200 : compF Tryz.prog an200 Tryz.f200 = some a200 := by kernel_rfl

/- graphdb/graphdbref03.gcd -/
/-- loop 0 of function 201 -/
def l201_0_h : List Nat := [0,1]

def l201_0_b : ACode :=
 .seq (.seq (rg [mv 5 1,op 6 (.bin .gtr .int (tm 5) (ci (0)))] [0,1,6])
 (.cond (tm 6) (.skip)
 (.exit 0)))
 (.block 1 (.region (some 6) [] [
 mv 7 1,mv 8 0,mv 9 1,op 10 (.bin .rem .int (tm 8) (tm 9)),mv 0 7,mv 1 10] [0,1] none))

def c201 : ACode :=
 .seq (rg [op 4 (.mov (ci (0)))] [0,1])
 (.seq (.block 0 (.loop l201_0_h l201_0_b))
 (.seq (rg [mv 11 0,mv 4 11] [4])
 (.ret)))

def a201 : AFunc := ⟨2,c201,[.tmp 4]⟩

def an201 : List RAnn := [
 ra 0 [0,1],rh 1 [0,1,6] [0,1],
 { id := 2,head := some 6,live := [0,1] },
 ra 3 [4]]

theorem comp201 : compF Tryz.prog an201 Tryz.f201 = some a201 := by kernel_rfl

/- graphdb/graphdbref03.plus -/
/-- loop 0 of function 202 -/
def l202_0_h : List Nat := [0,1,5,6,7]

def l202_0_b : ACode :=
 .seq (.seq (rg [mv 11 7,mv 12 0,op 13 (.len .slice (tm 12)),op 14 (.bin .lss .int (tm 11) (tm 13))] [0,1,5,6,7,14])
 (.cond (tm 14) (.skip)
 (.exit 0)))
 (.seq (.block 1 (.seq (.region (some 12) [] [
 mv 17 6,mv 18 0,mv 19 7,op 20 (.iaddr 1 (tm 18) (tm 19)),op 21 (.load none (tm 20)),op 22 (.bin .add .int (tm 17) (tm 21)),mv 23 1,mv 24 7,op 25 (.iaddr 1 (tm 23) (tm 24)),op 26 (.load none (tm 25)),op 27 (.bin .add .int (tm 22) (tm 26)),mv 6 27] [0,1,5,6,7] none)
 (.seq (rg [mv 28 5,mv 29 7,mv 30 6,op 31 (.bin .rem .int (tm 30) (ci (1000))),op 32 (.iaddr 1 (tm 28) (tm 29)),⟨none,.store 1 (tm 32) (tm 31),none⟩] [0,1,5,6,7])
 (rg [mv 33 6,op 34 (.bin .quo .int (tm 33) (ci (1000))),mv 6 34] [0,1,5,6,7]))))
 (rg [mv 15 7,op 16 (.bin .add .int (tm 15) (ci (1))),mv 7 16] [0,1,5,6,7]))

def c202 : ACode :=
 .seq (rg [op 4 (.mov (.cst (.sl false [])))] [0,1])
 (.seq (rg [mv 8 0,op 9 (.len .slice (tm 8)),op 10 (.mkslice 1 8 (.int .i64 0) (tm 9) (tm 9)),mv 5 10] [0,1,5])
 (.seq (rg [op 6 (.mov (ci (0)))] [0,1,5,6])
 (.seq (.seq (rg [op 7 (.mov (ci (0)))] [0,1,5,6,7])
 (.block 0 (.loop l202_0_h l202_0_b)))
 (.seq (rg [mv 35 5,mv 4 35] [4])
 (.ret)))))

def a202 : AFunc := ⟨2,c202,[.tmp 4]⟩

def an202 : List RAnn := [
 ra 0 [0,1],ra 1 [0,1,5],ra 2 [0,1,5,6],ra 3 [0,1,5,6,7],rh 4 [0,1,5,6,7,14] [0,1,5,6,7],
 { id := 6,head := some 12,live := [0,1,5,6,7] },
 ra 7 [0,1,5,6,7],ra 8 [0,1,5,6,7],ra 5 [0,1,5,6,7],ra 9 [4]]

theorem comp202 : compF Tryz.prog an202 Tryz.f202 = some a202 := by kernel_rfl

/- graphdb/graphdbref03.order -/
/-- loop 0 of function 203 -/
def l203_0_h : List Nat := [0,1,5]

def l203_0_b : ACode :=
 .seq (.seq (rg [mv 9 5,op 10 (.bin .geq .int (tm 9) (ci (0)))] [0,1,5,10])
 (.cond (tm 10) (.skip)
 (.exit 0)))
 (.seq (.block 1 (.seq (.seq (.region (some 9) [] [
 mv 13 0,mv 14 5,op 15 (.iaddr 1 (tm 13) (tm 14)),op 16 (.load none (tm 15)),mv 17 1,mv 18 5,op 19 (.iaddr 1 (tm 17) (tm 18)),op 20 (.load none (tm 19)),op 21 (.bin .lss .int (tm 16) (tm 20))] [0,1,5,21] none)
 (.cond (tm 21) (.seq (rg [op 4 (.mov (ci ((-1))))] [4])
 (.ret))
 (.skip)))
 (.seq (.region (some 9) [] [
 mv 22 0,mv 23 5,op 24 (.iaddr 1 (tm 22) (tm 23)),op 25 (.load none (tm 24)),mv 26 1,mv 27 5,op 28 (.iaddr 1 (tm 26) (tm 27)),op 29 (.load none (tm 28)),op 30 (.bin .gtr .int (tm 25) (tm 29))] [0,1,5,30] none)
 (.cond (tm 30) (.seq (rg [op 4 (.mov (ci (1)))] [4])
 (.ret))
 (.skip)))))
 (rg [mv 11 5,op 12 (.bin .sub .int (tm 11) (ci (1))),mv 5 12] [0,1,5]))

def c203 : ACode :=
 .seq (rg [op 4 (.mov (ci (0)))] [0,1])
 (.seq (.seq (rg [mv 6 0,op 7 (.len .slice (tm 6)),op 8 (.bin .sub .int (tm 7) (ci (1))),mv 5 8] [0,1,5])
 (.block 0 (.loop l203_0_h l203_0_b)))
 (.seq (rg [op 4 (.mov (ci (0)))] [4])
 (.ret)))

def a203 : AFunc := ⟨2,c203,[.tmp 4]⟩

def an203 : List RAnn := [
 ra 0 [0,1],ra 1 [0,1,5],rh 2 [0,1,5,10] [0,1,5],
 { id := 4,head := some 9,live := [0,1,5,21] },
 ra 5 [4],
 { id := 6,head := some 9,live := [0,1,5,30] },
 ra 7 [4],ra 3 [0,1,5],ra 8 [4]]

theorem comp203 : compF Tryz.prog an203 Tryz.f203 = some a203 := by kernel_rfl

/- graphdb/graphdbref03.minus -/
/-- loop 0 of function 204 -/
def l204_0_h : List Nat := [0,1,5,6,7]

def l204_0_b : ACode :=
 .seq (.seq (rg [mv 11 7,mv 12 0,op 13 (.len .slice (tm 12)),op 14 (.bin .lss .int (tm 11) (tm 13))] [0,1,5,6,7,14])
 (.cond (tm 14) (.skip)
 (.exit 0)))
 (.seq (.block 1 (.seq (.region (some 12) [] [
 mv 17 6,mv 18 0,mv 19 7,op 20 (.iaddr 1 (tm 18) (tm 19)),op 21 (.load none (tm 20)),op 22 (.bin .add .int (tm 17) (tm 21)),mv 23 1,mv 24 7,op 25 (.iaddr 1 (tm 23) (tm 24)),op 26 (.load none (tm 25)),op 27 (.bin .sub .int (tm 22) (tm 26)),mv 6 27] [0,1,5,6,7] none)
 (.seq (rg [mv 28 6,op 29 (.bin .lss .int (tm 28) (ci (0)))] [0,1,5,6,7,29])
 (.cond (tm 29) (.seq (rg [mv 30 5,mv 31 7,mv 32 6,op 33 (.bin .add .int (tm 32) (ci (1000))),op 34 (.iaddr 1 (tm 30) (tm 31)),⟨none,.store 1 (tm 34) (tm 33),none⟩] [0,1,5,7])
 (rg [op 6 (.mov (ci ((-1))))] [0,1,5,6,7]))
 (.seq (rg [mv 35 5,mv 36 7,mv 37 6,op 38 (.iaddr 1 (tm 35) (tm 36)),⟨none,.store 1 (tm 38) (tm 37),none⟩] [0,1,5,7])
 (rg [op 6 (.mov (ci (0)))] [0,1,5,6,7]))))))
 (rg [mv 15 7,op 16 (.bin .add .int (tm 15) (ci (1))),mv 7 16] [0,1,5,6,7]))

def c204 : ACode :=
 .seq (rg [op 4 (.mov (.cst (.sl false [])))] [0,1])
 (.seq (rg [mv 8 0,op 9 (.len .slice (tm 8)),op 10 (.mkslice 1 8 (.int .i64 0) (tm 9) (tm 9)),mv 5 10] [0,1,5])
 (.seq (rg [op 6 (.mov (ci (0)))] [0,1,5,6])
 (.seq (.seq (rg [op 7 (.mov (ci (0)))] [0,1,5,6,7])
 (.block 0 (.loop l204_0_h l204_0_b)))
 (.seq (rg [mv 39 5,mv 4 39] [4])
 (.ret)))))

def a204 : AFunc := ⟨2,c204,[.tmp 4]⟩

def an204 : List RAnn := [
 ra 0 [0,1],ra 1 [0,1,5],ra 2 [0,1,5,6],ra 3 [0,1,5,6,7],rh 4 [0,1,5,6,7,14] [0,1,5,6,7],
 { id := 6,head := some 12,live := [0,1,5,6,7] },
 ra 7 [0,1,5,6,7,29],ra 8 [0,1,5,7],ra 9 [0,1,5,6,7],ra 10 [0,1,5,7],ra 11 [0,1,5,6,7],ra 5 [0,1,5,6,7],ra 12 [4]]

theorem comp204 : compF Tryz.prog an204 Tryz.f204 = some a204 := by kernel_rfl

/- graphdb/change.fields -/
def c214 : ACode :=
 .seq (rg [op 2 (.alloc 3 (.agg [.bool false,.bool false,.bool false])),op 3 (.mov (.cst (.bool false)))] [0,2])
 (.seq (.seq (rg [mv 4 0] [2,4])
 (.block 0 (.seq (.seq (rg [op 6 (.bin .eql .int (tm 4) (ci (1))),mv 5 6] [2,4,5])
 (.cond (tm 5) (.skip)
 (.seq (rg [op 7 (.bin .eql .int (tm 4) (ci (2))),mv 5 7] [2,4,5])
 (.cond (tm 5) (.skip)
 (rg [op 8 (.bin .eql .int (tm 4) (ci (7))),mv 5 8] [2,4,5])))))
 (.cond (tm 5) (.seq (rg [op 9 (.build [.bool false,.bool false,.bool false] []),⟨none,.store 3 (tm 2) (tm 9),none⟩,op 3 (.mov (.cst (.bool true)))] [2,3])
 (.ret))
 (.seq (.seq (rg [op 11 (.bin .eql .int (tm 4) (ci (3))),mv 10 11] [2,4,10])
 (.cond (tm 10) (.skip)
 (rg [op 12 (.bin .eql .int (tm 4) (ci (4))),mv 10 12] [2,4,10])))
 (.cond (tm 10) (.seq (rg [op 13 (.build [.bool false,.bool false,.bool false] [(1,1,(.cst (.bool true)))]),⟨none,.store 3 (tm 2) (tm 13),none⟩,op 3 (.mov (.cst (.bool true)))] [2,3])
 (.ret))
 (.seq (.seq (rg [op 15 (.bin .eql .int (tm 4) (ci (5))),mv 14 15] [2,4,14])
 (.cond (tm 14) (.skip)
 (rg [op 16 (.bin .eql .int (tm 4) (ci (8))),mv 14 16] [2,4,14])))
 (.cond (tm 14) (.seq (rg [op 17 (.build [.bool false,.bool false,.bool false] [(1,1,(.cst (.bool true))),(2,1,(.cst (.bool true)))]),⟨none,.store 3 (tm 2) (tm 17),none⟩,op 3 (.mov (.cst (.bool true)))] [2,3])
 (.ret))
 (.seq (rg [op 19 (.bin .eql .int (tm 4) (ci (6))),mv 18 19] [2,18])
 (.cond (tm 18) (.seq (rg [op 20 (.build [.bool false,.bool false,.bool false] [(0,1,(.cst (.bool true))),(1,1,(.cst (.bool true)))]),⟨none,.store 3 (tm 2) (tm 20),none⟩,op 3 (.mov (.cst (.bool true)))] [2,3])
 (.ret))
 (.skip)))))))))))
 (.seq (rg [op 21 (.build [.bool false,.bool false,.bool false] []),⟨none,.store 3 (tm 2) (tm 21),none⟩,op 3 (.mov (.cst (.bool false)))] [2,3])
 (.ret)))

def a214 : AFunc := ⟨1,c214,[.cell 2 (some 3),.tmp 3]⟩

def an214 : List RAnn := [
 ra 0 [0,2],ra 1 [2,4],ra 2 [2,4,5],ra 3 [2,4,5],ra 4 [2,4,5],ra 5 [2,3],ra 6 [2,4,10],ra 7 [2,4,10],ra 8 [2,3],ra 9 [2,4,14],ra 10 [2,4,14],ra 11 [2,3],ra 12 [2,18],ra 13 [2,3],ra 14 [2,3]]

theorem comp214 : compF Tryz.prog an214 Tryz.f214 = some a214 := by kernel_rfl

/- graphdb/change.id -/
def c215 : ACode :=
 .seq (rg [op 2 (.mov (.cst (.bool false)))] [0])
 (.seq (rg [mv 3 0,op 4 (.bin .geq .int (tm 3) (ci (1))),mv 5 4,mg 6 0 5 true,⟨some 7,.bin .leq .int (tm 6) (ci (1000000)),some (5,true)⟩,op 8 (.pick (tm 5) (tm 7) (.cst (.bool false))),mv 2 8] [2])
 (.ret))

def a215 : AFunc := ⟨1,c215,[.tmp 2]⟩

def an215 : List RAnn := [
 ra 0 [0],ra 1 [2]]

theorem comp215 : compF Tryz.prog an215 Tryz.f215 = some a215 := by kernel_rfl

/- graphdb/change.null -/
def c216 : ACode :=
 .seq (rg [op 1 (.box 5 (tm 0)),op 2 (.mov (.cst (.bool false)))] [1])
 (.seq (rg [op 3 (.load (some 5) (tm 1)),op 4 (.build [.int .i64 0,.int .i64 0,.int .i64 0,.str [],.sl false []] []),op 5 (.call .pure 30 [(tm 3),(tm 4)]),op 6 (.bin .eql .int (tm 5) (ci (0))),mv 2 6] [2])
 (.ret))

def a216 : AFunc := ⟨1,c216,[.tmp 2]⟩

def an216 : List RAnn := [
 ra 0 [1],ra 1 [2]]

theorem comp216 : compF Tryz.prog an216 Tryz.f216 = some a216 := by kernel_rfl

/- (*graphdb/change.editor).node -/
def c217 : ACode :=
 .seq (rg [op 4 (.mov (ci (0))),op 5 (.mov (.cst (.bool false)))] [0,1])
 (.seq (rg [mv 6 0,op 7 (.nilchk (tm 6)),op 8 (.faddr 0 (tm 7)),op 9 (.faddr 0 (tm 8)),op 10 (.load none (tm 9)),mv 11 1,op 12 (.call .pure 106 [(tm 10),(tm 11),(.cst (.fn 237 []))]),op 13 (.ext (tm 12) 0),op 14 (.ext (tm 12) 1),mv 4 13,mv 5 14] [4,5])
 (.ret))

def a217 : AFunc := ⟨2,c217,[.tmp 4,.tmp 5]⟩

def an217 : List RAnn := [
 ra 0 [0,1],ra 1 [4,5]]

theorem comp217 : compF Tryz.prog an217 Tryz.f217 = some a217 := by kernel_rfl

/- graphdb/change.must -/
def c218 : ACode :=
 .seq (rg [mv 4 0,op 5 (.un .not (tm 4))] [1,5])
 (.cond (tm 5) (rg [mv 6 1,op 7 (.mkif 165 (tm 6)),⟨none,.panic (tm 7),none⟩] [])
 (.skip))

def a218 : AFunc := ⟨2,c218,[]⟩

def an218 : List RAnn := [
 ra 0 [1,5],
 { id := 1 }]

theorem comp218 : compF Tryz.prog an218 Tryz.f218 = some a218 := by kernel_rfl

/- slices.BinarySearch[[]string,string] -/
/-- loop 0 of function 221 -/
def l221_0_h : List Nat := [0,1,6,7,8]

def l221_0_b : ACode :=
 .seq (.seq (rg [mv 13 7,mv 14 8,op 15 (.bin .lss .int (tm 13) (tm 14))] [0,1,6,7,8,15])
 (.cond (tm 15) (.skip)
 (.exit 0)))
 (.block 1 (.seq (rg [mv 16 7,mv 17 8,op 18 (.bin .add .int (tm 16) (tm 17)),op 19 (.conv .u64 (tm 18)),op 20 (.bin .shr .int (tm 19) (.cst (.int .u64 1))),op 21 (.conv .i64 (tm 20)),mv 9 21] [0,1,6,7,8,9])
 (.seq (rg [mv 22 0,mv 23 9,op 24 (.iaddr 1 (tm 22) (tm 23)),op 25 (.load none (tm 24)),mv 26 1,op 27 (.call .pure 240 [(tm 25),(tm 26)])] [0,1,6,7,8,9,27])
 (.cond (tm 27) (rg [mv 28 9,op 29 (.bin .add .int (tm 28) (ci (1))),mv 7 29] [0,1,6,7,8])
 (rg [mv 30 9,mv 8 30] [0,1,6,7,8])))))

def c221 : ACode :=
 .seq (rg [op 4 (.mov (ci (0))),op 5 (.mov (.cst (.bool false)))] [0,1])
 (.seq (rg [mv 10 0,op 11 (.len .slice (tm 10)),mv 6 11] [0,1,6])
 (.seq (rg [mv 12 6,op 7 (.mov (ci (0))),mv 8 12] [0,1,6,7,8])
 (.seq (.block 0 (.loop l221_0_h l221_0_b))
 (.seq (rg [mv 31 7,mv 32 7,mv 33 6,op 34 (.bin .lss .int (tm 32) (tm 33)),mv 35 34,mg 36 0 35 true,mg 37 7 35 true,⟨some 38,.iaddr 1 (tm 36) (tm 37),some (35,true)⟩,⟨some 39,.load none (tm 38),some (35,true)⟩,mg 40 1 35 true,⟨some 41,.bin .eql .str (tm 39) (tm 40),some (35,true)⟩,mg 42 41 35 true,mg 43 0 42 false,mg 44 7 42 false,⟨some 45,.iaddr 1 (tm 43) (tm 44),some (42,false)⟩,⟨some 46,.load none (tm 45),some (42,false)⟩,⟨some 47,.call .pure 241 [(tm 46)],some (42,false)⟩,mg 48 47 42 false,mg 49 1 48 true,⟨some 50,.call .pure 241 [(tm 49)],some (48,true)⟩,⟨some 51,.pick (tm 48) (tm 50) (.cst (.bool false)),some (42,false)⟩,⟨some 52,.pick (tm 42) (.cst (.bool true)) (tm 51),some (35,true)⟩,op 53 (.pick (tm 35) (tm 52) (.cst (.bool false))),mv 4 31,mv 5 53] [4,5])
 (.ret)))))

def a221 : AFunc := ⟨2,c221,[.tmp 4,.tmp 5]⟩

def an221 : List RAnn := [
 ra 0 [0,1],ra 1 [0,1,6],ra 2 [0,1,6,7,8],rh 3 [0,1,6,7,8,15] [0,1,6,7,8],ra 4 [0,1,6,7,8,9],ra 5 [0,1,6,7,8,9,27],ra 6 [0,1,6,7,8],ra 7 [0,1,6,7,8],ra 8 [4,5]]

theorem comp221 : compF Tryz.prog an221 Tryz.f221 = some a221 := by kernel_rfl

/- graphdb/num.abs -/
def c228 : ACode :=
 .seq (rg [op 2 (.mov (ci (0)))] [0])
 (.seq (rg [mv 3 0,mv 4 0,op 5 (.un .neg (tm 4)),op 6 (.max (tm 3) (tm 5)),mv 2 6] [2])
 (.ret))

def a228 : AFunc := ⟨1,c228,[.tmp 2]⟩

def an228 : List RAnn := [
 ra 0 [0],ra 1 [2]]

theorem comp228 : compF Tryz.prog an228 Tryz.f228 = some a228 := by kernel_rfl

/- slices.order2CmpFunc[graphdb/api.Entry] -/
def c232 : ACode :=
 .seq (rg [op 10 (.mov (ci (0))),op 11 (.mov (ci (0)))] [0,1,2,3,4])
 (.seq (.seq (.region (some 11) [] [
 mv 12 4,mv 13 0,mv 14 2,op 15 (.iaddr 8 (tm 13) (tm 14)),op 16 (.load (some 8) (tm 15)),mv 17 0,mv 18 1,op 19 (.iaddr 8 (tm 17) (tm 18)),op 20 (.load (some 8) (tm 19)),op 21 (.callv .pure (tm 12) [(tm 16),(tm 20)]),op 22 (.bin .lss .int (tm 21) (ci (0)))] [1,2,3,22] none)
 (.cond (tm 22) (.seq (rg [mv 23 3,op 24 (.nilchk (tm 23)),op 25 (.load none (tm 24)),op 26 (.bin .add .int (tm 25) (ci (1))),op 27 (.nilchk (tm 23)),⟨none,.store 1 (tm 27) (tm 26),none⟩] [1,2])
 (.seq (rg [mv 28 2,mv 29 1,mv 10 28,mv 11 29] [10,11])
 (.ret)))
 (.skip)))
 (.seq (rg [mv 30 1,mv 31 2,mv 10 30,mv 11 31] [10,11])
 (.ret)))

def a232 : AFunc := ⟨5,c232,[.tmp 10,.tmp 11]⟩

def an232 : List RAnn := [
 ra 0 [0,1,2,3,4],
 { id := 1,head := some 11,live := [1,2,3,22] },
 ra 2 [1,2],ra 3 [10,11],ra 4 [10,11]]

theorem comp232 : compF Tryz.prog an232 Tryz.f232 = some a232 := by kernel_rfl

/- slices.siftDownOrdered[int] -/
/-- loop 0 of function 233 -/
def l233_0_h : List Nat := [0,2,3,8]

def l233_0_b : ACode :=
 .block 1 (.seq (rg [mv 11 8,op 12 (.bin .mul .int (ci (2)) (tm 11)),op 13 (.bin .add .int (tm 12) (ci (1))),mv 9 13] [0,2,3,8,9])
 (.seq (.seq (rg [mv 14 9,mv 15 2,op 16 (.bin .geq .int (tm 14) (tm 15))] [0,2,3,8,9,16])
 (.cond (tm 16) (.exit 0)
 (.skip)))
 (.seq (.seq (.region (some 20) [] [
 mv 17 9,op 18 (.bin .add .int (tm 17) (ci (1))),mv 19 2,op 20 (.bin .lss .int (tm 18) (tm 19)),mv 21 20,mg 22 0 21 true,mg 23 3 21 true,mg 24 9 21 true,⟨some 25,.bin .add .int (tm 23) (tm 24),some (21,true)⟩,⟨some 26,.iaddr 1 (tm 22) (tm 25),some (21,true)⟩,⟨some 27,.load none (tm 26),some (21,true)⟩,mg 28 0 21 true,mg 29 3 21 true,mg 30 9 21 true,⟨some 31,.bin .add .int (tm 29) (tm 30),some (21,true)⟩,⟨some 32,.bin .add .int (tm 31) (ci (1)),some (21,true)⟩,⟨some 33,.iaddr 1 (tm 28) (tm 32),some (21,true)⟩,⟨some 34,.load none (tm 33),some (21,true)⟩,⟨some 35,.call .pure 193 [(tm 27),(tm 34)],some (21,true)⟩,op 36 (.pick (tm 21) (tm 35) (.cst (.bool false)))] [0,2,3,8,9,36] none)
 (.cond (tm 36) (rg [mv 37 9,op 38 (.bin .add .int (tm 37) (ci (1))),mv 9 38] [0,2,3,8,9])
 (.skip)))
 (.seq (.seq (.region (some 14) [] [
 mv 39 0,mv 40 3,mv 41 8,op 42 (.bin .add .int (tm 40) (tm 41)),op 43 (.iaddr 1 (tm 39) (tm 42)),op 44 (.load none (tm 43)),mv 45 0,mv 46 3,mv 47 9,op 48 (.bin .add .int (tm 46) (tm 47)),op 49 (.iaddr 1 (tm 45) (tm 48)),op 50 (.load none (tm 49)),op 51 (.call .pure 193 [(tm 44),(tm 50)]),op 52 (.un .not (tm 51))] [0,2,3,8,9,52] none)
 (.cond (tm 52) (.ret)
 (.skip)))
 (.seq (.par 24 [] [] [
 mv 53 0,mv 54 3,mv 55 8,op 56 (.bin .add .int (tm 54) (tm 55)),mv 57 0,mv 58 3,mv 59 9,op 60 (.bin .add .int (tm 58) (tm 59)),mv 61 0,mv 62 3,mv 63 9,op 64 (.bin .add .int (tm 62) (tm 63)),op 65 (.iaddr 1 (tm 61) (tm 64)),op 66 (.load none (tm 65)),mv 67 0,mv 68 3,mv 69 8,op 70 (.bin .add .int (tm 68) (tm 69)),op 71 (.iaddr 1 (tm 67) (tm 70)),op 72 (.load none (tm 71)),op 73 (.iaddr 1 (tm 53) (tm 56)),⟨none,.store 1 (tm 73) (tm 66),none⟩,op 74 (.iaddr 1 (tm 57) (tm 60)),⟨none,.store 1 (tm 74) (tm 72),none⟩] [0,2,3,9] none)
 (rg [mv 75 9,mv 8 75] [0,2,3,8]))))))

def c233 : ACode :=
 .seq (rg [mv 10 1,mv 8 10] [0,2,3,8])
 (.block 0 (.loop l233_0_h l233_0_b))

def a233 : AFunc := ⟨4,c233,[]⟩

def an233 : List RAnn := [
 ra 0 [0,2,3,8],rh 1 [0,2,3,8,9] [0,2,3,8],ra 2 [0,2,3,8,9,16],
 { id := 3,head := some 20,live := [0,2,3,8,9,36] },
 ra 4 [0,2,3,8,9],
 { id := 5,head := some 14,live := [0,2,3,8,9,52] },
 { id := 6,head := some 24,live := [0,2,3,9],par := true },
 ra 7 [0,2,3,8]]

theorem comp233 : compF Tryz.prog an233 Tryz.f233 = some a233 := by kernel_rfl

/- slices.medianAdjacentOrdered[int] -/
def c234 : ACode :=
 .seq (rg [op 6 (.mov (ci (0)))] [0,1,2])
 (.seq (rg [mv 7 0,mv 8 1,op 9 (.bin .sub .int (tm 8) (ci (1))),mv 10 1,mv 11 1,op 12 (.bin .add .int (tm 11) (ci (1))),mv 13 2,op 14 (.call .share 235 [(tm 7),(tm 9),(tm 10),(tm 12),(tm 13)]),mv 6 14] [6])
 (.ret))

def a234 : AFunc := ⟨3,c234,[.tmp 6]⟩

def an234 : List RAnn := [
 ra 0 [0,1,2],
 { id := 1,live := [6],ops := [(7,.mode .share)] }]

theorem comp234 : compF Tryz.prog an234 Tryz.f234 = some a234 := by kernel_rfl

/- slices.medianOrdered[int] -/
def c235 : ACode :=
 .seq (rg [op 10 (.mov (ci (0)))] [0,1,2,3,4])
 (.seq (rg [mv 12 0,mv 13 1,mv 14 2,mv 15 4,op 16 (.call .share 253 [(tm 12),(tm 13),(tm 14),(tm 15)]),mv 11 16,op 17 (.ext (tm 11) 0),op 18 (.ext (tm 11) 1),mv 1 17,mv 2 18] [0,1,2,3,4])
 (.seq (rg [mv 20 0,mv 21 2,mv 22 3,mv 23 4,op 24 (.call .share 253 [(tm 20),(tm 21),(tm 22),(tm 23)]),mv 19 24,op 25 (.ext (tm 19) 0),op 26 (.ext (tm 19) 1),mv 2 25,mv 3 26] [0,1,2,4])
 (.seq (rg [mv 28 0,mv 29 1,mv 30 2,mv 31 4,op 32 (.call .share 253 [(tm 28),(tm 29),(tm 30),(tm 31)]),mv 27 32,op 33 (.ext (tm 27) 0),op 34 (.ext (tm 27) 1),mv 1 33,mv 2 34] [2])
 (.seq (rg [mv 35 2,mv 10 35] [10])
 (.ret)))))

def a235 : AFunc := ⟨5,c235,[.tmp 10]⟩

def an235 : List RAnn := [
 ra 0 [0,1,2,3,4],
 { id := 1,live := [0,1,2,3,4],ops := [(4,.mode .share)] },
 { id := 2,live := [0,1,2,4],ops := [(4,.mode .share)] },
 { id := 3,live := [2],ops := [(4,.mode .share)] },
 ra 4 [10]]

theorem comp235 : compF Tryz.prog an235 Tryz.f235 = some a235 := by kernel_rfl

/- (*graphdb/change.editor).node$1 -/
def c237 : ACode :=
 .seq (rg [op 2 (.box 3 (tm 0)),op 4 (.mov (ci (0)))] [1,2])
 (.seq (rg [op 5 (.faddr 0 (tm 2)),op 6 (.load none (tm 5)),mv 7 1,op 8 (.call .pure 61 [(tm 6),(tm 7)]),mv 4 8] [4])
 (.ret))

def a237 : AFunc := ⟨2,c237,[.tmp 4]⟩

def an237 : List RAnn := [
 ra 0 [1,2],ra 1 [4]]

theorem comp237 : compF Tryz.prog an237 Tryz.f237 = some a237 := by kernel_rfl

/- cmp.Less[string] -/
def c240 : ACode :=
 .seq (rg [op 4 (.mov (.cst (.bool false)))] [0,1])
 (.seq (rg [mv 5 0,op 6 (.call .pure 96 [(tm 5)]),mv 7 6,mg 8 1 7 true,⟨some 9,.call .pure 96 [(tm 8)],some (7,true)⟩,⟨some 10,.un .not (tm 9),some (7,true)⟩,op 11 (.pick (tm 7) (tm 10) (.cst (.bool false))),mv 12 11,mg 13 0 12 false,mg 14 1 12 false,⟨some 15,.bin .lss .str (tm 13) (tm 14),some (12,false)⟩,op 16 (.pick (tm 12) (.cst (.bool true)) (tm 15)),mv 4 16] [4])
 (.ret))

def a240 : AFunc := ⟨2,c240,[.tmp 4]⟩

def an240 : List RAnn := [
 ra 0 [0,1],ra 1 [4]]

theorem comp240 : compF Tryz.prog an240 Tryz.f240 = some a240 := by kernel_rfl

/- slices.order2Ordered[int] -/
def c253 : ACode :=
 .seq (rg [op 8 (.mov (ci (0))),op 9 (.mov (ci (0)))] [0,1,2,3])
 (.seq (.seq (.region (some 9) [] [
 mv 10 0,mv 11 2,op 12 (.iaddr 1 (tm 10) (tm 11)),op 13 (.load none (tm 12)),mv 14 0,mv 15 1,op 16 (.iaddr 1 (tm 14) (tm 15)),op 17 (.load none (tm 16)),op 18 (.call .pure 193 [(tm 13),(tm 17)])] [1,2,3,18] none)
 (.cond (tm 18) (.seq (rg [mv 19 3,op 20 (.nilchk (tm 19)),op 21 (.load none (tm 20)),op 22 (.bin .add .int (tm 21) (ci (1))),op 23 (.nilchk (tm 19)),⟨none,.store 1 (tm 23) (tm 22),none⟩] [1,2])
 (.seq (rg [mv 24 2,mv 25 1,mv 8 24,mv 9 25] [8,9])
 (.ret)))
 (.skip)))
 (.seq (rg [mv 26 1,mv 27 2,mv 8 26,mv 9 27] [8,9])
 (.ret)))

def a253 : AFunc := ⟨4,c253,[.tmp 8,.tmp 9]⟩

def an253 : List RAnn := [
 ra 0 [0,1,2,3],
 { id := 1,head := some 9,live := [1,2,3,18] },
 ra 2 [1,2],ra 3 [8,9],ra 4 [8,9]]

theorem comp253 : compF Tryz.prog an253 Tryz.f253 = some a253 := by kernel_rfl

end AI
end Go.Proofs.YtbkibamoigmboaaGreatDoor
