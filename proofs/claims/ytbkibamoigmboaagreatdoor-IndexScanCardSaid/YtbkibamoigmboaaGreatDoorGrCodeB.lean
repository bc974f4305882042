/- Printed by a program of mine: the functions,compiled; the kernel checks each against the given form. -/
import Derived.Test.YtbkibamoigmboaaGreatDoorSe
import Derived.Test.YtbkibamoigmboaaGreatDoorProg
import Derived.Test.YtbkibamoigmboaaGreatDoorAb
import Derived.KernelRfl
import Derived.Test.YtbkibamoigmboaaGreatDoorIxF
import Derived.Test.YtbkibamoigmboaaGreatDoorInS
import Derived.Test.YtbkibamoigmboaaGreatDoorBc
namespace Go.Proofs.YtbkibamoigmboaaGreatDoor
namespace AI
/- (graphdb/frac.wide).sign -/
def c115 : ACode :=
 .seq (rg [op 1 (.box 3 (tm 0)),op 2 (.mov (ci (0)))] [1])
 (.seq (.block 0 (.seq (rg [op 4 (.faddr 1 (tm 1)),op 5 (.load none (tm 4)),op 6 (.faddr 2 (tm 1)),op 7 (.load none (tm 6)),op 8 (.bin .or .int (tm 5) (tm 7)),op 9 (.bin .eql .int (tm 8) (.cst (.int .u64 0))),mv 3 9] [1,3])
 (.cond (tm 3) (.seq (rg [op 2 (.mov (ci (0)))] [2])
 (.ret))
 (.seq (rg [op 11 (.faddr 0 (tm 1)),op 12 (.load none (tm 11)),mv 10 12] [10])
 (.cond (tm 10) (.seq (rg [op 2 (.mov (ci ((-1))))] [2])
 (.ret))
 (.skip))))))
 (.seq (rg [op 2 (.mov (ci (1)))] [2])
 (.ret)))

def a115 : AFunc := ⟨1,c115,[.tmp 2]⟩

def an115 : List RAnn := [
 ra 0 [1],ra 1 [1,3],ra 2 [2],ra 3 [10],ra 4 [2],ra 5 [2]]

theorem comp115 : compF Tryz.prog an115 Tryz.f115 = some a115 := by kernel_rfl

/- graphdb/graphdbref07.Name -/
/-- loop 0 of function 118 -/
def l118_0_h : List Nat := [0,3]

def l118_0_b : ACode :=
 .seq (.seq (rg [mv 18 3,mv 19 0,op 20 (.len .str (tm 19)),op 21 (.bin .lss .int (tm 18) (tm 20))] [0,3,21])
 (.cond (tm 21) (.skip)
 (.exit 0)))
 (.seq (.block 1 (.seq (rg [mv 24 0,mv 25 3,op 26 (.sidx (tm 24) (tm 25)),op 27 (.call .pure 171 [(tm 26)]),op 28 (.un .not (tm 27)),mv 29 28,mg 30 0 29 true,mg 31 3 29 true,⟨some 32,.sidx (tm 30) (tm 31),some (29,true)⟩,⟨some 33,.bin .neq .int (tm 32) (.cst (.int .u8 95)),some (29,true)⟩,op 34 (.pick (tm 29) (tm 33) (.cst (.bool false))),mv 35 34,mg 36 0 35 true,mg 37 3 35 true,⟨some 38,.sidx (tm 36) (tm 37),some (35,true)⟩,⟨some 39,.bin .lss .int (tm 38) (.cst (.int .u8 48)),some (35,true)⟩,mg 40 39 35 true,mg 41 0 40 false,mg 42 3 40 false,⟨some 43,.sidx (tm 41) (tm 42),some (40,false)⟩,⟨some 44,.bin .gtr .int (tm 43) (.cst (.int .u8 57)),some (40,false)⟩,⟨some 45,.pick (tm 40) (.cst (.bool true)) (tm 44),some (35,true)⟩,op 46 (.pick (tm 35) (tm 45) (.cst (.bool false)))] [0,3,46])
 (.cond (tm 46) (.seq (rg [op 2 (.mov (.cst (.bool false)))] [2])
 (.ret))
 (.skip))))
 (rg [mv 22 3,op 23 (.bin .add .int (tm 22) (ci (1))),mv 3 23] [0,3]))

def c118 : ACode :=
 .seq (rg [op 2 (.mov (.cst (.bool false)))] [0])
 (.seq (.seq (rg [mv 4 0,op 5 (.len .str (tm 4)),op 6 (.bin .lss .int (tm 5) (ci (1))),mv 7 6,mg 8 0 7 false,⟨some 9,.len .str (tm 8),some (7,false)⟩,⟨some 10,.bin .gtr .int (tm 9) (ci (20)),some (7,false)⟩,op 11 (.pick (tm 7) (.cst (.bool true)) (tm 10)),mv 12 11,mg 13 0 12 false,⟨some 14,.sidx (tm 13) (ci (0)),some (12,false)⟩,⟨some 15,.call .pure 171 [(tm 14)],some (12,false)⟩,⟨some 16,.un .not (tm 15),some (12,false)⟩,op 17 (.pick (tm 12) (.cst (.bool true)) (tm 16))] [0,17])
 (.cond (tm 17) (.seq (rg [op 2 (.mov (.cst (.bool false)))] [2])
 (.ret))
 (.skip)))
 (.seq (.seq (rg [op 3 (.mov (ci (1)))] [0,3])
 (.block 0 (.loop l118_0_h l118_0_b)))
 (.seq (rg [op 2 (.mov (.cst (.bool true)))] [2])
 (.ret))))

def a118 : AFunc := ⟨1,c118,[.tmp 2]⟩

def an118 : List RAnn := [
 ra 0 [0],ra 1 [0,17],ra 2 [2],ra 3 [0,3],rh 4 [0,3,21] [0,3],ra 6 [0,3,46],ra 7 [2],ra 5 [0,3],ra 8 [2]]

theorem comp118 : compF Tryz.prog an118 Tryz.f118 = some a118 := by kernel_rfl

/- slices.pdqsortCmpFunc[[]int] -/
/-- loop 0 of function 119 -/
def l119_0_h : List Nat := [0,1,2,3,4,10,11]

def l119_0_b : ACode :=
 .block 1 (.seq (rg [mv 21 2,mv 22 1,op 23 (.bin .sub .int (tm 21) (tm 22)),mv 12 23] [0,1,2,3,4,10,11,12])
 (.seq (.seq (rg [mv 24 12,op 25 (.bin .leq .int (tm 24) (ci (12)))] [0,1,2,3,4,10,11,12,25])
 (.cond (tm 25) (.seq (rg [mv 26 0,mv 27 1,mv 28 2,mv 29 4,op 30 (.call .share 172 [(tm 26),(tm 27),(tm 28),(tm 29)])] [])
 (.ret))
 (.skip)))
 (.seq (.seq (rg [mv 31 3,op 32 (.bin .eql .int (tm 31) (ci (0)))] [0,1,2,3,4,10,11,12,32])
 (.cond (tm 32) (.seq (rg [mv 33 0,mv 34 1,mv 35 2,mv 36 4,op 37 (.call .share 173 [(tm 33),(tm 34),(tm 35),(tm 36)])] [])
 (.ret))
 (.skip)))
 (.seq (.seq (rg [mv 38 10,op 39 (.un .not (tm 38))] [0,1,2,3,4,10,11,12,39])
 (.cond (tm 39) (.seq (rg [mv 40 0,mv 41 1,mv 42 2,mv 43 4,op 44 (.call .share 174 [(tm 40),(tm 41),(tm 42),(tm 43)])] [0,1,2,3,4,10,11,12])
 (rg [mv 45 3,op 46 (.bin .sub .int (tm 45) (ci (1))),mv 3 46] [0,1,2,3,4,10,11,12]))
 (.skip)))
 (.seq (rg [mv 48 0,mv 49 1,mv 50 2,mv 51 4,op 52 (.call .share 175 [(tm 48),(tm 49),(tm 50),(tm 51)]),mv 47 52,op 53 (.ext (tm 47) 0),op 54 (.ext (tm 47) 1),mv 13 53,mv 14 54] [0,1,2,3,4,10,11,12,13,14])
 (.seq (.seq (rg [mv 55 14,op 56 (.bin .eql .int (tm 55) (ci (2)))] [0,1,2,3,4,10,11,12,13,14,56])
 (.cond (tm 56) (.seq (rg [mv 57 0,mv 58 1,mv 59 2,mv 60 4,op 61 (.call .share 176 [(tm 57),(tm 58),(tm 59),(tm 60)])] [0,1,2,3,4,10,11,12,13])
 (.seq (rg [mv 62 2,op 63 (.bin .sub .int (tm 62) (ci (1))),mv 64 13,mv 65 1,op 66 (.bin .sub .int (tm 64) (tm 65)),op 67 (.bin .sub .int (tm 63) (tm 66)),mv 13 67] [0,1,2,3,4,10,11,12,13])
 (rg [op 14 (.mov (ci (1)))] [0,1,2,3,4,10,11,12,13,14])))
 (.skip)))
 (.seq (.seq (rg [mv 68 10,mv 69 68,mg 70 11 69 true,op 71 (.pick (tm 69) (tm 70) (.cst (.bool false))),mv 72 71,mg 73 14 72 true,⟨some 74,.bin .eql .int (tm 73) (ci (1)),some (72,true)⟩,op 75 (.pick (tm 72) (tm 74) (.cst (.bool false)))] [0,1,2,3,4,10,11,12,13,75])
 (.cond (tm 75) (.seq (rg [mv 76 0,mv 77 1,mv 78 2,mv 79 4,op 80 (.call .share 177 [(tm 76),(tm 77),(tm 78),(tm 79)])] [0,1,2,3,4,10,11,12,13,80])
 (.cond (tm 80) (.ret)
 (.skip)))
 (.skip)))
 (.seq (.seq (.region (some 17) [] [
 mv 81 1,op 82 (.bin .gtr .int (tm 81) (ci (0))),mv 83 82,mg 84 4 83 true,mg 85 0 83 true,mg 86 1 83 true,⟨some 87,.bin .sub .int (tm 86) (ci (1)),some (83,true)⟩,⟨some 88,.iaddr 1 (tm 85) (tm 87),some (83,true)⟩,⟨some 89,.load none (tm 88),some (83,true)⟩,mg 90 0 83 true,mg 91 13 83 true,⟨some 92,.iaddr 1 (tm 90) (tm 91),some (83,true)⟩,⟨some 93,.load none (tm 92),some (83,true)⟩,⟨some 94,.callv .pure (tm 84) [(tm 89),(tm 93)],some (83,true)⟩,⟨some 95,.bin .lss .int (tm 94) (ci (0)),some (83,true)⟩,⟨some 96,.un .not (tm 95),some (83,true)⟩,op 97 (.pick (tm 83) (tm 96) (.cst (.bool false)))] [0,1,2,3,4,10,11,12,13,97] none)
 (.cond (tm 97) (.seq (rg [mv 98 0,mv 99 1,mv 100 2,mv 101 13,mv 102 4,op 103 (.call .share 178 [(tm 98),(tm 99),(tm 100),(tm 101),(tm 102)]),mv 15 103] [0,2,3,4,10,11,15])
 (.seq (rg [mv 104 15,mv 1 104] [0,1,2,3,4,10,11])
 (.exit 1)))
 (.skip)))
 (.seq (rg [mv 106 0,mv 107 1,mv 108 2,mv 109 13,mv 110 4,op 111 (.call .share 179 [(tm 106),(tm 107),(tm 108),(tm 109),(tm 110)]),mv 105 111,op 112 (.ext (tm 105) 0),op 113 (.ext (tm 105) 1),mv 16 112,mv 17 113] [0,1,2,3,4,12,16,17])
 (.seq (rg [mv 114 17,mv 11 114] [0,1,2,3,4,11,12,16])
 (.seq (rg [mv 115 16,mv 116 1,op 117 (.bin .sub .int (tm 115) (tm 116)),mv 118 2,mv 119 16,op 120 (.bin .sub .int (tm 118) (tm 119)),mv 18 117,mv 19 120] [0,1,2,3,4,11,12,16,18,19])
 (.seq (rg [mv 121 12,op 122 (.bin .quo .int (tm 121) (ci (8))),mv 20 122] [0,1,2,3,4,11,16,18,19,20])
 (.seq (rg [mv 123 18,mv 124 19,op 125 (.bin .lss .int (tm 123) (tm 124))] [0,1,2,3,4,11,16,18,19,20,125])
 (.cond (tm 125) (.seq (rg [mv 126 18,mv 127 20,op 128 (.bin .geq .int (tm 126) (tm 127)),mv 10 128] [0,1,2,3,4,10,11,16])
 (.seq (rg [mv 129 0,mv 130 1,mv 131 16,mv 132 3,mv 133 4,op 134 (.call .share 119 [(tm 129),(tm 130),(tm 131),(tm 132),(tm 133)])] [0,2,3,4,10,11,16])
 (rg [mv 135 16,op 136 (.bin .add .int (tm 135) (ci (1))),mv 1 136] [0,1,2,3,4,10,11])))
 (.seq (rg [mv 137 19,mv 138 20,op 139 (.bin .geq .int (tm 137) (tm 138)),mv 10 139] [0,1,2,3,4,10,11,16])
 (.seq (rg [mv 140 0,mv 141 16,op 142 (.bin .add .int (tm 141) (ci (1))),mv 143 2,mv 144 3,mv 145 4,op 146 (.call .share 119 [(tm 140),(tm 142),(tm 143),(tm 144),(tm 145)])] [0,1,3,4,10,11,16])
 (rg [mv 147 16,mv 2 147] [0,1,2,3,4,10,11])))))))))))))))))

def c119 : ACode :=
 .seq (rg [op 10 (.mov (.cst (.bool true)))] [0,1,2,3,4,10])
 (.seq (rg [op 11 (.mov (.cst (.bool true)))] [0,1,2,3,4,10,11])
 (.block 0 (.loop l119_0_h l119_0_b)))

def a119 : AFunc := ⟨5,c119,[]⟩

def an119 : List RAnn := [
 ra 0 [0,1,2,3,4,10],ra 1 [0,1,2,3,4,10,11],rh 2 [0,1,2,3,4,10,11,12] [0,1,2,3,4,10,11],ra 3 [0,1,2,3,4,10,11,12,25],
 { id := 4,ops := [(4,.mode .share)] },
 ra 5 [0,1,2,3,4,10,11,12,32],
 { id := 6,ops := [(4,.mode .share)] },
 ra 7 [0,1,2,3,4,10,11,12,39],
 { id := 8,live := [0,1,2,3,4,10,11,12],ops := [(4,.mode .share)] },
 ra 9 [0,1,2,3,4,10,11,12],
 { id := 10,live := [0,1,2,3,4,10,11,12,13,14],ops := [(4,.mode .share)] },
 ra 11 [0,1,2,3,4,10,11,12,13,14,56],
 { id := 12,live := [0,1,2,3,4,10,11,12,13],ops := [(4,.mode .share)] },
 ra 13 [0,1,2,3,4,10,11,12,13],ra 14 [0,1,2,3,4,10,11,12,13,14],ra 15 [0,1,2,3,4,10,11,12,13,75],
 { id := 16,live := [0,1,2,3,4,10,11,12,13,80],ops := [(4,.mode .share)] },
 { id := 17,head := some 17,live := [0,1,2,3,4,10,11,12,13,97] },
 { id := 18,live := [0,2,3,4,10,11,15],ops := [(5,.mode .share)] },
 ra 19 [0,1,2,3,4,10,11],
 { id := 20,live := [0,1,2,3,4,12,16,17],ops := [(5,.mode .share)] },
 ra 21 [0,1,2,3,4,11,12,16],ra 22 [0,1,2,3,4,11,12,16,18,19],ra 23 [0,1,2,3,4,11,16,18,19,20],ra 24 [0,1,2,3,4,11,16,18,19,20,125],ra 25 [0,1,2,3,4,10,11,16],
 { id := 26,live := [0,2,3,4,10,11,16],ops := [(5,.mode .share)] },
 ra 27 [0,1,2,3,4,10,11],ra 28 [0,1,2,3,4,10,11,16],
 { id := 29,live := [0,1,3,4,10,11,16],ops := [(6,.mode .share)] },
 ra 30 [0,1,2,3,4,10,11]]

theorem comp119 : compF Tryz.prog an119 Tryz.f119 = some a119 := by kernel_rfl

/- graphdb/graphdbref04.ints -/
def c121 : ACode :=
 .seq (rg [op 4 (.mov (ci (0)))] [0,1])
 (.seq (.seq (rg [mv 5 0,mv 6 1,op 7 (.bin .lss .int (tm 5) (tm 6))] [0,1,7])
 (.cond (tm 7) (.seq (rg [op 4 (.mov (ci ((-1))))] [4])
 (.ret))
 (.skip)))
 (.seq (.seq (rg [mv 8 0,mv 9 1,op 10 (.bin .gtr .int (tm 8) (tm 9))] [10])
 (.cond (tm 10) (.seq (rg [op 4 (.mov (ci (1)))] [4])
 (.ret))
 (.skip)))
 (.seq (rg [op 4 (.mov (ci (0)))] [4])
 (.ret))))

def a121 : AFunc := ⟨2,c121,[.tmp 4]⟩

def an121 : List RAnn := [
 ra 0 [0,1],ra 1 [0,1,7],ra 2 [4],ra 3 [10],ra 4 [4],ra 5 [4]]

theorem comp121 : compF Tryz.prog an121 Tryz.f121 = some a121 := by kernel_rfl

/- graphdb/graphdbref04.class -/
def c122 : ACode :=
 .seq (rg [op 2 (.mov (ci (0)))] [0])
 (.seq (.seq (rg [mv 3 0] [3])
 (.block 0 (.seq (rg [op 5 (.bin .eql .int (tm 3) (ci (0))),mv 4 5] [3,4])
 (.cond (tm 4) (.seq (rg [op 2 (.mov (ci (0)))] [2])
 (.ret))
 (.seq (rg [op 7 (.bin .eql .int (tm 3) (ci (1))),mv 6 7] [3,6])
 (.cond (tm 6) (.seq (rg [op 2 (.mov (ci (1)))] [2])
 (.ret))
 (.seq (.seq (rg [op 9 (.bin .eql .int (tm 3) (ci (2))),mv 8 9] [3,8])
 (.cond (tm 8) (.skip)
 (rg [op 10 (.bin .eql .int (tm 3) (ci (3))),mv 8 10] [3,8])))
 (.cond (tm 8) (.seq (rg [op 2 (.mov (ci (2)))] [2])
 (.ret))
 (.seq (rg [op 12 (.bin .eql .int (tm 3) (ci (4))),mv 11 12] [3,11])
 (.cond (tm 11) (.seq (rg [op 2 (.mov (ci (3)))] [2])
 (.ret))
 (.seq (rg [op 14 (.bin .eql .int (tm 3) (ci (5))),mv 13 14] [3,13])
 (.cond (tm 13) (.seq (rg [op 2 (.mov (ci (4)))] [2])
 (.ret))
 (.seq (rg [op 16 (.bin .eql .int (tm 3) (ci (6))),mv 15 16] [3,15])
 (.cond (tm 15) (.seq (rg [op 2 (.mov (ci (5)))] [2])
 (.ret))
 (.seq (rg [op 18 (.bin .eql .int (tm 3) (ci (8))),mv 17 18] [17])
 (.cond (tm 17) (.seq (rg [op 2 (.mov (ci (6)))] [2])
 (.ret))
 (.skip)))))))))))))))))
 (.seq (rg [op 2 (.mov (ci (7)))] [2])
 (.ret)))

def a122 : AFunc := ⟨1,c122,[.tmp 2]⟩

def an122 : List RAnn := [
 ra 0 [0],ra 1 [3],ra 2 [3,4],ra 3 [2],ra 4 [3,6],ra 5 [2],ra 6 [3,8],ra 7 [3,8],ra 8 [2],ra 9 [3,11],ra 10 [2],ra 11 [3,13],ra 12 [2],ra 13 [3,15],ra 14 [2],ra 15 [17],ra 16 [2],ra 17 [2]]

theorem comp122 : compF Tryz.prog an122 Tryz.f122 = some a122 := by kernel_rfl

/- slices.insertionSortCmpFunc[graphdb/api.Entry] -/
/-- loop 0 of function 123 -/
def l123_0_h : List Nat := [0,1,2,3,8,9]

def l123_0_b : ACode :=
 .seq (.seq (.region (some 17) [] [
 mv 18 9,mv 19 1,op 20 (.bin .gtr .int (tm 18) (tm 19)),mv 21 20,mg 22 3 21 true,mg 23 0 21 true,mg 24 9 21 true,⟨some 25,.iaddr 8 (tm 23) (tm 24),some (21,true)⟩,⟨some 26,.load (some 8) (tm 25),some (21,true)⟩,mg 27 0 21 true,mg 28 9 21 true,⟨some 29,.bin .sub .int (tm 28) (ci (1)),some (21,true)⟩,⟨some 30,.iaddr 8 (tm 27) (tm 29),some (21,true)⟩,⟨some 31,.load (some 8) (tm 30),some (21,true)⟩,⟨some 32,.callv .pure (tm 22) [(tm 26),(tm 31)],some (21,true)⟩,⟨some 33,.bin .lss .int (tm 32) (ci (0)),some (21,true)⟩,op 34 (.pick (tm 21) (tm 33) (.cst (.bool false)))] [0,1,2,3,8,9,34] none)
 (.cond (tm 34) (.skip)
 (.exit 2)))
 (.seq (.block 3 (.par 18 [] [] [
 mv 37 0,mv 38 9,mv 39 0,mv 40 9,op 41 (.bin .sub .int (tm 40) (ci (1))),mv 42 0,mv 43 9,op 44 (.bin .sub .int (tm 43) (ci (1))),op 45 (.iaddr 8 (tm 42) (tm 44)),op 46 (.load (some 8) (tm 45)),mv 47 0,mv 48 9,op 49 (.iaddr 8 (tm 47) (tm 48)),op 50 (.load (some 8) (tm 49)),op 51 (.iaddr 8 (tm 37) (tm 38)),⟨none,.store 8 (tm 51) (tm 46),none⟩,op 52 (.iaddr 8 (tm 39) (tm 41)),⟨none,.store 8 (tm 52) (tm 50),none⟩] [0,1,2,3,8,9] none))
 (rg [mv 35 9,op 36 (.bin .sub .int (tm 35) (ci (1))),mv 9 36] [0,1,2,3,8,9]))

/-- loop 1 of function 123 -/
def l123_1_h : List Nat := [0,1,2,3,8]

def l123_1_b : ACode :=
 .seq (.seq (rg [mv 12 8,mv 13 2,op 14 (.bin .lss .int (tm 12) (tm 13))] [0,1,2,3,8,14])
 (.cond (tm 14) (.skip)
 (.exit 0)))
 (.seq (.block 1 (.seq (rg [mv 17 8,mv 9 17] [0,1,2,3,8,9])
 (.block 2 (.loop l123_0_h l123_0_b))))
 (rg [mv 15 8,op 16 (.bin .add .int (tm 15) (ci (1))),mv 8 16] [0,1,2,3,8]))

def c123 : ACode :=
 .seq (rg [mv 10 1,op 11 (.bin .add .int (tm 10) (ci (1))),mv 8 11] [0,1,2,3,8])
 (.block 0 (.loop l123_1_h l123_1_b))

def a123 : AFunc := ⟨4,c123,[]⟩

def an123 : List RAnn := [
 ra 0 [0,1,2,3,8],rh 1 [0,1,2,3,8,14] [0,1,2,3,8],ra 3 [0,1,2,3,8,9],
 { id := 4,head := some 17,live := [0,1,2,3,8,9,34],hdr := [0,1,2,3,8,9] },
 { id := 6,head := some 18,live := [0,1,2,3,8,9],par := true },
 ra 5 [0,1,2,3,8,9],ra 2 [0,1,2,3,8]]

theorem comp123 : compF Tryz.prog an123 Tryz.f123 = some a123 := by kernel_rfl

/- slices.heapSortCmpFunc[graphdb/api.Entry] -/
/-- loop 0 of function 124 -/
def l124_0_h : List Nat := [0,3,8,9,10,11]

def l124_0_b : ACode :=
 .seq (.seq (rg [mv 20 11,op 21 (.bin .geq .int (tm 20) (ci (0)))] [0,3,8,9,10,11,21])
 (.cond (tm 21) (.skip)
 (.exit 0)))
 (.seq (.block 1 (rg [mv 24 0,mv 25 11,mv 26 10,mv 27 8,mv 28 3,op 29 (.call .share 182 [(tm 24),(tm 25),(tm 26),(tm 27),(tm 28)])] [0,3,8,9,10,11]))
 (rg [mv 22 11,op 23 (.bin .sub .int (tm 22) (ci (1))),mv 11 23] [0,3,8,9,10,11]))

/-- loop 1 of function 124 -/
def l124_1_h : List Nat := [0,3,8,9,12]

def l124_1_b : ACode :=
 .seq (.seq (rg [mv 32 12,op 33 (.bin .geq .int (tm 32) (ci (0)))] [0,3,8,9,12,33])
 (.cond (tm 33) (.skip)
 (.exit 2)))
 (.seq (.block 3 (.seq (.par 20 [] [] [
 mv 36 0,mv 37 8,mv 38 0,mv 39 8,mv 40 12,op 41 (.bin .add .int (tm 39) (tm 40)),mv 42 0,mv 43 8,mv 44 12,op 45 (.bin .add .int (tm 43) (tm 44)),op 46 (.iaddr 8 (tm 42) (tm 45)),op 47 (.load (some 8) (tm 46)),mv 48 0,mv 49 8,op 50 (.iaddr 8 (tm 48) (tm 49)),op 51 (.load (some 8) (tm 50)),op 52 (.iaddr 8 (tm 36) (tm 37)),⟨none,.store 8 (tm 52) (tm 47),none⟩,op 53 (.iaddr 8 (tm 38) (tm 41)),⟨none,.store 8 (tm 53) (tm 51),none⟩] [0,3,8,9,12] none)
 (rg [mv 54 0,mv 55 9,mv 56 12,mv 57 8,mv 58 3,op 59 (.call .share 182 [(tm 54),(tm 55),(tm 56),(tm 57),(tm 58)])] [0,3,8,9,12])))
 (rg [mv 34 12,op 35 (.bin .sub .int (tm 34) (ci (1))),mv 12 35] [0,3,8,9,12]))

def c124 : ACode :=
 .seq (rg [mv 13 1,mv 8 13] [0,1,2,3,8])
 (.seq (rg [op 9 (.mov (ci (0)))] [0,1,2,3,8,9])
 (.seq (rg [mv 14 2,mv 15 1,op 16 (.bin .sub .int (tm 14) (tm 15)),mv 10 16] [0,3,8,9,10])
 (.seq (.seq (rg [mv 17 10,op 18 (.bin .sub .int (tm 17) (ci (1))),op 19 (.bin .quo .int (tm 18) (ci (2))),mv 11 19] [0,3,8,9,10,11])
 (.block 0 (.loop l124_0_h l124_0_b)))
 (.seq (rg [mv 30 10,op 31 (.bin .sub .int (tm 30) (ci (1))),mv 12 31] [0,3,8,9,12])
 (.block 2 (.loop l124_1_h l124_1_b))))))

def a124 : AFunc := ⟨4,c124,[]⟩

def an124 : List RAnn := [
 ra 0 [0,1,2,3,8],ra 1 [0,1,2,3,8,9],ra 2 [0,3,8,9,10],ra 3 [0,3,8,9,10,11],rh 4 [0,3,8,9,10,11,21] [0,3,8,9,10,11],
 { id := 6,live := [0,3,8,9,10,11],ops := [(5,.mode .share)] },
 ra 5 [0,3,8,9,10,11],ra 7 [0,3,8,9,12],rh 8 [0,3,8,9,12,33] [0,3,8,9,12],
 { id := 10,head := some 20,live := [0,3,8,9,12],par := true },
 { id := 11,live := [0,3,8,9,12],ops := [(5,.mode .share)] },
 ra 9 [0,3,8,9,12]]

theorem comp124 : compF Tryz.prog an124 Tryz.f124 = some a124 := by kernel_rfl

/- slices.breakPatternsCmpFunc[graphdb/api.Entry] -/
/-- loop 0 of function 125 -/
def l125_0_h : List Nat := [0,1,8,9,10,11]

def l125_0_b : ACode :=
 .seq (.seq (rg [mv 28 11,mv 29 1,mv 30 8,op 31 (.bin .quo .int (tm 30) (ci (4))),op 32 (.bin .mul .int (tm 31) (ci (2))),op 33 (.bin .add .int (tm 29) (tm 32)),op 34 (.bin .add .int (tm 33) (ci (1))),op 35 (.bin .leq .int (tm 28) (tm 34))] [0,1,8,9,10,11,35])
 (.cond (tm 35) (.skip)
 (.exit 0)))
 (.seq (.block 1 (.seq (rg [op 38 (.call .share 184 [(tm 9)]),mv 39 10,op 40 (.bin .sub .int (tm 39) (.cst (.int .u64 1))),op 41 (.bin .and .int (tm 38) (tm 40)),op 42 (.conv .i64 (tm 41)),mv 12 42] [0,1,8,9,10,11,12])
 (.seq (.seq (rg [mv 43 12,mv 44 8,op 45 (.bin .geq .int (tm 43) (tm 44))] [0,1,8,9,10,11,12,45])
 (.cond (tm 45) (rg [mv 46 12,mv 47 8,op 48 (.bin .sub .int (tm 46) (tm 47)),mv 12 48] [0,1,8,9,10,11,12])
 (.skip)))
 (.par 20 [] [] [
 mv 49 0,mv 50 11,mv 51 0,mv 52 1,mv 53 12,op 54 (.bin .add .int (tm 52) (tm 53)),mv 55 0,mv 56 1,mv 57 12,op 58 (.bin .add .int (tm 56) (tm 57)),op 59 (.iaddr 8 (tm 55) (tm 58)),op 60 (.load (some 8) (tm 59)),mv 61 0,mv 62 11,op 63 (.iaddr 8 (tm 61) (tm 62)),op 64 (.load (some 8) (tm 63)),op 65 (.iaddr 8 (tm 49) (tm 50)),⟨none,.store 8 (tm 65) (tm 60),none⟩,op 66 (.iaddr 8 (tm 51) (tm 54)),⟨none,.store 8 (tm 66) (tm 64),none⟩] [0,1,8,9,10,11] none))))
 (rg [mv 36 11,op 37 (.bin .add .int (tm 36) (ci (1))),mv 11 37] [0,1,8,9,10,11]))

def c125 : ACode :=
 .seq (rg [mv 13 2,mv 14 1,op 15 (.bin .sub .int (tm 13) (tm 14)),mv 8 15] [0,1,8])
 (.seq (rg [mv 16 8,op 17 (.bin .geq .int (tm 16) (ci (8)))] [0,1,8,17])
 (.cond (tm 17) (.seq (rg [mv 18 8,op 19 (.conv .u64 (tm 18)),op 9 (.alloc 1 (.int .u64 0)),⟨none,.store 1 (tm 9) (tm 19),none⟩] [0,1,8,9])
 (.seq (rg [mv 20 8,op 21 (.call .pure 183 [(tm 20)]),mv 10 21] [0,1,8,9,10])
 (.seq (rg [mv 22 1,mv 23 8,op 24 (.bin .quo .int (tm 23) (ci (4))),op 25 (.bin .mul .int (tm 24) (ci (2))),op 26 (.bin .add .int (tm 22) (tm 25)),op 27 (.bin .sub .int (tm 26) (ci (1))),mv 11 27] [0,1,8,9,10,11])
 (.block 0 (.loop l125_0_h l125_0_b)))))
 (.skip)))

def a125 : AFunc := ⟨4,c125,[]⟩

def an125 : List RAnn := [
 ra 0 [0,1,8],ra 1 [0,1,8,17],ra 2 [0,1,8,9],ra 3 [0,1,8,9,10],ra 4 [0,1,8,9,10,11],rh 5 [0,1,8,9,10,11,35] [0,1,8,9,10,11],
 { id := 7,live := [0,1,8,9,10,11,12],ops := [(0,.mode .share)] },
 ra 8 [0,1,8,9,10,11,12,45],ra 9 [0,1,8,9,10,11,12],
 { id := 10,head := some 20,live := [0,1,8,9,10,11],par := true },
 ra 6 [0,1,8,9,10,11]]

theorem comp125 : compF Tryz.prog an125 Tryz.f125 = some a125 := by kernel_rfl

/- slices.choosePivotCmpFunc[graphdb/api.Entry] -/
def c126 : ACode :=
 .seq (rg [op 8 (.mov (ci (0))),op 9 (.mov (ci (0)))] [0,1,2,3])
 (.seq (rg [mv 15 2,mv 16 1,op 17 (.bin .sub .int (tm 15) (tm 16)),mv 10 17] [0,1,3,10])
 (.seq (rg [op 11 (.alloc 1 (.int .i64 0))] [0,1,3,10,11])
 (.seq (rg [mv 18 1,mv 19 10,op 20 (.bin .quo .int (tm 19) (ci (4))),op 21 (.bin .mul .int (tm 20) (ci (1))),op 22 (.bin .add .int (tm 18) (tm 21)),mv 12 22] [0,1,3,10,11,12])
 (.seq (rg [mv 23 1,mv 24 10,op 25 (.bin .quo .int (tm 24) (ci (4))),op 26 (.bin .mul .int (tm 25) (ci (2))),op 27 (.bin .add .int (tm 23) (tm 26)),mv 13 27] [0,1,3,10,11,12,13])
 (.seq (rg [mv 28 1,mv 29 10,op 30 (.bin .quo .int (tm 29) (ci (4))),op 31 (.bin .mul .int (tm 30) (ci (3))),op 32 (.bin .add .int (tm 28) (tm 31)),mv 14 32] [0,3,10,11,12,13,14])
 (.seq (.seq (rg [mv 33 10,op 34 (.bin .geq .int (tm 33) (ci (8)))] [0,3,10,11,12,13,14,34])
 (.cond (tm 34) (.seq (.seq (rg [mv 35 10,op 36 (.bin .geq .int (tm 35) (ci (50)))] [0,3,11,12,13,14,36])
 (.cond (tm 36) (.seq (rg [mv 37 0,mv 38 12,mv 39 3,op 40 (.call .share 185 [(tm 37),(tm 38),(tm 11),(tm 39)]),mv 12 40] [0,3,11,12,13,14])
 (.seq (rg [mv 41 0,mv 42 13,mv 43 3,op 44 (.call .share 185 [(tm 41),(tm 42),(tm 11),(tm 43)]),mv 13 44] [0,3,11,12,13,14])
 (rg [mv 45 0,mv 46 14,mv 47 3,op 48 (.call .share 185 [(tm 45),(tm 46),(tm 11),(tm 47)]),mv 14 48] [0,3,11,12,13,14])))
 (.skip)))
 (rg [mv 49 0,mv 50 12,mv 51 13,mv 52 14,mv 53 3,op 54 (.call .share 186 [(tm 49),(tm 50),(tm 51),(tm 52),(tm 11),(tm 53)]),mv 13 54] [11,13]))
 (.skip)))
 (.seq (rg [op 55 (.load none (tm 11))] [13,55])
 (.block 0 (.seq (rg [op 58 (.bin .eql .int (tm 55) (ci (0))),mv 57 58] [13,55,57])
 (.cond (tm 57) (.seq (rg [mv 59 13,mv 8 59,op 9 (.mov (ci (1)))] [8,9])
 (.ret))
 (.seq (rg [op 61 (.bin .eql .int (tm 55) (ci (12))),mv 60 61] [13,60])
 (.cond (tm 60) (.seq (rg [mv 62 13,mv 8 62,op 9 (.mov (ci (2)))] [8,9])
 (.ret))
 (.seq (rg [mv 56 13,mv 8 56,op 9 (.mov (ci (0)))] [8,9])
 (.ret))))))))))))))

def a126 : AFunc := ⟨4,c126,[.tmp 8,.tmp 9]⟩

def an126 : List RAnn := [
 ra 0 [0,1,2,3],ra 1 [0,1,3,10],ra 2 [0,1,3,10,11],ra 3 [0,1,3,10,11,12],ra 4 [0,1,3,10,11,12,13],ra 5 [0,3,10,11,12,13,14],ra 6 [0,3,10,11,12,13,14,34],ra 7 [0,3,11,12,13,14,36],
 { id := 8,live := [0,3,11,12,13,14],ops := [(3,.mode .share)] },
 { id := 9,live := [0,3,11,12,13,14],ops := [(3,.mode .share)] },
 { id := 10,live := [0,3,11,12,13,14],ops := [(3,.mode .share)] },
 { id := 11,live := [11,13],ops := [(5,.mode .share)] },
 ra 12 [13,55],ra 14 [13,55,57],ra 15 [8,9],ra 16 [13,60],ra 17 [8,9],ra 13 [8,9]]

theorem comp126 : compF Tryz.prog an126 Tryz.f126 = some a126 := by kernel_rfl

/- slices.reverseRangeCmpFunc[graphdb/api.Entry] -/
/-- loop 0 of function 127 -/
def l127_0_h : List Nat := [0,8,9]

def l127_0_b : ACode :=
 .seq (.seq (rg [mv 13 8,mv 14 9,op 15 (.bin .lss .int (tm 13) (tm 14))] [0,8,9,15])
 (.cond (tm 15) (.skip)
 (.exit 0)))
 (.block 1 (.seq (.par 16 [] [] [
 mv 16 0,mv 17 8,mv 18 0,mv 19 9,mv 20 0,mv 21 9,op 22 (.iaddr 8 (tm 20) (tm 21)),op 23 (.load (some 8) (tm 22)),mv 24 0,mv 25 8,op 26 (.iaddr 8 (tm 24) (tm 25)),op 27 (.load (some 8) (tm 26)),op 28 (.iaddr 8 (tm 16) (tm 17)),⟨none,.store 8 (tm 28) (tm 23),none⟩,op 29 (.iaddr 8 (tm 18) (tm 19)),⟨none,.store 8 (tm 29) (tm 27),none⟩] [0,8,9] none)
 (.seq (rg [mv 30 8,op 31 (.bin .add .int (tm 30) (ci (1))),mv 8 31] [0,8,9])
 (rg [mv 32 9,op 33 (.bin .sub .int (tm 32) (ci (1))),mv 9 33] [0,8,9]))))

def c127 : ACode :=
 .seq (rg [mv 10 1,mv 8 10] [0,2,8])
 (.seq (rg [mv 11 2,op 12 (.bin .sub .int (tm 11) (ci (1))),mv 9 12] [0,8,9])
 (.block 0 (.loop l127_0_h l127_0_b)))

def a127 : AFunc := ⟨4,c127,[]⟩

def an127 : List RAnn := [
 ra 0 [0,2,8],ra 1 [0,8,9],rh 2 [0,8,9,15] [0,8,9],
 { id := 3,head := some 16,live := [0,8,9],par := true },
 ra 4 [0,8,9],ra 5 [0,8,9]]

theorem comp127 : compF Tryz.prog an127 Tryz.f127 = some a127 := by kernel_rfl

/- slices.partialInsertionSortCmpFunc[graphdb/api.Entry] -/
/-- loop 0 of function 128 -/
def l128_0_h : List Nat := [0,1,2,3,9,10]

def l128_0_b : ACode :=
 .seq (.seq (.region (some 18) [] [
 mv 19 9,mv 20 2,op 21 (.bin .lss .int (tm 19) (tm 20)),mv 22 21,mg 23 3 22 true,mg 24 0 22 true,mg 25 9 22 true,⟨some 26,.iaddr 8 (tm 24) (tm 25),some (22,true)⟩,⟨some 27,.load (some 8) (tm 26),some (22,true)⟩,mg 28 0 22 true,mg 29 9 22 true,⟨some 30,.bin .sub .int (tm 29) (ci (1)),some (22,true)⟩,⟨some 31,.iaddr 8 (tm 28) (tm 30),some (22,true)⟩,⟨some 32,.load (some 8) (tm 31),some (22,true)⟩,⟨some 33,.callv .pure (tm 23) [(tm 27),(tm 32)],some (22,true)⟩,⟨some 34,.bin .lss .int (tm 33) (ci (0)),some (22,true)⟩,⟨some 35,.un .not (tm 34),some (22,true)⟩,op 36 (.pick (tm 22) (tm 35) (.cst (.bool false)))] [0,1,2,3,9,10,36] none)
 (.cond (tm 36) (.skip)
 (.exit 2)))
 (.block 3 (rg [mv 37 9,op 38 (.bin .add .int (tm 37) (ci (1))),mv 9 38] [0,1,2,3,9,10]))

/-- loop 1 of function 128 -/
def l128_1_h : List Nat := [0,1,2,3,9,10,11]

def l128_1_b : ACode :=
 .seq (.seq (rg [mv 68 11,op 69 (.bin .geq .int (tm 68) (ci (1)))] [0,1,2,3,9,10,11,69])
 (.cond (tm 69) (.skip)
 (.exit 4)))
 (.seq (.block 5 (.seq (.seq (.region (some 13) [] [
 mv 72 3,mv 73 0,mv 74 11,op 75 (.iaddr 8 (tm 73) (tm 74)),op 76 (.load (some 8) (tm 75)),mv 77 0,mv 78 11,op 79 (.bin .sub .int (tm 78) (ci (1))),op 80 (.iaddr 8 (tm 77) (tm 79)),op 81 (.load (some 8) (tm 80)),op 82 (.callv .pure (tm 72) [(tm 76),(tm 81)]),op 83 (.bin .lss .int (tm 82) (ci (0))),op 84 (.un .not (tm 83))] [0,1,2,3,9,10,11,84] none)
 (.cond (tm 84) (.exit 4)
 (.skip)))
 (.par 18 [] [] [
 mv 85 0,mv 86 11,mv 87 0,mv 88 11,op 89 (.bin .sub .int (tm 88) (ci (1))),mv 90 0,mv 91 11,op 92 (.bin .sub .int (tm 91) (ci (1))),op 93 (.iaddr 8 (tm 90) (tm 92)),op 94 (.load (some 8) (tm 93)),mv 95 0,mv 96 11,op 97 (.iaddr 8 (tm 95) (tm 96)),op 98 (.load (some 8) (tm 97)),op 99 (.iaddr 8 (tm 85) (tm 86)),⟨none,.store 8 (tm 99) (tm 94),none⟩,op 100 (.iaddr 8 (tm 87) (tm 89)),⟨none,.store 8 (tm 100) (tm 98),none⟩] [0,1,2,3,9,10,11] none)))
 (rg [mv 70 11,op 71 (.bin .sub .int (tm 70) (ci (1))),mv 11 71] [0,1,2,3,9,10,11]))

/-- loop 2 of function 128 -/
def l128_2_h : List Nat := [0,1,2,3,9,10,12]

def l128_2_b : ACode :=
 .seq (.seq (rg [mv 107 12,mv 108 2,op 109 (.bin .lss .int (tm 107) (tm 108))] [0,1,2,3,9,10,12,109])
 (.cond (tm 109) (.skip)
 (.exit 6)))
 (.seq (.block 7 (.seq (.seq (.region (some 13) [] [
 mv 112 3,mv 113 0,mv 114 12,op 115 (.iaddr 8 (tm 113) (tm 114)),op 116 (.load (some 8) (tm 115)),mv 117 0,mv 118 12,op 119 (.bin .sub .int (tm 118) (ci (1))),op 120 (.iaddr 8 (tm 117) (tm 119)),op 121 (.load (some 8) (tm 120)),op 122 (.callv .pure (tm 112) [(tm 116),(tm 121)]),op 123 (.bin .lss .int (tm 122) (ci (0))),op 124 (.un .not (tm 123))] [0,1,2,3,9,10,12,124] none)
 (.cond (tm 124) (.exit 6)
 (.skip)))
 (.par 18 [] [] [
 mv 125 0,mv 126 12,mv 127 0,mv 128 12,op 129 (.bin .sub .int (tm 128) (ci (1))),mv 130 0,mv 131 12,op 132 (.bin .sub .int (tm 131) (ci (1))),op 133 (.iaddr 8 (tm 130) (tm 132)),op 134 (.load (some 8) (tm 133)),mv 135 0,mv 136 12,op 137 (.iaddr 8 (tm 135) (tm 136)),op 138 (.load (some 8) (tm 137)),op 139 (.iaddr 8 (tm 125) (tm 126)),⟨none,.store 8 (tm 139) (tm 134),none⟩,op 140 (.iaddr 8 (tm 127) (tm 129)),⟨none,.store 8 (tm 140) (tm 138),none⟩] [0,1,2,3,9,10,12] none)))
 (rg [mv 110 12,op 111 (.bin .add .int (tm 110) (ci (1))),mv 12 111] [0,1,2,3,9,10,12]))

/-- loop 3 of function 128 -/
def l128_3_h : List Nat := [0,1,2,3,9,10]

def l128_3_b : ACode :=
 .seq (.seq (rg [mv 15 10,op 16 (.bin .lss .int (tm 15) (ci (5)))] [0,1,2,3,9,10,16])
 (.cond (tm 16) (.skip)
 (.exit 0)))
 (.seq (.block 1 (.seq (.block 2 (.loop l128_0_h l128_0_b))
 (.seq (.seq (rg [mv 39 9,mv 40 2,op 41 (.bin .eql .int (tm 39) (tm 40))] [0,1,2,3,9,10,41])
 (.cond (tm 41) (.seq (rg [op 8 (.mov (.cst (.bool true)))] [8])
 (.ret))
 (.skip)))
 (.seq (.seq (rg [mv 42 2,mv 43 1,op 44 (.bin .sub .int (tm 42) (tm 43)),op 45 (.bin .lss .int (tm 44) (ci (50)))] [0,1,2,3,9,10,45])
 (.cond (tm 45) (.seq (rg [op 8 (.mov (.cst (.bool false)))] [8])
 (.ret))
 (.skip)))
 (.seq (.par 18 [] [] [
 mv 46 0,mv 47 9,mv 48 0,mv 49 9,op 50 (.bin .sub .int (tm 49) (ci (1))),mv 51 0,mv 52 9,op 53 (.bin .sub .int (tm 52) (ci (1))),op 54 (.iaddr 8 (tm 51) (tm 53)),op 55 (.load (some 8) (tm 54)),mv 56 0,mv 57 9,op 58 (.iaddr 8 (tm 56) (tm 57)),op 59 (.load (some 8) (tm 58)),op 60 (.iaddr 8 (tm 46) (tm 47)),⟨none,.store 8 (tm 60) (tm 55),none⟩,op 61 (.iaddr 8 (tm 48) (tm 50)),⟨none,.store 8 (tm 61) (tm 59),none⟩] [0,1,2,3,9,10] none)
 (.seq (.seq (rg [mv 62 9,mv 63 1,op 64 (.bin .sub .int (tm 62) (tm 63)),op 65 (.bin .geq .int (tm 64) (ci (2)))] [0,1,2,3,9,10,65])
 (.cond (tm 65) (.seq (rg [mv 66 9,op 67 (.bin .sub .int (tm 66) (ci (1))),mv 11 67] [0,1,2,3,9,10,11])
 (.block 4 (.loop l128_1_h l128_1_b)))
 (.skip)))
 (.seq (rg [mv 101 2,mv 102 9,op 103 (.bin .sub .int (tm 101) (tm 102)),op 104 (.bin .geq .int (tm 103) (ci (2)))] [0,1,2,3,9,10,104])
 (.cond (tm 104) (.seq (rg [mv 105 9,op 106 (.bin .add .int (tm 105) (ci (1))),mv 12 106] [0,1,2,3,9,10,12])
 (.block 6 (.loop l128_2_h l128_2_b)))
 (.skip)))))))))
 (rg [mv 17 10,op 18 (.bin .add .int (tm 17) (ci (1))),mv 10 18] [0,1,2,3,9,10]))

def c128 : ACode :=
 .seq (rg [op 8 (.mov (.cst (.bool false)))] [0,1,2,3])
 (.seq (rg [mv 13 1,op 14 (.bin .add .int (tm 13) (ci (1))),mv 9 14] [0,1,2,3,9])
 (.seq (.seq (rg [op 10 (.mov (ci (0)))] [0,1,2,3,9,10])
 (.block 0 (.loop l128_3_h l128_3_b)))
 (.seq (rg [op 8 (.mov (.cst (.bool false)))] [8])
 (.ret))))

def a128 : AFunc := ⟨4,c128,[.tmp 8]⟩

def an128 : List RAnn := [
 ra 0 [0,1,2,3],ra 1 [0,1,2,3,9],ra 2 [0,1,2,3,9,10],rh 3 [0,1,2,3,9,10,16] [0,1,2,3,9,10],
 { id := 5,head := some 18,live := [0,1,2,3,9,10,36],hdr := [0,1,2,3,9,10] },
 ra 6 [0,1,2,3,9,10],ra 7 [0,1,2,3,9,10,41],ra 8 [8],ra 9 [0,1,2,3,9,10,45],ra 10 [8],
 { id := 11,head := some 18,live := [0,1,2,3,9,10],par := true },
 ra 12 [0,1,2,3,9,10,65],ra 13 [0,1,2,3,9,10,11],rh 14 [0,1,2,3,9,10,11,69] [0,1,2,3,9,10,11],
 { id := 16,head := some 13,live := [0,1,2,3,9,10,11,84] },
 { id := 17,head := some 18,live := [0,1,2,3,9,10,11],par := true },
 ra 15 [0,1,2,3,9,10,11],ra 18 [0,1,2,3,9,10,104],ra 19 [0,1,2,3,9,10,12],rh 20 [0,1,2,3,9,10,12,109] [0,1,2,3,9,10,12],
 { id := 22,head := some 13,live := [0,1,2,3,9,10,12,124] },
 { id := 23,head := some 18,live := [0,1,2,3,9,10,12],par := true },
 ra 21 [0,1,2,3,9,10,12],ra 4 [0,1,2,3,9,10],ra 24 [8]]

theorem comp128 : compF Tryz.prog an128 Tryz.f128 = some a128 := by kernel_rfl

/- slices.partitionEqualCmpFunc[graphdb/api.Entry] -/
/-- loop 0 of function 129 -/
def l129_0_h : List Nat := [0,1,4,11,12]

def l129_0_b : ACode :=
 .seq (.seq (.region (some 17) [] [
 mv 31 11,mv 32 12,op 33 (.bin .leq .int (tm 31) (tm 32)),mv 34 33,mg 35 4 34 true,mg 36 0 34 true,mg 37 1 34 true,⟨some 38,.iaddr 8 (tm 36) (tm 37),some (34,true)⟩,⟨some 39,.load (some 8) (tm 38),some (34,true)⟩,mg 40 0 34 true,mg 41 11 34 true,⟨some 42,.iaddr 8 (tm 40) (tm 41),some (34,true)⟩,⟨some 43,.load (some 8) (tm 42),some (34,true)⟩,⟨some 44,.callv .pure (tm 35) [(tm 39),(tm 43)],some (34,true)⟩,⟨some 45,.bin .lss .int (tm 44) (ci (0)),some (34,true)⟩,⟨some 46,.un .not (tm 45),some (34,true)⟩,op 47 (.pick (tm 34) (tm 46) (.cst (.bool false)))] [0,1,4,11,12,47] none)
 (.cond (tm 47) (.skip)
 (.exit 2)))
 (.block 3 (rg [mv 48 11,op 49 (.bin .add .int (tm 48) (ci (1))),mv 11 49] [0,1,4,11,12]))

/-- loop 1 of function 129 -/
def l129_1_h : List Nat := [0,1,4,11,12]

def l129_1_b : ACode :=
 .seq (.seq (.region (some 16) [] [
 mv 50 11,mv 51 12,op 52 (.bin .leq .int (tm 50) (tm 51)),mv 53 52,mg 54 4 53 true,mg 55 0 53 true,mg 56 1 53 true,⟨some 57,.iaddr 8 (tm 55) (tm 56),some (53,true)⟩,⟨some 58,.load (some 8) (tm 57),some (53,true)⟩,mg 59 0 53 true,mg 60 12 53 true,⟨some 61,.iaddr 8 (tm 59) (tm 60),some (53,true)⟩,⟨some 62,.load (some 8) (tm 61),some (53,true)⟩,⟨some 63,.callv .pure (tm 54) [(tm 58),(tm 62)],some (53,true)⟩,⟨some 64,.bin .lss .int (tm 63) (ci (0)),some (53,true)⟩,op 65 (.pick (tm 53) (tm 64) (.cst (.bool false)))] [0,1,4,11,12,65] none)
 (.cond (tm 65) (.skip)
 (.exit 4)))
 (.block 5 (rg [mv 66 12,op 67 (.bin .sub .int (tm 66) (ci (1))),mv 12 67] [0,1,4,11,12]))

/-- loop 2 of function 129 -/
def l129_2_h : List Nat := [0,1,4,11,12]

def l129_2_b : ACode :=
 .block 1 (.seq (.block 2 (.loop l129_0_h l129_0_b))
 (.seq (.block 4 (.loop l129_1_h l129_1_b))
 (.seq (.seq (rg [mv 68 11,mv 69 12,op 70 (.bin .gtr .int (tm 68) (tm 69))] [0,1,4,11,12,70])
 (.cond (tm 70) (.exit 0)
 (.skip)))
 (.seq (.par 16 [] [] [
 mv 71 0,mv 72 11,mv 73 0,mv 74 12,mv 75 0,mv 76 12,op 77 (.iaddr 8 (tm 75) (tm 76)),op 78 (.load (some 8) (tm 77)),mv 79 0,mv 80 11,op 81 (.iaddr 8 (tm 79) (tm 80)),op 82 (.load (some 8) (tm 81)),op 83 (.iaddr 8 (tm 71) (tm 72)),⟨none,.store 8 (tm 83) (tm 78),none⟩,op 84 (.iaddr 8 (tm 73) (tm 74)),⟨none,.store 8 (tm 84) (tm 82),none⟩] [0,1,4,11,12] none)
 (.seq (rg [mv 85 11,op 86 (.bin .add .int (tm 85) (ci (1))),mv 11 86] [0,1,4,11,12])
 (rg [mv 87 12,op 88 (.bin .sub .int (tm 87) (ci (1))),mv 12 88] [0,1,4,11,12]))))))

def c129 : ACode :=
 .seq (rg [op 10 (.mov (ci (0)))] [0,1,2,3,4])
 (.seq (.par 16 [] [] [
 mv 13 0,mv 14 1,mv 15 0,mv 16 3,mv 17 0,mv 18 3,op 19 (.iaddr 8 (tm 17) (tm 18)),op 20 (.load (some 8) (tm 19)),mv 21 0,mv 22 1,op 23 (.iaddr 8 (tm 21) (tm 22)),op 24 (.load (some 8) (tm 23)),op 25 (.iaddr 8 (tm 13) (tm 14)),⟨none,.store 8 (tm 25) (tm 20),none⟩,op 26 (.iaddr 8 (tm 15) (tm 16)),⟨none,.store 8 (tm 26) (tm 24),none⟩] [0,1,2,4] none)
 (.seq (rg [mv 27 1,op 28 (.bin .add .int (tm 27) (ci (1))),mv 29 2,op 30 (.bin .sub .int (tm 29) (ci (1))),mv 11 28,mv 12 30] [0,1,4,11,12])
 (.seq (.block 0 (.loop l129_2_h l129_2_b))
 (.seq (rg [mv 89 11,mv 10 89] [10])
 (.ret)))))

def a129 : AFunc := ⟨5,c129,[.tmp 10]⟩

def an129 : List RAnn := [
 ra 0 [0,1,2,3,4],
 { id := 1,head := some 16,live := [0,1,2,4],par := true },
 ra 2 [0,1,4,11,12],
 { id := 3,head := some 17,live := [0,1,4,11,12,47],hdr := [0,1,4,11,12] },
 ra 4 [0,1,4,11,12],
 { id := 5,head := some 16,live := [0,1,4,11,12,65],hdr := [0,1,4,11,12] },
 ra 6 [0,1,4,11,12],ra 7 [0,1,4,11,12,70],
 { id := 8,head := some 16,live := [0,1,4,11,12],par := true },
 ra 9 [0,1,4,11,12],ra 10 [0,1,4,11,12],ra 11 [10]]

theorem comp129 : compF Tryz.prog an129 Tryz.f129 = some a129 := by kernel_rfl

/- slices.partitionCmpFunc[graphdb/api.Entry] -/
/-- loop 0 of function 130 -/
def l130_0_h : List Nat := [0,1,4,12,13]

def l130_0_b : ACode :=
 .seq (.seq (.region (some 16) [] [
 mv 32 12,mv 33 13,op 34 (.bin .leq .int (tm 32) (tm 33)),mv 35 34,mg 36 4 35 true,mg 37 0 35 true,mg 38 12 35 true,⟨some 39,.iaddr 8 (tm 37) (tm 38),some (35,true)⟩,⟨some 40,.load (some 8) (tm 39),some (35,true)⟩,mg 41 0 35 true,mg 42 1 35 true,⟨some 43,.iaddr 8 (tm 41) (tm 42),some (35,true)⟩,⟨some 44,.load (some 8) (tm 43),some (35,true)⟩,⟨some 45,.callv .pure (tm 36) [(tm 40),(tm 44)],some (35,true)⟩,⟨some 46,.bin .lss .int (tm 45) (ci (0)),some (35,true)⟩,op 47 (.pick (tm 35) (tm 46) (.cst (.bool false)))] [0,1,4,12,13,47] none)
 (.cond (tm 47) (.skip)
 (.exit 0)))
 (.block 1 (rg [mv 48 12,op 49 (.bin .add .int (tm 48) (ci (1))),mv 12 49] [0,1,4,12,13]))

/-- loop 1 of function 130 -/
def l130_1_h : List Nat := [0,1,4,12,13]

def l130_1_b : ACode :=
 .seq (.seq (.region (some 17) [] [
 mv 50 12,mv 51 13,op 52 (.bin .leq .int (tm 50) (tm 51)),mv 53 52,mg 54 4 53 true,mg 55 0 53 true,mg 56 13 53 true,⟨some 57,.iaddr 8 (tm 55) (tm 56),some (53,true)⟩,⟨some 58,.load (some 8) (tm 57),some (53,true)⟩,mg 59 0 53 true,mg 60 1 53 true,⟨some 61,.iaddr 8 (tm 59) (tm 60),some (53,true)⟩,⟨some 62,.load (some 8) (tm 61),some (53,true)⟩,⟨some 63,.callv .pure (tm 54) [(tm 58),(tm 62)],some (53,true)⟩,⟨some 64,.bin .lss .int (tm 63) (ci (0)),some (53,true)⟩,⟨some 65,.un .not (tm 64),some (53,true)⟩,op 66 (.pick (tm 53) (tm 65) (.cst (.bool false)))] [0,1,4,12,13,66] none)
 (.cond (tm 66) (.skip)
 (.exit 2)))
 (.block 3 (rg [mv 67 13,op 68 (.bin .sub .int (tm 67) (ci (1))),mv 13 68] [0,1,4,12,13]))

/-- loop 2 of function 130 -/
def l130_2_h : List Nat := [0,1,4,12,13]

def l130_2_b : ACode :=
 .seq (.seq (.region (some 16) [] [
 mv 105 12,mv 106 13,op 107 (.bin .leq .int (tm 105) (tm 106)),mv 108 107,mg 109 4 108 true,mg 110 0 108 true,mg 111 12 108 true,⟨some 112,.iaddr 8 (tm 110) (tm 111),some (108,true)⟩,⟨some 113,.load (some 8) (tm 112),some (108,true)⟩,mg 114 0 108 true,mg 115 1 108 true,⟨some 116,.iaddr 8 (tm 114) (tm 115),some (108,true)⟩,⟨some 117,.load (some 8) (tm 116),some (108,true)⟩,⟨some 118,.callv .pure (tm 109) [(tm 113),(tm 117)],some (108,true)⟩,⟨some 119,.bin .lss .int (tm 118) (ci (0)),some (108,true)⟩,op 120 (.pick (tm 108) (tm 119) (.cst (.bool false)))] [0,1,4,12,13,120] none)
 (.cond (tm 120) (.skip)
 (.exit 6)))
 (.block 7 (rg [mv 121 12,op 122 (.bin .add .int (tm 121) (ci (1))),mv 12 122] [0,1,4,12,13]))

/-- loop 3 of function 130 -/
def l130_3_h : List Nat := [0,1,4,12,13]

def l130_3_b : ACode :=
 .seq (.seq (.region (some 17) [] [
 mv 123 12,mv 124 13,op 125 (.bin .leq .int (tm 123) (tm 124)),mv 126 125,mg 127 4 126 true,mg 128 0 126 true,mg 129 13 126 true,⟨some 130,.iaddr 8 (tm 128) (tm 129),some (126,true)⟩,⟨some 131,.load (some 8) (tm 130),some (126,true)⟩,mg 132 0 126 true,mg 133 1 126 true,⟨some 134,.iaddr 8 (tm 132) (tm 133),some (126,true)⟩,⟨some 135,.load (some 8) (tm 134),some (126,true)⟩,⟨some 136,.callv .pure (tm 127) [(tm 131),(tm 135)],some (126,true)⟩,⟨some 137,.bin .lss .int (tm 136) (ci (0)),some (126,true)⟩,⟨some 138,.un .not (tm 137),some (126,true)⟩,op 139 (.pick (tm 126) (tm 138) (.cst (.bool false)))] [0,1,4,12,13,139] none)
 (.cond (tm 139) (.skip)
 (.exit 8)))
 (.block 9 (rg [mv 140 13,op 141 (.bin .sub .int (tm 140) (ci (1))),mv 13 141] [0,1,4,12,13]))

/-- loop 4 of function 130 -/
def l130_4_h : List Nat := [0,1,4,12,13]

def l130_4_b : ACode :=
 .block 5 (.seq (.block 6 (.loop l130_2_h l130_2_b))
 (.seq (.block 8 (.loop l130_3_h l130_3_b))
 (.seq (.seq (rg [mv 142 12,mv 143 13,op 144 (.bin .gtr .int (tm 142) (tm 143))] [0,1,4,12,13,144])
 (.cond (tm 144) (.exit 4)
 (.skip)))
 (.seq (.par 16 [] [] [
 mv 145 0,mv 146 12,mv 147 0,mv 148 13,mv 149 0,mv 150 13,op 151 (.iaddr 8 (tm 149) (tm 150)),op 152 (.load (some 8) (tm 151)),mv 153 0,mv 154 12,op 155 (.iaddr 8 (tm 153) (tm 154)),op 156 (.load (some 8) (tm 155)),op 157 (.iaddr 8 (tm 145) (tm 146)),⟨none,.store 8 (tm 157) (tm 152),none⟩,op 158 (.iaddr 8 (tm 147) (tm 148)),⟨none,.store 8 (tm 158) (tm 156),none⟩] [0,1,4,12,13] none)
 (.seq (rg [mv 159 12,op 160 (.bin .add .int (tm 159) (ci (1))),mv 12 160] [0,1,4,12,13])
 (rg [mv 161 13,op 162 (.bin .sub .int (tm 161) (ci (1))),mv 13 162] [0,1,4,12,13]))))))

def c130 : ACode :=
 .seq (rg [op 10 (.mov (ci (0))),op 11 (.mov (.cst (.bool false)))] [0,1,2,3,4])
 (.seq (.par 16 [] [] [
 mv 14 0,mv 15 1,mv 16 0,mv 17 3,mv 18 0,mv 19 3,op 20 (.iaddr 8 (tm 18) (tm 19)),op 21 (.load (some 8) (tm 20)),mv 22 0,mv 23 1,op 24 (.iaddr 8 (tm 22) (tm 23)),op 25 (.load (some 8) (tm 24)),op 26 (.iaddr 8 (tm 14) (tm 15)),⟨none,.store 8 (tm 26) (tm 21),none⟩,op 27 (.iaddr 8 (tm 16) (tm 17)),⟨none,.store 8 (tm 27) (tm 25),none⟩] [0,1,2,4] none)
 (.seq (rg [mv 28 1,op 29 (.bin .add .int (tm 28) (ci (1))),mv 30 2,op 31 (.bin .sub .int (tm 30) (ci (1))),mv 12 29,mv 13 31] [0,1,4,12,13])
 (.seq (.block 0 (.loop l130_0_h l130_0_b))
 (.seq (.block 2 (.loop l130_1_h l130_1_b))
 (.seq (.seq (rg [mv 69 12,mv 70 13,op 71 (.bin .gtr .int (tm 69) (tm 70))] [0,1,4,12,13,71])
 (.cond (tm 71) (.seq (.par 16 [] [] [
 mv 72 0,mv 73 13,mv 74 0,mv 75 1,mv 76 0,mv 77 1,op 78 (.iaddr 8 (tm 76) (tm 77)),op 79 (.load (some 8) (tm 78)),mv 80 0,mv 81 13,op 82 (.iaddr 8 (tm 80) (tm 81)),op 83 (.load (some 8) (tm 82)),op 84 (.iaddr 8 (tm 72) (tm 73)),⟨none,.store 8 (tm 84) (tm 79),none⟩,op 85 (.iaddr 8 (tm 74) (tm 75)),⟨none,.store 8 (tm 85) (tm 83),none⟩] [13] none)
 (.seq (rg [mv 86 13,mv 10 86,op 11 (.mov (.cst (.bool true)))] [10,11])
 (.ret)))
 (.skip)))
 (.seq (.par 16 [] [] [
 mv 87 0,mv 88 12,mv 89 0,mv 90 13,mv 91 0,mv 92 13,op 93 (.iaddr 8 (tm 91) (tm 92)),op 94 (.load (some 8) (tm 93)),mv 95 0,mv 96 12,op 97 (.iaddr 8 (tm 95) (tm 96)),op 98 (.load (some 8) (tm 97)),op 99 (.iaddr 8 (tm 87) (tm 88)),⟨none,.store 8 (tm 99) (tm 94),none⟩,op 100 (.iaddr 8 (tm 89) (tm 90)),⟨none,.store 8 (tm 100) (tm 98),none⟩] [0,1,4,12,13] none)
 (.seq (rg [mv 101 12,op 102 (.bin .add .int (tm 101) (ci (1))),mv 12 102] [0,1,4,12,13])
 (.seq (rg [mv 103 13,op 104 (.bin .sub .int (tm 103) (ci (1))),mv 13 104] [0,1,4,12,13])
 (.seq (.block 4 (.loop l130_4_h l130_4_b))
 (.seq (.par 16 [] [] [
 mv 163 0,mv 164 13,mv 165 0,mv 166 1,mv 167 0,mv 168 1,op 169 (.iaddr 8 (tm 167) (tm 168)),op 170 (.load (some 8) (tm 169)),mv 171 0,mv 172 13,op 173 (.iaddr 8 (tm 171) (tm 172)),op 174 (.load (some 8) (tm 173)),op 175 (.iaddr 8 (tm 163) (tm 164)),⟨none,.store 8 (tm 175) (tm 170),none⟩,op 176 (.iaddr 8 (tm 165) (tm 166)),⟨none,.store 8 (tm 176) (tm 174),none⟩] [13] none)
 (.seq (rg [mv 177 13,mv 10 177,op 11 (.mov (.cst (.bool false)))] [10,11])
 (.ret))))))))))))

def a130 : AFunc := ⟨5,c130,[.tmp 10,.tmp 11]⟩

def an130 : List RAnn := [
 ra 0 [0,1,2,3,4],
 { id := 1,head := some 16,live := [0,1,2,4],par := true },
 ra 2 [0,1,4,12,13],
 { id := 3,head := some 16,live := [0,1,4,12,13,47],hdr := [0,1,4,12,13] },
 ra 4 [0,1,4,12,13],
 { id := 5,head := some 17,live := [0,1,4,12,13,66],hdr := [0,1,4,12,13] },
 ra 6 [0,1,4,12,13],ra 7 [0,1,4,12,13,71],
 { id := 8,head := some 16,live := [13],par := true },
 ra 9 [10,11],
 { id := 10,head := some 16,live := [0,1,4,12,13],par := true },
 ra 11 [0,1,4,12,13],ra 12 [0,1,4,12,13],
 { id := 13,head := some 16,live := [0,1,4,12,13,120],hdr := [0,1,4,12,13] },
 ra 14 [0,1,4,12,13],
 { id := 15,head := some 17,live := [0,1,4,12,13,139],hdr := [0,1,4,12,13] },
 ra 16 [0,1,4,12,13],ra 17 [0,1,4,12,13,144],
 { id := 18,head := some 16,live := [0,1,4,12,13],par := true },
 ra 19 [0,1,4,12,13],ra 20 [0,1,4,12,13],
 { id := 21,head := some 16,live := [13],par := true },
 ra 22 [10,11]]

theorem comp130 : compF Tryz.prog an130 Tryz.f130 = some a130 := by kernel_rfl

/- math/bits.Len64 -/
def c132 : ACode :=
 .seq (rg [op 2 (.mov (ci (0)))] [0,2])
 (.seq (.seq (rg [mv 3 0,op 4 (.bin .geq .int (tm 3) (.cst (.int .u64 4294967296)))] [0,2,4])
 (.cond (tm 4) (.seq (rg [mv 5 0,op 6 (.bin .shr .int (tm 5) (.cst (.int .u64 32))),mv 0 6] [0])
 (rg [op 2 (.mov (ci (32)))] [0,2]))
 (.skip)))
 (.seq (.seq (rg [mv 7 0,op 8 (.bin .geq .int (tm 7) (.cst (.int .u64 65536)))] [0,2,8])
 (.cond (tm 8) (.seq (rg [mv 9 0,op 10 (.bin .shr .int (tm 9) (.cst (.int .u64 16))),mv 0 10] [0,2])
 (rg [mv 11 2,op 12 (.bin .add .int (tm 11) (ci (16))),mv 2 12] [0,2]))
 (.skip)))
 (.seq (.seq (rg [mv 13 0,op 14 (.bin .geq .int (tm 13) (.cst (.int .u64 256)))] [0,2,14])
 (.cond (tm 14) (.seq (rg [mv 15 0,op 16 (.bin .shr .int (tm 15) (.cst (.int .u64 8))),mv 0 16] [0,2])
 (rg [mv 17 2,op 18 (.bin .add .int (tm 17) (ci (8))),mv 2 18] [0,2]))
 (.skip)))
 (.seq (rg [mv 19 2,mv 20 0,op 21 (.conv .u8 (tm 20)),op 22 (.sidx (.cst (.str [0,1,2,2,3,3,3,3,4,4,4,4,4,4,4,4,5,5,5,5,5,5,5,5,5,5,5,5,5,5,5,5,6,6,6,6,6,6,6,6,6,6,6,6,6,6,6,6,6,6,6,6,6,6,6,6,6,6,6,6,6,6,6,6,7,7,7,7,7,7,7,7,7,7,7,7,7,7,7,7,7,7,7,7,7,7,7,7,7,7,7,7,7,7,7,7,7,7,7,7,7,7,7,7,7,7,7,7,7,7,7,7,7,7,7,7,7,7,7,7,7,7,7,7,7,7,7,7,8,8,8,8,8,8,8,8,8,8,8,8,8,8,8,8,8,8,8,8,8,8,8,8,8,8,8,8,8,8,8,8,8,8,8,8,8,8,8,8,8,8,8,8,8,8,8,8,8,8,8,8,8,8,8,8,8,8,8,8,8,8,8,8,8,8,8,8,8,8,8,8,8,8,8,8,8,8,8,8,8,8,8,8,8,8,8,8,8,8,8,8,8,8,8,8,8,8,8,8,8,8,8,8,8,8,8,8,8,8,8,8,8,8,8,8,8,8,8,8,8,8,8,8,8,8,8,8])) (tm 21)),op 23 (.conv .i64 (tm 22)),op 24 (.bin .add .int (tm 19) (tm 23)),mv 2 24] [2])
 (.ret)))))

def a132 : AFunc := ⟨1,c132,[.tmp 2]⟩

def an132 : List RAnn := [
 ra 0 [0,2],ra 1 [0,2,4],ra 2 [0],ra 3 [0,2],ra 4 [0,2,8],ra 5 [0,2],ra 6 [0,2],ra 7 [0,2,14],ra 8 [0,2],ra 9 [0,2],ra 10 [2]]

theorem comp132 : compF Tryz.prog an132 Tryz.f132 = some a132 := by kernel_rfl

/- slices.pdqsortOrdered[int] -/
/-- loop 0 of function 133 -/
def l133_0_h : List Nat := [0,1,2,3,8,9]

def l133_0_b : ACode :=
 .block 1 (.seq (rg [mv 19 2,mv 20 1,op 21 (.bin .sub .int (tm 19) (tm 20)),mv 10 21] [0,1,2,3,8,9,10])
 (.seq (.seq (rg [mv 22 10,op 23 (.bin .leq .int (tm 22) (ci (12)))] [0,1,2,3,8,9,10,23])
 (.cond (tm 23) (.seq (rg [mv 24 0,mv 25 1,mv 26 2,op 27 (.call .share 187 [(tm 24),(tm 25),(tm 26)])] [])
 (.ret))
 (.skip)))
 (.seq (.seq (rg [mv 28 3,op 29 (.bin .eql .int (tm 28) (ci (0)))] [0,1,2,3,8,9,10,29])
 (.cond (tm 29) (.seq (rg [mv 30 0,mv 31 1,mv 32 2,op 33 (.call .share 188 [(tm 30),(tm 31),(tm 32)])] [])
 (.ret))
 (.skip)))
 (.seq (.seq (rg [mv 34 8,op 35 (.un .not (tm 34))] [0,1,2,3,8,9,10,35])
 (.cond (tm 35) (.seq (rg [mv 36 0,mv 37 1,mv 38 2,op 39 (.call .share 189 [(tm 36),(tm 37),(tm 38)])] [0,1,2,3,8,9,10])
 (rg [mv 40 3,op 41 (.bin .sub .int (tm 40) (ci (1))),mv 3 41] [0,1,2,3,8,9,10]))
 (.skip)))
 (.seq (rg [mv 43 0,mv 44 1,mv 45 2,op 46 (.call .share 190 [(tm 43),(tm 44),(tm 45)]),mv 42 46,op 47 (.ext (tm 42) 0),op 48 (.ext (tm 42) 1),mv 11 47,mv 12 48] [0,1,2,3,8,9,10,11,12])
 (.seq (.seq (rg [mv 49 12,op 50 (.bin .eql .int (tm 49) (ci (2)))] [0,1,2,3,8,9,10,11,12,50])
 (.cond (tm 50) (.seq (rg [mv 51 0,mv 52 1,mv 53 2,op 54 (.call .share 191 [(tm 51),(tm 52),(tm 53)])] [0,1,2,3,8,9,10,11])
 (.seq (rg [mv 55 2,op 56 (.bin .sub .int (tm 55) (ci (1))),mv 57 11,mv 58 1,op 59 (.bin .sub .int (tm 57) (tm 58)),op 60 (.bin .sub .int (tm 56) (tm 59)),mv 11 60] [0,1,2,3,8,9,10,11])
 (rg [op 12 (.mov (ci (1)))] [0,1,2,3,8,9,10,11,12])))
 (.skip)))
 (.seq (.seq (rg [mv 61 8,mv 62 61,mg 63 9 62 true,op 64 (.pick (tm 62) (tm 63) (.cst (.bool false))),mv 65 64,mg 66 12 65 true,⟨some 67,.bin .eql .int (tm 66) (ci (1)),some (65,true)⟩,op 68 (.pick (tm 65) (tm 67) (.cst (.bool false)))] [0,1,2,3,8,9,10,11,68])
 (.cond (tm 68) (.seq (rg [mv 69 0,mv 70 1,mv 71 2,op 72 (.call .share 192 [(tm 69),(tm 70),(tm 71)])] [0,1,2,3,8,9,10,11,72])
 (.cond (tm 72) (.ret)
 (.skip)))
 (.skip)))
 (.seq (.seq (.region (some 15) [] [
 mv 73 1,op 74 (.bin .gtr .int (tm 73) (ci (0))),mv 75 74,mg 76 0 75 true,mg 77 1 75 true,⟨some 78,.bin .sub .int (tm 77) (ci (1)),some (75,true)⟩,⟨some 79,.iaddr 1 (tm 76) (tm 78),some (75,true)⟩,⟨some 80,.load none (tm 79),some (75,true)⟩,mg 81 0 75 true,mg 82 11 75 true,⟨some 83,.iaddr 1 (tm 81) (tm 82),some (75,true)⟩,⟨some 84,.load none (tm 83),some (75,true)⟩,⟨some 85,.call .pure 193 [(tm 80),(tm 84)],some (75,true)⟩,⟨some 86,.un .not (tm 85),some (75,true)⟩,op 87 (.pick (tm 75) (tm 86) (.cst (.bool false)))] [0,1,2,3,8,9,10,11,87] none)
 (.cond (tm 87) (.seq (rg [mv 88 0,mv 89 1,mv 90 2,mv 91 11,op 92 (.call .share 194 [(tm 88),(tm 89),(tm 90),(tm 91)]),mv 13 92] [0,2,3,8,9,13])
 (.seq (rg [mv 93 13,mv 1 93] [0,1,2,3,8,9])
 (.exit 1)))
 (.skip)))
 (.seq (rg [mv 95 0,mv 96 1,mv 97 2,mv 98 11,op 99 (.call .share 195 [(tm 95),(tm 96),(tm 97),(tm 98)]),mv 94 99,op 100 (.ext (tm 94) 0),op 101 (.ext (tm 94) 1),mv 14 100,mv 15 101] [0,1,2,3,10,14,15])
 (.seq (rg [mv 102 15,mv 9 102] [0,1,2,3,9,10,14])
 (.seq (rg [mv 103 14,mv 104 1,op 105 (.bin .sub .int (tm 103) (tm 104)),mv 106 2,mv 107 14,op 108 (.bin .sub .int (tm 106) (tm 107)),mv 16 105,mv 17 108] [0,1,2,3,9,10,14,16,17])
 (.seq (rg [mv 109 10,op 110 (.bin .quo .int (tm 109) (ci (8))),mv 18 110] [0,1,2,3,9,14,16,17,18])
 (.seq (rg [mv 111 16,mv 112 17,op 113 (.bin .lss .int (tm 111) (tm 112))] [0,1,2,3,9,14,16,17,18,113])
 (.cond (tm 113) (.seq (rg [mv 114 16,mv 115 18,op 116 (.bin .geq .int (tm 114) (tm 115)),mv 8 116] [0,1,2,3,8,9,14])
 (.seq (rg [mv 117 0,mv 118 1,mv 119 14,mv 120 3,op 121 (.call .share 133 [(tm 117),(tm 118),(tm 119),(tm 120)])] [0,2,3,8,9,14])
 (rg [mv 122 14,op 123 (.bin .add .int (tm 122) (ci (1))),mv 1 123] [0,1,2,3,8,9])))
 (.seq (rg [mv 124 17,mv 125 18,op 126 (.bin .geq .int (tm 124) (tm 125)),mv 8 126] [0,1,2,3,8,9,14])
 (.seq (rg [mv 127 0,mv 128 14,op 129 (.bin .add .int (tm 128) (ci (1))),mv 130 2,mv 131 3,op 132 (.call .share 133 [(tm 127),(tm 129),(tm 130),(tm 131)])] [0,1,3,8,9,14])
 (rg [mv 133 14,mv 2 133] [0,1,2,3,8,9])))))))))))))))))

def c133 : ACode :=
 .seq (rg [op 8 (.mov (.cst (.bool true)))] [0,1,2,3,8])
 (.seq (rg [op 9 (.mov (.cst (.bool true)))] [0,1,2,3,8,9])
 (.block 0 (.loop l133_0_h l133_0_b)))

def a133 : AFunc := ⟨4,c133,[]⟩

def an133 : List RAnn := [
 ra 0 [0,1,2,3,8],ra 1 [0,1,2,3,8,9],rh 2 [0,1,2,3,8,9,10] [0,1,2,3,8,9],ra 3 [0,1,2,3,8,9,10,23],
 { id := 4,ops := [(3,.mode .share)] },
 ra 5 [0,1,2,3,8,9,10,29],
 { id := 6,ops := [(3,.mode .share)] },
 ra 7 [0,1,2,3,8,9,10,35],
 { id := 8,live := [0,1,2,3,8,9,10],ops := [(3,.mode .share)] },
 ra 9 [0,1,2,3,8,9,10],
 { id := 10,live := [0,1,2,3,8,9,10,11,12],ops := [(3,.mode .share)] },
 ra 11 [0,1,2,3,8,9,10,11,12,50],
 { id := 12,live := [0,1,2,3,8,9,10,11],ops := [(3,.mode .share)] },
 ra 13 [0,1,2,3,8,9,10,11],ra 14 [0,1,2,3,8,9,10,11,12],ra 15 [0,1,2,3,8,9,10,11,68],
 { id := 16,live := [0,1,2,3,8,9,10,11,72],ops := [(3,.mode .share)] },
 { id := 17,head := some 15,live := [0,1,2,3,8,9,10,11,87] },
 { id := 18,live := [0,2,3,8,9,13],ops := [(4,.mode .share)] },
 ra 19 [0,1,2,3,8,9],
 { id := 20,live := [0,1,2,3,10,14,15],ops := [(4,.mode .share)] },
 ra 21 [0,1,2,3,9,10,14],ra 22 [0,1,2,3,9,10,14,16,17],ra 23 [0,1,2,3,9,14,16,17,18],ra 24 [0,1,2,3,9,14,16,17,18,113],ra 25 [0,1,2,3,8,9,14],
 { id := 26,live := [0,2,3,8,9,14],ops := [(4,.mode .share)] },
 ra 27 [0,1,2,3,8,9],ra 28 [0,1,2,3,8,9,14],
 { id := 29,live := [0,1,3,8,9,14],ops := [(5,.mode .share)] },
 ra 30 [0,1,2,3,8,9]]

theorem comp133 : compF Tryz.prog an133 Tryz.f133 = some a133 := by kernel_rfl

/- graphdb/graphdbref04.valid -/
def c134 : ACode :=
 .seq (rg [op 2 (.box 5 (tm 0)),op 4 (.mov (.cst (.bool false)))] [1,2])
 (.seq (.seq (rg [op 5 (.faddr 0 (tm 2)),op 6 (.load none (tm 5))] [1,2,6])
 (.block 0 (.seq (rg [op 8 (.bin .eql .int (tm 6) (ci (0))),mv 7 8] [1,2,6,7])
 (.cond (tm 7) (.seq (rg [op 9 (.load (some 5) (tm 2)),op 10 (.call .pure 196 [(tm 9),(.cst (.bool false)),(.cst (.bool false)),(.cst (.bool false)),(.cst (.bool false))]),mv 4 10] [4])
 (.ret))
 (.seq (rg [op 12 (.bin .eql .int (tm 6) (ci (1))),mv 11 12] [1,2,6,11])
 (.cond (tm 11) (.seq (rg [op 13 (.load (some 5) (tm 2)),op 14 (.call .pure 196 [(tm 13),(.cst (.bool true)),(.cst (.bool false)),(.cst (.bool false)),(.cst (.bool false))]),mv 15 14,⟨some 16,.faddr 1 (tm 2),some (15,true)⟩,⟨some 17,.load none (tm 16),some (15,true)⟩,⟨some 18,.bin .eql .int (tm 17) (ci (0)),some (15,true)⟩,mg 19 18 15 true,⟨some 20,.faddr 1 (tm 2),some (19,false)⟩,⟨some 21,.load none (tm 20),some (19,false)⟩,⟨some 22,.bin .eql .int (tm 21) (ci (1)),some (19,false)⟩,⟨some 23,.pick (tm 19) (.cst (.bool true)) (tm 22),some (15,true)⟩,op 24 (.pick (tm 15) (tm 23) (.cst (.bool false))),mv 4 24] [4])
 (.ret))
 (.seq (rg [op 26 (.bin .eql .int (tm 6) (ci (2))),mv 25 26] [1,2,6,25])
 (.cond (tm 25) (.seq (rg [op 27 (.load (some 5) (tm 2)),op 28 (.call .pure 196 [(tm 27),(.cst (.bool true)),(.cst (.bool false)),(.cst (.bool false)),(.cst (.bool false))]),mv 29 28,⟨some 30,.faddr 1 (tm 2),some (29,true)⟩,⟨some 31,.load none (tm 30),some (29,true)⟩,⟨some 32,.call .pure 197 [(tm 31)],some (29,true)⟩,op 33 (.pick (tm 29) (tm 32) (.cst (.bool false))),mv 4 33] [4])
 (.ret))
 (.seq (rg [op 35 (.bin .eql .int (tm 6) (ci (3))),mv 34 35] [1,2,6,34])
 (.cond (tm 34) (.seq (rg [op 36 (.load (some 5) (tm 2)),op 37 (.call .pure 196 [(tm 36),(.cst (.bool true)),(.cst (.bool true)),(.cst (.bool false)),(.cst (.bool false))]),mv 38 37,⟨some 39,.faddr 2 (tm 2),some (38,true)⟩,⟨some 40,.load none (tm 39),some (38,true)⟩,⟨some 41,.bin .geq .int (tm 40) (ci (2)),some (38,true)⟩,op 42 (.pick (tm 38) (tm 41) (.cst (.bool false))),mv 43 42,⟨some 44,.faddr 1 (tm 2),some (43,true)⟩,⟨some 45,.load none (tm 44),some (43,true)⟩,⟨some 46,.faddr 2 (tm 2),some (43,true)⟩,⟨some 47,.load none (tm 46),some (43,true)⟩,⟨some 48,.build [.int .i64 0,.int .i64 0] [(0,1,(tm 45)),(1,1,(tm 47))],some (43,true)⟩,⟨some 49,.call .pure 135 [(tm 48)],some (43,true)⟩,op 50 (.pick (tm 43) (tm 49) (.cst (.bool false))),mv 4 50] [4])
 (.ret))
 (.seq (rg [op 52 (.bin .eql .int (tm 6) (ci (4))),mv 51 52] [1,2,6,51])
 (.cond (tm 51) (.seq (rg [op 53 (.load (some 5) (tm 2)),op 54 (.call .pure 196 [(tm 53),(.cst (.bool false)),(.cst (.bool false)),(.cst (.bool true)),(.cst (.bool false))]),mv 55 54,⟨some 56,.faddr 3 (tm 2),some (55,true)⟩,⟨some 57,.load none (tm 56),some (55,true)⟩,⟨some 58,.call .pure 198 [(tm 57)],some (55,true)⟩,op 59 (.pick (tm 55) (tm 58) (.cst (.bool false))),mv 4 59] [4])
 (.ret))
 (.seq (.seq (rg [op 61 (.bin .eql .int (tm 6) (ci (5))),mv 60 61] [1,2,6,60])
 (.cond (tm 60) (.skip)
 (rg [op 62 (.bin .eql .int (tm 6) (ci (6))),mv 60 62] [1,2,6,60])))
 (.cond (tm 60) (.seq (rg [op 63 (.load (some 5) (tm 2)),op 64 (.call .pure 196 [(tm 63),(.cst (.bool true)),(.cst (.bool false)),(.cst (.bool false)),(.cst (.bool false))]),mv 65 64,⟨some 66,.faddr 1 (tm 2),some (65,true)⟩,⟨some 67,.load none (tm 66),some (65,true)⟩,⟨some 68,.bin .geq .int (tm 67) (ci (1)),some (65,true)⟩,op 69 (.pick (tm 65) (tm 68) (.cst (.bool false))),mv 70 69,⟨some 71,.faddr 1 (tm 2),some (70,true)⟩,⟨some 72,.load none (tm 71),some (70,true)⟩,⟨some 73,.bin .leq .int (tm 72) (ci (1000000)),some (70,true)⟩,op 74 (.pick (tm 70) (tm 73) (.cst (.bool false))),mv 4 74] [4])
 (.ret))
 (.seq (rg [op 76 (.bin .eql .int (tm 6) (ci (7))),mv 75 76] [1,2,6,75])
 (.cond (tm 75) (.seq (rg [op 77 (.load (some 5) (tm 2)),op 78 (.call .pure 196 [(tm 77),(.cst (.bool false)),(.cst (.bool false)),(.cst (.bool false)),(.cst (.bool true))]),mv 79 78,⟨some 80,.faddr 4 (tm 2),some (79,true)⟩,⟨some 81,.load none (tm 80),some (79,true)⟩,⟨some 82,.call .pure 199 [(tm 81)],some (79,true)⟩,op 83 (.pick (tm 79) (tm 82) (.cst (.bool false))),mv 4 83] [4])
 (.ret))
 (.seq (rg [op 85 (.bin .eql .int (tm 6) (ci (8))),mv 84 85] [1,2,84])
 (.cond (tm 84) (.seq (rg [op 86 (.load (some 5) (tm 2)),op 87 (.call .pure 196 [(tm 86),(.cst (.bool false)),(.cst (.bool false)),(.cst (.bool false)),(.cst (.bool true))]),mv 88 87,⟨some 89,.faddr 4 (tm 2),some (88,true)⟩,⟨some 90,.load none (tm 89),some (88,true)⟩,mg 91 1 88 true,⟨some 92,.call .pure 200 [(tm 90),(tm 91)],some (88,true)⟩,op 93 (.pick (tm 88) (tm 92) (.cst (.bool false))),mv 4 93] [4])
 (.ret))
 (.skip)))))))))))))))))))
 (.seq (rg [op 4 (.mov (.cst (.bool false)))] [4])
 (.ret)))

def a134 : AFunc := ⟨2,c134,[.tmp 4]⟩

def an134 : List RAnn := [
 ra 0 [1,2],ra 1 [1,2,6],ra 2 [1,2,6,7],ra 3 [4],ra 4 [1,2,6,11],ra 5 [4],ra 6 [1,2,6,25],ra 7 [4],ra 8 [1,2,6,34],ra 9 [4],ra 10 [1,2,6,51],ra 11 [4],ra 12 [1,2,6,60],ra 13 [1,2,6,60],ra 14 [4],ra 15 [1,2,6,75],ra 16 [4],ra 17 [1,2,84],ra 18 [4],ra 19 [4]]

theorem comp134 : compF Tryz.prog an134 Tryz.f134 = some a134 := by kernel_rfl

/- graphdb/graphdbref03.Valid -/
def c135 : ACode :=
 .seq (rg [op 1 (.box 2 (tm 0)),op 2 (.mov (.cst (.bool false)))] [1])
 (.seq (.region (some 28) [] [
 op 3 (.faddr 1 (tm 1)),op 4 (.load none (tm 3)),op 5 (.bin .geq .int (tm 4) (ci (1))),mv 6 5,⟨some 7,.faddr 1 (tm 1),some (6,true)⟩,⟨some 8,.load none (tm 7),some (6,true)⟩,⟨some 9,.bin .leq .int (tm 8) (ci (1000000000000000)),some (6,true)⟩,op 10 (.pick (tm 6) (tm 9) (.cst (.bool false))),mv 11 10,⟨some 12,.faddr 0 (tm 1),some (11,true)⟩,⟨some 13,.load none (tm 12),some (11,true)⟩,⟨some 14,.bin .geq .int (tm 13) (ci ((-1000000000000000))),some (11,true)⟩,op 15 (.pick (tm 11) (tm 14) (.cst (.bool false))),mv 16 15,⟨some 17,.faddr 0 (tm 1),some (16,true)⟩,⟨some 18,.load none (tm 17),some (16,true)⟩,⟨some 19,.bin .leq .int (tm 18) (ci (1000000000000000)),some (16,true)⟩,op 20 (.pick (tm 16) (tm 19) (.cst (.bool false))),mv 21 20,⟨some 22,.faddr 0 (tm 1),some (21,true)⟩,⟨some 23,.load none (tm 22),some (21,true)⟩,⟨some 24,.call .pure 139 [(tm 23)],some (21,true)⟩,⟨some 25,.faddr 1 (tm 1),some (21,true)⟩,⟨some 26,.load none (tm 25),some (21,true)⟩,⟨some 27,.call .pure 201 [(tm 24),(tm 26)],some (21,true)⟩,⟨some 28,.bin .eql .int (tm 27) (ci (1)),some (21,true)⟩,op 29 (.pick (tm 21) (tm 28) (.cst (.bool false))),mv 2 29] [2] none)
 (.ret))

def a135 : AFunc := ⟨1,c135,[.tmp 2]⟩

def an135 : List RAnn := [
 ra 0 [1],
 { id := 1,head := some 28,live := [2] }]

theorem comp135 : compF Tryz.prog an135 Tryz.f135 = some a135 := by kernel_rfl

/- graphdb/graphdbref03.sum -/
def c136 : ACode :=
 .seq (rg [op 8 (.mov (ci (0))),op 9 (.mov (.cst (.sl false [])))] [0,1,2,3])
 (.seq (.seq (rg [mv 11 0,mv 12 2,op 13 (.bin .eql .int (tm 11) (tm 12)),mv 14 13,mg 15 2 14 false,⟨some 16,.bin .eql .int (tm 15) (ci (0)),some (14,false)⟩,op 17 (.pick (tm 14) (.cst (.bool true)) (tm 16))] [0,1,2,3,17])
 (.cond (tm 17) (.seq (rg [mv 18 0,mv 19 1,mv 20 3,op 21 (.call .pure 202 [(tm 19),(tm 20)]),mv 8 18,mv 9 21] [8,9])
 (.ret))
 (.skip)))
 (.seq (.seq (rg [mv 22 0,op 23 (.bin .eql .int (tm 22) (ci (0)))] [0,1,2,3,23])
 (.cond (tm 23) (.seq (rg [mv 24 2,mv 25 3,mv 8 24,mv 9 25] [8,9])
 (.ret))
 (.skip)))
 (.seq (rg [mv 26 1,mv 27 3,op 28 (.call .pure 203 [(tm 26),(tm 27)]),mv 10 28] [0,1,2,3,10])
 (.seq (.seq (rg [mv 29 10,op 30 (.bin .eql .int (tm 29) (ci (0)))] [0,1,2,3,10,30])
 (.cond (tm 30) (.seq (.par 2 [(0,1)] [] [
 op 31 (.mkslice 1 8 (.int .i64 0) (ci (14)) (ci (14))),op 32 (.mkslice 1 8 (.int .i64 0) (ci (14)) (ci (14))),op 33 (.call .share 202 [(tm 31),(tm 32)]),op 8 (.mov (ci (0))),mv 9 33] [8,9] none)
 (.ret))
 (.skip)))
 (.seq (.seq (rg [mv 34 10,op 35 (.bin .gtr .int (tm 34) (ci (0)))] [0,1,2,3,35])
 (.cond (tm 35) (.seq (rg [mv 36 0,mv 37 1,mv 38 3,op 39 (.call .pure 204 [(tm 37),(tm 38)]),mv 8 36,mv 9 39] [8,9])
 (.ret))
 (.skip)))
 (.seq (rg [mv 40 2,mv 41 3,mv 42 1,op 43 (.call .pure 204 [(tm 41),(tm 42)]),mv 8 40,mv 9 43] [8,9])
 (.ret)))))))

def a136 : AFunc := ⟨4,c136,[.tmp 8,.tmp 9]⟩

def an136 : List RAnn := [
 ra 0 [0,1,2,3],ra 1 [0,1,2,3,17],ra 2 [8,9],ra 3 [0,1,2,3,23],ra 4 [8,9],ra 5 [0,1,2,3,10],ra 6 [0,1,2,3,10,30],
 { id := 7,head := some 2,live := [8,9],ops := [(2,.mode .share)],par := true },
 ra 8 [0,1,2,3,35],ra 9 [8,9],ra 10 [8,9]]

theorem comp136 : compF Tryz.prog an136 Tryz.f136 = some a136 := by kernel_rfl

/- graphdb/graphdbref03.sign -/
def c137 : ACode :=
 .seq (rg [op 2 (.mov (ci (0)))] [0])
 (.seq (.seq (rg [mv 3 0,op 4 (.bin .lss .int (tm 3) (ci (0)))] [0,4])
 (.cond (tm 4) (.seq (rg [op 2 (.mov (ci ((-1))))] [2])
 (.ret))
 (.skip)))
 (.seq (.seq (rg [mv 5 0,op 6 (.bin .gtr .int (tm 5) (ci (0)))] [6])
 (.cond (tm 6) (.seq (rg [op 2 (.mov (ci (1)))] [2])
 (.ret))
 (.skip)))
 (.seq (rg [op 2 (.mov (ci (0)))] [2])
 (.ret))))

def a137 : AFunc := ⟨1,c137,[.tmp 2]⟩

def an137 : List RAnn := [
 ra 0 [0],ra 1 [0,4],ra 2 [2],ra 3 [6],ra 4 [2],ra 5 [2]]

theorem comp137 : compF Tryz.prog an137 Tryz.f137 = some a137 := by kernel_rfl

/- graphdb/graphdbref03.times -/
/-- loop 0 of function 138 -/
def l138_0_h : List Nat := [0,1,5,6,7,8,9,10]

def l138_0_b : ACode :=
 .seq (.seq (rg [mv 22 8,op 23 (.bin .gtr .int (tm 22) (ci (0))),mv 24 23,mg 25 9 24 false,⟨some 26,.bin .gtr .int (tm 25) (ci (0)),some (24,false)⟩,op 27 (.pick (tm 24) (.cst (.bool true)) (tm 26))] [0,1,5,6,7,8,9,10,27])
 (.cond (tm 27) (.skip)
 (.exit 2)))
 (.seq (.block 3 (.seq (rg [mv 30 9,mv 31 5,mv 32 10,op 33 (.iaddr 1 (tm 31) (tm 32)),op 34 (.load none (tm 33)),op 35 (.bin .add .int (tm 30) (tm 34)),mv 36 7,mv 37 8,op 38 (.bin .rem .int (tm 37) (ci (1000))),op 39 (.bin .mul .int (tm 36) (tm 38)),op 40 (.bin .add .int (tm 35) (tm 39)),mv 9 40] [0,1,5,6,7,8,9,10])
 (.seq (rg [mv 41 8,op 42 (.bin .quo .int (tm 41) (ci (1000))),mv 8 42] [0,1,5,6,7,8,9,10])
 (.seq (rg [mv 43 5,mv 44 10,mv 45 9,op 46 (.bin .rem .int (tm 45) (ci (1000))),op 47 (.iaddr 1 (tm 43) (tm 44)),⟨none,.store 1 (tm 47) (tm 46),none⟩] [0,1,5,6,7,8,9,10])
 (rg [mv 48 9,op 49 (.bin .quo .int (tm 48) (ci (1000))),mv 9 49] [0,1,5,6,7,8,9,10])))))
 (rg [mv 28 10,op 29 (.bin .add .int (tm 28) (ci (1))),mv 10 29] [0,1,5,6,7,8,9,10]))

/-- loop 1 of function 138 -/
def l138_1_h : List Nat := [0,1,5,6]

def l138_1_b : ACode :=
 .seq (.seq (rg [mv 12 0,op 13 (.bin .gtr .int (tm 12) (ci (0)))] [0,1,5,6,13])
 (.cond (tm 13) (.skip)
 (.exit 0)))
 (.seq (.block 1 (.seq (rg [mv 16 0,op 17 (.bin .rem .int (tm 16) (ci (1000))),mv 7 17] [0,1,5,6,7])
 (.seq (rg [mv 18 0,op 19 (.bin .quo .int (tm 18) (ci (1000))),mv 0 19] [0,1,5,6,7])
 (.seq (rg [mv 20 1,mv 8 20] [0,1,5,6,7,8])
 (.seq (rg [op 9 (.mov (ci (0)))] [0,1,5,6,7,8,9])
 (.seq (rg [mv 21 6,mv 10 21] [0,1,5,6,7,8,9,10])
 (.block 2 (.loop l138_0_h l138_0_b))))))))
 (rg [mv 14 6,op 15 (.bin .add .int (tm 14) (ci (1))),mv 6 15] [0,1,5,6]))

def c138 : ACode :=
 .seq (rg [op 4 (.mov (.cst (.sl false [])))] [0,1])
 (.seq (rg [op 11 (.mkslice 1 8 (.int .i64 0) (ci (14)) (ci (14))),mv 5 11] [0,1,5])
 (.seq (.seq (rg [op 6 (.mov (ci (0)))] [0,1,5,6])
 (.block 0 (.loop l138_1_h l138_1_b)))
 (.seq (rg [mv 50 5,mv 4 50] [4])
 (.ret))))

def a138 : AFunc := ⟨2,c138,[.tmp 4]⟩

def an138 : List RAnn := [
 ra 0 [0,1],ra 1 [0,1,5],ra 2 [0,1,5,6],rh 3 [0,1,5,6,13] [0,1,5,6],ra 5 [0,1,5,6,7],ra 6 [0,1,5,6,7],ra 7 [0,1,5,6,7,8],ra 8 [0,1,5,6,7,8,9],ra 9 [0,1,5,6,7,8,9,10],rh 10 [0,1,5,6,7,8,9,10,27] [0,1,5,6,7,8,9,10],ra 12 [0,1,5,6,7,8,9,10],ra 13 [0,1,5,6,7,8,9,10],ra 14 [0,1,5,6,7,8,9,10],ra 15 [0,1,5,6,7,8,9,10],ra 11 [0,1,5,6,7,8,9,10],ra 4 [0,1,5,6],ra 16 [4]]

theorem comp138 : compF Tryz.prog an138 Tryz.f138 = some a138 := by kernel_rfl

/- graphdb/graphdbref03.size -/
def c139 : ACode :=
 .seq (rg [op 2 (.mov (ci (0)))] [0])
 (.seq (.seq (rg [mv 3 0,op 4 (.bin .lss .int (tm 3) (ci (0)))] [0,4])
 (.cond (tm 4) (.seq (rg [mv 5 0,op 6 (.un .neg (tm 5)),mv 2 6] [2])
 (.ret))
 (.skip)))
 (.seq (rg [mv 7 0,mv 2 7] [2])
 (.ret)))

def a139 : AFunc := ⟨1,c139,[.tmp 2]⟩

def an139 : List RAnn := [
 ra 0 [0],ra 1 [0,4],ra 2 [2],ra 3 [2]]

theorem comp139 : compF Tryz.prog an139 Tryz.f139 = some a139 := by kernel_rfl

/- graphdb/num.In -/
def c147 : ACode :=
 .seq (rg [op 2 (.mov (.cst (.bool false)))] [0])
 (.seq (rg [mv 3 0,op 4 (.bin .geq .int (tm 3) (ci ((-1000000000000000)))),mv 5 4,mg 6 0 5 true,⟨some 7,.bin .leq .int (tm 6) (ci (1000000000000000)),some (5,true)⟩,op 8 (.pick (tm 5) (tm 7) (.cst (.bool false))),mv 2 8] [2])
 (.ret))

def a147 : AFunc := ⟨1,c147,[.tmp 2]⟩

def an147 : List RAnn := [
 ra 0 [0],ra 1 [2]]

theorem comp147 : compF Tryz.prog an147 Tryz.f147 = some a147 := by kernel_rfl

/- graphdb/value.path -/
/-- loop 0 of function 150 -/
def l150_0_h : List Nat := [15,16,17]

def l150_0_b : ACode :=
 .seq (rg [op 18 (.bin .lss .int (tm 17) (tm 16))] [15,16,17,18])
 (.seq (.cond (tm 18) (.skip)
 (.exit 0))
 (.seq (.block 1 (.seq (rg [mv 19 17,op 20 (.iaddr 5 (tm 15) (tm 17)),op 21 (.load (some 5) (tm 20)),op 4 (.alloc 5 (.agg [.int .i64 0,.int .i64 0,.int .i64 0,.str [],.sl false []])),mv 3 19,⟨none,.store 5 (tm 4) (tm 21),none⟩] [3,4,15,16,17])
 (.seq (rg [op 22 (.lit false 1 (.int .i64 0) 2 [(0,(ci (5))),(1,(ci (6)))]),mv 23 3,op 24 (.bin .rem .int (tm 23) (ci (2))),op 25 (.iaddr 1 (tm 22) (tm 24)),op 26 (.load none (tm 25)),mv 5 26] [4,5,15,16,17])
 (.seq (rg [op 27 (.faddr 0 (tm 4)),op 28 (.load none (tm 27)),mv 29 5,op 30 (.bin .neq .int (tm 28) (tm 29)),mv 31 30,⟨some 32,.load (some 5) (tm 4),some (31,false)⟩,⟨some 33,.call .pure 98 [(tm 32),(ci (0))],some (31,false)⟩,⟨some 34,.un .not (tm 33),some (31,false)⟩,op 35 (.pick (tm 31) (.cst (.bool true)) (tm 34))] [15,16,17,35])
 (.cond (tm 35) (.seq (rg [op 2 (.mov (.cst (.bool false)))] [2])
 (.ret))
 (.skip))))))
 (.region none [] [op 36 (.bin .add .int (tm 17) (ci (1))),mv 17 36] [15,16,17] (some 0))))

def c150 : ACode :=
 .seq (rg [op 2 (.mov (.cst (.bool false)))] [0])
 (.seq (.seq (rg [mv 6 0,op 7 (.len .slice (tm 6)),op 8 (.bin .rem .int (tm 7) (ci (2))),op 9 (.bin .eql .int (tm 8) (ci (0))),mv 10 9,mg 11 0 10 false,⟨some 12,.len .slice (tm 11),some (10,false)⟩,⟨some 13,.bin .gtr .int (tm 12) (ci (25)),some (10,false)⟩,op 14 (.pick (tm 10) (.cst (.bool true)) (tm 13))] [0,14])
 (.cond (tm 14) (.seq (rg [op 2 (.mov (.cst (.bool false)))] [2])
 (.ret))
 (.skip)))
 (.seq (.seq (rg [mv 15 0,op 16 (.len .slice (tm 15)),op 17 (.mov (ci (0)))] [15,16,17])
 (.block 0 (.loop l150_0_h l150_0_b)))
 (.seq (rg [op 2 (.mov (.cst (.bool true)))] [2])
 (.ret))))

def a150 : AFunc := ⟨1,c150,[.tmp 2]⟩

def an150 : List RAnn := [
 ra 0 [0],ra 1 [0,14],ra 2 [2],ra 3 [15,16,17],rh 4 [15,16,17,18] [15,16,17],ra 5 [3,4,15,16,17],ra 6 [4,5,15,16,17],ra 7 [15,16,17,35],ra 8 [2],
 { id := 9,live := [15,16,17],trunc := some 0 },
 ra 10 [2]]

theorem comp150 : compF Tryz.prog an150 Tryz.f150 = some a150 := by kernel_rfl

/- slices.Clone[[]graphdb/api.Node,graphdb/api.Node] -/
def c151 : ACode :=
 .seq (rg [op 2 (.mov (.cst (.sl false [])))] [0])
 (.seq (.seq (rg [mv 3 0,op 4 (.bin .eql .slice (tm 3) (.cst (.sl false [])))] [0,4])
 (.cond (tm 4) (.seq (rg [op 2 (.mov (.cst (.sl false [])))] [2])
 (.ret))
 (.skip)))
 (.seq (rg [op 5 (.lit true 3 (.agg [.int .i64 0,.sl false [],.sl false []]) 0 []),mv 6 0,op 7 (.append 3 56 (tm 5) (tm 6)),mv 2 7] [2])
 (.ret)))

def a151 : AFunc := ⟨1,c151,[.tmp 2]⟩

def an151 : List RAnn := [
 ra 0 [0],ra 1 [0,4],ra 2 [2],
 { id := 3,live := [2],ops := [(0,.own)] }]

theorem comp151 : compF Tryz.prog an151 Tryz.f151 = some a151 := by kernel_rfl

/- slices.Clone[[]string,string] -/
def c152 : ACode :=
 .seq (rg [op 2 (.mov (.cst (.sl false [])))] [0])
 (.seq (.seq (rg [mv 3 0,op 4 (.bin .eql .slice (tm 3) (.cst (.sl false [])))] [0,4])
 (.cond (tm 4) (.seq (rg [op 2 (.mov (.cst (.sl false [])))] [2])
 (.ret))
 (.skip)))
 (.seq (rg [op 5 (.lit true 1 (.str []) 0 []),mv 6 0,op 7 (.append 1 16 (tm 5) (tm 6)),mv 2 7] [2])
 (.ret)))

def a152 : AFunc := ⟨1,c152,[.tmp 2]⟩

def an152 : List RAnn := [
 ra 0 [0],ra 1 [0,4],ra 2 [2],
 { id := 3,live := [2],ops := [(0,.own)] }]

theorem comp152 : compF Tryz.prog an152 Tryz.f152 = some a152 := by kernel_rfl

/- slices.Clone[[]graphdb/api.Prop,graphdb/api.Prop] -/
def c153 : ACode :=
 .seq (rg [op 2 (.mov (.cst (.sl false [])))] [0])
 (.seq (.seq (rg [mv 3 0,op 4 (.bin .eql .slice (tm 3) (.cst (.sl false [])))] [0,4])
 (.cond (tm 4) (.seq (rg [op 2 (.mov (.cst (.sl false [])))] [2])
 (.ret))
 (.skip)))
 (.seq (rg [op 5 (.lit true 6 (.agg [.str [],.int .i64 0,.int .i64 0,.int .i64 0,.str [],.sl false []]) 0 []),mv 6 0,op 7 (.append 6 80 (tm 5) (tm 6)),mv 2 7] [2])
 (.ret)))

def a153 : AFunc := ⟨1,c153,[.tmp 2]⟩

def an153 : List RAnn := [
 ra 0 [0],ra 1 [0,4],ra 2 [2],
 { id := 3,live := [2],ops := [(0,.own)] }]

theorem comp153 : compF Tryz.prog an153 Tryz.f153 = some a153 := by kernel_rfl

/- slices.Clone[[]graphdb/api.Edge,graphdb/api.Edge] -/
def c154 : ACode :=
 .seq (rg [op 2 (.mov (.cst (.sl false [])))] [0])
 (.seq (.seq (rg [mv 3 0,op 4 (.bin .eql .slice (tm 3) (.cst (.sl false [])))] [0,4])
 (.cond (tm 4) (.seq (rg [op 2 (.mov (.cst (.sl false [])))] [2])
 (.ret))
 (.skip)))
 (.seq (rg [op 5 (.lit true 5 (.agg [.int .i64 0,.int .i64 0,.int .i64 0,.str [],.sl false []]) 0 []),mv 6 0,op 7 (.append 5 64 (tm 5) (tm 6)),mv 2 7] [2])
 (.ret)))

def a154 : AFunc := ⟨1,c154,[.tmp 2]⟩

def an154 : List RAnn := [
 ra 0 [0],ra 1 [0,4],ra 2 [2],
 { id := 3,live := [2],ops := [(0,.own)] }]

theorem comp154 : compF Tryz.prog an154 Tryz.f154 = some a154 := by kernel_rfl

/- graphdb/change.Check -/
def c155 : ACode :=
 .seq (rg [op 1 (.box 10 (tm 0)),op 2 (.mov (ci (0)))] [1])
 (.seq (rg [op 6 (.faddr 0 (tm 1)),op 7 (.load none (tm 6)),op 8 (.call .pure 214 [(tm 7)]),mv 5 8,op 9 (.ext (tm 5) 0),op 10 (.ext (tm 5) 1),op 3 (.alloc 3 (.agg [.bool false,.bool false,.bool false])),⟨none,.store 3 (tm 3) (tm 9),none⟩,mv 4 10] [1,3,4])
 (.seq (.block 0 (.seq (rg [mv 12 4,op 13 (.un .not (tm 12)),mv 14 13,⟨some 15,.faddr 1 (tm 1),some (14,false)⟩,⟨some 16,.load none (tm 15),some (14,false)⟩,⟨some 17,.call .pure 215 [(tm 16)],some (14,false)⟩,⟨some 18,.un .not (tm 17),some (14,false)⟩,op 19 (.pick (tm 14) (.cst (.bool true)) (tm 18)),mv 11 19] [1,3,11])
 (.cond (tm 11) (.seq (rg [op 2 (.mov (ci (1)))] [2])
 (.ret))
 (.seq (rg [op 21 (.faddr 0 (tm 3)),op 22 (.load none (tm 21)),mv 23 22,⟨some 24,.faddr 2 (tm 1),some (23,true)⟩,⟨some 25,.load none (tm 24),some (23,true)⟩,⟨some 26,.call .pure 215 [(tm 25)],some (23,true)⟩,⟨some 27,.un .not (tm 26),some (23,true)⟩,mg 28 27 23 true,⟨some 29,.faddr 3 (tm 1),some (28,false)⟩,⟨some 30,.load none (tm 29),some (28,false)⟩,⟨some 31,.call .pure 215 [(tm 30)],some (28,false)⟩,⟨some 32,.un .not (tm 31),some (28,false)⟩,⟨some 33,.pick (tm 28) (.cst (.bool true)) (tm 32),some (23,true)⟩,op 34 (.pick (tm 23) (tm 33) (.cst (.bool false))),mv 35 34,⟨some 36,.faddr 0 (tm 3),some (35,false)⟩,⟨some 37,.load none (tm 36),some (35,false)⟩,⟨some 38,.un .not (tm 37),some (35,false)⟩,mg 39 38 35 false,⟨some 40,.faddr 2 (tm 1),some (39,true)⟩,⟨some 41,.load none (tm 40),some (39,true)⟩,⟨some 42,.bin .neq .int (tm 41) (ci (0)),some (39,true)⟩,mg 43 42 39 true,⟨some 44,.faddr 3 (tm 1),some (43,false)⟩,⟨some 45,.load none (tm 44),some (43,false)⟩,⟨some 46,.bin .neq .int (tm 45) (ci (0)),some (43,false)⟩,⟨some 47,.pick (tm 43) (.cst (.bool true)) (tm 46),some (39,true)⟩,⟨some 48,.pick (tm 39) (tm 47) (.cst (.bool false)),some (35,false)⟩,op 49 (.pick (tm 35) (.cst (.bool true)) (tm 48)),mv 20 49] [1,3,20])
 (.cond (tm 20) (.seq (rg [op 2 (.mov (ci (1)))] [2])
 (.ret))
 (.seq (rg [op 51 (.faddr 1 (tm 3)),op 52 (.load none (tm 51)),op 53 (.un .not (tm 52)),mv 54 53,⟨some 55,.faddr 4 (tm 1),some (54,true)⟩,⟨some 56,.load none (tm 55),some (54,true)⟩,⟨some 57,.bin .neq .str (tm 56) (.cst (.str [])),some (54,true)⟩,op 58 (.pick (tm 54) (tm 57) (.cst (.bool false))),mv 59 58,⟨some 60,.faddr 2 (tm 3),some (59,false)⟩,⟨some 61,.load none (tm 60),some (59,false)⟩,⟨some 62,.un .not (tm 61),some (59,false)⟩,mg 63 62 59 false,⟨some 64,.faddr 5 (tm 1),some (63,true)⟩,⟨some 65,.load (some 5) (tm 64),some (63,true)⟩,⟨some 66,.call .pure 216 [(tm 65)],some (63,true)⟩,⟨some 67,.un .not (tm 66),some (63,true)⟩,⟨some 68,.pick (tm 63) (tm 67) (.cst (.bool false)),some (59,false)⟩,op 69 (.pick (tm 59) (.cst (.bool true)) (tm 68)),mv 50 69] [1,3,50])
 (.cond (tm 50) (.seq (rg [op 2 (.mov (ci (1)))] [2])
 (.ret))
 (.seq (rg [op 71 (.faddr 1 (tm 3)),op 72 (.load none (tm 71)),mv 73 72,⟨some 74,.faddr 4 (tm 1),some (73,true)⟩,⟨some 75,.load none (tm 74),some (73,true)⟩,⟨some 76,.call .pure 68 [(tm 75)],some (73,true)⟩,⟨some 77,.un .not (tm 76),some (73,true)⟩,op 78 (.pick (tm 73) (tm 77) (.cst (.bool false))),mv 70 78] [1,3,70])
 (.cond (tm 70) (.seq (rg [op 2 (.mov (ci (6)))] [2])
 (.ret))
 (.seq (rg [op 80 (.faddr 2 (tm 3)),op 81 (.load none (tm 80)),mv 82 81,⟨some 83,.faddr 5 (tm 1),some (82,true)⟩,⟨some 84,.load (some 5) (tm 83),some (82,true)⟩,⟨some 85,.call .pure 216 [(tm 84)],some (82,true)⟩,⟨some 86,.un .not (tm 85),some (82,true)⟩,op 87 (.pick (tm 82) (tm 86) (.cst (.bool false))),mv 88 87,⟨some 89,.faddr 5 (tm 1),some (88,true)⟩,⟨some 90,.load (some 5) (tm 89),some (88,true)⟩,⟨some 91,.call .pure 105 [(tm 90)],some (88,true)⟩,⟨some 92,.un .not (tm 91),some (88,true)⟩,op 93 (.pick (tm 88) (tm 92) (.cst (.bool false))),mv 79 93] [79])
 (.cond (tm 79) (.seq (rg [op 2 (.mov (ci (8)))] [2])
 (.ret))
 (.skip))))))))))))
 (.seq (rg [op 2 (.mov (ci (0)))] [2])
 (.ret))))

def a155 : AFunc := ⟨1,c155,[.tmp 2]⟩

def an155 : List RAnn := [
 ra 0 [1],ra 1 [1,3,4],ra 2 [1,3,11],ra 3 [2],ra 4 [1,3,20],ra 5 [2],ra 6 [1,3,50],ra 7 [2],ra 8 [1,3,70],ra 9 [2],ra 10 [79],ra 11 [2],ra 12 [2]]

theorem comp155 : compF Tryz.prog an155 Tryz.f155 = some a155 := by kernel_rfl

/- (*graphdb/change.editor).nodes -/
/-- loop 0 of function 157 -/
def l157_0_h : List Nat := [0,3,4,91,92,93]

def l157_0_b : ACode :=
 .seq (rg [op 94 (.bin .lss .int (tm 93) (tm 92))] [0,3,4,91,92,93,94])
 (.seq (.cond (tm 94) (.skip)
 (.exit 1))
 (.seq (.block 2 (.seq (rg [op 95 (.iaddr 5 (tm 91) (tm 93)),op 96 (.load (some 5) (tm 95)),op 8 (.alloc 5 (.agg [.int .i64 0,.int .i64 0,.int .i64 0,.str [],.sl false []])),⟨none,.store 5 (tm 8) (tm 96),none⟩] [0,3,4,8,91,92,93])
 (rg [op 97 (.faddr 1 (tm 8)),op 98 (.load none (tm 97)),op 99 (.faddr 1 (tm 3)),op 100 (.load none (tm 99)),op 101 (.bin .neq .int (tm 98) (tm 100)),mv 102 101,⟨some 103,.faddr 2 (tm 8),some (102,true)⟩,⟨some 104,.load none (tm 103),some (102,true)⟩,⟨some 105,.faddr 1 (tm 3),some (102,true)⟩,⟨some 106,.load none (tm 105),some (102,true)⟩,⟨some 107,.bin .neq .int (tm 104) (tm 106),some (102,true)⟩,op 108 (.pick (tm 102) (tm 107) (.cst (.bool false))),op 109 (.call .pure 218 [(tm 108),(ci (12))])] [0,3,4,91,92,93])))
 (rg [op 110 (.bin .add .int (tm 93) (ci (1))),mv 93 110] [0,3,4,91,92,93])))

def c157 : ACode :=
 .seq (rg [op 3 (.box 10 (tm 1))] [0,3])
 (.seq (rg [mv 14 0,op 15 (.faddr 1 (tm 3)),op 16 (.load none (tm 15)),op 17 (.call .borrow 217 [(tm 14),(tm 16)]),mv 13 17,op 18 (.ext (tm 13) 0),op 19 (.ext (tm 13) 1),mv 4 18,mv 5 19] [0,3,4,5])
 (.seq (.seq (rg [op 20 (.faddr 0 (tm 3)),op 21 (.load none (tm 20)),op 22 (.bin .eql .int (tm 21) (ci (1)))] [0,3,4,5,22])
 (.cond (tm 22) (.seq (rg [mv 23 5,op 24 (.un .not (tm 23)),op 25 (.call .pure 218 [(tm 24),(ci (7))])] [0,3,4])
 (.seq (rg [mv 26 0,op 27 (.nilchk (tm 26)),op 28 (.faddr 0 (tm 27)),op 29 (.faddr 0 (tm 28)),op 30 (.load none (tm 29)),op 31 (.len .slice (tm 30)),op 32 (.bin .lss .int (tm 31) (ci (2000))),op 33 (.call .pure 218 [(tm 32),(ci (20))])] [0,3,4])
 (.seq (.region (some 15) [] [
 mv 34 0,mv 35 0,op 36 (.nilchk (tm 35)),op 37 (.faddr 0 (tm 36)),op 38 (.faddr 0 (tm 37)),op 39 (.load none (tm 38)),mv 40 4,op 41 (.faddr 1 (tm 3)),op 42 (.load none (tm 41)),op 43 (.build [.int .i64 0,.sl false [],.sl false []] [(0,1,(tm 42))]),op 44 (.lit false 3 (.agg [.int .i64 0,.sl false [],.sl false []]) 1 [(0,(tm 43))]),op 45 (.call .pure 219 [(tm 39),(tm 40),(tm 44)]),op 46 (.nilchk (tm 34)),op 47 (.faddr 0 (tm 46)),op 48 (.faddr 0 (tm 47)),⟨none,.store 1 (tm 48) (tm 45),none⟩] [0,3] none)
 (.seq (.region (some 13) [] [
 mv 49 0,mv 50 0,op 51 (.nilchk (tm 50)),op 52 (.faddr 0 (tm 51)),op 53 (.faddr 2 (tm 52)),op 54 (.load none (tm 53)),op 55 (.faddr 1 (tm 3)),op 56 (.load none (tm 55)),op 57 (.bin .add .int (tm 56) (ci (1))),op 58 (.max (tm 54) (tm 57)),op 59 (.nilchk (tm 49)),op 60 (.faddr 0 (tm 59)),op 61 (.faddr 2 (tm 60)),⟨none,.store 1 (tm 61) (tm 58),none⟩] [] none)
 (.ret)))))
 (.skip)))
 (.seq (rg [mv 62 5,op 63 (.call .pure 218 [(tm 62),(ci (10))])] [0,3,4])
 (.seq (rg [mv 64 0,op 65 (.nilchk (tm 64)),op 66 (.faddr 0 (tm 65)),op 67 (.faddr 0 (tm 66)),op 68 (.load none (tm 67)),mv 69 4,op 70 (.iaddr 3 (tm 68) (tm 69)),mv 6 70] [0,3,4,6])
 (.seq (rg [op 71 (.faddr 0 (tm 3)),op 72 (.load none (tm 71))] [0,3,4,6,72])
 (.block 0 (.seq (rg [op 86 (.bin .eql .int (tm 72) (ci (2))),mv 85 86] [0,3,4,6,72,85])
 (.cond (tm 85) (.seq (.seq (rg [mv 87 0,op 88 (.nilchk (tm 87)),op 89 (.faddr 0 (tm 88)),op 90 (.faddr 1 (tm 89)),op 91 (.load none (tm 90)),op 92 (.len .slice (tm 91)),op 93 (.mov (ci (0)))] [0,3,4,91,92,93])
 (.block 1 (.loop l157_0_h l157_0_b)))
 (rg [mv 111 0,mv 112 0,op 113 (.nilchk (tm 112)),op 114 (.faddr 0 (tm 113)),op 115 (.faddr 0 (tm 114)),op 116 (.load none (tm 115)),mv 117 4,mv 118 4,op 119 (.bin .add .int (tm 118) (ci (1))),op 120 (.call .pure 220 [(tm 116),(tm 117),(tm 119)]),op 121 (.nilchk (tm 111)),op 122 (.faddr 0 (tm 121)),op 123 (.faddr 0 (tm 122)),⟨none,.store 1 (tm 123) (tm 120),none⟩] []))
 (.seq (rg [op 125 (.bin .eql .int (tm 72) (ci (3))),mv 124 125] [3,6,72,124])
 (.cond (tm 124) (.seq (.region (some 12) [] [
 mv 127 6,op 128 (.nilchk (tm 127)),op 129 (.faddr 1 (tm 128)),op 130 (.load none (tm 129)),op 131 (.faddr 4 (tm 3)),op 132 (.load none (tm 131)),op 133 (.call .borrow 221 [(tm 130),(tm 132)]),mv 126 133,op 134 (.ext (tm 126) 0),op 135 (.ext (tm 126) 1),mv 9 134,mv 10 135] [3,6,9,10] none)
 (.seq (rg [mv 136 10,op 137 (.un .not (tm 136)),op 138 (.call .pure 218 [(tm 137),(ci (7))])] [3,6,9])
 (.seq (rg [mv 139 6,op 140 (.nilchk (tm 139)),op 141 (.faddr 1 (tm 140)),op 142 (.load none (tm 141)),op 143 (.len .slice (tm 142)),op 144 (.bin .lss .int (tm 143) (ci (8))),op 145 (.call .pure 218 [(tm 144),(ci (20))])] [3,6,9])
 (.mix 9 [] [
 mv 146 6,mv 147 6,op 148 (.nilchk (tm 147)),op 149 (.faddr 1 (tm 148)),op 150 (.load none (tm 149)),mv 151 9,op 152 (.faddr 4 (tm 3)),op 153 (.load none (tm 152)),op 154 (.lit false 1 (.str []) 1 [(0,(tm 153))]),op 155 (.call .share 222 [(tm 150),(tm 151),(tm 154)]),op 156 (.nilchk (tm 146)),op 157 (.faddr 1 (tm 156)),⟨none,.store 1 (tm 157) (tm 155),none⟩] [] none))))
 (.seq (rg [op 159 (.bin .eql .int (tm 72) (ci (4))),mv 158 159] [3,6,158])
 (.cond (tm 158) (.seq (.region (some 12) [] [
 mv 161 6,op 162 (.nilchk (tm 161)),op 163 (.faddr 1 (tm 162)),op 164 (.load none (tm 163)),op 165 (.faddr 4 (tm 3)),op 166 (.load none (tm 165)),op 167 (.call .pure 221 [(tm 164),(tm 166)]),mv 160 167,op 168 (.ext (tm 160) 0),op 169 (.ext (tm 160) 1),mv 11 168,mv 12 169] [6,11,12] none)
 (.seq (rg [mv 170 12,op 171 (.call .pure 218 [(tm 170),(ci (23))])] [6,11])
 (rg [mv 172 6,mv 173 6,op 174 (.nilchk (tm 173)),op 175 (.faddr 1 (tm 174)),op 176 (.load none (tm 175)),mv 177 11,mv 178 11,op 179 (.bin .add .int (tm 178) (ci (1))),op 180 (.call .pure 223 [(tm 176),(tm 177),(tm 179)]),op 181 (.nilchk (tm 172)),op 182 (.faddr 1 (tm 181)),⟨none,.store 1 (tm 182) (tm 180),none⟩] [])))
 (.region (some 12) [] [
 mv 73 6,mv 74 6,op 75 (.nilchk (tm 74)),op 76 (.faddr 2 (tm 75)),op 77 (.load none (tm 76)),op 78 (.faddr 4 (tm 3)),op 79 (.load none (tm 78)),op 80 (.faddr 5 (tm 3)),op 81 (.load (some 5) (tm 80)),op 82 (.call .pure 224 [(tm 77),(tm 79),(tm 81)]),op 83 (.nilchk (tm 73)),op 84 (.faddr 2 (tm 83)),⟨none,.store 1 (tm 84) (tm 82),none⟩] [] none)))))))))))))

def a157 : AFunc := ⟨2,c157,[]⟩

def an157 : List RAnn := [
 ra 0 [0,3],
 { id := 1,live := [0,3,4,5],ops := [(3,.mode .borrow)] },
 ra 2 [0,3,4,5,22],ra 3 [0,3,4],ra 4 [0,3,4],
 { id := 5,head := some 15,live := [0,3] },
 { id := 6,head := some 13 },
 ra 7 [0,3,4],ra 8 [0,3,4,6],ra 9 [0,3,4,6,72],ra 11 [0,3,4,6,72,85],ra 12 [0,3,4,91,92,93],rh 13 [0,3,4,91,92,93,94] [0,3,4,91,92,93],ra 14 [0,3,4,8,91,92,93],ra 15 [0,3,4,91,92,93],ra 16 [0,3,4,91,92,93],
 { id := 17 },
 ra 18 [3,6,72,124],
 { id := 19,head := some 12,live := [3,6,9,10],ops := [(6,.mode .borrow)] },
 ra 20 [3,6,9],ra 21 [3,6,9],
 { id := 22,head := some 9,ops := [(9,.mode .share)],mix := true },
 ra 23 [3,6,158],
 { id := 24,head := some 12,live := [6,11,12] },
 ra 25 [6,11],
 { id := 26 },
 { id := 10,head := some 12 }]

theorem comp157 : compF Tryz.prog an157 Tryz.f157 = some a157 := by kernel_rfl

/- slices.IndexFunc[[]string,string] -/
/-- loop 0 of function 159 -/
def l159_0_h : List Nat := [0,1,7,8]

def l159_0_b : ACode :=
 .seq (rg [op 9 (.bin .lss .int (tm 8) (tm 7))] [0,1,7,8,9])
 (.seq (.cond (tm 9) (.skip)
 (.exit 0))
 (.seq (.block 1 (.seq (rg [mv 10 8,mv 5 10] [0,1,5,7,8])
 (.seq (rg [mv 11 1,mv 12 0,mv 13 5,op 14 (.iaddr 1 (tm 12) (tm 13)),op 15 (.load none (tm 14)),op 16 (.callv .pure (tm 11) [(tm 15)])] [0,1,5,7,8,16])
 (.cond (tm 16) (.seq (rg [mv 17 5,mv 4 17] [4])
 (.ret))
 (.skip)))))
 (rg [op 18 (.bin .add .int (tm 8) (ci (1))),mv 8 18] [0,1,7,8])))

def c159 : ACode :=
 .seq (rg [op 4 (.mov (ci (0)))] [0,1])
 (.seq (.seq (rg [mv 6 0,op 7 (.len .slice (tm 6)),op 8 (.mov (ci (0)))] [0,1,7,8])
 (.block 0 (.loop l159_0_h l159_0_b)))
 (.seq (rg [op 4 (.mov (ci ((-1))))] [4])
 (.ret)))

def a159 : AFunc := ⟨2,c159,[.tmp 4]⟩

def an159 : List RAnn := [
 ra 0 [0,1],ra 1 [0,1,7,8],rh 2 [0,1,7,8,9] [0,1,7,8],ra 3 [0,1,5,7,8],ra 4 [0,1,5,7,8,16],ra 5 [4],ra 6 [0,1,7,8],ra 7 [4]]

theorem comp159 : compF Tryz.prog an159 Tryz.f159 = some a159 := by kernel_rfl

/- graphdb/value.known -/
def c160 : ACode :=
 .seq (rg [op 2 (.mov (ci (0)))] [0])
 (.seq (.seq (rg [mv 3 0,op 4 (.bin .eql .int (tm 3) (ci (0))),mv 5 4,mg 6 0 5 false,⟨some 7,.bin .eql .int (tm 6) (ci (2)),some (5,false)⟩,op 8 (.pick (tm 5) (.cst (.bool true)) (tm 7))] [0,8])
 (.cond (tm 8) (.seq (rg [mv 9 0,mv 2 9] [2])
 (.ret))
 (.skip)))
 (.seq (rg [op 2 (.mov (ci (1)))] [2])
 (.ret)))

def a160 : AFunc := ⟨1,c160,[.tmp 2]⟩

def an160 : List RAnn := [
 ra 0 [0],ra 1 [0,8],ra 2 [2],ra 3 [2]]

theorem comp160 : compF Tryz.prog an160 Tryz.f160 = some a160 := by kernel_rfl

/- graphdb/num.Gcd -/
/-- loop 0 of function 161 -/
def l161_0_h : List Nat := [0,1]

def l161_0_b : ACode :=
 .seq (.seq (rg [mv 17 1,op 18 (.bin .neq .int (tm 17) (ci (0)))] [0,1,18])
 (.cond (tm 18) (.skip)
 (.exit 0)))
 (.block 1 (.region (some 6) [] [
 mv 19 1,mv 20 0,mv 21 1,op 22 (.bin .rem .int (tm 20) (tm 21)),mv 0 19,mv 1 22] [0,1] none))

def c161 : ACode :=
 .seq (rg [op 4 (.mov (ci (0)))] [0,1])
 (.seq (.seq (rg [mv 5 0,op 6 (.call .pure 147 [(tm 5)]),op 7 (.un .not (tm 6)),mv 8 7,mg 9 1 8 false,⟨some 10,.call .pure 147 [(tm 9)],some (8,false)⟩,⟨some 11,.un .not (tm 10),some (8,false)⟩,op 12 (.pick (tm 8) (.cst (.bool true)) (tm 11))] [0,1,12])
 (.cond (tm 12) (.seq (rg [op 4 (.mov (ci (0)))] [4])
 (.ret))
 (.skip)))
 (.seq (rg [mv 13 0,op 14 (.call .pure 228 [(tm 13)]),mv 15 1,op 16 (.call .pure 228 [(tm 15)]),mv 0 14,mv 1 16] [0,1])
 (.seq (.block 0 (.loop l161_0_h l161_0_b))
 (.seq (rg [mv 23 0,mv 4 23] [4])
 (.ret)))))

def a161 : AFunc := ⟨2,c161,[.tmp 4]⟩

def an161 : List RAnn := [
 ra 0 [0,1],ra 1 [0,1,12],ra 2 [4],ra 3 [0,1],rh 4 [0,1,18] [0,1],
 { id := 5,head := some 6,live := [0,1] },
 ra 6 [4]]

theorem comp161 : compF Tryz.prog an161 Tryz.f161 = some a161 := by kernel_rfl

/- math/bits.Mul64 -/
def c162 : ACode :=
 .seq (rg [op 4 (.mov (.cst (.int .u64 0))),op 5 (.mov (.cst (.int .u64 0)))] [0,1])
 (.seq (rg [mv 14 0,op 15 (.bin .and .int (tm 14) (.cst (.int .u64 4294967295))),mv 6 15] [0,1,6])
 (.seq (rg [mv 16 0,op 17 (.bin .shr .int (tm 16) (.cst (.int .u64 32))),mv 7 17] [0,1,6,7])
 (.seq (rg [mv 18 1,op 19 (.bin .and .int (tm 18) (.cst (.int .u64 4294967295))),mv 8 19] [0,1,6,7,8])
 (.seq (rg [mv 20 1,op 21 (.bin .shr .int (tm 20) (.cst (.int .u64 32))),mv 9 21] [0,1,6,7,8,9])
 (.seq (rg [mv 22 6,mv 23 8,op 24 (.bin .mul .int (tm 22) (tm 23)),mv 10 24] [0,1,6,7,8,9,10])
 (.seq (rg [mv 25 7,mv 26 8,op 27 (.bin .mul .int (tm 25) (tm 26)),mv 28 10,op 29 (.bin .shr .int (tm 28) (.cst (.int .u64 32))),op 30 (.bin .add .int (tm 27) (tm 29)),mv 11 30] [0,1,6,7,9,11])
 (.seq (rg [mv 31 11,op 32 (.bin .and .int (tm 31) (.cst (.int .u64 4294967295))),mv 12 32] [0,1,6,7,9,11,12])
 (.seq (rg [mv 33 11,op 34 (.bin .shr .int (tm 33) (.cst (.int .u64 32))),mv 13 34] [0,1,6,7,9,12,13])
 (.seq (rg [mv 35 12,mv 36 6,mv 37 9,op 38 (.bin .mul .int (tm 36) (tm 37)),op 39 (.bin .add .int (tm 35) (tm 38)),mv 12 39] [0,1,7,9,12,13])
 (.seq (rg [mv 40 7,mv 41 9,op 42 (.bin .mul .int (tm 40) (tm 41)),mv 43 13,op 44 (.bin .add .int (tm 42) (tm 43)),mv 45 12,op 46 (.bin .shr .int (tm 45) (.cst (.int .u64 32))),op 47 (.bin .add .int (tm 44) (tm 46)),mv 4 47] [0,1,4])
 (.seq (rg [mv 48 0,mv 49 1,op 50 (.bin .mul .int (tm 48) (tm 49)),mv 5 50] [4,5])
 (.ret))))))))))))

def a162 : AFunc := ⟨2,c162,[.tmp 4,.tmp 5]⟩

def an162 : List RAnn := [
 ra 0 [0,1],ra 1 [0,1,6],ra 2 [0,1,6,7],ra 3 [0,1,6,7,8],ra 4 [0,1,6,7,8,9],ra 5 [0,1,6,7,8,9,10],ra 6 [0,1,6,7,9,11],ra 7 [0,1,6,7,9,11,12],ra 8 [0,1,6,7,9,12,13],ra 9 [0,1,7,9,12,13],ra 10 [0,1,4],ra 11 [4,5]]

theorem comp162 : compF Tryz.prog an162 Tryz.f162 = some a162 := by kernel_rfl

/- graphdb/frac.size -/
def c163 : ACode :=
 .seq (rg [op 2 (.mov (.cst (.int .u64 0)))] [0])
 (.seq (.seq (rg [mv 3 0,op 4 (.bin .lss .int (tm 3) (ci (0)))] [0,4])
 (.cond (tm 4) (.seq (rg [mv 5 0,op 6 (.conv .u64 (tm 5)),op 7 (.un .neg (tm 6)),mv 2 7] [2])
 (.ret))
 (.skip)))
 (.seq (rg [mv 8 0,op 9 (.conv .u64 (tm 8)),mv 2 9] [2])
 (.ret)))

def a163 : AFunc := ⟨1,c163,[.tmp 2]⟩

def an163 : List RAnn := [
 ra 0 [0],ra 1 [0,4],ra 2 [2],ra 3 [2]]

theorem comp163 : compF Tryz.prog an163 Tryz.f163 = some a163 := by kernel_rfl

/- (graphdb/frac.wide).less -/
def c165 : ACode :=
 .seq (rg [op 2 (.box 3 (tm 0)),op 3 (.box 3 (tm 1)),op 4 (.mov (.cst (.bool false)))] [2,3])
 (.seq (rg [op 5 (.faddr 1 (tm 2)),op 6 (.load none (tm 5)),op 7 (.faddr 1 (tm 3)),op 8 (.load none (tm 7)),op 9 (.bin .lss .int (tm 6) (tm 8)),mv 10 9,⟨some 11,.faddr 1 (tm 2),some (10,false)⟩,⟨some 12,.load none (tm 11),some (10,false)⟩,⟨some 13,.faddr 1 (tm 3),some (10,false)⟩,⟨some 14,.load none (tm 13),some (10,false)⟩,⟨some 15,.bin .eql .int (tm 12) (tm 14),some (10,false)⟩,mg 16 15 10 false,⟨some 17,.faddr 2 (tm 2),some (16,true)⟩,⟨some 18,.load none (tm 17),some (16,true)⟩,⟨some 19,.faddr 2 (tm 3),some (16,true)⟩,⟨some 20,.load none (tm 19),some (16,true)⟩,⟨some 21,.bin .lss .int (tm 18) (tm 20),some (16,true)⟩,⟨some 22,.pick (tm 16) (tm 21) (.cst (.bool false)),some (10,false)⟩,op 23 (.pick (tm 10) (.cst (.bool true)) (tm 22)),mv 4 23] [4])
 (.ret))

def a165 : AFunc := ⟨2,c165,[.tmp 4]⟩

def an165 : List RAnn := [
 ra 0 [2,3],ra 1 [4]]

theorem comp165 : compF Tryz.prog an165 Tryz.f165 = some a165 := by kernel_rfl

/- graphdb/graphdbref07.Names -/
/-- loop 0 of function 168 -/
def l168_0_h : List Nat := [0,3]

def l168_0_b : ACode :=
 .seq (.seq (rg [mv 4 3,mv 5 0,op 6 (.len .slice (tm 5)),op 7 (.bin .lss .int (tm 4) (tm 6))] [0,3,7])
 (.cond (tm 7) (.skip)
 (.exit 0)))
 (.seq (.block 1 (.seq (rg [mv 10 0,mv 11 3,op 12 (.iaddr 1 (tm 10) (tm 11)),op 13 (.load none (tm 12)),op 14 (.call .pure 118 [(tm 13)]),op 15 (.un .not (tm 14))] [0,3,15])
 (.cond (tm 15) (.seq (rg [op 2 (.mov (.cst (.bool false)))] [2])
 (.ret))
 (.skip))))
 (rg [mv 8 3,op 9 (.bin .add .int (tm 8) (ci (1))),mv 3 9] [0,3]))

def c168 : ACode :=
 .seq (rg [op 2 (.mov (.cst (.bool false)))] [0])
 (.seq (.seq (rg [op 3 (.mov (ci (0)))] [0,3])
 (.block 0 (.loop l168_0_h l168_0_b)))
 (.seq (rg [op 2 (.mov (.cst (.bool true)))] [2])
 (.ret)))

def a168 : AFunc := ⟨1,c168,[.tmp 2]⟩

def an168 : List RAnn := [
 ra 0 [0],ra 1 [0,3],rh 2 [0,3,7] [0,3],ra 4 [0,3,15],ra 5 [2],ra 3 [0,3],ra 6 [2]]

theorem comp168 : compF Tryz.prog an168 Tryz.f168 = some a168 := by kernel_rfl

/- graphdb/graphdbref07.Rises -/
/-- loop 0 of function 169 -/
def l169_0_h : List Nat := [0,3]

def l169_0_b : ACode :=
 .seq (.seq (rg [mv 4 3,mv 5 0,op 6 (.len .slice (tm 5)),op 7 (.bin .lss .int (tm 4) (tm 6))] [0,3,7])
 (.cond (tm 7) (.skip)
 (.exit 0)))
 (.seq (.block 1 (.seq (.region (some 10) [] [
 mv 10 0,mv 11 3,op 12 (.iaddr 1 (tm 10) (tm 11)),op 13 (.load none (tm 12)),mv 14 0,mv 15 3,op 16 (.bin .sub .int (tm 15) (ci (1))),op 17 (.iaddr 1 (tm 14) (tm 16)),op 18 (.load none (tm 17)),op 19 (.bin .leq .str (tm 13) (tm 18))] [0,3,19] none)
 (.cond (tm 19) (.seq (rg [op 2 (.mov (.cst (.bool false)))] [2])
 (.ret))
 (.skip))))
 (rg [mv 8 3,op 9 (.bin .add .int (tm 8) (ci (1))),mv 3 9] [0,3]))

def c169 : ACode :=
 .seq (rg [op 2 (.mov (.cst (.bool false)))] [0])
 (.seq (.seq (rg [op 3 (.mov (ci (1)))] [0,3])
 (.block 0 (.loop l169_0_h l169_0_b)))
 (.seq (rg [op 2 (.mov (.cst (.bool true)))] [2])
 (.ret)))

def a169 : AFunc := ⟨1,c169,[.tmp 2]⟩

def an169 : List RAnn := [
 ra 0 [0],ra 1 [0,3],rh 2 [0,3,7] [0,3],
 { id := 4,head := some 10,live := [0,3,19] },
 ra 5 [2],ra 3 [0,3],ra 6 [2]]

theorem comp169 : compF Tryz.prog an169 Tryz.f169 = some a169 := by kernel_rfl

/- graphdb/graphdbref07.letter -/
def c171 : ACode :=
 .seq (rg [op 2 (.mov (.cst (.bool false)))] [0])
 (.seq (rg [mv 3 0,op 4 (.bin .geq .int (tm 3) (.cst (.int .u8 97))),mv 5 4,mg 6 0 5 true,⟨some 7,.bin .leq .int (tm 6) (.cst (.int .u8 122)),some (5,true)⟩,op 8 (.pick (tm 5) (tm 7) (.cst (.bool false))),mv 9 8,mg 10 0 9 false,⟨some 11,.bin .geq .int (tm 10) (.cst (.int .u8 65)),some (9,false)⟩,mg 12 11 9 false,mg 13 0 12 true,⟨some 14,.bin .leq .int (tm 13) (.cst (.int .u8 90)),some (12,true)⟩,⟨some 15,.pick (tm 12) (tm 14) (.cst (.bool false)),some (9,false)⟩,op 16 (.pick (tm 9) (.cst (.bool true)) (tm 15)),mv 2 16] [2])
 (.ret))

def a171 : AFunc := ⟨1,c171,[.tmp 2]⟩

def an171 : List RAnn := [
 ra 0 [0],ra 1 [2]]

theorem comp171 : compF Tryz.prog an171 Tryz.f171 = some a171 := by kernel_rfl

/- slices.insertionSortCmpFunc[[]int] -/
/-- loop 0 of function 172 -/
def l172_0_h : List Nat := [0,1,2,3,8,9]

def l172_0_b : ACode :=
 .seq (.seq (.region (some 17) [] [
 mv 18 9,mv 19 1,op 20 (.bin .gtr .int (tm 18) (tm 19)),mv 21 20,mg 22 3 21 true,mg 23 0 21 true,mg 24 9 21 true,⟨some 25,.iaddr 1 (tm 23) (tm 24),some (21,true)⟩,⟨some 26,.load none (tm 25),some (21,true)⟩,mg 27 0 21 true,mg 28 9 21 true,⟨some 29,.bin .sub .int (tm 28) (ci (1)),some (21,true)⟩,⟨some 30,.iaddr 1 (tm 27) (tm 29),some (21,true)⟩,⟨some 31,.load none (tm 30),some (21,true)⟩,⟨some 32,.callv .pure (tm 22) [(tm 26),(tm 31)],some (21,true)⟩,⟨some 33,.bin .lss .int (tm 32) (ci (0)),some (21,true)⟩,op 34 (.pick (tm 21) (tm 33) (.cst (.bool false)))] [0,1,2,3,8,9,34] none)
 (.cond (tm 34) (.skip)
 (.exit 2)))
 (.seq (.block 3 (.par 18 [] [] [
 mv 37 0,mv 38 9,mv 39 0,mv 40 9,op 41 (.bin .sub .int (tm 40) (ci (1))),mv 42 0,mv 43 9,op 44 (.bin .sub .int (tm 43) (ci (1))),op 45 (.iaddr 1 (tm 42) (tm 44)),op 46 (.load none (tm 45)),mv 47 0,mv 48 9,op 49 (.iaddr 1 (tm 47) (tm 48)),op 50 (.load none (tm 49)),op 51 (.iaddr 1 (tm 37) (tm 38)),⟨none,.store 1 (tm 51) (tm 46),none⟩,op 52 (.iaddr 1 (tm 39) (tm 41)),⟨none,.store 1 (tm 52) (tm 50),none⟩] [0,1,2,3,8,9] none))
 (rg [mv 35 9,op 36 (.bin .sub .int (tm 35) (ci (1))),mv 9 36] [0,1,2,3,8,9]))

/-- loop 1 of function 172 -/
def l172_1_h : List Nat := [0,1,2,3,8]

def l172_1_b : ACode :=
 .seq (.seq (rg [mv 12 8,mv 13 2,op 14 (.bin .lss .int (tm 12) (tm 13))] [0,1,2,3,8,14])
 (.cond (tm 14) (.skip)
 (.exit 0)))
 (.seq (.block 1 (.seq (rg [mv 17 8,mv 9 17] [0,1,2,3,8,9])
 (.block 2 (.loop l172_0_h l172_0_b))))
 (rg [mv 15 8,op 16 (.bin .add .int (tm 15) (ci (1))),mv 8 16] [0,1,2,3,8]))

def c172 : ACode :=
 .seq (rg [mv 10 1,op 11 (.bin .add .int (tm 10) (ci (1))),mv 8 11] [0,1,2,3,8])
 (.block 0 (.loop l172_1_h l172_1_b))

def a172 : AFunc := ⟨4,c172,[]⟩

def an172 : List RAnn := [
 ra 0 [0,1,2,3,8],rh 1 [0,1,2,3,8,14] [0,1,2,3,8],ra 3 [0,1,2,3,8,9],
 { id := 4,head := some 17,live := [0,1,2,3,8,9,34],hdr := [0,1,2,3,8,9] },
 { id := 6,head := some 18,live := [0,1,2,3,8,9],par := true },
 ra 5 [0,1,2,3,8,9],ra 2 [0,1,2,3,8]]

theorem comp172 : compF Tryz.prog an172 Tryz.f172 = some a172 := by kernel_rfl

/- slices.siftDownCmpFunc[graphdb/api.Entry] -/
/-- loop 0 of function 182 -/
def l182_0_h : List Nat := [0,2,3,4,10]

def l182_0_b : ACode :=
 .block 1 (.seq (rg [mv 13 10,op 14 (.bin .mul .int (ci (2)) (tm 13)),op 15 (.bin .add .int (tm 14) (ci (1))),mv 11 15] [0,2,3,4,10,11])
 (.seq (.seq (rg [mv 16 11,mv 17 2,op 18 (.bin .geq .int (tm 16) (tm 17))] [0,2,3,4,10,11,18])
 (.cond (tm 18) (.exit 0)
 (.skip)))
 (.seq (.seq (.region (some 22) [] [
 mv 19 11,op 20 (.bin .add .int (tm 19) (ci (1))),mv 21 2,op 22 (.bin .lss .int (tm 20) (tm 21)),mv 23 22,mg 24 4 23 true,mg 25 0 23 true,mg 26 3 23 true,mg 27 11 23 true,⟨some 28,.bin .add .int (tm 26) (tm 27),some (23,true)⟩,⟨some 29,.iaddr 8 (tm 25) (tm 28),some (23,true)⟩,⟨some 30,.load (some 8) (tm 29),some (23,true)⟩,mg 31 0 23 true,mg 32 3 23 true,mg 33 11 23 true,⟨some 34,.bin .add .int (tm 32) (tm 33),some (23,true)⟩,⟨some 35,.bin .add .int (tm 34) (ci (1)),some (23,true)⟩,⟨some 36,.iaddr 8 (tm 31) (tm 35),some (23,true)⟩,⟨some 37,.load (some 8) (tm 36),some (23,true)⟩,⟨some 38,.callv .pure (tm 24) [(tm 30),(tm 37)],some (23,true)⟩,⟨some 39,.bin .lss .int (tm 38) (ci (0)),some (23,true)⟩,op 40 (.pick (tm 23) (tm 39) (.cst (.bool false)))] [0,2,3,4,10,11,40] none)
 (.cond (tm 40) (rg [mv 41 11,op 42 (.bin .add .int (tm 41) (ci (1))),mv 11 42] [0,2,3,4,10,11])
 (.skip)))
 (.seq (.seq (.region (some 16) [] [
 mv 43 4,mv 44 0,mv 45 3,mv 46 10,op 47 (.bin .add .int (tm 45) (tm 46)),op 48 (.iaddr 8 (tm 44) (tm 47)),op 49 (.load (some 8) (tm 48)),mv 50 0,mv 51 3,mv 52 11,op 53 (.bin .add .int (tm 51) (tm 52)),op 54 (.iaddr 8 (tm 50) (tm 53)),op 55 (.load (some 8) (tm 54)),op 56 (.callv .pure (tm 43) [(tm 49),(tm 55)]),op 57 (.bin .lss .int (tm 56) (ci (0))),op 58 (.un .not (tm 57))] [0,2,3,4,10,11,58] none)
 (.cond (tm 58) (.ret)
 (.skip)))
 (.seq (.par 24 [] [] [
 mv 59 0,mv 60 3,mv 61 10,op 62 (.bin .add .int (tm 60) (tm 61)),mv 63 0,mv 64 3,mv 65 11,op 66 (.bin .add .int (tm 64) (tm 65)),mv 67 0,mv 68 3,mv 69 11,op 70 (.bin .add .int (tm 68) (tm 69)),op 71 (.iaddr 8 (tm 67) (tm 70)),op 72 (.load (some 8) (tm 71)),mv 73 0,mv 74 3,mv 75 10,op 76 (.bin .add .int (tm 74) (tm 75)),op 77 (.iaddr 8 (tm 73) (tm 76)),op 78 (.load (some 8) (tm 77)),op 79 (.iaddr 8 (tm 59) (tm 62)),⟨none,.store 8 (tm 79) (tm 72),none⟩,op 80 (.iaddr 8 (tm 63) (tm 66)),⟨none,.store 8 (tm 80) (tm 78),none⟩] [0,2,3,4,11] none)
 (rg [mv 81 11,mv 10 81] [0,2,3,4,10]))))))

def c182 : ACode :=
 .seq (rg [mv 12 1,mv 10 12] [0,2,3,4,10])
 (.block 0 (.loop l182_0_h l182_0_b))

def a182 : AFunc := ⟨5,c182,[]⟩

def an182 : List RAnn := [
 ra 0 [0,2,3,4,10],rh 1 [0,2,3,4,10,11] [0,2,3,4,10],ra 2 [0,2,3,4,10,11,18],
 { id := 3,head := some 22,live := [0,2,3,4,10,11,40] },
 ra 4 [0,2,3,4,10,11],
 { id := 5,head := some 16,live := [0,2,3,4,10,11,58] },
 { id := 6,head := some 24,live := [0,2,3,4,11],par := true },
 ra 7 [0,2,3,4,10]]

theorem comp182 : compF Tryz.prog an182 Tryz.f182 = some a182 := by kernel_rfl

/- slices.nextPowerOfTwo -/
def c183 : ACode :=
 .seq (rg [op 2 (.mov (.cst (.int .u64 0)))] [0])
 (.seq (rg [mv 3 0,op 4 (.conv .u64 (tm 3)),op 5 (.call .pure 86 [(tm 4)]),op 6 (.bin .shl .int (.cst (.int .u64 1)) (tm 5)),mv 2 6] [2])
 (.ret))

def a183 : AFunc := ⟨1,c183,[.tmp 2]⟩

def an183 : List RAnn := [
 ra 0 [0],ra 1 [2]]

theorem comp183 : compF Tryz.prog an183 Tryz.f183 = some a183 := by kernel_rfl

/- (*slices.xorshift).Next -/
def c184 : ACode :=
 .seq (rg [op 2 (.mov (.cst (.int .u64 0)))] [0])
 (.seq (.region (some 9) [] [
 mv 3 0,op 4 (.nilchk (tm 3)),op 5 (.load none (tm 4)),mv 6 0,op 7 (.nilchk (tm 6)),op 8 (.load none (tm 7)),op 9 (.bin .shl .int (tm 8) (.cst (.int .u64 13))),op 10 (.bin .xor .int (tm 5) (tm 9)),op 11 (.nilchk (tm 3)),⟨none,.store 1 (tm 11) (tm 10),none⟩] [0] none)
 (.seq (.region (some 9) [] [
 mv 12 0,op 13 (.nilchk (tm 12)),op 14 (.load none (tm 13)),mv 15 0,op 16 (.nilchk (tm 15)),op 17 (.load none (tm 16)),op 18 (.bin .shr .int (tm 17) (.cst (.int .u64 7))),op 19 (.bin .xor .int (tm 14) (tm 18)),op 20 (.nilchk (tm 12)),⟨none,.store 1 (tm 20) (tm 19),none⟩] [0] none)
 (.seq (.region (some 9) [] [
 mv 21 0,op 22 (.nilchk (tm 21)),op 23 (.load none (tm 22)),mv 24 0,op 25 (.nilchk (tm 24)),op 26 (.load none (tm 25)),op 27 (.bin .shl .int (tm 26) (.cst (.int .u64 17))),op 28 (.bin .xor .int (tm 23) (tm 27)),op 29 (.nilchk (tm 21)),⟨none,.store 1 (tm 29) (tm 28),none⟩] [0] none)
 (.seq (rg [mv 30 0,op 31 (.nilchk (tm 30)),op 32 (.load none (tm 31)),mv 2 32] [2])
 (.ret)))))

def a184 : AFunc := ⟨1,c184,[.tmp 2]⟩

def an184 : List RAnn := [
 ra 0 [0],
 { id := 1,head := some 9,live := [0] },
 { id := 2,head := some 9,live := [0] },
 { id := 3,head := some 9,live := [0] },
 ra 4 [2]]

theorem comp184 : compF Tryz.prog an184 Tryz.f184 = some a184 := by kernel_rfl

/- slices.medianAdjacentCmpFunc[graphdb/api.Entry] -/
def c185 : ACode :=
 .seq (rg [op 8 (.mov (ci (0)))] [0,1,2,3])
 (.seq (rg [mv 9 0,mv 10 1,op 11 (.bin .sub .int (tm 10) (ci (1))),mv 12 1,mv 13 1,op 14 (.bin .add .int (tm 13) (ci (1))),mv 15 2,mv 16 3,op 17 (.call .share 186 [(tm 9),(tm 11),(tm 12),(tm 14),(tm 15),(tm 16)]),mv 8 17] [8])
 (.ret))

def a185 : AFunc := ⟨4,c185,[.tmp 8]⟩

def an185 : List RAnn := [
 ra 0 [0,1,2,3],
 { id := 1,live := [8],ops := [(8,.mode .share)] }]

theorem comp185 : compF Tryz.prog an185 Tryz.f185 = some a185 := by kernel_rfl

/- slices.medianCmpFunc[graphdb/api.Entry] -/
def c186 : ACode :=
 .seq (rg [op 12 (.mov (ci (0)))] [0,1,2,3,4,5])
 (.seq (rg [mv 14 0,mv 15 1,mv 16 2,mv 17 4,mv 18 5,op 19 (.call .share 232 [(tm 14),(tm 15),(tm 16),(tm 17),(tm 18)]),mv 13 19,op 20 (.ext (tm 13) 0),op 21 (.ext (tm 13) 1),mv 1 20,mv 2 21] [0,1,2,3,4,5])
 (.seq (rg [mv 23 0,mv 24 2,mv 25 3,mv 26 4,mv 27 5,op 28 (.call .share 232 [(tm 23),(tm 24),(tm 25),(tm 26),(tm 27)]),mv 22 28,op 29 (.ext (tm 22) 0),op 30 (.ext (tm 22) 1),mv 2 29,mv 3 30] [0,1,2,4,5])
 (.seq (rg [mv 32 0,mv 33 1,mv 34 2,mv 35 4,mv 36 5,op 37 (.call .share 232 [(tm 32),(tm 33),(tm 34),(tm 35),(tm 36)]),mv 31 37,op 38 (.ext (tm 31) 0),op 39 (.ext (tm 31) 1),mv 1 38,mv 2 39] [2])
 (.seq (rg [mv 40 2,mv 12 40] [12])
 (.ret)))))

def a186 : AFunc := ⟨6,c186,[.tmp 12]⟩

def an186 : List RAnn := [
 ra 0 [0,1,2,3,4,5],
 { id := 1,live := [0,1,2,3,4,5],ops := [(5,.mode .share)] },
 { id := 2,live := [0,1,2,4,5],ops := [(5,.mode .share)] },
 { id := 3,live := [2],ops := [(5,.mode .share)] },
 ra 4 [12]]

theorem comp186 : compF Tryz.prog an186 Tryz.f186 = some a186 := by kernel_rfl

/- slices.insertionSortOrdered[int] -/
/-- loop 0 of function 187 -/
def l187_0_h : List Nat := [0,1,2,6,7]

def l187_0_b : ACode :=
 .seq (.seq (.region (some 15) [] [
 mv 16 7,mv 17 1,op 18 (.bin .gtr .int (tm 16) (tm 17)),mv 19 18,mg 20 0 19 true,mg 21 7 19 true,⟨some 22,.iaddr 1 (tm 20) (tm 21),some (19,true)⟩,⟨some 23,.load none (tm 22),some (19,true)⟩,mg 24 0 19 true,mg 25 7 19 true,⟨some 26,.bin .sub .int (tm 25) (ci (1)),some (19,true)⟩,⟨some 27,.iaddr 1 (tm 24) (tm 26),some (19,true)⟩,⟨some 28,.load none (tm 27),some (19,true)⟩,⟨some 29,.call .pure 193 [(tm 23),(tm 28)],some (19,true)⟩,op 30 (.pick (tm 19) (tm 29) (.cst (.bool false)))] [0,1,2,6,7,30] none)
 (.cond (tm 30) (.skip)
 (.exit 2)))
 (.seq (.block 3 (.par 18 [] [] [
 mv 33 0,mv 34 7,mv 35 0,mv 36 7,op 37 (.bin .sub .int (tm 36) (ci (1))),mv 38 0,mv 39 7,op 40 (.bin .sub .int (tm 39) (ci (1))),op 41 (.iaddr 1 (tm 38) (tm 40)),op 42 (.load none (tm 41)),mv 43 0,mv 44 7,op 45 (.iaddr 1 (tm 43) (tm 44)),op 46 (.load none (tm 45)),op 47 (.iaddr 1 (tm 33) (tm 34)),⟨none,.store 1 (tm 47) (tm 42),none⟩,op 48 (.iaddr 1 (tm 35) (tm 37)),⟨none,.store 1 (tm 48) (tm 46),none⟩] [0,1,2,6,7] none))
 (rg [mv 31 7,op 32 (.bin .sub .int (tm 31) (ci (1))),mv 7 32] [0,1,2,6,7]))

/-- loop 1 of function 187 -/
def l187_1_h : List Nat := [0,1,2,6]

def l187_1_b : ACode :=
 .seq (.seq (rg [mv 10 6,mv 11 2,op 12 (.bin .lss .int (tm 10) (tm 11))] [0,1,2,6,12])
 (.cond (tm 12) (.skip)
 (.exit 0)))
 (.seq (.block 1 (.seq (rg [mv 15 6,mv 7 15] [0,1,2,6,7])
 (.block 2 (.loop l187_0_h l187_0_b))))
 (rg [mv 13 6,op 14 (.bin .add .int (tm 13) (ci (1))),mv 6 14] [0,1,2,6]))

def c187 : ACode :=
 .seq (rg [mv 8 1,op 9 (.bin .add .int (tm 8) (ci (1))),mv 6 9] [0,1,2,6])
 (.block 0 (.loop l187_1_h l187_1_b))

def a187 : AFunc := ⟨3,c187,[]⟩

def an187 : List RAnn := [
 ra 0 [0,1,2,6],rh 1 [0,1,2,6,12] [0,1,2,6],ra 3 [0,1,2,6,7],
 { id := 4,head := some 15,live := [0,1,2,6,7,30],hdr := [0,1,2,6,7] },
 { id := 6,head := some 18,live := [0,1,2,6,7],par := true },
 ra 5 [0,1,2,6,7],ra 2 [0,1,2,6]]

theorem comp187 : compF Tryz.prog an187 Tryz.f187 = some a187 := by kernel_rfl

/- slices.heapSortOrdered[int] -/
/-- loop 0 of function 188 -/
def l188_0_h : List Nat := [0,6,7,8,9]

def l188_0_b : ACode :=
 .seq (.seq (rg [mv 18 9,op 19 (.bin .geq .int (tm 18) (ci (0)))] [0,6,7,8,9,19])
 (.cond (tm 19) (.skip)
 (.exit 0)))
 (.seq (.block 1 (rg [mv 22 0,mv 23 9,mv 24 8,mv 25 6,op 26 (.call .share 233 [(tm 22),(tm 23),(tm 24),(tm 25)])] [0,6,7,8,9]))
 (rg [mv 20 9,op 21 (.bin .sub .int (tm 20) (ci (1))),mv 9 21] [0,6,7,8,9]))

/-- loop 1 of function 188 -/
def l188_1_h : List Nat := [0,6,7,10]

def l188_1_b : ACode :=
 .seq (.seq (rg [mv 29 10,op 30 (.bin .geq .int (tm 29) (ci (0)))] [0,6,7,10,30])
 (.cond (tm 30) (.skip)
 (.exit 2)))
 (.seq (.block 3 (.seq (.par 20 [] [] [
 mv 33 0,mv 34 6,mv 35 0,mv 36 6,mv 37 10,op 38 (.bin .add .int (tm 36) (tm 37)),mv 39 0,mv 40 6,mv 41 10,op 42 (.bin .add .int (tm 40) (tm 41)),op 43 (.iaddr 1 (tm 39) (tm 42)),op 44 (.load none (tm 43)),mv 45 0,mv 46 6,op 47 (.iaddr 1 (tm 45) (tm 46)),op 48 (.load none (tm 47)),op 49 (.iaddr 1 (tm 33) (tm 34)),⟨none,.store 1 (tm 49) (tm 44),none⟩,op 50 (.iaddr 1 (tm 35) (tm 38)),⟨none,.store 1 (tm 50) (tm 48),none⟩] [0,6,7,10] none)
 (rg [mv 51 0,mv 52 7,mv 53 10,mv 54 6,op 55 (.call .share 233 [(tm 51),(tm 52),(tm 53),(tm 54)])] [0,6,7,10])))
 (rg [mv 31 10,op 32 (.bin .sub .int (tm 31) (ci (1))),mv 10 32] [0,6,7,10]))

def c188 : ACode :=
 .seq (rg [mv 11 1,mv 6 11] [0,1,2,6])
 (.seq (rg [op 7 (.mov (ci (0)))] [0,1,2,6,7])
 (.seq (rg [mv 12 2,mv 13 1,op 14 (.bin .sub .int (tm 12) (tm 13)),mv 8 14] [0,6,7,8])
 (.seq (.seq (rg [mv 15 8,op 16 (.bin .sub .int (tm 15) (ci (1))),op 17 (.bin .quo .int (tm 16) (ci (2))),mv 9 17] [0,6,7,8,9])
 (.block 0 (.loop l188_0_h l188_0_b)))
 (.seq (rg [mv 27 8,op 28 (.bin .sub .int (tm 27) (ci (1))),mv 10 28] [0,6,7,10])
 (.block 2 (.loop l188_1_h l188_1_b))))))

def a188 : AFunc := ⟨3,c188,[]⟩

def an188 : List RAnn := [
 ra 0 [0,1,2,6],ra 1 [0,1,2,6,7],ra 2 [0,6,7,8],ra 3 [0,6,7,8,9],rh 4 [0,6,7,8,9,19] [0,6,7,8,9],
 { id := 6,live := [0,6,7,8,9],ops := [(4,.mode .share)] },
 ra 5 [0,6,7,8,9],ra 7 [0,6,7,10],rh 8 [0,6,7,10,30] [0,6,7,10],
 { id := 10,head := some 20,live := [0,6,7,10],par := true },
 { id := 11,live := [0,6,7,10],ops := [(4,.mode .share)] },
 ra 9 [0,6,7,10]]

theorem comp188 : compF Tryz.prog an188 Tryz.f188 = some a188 := by kernel_rfl

/- slices.breakPatternsOrdered[int] -/
/-- loop 0 of function 189 -/
def l189_0_h : List Nat := [0,1,6,7,8,9]

def l189_0_b : ACode :=
 .seq (.seq (rg [mv 26 9,mv 27 1,mv 28 6,op 29 (.bin .quo .int (tm 28) (ci (4))),op 30 (.bin .mul .int (tm 29) (ci (2))),op 31 (.bin .add .int (tm 27) (tm 30)),op 32 (.bin .add .int (tm 31) (ci (1))),op 33 (.bin .leq .int (tm 26) (tm 32))] [0,1,6,7,8,9,33])
 (.cond (tm 33) (.skip)
 (.exit 0)))
 (.seq (.block 1 (.seq (rg [op 36 (.call .share 184 [(tm 7)]),mv 37 8,op 38 (.bin .sub .int (tm 37) (.cst (.int .u64 1))),op 39 (.bin .and .int (tm 36) (tm 38)),op 40 (.conv .i64 (tm 39)),mv 10 40] [0,1,6,7,8,9,10])
 (.seq (.seq (rg [mv 41 10,mv 42 6,op 43 (.bin .geq .int (tm 41) (tm 42))] [0,1,6,7,8,9,10,43])
 (.cond (tm 43) (rg [mv 44 10,mv 45 6,op 46 (.bin .sub .int (tm 44) (tm 45)),mv 10 46] [0,1,6,7,8,9,10])
 (.skip)))
 (.par 20 [] [] [
 mv 47 0,mv 48 9,mv 49 0,mv 50 1,mv 51 10,op 52 (.bin .add .int (tm 50) (tm 51)),mv 53 0,mv 54 1,mv 55 10,op 56 (.bin .add .int (tm 54) (tm 55)),op 57 (.iaddr 1 (tm 53) (tm 56)),op 58 (.load none (tm 57)),mv 59 0,mv 60 9,op 61 (.iaddr 1 (tm 59) (tm 60)),op 62 (.load none (tm 61)),op 63 (.iaddr 1 (tm 47) (tm 48)),⟨none,.store 1 (tm 63) (tm 58),none⟩,op 64 (.iaddr 1 (tm 49) (tm 52)),⟨none,.store 1 (tm 64) (tm 62),none⟩] [0,1,6,7,8,9] none))))
 (rg [mv 34 9,op 35 (.bin .add .int (tm 34) (ci (1))),mv 9 35] [0,1,6,7,8,9]))

def c189 : ACode :=
 .seq (rg [mv 11 2,mv 12 1,op 13 (.bin .sub .int (tm 11) (tm 12)),mv 6 13] [0,1,6])
 (.seq (rg [mv 14 6,op 15 (.bin .geq .int (tm 14) (ci (8)))] [0,1,6,15])
 (.cond (tm 15) (.seq (rg [mv 16 6,op 17 (.conv .u64 (tm 16)),op 7 (.alloc 1 (.int .u64 0)),⟨none,.store 1 (tm 7) (tm 17),none⟩] [0,1,6,7])
 (.seq (rg [mv 18 6,op 19 (.call .pure 183 [(tm 18)]),mv 8 19] [0,1,6,7,8])
 (.seq (rg [mv 20 1,mv 21 6,op 22 (.bin .quo .int (tm 21) (ci (4))),op 23 (.bin .mul .int (tm 22) (ci (2))),op 24 (.bin .add .int (tm 20) (tm 23)),op 25 (.bin .sub .int (tm 24) (ci (1))),mv 9 25] [0,1,6,7,8,9])
 (.block 0 (.loop l189_0_h l189_0_b)))))
 (.skip)))

def a189 : AFunc := ⟨3,c189,[]⟩

def an189 : List RAnn := [
 ra 0 [0,1,6],ra 1 [0,1,6,15],ra 2 [0,1,6,7],ra 3 [0,1,6,7,8],ra 4 [0,1,6,7,8,9],rh 5 [0,1,6,7,8,9,33] [0,1,6,7,8,9],
 { id := 7,live := [0,1,6,7,8,9,10],ops := [(0,.mode .share)] },
 ra 8 [0,1,6,7,8,9,10,43],ra 9 [0,1,6,7,8,9,10],
 { id := 10,head := some 20,live := [0,1,6,7,8,9],par := true },
 ra 6 [0,1,6,7,8,9]]

theorem comp189 : compF Tryz.prog an189 Tryz.f189 = some a189 := by kernel_rfl

/- slices.choosePivotOrdered[int] -/
def c190 : ACode :=
 .seq (rg [op 6 (.mov (ci (0))),op 7 (.mov (ci (0)))] [0,1,2])
 (.seq (rg [mv 13 2,mv 14 1,op 15 (.bin .sub .int (tm 13) (tm 14)),mv 8 15] [0,1,8])
 (.seq (rg [op 9 (.alloc 1 (.int .i64 0))] [0,1,8,9])
 (.seq (rg [mv 16 1,mv 17 8,op 18 (.bin .quo .int (tm 17) (ci (4))),op 19 (.bin .mul .int (tm 18) (ci (1))),op 20 (.bin .add .int (tm 16) (tm 19)),mv 10 20] [0,1,8,9,10])
 (.seq (rg [mv 21 1,mv 22 8,op 23 (.bin .quo .int (tm 22) (ci (4))),op 24 (.bin .mul .int (tm 23) (ci (2))),op 25 (.bin .add .int (tm 21) (tm 24)),mv 11 25] [0,1,8,9,10,11])
 (.seq (rg [mv 26 1,mv 27 8,op 28 (.bin .quo .int (tm 27) (ci (4))),op 29 (.bin .mul .int (tm 28) (ci (3))),op 30 (.bin .add .int (tm 26) (tm 29)),mv 12 30] [0,8,9,10,11,12])
 (.seq (.seq (rg [mv 31 8,op 32 (.bin .geq .int (tm 31) (ci (8)))] [0,8,9,10,11,12,32])
 (.cond (tm 32) (.seq (.seq (rg [mv 33 8,op 34 (.bin .geq .int (tm 33) (ci (50)))] [0,9,10,11,12,34])
 (.cond (tm 34) (.seq (rg [mv 35 0,mv 36 10,op 37 (.call .share 234 [(tm 35),(tm 36),(tm 9)]),mv 10 37] [0,9,10,11,12])
 (.seq (rg [mv 38 0,mv 39 11,op 40 (.call .share 234 [(tm 38),(tm 39),(tm 9)]),mv 11 40] [0,9,10,11,12])
 (rg [mv 41 0,mv 42 12,op 43 (.call .share 234 [(tm 41),(tm 42),(tm 9)]),mv 12 43] [0,9,10,11,12])))
 (.skip)))
 (rg [mv 44 0,mv 45 10,mv 46 11,mv 47 12,op 48 (.call .share 235 [(tm 44),(tm 45),(tm 46),(tm 47),(tm 9)]),mv 11 48] [9,11]))
 (.skip)))
 (.seq (rg [op 49 (.load none (tm 9))] [11,49])
 (.block 0 (.seq (rg [op 52 (.bin .eql .int (tm 49) (ci (0))),mv 51 52] [11,49,51])
 (.cond (tm 51) (.seq (rg [mv 53 11,mv 6 53,op 7 (.mov (ci (1)))] [6,7])
 (.ret))
 (.seq (rg [op 55 (.bin .eql .int (tm 49) (ci (12))),mv 54 55] [11,54])
 (.cond (tm 54) (.seq (rg [mv 56 11,mv 6 56,op 7 (.mov (ci (2)))] [6,7])
 (.ret))
 (.seq (rg [mv 50 11,mv 6 50,op 7 (.mov (ci (0)))] [6,7])
 (.ret))))))))))))))

def a190 : AFunc := ⟨3,c190,[.tmp 6,.tmp 7]⟩

def an190 : List RAnn := [
 ra 0 [0,1,2],ra 1 [0,1,8],ra 2 [0,1,8,9],ra 3 [0,1,8,9,10],ra 4 [0,1,8,9,10,11],ra 5 [0,8,9,10,11,12],ra 6 [0,8,9,10,11,12,32],ra 7 [0,9,10,11,12,34],
 { id := 8,live := [0,9,10,11,12],ops := [(2,.mode .share)] },
 { id := 9,live := [0,9,10,11,12],ops := [(2,.mode .share)] },
 { id := 10,live := [0,9,10,11,12],ops := [(2,.mode .share)] },
 { id := 11,live := [9,11],ops := [(4,.mode .share)] },
 ra 12 [11,49],ra 14 [11,49,51],ra 15 [6,7],ra 16 [11,54],ra 17 [6,7],ra 13 [6,7]]

theorem comp190 : compF Tryz.prog an190 Tryz.f190 = some a190 := by kernel_rfl

/- slices.reverseRangeOrdered[int] -/
/-- loop 0 of function 191 -/
def l191_0_h : List Nat := [0,6,7]

def l191_0_b : ACode :=
 .seq (.seq (rg [mv 11 6,mv 12 7,op 13 (.bin .lss .int (tm 11) (tm 12))] [0,6,7,13])
 (.cond (tm 13) (.skip)
 (.exit 0)))
 (.block 1 (.seq (.par 16 [] [] [
 mv 14 0,mv 15 6,mv 16 0,mv 17 7,mv 18 0,mv 19 7,op 20 (.iaddr 1 (tm 18) (tm 19)),op 21 (.load none (tm 20)),mv 22 0,mv 23 6,op 24 (.iaddr 1 (tm 22) (tm 23)),op 25 (.load none (tm 24)),op 26 (.iaddr 1 (tm 14) (tm 15)),⟨none,.store 1 (tm 26) (tm 21),none⟩,op 27 (.iaddr 1 (tm 16) (tm 17)),⟨none,.store 1 (tm 27) (tm 25),none⟩] [0,6,7] none)
 (.seq (rg [mv 28 6,op 29 (.bin .add .int (tm 28) (ci (1))),mv 6 29] [0,6,7])
 (rg [mv 30 7,op 31 (.bin .sub .int (tm 30) (ci (1))),mv 7 31] [0,6,7]))))

def c191 : ACode :=
 .seq (rg [mv 8 1,mv 6 8] [0,2,6])
 (.seq (rg [mv 9 2,op 10 (.bin .sub .int (tm 9) (ci (1))),mv 7 10] [0,6,7])
 (.block 0 (.loop l191_0_h l191_0_b)))

def a191 : AFunc := ⟨3,c191,[]⟩

def an191 : List RAnn := [
 ra 0 [0,2,6],ra 1 [0,6,7],rh 2 [0,6,7,13] [0,6,7],
 { id := 3,head := some 16,live := [0,6,7],par := true },
 ra 4 [0,6,7],ra 5 [0,6,7]]

theorem comp191 : compF Tryz.prog an191 Tryz.f191 = some a191 := by kernel_rfl

/- slices.partialInsertionSortOrdered[int] -/
/-- loop 0 of function 192 -/
def l192_0_h : List Nat := [0,1,2,7,8]

def l192_0_b : ACode :=
 .seq (.seq (.region (some 16) [] [
 mv 17 7,mv 18 2,op 19 (.bin .lss .int (tm 17) (tm 18)),mv 20 19,mg 21 0 20 true,mg 22 7 20 true,⟨some 23,.iaddr 1 (tm 21) (tm 22),some (20,true)⟩,⟨some 24,.load none (tm 23),some (20,true)⟩,mg 25 0 20 true,mg 26 7 20 true,⟨some 27,.bin .sub .int (tm 26) (ci (1)),some (20,true)⟩,⟨some 28,.iaddr 1 (tm 25) (tm 27),some (20,true)⟩,⟨some 29,.load none (tm 28),some (20,true)⟩,⟨some 30,.call .pure 193 [(tm 24),(tm 29)],some (20,true)⟩,⟨some 31,.un .not (tm 30),some (20,true)⟩,op 32 (.pick (tm 20) (tm 31) (.cst (.bool false)))] [0,1,2,7,8,32] none)
 (.cond (tm 32) (.skip)
 (.exit 2)))
 (.block 3 (rg [mv 33 7,op 34 (.bin .add .int (tm 33) (ci (1))),mv 7 34] [0,1,2,7,8]))

/-- loop 1 of function 192 -/
def l192_1_h : List Nat := [0,1,2,7,8,9]

def l192_1_b : ACode :=
 .seq (.seq (rg [mv 64 9,op 65 (.bin .geq .int (tm 64) (ci (1)))] [0,1,2,7,8,9,65])
 (.cond (tm 65) (.skip)
 (.exit 4)))
 (.seq (.block 5 (.seq (.seq (.region (some 11) [] [
 mv 68 0,mv 69 9,op 70 (.iaddr 1 (tm 68) (tm 69)),op 71 (.load none (tm 70)),mv 72 0,mv 73 9,op 74 (.bin .sub .int (tm 73) (ci (1))),op 75 (.iaddr 1 (tm 72) (tm 74)),op 76 (.load none (tm 75)),op 77 (.call .pure 193 [(tm 71),(tm 76)]),op 78 (.un .not (tm 77))] [0,1,2,7,8,9,78] none)
 (.cond (tm 78) (.exit 4)
 (.skip)))
 (.par 18 [] [] [
 mv 79 0,mv 80 9,mv 81 0,mv 82 9,op 83 (.bin .sub .int (tm 82) (ci (1))),mv 84 0,mv 85 9,op 86 (.bin .sub .int (tm 85) (ci (1))),op 87 (.iaddr 1 (tm 84) (tm 86)),op 88 (.load none (tm 87)),mv 89 0,mv 90 9,op 91 (.iaddr 1 (tm 89) (tm 90)),op 92 (.load none (tm 91)),op 93 (.iaddr 1 (tm 79) (tm 80)),⟨none,.store 1 (tm 93) (tm 88),none⟩,op 94 (.iaddr 1 (tm 81) (tm 83)),⟨none,.store 1 (tm 94) (tm 92),none⟩] [0,1,2,7,8,9] none)))
 (rg [mv 66 9,op 67 (.bin .sub .int (tm 66) (ci (1))),mv 9 67] [0,1,2,7,8,9]))

/-- loop 2 of function 192 -/
def l192_2_h : List Nat := [0,1,2,7,8,10]

def l192_2_b : ACode :=
 .seq (.seq (rg [mv 101 10,mv 102 2,op 103 (.bin .lss .int (tm 101) (tm 102))] [0,1,2,7,8,10,103])
 (.cond (tm 103) (.skip)
 (.exit 6)))
 (.seq (.block 7 (.seq (.seq (.region (some 11) [] [
 mv 106 0,mv 107 10,op 108 (.iaddr 1 (tm 106) (tm 107)),op 109 (.load none (tm 108)),mv 110 0,mv 111 10,op 112 (.bin .sub .int (tm 111) (ci (1))),op 113 (.iaddr 1 (tm 110) (tm 112)),op 114 (.load none (tm 113)),op 115 (.call .pure 193 [(tm 109),(tm 114)]),op 116 (.un .not (tm 115))] [0,1,2,7,8,10,116] none)
 (.cond (tm 116) (.exit 6)
 (.skip)))
 (.par 18 [] [] [
 mv 117 0,mv 118 10,mv 119 0,mv 120 10,op 121 (.bin .sub .int (tm 120) (ci (1))),mv 122 0,mv 123 10,op 124 (.bin .sub .int (tm 123) (ci (1))),op 125 (.iaddr 1 (tm 122) (tm 124)),op 126 (.load none (tm 125)),mv 127 0,mv 128 10,op 129 (.iaddr 1 (tm 127) (tm 128)),op 130 (.load none (tm 129)),op 131 (.iaddr 1 (tm 117) (tm 118)),⟨none,.store 1 (tm 131) (tm 126),none⟩,op 132 (.iaddr 1 (tm 119) (tm 121)),⟨none,.store 1 (tm 132) (tm 130),none⟩] [0,1,2,7,8,10] none)))
 (rg [mv 104 10,op 105 (.bin .add .int (tm 104) (ci (1))),mv 10 105] [0,1,2,7,8,10]))

/-- loop 3 of function 192 -/
def l192_3_h : List Nat := [0,1,2,7,8]

def l192_3_b : ACode :=
 .seq (.seq (rg [mv 13 8,op 14 (.bin .lss .int (tm 13) (ci (5)))] [0,1,2,7,8,14])
 (.cond (tm 14) (.skip)
 (.exit 0)))
 (.seq (.block 1 (.seq (.block 2 (.loop l192_0_h l192_0_b))
 (.seq (.seq (rg [mv 35 7,mv 36 2,op 37 (.bin .eql .int (tm 35) (tm 36))] [0,1,2,7,8,37])
 (.cond (tm 37) (.seq (rg [op 6 (.mov (.cst (.bool true)))] [6])
 (.ret))
 (.skip)))
 (.seq (.seq (rg [mv 38 2,mv 39 1,op 40 (.bin .sub .int (tm 38) (tm 39)),op 41 (.bin .lss .int (tm 40) (ci (50)))] [0,1,2,7,8,41])
 (.cond (tm 41) (.seq (rg [op 6 (.mov (.cst (.bool false)))] [6])
 (.ret))
 (.skip)))
 (.seq (.par 18 [] [] [
 mv 42 0,mv 43 7,mv 44 0,mv 45 7,op 46 (.bin .sub .int (tm 45) (ci (1))),mv 47 0,mv 48 7,op 49 (.bin .sub .int (tm 48) (ci (1))),op 50 (.iaddr 1 (tm 47) (tm 49)),op 51 (.load none (tm 50)),mv 52 0,mv 53 7,op 54 (.iaddr 1 (tm 52) (tm 53)),op 55 (.load none (tm 54)),op 56 (.iaddr 1 (tm 42) (tm 43)),⟨none,.store 1 (tm 56) (tm 51),none⟩,op 57 (.iaddr 1 (tm 44) (tm 46)),⟨none,.store 1 (tm 57) (tm 55),none⟩] [0,1,2,7,8] none)
 (.seq (.seq (rg [mv 58 7,mv 59 1,op 60 (.bin .sub .int (tm 58) (tm 59)),op 61 (.bin .geq .int (tm 60) (ci (2)))] [0,1,2,7,8,61])
 (.cond (tm 61) (.seq (rg [mv 62 7,op 63 (.bin .sub .int (tm 62) (ci (1))),mv 9 63] [0,1,2,7,8,9])
 (.block 4 (.loop l192_1_h l192_1_b)))
 (.skip)))
 (.seq (rg [mv 95 2,mv 96 7,op 97 (.bin .sub .int (tm 95) (tm 96)),op 98 (.bin .geq .int (tm 97) (ci (2)))] [0,1,2,7,8,98])
 (.cond (tm 98) (.seq (rg [mv 99 7,op 100 (.bin .add .int (tm 99) (ci (1))),mv 10 100] [0,1,2,7,8,10])
 (.block 6 (.loop l192_2_h l192_2_b)))
 (.skip)))))))))
 (rg [mv 15 8,op 16 (.bin .add .int (tm 15) (ci (1))),mv 8 16] [0,1,2,7,8]))

def c192 : ACode :=
 .seq (rg [op 6 (.mov (.cst (.bool false)))] [0,1,2])
 (.seq (rg [mv 11 1,op 12 (.bin .add .int (tm 11) (ci (1))),mv 7 12] [0,1,2,7])
 (.seq (.seq (rg [op 8 (.mov (ci (0)))] [0,1,2,7,8])
 (.block 0 (.loop l192_3_h l192_3_b)))
 (.seq (rg [op 6 (.mov (.cst (.bool false)))] [6])
 (.ret))))

def a192 : AFunc := ⟨3,c192,[.tmp 6]⟩

def an192 : List RAnn := [
 ra 0 [0,1,2],ra 1 [0,1,2,7],ra 2 [0,1,2,7,8],rh 3 [0,1,2,7,8,14] [0,1,2,7,8],
 { id := 5,head := some 16,live := [0,1,2,7,8,32],hdr := [0,1,2,7,8] },
 ra 6 [0,1,2,7,8],ra 7 [0,1,2,7,8,37],ra 8 [6],ra 9 [0,1,2,7,8,41],ra 10 [6],
 { id := 11,head := some 18,live := [0,1,2,7,8],par := true },
 ra 12 [0,1,2,7,8,61],ra 13 [0,1,2,7,8,9],rh 14 [0,1,2,7,8,9,65] [0,1,2,7,8,9],
 { id := 16,head := some 11,live := [0,1,2,7,8,9,78] },
 { id := 17,head := some 18,live := [0,1,2,7,8,9],par := true },
 ra 15 [0,1,2,7,8,9],ra 18 [0,1,2,7,8,98],ra 19 [0,1,2,7,8,10],rh 20 [0,1,2,7,8,10,103] [0,1,2,7,8,10],
 { id := 22,head := some 11,live := [0,1,2,7,8,10,116] },
 { id := 23,head := some 18,live := [0,1,2,7,8,10],par := true },
 ra 21 [0,1,2,7,8,10],ra 4 [0,1,2,7,8],ra 24 [6]]

theorem comp192 : compF Tryz.prog an192 Tryz.f192 = some a192 := by kernel_rfl

/- cmp.Less[int] -/
def c193 : ACode :=
 .seq (rg [op 4 (.mov (.cst (.bool false)))] [0,1])
 (.seq (rg [mv 5 0,op 6 (.call .pure 97 [(tm 5)]),mv 7 6,mg 8 1 7 true,⟨some 9,.call .pure 97 [(tm 8)],some (7,true)⟩,⟨some 10,.un .not (tm 9),some (7,true)⟩,op 11 (.pick (tm 7) (tm 10) (.cst (.bool false))),mv 12 11,mg 13 0 12 false,mg 14 1 12 false,⟨some 15,.bin .lss .int (tm 13) (tm 14),some (12,false)⟩,op 16 (.pick (tm 12) (.cst (.bool true)) (tm 15)),mv 4 16] [4])
 (.ret))

def a193 : AFunc := ⟨2,c193,[.tmp 4]⟩

def an193 : List RAnn := [
 ra 0 [0,1],ra 1 [4]]

theorem comp193 : compF Tryz.prog an193 Tryz.f193 = some a193 := by kernel_rfl

/- slices.partitionEqualOrdered[int] -/
/-- loop 0 of function 194 -/
def l194_0_h : List Nat := [0,1,9,10]

def l194_0_b : ACode :=
 .seq (.seq (.region (some 15) [] [
 mv 29 9,mv 30 10,op 31 (.bin .leq .int (tm 29) (tm 30)),mv 32 31,mg 33 0 32 true,mg 34 1 32 true,⟨some 35,.iaddr 1 (tm 33) (tm 34),some (32,true)⟩,⟨some 36,.load none (tm 35),some (32,true)⟩,mg 37 0 32 true,mg 38 9 32 true,⟨some 39,.iaddr 1 (tm 37) (tm 38),some (32,true)⟩,⟨some 40,.load none (tm 39),some (32,true)⟩,⟨some 41,.call .pure 193 [(tm 36),(tm 40)],some (32,true)⟩,⟨some 42,.un .not (tm 41),some (32,true)⟩,op 43 (.pick (tm 32) (tm 42) (.cst (.bool false)))] [0,1,9,10,43] none)
 (.cond (tm 43) (.skip)
 (.exit 2)))
 (.block 3 (rg [mv 44 9,op 45 (.bin .add .int (tm 44) (ci (1))),mv 9 45] [0,1,9,10]))

/-- loop 1 of function 194 -/
def l194_1_h : List Nat := [0,1,9,10]

def l194_1_b : ACode :=
 .seq (.seq (.region (some 14) [] [
 mv 46 9,mv 47 10,op 48 (.bin .leq .int (tm 46) (tm 47)),mv 49 48,mg 50 0 49 true,mg 51 1 49 true,⟨some 52,.iaddr 1 (tm 50) (tm 51),some (49,true)⟩,⟨some 53,.load none (tm 52),some (49,true)⟩,mg 54 0 49 true,mg 55 10 49 true,⟨some 56,.iaddr 1 (tm 54) (tm 55),some (49,true)⟩,⟨some 57,.load none (tm 56),some (49,true)⟩,⟨some 58,.call .pure 193 [(tm 53),(tm 57)],some (49,true)⟩,op 59 (.pick (tm 49) (tm 58) (.cst (.bool false)))] [0,1,9,10,59] none)
 (.cond (tm 59) (.skip)
 (.exit 4)))
 (.block 5 (rg [mv 60 10,op 61 (.bin .sub .int (tm 60) (ci (1))),mv 10 61] [0,1,9,10]))

/-- loop 2 of function 194 -/
def l194_2_h : List Nat := [0,1,9,10]

def l194_2_b : ACode :=
 .block 1 (.seq (.block 2 (.loop l194_0_h l194_0_b))
 (.seq (.block 4 (.loop l194_1_h l194_1_b))
 (.seq (.seq (rg [mv 62 9,mv 63 10,op 64 (.bin .gtr .int (tm 62) (tm 63))] [0,1,9,10,64])
 (.cond (tm 64) (.exit 0)
 (.skip)))
 (.seq (.par 16 [] [] [
 mv 65 0,mv 66 9,mv 67 0,mv 68 10,mv 69 0,mv 70 10,op 71 (.iaddr 1 (tm 69) (tm 70)),op 72 (.load none (tm 71)),mv 73 0,mv 74 9,op 75 (.iaddr 1 (tm 73) (tm 74)),op 76 (.load none (tm 75)),op 77 (.iaddr 1 (tm 65) (tm 66)),⟨none,.store 1 (tm 77) (tm 72),none⟩,op 78 (.iaddr 1 (tm 67) (tm 68)),⟨none,.store 1 (tm 78) (tm 76),none⟩] [0,1,9,10] none)
 (.seq (rg [mv 79 9,op 80 (.bin .add .int (tm 79) (ci (1))),mv 9 80] [0,1,9,10])
 (rg [mv 81 10,op 82 (.bin .sub .int (tm 81) (ci (1))),mv 10 82] [0,1,9,10]))))))

def c194 : ACode :=
 .seq (rg [op 8 (.mov (ci (0)))] [0,1,2,3])
 (.seq (.par 16 [] [] [
 mv 11 0,mv 12 1,mv 13 0,mv 14 3,mv 15 0,mv 16 3,op 17 (.iaddr 1 (tm 15) (tm 16)),op 18 (.load none (tm 17)),mv 19 0,mv 20 1,op 21 (.iaddr 1 (tm 19) (tm 20)),op 22 (.load none (tm 21)),op 23 (.iaddr 1 (tm 11) (tm 12)),⟨none,.store 1 (tm 23) (tm 18),none⟩,op 24 (.iaddr 1 (tm 13) (tm 14)),⟨none,.store 1 (tm 24) (tm 22),none⟩] [0,1,2] none)
 (.seq (rg [mv 25 1,op 26 (.bin .add .int (tm 25) (ci (1))),mv 27 2,op 28 (.bin .sub .int (tm 27) (ci (1))),mv 9 26,mv 10 28] [0,1,9,10])
 (.seq (.block 0 (.loop l194_2_h l194_2_b))
 (.seq (rg [mv 83 9,mv 8 83] [8])
 (.ret)))))

def a194 : AFunc := ⟨4,c194,[.tmp 8]⟩

def an194 : List RAnn := [
 ra 0 [0,1,2,3],
 { id := 1,head := some 16,live := [0,1,2],par := true },
 ra 2 [0,1,9,10],
 { id := 3,head := some 15,live := [0,1,9,10,43],hdr := [0,1,9,10] },
 ra 4 [0,1,9,10],
 { id := 5,head := some 14,live := [0,1,9,10,59],hdr := [0,1,9,10] },
 ra 6 [0,1,9,10],ra 7 [0,1,9,10,64],
 { id := 8,head := some 16,live := [0,1,9,10],par := true },
 ra 9 [0,1,9,10],ra 10 [0,1,9,10],ra 11 [8]]

theorem comp194 : compF Tryz.prog an194 Tryz.f194 = some a194 := by kernel_rfl

/- slices.partitionOrdered[int] -/
/-- loop 0 of function 195 -/
def l195_0_h : List Nat := [0,1,10,11]

def l195_0_b : ACode :=
 .seq (.seq (.region (some 14) [] [
 mv 30 10,mv 31 11,op 32 (.bin .leq .int (tm 30) (tm 31)),mv 33 32,mg 34 0 33 true,mg 35 10 33 true,⟨some 36,.iaddr 1 (tm 34) (tm 35),some (33,true)⟩,⟨some 37,.load none (tm 36),some (33,true)⟩,mg 38 0 33 true,mg 39 1 33 true,⟨some 40,.iaddr 1 (tm 38) (tm 39),some (33,true)⟩,⟨some 41,.load none (tm 40),some (33,true)⟩,⟨some 42,.call .pure 193 [(tm 37),(tm 41)],some (33,true)⟩,op 43 (.pick (tm 33) (tm 42) (.cst (.bool false)))] [0,1,10,11,43] none)
 (.cond (tm 43) (.skip)
 (.exit 0)))
 (.block 1 (rg [mv 44 10,op 45 (.bin .add .int (tm 44) (ci (1))),mv 10 45] [0,1,10,11]))

/-- loop 1 of function 195 -/
def l195_1_h : List Nat := [0,1,10,11]

def l195_1_b : ACode :=
 .seq (.seq (.region (some 15) [] [
 mv 46 10,mv 47 11,op 48 (.bin .leq .int (tm 46) (tm 47)),mv 49 48,mg 50 0 49 true,mg 51 11 49 true,⟨some 52,.iaddr 1 (tm 50) (tm 51),some (49,true)⟩,⟨some 53,.load none (tm 52),some (49,true)⟩,mg 54 0 49 true,mg 55 1 49 true,⟨some 56,.iaddr 1 (tm 54) (tm 55),some (49,true)⟩,⟨some 57,.load none (tm 56),some (49,true)⟩,⟨some 58,.call .pure 193 [(tm 53),(tm 57)],some (49,true)⟩,⟨some 59,.un .not (tm 58),some (49,true)⟩,op 60 (.pick (tm 49) (tm 59) (.cst (.bool false)))] [0,1,10,11,60] none)
 (.cond (tm 60) (.skip)
 (.exit 2)))
 (.block 3 (rg [mv 61 11,op 62 (.bin .sub .int (tm 61) (ci (1))),mv 11 62] [0,1,10,11]))

/-- loop 2 of function 195 -/
def l195_2_h : List Nat := [0,1,10,11]

def l195_2_b : ACode :=
 .seq (.seq (.region (some 14) [] [
 mv 99 10,mv 100 11,op 101 (.bin .leq .int (tm 99) (tm 100)),mv 102 101,mg 103 0 102 true,mg 104 10 102 true,⟨some 105,.iaddr 1 (tm 103) (tm 104),some (102,true)⟩,⟨some 106,.load none (tm 105),some (102,true)⟩,mg 107 0 102 true,mg 108 1 102 true,⟨some 109,.iaddr 1 (tm 107) (tm 108),some (102,true)⟩,⟨some 110,.load none (tm 109),some (102,true)⟩,⟨some 111,.call .pure 193 [(tm 106),(tm 110)],some (102,true)⟩,op 112 (.pick (tm 102) (tm 111) (.cst (.bool false)))] [0,1,10,11,112] none)
 (.cond (tm 112) (.skip)
 (.exit 6)))
 (.block 7 (rg [mv 113 10,op 114 (.bin .add .int (tm 113) (ci (1))),mv 10 114] [0,1,10,11]))

/-- loop 3 of function 195 -/
def l195_3_h : List Nat := [0,1,10,11]

def l195_3_b : ACode :=
 .seq (.seq (.region (some 15) [] [
 mv 115 10,mv 116 11,op 117 (.bin .leq .int (tm 115) (tm 116)),mv 118 117,mg 119 0 118 true,mg 120 11 118 true,⟨some 121,.iaddr 1 (tm 119) (tm 120),some (118,true)⟩,⟨some 122,.load none (tm 121),some (118,true)⟩,mg 123 0 118 true,mg 124 1 118 true,⟨some 125,.iaddr 1 (tm 123) (tm 124),some (118,true)⟩,⟨some 126,.load none (tm 125),some (118,true)⟩,⟨some 127,.call .pure 193 [(tm 122),(tm 126)],some (118,true)⟩,⟨some 128,.un .not (tm 127),some (118,true)⟩,op 129 (.pick (tm 118) (tm 128) (.cst (.bool false)))] [0,1,10,11,129] none)
 (.cond (tm 129) (.skip)
 (.exit 8)))
 (.block 9 (rg [mv 130 11,op 131 (.bin .sub .int (tm 130) (ci (1))),mv 11 131] [0,1,10,11]))

/-- loop 4 of function 195 -/
def l195_4_h : List Nat := [0,1,10,11]

def l195_4_b : ACode :=
 .block 5 (.seq (.block 6 (.loop l195_2_h l195_2_b))
 (.seq (.block 8 (.loop l195_3_h l195_3_b))
 (.seq (.seq (rg [mv 132 10,mv 133 11,op 134 (.bin .gtr .int (tm 132) (tm 133))] [0,1,10,11,134])
 (.cond (tm 134) (.exit 4)
 (.skip)))
 (.seq (.par 16 [] [] [
 mv 135 0,mv 136 10,mv 137 0,mv 138 11,mv 139 0,mv 140 11,op 141 (.iaddr 1 (tm 139) (tm 140)),op 142 (.load none (tm 141)),mv 143 0,mv 144 10,op 145 (.iaddr 1 (tm 143) (tm 144)),op 146 (.load none (tm 145)),op 147 (.iaddr 1 (tm 135) (tm 136)),⟨none,.store 1 (tm 147) (tm 142),none⟩,op 148 (.iaddr 1 (tm 137) (tm 138)),⟨none,.store 1 (tm 148) (tm 146),none⟩] [0,1,10,11] none)
 (.seq (rg [mv 149 10,op 150 (.bin .add .int (tm 149) (ci (1))),mv 10 150] [0,1,10,11])
 (rg [mv 151 11,op 152 (.bin .sub .int (tm 151) (ci (1))),mv 11 152] [0,1,10,11]))))))

def c195 : ACode :=
 .seq (rg [op 8 (.mov (ci (0))),op 9 (.mov (.cst (.bool false)))] [0,1,2,3])
 (.seq (.par 16 [] [] [
 mv 12 0,mv 13 1,mv 14 0,mv 15 3,mv 16 0,mv 17 3,op 18 (.iaddr 1 (tm 16) (tm 17)),op 19 (.load none (tm 18)),mv 20 0,mv 21 1,op 22 (.iaddr 1 (tm 20) (tm 21)),op 23 (.load none (tm 22)),op 24 (.iaddr 1 (tm 12) (tm 13)),⟨none,.store 1 (tm 24) (tm 19),none⟩,op 25 (.iaddr 1 (tm 14) (tm 15)),⟨none,.store 1 (tm 25) (tm 23),none⟩] [0,1,2] none)
 (.seq (rg [mv 26 1,op 27 (.bin .add .int (tm 26) (ci (1))),mv 28 2,op 29 (.bin .sub .int (tm 28) (ci (1))),mv 10 27,mv 11 29] [0,1,10,11])
 (.seq (.block 0 (.loop l195_0_h l195_0_b))
 (.seq (.block 2 (.loop l195_1_h l195_1_b))
 (.seq (.seq (rg [mv 63 10,mv 64 11,op 65 (.bin .gtr .int (tm 63) (tm 64))] [0,1,10,11,65])
 (.cond (tm 65) (.seq (.par 16 [] [] [
 mv 66 0,mv 67 11,mv 68 0,mv 69 1,mv 70 0,mv 71 1,op 72 (.iaddr 1 (tm 70) (tm 71)),op 73 (.load none (tm 72)),mv 74 0,mv 75 11,op 76 (.iaddr 1 (tm 74) (tm 75)),op 77 (.load none (tm 76)),op 78 (.iaddr 1 (tm 66) (tm 67)),⟨none,.store 1 (tm 78) (tm 73),none⟩,op 79 (.iaddr 1 (tm 68) (tm 69)),⟨none,.store 1 (tm 79) (tm 77),none⟩] [11] none)
 (.seq (rg [mv 80 11,mv 8 80,op 9 (.mov (.cst (.bool true)))] [8,9])
 (.ret)))
 (.skip)))
 (.seq (.par 16 [] [] [
 mv 81 0,mv 82 10,mv 83 0,mv 84 11,mv 85 0,mv 86 11,op 87 (.iaddr 1 (tm 85) (tm 86)),op 88 (.load none (tm 87)),mv 89 0,mv 90 10,op 91 (.iaddr 1 (tm 89) (tm 90)),op 92 (.load none (tm 91)),op 93 (.iaddr 1 (tm 81) (tm 82)),⟨none,.store 1 (tm 93) (tm 88),none⟩,op 94 (.iaddr 1 (tm 83) (tm 84)),⟨none,.store 1 (tm 94) (tm 92),none⟩] [0,1,10,11] none)
 (.seq (rg [mv 95 10,op 96 (.bin .add .int (tm 95) (ci (1))),mv 10 96] [0,1,10,11])
 (.seq (rg [mv 97 11,op 98 (.bin .sub .int (tm 97) (ci (1))),mv 11 98] [0,1,10,11])
 (.seq (.block 4 (.loop l195_4_h l195_4_b))
 (.seq (.par 16 [] [] [
 mv 153 0,mv 154 11,mv 155 0,mv 156 1,mv 157 0,mv 158 1,op 159 (.iaddr 1 (tm 157) (tm 158)),op 160 (.load none (tm 159)),mv 161 0,mv 162 11,op 163 (.iaddr 1 (tm 161) (tm 162)),op 164 (.load none (tm 163)),op 165 (.iaddr 1 (tm 153) (tm 154)),⟨none,.store 1 (tm 165) (tm 160),none⟩,op 166 (.iaddr 1 (tm 155) (tm 156)),⟨none,.store 1 (tm 166) (tm 164),none⟩] [11] none)
 (.seq (rg [mv 167 11,mv 8 167,op 9 (.mov (.cst (.bool false)))] [8,9])
 (.ret))))))))))))

def a195 : AFunc := ⟨4,c195,[.tmp 8,.tmp 9]⟩

def an195 : List RAnn := [
 ra 0 [0,1,2,3],
 { id := 1,head := some 16,live := [0,1,2],par := true },
 ra 2 [0,1,10,11],
 { id := 3,head := some 14,live := [0,1,10,11,43],hdr := [0,1,10,11] },
 ra 4 [0,1,10,11],
 { id := 5,head := some 15,live := [0,1,10,11,60],hdr := [0,1,10,11] },
 ra 6 [0,1,10,11],ra 7 [0,1,10,11,65],
 { id := 8,head := some 16,live := [11],par := true },
 ra 9 [8,9],
 { id := 10,head := some 16,live := [0,1,10,11],par := true },
 ra 11 [0,1,10,11],ra 12 [0,1,10,11],
 { id := 13,head := some 14,live := [0,1,10,11,112],hdr := [0,1,10,11] },
 ra 14 [0,1,10,11],
 { id := 15,head := some 15,live := [0,1,10,11,129],hdr := [0,1,10,11] },
 ra 16 [0,1,10,11],ra 17 [0,1,10,11,134],
 { id := 18,head := some 16,live := [0,1,10,11],par := true },
 ra 19 [0,1,10,11],ra 20 [0,1,10,11],
 { id := 21,head := some 16,live := [11],par := true },
 ra 22 [8,9]]

theorem comp195 : compF Tryz.prog an195 Tryz.f195 = some a195 := by kernel_rfl

/- graphdb/graphdbref04.bare -/
def c196 : ACode :=
 .seq (rg [op 5 (.box 5 (tm 0)),op 10 (.mov (.cst (.bool false)))] [1,2,3,4,5])
 (.seq (rg [mv 11 1,mv 12 11,⟨some 13,.faddr 1 (tm 5),some (12,false)⟩,⟨some 14,.load none (tm 13),some (12,false)⟩,⟨some 15,.bin .eql .int (tm 14) (ci (0)),some (12,false)⟩,op 16 (.pick (tm 12) (.cst (.bool true)) (tm 15)),mv 17 16,mg 18 2 17 true,mg 19 18 17 true,⟨some 20,.faddr 2 (tm 5),some (19,false)⟩,⟨some 21,.load none (tm 20),some (19,false)⟩,⟨some 22,.bin .eql .int (tm 21) (ci (0)),some (19,false)⟩,⟨some 23,.pick (tm 19) (.cst (.bool true)) (tm 22),some (17,true)⟩,op 24 (.pick (tm 17) (tm 23) (.cst (.bool false))),mv 25 24,mg 26 3 25 true,mg 27 26 25 true,⟨some 28,.faddr 3 (tm 5),some (27,false)⟩,⟨some 29,.load none (tm 28),some (27,false)⟩,⟨some 30,.bin .eql .str (tm 29) (.cst (.str [])),some (27,false)⟩,⟨some 31,.pick (tm 27) (.cst (.bool true)) (tm 30),some (25,true)⟩,op 32 (.pick (tm 25) (tm 31) (.cst (.bool false))),mv 33 32,mg 34 4 33 true,mg 35 34 33 true,⟨some 36,.faddr 4 (tm 5),some (35,false)⟩,⟨some 37,.load none (tm 36),some (35,false)⟩,⟨some 38,.len .slice (tm 37),some (35,false)⟩,⟨some 39,.bin .eql .int (tm 38) (ci (0)),some (35,false)⟩,⟨some 40,.pick (tm 35) (.cst (.bool true)) (tm 39),some (33,true)⟩,op 41 (.pick (tm 33) (tm 40) (.cst (.bool false))),mv 10 41] [10])
 (.ret))

def a196 : AFunc := ⟨5,c196,[.tmp 10]⟩

def an196 : List RAnn := [
 ra 0 [1,2,3,4,5],ra 1 [10]]

theorem comp196 : compF Tryz.prog an196 Tryz.f196 = some a196 := by kernel_rfl

/- graphdb/graphdbref01.In -/
def c197 : ACode :=
 .seq (rg [op 2 (.mov (.cst (.bool false)))] [0])
 (.seq (rg [mv 3 0,op 4 (.bin .geq .int (tm 3) (ci ((-1000000000000000)))),mv 5 4,mg 6 0 5 true,⟨some 7,.bin .leq .int (tm 6) (ci (1000000000000000)),some (5,true)⟩,op 8 (.pick (tm 5) (tm 7) (.cst (.bool false))),mv 2 8] [2])
 (.ret))

def a197 : AFunc := ⟨1,c197,[.tmp 2]⟩

def an197 : List RAnn := [
 ra 0 [0],ra 1 [2]]

theorem comp197 : compF Tryz.prog an197 Tryz.f197 = some a197 := by kernel_rfl

/- graphdb/graphdbref03.gcd -/
/-- loop 0 of function 201 -/
def l201_0_h : List Nat := [0,1]

def l201_0_b : ACode :=
 .seq (.seq (rg [mv 5 1,op 6 (.bin .gtr .int (tm 5) (ci (0)))] [0,1,6])
 (.cond (tm 6) (.skip)
 (.exit 0)))
 (.block 1 (.region (some 6) [] [
 mv 7 1,mv 8 0,mv 9 1,op 10 (.bin .rem .int (tm 8) (tm 9)),mv 0 7,mv 1 10] [0,1] none))

def c201 : ACode :=
 .seq (rg [op 4 (.mov (ci (0)))] [0,1])
 (.seq (.block 0 (.loop l201_0_h l201_0_b))
 (.seq (rg [mv 11 0,mv 4 11] [4])
 (.ret)))

def a201 : AFunc := ⟨2,c201,[.tmp 4]⟩

def an201 : List RAnn := [
 ra 0 [0,1],rh 1 [0,1,6] [0,1],
 { id := 2,head := some 6,live := [0,1] },
 ra 3 [4]]

theorem comp201 : compF Tryz.prog an201 Tryz.f201 = some a201 := by kernel_rfl

/- graphdb/graphdbref03.plus -/
/-- loop 0 of function 202 -/
def l202_0_h : List Nat := [0,1,5,6,7]

def l202_0_b : ACode :=
 .seq (.seq (rg [mv 11 7,mv 12 0,op 13 (.len .slice (tm 12)),op 14 (.bin .lss .int (tm 11) (tm 13))] [0,1,5,6,7,14])
 (.cond (tm 14) (.skip)
 (.exit 0)))
 (.seq (.block 1 (.seq (.region (some 12) [] [
 mv 17 6,mv 18 0,mv 19 7,op 20 (.iaddr 1 (tm 18) (tm 19)),op 21 (.load none (tm 20)),op 22 (.bin .add .int (tm 17) (tm 21)),mv 23 1,mv 24 7,op 25 (.iaddr 1 (tm 23) (tm 24)),op 26 (.load none (tm 25)),op 27 (.bin .add .int (tm 22) (tm 26)),mv 6 27] [0,1,5,6,7] none)
 (.seq (rg [mv 28 5,mv 29 7,mv 30 6,op 31 (.bin .rem .int (tm 30) (ci (1000))),op 32 (.iaddr 1 (tm 28) (tm 29)),⟨none,.store 1 (tm 32) (tm 31),none⟩] [0,1,5,6,7])
 (rg [mv 33 6,op 34 (.bin .quo .int (tm 33) (ci (1000))),mv 6 34] [0,1,5,6,7]))))
 (rg [mv 15 7,op 16 (.bin .add .int (tm 15) (ci (1))),mv 7 16] [0,1,5,6,7]))

def c202 : ACode :=
 .seq (rg [op 4 (.mov (.cst (.sl false [])))] [0,1])
 (.seq (rg [mv 8 0,op 9 (.len .slice (tm 8)),op 10 (.mkslice 1 8 (.int .i64 0) (tm 9) (tm 9)),mv 5 10] [0,1,5])
 (.seq (rg [op 6 (.mov (ci (0)))] [0,1,5,6])
 (.seq (.seq (rg [op 7 (.mov (ci (0)))] [0,1,5,6,7])
 (.block 0 (.loop l202_0_h l202_0_b)))
 (.seq (rg [mv 35 5,mv 4 35] [4])
 (.ret)))))

def a202 : AFunc := ⟨2,c202,[.tmp 4]⟩

def an202 : List RAnn := [
 ra 0 [0,1],ra 1 [0,1,5],ra 2 [0,1,5,6],ra 3 [0,1,5,6,7],rh 4 [0,1,5,6,7,14] [0,1,5,6,7],
 { id := 6,head := some 12,live := [0,1,5,6,7] },
 ra 7 [0,1,5,6,7],ra 8 [0,1,5,6,7],ra 5 [0,1,5,6,7],ra 9 [4]]

theorem comp202 : compF Tryz.prog an202 Tryz.f202 = some a202 := by kernel_rfl

/- graphdb/graphdbref03.order -/
/-- loop 0 of function 203 -/
def l203_0_h : List Nat := [0,1,5]

def l203_0_b : ACode :=
 .seq (.seq (rg [mv 9 5,op 10 (.bin .geq .int (tm 9) (ci (0)))] [0,1,5,10])
 (.cond (tm 10) (.skip)
 (.exit 0)))
 (.seq (.block 1 (.seq (.seq (.region (some 9) [] [
 mv 13 0,mv 14 5,op 15 (.iaddr 1 (tm 13) (tm 14)),op 16 (.load none (tm 15)),mv 17 1,mv 18 5,op 19 (.iaddr 1 (tm 17) (tm 18)),op 20 (.load none (tm 19)),op 21 (.bin .lss .int (tm 16) (tm 20))] [0,1,5,21] none)
 (.cond (tm 21) (.seq (rg [op 4 (.mov (ci ((-1))))] [4])
 (.ret))
 (.skip)))
 (.seq (.region (some 9) [] [
 mv 22 0,mv 23 5,op 24 (.iaddr 1 (tm 22) (tm 23)),op 25 (.load none (tm 24)),mv 26 1,mv 27 5,op 28 (.iaddr 1 (tm 26) (tm 27)),op 29 (.load none (tm 28)),op 30 (.bin .gtr .int (tm 25) (tm 29))] [0,1,5,30] none)
 (.cond (tm 30) (.seq (rg [op 4 (.mov (ci (1)))] [4])
 (.ret))
 (.skip)))))
 (rg [mv 11 5,op 12 (.bin .sub .int (tm 11) (ci (1))),mv 5 12] [0,1,5]))

def c203 : ACode :=
 .seq (rg [op 4 (.mov (ci (0)))] [0,1])
 (.seq (.seq (rg [mv 6 0,op 7 (.len .slice (tm 6)),op 8 (.bin .sub .int (tm 7) (ci (1))),mv 5 8] [0,1,5])
 (.block 0 (.loop l203_0_h l203_0_b)))
 (.seq (rg [op 4 (.mov (ci (0)))] [4])
 (.ret)))

def a203 : AFunc := ⟨2,c203,[.tmp 4]⟩

def an203 : List RAnn := [
 ra 0 [0,1],ra 1 [0,1,5],rh 2 [0,1,5,10] [0,1,5],
 { id := 4,head := some 9,live := [0,1,5,21] },
 ra 5 [4],
 { id := 6,head := some 9,live := [0,1,5,30] },
 ra 7 [4],ra 3 [0,1,5],ra 8 [4]]

theorem comp203 : compF Tryz.prog an203 Tryz.f203 = some a203 := by kernel_rfl

/- graphdb/change.fields -/
def c214 : ACode :=
 .seq (rg [op 2 (.alloc 3 (.agg [.bool false,.bool false,.bool false])),op 3 (.mov (.cst (.bool false)))] [0,2])
 (.seq (.seq (rg [mv 4 0] [2,4])
 (.block 0 (.seq (.seq (rg [op 6 (.bin .eql .int (tm 4) (ci (1))),mv 5 6] [2,4,5])
 (.cond (tm 5) (.skip)
 (.seq (rg [op 7 (.bin .eql .int (tm 4) (ci (2))),mv 5 7] [2,4,5])
 (.cond (tm 5) (.skip)
 (rg [op 8 (.bin .eql .int (tm 4) (ci (7))),mv 5 8] [2,4,5])))))
 (.cond (tm 5) (.seq (rg [op 9 (.build [.bool false,.bool false,.bool false] []),⟨none,.store 3 (tm 2) (tm 9),none⟩,op 3 (.mov (.cst (.bool true)))] [2,3])
 (.ret))
 (.seq (.seq (rg [op 11 (.bin .eql .int (tm 4) (ci (3))),mv 10 11] [2,4,10])
 (.cond (tm 10) (.skip)
 (rg [op 12 (.bin .eql .int (tm 4) (ci (4))),mv 10 12] [2,4,10])))
 (.cond (tm 10) (.seq (rg [op 13 (.build [.bool false,.bool false,.bool false] [(1,1,(.cst (.bool true)))]),⟨none,.store 3 (tm 2) (tm 13),none⟩,op 3 (.mov (.cst (.bool true)))] [2,3])
 (.ret))
 (.seq (.seq (rg [op 15 (.bin .eql .int (tm 4) (ci (5))),mv 14 15] [2,4,14])
 (.cond (tm 14) (.skip)
 (rg [op 16 (.bin .eql .int (tm 4) (ci (8))),mv 14 16] [2,4,14])))
 (.cond (tm 14) (.seq (rg [op 17 (.build [.bool false,.bool false,.bool false] [(1,1,(.cst (.bool true))),(2,1,(.cst (.bool true)))]),⟨none,.store 3 (tm 2) (tm 17),none⟩,op 3 (.mov (.cst (.bool true)))] [2,3])
 (.ret))
 (.seq (rg [op 19 (.bin .eql .int (tm 4) (ci (6))),mv 18 19] [2,18])
 (.cond (tm 18) (.seq (rg [op 20 (.build [.bool false,.bool false,.bool false] [(0,1,(.cst (.bool true))),(1,1,(.cst (.bool true)))]),⟨none,.store 3 (tm 2) (tm 20),none⟩,op 3 (.mov (.cst (.bool true)))] [2,3])
 (.ret))
 (.skip)))))))))))
 (.seq (rg [op 21 (.build [.bool false,.bool false,.bool false] []),⟨none,.store 3 (tm 2) (tm 21),none⟩,op 3 (.mov (.cst (.bool false)))] [2,3])
 (.ret)))

def a214 : AFunc := ⟨1,c214,[.cell 2 (some 3),.tmp 3]⟩

def an214 : List RAnn := [
 ra 0 [0,2],ra 1 [2,4],ra 2 [2,4,5],ra 3 [2,4,5],ra 4 [2,4,5],ra 5 [2,3],ra 6 [2,4,10],ra 7 [2,4,10],ra 8 [2,3],ra 9 [2,4,14],ra 10 [2,4,14],ra 11 [2,3],ra 12 [2,18],ra 13 [2,3],ra 14 [2,3]]

theorem comp214 : compF Tryz.prog an214 Tryz.f214 = some a214 := by kernel_rfl

/- graphdb/change.id -/
def c215 : ACode :=
 .seq (rg [op 2 (.mov (.cst (.bool false)))] [0])
 (.seq (rg [mv 3 0,op 4 (.bin .geq .int (tm 3) (ci (1))),mv 5 4,mg 6 0 5 true,⟨some 7,.bin .leq .int (tm 6) (ci (1000000)),some (5,true)⟩,op 8 (.pick (tm 5) (tm 7) (.cst (.bool false))),mv 2 8] [2])
 (.ret))

def a215 : AFunc := ⟨1,c215,[.tmp 2]⟩

def an215 : List RAnn := [
 ra 0 [0],ra 1 [2]]

theorem comp215 : compF Tryz.prog an215 Tryz.f215 = some a215 := by kernel_rfl

/- graphdb/change.null -/
def c216 : ACode :=
 .seq (rg [op 1 (.box 5 (tm 0)),op 2 (.mov (.cst (.bool false)))] [1])
 (.seq (rg [op 3 (.load (some 5) (tm 1)),op 4 (.build [.int .i64 0,.int .i64 0,.int .i64 0,.str [],.sl false []] []),op 5 (.call .pure 30 [(tm 3),(tm 4)]),op 6 (.bin .eql .int (tm 5) (ci (0))),mv 2 6] [2])
 (.ret))

def a216 : AFunc := ⟨1,c216,[.tmp 2]⟩

def an216 : List RAnn := [
 ra 0 [1],ra 1 [2]]

theorem comp216 : compF Tryz.prog an216 Tryz.f216 = some a216 := by kernel_rfl

/- (*graphdb/change.editor).node -/
def c217 : ACode :=
 .seq (rg [op 4 (.mov (ci (0))),op 5 (.mov (.cst (.bool false)))] [0,1])
 (.seq (rg [mv 6 0,op 7 (.nilchk (tm 6)),op 8 (.faddr 0 (tm 7)),op 9 (.faddr 0 (tm 8)),op 10 (.load none (tm 9)),mv 11 1,op 12 (.call .pure 106 [(tm 10),(tm 11),(.cst (.fn 237 []))]),op 13 (.ext (tm 12) 0),op 14 (.ext (tm 12) 1),mv 4 13,mv 5 14] [4,5])
 (.ret))

def a217 : AFunc := ⟨2,c217,[.tmp 4,.tmp 5]⟩

def an217 : List RAnn := [
 ra 0 [0,1],ra 1 [4,5]]

theorem comp217 : compF Tryz.prog an217 Tryz.f217 = some a217 := by kernel_rfl

/- graphdb/change.must -/
def c218 : ACode :=
 .seq (rg [mv 4 0,op 5 (.un .not (tm 4))] [1,5])
 (.cond (tm 5) (rg [mv 6 1,op 7 (.mkif 165 (tm 6)),⟨none,.panic (tm 7),none⟩] [])
 (.skip))

def a218 : AFunc := ⟨2,c218,[]⟩

def an218 : List RAnn := [
 ra 0 [1,5],
 { id := 1 }]

theorem comp218 : compF Tryz.prog an218 Tryz.f218 = some a218 := by kernel_rfl

/- slices.BinarySearch[[]string,string] -/
/-- loop 0 of function 221 -/
def l221_0_h : List Nat := [0,1,6,7,8]

def l221_0_b : ACode :=
 .seq (.seq (rg [mv 13 7,mv 14 8,op 15 (.bin .lss .int (tm 13) (tm 14))] [0,1,6,7,8,15])
 (.cond (tm 15) (.skip)
 (.exit 0)))
 (.block 1 (.seq (rg [mv 16 7,mv 17 8,op 18 (.bin .add .int (tm 16) (tm 17)),op 19 (.conv .u64 (tm 18)),op 20 (.bin .shr .int (tm 19) (.cst (.int .u64 1))),op 21 (.conv .i64 (tm 20)),mv 9 21] [0,1,6,7,8,9])
 (.seq (rg [mv 22 0,mv 23 9,op 24 (.iaddr 1 (tm 22) (tm 23)),op 25 (.load none (tm 24)),mv 26 1,op 27 (.call .pure 240 [(tm 25),(tm 26)])] [0,1,6,7,8,9,27])
 (.cond (tm 27) (rg [mv 28 9,op 29 (.bin .add .int (tm 28) (ci (1))),mv 7 29] [0,1,6,7,8])
 (rg [mv 30 9,mv 8 30] [0,1,6,7,8])))))

def c221 : ACode :=
 .seq (rg [op 4 (.mov (ci (0))),op 5 (.mov (.cst (.bool false)))] [0,1])
 (.seq (rg [mv 10 0,op 11 (.len .slice (tm 10)),mv 6 11] [0,1,6])
 (.seq (rg [mv 12 6,op 7 (.mov (ci (0))),mv 8 12] [0,1,6,7,8])
 (.seq (.block 0 (.loop l221_0_h l221_0_b))
 (.seq (rg [mv 31 7,mv 32 7,mv 33 6,op 34 (.bin .lss .int (tm 32) (tm 33)),mv 35 34,mg 36 0 35 true,mg 37 7 35 true,⟨some 38,.iaddr 1 (tm 36) (tm 37),some (35,true)⟩,⟨some 39,.load none (tm 38),some (35,true)⟩,mg 40 1 35 true,⟨some 41,.bin .eql .str (tm 39) (tm 40),some (35,true)⟩,mg 42 41 35 true,mg 43 0 42 false,mg 44 7 42 false,⟨some 45,.iaddr 1 (tm 43) (tm 44),some (42,false)⟩,⟨some 46,.load none (tm 45),some (42,false)⟩,⟨some 47,.call .pure 241 [(tm 46)],some (42,false)⟩,mg 48 47 42 false,mg 49 1 48 true,⟨some 50,.call .pure 241 [(tm 49)],some (48,true)⟩,⟨some 51,.pick (tm 48) (tm 50) (.cst (.bool false)),some (42,false)⟩,⟨some 52,.pick (tm 42) (.cst (.bool true)) (tm 51),some (35,true)⟩,op 53 (.pick (tm 35) (tm 52) (.cst (.bool false))),mv 4 31,mv 5 53] [4,5])
 (.ret)))))

def a221 : AFunc := ⟨2,c221,[.tmp 4,.tmp 5]⟩

def an221 : List RAnn := [
 ra 0 [0,1],ra 1 [0,1,6],ra 2 [0,1,6,7,8],rh 3 [0,1,6,7,8,15] [0,1,6,7,8],ra 4 [0,1,6,7,8,9],ra 5 [0,1,6,7,8,9,27],ra 6 [0,1,6,7,8],ra 7 [0,1,6,7,8],ra 8 [4,5]]

theorem comp221 : compF Tryz.prog an221 Tryz.f221 = some a221 := by kernel_rfl

/- graphdb/num.abs -/
def c228 : ACode :=
 .seq (rg [op 2 (.mov (ci (0)))] [0])
 (.seq (rg [mv 3 0,mv 4 0,op 5 (.un .neg (tm 4)),op 6 (.max (tm 3) (tm 5)),mv 2 6] [2])
 (.ret))

def a228 : AFunc := ⟨1,c228,[.tmp 2]⟩

def an228 : List RAnn := [
 ra 0 [0],ra 1 [2]]

theorem comp228 : compF Tryz.prog an228 Tryz.f228 = some a228 := by kernel_rfl

/- slices.order2CmpFunc[graphdb/api.Entry] -/
def c232 : ACode :=
 .seq (rg [op 10 (.mov (ci (0))),op 11 (.mov (ci (0)))] [0,1,2,3,4])
 (.seq (.seq (.region (some 11) [] [
 mv 12 4,mv 13 0,mv 14 2,op 15 (.iaddr 8 (tm 13) (tm 14)),op 16 (.load (some 8) (tm 15)),mv 17 0,mv 18 1,op 19 (.iaddr 8 (tm 17) (tm 18)),op 20 (.load (some 8) (tm 19)),op 21 (.callv .pure (tm 12) [(tm 16),(tm 20)]),op 22 (.bin .lss .int (tm 21) (ci (0)))] [1,2,3,22] none)
 (.cond (tm 22) (.seq (rg [mv 23 3,op 24 (.nilchk (tm 23)),op 25 (.load none (tm 24)),op 26 (.bin .add .int (tm 25) (ci (1))),op 27 (.nilchk (tm 23)),⟨none,.store 1 (tm 27) (tm 26),none⟩] [1,2])
 (.seq (rg [mv 28 2,mv 29 1,mv 10 28,mv 11 29] [10,11])
 (.ret)))
 (.skip)))
 (.seq (rg [mv 30 1,mv 31 2,mv 10 30,mv 11 31] [10,11])
 (.ret)))

def a232 : AFunc := ⟨5,c232,[.tmp 10,.tmp 11]⟩

def an232 : List RAnn := [
 ra 0 [0,1,2,3,4],
 { id := 1,head := some 11,live := [1,2,3,22] },
 ra 2 [1,2],ra 3 [10,11],ra 4 [10,11]]

theorem comp232 : compF Tryz.prog an232 Tryz.f232 = some a232 := by kernel_rfl

/- slices.siftDownOrdered[int] -/
/-- loop 0 of function 233 -/
def l233_0_h : List Nat := [0,2,3,8]

def l233_0_b : ACode :=
 .block 1 (.seq (rg [mv 11 8,op 12 (.bin .mul .int (ci (2)) (tm 11)),op 13 (.bin .add .int (tm 12) (ci (1))),mv 9 13] [0,2,3,8,9])
 (.seq (.seq (rg [mv 14 9,mv 15 2,op 16 (.bin .geq .int (tm 14) (tm 15))] [0,2,3,8,9,16])
 (.cond (tm 16) (.exit 0)
 (.skip)))
 (.seq (.seq (.region (some 20) [] [
 mv 17 9,op 18 (.bin .add .int (tm 17) (ci (1))),mv 19 2,op 20 (.bin .lss .int (tm 18) (tm 19)),mv 21 20,mg 22 0 21 true,mg 23 3 21 true,mg 24 9 21 true,⟨some 25,.bin .add .int (tm 23) (tm 24),some (21,true)⟩,⟨some 26,.iaddr 1 (tm 22) (tm 25),some (21,true)⟩,⟨some 27,.load none (tm 26),some (21,true)⟩,mg 28 0 21 true,mg 29 3 21 true,mg 30 9 21 true,⟨some 31,.bin .add .int (tm 29) (tm 30),some (21,true)⟩,⟨some 32,.bin .add .int (tm 31) (ci (1)),some (21,true)⟩,⟨some 33,.iaddr 1 (tm 28) (tm 32),some (21,true)⟩,⟨some 34,.load none (tm 33),some (21,true)⟩,⟨some 35,.call .pure 193 [(tm 27),(tm 34)],some (21,true)⟩,op 36 (.pick (tm 21) (tm 35) (.cst (.bool false)))] [0,2,3,8,9,36] none)
 (.cond (tm 36) (rg [mv 37 9,op 38 (.bin .add .int (tm 37) (ci (1))),mv 9 38] [0,2,3,8,9])
 (.skip)))
 (.seq (.seq (.region (some 14) [] [
 mv 39 0,mv 40 3,mv 41 8,op 42 (.bin .add .int (tm 40) (tm 41)),op 43 (.iaddr 1 (tm 39) (tm 42)),op 44 (.load none (tm 43)),mv 45 0,mv 46 3,mv 47 9,op 48 (.bin .add .int (tm 46) (tm 47)),op 49 (.iaddr 1 (tm 45) (tm 48)),op 50 (.load none (tm 49)),op 51 (.call .pure 193 [(tm 44),(tm 50)]),op 52 (.un .not (tm 51))] [0,2,3,8,9,52] none)
 (.cond (tm 52) (.ret)
 (.skip)))
 (.seq (.par 24 [] [] [
 mv 53 0,mv 54 3,mv 55 8,op 56 (.bin .add .int (tm 54) (tm 55)),mv 57 0,mv 58 3,mv 59 9,op 60 (.bin .add .int (tm 58) (tm 59)),mv 61 0,mv 62 3,mv 63 9,op 64 (.bin .add .int (tm 62) (tm 63)),op 65 (.iaddr 1 (tm 61) (tm 64)),op 66 (.load none (tm 65)),mv 67 0,mv 68 3,mv 69 8,op 70 (.bin .add .int (tm 68) (tm 69)),op 71 (.iaddr 1 (tm 67) (tm 70)),op 72 (.load none (tm 71)),op 73 (.iaddr 1 (tm 53) (tm 56)),⟨none,.store 1 (tm 73) (tm 66),none⟩,op 74 (.iaddr 1 (tm 57) (tm 60)),⟨none,.store 1 (tm 74) (tm 72),none⟩] [0,2,3,9] none)
 (rg [mv 75 9,mv 8 75] [0,2,3,8]))))))

def c233 : ACode :=
 .seq (rg [mv 10 1,mv 8 10] [0,2,3,8])
 (.block 0 (.loop l233_0_h l233_0_b))

def a233 : AFunc := ⟨4,c233,[]⟩

def an233 : List RAnn := [
 ra 0 [0,2,3,8],rh 1 [0,2,3,8,9] [0,2,3,8],ra 2 [0,2,3,8,9,16],
 { id := 3,head := some 20,live := [0,2,3,8,9,36] },
 ra 4 [0,2,3,8,9],
 { id := 5,head := some 14,live := [0,2,3,8,9,52] },
 { id := 6,head := some 24,live := [0,2,3,9],par := true },
 ra 7 [0,2,3,8]]

theorem comp233 : compF Tryz.prog an233 Tryz.f233 = some a233 := by kernel_rfl

/- slices.medianAdjacentOrdered[int] -/
def c234 : ACode :=
 .seq (rg [op 6 (.mov (ci (0)))] [0,1,2])
 (.seq (rg [mv 7 0,mv 8 1,op 9 (.bin .sub .int (tm 8) (ci (1))),mv 10 1,mv 11 1,op 12 (.bin .add .int (tm 11) (ci (1))),mv 13 2,op 14 (.call .share 235 [(tm 7),(tm 9),(tm 10),(tm 12),(tm 13)]),mv 6 14] [6])
 (.ret))

def a234 : AFunc := ⟨3,c234,[.tmp 6]⟩

def an234 : List RAnn := [
 ra 0 [0,1,2],
 { id := 1,live := [6],ops := [(7,.mode .share)] }]

theorem comp234 : compF Tryz.prog an234 Tryz.f234 = some a234 := by kernel_rfl

/- slices.medianOrdered[int] -/
def c235 : ACode :=
 .seq (rg [op 10 (.mov (ci (0)))] [0,1,2,3,4])
 (.seq (rg [mv 12 0,mv 13 1,mv 14 2,mv 15 4,op 16 (.call .share 253 [(tm 12),(tm 13),(tm 14),(tm 15)]),mv 11 16,op 17 (.ext (tm 11) 0),op 18 (.ext (tm 11) 1),mv 1 17,mv 2 18] [0,1,2,3,4])
 (.seq (rg [mv 20 0,mv 21 2,mv 22 3,mv 23 4,op 24 (.call .share 253 [(tm 20),(tm 21),(tm 22),(tm 23)]),mv 19 24,op 25 (.ext (tm 19) 0),op 26 (.ext (tm 19) 1),mv 2 25,mv 3 26] [0,1,2,4])
 (.seq (rg [mv 28 0,mv 29 1,mv 30 2,mv 31 4,op 32 (.call .share 253 [(tm 28),(tm 29),(tm 30),(tm 31)]),mv 27 32,op 33 (.ext (tm 27) 0),op 34 (.ext (tm 27) 1),mv 1 33,mv 2 34] [2])
 (.seq (rg [mv 35 2,mv 10 35] [10])
 (.ret)))))

def a235 : AFunc := ⟨5,c235,[.tmp 10]⟩

def an235 : List RAnn := [
 ra 0 [0,1,2,3,4],
 { id := 1,live := [0,1,2,3,4],ops := [(4,.mode .share)] },
 { id := 2,live := [0,1,2,4],ops := [(4,.mode .share)] },
 { id := 3,live := [2],ops := [(4,.mode .share)] },
 ra 4 [10]]

theorem comp235 : compF Tryz.prog an235 Tryz.f235 = some a235 := by kernel_rfl

/- (*graphdb/change.editor).node$1 -/
def c237 : ACode :=
 .seq (rg [op 2 (.box 3 (tm 0)),op 4 (.mov (ci (0)))] [1,2])
 (.seq (rg [op 5 (.faddr 0 (tm 2)),op 6 (.load none (tm 5)),mv 7 1,op 8 (.call .pure 61 [(tm 6),(tm 7)]),mv 4 8] [4])
 (.ret))

def a237 : AFunc := ⟨2,c237,[.tmp 4]⟩

def an237 : List RAnn := [
 ra 0 [1,2],ra 1 [4]]

theorem comp237 : compF Tryz.prog an237 Tryz.f237 = some a237 := by kernel_rfl

/- cmp.Less[string] -/
def c240 : ACode :=
 .seq (rg [op 4 (.mov (.cst (.bool false)))] [0,1])
 (.seq (rg [mv 5 0,op 6 (.call .pure 96 [(tm 5)]),mv 7 6,mg 8 1 7 true,⟨some 9,.call .pure 96 [(tm 8)],some (7,true)⟩,⟨some 10,.un .not (tm 9),some (7,true)⟩,op 11 (.pick (tm 7) (tm 10) (.cst (.bool false))),mv 12 11,mg 13 0 12 false,mg 14 1 12 false,⟨some 15,.bin .lss .str (tm 13) (tm 14),some (12,false)⟩,op 16 (.pick (tm 12) (.cst (.bool true)) (tm 15)),mv 4 16] [4])
 (.ret))

def a240 : AFunc := ⟨2,c240,[.tmp 4]⟩

def an240 : List RAnn := [
 ra 0 [0,1],ra 1 [4]]

theorem comp240 : compF Tryz.prog an240 Tryz.f240 = some a240 := by kernel_rfl

/- slices.order2Ordered[int] -/
def c253 : ACode :=
 .seq (rg [op 8 (.mov (ci (0))),op 9 (.mov (ci (0)))] [0,1,2,3])
 (.seq (.seq (.region (some 9) [] [
 mv 10 0,mv 11 2,op 12 (.iaddr 1 (tm 10) (tm 11)),op 13 (.load none (tm 12)),mv 14 0,mv 15 1,op 16 (.iaddr 1 (tm 14) (tm 15)),op 17 (.load none (tm 16)),op 18 (.call .pure 193 [(tm 13),(tm 17)])] [1,2,3,18] none)
 (.cond (tm 18) (.seq (rg [mv 19 3,op 20 (.nilchk (tm 19)),op 21 (.load none (tm 20)),op 22 (.bin .add .int (tm 21) (ci (1))),op 23 (.nilchk (tm 19)),⟨none,.store 1 (tm 23) (tm 22),none⟩] [1,2])
 (.seq (rg [mv 24 2,mv 25 1,mv 8 24,mv 9 25] [8,9])
 (.ret)))
 (.skip)))
 (.seq (rg [mv 26 1,mv 27 2,mv 8 26,mv 9 27] [8,9])
 (.ret)))

def a253 : AFunc := ⟨4,c253,[.tmp 8,.tmp 9]⟩

def an253 : List RAnn := [
 ra 0 [0,1,2,3],
 { id := 1,head := some 9,live := [1,2,3,18] },
 ra 2 [1,2],ra 3 [8,9],ra 4 [8,9]]

theorem comp253 : compF Tryz.prog an253 Tryz.f253 = some a253 := by kernel_rfl

end AI
end Go.Proofs.YtbkibamoigmboaaGreatDoor
