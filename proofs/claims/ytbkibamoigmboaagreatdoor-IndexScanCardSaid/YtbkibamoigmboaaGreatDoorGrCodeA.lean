/- Printed by a program of mine: the functions,compiled; the kernel checks each against the given form. -/
import Derived.Test.YtbkibamoigmboaaGreatDoorSe
import Derived.Test.YtbkibamoigmboaaGreatDoorProg
import Derived.Test.YtbkibamoigmboaaGreatDoorAb
import Derived.KernelRfl
import Derived.Test.YtbkibamoigmboaaGreatDoorIxF
import Derived.Test.YtbkibamoigmboaaGreatDoorInS
import Derived.Test.YtbkibamoigmboaaGreatDoorBc
namespace Go.Proofs.YtbkibamoigmboaaGreatDoor
namespace AI

/- graphdb/graphdblaw15.IndexScan -/
/-- loop 0 of function 9 -/
def l9_0_h : List Nat := [3,4,5,6,7,8,9,10,11,12]

def l9_0_b : ACode :=
 .seq (.seq (rg [mv 37 12,op 38 (.faddr 0 (tm 3)),op 39 (.load none (tm 38)),op 40 (.len .slice (tm 39)),op 41 (.bin .lss .int (tm 37) (tm 40))] [3,4,5,6,7,8,9,10,11,12,41])
 (.cond (tm 41) (.skip)
 (.exit 0)))
 (.seq (.block 1 (.seq (rg [op 44 (.faddr 0 (tm 3)),op 45 (.load none (tm 44)),mv 46 12,op 47 (.iaddr 3 (tm 45) (tm 46)),op 48 (.load (some 3) (tm 47)),op 13 (.alloc 3 (.agg [.int .i64 0,.sl false [],.sl false []])),⟨none,.store 3 (tm 13) (tm 48),none⟩] [3,4,5,6,7,8,9,10,11,12,13])
 (.seq (rg [op 49 (.faddr 2 (tm 13)),op 50 (.load none (tm 49)),mv 51 5,op 52 (.call .pure 33 [(tm 50),(tm 51)]),op 14 (.alloc 5 (.agg [.int .i64 0,.int .i64 0,.int .i64 0,.str [],.sl false []])),⟨none,.store 5 (tm 14) (tm 52),none⟩] [3,4,5,6,7,8,9,10,11,12,13,14])
 (.seq (.seq (rg [op 53 (.load (some 3) (tm 13)),mv 54 4,op 55 (.call .pure 34 [(tm 53),(tm 54)]),op 56 (.un .not (tm 55)),mv 57 56,⟨some 58,.faddr 0 (tm 14),some (57,false)⟩,⟨some 59,.load none (tm 58),some (57,false)⟩,⟨some 60,.bin .eql .int (tm 59) (ci (0)),some (57,false)⟩,op 61 (.pick (tm 57) (.cst (.bool true)) (tm 60))] [3,4,5,6,7,8,9,10,11,12,13,14,61])
 (.cond (tm 61) (.exit 1)
 (.skip)))
 (.seq (rg [mv 62 11,op 63 (.faddr 0 (tm 13)),op 64 (.load none (tm 63)),op 65 (.lit false 1 (.int .i64 0) 1 [(0,(tm 64))]),op 66 (.append 1 8 (tm 62) (tm 65)),mv 11 66] [3,4,5,6,7,8,9,10,11,12,13,14])
 (.seq (.seq (rg [op 67 (.load (some 5) (tm 14)),op 68 (.load (some 5) (tm 6)),op 69 (.call .pure 35 [(tm 67),(tm 68)]),op 70 (.bin .eql .int (tm 69) (ci (2)))] [3,4,5,6,7,8,9,10,11,12,13,14,70])
 (.cond (tm 70) (rg [mv 71 9,op 72 (.faddr 0 (tm 13)),op 73 (.load none (tm 72)),op 74 (.lit false 1 (.int .i64 0) 1 [(0,(tm 73))]),op 75 (.append 1 8 (tm 71) (tm 74)),mv 9 75] [3,4,5,6,7,8,9,10,11,12,13,14])
 (.skip)))
 (.seq (rg [op 76 (.load (some 5) (tm 6)),op 77 (.load (some 5) (tm 14)),op 78 (.call .pure 36 [(tm 76),(tm 77)]),op 79 (.bin .eql .int (tm 78) (ci (2))),mv 80 79,⟨some 81,.load (some 5) (tm 6),some (80,false)⟩,⟨some 82,.load (some 5) (tm 14),some (80,false)⟩,⟨some 83,.call .pure 35 [(tm 81),(tm 82)],some (80,false)⟩,⟨some 84,.bin .eql .int (tm 83) (ci (2)),some (80,false)⟩,op 85 (.pick (tm 80) (.cst (.bool true)) (tm 84)),mv 86 85,⟨some 87,.load (some 5) (tm 14),some (86,true)⟩,⟨some 88,.load (some 5) (tm 7),some (86,true)⟩,⟨some 89,.call .pure 36 [(tm 87),(tm 88)],some (86,true)⟩,⟨some 90,.bin .eql .int (tm 89) (ci (2)),some (86,true)⟩,mg 91 90 86 true,⟨some 92,.load (some 5) (tm 14),some (91,false)⟩,⟨some 93,.load (some 5) (tm 7),some (91,false)⟩,⟨some 94,.call .pure 35 [(tm 92),(tm 93)],some (91,false)⟩,⟨some 95,.bin .eql .int (tm 94) (ci (2)),some (91,false)⟩,⟨some 96,.pick (tm 91) (.cst (.bool true)) (tm 95),some (86,true)⟩,op 97 (.pick (tm 86) (tm 96) (.cst (.bool false)))] [3,4,5,6,7,8,9,10,11,12,13,97])
 (.cond (tm 97) (rg [mv 98 10,op 99 (.faddr 0 (tm 13)),op 100 (.load none (tm 99)),op 101 (.lit false 1 (.int .i64 0) 1 [(0,(tm 100))]),op 102 (.append 1 8 (tm 98) (tm 101)),mv 10 102] [3,4,5,6,7,8,9,10,11,12])
 (.skip)))))))))
 (.region none [] [mv 42 12,op 43 (.bin .add .int (tm 42) (ci (1))),mv 12 43] [3,4,5,6,7,8,9,10,11,12] (some 7)))

def c9 : ACode :=
 .seq (rg [op 1 (.box 17 (tm 0)),op 2 (.mov (.cst (.bool false)))] [1])
 (.seq (.par 18 [(1,10),(3,10),(5,10),(7,10),(9,10),(1,11),(3,11),(5,11),(7,11),(9,11),(10,11),(1,12),(3,12),(5,12),(7,12),(9,12),(10,12),(11,12),(3,13),(5,13),(7,13),(9,13),(9,16)] [] [
 op 16 (.faddr 1 (tm 1)),op 17 (.load (some 4) (tm 16)),op 18 (.faddr 5 (tm 1)),op 19 (.load none (tm 18)),op 20 (.faddr 6 (tm 1)),op 21 (.load none (tm 20)),op 22 (.faddr 7 (tm 1)),op 23 (.load (some 5) (tm 22)),op 24 (.faddr 12 (tm 1)),op 25 (.load (some 5) (tm 24)),op 3 (.alloc 4 (.agg [.sl false [],.sl false [],.int .i64 0,.int .i64 0])),op 6 (.alloc 5 (.agg [.int .i64 0,.int .i64 0,.int .i64 0,.str [],.sl false []])),op 7 (.alloc 5 (.agg [.int .i64 0,.int .i64 0,.int .i64 0,.str [],.sl false []])),⟨none,.store 4 (tm 3) (tm 17),none⟩,mv 4 19,mv 5 21,⟨none,.store 5 (tm 6) (tm 23),none⟩,⟨none,.store 5 (tm 7) (tm 25),none⟩] [3,4,5,6,7] none)
 (.seq (.seq (rg [op 26 (.load (some 4) (tm 3)),op 27 (.call .pure 10 [(tm 26)]),op 28 (.un .not (tm 27)),mv 29 28,⟨some 30,.load (some 4) (tm 3),some (29,false)⟩,⟨some 31,.call .pure 32 [(tm 30)],some (29,false)⟩,⟨some 32,.bin .neq .int (tm 31) (ci (0)),some (29,false)⟩,op 33 (.pick (tm 29) (.cst (.bool true)) (tm 32))] [3,4,5,6,7,33])
 (.cond (tm 33) (.seq (rg [op 34 (.call .pure 11 []),mv 2 34] [2])
 (.ret))
 (.skip)))
 (.seq (rg [op 35 (.load (some 4) (tm 3)),op 36 (.call .pure 21 [(tm 35)]),mv 8 36] [3,4,5,6,7,8])
 (.seq (rg [op 9 (.newown 1),op 10 (.newown 1),op 11 (.newown 1)] [3,4,5,6,7,8,9,10,11])
 (.seq (.seq (rg [op 12 (.mov (ci (0)))] [3,4,5,6,7,8,9,10,11,12])
 (.block 0 (.loop l9_0_h l9_0_b)))
 (.seq (rg [op 103 (.call .pure 37 []),op 15 (.alloc 5 (.agg [.int .i64 0,.int .i64 0,.int .i64 0,.str [],.sl false []])),⟨none,.store 5 (tm 15) (tm 103),none⟩] [4,5,6,7,8,9,10,11,15])
 (.seq (.seq (rg [mv 104 8,mv 105 4,mv 106 5,op 107 (.load (some 5) (tm 6)),op 108 (.call .pure 23 [(tm 104),(tm 105),(tm 106),(tm 107)]),mv 109 9,op 110 (.call .borrow 12 [(tm 108),(tm 109)]),op 111 (.un .not (tm 110)),mv 112 111,mg 113 8 112 false,mg 114 4 112 false,mg 115 5 112 false,⟨some 116,.load (some 5) (tm 15),some (112,false)⟩,⟨some 117,.load (some 5) (tm 15),some (112,false)⟩,⟨some 118,.call .pure 25 [(tm 113),(tm 114),(tm 115),(tm 116),(tm 117)],some (112,false)⟩,mg 119 11 112 false,⟨some 120,.call .borrow 12 [(tm 118),(tm 119)],some (112,false)⟩,⟨some 121,.un .not (tm 120),some (112,false)⟩,op 122 (.pick (tm 112) (.cst (.bool true)) (tm 121))] [4,5,6,7,8,10,15,122])
 (.cond (tm 122) (.seq (rg [op 2 (.mov (.cst (.bool false)))] [2])
 (.ret))
 (.skip)))
 (.seq (rg [op 123 (.load (some 5) (tm 6)),op 124 (.load (some 5) (tm 15)),op 125 (.call .pure 30 [(tm 123),(tm 124)]),op 126 (.bin .eql .int (tm 125) (ci (0))),mv 127 126,⟨some 128,.load (some 5) (tm 7),some (127,false)⟩,⟨some 129,.load (some 5) (tm 15),some (127,false)⟩,⟨some 130,.call .pure 30 [(tm 128),(tm 129)],some (127,false)⟩,⟨some 131,.bin .eql .int (tm 130) (ci (0)),some (127,false)⟩,op 132 (.pick (tm 127) (.cst (.bool true)) (tm 131)),mv 133 132,mg 134 8 133 false,mg 135 4 133 false,mg 136 5 133 false,⟨some 137,.load (some 5) (tm 6),some (133,false)⟩,⟨some 138,.load (some 5) (tm 7),some (133,false)⟩,⟨some 139,.call .pure 25 [(tm 134),(tm 135),(tm 136),(tm 137),(tm 138)],some (133,false)⟩,mg 140 10 133 false,⟨some 141,.call .borrow 12 [(tm 139),(tm 140)],some (133,false)⟩,op 142 (.pick (tm 133) (.cst (.bool true)) (tm 141)),mv 143 142,⟨some 144,.call .pure 11 [],some (143,true)⟩,op 145 (.pick (tm 143) (tm 144) (.cst (.bool false))),mv 2 145] [2])
 (.ret)))))))))

def a9 : AFunc := ⟨1,c9,[.tmp 2]⟩

def an9 : List RAnn := [
 ra 0 [1],
 { id := 1,head := some 18,live := [3,4,5,6,7],par := true },
 ra 2 [3,4,5,6,7,33],ra 3 [2],ra 4 [3,4,5,6,7,8],
 { id := 5,live := [3,4,5,6,7,8,9,10,11],ops := [(0,.own),(1,.own),(2,.own)] },
 ra 6 [3,4,5,6,7,8,9,10,11,12],rh 7 [3,4,5,6,7,8,9,10,11,12,41] [3,4,5,6,7,8,9,10,11,12],ra 9 [3,4,5,6,7,8,9,10,11,12,13],ra 10 [3,4,5,6,7,8,9,10,11,12,13,14],ra 11 [3,4,5,6,7,8,9,10,11,12,13,14,61],ra 12 [3,4,5,6,7,8,9,10,11,12,13,14],ra 13 [3,4,5,6,7,8,9,10,11,12,13,14,70],ra 14 [3,4,5,6,7,8,9,10,11,12,13,14],ra 15 [3,4,5,6,7,8,9,10,11,12,13,97],ra 16 [3,4,5,6,7,8,9,10,11,12],
 { id := 8,live := [3,4,5,6,7,8,9,10,11,12],trunc := some 7 },
 ra 17 [4,5,6,7,8,9,10,11,15],
 { id := 18,live := [4,5,6,7,8,10,15,122],ops := [(6,.mode .borrow),(16,.mode .borrow)] },
 ra 19 [2],
 { id := 20,live := [2],ops := [(18,.mode .borrow)] }]

theorem comp9 : compF Tryz.prog an9 Tryz.f9 = some a9 := by kernel_rfl

/- graphdb/graphdblaw15.small -/
/-- loop 0 of function 10 -/
def l10_0_h : List Nat := [1,3,4]

def l10_0_b : ACode :=
 .seq (.seq (rg [mv 5 4,op 6 (.faddr 0 (tm 1)),op 7 (.load none (tm 6)),op 8 (.len .slice (tm 7)),op 9 (.bin .lss .int (tm 5) (tm 8))] [1,3,4,9])
 (.cond (tm 9) (.skip)
 (.exit 0)))
 (.seq (.block 1 (.region (some 18) [] [
 mv 12 3,op 13 (.faddr 0 (tm 1)),op 14 (.load none (tm 13)),mv 15 4,op 16 (.iaddr 3 (tm 14) (tm 15)),op 17 (.faddr 1 (tm 16)),op 18 (.load none (tm 17)),op 19 (.len .slice (tm 18)),op 20 (.faddr 0 (tm 1)),op 21 (.load none (tm 20)),mv 22 4,op 23 (.iaddr 3 (tm 21) (tm 22)),op 24 (.faddr 2 (tm 23)),op 25 (.load none (tm 24)),op 26 (.len .slice (tm 25)),op 27 (.bin .mul .int (tm 19) (tm 26)),op 28 (.bin .add .int (tm 12) (tm 27)),mv 3 28] [1,3,4] none))
 (rg [mv 10 4,op 11 (.bin .add .int (tm 10) (ci (1))),mv 4 11] [1,3,4]))

def c10 : ACode :=
 .seq (rg [op 1 (.box 4 (tm 0)),op 2 (.mov (.cst (.bool false)))] [1])
 (.seq (rg [op 3 (.mov (ci (0)))] [1,3])
 (.seq (.seq (rg [op 4 (.mov (ci (0)))] [1,3,4])
 (.block 0 (.loop l10_0_h l10_0_b)))
 (.seq (rg [op 29 (.faddr 0 (tm 1)),op 30 (.load none (tm 29)),op 31 (.len .slice (tm 30)),op 32 (.bin .leq .int (tm 31) (ci (40))),mv 33 32,⟨some 34,.faddr 1 (tm 1),some (33,true)⟩,⟨some 35,.load none (tm 34),some (33,true)⟩,⟨some 36,.len .slice (tm 35),some (33,true)⟩,⟨some 37,.bin .leq .int (tm 36) (ci (80)),some (33,true)⟩,op 38 (.pick (tm 33) (tm 37) (.cst (.bool false))),mv 39 38,mg 40 3 39 true,⟨some 41,.bin .leq .int (tm 40) (ci (200)),some (39,true)⟩,op 42 (.pick (tm 39) (tm 41) (.cst (.bool false))),mv 2 42] [2])
 (.ret))))

def a10 : AFunc := ⟨1,c10,[.tmp 2]⟩

def an10 : List RAnn := [
 ra 0 [1],ra 1 [1,3],ra 2 [1,3,4],rh 3 [1,3,4,9] [1,3,4],
 { id := 5,head := some 18,live := [1,3,4] },
 ra 4 [1,3,4],ra 6 [2]]

theorem comp10 : compF Tryz.prog an10 Tryz.f10 = some a10 := by kernel_rfl

/- graphdb/graphdblaw15.lives -/
def c11 : ACode :=
 .seq (rg [op 0 (.mov (.cst (.bool false)))] [])
 (.seq (rg [op 9 (.build [.int .i64 0,.int .i64 0,.int .i64 0,.str [],.sl false []] [(0,1,(ci (2))),(1,1,(ci (5)))]),op 1 (.alloc 5 (.agg [.int .i64 0,.int .i64 0,.int .i64 0,.str [],.sl false []])),⟨none,.store 5 (tm 1) (tm 9),none⟩] [1])
 (.seq (rg [op 10 (.lit false 1 (.str []) 2 [(0,(.cst (.str [65]))),(1,(.cst (.str [66])))]),op 11 (.load (some 5) (tm 1)),op 12 (.build [.str [],.int .i64 0,.int .i64 0,.int .i64 0,.str [],.sl false []] [(0,1,(.cst (.str [107]))),(1,5,(tm 11))]),op 13 (.lit false 6 (.agg [.str [],.int .i64 0,.int .i64 0,.int .i64 0,.str [],.sl false []]) 1 [(0,(tm 12))]),op 14 (.build [.int .i64 0,.sl false [],.sl false []] [(0,1,(ci (1))),(1,1,(tm 10)),(2,1,(tm 13))]),op 15 (.build [.int .i64 0,.sl false [],.sl false []] [(0,1,(ci (2)))]),op 16 (.lit false 3 (.agg [.int .i64 0,.sl false [],.sl false []]) 2 [(0,(tm 14)),(1,(tm 15))]),op 17 (.build [.int .i64 0,.int .i64 0,.int .i64 0,.str [],.sl false []] [(0,1,(ci (7))),(1,1,(ci (1))),(2,1,(ci (2))),(3,1,(.cst (.str [84])))]),op 18 (.build [.int .i64 0,.int .i64 0,.int .i64 0,.str [],.sl false []] [(0,1,(ci (8))),(1,1,(ci (1))),(2,1,(ci (2))),(3,1,(.cst (.str [84])))]),op 19 (.lit false 5 (.agg [.int .i64 0,.int .i64 0,.int .i64 0,.str [],.sl false []]) 2 [(0,(tm 17)),(1,(tm 18))]),op 20 (.build [.sl false [],.sl false [],.int .i64 0,.int .i64 0] [(0,1,(tm 16)),(1,1,(tm 19)),(2,1,(ci (3))),(3,1,(ci (9)))]),op 2 (.alloc 4 (.agg [.sl false [],.sl false [],.int .i64 0,.int .i64 0])),⟨none,.store 4 (tm 2) (tm 20),none⟩] [1,2])
 (.seq (rg [op 21 (.load (some 4) (tm 2)),op 22 (.call .pure 21 [(tm 21)]),mv 3 22] [1,2,3])
 (.seq (rg [op 23 (.build [.int .i64 0,.int .i64 0,.int .i64 0,.str [],.sl false []] [(0,1,(ci (2))),(1,1,(ci (1)))]),op 24 (.build [.str [],.str [],.int .i64 0,.int .i64 0,.int .i64 0,.str [],.sl false [],.int .i64 0] [(0,1,(.cst (.str [65]))),(1,1,(.cst (.str [107]))),(2,5,(tm 23)),(7,1,(ci (1)))]),op 25 (.build [.int .i64 0,.int .i64 0,.int .i64 0,.str [],.sl false []] [(0,1,(ci (2))),(1,1,(ci (2)))]),op 26 (.build [.str [],.str [],.int .i64 0,.int .i64 0,.int .i64 0,.str [],.sl false [],.int .i64 0] [(0,1,(.cst (.str [65]))),(1,1,(.cst (.str [107]))),(2,5,(tm 25)),(7,1,(ci (2)))]),op 27 (.build [.int .i64 0,.int .i64 0,.int .i64 0,.str [],.sl false []] [(0,1,(ci (4))),(3,1,(.cst (.str [120])))]),op 28 (.build [.str [],.str [],.int .i64 0,.int .i64 0,.int .i64 0,.str [],.sl false [],.int .i64 0] [(0,1,(.cst (.str [65]))),(1,1,(.cst (.str [107]))),(2,5,(tm 27)),(7,1,(ci (3)))]),op 29 (.lit false 8 (.agg [.str [],.str [],.int .i64 0,.int .i64 0,.int .i64 0,.str [],.sl false [],.int .i64 0]) 3 [(0,(tm 24)),(1,(tm 26)),(2,(tm 28))]),mv 4 29] [1,2,3,4])
 (.seq (rg [mv 31 3,op 32 (.load (some 4) (tm 2)),op 33 (.build [.int .i64 0,.int .i64 0,.int .i64 0,.int .i64 0,.str [],.int .i64 0,.int .i64 0,.int .i64 0,.str [],.sl false []] [(0,1,(ci (3))),(1,1,(ci (1))),(4,1,(.cst (.str [67])))]),op 34 (.call .pure 27 [(tm 31),(tm 32),(tm 33)]),mv 30 34,op 35 (.ext (tm 30) 0),op 36 (.ext (tm 30) 1),mv 5 35,mv 6 36] [1,2,3,4,5,6])
 (.seq (rg [op 38 (.load (some 4) (tm 2)),op 39 (.build [.int .i64 0,.int .i64 0,.int .i64 0,.int .i64 0,.str [],.int .i64 0,.int .i64 0,.int .i64 0,.str [],.sl false []] [(0,1,(ci (3))),(1,1,(ci (1))),(4,1,(.cst (.str [67])))]),op 40 (.call .pure 27 [(.cst (.sl false [])),(tm 38),(tm 39)]),mv 37 40,op 41 (.ext (tm 37) 0),op 42 (.ext (tm 37) 1),mv 7 41,mv 8 42] [1,2,3,4,5,6,8])
 (.seq (.region (some 80) [] [
 mv 43 3,op 44 (.load (some 5) (tm 1)),op 45 (.build [.str [],.str [],.int .i64 0,.int .i64 0,.int .i64 0,.str [],.sl false [],.int .i64 0] [(0,1,(.cst (.str [65]))),(1,1,(.cst (.str [107]))),(2,5,(tm 44)),(7,1,(ci (1)))]),op 46 (.load (some 5) (tm 1)),op 47 (.build [.str [],.str [],.int .i64 0,.int .i64 0,.int .i64 0,.str [],.sl false [],.int .i64 0] [(0,1,(.cst (.str [66]))),(1,1,(.cst (.str [107]))),(2,5,(tm 46)),(7,1,(ci (1)))]),op 48 (.lit false 8 (.agg [.str [],.str [],.int .i64 0,.int .i64 0,.int .i64 0,.str [],.sl false [],.int .i64 0]) 2 [(0,(tm 45)),(1,(tm 47))]),op 49 (.call .pure 20 [(tm 43),(tm 48)]),mv 50 49,⟨some 51,.load (some 4) (tm 2),some (50,true)⟩,⟨some 52,.call .pure 16 [(tm 51),(.cst (.sl false []))],some (50,true)⟩,⟨some 53,.lit false 1 (.int .i64 0) 3 [(0,(ci (1))),(1,(ci (7))),(2,(ci (2)))],some (50,true)⟩,⟨some 54,.lit false 1 (.int .i64 0) 3 [(0,(ci (1))),(1,(ci (8))),(2,(ci (2)))],some (50,true)⟩,⟨some 55,.lit false 1 (.sl false []) 2 [(0,(tm 53)),(1,(tm 54))],some (50,true)⟩,⟨some 56,.build [.int .i64 0,.sl false []] [(0,1,(ci (3))),(1,1,(tm 55))],some (50,true)⟩,⟨some 57,.call .pure 15 [(tm 52),(tm 56)],some (50,true)⟩,op 58 (.pick (tm 50) (tm 57) (.cst (.bool false))),mv 59 58,⟨some 60,.load (some 4) (tm 2),some (59,true)⟩,⟨some 61,.lit false 1 (.str []) 1 [(0,(.cst (.str [84])))],some (59,true)⟩,⟨some 62,.call .pure 18 [(tm 60),(tm 61)],some (59,true)⟩,⟨some 63,.lit false 1 (.int .i64 0) 2 [(0,(ci (1))),(1,(ci (2)))],some (59,true)⟩,⟨some 64,.lit false 1 (.sl false []) 1 [(0,(tm 63))],some (59,true)⟩,⟨some 65,.build [.int .i64 0,.sl false []] [(0,1,(ci (2))),(1,1,(tm 64))],some (59,true)⟩,⟨some 66,.call .pure 15 [(tm 62),(tm 65)],some (59,true)⟩,op 67 (.pick (tm 59) (tm 66) (.cst (.bool false))),mv 68 67,⟨some 69,.load (some 4) (tm 2),some (68,true)⟩,⟨some 70,.call .pure 13 [(tm 69),(.cst (.str [66]))],some (68,true)⟩,⟨some 71,.lit false 1 (.int .i64 0) 1 [(0,(ci (1)))],some (68,true)⟩,⟨some 72,.call .pure 12 [(tm 70),(tm 71)],some (68,true)⟩,op 73 (.pick (tm 68) (tm 72) (.cst (.bool false))),mv 74 73,mg 75 4 74 true,⟨some 76,.build [.int .i64 0,.int .i64 0,.int .i64 0,.str [],.sl false []] [(0,1,(ci (2))),(1,1,(ci (2)))],some (74,true)⟩,⟨some 77,.build [.int .i64 0,.int .i64 0,.int .i64 0,.str [],.sl false []] [],some (74,true)⟩,⟨some 78,.call .pure 25 [(tm 75),(.cst (.str [65])),(.cst (.str [107])),(tm 76),(tm 77)],some (74,true)⟩,⟨some 79,.lit false 1 (.int .i64 0) 1 [(0,(ci (2)))],some (74,true)⟩,⟨some 80,.call .pure 12 [(tm 78),(tm 79)],some (74,true)⟩,op 81 (.pick (tm 74) (tm 80) (.cst (.bool false))),mv 82 81,mg 83 4 82 true,⟨some 84,.build [.int .i64 0,.int .i64 0,.int .i64 0,.str [],.sl false []] [],some (82,true)⟩,⟨some 85,.call .pure 23 [(tm 83),(.cst (.str [65])),(.cst (.str [107])),(tm 84)],some (82,true)⟩,⟨some 86,.len .slice (tm 85),some (82,true)⟩,⟨some 87,.bin .eql .int (tm 86) (ci (0)),some (82,true)⟩,op 88 (.pick (tm 82) (tm 87) (.cst (.bool false))),mv 89 88,mg 90 4 89 true,mg 91 4 89 true,⟨some 92,.iaddr 8 (tm 91) (ci (2)),some (89,true)⟩,⟨some 93,.faddr 2 (tm 92),some (89,true)⟩,⟨some 94,.load (some 5) (tm 93),some (89,true)⟩,⟨some 95,.call .pure 23 [(tm 90),(.cst (.str [65])),(.cst (.str [107])),(tm 94)],some (89,true)⟩,⟨some 96,.lit false 1 (.int .i64 0) 1 [(0,(ci (3)))],some (89,true)⟩,⟨some 97,.call .pure 12 [(tm 95),(tm 96)],some (89,true)⟩,op 98 (.pick (tm 89) (tm 97) (.cst (.bool false))),mv 99 98,mg 100 6 99 true,⟨some 101,.bin .eql .int (tm 100) (ci (0)),some (99,true)⟩,op 102 (.pick (tm 99) (tm 101) (.cst (.bool false))),mv 103 102,mg 104 5 103 true,⟨some 105,.len .slice (tm 104),some (103,true)⟩,⟨some 106,.bin .eql .int (tm 105) (ci (3)),some (103,true)⟩,op 107 (.pick (tm 103) (tm 106) (.cst (.bool false))),mv 108 107,mg 109 8 108 true,⟨some 110,.bin .eql .int (tm 109) (ci (19)),some (108,true)⟩,op 111 (.pick (tm 108) (tm 110) (.cst (.bool false))),mv 112 111,mg 113 4 112 true,⟨some 114,.iaddr 8 (tm 113) (ci (0)),some (112,true)⟩,⟨some 115,.load (some 8) (tm 114),some (112,true)⟩,mg 116 4 112 true,⟨some 117,.iaddr 8 (tm 116) (ci (1)),some (112,true)⟩,⟨some 118,.load (some 8) (tm 117),some (112,true)⟩,⟨some 119,.call .pure 29 [(tm 115),(tm 118)],some (112,true)⟩,⟨some 120,.bin .eql .int (tm 119) (ci ((-1))),some (112,true)⟩,op 121 (.pick (tm 112) (tm 120) (.cst (.bool false))),mv 0 121] [0] none)
 (.ret))))))))

def a11 : AFunc := ⟨0,c11,[.tmp 0]⟩

def an11 : List RAnn := [
 { id := 0 },
 ra 1 [1],ra 2 [1,2],ra 3 [1,2,3],ra 4 [1,2,3,4],ra 5 [1,2,3,4,5,6],ra 6 [1,2,3,4,5,6,8],
 { id := 7,head := some 80,live := [0] }]

theorem comp11 : compF Tryz.prog an11 Tryz.f11 = some a11 := by kernel_rfl

/- graphdb/graphdbref12.Ints -/
/-- loop 0 of function 12 -/
def l12_0_h : List Nat := [0,1,5]

def l12_0_b : ACode :=
 .seq (.seq (rg [mv 11 5,mv 12 0,op 13 (.len .slice (tm 12)),op 14 (.bin .lss .int (tm 11) (tm 13))] [0,1,5,14])
 (.cond (tm 14) (.skip)
 (.exit 0)))
 (.seq (.block 1 (.seq (.region (some 9) [] [
 mv 17 0,mv 18 5,op 19 (.iaddr 1 (tm 17) (tm 18)),op 20 (.load none (tm 19)),mv 21 1,mv 22 5,op 23 (.iaddr 1 (tm 21) (tm 22)),op 24 (.load none (tm 23)),op 25 (.bin .neq .int (tm 20) (tm 24))] [0,1,5,25] none)
 (.cond (tm 25) (.seq (rg [op 4 (.mov (.cst (.bool false)))] [4])
 (.ret))
 (.skip))))
 (rg [mv 15 5,op 16 (.bin .add .int (tm 15) (ci (1))),mv 5 16] [0,1,5]))

def c12 : ACode :=
 .seq (rg [op 4 (.mov (.cst (.bool false)))] [0,1])
 (.seq (.seq (rg [mv 6 0,op 7 (.len .slice (tm 6)),mv 8 1,op 9 (.len .slice (tm 8)),op 10 (.bin .neq .int (tm 7) (tm 9))] [0,1,10])
 (.cond (tm 10) (.seq (rg [op 4 (.mov (.cst (.bool false)))] [4])
 (.ret))
 (.skip)))
 (.seq (.seq (rg [op 5 (.mov (ci (0)))] [0,1,5])
 (.block 0 (.loop l12_0_h l12_0_b)))
 (.seq (rg [op 4 (.mov (.cst (.bool true)))] [4])
 (.ret))))

def a12 : AFunc := ⟨2,c12,[.tmp 4]⟩

def an12 : List RAnn := [
 ra 0 [0,1],ra 1 [0,1,10],ra 2 [4],ra 3 [0,1,5],rh 4 [0,1,5,14] [0,1,5],
 { id := 6,head := some 9,live := [0,1,5,25] },
 ra 7 [4],ra 5 [0,1,5],ra 8 [4]]

theorem comp12 : compF Tryz.prog an12 Tryz.f12 = some a12 := by kernel_rfl

/- graphdb/index.Label -/
/-- loop 0 of function 13 -/
def l13_0_h : List Nat := [1,5,10,11,12]

def l13_0_b : ACode :=
 .seq (rg [op 13 (.bin .lss .int (tm 12) (tm 11))] [1,5,10,11,12,13])
 (.seq (.cond (tm 13) (.skip)
 (.exit 0))
 (.seq (.block 1 (.seq (rg [op 14 (.iaddr 3 (tm 10) (tm 12)),op 15 (.load (some 3) (tm 14)),op 7 (.alloc 3 (.agg [.int .i64 0,.sl false [],.sl false []])),⟨none,.store 3 (tm 7) (tm 15),none⟩] [1,5,7,10,11,12])
 (.seq (rg [op 16 (.load (some 3) (tm 7)),mv 17 1,op 18 (.call .pure 34 [(tm 16),(tm 17)])] [1,5,7,10,11,12,18])
 (.cond (tm 18) (rg [mv 19 5,op 20 (.faddr 0 (tm 7)),op 21 (.load none (tm 20)),op 22 (.lit false 1 (.int .i64 0) 1 [(0,(tm 21))]),op 23 (.append 1 8 (tm 19) (tm 22)),mv 5 23] [1,5,10,11,12])
 (.skip)))))
 (.region none [] [op 24 (.bin .add .int (tm 12) (ci (1))),mv 12 24] [1,5,10,11,12] (some 2))))

def c13 : ACode :=
 .seq (rg [op 2 (.box 4 (tm 0)),op 4 (.mov (.cst (.sl false [])))] [1,2])
 (.seq (rg [op 5 (.newown 1)] [1,2,5])
 (.seq (.seq (rg [op 8 (.load (some 4) (tm 2)),op 9 (.call .pure 38 [(tm 8)]),op 10 (.field 0 none (tm 9)),op 11 (.len .slice (tm 10)),op 12 (.mov (ci (0)))] [1,5,10,11,12])
 (.block 0 (.loop l13_0_h l13_0_b)))
 (.seq (rg [mv 25 5,mv 4 25] [4])
 (.ret))))

def a13 : AFunc := ⟨2,c13,[.tmp 4]⟩

def an13 : List RAnn := [
 ra 0 [1,2],
 { id := 1,live := [1,2,5],ops := [(0,.own)] },
 ra 2 [1,5,10,11,12],rh 3 [1,5,10,11,12,13] [1,5,10,11,12],ra 4 [1,5,7,10,11,12],ra 5 [1,5,7,10,11,12,18],ra 6 [1,5,10,11,12],
 { id := 7,live := [1,5,10,11,12],trunc := some 2 },
 ra 8 [4]]

theorem comp13 : compF Tryz.prog an13 Tryz.f13 = some a13 := by kernel_rfl

/- graphdb/graphdbref15.Rels -/
/-- loop 0 of function 15 -/
def l15_0_h : List Nat := [2,3,5,6]

def l15_0_b : ACode :=
 .seq (.seq (rg [mv 41 6,op 42 (.faddr 1 (tm 2)),op 43 (.load none (tm 42)),mv 44 5,op 45 (.iaddr 1 (tm 43) (tm 44)),op 46 (.load none (tm 45)),op 47 (.len .slice (tm 46)),op 48 (.bin .lss .int (tm 41) (tm 47))] [2,3,5,6,48])
 (.cond (tm 48) (.skip)
 (.exit 2)))
 (.seq (.block 3 (.seq (.region (some 17) [] [
 op 51 (.faddr 1 (tm 2)),op 52 (.load none (tm 51)),mv 53 5,op 54 (.iaddr 1 (tm 52) (tm 53)),op 55 (.load none (tm 54)),mv 56 6,op 57 (.iaddr 1 (tm 55) (tm 56)),op 58 (.load none (tm 57)),op 59 (.faddr 1 (tm 3)),op 60 (.load none (tm 59)),mv 61 5,op 62 (.iaddr 1 (tm 60) (tm 61)),op 63 (.load none (tm 62)),mv 64 6,op 65 (.iaddr 1 (tm 63) (tm 64)),op 66 (.load none (tm 65)),op 67 (.bin .neq .int (tm 58) (tm 66))] [2,3,5,6,67] none)
 (.cond (tm 67) (.seq (rg [op 4 (.mov (.cst (.bool false)))] [4])
 (.ret))
 (.skip))))
 (rg [mv 49 6,op 50 (.bin .add .int (tm 49) (ci (1))),mv 6 50] [2,3,5,6]))

/-- loop 1 of function 15 -/
def l15_1_h : List Nat := [2,3,5]

def l15_1_b : ACode :=
 .seq (.seq (rg [mv 21 5,op 22 (.faddr 1 (tm 2)),op 23 (.load none (tm 22)),op 24 (.len .slice (tm 23)),op 25 (.bin .lss .int (tm 21) (tm 24))] [2,3,5,25])
 (.cond (tm 25) (.skip)
 (.exit 0)))
 (.seq (.block 1 (.seq (.seq (.region (some 13) [] [
 op 28 (.faddr 1 (tm 2)),op 29 (.load none (tm 28)),mv 30 5,op 31 (.iaddr 1 (tm 29) (tm 30)),op 32 (.load none (tm 31)),op 33 (.len .slice (tm 32)),op 34 (.faddr 1 (tm 3)),op 35 (.load none (tm 34)),mv 36 5,op 37 (.iaddr 1 (tm 35) (tm 36)),op 38 (.load none (tm 37)),op 39 (.len .slice (tm 38)),op 40 (.bin .neq .int (tm 33) (tm 39))] [2,3,5,40] none)
 (.cond (tm 40) (.seq (rg [op 4 (.mov (.cst (.bool false)))] [4])
 (.ret))
 (.skip)))
 (.seq (rg [op 6 (.mov (ci (0)))] [2,3,5,6])
 (.block 2 (.loop l15_0_h l15_0_b)))))
 (rg [mv 26 5,op 27 (.bin .add .int (tm 26) (ci (1))),mv 5 27] [2,3,5]))

def c15 : ACode :=
 .seq (rg [op 2 (.box 2 (tm 0)),op 3 (.box 2 (tm 1)),op 4 (.mov (.cst (.bool false)))] [2,3])
 (.seq (.seq (rg [op 7 (.faddr 0 (tm 2)),op 8 (.load none (tm 7)),op 9 (.faddr 0 (tm 3)),op 10 (.load none (tm 9)),op 11 (.bin .neq .int (tm 8) (tm 10)),mv 12 11,⟨some 13,.faddr 1 (tm 2),some (12,false)⟩,⟨some 14,.load none (tm 13),some (12,false)⟩,⟨some 15,.len .slice (tm 14),some (12,false)⟩,⟨some 16,.faddr 1 (tm 3),some (12,false)⟩,⟨some 17,.load none (tm 16),some (12,false)⟩,⟨some 18,.len .slice (tm 17),some (12,false)⟩,⟨some 19,.bin .neq .int (tm 15) (tm 18),some (12,false)⟩,op 20 (.pick (tm 12) (.cst (.bool true)) (tm 19))] [2,3,20])
 (.cond (tm 20) (.seq (rg [op 4 (.mov (.cst (.bool false)))] [4])
 (.ret))
 (.skip)))
 (.seq (.seq (rg [op 5 (.mov (ci (0)))] [2,3,5])
 (.block 0 (.loop l15_1_h l15_1_b)))
 (.seq (rg [op 4 (.mov (.cst (.bool true)))] [4])
 (.ret))))

def a15 : AFunc := ⟨2,c15,[.tmp 4]⟩

def an15 : List RAnn := [
 ra 0 [2,3],ra 1 [2,3,20],ra 2 [4],ra 3 [2,3,5],rh 4 [2,3,5,25] [2,3,5],
 { id := 6,head := some 13,live := [2,3,5,40] },
 ra 7 [4],ra 8 [2,3,5,6],rh 9 [2,3,5,6,48] [2,3,5,6],
 { id := 11,head := some 17,live := [2,3,5,6,67] },
 ra 12 [4],ra 10 [2,3,5,6],ra 5 [2,3,5],ra 13 [4]]

theorem comp15 : compF Tryz.prog an15 Tryz.f15 = some a15 := by kernel_rfl

/- graphdb/index.Edges -/
/-- loop 0 of function 16 -/
def l16_0_h : List Nat := [1,4,5,10,11,12]

def l16_0_b : ACode :=
 .seq (rg [op 13 (.bin .lss .int (tm 12) (tm 11))] [1,4,5,10,11,12,13])
 (.seq (.cond (tm 13) (.skip)
 (.exit 0))
 (.seq (.block 1 (.seq (rg [op 14 (.iaddr 5 (tm 10) (tm 12)),op 15 (.load (some 5) (tm 14)),op 7 (.alloc 5 (.agg [.int .i64 0,.int .i64 0,.int .i64 0,.str [],.sl false []])),⟨none,.store 5 (tm 7) (tm 15),none⟩] [1,4,5,7,10,11,12])
 (.seq (rg [op 16 (.load (some 5) (tm 7)),mv 17 1,op 18 (.call .pure 41 [(tm 16),(tm 17)])] [1,4,5,7,10,11,12,18])
 (.cond (tm 18) (rg [mv 19 5,op 20 (.faddr 1 (tm 7)),op 21 (.load none (tm 20)),op 22 (.faddr 0 (tm 7)),op 23 (.load none (tm 22)),op 24 (.faddr 2 (tm 7)),op 25 (.load none (tm 24)),op 26 (.lit false 1 (.int .i64 0) 3 [(0,(tm 21)),(1,(tm 23)),(2,(tm 25))]),op 27 (.lit false 1 (.sl false []) 1 [(0,(tm 26))]),op 28 (.append 1 24 (tm 19) (tm 27)),mv 5 28] [1,4,5,10,11,12])
 (.skip)))))
 (.region none [] [op 29 (.bin .add .int (tm 12) (ci (1))),mv 12 29] [1,4,5,10,11,12] (some 3))))

def c16 : ACode :=
 .seq (rg [op 2 (.box 4 (tm 0)),op 4 (.alloc 2 (.agg [.int .i64 0,.sl false []]))] [1,2,4])
 (.seq (rg [op 5 (.newown 1)] [1,2,4,5])
 (.seq (.seq (rg [op 8 (.load (some 4) (tm 2)),op 9 (.call .pure 38 [(tm 8)]),op 10 (.field 1 none (tm 9)),op 11 (.len .slice (tm 10)),op 12 (.mov (ci (0)))] [1,4,5,10,11,12])
 (.block 0 (.loop l16_0_h l16_0_b)))
 (.seq (rg [mv 30 5,op 31 (.call .share 42 [(ci (3)),(tm 30)]),⟨none,.store 2 (tm 4) (tm 31),none⟩] [4])
 (.ret))))

def a16 : AFunc := ⟨2,c16,[.cell 4 (some 2)]⟩

def an16 : List RAnn := [
 ra 0 [1,2,4],
 { id := 1,live := [1,2,4,5],ops := [(0,.own)] },
 ra 2 [1,4,5,10,11,12],rh 3 [1,4,5,10,11,12,13] [1,4,5,10,11,12],ra 4 [1,4,5,7,10,11,12],ra 5 [1,4,5,7,10,11,12,18],ra 6 [1,4,5,10,11,12],
 { id := 7,live := [1,4,5,10,11,12],trunc := some 3 },
 { id := 8,live := [4],ops := [(1,.mode .share)] }]

theorem comp16 : compF Tryz.prog an16 Tryz.f16 = some a16 := by kernel_rfl

/- graphdb/index.Pairs -/
/-- loop 0 of function 18 -/
def l18_0_h : List Nat := [1,4,5,10,11,12]

def l18_0_b : ACode :=
 .seq (rg [op 13 (.bin .lss .int (tm 12) (tm 11))] [1,4,5,10,11,12,13])
 (.seq (.cond (tm 13) (.skip)
 (.exit 0))
 (.seq (.block 1 (.seq (rg [op 14 (.iaddr 5 (tm 10) (tm 12)),op 15 (.load (some 5) (tm 14)),op 7 (.alloc 5 (.agg [.int .i64 0,.int .i64 0,.int .i64 0,.str [],.sl false []])),⟨none,.store 5 (tm 7) (tm 15),none⟩] [1,4,5,7,10,11,12])
 (.seq (rg [op 16 (.load (some 5) (tm 7)),mv 17 1,op 18 (.call .pure 41 [(tm 16),(tm 17)])] [1,4,5,7,10,11,12,18])
 (.cond (tm 18) (rg [mv 19 5,op 20 (.faddr 1 (tm 7)),op 21 (.load none (tm 20)),op 22 (.faddr 2 (tm 7)),op 23 (.load none (tm 22)),op 24 (.lit false 1 (.int .i64 0) 2 [(0,(tm 21)),(1,(tm 23))]),op 25 (.lit false 1 (.sl false []) 1 [(0,(tm 24))]),op 26 (.append 1 24 (tm 19) (tm 25)),mv 5 26] [1,4,5,10,11,12])
 (.skip)))))
 (.region none [] [op 27 (.bin .add .int (tm 12) (ci (1))),mv 12 27] [1,4,5,10,11,12] (some 3))))

def c18 : ACode :=
 .seq (rg [op 2 (.box 4 (tm 0)),op 4 (.alloc 2 (.agg [.int .i64 0,.sl false []]))] [1,2,4])
 (.seq (rg [op 5 (.newown 1)] [1,2,4,5])
 (.seq (.seq (rg [op 8 (.load (some 4) (tm 2)),op 9 (.call .pure 38 [(tm 8)]),op 10 (.field 1 none (tm 9)),op 11 (.len .slice (tm 10)),op 12 (.mov (ci (0)))] [1,4,5,10,11,12])
 (.block 0 (.loop l18_0_h l18_0_b)))
 (.seq (rg [mv 28 5,op 29 (.call .share 42 [(ci (2)),(tm 28)]),⟨none,.store 2 (tm 4) (tm 29),none⟩] [4])
 (.ret))))

def a18 : AFunc := ⟨2,c18,[.cell 4 (some 2)]⟩

def an18 : List RAnn := [
 ra 0 [1,2,4],
 { id := 1,live := [1,2,4,5],ops := [(0,.own)] },
 ra 2 [1,4,5,10,11,12],rh 3 [1,4,5,10,11,12,13] [1,4,5,10,11,12],ra 4 [1,4,5,7,10,11,12],ra 5 [1,4,5,7,10,11,12,18],ra 6 [1,4,5,10,11,12],
 { id := 7,live := [1,4,5,10,11,12],trunc := some 3 },
 { id := 8,live := [4],ops := [(1,.mode .share)] }]

theorem comp18 : compF Tryz.prog an18 Tryz.f18 = some a18 := by kernel_rfl

/- graphdb/graphdbref15.Same -/
/-- loop 0 of function 20 -/
def l20_0_h : List Nat := [0,1,5]

def l20_0_b : ACode :=
 .seq (.seq (rg [mv 11 5,mv 12 0,op 13 (.len .slice (tm 12)),op 14 (.bin .lss .int (tm 11) (tm 13))] [0,1,5,14])
 (.cond (tm 14) (.skip)
 (.exit 0)))
 (.seq (.block 1 (.seq (.region (some 10) [] [
 mv 17 0,mv 18 5,op 19 (.iaddr 8 (tm 17) (tm 18)),op 20 (.load (some 8) (tm 19)),mv 21 1,mv 22 5,op 23 (.iaddr 8 (tm 21) (tm 22)),op 24 (.load (some 8) (tm 23)),op 25 (.call .pure 45 [(tm 20),(tm 24)]),op 26 (.bin .neq .int (tm 25) (ci (0)))] [0,1,5,26] none)
 (.cond (tm 26) (.seq (rg [op 4 (.mov (.cst (.bool false)))] [4])
 (.ret))
 (.skip))))
 (rg [mv 15 5,op 16 (.bin .add .int (tm 15) (ci (1))),mv 5 16] [0,1,5]))

def c20 : ACode :=
 .seq (rg [op 4 (.mov (.cst (.bool false)))] [0,1])
 (.seq (.seq (rg [mv 6 0,op 7 (.len .slice (tm 6)),mv 8 1,op 9 (.len .slice (tm 8)),op 10 (.bin .neq .int (tm 7) (tm 9))] [0,1,10])
 (.cond (tm 10) (.seq (rg [op 4 (.mov (.cst (.bool false)))] [4])
 (.ret))
 (.skip)))
 (.seq (.seq (rg [op 5 (.mov (ci (0)))] [0,1,5])
 (.block 0 (.loop l20_0_h l20_0_b)))
 (.seq (rg [op 4 (.mov (.cst (.bool true)))] [4])
 (.ret))))

def a20 : AFunc := ⟨2,c20,[.tmp 4]⟩

def an20 : List RAnn := [
 ra 0 [0,1],ra 1 [0,1,10],ra 2 [4],ra 3 [0,1,5],rh 4 [0,1,5,14] [0,1,5],
 { id := 6,head := some 10,live := [0,1,5,26] },
 ra 7 [4],ra 5 [0,1,5],ra 8 [4]]

theorem comp20 : compF Tryz.prog an20 Tryz.f20 = some a20 := by kernel_rfl

/- graphdb/index.Build -/
/-- loop 0 of function 21 -/
def l21_0_h : List Nat := [3,5,7,12,13,14,19,20,21,26,27,28]

def l21_0_b : ACode :=
 .seq (rg [op 29 (.bin .lss .int (tm 28) (tm 27))] [3,5,7,12,13,14,19,20,21,26,27,28,29])
 (.seq (.cond (tm 29) (.skip)
 (.exit 4))
 (.seq (.block 5 (.seq (rg [op 30 (.iaddr 6 (tm 26) (tm 28)),op 31 (.load (some 6) (tm 30)),op 9 (.alloc 6 (.agg [.str [],.int .i64 0,.int .i64 0,.int .i64 0,.str [],.sl false []])),⟨none,.store 6 (tm 9) (tm 31),none⟩] [3,5,7,9,12,13,14,19,20,21,26,27,28])
 (rg [mv 32 3,mv 33 7,op 34 (.faddr 0 (tm 9)),op 35 (.load none (tm 34)),op 36 (.faddr 1 (tm 9)),op 37 (.load (some 5) (tm 36)),op 38 (.faddr 0 (tm 5)),op 39 (.load none (tm 38)),op 40 (.build [.str [],.str [],.int .i64 0,.int .i64 0,.int .i64 0,.str [],.sl false [],.int .i64 0] [(0,1,(tm 33)),(1,1,(tm 35)),(2,5,(tm 37)),(7,1,(tm 39))]),op 41 (.lit false 8 (.agg [.str [],.str [],.int .i64 0,.int .i64 0,.int .i64 0,.str [],.sl false [],.int .i64 0]) 1 [(0,(tm 40))]),op 42 (.append 8 104 (tm 32) (tm 41)),mv 3 42] [3,5,7,12,13,14,19,20,21,26,27,28])))
 (.region none [] [op 43 (.bin .add .int (tm 28) (ci (1))),mv 28 43] [3,5,7,12,13,14,19,20,21,26,27,28] (some 3))))

/-- loop 1 of function 21 -/
def l21_1_h : List Nat := [3,5,12,13,14,19,20,21]

def l21_1_b : ACode :=
 .seq (rg [op 22 (.bin .lss .int (tm 21) (tm 20))] [3,5,12,13,14,19,20,21,22])
 (.seq (.cond (tm 22) (.skip)
 (.exit 2))
 (.seq (.block 3 (.seq (rg [op 23 (.iaddr 1 (tm 19) (tm 21)),op 24 (.load none (tm 23)),mv 7 24] [3,5,7,12,13,14,19,20,21])
 (.seq (rg [op 25 (.faddr 2 (tm 5)),op 26 (.load none (tm 25)),op 27 (.len .slice (tm 26)),op 28 (.mov (ci (0)))] [3,5,7,12,13,14,19,20,21,26,27,28])
 (.block 4 (.loop l21_0_h l21_0_b)))))
 (.region none [] [op 44 (.bin .add .int (tm 21) (ci (1))),mv 21 44] [3,5,12,13,14,19,20,21] (some 3))))

/-- loop 2 of function 21 -/
def l21_2_h : List Nat := [3,12,13,14]

def l21_2_b : ACode :=
 .seq (rg [op 15 (.bin .lss .int (tm 14) (tm 13))] [3,12,13,14,15])
 (.seq (.cond (tm 15) (.skip)
 (.exit 0))
 (.seq (.block 1 (.seq (rg [op 16 (.iaddr 3 (tm 12) (tm 14)),op 17 (.load (some 3) (tm 16)),op 5 (.alloc 3 (.agg [.int .i64 0,.sl false [],.sl false []])),⟨none,.store 3 (tm 5) (tm 17),none⟩] [3,5,12,13,14])
 (.seq (rg [op 18 (.faddr 1 (tm 5)),op 19 (.load none (tm 18)),op 20 (.len .slice (tm 19)),op 21 (.mov (ci (0)))] [3,5,12,13,14,19,20,21])
 (.block 2 (.loop l21_1_h l21_1_b)))))
 (.region none [] [op 45 (.bin .add .int (tm 14) (ci (1))),mv 14 45] [3,12,13,14] (some 2))))

def c21 : ACode :=
 .seq (rg [op 1 (.box 4 (tm 0)),op 2 (.mov (.cst (.sl false [])))] [1])
 (.seq (rg [op 3 (.newown 8)] [1,3])
 (.seq (.seq (rg [op 10 (.load (some 4) (tm 1)),op 11 (.call .pure 38 [(tm 10)]),op 12 (.field 0 none (tm 11)),op 13 (.len .slice (tm 12)),op 14 (.mov (ci (0)))] [3,12,13,14])
 (.block 0 (.loop l21_2_h l21_2_b)))
 (.seq (rg [mv 46 3,op 47 (.call .share 46 [(tm 46),(.cst (.fn 29 []))])] [3])
 (.seq (rg [mv 48 3,mv 2 48] [2])
 (.ret)))))

def a21 : AFunc := ⟨1,c21,[.tmp 2]⟩

def an21 : List RAnn := [
 ra 0 [1],
 { id := 1,live := [1,3],ops := [(0,.own)] },
 ra 2 [3,12,13,14],rh 3 [3,12,13,14,15] [3,12,13,14],ra 4 [3,5,12,13,14],ra 5 [3,5,12,13,14,19,20,21],rh 6 [3,5,12,13,14,19,20,21,22] [3,5,12,13,14,19,20,21],ra 7 [3,5,7,12,13,14,19,20,21],ra 8 [3,5,7,12,13,14,19,20,21,26,27,28],rh 9 [3,5,7,12,13,14,19,20,21,26,27,28,29] [3,5,7,12,13,14,19,20,21,26,27,28],ra 10 [3,5,7,9,12,13,14,19,20,21,26,27,28],ra 11 [3,5,7,12,13,14,19,20,21,26,27,28],
 { id := 12,live := [3,5,7,12,13,14,19,20,21,26,27,28],trunc := some 3 },
 { id := 13,live := [3,5,12,13,14,19,20,21],trunc := some 3 },
 { id := 14,live := [3,12,13,14],trunc := some 2 },
 { id := 15,live := [3],ops := [(1,.mode .share)] },
 ra 16 [2]]

theorem comp21 : compF Tryz.prog an21 Tryz.f21 = some a21 := by kernel_rfl

/- graphdb/index.Find -/
def c23 : ACode :=
 .seq (rg [op 7 (.box 5 (tm 3)),op 8 (.mov (.cst (.sl false [])))] [0,1,2,7])
 (.seq (.region none [7] [
 mv 9 0,mv 10 1,mv 11 2,op 12 (.mkfn 48 [(tm 7)]),op 13 (.call .pure 47 [(tm 9),(tm 10),(tm 11),(tm 12)]),mv 8 13] [8] none)
 (.ret))

def a23 : AFunc := ⟨4,c23,[.tmp 8]⟩

def an23 : List RAnn := [
 ra 0 [0,1,2,7],
 { id := 1,frz := [7],live := [8] }]

theorem comp23 : compF Tryz.prog an23 Tryz.f23 = some a23 := by kernel_rfl

/- graphdb/index.Range -/
def c25 : ACode :=
 .seq (rg [op 8 (.box 5 (tm 3)),op 9 (.box 5 (tm 4)),op 10 (.mov (.cst (.sl false [])))] [0,1,2,8,9])
 (.seq (.region none [8,9] [
 mv 11 0,mv 12 1,mv 13 2,op 14 (.mkfn 51 [(tm 8),(tm 9)]),op 15 (.call .pure 47 [(tm 11),(tm 12),(tm 13),(tm 14)]),mv 10 15] [10] none)
 (.ret))

def a25 : AFunc := ⟨5,c25,[.tmp 10]⟩

def an25 : List RAnn := [
 ra 0 [0,1,2,8,9],
 { id := 1,frz := [8,9],live := [10] }]

theorem comp25 : compF Tryz.prog an25 Tryz.f25 = some a25 := by kernel_rfl

/- graphdb/index.Update -/
def c27 : ACode :=
 .seq (rg [op 4 (.box 4 (tm 1)),op 5 (.box 10 (tm 2)),op 6 (.mov (.cst (.sl false []))),op 7 (.mov (ci (0)))] [0,4,5])
 (.seq (.seq (rg [mv 10 0,op 11 (.load (some 4) (tm 4)),op 12 (.call .pure 21 [(tm 11)]),op 13 (.call .pure 56 [(tm 10),(tm 12),(.cst (.fn 57 []))]),op 14 (.un .not (tm 13))] [4,5,14])
 (.cond (tm 14) (.seq (rg [op 6 (.mov (.cst (.sl false []))),op 7 (.mov (ci (19)))] [6,7])
 (.ret))
 (.skip)))
 (.seq (rg [op 16 (.load (some 4) (tm 4)),op 17 (.load (some 10) (tm 5)),op 18 (.call .pure 31 [(tm 16),(tm 17)]),mv 15 18,op 19 (.ext (tm 15) 0),op 20 (.ext (tm 15) 1),op 8 (.alloc 4 (.agg [.sl false [],.sl false [],.int .i64 0,.int .i64 0])),⟨none,.store 4 (tm 8) (tm 19),none⟩,mv 9 20] [8,9])
 (.seq (.seq (rg [mv 21 9,op 22 (.bin .neq .int (tm 21) (ci (0)))] [8,9,22])
 (.cond (tm 22) (.seq (rg [mv 23 9,op 6 (.mov (.cst (.sl false []))),mv 7 23] [6,7])
 (.ret))
 (.skip)))
 (.seq (rg [op 24 (.load (some 4) (tm 8)),op 25 (.call .pure 21 [(tm 24)]),mv 6 25,op 7 (.mov (ci (0)))] [6,7])
 (.ret)))))

def a27 : AFunc := ⟨3,c27,[.tmp 6,.tmp 7]⟩

def an27 : List RAnn := [
 ra 0 [0,4,5],ra 1 [4,5,14],ra 2 [6,7],ra 3 [8,9],ra 4 [8,9,22],ra 5 [6,7],ra 6 [6,7]]

theorem comp27 : compF Tryz.prog an27 Tryz.f27 = some a27 := by kernel_rfl

/- graphdb/index.Order -/
def c29 : ACode :=
 .seq (rg [op 2 (.box 8 (tm 0)),op 3 (.box 8 (tm 1)),op 4 (.mov (ci (0)))] [2,3])
 (.seq (.region (some 23) [] [
 op 5 (.faddr 0 (tm 2)),op 6 (.load none (tm 5)),op 7 (.faddr 0 (tm 3)),op 8 (.load none (tm 7)),op 9 (.call .pure 60 [(tm 6),(tm 8)]),op 10 (.faddr 1 (tm 2)),op 11 (.load none (tm 10)),op 12 (.faddr 1 (tm 3)),op 13 (.load none (tm 12)),op 14 (.call .pure 60 [(tm 11),(tm 13)]),op 15 (.faddr 2 (tm 2)),op 16 (.load (some 5) (tm 15)),op 17 (.faddr 2 (tm 3)),op 18 (.load (some 5) (tm 17)),op 19 (.call .pure 30 [(tm 16),(tm 18)]),op 20 (.faddr 7 (tm 2)),op 21 (.load none (tm 20)),op 22 (.faddr 7 (tm 3)),op 23 (.load none (tm 22)),op 24 (.call .pure 61 [(tm 21),(tm 23)]),op 25 (.lit false 1 (.int .i64 0) 4 [(0,(tm 9)),(1,(tm 14)),(2,(tm 19)),(3,(tm 24))]),op 26 (.call .pure 59 [(tm 25)]),mv 4 26] [4] none)
 (.ret))

def a29 : AFunc := ⟨2,c29,[.tmp 4]⟩

def an29 : List RAnn := [
 ra 0 [2,3],
 { id := 1,head := some 23,live := [4] }]

theorem comp29 : compF Tryz.prog an29 Tryz.f29 = some a29 := by kernel_rfl

/- graphdb/value.Order -/
def c30 : ACode :=
 .seq (rg [op 2 (.box 5 (tm 0)),op 3 (.box 5 (tm 1)),op 4 (.mov (ci (0)))] [2,3])
 (.seq (.region (some 6) [] [
 op 7 (.load (some 5) (tm 2)),op 8 (.call .pure 62 [(tm 7)]),op 9 (.load (some 5) (tm 3)),op 10 (.call .pure 62 [(tm 9)]),mv 5 8,mv 6 10] [2,3,5,6] none)
 (.seq (.block 0 (.seq (rg [mv 12 5,mv 13 12,mg 14 6 13 true,op 15 (.pick (tm 13) (tm 14) (.cst (.bool false))),mv 11 15] [2,3,5,6,11])
 (.cond (tm 11) (.seq (rg [op 16 (.load (some 5) (tm 2)),op 17 (.load (some 5) (tm 3)),op 18 (.call .pure 63 [(tm 16),(tm 17)]),mv 4 18] [4])
 (.ret))
 (.seq (rg [mv 20 5,mv 19 20] [2,3,6,19])
 (.cond (tm 19) (.seq (rg [op 4 (.mov (ci ((-1))))] [4])
 (.ret))
 (.seq (rg [mv 22 6,mv 21 22] [2,3,21])
 (.cond (tm 21) (.seq (rg [op 4 (.mov (ci (1)))] [4])
 (.ret))
 (.skip))))))))
 (.seq (.region (some 28) [] [
 op 23 (.faddr 0 (tm 2)),op 24 (.load none (tm 23)),op 25 (.faddr 0 (tm 3)),op 26 (.load none (tm 25)),op 27 (.call .pure 61 [(tm 24),(tm 26)]),op 28 (.faddr 1 (tm 2)),op 29 (.load none (tm 28)),op 30 (.faddr 1 (tm 3)),op 31 (.load none (tm 30)),op 32 (.call .pure 61 [(tm 29),(tm 31)]),op 33 (.faddr 2 (tm 2)),op 34 (.load none (tm 33)),op 35 (.faddr 2 (tm 3)),op 36 (.load none (tm 35)),op 37 (.call .pure 61 [(tm 34),(tm 36)]),op 38 (.faddr 3 (tm 2)),op 39 (.load none (tm 38)),op 40 (.faddr 3 (tm 3)),op 41 (.load none (tm 40)),op 42 (.call .pure 60 [(tm 39),(tm 41)]),op 43 (.faddr 4 (tm 2)),op 44 (.load none (tm 43)),op 45 (.faddr 4 (tm 3)),op 46 (.load none (tm 45)),op 47 (.call .pure 64 [(tm 44),(tm 46),(.cst (.fn 30 []))]),op 48 (.lit false 1 (.int .i64 0) 5 [(0,(tm 27)),(1,(tm 32)),(2,(tm 37)),(3,(tm 42)),(4,(tm 47))]),op 49 (.call .pure 59 [(tm 48)]),mv 4 49] [4] none)
 (.ret))))

def a30 : AFunc := ⟨2,c30,[.tmp 4]⟩

def an30 : List RAnn := [
 ra 0 [2,3],
 { id := 1,head := some 6,live := [2,3,5,6] },
 ra 2 [2,3,5,6,11],ra 3 [4],ra 4 [2,3,6,19],ra 5 [4],ra 6 [2,3,21],ra 7 [4],
 { id := 8,head := some 28,live := [4] }]

theorem comp30 : compF Tryz.prog an30 Tryz.f30 = some a30 := by kernel_rfl

/- graphdb/change.Apply -/
def c31 : ACode :=
 .seq (rg [op 2 (.box 4 (tm 0)),op 3 (.box 10 (tm 1)),op 4 (.alloc 4 (.agg [.sl false [],.sl false [],.int .i64 0,.int .i64 0])),op 5 (.mov (ci (0)))] [2,3,4])
 (.seq (rg [op 10 (.load (some 4) (tm 2)),op 11 (.load (some 10) (tm 3)),op 12 (.lit false 10 (.agg [.int .i64 0,.int .i64 0,.int .i64 0,.int .i64 0,.str [],.int .i64 0,.int .i64 0,.int .i64 0,.str [],.sl false []]) 1 [(0,(tm 11))]),op 13 (.call .pure 65 [(tm 10),(tm 12)]),mv 9 13,op 14 (.ext (tm 9) 0),op 15 (.ext (tm 9) 1),op 16 (.ext (tm 9) 2),op 6 (.alloc 4 (.agg [.sl false [],.sl false [],.int .i64 0,.int .i64 0])),⟨none,.store 4 (tm 6) (tm 14),none⟩,mv 7 15,mv 8 16] [4,6,8])
 (.seq (rg [op 17 (.load (some 4) (tm 6)),mv 18 8,⟨none,.store 4 (tm 4) (tm 17),none⟩,mv 5 18] [4,5])
 (.ret)))

def a31 : AFunc := ⟨2,c31,[.cell 4 (some 4),.tmp 5]⟩

def an31 : List RAnn := [
 ra 0 [2,3,4],ra 1 [4,6,8],ra 2 [4,5]]

theorem comp31 : compF Tryz.prog an31 Tryz.f31 = some a31 := by kernel_rfl

/- graphdb/graph.Check -/
/-- loop 0 of function 32 -/
def l32_0_h : List Nat := [1,38,39,40]

def l32_0_b : ACode :=
 .seq (rg [op 41 (.bin .lss .int (tm 40) (tm 39))] [1,38,39,40,41])
 (.seq (.cond (tm 41) (.skip)
 (.exit 0))
 (.seq (.block 1 (.seq (rg [mv 42 40,op 43 (.iaddr 3 (tm 38) (tm 40)),op 44 (.load (some 3) (tm 43)),op 4 (.alloc 3 (.agg [.int .i64 0,.sl false [],.sl false []])),mv 3 42,⟨none,.store 3 (tm 4) (tm 44),none⟩] [1,3,4,38,39,40])
 (.seq (.seq (.region (some 14) [] [
 mv 45 3,op 46 (.bin .gtr .int (tm 45) (ci (0))),mv 47 46,⟨some 48,.faddr 0 (tm 4),some (47,true)⟩,⟨some 49,.load none (tm 48),some (47,true)⟩,⟨some 50,.faddr 0 (tm 1),some (47,true)⟩,⟨some 51,.load none (tm 50),some (47,true)⟩,mg 52 3 47 true,⟨some 53,.bin .sub .int (tm 52) (ci (1)),some (47,true)⟩,⟨some 54,.iaddr 3 (tm 51) (tm 53),some (47,true)⟩,⟨some 55,.faddr 0 (tm 54),some (47,true)⟩,⟨some 56,.load none (tm 55),some (47,true)⟩,⟨some 57,.bin .leq .int (tm 49) (tm 56),some (47,true)⟩,op 58 (.pick (tm 47) (tm 57) (.cst (.bool false)))] [1,4,38,39,40,58] none)
 (.cond (tm 58) (.seq (rg [op 2 (.mov (ci (26)))] [2])
 (.ret))
 (.skip)))
 (.seq (.seq (rg [op 59 (.faddr 0 (tm 4)),op 60 (.load none (tm 59)),op 61 (.bin .lss .int (tm 60) (ci (1))),mv 62 61,⟨some 63,.faddr 0 (tm 4),some (62,false)⟩,⟨some 64,.load none (tm 63),some (62,false)⟩,⟨some 65,.faddr 2 (tm 1),some (62,false)⟩,⟨some 66,.load none (tm 65),some (62,false)⟩,⟨some 67,.bin .geq .int (tm 64) (tm 66),some (62,false)⟩,op 68 (.pick (tm 62) (.cst (.bool true)) (tm 67))] [1,4,38,39,40,68])
 (.cond (tm 68) (.seq (rg [op 2 (.mov (ci (1)))] [2])
 (.ret))
 (.skip)))
 (.seq (rg [op 69 (.faddr 1 (tm 4)),op 70 (.load none (tm 69)),op 71 (.faddr 2 (tm 4)),op 72 (.load none (tm 71)),op 73 (.call .pure 66 [(tm 70),(tm 72)]),mv 5 73] [1,5,38,39,40])
 (.seq (rg [mv 74 5,op 75 (.bin .neq .int (tm 74) (ci (0)))] [1,5,38,39,40,75])
 (.cond (tm 75) (.seq (rg [mv 76 5,mv 2 76] [2])
 (.ret))
 (.skip))))))))
 (.region none [] [op 77 (.bin .add .int (tm 40) (ci (1))),mv 40 77] [1,38,39,40] (some 1))))

/-- loop 1 of function 32 -/
def l32_1_h : List Nat := [1,79,80,81]

def l32_1_b : ACode :=
 .seq (rg [op 82 (.bin .lss .int (tm 81) (tm 80))] [1,79,80,81,82])
 (.seq (.cond (tm 82) (.skip)
 (.exit 2))
 (.seq (.block 3 (.seq (rg [mv 83 81,op 84 (.iaddr 5 (tm 79) (tm 81)),op 85 (.load (some 5) (tm 84)),op 7 (.alloc 5 (.agg [.int .i64 0,.int .i64 0,.int .i64 0,.str [],.sl false []])),mv 6 83,⟨none,.store 5 (tm 7) (tm 85),none⟩] [1,6,7,79,80,81])
 (.seq (.seq (.region (some 14) [] [
 mv 86 6,op 87 (.bin .gtr .int (tm 86) (ci (0))),mv 88 87,⟨some 89,.faddr 0 (tm 7),some (88,true)⟩,⟨some 90,.load none (tm 89),some (88,true)⟩,⟨some 91,.faddr 1 (tm 1),some (88,true)⟩,⟨some 92,.load none (tm 91),some (88,true)⟩,mg 93 6 88 true,⟨some 94,.bin .sub .int (tm 93) (ci (1)),some (88,true)⟩,⟨some 95,.iaddr 5 (tm 92) (tm 94),some (88,true)⟩,⟨some 96,.faddr 0 (tm 95),some (88,true)⟩,⟨some 97,.load none (tm 96),some (88,true)⟩,⟨some 98,.bin .leq .int (tm 90) (tm 97),some (88,true)⟩,op 99 (.pick (tm 88) (tm 98) (.cst (.bool false)))] [1,7,79,80,81,99] none)
 (.cond (tm 99) (.seq (rg [op 2 (.mov (ci (26)))] [2])
 (.ret))
 (.skip)))
 (.seq (.seq (rg [op 100 (.faddr 0 (tm 7)),op 101 (.load none (tm 100)),op 102 (.bin .lss .int (tm 101) (ci (1))),mv 103 102,⟨some 104,.faddr 0 (tm 7),some (103,false)⟩,⟨some 105,.load none (tm 104),some (103,false)⟩,⟨some 106,.faddr 3 (tm 1),some (103,false)⟩,⟨some 107,.load none (tm 106),some (103,false)⟩,⟨some 108,.bin .geq .int (tm 105) (tm 107),some (103,false)⟩,op 109 (.pick (tm 103) (.cst (.bool true)) (tm 108))] [1,7,79,80,81,109])
 (.cond (tm 109) (.seq (rg [op 2 (.mov (ci (1)))] [2])
 (.ret))
 (.skip)))
 (.seq (.seq (rg [op 110 (.faddr 0 (tm 1)),op 111 (.load none (tm 110)),op 112 (.faddr 1 (tm 7)),op 113 (.load none (tm 112)),op 114 (.call .pure 67 [(tm 111),(tm 113)]),op 115 (.un .not (tm 114)),mv 116 115,⟨some 117,.faddr 0 (tm 1),some (116,false)⟩,⟨some 118,.load none (tm 117),some (116,false)⟩,⟨some 119,.faddr 2 (tm 7),some (116,false)⟩,⟨some 120,.load none (tm 119),some (116,false)⟩,⟨some 121,.call .pure 67 [(tm 118),(tm 120)],some (116,false)⟩,⟨some 122,.un .not (tm 121),some (116,false)⟩,op 123 (.pick (tm 116) (.cst (.bool true)) (tm 122))] [1,7,79,80,81,123])
 (.cond (tm 123) (.seq (rg [op 2 (.mov (ci (10)))] [2])
 (.ret))
 (.skip)))
 (.seq (.seq (rg [op 124 (.faddr 3 (tm 7)),op 125 (.load none (tm 124)),op 126 (.call .pure 68 [(tm 125)]),op 127 (.un .not (tm 126))] [1,7,79,80,81,127])
 (.cond (tm 127) (.seq (rg [op 2 (.mov (ci (6)))] [2])
 (.ret))
 (.skip)))
 (.seq (rg [op 128 (.faddr 4 (tm 7)),op 129 (.load none (tm 128)),op 130 (.call .pure 66 [(.cst (.sl false [])),(tm 129)]),mv 8 130] [1,8,79,80,81])
 (.seq (rg [mv 131 8,op 132 (.bin .neq .int (tm 131) (ci (0)))] [1,8,79,80,81,132])
 (.cond (tm 132) (.seq (rg [mv 133 8,mv 2 133] [2])
 (.ret))
 (.skip))))))))))
 (.region none [] [op 134 (.bin .add .int (tm 81) (ci (1))),mv 81 134] [1,79,80,81] (some 1))))

def c32 : ACode :=
 .seq (rg [op 1 (.box 4 (tm 0)),op 2 (.mov (ci (0)))] [1])
 (.seq (.seq (rg [op 9 (.faddr 0 (tm 1)),op 10 (.load none (tm 9)),op 11 (.len .slice (tm 10)),op 12 (.bin .gtr .int (tm 11) (ci (2000))),mv 13 12,⟨some 14,.faddr 1 (tm 1),some (13,false)⟩,⟨some 15,.load none (tm 14),some (13,false)⟩,⟨some 16,.len .slice (tm 15),some (13,false)⟩,⟨some 17,.bin .gtr .int (tm 16) (ci (4000)),some (13,false)⟩,op 18 (.pick (tm 13) (.cst (.bool true)) (tm 17))] [1,18])
 (.cond (tm 18) (.seq (rg [op 2 (.mov (ci (4)))] [2])
 (.ret))
 (.skip)))
 (.seq (.seq (rg [op 19 (.faddr 2 (tm 1)),op 20 (.load none (tm 19)),op 21 (.bin .lss .int (tm 20) (ci (1))),mv 22 21,⟨some 23,.faddr 2 (tm 1),some (22,false)⟩,⟨some 24,.load none (tm 23),some (22,false)⟩,⟨some 25,.bin .gtr .int (tm 24) (ci (1000001)),some (22,false)⟩,op 26 (.pick (tm 22) (.cst (.bool true)) (tm 25)),mv 27 26,⟨some 28,.faddr 3 (tm 1),some (27,false)⟩,⟨some 29,.load none (tm 28),some (27,false)⟩,⟨some 30,.bin .lss .int (tm 29) (ci (1)),some (27,false)⟩,op 31 (.pick (tm 27) (.cst (.bool true)) (tm 30)),mv 32 31,⟨some 33,.faddr 3 (tm 1),some (32,false)⟩,⟨some 34,.load none (tm 33),some (32,false)⟩,⟨some 35,.bin .gtr .int (tm 34) (ci (1000001)),some (32,false)⟩,op 36 (.pick (tm 32) (.cst (.bool true)) (tm 35))] [1,36])
 (.cond (tm 36) (.seq (rg [op 2 (.mov (ci (1)))] [2])
 (.ret))
 (.skip)))
 (.seq (.seq (rg [op 37 (.faddr 0 (tm 1)),op 38 (.load none (tm 37)),op 39 (.len .slice (tm 38)),op 40 (.mov (ci (0)))] [1,38,39,40])
 (.block 0 (.loop l32_0_h l32_0_b)))
 (.seq (.seq (rg [op 78 (.faddr 1 (tm 1)),op 79 (.load none (tm 78)),op 80 (.len .slice (tm 79)),op 81 (.mov (ci (0)))] [1,79,80,81])
 (.block 2 (.loop l32_1_h l32_1_b)))
 (.seq (rg [op 2 (.mov (ci (0)))] [2])
 (.ret))))))

def a32 : AFunc := ⟨1,c32,[.tmp 2]⟩

def an32 : List RAnn := [
 ra 0 [1],ra 1 [1,18],ra 2 [2],ra 3 [1,36],ra 4 [2],ra 5 [1,38,39,40],rh 6 [1,38,39,40,41] [1,38,39,40],ra 7 [1,3,4,38,39,40],
 { id := 8,head := some 14,live := [1,4,38,39,40,58] },
 ra 9 [2],ra 10 [1,4,38,39,40,68],ra 11 [2],ra 12 [1,5,38,39,40],ra 13 [1,5,38,39,40,75],ra 14 [2],
 { id := 15,live := [1,38,39,40],trunc := some 1 },
 ra 16 [1,79,80,81],rh 17 [1,79,80,81,82] [1,79,80,81],ra 18 [1,6,7,79,80,81],
 { id := 19,head := some 14,live := [1,7,79,80,81,99] },
 ra 20 [2],ra 21 [1,7,79,80,81,109],ra 22 [2],ra 23 [1,7,79,80,81,123],ra 24 [2],ra 25 [1,7,79,80,81,127],ra 26 [2],ra 27 [1,8,79,80,81],ra 28 [1,8,79,80,81,132],ra 29 [2],
 { id := 30,live := [1,79,80,81],trunc := some 1 },
 ra 31 [2]]

theorem comp32 : compF Tryz.prog an32 Tryz.f32 = some a32 := by kernel_rfl

/- graphdb/graph.Prop -/
/-- loop 0 of function 33 -/
def l33_0_h : List Nat := [1,4,7,8,9]

def l33_0_b : ACode :=
 .seq (rg [op 10 (.bin .lss .int (tm 9) (tm 8))] [1,4,7,8,9,10])
 (.seq (.cond (tm 10) (.skip)
 (.exit 0))
 (.seq (.block 1 (.seq (rg [op 11 (.iaddr 6 (tm 7) (tm 9)),op 12 (.load (some 6) (tm 11)),op 6 (.alloc 6 (.agg [.str [],.int .i64 0,.int .i64 0,.int .i64 0,.str [],.sl false []])),⟨none,.store 6 (tm 6) (tm 12),none⟩] [1,4,6,7,8,9])
 (.seq (rg [op 13 (.faddr 0 (tm 6)),op 14 (.load none (tm 13)),mv 15 1,op 16 (.bin .eql .str (tm 14) (tm 15))] [1,4,6,7,8,9,16])
 (.cond (tm 16) (.seq (rg [op 17 (.faddr 1 (tm 6)),op 18 (.load (some 5) (tm 17)),op 19 (.call .pure 69 [(tm 18)]),⟨none,.store 5 (tm 4) (tm 19),none⟩] [4])
 (.ret))
 (.skip)))))
 (.region none [] [op 20 (.bin .add .int (tm 9) (ci (1))),mv 9 20] [1,4,7,8,9] (some 1))))

def c33 : ACode :=
 .seq (rg [op 4 (.alloc 5 (.agg [.int .i64 0,.int .i64 0,.int .i64 0,.str [],.sl false []]))] [0,1,4])
 (.seq (.seq (rg [mv 7 0,op 8 (.len .slice (tm 7)),op 9 (.mov (ci (0)))] [1,4,7,8,9])
 (.block 0 (.loop l33_0_h l33_0_b)))
 (.seq (rg [op 21 (.call .pure 37 []),⟨none,.store 5 (tm 4) (tm 21),none⟩] [4])
 (.ret)))

def a33 : AFunc := ⟨2,c33,[.cell 4 (some 5)]⟩

def an33 : List RAnn := [
 ra 0 [0,1,4],ra 1 [1,4,7,8,9],rh 2 [1,4,7,8,9,10] [1,4,7,8,9],ra 3 [1,4,6,7,8,9],ra 4 [1,4,6,7,8,9,16],ra 5 [4],
 { id := 6,live := [1,4,7,8,9],trunc := some 1 },
 ra 7 [4]]

theorem comp33 : compF Tryz.prog an33 Tryz.f33 = some a33 := by kernel_rfl

/- graphdb/graph.HasLabel -/
def c34 : ACode :=
 .seq (rg [op 2 (.box 3 (tm 0)),op 4 (.mov (.cst (.bool false)))] [1,2])
 (.seq (rg [op 5 (.faddr 1 (tm 2)),op 6 (.load none (tm 5)),mv 7 1,op 8 (.call .pure 70 [(tm 6),(tm 7)]),mv 4 8] [4])
 (.ret))

def a34 : AFunc := ⟨2,c34,[.tmp 4]⟩

def an34 : List RAnn := [
 ra 0 [1,2],ra 1 [4]]

theorem comp34 : compF Tryz.prog an34 Tryz.f34 = some a34 := by kernel_rfl

/- graphdb/value.Equal -/
def c35 : ACode :=
 .seq (rg [op 2 (.box 5 (tm 0)),op 3 (.box 5 (tm 1)),op 4 (.mov (ci (0)))] [2,3])
 (.seq (.seq (rg [op 5 (.faddr 0 (tm 2)),op 6 (.load none (tm 5)),op 7 (.bin .eql .int (tm 6) (ci (0))),mv 8 7,⟨some 9,.faddr 0 (tm 3),some (8,false)⟩,⟨some 10,.load none (tm 9),some (8,false)⟩,⟨some 11,.bin .eql .int (tm 10) (ci (0)),some (8,false)⟩,op 12 (.pick (tm 8) (.cst (.bool true)) (tm 11)),mv 13 12,⟨some 14,.load (some 5) (tm 2),some (13,false)⟩,⟨some 15,.call .pure 62 [(tm 14)],some (13,false)⟩,⟨some 16,.un .not (tm 15),some (13,false)⟩,op 17 (.pick (tm 13) (.cst (.bool true)) (tm 16)),mv 18 17,⟨some 19,.load (some 5) (tm 3),some (18,false)⟩,⟨some 20,.call .pure 62 [(tm 19)],some (18,false)⟩,⟨some 21,.un .not (tm 20),some (18,false)⟩,op 22 (.pick (tm 18) (.cst (.bool true)) (tm 21))] [2,3,22])
 (.cond (tm 22) (.seq (rg [op 4 (.mov (ci (1)))] [4])
 (.ret))
 (.skip)))
 (.seq (rg [op 23 (.load (some 5) (tm 2)),op 24 (.load (some 5) (tm 3)),op 25 (.call .pure 71 [(tm 23),(tm 24)]),mv 4 25] [4])
 (.ret)))

def a35 : AFunc := ⟨2,c35,[.tmp 4]⟩

def an35 : List RAnn := [
 ra 0 [2,3],ra 1 [2,3,22],ra 2 [4],ra 3 [4]]

theorem comp35 : compF Tryz.prog an35 Tryz.f35 = some a35 := by kernel_rfl

/- graphdb/value.Less -/
def c36 : ACode :=
 .seq (rg [op 2 (.box 5 (tm 0)),op 3 (.box 5 (tm 1)),op 4 (.mov (ci (0)))] [2,3])
 (.seq (rg [op 10 (.load (some 5) (tm 2)),op 11 (.call .pure 72 [(tm 10)]),mv 9 11,op 12 (.ext (tm 9) 0),op 13 (.ext (tm 9) 1),op 5 (.alloc 2 (.agg [.int .i64 0,.int .i64 0])),⟨none,.store 2 (tm 5) (tm 12),none⟩,mv 6 13] [2,3,5,6])
 (.seq (rg [op 15 (.load (some 5) (tm 3)),op 16 (.call .pure 72 [(tm 15)]),mv 14 16,op 17 (.ext (tm 14) 0),op 18 (.ext (tm 14) 1),op 7 (.alloc 2 (.agg [.int .i64 0,.int .i64 0])),⟨none,.store 2 (tm 7) (tm 17),none⟩,mv 8 18] [2,3,5,6,7,8])
 (.seq (.block 0 (.seq (rg [mv 20 6,mv 21 20,mg 22 8 21 true,op 23 (.pick (tm 21) (tm 22) (.cst (.bool false))),mv 19 23] [2,3,5,7,19])
 (.cond (tm 19) (.seq (rg [op 24 (.load (some 2) (tm 5)),op 25 (.load (some 2) (tm 7)),op 26 (.call .pure 74 [(tm 24),(tm 25)]),op 27 (.bin .lss .int (tm 26) (ci (0))),op 28 (.call .pure 73 [(tm 27)]),mv 4 28] [4])
 (.ret))
 (.seq (rg [op 30 (.faddr 0 (tm 2)),op 31 (.load none (tm 30)),op 32 (.faddr 0 (tm 3)),op 33 (.load none (tm 32)),op 34 (.bin .neq .int (tm 31) (tm 33)),mv 35 34,⟨some 36,.load (some 5) (tm 2),some (35,false)⟩,⟨some 37,.call .pure 62 [(tm 36)],some (35,false)⟩,⟨some 38,.un .not (tm 37),some (35,false)⟩,op 39 (.pick (tm 35) (.cst (.bool true)) (tm 38)),mv 40 39,⟨some 41,.load (some 5) (tm 3),some (40,false)⟩,⟨some 42,.call .pure 62 [(tm 41)],some (40,false)⟩,⟨some 43,.un .not (tm 42),some (40,false)⟩,op 44 (.pick (tm 40) (.cst (.bool true)) (tm 43)),mv 29 44] [2,3,29])
 (.cond (tm 29) (.seq (rg [op 4 (.mov (ci (1)))] [4])
 (.ret))
 (.seq (rg [op 46 (.faddr 0 (tm 2)),op 47 (.load none (tm 46)),op 48 (.bin .eql .int (tm 47) (ci (4))),mv 45 48] [2,3,45])
 (.cond (tm 45) (.seq (rg [op 49 (.faddr 3 (tm 2)),op 50 (.load none (tm 49)),op 51 (.faddr 3 (tm 3)),op 52 (.load none (tm 51)),op 53 (.bin .lss .str (tm 50) (tm 52)),op 54 (.call .pure 73 [(tm 53)]),mv 4 54] [4])
 (.ret))
 (.seq (rg [op 56 (.faddr 0 (tm 2)),op 57 (.load none (tm 56)),op 58 (.bin .eql .int (tm 57) (ci (1))),mv 55 58] [2,3,55])
 (.cond (tm 55) (.seq (rg [op 59 (.faddr 1 (tm 2)),op 60 (.load none (tm 59)),op 61 (.faddr 1 (tm 3)),op 62 (.load none (tm 61)),op 63 (.bin .lss .int (tm 60) (tm 62)),op 64 (.call .pure 73 [(tm 63)]),mv 4 64] [4])
 (.ret))
 (.skip))))))))))
 (.seq (rg [op 4 (.mov (ci (1)))] [4])
 (.ret)))))

def a36 : AFunc := ⟨2,c36,[.tmp 4]⟩

def an36 : List RAnn := [
 ra 0 [2,3],ra 1 [2,3,5,6],ra 2 [2,3,5,6,7,8],ra 3 [2,3,5,7,19],ra 4 [4],ra 5 [2,3,29],ra 6 [4],ra 7 [2,3,45],ra 8 [4],ra 9 [2,3,55],ra 10 [4],ra 11 [4]]

theorem comp36 : compF Tryz.prog an36 Tryz.f36 = some a36 := by kernel_rfl

/- graphdb/value.Null -/
def c37 : ACode :=
 .seq (rg [op 0 (.alloc 5 (.agg [.int .i64 0,.int .i64 0,.int .i64 0,.str [],.sl false []]))] [0])
 (.seq (rg [op 1 (.build [.int .i64 0,.int .i64 0,.int .i64 0,.str [],.sl false []] []),⟨none,.store 5 (tm 0) (tm 1),none⟩] [0])
 (.ret))

def a37 : AFunc := ⟨0,c37,[.cell 0 (some 5)]⟩

def an37 : List RAnn := [
 ra 0 [0],ra 1 [0]]

theorem comp37 : compF Tryz.prog an37 Tryz.f37 = some a37 := by kernel_rfl

/- graphdb/index.checked -/
def c38 : ACode :=
 .seq (rg [op 1 (.box 4 (tm 0)),op 2 (.alloc 4 (.agg [.sl false [],.sl false [],.int .i64 0,.int .i64 0]))] [1,2])
 (.seq (.seq (rg [op 3 (.load (some 4) (tm 1)),op 4 (.call .pure 32 [(tm 3)]),op 5 (.bin .neq .int (tm 4) (ci (0)))] [1,2,5])
 (.cond (tm 5) (.seq (rg [op 6 (.build [.sl false [],.sl false [],.int .i64 0,.int .i64 0] []),⟨none,.store 4 (tm 2) (tm 6),none⟩] [2])
 (.ret))
 (.skip)))
 (.seq (rg [op 7 (.load (some 4) (tm 1)),⟨none,.store 4 (tm 2) (tm 7),none⟩] [2])
 (.ret)))

def a38 : AFunc := ⟨1,c38,[.cell 2 (some 4)]⟩

def an38 : List RAnn := [
 ra 0 [1,2],ra 1 [1,2,5],ra 2 [2],ra 3 [2]]

theorem comp38 : compF Tryz.prog an38 Tryz.f38 = some a38 := by kernel_rfl

/- graphdb/graphdbref07.HasLabel -/
def c40 : ACode :=
 .seq (rg [op 2 (.box 3 (tm 0)),op 4 (.mov (.cst (.bool false)))] [1,2])
 (.seq (rg [op 5 (.faddr 1 (tm 2)),op 6 (.load none (tm 5)),mv 7 1,op 8 (.call .pure 77 [(tm 6),(tm 7)]),mv 4 8] [4])
 (.ret))

def a40 : AFunc := ⟨2,c40,[.tmp 4]⟩

def an40 : List RAnn := [
 ra 0 [1,2],ra 1 [4]]

theorem comp40 : compF Tryz.prog an40 Tryz.f40 = some a40 := by kernel_rfl

/- graphdb/graph.HasType -/
def c41 : ACode :=
 .seq (rg [op 2 (.box 5 (tm 0)),op 4 (.mov (.cst (.bool false)))] [1,2])
 (.seq (rg [mv 5 1,op 6 (.len .slice (tm 5)),op 7 (.bin .eql .int (tm 6) (ci (0))),mv 8 7,mg 9 1 8 false,⟨some 10,.faddr 3 (tm 2),some (8,false)⟩,⟨some 11,.load none (tm 10),some (8,false)⟩,⟨some 12,.call .pure 70 [(tm 9),(tm 11)],some (8,false)⟩,op 13 (.pick (tm 8) (.cst (.bool true)) (tm 12)),mv 4 13] [4])
 (.ret))

def a41 : AFunc := ⟨2,c41,[.tmp 4]⟩

def an41 : List RAnn := [
 ra 0 [1,2],ra 1 [4]]

theorem comp41 : compF Tryz.prog an41 Tryz.f41 = some a41 := by kernel_rfl

/- graphdb/index.relation -/
def c42 : ACode :=
 .seq (rg [op 4 (.alloc 2 (.agg [.int .i64 0,.sl false []]))] [0,1,4])
 (.seq (rg [mv 5 1,op 6 (.call .share 78 [(tm 5),(.cst (.fn 79 []))])] [0,1,4])
 (.seq (rg [mv 7 0,mv 8 1,op 9 (.call .share 80 [(tm 8),(.cst (.fn 81 []))]),op 10 (.build [.int .i64 0,.sl false []] [(0,1,(tm 7)),(1,1,(tm 9))]),⟨none,.store 2 (tm 4) (tm 10),none⟩] [4])
 (.ret)))

def a42 : AFunc := ⟨2,c42,[.cell 4 (some 2)]⟩

def an42 : List RAnn := [
 ra 0 [0,1,4],
 { id := 1,live := [0,1,4],ops := [(1,.mode .share)] },
 { id := 2,live := [4],ops := [(2,.mode .share)] }]

theorem comp42 : compF Tryz.prog an42 Tryz.f42 = some a42 := by kernel_rfl

/- graphdb/graphdbref15.Order -/
def c45 : ACode :=
 .seq (rg [op 2 (.box 8 (tm 0)),op 3 (.box 8 (tm 1)),op 4 (.mov (ci (0)))] [2,3])
 (.seq (.seq (rg [op 8 (.faddr 0 (tm 2)),op 9 (.load none (tm 8)),op 10 (.faddr 0 (tm 3)),op 11 (.load none (tm 10)),op 12 (.call .pure 83 [(tm 9),(tm 11)]),mv 5 12] [2,3,5])
 (.seq (rg [mv 13 5,op 14 (.bin .neq .int (tm 13) (ci (0)))] [2,3,5,14])
 (.cond (tm 14) (.seq (rg [mv 15 5,mv 4 15] [4])
 (.ret))
 (.skip))))
 (.seq (.seq (rg [op 16 (.faddr 1 (tm 2)),op 17 (.load none (tm 16)),op 18 (.faddr 1 (tm 3)),op 19 (.load none (tm 18)),op 20 (.call .pure 83 [(tm 17),(tm 19)]),mv 6 20] [2,3,6])
 (.seq (rg [mv 21 6,op 22 (.bin .neq .int (tm 21) (ci (0)))] [2,3,6,22])
 (.cond (tm 22) (.seq (rg [mv 23 6,mv 4 23] [4])
 (.ret))
 (.skip))))
 (.seq (.seq (rg [op 24 (.faddr 2 (tm 2)),op 25 (.load (some 5) (tm 24)),op 26 (.faddr 2 (tm 3)),op 27 (.load (some 5) (tm 26)),op 28 (.call .pure 84 [(tm 25),(tm 27)]),mv 7 28] [2,3,7])
 (.seq (rg [mv 29 7,op 30 (.bin .neq .int (tm 29) (ci (0)))] [2,3,7,30])
 (.cond (tm 30) (.seq (rg [mv 31 7,mv 4 31] [4])
 (.ret))
 (.skip))))
 (.seq (.seq (rg [op 32 (.faddr 7 (tm 2)),op 33 (.load none (tm 32)),op 34 (.faddr 7 (tm 3)),op 35 (.load none (tm 34)),op 36 (.bin .lss .int (tm 33) (tm 35))] [2,3,36])
 (.cond (tm 36) (.seq (rg [op 4 (.mov (ci ((-1))))] [4])
 (.ret))
 (.skip)))
 (.seq (.seq (rg [op 37 (.faddr 7 (tm 2)),op 38 (.load none (tm 37)),op 39 (.faddr 7 (tm 3)),op 40 (.load none (tm 39)),op 41 (.bin .gtr .int (tm 38) (tm 40))] [41])
 (.cond (tm 41) (.seq (rg [op 4 (.mov (ci (1)))] [4])
 (.ret))
 (.skip)))
 (.seq (rg [op 4 (.mov (ci (0)))] [4])
 (.ret)))))))

def a45 : AFunc := ⟨2,c45,[.tmp 4]⟩

def an45 : List RAnn := [
 ra 0 [2,3],ra 1 [2,3,5],ra 2 [2,3,5,14],ra 3 [4],ra 4 [2,3,6],ra 5 [2,3,6,22],ra 6 [4],ra 7 [2,3,7],ra 8 [2,3,7,30],ra 9 [4],ra 10 [2,3,36],ra 11 [4],ra 12 [41],ra 13 [4],ra 14 [4]]

theorem comp45 : compF Tryz.prog an45 Tryz.f45 = some a45 := by kernel_rfl

/- slices.SortFunc[[]graphdb/api.Entry,graphdb/api.Entry] -/
def c46 : ACode :=
 .seq (rg [mv 5 0,op 6 (.len .slice (tm 5)),mv 4 6] [0,1,4])
 (rg [mv 7 0,mv 8 4,mv 9 4,op 10 (.conv .u64 (tm 9)),op 11 (.call .pure 86 [(tm 10)]),mv 12 1,op 13 (.call .share 85 [(tm 7),(ci (0)),(tm 8),(tm 11),(tm 12)])] [])

def a46 : AFunc := ⟨2,c46,[]⟩

def an46 : List RAnn := [
 ra 0 [0,1,4],
 { id := 1,ops := [(6,.mode .share)] }]

theorem comp46 : compF Tryz.prog an46 Tryz.f46 = some a46 := by kernel_rfl

/- graphdb/index.ids -/
/-- loop 0 of function 47 -/
def l47_0_h : List Nat := [1,2,3,9,12,13,14]

def l47_0_b : ACode :=
 .seq (rg [op 15 (.bin .lss .int (tm 14) (tm 13))] [1,2,3,9,12,13,14,15])
 (.seq (.cond (tm 15) (.skip)
 (.exit 0))
 (.seq (.block 1 (.seq (rg [op 16 (.iaddr 8 (tm 12) (tm 14)),op 17 (.load (some 8) (tm 16)),op 11 (.alloc 8 (.agg [.str [],.str [],.int .i64 0,.int .i64 0,.int .i64 0,.str [],.sl false [],.int .i64 0])),⟨none,.store 8 (tm 11) (tm 17),none⟩] [1,2,3,9,11,12,13,14])
 (.seq (rg [op 18 (.faddr 0 (tm 11)),op 19 (.load none (tm 18)),mv 20 1,op 21 (.bin .eql .str (tm 19) (tm 20)),mv 22 21,⟨some 23,.faddr 1 (tm 11),some (22,true)⟩,⟨some 24,.load none (tm 23),some (22,true)⟩,mg 25 2 22 true,⟨some 26,.bin .eql .str (tm 24) (tm 25),some (22,true)⟩,op 27 (.pick (tm 22) (tm 26) (.cst (.bool false))),mv 28 27,mg 29 3 28 true,⟨some 30,.faddr 2 (tm 11),some (28,true)⟩,⟨some 31,.load (some 5) (tm 30),some (28,true)⟩,⟨some 32,.callv .pure (tm 29) [(tm 31)],some (28,true)⟩,op 33 (.pick (tm 28) (tm 32) (.cst (.bool false)))] [1,2,3,9,11,12,13,14,33])
 (.cond (tm 33) (rg [mv 34 9,op 35 (.faddr 7 (tm 11)),op 36 (.load none (tm 35)),op 37 (.lit false 1 (.int .i64 0) 1 [(0,(tm 36))]),op 38 (.append 1 8 (tm 34) (tm 37)),mv 9 38] [1,2,3,9,12,13,14])
 (.skip)))))
 (.region none [] [op 39 (.bin .add .int (tm 14) (ci (1))),mv 14 39] [1,2,3,9,12,13,14] (some 1))))

def c47 : ACode :=
 .seq (rg [op 8 (.mov (.cst (.sl false [])))] [0,1,2,3])
 (.seq (rg [op 9 (.newown 1)] [0,1,2,3,9])
 (.seq (.seq (rg [mv 12 0,op 13 (.len .slice (tm 12)),op 14 (.mov (ci (0)))] [1,2,3,9,12,13,14])
 (.block 0 (.loop l47_0_h l47_0_b)))
 (.seq (rg [mv 40 9,op 41 (.call .share 87 [(tm 40)])] [9])
 (.seq (rg [mv 42 9,op 43 (.call .share 88 [(tm 42)]),mv 8 43] [8])
 (.ret)))))

def a47 : AFunc := ⟨4,c47,[.tmp 8]⟩

def an47 : List RAnn := [
 ra 0 [0,1,2,3],
 { id := 1,live := [0,1,2,3,9],ops := [(0,.own)] },
 ra 2 [1,2,3,9,12,13,14],rh 3 [1,2,3,9,12,13,14,15] [1,2,3,9,12,13,14],ra 4 [1,2,3,9,11,12,13,14],ra 5 [1,2,3,9,11,12,13,14,33],ra 6 [1,2,3,9,12,13,14],
 { id := 7,live := [1,2,3,9,12,13,14],trunc := some 1 },
 { id := 8,live := [9],ops := [(1,.mode .share)] },
 { id := 9,live := [8],ops := [(1,.mode .share)] }]

theorem comp47 : compF Tryz.prog an47 Tryz.f47 = some a47 := by kernel_rfl

/- graphdb/index.Find$1 -/
def c48 : ACode :=
 .seq (rg [op 2 (.box 5 (tm 0)),op 3 (.mov (.cst (.bool false)))] [1,2])
 (.seq (rg [op 4 (.load (some 5) (tm 2)),op 5 (.load (some 5) (tm 1)),op 6 (.call .pure 35 [(tm 4),(tm 5)]),op 7 (.bin .eql .int (tm 6) (ci (2))),mv 3 7] [3])
 (.ret))

def a48 : AFunc := ⟨2,c48,[.tmp 3]⟩

def an48 : List RAnn := [
 ra 0 [1,2],ra 1 [3]]

theorem comp48 : compF Tryz.prog an48 Tryz.f48 = some a48 := by kernel_rfl

/- graphdb/index.Range$1 -/
def c51 : ACode :=
 .seq (rg [op 3 (.box 5 (tm 0)),op 4 (.mov (.cst (.bool false)))] [1,2,3])
 (.seq (rg [op 5 (.load (some 5) (tm 1)),op 6 (.call .pure 52 [(tm 5)]),mv 7 6,⟨some 8,.load (some 5) (tm 1),some (7,false)⟩,⟨some 9,.load (some 5) (tm 3),some (7,false)⟩,⟨some 10,.call .pure 53 [(tm 8),(tm 9)],some (7,false)⟩,op 11 (.pick (tm 7) (.cst (.bool true)) (tm 10)),mv 12 11,⟨some 13,.load (some 5) (tm 2),some (12,true)⟩,⟨some 14,.call .pure 52 [(tm 13)],some (12,true)⟩,mg 15 14 12 true,⟨some 16,.load (some 5) (tm 3),some (15,false)⟩,⟨some 17,.load (some 5) (tm 2),some (15,false)⟩,⟨some 18,.call .pure 53 [(tm 16),(tm 17)],some (15,false)⟩,⟨some 19,.pick (tm 15) (.cst (.bool true)) (tm 18),some (12,true)⟩,op 20 (.pick (tm 12) (tm 19) (.cst (.bool false))),mv 4 20] [4])
 (.ret))

def a51 : AFunc := ⟨3,c51,[.tmp 4]⟩

def an51 : List RAnn := [
 ra 0 [1,2,3],ra 1 [4]]

theorem comp51 : compF Tryz.prog an51 Tryz.f51 = some a51 := by kernel_rfl

/- graphdb/index.null -/
def c52 : ACode :=
 .seq (rg [op 1 (.box 5 (tm 0)),op 2 (.mov (.cst (.bool false)))] [1])
 (.seq (.region (some 5) [] [
 op 3 (.load (some 5) (tm 1)),op 4 (.call .pure 37 []),op 5 (.call .pure 30 [(tm 3),(tm 4)]),op 6 (.bin .eql .int (tm 5) (ci (0))),mv 2 6] [2] none)
 (.ret))

def a52 : AFunc := ⟨1,c52,[.tmp 2]⟩

def an52 : List RAnn := [
 ra 0 [1],
 { id := 1,head := some 5,live := [2] }]

theorem comp52 : compF Tryz.prog an52 Tryz.f52 = some a52 := by kernel_rfl

/- graphdb/index.atMost -/
def c53 : ACode :=
 .seq (rg [op 2 (.box 5 (tm 0)),op 3 (.box 5 (tm 1)),op 4 (.mov (.cst (.bool false)))] [2,3])
 (.seq (rg [op 5 (.load (some 5) (tm 2)),op 6 (.load (some 5) (tm 3)),op 7 (.call .pure 36 [(tm 5),(tm 6)]),op 8 (.bin .eql .int (tm 7) (ci (2))),mv 9 8,⟨some 10,.load (some 5) (tm 2),some (9,false)⟩,⟨some 11,.load (some 5) (tm 3),some (9,false)⟩,⟨some 12,.call .pure 35 [(tm 10),(tm 11)],some (9,false)⟩,⟨some 13,.bin .eql .int (tm 12) (ci (2)),some (9,false)⟩,op 14 (.pick (tm 9) (.cst (.bool true)) (tm 13)),mv 4 14] [4])
 (.ret))

def a53 : AFunc := ⟨2,c53,[.tmp 4]⟩

def an53 : List RAnn := [
 ra 0 [2,3],ra 1 [4]]

theorem comp53 : compF Tryz.prog an53 Tryz.f53 = some a53 := by kernel_rfl

/- slices.EqualFunc[[]graphdb/api.Entry,[]graphdb/api.Entry,graphdb/api.Entry,graphdb/api.Entry] -/
/-- loop 0 of function 56 -/
def l56_0_h : List Nat := [1,2,15,16,17]

def l56_0_b : ACode :=
 .seq (rg [op 18 (.bin .lss .int (tm 17) (tm 16))] [1,2,15,16,17,18])
 (.seq (.cond (tm 18) (.skip)
 (.exit 0))
 (.seq (.block 1 (.seq (rg [mv 19 17,op 20 (.iaddr 8 (tm 15) (tm 17)),op 21 (.load (some 8) (tm 20)),op 8 (.alloc 8 (.agg [.str [],.str [],.int .i64 0,.int .i64 0,.int .i64 0,.str [],.sl false [],.int .i64 0])),mv 7 19,⟨none,.store 8 (tm 8) (tm 21),none⟩] [1,2,7,8,15,16,17])
 (.seq (rg [mv 22 1,mv 23 7,op 24 (.iaddr 8 (tm 22) (tm 23)),op 25 (.load (some 8) (tm 24)),op 9 (.alloc 8 (.agg [.str [],.str [],.int .i64 0,.int .i64 0,.int .i64 0,.str [],.sl false [],.int .i64 0])),⟨none,.store 8 (tm 9) (tm 25),none⟩] [1,2,8,9,15,16,17])
 (.seq (rg [mv 26 2,op 27 (.load (some 8) (tm 8)),op 28 (.load (some 8) (tm 9)),op 29 (.callv .pure (tm 26) [(tm 27),(tm 28)]),op 30 (.un .not (tm 29))] [1,2,15,16,17,30])
 (.cond (tm 30) (.seq (rg [op 6 (.mov (.cst (.bool false)))] [6])
 (.ret))
 (.skip))))))
 (.region none [] [op 31 (.bin .add .int (tm 17) (ci (1))),mv 17 31] [1,2,15,16,17] (some 0))))

def c56 : ACode :=
 .seq (rg [op 6 (.mov (.cst (.bool false)))] [0,1,2])
 (.seq (.seq (rg [mv 10 0,op 11 (.len .slice (tm 10)),mv 12 1,op 13 (.len .slice (tm 12)),op 14 (.bin .neq .int (tm 11) (tm 13))] [0,1,2,14])
 (.cond (tm 14) (.seq (rg [op 6 (.mov (.cst (.bool false)))] [6])
 (.ret))
 (.skip)))
 (.seq (.seq (rg [mv 15 0,op 16 (.len .slice (tm 15)),op 17 (.mov (ci (0)))] [1,2,15,16,17])
 (.block 0 (.loop l56_0_h l56_0_b)))
 (.seq (rg [op 6 (.mov (.cst (.bool true)))] [6])
 (.ret))))

def a56 : AFunc := ⟨3,c56,[.tmp 6]⟩

def an56 : List RAnn := [
 ra 0 [0,1,2],ra 1 [0,1,2,14],ra 2 [6],ra 3 [1,2,15,16,17],rh 4 [1,2,15,16,17,18] [1,2,15,16,17],ra 5 [1,2,7,8,15,16,17],ra 6 [1,2,8,9,15,16,17],ra 7 [1,2,15,16,17,30],ra 8 [6],
 { id := 9,live := [1,2,15,16,17],trunc := some 0 },
 ra 10 [6]]

theorem comp56 : compF Tryz.prog an56 Tryz.f56 = some a56 := by kernel_rfl

/- graphdb/index.Update$1 -/
def c57 : ACode :=
 .seq (rg [op 2 (.box 8 (tm 0)),op 3 (.box 8 (tm 1)),op 4 (.mov (.cst (.bool false)))] [2,3])
 (.seq (rg [op 5 (.load (some 8) (tm 2)),op 6 (.load (some 8) (tm 3)),op 7 (.call .pure 29 [(tm 5),(tm 6)]),op 8 (.bin .eql .int (tm 7) (ci (0))),mv 4 8] [4])
 (.ret))

def a57 : AFunc := ⟨2,c57,[.tmp 4]⟩

def an57 : List RAnn := [
 ra 0 [2,3],ra 1 [4]]

theorem comp57 : compF Tryz.prog an57 Tryz.f57 = some a57 := by kernel_rfl

/- cmp.Or[int] -/
/-- loop 0 of function 59 -/
def l59_0_h : List Nat := [3,6,7,8]

def l59_0_b : ACode :=
 .seq (rg [op 9 (.bin .lss .int (tm 8) (tm 7))] [3,6,7,8,9])
 (.seq (.cond (tm 9) (.skip)
 (.exit 0))
 (.seq (.block 1 (.seq (rg [op 10 (.iaddr 1 (tm 6) (tm 8)),op 11 (.load none (tm 10)),mv 5 11] [3,5,6,7,8])
 (.seq (rg [mv 12 5,mv 13 3,op 14 (.bin .neq .int (tm 12) (tm 13))] [3,5,6,7,8,14])
 (.cond (tm 14) (.seq (rg [mv 15 5,mv 2 15] [2])
 (.ret))
 (.skip)))))
 (rg [op 16 (.bin .add .int (tm 8) (ci (1))),mv 8 16] [3,6,7,8])))

def c59 : ACode :=
 .seq (rg [op 2 (.mov (ci (0)))] [0])
 (.seq (rg [op 3 (.mov (ci (0)))] [0,3])
 (.seq (.seq (rg [mv 6 0,op 7 (.len .slice (tm 6)),op 8 (.mov (ci (0)))] [3,6,7,8])
 (.block 0 (.loop l59_0_h l59_0_b)))
 (.seq (rg [mv 17 3,mv 2 17] [2])
 (.ret))))

def a59 : AFunc := ⟨1,c59,[.tmp 2]⟩

def an59 : List RAnn := [
 ra 0 [0],ra 1 [0,3],ra 2 [3,6,7,8],rh 3 [3,6,7,8,9] [3,6,7,8],ra 4 [3,5,6,7,8],ra 5 [3,5,6,7,8,14],ra 6 [2],ra 7 [3,6,7,8],ra 8 [2]]

theorem comp59 : compF Tryz.prog an59 Tryz.f59 = some a59 := by kernel_rfl

/- cmp.Compare[string] -/
def c60 : ACode :=
 .seq (rg [op 4 (.mov (ci (0)))] [0,1])
 (.seq (rg [mv 7 0,op 8 (.call .pure 96 [(tm 7)]),mv 5 8] [0,1,5])
 (.seq (rg [mv 9 1,op 10 (.call .pure 96 [(tm 9)]),mv 6 10] [0,1,5,6])
 (.seq (.seq (rg [mv 11 5] [0,1,6,11])
 (.cond (tm 11) (.seq (.seq (rg [mv 12 6] [12])
 (.cond (tm 12) (.seq (rg [op 4 (.mov (ci (0)))] [4])
 (.ret))
 (.skip)))
 (.seq (rg [op 4 (.mov (ci ((-1))))] [4])
 (.ret)))
 (.skip)))
 (.seq (.seq (rg [mv 13 6] [0,1,13])
 (.cond (tm 13) (.seq (rg [op 4 (.mov (ci (1)))] [4])
 (.ret))
 (.skip)))
 (.seq (.seq (rg [mv 14 0,mv 15 1,op 16 (.bin .lss .str (tm 14) (tm 15))] [0,1,16])
 (.cond (tm 16) (.seq (rg [op 4 (.mov (ci ((-1))))] [4])
 (.ret))
 (.skip)))
 (.seq (.seq (rg [mv 17 0,mv 18 1,op 19 (.bin .gtr .str (tm 17) (tm 18))] [19])
 (.cond (tm 19) (.seq (rg [op 4 (.mov (ci (1)))] [4])
 (.ret))
 (.skip)))
 (.seq (rg [op 4 (.mov (ci (0)))] [4])
 (.ret))))))))

def a60 : AFunc := ⟨2,c60,[.tmp 4]⟩

def an60 : List RAnn := [
 ra 0 [0,1],ra 1 [0,1,5],ra 2 [0,1,5,6],ra 3 [0,1,6,11],ra 4 [12],ra 5 [4],ra 6 [4],ra 7 [0,1,13],ra 8 [4],ra 9 [0,1,16],ra 10 [4],ra 11 [19],ra 12 [4],ra 13 [4]]

theorem comp60 : compF Tryz.prog an60 Tryz.f60 = some a60 := by kernel_rfl

/- cmp.Compare[int] -/
def c61 : ACode :=
 .seq (rg [op 4 (.mov (ci (0)))] [0,1])
 (.seq (rg [mv 7 0,op 8 (.call .pure 97 [(tm 7)]),mv 5 8] [0,1,5])
 (.seq (rg [mv 9 1,op 10 (.call .pure 97 [(tm 9)]),mv 6 10] [0,1,5,6])
 (.seq (.seq (rg [mv 11 5] [0,1,6,11])
 (.cond (tm 11) (.seq (.seq (rg [mv 12 6] [12])
 (.cond (tm 12) (.seq (rg [op 4 (.mov (ci (0)))] [4])
 (.ret))
 (.skip)))
 (.seq (rg [op 4 (.mov (ci ((-1))))] [4])
 (.ret)))
 (.skip)))
 (.seq (.seq (rg [mv 13 6] [0,1,13])
 (.cond (tm 13) (.seq (rg [op 4 (.mov (ci (1)))] [4])
 (.ret))
 (.skip)))
 (.seq (.seq (rg [mv 14 0,mv 15 1,op 16 (.bin .lss .int (tm 14) (tm 15))] [0,1,16])
 (.cond (tm 16) (.seq (rg [op 4 (.mov (ci ((-1))))] [4])
 (.ret))
 (.skip)))
 (.seq (.seq (rg [mv 17 0,mv 18 1,op 19 (.bin .gtr .int (tm 17) (tm 18))] [19])
 (.cond (tm 19) (.seq (rg [op 4 (.mov (ci (1)))] [4])
 (.ret))
 (.skip)))
 (.seq (rg [op 4 (.mov (ci (0)))] [4])
 (.ret))))))))

def a61 : AFunc := ⟨2,c61,[.tmp 4]⟩

def an61 : List RAnn := [
 ra 0 [0,1],ra 1 [0,1,5],ra 2 [0,1,5,6],ra 3 [0,1,6,11],ra 4 [12],ra 5 [4],ra 6 [4],ra 7 [0,1,13],ra 8 [4],ra 9 [0,1,16],ra 10 [4],ra 11 [19],ra 12 [4],ra 13 [4]]

theorem comp61 : compF Tryz.prog an61 Tryz.f61 = some a61 := by kernel_rfl

/- graphdb/value.Valid -/
def c62 : ACode :=
 .seq (rg [op 1 (.box 5 (tm 0)),op 2 (.mov (.cst (.bool false)))] [1])
 (.seq (rg [op 3 (.load (some 5) (tm 1)),op 4 (.call .pure 98 [(tm 3),(ci (0))]),mv 2 4] [2])
 (.ret))

def a62 : AFunc := ⟨1,c62,[.tmp 2]⟩

def an62 : List RAnn := [
 ra 0 [1],ra 1 [2]]

theorem comp62 : compF Tryz.prog an62 Tryz.f62 = some a62 := by kernel_rfl

/- graphdb/value.order -/
def c63 : ACode :=
 .seq (rg [op 2 (.box 5 (tm 0)),op 3 (.box 5 (tm 1)),op 4 (.mov (ci (0)))] [2,3])
 (.seq (.seq (.region (some 6) [] [
 op 10 (.load (some 5) (tm 2)),op 11 (.call .pure 99 [(tm 10)]),op 12 (.load (some 5) (tm 3)),op 13 (.call .pure 99 [(tm 12)]),op 14 (.call .pure 61 [(tm 11),(tm 13)]),mv 5 14] [2,3,5] none)
 (.seq (rg [mv 15 5,op 16 (.bin .neq .int (tm 15) (ci (0)))] [2,3,5,16])
 (.cond (tm 16) (.seq (rg [mv 17 5,mv 4 17] [4])
 (.ret))
 (.skip))))
 (.seq (.seq (rg [op 18 (.load (some 5) (tm 2)),op 19 (.call .pure 99 [(tm 18)]),op 20 (.bin .eql .int (tm 19) (ci (2)))] [2,3,20])
 (.cond (tm 20) (.seq (rg [op 22 (.load (some 5) (tm 2)),op 23 (.call .pure 72 [(tm 22)]),mv 21 23,op 24 (.ext (tm 21) 0),op 25 (.ext (tm 21) 1),op 6 (.alloc 2 (.agg [.int .i64 0,.int .i64 0])),⟨none,.store 2 (tm 6) (tm 24),none⟩,mv 7 25] [3,6])
 (.seq (rg [op 27 (.load (some 5) (tm 3)),op 28 (.call .pure 72 [(tm 27)]),mv 26 28,op 29 (.ext (tm 26) 0),op 30 (.ext (tm 26) 1),op 8 (.alloc 2 (.agg [.int .i64 0,.int .i64 0])),⟨none,.store 2 (tm 8) (tm 29),none⟩,mv 9 30] [6,8])
 (.seq (rg [op 31 (.load (some 2) (tm 6)),op 32 (.load (some 2) (tm 8)),op 33 (.call .pure 74 [(tm 31),(tm 32)]),mv 4 33] [4])
 (.ret))))
 (.skip)))
 (.seq (.region (some 18) [] [
 op 34 (.faddr 3 (tm 2)),op 35 (.load none (tm 34)),op 36 (.faddr 3 (tm 3)),op 37 (.load none (tm 36)),op 38 (.call .pure 60 [(tm 35),(tm 37)]),op 39 (.faddr 1 (tm 2)),op 40 (.load none (tm 39)),op 41 (.faddr 1 (tm 3)),op 42 (.load none (tm 41)),op 43 (.call .pure 61 [(tm 40),(tm 42)]),op 44 (.faddr 4 (tm 2)),op 45 (.load none (tm 44)),op 46 (.faddr 4 (tm 3)),op 47 (.load none (tm 46)),op 48 (.call .pure 64 [(tm 45),(tm 47),(.cst (.fn 63 []))]),op 49 (.lit false 1 (.int .i64 0) 3 [(0,(tm 38)),(1,(tm 43)),(2,(tm 48))]),op 50 (.call .pure 59 [(tm 49)]),mv 4 50] [4] none)
 (.ret))))

def a63 : AFunc := ⟨2,c63,[.tmp 4]⟩

def an63 : List RAnn := [
 ra 0 [2,3],
 { id := 1,head := some 6,live := [2,3,5] },
 ra 2 [2,3,5,16],ra 3 [4],ra 4 [2,3,20],ra 5 [3,6],ra 6 [6,8],ra 7 [4],
 { id := 8,head := some 18,live := [4] }]

theorem comp63 : compF Tryz.prog an63 Tryz.f63 = some a63 := by kernel_rfl

/- slices.CompareFunc[[]graphdb/api.Value,[]graphdb/api.Value,graphdb/api.Value,graphdb/api.Value] -/
/-- loop 0 of function 64 -/
def l64_0_h : List Nat := [0,1,2,11,12,13]

def l64_0_b : ACode :=
 .seq (rg [op 14 (.bin .lss .int (tm 13) (tm 12))] [0,1,2,11,12,13,14])
 (.seq (.cond (tm 14) (.skip)
 (.exit 0))
 (.seq (.block 1 (.seq (rg [mv 15 13,op 16 (.iaddr 5 (tm 11) (tm 13)),op 17 (.load (some 5) (tm 16)),op 8 (.alloc 5 (.agg [.int .i64 0,.int .i64 0,.int .i64 0,.str [],.sl false []])),mv 7 15,⟨none,.store 5 (tm 8) (tm 17),none⟩] [0,1,2,7,8,11,12,13])
 (.seq (.seq (rg [mv 18 7,mv 19 1,op 20 (.len .slice (tm 19)),op 21 (.bin .geq .int (tm 18) (tm 20))] [0,1,2,7,8,11,12,13,21])
 (.cond (tm 21) (.seq (rg [op 6 (.mov (ci (1)))] [6])
 (.ret))
 (.skip)))
 (.seq (rg [mv 22 1,mv 23 7,op 24 (.iaddr 5 (tm 22) (tm 23)),op 25 (.load (some 5) (tm 24)),op 9 (.alloc 5 (.agg [.int .i64 0,.int .i64 0,.int .i64 0,.str [],.sl false []])),⟨none,.store 5 (tm 9) (tm 25),none⟩] [0,1,2,8,9,11,12,13])
 (.seq (rg [mv 26 2,op 27 (.load (some 5) (tm 8)),op 28 (.load (some 5) (tm 9)),op 29 (.callv .pure (tm 26) [(tm 27),(tm 28)]),mv 10 29] [0,1,2,10,11,12,13])
 (.seq (rg [mv 30 10,op 31 (.bin .neq .int (tm 30) (ci (0)))] [0,1,2,10,11,12,13,31])
 (.cond (tm 31) (.seq (rg [mv 32 10,mv 6 32] [6])
 (.ret))
 (.skip))))))))
 (.region none [] [op 33 (.bin .add .int (tm 13) (ci (1))),mv 13 33] [0,1,2,11,12,13] (some 0))))

def c64 : ACode :=
 .seq (rg [op 6 (.mov (ci (0)))] [0,1,2])
 (.seq (.seq (rg [mv 11 0,op 12 (.len .slice (tm 11)),op 13 (.mov (ci (0)))] [0,1,2,11,12,13])
 (.block 0 (.loop l64_0_h l64_0_b)))
 (.seq (.seq (rg [mv 34 0,op 35 (.len .slice (tm 34)),mv 36 1,op 37 (.len .slice (tm 36)),op 38 (.bin .lss .int (tm 35) (tm 37))] [38])
 (.cond (tm 38) (.seq (rg [op 6 (.mov (ci ((-1))))] [6])
 (.ret))
 (.skip)))
 (.seq (rg [op 6 (.mov (ci (0)))] [6])
 (.ret))))

def a64 : AFunc := ⟨3,c64,[.tmp 6]⟩

def an64 : List RAnn := [
 ra 0 [0,1,2],ra 1 [0,1,2,11,12,13],rh 2 [0,1,2,11,12,13,14] [0,1,2,11,12,13],ra 3 [0,1,2,7,8,11,12,13],ra 4 [0,1,2,7,8,11,12,13,21],ra 5 [6],ra 6 [0,1,2,8,9,11,12,13],ra 7 [0,1,2,10,11,12,13],ra 8 [0,1,2,10,11,12,13,31],ra 9 [6],
 { id := 10,live := [0,1,2,11,12,13],trunc := some 0 },
 ra 11 [38],ra 12 [6],ra 13 [6]]

theorem comp64 : compF Tryz.prog an64 Tryz.f64 = some a64 := by kernel_rfl

/- graphdb/change.ApplyAll -/
/-- loop 0 of function 65 -/
def l65_0_h : List Nat := [1,4,8,21,22,23]

def l65_0_b : ACode :=
 .seq (rg [op 24 (.bin .lss .int (tm 23) (tm 22))] [1,4,8,21,22,23,24])
 (.seq (.cond (tm 24) (.skip)
 (.exit 0))
 (.seq (.block 1 (.seq (rg [mv 25 23,op 26 (.iaddr 10 (tm 21) (tm 23)),op 27 (.load (some 10) (tm 26)),op 10 (.alloc 10 (.agg [.int .i64 0,.int .i64 0,.int .i64 0,.int .i64 0,.str [],.int .i64 0,.int .i64 0,.int .i64 0,.str [],.sl false []])),mv 9 25,⟨none,.store 10 (tm 10) (tm 27),none⟩] [1,4,8,9,10,21,22,23])
 (.seq (rg [op 28 (.load (some 10) (tm 10)),op 29 (.call .keep 101 [(tm 8),(tm 28)]),mv 11 29] [1,4,8,9,11,21,22,23])
 (.seq (rg [mv 30 11,op 31 (.bin .neq .int (tm 30) (ci (0)))] [1,4,8,9,11,21,22,23,31])
 (.cond (tm 31) (.seq (rg [op 32 (.build [.sl false [],.sl false [],.int .i64 0,.int .i64 0] []),mv 33 9,mv 34 11,⟨none,.store 4 (tm 4) (tm 32),none⟩,mv 5 33,mv 6 34] [4,5,6])
 (.ret))
 (.skip))))))
 (rg [op 35 (.bin .add .int (tm 23) (ci (1))),mv 23 35] [1,4,8,21,22,23])))

def c65 : ACode :=
 .seq (rg [op 2 (.box 4 (tm 0)),op 4 (.alloc 4 (.agg [.sl false [],.sl false [],.int .i64 0,.int .i64 0])),op 5 (.mov (ci (0))),op 6 (.mov (ci (0)))] [1,2,4])
 (.seq (.seq (rg [op 12 (.load (some 4) (tm 2)),op 13 (.call .pure 32 [(tm 12)]),mv 7 13] [1,2,4,7])
 (.seq (rg [mv 14 7,op 15 (.bin .neq .int (tm 14) (ci (0)))] [1,2,4,7,15])
 (.cond (tm 15) (.seq (rg [op 16 (.build [.sl false [],.sl false [],.int .i64 0,.int .i64 0] []),mv 17 7,⟨none,.store 4 (tm 4) (tm 16),none⟩,op 5 (.mov (ci (0))),mv 6 17] [4,5,6])
 (.ret))
 (.skip))))
 (.seq (rg [op 18 (.load (some 4) (tm 2)),op 19 (.call .share 100 [(tm 18)]),op 20 (.build [.sl false [],.sl false [],.int .i64 0,.int .i64 0] [(0,4,(tm 19))]),op 8 (.alloc 4 (.agg [.sl false [],.sl false [],.int .i64 0,.int .i64 0])),⟨none,.store 4 (tm 8) (tm 20),none⟩] [1,4,8])
 (.seq (.seq (rg [mv 21 1,op 22 (.len .slice (tm 21)),op 23 (.mov (ci (0)))] [1,4,8,21,22,23])
 (.block 0 (.loop l65_0_h l65_0_b)))
 (.seq (rg [op 36 (.faddr 0 (tm 8)),op 37 (.load (some 4) (tm 36)),mv 38 1,op 39 (.len .slice (tm 38)),⟨none,.store 4 (tm 4) (tm 37),none⟩,mv 5 39,op 6 (.mov (ci (0)))] [4,5,6])
 (.ret)))))

def a65 : AFunc := ⟨2,c65,[.cell 4 (some 4),.tmp 5,.tmp 6]⟩

def an65 : List RAnn := [
 ra 0 [1,2,4],ra 1 [1,2,4,7],ra 2 [1,2,4,7,15],ra 3 [4,5,6],
 { id := 4,live := [1,4,8],ops := [(1,.mode .share)] },
 ra 5 [1,4,8,21,22,23],rh 6 [1,4,8,21,22,23,24] [1,4,8,21,22,23],ra 7 [1,4,8,9,10,21,22,23],
 { id := 8,live := [1,4,8,9,11,21,22,23],ops := [(1,.mode .keep)] },
 ra 9 [1,4,8,9,11,21,22,23,31],ra 10 [4,5,6],ra 11 [1,4,8,21,22,23],ra 12 [4,5,6]]

theorem comp65 : compF Tryz.prog an65 Tryz.f65 = some a65 := by kernel_rfl

/- graphdb/graph.parts -/
/-- loop 0 of function 66 -/
def l66_0_h : List Nat := [0,1,5,18,19,20]

def l66_0_b : ACode :=
 .seq (rg [op 21 (.bin .lss .int (tm 20) (tm 19))] [0,1,5,18,19,20,21])
 (.seq (.cond (tm 21) (.skip)
 (.exit 0))
 (.seq (.block 1 (.seq (rg [op 22 (.iaddr 6 (tm 18) (tm 20)),op 23 (.load (some 6) (tm 22)),op 7 (.alloc 6 (.agg [.str [],.int .i64 0,.int .i64 0,.int .i64 0,.str [],.sl false []])),⟨none,.store 6 (tm 7) (tm 23),none⟩] [0,1,5,7,18,19,20])
 (rg [mv 24 5,op 25 (.faddr 0 (tm 7)),op 26 (.load none (tm 25)),op 27 (.lit false 1 (.str []) 1 [(0,(tm 26))]),op 28 (.append 1 16 (tm 24) (tm 27)),mv 5 28] [0,1,5,18,19,20])))
 (.region none [] [op 29 (.bin .add .int (tm 20) (ci (1))),mv 20 29] [0,1,5,18,19,20] (some 1))))

/-- loop 1 of function 66 -/
def l66_1_h : List Nat := [44,45,46]

def l66_1_b : ACode :=
 .seq (rg [op 47 (.bin .lss .int (tm 46) (tm 45))] [44,45,46,47])
 (.seq (.cond (tm 47) (.skip)
 (.exit 2))
 (.seq (.block 3 (.seq (rg [op 48 (.iaddr 6 (tm 44) (tm 46)),op 49 (.load (some 6) (tm 48)),op 9 (.alloc 6 (.agg [.str [],.int .i64 0,.int .i64 0,.int .i64 0,.str [],.sl false []])),⟨none,.store 6 (tm 9) (tm 49),none⟩] [9,44,45,46])
 (.seq (rg [op 50 (.faddr 1 (tm 9)),op 51 (.load (some 5) (tm 50)),op 52 (.call .pure 105 [(tm 51)]),op 53 (.un .not (tm 52))] [44,45,46,53])
 (.cond (tm 53) (.seq (rg [op 4 (.mov (ci (8)))] [4])
 (.ret))
 (.skip)))))
 (.region none [] [op 54 (.bin .add .int (tm 46) (ci (1))),mv 46 54] [44,45,46] (some 1))))

def c66 : ACode :=
 .seq (rg [op 4 (.mov (ci (0)))] [0,1])
 (.seq (.seq (rg [mv 10 0,op 11 (.len .slice (tm 10)),op 12 (.bin .gtr .int (tm 11) (ci (8))),mv 13 12,mg 14 1 13 false,⟨some 15,.len .slice (tm 14),some (13,false)⟩,⟨some 16,.bin .gtr .int (tm 15) (ci (16)),some (13,false)⟩,op 17 (.pick (tm 13) (.cst (.bool true)) (tm 16))] [0,1,17])
 (.cond (tm 17) (.seq (rg [op 4 (.mov (ci (4)))] [4])
 (.ret))
 (.skip)))
 (.seq (rg [op 5 (.newown 1)] [0,1,5])
 (.seq (.seq (rg [mv 18 1,op 19 (.len .slice (tm 18)),op 20 (.mov (ci (0)))] [0,1,5,18,19,20])
 (.block 0 (.loop l66_0_h l66_0_b)))
 (.seq (.seq (rg [mv 30 0,op 31 (.call .pure 102 [(tm 30),(.cst (.fn 103 []))]),mv 32 31,mg 33 5 32 false,⟨some 34,.call .borrow 102 [(tm 33),(.cst (.fn 103 []))],some (32,false)⟩,op 35 (.pick (tm 32) (.cst (.bool true)) (tm 34))] [0,1,5,35])
 (.cond (tm 35) (.seq (rg [op 4 (.mov (ci (6)))] [4])
 (.ret))
 (.skip)))
 (.seq (.seq (rg [mv 36 0,op 37 (.call .pure 104 [(tm 36)]),op 38 (.un .not (tm 37)),mv 39 38,mg 40 5 39 false,⟨some 41,.call .borrow 104 [(tm 40)],some (39,false)⟩,⟨some 42,.un .not (tm 41),some (39,false)⟩,op 43 (.pick (tm 39) (.cst (.bool true)) (tm 42))] [1,43])
 (.cond (tm 43) (.seq (rg [op 4 (.mov (ci (26)))] [4])
 (.ret))
 (.skip)))
 (.seq (.seq (rg [mv 44 1,op 45 (.len .slice (tm 44)),op 46 (.mov (ci (0)))] [44,45,46])
 (.block 2 (.loop l66_1_h l66_1_b)))
 (.seq (rg [op 4 (.mov (ci (0)))] [4])
 (.ret))))))))

def a66 : AFunc := ⟨2,c66,[.tmp 4]⟩

def an66 : List RAnn := [
 ra 0 [0,1],ra 1 [0,1,17],ra 2 [4],
 { id := 3,live := [0,1,5],ops := [(0,.own)] },
 ra 4 [0,1,5,18,19,20],rh 5 [0,1,5,18,19,20,21] [0,1,5,18,19,20],ra 6 [0,1,5,7,18,19,20],ra 7 [0,1,5,18,19,20],
 { id := 8,live := [0,1,5,18,19,20],trunc := some 1 },
 { id := 9,live := [0,1,5,35],ops := [(4,.mode .borrow)] },
 ra 10 [4],
 { id := 11,live := [1,43],ops := [(5,.mode .borrow)] },
 ra 12 [4],ra 13 [44,45,46],rh 14 [44,45,46,47] [44,45,46],ra 15 [9,44,45,46],ra 16 [44,45,46,53],ra 17 [4],
 { id := 18,live := [44,45,46],trunc := some 1 },
 ra 19 [4]]

theorem comp66 : compF Tryz.prog an66 Tryz.f66 = some a66 := by kernel_rfl

/- graphdb/graph.has -/
def c67 : ACode :=
 .seq (rg [op 4 (.mov (.cst (.bool false)))] [0,1])
 (.seq (rg [mv 8 0,mv 9 1,op 10 (.call .pure 106 [(tm 8),(tm 9),(.cst (.fn 107 []))]),mv 7 10,op 11 (.ext (tm 7) 0),op 12 (.ext (tm 7) 1),mv 5 11,mv 6 12] [6])
 (.seq (rg [mv 13 6,mv 4 13] [4])
 (.ret)))

def a67 : AFunc := ⟨2,c67,[.tmp 4]⟩

def an67 : List RAnn := [
 ra 0 [0,1],ra 1 [6],ra 2 [4]]

theorem comp67 : compF Tryz.prog an67 Tryz.f67 = some a67 := by kernel_rfl

/- graphdb/graph.Name -/
/-- loop 0 of function 68 -/
def l68_0_h : List Nat := [0,18,19]

def l68_0_b : ACode :=
 .seq (rg [op 20 (.bin .lss .int (tm 19) (tm 18))] [0,18,19,20])
 (.seq (.cond (tm 20) (.skip)
 (.exit 0))
 (.seq (.block 1 (.seq (rg [mv 21 19,mv 3 21] [0,3,18,19])
 (.seq (rg [mv 22 0,mv 23 3,op 24 (.sidx (tm 22) (tm 23)),op 25 (.call .pure 108 [(tm 24)]),op 26 (.un .not (tm 25)),mv 27 26,mg 28 0 27 true,mg 29 3 27 true,⟨some 30,.sidx (tm 28) (tm 29),some (27,true)⟩,⟨some 31,.bin .lss .int (tm 30) (.cst (.int .u8 48)),some (27,true)⟩,mg 32 31 27 true,mg 33 0 32 false,mg 34 3 32 false,⟨some 35,.sidx (tm 33) (tm 34),some (32,false)⟩,⟨some 36,.bin .gtr .int (tm 35) (.cst (.int .u8 57)),some (32,false)⟩,⟨some 37,.pick (tm 32) (.cst (.bool true)) (tm 36),some (27,true)⟩,op 38 (.pick (tm 27) (tm 37) (.cst (.bool false))),mv 39 38,mg 40 0 39 true,mg 41 3 39 true,⟨some 42,.sidx (tm 40) (tm 41),some (39,true)⟩,⟨some 43,.bin .neq .int (tm 42) (.cst (.int .u8 95)),some (39,true)⟩,op 44 (.pick (tm 39) (tm 43) (.cst (.bool false)))] [0,18,19,44])
 (.cond (tm 44) (.seq (rg [op 2 (.mov (.cst (.bool false)))] [2])
 (.ret))
 (.skip)))))
 (rg [op 45 (.bin .add .int (tm 19) (ci (1))),mv 19 45] [0,18,19])))

def c68 : ACode :=
 .seq (rg [op 2 (.mov (.cst (.bool false)))] [0])
 (.seq (.seq (rg [mv 4 0,op 5 (.bin .eql .str (tm 4) (.cst (.str []))),mv 6 5,mg 7 0 6 false,⟨some 8,.len .str (tm 7),some (6,false)⟩,⟨some 9,.bin .gtr .int (tm 8) (ci (20)),some (6,false)⟩,op 10 (.pick (tm 6) (.cst (.bool true)) (tm 9)),mv 11 10,mg 12 0 11 false,⟨some 13,.sidx (tm 12) (ci (0)),some (11,false)⟩,⟨some 14,.call .pure 108 [(tm 13)],some (11,false)⟩,⟨some 15,.un .not (tm 14),some (11,false)⟩,op 16 (.pick (tm 11) (.cst (.bool true)) (tm 15))] [0,16])
 (.cond (tm 16) (.seq (rg [op 2 (.mov (.cst (.bool false)))] [2])
 (.ret))
 (.skip)))
 (.seq (.seq (rg [mv 17 0,op 18 (.len .str (tm 17)),op 19 (.mov (ci (0)))] [0,18,19])
 (.block 0 (.loop l68_0_h l68_0_b)))
 (.seq (rg [op 2 (.mov (.cst (.bool true)))] [2])
 (.ret))))

def a68 : AFunc := ⟨1,c68,[.tmp 2]⟩

def an68 : List RAnn := [
 ra 0 [0],ra 1 [0,16],ra 2 [2],ra 3 [0,18,19],rh 4 [0,18,19,20] [0,18,19],ra 5 [0,3,18,19],ra 6 [0,18,19,44],ra 7 [2],ra 8 [0,18,19],ra 9 [2]]

theorem comp68 : compF Tryz.prog an68 Tryz.f68 = some a68 := by kernel_rfl

/- graphdb/graph.cloneValue -/
/-- loop 0 of function 69 -/
def l69_0_h : List Nat := [1,2,10,11]

def l69_0_b : ACode :=
 .seq (rg [op 12 (.bin .lss .int (tm 11) (tm 10))] [1,2,10,11,12])
 (.seq (.cond (tm 12) (.skip)
 (.exit 0))
 (.seq (.block 1 (.seq (rg [mv 13 11,mv 3 13] [1,2,3,10,11])
 (.region (some 10) [] [
 op 14 (.faddr 4 (tm 1)),op 15 (.load none (tm 14)),mv 16 3,op 17 (.faddr 4 (tm 1)),op 18 (.load none (tm 17)),mv 19 3,op 20 (.iaddr 5 (tm 18) (tm 19)),op 21 (.load (some 5) (tm 20)),op 22 (.call .pure 69 [(tm 21)]),op 23 (.iaddr 5 (tm 15) (tm 16)),⟨none,.store 5 (tm 23) (tm 22),none⟩] [1,2,10,11] none)))
 (rg [op 24 (.bin .add .int (tm 11) (ci (1))),mv 11 24] [1,2,10,11])))

def c69 : ACode :=
 .seq (rg [op 1 (.box 5 (tm 0)),op 2 (.alloc 5 (.agg [.int .i64 0,.int .i64 0,.int .i64 0,.str [],.sl false []]))] [1,2])
 (.seq (rg [op 4 (.faddr 4 (tm 1)),op 5 (.load none (tm 4)),op 6 (.call .own 109 [(tm 5)]),op 7 (.faddr 4 (tm 1)),⟨none,.store 1 (tm 7) (tm 6),none⟩] [1,2])
 (.seq (.seq (rg [op 8 (.faddr 4 (tm 1)),op 9 (.load none (tm 8)),op 10 (.len .slice (tm 9)),op 11 (.mov (ci (0)))] [1,2,10,11])
 (.block 0 (.loop l69_0_h l69_0_b)))
 (.seq (rg [op 25 (.load (some 5) (tm 1)),⟨none,.store 5 (tm 2) (tm 25),none⟩] [2])
 (.ret))))

def a69 : AFunc := ⟨1,c69,[.cell 2 (some 5)]⟩

def an69 : List RAnn := [
 ra 0 [1,2],
 { id := 1,live := [1,2],ops := [(2,.mode .own)] },
 ra 2 [1,2,10,11],rh 3 [1,2,10,11,12] [1,2,10,11],ra 4 [1,2,3,10,11],
 { id := 5,head := some 10,live := [1,2,10,11] },
 ra 6 [1,2,10,11],ra 7 [2]]

theorem comp69 : compF Tryz.prog an69 Tryz.f69 = some a69 := by kernel_rfl

/- slices.Contains[[]string,string] -/
def c70 : ACode :=
 .seq (rg [op 4 (.mov (.cst (.bool false)))] [0,1])
 (.seq (rg [mv 5 0,mv 6 1,op 7 (.call .pure 110 [(tm 5),(tm 6)]),op 8 (.bin .geq .int (tm 7) (ci (0))),mv 4 8] [4])
 (.ret))

def a70 : AFunc := ⟨2,c70,[.tmp 4]⟩

def an70 : List RAnn := [
 ra 0 [0,1],ra 1 [4]]

theorem comp70 : compF Tryz.prog an70 Tryz.f70 = some a70 := by kernel_rfl

/- graphdb/value.equal -/
/-- loop 0 of function 71 -/
def l71_0_h : List Nat := [2,3,9,76,77]

def l71_0_b : ACode :=
 .seq (rg [op 78 (.bin .lss .int (tm 77) (tm 76))] [2,3,9,76,77,78])
 (.seq (.cond (tm 78) (.skip)
 (.exit 1))
 (.seq (.block 2 (.seq (rg [mv 79 77,mv 10 79] [2,3,9,10,76,77])
 (.region (some 14) [] [
 mv 80 9,op 81 (.faddr 4 (tm 2)),op 82 (.load none (tm 81)),mv 83 10,op 84 (.iaddr 5 (tm 82) (tm 83)),op 85 (.load (some 5) (tm 84)),op 86 (.faddr 4 (tm 3)),op 87 (.load none (tm 86)),mv 88 10,op 89 (.iaddr 5 (tm 87) (tm 88)),op 90 (.load (some 5) (tm 89)),op 91 (.call .pure 71 [(tm 85),(tm 90)]),op 92 (.call .pure 111 [(tm 80),(tm 91)]),mv 9 92] [2,3,9,76,77] none)))
 (rg [op 93 (.bin .add .int (tm 77) (ci (1))),mv 77 93] [2,3,9,76,77])))

def c71 : ACode :=
 .seq (rg [op 2 (.box 5 (tm 0)),op 3 (.box 5 (tm 1)),op 4 (.mov (ci (0)))] [2,3])
 (.seq (.seq (rg [op 11 (.faddr 0 (tm 2)),op 12 (.load none (tm 11)),op 13 (.bin .eql .int (tm 12) (ci (0))),mv 14 13,⟨some 15,.faddr 0 (tm 3),some (14,false)⟩,⟨some 16,.load none (tm 15),some (14,false)⟩,⟨some 17,.bin .eql .int (tm 16) (ci (0)),some (14,false)⟩,op 18 (.pick (tm 14) (.cst (.bool true)) (tm 17))] [2,3,18])
 (.cond (tm 18) (.seq (rg [op 4 (.mov (ci (1)))] [4])
 (.ret))
 (.skip)))
 (.seq (rg [op 20 (.load (some 5) (tm 2)),op 21 (.call .pure 72 [(tm 20)]),mv 19 21,op 22 (.ext (tm 19) 0),op 23 (.ext (tm 19) 1),op 5 (.alloc 2 (.agg [.int .i64 0,.int .i64 0])),⟨none,.store 2 (tm 5) (tm 22),none⟩,mv 6 23] [2,3,5,6])
 (.seq (rg [op 25 (.load (some 5) (tm 3)),op 26 (.call .pure 72 [(tm 25)]),mv 24 26,op 27 (.ext (tm 24) 0),op 28 (.ext (tm 24) 1),op 7 (.alloc 2 (.agg [.int .i64 0,.int .i64 0])),⟨none,.store 2 (tm 7) (tm 27),none⟩,mv 8 28] [2,3,5,6,7,8])
 (.seq (.block 0 (.seq (rg [mv 30 6,mv 31 30,mg 32 8 31 true,op 33 (.pick (tm 31) (tm 32) (.cst (.bool false))),mv 29 33] [2,3,5,7,29])
 (.cond (tm 29) (.seq (rg [op 34 (.load (some 2) (tm 5)),op 35 (.load (some 2) (tm 7)),op 36 (.bin .eql (.flat [.int,.int]) (tm 34) (tm 35)),op 37 (.call .pure 73 [(tm 36)]),mv 4 37] [4])
 (.ret))
 (.seq (rg [op 39 (.faddr 0 (tm 2)),op 40 (.load none (tm 39)),op 41 (.faddr 0 (tm 3)),op 42 (.load none (tm 41)),op 43 (.bin .neq .int (tm 40) (tm 42)),mv 38 43] [2,3,38])
 (.cond (tm 38) (.seq (rg [op 4 (.mov (ci (0)))] [4])
 (.ret))
 (.seq (rg [op 45 (.faddr 0 (tm 2)),op 46 (.load none (tm 45)),op 47 (.bin .neq .int (tm 46) (ci (8))),mv 48 47,⟨some 49,.faddr 0 (tm 2),some (48,true)⟩,⟨some 50,.load none (tm 49),some (48,true)⟩,⟨some 51,.bin .neq .int (tm 50) (ci (7)),some (48,true)⟩,op 52 (.pick (tm 48) (tm 51) (.cst (.bool false))),mv 44 52] [2,3,44])
 (.cond (tm 44) (.seq (rg [op 53 (.faddr 1 (tm 2)),op 54 (.load none (tm 53)),op 55 (.faddr 1 (tm 3)),op 56 (.load none (tm 55)),op 57 (.bin .eql .int (tm 54) (tm 56)),mv 58 57,⟨some 59,.faddr 3 (tm 2),some (58,true)⟩,⟨some 60,.load none (tm 59),some (58,true)⟩,⟨some 61,.faddr 3 (tm 3),some (58,true)⟩,⟨some 62,.load none (tm 61),some (58,true)⟩,⟨some 63,.bin .eql .str (tm 60) (tm 62),some (58,true)⟩,op 64 (.pick (tm 58) (tm 63) (.cst (.bool false))),op 65 (.call .pure 73 [(tm 64)]),mv 4 65] [4])
 (.ret))
 (.seq (rg [op 67 (.faddr 4 (tm 2)),op 68 (.load none (tm 67)),op 69 (.len .slice (tm 68)),op 70 (.faddr 4 (tm 3)),op 71 (.load none (tm 70)),op 72 (.len .slice (tm 71)),op 73 (.bin .neq .int (tm 69) (tm 72)),mv 66 73] [2,3,66])
 (.cond (tm 66) (.seq (rg [op 4 (.mov (ci (0)))] [4])
 (.ret))
 (.skip))))))))))
 (.seq (rg [op 9 (.mov (ci (2)))] [2,3,9])
 (.seq (.seq (rg [op 74 (.faddr 4 (tm 2)),op 75 (.load none (tm 74)),op 76 (.len .slice (tm 75)),op 77 (.mov (ci (0)))] [2,3,9,76,77])
 (.block 1 (.loop l71_0_h l71_0_b)))
 (.seq (rg [mv 94 9,mv 4 94] [4])
 (.ret))))))))

def a71 : AFunc := ⟨2,c71,[.tmp 4]⟩

def an71 : List RAnn := [
 ra 0 [2,3],ra 1 [2,3,18],ra 2 [4],ra 3 [2,3,5,6],ra 4 [2,3,5,6,7,8],ra 5 [2,3,5,7,29],ra 6 [4],ra 7 [2,3,38],ra 8 [4],ra 9 [2,3,44],ra 10 [4],ra 11 [2,3,66],ra 12 [4],ra 13 [2,3,9],ra 14 [2,3,9,76,77],rh 15 [2,3,9,76,77,78] [2,3,9,76,77],ra 16 [2,3,9,10,76,77],
 { id := 17,head := some 14,live := [2,3,9,76,77] },
 ra 18 [2,3,9,76,77],ra 19 [4]]

theorem comp71 : compF Tryz.prog an71 Tryz.f71 = some a71 := by kernel_rfl

/- graphdb/value.Number -/
def c72 : ACode :=
 .seq (rg [op 1 (.box 5 (tm 0)),op 2 (.alloc 2 (.agg [.int .i64 0,.int .i64 0])),op 3 (.mov (.cst (.bool false)))] [1,2])
 (.seq (.block 0 (.seq (rg [op 5 (.faddr 0 (tm 1)),op 6 (.load none (tm 5)),op 7 (.bin .eql .int (tm 6) (ci (2))),mv 8 7,⟨some 9,.load (some 5) (tm 1),some (8,true)⟩,⟨some 10,.call .pure 62 [(tm 9)],some (8,true)⟩,op 11 (.pick (tm 8) (tm 10) (.cst (.bool false))),mv 4 11] [1,2,4])
 (.cond (tm 4) (.seq (rg [op 12 (.faddr 1 (tm 1)),op 13 (.load none (tm 12)),op 14 (.build [.int .i64 0,.int .i64 0] [(0,1,(tm 13)),(1,1,(ci (1)))]),⟨none,.store 2 (tm 2) (tm 14),none⟩,op 3 (.mov (.cst (.bool true)))] [2,3])
 (.ret))
 (.seq (rg [op 16 (.faddr 0 (tm 1)),op 17 (.load none (tm 16)),op 18 (.bin .eql .int (tm 17) (ci (3))),mv 19 18,⟨some 20,.load (some 5) (tm 1),some (19,true)⟩,⟨some 21,.call .pure 62 [(tm 20)],some (19,true)⟩,op 22 (.pick (tm 19) (tm 21) (.cst (.bool false))),mv 15 22] [1,2,15])
 (.cond (tm 15) (.seq (rg [op 23 (.faddr 1 (tm 1)),op 24 (.load none (tm 23)),op 25 (.faddr 2 (tm 1)),op 26 (.load none (tm 25)),op 27 (.build [.int .i64 0,.int .i64 0] [(0,1,(tm 24)),(1,1,(tm 26))]),⟨none,.store 2 (tm 2) (tm 27),none⟩,op 3 (.mov (.cst (.bool true)))] [2,3])
 (.ret))
 (.skip))))))
 (.seq (rg [op 28 (.build [.int .i64 0,.int .i64 0] []),⟨none,.store 2 (tm 2) (tm 28),none⟩,op 3 (.mov (.cst (.bool false)))] [2,3])
 (.ret)))

def a72 : AFunc := ⟨1,c72,[.cell 2 (some 2),.tmp 3]⟩

def an72 : List RAnn := [
 ra 0 [1,2],ra 1 [1,2,4],ra 2 [2,3],ra 3 [1,2,15],ra 4 [2,3],ra 5 [2,3]]

theorem comp72 : compF Tryz.prog an72 Tryz.f72 = some a72 := by kernel_rfl

/- graphdb/value.truth -/
def c73 : ACode :=
 .seq (rg [op 2 (.mov (ci (0)))] [0])
 (.seq (.seq (rg [mv 3 0] [3])
 (.cond (tm 3) (.seq (rg [op 2 (.mov (ci (2)))] [2])
 (.ret))
 (.skip)))
 (.seq (rg [op 2 (.mov (ci (0)))] [2])
 (.ret)))

def a73 : AFunc := ⟨1,c73,[.tmp 2]⟩

def an73 : List RAnn := [
 ra 0 [0],ra 1 [3],ra 2 [2],ra 3 [2]]

theorem comp73 : compF Tryz.prog an73 Tryz.f73 = some a73 := by kernel_rfl

/- graphdb/frac.Cmp -/
def c74 : ACode :=
 .seq (rg [op 2 (.box 2 (tm 0)),op 3 (.box 2 (tm 1)),op 4 (.mov (ci (0)))] [2,3])
 (.seq (.seq (rg [op 5 (.load (some 2) (tm 2)),op 6 (.call .pure 112 [(tm 5)]),op 7 (.un .not (tm 6))] [2,3,7])
 (.cond (tm 7) (.cond (ci (0)) (.skip)
 (.skip))
 (.skip)))
 (.seq (.seq (rg [op 9 (.load (some 2) (tm 3)),op 10 (.call .pure 112 [(tm 9)]),op 11 (.un .not (tm 10))] [2,3,11])
 (.cond (tm 11) (.cond (ci (0)) (.skip)
 (.skip))
 (.skip)))
 (.seq (.region (some 14) [] [
 op 13 (.faddr 0 (tm 2)),op 14 (.load none (tm 13)),op 15 (.faddr 1 (tm 3)),op 16 (.load none (tm 15)),op 17 (.call .pure 113 [(tm 14),(tm 16)]),op 18 (.faddr 0 (tm 3)),op 19 (.load none (tm 18)),op 20 (.un .neg (tm 19)),op 21 (.faddr 1 (tm 2)),op 22 (.load none (tm 21)),op 23 (.call .pure 113 [(tm 20),(tm 22)]),op 24 (.call .pure 114 [(tm 17),(tm 23)]),op 25 (.call .pure 115 [(tm 24)]),mv 4 25] [4] none)
 (.ret))))

def a74 : AFunc := ⟨2,c74,[.tmp 4]⟩

def an74 : List RAnn := [
 ra 0 [2,3],ra 1 [2,3,7],ra 2 [2,3],ra 3 [2,3,11],ra 4 [2,3],
 { id := 5,head := some 14,live := [4] }]

theorem comp74 : compF Tryz.prog an74 Tryz.f74 = some a74 := by kernel_rfl

/- graphdb/graphdbref07.HasStr -/
/-- loop 0 of function 77 -/
def l77_0_h : List Nat := [0,1,5]

def l77_0_b : ACode :=
 .seq (.seq (rg [mv 6 5,mv 7 0,op 8 (.len .slice (tm 7)),op 9 (.bin .lss .int (tm 6) (tm 8))] [0,1,5,9])
 (.cond (tm 9) (.skip)
 (.exit 0)))
 (.seq (.block 1 (.seq (rg [mv 12 0,mv 13 5,op 14 (.iaddr 1 (tm 12) (tm 13)),op 15 (.load none (tm 14)),mv 16 1,op 17 (.bin .eql .str (tm 15) (tm 16))] [0,1,5,17])
 (.cond (tm 17) (.seq (rg [op 4 (.mov (.cst (.bool true)))] [4])
 (.ret))
 (.skip))))
 (rg [mv 10 5,op 11 (.bin .add .int (tm 10) (ci (1))),mv 5 11] [0,1,5]))

def c77 : ACode :=
 .seq (rg [op 4 (.mov (.cst (.bool false)))] [0,1])
 (.seq (.seq (rg [op 5 (.mov (ci (0)))] [0,1,5])
 (.block 0 (.loop l77_0_h l77_0_b)))
 (.seq (rg [op 4 (.mov (.cst (.bool false)))] [4])
 (.ret)))

def a77 : AFunc := ⟨2,c77,[.tmp 4]⟩

def an77 : List RAnn := [
 ra 0 [0,1],ra 1 [0,1,5],rh 2 [0,1,5,9] [0,1,5],ra 4 [0,1,5,17],ra 5 [4],ra 3 [0,1,5],ra 6 [4]]

theorem comp77 : compF Tryz.prog an77 Tryz.f77 = some a77 := by kernel_rfl

/- slices.SortFunc[[][]int,[]int] -/
def c78 : ACode :=
 .seq (rg [mv 5 0,op 6 (.len .slice (tm 5)),mv 4 6] [0,1,4])
 (rg [mv 7 0,mv 8 4,mv 9 4,op 10 (.conv .u64 (tm 9)),op 11 (.call .pure 86 [(tm 10)]),mv 12 1,op 13 (.call .share 119 [(tm 7),(ci (0)),(tm 8),(tm 11),(tm 12)])] [])

def a78 : AFunc := ⟨2,c78,[]⟩

def an78 : List RAnn := [
 ra 0 [0,1,4],
 { id := 1,ops := [(6,.mode .share)] }]

theorem comp78 : compF Tryz.prog an78 Tryz.f78 = some a78 := by kernel_rfl

/- slices.Compare[[]int,int] -/
/-- loop 0 of function 79 -/
def l79_0_h : List Nat := [0,1,9,10,11]

def l79_0_b : ACode :=
 .seq (rg [op 12 (.bin .lss .int (tm 11) (tm 10))] [0,1,9,10,11,12])
 (.seq (.cond (tm 12) (.skip)
 (.exit 0))
 (.seq (.block 1 (.seq (rg [mv 13 11,op 14 (.iaddr 1 (tm 9) (tm 11)),op 15 (.load none (tm 14)),mv 5 13,mv 6 15] [0,1,5,6,9,10,11])
 (.seq (.seq (rg [mv 16 5,mv 17 1,op 18 (.len .slice (tm 17)),op 19 (.bin .geq .int (tm 16) (tm 18))] [0,1,5,6,9,10,11,19])
 (.cond (tm 19) (.seq (rg [op 4 (.mov (ci (1)))] [4])
 (.ret))
 (.skip)))
 (.seq (rg [mv 20 1,mv 21 5,op 22 (.iaddr 1 (tm 20) (tm 21)),op 23 (.load none (tm 22)),mv 7 23] [0,1,6,7,9,10,11])
 (.seq (rg [mv 24 6,mv 25 7,op 26 (.call .pure 61 [(tm 24),(tm 25)]),mv 8 26] [0,1,8,9,10,11])
 (.seq (rg [mv 27 8,op 28 (.bin .neq .int (tm 27) (ci (0)))] [0,1,8,9,10,11,28])
 (.cond (tm 28) (.seq (rg [mv 29 8,mv 4 29] [4])
 (.ret))
 (.skip))))))))
 (rg [op 30 (.bin .add .int (tm 11) (ci (1))),mv 11 30] [0,1,9,10,11])))

def c79 : ACode :=
 .seq (rg [op 4 (.mov (ci (0)))] [0,1])
 (.seq (.seq (rg [mv 9 0,op 10 (.len .slice (tm 9)),op 11 (.mov (ci (0)))] [0,1,9,10,11])
 (.block 0 (.loop l79_0_h l79_0_b)))
 (.seq (.seq (rg [mv 31 0,op 32 (.len .slice (tm 31)),mv 33 1,op 34 (.len .slice (tm 33)),op 35 (.bin .lss .int (tm 32) (tm 34))] [35])
 (.cond (tm 35) (.seq (rg [op 4 (.mov (ci ((-1))))] [4])
 (.ret))
 (.skip)))
 (.seq (rg [op 4 (.mov (ci (0)))] [4])
 (.ret))))

def a79 : AFunc := ⟨2,c79,[.tmp 4]⟩

def an79 : List RAnn := [
 ra 0 [0,1],ra 1 [0,1,9,10,11],rh 2 [0,1,9,10,11,12] [0,1,9,10,11],ra 3 [0,1,5,6,9,10,11],ra 4 [0,1,5,6,9,10,11,19],ra 5 [4],ra 6 [0,1,6,7,9,10,11],ra 7 [0,1,8,9,10,11],ra 8 [0,1,8,9,10,11,28],ra 9 [4],ra 10 [0,1,9,10,11],ra 11 [35],ra 12 [4],ra 13 [4]]

theorem comp79 : compF Tryz.prog an79 Tryz.f79 = some a79 := by kernel_rfl

/- slices.CompactFunc[[][]int,[]int] -/
/-- loop 0 of function 80 -/
def l80_0_h : List Nat := [0,1,5,6,7]

def l80_0_b : ACode :=
 .seq (.seq (rg [mv 32 7,mv 33 6,op 34 (.len .slice (tm 33)),op 35 (.bin .lss .int (tm 32) (tm 34))] [0,1,5,6,7,35])
 (.cond (tm 35) (.skip)
 (.exit 2)))
 (.seq (.block 3 (.seq (.region (some 12) [] [
 mv 38 1,mv 39 6,mv 40 7,op 41 (.iaddr 1 (tm 39) (tm 40)),op 42 (.load none (tm 41)),mv 43 6,mv 44 7,op 45 (.bin .sub .int (tm 44) (ci (1))),op 46 (.iaddr 1 (tm 43) (tm 45)),op 47 (.load none (tm 46)),op 48 (.callv .pure (tm 38) [(tm 42),(tm 47)]),op 49 (.un .not (tm 48))] [0,1,5,6,7,49] none)
 (.cond (tm 49) (.seq (rg [mv 50 0,mv 51 5,mv 52 6,mv 53 7,op 54 (.iaddr 1 (tm 52) (tm 53)),op 55 (.load none (tm 54)),op 56 (.iaddr 1 (tm 50) (tm 51)),⟨none,.store 1 (tm 56) (tm 55),none⟩] [0,1,5,6,7])
 (rg [mv 57 5,op 58 (.bin .add .int (tm 57) (ci (1))),mv 5 58] [0,1,5,6,7]))
 (.skip))))
 (rg [mv 36 7,op 37 (.bin .add .int (tm 36) (ci (1))),mv 7 37] [0,1,5,6,7]))

/-- loop 1 of function 80 -/
def l80_1_h : List Nat := [0,1,5]

def l80_1_b : ACode :=
 .seq (.seq (rg [mv 12 5,mv 13 0,op 14 (.len .slice (tm 13)),op 15 (.bin .lss .int (tm 12) (tm 14))] [0,1,5,15])
 (.cond (tm 15) (.skip)
 (.exit 0)))
 (.seq (.block 1 (.seq (.region (some 11) [] [
 mv 18 1,mv 19 0,mv 20 5,op 21 (.iaddr 1 (tm 19) (tm 20)),op 22 (.load none (tm 21)),mv 23 0,mv 24 5,op 25 (.bin .sub .int (tm 24) (ci (1))),op 26 (.iaddr 1 (tm 23) (tm 25)),op 27 (.load none (tm 26)),op 28 (.callv .pure (tm 18) [(tm 22),(tm 27)])] [0,1,5,28] none)
 (.cond (tm 28) (.seq (rg [mv 29 0,mv 30 5,op 31 (.slice 1 (tm 29) (some (tm 30)) none),mv 6 31] [0,1,5,6])
 (.seq (.seq (rg [op 7 (.mov (ci (1)))] [0,1,5,6,7])
 (.block 2 (.loop l80_0_h l80_0_b)))
 (.seq (rg [mv 59 0,mv 60 5,op 61 (.slice 1 (tm 59) (some (tm 60)) none),⟨none,.clear 1 (tm 61),none⟩] [0,5])
 (.seq (rg [mv 62 0,mv 63 5,op 64 (.slice 1 (tm 62) none (some (tm 63))),mv 4 64] [4])
 (.ret)))))
 (.skip))))
 (rg [mv 16 5,op 17 (.bin .add .int (tm 16) (ci (1))),mv 5 17] [0,1,5]))

def c80 : ACode :=
 .seq (rg [op 4 (.mov (.cst (.sl false [])))] [0,1])
 (.seq (.seq (rg [mv 8 0,op 9 (.len .slice (tm 8)),op 10 (.bin .lss .int (tm 9) (ci (2)))] [0,1,10])
 (.cond (tm 10) (.seq (rg [mv 11 0,mv 4 11] [4])
 (.ret))
 (.skip)))
 (.seq (.seq (rg [op 5 (.mov (ci (1)))] [0,1,5])
 (.block 0 (.loop l80_1_h l80_1_b)))
 (.seq (rg [mv 65 0,mv 4 65] [4])
 (.ret))))

def a80 : AFunc := ⟨2,c80,[.tmp 4]⟩

def an80 : List RAnn := [
 ra 0 [0,1],ra 1 [0,1,10],ra 2 [4],ra 3 [0,1,5],rh 4 [0,1,5,15] [0,1,5],
 { id := 6,head := some 11,live := [0,1,5,28] },
 ra 7 [0,1,5,6],ra 8 [0,1,5,6,7],rh 9 [0,1,5,6,7,35] [0,1,5,6,7],
 { id := 11,head := some 12,live := [0,1,5,6,7,49] },
 ra 12 [0,1,5,6,7],ra 13 [0,1,5,6,7],ra 10 [0,1,5,6,7],ra 14 [0,5],ra 15 [4],ra 5 [0,1,5],ra 16 [4]]

theorem comp80 : compF Tryz.prog an80 Tryz.f80 = some a80 := by kernel_rfl

/- slices.Equal[[]int,int] -/
/-- loop 0 of function 81 -/
def l81_0_h : List Nat := [0,1,12,13]

def l81_0_b : ACode :=
 .seq (rg [op 14 (.bin .lss .int (tm 13) (tm 12))] [0,1,12,13,14])
 (.seq (.cond (tm 14) (.skip)
 (.exit 0))
 (.seq (.block 1 (.seq (rg [mv 15 13,mv 5 15] [0,1,5,12,13])
 (.seq (.region (some 9) [] [
 mv 16 0,mv 17 5,op 18 (.iaddr 1 (tm 16) (tm 17)),op 19 (.load none (tm 18)),mv 20 1,mv 21 5,op 22 (.iaddr 1 (tm 20) (tm 21)),op 23 (.load none (tm 22)),op 24 (.bin .neq .int (tm 19) (tm 23))] [0,1,12,13,24] none)
 (.cond (tm 24) (.seq (rg [op 4 (.mov (.cst (.bool false)))] [4])
 (.ret))
 (.skip)))))
 (rg [op 25 (.bin .add .int (tm 13) (ci (1))),mv 13 25] [0,1,12,13])))

def c81 : ACode :=
 .seq (rg [op 4 (.mov (.cst (.bool false)))] [0,1])
 (.seq (.seq (rg [mv 6 0,op 7 (.len .slice (tm 6)),mv 8 1,op 9 (.len .slice (tm 8)),op 10 (.bin .neq .int (tm 7) (tm 9))] [0,1,10])
 (.cond (tm 10) (.seq (rg [op 4 (.mov (.cst (.bool false)))] [4])
 (.ret))
 (.skip)))
 (.seq (.seq (rg [mv 11 0,op 12 (.len .slice (tm 11)),op 13 (.mov (ci (0)))] [0,1,12,13])
 (.block 0 (.loop l81_0_h l81_0_b)))
 (.seq (rg [op 4 (.mov (.cst (.bool true)))] [4])
 (.ret))))

def a81 : AFunc := ⟨2,c81,[.tmp 4]⟩

def an81 : List RAnn := [
 ra 0 [0,1],ra 1 [0,1,10],ra 2 [4],ra 3 [0,1,12,13],rh 4 [0,1,12,13,14] [0,1,12,13],ra 5 [0,1,5,12,13],
 { id := 6,head := some 9,live := [0,1,12,13,24] },
 ra 7 [4],ra 8 [0,1,12,13],ra 9 [4]]

theorem comp81 : compF Tryz.prog an81 Tryz.f81 = some a81 := by kernel_rfl

/- graphdb/graphdbref15.texts -/
def c83 : ACode :=
 .seq (rg [op 4 (.mov (ci (0)))] [0,1])
 (.seq (.seq (rg [mv 5 0,mv 6 1,op 7 (.bin .lss .str (tm 5) (tm 6))] [0,1,7])
 (.cond (tm 7) (.seq (rg [op 4 (.mov (ci ((-1))))] [4])
 (.ret))
 (.skip)))
 (.seq (.seq (rg [mv 8 0,mv 9 1,op 10 (.bin .gtr .str (tm 8) (tm 9))] [10])
 (.cond (tm 10) (.seq (rg [op 4 (.mov (ci (1)))] [4])
 (.ret))
 (.skip)))
 (.seq (rg [op 4 (.mov (ci (0)))] [4])
 (.ret))))

def a83 : AFunc := ⟨2,c83,[.tmp 4]⟩

def an83 : List RAnn := [
 ra 0 [0,1],ra 1 [0,1,7],ra 2 [4],ra 3 [10],ra 4 [4],ra 5 [4]]

theorem comp83 : compF Tryz.prog an83 Tryz.f83 = some a83 := by kernel_rfl

/- graphdb/graphdbref04.Order -/
def c84 : ACode :=
 .seq (rg [op 2 (.box 5 (tm 0)),op 3 (.box 5 (tm 1)),op 4 (.mov (ci (0)))] [2,3])
 (.seq (.region (some 6) [] [
 op 12 (.load (some 5) (tm 2)),op 13 (.call .pure 89 [(tm 12)]),op 14 (.load (some 5) (tm 3)),op 15 (.call .pure 89 [(tm 14)]),mv 5 13,mv 6 15] [2,3,5,6] none)
 (.seq (.seq (rg [mv 16 5,mv 17 6,op 18 (.bin .neq .bool (tm 16) (tm 17))] [2,3,5,18])
 (.cond (tm 18) (.seq (rg [mv 19 5,op 20 (.call .pure 91 [(tm 19)]),op 21 (.bin .sub .int (ci (1)) (tm 20)),mv 4 21] [4])
 (.ret))
 (.skip)))
 (.seq (.seq (rg [mv 22 5,op 23 (.un .not (tm 22))] [2,3,23])
 (.cond (tm 23) (.seq (rg [op 24 (.load (some 5) (tm 2)),op 25 (.load (some 5) (tm 3)),op 26 (.call .pure 120 [(tm 24),(tm 25)]),mv 4 26] [4])
 (.ret))
 (.skip)))
 (.seq (.seq (.region (some 8) [] [
 op 27 (.faddr 0 (tm 2)),op 28 (.load none (tm 27)),op 29 (.call .pure 122 [(tm 28)]),op 30 (.faddr 0 (tm 3)),op 31 (.load none (tm 30)),op 32 (.call .pure 122 [(tm 31)]),op 33 (.call .pure 121 [(tm 29),(tm 32)]),mv 7 33] [2,3,7] none)
 (.seq (rg [mv 34 7,op 35 (.bin .neq .int (tm 34) (ci (0)))] [2,3,7,35])
 (.cond (tm 35) (.seq (rg [mv 36 7,mv 4 36] [4])
 (.ret))
 (.skip))))
 (.seq (rg [op 38 (.load (some 5) (tm 2)),op 39 (.call .pure 90 [(tm 38)]),mv 37 39,op 40 (.ext (tm 37) 0),op 41 (.ext (tm 37) 1),op 8 (.alloc 2 (.agg [.int .i64 0,.int .i64 0])),⟨none,.store 2 (tm 8) (tm 40),none⟩,mv 9 41] [2,3,8,9])
 (.seq (rg [op 43 (.load (some 5) (tm 3)),op 44 (.call .pure 90 [(tm 43)]),mv 42 44,op 45 (.ext (tm 42) 0),op 46 (.ext (tm 42) 1),op 10 (.alloc 2 (.agg [.int .i64 0,.int .i64 0])),⟨none,.store 2 (tm 10) (tm 45),none⟩,mv 11 46] [2,3,8,9,10])
 (.seq (.seq (rg [mv 47 9] [2,3,8,10,47])
 (.cond (tm 47) (.seq (rg [op 48 (.load (some 2) (tm 8)),op 49 (.load (some 2) (tm 10)),op 50 (.call .pure 92 [(tm 48),(tm 49)]),mv 4 50] [4])
 (.ret))
 (.skip)))
 (.seq (rg [op 51 (.load (some 5) (tm 2)),op 52 (.load (some 5) (tm 3)),op 53 (.call .pure 120 [(tm 51),(tm 52)]),mv 4 53] [4])
 (.ret)))))))))

def a84 : AFunc := ⟨2,c84,[.tmp 4]⟩

def an84 : List RAnn := [
 ra 0 [2,3],
 { id := 1,head := some 6,live := [2,3,5,6] },
 ra 2 [2,3,5,18],ra 3 [4],ra 4 [2,3,23],ra 5 [4],
 { id := 6,head := some 8,live := [2,3,7] },
 ra 7 [2,3,7,35],ra 8 [4],ra 9 [2,3,8,9],ra 10 [2,3,8,9,10],ra 11 [2,3,8,10,47],ra 12 [4],ra 13 [4]]

theorem comp84 : compF Tryz.prog an84 Tryz.f84 = some a84 := by kernel_rfl

/- slices.pdqsortCmpFunc[graphdb/api.Entry] -/
/-- loop 0 of function 85 -/
def l85_0_h : List Nat := [0,1,2,3,4,10,11]

def l85_0_b : ACode :=
 .block 1 (.seq (rg [mv 21 2,mv 22 1,op 23 (.bin .sub .int (tm 21) (tm 22)),mv 12 23] [0,1,2,3,4,10,11,12])
 (.seq (.seq (rg [mv 24 12,op 25 (.bin .leq .int (tm 24) (ci (12)))] [0,1,2,3,4,10,11,12,25])
 (.cond (tm 25) (.seq (rg [mv 26 0,mv 27 1,mv 28 2,mv 29 4,op 30 (.call .share 123 [(tm 26),(tm 27),(tm 28),(tm 29)])] [])
 (.ret))
 (.skip)))
 (.seq (.seq (rg [mv 31 3,op 32 (.bin .eql .int (tm 31) (ci (0)))] [0,1,2,3,4,10,11,12,32])
 (.cond (tm 32) (.seq (rg [mv 33 0,mv 34 1,mv 35 2,mv 36 4,op 37 (.call .share 124 [(tm 33),(tm 34),(tm 35),(tm 36)])] [])
 (.ret))
 (.skip)))
 (.seq (.seq (rg [mv 38 10,op 39 (.un .not (tm 38))] [0,1,2,3,4,10,11,12,39])
 (.cond (tm 39) (.seq (rg [mv 40 0,mv 41 1,mv 42 2,mv 43 4,op 44 (.call .share 125 [(tm 40),(tm 41),(tm 42),(tm 43)])] [0,1,2,3,4,10,11,12])
 (rg [mv 45 3,op 46 (.bin .sub .int (tm 45) (ci (1))),mv 3 46] [0,1,2,3,4,10,11,12]))
 (.skip)))
 (.seq (rg [mv 48 0,mv 49 1,mv 50 2,mv 51 4,op 52 (.call .share 126 [(tm 48),(tm 49),(tm 50),(tm 51)]),mv 47 52,op 53 (.ext (tm 47) 0),op 54 (.ext (tm 47) 1),mv 13 53,mv 14 54] [0,1,2,3,4,10,11,12,13,14])
 (.seq (.seq (rg [mv 55 14,op 56 (.bin .eql .int (tm 55) (ci (2)))] [0,1,2,3,4,10,11,12,13,14,56])
 (.cond (tm 56) (.seq (rg [mv 57 0,mv 58 1,mv 59 2,mv 60 4,op 61 (.call .share 127 [(tm 57),(tm 58),(tm 59),(tm 60)])] [0,1,2,3,4,10,11,12,13])
 (.seq (rg [mv 62 2,op 63 (.bin .sub .int (tm 62) (ci (1))),mv 64 13,mv 65 1,op 66 (.bin .sub .int (tm 64) (tm 65)),op 67 (.bin .sub .int (tm 63) (tm 66)),mv 13 67] [0,1,2,3,4,10,11,12,13])
 (rg [op 14 (.mov (ci (1)))] [0,1,2,3,4,10,11,12,13,14])))
 (.skip)))
 (.seq (.seq (rg [mv 68 10,mv 69 68,mg 70 11 69 true,op 71 (.pick (tm 69) (tm 70) (.cst (.bool false))),mv 72 71,mg 73 14 72 true,⟨some 74,.bin .eql .int (tm 73) (ci (1)),some (72,true)⟩,op 75 (.pick (tm 72) (tm 74) (.cst (.bool false)))] [0,1,2,3,4,10,11,12,13,75])
 (.cond (tm 75) (.seq (rg [mv 76 0,mv 77 1,mv 78 2,mv 79 4,op 80 (.call .share 128 [(tm 76),(tm 77),(tm 78),(tm 79)])] [0,1,2,3,4,10,11,12,13,80])
 (.cond (tm 80) (.ret)
 (.skip)))
 (.skip)))
 (.seq (.seq (.region (some 17) [] [
 mv 81 1,op 82 (.bin .gtr .int (tm 81) (ci (0))),mv 83 82,mg 84 4 83 true,mg 85 0 83 true,mg 86 1 83 true,⟨some 87,.bin .sub .int (tm 86) (ci (1)),some (83,true)⟩,⟨some 88,.iaddr 8 (tm 85) (tm 87),some (83,true)⟩,⟨some 89,.load (some 8) (tm 88),some (83,true)⟩,mg 90 0 83 true,mg 91 13 83 true,⟨some 92,.iaddr 8 (tm 90) (tm 91),some (83,true)⟩,⟨some 93,.load (some 8) (tm 92),some (83,true)⟩,⟨some 94,.callv .pure (tm 84) [(tm 89),(tm 93)],some (83,true)⟩,⟨some 95,.bin .lss .int (tm 94) (ci (0)),some (83,true)⟩,⟨some 96,.un .not (tm 95),some (83,true)⟩,op 97 (.pick (tm 83) (tm 96) (.cst (.bool false)))] [0,1,2,3,4,10,11,12,13,97] none)
 (.cond (tm 97) (.seq (rg [mv 98 0,mv 99 1,mv 100 2,mv 101 13,mv 102 4,op 103 (.call .share 129 [(tm 98),(tm 99),(tm 100),(tm 101),(tm 102)]),mv 15 103] [0,2,3,4,10,11,15])
 (.seq (rg [mv 104 15,mv 1 104] [0,1,2,3,4,10,11])
 (.exit 1)))
 (.skip)))
 (.seq (rg [mv 106 0,mv 107 1,mv 108 2,mv 109 13,mv 110 4,op 111 (.call .share 130 [(tm 106),(tm 107),(tm 108),(tm 109),(tm 110)]),mv 105 111,op 112 (.ext (tm 105) 0),op 113 (.ext (tm 105) 1),mv 16 112,mv 17 113] [0,1,2,3,4,12,16,17])
 (.seq (rg [mv 114 17,mv 11 114] [0,1,2,3,4,11,12,16])
 (.seq (rg [mv 115 16,mv 116 1,op 117 (.bin .sub .int (tm 115) (tm 116)),mv 118 2,mv 119 16,op 120 (.bin .sub .int (tm 118) (tm 119)),mv 18 117,mv 19 120] [0,1,2,3,4,11,12,16,18,19])
 (.seq (rg [mv 121 12,op 122 (.bin .quo .int (tm 121) (ci (8))),mv 20 122] [0,1,2,3,4,11,16,18,19,20])
 (.seq (rg [mv 123 18,mv 124 19,op 125 (.bin .lss .int (tm 123) (tm 124))] [0,1,2,3,4,11,16,18,19,20,125])
 (.cond (tm 125) (.seq (rg [mv 126 18,mv 127 20,op 128 (.bin .geq .int (tm 126) (tm 127)),mv 10 128] [0,1,2,3,4,10,11,16])
 (.seq (rg [mv 129 0,mv 130 1,mv 131 16,mv 132 3,mv 133 4,op 134 (.call .share 85 [(tm 129),(tm 130),(tm 131),(tm 132),(tm 133)])] [0,2,3,4,10,11,16])
 (rg [mv 135 16,op 136 (.bin .add .int (tm 135) (ci (1))),mv 1 136] [0,1,2,3,4,10,11])))
 (.seq (rg [mv 137 19,mv 138 20,op 139 (.bin .geq .int (tm 137) (tm 138)),mv 10 139] [0,1,2,3,4,10,11,16])
 (.seq (rg [mv 140 0,mv 141 16,op 142 (.bin .add .int (tm 141) (ci (1))),mv 143 2,mv 144 3,mv 145 4,op 146 (.call .share 85 [(tm 140),(tm 142),(tm 143),(tm 144),(tm 145)])] [0,1,3,4,10,11,16])
 (rg [mv 147 16,mv 2 147] [0,1,2,3,4,10,11])))))))))))))))))

def c85 : ACode :=
 .seq (rg [op 10 (.mov (.cst (.bool true)))] [0,1,2,3,4,10])
 (.seq (rg [op 11 (.mov (.cst (.bool true)))] [0,1,2,3,4,10,11])
 (.block 0 (.loop l85_0_h l85_0_b)))

def a85 : AFunc := ⟨5,c85,[]⟩

def an85 : List RAnn := [
 ra 0 [0,1,2,3,4,10],ra 1 [0,1,2,3,4,10,11],rh 2 [0,1,2,3,4,10,11,12] [0,1,2,3,4,10,11],ra 3 [0,1,2,3,4,10,11,12,25],
 { id := 4,ops := [(4,.mode .share)] },
 ra 5 [0,1,2,3,4,10,11,12,32],
 { id := 6,ops := [(4,.mode .share)] },
 ra 7 [0,1,2,3,4,10,11,12,39],
 { id := 8,live := [0,1,2,3,4,10,11,12],ops := [(4,.mode .share)] },
 ra 9 [0,1,2,3,4,10,11,12],
 { id := 10,live := [0,1,2,3,4,10,11,12,13,14],ops := [(4,.mode .share)] },
 ra 11 [0,1,2,3,4,10,11,12,13,14,56],
 { id := 12,live := [0,1,2,3,4,10,11,12,13],ops := [(4,.mode .share)] },
 ra 13 [0,1,2,3,4,10,11,12,13],ra 14 [0,1,2,3,4,10,11,12,13,14],ra 15 [0,1,2,3,4,10,11,12,13,75],
 { id := 16,live := [0,1,2,3,4,10,11,12,13,80],ops := [(4,.mode .share)] },
 { id := 17,head := some 17,live := [0,1,2,3,4,10,11,12,13,97] },
 { id := 18,live := [0,2,3,4,10,11,15],ops := [(5,.mode .share)] },
 ra 19 [0,1,2,3,4,10,11],
 { id := 20,live := [0,1,2,3,4,12,16,17],ops := [(5,.mode .share)] },
 ra 21 [0,1,2,3,4,11,12,16],ra 22 [0,1,2,3,4,11,12,16,18,19],ra 23 [0,1,2,3,4,11,16,18,19,20],ra 24 [0,1,2,3,4,11,16,18,19,20,125],ra 25 [0,1,2,3,4,10,11,16],
 { id := 26,live := [0,2,3,4,10,11,16],ops := [(5,.mode .share)] },
 ra 27 [0,1,2,3,4,10,11],ra 28 [0,1,2,3,4,10,11,16],
 { id := 29,live := [0,1,3,4,10,11,16],ops := [(6,.mode .share)] },
 ra 30 [0,1,2,3,4,10,11]]

theorem comp85 : compF Tryz.prog an85 Tryz.f85 = some a85 := by kernel_rfl

/- math/bits.Len -/
def c86 : ACode :=
 .seq (rg [op 2 (.mov (ci (0)))] [0])
 (.seq (.cond (.cst (.bool false)) (.seq (rg [mv 3 0,op 4 (.conv .u32 (tm 3)),op 5 (.call .pure 131 [(tm 4)]),mv 2 5] [2])
 (.ret))
 (.skip))
 (.seq (rg [mv 6 0,op 7 (.call .pure 132 [(tm 6)]),mv 2 7] [2])
 (.ret)))

def a86 : AFunc := ⟨1,c86,[.tmp 2]⟩

def an86 : List RAnn := [
 ra 0 [0],ra 1 [2],ra 2 [2]]

theorem comp86 : compF Tryz.prog an86 Tryz.f86 = some a86 := by kernel_rfl

/- slices.Sort[[]int,int] -/
def c87 : ACode :=
 .seq (rg [mv 3 0,op 4 (.len .slice (tm 3)),mv 2 4] [0,2])
 (rg [mv 5 0,mv 6 2,mv 7 2,op 8 (.conv .u64 (tm 7)),op 9 (.call .pure 86 [(tm 8)]),op 10 (.call .share 133 [(tm 5),(ci (0)),(tm 6),(tm 9)])] [])

def a87 : AFunc := ⟨1,c87,[]⟩

def an87 : List RAnn := [
 ra 0 [0,2],
 { id := 1,ops := [(5,.mode .share)] }]

theorem comp87 : compF Tryz.prog an87 Tryz.f87 = some a87 := by kernel_rfl

/- slices.Compact[[]int,int] -/
/-- loop 0 of function 88 -/
def l88_0_h : List Nat := [0,3,4,5]

def l88_0_b : ACode :=
 .seq (.seq (rg [mv 29 5,mv 30 4,op 31 (.len .slice (tm 30)),op 32 (.bin .lss .int (tm 29) (tm 31))] [0,3,4,5,32])
 (.cond (tm 32) (.skip)
 (.exit 2)))
 (.seq (.block 3 (.seq (.region (some 10) [] [
 mv 35 4,mv 36 5,op 37 (.iaddr 1 (tm 35) (tm 36)),op 38 (.load none (tm 37)),mv 39 4,mv 40 5,op 41 (.bin .sub .int (tm 40) (ci (1))),op 42 (.iaddr 1 (tm 39) (tm 41)),op 43 (.load none (tm 42)),op 44 (.bin .neq .int (tm 38) (tm 43))] [0,3,4,5,44] none)
 (.cond (tm 44) (.seq (rg [mv 45 0,mv 46 3,mv 47 4,mv 48 5,op 49 (.iaddr 1 (tm 47) (tm 48)),op 50 (.load none (tm 49)),op 51 (.iaddr 1 (tm 45) (tm 46)),⟨none,.store 1 (tm 51) (tm 50),none⟩] [0,3,4,5])
 (rg [mv 52 3,op 53 (.bin .add .int (tm 52) (ci (1))),mv 3 53] [0,3,4,5]))
 (.skip))))
 (rg [mv 33 5,op 34 (.bin .add .int (tm 33) (ci (1))),mv 5 34] [0,3,4,5]))

/-- loop 1 of function 88 -/
def l88_1_h : List Nat := [0,3]

def l88_1_b : ACode :=
 .seq (.seq (rg [mv 10 3,mv 11 0,op 12 (.len .slice (tm 11)),op 13 (.bin .lss .int (tm 10) (tm 12))] [0,3,13])
 (.cond (tm 13) (.skip)
 (.exit 0)))
 (.seq (.block 1 (.seq (.region (some 10) [] [
 mv 16 0,mv 17 3,op 18 (.iaddr 1 (tm 16) (tm 17)),op 19 (.load none (tm 18)),mv 20 0,mv 21 3,op 22 (.bin .sub .int (tm 21) (ci (1))),op 23 (.iaddr 1 (tm 20) (tm 22)),op 24 (.load none (tm 23)),op 25 (.bin .eql .int (tm 19) (tm 24))] [0,3,25] none)
 (.cond (tm 25) (.seq (rg [mv 26 0,mv 27 3,op 28 (.slice 1 (tm 26) (some (tm 27)) none),mv 4 28] [0,3,4])
 (.seq (.seq (rg [op 5 (.mov (ci (1)))] [0,3,4,5])
 (.block 2 (.loop l88_0_h l88_0_b)))
 (.seq (rg [mv 54 0,mv 55 3,op 56 (.slice 1 (tm 54) (some (tm 55)) none),⟨none,.clear 1 (tm 56),none⟩] [0,3])
 (.seq (rg [mv 57 0,mv 58 3,op 59 (.slice 1 (tm 57) none (some (tm 58))),mv 2 59] [2])
 (.ret)))))
 (.skip))))
 (rg [mv 14 3,op 15 (.bin .add .int (tm 14) (ci (1))),mv 3 15] [0,3]))

def c88 : ACode :=
 .seq (rg [op 2 (.mov (.cst (.sl false [])))] [0])
 (.seq (.seq (rg [mv 6 0,op 7 (.len .slice (tm 6)),op 8 (.bin .lss .int (tm 7) (ci (2)))] [0,8])
 (.cond (tm 8) (.seq (rg [mv 9 0,mv 2 9] [2])
 (.ret))
 (.skip)))
 (.seq (.seq (rg [op 3 (.mov (ci (1)))] [0,3])
 (.block 0 (.loop l88_1_h l88_1_b)))
 (.seq (rg [mv 60 0,mv 2 60] [2])
 (.ret))))

def a88 : AFunc := ⟨1,c88,[.tmp 2]⟩

def an88 : List RAnn := [
 ra 0 [0],ra 1 [0,8],ra 2 [2],ra 3 [0,3],rh 4 [0,3,13] [0,3],
 { id := 6,head := some 10,live := [0,3,25] },
 ra 7 [0,3,4],ra 8 [0,3,4,5],rh 9 [0,3,4,5,32] [0,3,4,5],
 { id := 11,head := some 10,live := [0,3,4,5,44] },
 ra 12 [0,3,4,5],ra 13 [0,3,4,5],ra 10 [0,3,4,5],ra 14 [0,3],ra 15 [2],ra 5 [0,3],ra 16 [2]]

theorem comp88 : compF Tryz.prog an88 Tryz.f88 = some a88 := by kernel_rfl

/- graphdb/graphdbref04.Valid -/
def c89 : ACode :=
 .seq (rg [op 1 (.box 5 (tm 0)),op 2 (.mov (.cst (.bool false)))] [1])
 (.seq (rg [op 3 (.load (some 5) (tm 1)),op 4 (.call .pure 134 [(tm 3),(ci (8))]),mv 2 4] [2])
 (.ret))

def a89 : AFunc := ⟨1,c89,[.tmp 2]⟩

def an89 : List RAnn := [
 ra 0 [1],ra 1 [2]]

theorem comp89 : compF Tryz.prog an89 Tryz.f89 = some a89 := by kernel_rfl

/- graphdb/graphdbref04.Number -/
def c90 : ACode :=
 .seq (rg [op 1 (.box 5 (tm 0)),op 2 (.alloc 2 (.agg [.int .i64 0,.int .i64 0])),op 3 (.mov (.cst (.bool false)))] [1,2])
 (.seq (.seq (rg [op 4 (.load (some 5) (tm 1)),op 5 (.call .pure 89 [(tm 4)]),op 6 (.un .not (tm 5))] [1,2,6])
 (.cond (tm 6) (.seq (rg [op 7 (.build [.int .i64 0,.int .i64 0] []),⟨none,.store 2 (tm 2) (tm 7),none⟩,op 3 (.mov (.cst (.bool false)))] [2,3])
 (.ret))
 (.skip)))
 (.seq (.seq (rg [op 8 (.faddr 0 (tm 1)),op 9 (.load none (tm 8)),op 10 (.bin .eql .int (tm 9) (ci (2)))] [1,2,10])
 (.cond (tm 10) (.seq (rg [op 11 (.faddr 1 (tm 1)),op 12 (.load none (tm 11)),op 13 (.build [.int .i64 0,.int .i64 0] [(0,1,(tm 12)),(1,1,(ci (1)))]),⟨none,.store 2 (tm 2) (tm 13),none⟩,op 3 (.mov (.cst (.bool true)))] [2,3])
 (.ret))
 (.skip)))
 (.seq (.seq (rg [op 14 (.faddr 0 (tm 1)),op 15 (.load none (tm 14)),op 16 (.bin .eql .int (tm 15) (ci (3)))] [1,2,16])
 (.cond (tm 16) (.seq (rg [op 17 (.faddr 1 (tm 1)),op 18 (.load none (tm 17)),op 19 (.faddr 2 (tm 1)),op 20 (.load none (tm 19)),op 21 (.build [.int .i64 0,.int .i64 0] [(0,1,(tm 18)),(1,1,(tm 20))]),⟨none,.store 2 (tm 2) (tm 21),none⟩,op 3 (.mov (.cst (.bool true)))] [2,3])
 (.ret))
 (.skip)))
 (.seq (rg [op 22 (.build [.int .i64 0,.int .i64 0] []),⟨none,.store 2 (tm 2) (tm 22),none⟩,op 3 (.mov (.cst (.bool false)))] [2,3])
 (.ret)))))

def a90 : AFunc := ⟨1,c90,[.cell 2 (some 2),.tmp 3]⟩

def an90 : List RAnn := [
 ra 0 [1,2],ra 1 [1,2,6],ra 2 [2,3],ra 3 [1,2,10],ra 4 [2,3],ra 5 [1,2,16],ra 6 [2,3],ra 7 [2,3]]

theorem comp90 : compF Tryz.prog an90 Tryz.f90 = some a90 := by kernel_rfl

/- graphdb/graphdbref03.Cmp -/
def c92 : ACode :=
 .seq (rg [op 2 (.box 2 (tm 0)),op 3 (.box 2 (tm 1)),op 4 (.mov (ci (0)))] [2,3])
 (.seq (.seq (rg [op 7 (.load (some 2) (tm 2)),op 8 (.call .pure 135 [(tm 7)]),op 9 (.un .not (tm 8))] [2,3,9])
 (.cond (tm 9) (rg [op 10 (.build [.int .i64 0,.int .i64 0] [(1,1,(ci (1)))]),⟨none,.store 2 (tm 2) (tm 10),none⟩] [2,3])
 (.skip)))
 (.seq (.seq (rg [op 11 (.load (some 2) (tm 3)),op 12 (.call .pure 135 [(tm 11)]),op 13 (.un .not (tm 12))] [2,3,13])
 (.cond (tm 13) (rg [op 14 (.build [.int .i64 0,.int .i64 0] [(1,1,(ci (1)))]),⟨none,.store 2 (tm 3) (tm 14),none⟩] [2,3])
 (.skip)))
 (.seq (.region (some 25) [] [
 op 16 (.faddr 0 (tm 2)),op 17 (.load none (tm 16)),op 18 (.call .pure 137 [(tm 17)]),op 19 (.faddr 0 (tm 2)),op 20 (.load none (tm 19)),op 21 (.call .pure 139 [(tm 20)]),op 22 (.faddr 1 (tm 3)),op 23 (.load none (tm 22)),op 24 (.call .pure 138 [(tm 21),(tm 23)]),op 25 (.faddr 0 (tm 3)),op 26 (.load none (tm 25)),op 27 (.call .pure 137 [(tm 26)]),op 28 (.un .neg (tm 27)),op 29 (.faddr 0 (tm 3)),op 30 (.load none (tm 29)),op 31 (.call .pure 139 [(tm 30)]),op 32 (.faddr 1 (tm 2)),op 33 (.load none (tm 32)),op 34 (.call .pure 138 [(tm 31),(tm 33)]),op 35 (.call .pure 136 [(tm 18),(tm 24),(tm 28),(tm 34)]),mv 15 35,op 36 (.ext (tm 15) 0),op 37 (.ext (tm 15) 1),mv 5 36,mv 6 37] [5] none)
 (.seq (rg [mv 38 5,mv 4 38] [4])
 (.ret)))))

def a92 : AFunc := ⟨2,c92,[.tmp 4]⟩

def an92 : List RAnn := [
 ra 0 [2,3],ra 1 [2,3,9],ra 2 [2,3],ra 3 [2,3,13],ra 4 [2,3],
 { id := 5,head := some 25,live := [5] },
 ra 6 [4]]

theorem comp92 : compF Tryz.prog an92 Tryz.f92 = some a92 := by kernel_rfl

/- cmp.isNaN[string] -/
def c96 : ACode :=
 .seq (rg [op 2 (.mov (.cst (.bool false)))] [0])
 (.seq (rg [mv 3 0,mv 4 0,op 5 (.bin .neq .str (tm 3) (tm 4)),mv 2 5] [2])
 (.ret))

def a96 : AFunc := ⟨1,c96,[.tmp 2]⟩

def an96 : List RAnn := [
 ra 0 [0],ra 1 [2]]

theorem comp96 : compF Tryz.prog an96 Tryz.f96 = some a96 := by kernel_rfl

/- cmp.isNaN[int] -/
def c97 : ACode :=
 .seq (rg [op 2 (.mov (.cst (.bool false)))] [0])
 (.seq (rg [mv 3 0,mv 4 0,op 5 (.bin .neq .int (tm 3) (tm 4)),mv 2 5] [2])
 (.ret))

def a97 : AFunc := ⟨1,c97,[.tmp 2]⟩

def an97 : List RAnn := [
 ra 0 [0],ra 1 [2]]

theorem comp97 : compF Tryz.prog an97 Tryz.f97 = some a97 := by kernel_rfl

/- graphdb/value.valid -/
/-- loop 0 of function 98 -/
def l98_0_h : List Nat := [1,120,121,122]

def l98_0_b : ACode :=
 .seq (rg [op 123 (.bin .lss .int (tm 122) (tm 121))] [1,120,121,122,123])
 (.seq (.cond (tm 123) (.skip)
 (.exit 1))
 (.seq (.block 2 (.seq (rg [op 124 (.iaddr 5 (tm 120) (tm 122)),op 125 (.load (some 5) (tm 124)),op 6 (.alloc 5 (.agg [.int .i64 0,.int .i64 0,.int .i64 0,.str [],.sl false []])),⟨none,.store 5 (tm 6) (tm 125),none⟩] [1,6,120,121,122])
 (.seq (rg [op 126 (.load (some 5) (tm 6)),mv 127 1,op 128 (.bin .add .int (tm 127) (ci (1))),op 129 (.call .pure 98 [(tm 126),(tm 128)]),op 130 (.un .not (tm 129))] [1,120,121,122,130])
 (.cond (tm 130) (.seq (rg [op 4 (.mov (.cst (.bool false)))] [4])
 (.ret))
 (.skip)))))
 (.region none [] [op 131 (.bin .add .int (tm 122) (ci (1))),mv 122 131] [1,120,121,122] (some 1))))

def c98 : ACode :=
 .seq (rg [op 2 (.box 5 (tm 0)),op 4 (.mov (.cst (.bool false)))] [1,2])
 (.seq (.seq (rg [op 7 (.faddr 0 (tm 2)),op 8 (.load none (tm 7)),op 9 (.bin .neq .int (tm 8) (ci (3))),mv 10 9,⟨some 11,.faddr 2 (tm 2),some (10,true)⟩,⟨some 12,.load none (tm 11),some (10,true)⟩,⟨some 13,.bin .neq .int (tm 12) (ci (0)),some (10,true)⟩,op 14 (.pick (tm 10) (tm 13) (.cst (.bool false))),mv 15 14,⟨some 16,.faddr 0 (tm 2),some (15,false)⟩,⟨some 17,.load none (tm 16),some (15,false)⟩,⟨some 18,.bin .neq .int (tm 17) (ci (4)),some (15,false)⟩,mg 19 18 15 false,⟨some 20,.faddr 3 (tm 2),some (19,true)⟩,⟨some 21,.load none (tm 20),some (19,true)⟩,⟨some 22,.bin .neq .str (tm 21) (.cst (.str [])),some (19,true)⟩,⟨some 23,.pick (tm 19) (tm 22) (.cst (.bool false)),some (15,false)⟩,op 24 (.pick (tm 15) (.cst (.bool true)) (tm 23)),mv 25 24,⟨some 26,.faddr 0 (tm 2),some (25,false)⟩,⟨some 27,.load none (tm 26),some (25,false)⟩,⟨some 28,.bin .neq .int (tm 27) (ci (8)),some (25,false)⟩,mg 29 28 25 false,⟨some 30,.faddr 0 (tm 2),some (29,true)⟩,⟨some 31,.load none (tm 30),some (29,true)⟩,⟨some 32,.bin .neq .int (tm 31) (ci (7)),some (29,true)⟩,⟨some 33,.pick (tm 29) (tm 32) (.cst (.bool false)),some (25,false)⟩,mg 34 33 25 false,⟨some 35,.faddr 4 (tm 2),some (34,true)⟩,⟨some 36,.load none (tm 35),some (34,true)⟩,⟨some 37,.len .slice (tm 36),some (34,true)⟩,⟨some 38,.bin .gtr .int (tm 37) (ci (0)),some (34,true)⟩,⟨some 39,.pick (tm 34) (tm 38) (.cst (.bool false)),some (25,false)⟩,op 40 (.pick (tm 25) (.cst (.bool true)) (tm 39))] [1,2,40])
 (.cond (tm 40) (.seq (rg [op 4 (.mov (.cst (.bool false)))] [4])
 (.ret))
 (.skip)))
 (.seq (.seq (rg [op 41 (.faddr 0 (tm 2)),op 42 (.load none (tm 41))] [1,2,42])
 (.block 0 (.seq (rg [op 44 (.bin .eql .int (tm 42) (ci (0))),mv 43 44] [1,2,42,43])
 (.cond (tm 43) (.seq (rg [op 45 (.faddr 1 (tm 2)),op 46 (.load none (tm 45)),op 47 (.bin .eql .int (tm 46) (ci (0))),mv 4 47] [4])
 (.ret))
 (.seq (rg [op 49 (.bin .eql .int (tm 42) (ci (1))),mv 48 49] [1,2,42,48])
 (.cond (tm 48) (.seq (rg [op 50 (.faddr 1 (tm 2)),op 51 (.load none (tm 50)),op 52 (.bin .eql .int (tm 51) (ci (0))),mv 53 52,⟨some 54,.faddr 1 (tm 2),some (53,false)⟩,⟨some 55,.load none (tm 54),some (53,false)⟩,⟨some 56,.bin .eql .int (tm 55) (ci (1)),some (53,false)⟩,op 57 (.pick (tm 53) (.cst (.bool true)) (tm 56)),mv 4 57] [4])
 (.ret))
 (.seq (rg [op 59 (.bin .eql .int (tm 42) (ci (2))),mv 58 59] [1,2,42,58])
 (.cond (tm 58) (.seq (rg [op 60 (.faddr 1 (tm 2)),op 61 (.load none (tm 60)),op 62 (.call .pure 147 [(tm 61)]),mv 4 62] [4])
 (.ret))
 (.seq (rg [op 64 (.bin .eql .int (tm 42) (ci (3))),mv 63 64] [1,2,42,63])
 (.cond (tm 63) (.seq (rg [op 65 (.faddr 2 (tm 2)),op 66 (.load none (tm 65)),op 67 (.bin .geq .int (tm 66) (ci (2))),mv 68 67,⟨some 69,.faddr 1 (tm 2),some (68,true)⟩,⟨some 70,.load none (tm 69),some (68,true)⟩,⟨some 71,.faddr 2 (tm 2),some (68,true)⟩,⟨some 72,.load none (tm 71),some (68,true)⟩,⟨some 73,.build [.int .i64 0,.int .i64 0] [(0,1,(tm 70)),(1,1,(tm 72))],some (68,true)⟩,⟨some 74,.call .pure 112 [(tm 73)],some (68,true)⟩,op 75 (.pick (tm 68) (tm 74) (.cst (.bool false))),mv 4 75] [4])
 (.ret))
 (.seq (rg [op 77 (.bin .eql .int (tm 42) (ci (4))),mv 76 77] [1,2,42,76])
 (.cond (tm 76) (.seq (rg [op 78 (.faddr 1 (tm 2)),op 79 (.load none (tm 78)),op 80 (.bin .eql .int (tm 79) (ci (0))),mv 81 80,⟨some 82,.faddr 3 (tm 2),some (81,true)⟩,⟨some 83,.load none (tm 82),some (81,true)⟩,⟨some 84,.len .str (tm 83),some (81,true)⟩,⟨some 85,.bin .leq .int (tm 84) (ci (100)),some (81,true)⟩,op 86 (.pick (tm 81) (tm 85) (.cst (.bool false))),mv 87 86,⟨some 88,.faddr 3 (tm 2),some (87,true)⟩,⟨some 89,.load none (tm 88),some (87,true)⟩,⟨some 90,.call .pure 148 [(tm 89),(.cst (.fn 149 []))],some (87,true)⟩,⟨some 91,.bin .lss .int (tm 90) (ci (0)),some (87,true)⟩,op 92 (.pick (tm 87) (tm 91) (.cst (.bool false))),mv 4 92] [4])
 (.ret))
 (.seq (.seq (rg [op 94 (.bin .eql .int (tm 42) (ci (5))),mv 93 94] [1,2,42,93])
 (.cond (tm 93) (.skip)
 (rg [op 95 (.bin .eql .int (tm 42) (ci (6))),mv 93 95] [1,2,42,93])))
 (.cond (tm 93) (.seq (rg [op 96 (.faddr 1 (tm 2)),op 97 (.load none (tm 96)),op 98 (.bin .geq .int (tm 97) (ci (1))),mv 99 98,⟨some 100,.faddr 1 (tm 2),some (99,true)⟩,⟨some 101,.load none (tm 100),some (99,true)⟩,⟨some 102,.bin .leq .int (tm 101) (ci (1000000)),some (99,true)⟩,op 103 (.pick (tm 99) (tm 102) (.cst (.bool false))),mv 4 103] [4])
 (.ret))
 (.seq (rg [op 105 (.bin .eql .int (tm 42) (ci (8))),mv 104 105] [1,2,42,104])
 (.cond (tm 104) (.seq (.seq (rg [op 106 (.faddr 1 (tm 2)),op 107 (.load none (tm 106)),op 108 (.bin .neq .int (tm 107) (ci (0))),mv 109 108,⟨some 110,.faddr 4 (tm 2),some (109,false)⟩,⟨some 111,.load none (tm 110),some (109,false)⟩,⟨some 112,.len .slice (tm 111),some (109,false)⟩,⟨some 113,.bin .gtr .int (tm 112) (ci (64)),some (109,false)⟩,op 114 (.pick (tm 109) (.cst (.bool true)) (tm 113)),mv 115 114,mg 116 1 115 false,⟨some 117,.bin .geq .int (tm 116) (ci (8)),some (115,false)⟩,op 118 (.pick (tm 115) (.cst (.bool true)) (tm 117))] [1,2,118])
 (.cond (tm 118) (.seq (rg [op 4 (.mov (.cst (.bool false)))] [4])
 (.ret))
 (.skip)))
 (.seq (.seq (rg [op 119 (.faddr 4 (tm 2)),op 120 (.load none (tm 119)),op 121 (.len .slice (tm 120)),op 122 (.mov (ci (0)))] [1,120,121,122])
 (.block 1 (.loop l98_0_h l98_0_b)))
 (.seq (rg [op 4 (.mov (.cst (.bool true)))] [4])
 (.ret))))
 (.seq (rg [op 133 (.bin .eql .int (tm 42) (ci (7))),mv 132 133] [2,132])
 (.cond (tm 132) (.seq (rg [op 134 (.faddr 1 (tm 2)),op 135 (.load none (tm 134)),op 136 (.bin .eql .int (tm 135) (ci (0))),mv 137 136,⟨some 138,.faddr 4 (tm 2),some (137,true)⟩,⟨some 139,.load none (tm 138),some (137,true)⟩,⟨some 140,.call .pure 150 [(tm 139)],some (137,true)⟩,op 141 (.pick (tm 137) (tm 140) (.cst (.bool false))),mv 4 141] [4])
 (.ret))
 (.skip)))))))))))))))))))
 (.seq (rg [op 4 (.mov (.cst (.bool false)))] [4])
 (.ret))))

def a98 : AFunc := ⟨2,c98,[.tmp 4]⟩

def an98 : List RAnn := [
 ra 0 [1,2],ra 1 [1,2,40],ra 2 [4],ra 3 [1,2,42],ra 4 [1,2,42,43],ra 5 [4],ra 6 [1,2,42,48],ra 7 [4],ra 8 [1,2,42,58],ra 9 [4],ra 10 [1,2,42,63],ra 11 [4],ra 12 [1,2,42,76],ra 13 [4],ra 14 [1,2,42,93],ra 15 [1,2,42,93],ra 16 [4],ra 17 [1,2,42,104],ra 18 [1,2,118],ra 19 [4],ra 20 [1,120,121,122],rh 21 [1,120,121,122,123] [1,120,121,122],ra 22 [1,6,120,121,122],ra 23 [1,120,121,122,130],ra 24 [4],
 { id := 25,live := [1,120,121,122],trunc := some 1 },
 ra 26 [4],ra 27 [2,132],ra 28 [4],ra 29 [4]]

theorem comp98 : compF Tryz.prog an98 Tryz.f98 = some a98 := by kernel_rfl

/- graphdb/value.class -/
def c99 : ACode :=
 .seq (rg [op 1 (.box 5 (tm 0)),op 2 (.mov (ci (0)))] [1])
 (.seq (.seq (rg [op 3 (.faddr 0 (tm 1)),op 4 (.load none (tm 3))] [1,4])
 (.block 0 (.seq (rg [op 6 (.bin .eql .int (tm 4) (ci (3))),mv 5 6] [1,4,5])
 (.cond (tm 5) (.seq (rg [op 2 (.mov (ci (2)))] [2])
 (.ret))
 (.seq (rg [op 8 (.bin .eql .int (tm 4) (ci (7))),mv 7 8] [1,7])
 (.cond (tm 7) (.seq (rg [op 2 (.mov (ci (9)))] [2])
 (.ret))
 (.skip)))))))
 (.seq (rg [op 9 (.faddr 0 (tm 1)),op 10 (.load none (tm 9)),mv 2 10] [2])
 (.ret)))

def a99 : AFunc := ⟨1,c99,[.tmp 2]⟩

def an99 : List RAnn := [
 ra 0 [1],ra 1 [1,4],ra 2 [1,4,5],ra 3 [2],ra 4 [1,7],ra 5 [2],ra 6 [2]]

theorem comp99 : compF Tryz.prog an99 Tryz.f99 = some a99 := by kernel_rfl

/- graphdb/change.copied -/
/-- loop 0 of function 100 -/
def l100_0_h : List Nat := [1,2,3,14,15,16]

def l100_0_b : ACode :=
 .seq (rg [op 17 (.bin .lss .int (tm 16) (tm 15))] [1,2,3,14,15,16,17])
 (.seq (.cond (tm 17) (.skip)
 (.exit 0))
 (.seq (.block 1 (.seq (rg [mv 18 16,op 19 (.iaddr 3 (tm 14) (tm 16)),op 20 (.load (some 3) (tm 19)),op 5 (.alloc 3 (.agg [.int .i64 0,.sl false [],.sl false []])),mv 4 18,⟨none,.store 3 (tm 5) (tm 20),none⟩] [1,2,3,4,5,14,15,16])
 (.seq (.par 9 [(1,5)] [] [
 op 21 (.faddr 0 (tm 3)),op 22 (.load none (tm 21)),mv 23 4,op 24 (.faddr 1 (tm 5)),op 25 (.load none (tm 24)),op 26 (.call .own 152 [(tm 25)]),op 27 (.iaddr 3 (tm 22) (tm 23)),op 28 (.faddr 1 (tm 27)),⟨none,.store 1 (tm 28) (tm 26),none⟩] [1,2,3,4,5,14,15,16] none)
 (.par 9 [(1,5)] [] [
 op 29 (.faddr 0 (tm 3)),op 30 (.load none (tm 29)),mv 31 4,op 32 (.faddr 2 (tm 5)),op 33 (.load none (tm 32)),op 34 (.call .own 153 [(tm 33)]),op 35 (.iaddr 3 (tm 30) (tm 31)),op 36 (.faddr 2 (tm 35)),⟨none,.store 1 (tm 36) (tm 34),none⟩] [1,2,3,14,15,16] none))))
 (rg [op 37 (.bin .add .int (tm 16) (ci (1))),mv 16 37] [1,2,3,14,15,16])))

/-- loop 1 of function 100 -/
def l100_1_h : List Nat := [2,3,43,44,45]

def l100_1_b : ACode :=
 .seq (rg [op 46 (.bin .lss .int (tm 45) (tm 44))] [2,3,43,44,45,46])
 (.seq (.cond (tm 46) (.skip)
 (.exit 2))
 (.seq (.block 3 (.seq (rg [mv 47 45,op 48 (.iaddr 5 (tm 43) (tm 45)),op 49 (.load (some 5) (tm 48)),op 7 (.alloc 5 (.agg [.int .i64 0,.int .i64 0,.int .i64 0,.str [],.sl false []])),mv 6 47,⟨none,.store 5 (tm 7) (tm 49),none⟩] [2,3,6,7,43,44,45])
 (.par 9 [(1,5)] [] [
 op 50 (.faddr 1 (tm 3)),op 51 (.load none (tm 50)),mv 52 6,op 53 (.faddr 4 (tm 7)),op 54 (.load none (tm 53)),op 55 (.call .own 153 [(tm 54)]),op 56 (.iaddr 5 (tm 51) (tm 52)),op 57 (.faddr 4 (tm 56)),⟨none,.store 1 (tm 57) (tm 55),none⟩] [2,3,43,44,45] none)))
 (rg [op 58 (.bin .add .int (tm 45) (ci (1))),mv 45 58] [2,3,43,44,45])))

def c100 : ACode :=
 .seq (rg [op 1 (.box 4 (tm 0)),op 2 (.alloc 4 (.agg [.sl false [],.sl false [],.int .i64 0,.int .i64 0]))] [1,2])
 (.seq (rg [op 8 (.load (some 4) (tm 1)),op 3 (.alloc 4 (.agg [.sl false [],.sl false [],.int .i64 0,.int .i64 0])),⟨none,.store 4 (tm 3) (tm 8),none⟩] [1,2,3])
 (.seq (rg [op 9 (.faddr 0 (tm 1)),op 10 (.load none (tm 9)),op 11 (.call .own 151 [(tm 10)]),op 12 (.faddr 0 (tm 3)),⟨none,.store 1 (tm 12) (tm 11),none⟩] [1,2,3])
 (.seq (.seq (rg [op 13 (.faddr 0 (tm 3)),op 14 (.load none (tm 13)),op 15 (.len .slice (tm 14)),op 16 (.mov (ci (0)))] [1,2,3,14,15,16])
 (.block 0 (.loop l100_0_h l100_0_b)))
 (.seq (rg [op 38 (.faddr 1 (tm 1)),op 39 (.load none (tm 38)),op 40 (.call .own 154 [(tm 39)]),op 41 (.faddr 1 (tm 3)),⟨none,.store 1 (tm 41) (tm 40),none⟩] [2,3])
 (.seq (.seq (rg [op 42 (.faddr 1 (tm 3)),op 43 (.load none (tm 42)),op 44 (.len .slice (tm 43)),op 45 (.mov (ci (0)))] [2,3,43,44,45])
 (.block 2 (.loop l100_1_h l100_1_b)))
 (.seq (rg [op 59 (.load (some 4) (tm 3)),⟨none,.store 4 (tm 2) (tm 59),none⟩] [2])
 (.ret)))))))

def a100 : AFunc := ⟨1,c100,[.cell 2 (some 4)]⟩

def an100 : List RAnn := [
 ra 0 [1,2],ra 1 [1,2,3],
 { id := 2,live := [1,2,3],ops := [(2,.mode .own)] },
 ra 3 [1,2,3,14,15,16],rh 4 [1,2,3,14,15,16,17] [1,2,3,14,15,16],ra 5 [1,2,3,4,5,14,15,16],
 { id := 6,head := some 9,live := [1,2,3,4,5,14,15,16],ops := [(5,.mode .own)],par := true },
 { id := 7,head := some 9,live := [1,2,3,14,15,16],ops := [(5,.mode .own)],par := true },
 ra 8 [1,2,3,14,15,16],
 { id := 9,live := [2,3],ops := [(2,.mode .own)] },
 ra 10 [2,3,43,44,45],rh 11 [2,3,43,44,45,46] [2,3,43,44,45],ra 12 [2,3,6,7,43,44,45],
 { id := 13,head := some 9,live := [2,3,43,44,45],ops := [(5,.mode .own)],par := true },
 ra 14 [2,3,43,44,45],ra 15 [2]]

theorem comp100 : compF Tryz.prog an100 Tryz.f100 = some a100 := by kernel_rfl

/- (*graphdb/change.editor).step -/
def c101 : ACode :=
 .seq (rg [op 3 (.box 10 (tm 1)),op 4 (.alloc 1 (.int .i64 0))] [0,3,4])
 (.seq (.seq (rg [op 6 (.load (some 10) (tm 3)),op 7 (.call .pure 155 [(tm 6)]),mv 5 7] [0,3,4,5])
 (.seq (rg [mv 8 5,op 9 (.bin .neq .int (tm 8) (ci (0)))] [0,3,4,5,9])
 (.cond (tm 9) (.seq (rg [mv 10 5,⟨none,.store 1 (tm 4) (tm 10),none⟩] [4])
 (.ret))
 (.skip))))
 (.seq (.cond (ci (0)) (.skip)
 (.skip))
 (.seq (.seq (rg [op 12 (.faddr 0 (tm 3)),op 13 (.load none (tm 12)),op 14 (.bin .leq .int (tm 13) (ci (5)))] [0,3,4,14])
 (.cond (tm 14) (rg [mv 15 0,op 16 (.load (some 10) (tm 3)),op 17 (.call .keep 157 [(tm 15),(tm 16)])] [4])
 (rg [mv 18 0,op 19 (.load (some 10) (tm 3)),op 20 (.call .keep 158 [(tm 18),(tm 19)])] [4])))
 (.seq (rg [⟨none,.store 1 (tm 4) (ci (0)),none⟩] [4])
 (.ret)))))

def a101 : AFunc := ⟨2,c101,[.cell 4 none]⟩

def an101 : List RAnn := [
 ra 0 [0,3,4],ra 1 [0,3,4,5],ra 2 [0,3,4,5,9],ra 3 [4],ra 4 [0,3,4],ra 5 [0,3,4,14],
 { id := 6,live := [4],ops := [(2,.mode .keep)] },
 { id := 7,live := [4],ops := [(2,.mode .keep)] },
 ra 8 [4]]

theorem comp101 : compF Tryz.prog an101 Tryz.f101 = some a101 := by kernel_rfl

/- slices.ContainsFunc[[]string,string] -/
def c102 : ACode :=
 .seq (rg [op 4 (.mov (.cst (.bool false)))] [0,1])
 (.seq (rg [mv 5 0,mv 6 1,op 7 (.call .pure 159 [(tm 5),(tm 6)]),op 8 (.bin .geq .int (tm 7) (ci (0))),mv 4 8] [4])
 (.ret))

def a102 : AFunc := ⟨2,c102,[.tmp 4]⟩

def an102 : List RAnn := [
 ra 0 [0,1],ra 1 [4]]

theorem comp102 : compF Tryz.prog an102 Tryz.f102 = some a102 := by kernel_rfl

/- graphdb/graph.unnamed -/
def c103 : ACode :=
 .seq (rg [op 2 (.mov (.cst (.bool false)))] [0])
 (.seq (rg [mv 3 0,op 4 (.call .pure 68 [(tm 3)]),op 5 (.un .not (tm 4)),mv 2 5] [2])
 (.ret))

def a103 : AFunc := ⟨1,c103,[.tmp 2]⟩

def an103 : List RAnn := [
 ra 0 [0],ra 1 [2]]

theorem comp103 : compF Tryz.prog an103 Tryz.f103 = some a103 := by kernel_rfl

/- graphdb/graph.increasing -/
/-- loop 0 of function 104 -/
def l104_0_h : List Nat := [0,3]

def l104_0_b : ACode :=
 .seq (.seq (rg [mv 4 3,mv 5 0,op 6 (.len .slice (tm 5)),op 7 (.bin .lss .int (tm 4) (tm 6))] [0,3,7])
 (.cond (tm 7) (.skip)
 (.exit 0)))
 (.seq (.block 1 (.seq (.region (some 10) [] [
 mv 10 0,mv 11 3,op 12 (.iaddr 1 (tm 10) (tm 11)),op 13 (.load none (tm 12)),mv 14 0,mv 15 3,op 16 (.bin .sub .int (tm 15) (ci (1))),op 17 (.iaddr 1 (tm 14) (tm 16)),op 18 (.load none (tm 17)),op 19 (.bin .leq .str (tm 13) (tm 18))] [0,3,19] none)
 (.cond (tm 19) (.seq (rg [op 2 (.mov (.cst (.bool false)))] [2])
 (.ret))
 (.skip))))
 (rg [mv 8 3,op 9 (.bin .add .int (tm 8) (ci (1))),mv 3 9] [0,3]))

def c104 : ACode :=
 .seq (rg [op 2 (.mov (.cst (.bool false)))] [0])
 (.seq (.seq (rg [op 3 (.mov (ci (1)))] [0,3])
 (.block 0 (.loop l104_0_h l104_0_b)))
 (.seq (rg [op 2 (.mov (.cst (.bool true)))] [2])
 (.ret)))

def a104 : AFunc := ⟨1,c104,[.tmp 2]⟩

def an104 : List RAnn := [
 ra 0 [0],ra 1 [0,3],rh 2 [0,3,7] [0,3],
 { id := 4,head := some 10,live := [0,3,19] },
 ra 5 [2],ra 3 [0,3],ra 6 [2]]

theorem comp104 : compF Tryz.prog an104 Tryz.f104 = some a104 := by kernel_rfl

/- graphdb/value.Plain -/
def c105 : ACode :=
 .seq (rg [op 1 (.box 5 (tm 0)),op 2 (.mov (.cst (.bool false)))] [1])
 (.seq (rg [op 3 (.faddr 0 (tm 1)),op 4 (.load none (tm 3)),op 5 (.bin .eql .int (tm 4) (ci (1))),mv 6 5,⟨some 7,.faddr 0 (tm 1),some (6,false)⟩,⟨some 8,.load none (tm 7),some (6,false)⟩,⟨some 9,.bin .eql .int (tm 8) (ci (2)),some (6,false)⟩,op 10 (.pick (tm 6) (.cst (.bool true)) (tm 9)),mv 11 10,⟨some 12,.faddr 0 (tm 1),some (11,false)⟩,⟨some 13,.load none (tm 12),some (11,false)⟩,⟨some 14,.bin .eql .int (tm 13) (ci (4)),some (11,false)⟩,op 15 (.pick (tm 11) (.cst (.bool true)) (tm 14)),mv 16 15,⟨some 17,.load (some 5) (tm 1),some (16,true)⟩,⟨some 18,.call .pure 62 [(tm 17)],some (16,true)⟩,op 19 (.pick (tm 16) (tm 18) (.cst (.bool false))),mv 2 19] [2])
 (.ret))

def a105 : AFunc := ⟨1,c105,[.tmp 2]⟩

def an105 : List RAnn := [
 ra 0 [1],ra 1 [2]]

theorem comp105 : compF Tryz.prog an105 Tryz.f105 = some a105 := by kernel_rfl

/- slices.BinarySearchFunc[[]graphdb/api.Node,graphdb/api.Node,int] -/
/-- loop 0 of function 106 -/
def l106_0_h : List Nat := [0,1,2,8,9,10]

def l106_0_b : ACode :=
 .seq (.seq (rg [mv 15 9,mv 16 10,op 17 (.bin .lss .int (tm 15) (tm 16))] [0,1,2,8,9,10,17])
 (.cond (tm 17) (.skip)
 (.exit 0)))
 (.block 1 (.seq (rg [mv 18 9,mv 19 10,op 20 (.bin .add .int (tm 18) (tm 19)),op 21 (.conv .u64 (tm 20)),op 22 (.bin .shr .int (tm 21) (.cst (.int .u64 1))),op 23 (.conv .i64 (tm 22)),mv 11 23] [0,1,2,8,9,10,11])
 (.seq (rg [mv 24 2,mv 25 0,mv 26 11,op 27 (.iaddr 3 (tm 25) (tm 26)),op 28 (.load (some 3) (tm 27)),mv 29 1,op 30 (.callv .pure (tm 24) [(tm 28),(tm 29)]),op 31 (.bin .lss .int (tm 30) (ci (0)))] [0,1,2,8,9,10,11,31])
 (.cond (tm 31) (rg [mv 32 11,op 33 (.bin .add .int (tm 32) (ci (1))),mv 9 33] [0,1,2,8,9,10])
 (rg [mv 34 11,mv 10 34] [0,1,2,8,9,10])))))

def c106 : ACode :=
 .seq (rg [op 6 (.mov (ci (0))),op 7 (.mov (.cst (.bool false)))] [0,1,2])
 (.seq (rg [mv 12 0,op 13 (.len .slice (tm 12)),mv 8 13] [0,1,2,8])
 (.seq (rg [mv 14 8,op 9 (.mov (ci (0))),mv 10 14] [0,1,2,8,9,10])
 (.seq (.block 0 (.loop l106_0_h l106_0_b))
 (.seq (rg [mv 35 9,mv 36 9,mv 37 8,op 38 (.bin .lss .int (tm 36) (tm 37)),mv 39 38,mg 40 2 39 true,mg 41 0 39 true,mg 42 9 39 true,⟨some 43,.iaddr 3 (tm 41) (tm 42),some (39,true)⟩,⟨some 44,.load (some 3) (tm 43),some (39,true)⟩,mg 45 1 39 true,⟨some 46,.callv .pure (tm 40) [(tm 44),(tm 45)],some (39,true)⟩,⟨some 47,.bin .eql .int (tm 46) (ci (0)),some (39,true)⟩,op 48 (.pick (tm 39) (tm 47) (.cst (.bool false))),mv 6 35,mv 7 48] [6,7])
 (.ret)))))

def a106 : AFunc := ⟨3,c106,[.tmp 6,.tmp 7]⟩

def an106 : List RAnn := [
 ra 0 [0,1,2],ra 1 [0,1,2,8],ra 2 [0,1,2,8,9,10],rh 3 [0,1,2,8,9,10,17] [0,1,2,8,9,10],ra 4 [0,1,2,8,9,10,11],ra 5 [0,1,2,8,9,10,11,31],ra 6 [0,1,2,8,9,10],ra 7 [0,1,2,8,9,10],ra 8 [6,7]]

theorem comp106 : compF Tryz.prog an106 Tryz.f106 = some a106 := by kernel_rfl

/- graphdb/graph.has$1 -/
def c107 : ACode :=
 .seq (rg [op 2 (.box 3 (tm 0)),op 4 (.mov (ci (0)))] [1,2])
 (.seq (rg [op 5 (.faddr 0 (tm 2)),op 6 (.load none (tm 5)),mv 7 1,op 8 (.call .pure 61 [(tm 6),(tm 7)]),mv 4 8] [4])
 (.ret))

def a107 : AFunc := ⟨2,c107,[.tmp 4]⟩

def an107 : List RAnn := [
 ra 0 [1,2],ra 1 [4]]

theorem comp107 : compF Tryz.prog an107 Tryz.f107 = some a107 := by kernel_rfl

/- graphdb/graph.letter -/
def c108 : ACode :=
 .seq (rg [op 2 (.mov (.cst (.bool false)))] [0])
 (.seq (rg [mv 3 0,op 4 (.bin .geq .int (tm 3) (.cst (.int .u8 97))),mv 5 4,mg 6 0 5 true,⟨some 7,.bin .leq .int (tm 6) (.cst (.int .u8 122)),some (5,true)⟩,op 8 (.pick (tm 5) (tm 7) (.cst (.bool false))),mv 9 8,mg 10 0 9 false,⟨some 11,.bin .geq .int (tm 10) (.cst (.int .u8 65)),some (9,false)⟩,mg 12 11 9 false,mg 13 0 12 true,⟨some 14,.bin .leq .int (tm 13) (.cst (.int .u8 90)),some (12,true)⟩,⟨some 15,.pick (tm 12) (tm 14) (.cst (.bool false)),some (9,false)⟩,op 16 (.pick (tm 9) (.cst (.bool true)) (tm 15)),mv 2 16] [2])
 (.ret))

def a108 : AFunc := ⟨1,c108,[.tmp 2]⟩

def an108 : List RAnn := [
 ra 0 [0],ra 1 [2]]

theorem comp108 : compF Tryz.prog an108 Tryz.f108 = some a108 := by kernel_rfl

/- slices.Clone[[]graphdb/api.Value,graphdb/api.Value] -/
def c109 : ACode :=
 .seq (rg [op 2 (.mov (.cst (.sl false [])))] [0])
 (.seq (.seq (rg [mv 3 0,op 4 (.bin .eql .slice (tm 3) (.cst (.sl false [])))] [0,4])
 (.cond (tm 4) (.seq (rg [op 2 (.mov (.cst (.sl false [])))] [2])
 (.ret))
 (.skip)))
 (.seq (rg [op 5 (.lit true 5 (.agg [.int .i64 0,.int .i64 0,.int .i64 0,.str [],.sl false []]) 0 []),mv 6 0,op 7 (.append 5 64 (tm 5) (tm 6)),mv 2 7] [2])
 (.ret)))

def a109 : AFunc := ⟨1,c109,[.tmp 2]⟩

def an109 : List RAnn := [
 ra 0 [0],ra 1 [0,4],ra 2 [2],
 { id := 3,live := [2],ops := [(0,.own)] }]

theorem comp109 : compF Tryz.prog an109 Tryz.f109 = some a109 := by kernel_rfl

/- slices.Index[[]string,string] -/
/-- loop 0 of function 110 -/
def l110_0_h : List Nat := [0,1,7,8]

def l110_0_b : ACode :=
 .seq (rg [op 9 (.bin .lss .int (tm 8) (tm 7))] [0,1,7,8,9])
 (.seq (.cond (tm 9) (.skip)
 (.exit 0))
 (.seq (.block 1 (.seq (rg [mv 10 8,mv 5 10] [0,1,5,7,8])
 (.seq (rg [mv 11 1,mv 12 0,mv 13 5,op 14 (.iaddr 1 (tm 12) (tm 13)),op 15 (.load none (tm 14)),op 16 (.bin .eql .str (tm 11) (tm 15))] [0,1,5,7,8,16])
 (.cond (tm 16) (.seq (rg [mv 17 5,mv 4 17] [4])
 (.ret))
 (.skip)))))
 (rg [op 18 (.bin .add .int (tm 8) (ci (1))),mv 8 18] [0,1,7,8])))

def c110 : ACode :=
 .seq (rg [op 4 (.mov (ci (0)))] [0,1])
 (.seq (.seq (rg [mv 6 0,op 7 (.len .slice (tm 6)),op 8 (.mov (ci (0)))] [0,1,7,8])
 (.block 0 (.loop l110_0_h l110_0_b)))
 (.seq (rg [op 4 (.mov (ci ((-1))))] [4])
 (.ret)))

def a110 : AFunc := ⟨2,c110,[.tmp 4]⟩

def an110 : List RAnn := [
 ra 0 [0,1],ra 1 [0,1,7,8],rh 2 [0,1,7,8,9] [0,1,7,8],ra 3 [0,1,5,7,8],ra 4 [0,1,5,7,8,16],ra 5 [4],ra 6 [0,1,7,8],ra 7 [4]]

theorem comp110 : compF Tryz.prog an110 Tryz.f110 = some a110 := by kernel_rfl

/- graphdb/value.And -/
def c111 : ACode :=
 .seq (rg [op 4 (.mov (ci (0)))] [0,1])
 (.seq (rg [mv 5 0,op 6 (.call .pure 160 [(tm 5)]),mv 7 1,op 8 (.call .pure 160 [(tm 7)]),op 9 (.min (tm 6) (tm 8)),mv 4 9] [4])
 (.ret))

def a111 : AFunc := ⟨2,c111,[.tmp 4]⟩

def an111 : List RAnn := [
 ra 0 [0,1],ra 1 [4]]

theorem comp111 : compF Tryz.prog an111 Tryz.f111 = some a111 := by kernel_rfl

/- graphdb/frac.Valid -/
def c112 : ACode :=
 .seq (rg [op 1 (.box 2 (tm 0)),op 2 (.mov (.cst (.bool false)))] [1])
 (.seq (rg [op 3 (.faddr 1 (tm 1)),op 4 (.load none (tm 3)),op 5 (.bin .geq .int (tm 4) (ci (1))),mv 6 5,⟨some 7,.faddr 1 (tm 1),some (6,true)⟩,⟨some 8,.load none (tm 7),some (6,true)⟩,⟨some 9,.bin .leq .int (tm 8) (ci (1000000000000000)),some (6,true)⟩,op 10 (.pick (tm 6) (tm 9) (.cst (.bool false))),mv 11 10,⟨some 12,.faddr 0 (tm 1),some (11,true)⟩,⟨some 13,.load none (tm 12),some (11,true)⟩,⟨some 14,.call .pure 147 [(tm 13)],some (11,true)⟩,op 15 (.pick (tm 11) (tm 14) (.cst (.bool false))),mv 16 15,⟨some 17,.faddr 0 (tm 1),some (16,true)⟩,⟨some 18,.load none (tm 17),some (16,true)⟩,⟨some 19,.faddr 1 (tm 1),some (16,true)⟩,⟨some 20,.load none (tm 19),some (16,true)⟩,⟨some 21,.call .pure 161 [(tm 18),(tm 20)],some (16,true)⟩,⟨some 22,.bin .eql .int (tm 21) (ci (1)),some (16,true)⟩,op 23 (.pick (tm 16) (tm 22) (.cst (.bool false))),mv 2 23] [2])
 (.ret))

def a112 : AFunc := ⟨1,c112,[.tmp 2]⟩

def an112 : List RAnn := [
 ra 0 [1],ra 1 [2]]

theorem comp112 : compF Tryz.prog an112 Tryz.f112 = some a112 := by kernel_rfl

/- graphdb/frac.product -/
def c113 : ACode :=
 .seq (rg [op 4 (.alloc 3 (.agg [.bool false,.int .u64 0,.int .u64 0]))] [0,1,4])
 (.seq (rg [mv 8 0,op 9 (.call .pure 163 [(tm 8)]),mv 10 1,op 11 (.call .pure 163 [(tm 10)]),op 12 (.call .pure 162 [(tm 9),(tm 11)]),mv 7 12,op 13 (.ext (tm 7) 0),op 14 (.ext (tm 7) 1),mv 5 13,mv 6 14] [0,1,4,5,6])
 (.seq (rg [mv 15 0,op 16 (.bin .lss .int (tm 15) (ci (0))),mv 17 1,op 18 (.bin .lss .int (tm 17) (ci (0))),op 19 (.bin .neq .bool (tm 16) (tm 18)),mv 20 5,mv 21 6,op 22 (.build [.bool false,.int .u64 0,.int .u64 0] [(0,1,(tm 19)),(1,1,(tm 20)),(2,1,(tm 21))]),⟨none,.store 3 (tm 4) (tm 22),none⟩] [4])
 (.ret)))

def a113 : AFunc := ⟨2,c113,[.cell 4 (some 3)]⟩

def an113 : List RAnn := [
 ra 0 [0,1,4],ra 1 [0,1,4,5,6],ra 2 [4]]

theorem comp113 : compF Tryz.prog an113 Tryz.f113 = some a113 := by kernel_rfl

/- (graphdb/frac.wide).plus -/
def c114 : ACode :=
 .seq (rg [op 2 (.box 3 (tm 0)),op 3 (.box 3 (tm 1)),op 4 (.alloc 3 (.agg [.bool false,.int .u64 0,.int .u64 0]))] [2,3,4])
 (.seq (.seq (rg [op 13 (.faddr 0 (tm 2)),op 14 (.load none (tm 13)),op 15 (.faddr 0 (tm 3)),op 16 (.load none (tm 15)),op 17 (.bin .eql .bool (tm 14) (tm 16))] [2,3,4,17])
 (.cond (tm 17) (.seq (rg [op 19 (.faddr 2 (tm 2)),op 20 (.load none (tm 19)),op 21 (.faddr 2 (tm 3)),op 22 (.load none (tm 21)),op 23 (.call .pure 164 [(tm 20),(tm 22),(.cst (.int .u64 0))]),mv 18 23,op 24 (.ext (tm 18) 0),op 25 (.ext (tm 18) 1),mv 5 24,mv 6 25] [2,3,4,5,6])
 (.seq (rg [op 27 (.faddr 1 (tm 2)),op 28 (.load none (tm 27)),op 29 (.faddr 1 (tm 3)),op 30 (.load none (tm 29)),mv 31 6,op 32 (.call .pure 164 [(tm 28),(tm 30),(tm 31)]),mv 26 32,op 33 (.ext (tm 26) 0),op 34 (.ext (tm 26) 1),mv 7 33,mv 8 34] [2,4,5,7])
 (.seq (rg [op 35 (.faddr 0 (tm 2)),op 36 (.load none (tm 35)),mv 37 7,mv 38 5,op 39 (.build [.bool false,.int .u64 0,.int .u64 0] [(0,1,(tm 36)),(1,1,(tm 37)),(2,1,(tm 38))]),⟨none,.store 3 (tm 4) (tm 39),none⟩] [4])
 (.ret))))
 (.skip)))
 (.seq (.seq (rg [op 40 (.load (some 3) (tm 2)),op 41 (.load (some 3) (tm 3)),op 42 (.call .pure 165 [(tm 40),(tm 41)])] [2,3,4,42])
 (.cond (tm 42) (rg [op 43 (.load (some 3) (tm 3)),op 44 (.load (some 3) (tm 2)),⟨none,.store 3 (tm 2) (tm 43),none⟩,⟨none,.store 3 (tm 3) (tm 44),none⟩] [2,3,4])
 (.skip)))
 (.seq (rg [op 46 (.faddr 2 (tm 2)),op 47 (.load none (tm 46)),op 48 (.faddr 2 (tm 3)),op 49 (.load none (tm 48)),op 50 (.call .pure 166 [(tm 47),(tm 49),(.cst (.int .u64 0))]),mv 45 50,op 51 (.ext (tm 45) 0),op 52 (.ext (tm 45) 1),mv 9 51,mv 10 52] [2,3,4,9,10])
 (.seq (rg [op 54 (.faddr 1 (tm 2)),op 55 (.load none (tm 54)),op 56 (.faddr 1 (tm 3)),op 57 (.load none (tm 56)),mv 58 10,op 59 (.call .pure 166 [(tm 55),(tm 57),(tm 58)]),mv 53 59,op 60 (.ext (tm 53) 0),op 61 (.ext (tm 53) 1),mv 11 60,mv 12 61] [2,4,9,11])
 (.seq (rg [op 62 (.faddr 0 (tm 2)),op 63 (.load none (tm 62)),mv 64 11,mv 65 9,op 66 (.build [.bool false,.int .u64 0,.int .u64 0] [(0,1,(tm 63)),(1,1,(tm 64)),(2,1,(tm 65))]),⟨none,.store 3 (tm 4) (tm 66),none⟩] [4])
 (.ret))))))

def a114 : AFunc := ⟨2,c114,[.cell 4 (some 3)]⟩

def an114 : List RAnn := [
 ra 0 [2,3,4],ra 1 [2,3,4,17],ra 2 [2,3,4,5,6],ra 3 [2,4,5,7],ra 4 [4],ra 5 [2,3,4,42],ra 6 [2,3,4],ra 7 [2,3,4,9,10],ra 8 [2,4,9,11],ra 9 [4]]

theorem comp114 : compF Tryz.prog an114 Tryz.f114 = some a114 := by kernel_rfl

end AI
end Go.Proofs.YtbkibamoigmboaaGreatDoor
