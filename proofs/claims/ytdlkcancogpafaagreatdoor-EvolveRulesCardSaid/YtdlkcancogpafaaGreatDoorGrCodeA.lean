/- Printed by a program of mine: the functions,compiled; the kernel checks each against the given form. -/
import Derived.Test.YtdlkcancogpafaaGreatDoorSe
import Derived.Test.YtdlkcancogpafaaGreatDoorProg
import Derived.Test.YtdlkcancogpafaaGreatDoorAb
import Derived.KernelRfl
import Derived.Test.YtdlkcancogpafaaGreatDoorIxF
import Derived.Test.YtdlkcancogpafaaGreatDoorInB
import Derived.Test.YtdlkcancogpafaaGreatDoorInD
namespace Go.Proofs.YtdlkcancogpafaaGreatDoor
namespace AI

/- graphdb/graphdblaw55.EvolveRules -/
def c3 : ACode :=
 .seq (rg [op 3 (.box 15 (tm 1)),op 4 (.mov (.cst (.bool false)))] [0,3])
 (.seq (.seq (rg [mv 9 0,op 10 (.len .slice (tm 9)),op 11 (.bin .gtr .int (tm 10) (ci (44))),mv 12 11,⟨some 13,.load (some 15) (tm 3),some (12,false)⟩,⟨some 14,.call .pure 5 [(tm 13)],some (12,false)⟩,⟨some 15,.un .not (tm 14),some (12,false)⟩,op 16 (.pick (tm 12) (.cst (.bool true)) (tm 15))] [0,3,16])
 (.cond (tm 16) (.seq (rg [op 17 (.call .pure 6 []),mv 4 17] [4])
 (.ret))
 (.skip)))
 (.seq (rg [mv 19 0,op 20 (.load (some 15) (tm 3)),op 21 (.call .pure 7 [(tm 19),(tm 20)]),mv 18 21,op 22 (.ext (tm 18) 0),op 23 (.ext (tm 18) 1),mv 5 22,mv 6 23] [0,3,5,6])
 (.seq (rg [mv 25 0,op 26 (.load (some 15) (tm 3)),op 27 (.call .pure 8 [(tm 25),(tm 26)]),mv 24 27,op 28 (.ext (tm 24) 0),op 29 (.ext (tm 24) 1),mv 7 28,mv 8 29] [5,6,7,8])
 (.seq (rg [mv 30 5,mv 31 7,op 32 (.call .pure 9 [(tm 30),(tm 31)]),mv 33 32,mg 34 6 33 true,mg 35 8 33 true,⟨some 36,.bin .eql .int (tm 34) (tm 35),some (33,true)⟩,op 37 (.pick (tm 33) (tm 36) (.cst (.bool false))),mv 38 37,⟨some 39,.call .pure 6 [],some (38,true)⟩,op 40 (.pick (tm 38) (tm 39) (.cst (.bool false))),mv 4 40] [4])
 (.ret)))))

def a3 : AFunc := ⟨2,c3,[.tmp 4]⟩

def an3 : List RAnn := [
 ra 0 [0,3],ra 1 [0,3,16],ra 2 [4],ra 3 [0,3,5,6],ra 4 [5,6,7,8],ra 5 [4]]

theorem comp3 : compF Tryz.prog an3 Tryz.f3 = some a3 := by kernel_rfl

/- graphdb/graphdblaw55.light -/
def c5 : ACode :=
 .seq (rg [op 1 (.box 15 (tm 0)),op 2 (.mov (.cst (.bool false)))] [1])
 (.seq (rg [op 3 (.faddr 4 (tm 1)),op 4 (.load (some 5) (tm 3)),op 5 (.lit false 5 (.agg [.int .i64 0,.int .i64 0,.int .i64 0,.str [],.sl false []]) 1 [(0,(tm 4))]),op 6 (.lit false 1 (.sl false []) 1 [(0,(tm 5))]),op 7 (.call .pure 18 [(tm 6),(ci (60))]),mv 8 7,⟨some 9,.faddr 1 (tm 1),some (8,true)⟩,⟨some 10,.load none (tm 9),some (8,true)⟩,⟨some 11,.len .str (tm 10),some (8,true)⟩,⟨some 12,.faddr 2 (tm 1),some (8,true)⟩,⟨some 13,.load none (tm 12),some (8,true)⟩,⟨some 14,.len .str (tm 13),some (8,true)⟩,⟨some 15,.bin .add .int (tm 11) (tm 14),some (8,true)⟩,⟨some 16,.bin .leq .int (tm 15) (ci (200)),some (8,true)⟩,op 17 (.pick (tm 8) (tm 16) (.cst (.bool false))),mv 18 17,⟨some 19,.faddr 3 (tm 1),some (18,true)⟩,⟨some 20,.load none (tm 19),some (18,true)⟩,⟨some 21,.len .str (tm 20),some (18,true)⟩,⟨some 22,.bin .leq .int (tm 21) (ci (200)),some (18,true)⟩,op 23 (.pick (tm 18) (tm 22) (.cst (.bool false))),mv 2 23] [2])
 (.ret))

def a5 : AFunc := ⟨1,c5,[.tmp 2]⟩

def an5 : List RAnn := [
 ra 0 [1],ra 1 [2]]

theorem comp5 : compF Tryz.prog an5 Tryz.f5 = some a5 := by kernel_rfl

/- graphdb/graphdblaw55.alive -/
def c6 : ACode :=
 .seq (rg [op 0 (.mov (.cst (.bool false)))] [])
 (.seq (rg [op 7 (.lit false 1 (.str []) 1 [(0,(.cst (.str [65])))]),op 8 (.build [.int .i64 0,.sl false [],.sl false []] [(0,1,(ci (1))),(1,1,(tm 7))]),op 9 (.lit false 3 (.agg [.int .i64 0,.sl false [],.sl false []]) 1 [(0,(tm 8))]),op 10 (.build [.sl false [],.sl false [],.int .i64 0,.int .i64 0] [(0,1,(tm 9)),(2,1,(ci (2))),(3,1,(ci (1)))]),op 1 (.alloc 4 (.agg [.sl false [],.sl false [],.int .i64 0,.int .i64 0])),⟨none,.store 4 (tm 1) (tm 10),none⟩] [1])
 (.seq (rg [op 11 (.build [.int .i64 0,.str [],.str [],.str [],.int .i64 0,.int .i64 0,.int .i64 0,.str [],.sl false [],.int .i64 0,.int .i64 0,.str [],.str [],.str [],.str []] [(0,1,(ci (1))),(2,1,(.cst (.str [65]))),(3,1,(.cst (.str [66])))]),op 2 (.alloc 15 (.agg [.int .i64 0,.str [],.str [],.str [],.int .i64 0,.int .i64 0,.int .i64 0,.str [],.sl false [],.int .i64 0,.int .i64 0,.str [],.str [],.str [],.str []])),⟨none,.store 15 (tm 2) (tm 11),none⟩] [1,2])
 (.seq (rg [op 13 (.load (some 4) (tm 1)),op 14 (.load (some 15) (tm 2)),op 15 (.call .pure 11 [(tm 13),(tm 14)]),mv 12 15,op 16 (.ext (tm 12) 0),op 17 (.ext (tm 12) 1),mv 3 16,mv 4 17] [2,3,4])
 (.seq (rg [op 19 (.build [.int .i64 0,.int .i64 0,.str [],.str [],.str [],.str []] [(0,1,(ci (1))),(2,1,(.cst (.str [65]))),(3,1,(.cst (.str [107])))]),op 20 (.lit false 6 (.agg [.int .i64 0,.int .i64 0,.str [],.str [],.str [],.str []]) 1 [(0,(tm 19))]),op 21 (.load (some 15) (tm 2)),op 22 (.call .pure 7 [(tm 20),(tm 21)]),mv 18 22,op 23 (.ext (tm 18) 0),op 24 (.ext (tm 18) 1),mv 5 23,mv 6 24] [3,4,5,6])
 (.seq (rg [mv 25 4,op 26 (.bin .eql .int (tm 25) (ci (0))),mv 27 26,mg 28 6 27 true,⟨some 29,.bin .eql .int (tm 28) (ci (0)),some (27,true)⟩,op 30 (.pick (tm 27) (tm 29) (.cst (.bool false))),mv 31 30,mg 32 3 31 true,⟨some 33,.build [.int .i64 0,.int .i64 0,.int .i64 0,.int .i64 0,.str [],.int .i64 0,.int .i64 0,.int .i64 0,.str [],.sl false []] [(0,1,(ci (4))),(1,1,(ci (1))),(4,1,(.cst (.str [65])))],some (31,true)⟩,⟨some 34,.build [.int .i64 0,.int .i64 0,.int .i64 0,.int .i64 0,.str [],.int .i64 0,.int .i64 0,.int .i64 0,.str [],.sl false []] [(0,1,(ci (3))),(1,1,(ci (1))),(4,1,(.cst (.str [66])))],some (31,true)⟩,⟨some 35,.lit false 10 (.agg [.int .i64 0,.int .i64 0,.int .i64 0,.int .i64 0,.str [],.int .i64 0,.int .i64 0,.int .i64 0,.str [],.sl false []]) 2 [(0,(tm 33)),(1,(tm 34))],some (31,true)⟩,⟨some 36,.call .pure 17 [(tm 32),(tm 35)],some (31,true)⟩,op 37 (.pick (tm 31) (tm 36) (.cst (.bool false))),mv 38 37,mg 39 5 38 true,⟨some 40,.build [.int .i64 0,.int .i64 0,.str [],.str [],.str [],.str []] [(0,1,(ci (1))),(2,1,(.cst (.str [66]))),(3,1,(.cst (.str [107])))],some (38,true)⟩,⟨some 41,.lit false 6 (.agg [.int .i64 0,.int .i64 0,.str [],.str [],.str [],.str []]) 1 [(0,(tm 40))],some (38,true)⟩,⟨some 42,.call .pure 9 [(tm 39),(tm 41)],some (38,true)⟩,op 43 (.pick (tm 38) (tm 42) (.cst (.bool false))),mv 0 43] [0])
 (.ret))))))

def a6 : AFunc := ⟨0,c6,[.tmp 0]⟩

def an6 : List RAnn := [
 { id := 0 },
 ra 1 [1],ra 2 [1,2],ra 3 [2,3,4],ra 4 [3,4,5,6],ra 5 [0]]

theorem comp6 : compF Tryz.prog an6 Tryz.f6 = some a6 := by kernel_rfl

/- graphdb/evolve.Rules -/
/-- loop 0 of function 7 -/
def l7_0_h : List Nat := [3,7,38,39,40]

def l7_0_b : ACode :=
 .seq (rg [op 41 (.bin .lss .int (tm 40) (tm 39))] [3,7,38,39,40,41])
 (.seq (.cond (tm 41) (.skip)
 (.exit 1))
 (.seq (.block 2 (.seq (rg [op 42 (.iaddr 6 (tm 38) (tm 40)),op 43 (.load (some 6) (tm 42)),op 9 (.alloc 6 (.agg [.int .i64 0,.int .i64 0,.str [],.str [],.str [],.str []])),⟨none,.store 6 (tm 9) (tm 43),none⟩] [3,7,9,38,39,40])
 (.seq (rg [op 45 (.load (some 6) (tm 9)),op 46 (.load (some 15) (tm 3)),op 47 (.call .pure 22 [(tm 45),(tm 46)]),mv 44 47,op 48 (.ext (tm 44) 0),op 49 (.ext (tm 44) 1),op 10 (.alloc 6 (.agg [.int .i64 0,.int .i64 0,.str [],.str [],.str [],.str []])),⟨none,.store 6 (tm 10) (tm 48),none⟩,mv 11 49] [3,7,10,11,38,39,40])
 (.seq (rg [mv 50 11] [3,7,10,38,39,40,50])
 (.cond (tm 50) (rg [mv 51 7,op 52 (.load (some 6) (tm 10)),op 53 (.lit false 6 (.agg [.int .i64 0,.int .i64 0,.str [],.str [],.str [],.str []]) 1 [(0,(tm 52))]),op 54 (.append 6 80 (tm 51) (tm 53)),mv 7 54] [3,7,38,39,40])
 (.skip))))))
 (.region none [] [op 55 (.bin .add .int (tm 40) (ci (1))),mv 40 55] [3,7,38,39,40] (some 2))))

def c7 : ACode :=
 .seq (rg [op 3 (.box 15 (tm 1)),op 4 (.mov (.cst (.sl false []))),op 5 (.mov (ci (0)))] [0,3])
 (.seq (.seq (rg [op 12 (.load (some 15) (tm 3)),op 13 (.call .pure 15 [(tm 12)]),mv 6 13] [0,3,6])
 (.seq (rg [mv 14 6,op 15 (.bin .neq .int (tm 14) (ci (0)))] [0,3,6,15])
 (.cond (tm 15) (.seq (rg [mv 16 6,op 4 (.mov (.cst (.sl false []))),mv 5 16] [4,5])
 (.ret))
 (.skip))))
 (.seq (.seq (rg [mv 17 0,op 18 (.call .pure 19 [(tm 17)]),op 19 (.un .not (tm 18))] [0,3,19])
 (.cond (tm 19) (.seq (rg [op 4 (.mov (.cst (.sl false []))),op 5 (.mov (ci (19)))] [4,5])
 (.ret))
 (.skip)))
 (.seq (.seq (rg [op 20 (.faddr 0 (tm 3)),op 21 (.load none (tm 20))] [0,3,21])
 (.block 0 (.seq (rg [op 23 (.bin .eql .int (tm 21) (ci (6))),mv 22 23] [0,3,21,22])
 (.cond (tm 22) (.seq (rg [mv 24 0,op 25 (.faddr 9 (tm 3)),op 26 (.load (some 6) (tm 25)),op 27 (.call .pure 20 [(tm 24),(tm 26)]),op 28 (.ext (tm 27) 0),op 29 (.ext (tm 27) 1),mv 4 28,mv 5 29] [4,5])
 (.ret))
 (.seq (rg [op 31 (.bin .eql .int (tm 21) (ci (7))),mv 30 31] [0,3,30])
 (.cond (tm 30) (.seq (rg [mv 32 0,op 33 (.faddr 9 (tm 3)),op 34 (.load (some 6) (tm 33)),op 35 (.call .pure 21 [(tm 32),(tm 34)]),op 36 (.ext (tm 35) 0),op 37 (.ext (tm 35) 1),mv 4 36,mv 5 37] [4,5])
 (.ret))
 (.skip)))))))
 (.seq (rg [op 7 (.newown 6)] [0,3,7])
 (.seq (.seq (rg [mv 38 0,op 39 (.len .slice (tm 38)),op 40 (.mov (ci (0)))] [3,7,38,39,40])
 (.block 1 (.loop l7_0_h l7_0_b)))
 (.seq (rg [mv 56 7,op 57 (.call .share 23 [(tm 56),(.cst (.fn 24 []))])] [7])
 (.seq (rg [mv 58 7,op 59 (.call .share 25 [(tm 58)]),mv 4 59,op 5 (.mov (ci (0)))] [4,5])
 (.ret))))))))

def a7 : AFunc := ⟨2,c7,[.tmp 4,.tmp 5]⟩

def an7 : List RAnn := [
 ra 0 [0,3],ra 1 [0,3,6],ra 2 [0,3,6,15],ra 3 [4,5],ra 4 [0,3,19],ra 5 [4,5],ra 6 [0,3,21],ra 7 [0,3,21,22],ra 8 [4,5],ra 9 [0,3,30],ra 10 [4,5],
 { id := 11,live := [0,3,7],ops := [(0,.own)] },
 ra 12 [3,7,38,39,40],rh 13 [3,7,38,39,40,41] [3,7,38,39,40],ra 14 [3,7,9,38,39,40],ra 15 [3,7,10,11,38,39,40],ra 16 [3,7,10,38,39,40,50],ra 17 [3,7,38,39,40],
 { id := 18,live := [3,7,38,39,40],trunc := some 2 },
 { id := 19,live := [7],ops := [(1,.mode .share)] },
 { id := 20,live := [4,5],ops := [(1,.mode .share)] }]

theorem comp7 : compF Tryz.prog an7 Tryz.f7 = some a7 := by kernel_rfl

/- graphdb/graphdbref55.Rules -/
/-- loop 0 of function 8 -/
def l8_0_h : List Nat := [0,3,7,8]

def l8_0_b : ACode :=
 .seq (.seq (rg [mv 35 8,mv 36 0,op 37 (.len .slice (tm 36)),op 38 (.bin .lss .int (tm 35) (tm 37))] [0,3,7,8,38])
 (.cond (tm 38) (.skip)
 (.exit 0)))
 (.seq (.block 1 (.seq (.seq (.region (some 31) [] [
 op 41 (.faddr 0 (tm 3)),op 42 (.load none (tm 41)),op 43 (.bin .eql .int (tm 42) (ci (4))),mv 44 43,mg 45 0 44 true,mg 46 8 44 true,⟨some 47,.iaddr 6 (tm 45) (tm 46),some (44,true)⟩,⟨some 48,.faddr 0 (tm 47),some (44,true)⟩,⟨some 49,.load none (tm 48),some (44,true)⟩,⟨some 50,.call .pure 29 [(tm 49)],some (44,true)⟩,op 51 (.pick (tm 44) (tm 50) (.cst (.bool false))),mv 52 51,mg 53 0 52 true,mg 54 8 52 true,⟨some 55,.iaddr 6 (tm 53) (tm 54),some (52,true)⟩,⟨some 56,.faddr 2 (tm 55),some (52,true)⟩,⟨some 57,.load none (tm 56),some (52,true)⟩,⟨some 58,.faddr 1 (tm 3),some (52,true)⟩,⟨some 59,.load none (tm 58),some (52,true)⟩,⟨some 60,.bin .eql .str (tm 57) (tm 59),some (52,true)⟩,op 61 (.pick (tm 52) (tm 60) (.cst (.bool false))),mv 62 61,mg 63 0 62 true,mg 64 8 62 true,⟨some 65,.iaddr 6 (tm 63) (tm 64),some (62,true)⟩,⟨some 66,.faddr 3 (tm 65),some (62,true)⟩,⟨some 67,.load none (tm 66),some (62,true)⟩,⟨some 68,.faddr 2 (tm 3),some (62,true)⟩,⟨some 69,.load none (tm 68),some (62,true)⟩,⟨some 70,.bin .eql .str (tm 67) (tm 69),some (62,true)⟩,op 71 (.pick (tm 62) (tm 70) (.cst (.bool false)))] [0,3,7,8,71] none)
 (.cond (tm 71) (.exit 1)
 (.skip)))
 (.region (some 9) [] [
 mv 72 7,mv 73 0,mv 74 8,op 75 (.iaddr 6 (tm 73) (tm 74)),op 76 (.load (some 6) (tm 75)),op 77 (.load (some 15) (tm 3)),op 78 (.call .pure 31 [(tm 76),(tm 77)]),op 79 (.call .pure 30 [(tm 72),(tm 78)]),mv 7 79] [0,3,7,8] none)))
 (rg [mv 39 8,op 40 (.bin .add .int (tm 39) (ci (1))),mv 8 40] [0,3,7,8]))

def c8 : ACode :=
 .seq (rg [op 3 (.box 15 (tm 1)),op 4 (.mov (.cst (.sl false []))),op 5 (.mov (ci (0)))] [0,3])
 (.seq (.seq (rg [op 9 (.load (some 15) (tm 3)),op 10 (.call .pure 16 [(tm 9)]),mv 6 10] [0,3,6])
 (.seq (rg [mv 11 6,op 12 (.bin .neq .int (tm 11) (ci (0)))] [0,3,6,12])
 (.cond (tm 12) (.seq (rg [mv 13 6,op 4 (.mov (.cst (.sl false []))),mv 5 13] [4,5])
 (.ret))
 (.skip))))
 (.seq (.seq (rg [mv 14 0,op 15 (.call .pure 26 [(tm 14)]),op 16 (.un .not (tm 15))] [0,3,16])
 (.cond (tm 16) (.seq (rg [op 4 (.mov (.cst (.sl false []))),op 5 (.mov (ci (19)))] [4,5])
 (.ret))
 (.skip)))
 (.seq (.seq (rg [op 17 (.faddr 0 (tm 3)),op 18 (.load none (tm 17)),op 19 (.bin .eql .int (tm 18) (ci (6)))] [0,3,19])
 (.cond (tm 19) (.seq (rg [mv 20 0,op 21 (.faddr 9 (tm 3)),op 22 (.load (some 6) (tm 21)),op 23 (.call .pure 27 [(tm 20),(tm 22)]),op 24 (.ext (tm 23) 0),op 25 (.ext (tm 23) 1),mv 4 24,mv 5 25] [4,5])
 (.ret))
 (.skip)))
 (.seq (.seq (rg [op 26 (.faddr 0 (tm 3)),op 27 (.load none (tm 26)),op 28 (.bin .eql .int (tm 27) (ci (7)))] [0,3,28])
 (.cond (tm 28) (.seq (rg [mv 29 0,op 30 (.faddr 9 (tm 3)),op 31 (.load (some 6) (tm 30)),op 32 (.call .pure 28 [(tm 29),(tm 31)]),op 33 (.ext (tm 32) 0),op 34 (.ext (tm 32) 1),mv 4 33,mv 5 34] [4,5])
 (.ret))
 (.skip)))
 (.seq (rg [op 7 (.mov (.cst (.sl false [])))] [0,3,7])
 (.seq (.seq (rg [op 8 (.mov (ci (0)))] [0,3,7,8])
 (.block 0 (.loop l8_0_h l8_0_b)))
 (.seq (rg [mv 80 7,mv 4 80,op 5 (.mov (ci (0)))] [4,5])
 (.ret))))))))

def a8 : AFunc := ⟨2,c8,[.tmp 4,.tmp 5]⟩

def an8 : List RAnn := [
 ra 0 [0,3],ra 1 [0,3,6],ra 2 [0,3,6,12],ra 3 [4,5],ra 4 [0,3,16],ra 5 [4,5],ra 6 [0,3,19],ra 7 [4,5],ra 8 [0,3,28],ra 9 [4,5],ra 10 [0,3,7],ra 11 [0,3,7,8],rh 12 [0,3,7,8,38] [0,3,7,8],
 { id := 14,head := some 31,live := [0,3,7,8,71] },
 { id := 15,head := some 9,live := [0,3,7,8] },
 ra 13 [0,3,7,8],ra 16 [4,5]]

theorem comp8 : compF Tryz.prog an8 Tryz.f8 = some a8 := by kernel_rfl

/- graphdb/graphdbref55.SameRules -/
/-- loop 0 of function 9 -/
def l9_0_h : List Nat := [0,1,5]

def l9_0_b : ACode :=
 .seq (.seq (rg [mv 11 5,mv 12 0,op 13 (.len .slice (tm 12)),op 14 (.bin .lss .int (tm 11) (tm 13))] [0,1,5,14])
 (.cond (tm 14) (.skip)
 (.exit 0)))
 (.seq (.block 1 (.seq (.region (some 9) [] [
 mv 17 0,mv 18 5,op 19 (.iaddr 6 (tm 17) (tm 18)),op 20 (.load (some 6) (tm 19)),mv 21 1,mv 22 5,op 23 (.iaddr 6 (tm 21) (tm 22)),op 24 (.load (some 6) (tm 23)),op 25 (.bin .neq (.flat [.int,.int,.str,.str,.str,.str]) (tm 20) (tm 24))] [0,1,5,25] none)
 (.cond (tm 25) (.seq (rg [op 4 (.mov (.cst (.bool false)))] [4])
 (.ret))
 (.skip))))
 (rg [mv 15 5,op 16 (.bin .add .int (tm 15) (ci (1))),mv 5 16] [0,1,5]))

def c9 : ACode :=
 .seq (rg [op 4 (.mov (.cst (.bool false)))] [0,1])
 (.seq (.seq (rg [mv 6 0,op 7 (.len .slice (tm 6)),mv 8 1,op 9 (.len .slice (tm 8)),op 10 (.bin .neq .int (tm 7) (tm 9))] [0,1,10])
 (.cond (tm 10) (.seq (rg [op 4 (.mov (.cst (.bool false)))] [4])
 (.ret))
 (.skip)))
 (.seq (.seq (rg [op 5 (.mov (ci (0)))] [0,1,5])
 (.block 0 (.loop l9_0_h l9_0_b)))
 (.seq (rg [op 4 (.mov (.cst (.bool true)))] [4])
 (.ret))))

def a9 : AFunc := ⟨2,c9,[.tmp 4]⟩

def an9 : List RAnn := [
 ra 0 [0,1],ra 1 [0,1,10],ra 2 [4],ra 3 [0,1,5],rh 4 [0,1,5,14] [0,1,5],
 { id := 6,head := some 9,live := [0,1,5,25] },
 ra 7 [4],ra 5 [0,1,5],ra 8 [4]]

theorem comp9 : compF Tryz.prog an9 Tryz.f9 = some a9 := by kernel_rfl

/- graphdb/evolve.Changes -/
/-- loop 0 of function 11 -/
def l11_0_h : List Nat := [3,8,44,45,46]

def l11_0_b : ACode :=
 .seq (rg [op 47 (.bin .lss .int (tm 46) (tm 45))] [3,8,44,45,46,47])
 (.seq (.cond (tm 47) (.skip)
 (.exit 3))
 (.seq (.block 4 (.seq (rg [op 48 (.iaddr 5 (tm 44) (tm 46)),op 49 (.load (some 5) (tm 48)),op 10 (.alloc 5 (.agg [.int .i64 0,.int .i64 0,.int .i64 0,.str [],.sl false []])),⟨none,.store 5 (tm 10) (tm 49),none⟩] [3,8,10,44,45,46])
 (.seq (rg [op 50 (.faddr 3 (tm 10)),op 51 (.load none (tm 50)),op 52 (.faddr 2 (tm 3)),op 53 (.load none (tm 52)),op 54 (.bin .eql .str (tm 51) (tm 53))] [3,8,10,44,45,46,54])
 (.cond (tm 54) (rg [mv 55 8,op 56 (.load (some 5) (tm 10)),op 57 (.faddr 3 (tm 3)),op 58 (.load none (tm 57)),op 59 (.call .pure 35 [(tm 56),(tm 58)]),op 60 (.append 10 112 (tm 55) (tm 59)),mv 8 60] [3,8,44,45,46])
 (.skip)))))
 (.region none [] [op 61 (.bin .add .int (tm 46) (ci (1))),mv 46 61] [3,8,44,45,46] (some 3))))

/-- loop 1 of function 11 -/
def l11_1_h : List Nat := [3,8,29,30,31]

def l11_1_b : ACode :=
 .seq (rg [op 32 (.bin .lss .int (tm 31) (tm 30))] [3,8,29,30,31,32])
 (.seq (.cond (tm 32) (.skip)
 (.exit 1))
 (.seq (.block 2 (.seq (rg [op 33 (.iaddr 3 (tm 29) (tm 31)),op 34 (.load (some 3) (tm 33)),op 12 (.alloc 3 (.agg [.int .i64 0,.sl false [],.sl false []])),⟨none,.store 3 (tm 12) (tm 34),none⟩] [3,8,12,29,30,31])
 (rg [mv 35 8,op 36 (.load (some 3) (tm 12)),op 37 (.load (some 15) (tm 3)),op 38 (.call .pure 36 [(tm 36),(tm 37)]),op 39 (.append 10 112 (tm 35) (tm 38)),mv 8 39] [3,8,29,30,31])))
 (.region none [] [op 40 (.bin .add .int (tm 31) (ci (1))),mv 31 40] [3,8,29,30,31] (some 3))))

def c11 : ACode :=
 .seq (rg [op 2 (.box 4 (tm 0)),op 3 (.box 15 (tm 1)),op 4 (.mov (.cst (.sl false []))),op 5 (.mov (ci (0)))] [2,3])
 (.seq (.seq (rg [op 13 (.load (some 15) (tm 3)),op 14 (.call .pure 15 [(tm 13)]),mv 6 14] [2,3,6])
 (.seq (rg [mv 15 6,op 16 (.bin .neq .int (tm 15) (ci (0)))] [2,3,6,16])
 (.cond (tm 16) (.seq (rg [mv 17 6,op 4 (.mov (.cst (.sl false []))),mv 5 17] [4,5])
 (.ret))
 (.skip))))
 (.seq (.seq (rg [op 18 (.load (some 4) (tm 2)),op 19 (.call .pure 33 [(tm 18)]),mv 7 19] [2,3,7])
 (.seq (rg [mv 20 7,op 21 (.bin .neq .int (tm 20) (ci (0)))] [2,3,7,21])
 (.cond (tm 21) (.seq (rg [mv 22 7,op 4 (.mov (.cst (.sl false []))),mv 5 22] [4,5])
 (.ret))
 (.skip))))
 (.seq (.seq (rg [op 23 (.load (some 4) (tm 2)),op 24 (.load (some 15) (tm 3)),op 25 (.call .pure 34 [(tm 23),(tm 24)])] [2,3,25])
 (.cond (tm 25) (.seq (rg [op 4 (.mov (.cst (.sl false []))),op 5 (.mov (ci (7)))] [4,5])
 (.ret))
 (.skip)))
 (.seq (rg [op 8 (.newown 10)] [2,3,8])
 (.seq (.seq (rg [op 26 (.faddr 0 (tm 3)),op 27 (.load none (tm 26))] [2,3,8,27])
 (.block 0 (.seq (rg [op 42 (.bin .eql .int (tm 27) (ci (2))),mv 41 42] [2,3,8,27,41])
 (.cond (tm 41) (.seq (rg [op 43 (.faddr 1 (tm 2)),op 44 (.load none (tm 43)),op 45 (.len .slice (tm 44)),op 46 (.mov (ci (0)))] [3,8,44,45,46])
 (.block 3 (.loop l11_0_h l11_0_b)))
 (.seq (.seq (rg [op 63 (.bin .eql .int (tm 27) (ci (6))),mv 62 63] [2,3,8,27,62])
 (.cond (tm 62) (.skip)
 (rg [op 64 (.bin .eql .int (tm 27) (ci (7))),mv 62 64] [2,3,8,62])))
 (.cond (tm 62) (.skip)
 (.seq (rg [op 28 (.faddr 0 (tm 2)),op 29 (.load none (tm 28)),op 30 (.len .slice (tm 29)),op 31 (.mov (ci (0)))] [3,8,29,30,31])
 (.block 1 (.loop l11_1_h l11_1_b)))))))))
 (.seq (rg [mv 65 8,mv 4 65,op 5 (.mov (ci (0)))] [4,5])
 (.ret)))))))

def a11 : AFunc := ⟨2,c11,[.tmp 4,.tmp 5]⟩

def an11 : List RAnn := [
 ra 0 [2,3],ra 1 [2,3,6],ra 2 [2,3,6,16],ra 3 [4,5],ra 4 [2,3,7],ra 5 [2,3,7,21],ra 6 [4,5],ra 7 [2,3,25],ra 8 [4,5],
 { id := 9,live := [2,3,8],ops := [(0,.own)] },
 ra 10 [2,3,8,27],ra 16 [2,3,8,27,41],ra 17 [3,8,44,45,46],rh 18 [3,8,44,45,46,47] [3,8,44,45,46],ra 19 [3,8,10,44,45,46],ra 20 [3,8,10,44,45,46,54],ra 21 [3,8,44,45,46],
 { id := 22,live := [3,8,44,45,46],trunc := some 3 },
 ra 23 [2,3,8,27,62],ra 24 [2,3,8,62],ra 11 [3,8,29,30,31],rh 12 [3,8,29,30,31,32] [3,8,29,30,31],ra 13 [3,8,12,29,30,31],ra 14 [3,8,29,30,31],
 { id := 15,live := [3,8,29,30,31],trunc := some 3 },
 ra 25 [4,5]]

theorem comp11 : compF Tryz.prog an11 Tryz.f11 = some a11 := by kernel_rfl

/- graphdb/evolve.Check -/
def c15 : ACode :=
 .seq (rg [op 1 (.box 15 (tm 0)),op 2 (.mov (ci (0)))] [1])
 (.seq (rg [op 6 (.faddr 0 (tm 1)),op 7 (.load none (tm 6)),op 8 (.call .pure 42 [(tm 7)]),mv 5 8,op 9 (.ext (tm 5) 0),op 10 (.ext (tm 5) 1),op 3 (.alloc 5 (.agg [.bool false,.bool false,.bool false,.bool false,.bool false])),⟨none,.store 5 (tm 3) (tm 9),none⟩,mv 4 10] [1,3,4])
 (.seq (.seq (rg [mv 11 4,op 12 (.un .not (tm 11)),mv 13 12,⟨some 14,.faddr 0 (tm 3),some (13,false)⟩,⟨some 15,.load none (tm 14),some (13,false)⟩,⟨some 16,.un .not (tm 15),some (13,false)⟩,mg 17 16 13 false,⟨some 18,.faddr 1 (tm 1),some (17,true)⟩,⟨some 19,.load none (tm 18),some (17,true)⟩,⟨some 20,.bin .neq .str (tm 19) (.cst (.str [])),some (17,true)⟩,⟨some 21,.pick (tm 17) (tm 20) (.cst (.bool false)),some (13,false)⟩,op 22 (.pick (tm 13) (.cst (.bool true)) (tm 21)),mv 23 22,⟨some 24,.faddr 1 (tm 3),some (23,false)⟩,⟨some 25,.load none (tm 24),some (23,false)⟩,⟨some 26,.un .not (tm 25),some (23,false)⟩,mg 27 26 23 false,⟨some 28,.faddr 2 (tm 1),some (27,true)⟩,⟨some 29,.load none (tm 28),some (27,true)⟩,⟨some 30,.bin .neq .str (tm 29) (.cst (.str [])),some (27,true)⟩,⟨some 31,.pick (tm 27) (tm 30) (.cst (.bool false)),some (23,false)⟩,op 32 (.pick (tm 23) (.cst (.bool true)) (tm 31)),mv 33 32,⟨some 34,.faddr 2 (tm 3),some (33,false)⟩,⟨some 35,.load none (tm 34),some (33,false)⟩,⟨some 36,.un .not (tm 35),some (33,false)⟩,mg 37 36 33 false,⟨some 38,.faddr 3 (tm 1),some (37,true)⟩,⟨some 39,.load none (tm 38),some (37,true)⟩,⟨some 40,.bin .neq .str (tm 39) (.cst (.str [])),some (37,true)⟩,⟨some 41,.pick (tm 37) (tm 40) (.cst (.bool false)),some (33,false)⟩,op 42 (.pick (tm 33) (.cst (.bool true)) (tm 41)),mv 43 42,⟨some 44,.faddr 4 (tm 3),some (43,false)⟩,⟨some 45,.load none (tm 44),some (43,false)⟩,⟨some 46,.un .not (tm 45),some (43,false)⟩,mg 47 46 43 false,⟨some 48,.faddr 9 (tm 1),some (47,true)⟩,⟨some 49,.load (some 6) (tm 48),some (47,true)⟩,⟨some 50,.build [.int .i64 0,.int .i64 0,.str [],.str [],.str [],.str []] [],some (47,true)⟩,⟨some 51,.bin .neq (.flat [.int,.int,.str,.str,.str,.str]) (tm 49) (tm 50),some (47,true)⟩,⟨some 52,.pick (tm 47) (tm 51) (.cst (.bool false)),some (43,false)⟩,op 53 (.pick (tm 43) (.cst (.bool true)) (tm 52))] [1,3,53])
 (.cond (tm 53) (.seq (rg [op 2 (.mov (ci (1)))] [2])
 (.ret))
 (.skip)))
 (.seq (.seq (.region (some 25) [] [
 op 54 (.faddr 3 (tm 3)),op 55 (.load none (tm 54)),op 56 (.un .not (tm 55)),mv 57 56,⟨some 58,.faddr 4 (tm 1),some (57,true)⟩,⟨some 59,.load (some 5) (tm 58),some (57,true)⟩,⟨some 60,.call .pure 44 [],some (57,true)⟩,⟨some 61,.call .pure 43 [(tm 59),(tm 60)],some (57,true)⟩,⟨some 62,.bin .neq .int (tm 61) (ci (0)),some (57,true)⟩,op 63 (.pick (tm 57) (tm 62) (.cst (.bool false))),mv 64 63,⟨some 65,.faddr 1 (tm 3),some (64,false)⟩,⟨some 66,.load none (tm 65),some (64,false)⟩,mg 67 66 64 false,⟨some 68,.faddr 2 (tm 3),some (67,true)⟩,⟨some 69,.load none (tm 68),some (67,true)⟩,⟨some 70,.pick (tm 67) (tm 69) (.cst (.bool false)),some (64,false)⟩,mg 71 70 64 false,⟨some 72,.faddr 2 (tm 1),some (71,true)⟩,⟨some 73,.load none (tm 72),some (71,true)⟩,⟨some 74,.faddr 3 (tm 1),some (71,true)⟩,⟨some 75,.load none (tm 74),some (71,true)⟩,⟨some 76,.bin .eql .str (tm 73) (tm 75),some (71,true)⟩,⟨some 77,.pick (tm 71) (tm 76) (.cst (.bool false)),some (64,false)⟩,op 78 (.pick (tm 64) (.cst (.bool true)) (tm 77))] [1,3,78] none)
 (.cond (tm 78) (.seq (rg [op 2 (.mov (ci (1)))] [2])
 (.ret))
 (.skip)))
 (.seq (.seq (rg [op 79 (.faddr 0 (tm 3)),op 80 (.load none (tm 79)),mv 81 80,⟨some 82,.faddr 1 (tm 1),some (81,true)⟩,⟨some 83,.load none (tm 82),some (81,true)⟩,⟨some 84,.call .pure 45 [(tm 83)],some (81,true)⟩,⟨some 85,.un .not (tm 84),some (81,true)⟩,op 86 (.pick (tm 81) (tm 85) (.cst (.bool false))),mv 87 86,⟨some 88,.faddr 1 (tm 3),some (87,false)⟩,⟨some 89,.load none (tm 88),some (87,false)⟩,mg 90 89 87 false,⟨some 91,.faddr 2 (tm 1),some (90,true)⟩,⟨some 92,.load none (tm 91),some (90,true)⟩,⟨some 93,.call .pure 45 [(tm 92)],some (90,true)⟩,⟨some 94,.un .not (tm 93),some (90,true)⟩,⟨some 95,.pick (tm 90) (tm 94) (.cst (.bool false)),some (87,false)⟩,op 96 (.pick (tm 87) (.cst (.bool true)) (tm 95)),mv 97 96,⟨some 98,.faddr 2 (tm 3),some (97,false)⟩,⟨some 99,.load none (tm 98),some (97,false)⟩,mg 100 99 97 false,⟨some 101,.faddr 3 (tm 1),some (100,true)⟩,⟨some 102,.load none (tm 101),some (100,true)⟩,⟨some 103,.call .pure 45 [(tm 102)],some (100,true)⟩,⟨some 104,.un .not (tm 103),some (100,true)⟩,⟨some 105,.pick (tm 100) (tm 104) (.cst (.bool false)),some (97,false)⟩,op 106 (.pick (tm 97) (.cst (.bool true)) (tm 105))] [1,3,106])
 (.cond (tm 106) (.seq (rg [op 2 (.mov (ci (6)))] [2])
 (.ret))
 (.skip)))
 (.seq (.seq (rg [op 107 (.faddr 3 (tm 3)),op 108 (.load none (tm 107)),mv 109 108,⟨some 110,.faddr 4 (tm 1),some (109,true)⟩,⟨some 111,.load (some 5) (tm 110),some (109,true)⟩,⟨some 112,.call .pure 46 [(tm 111)],some (109,true)⟩,⟨some 113,.un .not (tm 112),some (109,true)⟩,op 114 (.pick (tm 109) (tm 113) (.cst (.bool false)))] [1,3,114])
 (.cond (tm 114) (.seq (rg [op 2 (.mov (ci (8)))] [2])
 (.ret))
 (.skip)))
 (.seq (.seq (rg [op 115 (.faddr 4 (tm 3)),op 116 (.load none (tm 115))] [1,116])
 (.cond (tm 116) (.seq (rg [op 117 (.faddr 9 (tm 1)),op 118 (.load (some 6) (tm 117)),op 119 (.call .pure 47 [(tm 118)]),mv 2 119] [2])
 (.ret))
 (.skip)))
 (.seq (rg [op 2 (.mov (ci (0)))] [2])
 (.ret))))))))

def a15 : AFunc := ⟨1,c15,[.tmp 2]⟩

def an15 : List RAnn := [
 ra 0 [1],ra 1 [1,3,4],ra 2 [1,3,53],ra 3 [2],
 { id := 4,head := some 25,live := [1,3,78] },
 ra 5 [2],ra 6 [1,3,106],ra 7 [2],ra 8 [1,3,114],ra 9 [2],ra 10 [1,116],ra 11 [2],ra 12 [2]]

theorem comp15 : compF Tryz.prog an15 Tryz.f15 = some a15 := by kernel_rfl

/- graphdb/graphdbref55.Check -/
def c16 : ACode :=
 .seq (rg [op 1 (.box 15 (tm 0)),op 2 (.mov (ci (0)))] [1])
 (.seq (.seq (rg [op 3 (.load (some 15) (tm 1)),op 4 (.call .pure 48 [(tm 3)]),op 5 (.un .not (tm 4))] [1,5])
 (.cond (tm 5) (.seq (rg [op 2 (.mov (ci (1)))] [2])
 (.ret))
 (.skip)))
 (.seq (.seq (rg [op 6 (.faddr 0 (tm 1)),op 7 (.load none (tm 6)),op 8 (.call .pure 49 [(tm 7)]),mv 9 8,⟨some 10,.faddr 1 (tm 1),some (9,true)⟩,⟨some 11,.load none (tm 10),some (9,true)⟩,⟨some 12,.call .pure 50 [(tm 11)],some (9,true)⟩,⟨some 13,.un .not (tm 12),some (9,true)⟩,op 14 (.pick (tm 9) (tm 13) (.cst (.bool false))),mv 15 14,⟨some 16,.faddr 0 (tm 1),some (15,false)⟩,⟨some 17,.load none (tm 16),some (15,false)⟩,⟨some 18,.call .pure 51 [(tm 17)],some (15,false)⟩,mg 19 18 15 false,⟨some 20,.faddr 2 (tm 1),some (19,true)⟩,⟨some 21,.load none (tm 20),some (19,true)⟩,⟨some 22,.call .pure 50 [(tm 21)],some (19,true)⟩,⟨some 23,.un .not (tm 22),some (19,true)⟩,⟨some 24,.pick (tm 19) (tm 23) (.cst (.bool false)),some (15,false)⟩,op 25 (.pick (tm 15) (.cst (.bool true)) (tm 24)),mv 26 25,⟨some 27,.faddr 0 (tm 1),some (26,false)⟩,⟨some 28,.load none (tm 27),some (26,false)⟩,⟨some 29,.call .pure 52 [(tm 28)],some (26,false)⟩,mg 30 29 26 false,⟨some 31,.faddr 3 (tm 1),some (30,true)⟩,⟨some 32,.load none (tm 31),some (30,true)⟩,⟨some 33,.call .pure 50 [(tm 32)],some (30,true)⟩,⟨some 34,.un .not (tm 33),some (30,true)⟩,⟨some 35,.pick (tm 30) (tm 34) (.cst (.bool false)),some (26,false)⟩,op 36 (.pick (tm 26) (.cst (.bool true)) (tm 35))] [1,36])
 (.cond (tm 36) (.seq (rg [op 2 (.mov (ci (6)))] [2])
 (.ret))
 (.skip)))
 (.seq (.seq (rg [op 37 (.faddr 0 (tm 1)),op 38 (.load none (tm 37)),op 39 (.bin .eql .int (tm 38) (ci (5))),mv 40 39,⟨some 41,.faddr 4 (tm 1),some (40,true)⟩,⟨some 42,.load (some 5) (tm 41),some (40,true)⟩,⟨some 43,.call .pure 53 [(tm 42)],some (40,true)⟩,⟨some 44,.un .not (tm 43),some (40,true)⟩,op 45 (.pick (tm 40) (tm 44) (.cst (.bool false)))] [1,45])
 (.cond (tm 45) (.seq (rg [op 2 (.mov (ci (8)))] [2])
 (.ret))
 (.skip)))
 (.seq (.seq (rg [op 46 (.faddr 0 (tm 1)),op 47 (.load none (tm 46)),op 48 (.call .pure 54 [(tm 47)])] [1,48])
 (.cond (tm 48) (.seq (rg [op 49 (.faddr 9 (tm 1)),op 50 (.load (some 6) (tm 49)),op 51 (.call .pure 55 [(tm 50)]),mv 2 51] [2])
 (.ret))
 (.skip)))
 (.seq (rg [op 2 (.mov (ci (0)))] [2])
 (.ret))))))

def a16 : AFunc := ⟨1,c16,[.tmp 2]⟩

def an16 : List RAnn := [
 ra 0 [1],ra 1 [1,5],ra 2 [2],ra 3 [1,36],ra 4 [2],ra 5 [1,45],ra 6 [2],ra 7 [1,48],ra 8 [2],ra 9 [2]]

theorem comp16 : compF Tryz.prog an16 Tryz.f16 = some a16 := by kernel_rfl

/- graphdb/graphdbref08.SameAll -/
/-- loop 0 of function 17 -/
def l17_0_h : List Nat := [0,1,5]

def l17_0_b : ACode :=
 .seq (.seq (rg [mv 11 5,mv 12 0,op 13 (.len .slice (tm 12)),op 14 (.bin .lss .int (tm 11) (tm 13))] [0,1,5,14])
 (.cond (tm 14) (.skip)
 (.exit 0)))
 (.seq (.block 1 (.seq (.region (some 10) [] [
 mv 17 0,mv 18 5,op 19 (.iaddr 10 (tm 17) (tm 18)),op 20 (.load (some 10) (tm 19)),mv 21 1,mv 22 5,op 23 (.iaddr 10 (tm 21) (tm 22)),op 24 (.load (some 10) (tm 23)),op 25 (.call .pure 56 [(tm 20),(tm 24)]),op 26 (.un .not (tm 25))] [0,1,5,26] none)
 (.cond (tm 26) (.seq (rg [op 4 (.mov (.cst (.bool false)))] [4])
 (.ret))
 (.skip))))
 (rg [mv 15 5,op 16 (.bin .add .int (tm 15) (ci (1))),mv 5 16] [0,1,5]))

def c17 : ACode :=
 .seq (rg [op 4 (.mov (.cst (.bool false)))] [0,1])
 (.seq (.seq (rg [mv 6 0,op 7 (.len .slice (tm 6)),mv 8 1,op 9 (.len .slice (tm 8)),op 10 (.bin .neq .int (tm 7) (tm 9))] [0,1,10])
 (.cond (tm 10) (.seq (rg [op 4 (.mov (.cst (.bool false)))] [4])
 (.ret))
 (.skip)))
 (.seq (.seq (rg [op 5 (.mov (ci (0)))] [0,1,5])
 (.block 0 (.loop l17_0_h l17_0_b)))
 (.seq (rg [op 4 (.mov (.cst (.bool true)))] [4])
 (.ret))))

def a17 : AFunc := ⟨2,c17,[.tmp 4]⟩

def an17 : List RAnn := [
 ra 0 [0,1],ra 1 [0,1,10],ra 2 [4],ra 3 [0,1,5],rh 4 [0,1,5,14] [0,1,5],
 { id := 6,head := some 10,live := [0,1,5,26] },
 ra 7 [4],ra 5 [0,1,5],ra 8 [4]]

theorem comp17 : compF Tryz.prog an17 Tryz.f17 = some a17 := by kernel_rfl

/- graphdb/graphdbref04.Light -/
/-- loop 0 of function 18 -/
def l18_0_h : List Nat := [0,1,5,6]

def l18_0_b : ACode :=
 .seq (.seq (rg [mv 19 6,mv 20 0,mv 21 5,op 22 (.iaddr 1 (tm 20) (tm 21)),op 23 (.load none (tm 22)),op 24 (.len .slice (tm 23)),op 25 (.bin .lss .int (tm 19) (tm 24)),mv 26 25,mg 27 1 26 true,⟨some 28,.bin .geq .int (tm 27) (ci (0)),some (26,true)⟩,op 29 (.pick (tm 26) (tm 28) (.cst (.bool false)))] [0,1,5,6,29])
 (.cond (tm 29) (.skip)
 (.exit 2)))
 (.seq (.block 3 (rg [mv 32 0,mv 33 5,op 34 (.iaddr 1 (tm 32) (tm 33)),op 35 (.load none (tm 34)),mv 36 6,op 37 (.iaddr 5 (tm 35) (tm 36)),op 38 (.load (some 5) (tm 37)),mv 39 1,op 40 (.call .pure 57 [(tm 38),(tm 39),(ci (12))]),mv 1 40] [0,1,5,6]))
 (rg [mv 30 6,op 31 (.bin .add .int (tm 30) (ci (1))),mv 6 31] [0,1,5,6]))

/-- loop 1 of function 18 -/
def l18_1_h : List Nat := [0,1,5]

def l18_1_b : ACode :=
 .seq (.seq (rg [mv 7 5,mv 8 0,op 9 (.len .slice (tm 8)),op 10 (.bin .lss .int (tm 7) (tm 9)),mv 11 10,mg 12 1 11 true,⟨some 13,.bin .geq .int (tm 12) (ci (0)),some (11,true)⟩,op 14 (.pick (tm 11) (tm 13) (.cst (.bool false)))] [0,1,5,14])
 (.cond (tm 14) (.skip)
 (.exit 0)))
 (.seq (.block 1 (.seq (rg [mv 17 1,op 18 (.bin .sub .int (tm 17) (ci (1))),mv 1 18] [0,1,5])
 (.seq (rg [op 6 (.mov (ci (0)))] [0,1,5,6])
 (.block 2 (.loop l18_0_h l18_0_b)))))
 (rg [mv 15 5,op 16 (.bin .add .int (tm 15) (ci (1))),mv 5 16] [0,1,5]))

def c18 : ACode :=
 .seq (rg [op 4 (.mov (.cst (.bool false)))] [0,1])
 (.seq (.seq (rg [op 5 (.mov (ci (0)))] [0,1,5])
 (.block 0 (.loop l18_1_h l18_1_b)))
 (.seq (rg [mv 41 1,op 42 (.bin .geq .int (tm 41) (ci (0))),mv 4 42] [4])
 (.ret)))

def a18 : AFunc := ⟨2,c18,[.tmp 4]⟩

def an18 : List RAnn := [
 ra 0 [0,1],ra 1 [0,1,5],rh 2 [0,1,5,14] [0,1,5],ra 4 [0,1,5],ra 5 [0,1,5,6],rh 6 [0,1,5,6,29] [0,1,5,6],ra 8 [0,1,5,6],ra 7 [0,1,5,6],ra 3 [0,1,5],ra 9 [4]]

theorem comp18 : compF Tryz.prog an18 Tryz.f18 = some a18 := by kernel_rfl

/- graphdb/schema.Valid -/
/-- loop 0 of function 19 -/
def l19_0_h : List Nat := [0,5,6,7]

def l19_0_b : ACode :=
 .seq (rg [op 8 (.bin .lss .int (tm 7) (tm 6))] [0,5,6,7,8])
 (.seq (.cond (tm 8) (.skip)
 (.exit 0))
 (.seq (.block 1 (.seq (rg [mv 9 7,op 10 (.iaddr 6 (tm 5) (tm 7)),op 11 (.load (some 6) (tm 10)),op 4 (.alloc 6 (.agg [.int .i64 0,.int .i64 0,.str [],.str [],.str [],.str []])),mv 3 9,⟨none,.store 6 (tm 4) (tm 11),none⟩] [0,3,4,5,6,7])
 (.seq (.region (some 17) [] [
 op 12 (.load (some 6) (tm 4)),op 13 (.call .pure 47 [(tm 12)]),op 14 (.bin .neq .int (tm 13) (ci (0))),mv 15 14,mg 16 3 15 false,⟨some 17,.bin .gtr .int (tm 16) (ci (0)),some (15,false)⟩,mg 18 17 15 false,mg 19 0 18 true,mg 20 3 18 true,⟨some 21,.bin .sub .int (tm 20) (ci (1)),some (18,true)⟩,⟨some 22,.iaddr 6 (tm 19) (tm 21),some (18,true)⟩,⟨some 23,.load (some 6) (tm 22),some (18,true)⟩,⟨some 24,.load (some 6) (tm 4),some (18,true)⟩,⟨some 25,.call .pure 24 [(tm 23),(tm 24)],some (18,true)⟩,⟨some 26,.bin .geq .int (tm 25) (ci (0)),some (18,true)⟩,⟨some 27,.pick (tm 18) (tm 26) (.cst (.bool false)),some (15,false)⟩,op 28 (.pick (tm 15) (.cst (.bool true)) (tm 27))] [0,5,6,7,28] none)
 (.cond (tm 28) (.seq (rg [op 2 (.mov (.cst (.bool false)))] [2])
 (.ret))
 (.skip)))))
 (.region none [] [op 29 (.bin .add .int (tm 7) (ci (1))),mv 7 29] [0,5,6,7] (some 0))))

def c19 : ACode :=
 .seq (rg [op 2 (.mov (.cst (.bool false)))] [0])
 (.seq (.seq (rg [mv 5 0,op 6 (.len .slice (tm 5)),op 7 (.mov (ci (0)))] [0,5,6,7])
 (.block 0 (.loop l19_0_h l19_0_b)))
 (.seq (rg [mv 30 0,op 31 (.len .slice (tm 30)),op 32 (.bin .leq .int (tm 31) (ci (40))),mv 2 32] [2])
 (.ret)))

def a19 : AFunc := ⟨1,c19,[.tmp 2]⟩

def an19 : List RAnn := [
 ra 0 [0],ra 1 [0,5,6,7],rh 2 [0,5,6,7,8] [0,5,6,7],ra 3 [0,3,4,5,6,7],
 { id := 4,head := some 17,live := [0,5,6,7,28] },
 ra 5 [2],
 { id := 6,live := [0,5,6,7],trunc := some 0 },
 ra 7 [2]]

theorem comp19 : compF Tryz.prog an19 Tryz.f19 = some a19 := by kernel_rfl

/- graphdb/schema.Add -/
def c20 : ACode :=
 .seq (rg [op 3 (.box 6 (tm 1)),op 4 (.mov (.cst (.sl false []))),op 5 (.mov (ci (0)))] [0,3])
 (.seq (.seq (rg [mv 9 0,op 10 (.call .pure 19 [(tm 9)]),op 11 (.un .not (tm 10))] [0,3,11])
 (.cond (tm 11) (.seq (rg [op 4 (.mov (.cst (.sl false []))),op 5 (.mov (ci (19)))] [4,5])
 (.ret))
 (.skip)))
 (.seq (.seq (rg [op 12 (.load (some 6) (tm 3)),op 13 (.call .pure 47 [(tm 12)]),mv 6 13] [0,3,6])
 (.seq (rg [mv 14 6,op 15 (.bin .neq .int (tm 14) (ci (0)))] [0,3,6,15])
 (.cond (tm 15) (.seq (rg [mv 16 6,op 4 (.mov (.cst (.sl false []))),mv 5 16] [4,5])
 (.ret))
 (.skip))))
 (.seq (rg [mv 18 0,op 19 (.load (some 6) (tm 3)),op 20 (.call .pure 58 [(tm 18),(tm 19),(.cst (.fn 24 []))]),mv 17 20,op 21 (.ext (tm 17) 0),op 22 (.ext (tm 17) 1),mv 7 21,mv 8 22] [0,3,7,8])
 (.seq (.seq (rg [mv 23 8] [0,3,7,23])
 (.cond (tm 23) (.seq (rg [op 4 (.mov (.cst (.sl false []))),op 5 (.mov (ci (7)))] [4,5])
 (.ret))
 (.skip)))
 (.seq (.seq (rg [mv 24 0,op 25 (.len .slice (tm 24)),op 26 (.bin .eql .int (tm 25) (ci (40)))] [0,3,7,26])
 (.cond (tm 26) (.seq (rg [op 4 (.mov (.cst (.sl false []))),op 5 (.mov (ci (20)))] [4,5])
 (.ret))
 (.skip)))
 (.seq (.par 5 [(1,3),(1,4)] [] [
 mv 27 0,op 28 (.call .own 60 [(tm 27)]),mv 29 7,op 30 (.load (some 6) (tm 3)),op 31 (.lit true 6 (.agg [.int .i64 0,.int .i64 0,.str [],.str [],.str [],.str []]) 1 [(0,(tm 30))]),op 32 (.call .share 59 [(tm 28),(tm 29),(tm 31)]),mv 4 32,op 5 (.mov (ci (0)))] [4,5] none)
 (.ret)))))))

def a20 : AFunc := ⟨2,c20,[.tmp 4,.tmp 5]⟩

def an20 : List RAnn := [
 ra 0 [0,3],ra 1 [0,3,11],ra 2 [4,5],ra 3 [0,3,6],ra 4 [0,3,6,15],ra 5 [4,5],ra 6 [0,3,7,8],ra 7 [0,3,7,23],ra 8 [4,5],ra 9 [0,3,7,26],ra 10 [4,5],
 { id := 11,head := some 5,live := [4,5],ops := [(1,.mode .own),(4,.own),(5,.mode .share)],par := true }]

theorem comp20 : compF Tryz.prog an20 Tryz.f20 = some a20 := by kernel_rfl

/- graphdb/schema.Drop -/
def c21 : ACode :=
 .seq (rg [op 3 (.box 6 (tm 1)),op 4 (.mov (.cst (.sl false []))),op 5 (.mov (ci (0)))] [0,3])
 (.seq (.seq (rg [mv 9 0,op 10 (.call .pure 19 [(tm 9)]),op 11 (.un .not (tm 10))] [0,3,11])
 (.cond (tm 11) (.seq (rg [op 4 (.mov (.cst (.sl false []))),op 5 (.mov (ci (19)))] [4,5])
 (.ret))
 (.skip)))
 (.seq (.seq (rg [op 12 (.load (some 6) (tm 3)),op 13 (.call .pure 47 [(tm 12)]),mv 6 13] [0,3,6])
 (.seq (rg [mv 14 6,op 15 (.bin .neq .int (tm 14) (ci (0)))] [0,3,6,15])
 (.cond (tm 15) (.seq (rg [mv 16 6,op 4 (.mov (.cst (.sl false []))),mv 5 16] [4,5])
 (.ret))
 (.skip))))
 (.seq (rg [mv 18 0,op 19 (.load (some 6) (tm 3)),op 20 (.call .pure 58 [(tm 18),(tm 19),(.cst (.fn 24 []))]),mv 17 20,op 21 (.ext (tm 17) 0),op 22 (.ext (tm 17) 1),mv 7 21,mv 8 22] [0,7,8])
 (.seq (.seq (rg [mv 23 8,op 24 (.un .not (tm 23))] [0,7,24])
 (.cond (tm 24) (.seq (rg [op 4 (.mov (.cst (.sl false []))),op 5 (.mov (ci (23)))] [4,5])
 (.ret))
 (.skip)))
 (.seq (rg [mv 25 0,op 26 (.call .own 60 [(tm 25)]),mv 27 7,mv 28 7,op 29 (.bin .add .int (tm 28) (ci (1))),op 30 (.call .share 61 [(tm 26),(tm 27),(tm 29)]),mv 4 30,op 5 (.mov (ci (0)))] [4,5])
 (.ret))))))

def a21 : AFunc := ⟨2,c21,[.tmp 4,.tmp 5]⟩

def an21 : List RAnn := [
 ra 0 [0,3],ra 1 [0,3,11],ra 2 [4,5],ra 3 [0,3,6],ra 4 [0,3,6,15],ra 5 [4,5],ra 6 [0,7,8],ra 7 [0,7,24],ra 8 [4,5],
 { id := 9,live := [4,5],ops := [(1,.mode .own),(5,.mode .share)] }]

theorem comp21 : compF Tryz.prog an21 Tryz.f21 = some a21 := by kernel_rfl

/- graphdb/evolve.rule -/
def c22 : ACode :=
 .seq (rg [op 2 (.box 6 (tm 0)),op 3 (.box 15 (tm 1)),op 4 (.alloc 6 (.agg [.int .i64 0,.int .i64 0,.str [],.str [],.str [],.str []])),op 5 (.mov (.cst (.bool false)))] [2,3,4])
 (.seq (.seq (rg [op 6 (.faddr 0 (tm 3)),op 7 (.load none (tm 6))] [2,3,4,7])
 (.block 0 (.seq (rg [op 9 (.bin .eql .int (tm 7) (ci (1))),mv 8 9] [2,3,4,7,8])
 (.cond (tm 8) (.seq (.seq (rg [op 10 (.load (some 6) (tm 2)),op 11 (.call .pure 62 [(tm 10)])] [2,3,4,11])
 (.cond (tm 11) (rg [op 12 (.faddr 2 (tm 2)),op 13 (.load (some 15) (tm 3)),op 14 (.call .share 63 [(tm 12),(tm 13)])] [2,3,4])
 (.skip)))
 (.seq (rg [op 15 (.faddr 0 (tm 2)),op 16 (.load none (tm 15)),op 17 (.bin .eql .int (tm 16) (ci (6)))] [2,3,4,17])
 (.cond (tm 17) (.seq (rg [op 18 (.faddr 4 (tm 2)),op 19 (.load (some 15) (tm 3)),op 20 (.call .share 63 [(tm 18),(tm 19)])] [2,3,4])
 (rg [op 21 (.faddr 5 (tm 2)),op 22 (.load (some 15) (tm 3)),op 23 (.call .share 63 [(tm 21),(tm 22)])] [2,4]))
 (.skip))))
 (.seq (rg [op 25 (.bin .eql .int (tm 7) (ci (2))),mv 24 25] [2,3,4,7,24])
 (.cond (tm 24) (.seq (rg [op 26 (.load (some 6) (tm 2)),op 27 (.call .pure 62 [(tm 26)]),op 28 (.un .not (tm 27))] [2,3,4,28])
 (.cond (tm 28) (rg [op 29 (.faddr 2 (tm 2)),op 30 (.load (some 15) (tm 3)),op 31 (.call .share 63 [(tm 29),(tm 30)])] [2,4])
 (.skip)))
 (.seq (rg [op 33 (.bin .eql .int (tm 7) (ci (3))),mv 32 33] [2,3,4,7,32])
 (.cond (tm 32) (.seq (rg [op 34 (.load (some 6) (tm 2)),op 35 (.call .pure 62 [(tm 34)]),mv 36 35,⟨some 37,.faddr 2 (tm 2),some (36,true)⟩,⟨some 38,.load none (tm 37),some (36,true)⟩,⟨some 39,.faddr 1 (tm 3),some (36,true)⟩,⟨some 40,.load none (tm 39),some (36,true)⟩,⟨some 41,.bin .eql .str (tm 38) (tm 40),some (36,true)⟩,op 42 (.pick (tm 36) (tm 41) (.cst (.bool false)))] [2,3,4,42])
 (.cond (tm 42) (rg [op 43 (.faddr 3 (tm 2)),op 44 (.load (some 15) (tm 3)),op 45 (.call .share 63 [(tm 43),(tm 44)])] [2,4])
 (.skip)))
 (.seq (rg [op 47 (.bin .eql .int (tm 7) (ci (4))),mv 46 47] [2,3,4,46])
 (.cond (tm 46) (.seq (.par 20 [(13,18),(15,18)] [] [
 op 48 (.load (some 6) (tm 2)),op 49 (.load (some 6) (tm 2)),op 50 (.call .pure 62 [(tm 49)]),op 51 (.un .not (tm 50)),mv 52 51,⟨some 53,.faddr 2 (tm 2),some (52,false)⟩,⟨some 54,.load none (tm 53),some (52,false)⟩,⟨some 55,.faddr 1 (tm 3),some (52,false)⟩,⟨some 56,.load none (tm 55),some (52,false)⟩,⟨some 57,.bin .neq .str (tm 54) (tm 56),some (52,false)⟩,op 58 (.pick (tm 52) (.cst (.bool true)) (tm 57)),mv 59 58,⟨some 60,.faddr 3 (tm 2),some (59,false)⟩,⟨some 61,.load none (tm 60),some (59,false)⟩,⟨some 62,.faddr 2 (tm 3),some (59,false)⟩,⟨some 63,.load none (tm 62),some (59,false)⟩,⟨some 64,.bin .neq .str (tm 61) (tm 63),some (59,false)⟩,op 65 (.pick (tm 59) (.cst (.bool true)) (tm 64)),⟨none,.store 6 (tm 4) (tm 48),none⟩,mv 5 65] [4,5] none)
 (.ret))
 (.skip)))))))))))
 (.seq (rg [op 66 (.load (some 6) (tm 2)),⟨none,.store 6 (tm 4) (tm 66),none⟩,op 5 (.mov (.cst (.bool true)))] [4,5])
 (.ret)))

def a22 : AFunc := ⟨2,c22,[.cell 4 (some 6),.tmp 5]⟩

def an22 : List RAnn := [
 ra 0 [2,3,4],ra 1 [2,3,4,7],ra 2 [2,3,4,7,8],ra 3 [2,3,4,11],
 { id := 4,live := [2,3,4],ops := [(2,.mode .share)] },
 ra 5 [2,3,4,17],
 { id := 6,live := [2,3,4],ops := [(2,.mode .share)] },
 { id := 7,live := [2,4],ops := [(2,.mode .share)] },
 ra 8 [2,3,4,7,24],ra 9 [2,3,4,28],
 { id := 10,live := [2,4],ops := [(2,.mode .share)] },
 ra 11 [2,3,4,7,32],ra 12 [2,3,4,42],
 { id := 13,live := [2,4],ops := [(2,.mode .share)] },
 ra 14 [2,3,4,46],
 { id := 15,head := some 20,live := [4,5],par := true },
 ra 16 [4,5]]

theorem comp22 : compF Tryz.prog an22 Tryz.f22 = some a22 := by kernel_rfl

/- slices.SortFunc[[]graphdb/api.Rule,graphdb/api.Rule] -/
def c23 : ACode :=
 .seq (rg [mv 5 0,op 6 (.len .slice (tm 5)),mv 4 6] [0,1,4])
 (rg [mv 7 0,mv 8 4,mv 9 4,op 10 (.conv .u64 (tm 9)),op 11 (.call .pure 65 [(tm 10)]),mv 12 1,op 13 (.call .share 64 [(tm 7),(ci (0)),(tm 8),(tm 11),(tm 12)])] [])

def a23 : AFunc := ⟨2,c23,[]⟩

def an23 : List RAnn := [
 ra 0 [0,1,4],
 { id := 1,ops := [(6,.mode .share)] }]

theorem comp23 : compF Tryz.prog an23 Tryz.f23 = some a23 := by kernel_rfl

/- graphdb/schema.Order -/
def c24 : ACode :=
 .seq (rg [op 2 (.box 6 (tm 0)),op 3 (.box 6 (tm 1)),op 4 (.mov (ci (0)))] [2,3])
 (.seq (.region (some 33) [] [
 op 5 (.faddr 0 (tm 2)),op 6 (.load none (tm 5)),op 7 (.faddr 0 (tm 3)),op 8 (.load none (tm 7)),op 9 (.call .pure 67 [(tm 6),(tm 8)]),op 10 (.faddr 2 (tm 2)),op 11 (.load none (tm 10)),op 12 (.faddr 2 (tm 3)),op 13 (.load none (tm 12)),op 14 (.call .pure 68 [(tm 11),(tm 13)]),op 15 (.faddr 3 (tm 2)),op 16 (.load none (tm 15)),op 17 (.faddr 3 (tm 3)),op 18 (.load none (tm 17)),op 19 (.call .pure 68 [(tm 16),(tm 18)]),op 20 (.faddr 1 (tm 2)),op 21 (.load none (tm 20)),op 22 (.faddr 1 (tm 3)),op 23 (.load none (tm 22)),op 24 (.call .pure 67 [(tm 21),(tm 23)]),op 25 (.faddr 4 (tm 2)),op 26 (.load none (tm 25)),op 27 (.faddr 4 (tm 3)),op 28 (.load none (tm 27)),op 29 (.call .pure 68 [(tm 26),(tm 28)]),op 30 (.faddr 5 (tm 2)),op 31 (.load none (tm 30)),op 32 (.faddr 5 (tm 3)),op 33 (.load none (tm 32)),op 34 (.call .pure 68 [(tm 31),(tm 33)]),op 35 (.lit false 1 (.int .i64 0) 6 [(0,(tm 9)),(1,(tm 14)),(2,(tm 19)),(3,(tm 24)),(4,(tm 29)),(5,(tm 34))]),op 36 (.call .pure 66 [(tm 35)]),mv 4 36] [4] none)
 (.ret))

def a24 : AFunc := ⟨2,c24,[.tmp 4]⟩

def an24 : List RAnn := [
 ra 0 [2,3],
 { id := 1,head := some 33,live := [4] }]

theorem comp24 : compF Tryz.prog an24 Tryz.f24 = some a24 := by kernel_rfl

/- slices.Compact[[]graphdb/api.Rule,graphdb/api.Rule] -/
/-- loop 0 of function 25 -/
def l25_0_h : List Nat := [0,3,4,5]

def l25_0_b : ACode :=
 .seq (.seq (rg [mv 29 5,mv 30 4,op 31 (.len .slice (tm 30)),op 32 (.bin .lss .int (tm 29) (tm 31))] [0,3,4,5,32])
 (.cond (tm 32) (.skip)
 (.exit 2)))
 (.seq (.block 3 (.seq (.region (some 10) [] [
 mv 35 4,mv 36 5,op 37 (.iaddr 6 (tm 35) (tm 36)),op 38 (.load (some 6) (tm 37)),mv 39 4,mv 40 5,op 41 (.bin .sub .int (tm 40) (ci (1))),op 42 (.iaddr 6 (tm 39) (tm 41)),op 43 (.load (some 6) (tm 42)),op 44 (.bin .neq (.flat [.int,.int,.str,.str,.str,.str]) (tm 38) (tm 43))] [0,3,4,5,44] none)
 (.cond (tm 44) (.seq (rg [mv 45 0,mv 46 3,mv 47 4,mv 48 5,op 49 (.iaddr 6 (tm 47) (tm 48)),op 50 (.load (some 6) (tm 49)),op 51 (.iaddr 6 (tm 45) (tm 46)),⟨none,.store 6 (tm 51) (tm 50),none⟩] [0,3,4,5])
 (rg [mv 52 3,op 53 (.bin .add .int (tm 52) (ci (1))),mv 3 53] [0,3,4,5]))
 (.skip))))
 (rg [mv 33 5,op 34 (.bin .add .int (tm 33) (ci (1))),mv 5 34] [0,3,4,5]))

/-- loop 1 of function 25 -/
def l25_1_h : List Nat := [0,3]

def l25_1_b : ACode :=
 .seq (.seq (rg [mv 10 3,mv 11 0,op 12 (.len .slice (tm 11)),op 13 (.bin .lss .int (tm 10) (tm 12))] [0,3,13])
 (.cond (tm 13) (.skip)
 (.exit 0)))
 (.seq (.block 1 (.seq (.region (some 10) [] [
 mv 16 0,mv 17 3,op 18 (.iaddr 6 (tm 16) (tm 17)),op 19 (.load (some 6) (tm 18)),mv 20 0,mv 21 3,op 22 (.bin .sub .int (tm 21) (ci (1))),op 23 (.iaddr 6 (tm 20) (tm 22)),op 24 (.load (some 6) (tm 23)),op 25 (.bin .eql (.flat [.int,.int,.str,.str,.str,.str]) (tm 19) (tm 24))] [0,3,25] none)
 (.cond (tm 25) (.seq (rg [mv 26 0,mv 27 3,op 28 (.slice 6 (tm 26) (some (tm 27)) none),mv 4 28] [0,3,4])
 (.seq (.seq (rg [op 5 (.mov (ci (1)))] [0,3,4,5])
 (.block 2 (.loop l25_0_h l25_0_b)))
 (.seq (rg [mv 54 0,mv 55 3,op 56 (.slice 6 (tm 54) (some (tm 55)) none),⟨none,.clear 6 (tm 56),none⟩] [0,3])
 (.seq (rg [mv 57 0,mv 58 3,op 59 (.slice 6 (tm 57) none (some (tm 58))),mv 2 59] [2])
 (.ret)))))
 (.skip))))
 (rg [mv 14 3,op 15 (.bin .add .int (tm 14) (ci (1))),mv 3 15] [0,3]))

def c25 : ACode :=
 .seq (rg [op 2 (.mov (.cst (.sl false [])))] [0])
 (.seq (.seq (rg [mv 6 0,op 7 (.len .slice (tm 6)),op 8 (.bin .lss .int (tm 7) (ci (2)))] [0,8])
 (.cond (tm 8) (.seq (rg [mv 9 0,mv 2 9] [2])
 (.ret))
 (.skip)))
 (.seq (.seq (rg [op 3 (.mov (ci (1)))] [0,3])
 (.block 0 (.loop l25_1_h l25_1_b)))
 (.seq (rg [mv 60 0,mv 2 60] [2])
 (.ret))))

def a25 : AFunc := ⟨1,c25,[.tmp 2]⟩

def an25 : List RAnn := [
 ra 0 [0],ra 1 [0,8],ra 2 [2],ra 3 [0,3],rh 4 [0,3,13] [0,3],
 { id := 6,head := some 10,live := [0,3,25] },
 ra 7 [0,3,4],ra 8 [0,3,4,5],rh 9 [0,3,4,5,32] [0,3,4,5],
 { id := 11,head := some 10,live := [0,3,4,5,44] },
 ra 12 [0,3,4,5],ra 13 [0,3,4,5],ra 10 [0,3,4,5],ra 14 [0,3],ra 15 [2],ra 5 [0,3],ra 16 [2]]

theorem comp25 : compF Tryz.prog an25 Tryz.f25 = some a25 := by kernel_rfl

/- graphdb/graphdbref09.Valid -/
/-- loop 0 of function 26 -/
def l26_0_h : List Nat := [0,3]

def l26_0_b : ACode :=
 .seq (.seq (rg [mv 7 3,mv 8 0,op 9 (.len .slice (tm 8)),op 10 (.bin .lss .int (tm 7) (tm 9))] [0,3,10])
 (.cond (tm 10) (.skip)
 (.exit 0)))
 (.seq (.block 1 (.seq (.region (some 23) [] [
 mv 13 0,mv 14 3,op 15 (.iaddr 6 (tm 13) (tm 14)),op 16 (.load (some 6) (tm 15)),op 17 (.call .pure 55 [(tm 16)]),op 18 (.bin .neq .int (tm 17) (ci (0))),mv 19 18,mg 20 3 19 false,⟨some 21,.bin .gtr .int (tm 20) (ci (0)),some (19,false)⟩,mg 22 21 19 false,mg 23 0 22 true,mg 24 3 22 true,⟨some 25,.bin .sub .int (tm 24) (ci (1)),some (22,true)⟩,⟨some 26,.iaddr 6 (tm 23) (tm 25),some (22,true)⟩,⟨some 27,.load (some 6) (tm 26),some (22,true)⟩,mg 28 0 22 true,mg 29 3 22 true,⟨some 30,.iaddr 6 (tm 28) (tm 29),some (22,true)⟩,⟨some 31,.load (some 6) (tm 30),some (22,true)⟩,⟨some 32,.call .pure 69 [(tm 27),(tm 31)],some (22,true)⟩,⟨some 33,.bin .geq .int (tm 32) (ci (0)),some (22,true)⟩,⟨some 34,.pick (tm 22) (tm 33) (.cst (.bool false)),some (19,false)⟩,op 35 (.pick (tm 19) (.cst (.bool true)) (tm 34))] [0,3,35] none)
 (.cond (tm 35) (.seq (rg [op 2 (.mov (.cst (.bool false)))] [2])
 (.ret))
 (.skip))))
 (rg [mv 11 3,op 12 (.bin .add .int (tm 11) (ci (1))),mv 3 12] [0,3]))

def c26 : ACode :=
 .seq (rg [op 2 (.mov (.cst (.bool false)))] [0])
 (.seq (.seq (rg [mv 4 0,op 5 (.len .slice (tm 4)),op 6 (.bin .gtr .int (tm 5) (ci (40)))] [0,6])
 (.cond (tm 6) (.seq (rg [op 2 (.mov (.cst (.bool false)))] [2])
 (.ret))
 (.skip)))
 (.seq (.seq (rg [op 3 (.mov (ci (0)))] [0,3])
 (.block 0 (.loop l26_0_h l26_0_b)))
 (.seq (rg [op 2 (.mov (.cst (.bool true)))] [2])
 (.ret))))

def a26 : AFunc := ⟨1,c26,[.tmp 2]⟩

def an26 : List RAnn := [
 ra 0 [0],ra 1 [0,6],ra 2 [2],ra 3 [0,3],rh 4 [0,3,10] [0,3],
 { id := 6,head := some 23,live := [0,3,35] },
 ra 7 [2],ra 5 [0,3],ra 8 [2]]

theorem comp26 : compF Tryz.prog an26 Tryz.f26 = some a26 := by kernel_rfl

/- graphdb/graphdbref09.Add -/
/-- loop 0 of function 27 -/
def l27_0_h : List Nat := [0,3,7,8]

def l27_0_b : ACode :=
 .seq (.seq (.region (some 13) [] [
 mv 25 8,mv 26 0,op 27 (.len .slice (tm 26)),op 28 (.bin .lss .int (tm 25) (tm 27)),mv 29 28,mg 30 0 29 true,mg 31 8 29 true,⟨some 32,.iaddr 6 (tm 30) (tm 31),some (29,true)⟩,⟨some 33,.load (some 6) (tm 32),some (29,true)⟩,⟨some 34,.load (some 6) (tm 3),some (29,true)⟩,⟨some 35,.call .pure 69 [(tm 33),(tm 34)],some (29,true)⟩,⟨some 36,.bin .lss .int (tm 35) (ci (0)),some (29,true)⟩,op 37 (.pick (tm 29) (tm 36) (.cst (.bool false)))] [0,3,7,8,37] none)
 (.cond (tm 37) (.skip)
 (.exit 0)))
 (.seq (.block 1 (rg [mv 40 7,mv 41 0,mv 42 8,op 43 (.iaddr 6 (tm 41) (tm 42)),op 44 (.load (some 6) (tm 43)),op 45 (.lit false 6 (.agg [.int .i64 0,.int .i64 0,.str [],.str [],.str [],.str []]) 1 [(0,(tm 44))]),op 46 (.append 6 80 (tm 40) (tm 45)),mv 7 46] [0,3,7,8]))
 (rg [mv 38 8,op 39 (.bin .add .int (tm 38) (ci (1))),mv 8 39] [0,3,7,8]))

/-- loop 1 of function 27 -/
def l27_1_h : List Nat := [0,7,10]

def l27_1_b : ACode :=
 .seq (.seq (rg [mv 54 10,mv 55 0,op 56 (.len .slice (tm 55)),op 57 (.bin .lss .int (tm 54) (tm 56))] [0,7,10,57])
 (.cond (tm 57) (.skip)
 (.exit 2)))
 (.seq (.block 3 (rg [mv 60 7,mv 61 0,mv 62 10,op 63 (.iaddr 6 (tm 61) (tm 62)),op 64 (.load (some 6) (tm 63)),op 65 (.lit false 6 (.agg [.int .i64 0,.int .i64 0,.str [],.str [],.str [],.str []]) 1 [(0,(tm 64))]),op 66 (.append 6 80 (tm 60) (tm 65)),mv 7 66] [0,7,10]))
 (rg [mv 58 10,op 59 (.bin .add .int (tm 58) (ci (1))),mv 10 59] [0,7,10]))

def c27 : ACode :=
 .seq (rg [op 3 (.box 6 (tm 1)),op 4 (.mov (.cst (.sl false []))),op 5 (.mov (ci (0)))] [0,3])
 (.seq (.seq (rg [mv 11 0,op 12 (.call .pure 26 [(tm 11)]),op 13 (.un .not (tm 12))] [0,3,13])
 (.cond (tm 13) (.seq (rg [op 4 (.mov (.cst (.sl false []))),op 5 (.mov (ci (19)))] [4,5])
 (.ret))
 (.skip)))
 (.seq (.seq (rg [op 14 (.load (some 6) (tm 3)),op 15 (.call .pure 55 [(tm 14)]),mv 6 15] [0,3,6])
 (.seq (rg [mv 16 6,op 17 (.bin .neq .int (tm 16) (ci (0)))] [0,3,6,17])
 (.cond (tm 17) (.seq (rg [mv 18 6,op 4 (.mov (.cst (.sl false []))),mv 5 18] [4,5])
 (.ret))
 (.skip))))
 (.seq (.seq (rg [mv 19 0,op 20 (.load (some 6) (tm 3)),op 21 (.call .pure 70 [(tm 19),(tm 20)])] [0,3,21])
 (.cond (tm 21) (.seq (rg [op 4 (.mov (.cst (.sl false []))),op 5 (.mov (ci (7)))] [4,5])
 (.ret))
 (.skip)))
 (.seq (.seq (rg [mv 22 0,op 23 (.len .slice (tm 22)),op 24 (.bin .eql .int (tm 23) (ci (40)))] [0,3,24])
 (.cond (tm 24) (.seq (rg [op 4 (.mov (.cst (.sl false []))),op 5 (.mov (ci (20)))] [4,5])
 (.ret))
 (.skip)))
 (.seq (rg [op 7 (.newown 6)] [0,3,7])
 (.seq (.seq (rg [op 8 (.mov (ci (0)))] [0,3,7,8])
 (.block 0 (.loop l27_0_h l27_0_b)))
 (.seq (rg [mv 47 7,op 48 (.len .slice (tm 47)),mv 9 48] [0,3,7,9])
 (.seq (rg [mv 49 7,op 50 (.load (some 6) (tm 3)),op 51 (.lit false 6 (.agg [.int .i64 0,.int .i64 0,.str [],.str [],.str [],.str []]) 1 [(0,(tm 50))]),op 52 (.append 6 80 (tm 49) (tm 51)),mv 7 52] [0,7,9])
 (.seq (.seq (rg [mv 53 9,mv 10 53] [0,7,10])
 (.block 2 (.loop l27_1_h l27_1_b)))
 (.seq (rg [mv 67 7,mv 4 67,op 5 (.mov (ci (0)))] [4,5])
 (.ret)))))))))))

def a27 : AFunc := ⟨2,c27,[.tmp 4,.tmp 5]⟩

def an27 : List RAnn := [
 ra 0 [0,3],ra 1 [0,3,13],ra 2 [4,5],ra 3 [0,3,6],ra 4 [0,3,6,17],ra 5 [4,5],ra 6 [0,3,21],ra 7 [4,5],ra 8 [0,3,24],ra 9 [4,5],
 { id := 10,live := [0,3,7],ops := [(0,.own)] },
 ra 11 [0,3,7,8],
 { id := 12,head := some 13,live := [0,3,7,8,37],hdr := [0,3,7,8] },
 ra 14 [0,3,7,8],ra 13 [0,3,7,8],ra 15 [0,3,7,9],ra 16 [0,7,9],ra 17 [0,7,10],rh 18 [0,7,10,57] [0,7,10],ra 20 [0,7,10],ra 19 [0,7,10],ra 21 [4,5]]

theorem comp27 : compF Tryz.prog an27 Tryz.f27 = some a27 := by kernel_rfl

/- graphdb/graphdbref09.Drop -/
/-- loop 0 of function 28 -/
def l28_0_h : List Nat := [0,3,7,8]

def l28_0_b : ACode :=
 .seq (.seq (rg [mv 21 8,mv 22 0,op 23 (.len .slice (tm 22)),op 24 (.bin .lss .int (tm 21) (tm 23))] [0,3,7,8,24])
 (.cond (tm 24) (.skip)
 (.exit 0)))
 (.seq (.block 1 (.seq (.region (some 7) [] [
 mv 27 0,mv 28 8,op 29 (.iaddr 6 (tm 27) (tm 28)),op 30 (.load (some 6) (tm 29)),op 31 (.load (some 6) (tm 3)),op 32 (.call .pure 69 [(tm 30),(tm 31)]),op 33 (.bin .neq .int (tm 32) (ci (0)))] [0,3,7,8,33] none)
 (.cond (tm 33) (rg [mv 34 7,mv 35 0,mv 36 8,op 37 (.iaddr 6 (tm 35) (tm 36)),op 38 (.load (some 6) (tm 37)),op 39 (.lit false 6 (.agg [.int .i64 0,.int .i64 0,.str [],.str [],.str [],.str []]) 1 [(0,(tm 38))]),op 40 (.append 6 80 (tm 34) (tm 39)),mv 7 40] [0,3,7,8])
 (.skip))))
 (rg [mv 25 8,op 26 (.bin .add .int (tm 25) (ci (1))),mv 8 26] [0,3,7,8]))

def c28 : ACode :=
 .seq (rg [op 3 (.box 6 (tm 1)),op 4 (.mov (.cst (.sl false []))),op 5 (.mov (ci (0)))] [0,3])
 (.seq (.seq (rg [mv 9 0,op 10 (.call .pure 26 [(tm 9)]),op 11 (.un .not (tm 10))] [0,3,11])
 (.cond (tm 11) (.seq (rg [op 4 (.mov (.cst (.sl false []))),op 5 (.mov (ci (19)))] [4,5])
 (.ret))
 (.skip)))
 (.seq (.seq (rg [op 12 (.load (some 6) (tm 3)),op 13 (.call .pure 55 [(tm 12)]),mv 6 13] [0,3,6])
 (.seq (rg [mv 14 6,op 15 (.bin .neq .int (tm 14) (ci (0)))] [0,3,6,15])
 (.cond (tm 15) (.seq (rg [mv 16 6,op 4 (.mov (.cst (.sl false []))),mv 5 16] [4,5])
 (.ret))
 (.skip))))
 (.seq (.seq (rg [mv 17 0,op 18 (.load (some 6) (tm 3)),op 19 (.call .pure 70 [(tm 17),(tm 18)]),op 20 (.un .not (tm 19))] [0,3,20])
 (.cond (tm 20) (.seq (rg [op 4 (.mov (.cst (.sl false []))),op 5 (.mov (ci (23)))] [4,5])
 (.ret))
 (.skip)))
 (.seq (rg [op 7 (.newown 6)] [0,3,7])
 (.seq (.seq (rg [op 8 (.mov (ci (0)))] [0,3,7,8])
 (.block 0 (.loop l28_0_h l28_0_b)))
 (.seq (rg [mv 41 7,mv 4 41,op 5 (.mov (ci (0)))] [4,5])
 (.ret)))))))

def a28 : AFunc := ⟨2,c28,[.tmp 4,.tmp 5]⟩

def an28 : List RAnn := [
 ra 0 [0,3],ra 1 [0,3,11],ra 2 [4,5],ra 3 [0,3,6],ra 4 [0,3,6,15],ra 5 [4,5],ra 6 [0,3,20],ra 7 [4,5],
 { id := 8,live := [0,3,7],ops := [(0,.own)] },
 ra 9 [0,3,7,8],rh 10 [0,3,7,8,24] [0,3,7,8],
 { id := 12,head := some 7,live := [0,3,7,8,33] },
 ra 13 [0,3,7,8],ra 11 [0,3,7,8],ra 14 [4,5]]

theorem comp28 : compF Tryz.prog an28 Tryz.f28 = some a28 := by kernel_rfl

/- graphdb/graphdbref55.node -/
def c29 : ACode :=
 .seq (rg [op 2 (.mov (.cst (.bool false)))] [0])
 (.seq (rg [mv 3 0,op 4 (.bin .eql .int (tm 3) (ci (1))),mv 5 4,mg 6 0 5 false,⟨some 7,.bin .eql .int (tm 6) (ci (2)),some (5,false)⟩,op 8 (.pick (tm 5) (.cst (.bool true)) (tm 7)),mv 9 8,mg 10 0 9 false,⟨some 11,.bin .eql .int (tm 10) (ci (3)),some (9,false)⟩,op 12 (.pick (tm 9) (.cst (.bool true)) (tm 11)),mv 2 12] [2])
 (.ret))

def a29 : AFunc := ⟨1,c29,[.tmp 2]⟩

def an29 : List RAnn := [
 ra 0 [0],ra 1 [2]]

theorem comp29 : compF Tryz.prog an29 Tryz.f29 = some a29 := by kernel_rfl

/- graphdb/graphdbref55.with -/
/-- loop 0 of function 30 -/
def l30_0_h : List Nat := [0,3,5,6,7]

def l30_0_b : ACode :=
 .seq (.seq (rg [mv 9 7,mv 10 0,op 11 (.len .slice (tm 10)),op 12 (.bin .lss .int (tm 9) (tm 11))] [0,3,5,6,7,12])
 (.cond (tm 12) (.skip)
 (.exit 0)))
 (.seq (.block 1 (.seq (.region (some 7) [] [
 mv 15 0,mv 16 7,op 17 (.iaddr 6 (tm 15) (tm 16)),op 18 (.load (some 6) (tm 17)),op 19 (.load (some 6) (tm 3)),op 20 (.call .pure 69 [(tm 18),(tm 19)]),mv 8 20] [0,3,5,6,7,8] none)
 (.seq (.seq (rg [mv 21 8,op 22 (.bin .eql .int (tm 21) (ci (0)))] [0,3,5,6,7,8,22])
 (.cond (tm 22) (rg [op 6 (.mov (.cst (.bool true)))] [0,3,5,6,7,8])
 (.skip)))
 (.seq (.seq (rg [mv 23 8,op 24 (.bin .gtr .int (tm 23) (ci (0))),mv 25 24,mg 26 6 25 true,⟨some 27,.un .not (tm 26),some (25,true)⟩,op 28 (.pick (tm 25) (tm 27) (.cst (.bool false)))] [0,3,5,6,7,28])
 (.cond (tm 28) (.seq (rg [mv 29 5,op 30 (.load (some 6) (tm 3)),op 31 (.lit false 6 (.agg [.int .i64 0,.int .i64 0,.str [],.str [],.str [],.str []]) 1 [(0,(tm 30))]),op 32 (.append 6 80 (tm 29) (tm 31)),mv 5 32] [0,3,5,7])
 (rg [op 6 (.mov (.cst (.bool true)))] [0,3,5,6,7]))
 (.skip)))
 (rg [mv 33 5,mv 34 0,mv 35 7,op 36 (.iaddr 6 (tm 34) (tm 35)),op 37 (.load (some 6) (tm 36)),op 38 (.lit false 6 (.agg [.int .i64 0,.int .i64 0,.str [],.str [],.str [],.str []]) 1 [(0,(tm 37))]),op 39 (.append 6 80 (tm 33) (tm 38)),mv 5 39] [0,3,5,6,7])))))
 (rg [mv 13 7,op 14 (.bin .add .int (tm 13) (ci (1))),mv 7 14] [0,3,5,6,7]))

def c30 : ACode :=
 .seq (rg [op 3 (.box 6 (tm 1)),op 4 (.mov (.cst (.sl false [])))] [0,3])
 (.seq (rg [op 5 (.newown 6)] [0,3,5])
 (.seq (rg [op 6 (.mov (.cst (.bool false)))] [0,3,5,6])
 (.seq (.seq (rg [op 7 (.mov (ci (0)))] [0,3,5,6,7])
 (.block 0 (.loop l30_0_h l30_0_b)))
 (.seq (.seq (rg [mv 40 6,op 41 (.un .not (tm 40))] [3,5,41])
 (.cond (tm 41) (rg [mv 42 5,op 43 (.load (some 6) (tm 3)),op 44 (.lit false 6 (.agg [.int .i64 0,.int .i64 0,.str [],.str [],.str [],.str []]) 1 [(0,(tm 43))]),op 45 (.append 6 80 (tm 42) (tm 44)),mv 5 45] [5])
 (.skip)))
 (.seq (rg [mv 46 5,mv 4 46] [4])
 (.ret))))))

def a30 : AFunc := ⟨2,c30,[.tmp 4]⟩

def an30 : List RAnn := [
 ra 0 [0,3],
 { id := 1,live := [0,3,5],ops := [(0,.own)] },
 ra 2 [0,3,5,6],ra 3 [0,3,5,6,7],rh 4 [0,3,5,6,7,12] [0,3,5,6,7],
 { id := 6,head := some 7,live := [0,3,5,6,7,8] },
 ra 7 [0,3,5,6,7,8,22],ra 8 [0,3,5,6,7,8],ra 9 [0,3,5,6,7,28],ra 10 [0,3,5,7],ra 11 [0,3,5,6,7],ra 12 [0,3,5,6,7],ra 5 [0,3,5,6,7],ra 13 [3,5,41],ra 14 [5],ra 15 [4]]

theorem comp30 : compF Tryz.prog an30 Tryz.f30 = some a30 := by kernel_rfl

/- graphdb/graphdbref55.turned -/
def c31 : ACode :=
 .seq (rg [op 2 (.box 6 (tm 0)),op 3 (.box 15 (tm 1)),op 4 (.alloc 6 (.agg [.int .i64 0,.int .i64 0,.str [],.str [],.str [],.str []]))] [2,3,4])
 (.seq (.seq (rg [op 5 (.faddr 0 (tm 3)),op 6 (.load none (tm 5)),op 7 (.bin .eql .int (tm 6) (ci (1)))] [2,3,4,7])
 (.cond (tm 7) (.seq (.seq (rg [op 8 (.faddr 0 (tm 2)),op 9 (.load none (tm 8)),op 10 (.call .pure 29 [(tm 9)])] [2,3,4,10])
 (.cond (tm 10) (rg [op 11 (.faddr 2 (tm 2)),op 12 (.load none (tm 11)),op 13 (.load (some 15) (tm 3)),op 14 (.call .pure 71 [(tm 12),(tm 13)]),op 15 (.faddr 2 (tm 2)),⟨none,.store 1 (tm 15) (tm 14),none⟩] [2,3,4])
 (.skip)))
 (.seq (rg [op 16 (.faddr 0 (tm 2)),op 17 (.load none (tm 16)),op 18 (.bin .eql .int (tm 17) (ci (6)))] [2,3,4,18])
 (.cond (tm 18) (.seq (rg [op 19 (.faddr 4 (tm 2)),op 20 (.load none (tm 19)),op 21 (.load (some 15) (tm 3)),op 22 (.call .pure 71 [(tm 20),(tm 21)]),op 23 (.faddr 4 (tm 2)),⟨none,.store 1 (tm 23) (tm 22),none⟩] [2,3,4])
 (rg [op 24 (.faddr 5 (tm 2)),op 25 (.load none (tm 24)),op 26 (.load (some 15) (tm 3)),op 27 (.call .pure 71 [(tm 25),(tm 26)]),op 28 (.faddr 5 (tm 2)),⟨none,.store 1 (tm 28) (tm 27),none⟩] [2,3,4]))
 (.skip))))
 (.skip)))
 (.seq (.seq (rg [op 29 (.faddr 0 (tm 3)),op 30 (.load none (tm 29)),op 31 (.bin .eql .int (tm 30) (ci (2))),mv 32 31,⟨some 33,.faddr 0 (tm 2),some (32,true)⟩,⟨some 34,.load none (tm 33),some (32,true)⟩,⟨some 35,.call .pure 29 [(tm 34)],some (32,true)⟩,⟨some 36,.un .not (tm 35),some (32,true)⟩,op 37 (.pick (tm 32) (tm 36) (.cst (.bool false)))] [2,3,4,37])
 (.cond (tm 37) (rg [op 38 (.faddr 2 (tm 2)),op 39 (.load none (tm 38)),op 40 (.load (some 15) (tm 3)),op 41 (.call .pure 71 [(tm 39),(tm 40)]),op 42 (.faddr 2 (tm 2)),⟨none,.store 1 (tm 42) (tm 41),none⟩] [2,3,4])
 (.skip)))
 (.seq (.seq (rg [op 43 (.faddr 0 (tm 3)),op 44 (.load none (tm 43)),op 45 (.bin .eql .int (tm 44) (ci (3))),mv 46 45,⟨some 47,.faddr 0 (tm 2),some (46,true)⟩,⟨some 48,.load none (tm 47),some (46,true)⟩,⟨some 49,.call .pure 29 [(tm 48)],some (46,true)⟩,op 50 (.pick (tm 46) (tm 49) (.cst (.bool false))),mv 51 50,⟨some 52,.faddr 2 (tm 2),some (51,true)⟩,⟨some 53,.load none (tm 52),some (51,true)⟩,⟨some 54,.faddr 1 (tm 3),some (51,true)⟩,⟨some 55,.load none (tm 54),some (51,true)⟩,⟨some 56,.bin .eql .str (tm 53) (tm 55),some (51,true)⟩,op 57 (.pick (tm 51) (tm 56) (.cst (.bool false)))] [2,3,4,57])
 (.cond (tm 57) (rg [op 58 (.faddr 3 (tm 2)),op 59 (.load none (tm 58)),op 60 (.load (some 15) (tm 3)),op 61 (.call .pure 71 [(tm 59),(tm 60)]),op 62 (.faddr 3 (tm 2)),⟨none,.store 1 (tm 62) (tm 61),none⟩] [2,4])
 (.skip)))
 (.seq (rg [op 63 (.load (some 6) (tm 2)),⟨none,.store 6 (tm 4) (tm 63),none⟩] [4])
 (.ret)))))

def a31 : AFunc := ⟨2,c31,[.cell 4 (some 6)]⟩

def an31 : List RAnn := [
 ra 0 [2,3,4],ra 1 [2,3,4,7],ra 2 [2,3,4,10],ra 3 [2,3,4],ra 4 [2,3,4,18],ra 5 [2,3,4],ra 6 [2,3,4],ra 7 [2,3,4,37],ra 8 [2,3,4],ra 9 [2,3,4,57],ra 10 [2,4],ra 11 [4]]

theorem comp31 : compF Tryz.prog an31 Tryz.f31 = some a31 := by kernel_rfl

/- graphdb/graph.Check -/
/-- loop 0 of function 33 -/
def l33_0_h : List Nat := [1,38,39,40]

def l33_0_b : ACode :=
 .seq (rg [op 41 (.bin .lss .int (tm 40) (tm 39))] [1,38,39,40,41])
 (.seq (.cond (tm 41) (.skip)
 (.exit 0))
 (.seq (.block 1 (.seq (rg [mv 42 40,op 43 (.iaddr 3 (tm 38) (tm 40)),op 44 (.load (some 3) (tm 43)),op 4 (.alloc 3 (.agg [.int .i64 0,.sl false [],.sl false []])),mv 3 42,⟨none,.store 3 (tm 4) (tm 44),none⟩] [1,3,4,38,39,40])
 (.seq (.seq (.region (some 14) [] [
 mv 45 3,op 46 (.bin .gtr .int (tm 45) (ci (0))),mv 47 46,⟨some 48,.faddr 0 (tm 4),some (47,true)⟩,⟨some 49,.load none (tm 48),some (47,true)⟩,⟨some 50,.faddr 0 (tm 1),some (47,true)⟩,⟨some 51,.load none (tm 50),some (47,true)⟩,mg 52 3 47 true,⟨some 53,.bin .sub .int (tm 52) (ci (1)),some (47,true)⟩,⟨some 54,.iaddr 3 (tm 51) (tm 53),some (47,true)⟩,⟨some 55,.faddr 0 (tm 54),some (47,true)⟩,⟨some 56,.load none (tm 55),some (47,true)⟩,⟨some 57,.bin .leq .int (tm 49) (tm 56),some (47,true)⟩,op 58 (.pick (tm 47) (tm 57) (.cst (.bool false)))] [1,4,38,39,40,58] none)
 (.cond (tm 58) (.seq (rg [op 2 (.mov (ci (26)))] [2])
 (.ret))
 (.skip)))
 (.seq (.seq (rg [op 59 (.faddr 0 (tm 4)),op 60 (.load none (tm 59)),op 61 (.bin .lss .int (tm 60) (ci (1))),mv 62 61,⟨some 63,.faddr 0 (tm 4),some (62,false)⟩,⟨some 64,.load none (tm 63),some (62,false)⟩,⟨some 65,.faddr 2 (tm 1),some (62,false)⟩,⟨some 66,.load none (tm 65),some (62,false)⟩,⟨some 67,.bin .geq .int (tm 64) (tm 66),some (62,false)⟩,op 68 (.pick (tm 62) (.cst (.bool true)) (tm 67))] [1,4,38,39,40,68])
 (.cond (tm 68) (.seq (rg [op 2 (.mov (ci (1)))] [2])
 (.ret))
 (.skip)))
 (.seq (rg [op 69 (.faddr 1 (tm 4)),op 70 (.load none (tm 69)),op 71 (.faddr 2 (tm 4)),op 72 (.load none (tm 71)),op 73 (.call .pure 73 [(tm 70),(tm 72)]),mv 5 73] [1,5,38,39,40])
 (.seq (rg [mv 74 5,op 75 (.bin .neq .int (tm 74) (ci (0)))] [1,5,38,39,40,75])
 (.cond (tm 75) (.seq (rg [mv 76 5,mv 2 76] [2])
 (.ret))
 (.skip))))))))
 (.region none [] [op 77 (.bin .add .int (tm 40) (ci (1))),mv 40 77] [1,38,39,40] (some 1))))

/-- loop 1 of function 33 -/
def l33_1_h : List Nat := [1,79,80,81]

def l33_1_b : ACode :=
 .seq (rg [op 82 (.bin .lss .int (tm 81) (tm 80))] [1,79,80,81,82])
 (.seq (.cond (tm 82) (.skip)
 (.exit 2))
 (.seq (.block 3 (.seq (rg [mv 83 81,op 84 (.iaddr 5 (tm 79) (tm 81)),op 85 (.load (some 5) (tm 84)),op 7 (.alloc 5 (.agg [.int .i64 0,.int .i64 0,.int .i64 0,.str [],.sl false []])),mv 6 83,⟨none,.store 5 (tm 7) (tm 85),none⟩] [1,6,7,79,80,81])
 (.seq (.seq (.region (some 14) [] [
 mv 86 6,op 87 (.bin .gtr .int (tm 86) (ci (0))),mv 88 87,⟨some 89,.faddr 0 (tm 7),some (88,true)⟩,⟨some 90,.load none (tm 89),some (88,true)⟩,⟨some 91,.faddr 1 (tm 1),some (88,true)⟩,⟨some 92,.load none (tm 91),some (88,true)⟩,mg 93 6 88 true,⟨some 94,.bin .sub .int (tm 93) (ci (1)),some (88,true)⟩,⟨some 95,.iaddr 5 (tm 92) (tm 94),some (88,true)⟩,⟨some 96,.faddr 0 (tm 95),some (88,true)⟩,⟨some 97,.load none (tm 96),some (88,true)⟩,⟨some 98,.bin .leq .int (tm 90) (tm 97),some (88,true)⟩,op 99 (.pick (tm 88) (tm 98) (.cst (.bool false)))] [1,7,79,80,81,99] none)
 (.cond (tm 99) (.seq (rg [op 2 (.mov (ci (26)))] [2])
 (.ret))
 (.skip)))
 (.seq (.seq (rg [op 100 (.faddr 0 (tm 7)),op 101 (.load none (tm 100)),op 102 (.bin .lss .int (tm 101) (ci (1))),mv 103 102,⟨some 104,.faddr 0 (tm 7),some (103,false)⟩,⟨some 105,.load none (tm 104),some (103,false)⟩,⟨some 106,.faddr 3 (tm 1),some (103,false)⟩,⟨some 107,.load none (tm 106),some (103,false)⟩,⟨some 108,.bin .geq .int (tm 105) (tm 107),some (103,false)⟩,op 109 (.pick (tm 103) (.cst (.bool true)) (tm 108))] [1,7,79,80,81,109])
 (.cond (tm 109) (.seq (rg [op 2 (.mov (ci (1)))] [2])
 (.ret))
 (.skip)))
 (.seq (.seq (rg [op 110 (.faddr 0 (tm 1)),op 111 (.load none (tm 110)),op 112 (.faddr 1 (tm 7)),op 113 (.load none (tm 112)),op 114 (.call .pure 74 [(tm 111),(tm 113)]),op 115 (.un .not (tm 114)),mv 116 115,⟨some 117,.faddr 0 (tm 1),some (116,false)⟩,⟨some 118,.load none (tm 117),some (116,false)⟩,⟨some 119,.faddr 2 (tm 7),some (116,false)⟩,⟨some 120,.load none (tm 119),some (116,false)⟩,⟨some 121,.call .pure 74 [(tm 118),(tm 120)],some (116,false)⟩,⟨some 122,.un .not (tm 121),some (116,false)⟩,op 123 (.pick (tm 116) (.cst (.bool true)) (tm 122))] [1,7,79,80,81,123])
 (.cond (tm 123) (.seq (rg [op 2 (.mov (ci (10)))] [2])
 (.ret))
 (.skip)))
 (.seq (.seq (rg [op 124 (.faddr 3 (tm 7)),op 125 (.load none (tm 124)),op 126 (.call .pure 45 [(tm 125)]),op 127 (.un .not (tm 126))] [1,7,79,80,81,127])
 (.cond (tm 127) (.seq (rg [op 2 (.mov (ci (6)))] [2])
 (.ret))
 (.skip)))
 (.seq (rg [op 128 (.faddr 4 (tm 7)),op 129 (.load none (tm 128)),op 130 (.call .pure 73 [(.cst (.sl false [])),(tm 129)]),mv 8 130] [1,8,79,80,81])
 (.seq (rg [mv 131 8,op 132 (.bin .neq .int (tm 131) (ci (0)))] [1,8,79,80,81,132])
 (.cond (tm 132) (.seq (rg [mv 133 8,mv 2 133] [2])
 (.ret))
 (.skip))))))))))
 (.region none [] [op 134 (.bin .add .int (tm 81) (ci (1))),mv 81 134] [1,79,80,81] (some 1))))

def c33 : ACode :=
 .seq (rg [op 1 (.box 4 (tm 0)),op 2 (.mov (ci (0)))] [1])
 (.seq (.seq (rg [op 9 (.faddr 0 (tm 1)),op 10 (.load none (tm 9)),op 11 (.len .slice (tm 10)),op 12 (.bin .gtr .int (tm 11) (ci (2000))),mv 13 12,⟨some 14,.faddr 1 (tm 1),some (13,false)⟩,⟨some 15,.load none (tm 14),some (13,false)⟩,⟨some 16,.len .slice (tm 15),some (13,false)⟩,⟨some 17,.bin .gtr .int (tm 16) (ci (4000)),some (13,false)⟩,op 18 (.pick (tm 13) (.cst (.bool true)) (tm 17))] [1,18])
 (.cond (tm 18) (.seq (rg [op 2 (.mov (ci (4)))] [2])
 (.ret))
 (.skip)))
 (.seq (.seq (rg [op 19 (.faddr 2 (tm 1)),op 20 (.load none (tm 19)),op 21 (.bin .lss .int (tm 20) (ci (1))),mv 22 21,⟨some 23,.faddr 2 (tm 1),some (22,false)⟩,⟨some 24,.load none (tm 23),some (22,false)⟩,⟨some 25,.bin .gtr .int (tm 24) (ci (1000001)),some (22,false)⟩,op 26 (.pick (tm 22) (.cst (.bool true)) (tm 25)),mv 27 26,⟨some 28,.faddr 3 (tm 1),some (27,false)⟩,⟨some 29,.load none (tm 28),some (27,false)⟩,⟨some 30,.bin .lss .int (tm 29) (ci (1)),some (27,false)⟩,op 31 (.pick (tm 27) (.cst (.bool true)) (tm 30)),mv 32 31,⟨some 33,.faddr 3 (tm 1),some (32,false)⟩,⟨some 34,.load none (tm 33),some (32,false)⟩,⟨some 35,.bin .gtr .int (tm 34) (ci (1000001)),some (32,false)⟩,op 36 (.pick (tm 32) (.cst (.bool true)) (tm 35))] [1,36])
 (.cond (tm 36) (.seq (rg [op 2 (.mov (ci (1)))] [2])
 (.ret))
 (.skip)))
 (.seq (.seq (rg [op 37 (.faddr 0 (tm 1)),op 38 (.load none (tm 37)),op 39 (.len .slice (tm 38)),op 40 (.mov (ci (0)))] [1,38,39,40])
 (.block 0 (.loop l33_0_h l33_0_b)))
 (.seq (.seq (rg [op 78 (.faddr 1 (tm 1)),op 79 (.load none (tm 78)),op 80 (.len .slice (tm 79)),op 81 (.mov (ci (0)))] [1,79,80,81])
 (.block 2 (.loop l33_1_h l33_1_b)))
 (.seq (rg [op 2 (.mov (ci (0)))] [2])
 (.ret))))))

def a33 : AFunc := ⟨1,c33,[.tmp 2]⟩

def an33 : List RAnn := [
 ra 0 [1],ra 1 [1,18],ra 2 [2],ra 3 [1,36],ra 4 [2],ra 5 [1,38,39,40],rh 6 [1,38,39,40,41] [1,38,39,40],ra 7 [1,3,4,38,39,40],
 { id := 8,head := some 14,live := [1,4,38,39,40,58] },
 ra 9 [2],ra 10 [1,4,38,39,40,68],ra 11 [2],ra 12 [1,5,38,39,40],ra 13 [1,5,38,39,40,75],ra 14 [2],
 { id := 15,live := [1,38,39,40],trunc := some 1 },
 ra 16 [1,79,80,81],rh 17 [1,79,80,81,82] [1,79,80,81],ra 18 [1,6,7,79,80,81],
 { id := 19,head := some 14,live := [1,7,79,80,81,99] },
 ra 20 [2],ra 21 [1,7,79,80,81,109],ra 22 [2],ra 23 [1,7,79,80,81,123],ra 24 [2],ra 25 [1,7,79,80,81,127],ra 26 [2],ra 27 [1,8,79,80,81],ra 28 [1,8,79,80,81,132],ra 29 [2],
 { id := 30,live := [1,79,80,81],trunc := some 1 },
 ra 31 [2]]

theorem comp33 : compF Tryz.prog an33 Tryz.f33 = some a33 := by kernel_rfl

/- graphdb/evolve.taken -/
def c34 : ACode :=
 .seq (rg [op 2 (.box 4 (tm 0)),op 3 (.box 15 (tm 1)),op 4 (.mov (.cst (.bool false)))] [2,3])
 (.seq (.seq (rg [op 5 (.faddr 0 (tm 3)),op 6 (.load none (tm 5))] [2,3,6])
 (.block 0 (.seq (rg [op 8 (.bin .eql .int (tm 6) (ci (1))),mv 7 8] [2,3,6,7])
 (.cond (tm 7) (.seq (.region (some 6) [] [
 op 9 (.load (some 4) (tm 2)),op 10 (.call .pure 76 [(tm 9)]),op 11 (.faddr 3 (tm 3)),op 12 (.load none (tm 11)),op 13 (.call .pure 75 [(tm 10),(tm 12)]),mv 4 13] [4] none)
 (.ret))
 (.seq (rg [op 15 (.bin .eql .int (tm 6) (ci (2))),mv 14 15] [2,3,6,14])
 (.cond (tm 14) (.seq (.region (some 6) [] [
 op 16 (.load (some 4) (tm 2)),op 17 (.call .pure 77 [(tm 16)]),op 18 (.faddr 3 (tm 3)),op 19 (.load none (tm 18)),op 20 (.call .pure 75 [(tm 17),(tm 19)]),mv 4 20] [4] none)
 (.ret))
 (.seq (rg [op 22 (.bin .eql .int (tm 6) (ci (3))),mv 21 22] [2,3,21])
 (.cond (tm 21) (.seq (rg [op 23 (.faddr 0 (tm 2)),op 24 (.load none (tm 23)),op 25 (.mkfn 79 [(tm 3)]),op 26 (.call .borrow 78 [(tm 24),(tm 25)]),mv 4 26] [4])
 (.ret))
 (.skip)))))))))
 (.seq (rg [op 4 (.mov (.cst (.bool false)))] [4])
 (.ret)))

def a34 : AFunc := ⟨2,c34,[.tmp 4]⟩

def an34 : List RAnn := [
 ra 0 [2,3],ra 1 [2,3,6],ra 2 [2,3,6,7],
 { id := 3,head := some 6,live := [4] },
 ra 4 [2,3,6,14],
 { id := 5,head := some 6,live := [4] },
 ra 6 [2,3,21],
 { id := 7,live := [4],ops := [(3,.mode .borrow)] },
 ra 8 [4]]

theorem comp34 : compF Tryz.prog an34 Tryz.f34 = some a34 := by kernel_rfl

/- graphdb/evolve.node -/
def c36 : ACode :=
 .seq (rg [op 2 (.box 3 (tm 0)),op 3 (.box 15 (tm 1)),op 4 (.mov (.cst (.sl false [])))] [2,3])
 (.seq (.seq (rg [op 5 (.faddr 0 (tm 3)),op 6 (.load none (tm 5)),op 7 (.bin .eql .int (tm 6) (ci (1)))] [2,3,7])
 (.cond (tm 7) (.seq (.seq (rg [op 8 (.load (some 3) (tm 2)),op 9 (.faddr 2 (tm 3)),op 10 (.load none (tm 9)),op 11 (.call .pure 80 [(tm 8),(tm 10)]),op 12 (.un .not (tm 11))] [2,3,12])
 (.cond (tm 12) (.seq (rg [op 4 (.mov (.cst (.sl false [])))] [4])
 (.ret))
 (.skip)))
 (.seq (rg [op 13 (.faddr 0 (tm 2)),op 14 (.load none (tm 13)),op 15 (.faddr 2 (tm 3)),op 16 (.load none (tm 15)),op 17 (.build [.int .i64 0,.int .i64 0,.int .i64 0,.int .i64 0,.str [],.int .i64 0,.int .i64 0,.int .i64 0,.str [],.sl false []] [(0,1,(ci (4))),(1,1,(tm 14)),(4,1,(tm 16))]),op 18 (.faddr 0 (tm 2)),op 19 (.load none (tm 18)),op 20 (.faddr 3 (tm 3)),op 21 (.load none (tm 20)),op 22 (.build [.int .i64 0,.int .i64 0,.int .i64 0,.int .i64 0,.str [],.int .i64 0,.int .i64 0,.int .i64 0,.str [],.sl false []] [(0,1,(ci (3))),(1,1,(tm 19)),(4,1,(tm 21))]),op 23 (.lit false 10 (.agg [.int .i64 0,.int .i64 0,.int .i64 0,.int .i64 0,.str [],.int .i64 0,.int .i64 0,.int .i64 0,.str [],.sl false []]) 2 [(0,(tm 17)),(1,(tm 22))]),mv 4 23] [4])
 (.ret)))
 (.skip)))
 (.seq (.seq (rg [op 24 (.load (some 3) (tm 2)),op 25 (.faddr 1 (tm 3)),op 26 (.load none (tm 25)),op 27 (.call .pure 80 [(tm 24),(tm 26)]),op 28 (.un .not (tm 27))] [2,3,28])
 (.cond (tm 28) (.seq (rg [op 4 (.mov (.cst (.sl false [])))] [4])
 (.ret))
 (.skip)))
 (.seq (.block 0 (.seq (rg [op 30 (.faddr 0 (tm 3)),op 31 (.load none (tm 30)),op 32 (.bin .eql .int (tm 31) (ci (3))),mv 33 32,⟨some 34,.faddr 2 (tm 2),some (33,true)⟩,⟨some 35,.load none (tm 34),some (33,true)⟩,⟨some 36,.faddr 2 (tm 3),some (33,true)⟩,⟨some 37,.load none (tm 36),some (33,true)⟩,⟨some 38,.call .pure 81 [(tm 35),(tm 37)],some (33,true)⟩,op 39 (.pick (tm 33) (tm 38) (.cst (.bool false))),mv 29 39] [2,3,29])
 (.cond (tm 29) (.seq (.region (some 18) [] [
 op 40 (.faddr 0 (tm 2)),op 41 (.load none (tm 40)),op 42 (.faddr 2 (tm 3)),op 43 (.load none (tm 42)),op 44 (.call .pure 44 []),op 45 (.call .pure 82 [(tm 41),(tm 43),(tm 44)]),op 46 (.faddr 0 (tm 2)),op 47 (.load none (tm 46)),op 48 (.faddr 3 (tm 3)),op 49 (.load none (tm 48)),op 50 (.faddr 2 (tm 2)),op 51 (.load none (tm 50)),op 52 (.faddr 2 (tm 3)),op 53 (.load none (tm 52)),op 54 (.call .pure 83 [(tm 51),(tm 53)]),op 55 (.call .pure 82 [(tm 47),(tm 49),(tm 54)]),op 56 (.lit false 10 (.agg [.int .i64 0,.int .i64 0,.int .i64 0,.int .i64 0,.str [],.int .i64 0,.int .i64 0,.int .i64 0,.str [],.sl false []]) 2 [(0,(tm 45)),(1,(tm 55))]),mv 4 56] [4] none)
 (.ret))
 (.seq (rg [op 58 (.faddr 0 (tm 3)),op 59 (.load none (tm 58)),op 60 (.bin .eql .int (tm 59) (ci (4))),mv 61 60,⟨some 62,.faddr 2 (tm 2),some (61,true)⟩,⟨some 63,.load none (tm 62),some (61,true)⟩,⟨some 64,.faddr 2 (tm 3),some (61,true)⟩,⟨some 65,.load none (tm 64),some (61,true)⟩,⟨some 66,.call .pure 81 [(tm 63),(tm 65)],some (61,true)⟩,op 67 (.pick (tm 61) (tm 66) (.cst (.bool false))),mv 57 67] [2,3,57])
 (.cond (tm 57) (.seq (.region (some 8) [] [
 op 68 (.faddr 0 (tm 2)),op 69 (.load none (tm 68)),op 70 (.faddr 2 (tm 3)),op 71 (.load none (tm 70)),op 72 (.call .pure 44 []),op 73 (.call .pure 82 [(tm 69),(tm 71),(tm 72)]),op 74 (.lit false 10 (.agg [.int .i64 0,.int .i64 0,.int .i64 0,.int .i64 0,.str [],.int .i64 0,.int .i64 0,.int .i64 0,.str [],.sl false []]) 1 [(0,(tm 73))]),mv 4 74] [4] none)
 (.ret))
 (.seq (rg [op 76 (.faddr 0 (tm 3)),op 77 (.load none (tm 76)),op 78 (.bin .eql .int (tm 77) (ci (5))),mv 79 78,⟨some 80,.faddr 2 (tm 2),some (79,true)⟩,⟨some 81,.load none (tm 80),some (79,true)⟩,⟨some 82,.faddr 3 (tm 3),some (79,true)⟩,⟨some 83,.load none (tm 82),some (79,true)⟩,⟨some 84,.call .pure 81 [(tm 81),(tm 83)],some (79,true)⟩,⟨some 85,.un .not (tm 84),some (79,true)⟩,op 86 (.pick (tm 79) (tm 85) (.cst (.bool false))),mv 75 86] [2,3,75])
 (.cond (tm 75) (.seq (rg [op 87 (.faddr 0 (tm 2)),op 88 (.load none (tm 87)),op 89 (.faddr 3 (tm 3)),op 90 (.load none (tm 89)),op 91 (.faddr 4 (tm 3)),op 92 (.load (some 5) (tm 91)),op 93 (.call .pure 82 [(tm 88),(tm 90),(tm 92)]),op 94 (.lit false 10 (.agg [.int .i64 0,.int .i64 0,.int .i64 0,.int .i64 0,.str [],.int .i64 0,.int .i64 0,.int .i64 0,.str [],.sl false []]) 1 [(0,(tm 93))]),mv 4 94] [4])
 (.ret))
 (.skip))))))))
 (.seq (rg [op 4 (.mov (.cst (.sl false [])))] [4])
 (.ret)))))

def a36 : AFunc := ⟨2,c36,[.tmp 4]⟩

def an36 : List RAnn := [
 ra 0 [2,3],ra 1 [2,3,7],ra 2 [2,3,12],ra 3 [4],ra 4 [4],ra 5 [2,3,28],ra 6 [4],ra 7 [2,3,29],
 { id := 8,head := some 18,live := [4] },
 ra 9 [2,3,57],
 { id := 10,head := some 8,live := [4] },
 ra 11 [2,3,75],ra 12 [4],ra 13 [4]]

theorem comp36 : compF Tryz.prog an36 Tryz.f36 = some a36 := by kernel_rfl

/- graphdb/graphdbref07.Check -/
/-- loop 0 of function 37 -/
def l37_0_h : List Nat := [1,3]

def l37_0_b : ACode :=
 .seq (.seq (rg [mv 35 3,op 36 (.faddr 0 (tm 1)),op 37 (.load none (tm 36)),op 38 (.len .slice (tm 37)),op 39 (.bin .lss .int (tm 35) (tm 38))] [1,3,39])
 (.cond (tm 39) (.skip)
 (.exit 0)))
 (.seq (.block 1 (.seq (rg [op 42 (.load (some 4) (tm 1)),mv 43 3,op 44 (.call .pure 84 [(tm 42),(tm 43)]),mv 4 44] [1,3,4])
 (.seq (rg [mv 45 4,op 46 (.bin .neq .int (tm 45) (ci (0)))] [1,3,4,46])
 (.cond (tm 46) (.seq (rg [mv 47 4,mv 2 47] [2])
 (.ret))
 (.skip)))))
 (rg [mv 40 3,op 41 (.bin .add .int (tm 40) (ci (1))),mv 3 41] [1,3]))

/-- loop 1 of function 37 -/
def l37_1_h : List Nat := [1,5]

def l37_1_b : ACode :=
 .seq (.seq (rg [mv 48 5,op 49 (.faddr 1 (tm 1)),op 50 (.load none (tm 49)),op 51 (.len .slice (tm 50)),op 52 (.bin .lss .int (tm 48) (tm 51))] [1,5,52])
 (.cond (tm 52) (.skip)
 (.exit 2)))
 (.seq (.block 3 (.seq (rg [op 55 (.load (some 4) (tm 1)),mv 56 5,op 57 (.call .pure 85 [(tm 55),(tm 56)]),mv 6 57] [1,5,6])
 (.seq (rg [mv 58 6,op 59 (.bin .neq .int (tm 58) (ci (0)))] [1,5,6,59])
 (.cond (tm 59) (.seq (rg [mv 60 6,mv 2 60] [2])
 (.ret))
 (.skip)))))
 (rg [mv 53 5,op 54 (.bin .add .int (tm 53) (ci (1))),mv 5 54] [1,5]))

def c37 : ACode :=
 .seq (rg [op 1 (.box 4 (tm 0)),op 2 (.mov (ci (0)))] [1])
 (.seq (.seq (rg [op 7 (.faddr 0 (tm 1)),op 8 (.load none (tm 7)),op 9 (.len .slice (tm 8)),op 10 (.bin .gtr .int (tm 9) (ci (2000))),mv 11 10,⟨some 12,.faddr 1 (tm 1),some (11,false)⟩,⟨some 13,.load none (tm 12),some (11,false)⟩,⟨some 14,.len .slice (tm 13),some (11,false)⟩,⟨some 15,.bin .gtr .int (tm 14) (ci (4000)),some (11,false)⟩,op 16 (.pick (tm 11) (.cst (.bool true)) (tm 15))] [1,16])
 (.cond (tm 16) (.seq (rg [op 2 (.mov (ci (4)))] [2])
 (.ret))
 (.skip)))
 (.seq (.seq (rg [op 17 (.faddr 2 (tm 1)),op 18 (.load none (tm 17)),op 19 (.bin .lss .int (tm 18) (ci (1))),mv 20 19,⟨some 21,.faddr 2 (tm 1),some (20,false)⟩,⟨some 22,.load none (tm 21),some (20,false)⟩,⟨some 23,.bin .gtr .int (tm 22) (ci (1000001)),some (20,false)⟩,op 24 (.pick (tm 20) (.cst (.bool true)) (tm 23)),mv 25 24,⟨some 26,.faddr 3 (tm 1),some (25,false)⟩,⟨some 27,.load none (tm 26),some (25,false)⟩,⟨some 28,.bin .lss .int (tm 27) (ci (1)),some (25,false)⟩,op 29 (.pick (tm 25) (.cst (.bool true)) (tm 28)),mv 30 29,⟨some 31,.faddr 3 (tm 1),some (30,false)⟩,⟨some 32,.load none (tm 31),some (30,false)⟩,⟨some 33,.bin .gtr .int (tm 32) (ci (1000001)),some (30,false)⟩,op 34 (.pick (tm 30) (.cst (.bool true)) (tm 33))] [1,34])
 (.cond (tm 34) (.seq (rg [op 2 (.mov (ci (1)))] [2])
 (.ret))
 (.skip)))
 (.seq (.seq (rg [op 3 (.mov (ci (0)))] [1,3])
 (.block 0 (.loop l37_0_h l37_0_b)))
 (.seq (.seq (rg [op 5 (.mov (ci (0)))] [1,5])
 (.block 2 (.loop l37_1_h l37_1_b)))
 (.seq (rg [op 2 (.mov (ci (0)))] [2])
 (.ret))))))

def a37 : AFunc := ⟨1,c37,[.tmp 2]⟩

def an37 : List RAnn := [
 ra 0 [1],ra 1 [1,16],ra 2 [2],ra 3 [1,34],ra 4 [2],ra 5 [1,3],rh 6 [1,3,39] [1,3],ra 8 [1,3,4],ra 9 [1,3,4,46],ra 10 [2],ra 7 [1,3],ra 11 [1,5],rh 12 [1,5,52] [1,5],ra 14 [1,5,6],ra 15 [1,5,6,59],ra 16 [2],ra 13 [1,5],ra 17 [2]]

theorem comp37 : compF Tryz.prog an37 Tryz.f37 = some a37 := by kernel_rfl

/- graphdb/graphdbref55.renames -/
def c41 : ACode :=
 .seq (rg [op 2 (.mov (.cst (.bool false)))] [0])
 (.seq (rg [mv 3 0,op 4 (.bin .eql .int (tm 3) (ci (1))),mv 5 4,mg 6 0 5 false,⟨some 7,.bin .eql .int (tm 6) (ci (2)),some (5,false)⟩,op 8 (.pick (tm 5) (.cst (.bool true)) (tm 7)),mv 9 8,mg 10 0 9 false,⟨some 11,.bin .eql .int (tm 10) (ci (3)),some (9,false)⟩,op 12 (.pick (tm 9) (.cst (.bool true)) (tm 11)),mv 2 12] [2])
 (.ret))

def a41 : AFunc := ⟨1,c41,[.tmp 2]⟩

def an41 : List RAnn := [
 ra 0 [0],ra 1 [2]]

theorem comp41 : compF Tryz.prog an41 Tryz.f41 = some a41 := by kernel_rfl

/- graphdb/evolve.fields -/
def c42 : ACode :=
 .seq (rg [op 2 (.alloc 5 (.agg [.bool false,.bool false,.bool false,.bool false,.bool false])),op 3 (.mov (.cst (.bool false)))] [0,2])
 (.seq (.seq (rg [mv 4 0] [2,4])
 (.block 0 (.seq (.seq (rg [op 6 (.bin .eql .int (tm 4) (ci (1))),mv 5 6] [2,4,5])
 (.cond (tm 5) (.skip)
 (rg [op 7 (.bin .eql .int (tm 4) (ci (2))),mv 5 7] [2,4,5])))
 (.cond (tm 5) (.seq (rg [op 8 (.build [.bool false,.bool false,.bool false,.bool false,.bool false] [(1,1,(.cst (.bool true))),(2,1,(.cst (.bool true)))]),⟨none,.store 5 (tm 2) (tm 8),none⟩,op 3 (.mov (.cst (.bool true)))] [2,3])
 (.ret))
 (.seq (rg [op 10 (.bin .eql .int (tm 4) (ci (3))),mv 9 10] [2,4,9])
 (.cond (tm 9) (.seq (rg [op 11 (.build [.bool false,.bool false,.bool false,.bool false,.bool false] [(0,1,(.cst (.bool true))),(1,1,(.cst (.bool true))),(2,1,(.cst (.bool true)))]),⟨none,.store 5 (tm 2) (tm 11),none⟩,op 3 (.mov (.cst (.bool true)))] [2,3])
 (.ret))
 (.seq (rg [op 13 (.bin .eql .int (tm 4) (ci (4))),mv 12 13] [2,4,12])
 (.cond (tm 12) (.seq (rg [op 14 (.build [.bool false,.bool false,.bool false,.bool false,.bool false] [(0,1,(.cst (.bool true))),(1,1,(.cst (.bool true)))]),⟨none,.store 5 (tm 2) (tm 14),none⟩,op 3 (.mov (.cst (.bool true)))] [2,3])
 (.ret))
 (.seq (rg [op 16 (.bin .eql .int (tm 4) (ci (5))),mv 15 16] [2,4,15])
 (.cond (tm 15) (.seq (rg [op 17 (.build [.bool false,.bool false,.bool false,.bool false,.bool false] [(0,1,(.cst (.bool true))),(2,1,(.cst (.bool true))),(3,1,(.cst (.bool true)))]),⟨none,.store 5 (tm 2) (tm 17),none⟩,op 3 (.mov (.cst (.bool true)))] [2,3])
 (.ret))
 (.seq (.seq (rg [op 19 (.bin .eql .int (tm 4) (ci (6))),mv 18 19] [2,4,18])
 (.cond (tm 18) (.skip)
 (rg [op 20 (.bin .eql .int (tm 4) (ci (7))),mv 18 20] [2,18])))
 (.cond (tm 18) (.seq (rg [op 21 (.build [.bool false,.bool false,.bool false,.bool false,.bool false] [(4,1,(.cst (.bool true)))]),⟨none,.store 5 (tm 2) (tm 21),none⟩,op 3 (.mov (.cst (.bool true)))] [2,3])
 (.ret))
 (.skip)))))))))))))
 (.seq (rg [op 22 (.build [.bool false,.bool false,.bool false,.bool false,.bool false] []),⟨none,.store 5 (tm 2) (tm 22),none⟩,op 3 (.mov (.cst (.bool false)))] [2,3])
 (.ret)))

def a42 : AFunc := ⟨1,c42,[.cell 2 (some 5),.tmp 3]⟩

def an42 : List RAnn := [
 ra 0 [0,2],ra 1 [2,4],ra 2 [2,4,5],ra 3 [2,4,5],ra 4 [2,3],ra 5 [2,4,9],ra 6 [2,3],ra 7 [2,4,12],ra 8 [2,3],ra 9 [2,4,15],ra 10 [2,3],ra 11 [2,4,18],ra 12 [2,18],ra 13 [2,3],ra 14 [2,3]]

theorem comp42 : compF Tryz.prog an42 Tryz.f42 = some a42 := by kernel_rfl

/- graphdb/value.Order -/
def c43 : ACode :=
 .seq (rg [op 2 (.box 5 (tm 0)),op 3 (.box 5 (tm 1)),op 4 (.mov (ci (0)))] [2,3])
 (.seq (.region (some 6) [] [
 op 7 (.load (some 5) (tm 2)),op 8 (.call .pure 89 [(tm 7)]),op 9 (.load (some 5) (tm 3)),op 10 (.call .pure 89 [(tm 9)]),mv 5 8,mv 6 10] [2,3,5,6] none)
 (.seq (.block 0 (.seq (rg [mv 12 5,mv 13 12,mg 14 6 13 true,op 15 (.pick (tm 13) (tm 14) (.cst (.bool false))),mv 11 15] [2,3,5,6,11])
 (.cond (tm 11) (.seq (rg [op 16 (.load (some 5) (tm 2)),op 17 (.load (some 5) (tm 3)),op 18 (.call .pure 90 [(tm 16),(tm 17)]),mv 4 18] [4])
 (.ret))
 (.seq (rg [mv 20 5,mv 19 20] [2,3,6,19])
 (.cond (tm 19) (.seq (rg [op 4 (.mov (ci ((-1))))] [4])
 (.ret))
 (.seq (rg [mv 22 6,mv 21 22] [2,3,21])
 (.cond (tm 21) (.seq (rg [op 4 (.mov (ci (1)))] [4])
 (.ret))
 (.skip))))))))
 (.seq (.region (some 28) [] [
 op 23 (.faddr 0 (tm 2)),op 24 (.load none (tm 23)),op 25 (.faddr 0 (tm 3)),op 26 (.load none (tm 25)),op 27 (.call .pure 67 [(tm 24),(tm 26)]),op 28 (.faddr 1 (tm 2)),op 29 (.load none (tm 28)),op 30 (.faddr 1 (tm 3)),op 31 (.load none (tm 30)),op 32 (.call .pure 67 [(tm 29),(tm 31)]),op 33 (.faddr 2 (tm 2)),op 34 (.load none (tm 33)),op 35 (.faddr 2 (tm 3)),op 36 (.load none (tm 35)),op 37 (.call .pure 67 [(tm 34),(tm 36)]),op 38 (.faddr 3 (tm 2)),op 39 (.load none (tm 38)),op 40 (.faddr 3 (tm 3)),op 41 (.load none (tm 40)),op 42 (.call .pure 68 [(tm 39),(tm 41)]),op 43 (.faddr 4 (tm 2)),op 44 (.load none (tm 43)),op 45 (.faddr 4 (tm 3)),op 46 (.load none (tm 45)),op 47 (.call .pure 91 [(tm 44),(tm 46),(.cst (.fn 43 []))]),op 48 (.lit false 1 (.int .i64 0) 5 [(0,(tm 27)),(1,(tm 32)),(2,(tm 37)),(3,(tm 42)),(4,(tm 47))]),op 49 (.call .pure 66 [(tm 48)]),mv 4 49] [4] none)
 (.ret))))

def a43 : AFunc := ⟨2,c43,[.tmp 4]⟩

def an43 : List RAnn := [
 ra 0 [2,3],
 { id := 1,head := some 6,live := [2,3,5,6] },
 ra 2 [2,3,5,6,11],ra 3 [4],ra 4 [2,3,6,19],ra 5 [4],ra 6 [2,3,21],ra 7 [4],
 { id := 8,head := some 28,live := [4] }]

theorem comp43 : compF Tryz.prog an43 Tryz.f43 = some a43 := by kernel_rfl

/- graphdb/value.Null -/
def c44 : ACode :=
 .seq (rg [op 0 (.alloc 5 (.agg [.int .i64 0,.int .i64 0,.int .i64 0,.str [],.sl false []]))] [0])
 (.seq (rg [op 1 (.build [.int .i64 0,.int .i64 0,.int .i64 0,.str [],.sl false []] []),⟨none,.store 5 (tm 0) (tm 1),none⟩] [0])
 (.ret))

def a44 : AFunc := ⟨0,c44,[.cell 0 (some 5)]⟩

def an44 : List RAnn := [
 ra 0 [0],ra 1 [0]]

theorem comp44 : compF Tryz.prog an44 Tryz.f44 = some a44 := by kernel_rfl

/- graphdb/graph.Name -/
/-- loop 0 of function 45 -/
def l45_0_h : List Nat := [0,18,19]

def l45_0_b : ACode :=
 .seq (rg [op 20 (.bin .lss .int (tm 19) (tm 18))] [0,18,19,20])
 (.seq (.cond (tm 20) (.skip)
 (.exit 0))
 (.seq (.block 1 (.seq (rg [mv 21 19,mv 3 21] [0,3,18,19])
 (.seq (rg [mv 22 0,mv 23 3,op 24 (.sidx (tm 22) (tm 23)),op 25 (.call .pure 92 [(tm 24)]),op 26 (.un .not (tm 25)),mv 27 26,mg 28 0 27 true,mg 29 3 27 true,⟨some 30,.sidx (tm 28) (tm 29),some (27,true)⟩,⟨some 31,.bin .lss .int (tm 30) (.cst (.int .u8 48)),some (27,true)⟩,mg 32 31 27 true,mg 33 0 32 false,mg 34 3 32 false,⟨some 35,.sidx (tm 33) (tm 34),some (32,false)⟩,⟨some 36,.bin .gtr .int (tm 35) (.cst (.int .u8 57)),some (32,false)⟩,⟨some 37,.pick (tm 32) (.cst (.bool true)) (tm 36),some (27,true)⟩,op 38 (.pick (tm 27) (tm 37) (.cst (.bool false))),mv 39 38,mg 40 0 39 true,mg 41 3 39 true,⟨some 42,.sidx (tm 40) (tm 41),some (39,true)⟩,⟨some 43,.bin .neq .int (tm 42) (.cst (.int .u8 95)),some (39,true)⟩,op 44 (.pick (tm 39) (tm 43) (.cst (.bool false)))] [0,18,19,44])
 (.cond (tm 44) (.seq (rg [op 2 (.mov (.cst (.bool false)))] [2])
 (.ret))
 (.skip)))))
 (rg [op 45 (.bin .add .int (tm 19) (ci (1))),mv 19 45] [0,18,19])))

def c45 : ACode :=
 .seq (rg [op 2 (.mov (.cst (.bool false)))] [0])
 (.seq (.seq (rg [mv 4 0,op 5 (.bin .eql .str (tm 4) (.cst (.str []))),mv 6 5,mg 7 0 6 false,⟨some 8,.len .str (tm 7),some (6,false)⟩,⟨some 9,.bin .gtr .int (tm 8) (ci (20)),some (6,false)⟩,op 10 (.pick (tm 6) (.cst (.bool true)) (tm 9)),mv 11 10,mg 12 0 11 false,⟨some 13,.sidx (tm 12) (ci (0)),some (11,false)⟩,⟨some 14,.call .pure 92 [(tm 13)],some (11,false)⟩,⟨some 15,.un .not (tm 14),some (11,false)⟩,op 16 (.pick (tm 11) (.cst (.bool true)) (tm 15))] [0,16])
 (.cond (tm 16) (.seq (rg [op 2 (.mov (.cst (.bool false)))] [2])
 (.ret))
 (.skip)))
 (.seq (.seq (rg [mv 17 0,op 18 (.len .str (tm 17)),op 19 (.mov (ci (0)))] [0,18,19])
 (.block 0 (.loop l45_0_h l45_0_b)))
 (.seq (rg [op 2 (.mov (.cst (.bool true)))] [2])
 (.ret))))

def a45 : AFunc := ⟨1,c45,[.tmp 2]⟩

def an45 : List RAnn := [
 ra 0 [0],ra 1 [0,16],ra 2 [2],ra 3 [0,18,19],rh 4 [0,18,19,20] [0,18,19],ra 5 [0,3,18,19],ra 6 [0,18,19,44],ra 7 [2],ra 8 [0,18,19],ra 9 [2]]

theorem comp45 : compF Tryz.prog an45 Tryz.f45 = some a45 := by kernel_rfl

/- graphdb/value.Plain -/
def c46 : ACode :=
 .seq (rg [op 1 (.box 5 (tm 0)),op 2 (.mov (.cst (.bool false)))] [1])
 (.seq (rg [op 3 (.faddr 0 (tm 1)),op 4 (.load none (tm 3)),op 5 (.bin .eql .int (tm 4) (ci (1))),mv 6 5,⟨some 7,.faddr 0 (tm 1),some (6,false)⟩,⟨some 8,.load none (tm 7),some (6,false)⟩,⟨some 9,.bin .eql .int (tm 8) (ci (2)),some (6,false)⟩,op 10 (.pick (tm 6) (.cst (.bool true)) (tm 9)),mv 11 10,⟨some 12,.faddr 0 (tm 1),some (11,false)⟩,⟨some 13,.load none (tm 12),some (11,false)⟩,⟨some 14,.bin .eql .int (tm 13) (ci (4)),some (11,false)⟩,op 15 (.pick (tm 11) (.cst (.bool true)) (tm 14)),mv 16 15,⟨some 17,.load (some 5) (tm 1),some (16,true)⟩,⟨some 18,.call .pure 89 [(tm 17)],some (16,true)⟩,op 19 (.pick (tm 16) (tm 18) (.cst (.bool false))),mv 2 19] [2])
 (.ret))

def a46 : AFunc := ⟨1,c46,[.tmp 2]⟩

def an46 : List RAnn := [
 ra 0 [1],ra 1 [2]]

theorem comp46 : compF Tryz.prog an46 Tryz.f46 = some a46 := by kernel_rfl

/- graphdb/schema.Check -/
def c47 : ACode :=
 .seq (rg [op 1 (.box 6 (tm 0)),op 2 (.mov (ci (0)))] [1])
 (.seq (rg [op 6 (.faddr 0 (tm 1)),op 7 (.load none (tm 6)),op 8 (.call .pure 93 [(tm 7)]),mv 5 8,op 9 (.ext (tm 5) 0),op 10 (.ext (tm 5) 1),op 3 (.alloc 3 (.agg [.bool false,.bool false,.bool false])),⟨none,.store 3 (tm 3) (tm 9),none⟩,mv 4 10] [1,3,4])
 (.seq (.block 0 (.seq (.seq (rg [mv 12 4,op 13 (.un .not (tm 12)),mv 11 13] [1,3,11])
 (.cond (tm 11) (.skip)
 (.seq (rg [op 14 (.faddr 0 (tm 3)),op 15 (.load none (tm 14)),op 16 (.un .not (tm 15)),mv 17 16,⟨some 18,.faddr 3 (tm 1),some (17,true)⟩,⟨some 19,.load none (tm 18),some (17,true)⟩,⟨some 20,.bin .neq .str (tm 19) (.cst (.str [])),some (17,true)⟩,op 21 (.pick (tm 17) (tm 20) (.cst (.bool false))),mv 11 21] [1,3,11])
 (.cond (tm 11) (.skip)
 (.seq (rg [op 22 (.faddr 1 (tm 3)),op 23 (.load none (tm 22)),op 24 (.un .not (tm 23)),mv 25 24,⟨some 26,.faddr 1 (tm 1),some (25,true)⟩,⟨some 27,.load none (tm 26),some (25,true)⟩,⟨some 28,.bin .neq .int (tm 27) (ci (0)),some (25,true)⟩,op 29 (.pick (tm 25) (tm 28) (.cst (.bool false))),mv 11 29] [1,3,11])
 (.cond (tm 11) (.skip)
 (rg [op 30 (.faddr 2 (tm 3)),op 31 (.load none (tm 30)),op 32 (.un .not (tm 31)),mv 33 32,⟨some 34,.faddr 4 (tm 1),some (33,true)⟩,⟨some 35,.load none (tm 34),some (33,true)⟩,⟨some 36,.bin .neq .str (tm 35) (.cst (.str [])),some (33,true)⟩,mg 37 36 33 true,⟨some 38,.faddr 5 (tm 1),some (37,false)⟩,⟨some 39,.load none (tm 38),some (37,false)⟩,⟨some 40,.bin .neq .str (tm 39) (.cst (.str [])),some (37,false)⟩,⟨some 41,.pick (tm 37) (.cst (.bool true)) (tm 40),some (33,true)⟩,op 42 (.pick (tm 33) (tm 41) (.cst (.bool false))),mv 11 42] [1,3,11])))))))
 (.cond (tm 11) (.seq (rg [op 2 (.mov (ci (1)))] [2])
 (.ret))
 (.seq (rg [op 44 (.faddr 0 (tm 1)),op 45 (.load none (tm 44)),op 46 (.bin .eql .int (tm 45) (ci (7))),mv 47 46,⟨some 48,.faddr 1 (tm 1),some (47,true)⟩,⟨some 49,.load none (tm 48),some (47,true)⟩,⟨some 50,.bin .lss .int (tm 49) (ci (0)),some (47,true)⟩,mg 51 50 47 true,⟨some 52,.faddr 1 (tm 1),some (51,false)⟩,⟨some 53,.load none (tm 52),some (51,false)⟩,⟨some 54,.bin .gtr .int (tm 53) (ci (4000)),some (51,false)⟩,⟨some 55,.pick (tm 51) (.cst (.bool true)) (tm 54),some (47,true)⟩,op 56 (.pick (tm 47) (tm 55) (.cst (.bool false))),mv 43 56] [1,3,43])
 (.cond (tm 43) (.seq (rg [op 2 (.mov (ci (1)))] [2])
 (.ret))
 (.seq (rg [op 58 (.faddr 0 (tm 3)),op 59 (.load none (tm 58)),mv 60 59,⟨some 61,.faddr 1 (tm 3),some (60,true)⟩,⟨some 62,.load none (tm 61),some (60,true)⟩,op 63 (.pick (tm 60) (tm 62) (.cst (.bool false))),mv 64 63,⟨some 65,.faddr 1 (tm 1),some (64,true)⟩,⟨some 66,.load none (tm 65),some (64,true)⟩,⟨some 67,.call .pure 94 [(tm 66)],some (64,true)⟩,⟨some 68,.bin .eql .str (tm 67) (.cst (.str [])),some (64,true)⟩,op 69 (.pick (tm 64) (tm 68) (.cst (.bool false))),mv 57 69] [1,3,57])
 (.cond (tm 57) (.seq (rg [op 2 (.mov (ci (1)))] [2])
 (.ret))
 (.seq (.seq (rg [op 71 (.faddr 2 (tm 1)),op 72 (.load none (tm 71)),op 73 (.call .pure 45 [(tm 72)]),op 74 (.un .not (tm 73)),mv 70 74] [1,3,70])
 (.cond (tm 70) (.skip)
 (rg [op 75 (.faddr 0 (tm 3)),op 76 (.load none (tm 75)),mv 77 76,⟨some 78,.faddr 3 (tm 1),some (77,true)⟩,⟨some 79,.load none (tm 78),some (77,true)⟩,⟨some 80,.call .pure 45 [(tm 79)],some (77,true)⟩,⟨some 81,.un .not (tm 80),some (77,true)⟩,op 82 (.pick (tm 77) (tm 81) (.cst (.bool false))),mv 70 82] [1,70])))
 (.cond (tm 70) (.seq (rg [op 2 (.mov (ci (6)))] [2])
 (.ret))
 (.seq (.seq (rg [op 84 (.faddr 4 (tm 1)),op 85 (.load none (tm 84)),op 86 (.bin .neq .str (tm 85) (.cst (.str []))),mv 87 86,⟨some 88,.faddr 4 (tm 1),some (87,true)⟩,⟨some 89,.load none (tm 88),some (87,true)⟩,⟨some 90,.call .pure 45 [(tm 89)],some (87,true)⟩,⟨some 91,.un .not (tm 90),some (87,true)⟩,op 92 (.pick (tm 87) (tm 91) (.cst (.bool false))),mv 83 92] [1,83])
 (.cond (tm 83) (.skip)
 (rg [op 93 (.faddr 5 (tm 1)),op 94 (.load none (tm 93)),op 95 (.bin .neq .str (tm 94) (.cst (.str []))),mv 96 95,⟨some 97,.faddr 5 (tm 1),some (96,true)⟩,⟨some 98,.load none (tm 97),some (96,true)⟩,⟨some 99,.call .pure 45 [(tm 98)],some (96,true)⟩,⟨some 100,.un .not (tm 99),some (96,true)⟩,op 101 (.pick (tm 96) (tm 100) (.cst (.bool false))),mv 83 101] [83])))
 (.cond (tm 83) (.seq (rg [op 2 (.mov (ci (6)))] [2])
 (.ret))
 (.skip))))))))))))
 (.seq (rg [op 2 (.mov (ci (0)))] [2])
 (.ret))))

def a47 : AFunc := ⟨1,c47,[.tmp 2]⟩

def an47 : List RAnn := [
 ra 0 [1],ra 1 [1,3,4],ra 2 [1,3,11],ra 3 [1,3,11],ra 4 [1,3,11],ra 5 [1,3,11],ra 6 [2],ra 7 [1,3,43],ra 8 [2],ra 9 [1,3,57],ra 10 [2],ra 11 [1,3,70],ra 12 [1,70],ra 13 [2],ra 14 [1,83],ra 15 [83],ra 16 [2],ra 17 [2]]

theorem comp47 : compF Tryz.prog an47 Tryz.f47 = some a47 := by kernel_rfl

/- graphdb/graphdbref55.formed -/
def c48 : ACode :=
 .seq (rg [op 1 (.box 15 (tm 0)),op 2 (.mov (.cst (.bool false)))] [1])
 (.seq (.seq (rg [op 3 (.faddr 0 (tm 1)),op 4 (.load none (tm 3)),op 5 (.bin .lss .int (tm 4) (ci (1))),mv 6 5,⟨some 7,.faddr 0 (tm 1),some (6,false)⟩,⟨some 8,.load none (tm 7),some (6,false)⟩,⟨some 9,.bin .gtr .int (tm 8) (ci (7)),some (6,false)⟩,op 10 (.pick (tm 6) (.cst (.bool true)) (tm 9)),mv 11 10,⟨some 12,.faddr 0 (tm 1),some (11,false)⟩,⟨some 13,.load none (tm 12),some (11,false)⟩,⟨some 14,.call .pure 41 [(tm 13)],some (11,false)⟩,mg 15 14 11 false,⟨some 16,.faddr 2 (tm 1),some (15,true)⟩,⟨some 17,.load none (tm 16),some (15,true)⟩,⟨some 18,.faddr 3 (tm 1),some (15,true)⟩,⟨some 19,.load none (tm 18),some (15,true)⟩,⟨some 20,.bin .eql .str (tm 17) (tm 19),some (15,true)⟩,⟨some 21,.pick (tm 15) (tm 20) (.cst (.bool false)),some (11,false)⟩,op 22 (.pick (tm 11) (.cst (.bool true)) (tm 21))] [1,22])
 (.cond (tm 22) (.seq (rg [op 2 (.mov (.cst (.bool false)))] [2])
 (.ret))
 (.skip)))
 (.seq (.seq (rg [op 23 (.faddr 0 (tm 1)),op 24 (.load none (tm 23)),op 25 (.call .pure 49 [(tm 24)]),op 26 (.un .not (tm 25)),mv 27 26,⟨some 28,.faddr 1 (tm 1),some (27,true)⟩,⟨some 29,.load none (tm 28),some (27,true)⟩,⟨some 30,.bin .neq .str (tm 29) (.cst (.str [])),some (27,true)⟩,op 31 (.pick (tm 27) (tm 30) (.cst (.bool false))),mv 32 31,⟨some 33,.faddr 0 (tm 1),some (32,false)⟩,⟨some 34,.load none (tm 33),some (32,false)⟩,⟨some 35,.call .pure 51 [(tm 34)],some (32,false)⟩,⟨some 36,.un .not (tm 35),some (32,false)⟩,mg 37 36 32 false,⟨some 38,.faddr 2 (tm 1),some (37,true)⟩,⟨some 39,.load none (tm 38),some (37,true)⟩,⟨some 40,.bin .neq .str (tm 39) (.cst (.str [])),some (37,true)⟩,⟨some 41,.pick (tm 37) (tm 40) (.cst (.bool false)),some (32,false)⟩,op 42 (.pick (tm 32) (.cst (.bool true)) (tm 41)),mv 43 42,⟨some 44,.faddr 0 (tm 1),some (43,false)⟩,⟨some 45,.load none (tm 44),some (43,false)⟩,⟨some 46,.call .pure 52 [(tm 45)],some (43,false)⟩,⟨some 47,.un .not (tm 46),some (43,false)⟩,mg 48 47 43 false,⟨some 49,.faddr 3 (tm 1),some (48,true)⟩,⟨some 50,.load none (tm 49),some (48,true)⟩,⟨some 51,.bin .neq .str (tm 50) (.cst (.str [])),some (48,true)⟩,⟨some 52,.pick (tm 48) (tm 51) (.cst (.bool false)),some (43,false)⟩,op 53 (.pick (tm 43) (.cst (.bool true)) (tm 52))] [1,53])
 (.cond (tm 53) (.seq (rg [op 2 (.mov (.cst (.bool false)))] [2])
 (.ret))
 (.skip)))
 (.seq (.region (some 22) [] [
 op 54 (.faddr 0 (tm 1)),op 55 (.load none (tm 54)),op 56 (.call .pure 54 [(tm 55)]),mv 57 56,⟨some 58,.faddr 9 (tm 1),some (57,false)⟩,⟨some 59,.load (some 6) (tm 58),some (57,false)⟩,⟨some 60,.build [.int .i64 0,.int .i64 0,.str [],.str [],.str [],.str []] [],some (57,false)⟩,⟨some 61,.bin .eql (.flat [.int,.int,.str,.str,.str,.str]) (tm 59) (tm 60),some (57,false)⟩,op 62 (.pick (tm 57) (.cst (.bool true)) (tm 61)),mv 63 62,⟨some 64,.faddr 0 (tm 1),some (63,true)⟩,⟨some 65,.load none (tm 64),some (63,true)⟩,⟨some 66,.bin .eql .int (tm 65) (ci (5)),some (63,true)⟩,mg 67 66 63 true,⟨some 68,.faddr 4 (tm 1),some (67,false)⟩,⟨some 69,.load (some 5) (tm 68),some (67,false)⟩,⟨some 70,.call .pure 96 [],some (67,false)⟩,⟨some 71,.call .pure 95 [(tm 69),(tm 70)],some (67,false)⟩,⟨some 72,.bin .eql .int (tm 71) (ci (0)),some (67,false)⟩,⟨some 73,.pick (tm 67) (.cst (.bool true)) (tm 72),some (63,true)⟩,op 74 (.pick (tm 63) (tm 73) (.cst (.bool false))),mv 2 74] [2] none)
 (.ret))))

def a48 : AFunc := ⟨1,c48,[.tmp 2]⟩

def an48 : List RAnn := [
 ra 0 [1],ra 1 [1,22],ra 2 [2],ra 3 [1,53],ra 4 [2],
 { id := 5,head := some 22,live := [2] }]

theorem comp48 : compF Tryz.prog an48 Tryz.f48 = some a48 := by kernel_rfl

/- graphdb/graphdbref55.labeled -/
def c49 : ACode :=
 .seq (rg [op 2 (.mov (.cst (.bool false)))] [0])
 (.seq (rg [mv 3 0,op 4 (.bin .eql .int (tm 3) (ci (3))),mv 5 4,mg 6 0 5 false,⟨some 7,.bin .eql .int (tm 6) (ci (4)),some (5,false)⟩,op 8 (.pick (tm 5) (.cst (.bool true)) (tm 7)),mv 9 8,mg 10 0 9 false,⟨some 11,.bin .eql .int (tm 10) (ci (5)),some (9,false)⟩,op 12 (.pick (tm 9) (.cst (.bool true)) (tm 11)),mv 2 12] [2])
 (.ret))

def a49 : AFunc := ⟨1,c49,[.tmp 2]⟩

def an49 : List RAnn := [
 ra 0 [0],ra 1 [2]]

theorem comp49 : compF Tryz.prog an49 Tryz.f49 = some a49 := by kernel_rfl

/- graphdb/graphdbref07.Name -/
/-- loop 0 of function 50 -/
def l50_0_h : List Nat := [0,3]

def l50_0_b : ACode :=
 .seq (.seq (rg [mv 18 3,mv 19 0,op 20 (.len .str (tm 19)),op 21 (.bin .lss .int (tm 18) (tm 20))] [0,3,21])
 (.cond (tm 21) (.skip)
 (.exit 0)))
 (.seq (.block 1 (.seq (rg [mv 24 0,mv 25 3,op 26 (.sidx (tm 24) (tm 25)),op 27 (.call .pure 97 [(tm 26)]),op 28 (.un .not (tm 27)),mv 29 28,mg 30 0 29 true,mg 31 3 29 true,⟨some 32,.sidx (tm 30) (tm 31),some (29,true)⟩,⟨some 33,.bin .neq .int (tm 32) (.cst (.int .u8 95)),some (29,true)⟩,op 34 (.pick (tm 29) (tm 33) (.cst (.bool false))),mv 35 34,mg 36 0 35 true,mg 37 3 35 true,⟨some 38,.sidx (tm 36) (tm 37),some (35,true)⟩,⟨some 39,.bin .lss .int (tm 38) (.cst (.int .u8 48)),some (35,true)⟩,mg 40 39 35 true,mg 41 0 40 false,mg 42 3 40 false,⟨some 43,.sidx (tm 41) (tm 42),some (40,false)⟩,⟨some 44,.bin .gtr .int (tm 43) (.cst (.int .u8 57)),some (40,false)⟩,⟨some 45,.pick (tm 40) (.cst (.bool true)) (tm 44),some (35,true)⟩,op 46 (.pick (tm 35) (tm 45) (.cst (.bool false)))] [0,3,46])
 (.cond (tm 46) (.seq (rg [op 2 (.mov (.cst (.bool false)))] [2])
 (.ret))
 (.skip))))
 (rg [mv 22 3,op 23 (.bin .add .int (tm 22) (ci (1))),mv 3 23] [0,3]))

def c50 : ACode :=
 .seq (rg [op 2 (.mov (.cst (.bool false)))] [0])
 (.seq (.seq (rg [mv 4 0,op 5 (.len .str (tm 4)),op 6 (.bin .lss .int (tm 5) (ci (1))),mv 7 6,mg 8 0 7 false,⟨some 9,.len .str (tm 8),some (7,false)⟩,⟨some 10,.bin .gtr .int (tm 9) (ci (20)),some (7,false)⟩,op 11 (.pick (tm 7) (.cst (.bool true)) (tm 10)),mv 12 11,mg 13 0 12 false,⟨some 14,.sidx (tm 13) (ci (0)),some (12,false)⟩,⟨some 15,.call .pure 97 [(tm 14)],some (12,false)⟩,⟨some 16,.un .not (tm 15),some (12,false)⟩,op 17 (.pick (tm 12) (.cst (.bool true)) (tm 16))] [0,17])
 (.cond (tm 17) (.seq (rg [op 2 (.mov (.cst (.bool false)))] [2])
 (.ret))
 (.skip)))
 (.seq (.seq (rg [op 3 (.mov (ci (1)))] [0,3])
 (.block 0 (.loop l50_0_h l50_0_b)))
 (.seq (rg [op 2 (.mov (.cst (.bool true)))] [2])
 (.ret))))

def a50 : AFunc := ⟨1,c50,[.tmp 2]⟩

def an50 : List RAnn := [
 ra 0 [0],ra 1 [0,17],ra 2 [2],ra 3 [0,3],rh 4 [0,3,21] [0,3],ra 6 [0,3,46],ra 7 [2],ra 5 [0,3],ra 8 [2]]

theorem comp50 : compF Tryz.prog an50 Tryz.f50 = some a50 := by kernel_rfl

/- graphdb/graphdbref55.from -/
def c51 : ACode :=
 .seq (rg [op 2 (.mov (.cst (.bool false)))] [0])
 (.seq (rg [mv 3 0,op 4 (.call .pure 41 [(tm 3)]),mv 5 4,mg 6 0 5 false,⟨some 7,.bin .eql .int (tm 6) (ci (4)),some (5,false)⟩,op 8 (.pick (tm 5) (.cst (.bool true)) (tm 7)),mv 2 8] [2])
 (.ret))

def a51 : AFunc := ⟨1,c51,[.tmp 2]⟩

def an51 : List RAnn := [
 ra 0 [0],ra 1 [2]]

theorem comp51 : compF Tryz.prog an51 Tryz.f51 = some a51 := by kernel_rfl

/- graphdb/graphdbref55.to -/
def c52 : ACode :=
 .seq (rg [op 2 (.mov (.cst (.bool false)))] [0])
 (.seq (rg [mv 3 0,op 4 (.call .pure 41 [(tm 3)]),mv 5 4,mg 6 0 5 false,⟨some 7,.bin .eql .int (tm 6) (ci (5)),some (5,false)⟩,op 8 (.pick (tm 5) (.cst (.bool true)) (tm 7)),mv 2 8] [2])
 (.ret))

def a52 : AFunc := ⟨1,c52,[.tmp 2]⟩

def an52 : List RAnn := [
 ra 0 [0],ra 1 [2]]

theorem comp52 : compF Tryz.prog an52 Tryz.f52 = some a52 := by kernel_rfl

/- graphdb/graphdbref04.Plain -/
def c53 : ACode :=
 .seq (rg [op 1 (.box 5 (tm 0)),op 2 (.mov (.cst (.bool false)))] [1])
 (.seq (rg [op 3 (.load (some 5) (tm 1)),op 4 (.call .pure 98 [(tm 3)]),mv 5 4,⟨some 6,.faddr 0 (tm 1),some (5,true)⟩,⟨some 7,.load none (tm 6),some (5,true)⟩,⟨some 8,.bin .eql .int (tm 7) (ci (1)),some (5,true)⟩,mg 9 8 5 true,⟨some 10,.faddr 0 (tm 1),some (9,false)⟩,⟨some 11,.load none (tm 10),some (9,false)⟩,⟨some 12,.bin .eql .int (tm 11) (ci (2)),some (9,false)⟩,⟨some 13,.pick (tm 9) (.cst (.bool true)) (tm 12),some (5,true)⟩,mg 14 13 5 true,⟨some 15,.faddr 0 (tm 1),some (14,false)⟩,⟨some 16,.load none (tm 15),some (14,false)⟩,⟨some 17,.bin .eql .int (tm 16) (ci (4)),some (14,false)⟩,⟨some 18,.pick (tm 14) (.cst (.bool true)) (tm 17),some (5,true)⟩,op 19 (.pick (tm 5) (tm 18) (.cst (.bool false))),mv 2 19] [2])
 (.ret))

def a53 : AFunc := ⟨1,c53,[.tmp 2]⟩

def an53 : List RAnn := [
 ra 0 [1],ra 1 [2]]

theorem comp53 : compF Tryz.prog an53 Tryz.f53 = some a53 := by kernel_rfl

/- graphdb/graphdbref55.ruled -/
def c54 : ACode :=
 .seq (rg [op 2 (.mov (.cst (.bool false)))] [0])
 (.seq (rg [mv 3 0,op 4 (.bin .eql .int (tm 3) (ci (6))),mv 5 4,mg 6 0 5 false,⟨some 7,.bin .eql .int (tm 6) (ci (7)),some (5,false)⟩,op 8 (.pick (tm 5) (.cst (.bool true)) (tm 7)),mv 2 8] [2])
 (.ret))

def a54 : AFunc := ⟨1,c54,[.tmp 2]⟩

def an54 : List RAnn := [
 ra 0 [0],ra 1 [2]]

theorem comp54 : compF Tryz.prog an54 Tryz.f54 = some a54 := by kernel_rfl

/- graphdb/graphdbref09.Check -/
def c55 : ACode :=
 .seq (rg [op 1 (.box 6 (tm 0)),op 2 (.mov (ci (0)))] [1])
 (.seq (.seq (rg [op 3 (.faddr 0 (tm 1)),op 4 (.load none (tm 3)),op 5 (.bin .lss .int (tm 4) (ci (1))),mv 6 5,⟨some 7,.faddr 0 (tm 1),some (6,false)⟩,⟨some 8,.load none (tm 7),some (6,false)⟩,⟨some 9,.bin .gtr .int (tm 8) (ci (7)),some (6,false)⟩,op 10 (.pick (tm 6) (.cst (.bool true)) (tm 9)),mv 11 10,⟨some 12,.load (some 6) (tm 1),some (11,false)⟩,⟨some 13,.call .pure 99 [(tm 12)],some (11,false)⟩,⟨some 14,.un .not (tm 13),some (11,false)⟩,op 15 (.pick (tm 11) (.cst (.bool true)) (tm 14))] [1,15])
 (.cond (tm 15) (.seq (rg [op 2 (.mov (ci (1)))] [2])
 (.ret))
 (.skip)))
 (.seq (.seq (rg [op 16 (.faddr 0 (tm 1)),op 17 (.load none (tm 16)),op 18 (.call .pure 100 [(tm 17)]),op 19 (.un .not (tm 18)),mv 20 19,⟨some 21,.faddr 3 (tm 1),some (20,true)⟩,⟨some 22,.load none (tm 21),some (20,true)⟩,⟨some 23,.bin .neq .str (tm 22) (.cst (.str [])),some (20,true)⟩,op 24 (.pick (tm 20) (tm 23) (.cst (.bool false))),mv 25 24,⟨some 26,.faddr 0 (tm 1),some (25,false)⟩,⟨some 27,.load none (tm 26),some (25,false)⟩,⟨some 28,.bin .neq .int (tm 27) (ci (6)),some (25,false)⟩,mg 29 28 25 false,⟨some 30,.faddr 4 (tm 1),some (29,true)⟩,⟨some 31,.load none (tm 30),some (29,true)⟩,⟨some 32,.bin .neq .str (tm 31) (.cst (.str [])),some (29,true)⟩,mg 33 32 29 true,⟨some 34,.faddr 5 (tm 1),some (33,false)⟩,⟨some 35,.load none (tm 34),some (33,false)⟩,⟨some 36,.bin .neq .str (tm 35) (.cst (.str [])),some (33,false)⟩,⟨some 37,.pick (tm 33) (.cst (.bool true)) (tm 36),some (29,true)⟩,⟨some 38,.pick (tm 29) (tm 37) (.cst (.bool false)),some (25,false)⟩,op 39 (.pick (tm 25) (.cst (.bool true)) (tm 38))] [1,39])
 (.cond (tm 39) (.seq (rg [op 2 (.mov (ci (1)))] [2])
 (.ret))
 (.skip)))
 (.seq (.seq (rg [op 40 (.faddr 2 (tm 1)),op 41 (.load none (tm 40)),op 42 (.call .pure 101 [(tm 41)]),op 43 (.un .not (tm 42)),mv 44 43,⟨some 45,.faddr 0 (tm 1),some (44,false)⟩,⟨some 46,.load none (tm 45),some (44,false)⟩,⟨some 47,.call .pure 100 [(tm 46)],some (44,false)⟩,mg 48 47 44 false,⟨some 49,.faddr 3 (tm 1),some (48,true)⟩,⟨some 50,.load none (tm 49),some (48,true)⟩,⟨some 51,.call .pure 101 [(tm 50)],some (48,true)⟩,⟨some 52,.un .not (tm 51),some (48,true)⟩,⟨some 53,.pick (tm 48) (tm 52) (.cst (.bool false)),some (44,false)⟩,op 54 (.pick (tm 44) (.cst (.bool true)) (tm 53)),mv 55 54,⟨some 56,.faddr 4 (tm 1),some (55,false)⟩,⟨some 57,.load none (tm 56),some (55,false)⟩,⟨some 58,.bin .neq .str (tm 57) (.cst (.str [])),some (55,false)⟩,mg 59 58 55 false,⟨some 60,.faddr 4 (tm 1),some (59,true)⟩,⟨some 61,.load none (tm 60),some (59,true)⟩,⟨some 62,.call .pure 101 [(tm 61)],some (59,true)⟩,⟨some 63,.un .not (tm 62),some (59,true)⟩,⟨some 64,.pick (tm 59) (tm 63) (.cst (.bool false)),some (55,false)⟩,op 65 (.pick (tm 55) (.cst (.bool true)) (tm 64)),mv 66 65,⟨some 67,.faddr 5 (tm 1),some (66,false)⟩,⟨some 68,.load none (tm 67),some (66,false)⟩,⟨some 69,.bin .neq .str (tm 68) (.cst (.str [])),some (66,false)⟩,mg 70 69 66 false,⟨some 71,.faddr 5 (tm 1),some (70,true)⟩,⟨some 72,.load none (tm 71),some (70,true)⟩,⟨some 73,.call .pure 101 [(tm 72)],some (70,true)⟩,⟨some 74,.un .not (tm 73),some (70,true)⟩,⟨some 75,.pick (tm 70) (tm 74) (.cst (.bool false)),some (66,false)⟩,op 76 (.pick (tm 66) (.cst (.bool true)) (tm 75))] [76])
 (.cond (tm 76) (.seq (rg [op 2 (.mov (ci (6)))] [2])
 (.ret))
 (.skip)))
 (.seq (rg [op 2 (.mov (ci (0)))] [2])
 (.ret)))))

def a55 : AFunc := ⟨1,c55,[.tmp 2]⟩

def an55 : List RAnn := [
 ra 0 [1],ra 1 [1,15],ra 2 [2],ra 3 [1,39],ra 4 [2],ra 5 [76],ra 6 [2],ra 7 [2]]

theorem comp55 : compF Tryz.prog an55 Tryz.f55 = some a55 := by kernel_rfl

/- graphdb/graphdbref08.Same -/
def c56 : ACode :=
 .seq (rg [op 2 (.box 10 (tm 0)),op 3 (.box 10 (tm 1)),op 4 (.mov (.cst (.bool false)))] [2,3])
 (.seq (rg [op 5 (.faddr 0 (tm 2)),op 6 (.load none (tm 5)),op 7 (.faddr 0 (tm 3)),op 8 (.load none (tm 7)),op 9 (.bin .eql .int (tm 6) (tm 8)),mv 10 9,⟨some 11,.faddr 1 (tm 2),some (10,true)⟩,⟨some 12,.load none (tm 11),some (10,true)⟩,⟨some 13,.faddr 1 (tm 3),some (10,true)⟩,⟨some 14,.load none (tm 13),some (10,true)⟩,⟨some 15,.bin .eql .int (tm 12) (tm 14),some (10,true)⟩,op 16 (.pick (tm 10) (tm 15) (.cst (.bool false))),mv 17 16,⟨some 18,.faddr 2 (tm 2),some (17,true)⟩,⟨some 19,.load none (tm 18),some (17,true)⟩,⟨some 20,.faddr 2 (tm 3),some (17,true)⟩,⟨some 21,.load none (tm 20),some (17,true)⟩,⟨some 22,.bin .eql .int (tm 19) (tm 21),some (17,true)⟩,op 23 (.pick (tm 17) (tm 22) (.cst (.bool false))),mv 24 23,⟨some 25,.faddr 3 (tm 2),some (24,true)⟩,⟨some 26,.load none (tm 25),some (24,true)⟩,⟨some 27,.faddr 3 (tm 3),some (24,true)⟩,⟨some 28,.load none (tm 27),some (24,true)⟩,⟨some 29,.bin .eql .int (tm 26) (tm 28),some (24,true)⟩,op 30 (.pick (tm 24) (tm 29) (.cst (.bool false))),mv 31 30,⟨some 32,.faddr 4 (tm 2),some (31,true)⟩,⟨some 33,.load none (tm 32),some (31,true)⟩,⟨some 34,.faddr 4 (tm 3),some (31,true)⟩,⟨some 35,.load none (tm 34),some (31,true)⟩,⟨some 36,.bin .eql .str (tm 33) (tm 35),some (31,true)⟩,op 37 (.pick (tm 31) (tm 36) (.cst (.bool false))),mv 38 37,⟨some 39,.faddr 5 (tm 2),some (38,true)⟩,⟨some 40,.load (some 5) (tm 39),some (38,true)⟩,⟨some 41,.faddr 5 (tm 3),some (38,true)⟩,⟨some 42,.load (some 5) (tm 41),some (38,true)⟩,⟨some 43,.call .pure 95 [(tm 40),(tm 42)],some (38,true)⟩,⟨some 44,.bin .eql .int (tm 43) (ci (0)),some (38,true)⟩,op 45 (.pick (tm 38) (tm 44) (.cst (.bool false))),mv 4 45] [4])
 (.ret))

def a56 : AFunc := ⟨2,c56,[.tmp 4]⟩

def an56 : List RAnn := [
 ra 0 [2,3],ra 1 [4]]

theorem comp56 : compF Tryz.prog an56 Tryz.f56 = some a56 := by kernel_rfl

/- graphdb/graphdbref04.Weigh -/
/-- loop 0 of function 57 -/
def l57_0_h : List Nat := [1,2,3,7]

def l57_0_b : ACode :=
 .seq (.seq (rg [mv 17 7,op 18 (.faddr 4 (tm 3)),op 19 (.load none (tm 18)),op 20 (.len .slice (tm 19)),op 21 (.bin .lss .int (tm 17) (tm 20)),mv 22 21,mg 23 1 22 true,⟨some 24,.bin .geq .int (tm 23) (ci (0)),some (22,true)⟩,op 25 (.pick (tm 22) (tm 24) (.cst (.bool false)))] [1,2,3,7,25])
 (.cond (tm 25) (.skip)
 (.exit 0)))
 (.seq (.block 1 (rg [op 28 (.faddr 4 (tm 3)),op 29 (.load none (tm 28)),mv 30 7,op 31 (.iaddr 5 (tm 29) (tm 30)),op 32 (.load (some 5) (tm 31)),mv 33 1,mv 34 2,op 35 (.bin .sub .int (tm 34) (ci (1))),op 36 (.call .pure 57 [(tm 32),(tm 33),(tm 35)]),mv 1 36] [1,2,3,7]))
 (rg [mv 26 7,op 27 (.bin .add .int (tm 26) (ci (1))),mv 7 27] [1,2,3,7]))

def c57 : ACode :=
 .seq (rg [op 3 (.box 5 (tm 0)),op 6 (.mov (ci (0)))] [1,2,3])
 (.seq (rg [mv 8 1,op 9 (.bin .sub .int (tm 8) (ci (1))),op 10 (.faddr 3 (tm 3)),op 11 (.load none (tm 10)),op 12 (.len .str (tm 11)),op 13 (.bin .quo .int (tm 12) (ci (50))),op 14 (.bin .sub .int (tm 9) (tm 13)),mv 1 14] [1,2,3])
 (.seq (.seq (rg [mv 15 2,op 16 (.bin .lss .int (tm 15) (ci (1)))] [1,2,3,16])
 (.cond (tm 16) (.seq (rg [op 6 (.mov (ci ((-1))))] [6])
 (.ret))
 (.skip)))
 (.seq (.seq (rg [op 7 (.mov (ci (0)))] [1,2,3,7])
 (.block 0 (.loop l57_0_h l57_0_b)))
 (.seq (rg [mv 37 1,mv 6 37] [6])
 (.ret)))))

def a57 : AFunc := ⟨3,c57,[.tmp 6]⟩

def an57 : List RAnn := [
 ra 0 [1,2,3],ra 1 [1,2,3],ra 2 [1,2,3,16],ra 3 [6],ra 4 [1,2,3,7],rh 5 [1,2,3,7,25] [1,2,3,7],ra 7 [1,2,3,7],ra 6 [1,2,3,7],ra 8 [6]]

theorem comp57 : compF Tryz.prog an57 Tryz.f57 = some a57 := by kernel_rfl

/- slices.BinarySearchFunc[[]graphdb/api.Rule,graphdb/api.Rule,graphdb/api.Rule] -/
/-- loop 0 of function 58 -/
def l58_0_h : List Nat := [0,2,4,8,9,10]

def l58_0_b : ACode :=
 .seq (.seq (rg [mv 15 9,mv 16 10,op 17 (.bin .lss .int (tm 15) (tm 16))] [0,2,4,8,9,10,17])
 (.cond (tm 17) (.skip)
 (.exit 0)))
 (.block 1 (.seq (rg [mv 18 9,mv 19 10,op 20 (.bin .add .int (tm 18) (tm 19)),op 21 (.conv .u64 (tm 20)),op 22 (.bin .shr .int (tm 21) (.cst (.int .u64 1))),op 23 (.conv .i64 (tm 22)),mv 11 23] [0,2,4,8,9,10,11])
 (.seq (.region (some 8) [] [
 mv 24 2,mv 25 0,mv 26 11,op 27 (.iaddr 6 (tm 25) (tm 26)),op 28 (.load (some 6) (tm 27)),op 29 (.load (some 6) (tm 4)),op 30 (.callv .pure (tm 24) [(tm 28),(tm 29)]),op 31 (.bin .lss .int (tm 30) (ci (0)))] [0,2,4,8,9,10,11,31] none)
 (.cond (tm 31) (rg [mv 32 11,op 33 (.bin .add .int (tm 32) (ci (1))),mv 9 33] [0,2,4,8,9,10])
 (rg [mv 34 11,mv 10 34] [0,2,4,8,9,10])))))

def c58 : ACode :=
 .seq (rg [op 4 (.box 6 (tm 1)),op 6 (.mov (ci (0))),op 7 (.mov (.cst (.bool false)))] [0,2,4])
 (.seq (rg [mv 12 0,op 13 (.len .slice (tm 12)),mv 8 13] [0,2,4,8])
 (.seq (rg [mv 14 8,op 9 (.mov (ci (0))),mv 10 14] [0,2,4,8,9,10])
 (.seq (.block 0 (.loop l58_0_h l58_0_b))
 (.seq (.region (some 16) [] [
 mv 35 9,mv 36 9,mv 37 8,op 38 (.bin .lss .int (tm 36) (tm 37)),mv 39 38,mg 40 2 39 true,mg 41 0 39 true,mg 42 9 39 true,⟨some 43,.iaddr 6 (tm 41) (tm 42),some (39,true)⟩,⟨some 44,.load (some 6) (tm 43),some (39,true)⟩,⟨some 45,.load (some 6) (tm 4),some (39,true)⟩,⟨some 46,.callv .pure (tm 40) [(tm 44),(tm 45)],some (39,true)⟩,⟨some 47,.bin .eql .int (tm 46) (ci (0)),some (39,true)⟩,op 48 (.pick (tm 39) (tm 47) (.cst (.bool false))),mv 6 35,mv 7 48] [6,7] none)
 (.ret)))))

def a58 : AFunc := ⟨3,c58,[.tmp 6,.tmp 7]⟩

def an58 : List RAnn := [
 ra 0 [0,2,4],ra 1 [0,2,4,8],ra 2 [0,2,4,8,9,10],rh 3 [0,2,4,8,9,10,17] [0,2,4,8,9,10],ra 4 [0,2,4,8,9,10,11],
 { id := 5,head := some 8,live := [0,2,4,8,9,10,11,31] },
 ra 6 [0,2,4,8,9,10],ra 7 [0,2,4,8,9,10],
 { id := 8,head := some 16,live := [6,7] }]

theorem comp58 : compF Tryz.prog an58 Tryz.f58 = some a58 := by kernel_rfl

/- slices.Clone[[]graphdb/api.Rule,graphdb/api.Rule] -/
def c60 : ACode :=
 .seq (rg [op 2 (.mov (.cst (.sl false [])))] [0])
 (.seq (.seq (rg [mv 3 0,op 4 (.bin .eql .slice (tm 3) (.cst (.sl false [])))] [0,4])
 (.cond (tm 4) (.seq (rg [op 2 (.mov (.cst (.sl false [])))] [2])
 (.ret))
 (.skip)))
 (.seq (rg [op 5 (.lit true 6 (.agg [.int .i64 0,.int .i64 0,.str [],.str [],.str [],.str []]) 0 []),mv 6 0,op 7 (.append 6 80 (tm 5) (tm 6)),mv 2 7] [2])
 (.ret)))

def a60 : AFunc := ⟨1,c60,[.tmp 2]⟩

def an60 : List RAnn := [
 ra 0 [0],ra 1 [0,4],ra 2 [2],
 { id := 3,live := [2],ops := [(0,.own)] }]

theorem comp60 : compF Tryz.prog an60 Tryz.f60 = some a60 := by kernel_rfl

/- graphdb/evolve.ofNodes -/
def c62 : ACode :=
 .seq (rg [op 1 (.box 6 (tm 0)),op 2 (.mov (.cst (.bool false)))] [1])
 (.seq (rg [op 3 (.faddr 0 (tm 1)),op 4 (.load none (tm 3)),op 5 (.bin .eql .int (tm 4) (ci (1))),mv 6 5,⟨some 7,.faddr 0 (tm 1),some (6,false)⟩,⟨some 8,.load none (tm 7),some (6,false)⟩,⟨some 9,.bin .eql .int (tm 8) (ci (2)),some (6,false)⟩,op 10 (.pick (tm 6) (.cst (.bool true)) (tm 9)),mv 11 10,⟨some 12,.faddr 0 (tm 1),some (11,false)⟩,⟨some 13,.load none (tm 12),some (11,false)⟩,⟨some 14,.bin .eql .int (tm 13) (ci (3)),some (11,false)⟩,op 15 (.pick (tm 11) (.cst (.bool true)) (tm 14)),mv 2 15] [2])
 (.ret))

def a62 : AFunc := ⟨1,c62,[.tmp 2]⟩

def an62 : List RAnn := [
 ra 0 [1],ra 1 [2]]

theorem comp62 : compF Tryz.prog an62 Tryz.f62 = some a62 := by kernel_rfl

/- graphdb/evolve.rename -/
def c63 : ACode :=
 .seq (rg [op 3 (.box 15 (tm 1))] [0,3])
 (.seq (.region (some 6) [] [
 mv 4 0,op 5 (.nilchk (tm 4)),op 6 (.load none (tm 5)),op 7 (.faddr 2 (tm 3)),op 8 (.load none (tm 7)),op 9 (.bin .eql .str (tm 6) (tm 8))] [0,3,9] none)
 (.cond (tm 9) (rg [mv 10 0,op 11 (.faddr 3 (tm 3)),op 12 (.load none (tm 11)),op 13 (.nilchk (tm 10)),⟨none,.store 1 (tm 13) (tm 12),none⟩] [])
 (.skip)))

def a63 : AFunc := ⟨2,c63,[]⟩

def an63 : List RAnn := [
 ra 0 [0,3],
 { id := 1,head := some 6,live := [0,3,9] },
 { id := 2 }]

theorem comp63 : compF Tryz.prog an63 Tryz.f63 = some a63 := by kernel_rfl

/- slices.pdqsortCmpFunc[graphdb/api.Rule] -/
/-- loop 0 of function 64 -/
def l64_0_h : List Nat := [0,1,2,3,4,10,11]

def l64_0_b : ACode :=
 .block 1 (.seq (rg [mv 21 2,mv 22 1,op 23 (.bin .sub .int (tm 21) (tm 22)),mv 12 23] [0,1,2,3,4,10,11,12])
 (.seq (.seq (rg [mv 24 12,op 25 (.bin .leq .int (tm 24) (ci (12)))] [0,1,2,3,4,10,11,12,25])
 (.cond (tm 25) (.seq (rg [mv 26 0,mv 27 1,mv 28 2,mv 29 4,op 30 (.call .share 104 [(tm 26),(tm 27),(tm 28),(tm 29)])] [])
 (.ret))
 (.skip)))
 (.seq (.seq (rg [mv 31 3,op 32 (.bin .eql .int (tm 31) (ci (0)))] [0,1,2,3,4,10,11,12,32])
 (.cond (tm 32) (.seq (rg [mv 33 0,mv 34 1,mv 35 2,mv 36 4,op 37 (.call .share 105 [(tm 33),(tm 34),(tm 35),(tm 36)])] [])
 (.ret))
 (.skip)))
 (.seq (.seq (rg [mv 38 10,op 39 (.un .not (tm 38))] [0,1,2,3,4,10,11,12,39])
 (.cond (tm 39) (.seq (rg [mv 40 0,mv 41 1,mv 42 2,mv 43 4,op 44 (.call .share 106 [(tm 40),(tm 41),(tm 42),(tm 43)])] [0,1,2,3,4,10,11,12])
 (rg [mv 45 3,op 46 (.bin .sub .int (tm 45) (ci (1))),mv 3 46] [0,1,2,3,4,10,11,12]))
 (.skip)))
 (.seq (rg [mv 48 0,mv 49 1,mv 50 2,mv 51 4,op 52 (.call .share 107 [(tm 48),(tm 49),(tm 50),(tm 51)]),mv 47 52,op 53 (.ext (tm 47) 0),op 54 (.ext (tm 47) 1),mv 13 53,mv 14 54] [0,1,2,3,4,10,11,12,13,14])
 (.seq (.seq (rg [mv 55 14,op 56 (.bin .eql .int (tm 55) (ci (2)))] [0,1,2,3,4,10,11,12,13,14,56])
 (.cond (tm 56) (.seq (rg [mv 57 0,mv 58 1,mv 59 2,mv 60 4,op 61 (.call .share 108 [(tm 57),(tm 58),(tm 59),(tm 60)])] [0,1,2,3,4,10,11,12,13])
 (.seq (rg [mv 62 2,op 63 (.bin .sub .int (tm 62) (ci (1))),mv 64 13,mv 65 1,op 66 (.bin .sub .int (tm 64) (tm 65)),op 67 (.bin .sub .int (tm 63) (tm 66)),mv 13 67] [0,1,2,3,4,10,11,12,13])
 (rg [op 14 (.mov (ci (1)))] [0,1,2,3,4,10,11,12,13,14])))
 (.skip)))
 (.seq (.seq (rg [mv 68 10,mv 69 68,mg 70 11 69 true,op 71 (.pick (tm 69) (tm 70) (.cst (.bool false))),mv 72 71,mg 73 14 72 true,⟨some 74,.bin .eql .int (tm 73) (ci (1)),some (72,true)⟩,op 75 (.pick (tm 72) (tm 74) (.cst (.bool false)))] [0,1,2,3,4,10,11,12,13,75])
 (.cond (tm 75) (.seq (rg [mv 76 0,mv 77 1,mv 78 2,mv 79 4,op 80 (.call .share 109 [(tm 76),(tm 77),(tm 78),(tm 79)])] [0,1,2,3,4,10,11,12,13,80])
 (.cond (tm 80) (.ret)
 (.skip)))
 (.skip)))
 (.seq (.seq (.region (some 17) [] [
 mv 81 1,op 82 (.bin .gtr .int (tm 81) (ci (0))),mv 83 82,mg 84 4 83 true,mg 85 0 83 true,mg 86 1 83 true,⟨some 87,.bin .sub .int (tm 86) (ci (1)),some (83,true)⟩,⟨some 88,.iaddr 6 (tm 85) (tm 87),some (83,true)⟩,⟨some 89,.load (some 6) (tm 88),some (83,true)⟩,mg 90 0 83 true,mg 91 13 83 true,⟨some 92,.iaddr 6 (tm 90) (tm 91),some (83,true)⟩,⟨some 93,.load (some 6) (tm 92),some (83,true)⟩,⟨some 94,.callv .pure (tm 84) [(tm 89),(tm 93)],some (83,true)⟩,⟨some 95,.bin .lss .int (tm 94) (ci (0)),some (83,true)⟩,⟨some 96,.un .not (tm 95),some (83,true)⟩,op 97 (.pick (tm 83) (tm 96) (.cst (.bool false)))] [0,1,2,3,4,10,11,12,13,97] none)
 (.cond (tm 97) (.seq (rg [mv 98 0,mv 99 1,mv 100 2,mv 101 13,mv 102 4,op 103 (.call .share 110 [(tm 98),(tm 99),(tm 100),(tm 101),(tm 102)]),mv 15 103] [0,2,3,4,10,11,15])
 (.seq (rg [mv 104 15,mv 1 104] [0,1,2,3,4,10,11])
 (.exit 1)))
 (.skip)))
 (.seq (rg [mv 106 0,mv 107 1,mv 108 2,mv 109 13,mv 110 4,op 111 (.call .share 111 [(tm 106),(tm 107),(tm 108),(tm 109),(tm 110)]),mv 105 111,op 112 (.ext (tm 105) 0),op 113 (.ext (tm 105) 1),mv 16 112,mv 17 113] [0,1,2,3,4,12,16,17])
 (.seq (rg [mv 114 17,mv 11 114] [0,1,2,3,4,11,12,16])
 (.seq (rg [mv 115 16,mv 116 1,op 117 (.bin .sub .int (tm 115) (tm 116)),mv 118 2,mv 119 16,op 120 (.bin .sub .int (tm 118) (tm 119)),mv 18 117,mv 19 120] [0,1,2,3,4,11,12,16,18,19])
 (.seq (rg [mv 121 12,op 122 (.bin .quo .int (tm 121) (ci (8))),mv 20 122] [0,1,2,3,4,11,16,18,19,20])
 (.seq (rg [mv 123 18,mv 124 19,op 125 (.bin .lss .int (tm 123) (tm 124))] [0,1,2,3,4,11,16,18,19,20,125])
 (.cond (tm 125) (.seq (rg [mv 126 18,mv 127 20,op 128 (.bin .geq .int (tm 126) (tm 127)),mv 10 128] [0,1,2,3,4,10,11,16])
 (.seq (rg [mv 129 0,mv 130 1,mv 131 16,mv 132 3,mv 133 4,op 134 (.call .share 64 [(tm 129),(tm 130),(tm 131),(tm 132),(tm 133)])] [0,2,3,4,10,11,16])
 (rg [mv 135 16,op 136 (.bin .add .int (tm 135) (ci (1))),mv 1 136] [0,1,2,3,4,10,11])))
 (.seq (rg [mv 137 19,mv 138 20,op 139 (.bin .geq .int (tm 137) (tm 138)),mv 10 139] [0,1,2,3,4,10,11,16])
 (.seq (rg [mv 140 0,mv 141 16,op 142 (.bin .add .int (tm 141) (ci (1))),mv 143 2,mv 144 3,mv 145 4,op 146 (.call .share 64 [(tm 140),(tm 142),(tm 143),(tm 144),(tm 145)])] [0,1,3,4,10,11,16])
 (rg [mv 147 16,mv 2 147] [0,1,2,3,4,10,11])))))))))))))))))

def c64 : ACode :=
 .seq (rg [op 10 (.mov (.cst (.bool true)))] [0,1,2,3,4,10])
 (.seq (rg [op 11 (.mov (.cst (.bool true)))] [0,1,2,3,4,10,11])
 (.block 0 (.loop l64_0_h l64_0_b)))

def a64 : AFunc := ⟨5,c64,[]⟩

def an64 : List RAnn := [
 ra 0 [0,1,2,3,4,10],ra 1 [0,1,2,3,4,10,11],rh 2 [0,1,2,3,4,10,11,12] [0,1,2,3,4,10,11],ra 3 [0,1,2,3,4,10,11,12,25],
 { id := 4,ops := [(4,.mode .share)] },
 ra 5 [0,1,2,3,4,10,11,12,32],
 { id := 6,ops := [(4,.mode .share)] },
 ra 7 [0,1,2,3,4,10,11,12,39],
 { id := 8,live := [0,1,2,3,4,10,11,12],ops := [(4,.mode .share)] },
 ra 9 [0,1,2,3,4,10,11,12],
 { id := 10,live := [0,1,2,3,4,10,11,12,13,14],ops := [(4,.mode .share)] },
 ra 11 [0,1,2,3,4,10,11,12,13,14,56],
 { id := 12,live := [0,1,2,3,4,10,11,12,13],ops := [(4,.mode .share)] },
 ra 13 [0,1,2,3,4,10,11,12,13],ra 14 [0,1,2,3,4,10,11,12,13,14],ra 15 [0,1,2,3,4,10,11,12,13,75],
 { id := 16,live := [0,1,2,3,4,10,11,12,13,80],ops := [(4,.mode .share)] },
 { id := 17,head := some 17,live := [0,1,2,3,4,10,11,12,13,97] },
 { id := 18,live := [0,2,3,4,10,11,15],ops := [(5,.mode .share)] },
 ra 19 [0,1,2,3,4,10,11],
 { id := 20,live := [0,1,2,3,4,12,16,17],ops := [(5,.mode .share)] },
 ra 21 [0,1,2,3,4,11,12,16],ra 22 [0,1,2,3,4,11,12,16,18,19],ra 23 [0,1,2,3,4,11,16,18,19,20],ra 24 [0,1,2,3,4,11,16,18,19,20,125],ra 25 [0,1,2,3,4,10,11,16],
 { id := 26,live := [0,2,3,4,10,11,16],ops := [(5,.mode .share)] },
 ra 27 [0,1,2,3,4,10,11],ra 28 [0,1,2,3,4,10,11,16],
 { id := 29,live := [0,1,3,4,10,11,16],ops := [(6,.mode .share)] },
 ra 30 [0,1,2,3,4,10,11]]

theorem comp64 : compF Tryz.prog an64 Tryz.f64 = some a64 := by kernel_rfl

/- math/bits.Len -/
def c65 : ACode :=
 .seq (rg [op 2 (.mov (ci (0)))] [0])
 (.seq (.cond (.cst (.bool false)) (.seq (rg [mv 3 0,op 4 (.conv .u32 (tm 3)),op 5 (.call .pure 112 [(tm 4)]),mv 2 5] [2])
 (.ret))
 (.skip))
 (.seq (rg [mv 6 0,op 7 (.call .pure 113 [(tm 6)]),mv 2 7] [2])
 (.ret)))

def a65 : AFunc := ⟨1,c65,[.tmp 2]⟩

def an65 : List RAnn := [
 ra 0 [0],ra 1 [2],ra 2 [2]]

theorem comp65 : compF Tryz.prog an65 Tryz.f65 = some a65 := by kernel_rfl

/- cmp.Or[int] -/
/-- loop 0 of function 66 -/
def l66_0_h : List Nat := [3,6,7,8]

def l66_0_b : ACode :=
 .seq (rg [op 9 (.bin .lss .int (tm 8) (tm 7))] [3,6,7,8,9])
 (.seq (.cond (tm 9) (.skip)
 (.exit 0))
 (.seq (.block 1 (.seq (rg [op 10 (.iaddr 1 (tm 6) (tm 8)),op 11 (.load none (tm 10)),mv 5 11] [3,5,6,7,8])
 (.seq (rg [mv 12 5,mv 13 3,op 14 (.bin .neq .int (tm 12) (tm 13))] [3,5,6,7,8,14])
 (.cond (tm 14) (.seq (rg [mv 15 5,mv 2 15] [2])
 (.ret))
 (.skip)))))
 (rg [op 16 (.bin .add .int (tm 8) (ci (1))),mv 8 16] [3,6,7,8])))

def c66 : ACode :=
 .seq (rg [op 2 (.mov (ci (0)))] [0])
 (.seq (rg [op 3 (.mov (ci (0)))] [0,3])
 (.seq (.seq (rg [mv 6 0,op 7 (.len .slice (tm 6)),op 8 (.mov (ci (0)))] [3,6,7,8])
 (.block 0 (.loop l66_0_h l66_0_b)))
 (.seq (rg [mv 17 3,mv 2 17] [2])
 (.ret))))

def a66 : AFunc := ⟨1,c66,[.tmp 2]⟩

def an66 : List RAnn := [
 ra 0 [0],ra 1 [0,3],ra 2 [3,6,7,8],rh 3 [3,6,7,8,9] [3,6,7,8],ra 4 [3,5,6,7,8],ra 5 [3,5,6,7,8,14],ra 6 [2],ra 7 [3,6,7,8],ra 8 [2]]

theorem comp66 : compF Tryz.prog an66 Tryz.f66 = some a66 := by kernel_rfl

/- cmp.Compare[int] -/
def c67 : ACode :=
 .seq (rg [op 4 (.mov (ci (0)))] [0,1])
 (.seq (rg [mv 7 0,op 8 (.call .pure 114 [(tm 7)]),mv 5 8] [0,1,5])
 (.seq (rg [mv 9 1,op 10 (.call .pure 114 [(tm 9)]),mv 6 10] [0,1,5,6])
 (.seq (.seq (rg [mv 11 5] [0,1,6,11])
 (.cond (tm 11) (.seq (.seq (rg [mv 12 6] [12])
 (.cond (tm 12) (.seq (rg [op 4 (.mov (ci (0)))] [4])
 (.ret))
 (.skip)))
 (.seq (rg [op 4 (.mov (ci ((-1))))] [4])
 (.ret)))
 (.skip)))
 (.seq (.seq (rg [mv 13 6] [0,1,13])
 (.cond (tm 13) (.seq (rg [op 4 (.mov (ci (1)))] [4])
 (.ret))
 (.skip)))
 (.seq (.seq (rg [mv 14 0,mv 15 1,op 16 (.bin .lss .int (tm 14) (tm 15))] [0,1,16])
 (.cond (tm 16) (.seq (rg [op 4 (.mov (ci ((-1))))] [4])
 (.ret))
 (.skip)))
 (.seq (.seq (rg [mv 17 0,mv 18 1,op 19 (.bin .gtr .int (tm 17) (tm 18))] [19])
 (.cond (tm 19) (.seq (rg [op 4 (.mov (ci (1)))] [4])
 (.ret))
 (.skip)))
 (.seq (rg [op 4 (.mov (ci (0)))] [4])
 (.ret))))))))

def a67 : AFunc := ⟨2,c67,[.tmp 4]⟩

def an67 : List RAnn := [
 ra 0 [0,1],ra 1 [0,1,5],ra 2 [0,1,5,6],ra 3 [0,1,6,11],ra 4 [12],ra 5 [4],ra 6 [4],ra 7 [0,1,13],ra 8 [4],ra 9 [0,1,16],ra 10 [4],ra 11 [19],ra 12 [4],ra 13 [4]]

theorem comp67 : compF Tryz.prog an67 Tryz.f67 = some a67 := by kernel_rfl

/- cmp.Compare[string] -/
def c68 : ACode :=
 .seq (rg [op 4 (.mov (ci (0)))] [0,1])
 (.seq (rg [mv 7 0,op 8 (.call .pure 115 [(tm 7)]),mv 5 8] [0,1,5])
 (.seq (rg [mv 9 1,op 10 (.call .pure 115 [(tm 9)]),mv 6 10] [0,1,5,6])
 (.seq (.seq (rg [mv 11 5] [0,1,6,11])
 (.cond (tm 11) (.seq (.seq (rg [mv 12 6] [12])
 (.cond (tm 12) (.seq (rg [op 4 (.mov (ci (0)))] [4])
 (.ret))
 (.skip)))
 (.seq (rg [op 4 (.mov (ci ((-1))))] [4])
 (.ret)))
 (.skip)))
 (.seq (.seq (rg [mv 13 6] [0,1,13])
 (.cond (tm 13) (.seq (rg [op 4 (.mov (ci (1)))] [4])
 (.ret))
 (.skip)))
 (.seq (.seq (rg [mv 14 0,mv 15 1,op 16 (.bin .lss .str (tm 14) (tm 15))] [0,1,16])
 (.cond (tm 16) (.seq (rg [op 4 (.mov (ci ((-1))))] [4])
 (.ret))
 (.skip)))
 (.seq (.seq (rg [mv 17 0,mv 18 1,op 19 (.bin .gtr .str (tm 17) (tm 18))] [19])
 (.cond (tm 19) (.seq (rg [op 4 (.mov (ci (1)))] [4])
 (.ret))
 (.skip)))
 (.seq (rg [op 4 (.mov (ci (0)))] [4])
 (.ret))))))))

def a68 : AFunc := ⟨2,c68,[.tmp 4]⟩

def an68 : List RAnn := [
 ra 0 [0,1],ra 1 [0,1,5],ra 2 [0,1,5,6],ra 3 [0,1,6,11],ra 4 [12],ra 5 [4],ra 6 [4],ra 7 [0,1,13],ra 8 [4],ra 9 [0,1,16],ra 10 [4],ra 11 [19],ra 12 [4],ra 13 [4]]

theorem comp68 : compF Tryz.prog an68 Tryz.f68 = some a68 := by kernel_rfl

/- graphdb/graphdbref09.Order -/
def c69 : ACode :=
 .seq (rg [op 2 (.box 6 (tm 0)),op 3 (.box 6 (tm 1)),op 4 (.mov (ci (0)))] [2,3])
 (.seq (.seq (rg [op 8 (.faddr 0 (tm 2)),op 9 (.load none (tm 8)),op 10 (.faddr 0 (tm 3)),op 11 (.load none (tm 10)),op 12 (.bin .neq .int (tm 9) (tm 11))] [2,3,12])
 (.cond (tm 12) (.seq (.seq (rg [op 13 (.faddr 0 (tm 2)),op 14 (.load none (tm 13)),op 15 (.faddr 0 (tm 3)),op 16 (.load none (tm 15)),op 17 (.bin .lss .int (tm 14) (tm 16))] [17])
 (.cond (tm 17) (.seq (rg [op 4 (.mov (ci ((-1))))] [4])
 (.ret))
 (.skip)))
 (.seq (rg [op 4 (.mov (ci (1)))] [4])
 (.ret)))
 (.skip)))
 (.seq (.seq (rg [op 18 (.faddr 2 (tm 2)),op 19 (.load none (tm 18)),op 20 (.faddr 2 (tm 3)),op 21 (.load none (tm 20)),op 22 (.call .pure 116 [(tm 19),(tm 21)]),mv 5 22] [2,3,5])
 (.seq (rg [mv 23 5,op 24 (.bin .neq .int (tm 23) (ci (0)))] [2,3,5,24])
 (.cond (tm 24) (.seq (rg [mv 25 5,mv 4 25] [4])
 (.ret))
 (.skip))))
 (.seq (.seq (rg [op 26 (.faddr 3 (tm 2)),op 27 (.load none (tm 26)),op 28 (.faddr 3 (tm 3)),op 29 (.load none (tm 28)),op 30 (.call .pure 116 [(tm 27),(tm 29)]),mv 6 30] [2,3,6])
 (.seq (rg [mv 31 6,op 32 (.bin .neq .int (tm 31) (ci (0)))] [2,3,6,32])
 (.cond (tm 32) (.seq (rg [mv 33 6,mv 4 33] [4])
 (.ret))
 (.skip))))
 (.seq (.seq (rg [op 34 (.faddr 1 (tm 2)),op 35 (.load none (tm 34)),op 36 (.faddr 1 (tm 3)),op 37 (.load none (tm 36)),op 38 (.bin .neq .int (tm 35) (tm 37))] [2,3,38])
 (.cond (tm 38) (.seq (.seq (rg [op 39 (.faddr 1 (tm 2)),op 40 (.load none (tm 39)),op 41 (.faddr 1 (tm 3)),op 42 (.load none (tm 41)),op 43 (.bin .lss .int (tm 40) (tm 42))] [43])
 (.cond (tm 43) (.seq (rg [op 4 (.mov (ci ((-1))))] [4])
 (.ret))
 (.skip)))
 (.seq (rg [op 4 (.mov (ci (1)))] [4])
 (.ret)))
 (.skip)))
 (.seq (.seq (rg [op 44 (.faddr 4 (tm 2)),op 45 (.load none (tm 44)),op 46 (.faddr 4 (tm 3)),op 47 (.load none (tm 46)),op 48 (.call .pure 116 [(tm 45),(tm 47)]),mv 7 48] [2,3,7])
 (.seq (rg [mv 49 7,op 50 (.bin .neq .int (tm 49) (ci (0)))] [2,3,7,50])
 (.cond (tm 50) (.seq (rg [mv 51 7,mv 4 51] [4])
 (.ret))
 (.skip))))
 (.seq (rg [op 52 (.faddr 5 (tm 2)),op 53 (.load none (tm 52)),op 54 (.faddr 5 (tm 3)),op 55 (.load none (tm 54)),op 56 (.call .pure 116 [(tm 53),(tm 55)]),mv 4 56] [4])
 (.ret)))))))

def a69 : AFunc := ⟨2,c69,[.tmp 4]⟩

def an69 : List RAnn := [
 ra 0 [2,3],ra 1 [2,3,12],ra 2 [17],ra 3 [4],ra 4 [4],ra 5 [2,3,5],ra 6 [2,3,5,24],ra 7 [4],ra 8 [2,3,6],ra 9 [2,3,6,32],ra 10 [4],ra 11 [2,3,38],ra 12 [43],ra 13 [4],ra 14 [4],ra 15 [2,3,7],ra 16 [2,3,7,50],ra 17 [4],ra 18 [4]]

theorem comp69 : compF Tryz.prog an69 Tryz.f69 = some a69 := by kernel_rfl

/- graphdb/graphdbref09.Has -/
/-- loop 0 of function 70 -/
def l70_0_h : List Nat := [0,3,5]

def l70_0_b : ACode :=
 .seq (.seq (rg [mv 6 5,mv 7 0,op 8 (.len .slice (tm 7)),op 9 (.bin .lss .int (tm 6) (tm 8))] [0,3,5,9])
 (.cond (tm 9) (.skip)
 (.exit 0)))
 (.seq (.block 1 (.seq (.region (some 7) [] [
 mv 12 0,mv 13 5,op 14 (.iaddr 6 (tm 12) (tm 13)),op 15 (.load (some 6) (tm 14)),op 16 (.load (some 6) (tm 3)),op 17 (.call .pure 69 [(tm 15),(tm 16)]),op 18 (.bin .eql .int (tm 17) (ci (0)))] [0,3,5,18] none)
 (.cond (tm 18) (.seq (rg [op 4 (.mov (.cst (.bool true)))] [4])
 (.ret))
 (.skip))))
 (rg [mv 10 5,op 11 (.bin .add .int (tm 10) (ci (1))),mv 5 11] [0,3,5]))

def c70 : ACode :=
 .seq (rg [op 3 (.box 6 (tm 1)),op 4 (.mov (.cst (.bool false)))] [0,3])
 (.seq (.seq (rg [op 5 (.mov (ci (0)))] [0,3,5])
 (.block 0 (.loop l70_0_h l70_0_b)))
 (.seq (rg [op 4 (.mov (.cst (.bool false)))] [4])
 (.ret)))

def a70 : AFunc := ⟨2,c70,[.tmp 4]⟩

def an70 : List RAnn := [
 ra 0 [0,3],ra 1 [0,3,5],rh 2 [0,3,5,9] [0,3,5],
 { id := 4,head := some 7,live := [0,3,5,18] },
 ra 5 [4],ra 3 [0,3,5],ra 6 [4]]

theorem comp70 : compF Tryz.prog an70 Tryz.f70 = some a70 := by kernel_rfl

/- graphdb/graphdbref55.swap -/
def c71 : ACode :=
 .seq (rg [op 3 (.box 15 (tm 1)),op 4 (.mov (.cst (.str [])))] [0,3])
 (.seq (.seq (rg [mv 5 0,op 6 (.faddr 2 (tm 3)),op 7 (.load none (tm 6)),op 8 (.bin .eql .str (tm 5) (tm 7))] [0,3,8])
 (.cond (tm 8) (.seq (rg [op 9 (.faddr 3 (tm 3)),op 10 (.load none (tm 9)),mv 4 10] [4])
 (.ret))
 (.skip)))
 (.seq (rg [mv 11 0,mv 4 11] [4])
 (.ret)))

def a71 : AFunc := ⟨2,c71,[.tmp 4]⟩

def an71 : List RAnn := [
 ra 0 [0,3],ra 1 [0,3,8],ra 2 [4],ra 3 [4]]

theorem comp71 : compF Tryz.prog an71 Tryz.f71 = some a71 := by kernel_rfl

/- graphdb/graph.parts -/
/-- loop 0 of function 73 -/
def l73_0_h : List Nat := [0,1,5,18,19,20]

def l73_0_b : ACode :=
 .seq (rg [op 21 (.bin .lss .int (tm 20) (tm 19))] [0,1,5,18,19,20,21])
 (.seq (.cond (tm 21) (.skip)
 (.exit 0))
 (.seq (.block 1 (.seq (rg [op 22 (.iaddr 6 (tm 18) (tm 20)),op 23 (.load (some 6) (tm 22)),op 7 (.alloc 6 (.agg [.str [],.int .i64 0,.int .i64 0,.int .i64 0,.str [],.sl false []])),⟨none,.store 6 (tm 7) (tm 23),none⟩] [0,1,5,7,18,19,20])
 (rg [mv 24 5,op 25 (.faddr 0 (tm 7)),op 26 (.load none (tm 25)),op 27 (.lit false 1 (.str []) 1 [(0,(tm 26))]),op 28 (.append 1 16 (tm 24) (tm 27)),mv 5 28] [0,1,5,18,19,20])))
 (.region none [] [op 29 (.bin .add .int (tm 20) (ci (1))),mv 20 29] [0,1,5,18,19,20] (some 1))))

/-- loop 1 of function 73 -/
def l73_1_h : List Nat := [44,45,46]

def l73_1_b : ACode :=
 .seq (rg [op 47 (.bin .lss .int (tm 46) (tm 45))] [44,45,46,47])
 (.seq (.cond (tm 47) (.skip)
 (.exit 2))
 (.seq (.block 3 (.seq (rg [op 48 (.iaddr 6 (tm 44) (tm 46)),op 49 (.load (some 6) (tm 48)),op 9 (.alloc 6 (.agg [.str [],.int .i64 0,.int .i64 0,.int .i64 0,.str [],.sl false []])),⟨none,.store 6 (tm 9) (tm 49),none⟩] [9,44,45,46])
 (.seq (rg [op 50 (.faddr 1 (tm 9)),op 51 (.load (some 5) (tm 50)),op 52 (.call .pure 46 [(tm 51)]),op 53 (.un .not (tm 52))] [44,45,46,53])
 (.cond (tm 53) (.seq (rg [op 4 (.mov (ci (8)))] [4])
 (.ret))
 (.skip)))))
 (.region none [] [op 54 (.bin .add .int (tm 46) (ci (1))),mv 46 54] [44,45,46] (some 1))))

def c73 : ACode :=
 .seq (rg [op 4 (.mov (ci (0)))] [0,1])
 (.seq (.seq (rg [mv 10 0,op 11 (.len .slice (tm 10)),op 12 (.bin .gtr .int (tm 11) (ci (8))),mv 13 12,mg 14 1 13 false,⟨some 15,.len .slice (tm 14),some (13,false)⟩,⟨some 16,.bin .gtr .int (tm 15) (ci (16)),some (13,false)⟩,op 17 (.pick (tm 13) (.cst (.bool true)) (tm 16))] [0,1,17])
 (.cond (tm 17) (.seq (rg [op 4 (.mov (ci (4)))] [4])
 (.ret))
 (.skip)))
 (.seq (rg [op 5 (.newown 1)] [0,1,5])
 (.seq (.seq (rg [mv 18 1,op 19 (.len .slice (tm 18)),op 20 (.mov (ci (0)))] [0,1,5,18,19,20])
 (.block 0 (.loop l73_0_h l73_0_b)))
 (.seq (.seq (rg [mv 30 0,op 31 (.call .pure 117 [(tm 30),(.cst (.fn 118 []))]),mv 32 31,mg 33 5 32 false,⟨some 34,.call .borrow 117 [(tm 33),(.cst (.fn 118 []))],some (32,false)⟩,op 35 (.pick (tm 32) (.cst (.bool true)) (tm 34))] [0,1,5,35])
 (.cond (tm 35) (.seq (rg [op 4 (.mov (ci (6)))] [4])
 (.ret))
 (.skip)))
 (.seq (.seq (rg [mv 36 0,op 37 (.call .pure 119 [(tm 36)]),op 38 (.un .not (tm 37)),mv 39 38,mg 40 5 39 false,⟨some 41,.call .borrow 119 [(tm 40)],some (39,false)⟩,⟨some 42,.un .not (tm 41),some (39,false)⟩,op 43 (.pick (tm 39) (.cst (.bool true)) (tm 42))] [1,43])
 (.cond (tm 43) (.seq (rg [op 4 (.mov (ci (26)))] [4])
 (.ret))
 (.skip)))
 (.seq (.seq (rg [mv 44 1,op 45 (.len .slice (tm 44)),op 46 (.mov (ci (0)))] [44,45,46])
 (.block 2 (.loop l73_1_h l73_1_b)))
 (.seq (rg [op 4 (.mov (ci (0)))] [4])
 (.ret))))))))

def a73 : AFunc := ⟨2,c73,[.tmp 4]⟩

def an73 : List RAnn := [
 ra 0 [0,1],ra 1 [0,1,17],ra 2 [4],
 { id := 3,live := [0,1,5],ops := [(0,.own)] },
 ra 4 [0,1,5,18,19,20],rh 5 [0,1,5,18,19,20,21] [0,1,5,18,19,20],ra 6 [0,1,5,7,18,19,20],ra 7 [0,1,5,18,19,20],
 { id := 8,live := [0,1,5,18,19,20],trunc := some 1 },
 { id := 9,live := [0,1,5,35],ops := [(4,.mode .borrow)] },
 ra 10 [4],
 { id := 11,live := [1,43],ops := [(5,.mode .borrow)] },
 ra 12 [4],ra 13 [44,45,46],rh 14 [44,45,46,47] [44,45,46],ra 15 [9,44,45,46],ra 16 [44,45,46,53],ra 17 [4],
 { id := 18,live := [44,45,46],trunc := some 1 },
 ra 19 [4]]

theorem comp73 : compF Tryz.prog an73 Tryz.f73 = some a73 := by kernel_rfl

/- graphdb/graph.has -/
def c74 : ACode :=
 .seq (rg [op 4 (.mov (.cst (.bool false)))] [0,1])
 (.seq (rg [mv 8 0,mv 9 1,op 10 (.call .pure 120 [(tm 8),(tm 9),(.cst (.fn 121 []))]),mv 7 10,op 11 (.ext (tm 7) 0),op 12 (.ext (tm 7) 1),mv 5 11,mv 6 12] [6])
 (.seq (rg [mv 13 6,mv 4 13] [4])
 (.ret)))

def a74 : AFunc := ⟨2,c74,[.tmp 4]⟩

def an74 : List RAnn := [
 ra 0 [0,1],ra 1 [6],ra 2 [4]]

theorem comp74 : compF Tryz.prog an74 Tryz.f74 = some a74 := by kernel_rfl

/- slices.Contains[[]string,string] -/
def c75 : ACode :=
 .seq (rg [op 4 (.mov (.cst (.bool false)))] [0,1])
 (.seq (rg [mv 5 0,mv 6 1,op 7 (.call .pure 122 [(tm 5),(tm 6)]),op 8 (.bin .geq .int (tm 7) (ci (0))),mv 4 8] [4])
 (.ret))

def a75 : AFunc := ⟨2,c75,[.tmp 4]⟩

def an75 : List RAnn := [
 ra 0 [0,1],ra 1 [4]]

theorem comp75 : compF Tryz.prog an75 Tryz.f75 = some a75 := by kernel_rfl

/- graphdb/graph.Labels -/
/-- loop 0 of function 76 -/
def l76_0_h : List Nat := [3,7,8,9]

def l76_0_b : ACode :=
 .seq (rg [op 10 (.bin .lss .int (tm 9) (tm 8))] [3,7,8,9,10])
 (.seq (.cond (tm 10) (.skip)
 (.exit 0))
 (.seq (.block 1 (.seq (rg [op 11 (.iaddr 3 (tm 7) (tm 9)),op 12 (.load (some 3) (tm 11)),op 5 (.alloc 3 (.agg [.int .i64 0,.sl false [],.sl false []])),⟨none,.store 3 (tm 5) (tm 12),none⟩] [3,5,7,8,9])
 (rg [mv 13 3,op 14 (.faddr 1 (tm 5)),op 15 (.load none (tm 14)),op 16 (.append 1 16 (tm 13) (tm 15)),mv 3 16] [3,7,8,9])))
 (.region none [] [op 17 (.bin .add .int (tm 9) (ci (1))),mv 9 17] [3,7,8,9] (some 2))))

def c76 : ACode :=
 .seq (rg [op 1 (.box 4 (tm 0)),op 2 (.mov (.cst (.sl false [])))] [1])
 (.seq (rg [op 3 (.newown 1)] [1,3])
 (.seq (.seq (rg [op 6 (.faddr 0 (tm 1)),op 7 (.load none (tm 6)),op 8 (.len .slice (tm 7)),op 9 (.mov (ci (0)))] [3,7,8,9])
 (.block 0 (.loop l76_0_h l76_0_b)))
 (.seq (rg [mv 18 3,op 19 (.call .share 123 [(tm 18)])] [3])
 (.seq (rg [mv 20 3,op 21 (.call .share 124 [(tm 20)]),mv 2 21] [2])
 (.ret)))))

def a76 : AFunc := ⟨1,c76,[.tmp 2]⟩

def an76 : List RAnn := [
 ra 0 [1],
 { id := 1,live := [1,3],ops := [(0,.own)] },
 ra 2 [3,7,8,9],rh 3 [3,7,8,9,10] [3,7,8,9],ra 4 [3,5,7,8,9],ra 5 [3,7,8,9],
 { id := 6,live := [3,7,8,9],trunc := some 2 },
 { id := 7,live := [3],ops := [(1,.mode .share)] },
 { id := 8,live := [2],ops := [(1,.mode .share)] }]

theorem comp76 : compF Tryz.prog an76 Tryz.f76 = some a76 := by kernel_rfl

/- graphdb/graph.HasLabel -/
def c80 : ACode :=
 .seq (rg [op 2 (.box 3 (tm 0)),op 4 (.mov (.cst (.bool false)))] [1,2])
 (.seq (rg [op 5 (.faddr 1 (tm 2)),op 6 (.load none (tm 5)),mv 7 1,op 8 (.call .pure 75 [(tm 6),(tm 7)]),mv 4 8] [4])
 (.ret))

def a80 : AFunc := ⟨2,c80,[.tmp 4]⟩

def an80 : List RAnn := [
 ra 0 [1,2],ra 1 [4]]

theorem comp80 : compF Tryz.prog an80 Tryz.f80 = some a80 := by kernel_rfl

/- graphdb/graphdbref07.node -/
def c84 : ACode :=
 .seq (rg [op 2 (.box 4 (tm 0)),op 4 (.mov (ci (0)))] [1,2])
 (.seq (rg [op 6 (.faddr 0 (tm 2)),op 7 (.load none (tm 6)),mv 8 1,op 9 (.iaddr 3 (tm 7) (tm 8)),op 10 (.load (some 3) (tm 9)),op 5 (.alloc 3 (.agg [.int .i64 0,.sl false [],.sl false []])),⟨none,.store 3 (tm 5) (tm 10),none⟩] [1,2,5])
 (.seq (.seq (.region (some 14) [] [
 mv 11 1,op 12 (.bin .gtr .int (tm 11) (ci (0))),mv 13 12,⟨some 14,.faddr 0 (tm 5),some (13,true)⟩,⟨some 15,.load none (tm 14),some (13,true)⟩,⟨some 16,.faddr 0 (tm 2),some (13,true)⟩,⟨some 17,.load none (tm 16),some (13,true)⟩,mg 18 1 13 true,⟨some 19,.bin .sub .int (tm 18) (ci (1)),some (13,true)⟩,⟨some 20,.iaddr 3 (tm 17) (tm 19),some (13,true)⟩,⟨some 21,.faddr 0 (tm 20),some (13,true)⟩,⟨some 22,.load none (tm 21),some (13,true)⟩,⟨some 23,.bin .leq .int (tm 15) (tm 22),some (13,true)⟩,op 24 (.pick (tm 13) (tm 23) (.cst (.bool false)))] [2,5,24] none)
 (.cond (tm 24) (.seq (rg [op 4 (.mov (ci (26)))] [4])
 (.ret))
 (.skip)))
 (.seq (.seq (rg [op 25 (.faddr 0 (tm 5)),op 26 (.load none (tm 25)),op 27 (.bin .lss .int (tm 26) (ci (1))),mv 28 27,⟨some 29,.faddr 0 (tm 5),some (28,false)⟩,⟨some 30,.load none (tm 29),some (28,false)⟩,⟨some 31,.faddr 2 (tm 2),some (28,false)⟩,⟨some 32,.load none (tm 31),some (28,false)⟩,⟨some 33,.bin .geq .int (tm 30) (tm 32),some (28,false)⟩,op 34 (.pick (tm 28) (.cst (.bool true)) (tm 33))] [5,34])
 (.cond (tm 34) (.seq (rg [op 4 (.mov (ci (1)))] [4])
 (.ret))
 (.skip)))
 (.seq (rg [op 35 (.faddr 1 (tm 5)),op 36 (.load none (tm 35)),op 37 (.faddr 2 (tm 5)),op 38 (.load none (tm 37)),op 39 (.call .pure 127 [(tm 36),(tm 38)]),mv 4 39] [4])
 (.ret)))))

def a84 : AFunc := ⟨2,c84,[.tmp 4]⟩

def an84 : List RAnn := [
 ra 0 [1,2],ra 1 [1,2,5],
 { id := 2,head := some 14,live := [2,5,24] },
 ra 3 [4],ra 4 [5,34],ra 5 [4],ra 6 [4]]

theorem comp84 : compF Tryz.prog an84 Tryz.f84 = some a84 := by kernel_rfl

/- graphdb/graphdbref07.edge -/
def c85 : ACode :=
 .seq (rg [op 2 (.box 4 (tm 0)),op 4 (.mov (ci (0)))] [1,2])
 (.seq (rg [op 10 (.faddr 1 (tm 2)),op 11 (.load none (tm 10)),mv 12 1,op 13 (.iaddr 5 (tm 11) (tm 12)),op 14 (.load (some 5) (tm 13)),op 5 (.alloc 5 (.agg [.int .i64 0,.int .i64 0,.int .i64 0,.str [],.sl false []])),⟨none,.store 5 (tm 5) (tm 14),none⟩] [1,2,5])
 (.seq (.seq (.region (some 14) [] [
 mv 15 1,op 16 (.bin .gtr .int (tm 15) (ci (0))),mv 17 16,⟨some 18,.faddr 0 (tm 5),some (17,true)⟩,⟨some 19,.load none (tm 18),some (17,true)⟩,⟨some 20,.faddr 1 (tm 2),some (17,true)⟩,⟨some 21,.load none (tm 20),some (17,true)⟩,mg 22 1 17 true,⟨some 23,.bin .sub .int (tm 22) (ci (1)),some (17,true)⟩,⟨some 24,.iaddr 5 (tm 21) (tm 23),some (17,true)⟩,⟨some 25,.faddr 0 (tm 24),some (17,true)⟩,⟨some 26,.load none (tm 25),some (17,true)⟩,⟨some 27,.bin .leq .int (tm 19) (tm 26),some (17,true)⟩,op 28 (.pick (tm 17) (tm 27) (.cst (.bool false)))] [2,5,28] none)
 (.cond (tm 28) (.seq (rg [op 4 (.mov (ci (26)))] [4])
 (.ret))
 (.skip)))
 (.seq (.seq (rg [op 29 (.faddr 0 (tm 5)),op 30 (.load none (tm 29)),op 31 (.bin .lss .int (tm 30) (ci (1))),mv 32 31,⟨some 33,.faddr 0 (tm 5),some (32,false)⟩,⟨some 34,.load none (tm 33),some (32,false)⟩,⟨some 35,.faddr 3 (tm 2),some (32,false)⟩,⟨some 36,.load none (tm 35),some (32,false)⟩,⟨some 37,.bin .geq .int (tm 34) (tm 36),some (32,false)⟩,op 38 (.pick (tm 32) (.cst (.bool true)) (tm 37))] [2,5,38])
 (.cond (tm 38) (.seq (rg [op 4 (.mov (ci (1)))] [4])
 (.ret))
 (.skip)))
 (.seq (rg [op 40 (.load (some 4) (tm 2)),op 41 (.faddr 1 (tm 5)),op 42 (.load none (tm 41)),op 43 (.call .pure 128 [(tm 40),(tm 42)]),mv 39 43,op 44 (.ext (tm 39) 0),op 45 (.ext (tm 39) 1),op 6 (.alloc 3 (.agg [.int .i64 0,.sl false [],.sl false []])),⟨none,.store 3 (tm 6) (tm 44),none⟩,mv 7 45] [2,5,7])
 (.seq (rg [op 47 (.load (some 4) (tm 2)),op 48 (.faddr 2 (tm 5)),op 49 (.load none (tm 48)),op 50 (.call .pure 128 [(tm 47),(tm 49)]),mv 46 50,op 51 (.ext (tm 46) 0),op 52 (.ext (tm 46) 1),op 8 (.alloc 3 (.agg [.int .i64 0,.sl false [],.sl false []])),⟨none,.store 3 (tm 8) (tm 51),none⟩,mv 9 52] [5,7,9])
 (.seq (.seq (rg [mv 53 7,op 54 (.un .not (tm 53)),mv 55 54,mg 56 9 55 false,⟨some 57,.un .not (tm 56),some (55,false)⟩,op 58 (.pick (tm 55) (.cst (.bool true)) (tm 57))] [5,58])
 (.cond (tm 58) (.seq (rg [op 4 (.mov (ci (10)))] [4])
 (.ret))
 (.skip)))
 (.seq (.seq (rg [op 59 (.faddr 3 (tm 5)),op 60 (.load none (tm 59)),op 61 (.call .pure 50 [(tm 60)]),op 62 (.un .not (tm 61))] [5,62])
 (.cond (tm 62) (.seq (rg [op 4 (.mov (ci (6)))] [4])
 (.ret))
 (.skip)))
 (.seq (rg [op 63 (.faddr 4 (tm 5)),op 64 (.load none (tm 63)),op 65 (.call .pure 127 [(.cst (.sl false [])),(tm 64)]),mv 4 65] [4])
 (.ret)))))))))

def a85 : AFunc := ⟨2,c85,[.tmp 4]⟩

def an85 : List RAnn := [
 ra 0 [1,2],ra 1 [1,2,5],
 { id := 2,head := some 14,live := [2,5,28] },
 ra 3 [4],ra 4 [2,5,38],ra 5 [4],ra 6 [2,5,7],ra 7 [5,7,9],ra 8 [5,58],ra 9 [4],ra 10 [5,62],ra 11 [4],ra 12 [4]]

theorem comp85 : compF Tryz.prog an85 Tryz.f85 = some a85 := by kernel_rfl

/- graphdb/value.Valid -/
def c89 : ACode :=
 .seq (rg [op 1 (.box 5 (tm 0)),op 2 (.mov (.cst (.bool false)))] [1])
 (.seq (rg [op 3 (.load (some 5) (tm 1)),op 4 (.call .pure 130 [(tm 3),(ci (0))]),mv 2 4] [2])
 (.ret))

def a89 : AFunc := ⟨1,c89,[.tmp 2]⟩

def an89 : List RAnn := [
 ra 0 [1],ra 1 [2]]

theorem comp89 : compF Tryz.prog an89 Tryz.f89 = some a89 := by kernel_rfl

/- graphdb/value.order -/
def c90 : ACode :=
 .seq (rg [op 2 (.box 5 (tm 0)),op 3 (.box 5 (tm 1)),op 4 (.mov (ci (0)))] [2,3])
 (.seq (.seq (.region (some 6) [] [
 op 10 (.load (some 5) (tm 2)),op 11 (.call .pure 131 [(tm 10)]),op 12 (.load (some 5) (tm 3)),op 13 (.call .pure 131 [(tm 12)]),op 14 (.call .pure 67 [(tm 11),(tm 13)]),mv 5 14] [2,3,5] none)
 (.seq (rg [mv 15 5,op 16 (.bin .neq .int (tm 15) (ci (0)))] [2,3,5,16])
 (.cond (tm 16) (.seq (rg [mv 17 5,mv 4 17] [4])
 (.ret))
 (.skip))))
 (.seq (.seq (rg [op 18 (.load (some 5) (tm 2)),op 19 (.call .pure 131 [(tm 18)]),op 20 (.bin .eql .int (tm 19) (ci (2)))] [2,3,20])
 (.cond (tm 20) (.seq (rg [op 22 (.load (some 5) (tm 2)),op 23 (.call .pure 132 [(tm 22)]),mv 21 23,op 24 (.ext (tm 21) 0),op 25 (.ext (tm 21) 1),op 6 (.alloc 2 (.agg [.int .i64 0,.int .i64 0])),⟨none,.store 2 (tm 6) (tm 24),none⟩,mv 7 25] [3,6])
 (.seq (rg [op 27 (.load (some 5) (tm 3)),op 28 (.call .pure 132 [(tm 27)]),mv 26 28,op 29 (.ext (tm 26) 0),op 30 (.ext (tm 26) 1),op 8 (.alloc 2 (.agg [.int .i64 0,.int .i64 0])),⟨none,.store 2 (tm 8) (tm 29),none⟩,mv 9 30] [6,8])
 (.seq (rg [op 31 (.load (some 2) (tm 6)),op 32 (.load (some 2) (tm 8)),op 33 (.call .pure 133 [(tm 31),(tm 32)]),mv 4 33] [4])
 (.ret))))
 (.skip)))
 (.seq (.region (some 18) [] [
 op 34 (.faddr 3 (tm 2)),op 35 (.load none (tm 34)),op 36 (.faddr 3 (tm 3)),op 37 (.load none (tm 36)),op 38 (.call .pure 68 [(tm 35),(tm 37)]),op 39 (.faddr 1 (tm 2)),op 40 (.load none (tm 39)),op 41 (.faddr 1 (tm 3)),op 42 (.load none (tm 41)),op 43 (.call .pure 67 [(tm 40),(tm 42)]),op 44 (.faddr 4 (tm 2)),op 45 (.load none (tm 44)),op 46 (.faddr 4 (tm 3)),op 47 (.load none (tm 46)),op 48 (.call .pure 91 [(tm 45),(tm 47),(.cst (.fn 90 []))]),op 49 (.lit false 1 (.int .i64 0) 3 [(0,(tm 38)),(1,(tm 43)),(2,(tm 48))]),op 50 (.call .pure 66 [(tm 49)]),mv 4 50] [4] none)
 (.ret))))

def a90 : AFunc := ⟨2,c90,[.tmp 4]⟩

def an90 : List RAnn := [
 ra 0 [2,3],
 { id := 1,head := some 6,live := [2,3,5] },
 ra 2 [2,3,5,16],ra 3 [4],ra 4 [2,3,20],ra 5 [3,6],ra 6 [6,8],ra 7 [4],
 { id := 8,head := some 18,live := [4] }]

theorem comp90 : compF Tryz.prog an90 Tryz.f90 = some a90 := by kernel_rfl

/- slices.CompareFunc[[]graphdb/api.Value,[]graphdb/api.Value,graphdb/api.Value,graphdb/api.Value] -/
/-- loop 0 of function 91 -/
def l91_0_h : List Nat := [0,1,2,11,12,13]

def l91_0_b : ACode :=
 .seq (rg [op 14 (.bin .lss .int (tm 13) (tm 12))] [0,1,2,11,12,13,14])
 (.seq (.cond (tm 14) (.skip)
 (.exit 0))
 (.seq (.block 1 (.seq (rg [mv 15 13,op 16 (.iaddr 5 (tm 11) (tm 13)),op 17 (.load (some 5) (tm 16)),op 8 (.alloc 5 (.agg [.int .i64 0,.int .i64 0,.int .i64 0,.str [],.sl false []])),mv 7 15,⟨none,.store 5 (tm 8) (tm 17),none⟩] [0,1,2,7,8,11,12,13])
 (.seq (.seq (rg [mv 18 7,mv 19 1,op 20 (.len .slice (tm 19)),op 21 (.bin .geq .int (tm 18) (tm 20))] [0,1,2,7,8,11,12,13,21])
 (.cond (tm 21) (.seq (rg [op 6 (.mov (ci (1)))] [6])
 (.ret))
 (.skip)))
 (.seq (rg [mv 22 1,mv 23 7,op 24 (.iaddr 5 (tm 22) (tm 23)),op 25 (.load (some 5) (tm 24)),op 9 (.alloc 5 (.agg [.int .i64 0,.int .i64 0,.int .i64 0,.str [],.sl false []])),⟨none,.store 5 (tm 9) (tm 25),none⟩] [0,1,2,8,9,11,12,13])
 (.seq (rg [mv 26 2,op 27 (.load (some 5) (tm 8)),op 28 (.load (some 5) (tm 9)),op 29 (.callv .pure (tm 26) [(tm 27),(tm 28)]),mv 10 29] [0,1,2,10,11,12,13])
 (.seq (rg [mv 30 10,op 31 (.bin .neq .int (tm 30) (ci (0)))] [0,1,2,10,11,12,13,31])
 (.cond (tm 31) (.seq (rg [mv 32 10,mv 6 32] [6])
 (.ret))
 (.skip))))))))
 (.region none [] [op 33 (.bin .add .int (tm 13) (ci (1))),mv 13 33] [0,1,2,11,12,13] (some 0))))

def c91 : ACode :=
 .seq (rg [op 6 (.mov (ci (0)))] [0,1,2])
 (.seq (.seq (rg [mv 11 0,op 12 (.len .slice (tm 11)),op 13 (.mov (ci (0)))] [0,1,2,11,12,13])
 (.block 0 (.loop l91_0_h l91_0_b)))
 (.seq (.seq (rg [mv 34 0,op 35 (.len .slice (tm 34)),mv 36 1,op 37 (.len .slice (tm 36)),op 38 (.bin .lss .int (tm 35) (tm 37))] [38])
 (.cond (tm 38) (.seq (rg [op 6 (.mov (ci ((-1))))] [6])
 (.ret))
 (.skip)))
 (.seq (rg [op 6 (.mov (ci (0)))] [6])
 (.ret))))

def a91 : AFunc := ⟨3,c91,[.tmp 6]⟩

def an91 : List RAnn := [
 ra 0 [0,1,2],ra 1 [0,1,2,11,12,13],rh 2 [0,1,2,11,12,13,14] [0,1,2,11,12,13],ra 3 [0,1,2,7,8,11,12,13],ra 4 [0,1,2,7,8,11,12,13,21],ra 5 [6],ra 6 [0,1,2,8,9,11,12,13],ra 7 [0,1,2,10,11,12,13],ra 8 [0,1,2,10,11,12,13,31],ra 9 [6],
 { id := 10,live := [0,1,2,11,12,13],trunc := some 0 },
 ra 11 [38],ra 12 [6],ra 13 [6]]

theorem comp91 : compF Tryz.prog an91 Tryz.f91 = some a91 := by kernel_rfl

/- graphdb/graph.letter -/
def c92 : ACode :=
 .seq (rg [op 2 (.mov (.cst (.bool false)))] [0])
 (.seq (rg [mv 3 0,op 4 (.bin .geq .int (tm 3) (.cst (.int .u8 97))),mv 5 4,mg 6 0 5 true,⟨some 7,.bin .leq .int (tm 6) (.cst (.int .u8 122)),some (5,true)⟩,op 8 (.pick (tm 5) (tm 7) (.cst (.bool false))),mv 9 8,mg 10 0 9 false,⟨some 11,.bin .geq .int (tm 10) (.cst (.int .u8 65)),some (9,false)⟩,mg 12 11 9 false,mg 13 0 12 true,⟨some 14,.bin .leq .int (tm 13) (.cst (.int .u8 90)),some (12,true)⟩,⟨some 15,.pick (tm 12) (tm 14) (.cst (.bool false)),some (9,false)⟩,op 16 (.pick (tm 9) (.cst (.bool true)) (tm 15)),mv 2 16] [2])
 (.ret))

def a92 : AFunc := ⟨1,c92,[.tmp 2]⟩

def an92 : List RAnn := [
 ra 0 [0],ra 1 [2]]

theorem comp92 : compF Tryz.prog an92 Tryz.f92 = some a92 := by kernel_rfl

/- graphdb/schema.fields -/
def c93 : ACode :=
 .seq (rg [op 2 (.alloc 3 (.agg [.bool false,.bool false,.bool false])),op 3 (.mov (.cst (.bool false)))] [0,2])
 (.seq (.seq (rg [mv 4 0] [2,4])
 (.block 0 (.seq (.seq (rg [op 6 (.bin .eql .int (tm 4) (ci (1))),mv 5 6] [2,4,5])
 (.cond (tm 5) (.skip)
 (.seq (rg [op 7 (.bin .eql .int (tm 4) (ci (2))),mv 5 7] [2,4,5])
 (.cond (tm 5) (.skip)
 (rg [op 8 (.bin .eql .int (tm 4) (ci (4))),mv 5 8] [2,4,5])))))
 (.cond (tm 5) (.seq (rg [op 9 (.build [.bool false,.bool false,.bool false] [(0,1,(.cst (.bool true)))]),⟨none,.store 3 (tm 2) (tm 9),none⟩,op 3 (.mov (.cst (.bool true)))] [2,3])
 (.ret))
 (.seq (.seq (rg [op 11 (.bin .eql .int (tm 4) (ci (3))),mv 10 11] [2,4,10])
 (.cond (tm 10) (.skip)
 (rg [op 12 (.bin .eql .int (tm 4) (ci (5))),mv 10 12] [2,4,10])))
 (.cond (tm 10) (.seq (rg [op 13 (.build [.bool false,.bool false,.bool false] [(0,1,(.cst (.bool true))),(1,1,(.cst (.bool true)))]),⟨none,.store 3 (tm 2) (tm 13),none⟩,op 3 (.mov (.cst (.bool true)))] [2,3])
 (.ret))
 (.seq (rg [op 15 (.bin .eql .int (tm 4) (ci (6))),mv 14 15] [2,4,14])
 (.cond (tm 14) (.seq (rg [op 16 (.build [.bool false,.bool false,.bool false] [(2,1,(.cst (.bool true)))]),⟨none,.store 3 (tm 2) (tm 16),none⟩,op 3 (.mov (.cst (.bool true)))] [2,3])
 (.ret))
 (.seq (rg [op 18 (.bin .eql .int (tm 4) (ci (7))),mv 17 18] [2,17])
 (.cond (tm 17) (.seq (rg [op 19 (.build [.bool false,.bool false,.bool false] [(1,1,(.cst (.bool true)))]),⟨none,.store 3 (tm 2) (tm 19),none⟩,op 3 (.mov (.cst (.bool true)))] [2,3])
 (.ret))
 (.skip)))))))))))
 (.seq (rg [op 20 (.build [.bool false,.bool false,.bool false] []),⟨none,.store 3 (tm 2) (tm 20),none⟩,op 3 (.mov (.cst (.bool false)))] [2,3])
 (.ret)))

def a93 : AFunc := ⟨1,c93,[.cell 2 (some 3),.tmp 3]⟩

def an93 : List RAnn := [
 ra 0 [0,2],ra 1 [2,4],ra 2 [2,4,5],ra 3 [2,4,5],ra 4 [2,4,5],ra 5 [2,3],ra 6 [2,4,10],ra 7 [2,4,10],ra 8 [2,3],ra 9 [2,4,14],ra 10 [2,3],ra 11 [2,17],ra 12 [2,3],ra 13 [2,3]]

theorem comp93 : compF Tryz.prog an93 Tryz.f93 = some a93 := by kernel_rfl

/- graphdb/schema.kindText -/
def c94 : ACode :=
 .seq (rg [op 2 (.mov (.cst (.str [])))] [0])
 (.seq (.seq (rg [mv 3 0] [3])
 (.block 0 (.seq (rg [op 5 (.bin .eql .int (tm 3) (ci (1))),mv 4 5] [3,4])
 (.cond (tm 4) (.seq (rg [op 2 (.mov (.cst (.str [98,111,111,108])))] [2])
 (.ret))
 (.seq (rg [op 7 (.bin .eql .int (tm 3) (ci (2))),mv 6 7] [3,6])
 (.cond (tm 6) (.seq (rg [op 2 (.mov (.cst (.str [105,110,116])))] [2])
 (.ret))
 (.seq (rg [op 9 (.bin .eql .int (tm 3) (ci (4))),mv 8 9] [8])
 (.cond (tm 8) (.seq (rg [op 2 (.mov (.cst (.str [115,116,114])))] [2])
 (.ret))
 (.skip)))))))))
 (.seq (rg [op 2 (.mov (.cst (.str [])))] [2])
 (.ret)))

def a94 : AFunc := ⟨1,c94,[.tmp 2]⟩

def an94 : List RAnn := [
 ra 0 [0],ra 1 [3],ra 2 [3,4],ra 3 [2],ra 4 [3,6],ra 5 [2],ra 6 [8],ra 7 [2],ra 8 [2]]

theorem comp94 : compF Tryz.prog an94 Tryz.f94 = some a94 := by kernel_rfl

/- graphdb/graphdbref04.Order -/
def c95 : ACode :=
 .seq (rg [op 2 (.box 5 (tm 0)),op 3 (.box 5 (tm 1)),op 4 (.mov (ci (0)))] [2,3])
 (.seq (.region (some 6) [] [
 op 12 (.load (some 5) (tm 2)),op 13 (.call .pure 98 [(tm 12)]),op 14 (.load (some 5) (tm 3)),op 15 (.call .pure 98 [(tm 14)]),mv 5 13,mv 6 15] [2,3,5,6] none)
 (.seq (.seq (rg [mv 16 5,mv 17 6,op 18 (.bin .neq .bool (tm 16) (tm 17))] [2,3,5,18])
 (.cond (tm 18) (.seq (rg [mv 19 5,op 20 (.call .pure 134 [(tm 19)]),op 21 (.bin .sub .int (ci (1)) (tm 20)),mv 4 21] [4])
 (.ret))
 (.skip)))
 (.seq (.seq (rg [mv 22 5,op 23 (.un .not (tm 22))] [2,3,23])
 (.cond (tm 23) (.seq (rg [op 24 (.load (some 5) (tm 2)),op 25 (.load (some 5) (tm 3)),op 26 (.call .pure 135 [(tm 24),(tm 25)]),mv 4 26] [4])
 (.ret))
 (.skip)))
 (.seq (.seq (.region (some 8) [] [
 op 27 (.faddr 0 (tm 2)),op 28 (.load none (tm 27)),op 29 (.call .pure 137 [(tm 28)]),op 30 (.faddr 0 (tm 3)),op 31 (.load none (tm 30)),op 32 (.call .pure 137 [(tm 31)]),op 33 (.call .pure 136 [(tm 29),(tm 32)]),mv 7 33] [2,3,7] none)
 (.seq (rg [mv 34 7,op 35 (.bin .neq .int (tm 34) (ci (0)))] [2,3,7,35])
 (.cond (tm 35) (.seq (rg [mv 36 7,mv 4 36] [4])
 (.ret))
 (.skip))))
 (.seq (rg [op 38 (.load (some 5) (tm 2)),op 39 (.call .pure 138 [(tm 38)]),mv 37 39,op 40 (.ext (tm 37) 0),op 41 (.ext (tm 37) 1),op 8 (.alloc 2 (.agg [.int .i64 0,.int .i64 0])),⟨none,.store 2 (tm 8) (tm 40),none⟩,mv 9 41] [2,3,8,9])
 (.seq (rg [op 43 (.load (some 5) (tm 3)),op 44 (.call .pure 138 [(tm 43)]),mv 42 44,op 45 (.ext (tm 42) 0),op 46 (.ext (tm 42) 1),op 10 (.alloc 2 (.agg [.int .i64 0,.int .i64 0])),⟨none,.store 2 (tm 10) (tm 45),none⟩,mv 11 46] [2,3,8,9,10])
 (.seq (.seq (rg [mv 47 9] [2,3,8,10,47])
 (.cond (tm 47) (.seq (rg [op 48 (.load (some 2) (tm 8)),op 49 (.load (some 2) (tm 10)),op 50 (.call .pure 139 [(tm 48),(tm 49)]),mv 4 50] [4])
 (.ret))
 (.skip)))
 (.seq (rg [op 51 (.load (some 5) (tm 2)),op 52 (.load (some 5) (tm 3)),op 53 (.call .pure 135 [(tm 51),(tm 52)]),mv 4 53] [4])
 (.ret)))))))))

def a95 : AFunc := ⟨2,c95,[.tmp 4]⟩

def an95 : List RAnn := [
 ra 0 [2,3],
 { id := 1,head := some 6,live := [2,3,5,6] },
 ra 2 [2,3,5,18],ra 3 [4],ra 4 [2,3,23],ra 5 [4],
 { id := 6,head := some 8,live := [2,3,7] },
 ra 7 [2,3,7,35],ra 8 [4],ra 9 [2,3,8,9],ra 10 [2,3,8,9,10],ra 11 [2,3,8,10,47],ra 12 [4],ra 13 [4]]

theorem comp95 : compF Tryz.prog an95 Tryz.f95 = some a95 := by kernel_rfl

/- graphdb/graphdbref04.Null -/
def c96 : ACode :=
 .seq (rg [op 0 (.alloc 5 (.agg [.int .i64 0,.int .i64 0,.int .i64 0,.str [],.sl false []]))] [0])
 (.seq (rg [op 1 (.build [.int .i64 0,.int .i64 0,.int .i64 0,.str [],.sl false []] []),⟨none,.store 5 (tm 0) (tm 1),none⟩] [0])
 (.ret))

def a96 : AFunc := ⟨0,c96,[.cell 0 (some 5)]⟩

def an96 : List RAnn := [
 ra 0 [0],ra 1 [0]]

theorem comp96 : compF Tryz.prog an96 Tryz.f96 = some a96 := by kernel_rfl

end AI
end Go.Proofs.YtdlkcancogpafaaGreatDoor
