/- Printed by a program of mine: the functions,compiled; the kernel checks each against the given form. -/
import Derived.Test.YtkknpgebiihkfaaGreatDoorSe
import Derived.Test.YtkknpgebiihkfaaGreatDoorProg
import Derived.Test.YtkknpgebiihkfaaGreatDoorAb
import Derived.KernelRfl
import Derived.Test.YtkknpgebiihkfaaGreatDoorIxF
import Derived.Test.YtkknpgebiihkfaaGreatDoorBc
namespace Go.Proofs.YtkknpgebiihkfaaGreatDoor
namespace AI

/- graphdb/graphdblaw11.DeltaTells -/
def c3 : ACode :=
 .seq (rg [op 2 (.box 4 (tm 0)),op 3 (.box 4 (tm 1)),op 4 (.mov (.cst (.bool false)))] [2,3])
 (.seq (.seq (rg [op 9 (.load (some 4) (tm 2)),op 10 (.load (some 4) (tm 3)),op 11 (.call .pure 4 [(tm 9),(tm 10)]),op 12 (.un .not (tm 11))] [2,3,12])
 (.cond (tm 12) (.seq (rg [op 13 (.call .pure 5 []),mv 4 13] [4])
 (.ret))
 (.skip)))
 (.seq (rg [op 15 (.load (some 4) (tm 2)),op 16 (.load (some 4) (tm 3)),op 17 (.call .pure 6 [(tm 15),(tm 16)]),mv 14 17,op 18 (.ext (tm 14) 0),op 19 (.ext (tm 14) 1),mv 5 18,mv 6 19] [2,3,5,6])
 (.seq (rg [op 21 (.load (some 4) (tm 2)),op 22 (.load (some 4) (tm 3)),op 23 (.call .pure 7 [(tm 21),(tm 22)]),mv 20 23,op 24 (.ext (tm 20) 0),op 25 (.ext (tm 20) 1),mv 7 24,mv 8 25] [2,3,5,6,7,8])
 (.seq (.region (some 21) [] [
 op 26 (.load (some 4) (tm 2)),op 27 (.load (some 4) (tm 3)),op 28 (.call .pure 8 [(tm 26),(tm 27)]),op 29 (.load (some 4) (tm 2)),op 30 (.load (some 4) (tm 3)),op 31 (.call .pure 9 [(tm 29),(tm 30)]),op 32 (.bin .eql .bool (tm 28) (tm 31)),mv 33 32,mg 34 5 33 true,mg 35 7 33 true,⟨some 36,.call .pure 10 [(tm 34),(tm 35)],some (33,true)⟩,op 37 (.pick (tm 33) (tm 36) (.cst (.bool false))),mv 38 37,mg 39 6 38 true,mg 40 8 38 true,⟨some 41,.bin .eql .int (tm 39) (tm 40),some (38,true)⟩,op 42 (.pick (tm 38) (tm 41) (.cst (.bool false))),mv 43 42,⟨some 44,.call .pure 5 [],some (43,true)⟩,op 45 (.pick (tm 43) (tm 44) (.cst (.bool false))),mv 4 45] [4] none)
 (.ret)))))

def a3 : AFunc := ⟨2,c3,[.tmp 4]⟩

def an3 : List RAnn := [
 ra 0 [2,3],ra 1 [2,3,12],ra 2 [4],ra 3 [2,3,5,6],ra 4 [2,3,5,6,7,8],
 { id := 5,head := some 21,live := [4] }]

theorem comp3 : compF Tryz.prog an3 Tryz.f3 = some a3 := by kernel_rfl

/- graphdb/graphdblaw11.small -/
def c4 : ACode :=
 .seq (rg [op 2 (.box 4 (tm 0)),op 3 (.box 4 (tm 1)),op 4 (.mov (.cst (.bool false)))] [2,3])
 (.seq (rg [op 5 (.load (some 4) (tm 2)),op 6 (.call .pure 11 [(tm 5),(ci (24)),(ci (30))]),mv 7 6,⟨some 8,.load (some 4) (tm 3),some (7,true)⟩,⟨some 9,.call .pure 11 [(tm 8),(ci (24)),(ci (30))],some (7,true)⟩,op 10 (.pick (tm 7) (tm 9) (.cst (.bool false))),mv 4 10] [4])
 (.ret))

def a4 : AFunc := ⟨2,c4,[.tmp 4]⟩

def an4 : List RAnn := [
 ra 0 [2,3],ra 1 [4]]

theorem comp4 : compF Tryz.prog an4 Tryz.f4 = some a4 := by kernel_rfl

/- graphdb/graphdblaw11.alive -/
def c5 : ACode :=
 .seq (rg [op 0 (.mov (.cst (.bool false)))] [])
 (.seq (rg [op 7 (.lit false 1 (.str []) 1 [(0,(.cst (.str [65])))]),op 8 (.build [.int .i64 0,.sl false [],.sl false []] [(0,1,(ci (1))),(1,1,(tm 7))]),op 9 (.lit false 3 (.agg [.int .i64 0,.sl false [],.sl false []]) 1 [(0,(tm 8))]),op 10 (.build [.sl false [],.sl false [],.int .i64 0,.int .i64 0] [(0,1,(tm 9)),(2,1,(ci (2))),(3,1,(ci (1)))]),op 1 (.alloc 4 (.agg [.sl false [],.sl false [],.int .i64 0,.int .i64 0])),⟨none,.store 4 (tm 1) (tm 10),none⟩] [1])
 (.seq (rg [op 11 (.lit false 1 (.str []) 1 [(0,(.cst (.str [66])))]),op 12 (.build [.int .i64 0,.sl false [],.sl false []] [(0,1,(ci (1))),(1,1,(tm 11))]),op 13 (.lit false 3 (.agg [.int .i64 0,.sl false [],.sl false []]) 1 [(0,(tm 12))]),op 14 (.build [.sl false [],.sl false [],.int .i64 0,.int .i64 0] [(0,1,(tm 13)),(2,1,(ci (2))),(3,1,(ci (1)))]),op 2 (.alloc 4 (.agg [.sl false [],.sl false [],.int .i64 0,.int .i64 0])),⟨none,.store 4 (tm 2) (tm 14),none⟩] [1,2])
 (.seq (rg [op 16 (.load (some 4) (tm 1)),op 17 (.load (some 4) (tm 2)),op 18 (.call .pure 6 [(tm 16),(tm 17)]),mv 15 18,op 19 (.ext (tm 15) 0),op 20 (.ext (tm 15) 1),mv 3 19,mv 4 20] [1,2,3,4])
 (.seq (rg [mv 22 3,op 23 (.call .pure 12 [(tm 22)]),mv 21 23,op 24 (.ext (tm 21) 0),op 25 (.ext (tm 21) 1),mv 5 24,mv 6 25] [1,2,3,4,5,6])
 (.seq (rg [mv 26 4,op 27 (.bin .eql .int (tm 26) (ci (0))),mv 28 27,mg 29 3 28 true,⟨some 30,.build [.int .i64 0,.int .i64 0,.int .i64 0,.int .i64 0,.str [],.int .i64 0,.int .i64 0,.int .i64 0,.str [],.sl false []] [(0,1,(ci (4))),(1,1,(ci (1))),(4,1,(.cst (.str [65])))],some (28,true)⟩,⟨some 31,.build [.int .i64 0,.int .i64 0,.int .i64 0,.int .i64 0,.str [],.int .i64 0,.int .i64 0,.int .i64 0,.str [],.sl false []] [(0,1,(ci (3))),(1,1,(ci (1))),(4,1,(.cst (.str [66])))],some (28,true)⟩,⟨some 32,.lit false 10 (.agg [.int .i64 0,.int .i64 0,.int .i64 0,.int .i64 0,.str [],.int .i64 0,.int .i64 0,.int .i64 0,.str [],.sl false []]) 2 [(0,(tm 30)),(1,(tm 31))],some (28,true)⟩,⟨some 33,.call .pure 10 [(tm 29),(tm 32)],some (28,true)⟩,op 34 (.pick (tm 28) (tm 33) (.cst (.bool false))),mv 35 34,⟨some 36,.load (some 4) (tm 1),some (35,true)⟩,⟨some 37,.load (some 4) (tm 2),some (35,true)⟩,⟨some 38,.call .pure 8 [(tm 36),(tm 37)],some (35,true)⟩,⟨some 39,.un .not (tm 38),some (35,true)⟩,op 40 (.pick (tm 35) (tm 39) (.cst (.bool false))),mv 41 40,mg 42 5 41 true,⟨some 43,.lit false 1 (.int .i64 0) 1 [(0,(ci (1)))],some (41,true)⟩,⟨some 44,.call .pure 13 [(tm 42),(tm 43)],some (41,true)⟩,op 45 (.pick (tm 41) (tm 44) (.cst (.bool false))),mv 46 45,mg 47 6 46 true,⟨some 48,.len .slice (tm 47),some (46,true)⟩,⟨some 49,.bin .eql .int (tm 48) (ci (0)),some (46,true)⟩,op 50 (.pick (tm 46) (tm 49) (.cst (.bool false))),mv 0 50] [0])
 (.ret))))))

def a5 : AFunc := ⟨0,c5,[.tmp 0]⟩

def an5 : List RAnn := [
 { id := 0 },
 ra 1 [1],ra 2 [1,2],ra 3 [1,2,3,4],ra 4 [1,2,3,4,5,6],ra 5 [0]]

theorem comp5 : compF Tryz.prog an5 Tryz.f5 = some a5 := by kernel_rfl

/- graphdb/delta.Of -/
def c6 : ACode :=
 .seq (rg [op 2 (.box 4 (tm 0)),op 3 (.box 4 (tm 1)),op 4 (.mov (.cst (.sl false []))),op 5 (.mov (ci (0)))] [2,3])
 (.seq (.seq (rg [op 9 (.load (some 4) (tm 2)),op 10 (.call .pure 14 [(tm 9)]),mv 6 10] [2,3,6])
 (.seq (rg [mv 11 6,op 12 (.bin .neq .int (tm 11) (ci (0)))] [2,3,6,12])
 (.cond (tm 12) (.seq (rg [mv 13 6,op 4 (.mov (.cst (.sl false []))),mv 5 13] [4,5])
 (.ret))
 (.skip))))
 (.seq (.seq (rg [op 14 (.load (some 4) (tm 3)),op 15 (.call .pure 14 [(tm 14)]),mv 7 15] [2,3,7])
 (.seq (rg [mv 16 7,op 17 (.bin .neq .int (tm 16) (ci (0)))] [2,3,7,17])
 (.cond (tm 17) (.seq (rg [mv 18 7,op 4 (.mov (.cst (.sl false []))),mv 5 18] [4,5])
 (.ret))
 (.skip))))
 (.seq (rg [op 8 (.alloco 0 10 1 [.sl false []])] [2,3,8])
 (.seq (rg [op 19 (.load (some 4) (tm 2)),op 20 (.load (some 4) (tm 3)),op 21 (.call .keep 15 [(tm 8),(tm 19),(tm 20)])] [2,3,8])
 (.seq (rg [op 22 (.load (some 4) (tm 2)),op 23 (.load (some 4) (tm 3)),op 24 (.call .keep 16 [(tm 8),(tm 22),(tm 23)])] [2,3,8])
 (.seq (rg [op 25 (.load (some 4) (tm 2)),op 26 (.load (some 4) (tm 3)),op 27 (.call .keep 17 [(tm 8),(tm 25),(tm 26)])] [8])
 (.seq (rg [op 28 (.faddr 0 (tm 8)),op 29 (.load none (tm 28)),mv 4 29,op 5 (.mov (ci (0)))] [4,5])
 (.ret))))))))

def a6 : AFunc := ⟨2,c6,[.tmp 4,.tmp 5]⟩

def an6 : List RAnn := [
 ra 0 [2,3],ra 1 [2,3,6],ra 2 [2,3,6,12],ra 3 [4,5],ra 4 [2,3,7],ra 5 [2,3,7,17],ra 6 [4,5],
 { id := 7,live := [2,3,8],ops := [(0,.ownAt 0 10)] },
 { id := 8,live := [2,3,8],ops := [(2,.mode .keep)] },
 { id := 9,live := [2,3,8],ops := [(2,.mode .keep)] },
 { id := 10,live := [8],ops := [(2,.mode .keep)] },
 ra 11 [4,5]]

theorem comp6 : compF Tryz.prog an6 Tryz.f6 = some a6 := by kernel_rfl

/- graphdb/graphdbref11.Of -/
def c7 : ACode :=
 .seq (rg [op 2 (.box 4 (tm 0)),op 3 (.box 4 (tm 1)),op 4 (.mov (.cst (.sl false []))),op 5 (.mov (ci (0)))] [2,3])
 (.seq (.seq (rg [op 9 (.load (some 4) (tm 2)),op 10 (.call .pure 18 [(tm 9)]),mv 6 10] [2,3,6])
 (.seq (rg [mv 11 6,op 12 (.bin .neq .int (tm 11) (ci (0)))] [2,3,6,12])
 (.cond (tm 12) (.seq (rg [mv 13 6,op 4 (.mov (.cst (.sl false []))),mv 5 13] [4,5])
 (.ret))
 (.skip))))
 (.seq (.seq (rg [op 14 (.load (some 4) (tm 3)),op 15 (.call .pure 18 [(tm 14)]),mv 7 15] [2,3,7])
 (.seq (rg [mv 16 7,op 17 (.bin .neq .int (tm 16) (ci (0)))] [2,3,7,17])
 (.cond (tm 17) (.seq (rg [mv 18 7,op 4 (.mov (.cst (.sl false []))),mv 5 18] [4,5])
 (.ret))
 (.skip))))
 (.seq (rg [op 19 (.load (some 4) (tm 2)),op 20 (.load (some 4) (tm 3)),op 21 (.call .own 19 [(tm 19),(tm 20)]),mv 8 21] [2,3,8])
 (.seq (rg [mv 22 8,op 23 (.load (some 4) (tm 2)),op 24 (.load (some 4) (tm 3)),op 25 (.call .pure 20 [(tm 23),(tm 24)]),op 26 (.append 10 112 (tm 22) (tm 25)),mv 8 26] [2,3,8])
 (.seq (rg [mv 27 8,op 28 (.load (some 4) (tm 2)),op 29 (.load (some 4) (tm 3)),op 30 (.call .pure 21 [(tm 28),(tm 29)]),op 31 (.append 10 112 (tm 27) (tm 30)),mv 8 31] [8])
 (.seq (rg [mv 32 8,mv 4 32,op 5 (.mov (ci (0)))] [4,5])
 (.ret)))))))

def a7 : AFunc := ⟨2,c7,[.tmp 4,.tmp 5]⟩

def an7 : List RAnn := [
 ra 0 [2,3],ra 1 [2,3,6],ra 2 [2,3,6,12],ra 3 [4,5],ra 4 [2,3,7],ra 5 [2,3,7,17],ra 6 [4,5],
 { id := 7,live := [2,3,8],ops := [(2,.mode .own)] },
 ra 8 [2,3,8],ra 9 [8],ra 10 [4,5]]

theorem comp7 : compF Tryz.prog an7 Tryz.f7 = some a7 := by kernel_rfl

/- graphdb/delta.Alike -/
def c8 : ACode :=
 .seq (rg [op 2 (.box 4 (tm 0)),op 3 (.box 4 (tm 1)),op 4 (.mov (.cst (.bool false)))] [2,3])
 (.seq (.par 8 [(3,5)] [] [
 op 5 (.faddr 2 (tm 3)),op 6 (.load none (tm 5)),op 7 (.faddr 3 (tm 3)),op 8 (.load none (tm 7)),op 9 (.faddr 2 (tm 2)),⟨none,.store 1 (tm 9) (tm 6),none⟩,op 10 (.faddr 3 (tm 2)),⟨none,.store 1 (tm 10) (tm 8),none⟩] [2,3] none)
 (.seq (rg [op 11 (.load (some 4) (tm 2)),op 12 (.load (some 4) (tm 3)),op 13 (.call .pure 22 [(tm 11),(tm 12)]),mv 4 13] [4])
 (.ret)))

def a8 : AFunc := ⟨2,c8,[.tmp 4]⟩

def an8 : List RAnn := [
 ra 0 [2,3],
 { id := 1,head := some 8,live := [2,3],par := true },
 ra 2 [4]]

theorem comp8 : compF Tryz.prog an8 Tryz.f8 = some a8 := by kernel_rfl

/- graphdb/graphdbref11.Alike -/
def c9 : ACode :=
 .seq (rg [op 2 (.box 4 (tm 0)),op 3 (.box 4 (tm 1)),op 4 (.mov (.cst (.bool false)))] [2,3])
 (.seq (rg [op 5 (.faddr 2 (tm 3)),op 6 (.load none (tm 5)),op 7 (.faddr 2 (tm 2)),⟨none,.store 1 (tm 7) (tm 6),none⟩] [2,3])
 (.seq (rg [op 8 (.faddr 3 (tm 3)),op 9 (.load none (tm 8)),op 10 (.faddr 3 (tm 2)),⟨none,.store 1 (tm 10) (tm 9),none⟩] [2,3])
 (.seq (rg [op 11 (.load (some 4) (tm 2)),op 12 (.load (some 4) (tm 3)),op 13 (.call .pure 23 [(tm 11),(tm 12)]),mv 4 13] [4])
 (.ret))))

def a9 : AFunc := ⟨2,c9,[.tmp 4]⟩

def an9 : List RAnn := [
 ra 0 [2,3],ra 1 [2,3],ra 2 [2,3],ra 3 [4]]

theorem comp9 : compF Tryz.prog an9 Tryz.f9 = some a9 := by kernel_rfl

/- graphdb/graphdbref11.SameAll -/
/-- loop 0 of function 10 -/
def l10_0_h : List Nat := [0,1,5]

def l10_0_b : ACode :=
 .seq (.seq (rg [mv 11 5,mv 12 0,op 13 (.len .slice (tm 12)),op 14 (.bin .lss .int (tm 11) (tm 13))] [0,1,5,14])
 (.cond (tm 14) (.skip)
 (.exit 0)))
 (.seq (.block 1 (.seq (.region (some 10) [] [
 mv 17 0,mv 18 5,op 19 (.iaddr 10 (tm 17) (tm 18)),op 20 (.load (some 10) (tm 19)),mv 21 1,mv 22 5,op 23 (.iaddr 10 (tm 21) (tm 22)),op 24 (.load (some 10) (tm 23)),op 25 (.call .pure 24 [(tm 20),(tm 24)]),op 26 (.un .not (tm 25))] [0,1,5,26] none)
 (.cond (tm 26) (.seq (rg [op 4 (.mov (.cst (.bool false)))] [4])
 (.ret))
 (.skip))))
 (rg [mv 15 5,op 16 (.bin .add .int (tm 15) (ci (1))),mv 5 16] [0,1,5]))

def c10 : ACode :=
 .seq (rg [op 4 (.mov (.cst (.bool false)))] [0,1])
 (.seq (.seq (rg [mv 6 0,op 7 (.len .slice (tm 6)),mv 8 1,op 9 (.len .slice (tm 8)),op 10 (.bin .neq .int (tm 7) (tm 9))] [0,1,10])
 (.cond (tm 10) (.seq (rg [op 4 (.mov (.cst (.bool false)))] [4])
 (.ret))
 (.skip)))
 (.seq (.seq (rg [op 5 (.mov (ci (0)))] [0,1,5])
 (.block 0 (.loop l10_0_h l10_0_b)))
 (.seq (rg [op 4 (.mov (.cst (.bool true)))] [4])
 (.ret))))

def a10 : AFunc := ⟨2,c10,[.tmp 4]⟩

def an10 : List RAnn := [
 ra 0 [0,1],ra 1 [0,1,10],ra 2 [4],ra 3 [0,1,5],rh 4 [0,1,5,14] [0,1,5],
 { id := 6,head := some 10,live := [0,1,5,26] },
 ra 7 [4],ra 5 [0,1,5],ra 8 [4]]

theorem comp10 : compF Tryz.prog an10 Tryz.f10 = some a10 := by kernel_rfl

/- graphdb/graphdbref07.Small -/
/-- loop 0 of function 11 -/
def l11_0_h : List Nat := [3,7,8,9,10]

def l11_0_b : ACode :=
 .seq (.seq (rg [mv 48 10,op 49 (.faddr 1 (tm 9)),op 50 (.load none (tm 49)),op 51 (.len .slice (tm 50)),op 52 (.bin .lss .int (tm 48) (tm 51)),mv 53 52,mg 54 7 53 true,⟨some 55,.bin .geq .int (tm 54) (ci (0)),some (53,true)⟩,op 56 (.pick (tm 53) (tm 55) (.cst (.bool false)))] [3,7,8,9,10,56])
 (.cond (tm 56) (.skip)
 (.exit 2)))
 (.seq (.block 3 (rg [mv 59 7,op 60 (.faddr 1 (tm 9)),op 61 (.load none (tm 60)),mv 62 10,op 63 (.iaddr 1 (tm 61) (tm 62)),op 64 (.load none (tm 63)),op 65 (.len .str (tm 64)),op 66 (.bin .quo .int (tm 65) (ci (50))),op 67 (.bin .sub .int (tm 59) (tm 66)),mv 7 67] [3,7,8,9,10]))
 (rg [mv 57 10,op 58 (.bin .add .int (tm 57) (ci (1))),mv 10 58] [3,7,8,9,10]))

/-- loop 1 of function 11 -/
def l11_1_h : List Nat := [3,7,8]

def l11_1_b : ACode :=
 .seq (.seq (rg [mv 24 8,op 25 (.faddr 0 (tm 3)),op 26 (.load none (tm 25)),op 27 (.len .slice (tm 26)),op 28 (.bin .lss .int (tm 24) (tm 27)),mv 29 28,mg 30 7 29 true,⟨some 31,.bin .geq .int (tm 30) (ci (0)),some (29,true)⟩,op 32 (.pick (tm 29) (tm 31) (.cst (.bool false)))] [3,7,8,32])
 (.cond (tm 32) (.skip)
 (.exit 0)))
 (.seq (.block 1 (.seq (rg [op 35 (.faddr 0 (tm 3)),op 36 (.load none (tm 35)),mv 37 8,op 38 (.iaddr 3 (tm 36) (tm 37)),op 39 (.load (some 3) (tm 38)),op 9 (.alloc 3 (.agg [.int .i64 0,.sl false [],.sl false []])),⟨none,.store 3 (tm 9) (tm 39),none⟩] [3,7,8,9])
 (.seq (rg [op 40 (.faddr 2 (tm 9)),op 41 (.load none (tm 40)),mv 42 7,op 43 (.faddr 1 (tm 9)),op 44 (.load none (tm 43)),op 45 (.len .slice (tm 44)),op 46 (.bin .sub .int (tm 42) (tm 45)),op 47 (.call .pure 25 [(tm 41),(tm 46)]),mv 7 47] [3,7,8,9])
 (.seq (rg [op 10 (.mov (ci (0)))] [3,7,8,9,10])
 (.block 2 (.loop l11_0_h l11_0_b))))))
 (.region none [] [mv 33 8,op 34 (.bin .add .int (tm 33) (ci (1))),mv 8 34] [3,7,8] (some 1)))

/-- loop 2 of function 11 -/
def l11_2_h : List Nat := [3,7,11]

def l11_2_b : ACode :=
 .seq (.seq (rg [mv 68 11,op 69 (.faddr 1 (tm 3)),op 70 (.load none (tm 69)),op 71 (.len .slice (tm 70)),op 72 (.bin .lss .int (tm 68) (tm 71)),mv 73 72,mg 74 7 73 true,⟨some 75,.bin .geq .int (tm 74) (ci (0)),some (73,true)⟩,op 76 (.pick (tm 73) (tm 75) (.cst (.bool false)))] [3,7,11,76])
 (.cond (tm 76) (.skip)
 (.exit 4)))
 (.seq (.block 5 (.region (some 18) [] [
 op 79 (.faddr 1 (tm 3)),op 80 (.load none (tm 79)),mv 81 11,op 82 (.iaddr 5 (tm 80) (tm 81)),op 83 (.faddr 4 (tm 82)),op 84 (.load none (tm 83)),mv 85 7,op 86 (.faddr 1 (tm 3)),op 87 (.load none (tm 86)),mv 88 11,op 89 (.iaddr 5 (tm 87) (tm 88)),op 90 (.faddr 3 (tm 89)),op 91 (.load none (tm 90)),op 92 (.len .str (tm 91)),op 93 (.bin .quo .int (tm 92) (ci (50))),op 94 (.bin .sub .int (tm 85) (tm 93)),op 95 (.call .pure 25 [(tm 84),(tm 94)]),mv 7 95] [3,7,11] none))
 (rg [mv 77 11,op 78 (.bin .add .int (tm 77) (ci (1))),mv 11 78] [3,7,11]))

def c11 : ACode :=
 .seq (rg [op 3 (.box 4 (tm 0)),op 6 (.mov (.cst (.bool false)))] [1,2,3])
 (.seq (.seq (rg [op 12 (.faddr 0 (tm 3)),op 13 (.load none (tm 12)),op 14 (.len .slice (tm 13)),mv 15 1,op 16 (.bin .gtr .int (tm 14) (tm 15)),mv 17 16,⟨some 18,.faddr 1 (tm 3),some (17,false)⟩,⟨some 19,.load none (tm 18),some (17,false)⟩,⟨some 20,.len .slice (tm 19),some (17,false)⟩,mg 21 2 17 false,⟨some 22,.bin .gtr .int (tm 20) (tm 21),some (17,false)⟩,op 23 (.pick (tm 17) (.cst (.bool true)) (tm 22))] [3,23])
 (.cond (tm 23) (.seq (rg [op 6 (.mov (.cst (.bool false)))] [6])
 (.ret))
 (.skip)))
 (.seq (rg [op 7 (.mov (ci (2000)))] [3,7])
 (.seq (.seq (rg [op 8 (.mov (ci (0)))] [3,7,8])
 (.block 0 (.loop l11_1_h l11_1_b)))
 (.seq (.seq (rg [op 11 (.mov (ci (0)))] [3,7,11])
 (.block 4 (.loop l11_2_h l11_2_b)))
 (.seq (rg [mv 96 7,op 97 (.bin .geq .int (tm 96) (ci (0))),mv 6 97] [6])
 (.ret))))))

def a11 : AFunc := ⟨3,c11,[.tmp 6]⟩

def an11 : List RAnn := [
 ra 0 [1,2,3],ra 1 [3,23],ra 2 [6],ra 3 [3,7],ra 4 [3,7,8],rh 5 [3,7,8,32] [3,7,8],ra 7 [3,7,8,9],ra 8 [3,7,8,9],ra 9 [3,7,8,9,10],rh 10 [3,7,8,9,10,56] [3,7,8,9,10],ra 12 [3,7,8,9,10],ra 11 [3,7,8,9,10],
 { id := 6,live := [3,7,8],trunc := some 1 },
 ra 13 [3,7,11],rh 14 [3,7,11,76] [3,7,11],
 { id := 16,head := some 18,live := [3,7,11] },
 ra 15 [3,7,11],ra 17 [6]]

theorem comp11 : compF Tryz.prog an11 Tryz.f11 = some a11 := by kernel_rfl

/- graphdb/delta.Touched -/
/-- loop 0 of function 12 -/
def l12_0_h : List Nat := [2,3,6,7,8]

def l12_0_b : ACode :=
 .seq (rg [op 9 (.bin .lss .int (tm 8) (tm 7))] [2,3,6,7,8,9])
 (.seq (.cond (tm 9) (.skip)
 (.exit 0))
 (.seq (.block 1 (.seq (rg [op 10 (.iaddr 10 (tm 6) (tm 8)),op 11 (.load (some 10) (tm 10)),op 5 (.alloc 10 (.agg [.int .i64 0,.int .i64 0,.int .i64 0,.int .i64 0,.str [],.int .i64 0,.int .i64 0,.int .i64 0,.str [],.sl false []])),⟨none,.store 10 (tm 5) (tm 11),none⟩] [2,3,5,6,7,8])
 (.seq (.block 2 (.seq (rg [op 13 (.faddr 0 (tm 5)),op 14 (.load none (tm 13)),op 15 (.bin .geq .int (tm 14) (ci (1))),mv 16 15,⟨some 17,.faddr 0 (tm 5),some (16,true)⟩,⟨some 18,.load none (tm 17),some (16,true)⟩,⟨some 19,.bin .leq .int (tm 18) (ci (5)),some (16,true)⟩,op 20 (.pick (tm 16) (tm 19) (.cst (.bool false))),mv 12 20] [2,3,5,6,7,8,12])
 (.cond (tm 12) (rg [mv 21 2,op 22 (.faddr 1 (tm 5)),op 23 (.load none (tm 22)),op 24 (.lit false 1 (.int .i64 0) 1 [(0,(tm 23))]),op 25 (.append 1 8 (tm 21) (tm 24)),mv 2 25] [2,3,5,6,7,8])
 (.seq (rg [op 27 (.faddr 0 (tm 5)),op 28 (.load none (tm 27)),op 29 (.bin .geq .int (tm 28) (ci (6))),mv 30 29,⟨some 31,.faddr 0 (tm 5),some (30,true)⟩,⟨some 32,.load none (tm 31),some (30,true)⟩,⟨some 33,.bin .leq .int (tm 32) (ci (8)),some (30,true)⟩,op 34 (.pick (tm 30) (tm 33) (.cst (.bool false))),mv 26 34] [2,3,5,6,7,8,26])
 (.cond (tm 26) (rg [mv 35 3,op 36 (.faddr 1 (tm 5)),op 37 (.load none (tm 36)),op 38 (.lit false 1 (.int .i64 0) 1 [(0,(tm 37))]),op 39 (.append 1 8 (tm 35) (tm 38)),mv 3 39] [2,3,5,6,7,8])
 (.skip))))))
 (.seq (rg [op 40 (.faddr 0 (tm 5)),op 41 (.load none (tm 40)),op 42 (.bin .eql .int (tm 41) (ci (6)))] [2,3,5,6,7,8,42])
 (.cond (tm 42) (rg [mv 43 2,op 44 (.faddr 2 (tm 5)),op 45 (.load none (tm 44)),op 46 (.faddr 3 (tm 5)),op 47 (.load none (tm 46)),op 48 (.lit false 1 (.int .i64 0) 2 [(0,(tm 45)),(1,(tm 47))]),op 49 (.append 1 8 (tm 43) (tm 48)),mv 2 49] [2,3,6,7,8])
 (.skip))))))
 (.region none [] [op 50 (.bin .add .int (tm 8) (ci (1))),mv 8 50] [2,3,6,7,8] (some 2))))

def c12 : ACode :=
 .seq (rg [op 2 (.newown 1),op 3 (.newown 1)] [0,2,3])
 (.seq (.seq (rg [mv 6 0,op 7 (.len .slice (tm 6)),op 8 (.mov (ci (0)))] [2,3,6,7,8])
 (.block 0 (.loop l12_0_h l12_0_b)))
 (.seq (rg [mv 51 2,op 52 (.call .share 26 [(tm 51)])] [2,3])
 (.seq (rg [mv 53 3,op 54 (.call .share 26 [(tm 53)])] [2,3])
 (.seq (rg [mv 55 2,op 56 (.call .share 27 [(tm 55)]),mv 57 3,op 58 (.call .share 27 [(tm 57)]),mv 2 56,mv 3 58] [2,3])
 (.ret)))))

def a12 : AFunc := ⟨1,c12,[.tmp 2,.tmp 3]⟩

def an12 : List RAnn := [
 { id := 0,live := [0,2,3],ops := [(0,.own),(1,.own)] },
 ra 1 [2,3,6,7,8],rh 2 [2,3,6,7,8,9] [2,3,6,7,8],ra 3 [2,3,5,6,7,8],ra 4 [2,3,5,6,7,8,12],ra 5 [2,3,5,6,7,8],ra 6 [2,3,5,6,7,8,26],ra 7 [2,3,5,6,7,8],ra 8 [2,3,5,6,7,8,42],ra 9 [2,3,6,7,8],
 { id := 10,live := [2,3,6,7,8],trunc := some 2 },
 { id := 11,live := [2,3],ops := [(1,.mode .share)] },
 { id := 12,live := [2,3],ops := [(1,.mode .share)] },
 { id := 13,live := [2,3],ops := [(1,.mode .share),(3,.mode .share)] }]

theorem comp12 : compF Tryz.prog an12 Tryz.f12 = some a12 := by kernel_rfl

/- graphdb/graphdblaw11.ints -/
/-- loop 0 of function 13 -/
def l13_0_h : List Nat := [0,1,12,13]

def l13_0_b : ACode :=
 .seq (rg [op 14 (.bin .lss .int (tm 13) (tm 12))] [0,1,12,13,14])
 (.seq (.cond (tm 14) (.skip)
 (.exit 0))
 (.seq (.block 1 (.seq (rg [mv 15 13,mv 5 15] [0,1,5,12,13])
 (.seq (.region (some 9) [] [
 mv 16 0,mv 17 5,op 18 (.iaddr 1 (tm 16) (tm 17)),op 19 (.load none (tm 18)),mv 20 1,mv 21 5,op 22 (.iaddr 1 (tm 20) (tm 21)),op 23 (.load none (tm 22)),op 24 (.bin .neq .int (tm 19) (tm 23))] [0,1,12,13,24] none)
 (.cond (tm 24) (.seq (rg [op 4 (.mov (.cst (.bool false)))] [4])
 (.ret))
 (.skip)))))
 (rg [op 25 (.bin .add .int (tm 13) (ci (1))),mv 13 25] [0,1,12,13])))

def c13 : ACode :=
 .seq (rg [op 4 (.mov (.cst (.bool false)))] [0,1])
 (.seq (.seq (rg [mv 6 0,op 7 (.len .slice (tm 6)),mv 8 1,op 9 (.len .slice (tm 8)),op 10 (.bin .neq .int (tm 7) (tm 9))] [0,1,10])
 (.cond (tm 10) (.seq (rg [op 4 (.mov (.cst (.bool false)))] [4])
 (.ret))
 (.skip)))
 (.seq (.seq (rg [mv 11 0,op 12 (.len .slice (tm 11)),op 13 (.mov (ci (0)))] [0,1,12,13])
 (.block 0 (.loop l13_0_h l13_0_b)))
 (.seq (rg [op 4 (.mov (.cst (.bool true)))] [4])
 (.ret))))

def a13 : AFunc := ⟨2,c13,[.tmp 4]⟩

def an13 : List RAnn := [
 ra 0 [0,1],ra 1 [0,1,10],ra 2 [4],ra 3 [0,1,12,13],rh 4 [0,1,12,13,14] [0,1,12,13],ra 5 [0,1,5,12,13],
 { id := 6,head := some 9,live := [0,1,12,13,24] },
 ra 7 [4],ra 8 [0,1,12,13],ra 9 [4]]

theorem comp13 : compF Tryz.prog an13 Tryz.f13 = some a13 := by kernel_rfl

/- graphdb/graph.Check -/
/-- loop 0 of function 14 -/
def l14_0_h : List Nat := [1,38,39,40]

def l14_0_b : ACode :=
 .seq (rg [op 41 (.bin .lss .int (tm 40) (tm 39))] [1,38,39,40,41])
 (.seq (.cond (tm 41) (.skip)
 (.exit 0))
 (.seq (.block 1 (.seq (rg [mv 42 40,op 43 (.iaddr 3 (tm 38) (tm 40)),op 44 (.load (some 3) (tm 43)),op 4 (.alloc 3 (.agg [.int .i64 0,.sl false [],.sl false []])),mv 3 42,⟨none,.store 3 (tm 4) (tm 44),none⟩] [1,3,4,38,39,40])
 (.seq (.seq (.region (some 14) [] [
 mv 45 3,op 46 (.bin .gtr .int (tm 45) (ci (0))),mv 47 46,⟨some 48,.faddr 0 (tm 4),some (47,true)⟩,⟨some 49,.load none (tm 48),some (47,true)⟩,⟨some 50,.faddr 0 (tm 1),some (47,true)⟩,⟨some 51,.load none (tm 50),some (47,true)⟩,mg 52 3 47 true,⟨some 53,.bin .sub .int (tm 52) (ci (1)),some (47,true)⟩,⟨some 54,.iaddr 3 (tm 51) (tm 53),some (47,true)⟩,⟨some 55,.faddr 0 (tm 54),some (47,true)⟩,⟨some 56,.load none (tm 55),some (47,true)⟩,⟨some 57,.bin .leq .int (tm 49) (tm 56),some (47,true)⟩,op 58 (.pick (tm 47) (tm 57) (.cst (.bool false)))] [1,4,38,39,40,58] none)
 (.cond (tm 58) (.seq (rg [op 2 (.mov (ci (26)))] [2])
 (.ret))
 (.skip)))
 (.seq (.seq (rg [op 59 (.faddr 0 (tm 4)),op 60 (.load none (tm 59)),op 61 (.bin .lss .int (tm 60) (ci (1))),mv 62 61,⟨some 63,.faddr 0 (tm 4),some (62,false)⟩,⟨some 64,.load none (tm 63),some (62,false)⟩,⟨some 65,.faddr 2 (tm 1),some (62,false)⟩,⟨some 66,.load none (tm 65),some (62,false)⟩,⟨some 67,.bin .geq .int (tm 64) (tm 66),some (62,false)⟩,op 68 (.pick (tm 62) (.cst (.bool true)) (tm 67))] [1,4,38,39,40,68])
 (.cond (tm 68) (.seq (rg [op 2 (.mov (ci (1)))] [2])
 (.ret))
 (.skip)))
 (.seq (rg [op 69 (.faddr 1 (tm 4)),op 70 (.load none (tm 69)),op 71 (.faddr 2 (tm 4)),op 72 (.load none (tm 71)),op 73 (.call .pure 28 [(tm 70),(tm 72)]),mv 5 73] [1,5,38,39,40])
 (.seq (rg [mv 74 5,op 75 (.bin .neq .int (tm 74) (ci (0)))] [1,5,38,39,40,75])
 (.cond (tm 75) (.seq (rg [mv 76 5,mv 2 76] [2])
 (.ret))
 (.skip))))))))
 (.region none [] [op 77 (.bin .add .int (tm 40) (ci (1))),mv 40 77] [1,38,39,40] (some 1))))

/-- loop 1 of function 14 -/
def l14_1_h : List Nat := [1,79,80,81]

def l14_1_b : ACode :=
 .seq (rg [op 82 (.bin .lss .int (tm 81) (tm 80))] [1,79,80,81,82])
 (.seq (.cond (tm 82) (.skip)
 (.exit 2))
 (.seq (.block 3 (.seq (rg [mv 83 81,op 84 (.iaddr 5 (tm 79) (tm 81)),op 85 (.load (some 5) (tm 84)),op 7 (.alloc 5 (.agg [.int .i64 0,.int .i64 0,.int .i64 0,.str [],.sl false []])),mv 6 83,⟨none,.store 5 (tm 7) (tm 85),none⟩] [1,6,7,79,80,81])
 (.seq (.seq (.region (some 14) [] [
 mv 86 6,op 87 (.bin .gtr .int (tm 86) (ci (0))),mv 88 87,⟨some 89,.faddr 0 (tm 7),some (88,true)⟩,⟨some 90,.load none (tm 89),some (88,true)⟩,⟨some 91,.faddr 1 (tm 1),some (88,true)⟩,⟨some 92,.load none (tm 91),some (88,true)⟩,mg 93 6 88 true,⟨some 94,.bin .sub .int (tm 93) (ci (1)),some (88,true)⟩,⟨some 95,.iaddr 5 (tm 92) (tm 94),some (88,true)⟩,⟨some 96,.faddr 0 (tm 95),some (88,true)⟩,⟨some 97,.load none (tm 96),some (88,true)⟩,⟨some 98,.bin .leq .int (tm 90) (tm 97),some (88,true)⟩,op 99 (.pick (tm 88) (tm 98) (.cst (.bool false)))] [1,7,79,80,81,99] none)
 (.cond (tm 99) (.seq (rg [op 2 (.mov (ci (26)))] [2])
 (.ret))
 (.skip)))
 (.seq (.seq (rg [op 100 (.faddr 0 (tm 7)),op 101 (.load none (tm 100)),op 102 (.bin .lss .int (tm 101) (ci (1))),mv 103 102,⟨some 104,.faddr 0 (tm 7),some (103,false)⟩,⟨some 105,.load none (tm 104),some (103,false)⟩,⟨some 106,.faddr 3 (tm 1),some (103,false)⟩,⟨some 107,.load none (tm 106),some (103,false)⟩,⟨some 108,.bin .geq .int (tm 105) (tm 107),some (103,false)⟩,op 109 (.pick (tm 103) (.cst (.bool true)) (tm 108))] [1,7,79,80,81,109])
 (.cond (tm 109) (.seq (rg [op 2 (.mov (ci (1)))] [2])
 (.ret))
 (.skip)))
 (.seq (.seq (rg [op 110 (.faddr 0 (tm 1)),op 111 (.load none (tm 110)),op 112 (.faddr 1 (tm 7)),op 113 (.load none (tm 112)),op 114 (.call .pure 29 [(tm 111),(tm 113)]),op 115 (.un .not (tm 114)),mv 116 115,⟨some 117,.faddr 0 (tm 1),some (116,false)⟩,⟨some 118,.load none (tm 117),some (116,false)⟩,⟨some 119,.faddr 2 (tm 7),some (116,false)⟩,⟨some 120,.load none (tm 119),some (116,false)⟩,⟨some 121,.call .pure 29 [(tm 118),(tm 120)],some (116,false)⟩,⟨some 122,.un .not (tm 121),some (116,false)⟩,op 123 (.pick (tm 116) (.cst (.bool true)) (tm 122))] [1,7,79,80,81,123])
 (.cond (tm 123) (.seq (rg [op 2 (.mov (ci (10)))] [2])
 (.ret))
 (.skip)))
 (.seq (.seq (rg [op 124 (.faddr 3 (tm 7)),op 125 (.load none (tm 124)),op 126 (.call .pure 30 [(tm 125)]),op 127 (.un .not (tm 126))] [1,7,79,80,81,127])
 (.cond (tm 127) (.seq (rg [op 2 (.mov (ci (6)))] [2])
 (.ret))
 (.skip)))
 (.seq (rg [op 128 (.faddr 4 (tm 7)),op 129 (.load none (tm 128)),op 130 (.call .pure 28 [(.cst (.sl false [])),(tm 129)]),mv 8 130] [1,8,79,80,81])
 (.seq (rg [mv 131 8,op 132 (.bin .neq .int (tm 131) (ci (0)))] [1,8,79,80,81,132])
 (.cond (tm 132) (.seq (rg [mv 133 8,mv 2 133] [2])
 (.ret))
 (.skip))))))))))
 (.region none [] [op 134 (.bin .add .int (tm 81) (ci (1))),mv 81 134] [1,79,80,81] (some 1))))

def c14 : ACode :=
 .seq (rg [op 1 (.box 4 (tm 0)),op 2 (.mov (ci (0)))] [1])
 (.seq (.seq (rg [op 9 (.faddr 0 (tm 1)),op 10 (.load none (tm 9)),op 11 (.len .slice (tm 10)),op 12 (.bin .gtr .int (tm 11) (ci (2000))),mv 13 12,⟨some 14,.faddr 1 (tm 1),some (13,false)⟩,⟨some 15,.load none (tm 14),some (13,false)⟩,⟨some 16,.len .slice (tm 15),some (13,false)⟩,⟨some 17,.bin .gtr .int (tm 16) (ci (4000)),some (13,false)⟩,op 18 (.pick (tm 13) (.cst (.bool true)) (tm 17))] [1,18])
 (.cond (tm 18) (.seq (rg [op 2 (.mov (ci (4)))] [2])
 (.ret))
 (.skip)))
 (.seq (.seq (rg [op 19 (.faddr 2 (tm 1)),op 20 (.load none (tm 19)),op 21 (.bin .lss .int (tm 20) (ci (1))),mv 22 21,⟨some 23,.faddr 2 (tm 1),some (22,false)⟩,⟨some 24,.load none (tm 23),some (22,false)⟩,⟨some 25,.bin .gtr .int (tm 24) (ci (1000001)),some (22,false)⟩,op 26 (.pick (tm 22) (.cst (.bool true)) (tm 25)),mv 27 26,⟨some 28,.faddr 3 (tm 1),some (27,false)⟩,⟨some 29,.load none (tm 28),some (27,false)⟩,⟨some 30,.bin .lss .int (tm 29) (ci (1)),some (27,false)⟩,op 31 (.pick (tm 27) (.cst (.bool true)) (tm 30)),mv 32 31,⟨some 33,.faddr 3 (tm 1),some (32,false)⟩,⟨some 34,.load none (tm 33),some (32,false)⟩,⟨some 35,.bin .gtr .int (tm 34) (ci (1000001)),some (32,false)⟩,op 36 (.pick (tm 32) (.cst (.bool true)) (tm 35))] [1,36])
 (.cond (tm 36) (.seq (rg [op 2 (.mov (ci (1)))] [2])
 (.ret))
 (.skip)))
 (.seq (.seq (rg [op 37 (.faddr 0 (tm 1)),op 38 (.load none (tm 37)),op 39 (.len .slice (tm 38)),op 40 (.mov (ci (0)))] [1,38,39,40])
 (.block 0 (.loop l14_0_h l14_0_b)))
 (.seq (.seq (rg [op 78 (.faddr 1 (tm 1)),op 79 (.load none (tm 78)),op 80 (.len .slice (tm 79)),op 81 (.mov (ci (0)))] [1,79,80,81])
 (.block 2 (.loop l14_1_h l14_1_b)))
 (.seq (rg [op 2 (.mov (ci (0)))] [2])
 (.ret))))))

def a14 : AFunc := ⟨1,c14,[.tmp 2]⟩

def an14 : List RAnn := [
 ra 0 [1],ra 1 [1,18],ra 2 [2],ra 3 [1,36],ra 4 [2],ra 5 [1,38,39,40],rh 6 [1,38,39,40,41] [1,38,39,40],ra 7 [1,3,4,38,39,40],
 { id := 8,head := some 14,live := [1,4,38,39,40,58] },
 ra 9 [2],ra 10 [1,4,38,39,40,68],ra 11 [2],ra 12 [1,5,38,39,40],ra 13 [1,5,38,39,40,75],ra 14 [2],
 { id := 15,live := [1,38,39,40],trunc := some 1 },
 ra 16 [1,79,80,81],rh 17 [1,79,80,81,82] [1,79,80,81],ra 18 [1,6,7,79,80,81],
 { id := 19,head := some 14,live := [1,7,79,80,81,99] },
 ra 20 [2],ra 21 [1,7,79,80,81,109],ra 22 [2],ra 23 [1,7,79,80,81,123],ra 24 [2],ra 25 [1,7,79,80,81,127],ra 26 [2],ra 27 [1,8,79,80,81],ra 28 [1,8,79,80,81,132],ra 29 [2],
 { id := 30,live := [1,79,80,81],trunc := some 1 },
 ra 31 [2]]

theorem comp14 : compF Tryz.prog an14 Tryz.f14 = some a14 := by kernel_rfl

/- (*graphdb/delta.script).gone -/
/-- loop 0 of function 15 -/
def l15_0_h : List Nat := [0,4,5,15,16,17]

def l15_0_b : ACode :=
 .seq (rg [op 18 (.bin .lss .int (tm 17) (tm 16))] [0,4,5,15,16,17,18])
 (.seq (.cond (tm 18) (.skip)
 (.exit 0))
 (.seq (.block 1 (.seq (rg [op 19 (.iaddr 5 (tm 15) (tm 17)),op 20 (.load (some 5) (tm 19)),op 7 (.alloc 5 (.agg [.int .i64 0,.int .i64 0,.int .i64 0,.str [],.sl false []])),⟨none,.store 5 (tm 7) (tm 20),none⟩] [0,4,5,7,15,16,17])
 (.seq (rg [op 22 (.load (some 4) (tm 5)),op 23 (.faddr 0 (tm 7)),op 24 (.load none (tm 23)),op 25 (.call .pure 31 [(tm 22),(tm 24)]),mv 21 25,op 26 (.ext (tm 21) 0),op 27 (.ext (tm 21) 1),op 8 (.alloc 5 (.agg [.int .i64 0,.int .i64 0,.int .i64 0,.str [],.sl false []])),⟨none,.store 5 (tm 8) (tm 26),none⟩,mv 9 27] [0,4,5,7,8,9,15,16,17])
 (.seq (rg [mv 28 9,op 29 (.un .not (tm 28)),mv 30 29,⟨some 31,.load (some 5) (tm 7),some (30,false)⟩,⟨some 32,.load (some 5) (tm 8),some (30,false)⟩,⟨some 33,.call .pure 32 [(tm 31),(tm 32)],some (30,false)⟩,op 34 (.pick (tm 30) (.cst (.bool true)) (tm 33))] [0,4,5,7,15,16,17,34])
 (.cond (tm 34) (rg [mv 35 0,op 36 (.faddr 0 (tm 7)),op 37 (.load none (tm 36)),op 38 (.build [.int .i64 0,.int .i64 0,.int .i64 0,.int .i64 0,.str [],.int .i64 0,.int .i64 0,.int .i64 0,.str [],.sl false []] [(0,1,(ci (7))),(1,1,(tm 37))]),op 39 (.call .keep 33 [(tm 35),(tm 38)])] [0,4,5,15,16,17])
 (.skip))))))
 (.region none [] [op 40 (.bin .add .int (tm 17) (ci (1))),mv 17 40] [0,4,5,15,16,17] (some 1002))))

/-- loop 1 of function 15 -/
def l15_1_h : List Nat := [0,5,42,43,44]

def l15_1_b : ACode :=
 .seq (rg [op 45 (.bin .lss .int (tm 44) (tm 43))] [0,5,42,43,44,45])
 (.seq (.cond (tm 45) (.skip)
 (.exit 2))
 (.seq (.block 3 (.seq (rg [op 46 (.iaddr 3 (tm 42) (tm 44)),op 47 (.load (some 3) (tm 46)),op 11 (.alloc 3 (.agg [.int .i64 0,.sl false [],.sl false []])),⟨none,.store 3 (tm 11) (tm 47),none⟩] [0,5,11,42,43,44])
 (.seq (rg [op 49 (.load (some 4) (tm 5)),op 50 (.faddr 0 (tm 11)),op 51 (.load none (tm 50)),op 52 (.call .pure 34 [(tm 49),(tm 51)]),mv 48 52,op 53 (.ext (tm 48) 0),op 54 (.ext (tm 48) 1),op 12 (.alloc 3 (.agg [.int .i64 0,.sl false [],.sl false []])),⟨none,.store 3 (tm 12) (tm 53),none⟩,mv 13 54] [0,5,11,13,42,43,44])
 (.seq (rg [mv 55 13,op 56 (.un .not (tm 55))] [0,5,11,42,43,44,56])
 (.cond (tm 56) (rg [mv 57 0,op 58 (.faddr 0 (tm 11)),op 59 (.load none (tm 58)),op 60 (.build [.int .i64 0,.int .i64 0,.int .i64 0,.int .i64 0,.str [],.int .i64 0,.int .i64 0,.int .i64 0,.str [],.sl false []] [(0,1,(ci (2))),(1,1,(tm 59))]),op 61 (.call .keep 33 [(tm 57),(tm 60)])] [0,5,42,43,44])
 (.skip))))))
 (.region none [] [op 62 (.bin .add .int (tm 44) (ci (1))),mv 44 62] [0,5,42,43,44] (some 1002))))

def c15 : ACode :=
 .seq (rg [op 4 (.box 4 (tm 1)),op 5 (.box 4 (tm 2))] [0,4,5])
 (.seq (.seq (rg [op 14 (.faddr 1 (tm 4)),op 15 (.load none (tm 14)),op 16 (.len .slice (tm 15)),op 17 (.mov (ci (0)))] [0,4,5,15,16,17])
 (.block 0 (.loop l15_0_h l15_0_b)))
 (.seq (rg [op 41 (.faddr 0 (tm 4)),op 42 (.load none (tm 41)),op 43 (.len .slice (tm 42)),op 44 (.mov (ci (0)))] [0,5,42,43,44])
 (.block 2 (.loop l15_1_h l15_1_b))))

def a15 : AFunc := ⟨3,c15,[]⟩

def an15 : List RAnn := [
 ra 0 [0,4,5],ra 1 [0,4,5,15,16,17],rh 2 [0,4,5,15,16,17,18] [0,4,5,15,16,17],ra 3 [0,4,5,7,15,16,17],ra 4 [0,4,5,7,8,9,15,16,17],ra 5 [0,4,5,7,15,16,17,34],
 { id := 6,live := [0,4,5,15,16,17],ops := [(4,.mode .keep)] },
 { id := 7,live := [0,4,5,15,16,17],trunc := some 1002 },
 ra 8 [0,5,42,43,44],rh 9 [0,5,42,43,44,45] [0,5,42,43,44],ra 10 [0,5,11,42,43,44],ra 11 [0,5,11,13,42,43,44],ra 12 [0,5,11,42,43,44,56],
 { id := 13,live := [0,5,42,43,44],ops := [(4,.mode .keep)] },
 { id := 14,live := [0,5,42,43,44],trunc := some 1002 }]

theorem comp15 : compF Tryz.prog an15 Tryz.f15 = some a15 := by kernel_rfl

/- (*graphdb/delta.script).nodes -/
/-- loop 0 of function 16 -/
def l16_0_h : List Nat := [0,4,5,15,16,17]

def l16_0_b : ACode :=
 .seq (rg [op 18 (.bin .lss .int (tm 17) (tm 16))] [0,4,5,15,16,17,18])
 (.seq (.cond (tm 18) (.skip)
 (.exit 0))
 (.seq (.block 1 (.seq (rg [op 19 (.iaddr 3 (tm 15) (tm 17)),op 20 (.load (some 3) (tm 19)),op 7 (.alloc 3 (.agg [.int .i64 0,.sl false [],.sl false []])),⟨none,.store 3 (tm 7) (tm 20),none⟩] [0,4,5,7,15,16,17])
 (.seq (rg [op 22 (.load (some 4) (tm 4)),op 23 (.faddr 0 (tm 7)),op 24 (.load none (tm 23)),op 25 (.call .pure 34 [(tm 22),(tm 24)]),mv 21 25,op 26 (.ext (tm 21) 0),op 27 (.ext (tm 21) 1),op 8 (.alloc 3 (.agg [.int .i64 0,.sl false [],.sl false []])),⟨none,.store 3 (tm 8) (tm 26),none⟩,mv 9 27] [0,4,5,7,9,15,16,17])
 (.seq (rg [mv 28 9,op 29 (.un .not (tm 28))] [0,4,5,7,15,16,17,29])
 (.cond (tm 29) (rg [mv 30 0,op 31 (.faddr 0 (tm 7)),op 32 (.load none (tm 31)),op 33 (.build [.int .i64 0,.int .i64 0,.int .i64 0,.int .i64 0,.str [],.int .i64 0,.int .i64 0,.int .i64 0,.str [],.sl false []] [(0,1,(ci (1))),(1,1,(tm 32))]),op 34 (.call .keep 33 [(tm 30),(tm 33)])] [0,4,5,15,16,17])
 (.skip))))))
 (.region none [] [op 35 (.bin .add .int (tm 17) (ci (1))),mv 17 35] [0,4,5,15,16,17] (some 1002))))

/-- loop 1 of function 16 -/
def l16_1_h : List Nat := [0,4,37,38,39]

def l16_1_b : ACode :=
 .seq (rg [op 40 (.bin .lss .int (tm 39) (tm 38))] [0,4,37,38,39,40])
 (.seq (.cond (tm 40) (.skip)
 (.exit 2))
 (.seq (.block 3 (.seq (rg [op 41 (.iaddr 3 (tm 37) (tm 39)),op 42 (.load (some 3) (tm 41)),op 11 (.alloc 3 (.agg [.int .i64 0,.sl false [],.sl false []])),⟨none,.store 3 (tm 11) (tm 42),none⟩] [0,4,11,37,38,39])
 (.seq (rg [op 44 (.load (some 4) (tm 4)),op 45 (.faddr 0 (tm 11)),op 46 (.load none (tm 45)),op 47 (.call .pure 34 [(tm 44),(tm 46)]),mv 43 47,op 48 (.ext (tm 43) 0),op 49 (.ext (tm 43) 1),op 12 (.alloc 3 (.agg [.int .i64 0,.sl false [],.sl false []])),⟨none,.store 3 (tm 12) (tm 48),none⟩,mv 13 49] [0,4,11,12,37,38,39])
 (.seq (rg [mv 50 0,op 51 (.faddr 0 (tm 11)),op 52 (.load none (tm 51)),op 53 (.faddr 1 (tm 12)),op 54 (.load none (tm 53)),op 55 (.faddr 1 (tm 11)),op 56 (.load none (tm 55)),op 57 (.call .keep 35 [(tm 50),(ci (4)),(tm 52),(tm 54),(tm 56)])] [0,4,11,12,37,38,39])
 (.seq (.region (some 9) [] [
 mv 58 0,op 59 (.faddr 0 (tm 11)),op 60 (.load none (tm 59)),op 61 (.faddr 2 (tm 12)),op 62 (.load none (tm 61)),op 63 (.call .pure 36 [(tm 62)]),op 64 (.faddr 2 (tm 11)),op 65 (.load none (tm 64)),op 66 (.call .pure 36 [(tm 65)]),op 67 (.call .keep 35 [(tm 58),(ci (5)),(tm 60),(tm 63),(tm 66)])] [0,4,11,12,37,38,39] none)
 (.seq (rg [mv 68 0,op 69 (.faddr 0 (tm 11)),op 70 (.load none (tm 69)),op 71 (.faddr 1 (tm 11)),op 72 (.load none (tm 71)),op 73 (.faddr 1 (tm 12)),op 74 (.load none (tm 73)),op 75 (.call .keep 35 [(tm 68),(ci (3)),(tm 70),(tm 72),(tm 74)])] [0,4,11,12,37,38,39])
 (rg [mv 76 0,op 77 (.faddr 0 (tm 11)),op 78 (.load none (tm 77)),op 79 (.faddr 2 (tm 12)),op 80 (.load none (tm 79)),op 81 (.faddr 2 (tm 11)),op 82 (.load none (tm 81)),op 83 (.call .keep 37 [(tm 76),(ci (5)),(tm 78),(tm 80),(tm 82)])] [0,4,37,38,39])))))))
 (.region none [] [op 84 (.bin .add .int (tm 39) (ci (1))),mv 39 84] [0,4,37,38,39] (some 1002))))

def c16 : ACode :=
 .seq (rg [op 4 (.box 4 (tm 1)),op 5 (.box 4 (tm 2))] [0,4,5])
 (.seq (.seq (rg [op 14 (.faddr 0 (tm 5)),op 15 (.load none (tm 14)),op 16 (.len .slice (tm 15)),op 17 (.mov (ci (0)))] [0,4,5,15,16,17])
 (.block 0 (.loop l16_0_h l16_0_b)))
 (.seq (rg [op 36 (.faddr 0 (tm 5)),op 37 (.load none (tm 36)),op 38 (.len .slice (tm 37)),op 39 (.mov (ci (0)))] [0,4,37,38,39])
 (.block 2 (.loop l16_1_h l16_1_b))))

def a16 : AFunc := ⟨3,c16,[]⟩

def an16 : List RAnn := [
 ra 0 [0,4,5],ra 1 [0,4,5,15,16,17],rh 2 [0,4,5,15,16,17,18] [0,4,5,15,16,17],ra 3 [0,4,5,7,15,16,17],ra 4 [0,4,5,7,9,15,16,17],ra 5 [0,4,5,7,15,16,17,29],
 { id := 6,live := [0,4,5,15,16,17],ops := [(4,.mode .keep)] },
 { id := 7,live := [0,4,5,15,16,17],trunc := some 1002 },
 ra 8 [0,4,37,38,39],rh 9 [0,4,37,38,39,40] [0,4,37,38,39],ra 10 [0,4,11,37,38,39],ra 11 [0,4,11,12,37,38,39],
 { id := 12,live := [0,4,11,12,37,38,39],ops := [(7,.mode .keep)] },
 { id := 13,head := some 9,live := [0,4,11,12,37,38,39],ops := [(9,.mode .keep)] },
 { id := 14,live := [0,4,11,12,37,38,39],ops := [(7,.mode .keep)] },
 { id := 15,live := [0,4,37,38,39],ops := [(7,.mode .keep)] },
 { id := 16,live := [0,4,37,38,39],trunc := some 1002 }]

theorem comp16 : compF Tryz.prog an16 Tryz.f16 = some a16 := by kernel_rfl

/- (*graphdb/delta.script).edges -/
/-- loop 0 of function 17 -/
def l17_0_h : List Nat := [0,4,5,15,16,17]

def l17_0_b : ACode :=
 .seq (rg [op 18 (.bin .lss .int (tm 17) (tm 16))] [0,4,5,15,16,17,18])
 (.seq (.cond (tm 18) (.skip)
 (.exit 0))
 (.seq (.block 1 (.seq (rg [op 19 (.iaddr 5 (tm 15) (tm 17)),op 20 (.load (some 5) (tm 19)),op 7 (.alloc 5 (.agg [.int .i64 0,.int .i64 0,.int .i64 0,.str [],.sl false []])),⟨none,.store 5 (tm 7) (tm 20),none⟩] [0,4,5,7,15,16,17])
 (.seq (rg [op 22 (.load (some 4) (tm 4)),op 23 (.faddr 0 (tm 7)),op 24 (.load none (tm 23)),op 25 (.call .pure 31 [(tm 22),(tm 24)]),mv 21 25,op 26 (.ext (tm 21) 0),op 27 (.ext (tm 21) 1),op 8 (.alloc 5 (.agg [.int .i64 0,.int .i64 0,.int .i64 0,.str [],.sl false []])),⟨none,.store 5 (tm 8) (tm 26),none⟩,mv 9 27] [0,4,5,7,8,9,15,16,17])
 (.seq (rg [mv 28 9,op 29 (.un .not (tm 28)),mv 30 29,⟨some 31,.load (some 5) (tm 8),some (30,false)⟩,⟨some 32,.load (some 5) (tm 7),some (30,false)⟩,⟨some 33,.call .pure 32 [(tm 31),(tm 32)],some (30,false)⟩,op 34 (.pick (tm 30) (.cst (.bool true)) (tm 33))] [0,4,5,7,15,16,17,34])
 (.cond (tm 34) (rg [mv 35 0,op 36 (.faddr 0 (tm 7)),op 37 (.load none (tm 36)),op 38 (.faddr 1 (tm 7)),op 39 (.load none (tm 38)),op 40 (.faddr 2 (tm 7)),op 41 (.load none (tm 40)),op 42 (.faddr 3 (tm 7)),op 43 (.load none (tm 42)),op 44 (.build [.int .i64 0,.int .i64 0,.int .i64 0,.int .i64 0,.str [],.int .i64 0,.int .i64 0,.int .i64 0,.str [],.sl false []] [(0,1,(ci (6))),(1,1,(tm 37)),(2,1,(tm 39)),(3,1,(tm 41)),(4,1,(tm 43))]),op 45 (.call .keep 33 [(tm 35),(tm 44)])] [0,4,5,15,16,17])
 (.skip))))))
 (.region none [] [op 46 (.bin .add .int (tm 17) (ci (1))),mv 17 46] [0,4,5,15,16,17] (some 1002))))

/-- loop 1 of function 17 -/
def l17_1_h : List Nat := [0,4,48,49,50]

def l17_1_b : ACode :=
 .seq (rg [op 51 (.bin .lss .int (tm 50) (tm 49))] [0,4,48,49,50,51])
 (.seq (.cond (tm 51) (.skip)
 (.exit 2))
 (.seq (.block 3 (.seq (rg [op 52 (.iaddr 5 (tm 48) (tm 50)),op 53 (.load (some 5) (tm 52)),op 11 (.alloc 5 (.agg [.int .i64 0,.int .i64 0,.int .i64 0,.str [],.sl false []])),⟨none,.store 5 (tm 11) (tm 53),none⟩] [0,4,11,48,49,50])
 (.seq (rg [op 55 (.load (some 4) (tm 4)),op 56 (.faddr 0 (tm 11)),op 57 (.load none (tm 56)),op 58 (.call .pure 31 [(tm 55),(tm 57)]),mv 54 58,op 59 (.ext (tm 54) 0),op 60 (.ext (tm 54) 1),op 12 (.alloc 5 (.agg [.int .i64 0,.int .i64 0,.int .i64 0,.str [],.sl false []])),⟨none,.store 5 (tm 12) (tm 59),none⟩,mv 13 60] [0,4,11,12,13,48,49,50])
 (.seq (.seq (rg [mv 61 13,op 62 (.un .not (tm 61)),mv 63 62,⟨some 64,.load (some 5) (tm 12),some (63,false)⟩,⟨some 65,.load (some 5) (tm 11),some (63,false)⟩,⟨some 66,.call .pure 32 [(tm 64),(tm 65)],some (63,false)⟩,op 67 (.pick (tm 63) (.cst (.bool true)) (tm 66))] [0,4,11,12,48,49,50,67])
 (.cond (tm 67) (rg [op 68 (.faddr 4 (tm 12)),⟨none,.store 1 (tm 68) (.cst (.sl false [])),none⟩] [0,4,11,12,48,49,50])
 (.skip)))
 (.seq (.region (some 9) [] [
 mv 69 0,op 70 (.faddr 0 (tm 11)),op 71 (.load none (tm 70)),op 72 (.faddr 4 (tm 12)),op 73 (.load none (tm 72)),op 74 (.call .pure 36 [(tm 73)]),op 75 (.faddr 4 (tm 11)),op 76 (.load none (tm 75)),op 77 (.call .pure 36 [(tm 76)]),op 78 (.call .keep 35 [(tm 69),(ci (8)),(tm 71),(tm 74),(tm 77)])] [0,4,11,12,48,49,50] none)
 (rg [mv 79 0,op 80 (.faddr 0 (tm 11)),op 81 (.load none (tm 80)),op 82 (.faddr 4 (tm 12)),op 83 (.load none (tm 82)),op 84 (.faddr 4 (tm 11)),op 85 (.load none (tm 84)),op 86 (.call .keep 37 [(tm 79),(ci (8)),(tm 81),(tm 83),(tm 85)])] [0,4,48,49,50]))))))
 (.region none [] [op 87 (.bin .add .int (tm 50) (ci (1))),mv 50 87] [0,4,48,49,50] (some 1002))))

def c17 : ACode :=
 .seq (rg [op 4 (.box 4 (tm 1)),op 5 (.box 4 (tm 2))] [0,4,5])
 (.seq (.seq (rg [op 14 (.faddr 1 (tm 5)),op 15 (.load none (tm 14)),op 16 (.len .slice (tm 15)),op 17 (.mov (ci (0)))] [0,4,5,15,16,17])
 (.block 0 (.loop l17_0_h l17_0_b)))
 (.seq (rg [op 47 (.faddr 1 (tm 5)),op 48 (.load none (tm 47)),op 49 (.len .slice (tm 48)),op 50 (.mov (ci (0)))] [0,4,48,49,50])
 (.block 2 (.loop l17_1_h l17_1_b))))

def a17 : AFunc := ⟨3,c17,[]⟩

def an17 : List RAnn := [
 ra 0 [0,4,5],ra 1 [0,4,5,15,16,17],rh 2 [0,4,5,15,16,17,18] [0,4,5,15,16,17],ra 3 [0,4,5,7,15,16,17],ra 4 [0,4,5,7,8,9,15,16,17],ra 5 [0,4,5,7,15,16,17,34],
 { id := 6,live := [0,4,5,15,16,17],ops := [(10,.mode .keep)] },
 { id := 7,live := [0,4,5,15,16,17],trunc := some 1002 },
 ra 8 [0,4,48,49,50],rh 9 [0,4,48,49,50,51] [0,4,48,49,50],ra 10 [0,4,11,48,49,50],ra 11 [0,4,11,12,13,48,49,50],ra 12 [0,4,11,12,48,49,50,67],ra 13 [0,4,11,12,48,49,50],
 { id := 14,head := some 9,live := [0,4,11,12,48,49,50],ops := [(9,.mode .keep)] },
 { id := 15,live := [0,4,48,49,50],ops := [(7,.mode .keep)] },
 { id := 16,live := [0,4,48,49,50],trunc := some 1002 }]

theorem comp17 : compF Tryz.prog an17 Tryz.f17 = some a17 := by kernel_rfl

/- graphdb/graphdbref07.Check -/
/-- loop 0 of function 18 -/
def l18_0_h : List Nat := [1,3]

def l18_0_b : ACode :=
 .seq (.seq (rg [mv 35 3,op 36 (.faddr 0 (tm 1)),op 37 (.load none (tm 36)),op 38 (.len .slice (tm 37)),op 39 (.bin .lss .int (tm 35) (tm 38))] [1,3,39])
 (.cond (tm 39) (.skip)
 (.exit 0)))
 (.seq (.block 1 (.seq (rg [op 42 (.load (some 4) (tm 1)),mv 43 3,op 44 (.call .pure 38 [(tm 42),(tm 43)]),mv 4 44] [1,3,4])
 (.seq (rg [mv 45 4,op 46 (.bin .neq .int (tm 45) (ci (0)))] [1,3,4,46])
 (.cond (tm 46) (.seq (rg [mv 47 4,mv 2 47] [2])
 (.ret))
 (.skip)))))
 (rg [mv 40 3,op 41 (.bin .add .int (tm 40) (ci (1))),mv 3 41] [1,3]))

/-- loop 1 of function 18 -/
def l18_1_h : List Nat := [1,5]

def l18_1_b : ACode :=
 .seq (.seq (rg [mv 48 5,op 49 (.faddr 1 (tm 1)),op 50 (.load none (tm 49)),op 51 (.len .slice (tm 50)),op 52 (.bin .lss .int (tm 48) (tm 51))] [1,5,52])
 (.cond (tm 52) (.skip)
 (.exit 2)))
 (.seq (.block 3 (.seq (rg [op 55 (.load (some 4) (tm 1)),mv 56 5,op 57 (.call .pure 39 [(tm 55),(tm 56)]),mv 6 57] [1,5,6])
 (.seq (rg [mv 58 6,op 59 (.bin .neq .int (tm 58) (ci (0)))] [1,5,6,59])
 (.cond (tm 59) (.seq (rg [mv 60 6,mv 2 60] [2])
 (.ret))
 (.skip)))))
 (rg [mv 53 5,op 54 (.bin .add .int (tm 53) (ci (1))),mv 5 54] [1,5]))

def c18 : ACode :=
 .seq (rg [op 1 (.box 4 (tm 0)),op 2 (.mov (ci (0)))] [1])
 (.seq (.seq (rg [op 7 (.faddr 0 (tm 1)),op 8 (.load none (tm 7)),op 9 (.len .slice (tm 8)),op 10 (.bin .gtr .int (tm 9) (ci (2000))),mv 11 10,⟨some 12,.faddr 1 (tm 1),some (11,false)⟩,⟨some 13,.load none (tm 12),some (11,false)⟩,⟨some 14,.len .slice (tm 13),some (11,false)⟩,⟨some 15,.bin .gtr .int (tm 14) (ci (4000)),some (11,false)⟩,op 16 (.pick (tm 11) (.cst (.bool true)) (tm 15))] [1,16])
 (.cond (tm 16) (.seq (rg [op 2 (.mov (ci (4)))] [2])
 (.ret))
 (.skip)))
 (.seq (.seq (rg [op 17 (.faddr 2 (tm 1)),op 18 (.load none (tm 17)),op 19 (.bin .lss .int (tm 18) (ci (1))),mv 20 19,⟨some 21,.faddr 2 (tm 1),some (20,false)⟩,⟨some 22,.load none (tm 21),some (20,false)⟩,⟨some 23,.bin .gtr .int (tm 22) (ci (1000001)),some (20,false)⟩,op 24 (.pick (tm 20) (.cst (.bool true)) (tm 23)),mv 25 24,⟨some 26,.faddr 3 (tm 1),some (25,false)⟩,⟨some 27,.load none (tm 26),some (25,false)⟩,⟨some 28,.bin .lss .int (tm 27) (ci (1)),some (25,false)⟩,op 29 (.pick (tm 25) (.cst (.bool true)) (tm 28)),mv 30 29,⟨some 31,.faddr 3 (tm 1),some (30,false)⟩,⟨some 32,.load none (tm 31),some (30,false)⟩,⟨some 33,.bin .gtr .int (tm 32) (ci (1000001)),some (30,false)⟩,op 34 (.pick (tm 30) (.cst (.bool true)) (tm 33))] [1,34])
 (.cond (tm 34) (.seq (rg [op 2 (.mov (ci (1)))] [2])
 (.ret))
 (.skip)))
 (.seq (.seq (rg [op 3 (.mov (ci (0)))] [1,3])
 (.block 0 (.loop l18_0_h l18_0_b)))
 (.seq (.seq (rg [op 5 (.mov (ci (0)))] [1,5])
 (.block 2 (.loop l18_1_h l18_1_b)))
 (.seq (rg [op 2 (.mov (ci (0)))] [2])
 (.ret))))))

def a18 : AFunc := ⟨1,c18,[.tmp 2]⟩

def an18 : List RAnn := [
 ra 0 [1],ra 1 [1,16],ra 2 [2],ra 3 [1,34],ra 4 [2],ra 5 [1,3],rh 6 [1,3,39] [1,3],ra 8 [1,3,4],ra 9 [1,3,4,46],ra 10 [2],ra 7 [1,3],ra 11 [1,5],rh 12 [1,5,52] [1,5],ra 14 [1,5,6],ra 15 [1,5,6,59],ra 16 [2],ra 13 [1,5],ra 17 [2]]

theorem comp18 : compF Tryz.prog an18 Tryz.f18 = some a18 := by kernel_rfl

/- graphdb/graphdbref11.deleted -/
/-- loop 0 of function 19 -/
def l19_0_h : List Nat := [2,3,5,6]

def l19_0_b : ACode :=
 .seq (.seq (rg [mv 10 6,op 11 (.faddr 1 (tm 2)),op 12 (.load none (tm 11)),op 13 (.len .slice (tm 12)),op 14 (.bin .lss .int (tm 10) (tm 13))] [2,3,5,6,14])
 (.cond (tm 14) (.skip)
 (.exit 0)))
 (.seq (.block 1 (.seq (.region (some 7) [] [
 op 17 (.faddr 1 (tm 2)),op 18 (.load none (tm 17)),mv 19 6,op 20 (.iaddr 5 (tm 18) (tm 19)),op 21 (.load (some 5) (tm 20)),op 22 (.load (some 4) (tm 3)),op 23 (.call .pure 40 [(tm 21),(tm 22)])] [2,3,5,6,23] none)
 (.cond (tm 23) (rg [mv 24 5,op 25 (.faddr 1 (tm 2)),op 26 (.load none (tm 25)),mv 27 6,op 28 (.iaddr 5 (tm 26) (tm 27)),op 29 (.faddr 0 (tm 28)),op 30 (.load none (tm 29)),op 31 (.build [.int .i64 0,.int .i64 0,.int .i64 0,.int .i64 0,.str [],.int .i64 0,.int .i64 0,.int .i64 0,.str [],.sl false []] [(0,1,(ci (7))),(1,1,(tm 30))]),op 32 (.lit false 10 (.agg [.int .i64 0,.int .i64 0,.int .i64 0,.int .i64 0,.str [],.int .i64 0,.int .i64 0,.int .i64 0,.str [],.sl false []]) 1 [(0,(tm 31))]),op 33 (.append 10 112 (tm 24) (tm 32)),mv 5 33] [2,3,5,6])
 (.skip))))
 (rg [mv 15 6,op 16 (.bin .add .int (tm 15) (ci (1))),mv 6 16] [2,3,5,6]))

/-- loop 1 of function 19 -/
def l19_1_h : List Nat := [2,3,5,7]

def l19_1_b : ACode :=
 .seq (.seq (rg [mv 34 7,op 35 (.faddr 0 (tm 2)),op 36 (.load none (tm 35)),op 37 (.len .slice (tm 36)),op 38 (.bin .lss .int (tm 34) (tm 37))] [2,3,5,7,38])
 (.cond (tm 38) (.skip)
 (.exit 2)))
 (.seq (.block 3 (.seq (.par 14 [(0,11),(2,11),(4,11),(6,11)] [] [
 op 42 (.load (some 4) (tm 3)),op 43 (.faddr 0 (tm 2)),op 44 (.load none (tm 43)),mv 45 7,op 46 (.iaddr 3 (tm 44) (tm 45)),op 47 (.faddr 0 (tm 46)),op 48 (.load none (tm 47)),op 49 (.call .pure 41 [(tm 42),(tm 48)]),mv 41 49,op 50 (.ext (tm 41) 0),op 51 (.ext (tm 41) 1),op 8 (.alloc 3 (.agg [.int .i64 0,.sl false [],.sl false []])),⟨none,.store 3 (tm 8) (tm 50),none⟩,mv 9 51] [2,3,5,7,9] none)
 (.seq (rg [mv 52 9,op 53 (.un .not (tm 52))] [2,3,5,7,53])
 (.cond (tm 53) (rg [mv 54 5,op 55 (.faddr 0 (tm 2)),op 56 (.load none (tm 55)),mv 57 7,op 58 (.iaddr 3 (tm 56) (tm 57)),op 59 (.faddr 0 (tm 58)),op 60 (.load none (tm 59)),op 61 (.build [.int .i64 0,.int .i64 0,.int .i64 0,.int .i64 0,.str [],.int .i64 0,.int .i64 0,.int .i64 0,.str [],.sl false []] [(0,1,(ci (2))),(1,1,(tm 60))]),op 62 (.lit false 10 (.agg [.int .i64 0,.int .i64 0,.int .i64 0,.int .i64 0,.str [],.int .i64 0,.int .i64 0,.int .i64 0,.str [],.sl false []]) 1 [(0,(tm 61))]),op 63 (.append 10 112 (tm 54) (tm 62)),mv 5 63] [2,3,5,7])
 (.skip)))))
 (.region none [] [mv 39 7,op 40 (.bin .add .int (tm 39) (ci (1))),mv 7 40] [2,3,5,7] (some 3)))

def c19 : ACode :=
 .seq (rg [op 2 (.box 4 (tm 0)),op 3 (.box 4 (tm 1)),op 4 (.mov (.cst (.sl false [])))] [2,3])
 (.seq (rg [op 5 (.newown 10)] [2,3,5])
 (.seq (.seq (rg [op 6 (.mov (ci (0)))] [2,3,5,6])
 (.block 0 (.loop l19_0_h l19_0_b)))
 (.seq (.seq (rg [op 7 (.mov (ci (0)))] [2,3,5,7])
 (.block 2 (.loop l19_1_h l19_1_b)))
 (.seq (rg [mv 64 5,mv 4 64] [4])
 (.ret)))))

def a19 : AFunc := ⟨2,c19,[.tmp 4]⟩

def an19 : List RAnn := [
 ra 0 [2,3],
 { id := 1,live := [2,3,5],ops := [(0,.own)] },
 ra 2 [2,3,5,6],rh 3 [2,3,5,6,14] [2,3,5,6],
 { id := 5,head := some 7,live := [2,3,5,6,23] },
 ra 6 [2,3,5,6],ra 4 [2,3,5,6],ra 7 [2,3,5,7],rh 8 [2,3,5,7,38] [2,3,5,7],
 { id := 10,head := some 14,live := [2,3,5,7,9],par := true },
 ra 11 [2,3,5,7,53],ra 12 [2,3,5,7],
 { id := 9,live := [2,3,5,7],trunc := some 3 },
 ra 13 [4]]

theorem comp19 : compF Tryz.prog an19 Tryz.f19 = some a19 := by kernel_rfl

/- graphdb/graphdbref11.nodes -/
/-- loop 0 of function 20 -/
def l20_0_h : List Nat := [2,3,5,6]

def l20_0_b : ACode :=
 .seq (.seq (rg [mv 13 6,op 14 (.faddr 0 (tm 3)),op 15 (.load none (tm 14)),op 16 (.len .slice (tm 15)),op 17 (.bin .lss .int (tm 13) (tm 16))] [2,3,5,6,17])
 (.cond (tm 17) (.skip)
 (.exit 0)))
 (.seq (.block 1 (.seq (.par 14 [(0,11),(2,11),(4,11),(6,11)] [] [
 op 21 (.load (some 4) (tm 2)),op 22 (.faddr 0 (tm 3)),op 23 (.load none (tm 22)),mv 24 6,op 25 (.iaddr 3 (tm 23) (tm 24)),op 26 (.faddr 0 (tm 25)),op 27 (.load none (tm 26)),op 28 (.call .pure 41 [(tm 21),(tm 27)]),mv 20 28,op 29 (.ext (tm 20) 0),op 30 (.ext (tm 20) 1),op 7 (.alloc 3 (.agg [.int .i64 0,.sl false [],.sl false []])),⟨none,.store 3 (tm 7) (tm 29),none⟩,mv 8 30] [2,3,5,6,8] none)
 (.seq (rg [mv 31 8,op 32 (.un .not (tm 31))] [2,3,5,6,32])
 (.cond (tm 32) (rg [mv 33 5,op 34 (.faddr 0 (tm 3)),op 35 (.load none (tm 34)),mv 36 6,op 37 (.iaddr 3 (tm 35) (tm 36)),op 38 (.faddr 0 (tm 37)),op 39 (.load none (tm 38)),op 40 (.build [.int .i64 0,.int .i64 0,.int .i64 0,.int .i64 0,.str [],.int .i64 0,.int .i64 0,.int .i64 0,.str [],.sl false []] [(0,1,(ci (1))),(1,1,(tm 39))]),op 41 (.lit false 10 (.agg [.int .i64 0,.int .i64 0,.int .i64 0,.int .i64 0,.str [],.int .i64 0,.int .i64 0,.int .i64 0,.str [],.sl false []]) 1 [(0,(tm 40))]),op 42 (.append 10 112 (tm 33) (tm 41)),mv 5 42] [2,3,5,6])
 (.skip)))))
 (.region none [] [mv 18 6,op 19 (.bin .add .int (tm 18) (ci (1))),mv 6 19] [2,3,5,6] (some 3)))

/-- loop 1 of function 20 -/
def l20_1_h : List Nat := [2,3,5,9]

def l20_1_b : ACode :=
 .seq (.seq (rg [mv 43 9,op 44 (.faddr 0 (tm 3)),op 45 (.load none (tm 44)),op 46 (.len .slice (tm 45)),op 47 (.bin .lss .int (tm 43) (tm 46))] [2,3,5,9,47])
 (.cond (tm 47) (.skip)
 (.exit 2)))
 (.seq (.block 3 (.seq (rg [op 50 (.faddr 0 (tm 3)),op 51 (.load none (tm 50)),mv 52 9,op 53 (.iaddr 3 (tm 51) (tm 52)),op 54 (.load (some 3) (tm 53)),op 10 (.alloc 3 (.agg [.int .i64 0,.sl false [],.sl false []])),⟨none,.store 3 (tm 10) (tm 54),none⟩] [2,3,5,9,10])
 (.seq (rg [op 56 (.load (some 4) (tm 2)),op 57 (.faddr 0 (tm 10)),op 58 (.load none (tm 57)),op 59 (.call .pure 41 [(tm 56),(tm 58)]),mv 55 59,op 60 (.ext (tm 55) 0),op 61 (.ext (tm 55) 1),op 11 (.alloc 3 (.agg [.int .i64 0,.sl false [],.sl false []])),⟨none,.store 3 (tm 11) (tm 60),none⟩,mv 12 61] [2,3,5,9,10,11])
 (.seq (rg [mv 62 5,op 63 (.faddr 0 (tm 10)),op 64 (.load none (tm 63)),op 65 (.faddr 1 (tm 11)),op 66 (.load none (tm 65)),op 67 (.faddr 1 (tm 10)),op 68 (.load none (tm 67)),op 69 (.call .pure 42 [(ci (4)),(tm 64),(tm 66),(tm 68)]),op 70 (.append 10 112 (tm 62) (tm 69)),mv 5 70] [2,3,5,9,10,11])
 (.seq (rg [mv 71 5,op 72 (.faddr 0 (tm 10)),op 73 (.load none (tm 72)),op 74 (.faddr 2 (tm 11)),op 75 (.load none (tm 74)),op 76 (.faddr 2 (tm 10)),op 77 (.load none (tm 76)),op 78 (.call .pure 43 [(ci (5)),(tm 73),(tm 75),(tm 77)]),op 79 (.append 10 112 (tm 71) (tm 78)),mv 5 79] [2,3,5,9,10,11])
 (.seq (rg [mv 80 5,op 81 (.faddr 0 (tm 10)),op 82 (.load none (tm 81)),op 83 (.faddr 1 (tm 10)),op 84 (.load none (tm 83)),op 85 (.faddr 1 (tm 11)),op 86 (.load none (tm 85)),op 87 (.call .pure 42 [(ci (3)),(tm 82),(tm 84),(tm 86)]),op 88 (.append 10 112 (tm 80) (tm 87)),mv 5 88] [2,3,5,9,10,11])
 (rg [mv 89 5,op 90 (.faddr 0 (tm 10)),op 91 (.load none (tm 90)),op 92 (.faddr 2 (tm 11)),op 93 (.load none (tm 92)),op 94 (.faddr 2 (tm 10)),op 95 (.load none (tm 94)),op 96 (.call .pure 44 [(ci (5)),(tm 91),(tm 93),(tm 95)]),op 97 (.append 10 112 (tm 89) (tm 96)),mv 5 97] [2,3,5,9])))))))
 (.region none [] [mv 48 9,op 49 (.bin .add .int (tm 48) (ci (1))),mv 9 49] [2,3,5,9] (some 3)))

def c20 : ACode :=
 .seq (rg [op 2 (.box 4 (tm 0)),op 3 (.box 4 (tm 1)),op 4 (.mov (.cst (.sl false [])))] [2,3])
 (.seq (rg [op 5 (.newown 10)] [2,3,5])
 (.seq (.seq (rg [op 6 (.mov (ci (0)))] [2,3,5,6])
 (.block 0 (.loop l20_0_h l20_0_b)))
 (.seq (.seq (rg [op 9 (.mov (ci (0)))] [2,3,5,9])
 (.block 2 (.loop l20_1_h l20_1_b)))
 (.seq (rg [mv 98 5,mv 4 98] [4])
 (.ret)))))

def a20 : AFunc := ⟨2,c20,[.tmp 4]⟩

def an20 : List RAnn := [
 ra 0 [2,3],
 { id := 1,live := [2,3,5],ops := [(0,.own)] },
 ra 2 [2,3,5,6],rh 3 [2,3,5,6,17] [2,3,5,6],
 { id := 5,head := some 14,live := [2,3,5,6,8],par := true },
 ra 6 [2,3,5,6,32],ra 7 [2,3,5,6],
 { id := 4,live := [2,3,5,6],trunc := some 3 },
 ra 8 [2,3,5,9],rh 9 [2,3,5,9,47] [2,3,5,9],ra 11 [2,3,5,9,10],ra 12 [2,3,5,9,10,11],ra 13 [2,3,5,9,10,11],ra 14 [2,3,5,9,10,11],ra 15 [2,3,5,9,10,11],ra 16 [2,3,5,9],
 { id := 10,live := [2,3,5,9],trunc := some 3 },
 ra 17 [4]]

theorem comp20 : compF Tryz.prog an20 Tryz.f20 = some a20 := by kernel_rfl

/- graphdb/graphdbref11.edges -/
/-- loop 0 of function 21 -/
def l21_0_h : List Nat := [2,3,5,6]

def l21_0_b : ACode :=
 .seq (.seq (rg [mv 13 6,op 14 (.faddr 1 (tm 3)),op 15 (.load none (tm 14)),op 16 (.len .slice (tm 15)),op 17 (.bin .lss .int (tm 13) (tm 16))] [2,3,5,6,17])
 (.cond (tm 17) (.skip)
 (.exit 0)))
 (.seq (.block 1 (.seq (rg [op 20 (.faddr 1 (tm 3)),op 21 (.load none (tm 20)),mv 22 6,op 23 (.iaddr 5 (tm 21) (tm 22)),op 24 (.load (some 5) (tm 23)),op 7 (.alloc 5 (.agg [.int .i64 0,.int .i64 0,.int .i64 0,.str [],.sl false []])),⟨none,.store 5 (tm 7) (tm 24),none⟩] [2,3,5,6,7])
 (.seq (rg [op 25 (.load (some 5) (tm 7)),op 26 (.load (some 4) (tm 2)),op 27 (.call .pure 40 [(tm 25),(tm 26)])] [2,3,5,6,7,27])
 (.cond (tm 27) (rg [mv 28 5,op 29 (.faddr 0 (tm 7)),op 30 (.load none (tm 29)),op 31 (.faddr 1 (tm 7)),op 32 (.load none (tm 31)),op 33 (.faddr 2 (tm 7)),op 34 (.load none (tm 33)),op 35 (.faddr 3 (tm 7)),op 36 (.load none (tm 35)),op 37 (.build [.int .i64 0,.int .i64 0,.int .i64 0,.int .i64 0,.str [],.int .i64 0,.int .i64 0,.int .i64 0,.str [],.sl false []] [(0,1,(ci (6))),(1,1,(tm 30)),(2,1,(tm 32)),(3,1,(tm 34)),(4,1,(tm 36))]),op 38 (.lit false 10 (.agg [.int .i64 0,.int .i64 0,.int .i64 0,.int .i64 0,.str [],.int .i64 0,.int .i64 0,.int .i64 0,.str [],.sl false []]) 1 [(0,(tm 37))]),op 39 (.append 10 112 (tm 28) (tm 38)),mv 5 39] [2,3,5,6])
 (.skip)))))
 (.region none [] [mv 18 6,op 19 (.bin .add .int (tm 18) (ci (1))),mv 6 19] [2,3,5,6] (some 3)))

/-- loop 1 of function 21 -/
def l21_1_h : List Nat := [2,3,5,8]

def l21_1_b : ACode :=
 .seq (.seq (rg [mv 40 8,op 41 (.faddr 1 (tm 3)),op 42 (.load none (tm 41)),op 43 (.len .slice (tm 42)),op 44 (.bin .lss .int (tm 40) (tm 43))] [2,3,5,8,44])
 (.cond (tm 44) (.skip)
 (.exit 2)))
 (.seq (.block 3 (.seq (rg [op 47 (.faddr 1 (tm 3)),op 48 (.load none (tm 47)),mv 49 8,op 50 (.iaddr 5 (tm 48) (tm 49)),op 51 (.load (some 5) (tm 50)),op 9 (.alloc 5 (.agg [.int .i64 0,.int .i64 0,.int .i64 0,.str [],.sl false []])),⟨none,.store 5 (tm 9) (tm 51),none⟩] [2,3,5,8,9])
 (.seq (rg [op 10 (.mov (.cst (.sl false [])))] [2,3,5,8,9,10])
 (.seq (.seq (rg [op 52 (.load (some 5) (tm 9)),op 53 (.load (some 4) (tm 2)),op 54 (.call .pure 40 [(tm 52),(tm 53)]),op 55 (.un .not (tm 54))] [2,3,5,8,9,10,55])
 (.cond (tm 55) (.seq (rg [op 57 (.load (some 4) (tm 2)),op 58 (.faddr 0 (tm 9)),op 59 (.load none (tm 58)),op 60 (.call .pure 45 [(tm 57),(tm 59)]),mv 56 60,op 61 (.ext (tm 56) 0),op 62 (.ext (tm 56) 1),op 11 (.alloc 5 (.agg [.int .i64 0,.int .i64 0,.int .i64 0,.str [],.sl false []])),⟨none,.store 5 (tm 11) (tm 61),none⟩,mv 12 62] [2,3,5,8,9,11])
 (rg [op 63 (.faddr 4 (tm 11)),op 64 (.load none (tm 63)),mv 10 64] [2,3,5,8,9,10]))
 (.skip)))
 (.seq (rg [mv 65 5,op 66 (.faddr 0 (tm 9)),op 67 (.load none (tm 66)),mv 68 10,op 69 (.faddr 4 (tm 9)),op 70 (.load none (tm 69)),op 71 (.call .pure 43 [(ci (8)),(tm 67),(tm 68),(tm 70)]),op 72 (.append 10 112 (tm 65) (tm 71)),mv 5 72] [2,3,5,8,9,10])
 (rg [mv 73 5,op 74 (.faddr 0 (tm 9)),op 75 (.load none (tm 74)),mv 76 10,op 77 (.faddr 4 (tm 9)),op 78 (.load none (tm 77)),op 79 (.call .pure 44 [(ci (8)),(tm 75),(tm 76),(tm 78)]),op 80 (.append 10 112 (tm 73) (tm 79)),mv 5 80] [2,3,5,8]))))))
 (.region none [] [mv 45 8,op 46 (.bin .add .int (tm 45) (ci (1))),mv 8 46] [2,3,5,8] (some 3)))

def c21 : ACode :=
 .seq (rg [op 2 (.box 4 (tm 0)),op 3 (.box 4 (tm 1)),op 4 (.mov (.cst (.sl false [])))] [2,3])
 (.seq (rg [op 5 (.newown 10)] [2,3,5])
 (.seq (.seq (rg [op 6 (.mov (ci (0)))] [2,3,5,6])
 (.block 0 (.loop l21_0_h l21_0_b)))
 (.seq (.seq (rg [op 8 (.mov (ci (0)))] [2,3,5,8])
 (.block 2 (.loop l21_1_h l21_1_b)))
 (.seq (rg [mv 81 5,mv 4 81] [4])
 (.ret)))))

def a21 : AFunc := ⟨2,c21,[.tmp 4]⟩

def an21 : List RAnn := [
 ra 0 [2,3],
 { id := 1,live := [2,3,5],ops := [(0,.own)] },
 ra 2 [2,3,5,6],rh 3 [2,3,5,6,17] [2,3,5,6],ra 5 [2,3,5,6,7],ra 6 [2,3,5,6,7,27],ra 7 [2,3,5,6],
 { id := 4,live := [2,3,5,6],trunc := some 3 },
 ra 8 [2,3,5,8],rh 9 [2,3,5,8,44] [2,3,5,8],ra 11 [2,3,5,8,9],ra 12 [2,3,5,8,9,10],ra 13 [2,3,5,8,9,10,55],ra 14 [2,3,5,8,9,11],ra 15 [2,3,5,8,9,10],ra 16 [2,3,5,8,9,10],ra 17 [2,3,5,8],
 { id := 10,live := [2,3,5,8],trunc := some 3 },
 ra 18 [4]]

theorem comp21 : compF Tryz.prog an21 Tryz.f21 = some a21 := by kernel_rfl

/- graphdb/graph.Same -/
def c22 : ACode :=
 .seq (rg [op 2 (.box 4 (tm 0)),op 3 (.box 4 (tm 1)),op 4 (.mov (.cst (.bool false)))] [2,3])
 (.seq (.seq (rg [op 6 (.faddr 2 (tm 2)),op 7 (.load none (tm 6)),op 8 (.faddr 2 (tm 3)),op 9 (.load none (tm 8)),op 10 (.bin .neq .int (tm 7) (tm 9)),mv 11 10,⟨some 12,.faddr 3 (tm 2),some (11,false)⟩,⟨some 13,.load none (tm 12),some (11,false)⟩,⟨some 14,.faddr 3 (tm 3),some (11,false)⟩,⟨some 15,.load none (tm 14),some (11,false)⟩,⟨some 16,.bin .neq .int (tm 13) (tm 15),some (11,false)⟩,op 17 (.pick (tm 11) (.cst (.bool true)) (tm 16))] [2,3,17])
 (.cond (tm 17) (.seq (rg [op 4 (.mov (.cst (.bool false)))] [4])
 (.ret))
 (.skip)))
 (.seq (rg [op 18 (.faddr 0 (tm 2)),op 19 (.load none (tm 18)),op 20 (.faddr 0 (tm 3)),op 21 (.load none (tm 20)),op 22 (.call .pure 46 [(tm 19),(tm 21),(.cst (.fn 47 []))]),mv 5 22] [2,3,5])
 (.seq (rg [mv 23 5,mv 24 23,⟨some 25,.faddr 1 (tm 2),some (24,true)⟩,⟨some 26,.load none (tm 25),some (24,true)⟩,⟨some 27,.faddr 1 (tm 3),some (24,true)⟩,⟨some 28,.load none (tm 27),some (24,true)⟩,⟨some 29,.call .pure 50 [(tm 26),(tm 28),(.cst (.fn 51 []))],some (24,true)⟩,op 30 (.pick (tm 24) (tm 29) (.cst (.bool false))),mv 4 30] [4])
 (.ret))))

def a22 : AFunc := ⟨2,c22,[.tmp 4]⟩

def an22 : List RAnn := [
 ra 0 [2,3],ra 1 [2,3,17],ra 2 [4],ra 3 [2,3,5],ra 4 [4]]

theorem comp22 : compF Tryz.prog an22 Tryz.f22 = some a22 := by kernel_rfl

/- graphdb/graphdbref07.Same -/
def c23 : ACode :=
 .seq (rg [op 2 (.box 4 (tm 0)),op 3 (.box 4 (tm 1)),op 4 (.mov (.cst (.bool false)))] [2,3])
 (.seq (rg [op 5 (.faddr 2 (tm 2)),op 6 (.load none (tm 5)),op 7 (.faddr 2 (tm 3)),op 8 (.load none (tm 7)),op 9 (.bin .eql .int (tm 6) (tm 8)),mv 10 9,⟨some 11,.faddr 3 (tm 2),some (10,true)⟩,⟨some 12,.load none (tm 11),some (10,true)⟩,⟨some 13,.faddr 3 (tm 3),some (10,true)⟩,⟨some 14,.load none (tm 13),some (10,true)⟩,⟨some 15,.bin .eql .int (tm 12) (tm 14),some (10,true)⟩,op 16 (.pick (tm 10) (tm 15) (.cst (.bool false))),mv 17 16,⟨some 18,.load (some 4) (tm 2),some (17,true)⟩,⟨some 19,.load (some 4) (tm 3),some (17,true)⟩,⟨some 20,.call .pure 52 [(tm 18),(tm 19)],some (17,true)⟩,op 21 (.pick (tm 17) (tm 20) (.cst (.bool false))),mv 4 21] [4])
 (.ret))

def a23 : AFunc := ⟨2,c23,[.tmp 4]⟩

def an23 : List RAnn := [
 ra 0 [2,3],ra 1 [4]]

theorem comp23 : compF Tryz.prog an23 Tryz.f23 = some a23 := by kernel_rfl

/- graphdb/graphdbref08.Same -/
def c24 : ACode :=
 .seq (rg [op 2 (.box 10 (tm 0)),op 3 (.box 10 (tm 1)),op 4 (.mov (.cst (.bool false)))] [2,3])
 (.seq (rg [op 5 (.faddr 0 (tm 2)),op 6 (.load none (tm 5)),op 7 (.faddr 0 (tm 3)),op 8 (.load none (tm 7)),op 9 (.bin .eql .int (tm 6) (tm 8)),mv 10 9,⟨some 11,.faddr 1 (tm 2),some (10,true)⟩,⟨some 12,.load none (tm 11),some (10,true)⟩,⟨some 13,.faddr 1 (tm 3),some (10,true)⟩,⟨some 14,.load none (tm 13),some (10,true)⟩,⟨some 15,.bin .eql .int (tm 12) (tm 14),some (10,true)⟩,op 16 (.pick (tm 10) (tm 15) (.cst (.bool false))),mv 17 16,⟨some 18,.faddr 2 (tm 2),some (17,true)⟩,⟨some 19,.load none (tm 18),some (17,true)⟩,⟨some 20,.faddr 2 (tm 3),some (17,true)⟩,⟨some 21,.load none (tm 20),some (17,true)⟩,⟨some 22,.bin .eql .int (tm 19) (tm 21),some (17,true)⟩,op 23 (.pick (tm 17) (tm 22) (.cst (.bool false))),mv 24 23,⟨some 25,.faddr 3 (tm 2),some (24,true)⟩,⟨some 26,.load none (tm 25),some (24,true)⟩,⟨some 27,.faddr 3 (tm 3),some (24,true)⟩,⟨some 28,.load none (tm 27),some (24,true)⟩,⟨some 29,.bin .eql .int (tm 26) (tm 28),some (24,true)⟩,op 30 (.pick (tm 24) (tm 29) (.cst (.bool false))),mv 31 30,⟨some 32,.faddr 4 (tm 2),some (31,true)⟩,⟨some 33,.load none (tm 32),some (31,true)⟩,⟨some 34,.faddr 4 (tm 3),some (31,true)⟩,⟨some 35,.load none (tm 34),some (31,true)⟩,⟨some 36,.bin .eql .str (tm 33) (tm 35),some (31,true)⟩,op 37 (.pick (tm 31) (tm 36) (.cst (.bool false))),mv 38 37,⟨some 39,.faddr 5 (tm 2),some (38,true)⟩,⟨some 40,.load (some 5) (tm 39),some (38,true)⟩,⟨some 41,.faddr 5 (tm 3),some (38,true)⟩,⟨some 42,.load (some 5) (tm 41),some (38,true)⟩,⟨some 43,.call .pure 53 [(tm 40),(tm 42)],some (38,true)⟩,⟨some 44,.bin .eql .int (tm 43) (ci (0)),some (38,true)⟩,op 45 (.pick (tm 38) (tm 44) (.cst (.bool false))),mv 4 45] [4])
 (.ret))

def a24 : AFunc := ⟨2,c24,[.tmp 4]⟩

def an24 : List RAnn := [
 ra 0 [2,3],ra 1 [4]]

theorem comp24 : compF Tryz.prog an24 Tryz.f24 = some a24 := by kernel_rfl

/- graphdb/graphdbref07.weigh -/
/-- loop 0 of function 25 -/
def l25_0_h : List Nat := [0,1,5]

def l25_0_b : ACode :=
 .seq (.seq (rg [mv 6 5,mv 7 0,op 8 (.len .slice (tm 7)),op 9 (.bin .lss .int (tm 6) (tm 8)),mv 10 9,mg 11 1 10 true,⟨some 12,.bin .geq .int (tm 11) (ci (0)),some (10,true)⟩,op 13 (.pick (tm 10) (tm 12) (.cst (.bool false)))] [0,1,5,13])
 (.cond (tm 13) (.skip)
 (.exit 0)))
 (.seq (.block 1 (.region (some 16) [] [
 mv 16 0,mv 17 5,op 18 (.iaddr 6 (tm 16) (tm 17)),op 19 (.faddr 1 (tm 18)),op 20 (.load (some 5) (tm 19)),mv 21 1,mv 22 0,mv 23 5,op 24 (.iaddr 6 (tm 22) (tm 23)),op 25 (.faddr 0 (tm 24)),op 26 (.load none (tm 25)),op 27 (.len .str (tm 26)),op 28 (.bin .quo .int (tm 27) (ci (50))),op 29 (.bin .sub .int (tm 21) (tm 28)),op 30 (.call .pure 54 [(tm 20),(tm 29),(ci (12))]),mv 1 30] [0,1,5] none))
 (rg [mv 14 5,op 15 (.bin .add .int (tm 14) (ci (1))),mv 5 15] [0,1,5]))

def c25 : ACode :=
 .seq (rg [op 4 (.mov (ci (0)))] [0,1])
 (.seq (.seq (rg [op 5 (.mov (ci (0)))] [0,1,5])
 (.block 0 (.loop l25_0_h l25_0_b)))
 (.seq (rg [mv 31 1,mv 4 31] [4])
 (.ret)))

def a25 : AFunc := ⟨2,c25,[.tmp 4]⟩

def an25 : List RAnn := [
 ra 0 [0,1],ra 1 [0,1,5],rh 2 [0,1,5,13] [0,1,5],
 { id := 4,head := some 16,live := [0,1,5] },
 ra 3 [0,1,5],ra 5 [4]]

theorem comp25 : compF Tryz.prog an25 Tryz.f25 = some a25 := by kernel_rfl

/- slices.Sort[[]int,int] -/
def c26 : ACode :=
 .seq (rg [mv 3 0,op 4 (.len .slice (tm 3)),mv 2 4] [0,2])
 (rg [mv 5 0,mv 6 2,mv 7 2,op 8 (.conv .u64 (tm 7)),op 9 (.call .pure 56 [(tm 8)]),op 10 (.call .share 55 [(tm 5),(ci (0)),(tm 6),(tm 9)])] [])

def a26 : AFunc := ⟨1,c26,[]⟩

def an26 : List RAnn := [
 ra 0 [0,2],
 { id := 1,ops := [(5,.mode .share)] }]

theorem comp26 : compF Tryz.prog an26 Tryz.f26 = some a26 := by kernel_rfl

/- slices.Compact[[]int,int] -/
/-- loop 0 of function 27 -/
def l27_0_h : List Nat := [0,3,4,5]

def l27_0_b : ACode :=
 .seq (.seq (rg [mv 29 5,mv 30 4,op 31 (.len .slice (tm 30)),op 32 (.bin .lss .int (tm 29) (tm 31))] [0,3,4,5,32])
 (.cond (tm 32) (.skip)
 (.exit 2)))
 (.seq (.block 3 (.seq (.region (some 10) [] [
 mv 35 4,mv 36 5,op 37 (.iaddr 1 (tm 35) (tm 36)),op 38 (.load none (tm 37)),mv 39 4,mv 40 5,op 41 (.bin .sub .int (tm 40) (ci (1))),op 42 (.iaddr 1 (tm 39) (tm 41)),op 43 (.load none (tm 42)),op 44 (.bin .neq .int (tm 38) (tm 43))] [0,3,4,5,44] none)
 (.cond (tm 44) (.seq (rg [mv 45 0,mv 46 3,mv 47 4,mv 48 5,op 49 (.iaddr 1 (tm 47) (tm 48)),op 50 (.load none (tm 49)),op 51 (.iaddr 1 (tm 45) (tm 46)),⟨none,.store 1 (tm 51) (tm 50),none⟩] [0,3,4,5])
 (rg [mv 52 3,op 53 (.bin .add .int (tm 52) (ci (1))),mv 3 53] [0,3,4,5]))
 (.skip))))
 (rg [mv 33 5,op 34 (.bin .add .int (tm 33) (ci (1))),mv 5 34] [0,3,4,5]))

/-- loop 1 of function 27 -/
def l27_1_h : List Nat := [0,3]

def l27_1_b : ACode :=
 .seq (.seq (rg [mv 10 3,mv 11 0,op 12 (.len .slice (tm 11)),op 13 (.bin .lss .int (tm 10) (tm 12))] [0,3,13])
 (.cond (tm 13) (.skip)
 (.exit 0)))
 (.seq (.block 1 (.seq (.region (some 10) [] [
 mv 16 0,mv 17 3,op 18 (.iaddr 1 (tm 16) (tm 17)),op 19 (.load none (tm 18)),mv 20 0,mv 21 3,op 22 (.bin .sub .int (tm 21) (ci (1))),op 23 (.iaddr 1 (tm 20) (tm 22)),op 24 (.load none (tm 23)),op 25 (.bin .eql .int (tm 19) (tm 24))] [0,3,25] none)
 (.cond (tm 25) (.seq (rg [mv 26 0,mv 27 3,op 28 (.slice 1 (tm 26) (some (tm 27)) none),mv 4 28] [0,3,4])
 (.seq (.seq (rg [op 5 (.mov (ci (1)))] [0,3,4,5])
 (.block 2 (.loop l27_0_h l27_0_b)))
 (.seq (rg [mv 54 0,mv 55 3,op 56 (.slice 1 (tm 54) (some (tm 55)) none),⟨none,.clear 1 (tm 56),none⟩] [0,3])
 (.seq (rg [mv 57 0,mv 58 3,op 59 (.slice 1 (tm 57) none (some (tm 58))),mv 2 59] [2])
 (.ret)))))
 (.skip))))
 (rg [mv 14 3,op 15 (.bin .add .int (tm 14) (ci (1))),mv 3 15] [0,3]))

def c27 : ACode :=
 .seq (rg [op 2 (.mov (.cst (.sl false [])))] [0])
 (.seq (.seq (rg [mv 6 0,op 7 (.len .slice (tm 6)),op 8 (.bin .lss .int (tm 7) (ci (2)))] [0,8])
 (.cond (tm 8) (.seq (rg [mv 9 0,mv 2 9] [2])
 (.ret))
 (.skip)))
 (.seq (.seq (rg [op 3 (.mov (ci (1)))] [0,3])
 (.block 0 (.loop l27_1_h l27_1_b)))
 (.seq (rg [mv 60 0,mv 2 60] [2])
 (.ret))))

def a27 : AFunc := ⟨1,c27,[.tmp 2]⟩

def an27 : List RAnn := [
 ra 0 [0],ra 1 [0,8],ra 2 [2],ra 3 [0,3],rh 4 [0,3,13] [0,3],
 { id := 6,head := some 10,live := [0,3,25] },
 ra 7 [0,3,4],ra 8 [0,3,4,5],rh 9 [0,3,4,5,32] [0,3,4,5],
 { id := 11,head := some 10,live := [0,3,4,5,44] },
 ra 12 [0,3,4,5],ra 13 [0,3,4,5],ra 10 [0,3,4,5],ra 14 [0,3],ra 15 [2],ra 5 [0,3],ra 16 [2]]

theorem comp27 : compF Tryz.prog an27 Tryz.f27 = some a27 := by kernel_rfl

/- graphdb/graph.parts -/
/-- loop 0 of function 28 -/
def l28_0_h : List Nat := [0,1,5,18,19,20]

def l28_0_b : ACode :=
 .seq (rg [op 21 (.bin .lss .int (tm 20) (tm 19))] [0,1,5,18,19,20,21])
 (.seq (.cond (tm 21) (.skip)
 (.exit 0))
 (.seq (.block 1 (.seq (rg [op 22 (.iaddr 6 (tm 18) (tm 20)),op 23 (.load (some 6) (tm 22)),op 7 (.alloc 6 (.agg [.str [],.int .i64 0,.int .i64 0,.int .i64 0,.str [],.sl false []])),⟨none,.store 6 (tm 7) (tm 23),none⟩] [0,1,5,7,18,19,20])
 (rg [mv 24 5,op 25 (.faddr 0 (tm 7)),op 26 (.load none (tm 25)),op 27 (.lit false 1 (.str []) 1 [(0,(tm 26))]),op 28 (.append 1 16 (tm 24) (tm 27)),mv 5 28] [0,1,5,18,19,20])))
 (.region none [] [op 29 (.bin .add .int (tm 20) (ci (1))),mv 20 29] [0,1,5,18,19,20] (some 1))))

/-- loop 1 of function 28 -/
def l28_1_h : List Nat := [44,45,46]

def l28_1_b : ACode :=
 .seq (rg [op 47 (.bin .lss .int (tm 46) (tm 45))] [44,45,46,47])
 (.seq (.cond (tm 47) (.skip)
 (.exit 2))
 (.seq (.block 3 (.seq (rg [op 48 (.iaddr 6 (tm 44) (tm 46)),op 49 (.load (some 6) (tm 48)),op 9 (.alloc 6 (.agg [.str [],.int .i64 0,.int .i64 0,.int .i64 0,.str [],.sl false []])),⟨none,.store 6 (tm 9) (tm 49),none⟩] [9,44,45,46])
 (.seq (rg [op 50 (.faddr 1 (tm 9)),op 51 (.load (some 5) (tm 50)),op 52 (.call .pure 60 [(tm 51)]),op 53 (.un .not (tm 52))] [44,45,46,53])
 (.cond (tm 53) (.seq (rg [op 4 (.mov (ci (8)))] [4])
 (.ret))
 (.skip)))))
 (.region none [] [op 54 (.bin .add .int (tm 46) (ci (1))),mv 46 54] [44,45,46] (some 1))))

def c28 : ACode :=
 .seq (rg [op 4 (.mov (ci (0)))] [0,1])
 (.seq (.seq (rg [mv 10 0,op 11 (.len .slice (tm 10)),op 12 (.bin .gtr .int (tm 11) (ci (8))),mv 13 12,mg 14 1 13 false,⟨some 15,.len .slice (tm 14),some (13,false)⟩,⟨some 16,.bin .gtr .int (tm 15) (ci (16)),some (13,false)⟩,op 17 (.pick (tm 13) (.cst (.bool true)) (tm 16))] [0,1,17])
 (.cond (tm 17) (.seq (rg [op 4 (.mov (ci (4)))] [4])
 (.ret))
 (.skip)))
 (.seq (rg [op 5 (.newown 1)] [0,1,5])
 (.seq (.seq (rg [mv 18 1,op 19 (.len .slice (tm 18)),op 20 (.mov (ci (0)))] [0,1,5,18,19,20])
 (.block 0 (.loop l28_0_h l28_0_b)))
 (.seq (.seq (rg [mv 30 0,op 31 (.call .pure 57 [(tm 30),(.cst (.fn 58 []))]),mv 32 31,mg 33 5 32 false,⟨some 34,.call .borrow 57 [(tm 33),(.cst (.fn 58 []))],some (32,false)⟩,op 35 (.pick (tm 32) (.cst (.bool true)) (tm 34))] [0,1,5,35])
 (.cond (tm 35) (.seq (rg [op 4 (.mov (ci (6)))] [4])
 (.ret))
 (.skip)))
 (.seq (.seq (rg [mv 36 0,op 37 (.call .pure 59 [(tm 36)]),op 38 (.un .not (tm 37)),mv 39 38,mg 40 5 39 false,⟨some 41,.call .borrow 59 [(tm 40)],some (39,false)⟩,⟨some 42,.un .not (tm 41),some (39,false)⟩,op 43 (.pick (tm 39) (.cst (.bool true)) (tm 42))] [1,43])
 (.cond (tm 43) (.seq (rg [op 4 (.mov (ci (26)))] [4])
 (.ret))
 (.skip)))
 (.seq (.seq (rg [mv 44 1,op 45 (.len .slice (tm 44)),op 46 (.mov (ci (0)))] [44,45,46])
 (.block 2 (.loop l28_1_h l28_1_b)))
 (.seq (rg [op 4 (.mov (ci (0)))] [4])
 (.ret))))))))

def a28 : AFunc := ⟨2,c28,[.tmp 4]⟩

def an28 : List RAnn := [
 ra 0 [0,1],ra 1 [0,1,17],ra 2 [4],
 { id := 3,live := [0,1,5],ops := [(0,.own)] },
 ra 4 [0,1,5,18,19,20],rh 5 [0,1,5,18,19,20,21] [0,1,5,18,19,20],ra 6 [0,1,5,7,18,19,20],ra 7 [0,1,5,18,19,20],
 { id := 8,live := [0,1,5,18,19,20],trunc := some 1 },
 { id := 9,live := [0,1,5,35],ops := [(4,.mode .borrow)] },
 ra 10 [4],
 { id := 11,live := [1,43],ops := [(5,.mode .borrow)] },
 ra 12 [4],ra 13 [44,45,46],rh 14 [44,45,46,47] [44,45,46],ra 15 [9,44,45,46],ra 16 [44,45,46,53],ra 17 [4],
 { id := 18,live := [44,45,46],trunc := some 1 },
 ra 19 [4]]

theorem comp28 : compF Tryz.prog an28 Tryz.f28 = some a28 := by kernel_rfl

/- graphdb/graph.has -/
def c29 : ACode :=
 .seq (rg [op 4 (.mov (.cst (.bool false)))] [0,1])
 (.seq (rg [mv 8 0,mv 9 1,op 10 (.call .pure 61 [(tm 8),(tm 9),(.cst (.fn 62 []))]),mv 7 10,op 11 (.ext (tm 7) 0),op 12 (.ext (tm 7) 1),mv 5 11,mv 6 12] [6])
 (.seq (rg [mv 13 6,mv 4 13] [4])
 (.ret)))

def a29 : AFunc := ⟨2,c29,[.tmp 4]⟩

def an29 : List RAnn := [
 ra 0 [0,1],ra 1 [6],ra 2 [4]]

theorem comp29 : compF Tryz.prog an29 Tryz.f29 = some a29 := by kernel_rfl

/- graphdb/graph.Name -/
/-- loop 0 of function 30 -/
def l30_0_h : List Nat := [0,18,19]

def l30_0_b : ACode :=
 .seq (rg [op 20 (.bin .lss .int (tm 19) (tm 18))] [0,18,19,20])
 (.seq (.cond (tm 20) (.skip)
 (.exit 0))
 (.seq (.block 1 (.seq (rg [mv 21 19,mv 3 21] [0,3,18,19])
 (.seq (rg [mv 22 0,mv 23 3,op 24 (.sidx (tm 22) (tm 23)),op 25 (.call .pure 64 [(tm 24)]),op 26 (.un .not (tm 25)),mv 27 26,mg 28 0 27 true,mg 29 3 27 true,⟨some 30,.sidx (tm 28) (tm 29),some (27,true)⟩,⟨some 31,.bin .lss .int (tm 30) (.cst (.int .u8 48)),some (27,true)⟩,mg 32 31 27 true,mg 33 0 32 false,mg 34 3 32 false,⟨some 35,.sidx (tm 33) (tm 34),some (32,false)⟩,⟨some 36,.bin .gtr .int (tm 35) (.cst (.int .u8 57)),some (32,false)⟩,⟨some 37,.pick (tm 32) (.cst (.bool true)) (tm 36),some (27,true)⟩,op 38 (.pick (tm 27) (tm 37) (.cst (.bool false))),mv 39 38,mg 40 0 39 true,mg 41 3 39 true,⟨some 42,.sidx (tm 40) (tm 41),some (39,true)⟩,⟨some 43,.bin .neq .int (tm 42) (.cst (.int .u8 95)),some (39,true)⟩,op 44 (.pick (tm 39) (tm 43) (.cst (.bool false)))] [0,18,19,44])
 (.cond (tm 44) (.seq (rg [op 2 (.mov (.cst (.bool false)))] [2])
 (.ret))
 (.skip)))))
 (rg [op 45 (.bin .add .int (tm 19) (ci (1))),mv 19 45] [0,18,19])))

def c30 : ACode :=
 .seq (rg [op 2 (.mov (.cst (.bool false)))] [0])
 (.seq (.seq (rg [mv 4 0,op 5 (.bin .eql .str (tm 4) (.cst (.str []))),mv 6 5,mg 7 0 6 false,⟨some 8,.len .str (tm 7),some (6,false)⟩,⟨some 9,.bin .gtr .int (tm 8) (ci (20)),some (6,false)⟩,op 10 (.pick (tm 6) (.cst (.bool true)) (tm 9)),mv 11 10,mg 12 0 11 false,⟨some 13,.sidx (tm 12) (ci (0)),some (11,false)⟩,⟨some 14,.call .pure 64 [(tm 13)],some (11,false)⟩,⟨some 15,.un .not (tm 14),some (11,false)⟩,op 16 (.pick (tm 11) (.cst (.bool true)) (tm 15))] [0,16])
 (.cond (tm 16) (.seq (rg [op 2 (.mov (.cst (.bool false)))] [2])
 (.ret))
 (.skip)))
 (.seq (.seq (rg [mv 17 0,op 18 (.len .str (tm 17)),op 19 (.mov (ci (0)))] [0,18,19])
 (.block 0 (.loop l30_0_h l30_0_b)))
 (.seq (rg [op 2 (.mov (.cst (.bool true)))] [2])
 (.ret))))

def a30 : AFunc := ⟨1,c30,[.tmp 2]⟩

def an30 : List RAnn := [
 ra 0 [0],ra 1 [0,16],ra 2 [2],ra 3 [0,18,19],rh 4 [0,18,19,20] [0,18,19],ra 5 [0,3,18,19],ra 6 [0,18,19,44],ra 7 [2],ra 8 [0,18,19],ra 9 [2]]

theorem comp30 : compF Tryz.prog an30 Tryz.f30 = some a30 := by kernel_rfl

/- graphdb/graph.Edge -/
/-- loop 0 of function 31 -/
def l31_0_h : List Nat := [1,4,9,10,11]

def l31_0_b : ACode :=
 .seq (rg [op 12 (.bin .lss .int (tm 11) (tm 10))] [1,4,9,10,11,12])
 (.seq (.cond (tm 12) (.skip)
 (.exit 0))
 (.seq (.block 1 (.seq (rg [op 13 (.iaddr 5 (tm 9) (tm 11)),op 14 (.load (some 5) (tm 13)),op 7 (.alloc 5 (.agg [.int .i64 0,.int .i64 0,.int .i64 0,.str [],.sl false []])),⟨none,.store 5 (tm 7) (tm 14),none⟩] [1,4,7,9,10,11])
 (.seq (rg [op 15 (.faddr 0 (tm 7)),op 16 (.load none (tm 15)),mv 17 1,op 18 (.bin .eql .int (tm 16) (tm 17))] [1,4,7,9,10,11,18])
 (.cond (tm 18) (.seq (rg [op 19 (.faddr 4 (tm 7)),op 20 (.load none (tm 19)),op 21 (.call .pure 65 [(tm 20)]),op 22 (.faddr 4 (tm 7)),⟨none,.store 1 (tm 22) (tm 21),none⟩] [4,7])
 (.seq (rg [op 23 (.load (some 5) (tm 7)),⟨none,.store 5 (tm 4) (tm 23),none⟩,op 5 (.mov (.cst (.bool true)))] [4,5])
 (.ret)))
 (.skip)))))
 (.region none [] [op 24 (.bin .add .int (tm 11) (ci (1))),mv 11 24] [1,4,9,10,11] (some 2))))

def c31 : ACode :=
 .seq (rg [op 2 (.box 4 (tm 0)),op 4 (.alloc 5 (.agg [.int .i64 0,.int .i64 0,.int .i64 0,.str [],.sl false []])),op 5 (.mov (.cst (.bool false)))] [1,2,4])
 (.seq (.seq (rg [op 8 (.faddr 1 (tm 2)),op 9 (.load none (tm 8)),op 10 (.len .slice (tm 9)),op 11 (.mov (ci (0)))] [1,4,9,10,11])
 (.block 0 (.loop l31_0_h l31_0_b)))
 (.seq (rg [op 25 (.build [.int .i64 0,.int .i64 0,.int .i64 0,.str [],.sl false []] []),⟨none,.store 5 (tm 4) (tm 25),none⟩,op 5 (.mov (.cst (.bool false)))] [4,5])
 (.ret)))

def a31 : AFunc := ⟨2,c31,[.cell 4 (some 5),.tmp 5]⟩

def an31 : List RAnn := [
 ra 0 [1,2,4],ra 1 [1,4,9,10,11],rh 2 [1,4,9,10,11,12] [1,4,9,10,11],ra 3 [1,4,7,9,10,11],ra 4 [1,4,7,9,10,11,18],ra 5 [4,7],ra 6 [4,5],
 { id := 7,live := [1,4,9,10,11],trunc := some 2 },
 ra 8 [4,5]]

theorem comp31 : compF Tryz.prog an31 Tryz.f31 = some a31 := by kernel_rfl

/- graphdb/delta.moved -/
def c32 : ACode :=
 .seq (rg [op 2 (.box 5 (tm 0)),op 3 (.box 5 (tm 1)),op 4 (.mov (.cst (.bool false)))] [2,3])
 (.seq (rg [op 5 (.faddr 1 (tm 2)),op 6 (.load none (tm 5)),op 7 (.faddr 1 (tm 3)),op 8 (.load none (tm 7)),op 9 (.bin .neq .int (tm 6) (tm 8)),mv 10 9,⟨some 11,.faddr 2 (tm 2),some (10,false)⟩,⟨some 12,.load none (tm 11),some (10,false)⟩,⟨some 13,.faddr 2 (tm 3),some (10,false)⟩,⟨some 14,.load none (tm 13),some (10,false)⟩,⟨some 15,.bin .neq .int (tm 12) (tm 14),some (10,false)⟩,op 16 (.pick (tm 10) (.cst (.bool true)) (tm 15)),mv 17 16,⟨some 18,.faddr 3 (tm 2),some (17,false)⟩,⟨some 19,.load none (tm 18),some (17,false)⟩,⟨some 20,.faddr 3 (tm 3),some (17,false)⟩,⟨some 21,.load none (tm 20),some (17,false)⟩,⟨some 22,.bin .neq .str (tm 19) (tm 21),some (17,false)⟩,op 23 (.pick (tm 17) (.cst (.bool true)) (tm 22)),mv 4 23] [4])
 (.ret))

def a32 : AFunc := ⟨2,c32,[.tmp 4]⟩

def an32 : List RAnn := [
 ra 0 [2,3],ra 1 [4]]

theorem comp32 : compF Tryz.prog an32 Tryz.f32 = some a32 := by kernel_rfl

/- (*graphdb/delta.script).add -/
def c33 : ACode :=
 .seq (rg [op 3 (.box 10 (tm 1))] [0,3])
 (.par 11 [] [] [
 mv 4 0,mv 5 0,op 6 (.nilchk (tm 5)),op 7 (.faddr 0 (tm 6)),op 8 (.load none (tm 7)),op 9 (.load (some 10) (tm 3)),op 10 (.lit false 10 (.agg [.int .i64 0,.int .i64 0,.int .i64 0,.int .i64 0,.str [],.int .i64 0,.int .i64 0,.int .i64 0,.str [],.sl false []]) 1 [(0,(tm 9))]),op 11 (.append 10 112 (tm 8) (tm 10)),op 12 (.nilchk (tm 4)),op 13 (.faddr 0 (tm 12)),⟨none,.store 1 (tm 13) (tm 11),none⟩] [] (some 1002))

def a33 : AFunc := ⟨2,c33,[]⟩

def an33 : List RAnn := [
 ra 0 [0,3],
 { id := 1,head := some 11,trunc := some 1002,par := true }]

theorem comp33 : compF Tryz.prog an33 Tryz.f33 = some a33 := by kernel_rfl

/- graphdb/graph.Node -/
/-- loop 0 of function 34 -/
def l34_0_h : List Nat := [1,4,9,10,11]

def l34_0_b : ACode :=
 .seq (rg [op 12 (.bin .lss .int (tm 11) (tm 10))] [1,4,9,10,11,12])
 (.seq (.cond (tm 12) (.skip)
 (.exit 0))
 (.seq (.block 1 (.seq (rg [op 13 (.iaddr 3 (tm 9) (tm 11)),op 14 (.load (some 3) (tm 13)),op 7 (.alloc 3 (.agg [.int .i64 0,.sl false [],.sl false []])),⟨none,.store 3 (tm 7) (tm 14),none⟩] [1,4,7,9,10,11])
 (.seq (rg [op 15 (.faddr 0 (tm 7)),op 16 (.load none (tm 15)),mv 17 1,op 18 (.bin .eql .int (tm 16) (tm 17))] [1,4,7,9,10,11,18])
 (.cond (tm 18) (.seq (.region (some 8) [] [
 mv 19 1,op 20 (.faddr 1 (tm 7)),op 21 (.load none (tm 20)),op 22 (.call .pure 66 [(tm 21)]),op 23 (.faddr 2 (tm 7)),op 24 (.load none (tm 23)),op 25 (.call .pure 65 [(tm 24)]),op 26 (.build [.int .i64 0,.sl false [],.sl false []] [(0,1,(tm 19)),(1,1,(tm 22)),(2,1,(tm 25))]),⟨none,.store 3 (tm 4) (tm 26),none⟩,op 5 (.mov (.cst (.bool true)))] [4,5] none)
 (.ret))
 (.skip)))))
 (.region none [] [op 27 (.bin .add .int (tm 11) (ci (1))),mv 11 27] [1,4,9,10,11] (some 2))))

def c34 : ACode :=
 .seq (rg [op 2 (.box 4 (tm 0)),op 4 (.alloc 3 (.agg [.int .i64 0,.sl false [],.sl false []])),op 5 (.mov (.cst (.bool false)))] [1,2,4])
 (.seq (.seq (rg [op 8 (.faddr 0 (tm 2)),op 9 (.load none (tm 8)),op 10 (.len .slice (tm 9)),op 11 (.mov (ci (0)))] [1,4,9,10,11])
 (.block 0 (.loop l34_0_h l34_0_b)))
 (.seq (rg [op 28 (.build [.int .i64 0,.sl false [],.sl false []] []),⟨none,.store 3 (tm 4) (tm 28),none⟩,op 5 (.mov (.cst (.bool false)))] [4,5])
 (.ret)))

def a34 : AFunc := ⟨2,c34,[.cell 4 (some 3),.tmp 5]⟩

def an34 : List RAnn := [
 ra 0 [1,2,4],ra 1 [1,4,9,10,11],rh 2 [1,4,9,10,11,12] [1,4,9,10,11],ra 3 [1,4,7,9,10,11],ra 4 [1,4,7,9,10,11,18],
 { id := 5,head := some 8,live := [4,5] },
 { id := 6,live := [1,4,9,10,11],trunc := some 2 },
 ra 7 [4,5]]

theorem comp34 : compF Tryz.prog an34 Tryz.f34 = some a34 := by kernel_rfl

/- (*graphdb/delta.script).names -/
/-- loop 0 of function 35 -/
def l35_0_h : List Nat := [0,1,2,4,12,13,14]

def l35_0_b : ACode :=
 .seq (rg [op 15 (.bin .lss .int (tm 14) (tm 13))] [0,1,2,4,12,13,14,15])
 (.seq (.cond (tm 15) (.skip)
 (.exit 0))
 (.seq (.block 1 (.seq (rg [op 16 (.iaddr 1 (tm 12) (tm 14)),op 17 (.load none (tm 16)),mv 11 17] [0,1,2,4,11,12,13,14])
 (.seq (rg [mv 18 4,mv 19 11,op 20 (.call .pure 67 [(tm 18),(tm 19)]),op 21 (.un .not (tm 20))] [0,1,2,4,11,12,13,14,21])
 (.cond (tm 21) (rg [mv 22 0,mv 23 1,mv 24 2,mv 25 11,op 26 (.build [.int .i64 0,.int .i64 0,.int .i64 0,.int .i64 0,.str [],.int .i64 0,.int .i64 0,.int .i64 0,.str [],.sl false []] [(0,1,(tm 23)),(1,1,(tm 24)),(4,1,(tm 25))]),op 27 (.call .keep 33 [(tm 22),(tm 26)])] [0,1,2,4,12,13,14])
 (.skip)))))
 (rg [op 28 (.bin .add .int (tm 14) (ci (1))),mv 14 28] [0,1,2,4,12,13,14])))

def c35 : ACode :=
 .seq (rg [mv 12 3,op 13 (.len .slice (tm 12)),op 14 (.mov (ci (0)))] [0,1,2,4,12,13,14])
 (.block 0 (.loop l35_0_h l35_0_b))

def a35 : AFunc := ⟨5,c35,[]⟩

def an35 : List RAnn := [
 ra 0 [0,1,2,4,12,13,14],rh 1 [0,1,2,4,12,13,14,15] [0,1,2,4,12,13,14],ra 2 [0,1,2,4,11,12,13,14],ra 3 [0,1,2,4,11,12,13,14,21],
 { id := 4,live := [0,1,2,4,12,13,14],ops := [(5,.mode .keep)] },
 ra 5 [0,1,2,4,12,13,14]]

theorem comp35 : compF Tryz.prog an35 Tryz.f35 = some a35 := by kernel_rfl

/- graphdb/delta.keys -/
/-- loop 0 of function 36 -/
def l36_0_h : List Nat := [3,9,10,11]

def l36_0_b : ACode :=
 .seq (rg [op 12 (.bin .lss .int (tm 11) (tm 10))] [3,9,10,11,12])
 (.seq (.cond (tm 12) (.skip)
 (.exit 0))
 (.seq (.block 1 (.seq (rg [mv 13 11,op 14 (.iaddr 6 (tm 9) (tm 11)),op 15 (.load (some 6) (tm 14)),op 5 (.alloc 6 (.agg [.str [],.int .i64 0,.int .i64 0,.int .i64 0,.str [],.sl false []])),mv 4 13,⟨none,.store 6 (tm 5) (tm 15),none⟩] [3,4,5,9,10,11])
 (rg [mv 16 3,mv 17 4,op 18 (.faddr 0 (tm 5)),op 19 (.load none (tm 18)),op 20 (.iaddr 1 (tm 16) (tm 17)),⟨none,.store 1 (tm 20) (tm 19),none⟩] [3,9,10,11])))
 (.region none [] [op 21 (.bin .add .int (tm 11) (ci (1))),mv 11 21] [3,9,10,11] (some 1))))

def c36 : ACode :=
 .seq (rg [op 2 (.mov (.cst (.sl false [])))] [0])
 (.seq (rg [mv 6 0,op 7 (.len .slice (tm 6)),op 8 (.mkslice 1 16 (.str []) (tm 7) (tm 7)),mv 3 8] [0,3])
 (.seq (.seq (rg [mv 9 0,op 10 (.len .slice (tm 9)),op 11 (.mov (ci (0)))] [3,9,10,11])
 (.block 0 (.loop l36_0_h l36_0_b)))
 (.seq (rg [mv 22 3,mv 2 22] [2])
 (.ret))))

def a36 : AFunc := ⟨1,c36,[.tmp 2]⟩

def an36 : List RAnn := [
 ra 0 [0],ra 1 [0,3],ra 2 [3,9,10,11],rh 3 [3,9,10,11,12] [3,9,10,11],ra 4 [3,4,5,9,10,11],ra 5 [3,9,10,11],
 { id := 6,live := [3,9,10,11],trunc := some 1 },
 ra 7 [2]]

theorem comp36 : compF Tryz.prog an36 Tryz.f36 = some a36 := by kernel_rfl

/- (*graphdb/delta.script).values -/
/-- loop 0 of function 37 -/
def l37_0_h : List Nat := [0,1,2,3,12,13,14]

def l37_0_b : ACode :=
 .seq (rg [op 15 (.bin .lss .int (tm 14) (tm 13))] [0,1,2,3,12,13,14,15])
 (.seq (.cond (tm 15) (.skip)
 (.exit 0))
 (.seq (.block 1 (.seq (rg [op 16 (.iaddr 6 (tm 12) (tm 14)),op 17 (.load (some 6) (tm 16)),op 11 (.alloc 6 (.agg [.str [],.int .i64 0,.int .i64 0,.int .i64 0,.str [],.sl false []])),⟨none,.store 6 (tm 11) (tm 17),none⟩] [0,1,2,3,11,12,13,14])
 (.seq (.region (some 8) [] [
 mv 18 3,op 19 (.faddr 0 (tm 11)),op 20 (.load none (tm 19)),op 21 (.call .pure 69 [(tm 18),(tm 20)]),op 22 (.faddr 1 (tm 11)),op 23 (.load (some 5) (tm 22)),op 24 (.call .pure 68 [(tm 21),(tm 23)]),op 25 (.bin .neq .int (tm 24) (ci (0)))] [0,1,2,3,11,12,13,14,25] none)
 (.cond (tm 25) (rg [mv 26 0,mv 27 1,mv 28 2,op 29 (.faddr 0 (tm 11)),op 30 (.load none (tm 29)),op 31 (.faddr 1 (tm 11)),op 32 (.load (some 5) (tm 31)),op 33 (.build [.int .i64 0,.int .i64 0,.int .i64 0,.int .i64 0,.str [],.int .i64 0,.int .i64 0,.int .i64 0,.str [],.sl false []] [(0,1,(tm 27)),(1,1,(tm 28)),(4,1,(tm 30)),(5,5,(tm 32))]),op 34 (.call .keep 33 [(tm 26),(tm 33)])] [0,1,2,3,12,13,14])
 (.skip)))))
 (.region none [] [op 35 (.bin .add .int (tm 14) (ci (1))),mv 14 35] [0,1,2,3,12,13,14] (some 1001))))

def c37 : ACode :=
 .seq (rg [mv 12 4,op 13 (.len .slice (tm 12)),op 14 (.mov (ci (0)))] [0,1,2,3,12,13,14])
 (.block 0 (.loop l37_0_h l37_0_b))

def a37 : AFunc := ⟨5,c37,[]⟩

def an37 : List RAnn := [
 ra 0 [0,1,2,3,12,13,14],rh 1 [0,1,2,3,12,13,14,15] [0,1,2,3,12,13,14],ra 2 [0,1,2,3,11,12,13,14],
 { id := 3,head := some 8,live := [0,1,2,3,11,12,13,14,25] },
 { id := 4,live := [0,1,2,3,12,13,14],ops := [(8,.mode .keep)] },
 { id := 5,live := [0,1,2,3,12,13,14],trunc := some 1001 }]

theorem comp37 : compF Tryz.prog an37 Tryz.f37 = some a37 := by kernel_rfl

/- graphdb/graphdbref07.node -/
def c38 : ACode :=
 .seq (rg [op 2 (.box 4 (tm 0)),op 4 (.mov (ci (0)))] [1,2])
 (.seq (rg [op 6 (.faddr 0 (tm 2)),op 7 (.load none (tm 6)),mv 8 1,op 9 (.iaddr 3 (tm 7) (tm 8)),op 10 (.load (some 3) (tm 9)),op 5 (.alloc 3 (.agg [.int .i64 0,.sl false [],.sl false []])),⟨none,.store 3 (tm 5) (tm 10),none⟩] [1,2,5])
 (.seq (.seq (.region (some 14) [] [
 mv 11 1,op 12 (.bin .gtr .int (tm 11) (ci (0))),mv 13 12,⟨some 14,.faddr 0 (tm 5),some (13,true)⟩,⟨some 15,.load none (tm 14),some (13,true)⟩,⟨some 16,.faddr 0 (tm 2),some (13,true)⟩,⟨some 17,.load none (tm 16),some (13,true)⟩,mg 18 1 13 true,⟨some 19,.bin .sub .int (tm 18) (ci (1)),some (13,true)⟩,⟨some 20,.iaddr 3 (tm 17) (tm 19),some (13,true)⟩,⟨some 21,.faddr 0 (tm 20),some (13,true)⟩,⟨some 22,.load none (tm 21),some (13,true)⟩,⟨some 23,.bin .leq .int (tm 15) (tm 22),some (13,true)⟩,op 24 (.pick (tm 13) (tm 23) (.cst (.bool false)))] [2,5,24] none)
 (.cond (tm 24) (.seq (rg [op 4 (.mov (ci (26)))] [4])
 (.ret))
 (.skip)))
 (.seq (.seq (rg [op 25 (.faddr 0 (tm 5)),op 26 (.load none (tm 25)),op 27 (.bin .lss .int (tm 26) (ci (1))),mv 28 27,⟨some 29,.faddr 0 (tm 5),some (28,false)⟩,⟨some 30,.load none (tm 29),some (28,false)⟩,⟨some 31,.faddr 2 (tm 2),some (28,false)⟩,⟨some 32,.load none (tm 31),some (28,false)⟩,⟨some 33,.bin .geq .int (tm 30) (tm 32),some (28,false)⟩,op 34 (.pick (tm 28) (.cst (.bool true)) (tm 33))] [5,34])
 (.cond (tm 34) (.seq (rg [op 4 (.mov (ci (1)))] [4])
 (.ret))
 (.skip)))
 (.seq (rg [op 35 (.faddr 1 (tm 5)),op 36 (.load none (tm 35)),op 37 (.faddr 2 (tm 5)),op 38 (.load none (tm 37)),op 39 (.call .pure 70 [(tm 36),(tm 38)]),mv 4 39] [4])
 (.ret)))))

def a38 : AFunc := ⟨2,c38,[.tmp 4]⟩

def an38 : List RAnn := [
 ra 0 [1,2],ra 1 [1,2,5],
 { id := 2,head := some 14,live := [2,5,24] },
 ra 3 [4],ra 4 [5,34],ra 5 [4],ra 6 [4]]

theorem comp38 : compF Tryz.prog an38 Tryz.f38 = some a38 := by kernel_rfl

/- graphdb/graphdbref07.edge -/
def c39 : ACode :=
 .seq (rg [op 2 (.box 4 (tm 0)),op 4 (.mov (ci (0)))] [1,2])
 (.seq (rg [op 10 (.faddr 1 (tm 2)),op 11 (.load none (tm 10)),mv 12 1,op 13 (.iaddr 5 (tm 11) (tm 12)),op 14 (.load (some 5) (tm 13)),op 5 (.alloc 5 (.agg [.int .i64 0,.int .i64 0,.int .i64 0,.str [],.sl false []])),⟨none,.store 5 (tm 5) (tm 14),none⟩] [1,2,5])
 (.seq (.seq (.region (some 14) [] [
 mv 15 1,op 16 (.bin .gtr .int (tm 15) (ci (0))),mv 17 16,⟨some 18,.faddr 0 (tm 5),some (17,true)⟩,⟨some 19,.load none (tm 18),some (17,true)⟩,⟨some 20,.faddr 1 (tm 2),some (17,true)⟩,⟨some 21,.load none (tm 20),some (17,true)⟩,mg 22 1 17 true,⟨some 23,.bin .sub .int (tm 22) (ci (1)),some (17,true)⟩,⟨some 24,.iaddr 5 (tm 21) (tm 23),some (17,true)⟩,⟨some 25,.faddr 0 (tm 24),some (17,true)⟩,⟨some 26,.load none (tm 25),some (17,true)⟩,⟨some 27,.bin .leq .int (tm 19) (tm 26),some (17,true)⟩,op 28 (.pick (tm 17) (tm 27) (.cst (.bool false)))] [2,5,28] none)
 (.cond (tm 28) (.seq (rg [op 4 (.mov (ci (26)))] [4])
 (.ret))
 (.skip)))
 (.seq (.seq (rg [op 29 (.faddr 0 (tm 5)),op 30 (.load none (tm 29)),op 31 (.bin .lss .int (tm 30) (ci (1))),mv 32 31,⟨some 33,.faddr 0 (tm 5),some (32,false)⟩,⟨some 34,.load none (tm 33),some (32,false)⟩,⟨some 35,.faddr 3 (tm 2),some (32,false)⟩,⟨some 36,.load none (tm 35),some (32,false)⟩,⟨some 37,.bin .geq .int (tm 34) (tm 36),some (32,false)⟩,op 38 (.pick (tm 32) (.cst (.bool true)) (tm 37))] [2,5,38])
 (.cond (tm 38) (.seq (rg [op 4 (.mov (ci (1)))] [4])
 (.ret))
 (.skip)))
 (.seq (rg [op 40 (.load (some 4) (tm 2)),op 41 (.faddr 1 (tm 5)),op 42 (.load none (tm 41)),op 43 (.call .pure 41 [(tm 40),(tm 42)]),mv 39 43,op 44 (.ext (tm 39) 0),op 45 (.ext (tm 39) 1),op 6 (.alloc 3 (.agg [.int .i64 0,.sl false [],.sl false []])),⟨none,.store 3 (tm 6) (tm 44),none⟩,mv 7 45] [2,5,7])
 (.seq (rg [op 47 (.load (some 4) (tm 2)),op 48 (.faddr 2 (tm 5)),op 49 (.load none (tm 48)),op 50 (.call .pure 41 [(tm 47),(tm 49)]),mv 46 50,op 51 (.ext (tm 46) 0),op 52 (.ext (tm 46) 1),op 8 (.alloc 3 (.agg [.int .i64 0,.sl false [],.sl false []])),⟨none,.store 3 (tm 8) (tm 51),none⟩,mv 9 52] [5,7,9])
 (.seq (.seq (rg [mv 53 7,op 54 (.un .not (tm 53)),mv 55 54,mg 56 9 55 false,⟨some 57,.un .not (tm 56),some (55,false)⟩,op 58 (.pick (tm 55) (.cst (.bool true)) (tm 57))] [5,58])
 (.cond (tm 58) (.seq (rg [op 4 (.mov (ci (10)))] [4])
 (.ret))
 (.skip)))
 (.seq (.seq (rg [op 59 (.faddr 3 (tm 5)),op 60 (.load none (tm 59)),op 61 (.call .pure 71 [(tm 60)]),op 62 (.un .not (tm 61))] [5,62])
 (.cond (tm 62) (.seq (rg [op 4 (.mov (ci (6)))] [4])
 (.ret))
 (.skip)))
 (.seq (rg [op 63 (.faddr 4 (tm 5)),op 64 (.load none (tm 63)),op 65 (.call .pure 70 [(.cst (.sl false [])),(tm 64)]),mv 4 65] [4])
 (.ret)))))))))

def a39 : AFunc := ⟨2,c39,[.tmp 4]⟩

def an39 : List RAnn := [
 ra 0 [1,2],ra 1 [1,2,5],
 { id := 2,head := some 14,live := [2,5,28] },
 ra 3 [4],ra 4 [2,5,38],ra 5 [4],ra 6 [2,5,7],ra 7 [5,7,9],ra 8 [5,58],ra 9 [4],ra 10 [5,62],ra 11 [4],ra 12 [4]]

theorem comp39 : compF Tryz.prog an39 Tryz.f39 = some a39 := by kernel_rfl

/- graphdb/graphdbref11.gone -/
def c40 : ACode :=
 .seq (rg [op 2 (.box 5 (tm 0)),op 3 (.box 4 (tm 1)),op 4 (.mov (.cst (.bool false)))] [2,3])
 (.seq (rg [op 8 (.load (some 4) (tm 3)),op 9 (.faddr 0 (tm 2)),op 10 (.load none (tm 9)),op 11 (.call .pure 45 [(tm 8),(tm 10)]),mv 7 11,op 12 (.ext (tm 7) 0),op 13 (.ext (tm 7) 1),op 5 (.alloc 5 (.agg [.int .i64 0,.int .i64 0,.int .i64 0,.str [],.sl false []])),⟨none,.store 5 (tm 5) (tm 12),none⟩,mv 6 13] [2,5,6])
 (.seq (rg [mv 14 6,op 15 (.un .not (tm 14)),mv 16 15,⟨some 17,.load (some 5) (tm 2),some (16,false)⟩,⟨some 18,.load (some 5) (tm 5),some (16,false)⟩,⟨some 19,.call .pure 72 [(tm 17),(tm 18)],some (16,false)⟩,⟨some 20,.un .not (tm 19),some (16,false)⟩,op 21 (.pick (tm 16) (.cst (.bool true)) (tm 20)),mv 4 21] [4])
 (.ret)))

def a40 : AFunc := ⟨2,c40,[.tmp 4]⟩

def an40 : List RAnn := [
 ra 0 [2,3],ra 1 [2,5,6],ra 2 [4]]

theorem comp40 : compF Tryz.prog an40 Tryz.f40 = some a40 := by kernel_rfl

/- graphdb/graphdbref07.Node -/
/-- loop 0 of function 41 -/
def l41_0_h : List Nat := [1,2,4,6]

def l41_0_b : ACode :=
 .seq (.seq (rg [mv 7 6,op 8 (.faddr 0 (tm 2)),op 9 (.load none (tm 8)),op 10 (.len .slice (tm 9)),op 11 (.bin .lss .int (tm 7) (tm 10))] [1,2,4,6,11])
 (.cond (tm 11) (.skip)
 (.exit 0)))
 (.seq (.block 1 (.seq (rg [op 14 (.faddr 0 (tm 2)),op 15 (.load none (tm 14)),mv 16 6,op 17 (.iaddr 3 (tm 15) (tm 16)),op 18 (.faddr 0 (tm 17)),op 19 (.load none (tm 18)),mv 20 1,op 21 (.bin .eql .int (tm 19) (tm 20))] [1,2,4,6,21])
 (.cond (tm 21) (.seq (rg [op 22 (.faddr 0 (tm 2)),op 23 (.load none (tm 22)),mv 24 6,op 25 (.iaddr 3 (tm 23) (tm 24)),op 26 (.load (some 3) (tm 25)),⟨none,.store 3 (tm 4) (tm 26),none⟩,op 5 (.mov (.cst (.bool true)))] [4,5])
 (.ret))
 (.skip))))
 (rg [mv 12 6,op 13 (.bin .add .int (tm 12) (ci (1))),mv 6 13] [1,2,4,6]))

def c41 : ACode :=
 .seq (rg [op 2 (.box 4 (tm 0)),op 4 (.alloc 3 (.agg [.int .i64 0,.sl false [],.sl false []])),op 5 (.mov (.cst (.bool false)))] [1,2,4])
 (.seq (.seq (rg [op 6 (.mov (ci (0)))] [1,2,4,6])
 (.block 0 (.loop l41_0_h l41_0_b)))
 (.seq (rg [op 27 (.build [.int .i64 0,.sl false [],.sl false []] []),⟨none,.store 3 (tm 4) (tm 27),none⟩,op 5 (.mov (.cst (.bool false)))] [4,5])
 (.ret)))

def a41 : AFunc := ⟨2,c41,[.cell 4 (some 3),.tmp 5]⟩

def an41 : List RAnn := [
 ra 0 [1,2,4],ra 1 [1,2,4,6],rh 2 [1,2,4,6,11] [1,2,4,6],ra 4 [1,2,4,6,21],ra 5 [4,5],ra 3 [1,2,4,6],ra 6 [4,5]]

theorem comp41 : compF Tryz.prog an41 Tryz.f41 = some a41 := by kernel_rfl

/- graphdb/graphdbref11.labels -/
/-- loop 0 of function 42 -/
def l42_0_h : List Nat := [0,1,2,3,9,10]

def l42_0_b : ACode :=
 .seq (.seq (rg [mv 11 10,mv 12 2,op 13 (.len .slice (tm 12)),op 14 (.bin .lss .int (tm 11) (tm 13))] [0,1,2,3,9,10,14])
 (.cond (tm 14) (.skip)
 (.exit 0)))
 (.seq (.block 1 (.seq (rg [mv 17 3,mv 18 2,mv 19 10,op 20 (.iaddr 1 (tm 18) (tm 19)),op 21 (.load none (tm 20)),op 22 (.call .pure 73 [(tm 17),(tm 21)]),op 23 (.un .not (tm 22))] [0,1,2,3,9,10,23])
 (.cond (tm 23) (rg [mv 24 9,mv 25 0,mv 26 1,mv 27 2,mv 28 10,op 29 (.iaddr 1 (tm 27) (tm 28)),op 30 (.load none (tm 29)),op 31 (.build [.int .i64 0,.int .i64 0,.int .i64 0,.int .i64 0,.str [],.int .i64 0,.int .i64 0,.int .i64 0,.str [],.sl false []] [(0,1,(tm 25)),(1,1,(tm 26)),(4,1,(tm 30))]),op 32 (.lit false 10 (.agg [.int .i64 0,.int .i64 0,.int .i64 0,.int .i64 0,.str [],.int .i64 0,.int .i64 0,.int .i64 0,.str [],.sl false []]) 1 [(0,(tm 31))]),op 33 (.append 10 112 (tm 24) (tm 32)),mv 9 33] [0,1,2,3,9,10])
 (.skip))))
 (rg [mv 15 10,op 16 (.bin .add .int (tm 15) (ci (1))),mv 10 16] [0,1,2,3,9,10]))

def c42 : ACode :=
 .seq (rg [op 8 (.mov (.cst (.sl false [])))] [0,1,2,3])
 (.seq (rg [op 9 (.newown 10)] [0,1,2,3,9])
 (.seq (.seq (rg [op 10 (.mov (ci (0)))] [0,1,2,3,9,10])
 (.block 0 (.loop l42_0_h l42_0_b)))
 (.seq (rg [mv 34 9,mv 8 34] [8])
 (.ret))))

def a42 : AFunc := ⟨4,c42,[.tmp 8]⟩

def an42 : List RAnn := [
 ra 0 [0,1,2,3],
 { id := 1,live := [0,1,2,3,9],ops := [(0,.own)] },
 ra 2 [0,1,2,3,9,10],rh 3 [0,1,2,3,9,10,14] [0,1,2,3,9,10],ra 5 [0,1,2,3,9,10,23],ra 6 [0,1,2,3,9,10],ra 4 [0,1,2,3,9,10],ra 7 [8]]

theorem comp42 : compF Tryz.prog an42 Tryz.f42 = some a42 := by kernel_rfl

/- graphdb/graphdbref11.removed -/
/-- loop 0 of function 43 -/
def l43_0_h : List Nat := [0,1,2,3,9,10]

def l43_0_b : ACode :=
 .seq (.seq (rg [mv 11 10,mv 12 2,op 13 (.len .slice (tm 12)),op 14 (.bin .lss .int (tm 11) (tm 13))] [0,1,2,3,9,10,14])
 (.cond (tm 14) (.skip)
 (.exit 0)))
 (.seq (.block 1 (.seq (rg [mv 17 3,mv 18 2,mv 19 10,op 20 (.iaddr 6 (tm 18) (tm 19)),op 21 (.faddr 0 (tm 20)),op 22 (.load none (tm 21)),op 23 (.call .pure 74 [(tm 17),(tm 22)]),op 24 (.un .not (tm 23))] [0,1,2,3,9,10,24])
 (.cond (tm 24) (rg [mv 25 9,mv 26 0,mv 27 1,mv 28 2,mv 29 10,op 30 (.iaddr 6 (tm 28) (tm 29)),op 31 (.faddr 0 (tm 30)),op 32 (.load none (tm 31)),op 33 (.build [.int .i64 0,.int .i64 0,.int .i64 0,.int .i64 0,.str [],.int .i64 0,.int .i64 0,.int .i64 0,.str [],.sl false []] [(0,1,(tm 26)),(1,1,(tm 27)),(4,1,(tm 32))]),op 34 (.lit false 10 (.agg [.int .i64 0,.int .i64 0,.int .i64 0,.int .i64 0,.str [],.int .i64 0,.int .i64 0,.int .i64 0,.str [],.sl false []]) 1 [(0,(tm 33))]),op 35 (.append 10 112 (tm 25) (tm 34)),mv 9 35] [0,1,2,3,9,10])
 (.skip))))
 (rg [mv 15 10,op 16 (.bin .add .int (tm 15) (ci (1))),mv 10 16] [0,1,2,3,9,10]))

def c43 : ACode :=
 .seq (rg [op 8 (.mov (.cst (.sl false [])))] [0,1,2,3])
 (.seq (rg [op 9 (.newown 10)] [0,1,2,3,9])
 (.seq (.seq (rg [op 10 (.mov (ci (0)))] [0,1,2,3,9,10])
 (.block 0 (.loop l43_0_h l43_0_b)))
 (.seq (rg [mv 36 9,mv 8 36] [8])
 (.ret))))

def a43 : AFunc := ⟨4,c43,[.tmp 8]⟩

def an43 : List RAnn := [
 ra 0 [0,1,2,3],
 { id := 1,live := [0,1,2,3,9],ops := [(0,.own)] },
 ra 2 [0,1,2,3,9,10],rh 3 [0,1,2,3,9,10,14] [0,1,2,3,9,10],ra 5 [0,1,2,3,9,10,24],ra 6 [0,1,2,3,9,10],ra 4 [0,1,2,3,9,10],ra 7 [8]]

theorem comp43 : compF Tryz.prog an43 Tryz.f43 = some a43 := by kernel_rfl

/- graphdb/graphdbref11.assigned -/
/-- loop 0 of function 44 -/
def l44_0_h : List Nat := [0,1,2,3,9,10]

def l44_0_b : ACode :=
 .seq (.seq (rg [mv 11 10,mv 12 3,op 13 (.len .slice (tm 12)),op 14 (.bin .lss .int (tm 11) (tm 13))] [0,1,2,3,9,10,14])
 (.cond (tm 14) (.skip)
 (.exit 0)))
 (.seq (.block 1 (.seq (.region (some 24) [] [
 mv 17 2,mv 18 3,mv 19 10,op 20 (.iaddr 6 (tm 18) (tm 19)),op 21 (.faddr 0 (tm 20)),op 22 (.load none (tm 21)),op 23 (.call .pure 74 [(tm 17),(tm 22)]),op 24 (.un .not (tm 23)),mv 25 24,mg 26 2 25 false,mg 27 3 25 false,mg 28 10 25 false,⟨some 29,.iaddr 6 (tm 27) (tm 28),some (25,false)⟩,⟨some 30,.faddr 0 (tm 29),some (25,false)⟩,⟨some 31,.load none (tm 30),some (25,false)⟩,⟨some 32,.call .pure 75 [(tm 26),(tm 31)],some (25,false)⟩,mg 33 3 25 false,mg 34 10 25 false,⟨some 35,.iaddr 6 (tm 33) (tm 34),some (25,false)⟩,⟨some 36,.faddr 1 (tm 35),some (25,false)⟩,⟨some 37,.load (some 5) (tm 36),some (25,false)⟩,⟨some 38,.call .pure 53 [(tm 32),(tm 37)],some (25,false)⟩,⟨some 39,.bin .neq .int (tm 38) (ci (0)),some (25,false)⟩,op 40 (.pick (tm 25) (.cst (.bool true)) (tm 39))] [0,1,2,3,9,10,40] none)
 (.cond (tm 40) (.region (some 15) [] [
 mv 41 9,mv 42 0,mv 43 1,mv 44 3,mv 45 10,op 46 (.iaddr 6 (tm 44) (tm 45)),op 47 (.faddr 0 (tm 46)),op 48 (.load none (tm 47)),mv 49 3,mv 50 10,op 51 (.iaddr 6 (tm 49) (tm 50)),op 52 (.faddr 1 (tm 51)),op 53 (.load (some 5) (tm 52)),op 54 (.build [.int .i64 0,.int .i64 0,.int .i64 0,.int .i64 0,.str [],.int .i64 0,.int .i64 0,.int .i64 0,.str [],.sl false []] [(0,1,(tm 42)),(1,1,(tm 43)),(4,1,(tm 48)),(5,5,(tm 53))]),op 55 (.lit false 10 (.agg [.int .i64 0,.int .i64 0,.int .i64 0,.int .i64 0,.str [],.int .i64 0,.int .i64 0,.int .i64 0,.str [],.sl false []]) 1 [(0,(tm 54))]),op 56 (.append 10 112 (tm 41) (tm 55)),mv 9 56] [0,1,2,3,9,10] none)
 (.skip))))
 (rg [mv 15 10,op 16 (.bin .add .int (tm 15) (ci (1))),mv 10 16] [0,1,2,3,9,10]))

def c44 : ACode :=
 .seq (rg [op 8 (.mov (.cst (.sl false [])))] [0,1,2,3])
 (.seq (rg [op 9 (.newown 10)] [0,1,2,3,9])
 (.seq (.seq (rg [op 10 (.mov (ci (0)))] [0,1,2,3,9,10])
 (.block 0 (.loop l44_0_h l44_0_b)))
 (.seq (rg [mv 57 9,mv 8 57] [8])
 (.ret))))

def a44 : AFunc := ⟨4,c44,[.tmp 8]⟩

def an44 : List RAnn := [
 ra 0 [0,1,2,3],
 { id := 1,live := [0,1,2,3,9],ops := [(0,.own)] },
 ra 2 [0,1,2,3,9,10],rh 3 [0,1,2,3,9,10,14] [0,1,2,3,9,10],
 { id := 5,head := some 24,live := [0,1,2,3,9,10,40] },
 { id := 6,head := some 15,live := [0,1,2,3,9,10] },
 ra 4 [0,1,2,3,9,10],ra 7 [8]]

theorem comp44 : compF Tryz.prog an44 Tryz.f44 = some a44 := by kernel_rfl

/- graphdb/graphdbref07.Edge -/
/-- loop 0 of function 45 -/
def l45_0_h : List Nat := [1,2,4,6]

def l45_0_b : ACode :=
 .seq (.seq (rg [mv 7 6,op 8 (.faddr 1 (tm 2)),op 9 (.load none (tm 8)),op 10 (.len .slice (tm 9)),op 11 (.bin .lss .int (tm 7) (tm 10))] [1,2,4,6,11])
 (.cond (tm 11) (.skip)
 (.exit 0)))
 (.seq (.block 1 (.seq (rg [op 14 (.faddr 1 (tm 2)),op 15 (.load none (tm 14)),mv 16 6,op 17 (.iaddr 5 (tm 15) (tm 16)),op 18 (.faddr 0 (tm 17)),op 19 (.load none (tm 18)),mv 20 1,op 21 (.bin .eql .int (tm 19) (tm 20))] [1,2,4,6,21])
 (.cond (tm 21) (.seq (rg [op 22 (.faddr 1 (tm 2)),op 23 (.load none (tm 22)),mv 24 6,op 25 (.iaddr 5 (tm 23) (tm 24)),op 26 (.load (some 5) (tm 25)),⟨none,.store 5 (tm 4) (tm 26),none⟩,op 5 (.mov (.cst (.bool true)))] [4,5])
 (.ret))
 (.skip))))
 (rg [mv 12 6,op 13 (.bin .add .int (tm 12) (ci (1))),mv 6 13] [1,2,4,6]))

def c45 : ACode :=
 .seq (rg [op 2 (.box 4 (tm 0)),op 4 (.alloc 5 (.agg [.int .i64 0,.int .i64 0,.int .i64 0,.str [],.sl false []])),op 5 (.mov (.cst (.bool false)))] [1,2,4])
 (.seq (.seq (rg [op 6 (.mov (ci (0)))] [1,2,4,6])
 (.block 0 (.loop l45_0_h l45_0_b)))
 (.seq (rg [op 27 (.build [.int .i64 0,.int .i64 0,.int .i64 0,.str [],.sl false []] []),⟨none,.store 5 (tm 4) (tm 27),none⟩,op 5 (.mov (.cst (.bool false)))] [4,5])
 (.ret)))

def a45 : AFunc := ⟨2,c45,[.cell 4 (some 5),.tmp 5]⟩

def an45 : List RAnn := [
 ra 0 [1,2,4],ra 1 [1,2,4,6],rh 2 [1,2,4,6,11] [1,2,4,6],ra 4 [1,2,4,6,21],ra 5 [4,5],ra 3 [1,2,4,6],ra 6 [4,5]]

theorem comp45 : compF Tryz.prog an45 Tryz.f45 = some a45 := by kernel_rfl

/- slices.EqualFunc[[]graphdb/api.Node,[]graphdb/api.Node,graphdb/api.Node,graphdb/api.Node] -/
/-- loop 0 of function 46 -/
def l46_0_h : List Nat := [1,2,15,16,17]

def l46_0_b : ACode :=
 .seq (rg [op 18 (.bin .lss .int (tm 17) (tm 16))] [1,2,15,16,17,18])
 (.seq (.cond (tm 18) (.skip)
 (.exit 0))
 (.seq (.block 1 (.seq (rg [mv 19 17,op 20 (.iaddr 3 (tm 15) (tm 17)),op 21 (.load (some 3) (tm 20)),op 8 (.alloc 3 (.agg [.int .i64 0,.sl false [],.sl false []])),mv 7 19,⟨none,.store 3 (tm 8) (tm 21),none⟩] [1,2,7,8,15,16,17])
 (.seq (rg [mv 22 1,mv 23 7,op 24 (.iaddr 3 (tm 22) (tm 23)),op 25 (.load (some 3) (tm 24)),op 9 (.alloc 3 (.agg [.int .i64 0,.sl false [],.sl false []])),⟨none,.store 3 (tm 9) (tm 25),none⟩] [1,2,8,9,15,16,17])
 (.seq (rg [mv 26 2,op 27 (.load (some 3) (tm 8)),op 28 (.load (some 3) (tm 9)),op 29 (.callv .pure (tm 26) [(tm 27),(tm 28)]),op 30 (.un .not (tm 29))] [1,2,15,16,17,30])
 (.cond (tm 30) (.seq (rg [op 6 (.mov (.cst (.bool false)))] [6])
 (.ret))
 (.skip))))))
 (.region none [] [op 31 (.bin .add .int (tm 17) (ci (1))),mv 17 31] [1,2,15,16,17] (some 0))))

def c46 : ACode :=
 .seq (rg [op 6 (.mov (.cst (.bool false)))] [0,1,2])
 (.seq (.seq (rg [mv 10 0,op 11 (.len .slice (tm 10)),mv 12 1,op 13 (.len .slice (tm 12)),op 14 (.bin .neq .int (tm 11) (tm 13))] [0,1,2,14])
 (.cond (tm 14) (.seq (rg [op 6 (.mov (.cst (.bool false)))] [6])
 (.ret))
 (.skip)))
 (.seq (.seq (rg [mv 15 0,op 16 (.len .slice (tm 15)),op 17 (.mov (ci (0)))] [1,2,15,16,17])
 (.block 0 (.loop l46_0_h l46_0_b)))
 (.seq (rg [op 6 (.mov (.cst (.bool true)))] [6])
 (.ret))))

def a46 : AFunc := ⟨3,c46,[.tmp 6]⟩

def an46 : List RAnn := [
 ra 0 [0,1,2],ra 1 [0,1,2,14],ra 2 [6],ra 3 [1,2,15,16,17],rh 4 [1,2,15,16,17,18] [1,2,15,16,17],ra 5 [1,2,7,8,15,16,17],ra 6 [1,2,8,9,15,16,17],ra 7 [1,2,15,16,17,30],ra 8 [6],
 { id := 9,live := [1,2,15,16,17],trunc := some 0 },
 ra 10 [6]]

theorem comp46 : compF Tryz.prog an46 Tryz.f46 = some a46 := by kernel_rfl

/- graphdb/graph.Same$1 -/
def c47 : ACode :=
 .seq (rg [op 2 (.box 3 (tm 0)),op 3 (.box 3 (tm 1)),op 4 (.mov (.cst (.bool false)))] [2,3])
 (.seq (rg [op 5 (.faddr 0 (tm 2)),op 6 (.load none (tm 5)),op 7 (.faddr 0 (tm 3)),op 8 (.load none (tm 7)),op 9 (.bin .eql .int (tm 6) (tm 8)),mv 10 9,⟨some 11,.faddr 1 (tm 2),some (10,true)⟩,⟨some 12,.load none (tm 11),some (10,true)⟩,⟨some 13,.faddr 1 (tm 3),some (10,true)⟩,⟨some 14,.load none (tm 13),some (10,true)⟩,⟨some 15,.call .pure 48 [(tm 12),(tm 14)],some (10,true)⟩,op 16 (.pick (tm 10) (tm 15) (.cst (.bool false))),mv 17 16,⟨some 18,.faddr 2 (tm 2),some (17,true)⟩,⟨some 19,.load none (tm 18),some (17,true)⟩,⟨some 20,.faddr 2 (tm 3),some (17,true)⟩,⟨some 21,.load none (tm 20),some (17,true)⟩,⟨some 22,.call .pure 49 [(tm 19),(tm 21)],some (17,true)⟩,op 23 (.pick (tm 17) (tm 22) (.cst (.bool false))),mv 4 23] [4])
 (.ret))

def a47 : AFunc := ⟨2,c47,[.tmp 4]⟩

def an47 : List RAnn := [
 ra 0 [2,3],ra 1 [4]]

theorem comp47 : compF Tryz.prog an47 Tryz.f47 = some a47 := by kernel_rfl

/- slices.Equal[[]string,string] -/
/-- loop 0 of function 48 -/
def l48_0_h : List Nat := [0,1,12,13]

def l48_0_b : ACode :=
 .seq (rg [op 14 (.bin .lss .int (tm 13) (tm 12))] [0,1,12,13,14])
 (.seq (.cond (tm 14) (.skip)
 (.exit 0))
 (.seq (.block 1 (.seq (rg [mv 15 13,mv 5 15] [0,1,5,12,13])
 (.seq (.region (some 9) [] [
 mv 16 0,mv 17 5,op 18 (.iaddr 1 (tm 16) (tm 17)),op 19 (.load none (tm 18)),mv 20 1,mv 21 5,op 22 (.iaddr 1 (tm 20) (tm 21)),op 23 (.load none (tm 22)),op 24 (.bin .neq .str (tm 19) (tm 23))] [0,1,12,13,24] none)
 (.cond (tm 24) (.seq (rg [op 4 (.mov (.cst (.bool false)))] [4])
 (.ret))
 (.skip)))))
 (rg [op 25 (.bin .add .int (tm 13) (ci (1))),mv 13 25] [0,1,12,13])))

def c48 : ACode :=
 .seq (rg [op 4 (.mov (.cst (.bool false)))] [0,1])
 (.seq (.seq (rg [mv 6 0,op 7 (.len .slice (tm 6)),mv 8 1,op 9 (.len .slice (tm 8)),op 10 (.bin .neq .int (tm 7) (tm 9))] [0,1,10])
 (.cond (tm 10) (.seq (rg [op 4 (.mov (.cst (.bool false)))] [4])
 (.ret))
 (.skip)))
 (.seq (.seq (rg [mv 11 0,op 12 (.len .slice (tm 11)),op 13 (.mov (ci (0)))] [0,1,12,13])
 (.block 0 (.loop l48_0_h l48_0_b)))
 (.seq (rg [op 4 (.mov (.cst (.bool true)))] [4])
 (.ret))))

def a48 : AFunc := ⟨2,c48,[.tmp 4]⟩

def an48 : List RAnn := [
 ra 0 [0,1],ra 1 [0,1,10],ra 2 [4],ra 3 [0,1,12,13],rh 4 [0,1,12,13,14] [0,1,12,13],ra 5 [0,1,5,12,13],
 { id := 6,head := some 9,live := [0,1,12,13,24] },
 ra 7 [4],ra 8 [0,1,12,13],ra 9 [4]]

theorem comp48 : compF Tryz.prog an48 Tryz.f48 = some a48 := by kernel_rfl

/- graphdb/graph.sameProps -/
def c49 : ACode :=
 .seq (rg [op 4 (.mov (.cst (.bool false)))] [0,1])
 (.seq (rg [mv 5 0,mv 6 1,op 7 (.call .pure 76 [(tm 5),(tm 6),(.cst (.fn 77 []))]),mv 4 7] [4])
 (.ret))

def a49 : AFunc := ⟨2,c49,[.tmp 4]⟩

def an49 : List RAnn := [
 ra 0 [0,1],ra 1 [4]]

theorem comp49 : compF Tryz.prog an49 Tryz.f49 = some a49 := by kernel_rfl

/- slices.EqualFunc[[]graphdb/api.Edge,[]graphdb/api.Edge,graphdb/api.Edge,graphdb/api.Edge] -/
/-- loop 0 of function 50 -/
def l50_0_h : List Nat := [1,2,15,16,17]

def l50_0_b : ACode :=
 .seq (rg [op 18 (.bin .lss .int (tm 17) (tm 16))] [1,2,15,16,17,18])
 (.seq (.cond (tm 18) (.skip)
 (.exit 0))
 (.seq (.block 1 (.seq (rg [mv 19 17,op 20 (.iaddr 5 (tm 15) (tm 17)),op 21 (.load (some 5) (tm 20)),op 8 (.alloc 5 (.agg [.int .i64 0,.int .i64 0,.int .i64 0,.str [],.sl false []])),mv 7 19,⟨none,.store 5 (tm 8) (tm 21),none⟩] [1,2,7,8,15,16,17])
 (.seq (rg [mv 22 1,mv 23 7,op 24 (.iaddr 5 (tm 22) (tm 23)),op 25 (.load (some 5) (tm 24)),op 9 (.alloc 5 (.agg [.int .i64 0,.int .i64 0,.int .i64 0,.str [],.sl false []])),⟨none,.store 5 (tm 9) (tm 25),none⟩] [1,2,8,9,15,16,17])
 (.seq (rg [mv 26 2,op 27 (.load (some 5) (tm 8)),op 28 (.load (some 5) (tm 9)),op 29 (.callv .pure (tm 26) [(tm 27),(tm 28)]),op 30 (.un .not (tm 29))] [1,2,15,16,17,30])
 (.cond (tm 30) (.seq (rg [op 6 (.mov (.cst (.bool false)))] [6])
 (.ret))
 (.skip))))))
 (.region none [] [op 31 (.bin .add .int (tm 17) (ci (1))),mv 17 31] [1,2,15,16,17] (some 0))))

def c50 : ACode :=
 .seq (rg [op 6 (.mov (.cst (.bool false)))] [0,1,2])
 (.seq (.seq (rg [mv 10 0,op 11 (.len .slice (tm 10)),mv 12 1,op 13 (.len .slice (tm 12)),op 14 (.bin .neq .int (tm 11) (tm 13))] [0,1,2,14])
 (.cond (tm 14) (.seq (rg [op 6 (.mov (.cst (.bool false)))] [6])
 (.ret))
 (.skip)))
 (.seq (.seq (rg [mv 15 0,op 16 (.len .slice (tm 15)),op 17 (.mov (ci (0)))] [1,2,15,16,17])
 (.block 0 (.loop l50_0_h l50_0_b)))
 (.seq (rg [op 6 (.mov (.cst (.bool true)))] [6])
 (.ret))))

def a50 : AFunc := ⟨3,c50,[.tmp 6]⟩

def an50 : List RAnn := [
 ra 0 [0,1,2],ra 1 [0,1,2,14],ra 2 [6],ra 3 [1,2,15,16,17],rh 4 [1,2,15,16,17,18] [1,2,15,16,17],ra 5 [1,2,7,8,15,16,17],ra 6 [1,2,8,9,15,16,17],ra 7 [1,2,15,16,17,30],ra 8 [6],
 { id := 9,live := [1,2,15,16,17],trunc := some 0 },
 ra 10 [6]]

theorem comp50 : compF Tryz.prog an50 Tryz.f50 = some a50 := by kernel_rfl

/- graphdb/graph.Same$2 -/
def c51 : ACode :=
 .seq (rg [op 2 (.box 5 (tm 0)),op 3 (.box 5 (tm 1)),op 4 (.mov (.cst (.bool false)))] [2,3])
 (.seq (rg [op 5 (.faddr 0 (tm 2)),op 6 (.load none (tm 5)),op 7 (.faddr 0 (tm 3)),op 8 (.load none (tm 7)),op 9 (.bin .eql .int (tm 6) (tm 8)),mv 10 9,⟨some 11,.faddr 1 (tm 2),some (10,true)⟩,⟨some 12,.load none (tm 11),some (10,true)⟩,⟨some 13,.faddr 1 (tm 3),some (10,true)⟩,⟨some 14,.load none (tm 13),some (10,true)⟩,⟨some 15,.bin .eql .int (tm 12) (tm 14),some (10,true)⟩,op 16 (.pick (tm 10) (tm 15) (.cst (.bool false))),mv 17 16,⟨some 18,.faddr 2 (tm 2),some (17,true)⟩,⟨some 19,.load none (tm 18),some (17,true)⟩,⟨some 20,.faddr 2 (tm 3),some (17,true)⟩,⟨some 21,.load none (tm 20),some (17,true)⟩,⟨some 22,.bin .eql .int (tm 19) (tm 21),some (17,true)⟩,op 23 (.pick (tm 17) (tm 22) (.cst (.bool false))),mv 24 23,⟨some 25,.faddr 3 (tm 2),some (24,true)⟩,⟨some 26,.load none (tm 25),some (24,true)⟩,⟨some 27,.faddr 3 (tm 3),some (24,true)⟩,⟨some 28,.load none (tm 27),some (24,true)⟩,⟨some 29,.bin .eql .str (tm 26) (tm 28),some (24,true)⟩,op 30 (.pick (tm 24) (tm 29) (.cst (.bool false))),mv 31 30,⟨some 32,.faddr 4 (tm 2),some (31,true)⟩,⟨some 33,.load none (tm 32),some (31,true)⟩,⟨some 34,.faddr 4 (tm 3),some (31,true)⟩,⟨some 35,.load none (tm 34),some (31,true)⟩,⟨some 36,.call .pure 49 [(tm 33),(tm 35)],some (31,true)⟩,op 37 (.pick (tm 31) (tm 36) (.cst (.bool false))),mv 4 37] [4])
 (.ret))

def a51 : AFunc := ⟨2,c51,[.tmp 4]⟩

def an51 : List RAnn := [
 ra 0 [2,3],ra 1 [4]]

theorem comp51 : compF Tryz.prog an51 Tryz.f51 = some a51 := by kernel_rfl

/- graphdb/graphdbref07.SameParts -/
/-- loop 0 of function 52 -/
def l52_0_h : List Nat := [2,3,5]

def l52_0_b : ACode :=
 .seq (.seq (rg [mv 27 5,op 28 (.faddr 0 (tm 2)),op 29 (.load none (tm 28)),op 30 (.len .slice (tm 29)),op 31 (.bin .lss .int (tm 27) (tm 30))] [2,3,5,31])
 (.cond (tm 31) (.skip)
 (.exit 0)))
 (.seq (.block 1 (.seq (.par 14 [(1,10),(3,10),(4,10),(6,10),(8,10),(9,10),(1,11),(3,11),(4,11),(6,11),(8,11),(9,11),(10,11),(6,12),(8,12),(9,12)] [] [
 op 34 (.faddr 0 (tm 2)),op 35 (.load none (tm 34)),mv 36 5,op 37 (.iaddr 3 (tm 35) (tm 36)),op 38 (.load (some 3) (tm 37)),op 39 (.faddr 0 (tm 3)),op 40 (.load none (tm 39)),mv 41 5,op 42 (.iaddr 3 (tm 40) (tm 41)),op 43 (.load (some 3) (tm 42)),op 6 (.alloc 3 (.agg [.int .i64 0,.sl false [],.sl false []])),op 7 (.alloc 3 (.agg [.int .i64 0,.sl false [],.sl false []])),⟨none,.store 3 (tm 6) (tm 38),none⟩,⟨none,.store 3 (tm 7) (tm 43),none⟩] [2,3,5,6,7] none)
 (.seq (rg [op 44 (.faddr 0 (tm 6)),op 45 (.load none (tm 44)),op 46 (.faddr 0 (tm 7)),op 47 (.load none (tm 46)),op 48 (.bin .neq .int (tm 45) (tm 47)),mv 49 48,⟨some 50,.faddr 1 (tm 6),some (49,false)⟩,⟨some 51,.load none (tm 50),some (49,false)⟩,⟨some 52,.faddr 1 (tm 7),some (49,false)⟩,⟨some 53,.load none (tm 52),some (49,false)⟩,⟨some 54,.call .pure 78 [(tm 51),(tm 53)],some (49,false)⟩,⟨some 55,.un .not (tm 54),some (49,false)⟩,op 56 (.pick (tm 49) (.cst (.bool true)) (tm 55)),mv 57 56,⟨some 58,.faddr 2 (tm 6),some (57,false)⟩,⟨some 59,.load none (tm 58),some (57,false)⟩,⟨some 60,.faddr 2 (tm 7),some (57,false)⟩,⟨some 61,.load none (tm 60),some (57,false)⟩,⟨some 62,.call .pure 79 [(tm 59),(tm 61)],some (57,false)⟩,⟨some 63,.un .not (tm 62),some (57,false)⟩,op 64 (.pick (tm 57) (.cst (.bool true)) (tm 63))] [2,3,5,64])
 (.cond (tm 64) (.seq (rg [op 4 (.mov (.cst (.bool false)))] [4])
 (.ret))
 (.skip)))))
 (.region none [] [mv 32 5,op 33 (.bin .add .int (tm 32) (ci (1))),mv 5 33] [2,3,5] (some 2)))

/-- loop 1 of function 52 -/
def l52_1_h : List Nat := [2,3,8]

def l52_1_b : ACode :=
 .seq (.seq (rg [mv 65 8,op 66 (.faddr 1 (tm 2)),op 67 (.load none (tm 66)),op 68 (.len .slice (tm 67)),op 69 (.bin .lss .int (tm 65) (tm 68))] [2,3,8,69])
 (.cond (tm 69) (.skip)
 (.exit 2)))
 (.seq (.block 3 (.seq (.par 14 [(1,10),(3,10),(4,10),(6,10),(8,10),(9,10),(1,11),(3,11),(4,11),(6,11),(8,11),(9,11),(10,11),(6,12),(8,12),(9,12)] [] [
 op 72 (.faddr 1 (tm 2)),op 73 (.load none (tm 72)),mv 74 8,op 75 (.iaddr 5 (tm 73) (tm 74)),op 76 (.load (some 5) (tm 75)),op 77 (.faddr 1 (tm 3)),op 78 (.load none (tm 77)),mv 79 8,op 80 (.iaddr 5 (tm 78) (tm 79)),op 81 (.load (some 5) (tm 80)),op 9 (.alloc 5 (.agg [.int .i64 0,.int .i64 0,.int .i64 0,.str [],.sl false []])),op 10 (.alloc 5 (.agg [.int .i64 0,.int .i64 0,.int .i64 0,.str [],.sl false []])),⟨none,.store 5 (tm 9) (tm 76),none⟩,⟨none,.store 5 (tm 10) (tm 81),none⟩] [2,3,8,9,10] none)
 (.seq (rg [op 82 (.faddr 0 (tm 9)),op 83 (.load none (tm 82)),op 84 (.faddr 0 (tm 10)),op 85 (.load none (tm 84)),op 86 (.bin .neq .int (tm 83) (tm 85)),mv 87 86,⟨some 88,.faddr 1 (tm 9),some (87,false)⟩,⟨some 89,.load none (tm 88),some (87,false)⟩,⟨some 90,.faddr 1 (tm 10),some (87,false)⟩,⟨some 91,.load none (tm 90),some (87,false)⟩,⟨some 92,.bin .neq .int (tm 89) (tm 91),some (87,false)⟩,op 93 (.pick (tm 87) (.cst (.bool true)) (tm 92)),mv 94 93,⟨some 95,.faddr 2 (tm 9),some (94,false)⟩,⟨some 96,.load none (tm 95),some (94,false)⟩,⟨some 97,.faddr 2 (tm 10),some (94,false)⟩,⟨some 98,.load none (tm 97),some (94,false)⟩,⟨some 99,.bin .neq .int (tm 96) (tm 98),some (94,false)⟩,op 100 (.pick (tm 94) (.cst (.bool true)) (tm 99)),mv 101 100,⟨some 102,.faddr 3 (tm 9),some (101,false)⟩,⟨some 103,.load none (tm 102),some (101,false)⟩,⟨some 104,.faddr 3 (tm 10),some (101,false)⟩,⟨some 105,.load none (tm 104),some (101,false)⟩,⟨some 106,.bin .neq .str (tm 103) (tm 105),some (101,false)⟩,op 107 (.pick (tm 101) (.cst (.bool true)) (tm 106)),mv 108 107,⟨some 109,.faddr 4 (tm 9),some (108,false)⟩,⟨some 110,.load none (tm 109),some (108,false)⟩,⟨some 111,.faddr 4 (tm 10),some (108,false)⟩,⟨some 112,.load none (tm 111),some (108,false)⟩,⟨some 113,.call .pure 79 [(tm 110),(tm 112)],some (108,false)⟩,⟨some 114,.un .not (tm 113),some (108,false)⟩,op 115 (.pick (tm 108) (.cst (.bool true)) (tm 114))] [2,3,8,115])
 (.cond (tm 115) (.seq (rg [op 4 (.mov (.cst (.bool false)))] [4])
 (.ret))
 (.skip)))))
 (.region none [] [mv 70 8,op 71 (.bin .add .int (tm 70) (ci (1))),mv 8 71] [2,3,8] (some 2)))

def c52 : ACode :=
 .seq (rg [op 2 (.box 4 (tm 0)),op 3 (.box 4 (tm 1)),op 4 (.mov (.cst (.bool false)))] [2,3])
 (.seq (.seq (rg [op 11 (.faddr 0 (tm 2)),op 12 (.load none (tm 11)),op 13 (.len .slice (tm 12)),op 14 (.faddr 0 (tm 3)),op 15 (.load none (tm 14)),op 16 (.len .slice (tm 15)),op 17 (.bin .neq .int (tm 13) (tm 16)),mv 18 17,⟨some 19,.faddr 1 (tm 2),some (18,false)⟩,⟨some 20,.load none (tm 19),some (18,false)⟩,⟨some 21,.len .slice (tm 20),some (18,false)⟩,⟨some 22,.faddr 1 (tm 3),some (18,false)⟩,⟨some 23,.load none (tm 22),some (18,false)⟩,⟨some 24,.len .slice (tm 23),some (18,false)⟩,⟨some 25,.bin .neq .int (tm 21) (tm 24),some (18,false)⟩,op 26 (.pick (tm 18) (.cst (.bool true)) (tm 25))] [2,3,26])
 (.cond (tm 26) (.seq (rg [op 4 (.mov (.cst (.bool false)))] [4])
 (.ret))
 (.skip)))
 (.seq (.seq (rg [op 5 (.mov (ci (0)))] [2,3,5])
 (.block 0 (.loop l52_0_h l52_0_b)))
 (.seq (.seq (rg [op 8 (.mov (ci (0)))] [2,3,8])
 (.block 2 (.loop l52_1_h l52_1_b)))
 (.seq (rg [op 4 (.mov (.cst (.bool true)))] [4])
 (.ret)))))

def a52 : AFunc := ⟨2,c52,[.tmp 4]⟩

def an52 : List RAnn := [
 ra 0 [2,3],ra 1 [2,3,26],ra 2 [4],ra 3 [2,3,5],rh 4 [2,3,5,31] [2,3,5],
 { id := 6,head := some 14,live := [2,3,5,6,7],par := true },
 ra 7 [2,3,5,64],ra 8 [4],
 { id := 5,live := [2,3,5],trunc := some 2 },
 ra 9 [2,3,8],rh 10 [2,3,8,69] [2,3,8],
 { id := 12,head := some 14,live := [2,3,8,9,10],par := true },
 ra 13 [2,3,8,115],ra 14 [4],
 { id := 11,live := [2,3,8],trunc := some 2 },
 ra 15 [4]]

theorem comp52 : compF Tryz.prog an52 Tryz.f52 = some a52 := by kernel_rfl

/- graphdb/graphdbref04.Order -/
def c53 : ACode :=
 .seq (rg [op 2 (.box 5 (tm 0)),op 3 (.box 5 (tm 1)),op 4 (.mov (ci (0)))] [2,3])
 (.seq (.region (some 6) [] [
 op 12 (.load (some 5) (tm 2)),op 13 (.call .pure 80 [(tm 12)]),op 14 (.load (some 5) (tm 3)),op 15 (.call .pure 80 [(tm 14)]),mv 5 13,mv 6 15] [2,3,5,6] none)
 (.seq (.seq (rg [mv 16 5,mv 17 6,op 18 (.bin .neq .bool (tm 16) (tm 17))] [2,3,5,18])
 (.cond (tm 18) (.seq (rg [mv 19 5,op 20 (.call .pure 81 [(tm 19)]),op 21 (.bin .sub .int (ci (1)) (tm 20)),mv 4 21] [4])
 (.ret))
 (.skip)))
 (.seq (.seq (rg [mv 22 5,op 23 (.un .not (tm 22))] [2,3,23])
 (.cond (tm 23) (.seq (rg [op 24 (.load (some 5) (tm 2)),op 25 (.load (some 5) (tm 3)),op 26 (.call .pure 82 [(tm 24),(tm 25)]),mv 4 26] [4])
 (.ret))
 (.skip)))
 (.seq (.seq (.region (some 8) [] [
 op 27 (.faddr 0 (tm 2)),op 28 (.load none (tm 27)),op 29 (.call .pure 84 [(tm 28)]),op 30 (.faddr 0 (tm 3)),op 31 (.load none (tm 30)),op 32 (.call .pure 84 [(tm 31)]),op 33 (.call .pure 83 [(tm 29),(tm 32)]),mv 7 33] [2,3,7] none)
 (.seq (rg [mv 34 7,op 35 (.bin .neq .int (tm 34) (ci (0)))] [2,3,7,35])
 (.cond (tm 35) (.seq (rg [mv 36 7,mv 4 36] [4])
 (.ret))
 (.skip))))
 (.seq (rg [op 38 (.load (some 5) (tm 2)),op 39 (.call .pure 85 [(tm 38)]),mv 37 39,op 40 (.ext (tm 37) 0),op 41 (.ext (tm 37) 1),op 8 (.alloc 2 (.agg [.int .i64 0,.int .i64 0])),⟨none,.store 2 (tm 8) (tm 40),none⟩,mv 9 41] [2,3,8,9])
 (.seq (rg [op 43 (.load (some 5) (tm 3)),op 44 (.call .pure 85 [(tm 43)]),mv 42 44,op 45 (.ext (tm 42) 0),op 46 (.ext (tm 42) 1),op 10 (.alloc 2 (.agg [.int .i64 0,.int .i64 0])),⟨none,.store 2 (tm 10) (tm 45),none⟩,mv 11 46] [2,3,8,9,10])
 (.seq (.seq (rg [mv 47 9] [2,3,8,10,47])
 (.cond (tm 47) (.seq (rg [op 48 (.load (some 2) (tm 8)),op 49 (.load (some 2) (tm 10)),op 50 (.call .pure 86 [(tm 48),(tm 49)]),mv 4 50] [4])
 (.ret))
 (.skip)))
 (.seq (rg [op 51 (.load (some 5) (tm 2)),op 52 (.load (some 5) (tm 3)),op 53 (.call .pure 82 [(tm 51),(tm 52)]),mv 4 53] [4])
 (.ret)))))))))

def a53 : AFunc := ⟨2,c53,[.tmp 4]⟩

def an53 : List RAnn := [
 ra 0 [2,3],
 { id := 1,head := some 6,live := [2,3,5,6] },
 ra 2 [2,3,5,18],ra 3 [4],ra 4 [2,3,23],ra 5 [4],
 { id := 6,head := some 8,live := [2,3,7] },
 ra 7 [2,3,7,35],ra 8 [4],ra 9 [2,3,8,9],ra 10 [2,3,8,9,10],ra 11 [2,3,8,10,47],ra 12 [4],ra 13 [4]]

theorem comp53 : compF Tryz.prog an53 Tryz.f53 = some a53 := by kernel_rfl

/- graphdb/graphdbref04.Weigh -/
/-- loop 0 of function 54 -/
def l54_0_h : List Nat := [1,2,3,7]

def l54_0_b : ACode :=
 .seq (.seq (rg [mv 17 7,op 18 (.faddr 4 (tm 3)),op 19 (.load none (tm 18)),op 20 (.len .slice (tm 19)),op 21 (.bin .lss .int (tm 17) (tm 20)),mv 22 21,mg 23 1 22 true,⟨some 24,.bin .geq .int (tm 23) (ci (0)),some (22,true)⟩,op 25 (.pick (tm 22) (tm 24) (.cst (.bool false)))] [1,2,3,7,25])
 (.cond (tm 25) (.skip)
 (.exit 0)))
 (.seq (.block 1 (rg [op 28 (.faddr 4 (tm 3)),op 29 (.load none (tm 28)),mv 30 7,op 31 (.iaddr 5 (tm 29) (tm 30)),op 32 (.load (some 5) (tm 31)),mv 33 1,mv 34 2,op 35 (.bin .sub .int (tm 34) (ci (1))),op 36 (.call .pure 54 [(tm 32),(tm 33),(tm 35)]),mv 1 36] [1,2,3,7]))
 (rg [mv 26 7,op 27 (.bin .add .int (tm 26) (ci (1))),mv 7 27] [1,2,3,7]))

def c54 : ACode :=
 .seq (rg [op 3 (.box 5 (tm 0)),op 6 (.mov (ci (0)))] [1,2,3])
 (.seq (rg [mv 8 1,op 9 (.bin .sub .int (tm 8) (ci (1))),op 10 (.faddr 3 (tm 3)),op 11 (.load none (tm 10)),op 12 (.len .str (tm 11)),op 13 (.bin .quo .int (tm 12) (ci (50))),op 14 (.bin .sub .int (tm 9) (tm 13)),mv 1 14] [1,2,3])
 (.seq (.seq (rg [mv 15 2,op 16 (.bin .lss .int (tm 15) (ci (1)))] [1,2,3,16])
 (.cond (tm 16) (.seq (rg [op 6 (.mov (ci ((-1))))] [6])
 (.ret))
 (.skip)))
 (.seq (.seq (rg [op 7 (.mov (ci (0)))] [1,2,3,7])
 (.block 0 (.loop l54_0_h l54_0_b)))
 (.seq (rg [mv 37 1,mv 6 37] [6])
 (.ret)))))

def a54 : AFunc := ⟨3,c54,[.tmp 6]⟩

def an54 : List RAnn := [
 ra 0 [1,2,3],ra 1 [1,2,3],ra 2 [1,2,3,16],ra 3 [6],ra 4 [1,2,3,7],rh 5 [1,2,3,7,25] [1,2,3,7],ra 7 [1,2,3,7],ra 6 [1,2,3,7],ra 8 [6]]

theorem comp54 : compF Tryz.prog an54 Tryz.f54 = some a54 := by kernel_rfl

/- slices.pdqsortOrdered[int] -/
/-- loop 0 of function 55 -/
def l55_0_h : List Nat := [0,1,2,3,8,9]

def l55_0_b : ACode :=
 .block 1 (.seq (rg [mv 19 2,mv 20 1,op 21 (.bin .sub .int (tm 19) (tm 20)),mv 10 21] [0,1,2,3,8,9,10])
 (.seq (.seq (rg [mv 22 10,op 23 (.bin .leq .int (tm 22) (ci (12)))] [0,1,2,3,8,9,10,23])
 (.cond (tm 23) (.seq (rg [mv 24 0,mv 25 1,mv 26 2,op 27 (.call .share 87 [(tm 24),(tm 25),(tm 26)])] [])
 (.ret))
 (.skip)))
 (.seq (.seq (rg [mv 28 3,op 29 (.bin .eql .int (tm 28) (ci (0)))] [0,1,2,3,8,9,10,29])
 (.cond (tm 29) (.seq (rg [mv 30 0,mv 31 1,mv 32 2,op 33 (.call .share 88 [(tm 30),(tm 31),(tm 32)])] [])
 (.ret))
 (.skip)))
 (.seq (.seq (rg [mv 34 8,op 35 (.un .not (tm 34))] [0,1,2,3,8,9,10,35])
 (.cond (tm 35) (.seq (rg [mv 36 0,mv 37 1,mv 38 2,op 39 (.call .share 89 [(tm 36),(tm 37),(tm 38)])] [0,1,2,3,8,9,10])
 (rg [mv 40 3,op 41 (.bin .sub .int (tm 40) (ci (1))),mv 3 41] [0,1,2,3,8,9,10]))
 (.skip)))
 (.seq (rg [mv 43 0,mv 44 1,mv 45 2,op 46 (.call .share 90 [(tm 43),(tm 44),(tm 45)]),mv 42 46,op 47 (.ext (tm 42) 0),op 48 (.ext (tm 42) 1),mv 11 47,mv 12 48] [0,1,2,3,8,9,10,11,12])
 (.seq (.seq (rg [mv 49 12,op 50 (.bin .eql .int (tm 49) (ci (2)))] [0,1,2,3,8,9,10,11,12,50])
 (.cond (tm 50) (.seq (rg [mv 51 0,mv 52 1,mv 53 2,op 54 (.call .share 91 [(tm 51),(tm 52),(tm 53)])] [0,1,2,3,8,9,10,11])
 (.seq (rg [mv 55 2,op 56 (.bin .sub .int (tm 55) (ci (1))),mv 57 11,mv 58 1,op 59 (.bin .sub .int (tm 57) (tm 58)),op 60 (.bin .sub .int (tm 56) (tm 59)),mv 11 60] [0,1,2,3,8,9,10,11])
 (rg [op 12 (.mov (ci (1)))] [0,1,2,3,8,9,10,11,12])))
 (.skip)))
 (.seq (.seq (rg [mv 61 8,mv 62 61,mg 63 9 62 true,op 64 (.pick (tm 62) (tm 63) (.cst (.bool false))),mv 65 64,mg 66 12 65 true,⟨some 67,.bin .eql .int (tm 66) (ci (1)),some (65,true)⟩,op 68 (.pick (tm 65) (tm 67) (.cst (.bool false)))] [0,1,2,3,8,9,10,11,68])
 (.cond (tm 68) (.seq (rg [mv 69 0,mv 70 1,mv 71 2,op 72 (.call .share 92 [(tm 69),(tm 70),(tm 71)])] [0,1,2,3,8,9,10,11,72])
 (.cond (tm 72) (.ret)
 (.skip)))
 (.skip)))
 (.seq (.seq (.region (some 15) [] [
 mv 73 1,op 74 (.bin .gtr .int (tm 73) (ci (0))),mv 75 74,mg 76 0 75 true,mg 77 1 75 true,⟨some 78,.bin .sub .int (tm 77) (ci (1)),some (75,true)⟩,⟨some 79,.iaddr 1 (tm 76) (tm 78),some (75,true)⟩,⟨some 80,.load none (tm 79),some (75,true)⟩,mg 81 0 75 true,mg 82 11 75 true,⟨some 83,.iaddr 1 (tm 81) (tm 82),some (75,true)⟩,⟨some 84,.load none (tm 83),some (75,true)⟩,⟨some 85,.call .pure 93 [(tm 80),(tm 84)],some (75,true)⟩,⟨some 86,.un .not (tm 85),some (75,true)⟩,op 87 (.pick (tm 75) (tm 86) (.cst (.bool false)))] [0,1,2,3,8,9,10,11,87] none)
 (.cond (tm 87) (.seq (rg [mv 88 0,mv 89 1,mv 90 2,mv 91 11,op 92 (.call .share 94 [(tm 88),(tm 89),(tm 90),(tm 91)]),mv 13 92] [0,2,3,8,9,13])
 (.seq (rg [mv 93 13,mv 1 93] [0,1,2,3,8,9])
 (.exit 1)))
 (.skip)))
 (.seq (rg [mv 95 0,mv 96 1,mv 97 2,mv 98 11,op 99 (.call .share 95 [(tm 95),(tm 96),(tm 97),(tm 98)]),mv 94 99,op 100 (.ext (tm 94) 0),op 101 (.ext (tm 94) 1),mv 14 100,mv 15 101] [0,1,2,3,10,14,15])
 (.seq (rg [mv 102 15,mv 9 102] [0,1,2,3,9,10,14])
 (.seq (rg [mv 103 14,mv 104 1,op 105 (.bin .sub .int (tm 103) (tm 104)),mv 106 2,mv 107 14,op 108 (.bin .sub .int (tm 106) (tm 107)),mv 16 105,mv 17 108] [0,1,2,3,9,10,14,16,17])
 (.seq (rg [mv 109 10,op 110 (.bin .quo .int (tm 109) (ci (8))),mv 18 110] [0,1,2,3,9,14,16,17,18])
 (.seq (rg [mv 111 16,mv 112 17,op 113 (.bin .lss .int (tm 111) (tm 112))] [0,1,2,3,9,14,16,17,18,113])
 (.cond (tm 113) (.seq (rg [mv 114 16,mv 115 18,op 116 (.bin .geq .int (tm 114) (tm 115)),mv 8 116] [0,1,2,3,8,9,14])
 (.seq (rg [mv 117 0,mv 118 1,mv 119 14,mv 120 3,op 121 (.call .share 55 [(tm 117),(tm 118),(tm 119),(tm 120)])] [0,2,3,8,9,14])
 (rg [mv 122 14,op 123 (.bin .add .int (tm 122) (ci (1))),mv 1 123] [0,1,2,3,8,9])))
 (.seq (rg [mv 124 17,mv 125 18,op 126 (.bin .geq .int (tm 124) (tm 125)),mv 8 126] [0,1,2,3,8,9,14])
 (.seq (rg [mv 127 0,mv 128 14,op 129 (.bin .add .int (tm 128) (ci (1))),mv 130 2,mv 131 3,op 132 (.call .share 55 [(tm 127),(tm 129),(tm 130),(tm 131)])] [0,1,3,8,9,14])
 (rg [mv 133 14,mv 2 133] [0,1,2,3,8,9])))))))))))))))))

def c55 : ACode :=
 .seq (rg [op 8 (.mov (.cst (.bool true)))] [0,1,2,3,8])
 (.seq (rg [op 9 (.mov (.cst (.bool true)))] [0,1,2,3,8,9])
 (.block 0 (.loop l55_0_h l55_0_b)))

def a55 : AFunc := ⟨4,c55,[]⟩

def an55 : List RAnn := [
 ra 0 [0,1,2,3,8],ra 1 [0,1,2,3,8,9],rh 2 [0,1,2,3,8,9,10] [0,1,2,3,8,9],ra 3 [0,1,2,3,8,9,10,23],
 { id := 4,ops := [(3,.mode .share)] },
 ra 5 [0,1,2,3,8,9,10,29],
 { id := 6,ops := [(3,.mode .share)] },
 ra 7 [0,1,2,3,8,9,10,35],
 { id := 8,live := [0,1,2,3,8,9,10],ops := [(3,.mode .share)] },
 ra 9 [0,1,2,3,8,9,10],
 { id := 10,live := [0,1,2,3,8,9,10,11,12],ops := [(3,.mode .share)] },
 ra 11 [0,1,2,3,8,9,10,11,12,50],
 { id := 12,live := [0,1,2,3,8,9,10,11],ops := [(3,.mode .share)] },
 ra 13 [0,1,2,3,8,9,10,11],ra 14 [0,1,2,3,8,9,10,11,12],ra 15 [0,1,2,3,8,9,10,11,68],
 { id := 16,live := [0,1,2,3,8,9,10,11,72],ops := [(3,.mode .share)] },
 { id := 17,head := some 15,live := [0,1,2,3,8,9,10,11,87] },
 { id := 18,live := [0,2,3,8,9,13],ops := [(4,.mode .share)] },
 ra 19 [0,1,2,3,8,9],
 { id := 20,live := [0,1,2,3,10,14,15],ops := [(4,.mode .share)] },
 ra 21 [0,1,2,3,9,10,14],ra 22 [0,1,2,3,9,10,14,16,17],ra 23 [0,1,2,3,9,14,16,17,18],ra 24 [0,1,2,3,9,14,16,17,18,113],ra 25 [0,1,2,3,8,9,14],
 { id := 26,live := [0,2,3,8,9,14],ops := [(4,.mode .share)] },
 ra 27 [0,1,2,3,8,9],ra 28 [0,1,2,3,8,9,14],
 { id := 29,live := [0,1,3,8,9,14],ops := [(5,.mode .share)] },
 ra 30 [0,1,2,3,8,9]]

theorem comp55 : compF Tryz.prog an55 Tryz.f55 = some a55 := by kernel_rfl

/- math/bits.Len -/
def c56 : ACode :=
 .seq (rg [op 2 (.mov (ci (0)))] [0])
 (.seq (.cond (.cst (.bool false)) (.seq (rg [mv 3 0,op 4 (.conv .u32 (tm 3)),op 5 (.call .pure 96 [(tm 4)]),mv 2 5] [2])
 (.ret))
 (.skip))
 (.seq (rg [mv 6 0,op 7 (.call .pure 97 [(tm 6)]),mv 2 7] [2])
 (.ret)))

def a56 : AFunc := ⟨1,c56,[.tmp 2]⟩

def an56 : List RAnn := [
 ra 0 [0],ra 1 [2],ra 2 [2]]

theorem comp56 : compF Tryz.prog an56 Tryz.f56 = some a56 := by kernel_rfl

/- slices.ContainsFunc[[]string,string] -/
def c57 : ACode :=
 .seq (rg [op 4 (.mov (.cst (.bool false)))] [0,1])
 (.seq (rg [mv 5 0,mv 6 1,op 7 (.call .pure 98 [(tm 5),(tm 6)]),op 8 (.bin .geq .int (tm 7) (ci (0))),mv 4 8] [4])
 (.ret))

def a57 : AFunc := ⟨2,c57,[.tmp 4]⟩

def an57 : List RAnn := [
 ra 0 [0,1],ra 1 [4]]

theorem comp57 : compF Tryz.prog an57 Tryz.f57 = some a57 := by kernel_rfl

/- graphdb/graph.unnamed -/
def c58 : ACode :=
 .seq (rg [op 2 (.mov (.cst (.bool false)))] [0])
 (.seq (rg [mv 3 0,op 4 (.call .pure 30 [(tm 3)]),op 5 (.un .not (tm 4)),mv 2 5] [2])
 (.ret))

def a58 : AFunc := ⟨1,c58,[.tmp 2]⟩

def an58 : List RAnn := [
 ra 0 [0],ra 1 [2]]

theorem comp58 : compF Tryz.prog an58 Tryz.f58 = some a58 := by kernel_rfl

/- graphdb/graph.increasing -/
/-- loop 0 of function 59 -/
def l59_0_h : List Nat := [0,3]

def l59_0_b : ACode :=
 .seq (.seq (rg [mv 4 3,mv 5 0,op 6 (.len .slice (tm 5)),op 7 (.bin .lss .int (tm 4) (tm 6))] [0,3,7])
 (.cond (tm 7) (.skip)
 (.exit 0)))
 (.seq (.block 1 (.seq (.region (some 10) [] [
 mv 10 0,mv 11 3,op 12 (.iaddr 1 (tm 10) (tm 11)),op 13 (.load none (tm 12)),mv 14 0,mv 15 3,op 16 (.bin .sub .int (tm 15) (ci (1))),op 17 (.iaddr 1 (tm 14) (tm 16)),op 18 (.load none (tm 17)),op 19 (.bin .leq .str (tm 13) (tm 18))] [0,3,19] none)
 (.cond (tm 19) (.seq (rg [op 2 (.mov (.cst (.bool false)))] [2])
 (.ret))
 (.skip))))
 (rg [mv 8 3,op 9 (.bin .add .int (tm 8) (ci (1))),mv 3 9] [0,3]))

def c59 : ACode :=
 .seq (rg [op 2 (.mov (.cst (.bool false)))] [0])
 (.seq (.seq (rg [op 3 (.mov (ci (1)))] [0,3])
 (.block 0 (.loop l59_0_h l59_0_b)))
 (.seq (rg [op 2 (.mov (.cst (.bool true)))] [2])
 (.ret)))

def a59 : AFunc := ⟨1,c59,[.tmp 2]⟩

def an59 : List RAnn := [
 ra 0 [0],ra 1 [0,3],rh 2 [0,3,7] [0,3],
 { id := 4,head := some 10,live := [0,3,19] },
 ra 5 [2],ra 3 [0,3],ra 6 [2]]

theorem comp59 : compF Tryz.prog an59 Tryz.f59 = some a59 := by kernel_rfl

/- graphdb/value.Plain -/
def c60 : ACode :=
 .seq (rg [op 1 (.box 5 (tm 0)),op 2 (.mov (.cst (.bool false)))] [1])
 (.seq (rg [op 3 (.faddr 0 (tm 1)),op 4 (.load none (tm 3)),op 5 (.bin .eql .int (tm 4) (ci (1))),mv 6 5,⟨some 7,.faddr 0 (tm 1),some (6,false)⟩,⟨some 8,.load none (tm 7),some (6,false)⟩,⟨some 9,.bin .eql .int (tm 8) (ci (2)),some (6,false)⟩,op 10 (.pick (tm 6) (.cst (.bool true)) (tm 9)),mv 11 10,⟨some 12,.faddr 0 (tm 1),some (11,false)⟩,⟨some 13,.load none (tm 12),some (11,false)⟩,⟨some 14,.bin .eql .int (tm 13) (ci (4)),some (11,false)⟩,op 15 (.pick (tm 11) (.cst (.bool true)) (tm 14)),mv 16 15,⟨some 17,.load (some 5) (tm 1),some (16,true)⟩,⟨some 18,.call .pure 99 [(tm 17)],some (16,true)⟩,op 19 (.pick (tm 16) (tm 18) (.cst (.bool false))),mv 2 19] [2])
 (.ret))

def a60 : AFunc := ⟨1,c60,[.tmp 2]⟩

def an60 : List RAnn := [
 ra 0 [1],ra 1 [2]]

theorem comp60 : compF Tryz.prog an60 Tryz.f60 = some a60 := by kernel_rfl

/- slices.BinarySearchFunc[[]graphdb/api.Node,graphdb/api.Node,int] -/
/-- loop 0 of function 61 -/
def l61_0_h : List Nat := [0,1,2,8,9,10]

def l61_0_b : ACode :=
 .seq (.seq (rg [mv 15 9,mv 16 10,op 17 (.bin .lss .int (tm 15) (tm 16))] [0,1,2,8,9,10,17])
 (.cond (tm 17) (.skip)
 (.exit 0)))
 (.block 1 (.seq (rg [mv 18 9,mv 19 10,op 20 (.bin .add .int (tm 18) (tm 19)),op 21 (.conv .u64 (tm 20)),op 22 (.bin .shr .int (tm 21) (.cst (.int .u64 1))),op 23 (.conv .i64 (tm 22)),mv 11 23] [0,1,2,8,9,10,11])
 (.seq (rg [mv 24 2,mv 25 0,mv 26 11,op 27 (.iaddr 3 (tm 25) (tm 26)),op 28 (.load (some 3) (tm 27)),mv 29 1,op 30 (.callv .pure (tm 24) [(tm 28),(tm 29)]),op 31 (.bin .lss .int (tm 30) (ci (0)))] [0,1,2,8,9,10,11,31])
 (.cond (tm 31) (rg [mv 32 11,op 33 (.bin .add .int (tm 32) (ci (1))),mv 9 33] [0,1,2,8,9,10])
 (rg [mv 34 11,mv 10 34] [0,1,2,8,9,10])))))

def c61 : ACode :=
 .seq (rg [op 6 (.mov (ci (0))),op 7 (.mov (.cst (.bool false)))] [0,1,2])
 (.seq (rg [mv 12 0,op 13 (.len .slice (tm 12)),mv 8 13] [0,1,2,8])
 (.seq (rg [mv 14 8,op 9 (.mov (ci (0))),mv 10 14] [0,1,2,8,9,10])
 (.seq (.block 0 (.loop l61_0_h l61_0_b))
 (.seq (rg [mv 35 9,mv 36 9,mv 37 8,op 38 (.bin .lss .int (tm 36) (tm 37)),mv 39 38,mg 40 2 39 true,mg 41 0 39 true,mg 42 9 39 true,⟨some 43,.iaddr 3 (tm 41) (tm 42),some (39,true)⟩,⟨some 44,.load (some 3) (tm 43),some (39,true)⟩,mg 45 1 39 true,⟨some 46,.callv .pure (tm 40) [(tm 44),(tm 45)],some (39,true)⟩,⟨some 47,.bin .eql .int (tm 46) (ci (0)),some (39,true)⟩,op 48 (.pick (tm 39) (tm 47) (.cst (.bool false))),mv 6 35,mv 7 48] [6,7])
 (.ret)))))

def a61 : AFunc := ⟨3,c61,[.tmp 6,.tmp 7]⟩

def an61 : List RAnn := [
 ra 0 [0,1,2],ra 1 [0,1,2,8],ra 2 [0,1,2,8,9,10],rh 3 [0,1,2,8,9,10,17] [0,1,2,8,9,10],ra 4 [0,1,2,8,9,10,11],ra 5 [0,1,2,8,9,10,11,31],ra 6 [0,1,2,8,9,10],ra 7 [0,1,2,8,9,10],ra 8 [6,7]]

theorem comp61 : compF Tryz.prog an61 Tryz.f61 = some a61 := by kernel_rfl

/- graphdb/graph.has$1 -/
def c62 : ACode :=
 .seq (rg [op 2 (.box 3 (tm 0)),op 4 (.mov (ci (0)))] [1,2])
 (.seq (rg [op 5 (.faddr 0 (tm 2)),op 6 (.load none (tm 5)),mv 7 1,op 8 (.call .pure 63 [(tm 6),(tm 7)]),mv 4 8] [4])
 (.ret))

def a62 : AFunc := ⟨2,c62,[.tmp 4]⟩

def an62 : List RAnn := [
 ra 0 [1,2],ra 1 [4]]

theorem comp62 : compF Tryz.prog an62 Tryz.f62 = some a62 := by kernel_rfl

/- cmp.Compare[int] -/
def c63 : ACode :=
 .seq (rg [op 4 (.mov (ci (0)))] [0,1])
 (.seq (rg [mv 7 0,op 8 (.call .pure 100 [(tm 7)]),mv 5 8] [0,1,5])
 (.seq (rg [mv 9 1,op 10 (.call .pure 100 [(tm 9)]),mv 6 10] [0,1,5,6])
 (.seq (.seq (rg [mv 11 5] [0,1,6,11])
 (.cond (tm 11) (.seq (.seq (rg [mv 12 6] [12])
 (.cond (tm 12) (.seq (rg [op 4 (.mov (ci (0)))] [4])
 (.ret))
 (.skip)))
 (.seq (rg [op 4 (.mov (ci ((-1))))] [4])
 (.ret)))
 (.skip)))
 (.seq (.seq (rg [mv 13 6] [0,1,13])
 (.cond (tm 13) (.seq (rg [op 4 (.mov (ci (1)))] [4])
 (.ret))
 (.skip)))
 (.seq (.seq (rg [mv 14 0,mv 15 1,op 16 (.bin .lss .int (tm 14) (tm 15))] [0,1,16])
 (.cond (tm 16) (.seq (rg [op 4 (.mov (ci ((-1))))] [4])
 (.ret))
 (.skip)))
 (.seq (.seq (rg [mv 17 0,mv 18 1,op 19 (.bin .gtr .int (tm 17) (tm 18))] [19])
 (.cond (tm 19) (.seq (rg [op 4 (.mov (ci (1)))] [4])
 (.ret))
 (.skip)))
 (.seq (rg [op 4 (.mov (ci (0)))] [4])
 (.ret))))))))

def a63 : AFunc := ⟨2,c63,[.tmp 4]⟩

def an63 : List RAnn := [
 ra 0 [0,1],ra 1 [0,1,5],ra 2 [0,1,5,6],ra 3 [0,1,6,11],ra 4 [12],ra 5 [4],ra 6 [4],ra 7 [0,1,13],ra 8 [4],ra 9 [0,1,16],ra 10 [4],ra 11 [19],ra 12 [4],ra 13 [4]]

theorem comp63 : compF Tryz.prog an63 Tryz.f63 = some a63 := by kernel_rfl

/- graphdb/graph.letter -/
def c64 : ACode :=
 .seq (rg [op 2 (.mov (.cst (.bool false)))] [0])
 (.seq (rg [mv 3 0,op 4 (.bin .geq .int (tm 3) (.cst (.int .u8 97))),mv 5 4,mg 6 0 5 true,⟨some 7,.bin .leq .int (tm 6) (.cst (.int .u8 122)),some (5,true)⟩,op 8 (.pick (tm 5) (tm 7) (.cst (.bool false))),mv 9 8,mg 10 0 9 false,⟨some 11,.bin .geq .int (tm 10) (.cst (.int .u8 65)),some (9,false)⟩,mg 12 11 9 false,mg 13 0 12 true,⟨some 14,.bin .leq .int (tm 13) (.cst (.int .u8 90)),some (12,true)⟩,⟨some 15,.pick (tm 12) (tm 14) (.cst (.bool false)),some (9,false)⟩,op 16 (.pick (tm 9) (.cst (.bool true)) (tm 15)),mv 2 16] [2])
 (.ret))

def a64 : AFunc := ⟨1,c64,[.tmp 2]⟩

def an64 : List RAnn := [
 ra 0 [0],ra 1 [2]]

theorem comp64 : compF Tryz.prog an64 Tryz.f64 = some a64 := by kernel_rfl

/- graphdb/graph.cloneProps -/
/-- loop 0 of function 65 -/
def l65_0_h : List Nat := [3,8,9]

def l65_0_b : ACode :=
 .seq (rg [op 10 (.bin .lss .int (tm 9) (tm 8))] [3,8,9,10])
 (.seq (.cond (tm 10) (.skip)
 (.exit 0))
 (.seq (.block 1 (.seq (rg [mv 11 9,mv 4 11] [3,4,8,9])
 (rg [mv 12 3,mv 13 4,mv 14 3,mv 15 4,op 16 (.iaddr 6 (tm 14) (tm 15)),op 17 (.faddr 1 (tm 16)),op 18 (.load (some 5) (tm 17)),op 19 (.call .pure 102 [(tm 18)]),op 20 (.iaddr 6 (tm 12) (tm 13)),op 21 (.faddr 1 (tm 20)),⟨none,.store 5 (tm 21) (tm 19),none⟩] [3,8,9])))
 (rg [op 22 (.bin .add .int (tm 9) (ci (1))),mv 9 22] [3,8,9])))

def c65 : ACode :=
 .seq (rg [op 2 (.mov (.cst (.sl false [])))] [0])
 (.seq (rg [mv 5 0,op 6 (.call .own 101 [(tm 5)]),mv 3 6] [3])
 (.seq (.seq (rg [mv 7 3,op 8 (.len .slice (tm 7)),op 9 (.mov (ci (0)))] [3,8,9])
 (.block 0 (.loop l65_0_h l65_0_b)))
 (.seq (rg [mv 23 3,mv 2 23] [2])
 (.ret))))

def a65 : AFunc := ⟨1,c65,[.tmp 2]⟩

def an65 : List RAnn := [
 ra 0 [0],
 { id := 1,live := [3],ops := [(1,.mode .own)] },
 ra 2 [3,8,9],rh 3 [3,8,9,10] [3,8,9],ra 4 [3,4,8,9],ra 5 [3,8,9],ra 6 [3,8,9],ra 7 [2]]

theorem comp65 : compF Tryz.prog an65 Tryz.f65 = some a65 := by kernel_rfl

/- slices.Clone[[]string,string] -/
def c66 : ACode :=
 .seq (rg [op 2 (.mov (.cst (.sl false [])))] [0])
 (.seq (.seq (rg [mv 3 0,op 4 (.bin .eql .slice (tm 3) (.cst (.sl false [])))] [0,4])
 (.cond (tm 4) (.seq (rg [op 2 (.mov (.cst (.sl false [])))] [2])
 (.ret))
 (.skip)))
 (.seq (rg [op 5 (.lit true 1 (.str []) 0 []),mv 6 0,op 7 (.append 1 16 (tm 5) (tm 6)),mv 2 7] [2])
 (.ret)))

def a66 : AFunc := ⟨1,c66,[.tmp 2]⟩

def an66 : List RAnn := [
 ra 0 [0],ra 1 [0,4],ra 2 [2],
 { id := 3,live := [2],ops := [(0,.own)] }]

theorem comp66 : compF Tryz.prog an66 Tryz.f66 = some a66 := by kernel_rfl

/- slices.Contains[[]string,string] -/
def c67 : ACode :=
 .seq (rg [op 4 (.mov (.cst (.bool false)))] [0,1])
 (.seq (rg [mv 5 0,mv 6 1,op 7 (.call .pure 103 [(tm 5),(tm 6)]),op 8 (.bin .geq .int (tm 7) (ci (0))),mv 4 8] [4])
 (.ret))

def a67 : AFunc := ⟨2,c67,[.tmp 4]⟩

def an67 : List RAnn := [
 ra 0 [0,1],ra 1 [4]]

theorem comp67 : compF Tryz.prog an67 Tryz.f67 = some a67 := by kernel_rfl

/- graphdb/value.Order -/
def c68 : ACode :=
 .seq (rg [op 2 (.box 5 (tm 0)),op 3 (.box 5 (tm 1)),op 4 (.mov (ci (0)))] [2,3])
 (.seq (.region (some 6) [] [
 op 7 (.load (some 5) (tm 2)),op 8 (.call .pure 99 [(tm 7)]),op 9 (.load (some 5) (tm 3)),op 10 (.call .pure 99 [(tm 9)]),mv 5 8,mv 6 10] [2,3,5,6] none)
 (.seq (.block 0 (.seq (rg [mv 12 5,mv 13 12,mg 14 6 13 true,op 15 (.pick (tm 13) (tm 14) (.cst (.bool false))),mv 11 15] [2,3,5,6,11])
 (.cond (tm 11) (.seq (rg [op 16 (.load (some 5) (tm 2)),op 17 (.load (some 5) (tm 3)),op 18 (.call .pure 104 [(tm 16),(tm 17)]),mv 4 18] [4])
 (.ret))
 (.seq (rg [mv 20 5,mv 19 20] [2,3,6,19])
 (.cond (tm 19) (.seq (rg [op 4 (.mov (ci ((-1))))] [4])
 (.ret))
 (.seq (rg [mv 22 6,mv 21 22] [2,3,21])
 (.cond (tm 21) (.seq (rg [op 4 (.mov (ci (1)))] [4])
 (.ret))
 (.skip))))))))
 (.seq (.region (some 28) [] [
 op 23 (.faddr 0 (tm 2)),op 24 (.load none (tm 23)),op 25 (.faddr 0 (tm 3)),op 26 (.load none (tm 25)),op 27 (.call .pure 63 [(tm 24),(tm 26)]),op 28 (.faddr 1 (tm 2)),op 29 (.load none (tm 28)),op 30 (.faddr 1 (tm 3)),op 31 (.load none (tm 30)),op 32 (.call .pure 63 [(tm 29),(tm 31)]),op 33 (.faddr 2 (tm 2)),op 34 (.load none (tm 33)),op 35 (.faddr 2 (tm 3)),op 36 (.load none (tm 35)),op 37 (.call .pure 63 [(tm 34),(tm 36)]),op 38 (.faddr 3 (tm 2)),op 39 (.load none (tm 38)),op 40 (.faddr 3 (tm 3)),op 41 (.load none (tm 40)),op 42 (.call .pure 106 [(tm 39),(tm 41)]),op 43 (.faddr 4 (tm 2)),op 44 (.load none (tm 43)),op 45 (.faddr 4 (tm 3)),op 46 (.load none (tm 45)),op 47 (.call .pure 107 [(tm 44),(tm 46),(.cst (.fn 68 []))]),op 48 (.lit false 1 (.int .i64 0) 5 [(0,(tm 27)),(1,(tm 32)),(2,(tm 37)),(3,(tm 42)),(4,(tm 47))]),op 49 (.call .pure 105 [(tm 48)]),mv 4 49] [4] none)
 (.ret))))

def a68 : AFunc := ⟨2,c68,[.tmp 4]⟩

def an68 : List RAnn := [
 ra 0 [2,3],
 { id := 1,head := some 6,live := [2,3,5,6] },
 ra 2 [2,3,5,6,11],ra 3 [4],ra 4 [2,3,6,19],ra 5 [4],ra 6 [2,3,21],ra 7 [4],
 { id := 8,head := some 28,live := [4] }]

theorem comp68 : compF Tryz.prog an68 Tryz.f68 = some a68 := by kernel_rfl

/- graphdb/graph.Prop -/
/-- loop 0 of function 69 -/
def l69_0_h : List Nat := [1,4,7,8,9]

def l69_0_b : ACode :=
 .seq (rg [op 10 (.bin .lss .int (tm 9) (tm 8))] [1,4,7,8,9,10])
 (.seq (.cond (tm 10) (.skip)
 (.exit 0))
 (.seq (.block 1 (.seq (rg [op 11 (.iaddr 6 (tm 7) (tm 9)),op 12 (.load (some 6) (tm 11)),op 6 (.alloc 6 (.agg [.str [],.int .i64 0,.int .i64 0,.int .i64 0,.str [],.sl false []])),⟨none,.store 6 (tm 6) (tm 12),none⟩] [1,4,6,7,8,9])
 (.seq (rg [op 13 (.faddr 0 (tm 6)),op 14 (.load none (tm 13)),mv 15 1,op 16 (.bin .eql .str (tm 14) (tm 15))] [1,4,6,7,8,9,16])
 (.cond (tm 16) (.seq (rg [op 17 (.faddr 1 (tm 6)),op 18 (.load (some 5) (tm 17)),op 19 (.call .pure 102 [(tm 18)]),⟨none,.store 5 (tm 4) (tm 19),none⟩] [4])
 (.ret))
 (.skip)))))
 (.region none [] [op 20 (.bin .add .int (tm 9) (ci (1))),mv 9 20] [1,4,7,8,9] (some 1))))

def c69 : ACode :=
 .seq (rg [op 4 (.alloc 5 (.agg [.int .i64 0,.int .i64 0,.int .i64 0,.str [],.sl false []]))] [0,1,4])
 (.seq (.seq (rg [mv 7 0,op 8 (.len .slice (tm 7)),op 9 (.mov (ci (0)))] [1,4,7,8,9])
 (.block 0 (.loop l69_0_h l69_0_b)))
 (.seq (rg [op 21 (.call .pure 108 []),⟨none,.store 5 (tm 4) (tm 21),none⟩] [4])
 (.ret)))

def a69 : AFunc := ⟨2,c69,[.cell 4 (some 5)]⟩

def an69 : List RAnn := [
 ra 0 [0,1,4],ra 1 [1,4,7,8,9],rh 2 [1,4,7,8,9,10] [1,4,7,8,9],ra 3 [1,4,6,7,8,9],ra 4 [1,4,6,7,8,9,16],ra 5 [4],
 { id := 6,live := [1,4,7,8,9],trunc := some 1 },
 ra 7 [4]]

theorem comp69 : compF Tryz.prog an69 Tryz.f69 = some a69 := by kernel_rfl

/- graphdb/graphdbref07.parts -/
/-- loop 0 of function 70 -/
def l70_0_h : List Nat := [1,6]

def l70_0_b : ACode :=
 .seq (.seq (rg [mv 33 6,mv 34 1,op 35 (.len .slice (tm 34)),op 36 (.bin .lss .int (tm 33) (tm 35))] [1,6,36])
 (.cond (tm 36) (.skip)
 (.exit 0)))
 (.seq (.block 1 (.seq (rg [mv 39 1,mv 40 6,op 41 (.iaddr 6 (tm 39) (tm 40)),op 42 (.faddr 1 (tm 41)),op 43 (.load (some 5) (tm 42)),op 44 (.call .pure 112 [(tm 43)]),op 45 (.un .not (tm 44))] [1,6,45])
 (.cond (tm 45) (.seq (rg [op 4 (.mov (ci (8)))] [4])
 (.ret))
 (.skip))))
 (rg [mv 37 6,op 38 (.bin .add .int (tm 37) (ci (1))),mv 6 38] [1,6]))

def c70 : ACode :=
 .seq (rg [op 4 (.mov (ci (0)))] [0,1])
 (.seq (.seq (rg [mv 7 0,op 8 (.len .slice (tm 7)),op 9 (.bin .gtr .int (tm 8) (ci (8))),mv 10 9,mg 11 1 10 false,⟨some 12,.len .slice (tm 11),some (10,false)⟩,⟨some 13,.bin .gtr .int (tm 12) (ci (16)),some (10,false)⟩,op 14 (.pick (tm 10) (.cst (.bool true)) (tm 13))] [0,1,14])
 (.cond (tm 14) (.seq (rg [op 4 (.mov (ci (4)))] [4])
 (.ret))
 (.skip)))
 (.seq (rg [mv 15 1,op 16 (.call .pure 109 [(tm 15)]),mv 5 16] [0,1,5])
 (.seq (.seq (rg [mv 17 0,op 18 (.call .pure 110 [(tm 17)]),op 19 (.un .not (tm 18)),mv 20 19,mg 21 5 20 false,⟨some 22,.call .pure 110 [(tm 21)],some (20,false)⟩,⟨some 23,.un .not (tm 22),some (20,false)⟩,op 24 (.pick (tm 20) (.cst (.bool true)) (tm 23))] [0,1,5,24])
 (.cond (tm 24) (.seq (rg [op 4 (.mov (ci (6)))] [4])
 (.ret))
 (.skip)))
 (.seq (.seq (rg [mv 25 0,op 26 (.call .pure 111 [(tm 25)]),op 27 (.un .not (tm 26)),mv 28 27,mg 29 5 28 false,⟨some 30,.call .pure 111 [(tm 29)],some (28,false)⟩,⟨some 31,.un .not (tm 30),some (28,false)⟩,op 32 (.pick (tm 28) (.cst (.bool true)) (tm 31))] [1,32])
 (.cond (tm 32) (.seq (rg [op 4 (.mov (ci (26)))] [4])
 (.ret))
 (.skip)))
 (.seq (.seq (rg [op 6 (.mov (ci (0)))] [1,6])
 (.block 0 (.loop l70_0_h l70_0_b)))
 (.seq (rg [op 4 (.mov (ci (0)))] [4])
 (.ret)))))))

def a70 : AFunc := ⟨2,c70,[.tmp 4]⟩

def an70 : List RAnn := [
 ra 0 [0,1],ra 1 [0,1,14],ra 2 [4],ra 3 [0,1,5],ra 4 [0,1,5,24],ra 5 [4],ra 6 [1,32],ra 7 [4],ra 8 [1,6],rh 9 [1,6,36] [1,6],ra 11 [1,6,45],ra 12 [4],ra 10 [1,6],ra 13 [4]]

theorem comp70 : compF Tryz.prog an70 Tryz.f70 = some a70 := by kernel_rfl

/- graphdb/graphdbref07.Name -/
/-- loop 0 of function 71 -/
def l71_0_h : List Nat := [0,3]

def l71_0_b : ACode :=
 .seq (.seq (rg [mv 18 3,mv 19 0,op 20 (.len .str (tm 19)),op 21 (.bin .lss .int (tm 18) (tm 20))] [0,3,21])
 (.cond (tm 21) (.skip)
 (.exit 0)))
 (.seq (.block 1 (.seq (rg [mv 24 0,mv 25 3,op 26 (.sidx (tm 24) (tm 25)),op 27 (.call .pure 113 [(tm 26)]),op 28 (.un .not (tm 27)),mv 29 28,mg 30 0 29 true,mg 31 3 29 true,⟨some 32,.sidx (tm 30) (tm 31),some (29,true)⟩,⟨some 33,.bin .neq .int (tm 32) (.cst (.int .u8 95)),some (29,true)⟩,op 34 (.pick (tm 29) (tm 33) (.cst (.bool false))),mv 35 34,mg 36 0 35 true,mg 37 3 35 true,⟨some 38,.sidx (tm 36) (tm 37),some (35,true)⟩,⟨some 39,.bin .lss .int (tm 38) (.cst (.int .u8 48)),some (35,true)⟩,mg 40 39 35 true,mg 41 0 40 false,mg 42 3 40 false,⟨some 43,.sidx (tm 41) (tm 42),some (40,false)⟩,⟨some 44,.bin .gtr .int (tm 43) (.cst (.int .u8 57)),some (40,false)⟩,⟨some 45,.pick (tm 40) (.cst (.bool true)) (tm 44),some (35,true)⟩,op 46 (.pick (tm 35) (tm 45) (.cst (.bool false)))] [0,3,46])
 (.cond (tm 46) (.seq (rg [op 2 (.mov (.cst (.bool false)))] [2])
 (.ret))
 (.skip))))
 (rg [mv 22 3,op 23 (.bin .add .int (tm 22) (ci (1))),mv 3 23] [0,3]))

def c71 : ACode :=
 .seq (rg [op 2 (.mov (.cst (.bool false)))] [0])
 (.seq (.seq (rg [mv 4 0,op 5 (.len .str (tm 4)),op 6 (.bin .lss .int (tm 5) (ci (1))),mv 7 6,mg 8 0 7 false,⟨some 9,.len .str (tm 8),some (7,false)⟩,⟨some 10,.bin .gtr .int (tm 9) (ci (20)),some (7,false)⟩,op 11 (.pick (tm 7) (.cst (.bool true)) (tm 10)),mv 12 11,mg 13 0 12 false,⟨some 14,.sidx (tm 13) (ci (0)),some (12,false)⟩,⟨some 15,.call .pure 113 [(tm 14)],some (12,false)⟩,⟨some 16,.un .not (tm 15),some (12,false)⟩,op 17 (.pick (tm 12) (.cst (.bool true)) (tm 16))] [0,17])
 (.cond (tm 17) (.seq (rg [op 2 (.mov (.cst (.bool false)))] [2])
 (.ret))
 (.skip)))
 (.seq (.seq (rg [op 3 (.mov (ci (1)))] [0,3])
 (.block 0 (.loop l71_0_h l71_0_b)))
 (.seq (rg [op 2 (.mov (.cst (.bool true)))] [2])
 (.ret))))

def a71 : AFunc := ⟨1,c71,[.tmp 2]⟩

def an71 : List RAnn := [
 ra 0 [0],ra 1 [0,17],ra 2 [2],ra 3 [0,3],rh 4 [0,3,21] [0,3],ra 6 [0,3,46],ra 7 [2],ra 5 [0,3],ra 8 [2]]

theorem comp71 : compF Tryz.prog an71 Tryz.f71 = some a71 := by kernel_rfl

/- graphdb/graphdbref11.same -/
def c72 : ACode :=
 .seq (rg [op 2 (.box 5 (tm 0)),op 3 (.box 5 (tm 1)),op 4 (.mov (.cst (.bool false)))] [2,3])
 (.seq (rg [op 5 (.faddr 1 (tm 2)),op 6 (.load none (tm 5)),op 7 (.faddr 1 (tm 3)),op 8 (.load none (tm 7)),op 9 (.bin .eql .int (tm 6) (tm 8)),mv 10 9,⟨some 11,.faddr 2 (tm 2),some (10,true)⟩,⟨some 12,.load none (tm 11),some (10,true)⟩,⟨some 13,.faddr 2 (tm 3),some (10,true)⟩,⟨some 14,.load none (tm 13),some (10,true)⟩,⟨some 15,.bin .eql .int (tm 12) (tm 14),some (10,true)⟩,op 16 (.pick (tm 10) (tm 15) (.cst (.bool false))),mv 17 16,⟨some 18,.faddr 3 (tm 2),some (17,true)⟩,⟨some 19,.load none (tm 18),some (17,true)⟩,⟨some 20,.faddr 3 (tm 3),some (17,true)⟩,⟨some 21,.load none (tm 20),some (17,true)⟩,⟨some 22,.bin .eql .str (tm 19) (tm 21),some (17,true)⟩,op 23 (.pick (tm 17) (tm 22) (.cst (.bool false))),mv 4 23] [4])
 (.ret))

def a72 : AFunc := ⟨2,c72,[.tmp 4]⟩

def an72 : List RAnn := [
 ra 0 [2,3],ra 1 [4]]

theorem comp72 : compF Tryz.prog an72 Tryz.f72 = some a72 := by kernel_rfl

/- graphdb/graphdbref11.label -/
/-- loop 0 of function 73 -/
def l73_0_h : List Nat := [0,1,5]

def l73_0_b : ACode :=
 .seq (.seq (rg [mv 6 5,mv 7 0,op 8 (.len .slice (tm 7)),op 9 (.bin .lss .int (tm 6) (tm 8))] [0,1,5,9])
 (.cond (tm 9) (.skip)
 (.exit 0)))
 (.seq (.block 1 (.seq (rg [mv 12 0,mv 13 5,op 14 (.iaddr 1 (tm 12) (tm 13)),op 15 (.load none (tm 14)),mv 16 1,op 17 (.bin .eql .str (tm 15) (tm 16))] [0,1,5,17])
 (.cond (tm 17) (.seq (rg [op 4 (.mov (.cst (.bool true)))] [4])
 (.ret))
 (.skip))))
 (rg [mv 10 5,op 11 (.bin .add .int (tm 10) (ci (1))),mv 5 11] [0,1,5]))

def c73 : ACode :=
 .seq (rg [op 4 (.mov (.cst (.bool false)))] [0,1])
 (.seq (.seq (rg [op 5 (.mov (ci (0)))] [0,1,5])
 (.block 0 (.loop l73_0_h l73_0_b)))
 (.seq (rg [op 4 (.mov (.cst (.bool false)))] [4])
 (.ret)))

def a73 : AFunc := ⟨2,c73,[.tmp 4]⟩

def an73 : List RAnn := [
 ra 0 [0,1],ra 1 [0,1,5],rh 2 [0,1,5,9] [0,1,5],ra 4 [0,1,5,17],ra 5 [4],ra 3 [0,1,5],ra 6 [4]]

theorem comp73 : compF Tryz.prog an73 Tryz.f73 = some a73 := by kernel_rfl

/- graphdb/graphdbref11.key -/
/-- loop 0 of function 74 -/
def l74_0_h : List Nat := [0,1,5]

def l74_0_b : ACode :=
 .seq (.seq (rg [mv 6 5,mv 7 0,op 8 (.len .slice (tm 7)),op 9 (.bin .lss .int (tm 6) (tm 8))] [0,1,5,9])
 (.cond (tm 9) (.skip)
 (.exit 0)))
 (.seq (.block 1 (.seq (rg [mv 12 0,mv 13 5,op 14 (.iaddr 6 (tm 12) (tm 13)),op 15 (.faddr 0 (tm 14)),op 16 (.load none (tm 15)),mv 17 1,op 18 (.bin .eql .str (tm 16) (tm 17))] [0,1,5,18])
 (.cond (tm 18) (.seq (rg [op 4 (.mov (.cst (.bool true)))] [4])
 (.ret))
 (.skip))))
 (rg [mv 10 5,op 11 (.bin .add .int (tm 10) (ci (1))),mv 5 11] [0,1,5]))

def c74 : ACode :=
 .seq (rg [op 4 (.mov (.cst (.bool false)))] [0,1])
 (.seq (.seq (rg [op 5 (.mov (ci (0)))] [0,1,5])
 (.block 0 (.loop l74_0_h l74_0_b)))
 (.seq (rg [op 4 (.mov (.cst (.bool false)))] [4])
 (.ret)))

def a74 : AFunc := ⟨2,c74,[.tmp 4]⟩

def an74 : List RAnn := [
 ra 0 [0,1],ra 1 [0,1,5],rh 2 [0,1,5,9] [0,1,5],ra 4 [0,1,5,18],ra 5 [4],ra 3 [0,1,5],ra 6 [4]]

theorem comp74 : compF Tryz.prog an74 Tryz.f74 = some a74 := by kernel_rfl

/- graphdb/graphdbref07.Prop -/
/-- loop 0 of function 75 -/
def l75_0_h : List Nat := [0,1,4,5]

def l75_0_b : ACode :=
 .seq (.seq (rg [mv 6 5,mv 7 0,op 8 (.len .slice (tm 7)),op 9 (.bin .lss .int (tm 6) (tm 8))] [0,1,4,5,9])
 (.cond (tm 9) (.skip)
 (.exit 0)))
 (.seq (.block 1 (.seq (rg [mv 12 0,mv 13 5,op 14 (.iaddr 6 (tm 12) (tm 13)),op 15 (.faddr 0 (tm 14)),op 16 (.load none (tm 15)),mv 17 1,op 18 (.bin .eql .str (tm 16) (tm 17))] [0,1,4,5,18])
 (.cond (tm 18) (.seq (rg [mv 19 0,mv 20 5,op 21 (.iaddr 6 (tm 19) (tm 20)),op 22 (.faddr 1 (tm 21)),op 23 (.load (some 5) (tm 22)),⟨none,.store 5 (tm 4) (tm 23),none⟩] [4])
 (.ret))
 (.skip))))
 (rg [mv 10 5,op 11 (.bin .add .int (tm 10) (ci (1))),mv 5 11] [0,1,4,5]))

def c75 : ACode :=
 .seq (rg [op 4 (.alloc 5 (.agg [.int .i64 0,.int .i64 0,.int .i64 0,.str [],.sl false []]))] [0,1,4])
 (.seq (.seq (rg [op 5 (.mov (ci (0)))] [0,1,4,5])
 (.block 0 (.loop l75_0_h l75_0_b)))
 (.seq (rg [op 24 (.build [.int .i64 0,.int .i64 0,.int .i64 0,.str [],.sl false []] []),⟨none,.store 5 (tm 4) (tm 24),none⟩] [4])
 (.ret)))

def a75 : AFunc := ⟨2,c75,[.cell 4 (some 5)]⟩

def an75 : List RAnn := [
 ra 0 [0,1,4],ra 1 [0,1,4,5],rh 2 [0,1,4,5,9] [0,1,4,5],ra 4 [0,1,4,5,18],ra 5 [4],ra 3 [0,1,4,5],ra 6 [4]]

theorem comp75 : compF Tryz.prog an75 Tryz.f75 = some a75 := by kernel_rfl

/- slices.EqualFunc[[]graphdb/api.Prop,[]graphdb/api.Prop,graphdb/api.Prop,graphdb/api.Prop] -/
/-- loop 0 of function 76 -/
def l76_0_h : List Nat := [1,2,15,16,17]

def l76_0_b : ACode :=
 .seq (rg [op 18 (.bin .lss .int (tm 17) (tm 16))] [1,2,15,16,17,18])
 (.seq (.cond (tm 18) (.skip)
 (.exit 0))
 (.seq (.block 1 (.seq (rg [mv 19 17,op 20 (.iaddr 6 (tm 15) (tm 17)),op 21 (.load (some 6) (tm 20)),op 8 (.alloc 6 (.agg [.str [],.int .i64 0,.int .i64 0,.int .i64 0,.str [],.sl false []])),mv 7 19,⟨none,.store 6 (tm 8) (tm 21),none⟩] [1,2,7,8,15,16,17])
 (.seq (rg [mv 22 1,mv 23 7,op 24 (.iaddr 6 (tm 22) (tm 23)),op 25 (.load (some 6) (tm 24)),op 9 (.alloc 6 (.agg [.str [],.int .i64 0,.int .i64 0,.int .i64 0,.str [],.sl false []])),⟨none,.store 6 (tm 9) (tm 25),none⟩] [1,2,8,9,15,16,17])
 (.seq (rg [mv 26 2,op 27 (.load (some 6) (tm 8)),op 28 (.load (some 6) (tm 9)),op 29 (.callv .pure (tm 26) [(tm 27),(tm 28)]),op 30 (.un .not (tm 29))] [1,2,15,16,17,30])
 (.cond (tm 30) (.seq (rg [op 6 (.mov (.cst (.bool false)))] [6])
 (.ret))
 (.skip))))))
 (.region none [] [op 31 (.bin .add .int (tm 17) (ci (1))),mv 17 31] [1,2,15,16,17] (some 0))))

def c76 : ACode :=
 .seq (rg [op 6 (.mov (.cst (.bool false)))] [0,1,2])
 (.seq (.seq (rg [mv 10 0,op 11 (.len .slice (tm 10)),mv 12 1,op 13 (.len .slice (tm 12)),op 14 (.bin .neq .int (tm 11) (tm 13))] [0,1,2,14])
 (.cond (tm 14) (.seq (rg [op 6 (.mov (.cst (.bool false)))] [6])
 (.ret))
 (.skip)))
 (.seq (.seq (rg [mv 15 0,op 16 (.len .slice (tm 15)),op 17 (.mov (ci (0)))] [1,2,15,16,17])
 (.block 0 (.loop l76_0_h l76_0_b)))
 (.seq (rg [op 6 (.mov (.cst (.bool true)))] [6])
 (.ret))))

def a76 : AFunc := ⟨3,c76,[.tmp 6]⟩

def an76 : List RAnn := [
 ra 0 [0,1,2],ra 1 [0,1,2,14],ra 2 [6],ra 3 [1,2,15,16,17],rh 4 [1,2,15,16,17,18] [1,2,15,16,17],ra 5 [1,2,7,8,15,16,17],ra 6 [1,2,8,9,15,16,17],ra 7 [1,2,15,16,17,30],ra 8 [6],
 { id := 9,live := [1,2,15,16,17],trunc := some 0 },
 ra 10 [6]]

theorem comp76 : compF Tryz.prog an76 Tryz.f76 = some a76 := by kernel_rfl

end AI
end Go.Proofs.YtkknpgebiihkfaaGreatDoor
