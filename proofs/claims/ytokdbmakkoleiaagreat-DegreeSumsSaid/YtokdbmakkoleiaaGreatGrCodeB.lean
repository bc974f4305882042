/- Printed by a program of mine: the functions, compiled; the kernel checks each against the given form. -/
import Derived.Test.YtokdbmakkoleiaaGreatSe
import Derived.Test.YtokdbmakkoleiaaGreatProg
import Derived.Test.YtokdbmakkoleiaaGreatAb
import Derived.KernelRfl
import Derived.Test.YtokdbmakkoleiaaGreatIxF
namespace Go.Proofs.YtokdbmakkoleiaaGreat
namespace AI
/- math/bits.Len -/
def c63 : ACode :=
 .seq (.region none [] [
 op 2 (.mov (ci (0)))] [0] none)
 (.seq (.cond (.cst (.bool false)) (.seq (.region none [] [
 mv 3 0, op 4 (.conv .u32 (tm 3)), op 5 (.call .pure 83 [(tm 4)]), mv 2 5] [2] none)
 (.ret))
 (.skip))
 (.seq (.region none [] [
 mv 6 0, op 7 (.call .pure 84 [(tm 6)]), mv 2 7] [2] none)
 (.ret)))

def a63 : AFunc := ⟨1, c63, [.tmp 2]⟩

def an63 : List RAnn := [
 { id := 0, live := [0] },
 { id := 1, live := [2] },
 { id := 2, live := [2] }]

theorem comp63 : compF Tryz.prog an63 Tryz.f63 = some a63 := by kernel_rfl

/- slices.Index[[]string,string] -/
/-- loop 0 of function 64 -/
def l64_0_h : List Nat := [0, 1, 7, 8]

def l64_0_b : ACode :=
 .seq (.region none [] [
 op 9 (.bin .lss .int (tm 8) (tm 7))] [0, 1, 7, 8, 9] none)
 (.seq (.cond (tm 9) (.skip)
 (.exit 0))
 (.seq (.block 1 (.seq (.region none [] [
 mv 10 8, mv 5 10] [0, 1, 5, 7, 8] none)
 (.seq (.region none [] [
 mv 11 1, mv 12 0, mv 13 5, op 14 (.iaddr 1 (tm 12) (tm 13)), op 15 (.load none (tm 14)), op 16 (.bin .eql .str (tm 11) (tm 15))] [0, 1, 5, 7, 8, 16] none)
 (.cond (tm 16) (.seq (.region none [] [
 mv 17 5, mv 4 17] [4] none)
 (.ret))
 (.skip)))))
 (.region none [] [
 op 18 (.bin .add .int (tm 8) (ci (1))), mv 8 18] [0, 1, 7, 8] none)))

def c64 : ACode :=
 .seq (.region none [] [
 op 4 (.mov (ci (0)))] [0, 1] none)
 (.seq (.seq (.region none [] [
 mv 6 0, op 7 (.len .slice (tm 6)), op 8 (.mov (ci (0)))] [0, 1, 7, 8] none)
 (.block 0 (.loop l64_0_h l64_0_b)))
 (.seq (.region none [] [
 op 4 (.mov (ci ((-1))))] [4] none)
 (.ret)))

def a64 : AFunc := ⟨2, c64, [.tmp 4]⟩

def an64 : List RAnn := [
 { id := 0, live := [0, 1] },
 { id := 1, live := [0, 1, 7, 8] },
 { id := 2, live := [0, 1, 7, 8, 9], hdr := [0, 1, 7, 8] },
 { id := 3, live := [0, 1, 5, 7, 8] },
 { id := 4, live := [0, 1, 5, 7, 8, 16] },
 { id := 5, live := [4] },
 { id := 6, live := [0, 1, 7, 8] },
 { id := 7, live := [4] }]

theorem comp64 : compF Tryz.prog an64 Tryz.f64 = some a64 := by kernel_rfl

/- slices.pdqsortCmpFunc[int] -/
/-- loop 0 of function 65 -/
def l65_0_h : List Nat := [0, 1, 2, 3, 4, 10, 11]

def l65_0_b : ACode :=
 .block 1 (.seq (.region none [] [
 mv 21 2, mv 22 1, op 23 (.bin .sub .int (tm 21) (tm 22)), mv 12 23] [0, 1, 2, 3, 4, 10, 11, 12] none)
 (.seq (.seq (.region none [] [
 mv 24 12, op 25 (.bin .leq .int (tm 24) (ci (12)))] [0, 1, 2, 3, 4, 10, 11, 12, 25] none)
 (.cond (tm 25) (.seq (.region none [] [
 mv 26 0, mv 27 1, mv 28 2, mv 29 4, op 30 (.call .share 85 [(tm 26), (tm 27), (tm 28), (tm 29)])] [] none)
 (.ret))
 (.skip)))
 (.seq (.seq (.region none [] [
 mv 31 3, op 32 (.bin .eql .int (tm 31) (ci (0)))] [0, 1, 2, 3, 4, 10, 11, 12, 32] none)
 (.cond (tm 32) (.seq (.region none [] [
 mv 33 0, mv 34 1, mv 35 2, mv 36 4, op 37 (.call .share 86 [(tm 33), (tm 34), (tm 35), (tm 36)])] [] none)
 (.ret))
 (.skip)))
 (.seq (.seq (.region none [] [
 mv 38 10, op 39 (.un .not (tm 38))] [0, 1, 2, 3, 4, 10, 11, 12, 39] none)
 (.cond (tm 39) (.seq (.region none [] [
 mv 40 0, mv 41 1, mv 42 2, mv 43 4, op 44 (.call .share 87 [(tm 40), (tm 41), (tm 42), (tm 43)])] [0, 1, 2, 3, 4, 10, 11, 12] none)
 (.region none [] [
 mv 45 3, op 46 (.bin .sub .int (tm 45) (ci (1))), mv 3 46] [0, 1, 2, 3, 4, 10, 11, 12] none))
 (.skip)))
 (.seq (.region none [] [
 mv 48 0, mv 49 1, mv 50 2, mv 51 4, op 52 (.call .share 88 [(tm 48), (tm 49), (tm 50), (tm 51)]), mv 47 52, op 53 (.ext (tm 47) 0), op 54 (.ext (tm 47) 1), mv 13 53, mv 14 54] [0, 1, 2, 3, 4, 10, 11, 12, 13, 14] none)
 (.seq (.seq (.region none [] [
 mv 55 14, op 56 (.bin .eql .int (tm 55) (ci (2)))] [0, 1, 2, 3, 4, 10, 11, 12, 13, 14, 56] none)
 (.cond (tm 56) (.seq (.region none [] [
 mv 57 0, mv 58 1, mv 59 2, mv 60 4, op 61 (.call .share 89 [(tm 57), (tm 58), (tm 59), (tm 60)])] [0, 1, 2, 3, 4, 10, 11, 12, 13] none)
 (.seq (.region none [] [
 mv 62 2, op 63 (.bin .sub .int (tm 62) (ci (1))), mv 64 13, mv 65 1, op 66 (.bin .sub .int (tm 64) (tm 65)), op 67 (.bin .sub .int (tm 63) (tm 66)), mv 13 67] [0, 1, 2, 3, 4, 10, 11, 12, 13] none)
 (.region none [] [
 op 14 (.mov (ci (1)))] [0, 1, 2, 3, 4, 10, 11, 12, 13, 14] none)))
 (.skip)))
 (.seq (.seq (.region none [] [
 mv 68 10, mv 69 68, mg 70 11 69 true, op 71 (.pick (tm 69) (tm 70) (.cst (.bool false))), mv 72 71, mg 73 14 72 true, ⟨some 74, .bin .eql .int (tm 73) (ci (1)), some (72, true)⟩, op 75 (.pick (tm 72) (tm 74) (.cst (.bool false)))] [0, 1, 2, 3, 4, 10, 11, 12, 13, 75] none)
 (.cond (tm 75) (.seq (.region none [] [
 mv 76 0, mv 77 1, mv 78 2, mv 79 4, op 80 (.call .share 90 [(tm 76), (tm 77), (tm 78), (tm 79)])] [0, 1, 2, 3, 4, 10, 11, 12, 13, 80] none)
 (.cond (tm 80) (.ret)
 (.skip)))
 (.skip)))
 (.seq (.seq (.region (some 17) [] [
 mv 81 1, op 82 (.bin .gtr .int (tm 81) (ci (0))), mv 83 82, mg 84 4 83 true, mg 85 0 83 true, mg 86 1 83 true, ⟨some 87, .bin .sub .int (tm 86) (ci (1)), some (83, true)⟩, ⟨some 88, .iaddr 1 (tm 85) (tm 87), some (83, true)⟩, ⟨some 89, .load none (tm 88), some (83, true)⟩, mg 90 0 83 true, mg 91 13 83 true, ⟨some 92, .iaddr 1 (tm 90) (tm 91), some (83, true)⟩, ⟨some 93, .load none (tm 92), some (83, true)⟩, ⟨some 94, .callv .pure (tm 84) [(tm 89), (tm 93)], some (83, true)⟩, ⟨some 95, .bin .lss .int (tm 94) (ci (0)), some (83, true)⟩, ⟨some 96, .un .not (tm 95), some (83, true)⟩, op 97 (.pick (tm 83) (tm 96) (.cst (.bool false)))] [0, 1, 2, 3, 4, 10, 11, 12, 13, 97] none)
 (.cond (tm 97) (.seq (.region none [] [
 mv 98 0, mv 99 1, mv 100 2, mv 101 13, mv 102 4, op 103 (.call .share 91 [(tm 98), (tm 99), (tm 100), (tm 101), (tm 102)]), mv 15 103] [0, 2, 3, 4, 10, 11, 15] none)
 (.seq (.region none [] [
 mv 104 15, mv 1 104] [0, 1, 2, 3, 4, 10, 11] none)
 (.exit 1)))
 (.skip)))
 (.seq (.region none [] [
 mv 106 0, mv 107 1, mv 108 2, mv 109 13, mv 110 4, op 111 (.call .share 92 [(tm 106), (tm 107), (tm 108), (tm 109), (tm 110)]), mv 105 111, op 112 (.ext (tm 105) 0), op 113 (.ext (tm 105) 1), mv 16 112, mv 17 113] [0, 1, 2, 3, 4, 12, 16, 17] none)
 (.seq (.region none [] [
 mv 114 17, mv 11 114] [0, 1, 2, 3, 4, 11, 12, 16] none)
 (.seq (.region none [] [
 mv 115 16, mv 116 1, op 117 (.bin .sub .int (tm 115) (tm 116)), mv 118 2, mv 119 16, op 120 (.bin .sub .int (tm 118) (tm 119)), mv 18 117, mv 19 120] [0, 1, 2, 3, 4, 11, 12, 16, 18, 19] none)
 (.seq (.region none [] [
 mv 121 12, op 122 (.bin .quo .int (tm 121) (ci (8))), mv 20 122] [0, 1, 2, 3, 4, 11, 16, 18, 19, 20] none)
 (.seq (.region none [] [
 mv 123 18, mv 124 19, op 125 (.bin .lss .int (tm 123) (tm 124))] [0, 1, 2, 3, 4, 11, 16, 18, 19, 20, 125] none)
 (.cond (tm 125) (.seq (.region none [] [
 mv 126 18, mv 127 20, op 128 (.bin .geq .int (tm 126) (tm 127)), mv 10 128] [0, 1, 2, 3, 4, 10, 11, 16] none)
 (.seq (.region none [] [
 mv 129 0, mv 130 1, mv 131 16, mv 132 3, mv 133 4, op 134 (.call .share 65 [(tm 129), (tm 130), (tm 131), (tm 132), (tm 133)])] [0, 2, 3, 4, 10, 11, 16] none)
 (.region none [] [
 mv 135 16, op 136 (.bin .add .int (tm 135) (ci (1))), mv 1 136] [0, 1, 2, 3, 4, 10, 11] none)))
 (.seq (.region none [] [
 mv 137 19, mv 138 20, op 139 (.bin .geq .int (tm 137) (tm 138)), mv 10 139] [0, 1, 2, 3, 4, 10, 11, 16] none)
 (.seq (.region none [] [
 mv 140 0, mv 141 16, op 142 (.bin .add .int (tm 141) (ci (1))), mv 143 2, mv 144 3, mv 145 4, op 146 (.call .share 65 [(tm 140), (tm 142), (tm 143), (tm 144), (tm 145)])] [0, 1, 3, 4, 10, 11, 16] none)
 (.region none [] [
 mv 147 16, mv 2 147] [0, 1, 2, 3, 4, 10, 11] none)))))))))))))))))

def c65 : ACode :=
 .seq (.region none [] [
 op 10 (.mov (.cst (.bool true)))] [0, 1, 2, 3, 4, 10] none)
 (.seq (.region none [] [
 op 11 (.mov (.cst (.bool true)))] [0, 1, 2, 3, 4, 10, 11] none)
 (.block 0 (.loop l65_0_h l65_0_b)))

def a65 : AFunc := ⟨5, c65, []⟩

def an65 : List RAnn := [
 { id := 0, live := [0, 1, 2, 3, 4, 10] },
 { id := 1, live := [0, 1, 2, 3, 4, 10, 11] },
 { id := 2, live := [0, 1, 2, 3, 4, 10, 11, 12], hdr := [0, 1, 2, 3, 4, 10, 11] },
 { id := 3, live := [0, 1, 2, 3, 4, 10, 11, 12, 25] },
 { id := 4, ops := [(4, .mode .share)] },
 { id := 5, live := [0, 1, 2, 3, 4, 10, 11, 12, 32] },
 { id := 6, ops := [(4, .mode .share)] },
 { id := 7, live := [0, 1, 2, 3, 4, 10, 11, 12, 39] },
 { id := 8, live := [0, 1, 2, 3, 4, 10, 11, 12], ops := [(4, .mode .share)] },
 { id := 9, live := [0, 1, 2, 3, 4, 10, 11, 12] },
 { id := 10, live := [0, 1, 2, 3, 4, 10, 11, 12, 13, 14], ops := [(4, .mode .share)] },
 { id := 11, live := [0, 1, 2, 3, 4, 10, 11, 12, 13, 14, 56] },
 { id := 12, live := [0, 1, 2, 3, 4, 10, 11, 12, 13], ops := [(4, .mode .share)] },
 { id := 13, live := [0, 1, 2, 3, 4, 10, 11, 12, 13] },
 { id := 14, live := [0, 1, 2, 3, 4, 10, 11, 12, 13, 14] },
 { id := 15, live := [0, 1, 2, 3, 4, 10, 11, 12, 13, 75] },
 { id := 16, live := [0, 1, 2, 3, 4, 10, 11, 12, 13, 80], ops := [(4, .mode .share)] },
 { id := 17, head := some 17, live := [0, 1, 2, 3, 4, 10, 11, 12, 13, 97] },
 { id := 18, live := [0, 2, 3, 4, 10, 11, 15], ops := [(5, .mode .share)] },
 { id := 19, live := [0, 1, 2, 3, 4, 10, 11] },
 { id := 20, live := [0, 1, 2, 3, 4, 12, 16, 17], ops := [(5, .mode .share)] },
 { id := 21, live := [0, 1, 2, 3, 4, 11, 12, 16] },
 { id := 22, live := [0, 1, 2, 3, 4, 11, 12, 16, 18, 19] },
 { id := 23, live := [0, 1, 2, 3, 4, 11, 16, 18, 19, 20] },
 { id := 24, live := [0, 1, 2, 3, 4, 11, 16, 18, 19, 20, 125] },
 { id := 25, live := [0, 1, 2, 3, 4, 10, 11, 16] },
 { id := 26, live := [0, 2, 3, 4, 10, 11, 16], ops := [(5, .mode .share)] },
 { id := 27, live := [0, 1, 2, 3, 4, 10, 11] },
 { id := 28, live := [0, 1, 2, 3, 4, 10, 11, 16] },
 { id := 29, live := [0, 1, 3, 4, 10, 11, 16], ops := [(6, .mode .share)] },
 { id := 30, live := [0, 1, 2, 3, 4, 10, 11] }]

theorem comp65 : compF Tryz.prog an65 Tryz.f65 = some a65 := by kernel_rfl

/- graphdb/graphdbref07.keys -/
/-- loop 0 of function 66 -/
def l66_0_h : List Nat := [0, 3, 4]

def l66_0_b : ACode :=
 .seq (.seq (.region none [] [
 mv 5 4, mv 6 0, op 7 (.len .slice (tm 6)), op 8 (.bin .lss .int (tm 5) (tm 7))] [0, 3, 4, 8] none)
 (.cond (tm 8) (.skip)
 (.exit 0)))
 (.seq (.block 1 (.region none [] [
 mv 11 3, mv 12 0, mv 13 4, op 14 (.iaddr 6 (tm 12) (tm 13)), op 15 (.faddr 0 (tm 14)), op 16 (.load none (tm 15)), op 17 (.lit false 1 (.str []) 1 [(0, (tm 16))]), op 18 (.append 1 16 (tm 11) (tm 17)), mv 3 18] [0, 3, 4] none))
 (.region none [] [
 mv 9 4, op 10 (.bin .add .int (tm 9) (ci (1))), mv 4 10] [0, 3, 4] none))

def c66 : ACode :=
 .seq (.region none [] [
 op 2 (.mov (.cst (.sl false [])))] [0] none)
 (.seq (.region none [] [
 op 3 (.newown 1)] [0, 3] none)
 (.seq (.seq (.region none [] [
 op 4 (.mov (ci (0)))] [0, 3, 4] none)
 (.block 0 (.loop l66_0_h l66_0_b)))
 (.seq (.region none [] [
 mv 19 3, mv 2 19] [2] none)
 (.ret))))

def a66 : AFunc := ⟨1, c66, [.tmp 2]⟩

def an66 : List RAnn := [
 { id := 0, live := [0] },
 { id := 1, live := [0, 3], ops := [(0, .own)] },
 { id := 2, live := [0, 3, 4] },
 { id := 3, live := [0, 3, 4, 8], hdr := [0, 3, 4] },
 { id := 5, live := [0, 3, 4] },
 { id := 4, live := [0, 3, 4] },
 { id := 6, live := [2] }]

theorem comp66 : compF Tryz.prog an66 Tryz.f66 = some a66 := by kernel_rfl

/- graphdb/graphdbref07.Names -/
/-- loop 0 of function 67 -/
def l67_0_h : List Nat := [0, 3]

def l67_0_b : ACode :=
 .seq (.seq (.region none [] [
 mv 4 3, mv 5 0, op 6 (.len .slice (tm 5)), op 7 (.bin .lss .int (tm 4) (tm 6))] [0, 3, 7] none)
 (.cond (tm 7) (.skip)
 (.exit 0)))
 (.seq (.block 1 (.seq (.region none [] [
 mv 10 0, mv 11 3, op 12 (.iaddr 1 (tm 10) (tm 11)), op 13 (.load none (tm 12)), op 14 (.call .pure 52 [(tm 13)]), op 15 (.un .not (tm 14))] [0, 3, 15] none)
 (.cond (tm 15) (.seq (.region none [] [
 op 2 (.mov (.cst (.bool false)))] [2] none)
 (.ret))
 (.skip))))
 (.region none [] [
 mv 8 3, op 9 (.bin .add .int (tm 8) (ci (1))), mv 3 9] [0, 3] none))

def c67 : ACode :=
 .seq (.region none [] [
 op 2 (.mov (.cst (.bool false)))] [0] none)
 (.seq (.seq (.region none [] [
 op 3 (.mov (ci (0)))] [0, 3] none)
 (.block 0 (.loop l67_0_h l67_0_b)))
 (.seq (.region none [] [
 op 2 (.mov (.cst (.bool true)))] [2] none)
 (.ret)))

def a67 : AFunc := ⟨1, c67, [.tmp 2]⟩

def an67 : List RAnn := [
 { id := 0, live := [0] },
 { id := 1, live := [0, 3] },
 { id := 2, live := [0, 3, 7], hdr := [0, 3] },
 { id := 4, live := [0, 3, 15] },
 { id := 5, live := [2] },
 { id := 3, live := [0, 3] },
 { id := 6, live := [2] }]

theorem comp67 : compF Tryz.prog an67 Tryz.f67 = some a67 := by kernel_rfl

/- graphdb/graphdbref07.Rises -/
/-- loop 0 of function 68 -/
def l68_0_h : List Nat := [0, 3]

def l68_0_b : ACode :=
 .seq (.seq (.region none [] [
 mv 4 3, mv 5 0, op 6 (.len .slice (tm 5)), op 7 (.bin .lss .int (tm 4) (tm 6))] [0, 3, 7] none)
 (.cond (tm 7) (.skip)
 (.exit 0)))
 (.seq (.block 1 (.seq (.region (some 10) [] [
 mv 10 0, mv 11 3, op 12 (.iaddr 1 (tm 10) (tm 11)), op 13 (.load none (tm 12)), mv 14 0, mv 15 3, op 16 (.bin .sub .int (tm 15) (ci (1))), op 17 (.iaddr 1 (tm 14) (tm 16)), op 18 (.load none (tm 17)), op 19 (.bin .leq .str (tm 13) (tm 18))] [0, 3, 19] none)
 (.cond (tm 19) (.seq (.region none [] [
 op 2 (.mov (.cst (.bool false)))] [2] none)
 (.ret))
 (.skip))))
 (.region none [] [
 mv 8 3, op 9 (.bin .add .int (tm 8) (ci (1))), mv 3 9] [0, 3] none))

def c68 : ACode :=
 .seq (.region none [] [
 op 2 (.mov (.cst (.bool false)))] [0] none)
 (.seq (.seq (.region none [] [
 op 3 (.mov (ci (1)))] [0, 3] none)
 (.block 0 (.loop l68_0_h l68_0_b)))
 (.seq (.region none [] [
 op 2 (.mov (.cst (.bool true)))] [2] none)
 (.ret)))

def a68 : AFunc := ⟨1, c68, [.tmp 2]⟩

def an68 : List RAnn := [
 { id := 0, live := [0] },
 { id := 1, live := [0, 3] },
 { id := 2, live := [0, 3, 7], hdr := [0, 3] },
 { id := 4, head := some 10, live := [0, 3, 19] },
 { id := 5, live := [2] },
 { id := 3, live := [0, 3] },
 { id := 6, live := [2] }]

theorem comp68 : compF Tryz.prog an68 Tryz.f68 = some a68 := by kernel_rfl

/- graphdb/graphdbref04.Plain -/
def c69 : ACode :=
 .seq (.region none [] [
 op 1 (.box 5 (tm 0)), op 2 (.mov (.cst (.bool false)))] [1] none)
 (.seq (.region none [] [
 op 3 (.load (some 5) (tm 1)), op 4 (.call .pure 93 [(tm 3)]), mv 5 4, ⟨some 6, .faddr 0 (tm 1), some (5, true)⟩, ⟨some 7, .load none (tm 6), some (5, true)⟩, ⟨some 8, .bin .eql .int (tm 7) (ci (1)), some (5, true)⟩, mg 9 8 5 true, ⟨some 10, .faddr 0 (tm 1), some (9, false)⟩, ⟨some 11, .load none (tm 10), some (9, false)⟩, ⟨some 12, .bin .eql .int (tm 11) (ci (2)), some (9, false)⟩, ⟨some 13, .pick (tm 9) (.cst (.bool true)) (tm 12), some (5, true)⟩, mg 14 13 5 true, ⟨some 15, .faddr 0 (tm 1), some (14, false)⟩, ⟨some 16, .load none (tm 15), some (14, false)⟩, ⟨some 17, .bin .eql .int (tm 16) (ci (4)), some (14, false)⟩, ⟨some 18, .pick (tm 14) (.cst (.bool true)) (tm 17), some (5, true)⟩, op 19 (.pick (tm 5) (tm 18) (.cst (.bool false))), mv 2 19] [2] none)
 (.ret))

def a69 : AFunc := ⟨1, c69, [.tmp 2]⟩

def an69 : List RAnn := [
 { id := 0, live := [1] },
 { id := 1, live := [2] }]

theorem comp69 : compF Tryz.prog an69 Tryz.f69 = some a69 := by kernel_rfl

/- graphdb/graphdbref07.letter -/
def c70 : ACode :=
 .seq (.region none [] [
 op 2 (.mov (.cst (.bool false)))] [0] none)
 (.seq (.region none [] [
 mv 3 0, op 4 (.bin .geq .int (tm 3) (.cst (.int .u8 97))), mv 5 4, mg 6 0 5 true, ⟨some 7, .bin .leq .int (tm 6) (.cst (.int .u8 122)), some (5, true)⟩, op 8 (.pick (tm 5) (tm 7) (.cst (.bool false))), mv 9 8, mg 10 0 9 false, ⟨some 11, .bin .geq .int (tm 10) (.cst (.int .u8 65)), some (9, false)⟩, mg 12 11 9 false, mg 13 0 12 true, ⟨some 14, .bin .leq .int (tm 13) (.cst (.int .u8 90)), some (12, true)⟩, ⟨some 15, .pick (tm 12) (tm 14) (.cst (.bool false)), some (9, false)⟩, op 16 (.pick (tm 9) (.cst (.bool true)) (tm 15)), mv 2 16] [2] none)
 (.ret))

def a70 : AFunc := ⟨1, c70, [.tmp 2]⟩

def an70 : List RAnn := [
 { id := 0, live := [0] },
 { id := 1, live := [2] }]

theorem comp70 : compF Tryz.prog an70 Tryz.f70 = some a70 := by kernel_rfl

/- slices.IndexFunc[[]string,string] -/
/-- loop 0 of function 71 -/
def l71_0_h : List Nat := [0, 1, 7, 8]

def l71_0_b : ACode :=
 .seq (.region none [] [
 op 9 (.bin .lss .int (tm 8) (tm 7))] [0, 1, 7, 8, 9] none)
 (.seq (.cond (tm 9) (.skip)
 (.exit 0))
 (.seq (.block 1 (.seq (.region none [] [
 mv 10 8, mv 5 10] [0, 1, 5, 7, 8] none)
 (.seq (.region none [] [
 mv 11 1, mv 12 0, mv 13 5, op 14 (.iaddr 1 (tm 12) (tm 13)), op 15 (.load none (tm 14)), op 16 (.callv .pure (tm 11) [(tm 15)])] [0, 1, 5, 7, 8, 16] none)
 (.cond (tm 16) (.seq (.region none [] [
 mv 17 5, mv 4 17] [4] none)
 (.ret))
 (.skip)))))
 (.region none [] [
 op 18 (.bin .add .int (tm 8) (ci (1))), mv 8 18] [0, 1, 7, 8] none)))

def c71 : ACode :=
 .seq (.region none [] [
 op 4 (.mov (ci (0)))] [0, 1] none)
 (.seq (.seq (.region none [] [
 mv 6 0, op 7 (.len .slice (tm 6)), op 8 (.mov (ci (0)))] [0, 1, 7, 8] none)
 (.block 0 (.loop l71_0_h l71_0_b)))
 (.seq (.region none [] [
 op 4 (.mov (ci ((-1))))] [4] none)
 (.ret)))

def a71 : AFunc := ⟨2, c71, [.tmp 4]⟩

def an71 : List RAnn := [
 { id := 0, live := [0, 1] },
 { id := 1, live := [0, 1, 7, 8] },
 { id := 2, live := [0, 1, 7, 8, 9], hdr := [0, 1, 7, 8] },
 { id := 3, live := [0, 1, 5, 7, 8] },
 { id := 4, live := [0, 1, 5, 7, 8, 16] },
 { id := 5, live := [4] },
 { id := 6, live := [0, 1, 7, 8] },
 { id := 7, live := [4] }]

theorem comp71 : compF Tryz.prog an71 Tryz.f71 = some a71 := by kernel_rfl

/- graphdb/value.Valid -/
def c72 : ACode :=
 .seq (.region none [] [
 op 1 (.box 5 (tm 0)), op 2 (.mov (.cst (.bool false)))] [1] none)
 (.seq (.region none [] [
 op 3 (.load (some 5) (tm 1)), op 4 (.call .pure 94 [(tm 3), (ci (0))]), mv 2 4] [2] none)
 (.ret))

def a72 : AFunc := ⟨1, c72, [.tmp 2]⟩

def an72 : List RAnn := [
 { id := 0, live := [1] },
 { id := 1, live := [2] }]

theorem comp72 : compF Tryz.prog an72 Tryz.f72 = some a72 := by kernel_rfl

/- cmp.isNaN[int] -/
def c73 : ACode :=
 .seq (.region none [] [
 op 2 (.mov (.cst (.bool false)))] [0] none)
 (.seq (.region none [] [
 mv 3 0, mv 4 0, op 5 (.bin .neq .int (tm 3) (tm 4)), mv 2 5] [2] none)
 (.ret))

def a73 : AFunc := ⟨1, c73, [.tmp 2]⟩

def an73 : List RAnn := [
 { id := 0, live := [0] },
 { id := 1, live := [2] }]

theorem comp73 : compF Tryz.prog an73 Tryz.f73 = some a73 := by kernel_rfl

/- slices.insertionSortOrdered[string] -/
/-- loop 0 of function 74 -/
def l74_0_h : List Nat := [0, 1, 2, 6, 7]

def l74_0_b : ACode :=
 .seq (.seq (.region (some 15) [] [
 mv 16 7, mv 17 1, op 18 (.bin .gtr .int (tm 16) (tm 17)), mv 19 18, mg 20 0 19 true, mg 21 7 19 true, ⟨some 22, .iaddr 1 (tm 20) (tm 21), some (19, true)⟩, ⟨some 23, .load none (tm 22), some (19, true)⟩, mg 24 0 19 true, mg 25 7 19 true, ⟨some 26, .bin .sub .int (tm 25) (ci (1)), some (19, true)⟩, ⟨some 27, .iaddr 1 (tm 24) (tm 26), some (19, true)⟩, ⟨some 28, .load none (tm 27), some (19, true)⟩, ⟨some 29, .call .pure 80 [(tm 23), (tm 28)], some (19, true)⟩, op 30 (.pick (tm 19) (tm 29) (.cst (.bool false)))] [0, 1, 2, 6, 7, 30] none)
 (.cond (tm 30) (.skip)
 (.exit 2)))
 (.seq (.block 3 (.par 18 [] [] [
 mv 33 0, mv 34 7, mv 35 0, mv 36 7, op 37 (.bin .sub .int (tm 36) (ci (1))), mv 38 0, mv 39 7, op 40 (.bin .sub .int (tm 39) (ci (1))), op 41 (.iaddr 1 (tm 38) (tm 40)), op 42 (.load none (tm 41)), mv 43 0, mv 44 7, op 45 (.iaddr 1 (tm 43) (tm 44)), op 46 (.load none (tm 45)), op 47 (.iaddr 1 (tm 33) (tm 34)), ⟨none, .store 1 (tm 47) (tm 42), none⟩, op 48 (.iaddr 1 (tm 35) (tm 37)), ⟨none, .store 1 (tm 48) (tm 46), none⟩] [0, 1, 2, 6, 7] none))
 (.region none [] [
 mv 31 7, op 32 (.bin .sub .int (tm 31) (ci (1))), mv 7 32] [0, 1, 2, 6, 7] none))

/-- loop 1 of function 74 -/
def l74_1_h : List Nat := [0, 1, 2, 6]

def l74_1_b : ACode :=
 .seq (.seq (.region none [] [
 mv 10 6, mv 11 2, op 12 (.bin .lss .int (tm 10) (tm 11))] [0, 1, 2, 6, 12] none)
 (.cond (tm 12) (.skip)
 (.exit 0)))
 (.seq (.block 1 (.seq (.region none [] [
 mv 15 6, mv 7 15] [0, 1, 2, 6, 7] none)
 (.block 2 (.loop l74_0_h l74_0_b))))
 (.region none [] [
 mv 13 6, op 14 (.bin .add .int (tm 13) (ci (1))), mv 6 14] [0, 1, 2, 6] none))

def c74 : ACode :=
 .seq (.region none [] [
 mv 8 1, op 9 (.bin .add .int (tm 8) (ci (1))), mv 6 9] [0, 1, 2, 6] none)
 (.block 0 (.loop l74_1_h l74_1_b))

def a74 : AFunc := ⟨3, c74, []⟩

def an74 : List RAnn := [
 { id := 0, live := [0, 1, 2, 6] },
 { id := 1, live := [0, 1, 2, 6, 12], hdr := [0, 1, 2, 6] },
 { id := 3, live := [0, 1, 2, 6, 7] },
 { id := 4, head := some 15, live := [0, 1, 2, 6, 7, 30], hdr := [0, 1, 2, 6, 7] },
 { id := 6, head := some 18, live := [0, 1, 2, 6, 7], par := true },
 { id := 5, live := [0, 1, 2, 6, 7] },
 { id := 2, live := [0, 1, 2, 6] }]

theorem comp74 : compF Tryz.prog an74 Tryz.f74 = some a74 := by kernel_rfl

/- slices.heapSortOrdered[string] -/
/-- loop 0 of function 75 -/
def l75_0_h : List Nat := [0, 6, 7, 8, 9]

def l75_0_b : ACode :=
 .seq (.seq (.region none [] [
 mv 18 9, op 19 (.bin .geq .int (tm 18) (ci (0)))] [0, 6, 7, 8, 9, 19] none)
 (.cond (tm 19) (.skip)
 (.exit 0)))
 (.seq (.block 1 (.region none [] [
 mv 22 0, mv 23 9, mv 24 8, mv 25 6, op 26 (.call .share 95 [(tm 22), (tm 23), (tm 24), (tm 25)])] [0, 6, 7, 8, 9] none))
 (.region none [] [
 mv 20 9, op 21 (.bin .sub .int (tm 20) (ci (1))), mv 9 21] [0, 6, 7, 8, 9] none))

/-- loop 1 of function 75 -/
def l75_1_h : List Nat := [0, 6, 7, 10]

def l75_1_b : ACode :=
 .seq (.seq (.region none [] [
 mv 29 10, op 30 (.bin .geq .int (tm 29) (ci (0)))] [0, 6, 7, 10, 30] none)
 (.cond (tm 30) (.skip)
 (.exit 2)))
 (.seq (.block 3 (.seq (.par 20 [] [] [
 mv 33 0, mv 34 6, mv 35 0, mv 36 6, mv 37 10, op 38 (.bin .add .int (tm 36) (tm 37)), mv 39 0, mv 40 6, mv 41 10, op 42 (.bin .add .int (tm 40) (tm 41)), op 43 (.iaddr 1 (tm 39) (tm 42)), op 44 (.load none (tm 43)), mv 45 0, mv 46 6, op 47 (.iaddr 1 (tm 45) (tm 46)), op 48 (.load none (tm 47)), op 49 (.iaddr 1 (tm 33) (tm 34)), ⟨none, .store 1 (tm 49) (tm 44), none⟩, op 50 (.iaddr 1 (tm 35) (tm 38)), ⟨none, .store 1 (tm 50) (tm 48), none⟩] [0, 6, 7, 10] none)
 (.region none [] [
 mv 51 0, mv 52 7, mv 53 10, mv 54 6, op 55 (.call .share 95 [(tm 51), (tm 52), (tm 53), (tm 54)])] [0, 6, 7, 10] none)))
 (.region none [] [
 mv 31 10, op 32 (.bin .sub .int (tm 31) (ci (1))), mv 10 32] [0, 6, 7, 10] none))

def c75 : ACode :=
 .seq (.region none [] [
 mv 11 1, mv 6 11] [0, 1, 2, 6] none)
 (.seq (.region none [] [
 op 7 (.mov (ci (0)))] [0, 1, 2, 6, 7] none)
 (.seq (.region none [] [
 mv 12 2, mv 13 1, op 14 (.bin .sub .int (tm 12) (tm 13)), mv 8 14] [0, 6, 7, 8] none)
 (.seq (.seq (.region none [] [
 mv 15 8, op 16 (.bin .sub .int (tm 15) (ci (1))), op 17 (.bin .quo .int (tm 16) (ci (2))), mv 9 17] [0, 6, 7, 8, 9] none)
 (.block 0 (.loop l75_0_h l75_0_b)))
 (.seq (.region none [] [
 mv 27 8, op 28 (.bin .sub .int (tm 27) (ci (1))), mv 10 28] [0, 6, 7, 10] none)
 (.block 2 (.loop l75_1_h l75_1_b))))))

def a75 : AFunc := ⟨3, c75, []⟩

def an75 : List RAnn := [
 { id := 0, live := [0, 1, 2, 6] },
 { id := 1, live := [0, 1, 2, 6, 7] },
 { id := 2, live := [0, 6, 7, 8] },
 { id := 3, live := [0, 6, 7, 8, 9] },
 { id := 4, live := [0, 6, 7, 8, 9, 19], hdr := [0, 6, 7, 8, 9] },
 { id := 6, live := [0, 6, 7, 8, 9], ops := [(4, .mode .share)] },
 { id := 5, live := [0, 6, 7, 8, 9] },
 { id := 7, live := [0, 6, 7, 10] },
 { id := 8, live := [0, 6, 7, 10, 30], hdr := [0, 6, 7, 10] },
 { id := 10, head := some 20, live := [0, 6, 7, 10], par := true },
 { id := 11, live := [0, 6, 7, 10], ops := [(4, .mode .share)] },
 { id := 9, live := [0, 6, 7, 10] }]

theorem comp75 : compF Tryz.prog an75 Tryz.f75 = some a75 := by kernel_rfl

/- slices.breakPatternsOrdered[string] -/
/-- loop 0 of function 76 -/
def l76_0_h : List Nat := [0, 1, 6, 7, 8, 9]

def l76_0_b : ACode :=
 .seq (.seq (.region none [] [
 mv 26 9, mv 27 1, mv 28 6, op 29 (.bin .quo .int (tm 28) (ci (4))), op 30 (.bin .mul .int (tm 29) (ci (2))), op 31 (.bin .add .int (tm 27) (tm 30)), op 32 (.bin .add .int (tm 31) (ci (1))), op 33 (.bin .leq .int (tm 26) (tm 32))] [0, 1, 6, 7, 8, 9, 33] none)
 (.cond (tm 33) (.skip)
 (.exit 0)))
 (.seq (.block 1 (.seq (.region none [] [
 op 36 (.call .share 97 [(tm 7)]), mv 37 8, op 38 (.bin .sub .int (tm 37) (.cst (.int .u64 1))), op 39 (.bin .and .int (tm 36) (tm 38)), op 40 (.conv .i64 (tm 39)), mv 10 40] [0, 1, 6, 7, 8, 9, 10] none)
 (.seq (.seq (.region none [] [
 mv 41 10, mv 42 6, op 43 (.bin .geq .int (tm 41) (tm 42))] [0, 1, 6, 7, 8, 9, 10, 43] none)
 (.cond (tm 43) (.region none [] [
 mv 44 10, mv 45 6, op 46 (.bin .sub .int (tm 44) (tm 45)), mv 10 46] [0, 1, 6, 7, 8, 9, 10] none)
 (.skip)))
 (.par 20 [] [] [
 mv 47 0, mv 48 9, mv 49 0, mv 50 1, mv 51 10, op 52 (.bin .add .int (tm 50) (tm 51)), mv 53 0, mv 54 1, mv 55 10, op 56 (.bin .add .int (tm 54) (tm 55)), op 57 (.iaddr 1 (tm 53) (tm 56)), op 58 (.load none (tm 57)), mv 59 0, mv 60 9, op 61 (.iaddr 1 (tm 59) (tm 60)), op 62 (.load none (tm 61)), op 63 (.iaddr 1 (tm 47) (tm 48)), ⟨none, .store 1 (tm 63) (tm 58), none⟩, op 64 (.iaddr 1 (tm 49) (tm 52)), ⟨none, .store 1 (tm 64) (tm 62), none⟩] [0, 1, 6, 7, 8, 9] none))))
 (.region none [] [
 mv 34 9, op 35 (.bin .add .int (tm 34) (ci (1))), mv 9 35] [0, 1, 6, 7, 8, 9] none))

def c76 : ACode :=
 .seq (.region none [] [
 mv 11 2, mv 12 1, op 13 (.bin .sub .int (tm 11) (tm 12)), mv 6 13] [0, 1, 6] none)
 (.seq (.region none [] [
 mv 14 6, op 15 (.bin .geq .int (tm 14) (ci (8)))] [0, 1, 6, 15] none)
 (.cond (tm 15) (.seq (.region none [] [
 mv 16 6, op 17 (.conv .u64 (tm 16)), op 7 (.alloc 1 (.int .u64 0)), ⟨none, .store 1 (tm 7) (tm 17), none⟩] [0, 1, 6, 7] none)
 (.seq (.region none [] [
 mv 18 6, op 19 (.call .pure 96 [(tm 18)]), mv 8 19] [0, 1, 6, 7, 8] none)
 (.seq (.region none [] [
 mv 20 1, mv 21 6, op 22 (.bin .quo .int (tm 21) (ci (4))), op 23 (.bin .mul .int (tm 22) (ci (2))), op 24 (.bin .add .int (tm 20) (tm 23)), op 25 (.bin .sub .int (tm 24) (ci (1))), mv 9 25] [0, 1, 6, 7, 8, 9] none)
 (.block 0 (.loop l76_0_h l76_0_b)))))
 (.skip)))

def a76 : AFunc := ⟨3, c76, []⟩

def an76 : List RAnn := [
 { id := 0, live := [0, 1, 6] },
 { id := 1, live := [0, 1, 6, 15] },
 { id := 2, live := [0, 1, 6, 7] },
 { id := 3, live := [0, 1, 6, 7, 8] },
 { id := 4, live := [0, 1, 6, 7, 8, 9] },
 { id := 5, live := [0, 1, 6, 7, 8, 9, 33], hdr := [0, 1, 6, 7, 8, 9] },
 { id := 7, live := [0, 1, 6, 7, 8, 9, 10], ops := [(0, .mode .share)] },
 { id := 8, live := [0, 1, 6, 7, 8, 9, 10, 43] },
 { id := 9, live := [0, 1, 6, 7, 8, 9, 10] },
 { id := 10, head := some 20, live := [0, 1, 6, 7, 8, 9], par := true },
 { id := 6, live := [0, 1, 6, 7, 8, 9] }]

theorem comp76 : compF Tryz.prog an76 Tryz.f76 = some a76 := by kernel_rfl

/- slices.choosePivotOrdered[string] -/
def c77 : ACode :=
 .seq (.region none [] [
 op 6 (.mov (ci (0))), op 7 (.mov (ci (0)))] [0, 1, 2] none)
 (.seq (.region none [] [
 mv 13 2, mv 14 1, op 15 (.bin .sub .int (tm 13) (tm 14)), mv 8 15] [0, 1, 8] none)
 (.seq (.region none [] [
 op 9 (.alloc 1 (.int .i64 0))] [0, 1, 8, 9] none)
 (.seq (.region none [] [
 mv 16 1, mv 17 8, op 18 (.bin .quo .int (tm 17) (ci (4))), op 19 (.bin .mul .int (tm 18) (ci (1))), op 20 (.bin .add .int (tm 16) (tm 19)), mv 10 20] [0, 1, 8, 9, 10] none)
 (.seq (.region none [] [
 mv 21 1, mv 22 8, op 23 (.bin .quo .int (tm 22) (ci (4))), op 24 (.bin .mul .int (tm 23) (ci (2))), op 25 (.bin .add .int (tm 21) (tm 24)), mv 11 25] [0, 1, 8, 9, 10, 11] none)
 (.seq (.region none [] [
 mv 26 1, mv 27 8, op 28 (.bin .quo .int (tm 27) (ci (4))), op 29 (.bin .mul .int (tm 28) (ci (3))), op 30 (.bin .add .int (tm 26) (tm 29)), mv 12 30] [0, 8, 9, 10, 11, 12] none)
 (.seq (.seq (.region none [] [
 mv 31 8, op 32 (.bin .geq .int (tm 31) (ci (8)))] [0, 8, 9, 10, 11, 12, 32] none)
 (.cond (tm 32) (.seq (.seq (.region none [] [
 mv 33 8, op 34 (.bin .geq .int (tm 33) (ci (50)))] [0, 9, 10, 11, 12, 34] none)
 (.cond (tm 34) (.seq (.region none [] [
 mv 35 0, mv 36 10, op 37 (.call .share 98 [(tm 35), (tm 36), (tm 9)]), mv 10 37] [0, 9, 10, 11, 12] none)
 (.seq (.region none [] [
 mv 38 0, mv 39 11, op 40 (.call .share 98 [(tm 38), (tm 39), (tm 9)]), mv 11 40] [0, 9, 10, 11, 12] none)
 (.region none [] [
 mv 41 0, mv 42 12, op 43 (.call .share 98 [(tm 41), (tm 42), (tm 9)]), mv 12 43] [0, 9, 10, 11, 12] none)))
 (.skip)))
 (.region none [] [
 mv 44 0, mv 45 10, mv 46 11, mv 47 12, op 48 (.call .share 99 [(tm 44), (tm 45), (tm 46), (tm 47), (tm 9)]), mv 11 48] [9, 11] none))
 (.skip)))
 (.seq (.region none [] [
 op 49 (.load none (tm 9))] [11, 49] none)
 (.block 0 (.seq (.region none [] [
 op 52 (.bin .eql .int (tm 49) (ci (0))), mv 51 52] [11, 49, 51] none)
 (.cond (tm 51) (.seq (.region none [] [
 mv 53 11, mv 6 53, op 7 (.mov (ci (1)))] [6, 7] none)
 (.ret))
 (.seq (.region none [] [
 op 55 (.bin .eql .int (tm 49) (ci (12))), mv 54 55] [11, 54] none)
 (.cond (tm 54) (.seq (.region none [] [
 mv 56 11, mv 6 56, op 7 (.mov (ci (2)))] [6, 7] none)
 (.ret))
 (.seq (.region none [] [
 mv 50 11, mv 6 50, op 7 (.mov (ci (0)))] [6, 7] none)
 (.ret))))))))))))))

def a77 : AFunc := ⟨3, c77, [.tmp 6, .tmp 7]⟩

def an77 : List RAnn := [
 { id := 0, live := [0, 1, 2] },
 { id := 1, live := [0, 1, 8] },
 { id := 2, live := [0, 1, 8, 9] },
 { id := 3, live := [0, 1, 8, 9, 10] },
 { id := 4, live := [0, 1, 8, 9, 10, 11] },
 { id := 5, live := [0, 8, 9, 10, 11, 12] },
 { id := 6, live := [0, 8, 9, 10, 11, 12, 32] },
 { id := 7, live := [0, 9, 10, 11, 12, 34] },
 { id := 8, live := [0, 9, 10, 11, 12], ops := [(2, .mode .share)] },
 { id := 9, live := [0, 9, 10, 11, 12], ops := [(2, .mode .share)] },
 { id := 10, live := [0, 9, 10, 11, 12], ops := [(2, .mode .share)] },
 { id := 11, live := [9, 11], ops := [(4, .mode .share)] },
 { id := 12, live := [11, 49] },
 { id := 14, live := [11, 49, 51] },
 { id := 15, live := [6, 7] },
 { id := 16, live := [11, 54] },
 { id := 17, live := [6, 7] },
 { id := 13, live := [6, 7] }]

theorem comp77 : compF Tryz.prog an77 Tryz.f77 = some a77 := by kernel_rfl

/- slices.reverseRangeOrdered[string] -/
/-- loop 0 of function 78 -/
def l78_0_h : List Nat := [0, 6, 7]

def l78_0_b : ACode :=
 .seq (.seq (.region none [] [
 mv 11 6, mv 12 7, op 13 (.bin .lss .int (tm 11) (tm 12))] [0, 6, 7, 13] none)
 (.cond (tm 13) (.skip)
 (.exit 0)))
 (.block 1 (.seq (.par 16 [] [] [
 mv 14 0, mv 15 6, mv 16 0, mv 17 7, mv 18 0, mv 19 7, op 20 (.iaddr 1 (tm 18) (tm 19)), op 21 (.load none (tm 20)), mv 22 0, mv 23 6, op 24 (.iaddr 1 (tm 22) (tm 23)), op 25 (.load none (tm 24)), op 26 (.iaddr 1 (tm 14) (tm 15)), ⟨none, .store 1 (tm 26) (tm 21), none⟩, op 27 (.iaddr 1 (tm 16) (tm 17)), ⟨none, .store 1 (tm 27) (tm 25), none⟩] [0, 6, 7] none)
 (.seq (.region none [] [
 mv 28 6, op 29 (.bin .add .int (tm 28) (ci (1))), mv 6 29] [0, 6, 7] none)
 (.region none [] [
 mv 30 7, op 31 (.bin .sub .int (tm 30) (ci (1))), mv 7 31] [0, 6, 7] none))))

def c78 : ACode :=
 .seq (.region none [] [
 mv 8 1, mv 6 8] [0, 2, 6] none)
 (.seq (.region none [] [
 mv 9 2, op 10 (.bin .sub .int (tm 9) (ci (1))), mv 7 10] [0, 6, 7] none)
 (.block 0 (.loop l78_0_h l78_0_b)))

def a78 : AFunc := ⟨3, c78, []⟩

def an78 : List RAnn := [
 { id := 0, live := [0, 2, 6] },
 { id := 1, live := [0, 6, 7] },
 { id := 2, live := [0, 6, 7, 13], hdr := [0, 6, 7] },
 { id := 3, head := some 16, live := [0, 6, 7], par := true },
 { id := 4, live := [0, 6, 7] },
 { id := 5, live := [0, 6, 7] }]

theorem comp78 : compF Tryz.prog an78 Tryz.f78 = some a78 := by kernel_rfl

/- slices.partialInsertionSortOrdered[string] -/
/-- loop 0 of function 79 -/
def l79_0_h : List Nat := [0, 1, 2, 7, 8]

def l79_0_b : ACode :=
 .seq (.seq (.region (some 16) [] [
 mv 17 7, mv 18 2, op 19 (.bin .lss .int (tm 17) (tm 18)), mv 20 19, mg 21 0 20 true, mg 22 7 20 true, ⟨some 23, .iaddr 1 (tm 21) (tm 22), some (20, true)⟩, ⟨some 24, .load none (tm 23), some (20, true)⟩, mg 25 0 20 true, mg 26 7 20 true, ⟨some 27, .bin .sub .int (tm 26) (ci (1)), some (20, true)⟩, ⟨some 28, .iaddr 1 (tm 25) (tm 27), some (20, true)⟩, ⟨some 29, .load none (tm 28), some (20, true)⟩, ⟨some 30, .call .pure 80 [(tm 24), (tm 29)], some (20, true)⟩, ⟨some 31, .un .not (tm 30), some (20, true)⟩, op 32 (.pick (tm 20) (tm 31) (.cst (.bool false)))] [0, 1, 2, 7, 8, 32] none)
 (.cond (tm 32) (.skip)
 (.exit 2)))
 (.block 3 (.region none [] [
 mv 33 7, op 34 (.bin .add .int (tm 33) (ci (1))), mv 7 34] [0, 1, 2, 7, 8] none))

/-- loop 1 of function 79 -/
def l79_1_h : List Nat := [0, 1, 2, 7, 8, 9]

def l79_1_b : ACode :=
 .seq (.seq (.region none [] [
 mv 64 9, op 65 (.bin .geq .int (tm 64) (ci (1)))] [0, 1, 2, 7, 8, 9, 65] none)
 (.cond (tm 65) (.skip)
 (.exit 4)))
 (.seq (.block 5 (.seq (.seq (.region (some 11) [] [
 mv 68 0, mv 69 9, op 70 (.iaddr 1 (tm 68) (tm 69)), op 71 (.load none (tm 70)), mv 72 0, mv 73 9, op 74 (.bin .sub .int (tm 73) (ci (1))), op 75 (.iaddr 1 (tm 72) (tm 74)), op 76 (.load none (tm 75)), op 77 (.call .pure 80 [(tm 71), (tm 76)]), op 78 (.un .not (tm 77))] [0, 1, 2, 7, 8, 9, 78] none)
 (.cond (tm 78) (.exit 4)
 (.skip)))
 (.par 18 [] [] [
 mv 79 0, mv 80 9, mv 81 0, mv 82 9, op 83 (.bin .sub .int (tm 82) (ci (1))), mv 84 0, mv 85 9, op 86 (.bin .sub .int (tm 85) (ci (1))), op 87 (.iaddr 1 (tm 84) (tm 86)), op 88 (.load none (tm 87)), mv 89 0, mv 90 9, op 91 (.iaddr 1 (tm 89) (tm 90)), op 92 (.load none (tm 91)), op 93 (.iaddr 1 (tm 79) (tm 80)), ⟨none, .store 1 (tm 93) (tm 88), none⟩, op 94 (.iaddr 1 (tm 81) (tm 83)), ⟨none, .store 1 (tm 94) (tm 92), none⟩] [0, 1, 2, 7, 8, 9] none)))
 (.region none [] [
 mv 66 9, op 67 (.bin .sub .int (tm 66) (ci (1))), mv 9 67] [0, 1, 2, 7, 8, 9] none))

/-- loop 2 of function 79 -/
def l79_2_h : List Nat := [0, 1, 2, 7, 8, 10]

def l79_2_b : ACode :=
 .seq (.seq (.region none [] [
 mv 101 10, mv 102 2, op 103 (.bin .lss .int (tm 101) (tm 102))] [0, 1, 2, 7, 8, 10, 103] none)
 (.cond (tm 103) (.skip)
 (.exit 6)))
 (.seq (.block 7 (.seq (.seq (.region (some 11) [] [
 mv 106 0, mv 107 10, op 108 (.iaddr 1 (tm 106) (tm 107)), op 109 (.load none (tm 108)), mv 110 0, mv 111 10, op 112 (.bin .sub .int (tm 111) (ci (1))), op 113 (.iaddr 1 (tm 110) (tm 112)), op 114 (.load none (tm 113)), op 115 (.call .pure 80 [(tm 109), (tm 114)]), op 116 (.un .not (tm 115))] [0, 1, 2, 7, 8, 10, 116] none)
 (.cond (tm 116) (.exit 6)
 (.skip)))
 (.par 18 [] [] [
 mv 117 0, mv 118 10, mv 119 0, mv 120 10, op 121 (.bin .sub .int (tm 120) (ci (1))), mv 122 0, mv 123 10, op 124 (.bin .sub .int (tm 123) (ci (1))), op 125 (.iaddr 1 (tm 122) (tm 124)), op 126 (.load none (tm 125)), mv 127 0, mv 128 10, op 129 (.iaddr 1 (tm 127) (tm 128)), op 130 (.load none (tm 129)), op 131 (.iaddr 1 (tm 117) (tm 118)), ⟨none, .store 1 (tm 131) (tm 126), none⟩, op 132 (.iaddr 1 (tm 119) (tm 121)), ⟨none, .store 1 (tm 132) (tm 130), none⟩] [0, 1, 2, 7, 8, 10] none)))
 (.region none [] [
 mv 104 10, op 105 (.bin .add .int (tm 104) (ci (1))), mv 10 105] [0, 1, 2, 7, 8, 10] none))

/-- loop 3 of function 79 -/
def l79_3_h : List Nat := [0, 1, 2, 7, 8]

def l79_3_b : ACode :=
 .seq (.seq (.region none [] [
 mv 13 8, op 14 (.bin .lss .int (tm 13) (ci (5)))] [0, 1, 2, 7, 8, 14] none)
 (.cond (tm 14) (.skip)
 (.exit 0)))
 (.seq (.block 1 (.seq (.block 2 (.loop l79_0_h l79_0_b))
 (.seq (.seq (.region none [] [
 mv 35 7, mv 36 2, op 37 (.bin .eql .int (tm 35) (tm 36))] [0, 1, 2, 7, 8, 37] none)
 (.cond (tm 37) (.seq (.region none [] [
 op 6 (.mov (.cst (.bool true)))] [6] none)
 (.ret))
 (.skip)))
 (.seq (.seq (.region none [] [
 mv 38 2, mv 39 1, op 40 (.bin .sub .int (tm 38) (tm 39)), op 41 (.bin .lss .int (tm 40) (ci (50)))] [0, 1, 2, 7, 8, 41] none)
 (.cond (tm 41) (.seq (.region none [] [
 op 6 (.mov (.cst (.bool false)))] [6] none)
 (.ret))
 (.skip)))
 (.seq (.par 18 [] [] [
 mv 42 0, mv 43 7, mv 44 0, mv 45 7, op 46 (.bin .sub .int (tm 45) (ci (1))), mv 47 0, mv 48 7, op 49 (.bin .sub .int (tm 48) (ci (1))), op 50 (.iaddr 1 (tm 47) (tm 49)), op 51 (.load none (tm 50)), mv 52 0, mv 53 7, op 54 (.iaddr 1 (tm 52) (tm 53)), op 55 (.load none (tm 54)), op 56 (.iaddr 1 (tm 42) (tm 43)), ⟨none, .store 1 (tm 56) (tm 51), none⟩, op 57 (.iaddr 1 (tm 44) (tm 46)), ⟨none, .store 1 (tm 57) (tm 55), none⟩] [0, 1, 2, 7, 8] none)
 (.seq (.seq (.region none [] [
 mv 58 7, mv 59 1, op 60 (.bin .sub .int (tm 58) (tm 59)), op 61 (.bin .geq .int (tm 60) (ci (2)))] [0, 1, 2, 7, 8, 61] none)
 (.cond (tm 61) (.seq (.region none [] [
 mv 62 7, op 63 (.bin .sub .int (tm 62) (ci (1))), mv 9 63] [0, 1, 2, 7, 8, 9] none)
 (.block 4 (.loop l79_1_h l79_1_b)))
 (.skip)))
 (.seq (.region none [] [
 mv 95 2, mv 96 7, op 97 (.bin .sub .int (tm 95) (tm 96)), op 98 (.bin .geq .int (tm 97) (ci (2)))] [0, 1, 2, 7, 8, 98] none)
 (.cond (tm 98) (.seq (.region none [] [
 mv 99 7, op 100 (.bin .add .int (tm 99) (ci (1))), mv 10 100] [0, 1, 2, 7, 8, 10] none)
 (.block 6 (.loop l79_2_h l79_2_b)))
 (.skip)))))))))
 (.region none [] [
 mv 15 8, op 16 (.bin .add .int (tm 15) (ci (1))), mv 8 16] [0, 1, 2, 7, 8] none))

def c79 : ACode :=
 .seq (.region none [] [
 op 6 (.mov (.cst (.bool false)))] [0, 1, 2] none)
 (.seq (.region none [] [
 mv 11 1, op 12 (.bin .add .int (tm 11) (ci (1))), mv 7 12] [0, 1, 2, 7] none)
 (.seq (.seq (.region none [] [
 op 8 (.mov (ci (0)))] [0, 1, 2, 7, 8] none)
 (.block 0 (.loop l79_3_h l79_3_b)))
 (.seq (.region none [] [
 op 6 (.mov (.cst (.bool false)))] [6] none)
 (.ret))))

def a79 : AFunc := ⟨3, c79, [.tmp 6]⟩

def an79 : List RAnn := [
 { id := 0, live := [0, 1, 2] },
 { id := 1, live := [0, 1, 2, 7] },
 { id := 2, live := [0, 1, 2, 7, 8] },
 { id := 3, live := [0, 1, 2, 7, 8, 14], hdr := [0, 1, 2, 7, 8] },
 { id := 5, head := some 16, live := [0, 1, 2, 7, 8, 32], hdr := [0, 1, 2, 7, 8] },
 { id := 6, live := [0, 1, 2, 7, 8] },
 { id := 7, live := [0, 1, 2, 7, 8, 37] },
 { id := 8, live := [6] },
 { id := 9, live := [0, 1, 2, 7, 8, 41] },
 { id := 10, live := [6] },
 { id := 11, head := some 18, live := [0, 1, 2, 7, 8], par := true },
 { id := 12, live := [0, 1, 2, 7, 8, 61] },
 { id := 13, live := [0, 1, 2, 7, 8, 9] },
 { id := 14, live := [0, 1, 2, 7, 8, 9, 65], hdr := [0, 1, 2, 7, 8, 9] },
 { id := 16, head := some 11, live := [0, 1, 2, 7, 8, 9, 78] },
 { id := 17, head := some 18, live := [0, 1, 2, 7, 8, 9], par := true },
 { id := 15, live := [0, 1, 2, 7, 8, 9] },
 { id := 18, live := [0, 1, 2, 7, 8, 98] },
 { id := 19, live := [0, 1, 2, 7, 8, 10] },
 { id := 20, live := [0, 1, 2, 7, 8, 10, 103], hdr := [0, 1, 2, 7, 8, 10] },
 { id := 22, head := some 11, live := [0, 1, 2, 7, 8, 10, 116] },
 { id := 23, head := some 18, live := [0, 1, 2, 7, 8, 10], par := true },
 { id := 21, live := [0, 1, 2, 7, 8, 10] },
 { id := 4, live := [0, 1, 2, 7, 8] },
 { id := 24, live := [6] }]

theorem comp79 : compF Tryz.prog an79 Tryz.f79 = some a79 := by kernel_rfl

/- cmp.Less[string] -/
def c80 : ACode :=
 .seq (.region none [] [
 op 4 (.mov (.cst (.bool false)))] [0, 1] none)
 (.seq (.region none [] [
 mv 5 0, op 6 (.call .pure 100 [(tm 5)]), mv 7 6, mg 8 1 7 true, ⟨some 9, .call .pure 100 [(tm 8)], some (7, true)⟩, ⟨some 10, .un .not (tm 9), some (7, true)⟩, op 11 (.pick (tm 7) (tm 10) (.cst (.bool false))), mv 12 11, mg 13 0 12 false, mg 14 1 12 false, ⟨some 15, .bin .lss .str (tm 13) (tm 14), some (12, false)⟩, op 16 (.pick (tm 12) (.cst (.bool true)) (tm 15)), mv 4 16] [4] none)
 (.ret))

def a80 : AFunc := ⟨2, c80, [.tmp 4]⟩

def an80 : List RAnn := [
 { id := 0, live := [0, 1] },
 { id := 1, live := [4] }]

theorem comp80 : compF Tryz.prog an80 Tryz.f80 = some a80 := by kernel_rfl

/- slices.partitionEqualOrdered[string] -/
/-- loop 0 of function 81 -/
def l81_0_h : List Nat := [0, 1, 9, 10]

def l81_0_b : ACode :=
 .seq (.seq (.region (some 15) [] [
 mv 29 9, mv 30 10, op 31 (.bin .leq .int (tm 29) (tm 30)), mv 32 31, mg 33 0 32 true, mg 34 1 32 true, ⟨some 35, .iaddr 1 (tm 33) (tm 34), some (32, true)⟩, ⟨some 36, .load none (tm 35), some (32, true)⟩, mg 37 0 32 true, mg 38 9 32 true, ⟨some 39, .iaddr 1 (tm 37) (tm 38), some (32, true)⟩, ⟨some 40, .load none (tm 39), some (32, true)⟩, ⟨some 41, .call .pure 80 [(tm 36), (tm 40)], some (32, true)⟩, ⟨some 42, .un .not (tm 41), some (32, true)⟩, op 43 (.pick (tm 32) (tm 42) (.cst (.bool false)))] [0, 1, 9, 10, 43] none)
 (.cond (tm 43) (.skip)
 (.exit 2)))
 (.block 3 (.region none [] [
 mv 44 9, op 45 (.bin .add .int (tm 44) (ci (1))), mv 9 45] [0, 1, 9, 10] none))

/-- loop 1 of function 81 -/
def l81_1_h : List Nat := [0, 1, 9, 10]

def l81_1_b : ACode :=
 .seq (.seq (.region (some 14) [] [
 mv 46 9, mv 47 10, op 48 (.bin .leq .int (tm 46) (tm 47)), mv 49 48, mg 50 0 49 true, mg 51 1 49 true, ⟨some 52, .iaddr 1 (tm 50) (tm 51), some (49, true)⟩, ⟨some 53, .load none (tm 52), some (49, true)⟩, mg 54 0 49 true, mg 55 10 49 true, ⟨some 56, .iaddr 1 (tm 54) (tm 55), some (49, true)⟩, ⟨some 57, .load none (tm 56), some (49, true)⟩, ⟨some 58, .call .pure 80 [(tm 53), (tm 57)], some (49, true)⟩, op 59 (.pick (tm 49) (tm 58) (.cst (.bool false)))] [0, 1, 9, 10, 59] none)
 (.cond (tm 59) (.skip)
 (.exit 4)))
 (.block 5 (.region none [] [
 mv 60 10, op 61 (.bin .sub .int (tm 60) (ci (1))), mv 10 61] [0, 1, 9, 10] none))

/-- loop 2 of function 81 -/
def l81_2_h : List Nat := [0, 1, 9, 10]

def l81_2_b : ACode :=
 .block 1 (.seq (.block 2 (.loop l81_0_h l81_0_b))
 (.seq (.block 4 (.loop l81_1_h l81_1_b))
 (.seq (.seq (.region none [] [
 mv 62 9, mv 63 10, op 64 (.bin .gtr .int (tm 62) (tm 63))] [0, 1, 9, 10, 64] none)
 (.cond (tm 64) (.exit 0)
 (.skip)))
 (.seq (.par 16 [] [] [
 mv 65 0, mv 66 9, mv 67 0, mv 68 10, mv 69 0, mv 70 10, op 71 (.iaddr 1 (tm 69) (tm 70)), op 72 (.load none (tm 71)), mv 73 0, mv 74 9, op 75 (.iaddr 1 (tm 73) (tm 74)), op 76 (.load none (tm 75)), op 77 (.iaddr 1 (tm 65) (tm 66)), ⟨none, .store 1 (tm 77) (tm 72), none⟩, op 78 (.iaddr 1 (tm 67) (tm 68)), ⟨none, .store 1 (tm 78) (tm 76), none⟩] [0, 1, 9, 10] none)
 (.seq (.region none [] [
 mv 79 9, op 80 (.bin .add .int (tm 79) (ci (1))), mv 9 80] [0, 1, 9, 10] none)
 (.region none [] [
 mv 81 10, op 82 (.bin .sub .int (tm 81) (ci (1))), mv 10 82] [0, 1, 9, 10] none))))))

def c81 : ACode :=
 .seq (.region none [] [
 op 8 (.mov (ci (0)))] [0, 1, 2, 3] none)
 (.seq (.par 16 [] [] [
 mv 11 0, mv 12 1, mv 13 0, mv 14 3, mv 15 0, mv 16 3, op 17 (.iaddr 1 (tm 15) (tm 16)), op 18 (.load none (tm 17)), mv 19 0, mv 20 1, op 21 (.iaddr 1 (tm 19) (tm 20)), op 22 (.load none (tm 21)), op 23 (.iaddr 1 (tm 11) (tm 12)), ⟨none, .store 1 (tm 23) (tm 18), none⟩, op 24 (.iaddr 1 (tm 13) (tm 14)), ⟨none, .store 1 (tm 24) (tm 22), none⟩] [0, 1, 2] none)
 (.seq (.region none [] [
 mv 25 1, op 26 (.bin .add .int (tm 25) (ci (1))), mv 27 2, op 28 (.bin .sub .int (tm 27) (ci (1))), mv 9 26, mv 10 28] [0, 1, 9, 10] none)
 (.seq (.block 0 (.loop l81_2_h l81_2_b))
 (.seq (.region none [] [
 mv 83 9, mv 8 83] [8] none)
 (.ret)))))

def a81 : AFunc := ⟨4, c81, [.tmp 8]⟩

def an81 : List RAnn := [
 { id := 0, live := [0, 1, 2, 3] },
 { id := 1, head := some 16, live := [0, 1, 2], par := true },
 { id := 2, live := [0, 1, 9, 10] },
 { id := 3, head := some 15, live := [0, 1, 9, 10, 43], hdr := [0, 1, 9, 10] },
 { id := 4, live := [0, 1, 9, 10] },
 { id := 5, head := some 14, live := [0, 1, 9, 10, 59], hdr := [0, 1, 9, 10] },
 { id := 6, live := [0, 1, 9, 10] },
 { id := 7, live := [0, 1, 9, 10, 64] },
 { id := 8, head := some 16, live := [0, 1, 9, 10], par := true },
 { id := 9, live := [0, 1, 9, 10] },
 { id := 10, live := [0, 1, 9, 10] },
 { id := 11, live := [8] }]

theorem comp81 : compF Tryz.prog an81 Tryz.f81 = some a81 := by kernel_rfl

/- slices.partitionOrdered[string] -/
/-- loop 0 of function 82 -/
def l82_0_h : List Nat := [0, 1, 10, 11]

def l82_0_b : ACode :=
 .seq (.seq (.region (some 14) [] [
 mv 30 10, mv 31 11, op 32 (.bin .leq .int (tm 30) (tm 31)), mv 33 32, mg 34 0 33 true, mg 35 10 33 true, ⟨some 36, .iaddr 1 (tm 34) (tm 35), some (33, true)⟩, ⟨some 37, .load none (tm 36), some (33, true)⟩, mg 38 0 33 true, mg 39 1 33 true, ⟨some 40, .iaddr 1 (tm 38) (tm 39), some (33, true)⟩, ⟨some 41, .load none (tm 40), some (33, true)⟩, ⟨some 42, .call .pure 80 [(tm 37), (tm 41)], some (33, true)⟩, op 43 (.pick (tm 33) (tm 42) (.cst (.bool false)))] [0, 1, 10, 11, 43] none)
 (.cond (tm 43) (.skip)
 (.exit 0)))
 (.block 1 (.region none [] [
 mv 44 10, op 45 (.bin .add .int (tm 44) (ci (1))), mv 10 45] [0, 1, 10, 11] none))

/-- loop 1 of function 82 -/
def l82_1_h : List Nat := [0, 1, 10, 11]

def l82_1_b : ACode :=
 .seq (.seq (.region (some 15) [] [
 mv 46 10, mv 47 11, op 48 (.bin .leq .int (tm 46) (tm 47)), mv 49 48, mg 50 0 49 true, mg 51 11 49 true, ⟨some 52, .iaddr 1 (tm 50) (tm 51), some (49, true)⟩, ⟨some 53, .load none (tm 52), some (49, true)⟩, mg 54 0 49 true, mg 55 1 49 true, ⟨some 56, .iaddr 1 (tm 54) (tm 55), some (49, true)⟩, ⟨some 57, .load none (tm 56), some (49, true)⟩, ⟨some 58, .call .pure 80 [(tm 53), (tm 57)], some (49, true)⟩, ⟨some 59, .un .not (tm 58), some (49, true)⟩, op 60 (.pick (tm 49) (tm 59) (.cst (.bool false)))] [0, 1, 10, 11, 60] none)
 (.cond (tm 60) (.skip)
 (.exit 2)))
 (.block 3 (.region none [] [
 mv 61 11, op 62 (.bin .sub .int (tm 61) (ci (1))), mv 11 62] [0, 1, 10, 11] none))

/-- loop 2 of function 82 -/
def l82_2_h : List Nat := [0, 1, 10, 11]

def l82_2_b : ACode :=
 .seq (.seq (.region (some 14) [] [
 mv 99 10, mv 100 11, op 101 (.bin .leq .int (tm 99) (tm 100)), mv 102 101, mg 103 0 102 true, mg 104 10 102 true, ⟨some 105, .iaddr 1 (tm 103) (tm 104), some (102, true)⟩, ⟨some 106, .load none (tm 105), some (102, true)⟩, mg 107 0 102 true, mg 108 1 102 true, ⟨some 109, .iaddr 1 (tm 107) (tm 108), some (102, true)⟩, ⟨some 110, .load none (tm 109), some (102, true)⟩, ⟨some 111, .call .pure 80 [(tm 106), (tm 110)], some (102, true)⟩, op 112 (.pick (tm 102) (tm 111) (.cst (.bool false)))] [0, 1, 10, 11, 112] none)
 (.cond (tm 112) (.skip)
 (.exit 6)))
 (.block 7 (.region none [] [
 mv 113 10, op 114 (.bin .add .int (tm 113) (ci (1))), mv 10 114] [0, 1, 10, 11] none))

/-- loop 3 of function 82 -/
def l82_3_h : List Nat := [0, 1, 10, 11]

def l82_3_b : ACode :=
 .seq (.seq (.region (some 15) [] [
 mv 115 10, mv 116 11, op 117 (.bin .leq .int (tm 115) (tm 116)), mv 118 117, mg 119 0 118 true, mg 120 11 118 true, ⟨some 121, .iaddr 1 (tm 119) (tm 120), some (118, true)⟩, ⟨some 122, .load none (tm 121), some (118, true)⟩, mg 123 0 118 true, mg 124 1 118 true, ⟨some 125, .iaddr 1 (tm 123) (tm 124), some (118, true)⟩, ⟨some 126, .load none (tm 125), some (118, true)⟩, ⟨some 127, .call .pure 80 [(tm 122), (tm 126)], some (118, true)⟩, ⟨some 128, .un .not (tm 127), some (118, true)⟩, op 129 (.pick (tm 118) (tm 128) (.cst (.bool false)))] [0, 1, 10, 11, 129] none)
 (.cond (tm 129) (.skip)
 (.exit 8)))
 (.block 9 (.region none [] [
 mv 130 11, op 131 (.bin .sub .int (tm 130) (ci (1))), mv 11 131] [0, 1, 10, 11] none))

/-- loop 4 of function 82 -/
def l82_4_h : List Nat := [0, 1, 10, 11]

def l82_4_b : ACode :=
 .block 5 (.seq (.block 6 (.loop l82_2_h l82_2_b))
 (.seq (.block 8 (.loop l82_3_h l82_3_b))
 (.seq (.seq (.region none [] [
 mv 132 10, mv 133 11, op 134 (.bin .gtr .int (tm 132) (tm 133))] [0, 1, 10, 11, 134] none)
 (.cond (tm 134) (.exit 4)
 (.skip)))
 (.seq (.par 16 [] [] [
 mv 135 0, mv 136 10, mv 137 0, mv 138 11, mv 139 0, mv 140 11, op 141 (.iaddr 1 (tm 139) (tm 140)), op 142 (.load none (tm 141)), mv 143 0, mv 144 10, op 145 (.iaddr 1 (tm 143) (tm 144)), op 146 (.load none (tm 145)), op 147 (.iaddr 1 (tm 135) (tm 136)), ⟨none, .store 1 (tm 147) (tm 142), none⟩, op 148 (.iaddr 1 (tm 137) (tm 138)), ⟨none, .store 1 (tm 148) (tm 146), none⟩] [0, 1, 10, 11] none)
 (.seq (.region none [] [
 mv 149 10, op 150 (.bin .add .int (tm 149) (ci (1))), mv 10 150] [0, 1, 10, 11] none)
 (.region none [] [
 mv 151 11, op 152 (.bin .sub .int (tm 151) (ci (1))), mv 11 152] [0, 1, 10, 11] none))))))

def c82 : ACode :=
 .seq (.region none [] [
 op 8 (.mov (ci (0))), op 9 (.mov (.cst (.bool false)))] [0, 1, 2, 3] none)
 (.seq (.par 16 [] [] [
 mv 12 0, mv 13 1, mv 14 0, mv 15 3, mv 16 0, mv 17 3, op 18 (.iaddr 1 (tm 16) (tm 17)), op 19 (.load none (tm 18)), mv 20 0, mv 21 1, op 22 (.iaddr 1 (tm 20) (tm 21)), op 23 (.load none (tm 22)), op 24 (.iaddr 1 (tm 12) (tm 13)), ⟨none, .store 1 (tm 24) (tm 19), none⟩, op 25 (.iaddr 1 (tm 14) (tm 15)), ⟨none, .store 1 (tm 25) (tm 23), none⟩] [0, 1, 2] none)
 (.seq (.region none [] [
 mv 26 1, op 27 (.bin .add .int (tm 26) (ci (1))), mv 28 2, op 29 (.bin .sub .int (tm 28) (ci (1))), mv 10 27, mv 11 29] [0, 1, 10, 11] none)
 (.seq (.block 0 (.loop l82_0_h l82_0_b))
 (.seq (.block 2 (.loop l82_1_h l82_1_b))
 (.seq (.seq (.region none [] [
 mv 63 10, mv 64 11, op 65 (.bin .gtr .int (tm 63) (tm 64))] [0, 1, 10, 11, 65] none)
 (.cond (tm 65) (.seq (.par 16 [] [] [
 mv 66 0, mv 67 11, mv 68 0, mv 69 1, mv 70 0, mv 71 1, op 72 (.iaddr 1 (tm 70) (tm 71)), op 73 (.load none (tm 72)), mv 74 0, mv 75 11, op 76 (.iaddr 1 (tm 74) (tm 75)), op 77 (.load none (tm 76)), op 78 (.iaddr 1 (tm 66) (tm 67)), ⟨none, .store 1 (tm 78) (tm 73), none⟩, op 79 (.iaddr 1 (tm 68) (tm 69)), ⟨none, .store 1 (tm 79) (tm 77), none⟩] [11] none)
 (.seq (.region none [] [
 mv 80 11, mv 8 80, op 9 (.mov (.cst (.bool true)))] [8, 9] none)
 (.ret)))
 (.skip)))
 (.seq (.par 16 [] [] [
 mv 81 0, mv 82 10, mv 83 0, mv 84 11, mv 85 0, mv 86 11, op 87 (.iaddr 1 (tm 85) (tm 86)), op 88 (.load none (tm 87)), mv 89 0, mv 90 10, op 91 (.iaddr 1 (tm 89) (tm 90)), op 92 (.load none (tm 91)), op 93 (.iaddr 1 (tm 81) (tm 82)), ⟨none, .store 1 (tm 93) (tm 88), none⟩, op 94 (.iaddr 1 (tm 83) (tm 84)), ⟨none, .store 1 (tm 94) (tm 92), none⟩] [0, 1, 10, 11] none)
 (.seq (.region none [] [
 mv 95 10, op 96 (.bin .add .int (tm 95) (ci (1))), mv 10 96] [0, 1, 10, 11] none)
 (.seq (.region none [] [
 mv 97 11, op 98 (.bin .sub .int (tm 97) (ci (1))), mv 11 98] [0, 1, 10, 11] none)
 (.seq (.block 4 (.loop l82_4_h l82_4_b))
 (.seq (.par 16 [] [] [
 mv 153 0, mv 154 11, mv 155 0, mv 156 1, mv 157 0, mv 158 1, op 159 (.iaddr 1 (tm 157) (tm 158)), op 160 (.load none (tm 159)), mv 161 0, mv 162 11, op 163 (.iaddr 1 (tm 161) (tm 162)), op 164 (.load none (tm 163)), op 165 (.iaddr 1 (tm 153) (tm 154)), ⟨none, .store 1 (tm 165) (tm 160), none⟩, op 166 (.iaddr 1 (tm 155) (tm 156)), ⟨none, .store 1 (tm 166) (tm 164), none⟩] [11] none)
 (.seq (.region none [] [
 mv 167 11, mv 8 167, op 9 (.mov (.cst (.bool false)))] [8, 9] none)
 (.ret))))))))))))

def a82 : AFunc := ⟨4, c82, [.tmp 8, .tmp 9]⟩

def an82 : List RAnn := [
 { id := 0, live := [0, 1, 2, 3] },
 { id := 1, head := some 16, live := [0, 1, 2], par := true },
 { id := 2, live := [0, 1, 10, 11] },
 { id := 3, head := some 14, live := [0, 1, 10, 11, 43], hdr := [0, 1, 10, 11] },
 { id := 4, live := [0, 1, 10, 11] },
 { id := 5, head := some 15, live := [0, 1, 10, 11, 60], hdr := [0, 1, 10, 11] },
 { id := 6, live := [0, 1, 10, 11] },
 { id := 7, live := [0, 1, 10, 11, 65] },
 { id := 8, head := some 16, live := [11], par := true },
 { id := 9, live := [8, 9] },
 { id := 10, head := some 16, live := [0, 1, 10, 11], par := true },
 { id := 11, live := [0, 1, 10, 11] },
 { id := 12, live := [0, 1, 10, 11] },
 { id := 13, head := some 14, live := [0, 1, 10, 11, 112], hdr := [0, 1, 10, 11] },
 { id := 14, live := [0, 1, 10, 11] },
 { id := 15, head := some 15, live := [0, 1, 10, 11, 129], hdr := [0, 1, 10, 11] },
 { id := 16, live := [0, 1, 10, 11] },
 { id := 17, live := [0, 1, 10, 11, 134] },
 { id := 18, head := some 16, live := [0, 1, 10, 11], par := true },
 { id := 19, live := [0, 1, 10, 11] },
 { id := 20, live := [0, 1, 10, 11] },
 { id := 21, head := some 16, live := [11], par := true },
 { id := 22, live := [8, 9] }]

theorem comp82 : compF Tryz.prog an82 Tryz.f82 = some a82 := by kernel_rfl

/- math/bits.Len32 -/
def c83 : ACode :=
 .seq (.region none [] [
 op 2 (.mov (ci (0)))] [0, 2] none)
 (.seq (.seq (.region none [] [
 mv 3 0, op 4 (.bin .geq .int (tm 3) (.cst (.int .u32 65536)))] [0, 2, 4] none)
 (.cond (tm 4) (.seq (.region none [] [
 mv 5 0, op 6 (.bin .shr .int (tm 5) (.cst (.int .u64 16))), mv 0 6] [0] none)
 (.region none [] [
 op 2 (.mov (ci (16)))] [0, 2] none))
 (.skip)))
 (.seq (.seq (.region none [] [
 mv 7 0, op 8 (.bin .geq .int (tm 7) (.cst (.int .u32 256)))] [0, 2, 8] none)
 (.cond (tm 8) (.seq (.region none [] [
 mv 9 0, op 10 (.bin .shr .int (tm 9) (.cst (.int .u64 8))), mv 0 10] [0, 2] none)
 (.region none [] [
 mv 11 2, op 12 (.bin .add .int (tm 11) (ci (8))), mv 2 12] [0, 2] none))
 (.skip)))
 (.seq (.region none [] [
 mv 13 2, mv 14 0, op 15 (.conv .u8 (tm 14)), op 16 (.sidx (.cst (.str [0, 1, 2, 2, 3, 3, 3, 3, 4, 4, 4, 4, 4, 4, 4, 4, 5, 5, 5, 5, 5, 5, 5, 5, 5, 5, 5, 5, 5, 5, 5, 5, 6, 6, 6, 6, 6, 6, 6, 6, 6, 6, 6, 6, 6, 6, 6, 6, 6, 6, 6, 6, 6, 6, 6, 6, 6, 6, 6, 6, 6, 6, 6, 6, 7, 7, 7, 7, 7, 7, 7, 7, 7, 7, 7, 7, 7, 7, 7, 7, 7, 7, 7, 7, 7, 7, 7, 7, 7, 7, 7, 7, 7, 7, 7, 7, 7, 7, 7, 7, 7, 7, 7, 7, 7, 7, 7, 7, 7, 7, 7, 7, 7, 7, 7, 7, 7, 7, 7, 7, 7, 7, 7, 7, 7, 7, 7, 7, 8, 8, 8, 8, 8, 8, 8, 8, 8, 8, 8, 8, 8, 8, 8, 8, 8, 8, 8, 8, 8, 8, 8, 8, 8, 8, 8, 8, 8, 8, 8, 8, 8, 8, 8, 8, 8, 8, 8, 8, 8, 8, 8, 8, 8, 8, 8, 8, 8, 8, 8, 8, 8, 8, 8, 8, 8, 8, 8, 8, 8, 8, 8, 8, 8, 8, 8, 8, 8, 8, 8, 8, 8, 8, 8, 8, 8, 8, 8, 8, 8, 8, 8, 8, 8, 8, 8, 8, 8, 8, 8, 8, 8, 8, 8, 8, 8, 8, 8, 8, 8, 8, 8, 8, 8, 8, 8, 8, 8, 8, 8, 8, 8, 8, 8, 8, 8, 8, 8, 8, 8, 8, 8, 8, 8, 8, 8, 8])) (tm 15)), op 17 (.conv .i64 (tm 16)), op 18 (.bin .add .int (tm 13) (tm 17)), mv 2 18] [2] none)
 (.ret))))

def a83 : AFunc := ⟨1, c83, [.tmp 2]⟩

def an83 : List RAnn := [
 { id := 0, live := [0, 2] },
 { id := 1, live := [0, 2, 4] },
 { id := 2, live := [0] },
 { id := 3, live := [0, 2] },
 { id := 4, live := [0, 2, 8] },
 { id := 5, live := [0, 2] },
 { id := 6, live := [0, 2] },
 { id := 7, live := [2] }]

theorem comp83 : compF Tryz.prog an83 Tryz.f83 = some a83 := by kernel_rfl

/- math/bits.Len64 -/
def c84 : ACode :=
 .seq (.region none [] [
 op 2 (.mov (ci (0)))] [0, 2] none)
 (.seq (.seq (.region none [] [
 mv 3 0, op 4 (.bin .geq .int (tm 3) (.cst (.int .u64 4294967296)))] [0, 2, 4] none)
 (.cond (tm 4) (.seq (.region none [] [
 mv 5 0, op 6 (.bin .shr .int (tm 5) (.cst (.int .u64 32))), mv 0 6] [0] none)
 (.region none [] [
 op 2 (.mov (ci (32)))] [0, 2] none))
 (.skip)))
 (.seq (.seq (.region none [] [
 mv 7 0, op 8 (.bin .geq .int (tm 7) (.cst (.int .u64 65536)))] [0, 2, 8] none)
 (.cond (tm 8) (.seq (.region none [] [
 mv 9 0, op 10 (.bin .shr .int (tm 9) (.cst (.int .u64 16))), mv 0 10] [0, 2] none)
 (.region none [] [
 mv 11 2, op 12 (.bin .add .int (tm 11) (ci (16))), mv 2 12] [0, 2] none))
 (.skip)))
 (.seq (.seq (.region none [] [
 mv 13 0, op 14 (.bin .geq .int (tm 13) (.cst (.int .u64 256)))] [0, 2, 14] none)
 (.cond (tm 14) (.seq (.region none [] [
 mv 15 0, op 16 (.bin .shr .int (tm 15) (.cst (.int .u64 8))), mv 0 16] [0, 2] none)
 (.region none [] [
 mv 17 2, op 18 (.bin .add .int (tm 17) (ci (8))), mv 2 18] [0, 2] none))
 (.skip)))
 (.seq (.region none [] [
 mv 19 2, mv 20 0, op 21 (.conv .u8 (tm 20)), op 22 (.sidx (.cst (.str [0, 1, 2, 2, 3, 3, 3, 3, 4, 4, 4, 4, 4, 4, 4, 4, 5, 5, 5, 5, 5, 5, 5, 5, 5, 5, 5, 5, 5, 5, 5, 5, 6, 6, 6, 6, 6, 6, 6, 6, 6, 6, 6, 6, 6, 6, 6, 6, 6, 6, 6, 6, 6, 6, 6, 6, 6, 6, 6, 6, 6, 6, 6, 6, 7, 7, 7, 7, 7, 7, 7, 7, 7, 7, 7, 7, 7, 7, 7, 7, 7, 7, 7, 7, 7, 7, 7, 7, 7, 7, 7, 7, 7, 7, 7, 7, 7, 7, 7, 7, 7, 7, 7, 7, 7, 7, 7, 7, 7, 7, 7, 7, 7, 7, 7, 7, 7, 7, 7, 7, 7, 7, 7, 7, 7, 7, 7, 7, 8, 8, 8, 8, 8, 8, 8, 8, 8, 8, 8, 8, 8, 8, 8, 8, 8, 8, 8, 8, 8, 8, 8, 8, 8, 8, 8, 8, 8, 8, 8, 8, 8, 8, 8, 8, 8, 8, 8, 8, 8, 8, 8, 8, 8, 8, 8, 8, 8, 8, 8, 8, 8, 8, 8, 8, 8, 8, 8, 8, 8, 8, 8, 8, 8, 8, 8, 8, 8, 8, 8, 8, 8, 8, 8, 8, 8, 8, 8, 8, 8, 8, 8, 8, 8, 8, 8, 8, 8, 8, 8, 8, 8, 8, 8, 8, 8, 8, 8, 8, 8, 8, 8, 8, 8, 8, 8, 8, 8, 8, 8, 8, 8, 8, 8, 8, 8, 8, 8, 8, 8, 8, 8, 8, 8, 8, 8, 8])) (tm 21)), op 23 (.conv .i64 (tm 22)), op 24 (.bin .add .int (tm 19) (tm 23)), mv 2 24] [2] none)
 (.ret)))))

def a84 : AFunc := ⟨1, c84, [.tmp 2]⟩

def an84 : List RAnn := [
 { id := 0, live := [0, 2] },
 { id := 1, live := [0, 2, 4] },
 { id := 2, live := [0] },
 { id := 3, live := [0, 2] },
 { id := 4, live := [0, 2, 8] },
 { id := 5, live := [0, 2] },
 { id := 6, live := [0, 2] },
 { id := 7, live := [0, 2, 14] },
 { id := 8, live := [0, 2] },
 { id := 9, live := [0, 2] },
 { id := 10, live := [2] }]

theorem comp84 : compF Tryz.prog an84 Tryz.f84 = some a84 := by kernel_rfl

/- slices.insertionSortCmpFunc[int] -/
/-- loop 0 of function 85 -/
def l85_0_h : List Nat := [0, 1, 2, 3, 8, 9]

def l85_0_b : ACode :=
 .seq (.seq (.region (some 17) [] [
 mv 18 9, mv 19 1, op 20 (.bin .gtr .int (tm 18) (tm 19)), mv 21 20, mg 22 3 21 true, mg 23 0 21 true, mg 24 9 21 true, ⟨some 25, .iaddr 1 (tm 23) (tm 24), some (21, true)⟩, ⟨some 26, .load none (tm 25), some (21, true)⟩, mg 27 0 21 true, mg 28 9 21 true, ⟨some 29, .bin .sub .int (tm 28) (ci (1)), some (21, true)⟩, ⟨some 30, .iaddr 1 (tm 27) (tm 29), some (21, true)⟩, ⟨some 31, .load none (tm 30), some (21, true)⟩, ⟨some 32, .callv .pure (tm 22) [(tm 26), (tm 31)], some (21, true)⟩, ⟨some 33, .bin .lss .int (tm 32) (ci (0)), some (21, true)⟩, op 34 (.pick (tm 21) (tm 33) (.cst (.bool false)))] [0, 1, 2, 3, 8, 9, 34] none)
 (.cond (tm 34) (.skip)
 (.exit 2)))
 (.seq (.block 3 (.par 18 [] [] [
 mv 37 0, mv 38 9, mv 39 0, mv 40 9, op 41 (.bin .sub .int (tm 40) (ci (1))), mv 42 0, mv 43 9, op 44 (.bin .sub .int (tm 43) (ci (1))), op 45 (.iaddr 1 (tm 42) (tm 44)), op 46 (.load none (tm 45)), mv 47 0, mv 48 9, op 49 (.iaddr 1 (tm 47) (tm 48)), op 50 (.load none (tm 49)), op 51 (.iaddr 1 (tm 37) (tm 38)), ⟨none, .store 1 (tm 51) (tm 46), none⟩, op 52 (.iaddr 1 (tm 39) (tm 41)), ⟨none, .store 1 (tm 52) (tm 50), none⟩] [0, 1, 2, 3, 8, 9] none))
 (.region none [] [
 mv 35 9, op 36 (.bin .sub .int (tm 35) (ci (1))), mv 9 36] [0, 1, 2, 3, 8, 9] none))

/-- loop 1 of function 85 -/
def l85_1_h : List Nat := [0, 1, 2, 3, 8]

def l85_1_b : ACode :=
 .seq (.seq (.region none [] [
 mv 12 8, mv 13 2, op 14 (.bin .lss .int (tm 12) (tm 13))] [0, 1, 2, 3, 8, 14] none)
 (.cond (tm 14) (.skip)
 (.exit 0)))
 (.seq (.block 1 (.seq (.region none [] [
 mv 17 8, mv 9 17] [0, 1, 2, 3, 8, 9] none)
 (.block 2 (.loop l85_0_h l85_0_b))))
 (.region none [] [
 mv 15 8, op 16 (.bin .add .int (tm 15) (ci (1))), mv 8 16] [0, 1, 2, 3, 8] none))

def c85 : ACode :=
 .seq (.region none [] [
 mv 10 1, op 11 (.bin .add .int (tm 10) (ci (1))), mv 8 11] [0, 1, 2, 3, 8] none)
 (.block 0 (.loop l85_1_h l85_1_b))

def a85 : AFunc := ⟨4, c85, []⟩

def an85 : List RAnn := [
 { id := 0, live := [0, 1, 2, 3, 8] },
 { id := 1, live := [0, 1, 2, 3, 8, 14], hdr := [0, 1, 2, 3, 8] },
 { id := 3, live := [0, 1, 2, 3, 8, 9] },
 { id := 4, head := some 17, live := [0, 1, 2, 3, 8, 9, 34], hdr := [0, 1, 2, 3, 8, 9] },
 { id := 6, head := some 18, live := [0, 1, 2, 3, 8, 9], par := true },
 { id := 5, live := [0, 1, 2, 3, 8, 9] },
 { id := 2, live := [0, 1, 2, 3, 8] }]

theorem comp85 : compF Tryz.prog an85 Tryz.f85 = some a85 := by kernel_rfl

/- slices.heapSortCmpFunc[int] -/
/-- loop 0 of function 86 -/
def l86_0_h : List Nat := [0, 3, 8, 9, 10, 11]

def l86_0_b : ACode :=
 .seq (.seq (.region none [] [
 mv 20 11, op 21 (.bin .geq .int (tm 20) (ci (0)))] [0, 3, 8, 9, 10, 11, 21] none)
 (.cond (tm 21) (.skip)
 (.exit 0)))
 (.seq (.block 1 (.region none [] [
 mv 24 0, mv 25 11, mv 26 10, mv 27 8, mv 28 3, op 29 (.call .share 101 [(tm 24), (tm 25), (tm 26), (tm 27), (tm 28)])] [0, 3, 8, 9, 10, 11] none))
 (.region none [] [
 mv 22 11, op 23 (.bin .sub .int (tm 22) (ci (1))), mv 11 23] [0, 3, 8, 9, 10, 11] none))

/-- loop 1 of function 86 -/
def l86_1_h : List Nat := [0, 3, 8, 9, 12]

def l86_1_b : ACode :=
 .seq (.seq (.region none [] [
 mv 32 12, op 33 (.bin .geq .int (tm 32) (ci (0)))] [0, 3, 8, 9, 12, 33] none)
 (.cond (tm 33) (.skip)
 (.exit 2)))
 (.seq (.block 3 (.seq (.par 20 [] [] [
 mv 36 0, mv 37 8, mv 38 0, mv 39 8, mv 40 12, op 41 (.bin .add .int (tm 39) (tm 40)), mv 42 0, mv 43 8, mv 44 12, op 45 (.bin .add .int (tm 43) (tm 44)), op 46 (.iaddr 1 (tm 42) (tm 45)), op 47 (.load none (tm 46)), mv 48 0, mv 49 8, op 50 (.iaddr 1 (tm 48) (tm 49)), op 51 (.load none (tm 50)), op 52 (.iaddr 1 (tm 36) (tm 37)), ⟨none, .store 1 (tm 52) (tm 47), none⟩, op 53 (.iaddr 1 (tm 38) (tm 41)), ⟨none, .store 1 (tm 53) (tm 51), none⟩] [0, 3, 8, 9, 12] none)
 (.region none [] [
 mv 54 0, mv 55 9, mv 56 12, mv 57 8, mv 58 3, op 59 (.call .share 101 [(tm 54), (tm 55), (tm 56), (tm 57), (tm 58)])] [0, 3, 8, 9, 12] none)))
 (.region none [] [
 mv 34 12, op 35 (.bin .sub .int (tm 34) (ci (1))), mv 12 35] [0, 3, 8, 9, 12] none))

def c86 : ACode :=
 .seq (.region none [] [
 mv 13 1, mv 8 13] [0, 1, 2, 3, 8] none)
 (.seq (.region none [] [
 op 9 (.mov (ci (0)))] [0, 1, 2, 3, 8, 9] none)
 (.seq (.region none [] [
 mv 14 2, mv 15 1, op 16 (.bin .sub .int (tm 14) (tm 15)), mv 10 16] [0, 3, 8, 9, 10] none)
 (.seq (.seq (.region none [] [
 mv 17 10, op 18 (.bin .sub .int (tm 17) (ci (1))), op 19 (.bin .quo .int (tm 18) (ci (2))), mv 11 19] [0, 3, 8, 9, 10, 11] none)
 (.block 0 (.loop l86_0_h l86_0_b)))
 (.seq (.region none [] [
 mv 30 10, op 31 (.bin .sub .int (tm 30) (ci (1))), mv 12 31] [0, 3, 8, 9, 12] none)
 (.block 2 (.loop l86_1_h l86_1_b))))))

def a86 : AFunc := ⟨4, c86, []⟩

def an86 : List RAnn := [
 { id := 0, live := [0, 1, 2, 3, 8] },
 { id := 1, live := [0, 1, 2, 3, 8, 9] },
 { id := 2, live := [0, 3, 8, 9, 10] },
 { id := 3, live := [0, 3, 8, 9, 10, 11] },
 { id := 4, live := [0, 3, 8, 9, 10, 11, 21], hdr := [0, 3, 8, 9, 10, 11] },
 { id := 6, live := [0, 3, 8, 9, 10, 11], ops := [(5, .mode .share)] },
 { id := 5, live := [0, 3, 8, 9, 10, 11] },
 { id := 7, live := [0, 3, 8, 9, 12] },
 { id := 8, live := [0, 3, 8, 9, 12, 33], hdr := [0, 3, 8, 9, 12] },
 { id := 10, head := some 20, live := [0, 3, 8, 9, 12], par := true },
 { id := 11, live := [0, 3, 8, 9, 12], ops := [(5, .mode .share)] },
 { id := 9, live := [0, 3, 8, 9, 12] }]

theorem comp86 : compF Tryz.prog an86 Tryz.f86 = some a86 := by kernel_rfl

/- slices.breakPatternsCmpFunc[int] -/
/-- loop 0 of function 87 -/
def l87_0_h : List Nat := [0, 1, 8, 9, 10, 11]

def l87_0_b : ACode :=
 .seq (.seq (.region none [] [
 mv 28 11, mv 29 1, mv 30 8, op 31 (.bin .quo .int (tm 30) (ci (4))), op 32 (.bin .mul .int (tm 31) (ci (2))), op 33 (.bin .add .int (tm 29) (tm 32)), op 34 (.bin .add .int (tm 33) (ci (1))), op 35 (.bin .leq .int (tm 28) (tm 34))] [0, 1, 8, 9, 10, 11, 35] none)
 (.cond (tm 35) (.skip)
 (.exit 0)))
 (.seq (.block 1 (.seq (.region none [] [
 op 38 (.call .share 97 [(tm 9)]), mv 39 10, op 40 (.bin .sub .int (tm 39) (.cst (.int .u64 1))), op 41 (.bin .and .int (tm 38) (tm 40)), op 42 (.conv .i64 (tm 41)), mv 12 42] [0, 1, 8, 9, 10, 11, 12] none)
 (.seq (.seq (.region none [] [
 mv 43 12, mv 44 8, op 45 (.bin .geq .int (tm 43) (tm 44))] [0, 1, 8, 9, 10, 11, 12, 45] none)
 (.cond (tm 45) (.region none [] [
 mv 46 12, mv 47 8, op 48 (.bin .sub .int (tm 46) (tm 47)), mv 12 48] [0, 1, 8, 9, 10, 11, 12] none)
 (.skip)))
 (.par 20 [] [] [
 mv 49 0, mv 50 11, mv 51 0, mv 52 1, mv 53 12, op 54 (.bin .add .int (tm 52) (tm 53)), mv 55 0, mv 56 1, mv 57 12, op 58 (.bin .add .int (tm 56) (tm 57)), op 59 (.iaddr 1 (tm 55) (tm 58)), op 60 (.load none (tm 59)), mv 61 0, mv 62 11, op 63 (.iaddr 1 (tm 61) (tm 62)), op 64 (.load none (tm 63)), op 65 (.iaddr 1 (tm 49) (tm 50)), ⟨none, .store 1 (tm 65) (tm 60), none⟩, op 66 (.iaddr 1 (tm 51) (tm 54)), ⟨none, .store 1 (tm 66) (tm 64), none⟩] [0, 1, 8, 9, 10, 11] none))))
 (.region none [] [
 mv 36 11, op 37 (.bin .add .int (tm 36) (ci (1))), mv 11 37] [0, 1, 8, 9, 10, 11] none))

def c87 : ACode :=
 .seq (.region none [] [
 mv 13 2, mv 14 1, op 15 (.bin .sub .int (tm 13) (tm 14)), mv 8 15] [0, 1, 8] none)
 (.seq (.region none [] [
 mv 16 8, op 17 (.bin .geq .int (tm 16) (ci (8)))] [0, 1, 8, 17] none)
 (.cond (tm 17) (.seq (.region none [] [
 mv 18 8, op 19 (.conv .u64 (tm 18)), op 9 (.alloc 1 (.int .u64 0)), ⟨none, .store 1 (tm 9) (tm 19), none⟩] [0, 1, 8, 9] none)
 (.seq (.region none [] [
 mv 20 8, op 21 (.call .pure 96 [(tm 20)]), mv 10 21] [0, 1, 8, 9, 10] none)
 (.seq (.region none [] [
 mv 22 1, mv 23 8, op 24 (.bin .quo .int (tm 23) (ci (4))), op 25 (.bin .mul .int (tm 24) (ci (2))), op 26 (.bin .add .int (tm 22) (tm 25)), op 27 (.bin .sub .int (tm 26) (ci (1))), mv 11 27] [0, 1, 8, 9, 10, 11] none)
 (.block 0 (.loop l87_0_h l87_0_b)))))
 (.skip)))

def a87 : AFunc := ⟨4, c87, []⟩

def an87 : List RAnn := [
 { id := 0, live := [0, 1, 8] },
 { id := 1, live := [0, 1, 8, 17] },
 { id := 2, live := [0, 1, 8, 9] },
 { id := 3, live := [0, 1, 8, 9, 10] },
 { id := 4, live := [0, 1, 8, 9, 10, 11] },
 { id := 5, live := [0, 1, 8, 9, 10, 11, 35], hdr := [0, 1, 8, 9, 10, 11] },
 { id := 7, live := [0, 1, 8, 9, 10, 11, 12], ops := [(0, .mode .share)] },
 { id := 8, live := [0, 1, 8, 9, 10, 11, 12, 45] },
 { id := 9, live := [0, 1, 8, 9, 10, 11, 12] },
 { id := 10, head := some 20, live := [0, 1, 8, 9, 10, 11], par := true },
 { id := 6, live := [0, 1, 8, 9, 10, 11] }]

theorem comp87 : compF Tryz.prog an87 Tryz.f87 = some a87 := by kernel_rfl

/- slices.choosePivotCmpFunc[int] -/
def c88 : ACode :=
 .seq (.region none [] [
 op 8 (.mov (ci (0))), op 9 (.mov (ci (0)))] [0, 1, 2, 3] none)
 (.seq (.region none [] [
 mv 15 2, mv 16 1, op 17 (.bin .sub .int (tm 15) (tm 16)), mv 10 17] [0, 1, 3, 10] none)
 (.seq (.region none [] [
 op 11 (.alloc 1 (.int .i64 0))] [0, 1, 3, 10, 11] none)
 (.seq (.region none [] [
 mv 18 1, mv 19 10, op 20 (.bin .quo .int (tm 19) (ci (4))), op 21 (.bin .mul .int (tm 20) (ci (1))), op 22 (.bin .add .int (tm 18) (tm 21)), mv 12 22] [0, 1, 3, 10, 11, 12] none)
 (.seq (.region none [] [
 mv 23 1, mv 24 10, op 25 (.bin .quo .int (tm 24) (ci (4))), op 26 (.bin .mul .int (tm 25) (ci (2))), op 27 (.bin .add .int (tm 23) (tm 26)), mv 13 27] [0, 1, 3, 10, 11, 12, 13] none)
 (.seq (.region none [] [
 mv 28 1, mv 29 10, op 30 (.bin .quo .int (tm 29) (ci (4))), op 31 (.bin .mul .int (tm 30) (ci (3))), op 32 (.bin .add .int (tm 28) (tm 31)), mv 14 32] [0, 3, 10, 11, 12, 13, 14] none)
 (.seq (.seq (.region none [] [
 mv 33 10, op 34 (.bin .geq .int (tm 33) (ci (8)))] [0, 3, 10, 11, 12, 13, 14, 34] none)
 (.cond (tm 34) (.seq (.seq (.region none [] [
 mv 35 10, op 36 (.bin .geq .int (tm 35) (ci (50)))] [0, 3, 11, 12, 13, 14, 36] none)
 (.cond (tm 36) (.seq (.region none [] [
 mv 37 0, mv 38 12, mv 39 3, op 40 (.call .share 102 [(tm 37), (tm 38), (tm 11), (tm 39)]), mv 12 40] [0, 3, 11, 12, 13, 14] none)
 (.seq (.region none [] [
 mv 41 0, mv 42 13, mv 43 3, op 44 (.call .share 102 [(tm 41), (tm 42), (tm 11), (tm 43)]), mv 13 44] [0, 3, 11, 12, 13, 14] none)
 (.region none [] [
 mv 45 0, mv 46 14, mv 47 3, op 48 (.call .share 102 [(tm 45), (tm 46), (tm 11), (tm 47)]), mv 14 48] [0, 3, 11, 12, 13, 14] none)))
 (.skip)))
 (.region none [] [
 mv 49 0, mv 50 12, mv 51 13, mv 52 14, mv 53 3, op 54 (.call .share 103 [(tm 49), (tm 50), (tm 51), (tm 52), (tm 11), (tm 53)]), mv 13 54] [11, 13] none))
 (.skip)))
 (.seq (.region none [] [
 op 55 (.load none (tm 11))] [13, 55] none)
 (.block 0 (.seq (.region none [] [
 op 58 (.bin .eql .int (tm 55) (ci (0))), mv 57 58] [13, 55, 57] none)
 (.cond (tm 57) (.seq (.region none [] [
 mv 59 13, mv 8 59, op 9 (.mov (ci (1)))] [8, 9] none)
 (.ret))
 (.seq (.region none [] [
 op 61 (.bin .eql .int (tm 55) (ci (12))), mv 60 61] [13, 60] none)
 (.cond (tm 60) (.seq (.region none [] [
 mv 62 13, mv 8 62, op 9 (.mov (ci (2)))] [8, 9] none)
 (.ret))
 (.seq (.region none [] [
 mv 56 13, mv 8 56, op 9 (.mov (ci (0)))] [8, 9] none)
 (.ret))))))))))))))

def a88 : AFunc := ⟨4, c88, [.tmp 8, .tmp 9]⟩

def an88 : List RAnn := [
 { id := 0, live := [0, 1, 2, 3] },
 { id := 1, live := [0, 1, 3, 10] },
 { id := 2, live := [0, 1, 3, 10, 11] },
 { id := 3, live := [0, 1, 3, 10, 11, 12] },
 { id := 4, live := [0, 1, 3, 10, 11, 12, 13] },
 { id := 5, live := [0, 3, 10, 11, 12, 13, 14] },
 { id := 6, live := [0, 3, 10, 11, 12, 13, 14, 34] },
 { id := 7, live := [0, 3, 11, 12, 13, 14, 36] },
 { id := 8, live := [0, 3, 11, 12, 13, 14], ops := [(3, .mode .share)] },
 { id := 9, live := [0, 3, 11, 12, 13, 14], ops := [(3, .mode .share)] },
 { id := 10, live := [0, 3, 11, 12, 13, 14], ops := [(3, .mode .share)] },
 { id := 11, live := [11, 13], ops := [(5, .mode .share)] },
 { id := 12, live := [13, 55] },
 { id := 14, live := [13, 55, 57] },
 { id := 15, live := [8, 9] },
 { id := 16, live := [13, 60] },
 { id := 17, live := [8, 9] },
 { id := 13, live := [8, 9] }]

theorem comp88 : compF Tryz.prog an88 Tryz.f88 = some a88 := by kernel_rfl

/- slices.reverseRangeCmpFunc[int] -/
/-- loop 0 of function 89 -/
def l89_0_h : List Nat := [0, 8, 9]

def l89_0_b : ACode :=
 .seq (.seq (.region none [] [
 mv 13 8, mv 14 9, op 15 (.bin .lss .int (tm 13) (tm 14))] [0, 8, 9, 15] none)
 (.cond (tm 15) (.skip)
 (.exit 0)))
 (.block 1 (.seq (.par 16 [] [] [
 mv 16 0, mv 17 8, mv 18 0, mv 19 9, mv 20 0, mv 21 9, op 22 (.iaddr 1 (tm 20) (tm 21)), op 23 (.load none (tm 22)), mv 24 0, mv 25 8, op 26 (.iaddr 1 (tm 24) (tm 25)), op 27 (.load none (tm 26)), op 28 (.iaddr 1 (tm 16) (tm 17)), ⟨none, .store 1 (tm 28) (tm 23), none⟩, op 29 (.iaddr 1 (tm 18) (tm 19)), ⟨none, .store 1 (tm 29) (tm 27), none⟩] [0, 8, 9] none)
 (.seq (.region none [] [
 mv 30 8, op 31 (.bin .add .int (tm 30) (ci (1))), mv 8 31] [0, 8, 9] none)
 (.region none [] [
 mv 32 9, op 33 (.bin .sub .int (tm 32) (ci (1))), mv 9 33] [0, 8, 9] none))))

def c89 : ACode :=
 .seq (.region none [] [
 mv 10 1, mv 8 10] [0, 2, 8] none)
 (.seq (.region none [] [
 mv 11 2, op 12 (.bin .sub .int (tm 11) (ci (1))), mv 9 12] [0, 8, 9] none)
 (.block 0 (.loop l89_0_h l89_0_b)))

def a89 : AFunc := ⟨4, c89, []⟩

def an89 : List RAnn := [
 { id := 0, live := [0, 2, 8] },
 { id := 1, live := [0, 8, 9] },
 { id := 2, live := [0, 8, 9, 15], hdr := [0, 8, 9] },
 { id := 3, head := some 16, live := [0, 8, 9], par := true },
 { id := 4, live := [0, 8, 9] },
 { id := 5, live := [0, 8, 9] }]

theorem comp89 : compF Tryz.prog an89 Tryz.f89 = some a89 := by kernel_rfl

/- slices.partialInsertionSortCmpFunc[int] -/
/-- loop 0 of function 90 -/
def l90_0_h : List Nat := [0, 1, 2, 3, 9, 10]

def l90_0_b : ACode :=
 .seq (.seq (.region (some 18) [] [
 mv 19 9, mv 20 2, op 21 (.bin .lss .int (tm 19) (tm 20)), mv 22 21, mg 23 3 22 true, mg 24 0 22 true, mg 25 9 22 true, ⟨some 26, .iaddr 1 (tm 24) (tm 25), some (22, true)⟩, ⟨some 27, .load none (tm 26), some (22, true)⟩, mg 28 0 22 true, mg 29 9 22 true, ⟨some 30, .bin .sub .int (tm 29) (ci (1)), some (22, true)⟩, ⟨some 31, .iaddr 1 (tm 28) (tm 30), some (22, true)⟩, ⟨some 32, .load none (tm 31), some (22, true)⟩, ⟨some 33, .callv .pure (tm 23) [(tm 27), (tm 32)], some (22, true)⟩, ⟨some 34, .bin .lss .int (tm 33) (ci (0)), some (22, true)⟩, ⟨some 35, .un .not (tm 34), some (22, true)⟩, op 36 (.pick (tm 22) (tm 35) (.cst (.bool false)))] [0, 1, 2, 3, 9, 10, 36] none)
 (.cond (tm 36) (.skip)
 (.exit 2)))
 (.block 3 (.region none [] [
 mv 37 9, op 38 (.bin .add .int (tm 37) (ci (1))), mv 9 38] [0, 1, 2, 3, 9, 10] none))

/-- loop 1 of function 90 -/
def l90_1_h : List Nat := [0, 1, 2, 3, 9, 10, 11]

def l90_1_b : ACode :=
 .seq (.seq (.region none [] [
 mv 68 11, op 69 (.bin .geq .int (tm 68) (ci (1)))] [0, 1, 2, 3, 9, 10, 11, 69] none)
 (.cond (tm 69) (.skip)
 (.exit 4)))
 (.seq (.block 5 (.seq (.seq (.region (some 13) [] [
 mv 72 3, mv 73 0, mv 74 11, op 75 (.iaddr 1 (tm 73) (tm 74)), op 76 (.load none (tm 75)), mv 77 0, mv 78 11, op 79 (.bin .sub .int (tm 78) (ci (1))), op 80 (.iaddr 1 (tm 77) (tm 79)), op 81 (.load none (tm 80)), op 82 (.callv .pure (tm 72) [(tm 76), (tm 81)]), op 83 (.bin .lss .int (tm 82) (ci (0))), op 84 (.un .not (tm 83))] [0, 1, 2, 3, 9, 10, 11, 84] none)
 (.cond (tm 84) (.exit 4)
 (.skip)))
 (.par 18 [] [] [
 mv 85 0, mv 86 11, mv 87 0, mv 88 11, op 89 (.bin .sub .int (tm 88) (ci (1))), mv 90 0, mv 91 11, op 92 (.bin .sub .int (tm 91) (ci (1))), op 93 (.iaddr 1 (tm 90) (tm 92)), op 94 (.load none (tm 93)), mv 95 0, mv 96 11, op 97 (.iaddr 1 (tm 95) (tm 96)), op 98 (.load none (tm 97)), op 99 (.iaddr 1 (tm 85) (tm 86)), ⟨none, .store 1 (tm 99) (tm 94), none⟩, op 100 (.iaddr 1 (tm 87) (tm 89)), ⟨none, .store 1 (tm 100) (tm 98), none⟩] [0, 1, 2, 3, 9, 10, 11] none)))
 (.region none [] [
 mv 70 11, op 71 (.bin .sub .int (tm 70) (ci (1))), mv 11 71] [0, 1, 2, 3, 9, 10, 11] none))

/-- loop 2 of function 90 -/
def l90_2_h : List Nat := [0, 1, 2, 3, 9, 10, 12]

def l90_2_b : ACode :=
 .seq (.seq (.region none [] [
 mv 107 12, mv 108 2, op 109 (.bin .lss .int (tm 107) (tm 108))] [0, 1, 2, 3, 9, 10, 12, 109] none)
 (.cond (tm 109) (.skip)
 (.exit 6)))
 (.seq (.block 7 (.seq (.seq (.region (some 13) [] [
 mv 112 3, mv 113 0, mv 114 12, op 115 (.iaddr 1 (tm 113) (tm 114)), op 116 (.load none (tm 115)), mv 117 0, mv 118 12, op 119 (.bin .sub .int (tm 118) (ci (1))), op 120 (.iaddr 1 (tm 117) (tm 119)), op 121 (.load none (tm 120)), op 122 (.callv .pure (tm 112) [(tm 116), (tm 121)]), op 123 (.bin .lss .int (tm 122) (ci (0))), op 124 (.un .not (tm 123))] [0, 1, 2, 3, 9, 10, 12, 124] none)
 (.cond (tm 124) (.exit 6)
 (.skip)))
 (.par 18 [] [] [
 mv 125 0, mv 126 12, mv 127 0, mv 128 12, op 129 (.bin .sub .int (tm 128) (ci (1))), mv 130 0, mv 131 12, op 132 (.bin .sub .int (tm 131) (ci (1))), op 133 (.iaddr 1 (tm 130) (tm 132)), op 134 (.load none (tm 133)), mv 135 0, mv 136 12, op 137 (.iaddr 1 (tm 135) (tm 136)), op 138 (.load none (tm 137)), op 139 (.iaddr 1 (tm 125) (tm 126)), ⟨none, .store 1 (tm 139) (tm 134), none⟩, op 140 (.iaddr 1 (tm 127) (tm 129)), ⟨none, .store 1 (tm 140) (tm 138), none⟩] [0, 1, 2, 3, 9, 10, 12] none)))
 (.region none [] [
 mv 110 12, op 111 (.bin .add .int (tm 110) (ci (1))), mv 12 111] [0, 1, 2, 3, 9, 10, 12] none))

/-- loop 3 of function 90 -/
def l90_3_h : List Nat := [0, 1, 2, 3, 9, 10]

def l90_3_b : ACode :=
 .seq (.seq (.region none [] [
 mv 15 10, op 16 (.bin .lss .int (tm 15) (ci (5)))] [0, 1, 2, 3, 9, 10, 16] none)
 (.cond (tm 16) (.skip)
 (.exit 0)))
 (.seq (.block 1 (.seq (.block 2 (.loop l90_0_h l90_0_b))
 (.seq (.seq (.region none [] [
 mv 39 9, mv 40 2, op 41 (.bin .eql .int (tm 39) (tm 40))] [0, 1, 2, 3, 9, 10, 41] none)
 (.cond (tm 41) (.seq (.region none [] [
 op 8 (.mov (.cst (.bool true)))] [8] none)
 (.ret))
 (.skip)))
 (.seq (.seq (.region none [] [
 mv 42 2, mv 43 1, op 44 (.bin .sub .int (tm 42) (tm 43)), op 45 (.bin .lss .int (tm 44) (ci (50)))] [0, 1, 2, 3, 9, 10, 45] none)
 (.cond (tm 45) (.seq (.region none [] [
 op 8 (.mov (.cst (.bool false)))] [8] none)
 (.ret))
 (.skip)))
 (.seq (.par 18 [] [] [
 mv 46 0, mv 47 9, mv 48 0, mv 49 9, op 50 (.bin .sub .int (tm 49) (ci (1))), mv 51 0, mv 52 9, op 53 (.bin .sub .int (tm 52) (ci (1))), op 54 (.iaddr 1 (tm 51) (tm 53)), op 55 (.load none (tm 54)), mv 56 0, mv 57 9, op 58 (.iaddr 1 (tm 56) (tm 57)), op 59 (.load none (tm 58)), op 60 (.iaddr 1 (tm 46) (tm 47)), ⟨none, .store 1 (tm 60) (tm 55), none⟩, op 61 (.iaddr 1 (tm 48) (tm 50)), ⟨none, .store 1 (tm 61) (tm 59), none⟩] [0, 1, 2, 3, 9, 10] none)
 (.seq (.seq (.region none [] [
 mv 62 9, mv 63 1, op 64 (.bin .sub .int (tm 62) (tm 63)), op 65 (.bin .geq .int (tm 64) (ci (2)))] [0, 1, 2, 3, 9, 10, 65] none)
 (.cond (tm 65) (.seq (.region none [] [
 mv 66 9, op 67 (.bin .sub .int (tm 66) (ci (1))), mv 11 67] [0, 1, 2, 3, 9, 10, 11] none)
 (.block 4 (.loop l90_1_h l90_1_b)))
 (.skip)))
 (.seq (.region none [] [
 mv 101 2, mv 102 9, op 103 (.bin .sub .int (tm 101) (tm 102)), op 104 (.bin .geq .int (tm 103) (ci (2)))] [0, 1, 2, 3, 9, 10, 104] none)
 (.cond (tm 104) (.seq (.region none [] [
 mv 105 9, op 106 (.bin .add .int (tm 105) (ci (1))), mv 12 106] [0, 1, 2, 3, 9, 10, 12] none)
 (.block 6 (.loop l90_2_h l90_2_b)))
 (.skip)))))))))
 (.region none [] [
 mv 17 10, op 18 (.bin .add .int (tm 17) (ci (1))), mv 10 18] [0, 1, 2, 3, 9, 10] none))

def c90 : ACode :=
 .seq (.region none [] [
 op 8 (.mov (.cst (.bool false)))] [0, 1, 2, 3] none)
 (.seq (.region none [] [
 mv 13 1, op 14 (.bin .add .int (tm 13) (ci (1))), mv 9 14] [0, 1, 2, 3, 9] none)
 (.seq (.seq (.region none [] [
 op 10 (.mov (ci (0)))] [0, 1, 2, 3, 9, 10] none)
 (.block 0 (.loop l90_3_h l90_3_b)))
 (.seq (.region none [] [
 op 8 (.mov (.cst (.bool false)))] [8] none)
 (.ret))))

def a90 : AFunc := ⟨4, c90, [.tmp 8]⟩

def an90 : List RAnn := [
 { id := 0, live := [0, 1, 2, 3] },
 { id := 1, live := [0, 1, 2, 3, 9] },
 { id := 2, live := [0, 1, 2, 3, 9, 10] },
 { id := 3, live := [0, 1, 2, 3, 9, 10, 16], hdr := [0, 1, 2, 3, 9, 10] },
 { id := 5, head := some 18, live := [0, 1, 2, 3, 9, 10, 36], hdr := [0, 1, 2, 3, 9, 10] },
 { id := 6, live := [0, 1, 2, 3, 9, 10] },
 { id := 7, live := [0, 1, 2, 3, 9, 10, 41] },
 { id := 8, live := [8] },
 { id := 9, live := [0, 1, 2, 3, 9, 10, 45] },
 { id := 10, live := [8] },
 { id := 11, head := some 18, live := [0, 1, 2, 3, 9, 10], par := true },
 { id := 12, live := [0, 1, 2, 3, 9, 10, 65] },
 { id := 13, live := [0, 1, 2, 3, 9, 10, 11] },
 { id := 14, live := [0, 1, 2, 3, 9, 10, 11, 69], hdr := [0, 1, 2, 3, 9, 10, 11] },
 { id := 16, head := some 13, live := [0, 1, 2, 3, 9, 10, 11, 84] },
 { id := 17, head := some 18, live := [0, 1, 2, 3, 9, 10, 11], par := true },
 { id := 15, live := [0, 1, 2, 3, 9, 10, 11] },
 { id := 18, live := [0, 1, 2, 3, 9, 10, 104] },
 { id := 19, live := [0, 1, 2, 3, 9, 10, 12] },
 { id := 20, live := [0, 1, 2, 3, 9, 10, 12, 109], hdr := [0, 1, 2, 3, 9, 10, 12] },
 { id := 22, head := some 13, live := [0, 1, 2, 3, 9, 10, 12, 124] },
 { id := 23, head := some 18, live := [0, 1, 2, 3, 9, 10, 12], par := true },
 { id := 21, live := [0, 1, 2, 3, 9, 10, 12] },
 { id := 4, live := [0, 1, 2, 3, 9, 10] },
 { id := 24, live := [8] }]

theorem comp90 : compF Tryz.prog an90 Tryz.f90 = some a90 := by kernel_rfl

/- slices.partitionEqualCmpFunc[int] -/
/-- loop 0 of function 91 -/
def l91_0_h : List Nat := [0, 1, 4, 11, 12]

def l91_0_b : ACode :=
 .seq (.seq (.region (some 17) [] [
 mv 31 11, mv 32 12, op 33 (.bin .leq .int (tm 31) (tm 32)), mv 34 33, mg 35 4 34 true, mg 36 0 34 true, mg 37 1 34 true, ⟨some 38, .iaddr 1 (tm 36) (tm 37), some (34, true)⟩, ⟨some 39, .load none (tm 38), some (34, true)⟩, mg 40 0 34 true, mg 41 11 34 true, ⟨some 42, .iaddr 1 (tm 40) (tm 41), some (34, true)⟩, ⟨some 43, .load none (tm 42), some (34, true)⟩, ⟨some 44, .callv .pure (tm 35) [(tm 39), (tm 43)], some (34, true)⟩, ⟨some 45, .bin .lss .int (tm 44) (ci (0)), some (34, true)⟩, ⟨some 46, .un .not (tm 45), some (34, true)⟩, op 47 (.pick (tm 34) (tm 46) (.cst (.bool false)))] [0, 1, 4, 11, 12, 47] none)
 (.cond (tm 47) (.skip)
 (.exit 2)))
 (.block 3 (.region none [] [
 mv 48 11, op 49 (.bin .add .int (tm 48) (ci (1))), mv 11 49] [0, 1, 4, 11, 12] none))

/-- loop 1 of function 91 -/
def l91_1_h : List Nat := [0, 1, 4, 11, 12]

def l91_1_b : ACode :=
 .seq (.seq (.region (some 16) [] [
 mv 50 11, mv 51 12, op 52 (.bin .leq .int (tm 50) (tm 51)), mv 53 52, mg 54 4 53 true, mg 55 0 53 true, mg 56 1 53 true, ⟨some 57, .iaddr 1 (tm 55) (tm 56), some (53, true)⟩, ⟨some 58, .load none (tm 57), some (53, true)⟩, mg 59 0 53 true, mg 60 12 53 true, ⟨some 61, .iaddr 1 (tm 59) (tm 60), some (53, true)⟩, ⟨some 62, .load none (tm 61), some (53, true)⟩, ⟨some 63, .callv .pure (tm 54) [(tm 58), (tm 62)], some (53, true)⟩, ⟨some 64, .bin .lss .int (tm 63) (ci (0)), some (53, true)⟩, op 65 (.pick (tm 53) (tm 64) (.cst (.bool false)))] [0, 1, 4, 11, 12, 65] none)
 (.cond (tm 65) (.skip)
 (.exit 4)))
 (.block 5 (.region none [] [
 mv 66 12, op 67 (.bin .sub .int (tm 66) (ci (1))), mv 12 67] [0, 1, 4, 11, 12] none))

/-- loop 2 of function 91 -/
def l91_2_h : List Nat := [0, 1, 4, 11, 12]

def l91_2_b : ACode :=
 .block 1 (.seq (.block 2 (.loop l91_0_h l91_0_b))
 (.seq (.block 4 (.loop l91_1_h l91_1_b))
 (.seq (.seq (.region none [] [
 mv 68 11, mv 69 12, op 70 (.bin .gtr .int (tm 68) (tm 69))] [0, 1, 4, 11, 12, 70] none)
 (.cond (tm 70) (.exit 0)
 (.skip)))
 (.seq (.par 16 [] [] [
 mv 71 0, mv 72 11, mv 73 0, mv 74 12, mv 75 0, mv 76 12, op 77 (.iaddr 1 (tm 75) (tm 76)), op 78 (.load none (tm 77)), mv 79 0, mv 80 11, op 81 (.iaddr 1 (tm 79) (tm 80)), op 82 (.load none (tm 81)), op 83 (.iaddr 1 (tm 71) (tm 72)), ⟨none, .store 1 (tm 83) (tm 78), none⟩, op 84 (.iaddr 1 (tm 73) (tm 74)), ⟨none, .store 1 (tm 84) (tm 82), none⟩] [0, 1, 4, 11, 12] none)
 (.seq (.region none [] [
 mv 85 11, op 86 (.bin .add .int (tm 85) (ci (1))), mv 11 86] [0, 1, 4, 11, 12] none)
 (.region none [] [
 mv 87 12, op 88 (.bin .sub .int (tm 87) (ci (1))), mv 12 88] [0, 1, 4, 11, 12] none))))))

def c91 : ACode :=
 .seq (.region none [] [
 op 10 (.mov (ci (0)))] [0, 1, 2, 3, 4] none)
 (.seq (.par 16 [] [] [
 mv 13 0, mv 14 1, mv 15 0, mv 16 3, mv 17 0, mv 18 3, op 19 (.iaddr 1 (tm 17) (tm 18)), op 20 (.load none (tm 19)), mv 21 0, mv 22 1, op 23 (.iaddr 1 (tm 21) (tm 22)), op 24 (.load none (tm 23)), op 25 (.iaddr 1 (tm 13) (tm 14)), ⟨none, .store 1 (tm 25) (tm 20), none⟩, op 26 (.iaddr 1 (tm 15) (tm 16)), ⟨none, .store 1 (tm 26) (tm 24), none⟩] [0, 1, 2, 4] none)
 (.seq (.region none [] [
 mv 27 1, op 28 (.bin .add .int (tm 27) (ci (1))), mv 29 2, op 30 (.bin .sub .int (tm 29) (ci (1))), mv 11 28, mv 12 30] [0, 1, 4, 11, 12] none)
 (.seq (.block 0 (.loop l91_2_h l91_2_b))
 (.seq (.region none [] [
 mv 89 11, mv 10 89] [10] none)
 (.ret)))))

def a91 : AFunc := ⟨5, c91, [.tmp 10]⟩

def an91 : List RAnn := [
 { id := 0, live := [0, 1, 2, 3, 4] },
 { id := 1, head := some 16, live := [0, 1, 2, 4], par := true },
 { id := 2, live := [0, 1, 4, 11, 12] },
 { id := 3, head := some 17, live := [0, 1, 4, 11, 12, 47], hdr := [0, 1, 4, 11, 12] },
 { id := 4, live := [0, 1, 4, 11, 12] },
 { id := 5, head := some 16, live := [0, 1, 4, 11, 12, 65], hdr := [0, 1, 4, 11, 12] },
 { id := 6, live := [0, 1, 4, 11, 12] },
 { id := 7, live := [0, 1, 4, 11, 12, 70] },
 { id := 8, head := some 16, live := [0, 1, 4, 11, 12], par := true },
 { id := 9, live := [0, 1, 4, 11, 12] },
 { id := 10, live := [0, 1, 4, 11, 12] },
 { id := 11, live := [10] }]

theorem comp91 : compF Tryz.prog an91 Tryz.f91 = some a91 := by kernel_rfl

/- slices.partitionCmpFunc[int] -/
/-- loop 0 of function 92 -/
def l92_0_h : List Nat := [0, 1, 4, 12, 13]

def l92_0_b : ACode :=
 .seq (.seq (.region (some 16) [] [
 mv 32 12, mv 33 13, op 34 (.bin .leq .int (tm 32) (tm 33)), mv 35 34, mg 36 4 35 true, mg 37 0 35 true, mg 38 12 35 true, ⟨some 39, .iaddr 1 (tm 37) (tm 38), some (35, true)⟩, ⟨some 40, .load none (tm 39), some (35, true)⟩, mg 41 0 35 true, mg 42 1 35 true, ⟨some 43, .iaddr 1 (tm 41) (tm 42), some (35, true)⟩, ⟨some 44, .load none (tm 43), some (35, true)⟩, ⟨some 45, .callv .pure (tm 36) [(tm 40), (tm 44)], some (35, true)⟩, ⟨some 46, .bin .lss .int (tm 45) (ci (0)), some (35, true)⟩, op 47 (.pick (tm 35) (tm 46) (.cst (.bool false)))] [0, 1, 4, 12, 13, 47] none)
 (.cond (tm 47) (.skip)
 (.exit 0)))
 (.block 1 (.region none [] [
 mv 48 12, op 49 (.bin .add .int (tm 48) (ci (1))), mv 12 49] [0, 1, 4, 12, 13] none))

/-- loop 1 of function 92 -/
def l92_1_h : List Nat := [0, 1, 4, 12, 13]

def l92_1_b : ACode :=
 .seq (.seq (.region (some 17) [] [
 mv 50 12, mv 51 13, op 52 (.bin .leq .int (tm 50) (tm 51)), mv 53 52, mg 54 4 53 true, mg 55 0 53 true, mg 56 13 53 true, ⟨some 57, .iaddr 1 (tm 55) (tm 56), some (53, true)⟩, ⟨some 58, .load none (tm 57), some (53, true)⟩, mg 59 0 53 true, mg 60 1 53 true, ⟨some 61, .iaddr 1 (tm 59) (tm 60), some (53, true)⟩, ⟨some 62, .load none (tm 61), some (53, true)⟩, ⟨some 63, .callv .pure (tm 54) [(tm 58), (tm 62)], some (53, true)⟩, ⟨some 64, .bin .lss .int (tm 63) (ci (0)), some (53, true)⟩, ⟨some 65, .un .not (tm 64), some (53, true)⟩, op 66 (.pick (tm 53) (tm 65) (.cst (.bool false)))] [0, 1, 4, 12, 13, 66] none)
 (.cond (tm 66) (.skip)
 (.exit 2)))
 (.block 3 (.region none [] [
 mv 67 13, op 68 (.bin .sub .int (tm 67) (ci (1))), mv 13 68] [0, 1, 4, 12, 13] none))

/-- loop 2 of function 92 -/
def l92_2_h : List Nat := [0, 1, 4, 12, 13]

def l92_2_b : ACode :=
 .seq (.seq (.region (some 16) [] [
 mv 105 12, mv 106 13, op 107 (.bin .leq .int (tm 105) (tm 106)), mv 108 107, mg 109 4 108 true, mg 110 0 108 true, mg 111 12 108 true, ⟨some 112, .iaddr 1 (tm 110) (tm 111), some (108, true)⟩, ⟨some 113, .load none (tm 112), some (108, true)⟩, mg 114 0 108 true, mg 115 1 108 true, ⟨some 116, .iaddr 1 (tm 114) (tm 115), some (108, true)⟩, ⟨some 117, .load none (tm 116), some (108, true)⟩, ⟨some 118, .callv .pure (tm 109) [(tm 113), (tm 117)], some (108, true)⟩, ⟨some 119, .bin .lss .int (tm 118) (ci (0)), some (108, true)⟩, op 120 (.pick (tm 108) (tm 119) (.cst (.bool false)))] [0, 1, 4, 12, 13, 120] none)
 (.cond (tm 120) (.skip)
 (.exit 6)))
 (.block 7 (.region none [] [
 mv 121 12, op 122 (.bin .add .int (tm 121) (ci (1))), mv 12 122] [0, 1, 4, 12, 13] none))

/-- loop 3 of function 92 -/
def l92_3_h : List Nat := [0, 1, 4, 12, 13]

def l92_3_b : ACode :=
 .seq (.seq (.region (some 17) [] [
 mv 123 12, mv 124 13, op 125 (.bin .leq .int (tm 123) (tm 124)), mv 126 125, mg 127 4 126 true, mg 128 0 126 true, mg 129 13 126 true, ⟨some 130, .iaddr 1 (tm 128) (tm 129), some (126, true)⟩, ⟨some 131, .load none (tm 130), some (126, true)⟩, mg 132 0 126 true, mg 133 1 126 true, ⟨some 134, .iaddr 1 (tm 132) (tm 133), some (126, true)⟩, ⟨some 135, .load none (tm 134), some (126, true)⟩, ⟨some 136, .callv .pure (tm 127) [(tm 131), (tm 135)], some (126, true)⟩, ⟨some 137, .bin .lss .int (tm 136) (ci (0)), some (126, true)⟩, ⟨some 138, .un .not (tm 137), some (126, true)⟩, op 139 (.pick (tm 126) (tm 138) (.cst (.bool false)))] [0, 1, 4, 12, 13, 139] none)
 (.cond (tm 139) (.skip)
 (.exit 8)))
 (.block 9 (.region none [] [
 mv 140 13, op 141 (.bin .sub .int (tm 140) (ci (1))), mv 13 141] [0, 1, 4, 12, 13] none))

/-- loop 4 of function 92 -/
def l92_4_h : List Nat := [0, 1, 4, 12, 13]

def l92_4_b : ACode :=
 .block 5 (.seq (.block 6 (.loop l92_2_h l92_2_b))
 (.seq (.block 8 (.loop l92_3_h l92_3_b))
 (.seq (.seq (.region none [] [
 mv 142 12, mv 143 13, op 144 (.bin .gtr .int (tm 142) (tm 143))] [0, 1, 4, 12, 13, 144] none)
 (.cond (tm 144) (.exit 4)
 (.skip)))
 (.seq (.par 16 [] [] [
 mv 145 0, mv 146 12, mv 147 0, mv 148 13, mv 149 0, mv 150 13, op 151 (.iaddr 1 (tm 149) (tm 150)), op 152 (.load none (tm 151)), mv 153 0, mv 154 12, op 155 (.iaddr 1 (tm 153) (tm 154)), op 156 (.load none (tm 155)), op 157 (.iaddr 1 (tm 145) (tm 146)), ⟨none, .store 1 (tm 157) (tm 152), none⟩, op 158 (.iaddr 1 (tm 147) (tm 148)), ⟨none, .store 1 (tm 158) (tm 156), none⟩] [0, 1, 4, 12, 13] none)
 (.seq (.region none [] [
 mv 159 12, op 160 (.bin .add .int (tm 159) (ci (1))), mv 12 160] [0, 1, 4, 12, 13] none)
 (.region none [] [
 mv 161 13, op 162 (.bin .sub .int (tm 161) (ci (1))), mv 13 162] [0, 1, 4, 12, 13] none))))))

def c92 : ACode :=
 .seq (.region none [] [
 op 10 (.mov (ci (0))), op 11 (.mov (.cst (.bool false)))] [0, 1, 2, 3, 4] none)
 (.seq (.par 16 [] [] [
 mv 14 0, mv 15 1, mv 16 0, mv 17 3, mv 18 0, mv 19 3, op 20 (.iaddr 1 (tm 18) (tm 19)), op 21 (.load none (tm 20)), mv 22 0, mv 23 1, op 24 (.iaddr 1 (tm 22) (tm 23)), op 25 (.load none (tm 24)), op 26 (.iaddr 1 (tm 14) (tm 15)), ⟨none, .store 1 (tm 26) (tm 21), none⟩, op 27 (.iaddr 1 (tm 16) (tm 17)), ⟨none, .store 1 (tm 27) (tm 25), none⟩] [0, 1, 2, 4] none)
 (.seq (.region none [] [
 mv 28 1, op 29 (.bin .add .int (tm 28) (ci (1))), mv 30 2, op 31 (.bin .sub .int (tm 30) (ci (1))), mv 12 29, mv 13 31] [0, 1, 4, 12, 13] none)
 (.seq (.block 0 (.loop l92_0_h l92_0_b))
 (.seq (.block 2 (.loop l92_1_h l92_1_b))
 (.seq (.seq (.region none [] [
 mv 69 12, mv 70 13, op 71 (.bin .gtr .int (tm 69) (tm 70))] [0, 1, 4, 12, 13, 71] none)
 (.cond (tm 71) (.seq (.par 16 [] [] [
 mv 72 0, mv 73 13, mv 74 0, mv 75 1, mv 76 0, mv 77 1, op 78 (.iaddr 1 (tm 76) (tm 77)), op 79 (.load none (tm 78)), mv 80 0, mv 81 13, op 82 (.iaddr 1 (tm 80) (tm 81)), op 83 (.load none (tm 82)), op 84 (.iaddr 1 (tm 72) (tm 73)), ⟨none, .store 1 (tm 84) (tm 79), none⟩, op 85 (.iaddr 1 (tm 74) (tm 75)), ⟨none, .store 1 (tm 85) (tm 83), none⟩] [13] none)
 (.seq (.region none [] [
 mv 86 13, mv 10 86, op 11 (.mov (.cst (.bool true)))] [10, 11] none)
 (.ret)))
 (.skip)))
 (.seq (.par 16 [] [] [
 mv 87 0, mv 88 12, mv 89 0, mv 90 13, mv 91 0, mv 92 13, op 93 (.iaddr 1 (tm 91) (tm 92)), op 94 (.load none (tm 93)), mv 95 0, mv 96 12, op 97 (.iaddr 1 (tm 95) (tm 96)), op 98 (.load none (tm 97)), op 99 (.iaddr 1 (tm 87) (tm 88)), ⟨none, .store 1 (tm 99) (tm 94), none⟩, op 100 (.iaddr 1 (tm 89) (tm 90)), ⟨none, .store 1 (tm 100) (tm 98), none⟩] [0, 1, 4, 12, 13] none)
 (.seq (.region none [] [
 mv 101 12, op 102 (.bin .add .int (tm 101) (ci (1))), mv 12 102] [0, 1, 4, 12, 13] none)
 (.seq (.region none [] [
 mv 103 13, op 104 (.bin .sub .int (tm 103) (ci (1))), mv 13 104] [0, 1, 4, 12, 13] none)
 (.seq (.block 4 (.loop l92_4_h l92_4_b))
 (.seq (.par 16 [] [] [
 mv 163 0, mv 164 13, mv 165 0, mv 166 1, mv 167 0, mv 168 1, op 169 (.iaddr 1 (tm 167) (tm 168)), op 170 (.load none (tm 169)), mv 171 0, mv 172 13, op 173 (.iaddr 1 (tm 171) (tm 172)), op 174 (.load none (tm 173)), op 175 (.iaddr 1 (tm 163) (tm 164)), ⟨none, .store 1 (tm 175) (tm 170), none⟩, op 176 (.iaddr 1 (tm 165) (tm 166)), ⟨none, .store 1 (tm 176) (tm 174), none⟩] [13] none)
 (.seq (.region none [] [
 mv 177 13, mv 10 177, op 11 (.mov (.cst (.bool false)))] [10, 11] none)
 (.ret))))))))))))

def a92 : AFunc := ⟨5, c92, [.tmp 10, .tmp 11]⟩

def an92 : List RAnn := [
 { id := 0, live := [0, 1, 2, 3, 4] },
 { id := 1, head := some 16, live := [0, 1, 2, 4], par := true },
 { id := 2, live := [0, 1, 4, 12, 13] },
 { id := 3, head := some 16, live := [0, 1, 4, 12, 13, 47], hdr := [0, 1, 4, 12, 13] },
 { id := 4, live := [0, 1, 4, 12, 13] },
 { id := 5, head := some 17, live := [0, 1, 4, 12, 13, 66], hdr := [0, 1, 4, 12, 13] },
 { id := 6, live := [0, 1, 4, 12, 13] },
 { id := 7, live := [0, 1, 4, 12, 13, 71] },
 { id := 8, head := some 16, live := [13], par := true },
 { id := 9, live := [10, 11] },
 { id := 10, head := some 16, live := [0, 1, 4, 12, 13], par := true },
 { id := 11, live := [0, 1, 4, 12, 13] },
 { id := 12, live := [0, 1, 4, 12, 13] },
 { id := 13, head := some 16, live := [0, 1, 4, 12, 13, 120], hdr := [0, 1, 4, 12, 13] },
 { id := 14, live := [0, 1, 4, 12, 13] },
 { id := 15, head := some 17, live := [0, 1, 4, 12, 13, 139], hdr := [0, 1, 4, 12, 13] },
 { id := 16, live := [0, 1, 4, 12, 13] },
 { id := 17, live := [0, 1, 4, 12, 13, 144] },
 { id := 18, head := some 16, live := [0, 1, 4, 12, 13], par := true },
 { id := 19, live := [0, 1, 4, 12, 13] },
 { id := 20, live := [0, 1, 4, 12, 13] },
 { id := 21, head := some 16, live := [13], par := true },
 { id := 22, live := [10, 11] }]

theorem comp92 : compF Tryz.prog an92 Tryz.f92 = some a92 := by kernel_rfl

/- graphdb/graphdbref04.Valid -/
def c93 : ACode :=
 .seq (.region none [] [
 op 1 (.box 5 (tm 0)), op 2 (.mov (.cst (.bool false)))] [1] none)
 (.seq (.region none [] [
 op 3 (.load (some 5) (tm 1)), op 4 (.call .pure 104 [(tm 3), (ci (8))]), mv 2 4] [2] none)
 (.ret))

def a93 : AFunc := ⟨1, c93, [.tmp 2]⟩

def an93 : List RAnn := [
 { id := 0, live := [1] },
 { id := 1, live := [2] }]

theorem comp93 : compF Tryz.prog an93 Tryz.f93 = some a93 := by kernel_rfl

/- graphdb/value.valid -/
/-- loop 0 of function 94 -/
def l94_0_h : List Nat := [1, 120, 121, 122]

def l94_0_b : ACode :=
 .seq (.region none [] [
 op 123 (.bin .lss .int (tm 122) (tm 121))] [1, 120, 121, 122, 123] none)
 (.seq (.cond (tm 123) (.skip)
 (.exit 1))
 (.seq (.block 2 (.seq (.region none [] [
 op 124 (.iaddr 5 (tm 120) (tm 122)), op 125 (.load (some 5) (tm 124)), op 6 (.alloc 5 (.agg [.int .i64 0, .int .i64 0, .int .i64 0, .str [], .sl false []])), ⟨none, .store 5 (tm 6) (tm 125), none⟩] [1, 6, 120, 121, 122] none)
 (.seq (.region none [] [
 op 126 (.load (some 5) (tm 6)), mv 127 1, op 128 (.bin .add .int (tm 127) (ci (1))), op 129 (.call .pure 94 [(tm 126), (tm 128)]), op 130 (.un .not (tm 129))] [1, 120, 121, 122, 130] none)
 (.cond (tm 130) (.seq (.region none [] [
 op 4 (.mov (.cst (.bool false)))] [4] none)
 (.ret))
 (.skip)))))
 (.region none [] [
 op 131 (.bin .add .int (tm 122) (ci (1))), mv 122 131] [1, 120, 121, 122] none)))

def c94 : ACode :=
 .seq (.region none [] [
 op 2 (.box 5 (tm 0)), op 4 (.mov (.cst (.bool false)))] [1, 2] none)
 (.seq (.seq (.region none [] [
 op 7 (.faddr 0 (tm 2)), op 8 (.load none (tm 7)), op 9 (.bin .neq .int (tm 8) (ci (3))), mv 10 9, ⟨some 11, .faddr 2 (tm 2), some (10, true)⟩, ⟨some 12, .load none (tm 11), some (10, true)⟩, ⟨some 13, .bin .neq .int (tm 12) (ci (0)), some (10, true)⟩, op 14 (.pick (tm 10) (tm 13) (.cst (.bool false))), mv 15 14, ⟨some 16, .faddr 0 (tm 2), some (15, false)⟩, ⟨some 17, .load none (tm 16), some (15, false)⟩, ⟨some 18, .bin .neq .int (tm 17) (ci (4)), some (15, false)⟩, mg 19 18 15 false, ⟨some 20, .faddr 3 (tm 2), some (19, true)⟩, ⟨some 21, .load none (tm 20), some (19, true)⟩, ⟨some 22, .bin .neq .str (tm 21) (.cst (.str [])), some (19, true)⟩, ⟨some 23, .pick (tm 19) (tm 22) (.cst (.bool false)), some (15, false)⟩, op 24 (.pick (tm 15) (.cst (.bool true)) (tm 23)), mv 25 24, ⟨some 26, .faddr 0 (tm 2), some (25, false)⟩, ⟨some 27, .load none (tm 26), some (25, false)⟩, ⟨some 28, .bin .neq .int (tm 27) (ci (8)), some (25, false)⟩, mg 29 28 25 false, ⟨some 30, .faddr 0 (tm 2), some (29, true)⟩, ⟨some 31, .load none (tm 30), some (29, true)⟩, ⟨some 32, .bin .neq .int (tm 31) (ci (7)), some (29, true)⟩, ⟨some 33, .pick (tm 29) (tm 32) (.cst (.bool false)), some (25, false)⟩, mg 34 33 25 false, ⟨some 35, .faddr 4 (tm 2), some (34, true)⟩, ⟨some 36, .load none (tm 35), some (34, true)⟩, ⟨some 37, .len .slice (tm 36), some (34, true)⟩, ⟨some 38, .bin .gtr .int (tm 37) (ci (0)), some (34, true)⟩, ⟨some 39, .pick (tm 34) (tm 38) (.cst (.bool false)), some (25, false)⟩, op 40 (.pick (tm 25) (.cst (.bool true)) (tm 39))] [1, 2, 40] none)
 (.cond (tm 40) (.seq (.region none [] [
 op 4 (.mov (.cst (.bool false)))] [4] none)
 (.ret))
 (.skip)))
 (.seq (.seq (.region none [] [
 op 41 (.faddr 0 (tm 2)), op 42 (.load none (tm 41))] [1, 2, 42] none)
 (.block 0 (.seq (.region none [] [
 op 44 (.bin .eql .int (tm 42) (ci (0))), mv 43 44] [1, 2, 42, 43] none)
 (.cond (tm 43) (.seq (.region none [] [
 op 45 (.faddr 1 (tm 2)), op 46 (.load none (tm 45)), op 47 (.bin .eql .int (tm 46) (ci (0))), mv 4 47] [4] none)
 (.ret))
 (.seq (.region none [] [
 op 49 (.bin .eql .int (tm 42) (ci (1))), mv 48 49] [1, 2, 42, 48] none)
 (.cond (tm 48) (.seq (.region none [] [
 op 50 (.faddr 1 (tm 2)), op 51 (.load none (tm 50)), op 52 (.bin .eql .int (tm 51) (ci (0))), mv 53 52, ⟨some 54, .faddr 1 (tm 2), some (53, false)⟩, ⟨some 55, .load none (tm 54), some (53, false)⟩, ⟨some 56, .bin .eql .int (tm 55) (ci (1)), some (53, false)⟩, op 57 (.pick (tm 53) (.cst (.bool true)) (tm 56)), mv 4 57] [4] none)
 (.ret))
 (.seq (.region none [] [
 op 59 (.bin .eql .int (tm 42) (ci (2))), mv 58 59] [1, 2, 42, 58] none)
 (.cond (tm 58) (.seq (.region none [] [
 op 60 (.faddr 1 (tm 2)), op 61 (.load none (tm 60)), op 62 (.call .pure 105 [(tm 61)]), mv 4 62] [4] none)
 (.ret))
 (.seq (.region none [] [
 op 64 (.bin .eql .int (tm 42) (ci (3))), mv 63 64] [1, 2, 42, 63] none)
 (.cond (tm 63) (.seq (.region none [] [
 op 65 (.faddr 2 (tm 2)), op 66 (.load none (tm 65)), op 67 (.bin .geq .int (tm 66) (ci (2))), mv 68 67, ⟨some 69, .faddr 1 (tm 2), some (68, true)⟩, ⟨some 70, .load none (tm 69), some (68, true)⟩, ⟨some 71, .faddr 2 (tm 2), some (68, true)⟩, ⟨some 72, .load none (tm 71), some (68, true)⟩, ⟨some 73, .build [.int .i64 0, .int .i64 0] [(0, 1, (tm 70)), (1, 1, (tm 72))], some (68, true)⟩, ⟨some 74, .call .pure 106 [(tm 73)], some (68, true)⟩, op 75 (.pick (tm 68) (tm 74) (.cst (.bool false))), mv 4 75] [4] none)
 (.ret))
 (.seq (.region none [] [
 op 77 (.bin .eql .int (tm 42) (ci (4))), mv 76 77] [1, 2, 42, 76] none)
 (.cond (tm 76) (.seq (.region none [] [
 op 78 (.faddr 1 (tm 2)), op 79 (.load none (tm 78)), op 80 (.bin .eql .int (tm 79) (ci (0))), mv 81 80, ⟨some 82, .faddr 3 (tm 2), some (81, true)⟩, ⟨some 83, .load none (tm 82), some (81, true)⟩, ⟨some 84, .len .str (tm 83), some (81, true)⟩, ⟨some 85, .bin .leq .int (tm 84) (ci (100)), some (81, true)⟩, op 86 (.pick (tm 81) (tm 85) (.cst (.bool false))), mv 87 86, ⟨some 88, .faddr 3 (tm 2), some (87, true)⟩, ⟨some 89, .load none (tm 88), some (87, true)⟩, ⟨some 90, .call .pure 107 [(tm 89), (.cst (.fn 108 []))], some (87, true)⟩, ⟨some 91, .bin .lss .int (tm 90) (ci (0)), some (87, true)⟩, op 92 (.pick (tm 87) (tm 91) (.cst (.bool false))), mv 4 92] [4] none)
 (.ret))
 (.seq (.seq (.region none [] [
 op 94 (.bin .eql .int (tm 42) (ci (5))), mv 93 94] [1, 2, 42, 93] none)
 (.cond (tm 93) (.skip)
 (.region none [] [
 op 95 (.bin .eql .int (tm 42) (ci (6))), mv 93 95] [1, 2, 42, 93] none)))
 (.cond (tm 93) (.seq (.region none [] [
 op 96 (.faddr 1 (tm 2)), op 97 (.load none (tm 96)), op 98 (.bin .geq .int (tm 97) (ci (1))), mv 99 98, ⟨some 100, .faddr 1 (tm 2), some (99, true)⟩, ⟨some 101, .load none (tm 100), some (99, true)⟩, ⟨some 102, .bin .leq .int (tm 101) (ci (1000000)), some (99, true)⟩, op 103 (.pick (tm 99) (tm 102) (.cst (.bool false))), mv 4 103] [4] none)
 (.ret))
 (.seq (.region none [] [
 op 105 (.bin .eql .int (tm 42) (ci (8))), mv 104 105] [1, 2, 42, 104] none)
 (.cond (tm 104) (.seq (.seq (.region none [] [
 op 106 (.faddr 1 (tm 2)), op 107 (.load none (tm 106)), op 108 (.bin .neq .int (tm 107) (ci (0))), mv 109 108, ⟨some 110, .faddr 4 (tm 2), some (109, false)⟩, ⟨some 111, .load none (tm 110), some (109, false)⟩, ⟨some 112, .len .slice (tm 111), some (109, false)⟩, ⟨some 113, .bin .gtr .int (tm 112) (ci (64)), some (109, false)⟩, op 114 (.pick (tm 109) (.cst (.bool true)) (tm 113)), mv 115 114, mg 116 1 115 false, ⟨some 117, .bin .geq .int (tm 116) (ci (8)), some (115, false)⟩, op 118 (.pick (tm 115) (.cst (.bool true)) (tm 117))] [1, 2, 118] none)
 (.cond (tm 118) (.seq (.region none [] [
 op 4 (.mov (.cst (.bool false)))] [4] none)
 (.ret))
 (.skip)))
 (.seq (.seq (.region none [] [
 op 119 (.faddr 4 (tm 2)), op 120 (.load none (tm 119)), op 121 (.len .slice (tm 120)), op 122 (.mov (ci (0)))] [1, 120, 121, 122] none)
 (.block 1 (.loop l94_0_h l94_0_b)))
 (.seq (.region none [] [
 op 4 (.mov (.cst (.bool true)))] [4] none)
 (.ret))))
 (.seq (.region none [] [
 op 133 (.bin .eql .int (tm 42) (ci (7))), mv 132 133] [2, 132] none)
 (.cond (tm 132) (.seq (.region none [] [
 op 134 (.faddr 1 (tm 2)), op 135 (.load none (tm 134)), op 136 (.bin .eql .int (tm 135) (ci (0))), mv 137 136, ⟨some 138, .faddr 4 (tm 2), some (137, true)⟩, ⟨some 139, .load none (tm 138), some (137, true)⟩, ⟨some 140, .call .pure 109 [(tm 139)], some (137, true)⟩, op 141 (.pick (tm 137) (tm 140) (.cst (.bool false))), mv 4 141] [4] none)
 (.ret))
 (.skip)))))))))))))))))))
 (.seq (.region none [] [
 op 4 (.mov (.cst (.bool false)))] [4] none)
 (.ret))))

def a94 : AFunc := ⟨2, c94, [.tmp 4]⟩

def an94 : List RAnn := [
 { id := 0, live := [1, 2] },
 { id := 1, live := [1, 2, 40] },
 { id := 2, live := [4] },
 { id := 3, live := [1, 2, 42] },
 { id := 4, live := [1, 2, 42, 43] },
 { id := 5, live := [4] },
 { id := 6, live := [1, 2, 42, 48] },
 { id := 7, live := [4] },
 { id := 8, live := [1, 2, 42, 58] },
 { id := 9, live := [4] },
 { id := 10, live := [1, 2, 42, 63] },
 { id := 11, live := [4] },
 { id := 12, live := [1, 2, 42, 76] },
 { id := 13, live := [4] },
 { id := 14, live := [1, 2, 42, 93] },
 { id := 15, live := [1, 2, 42, 93] },
 { id := 16, live := [4] },
 { id := 17, live := [1, 2, 42, 104] },
 { id := 18, live := [1, 2, 118] },
 { id := 19, live := [4] },
 { id := 20, live := [1, 120, 121, 122] },
 { id := 21, live := [1, 120, 121, 122, 123], hdr := [1, 120, 121, 122] },
 { id := 22, live := [1, 6, 120, 121, 122] },
 { id := 23, live := [1, 120, 121, 122, 130] },
 { id := 24, live := [4] },
 { id := 25, live := [1, 120, 121, 122] },
 { id := 26, live := [4] },
 { id := 27, live := [2, 132] },
 { id := 28, live := [4] },
 { id := 29, live := [4] }]

theorem comp94 : compF Tryz.prog an94 Tryz.f94 = some a94 := by kernel_rfl

/- slices.siftDownOrdered[string] -/
/-- loop 0 of function 95 -/
def l95_0_h : List Nat := [0, 2, 3, 8]

def l95_0_b : ACode :=
 .block 1 (.seq (.region none [] [
 mv 11 8, op 12 (.bin .mul .int (ci (2)) (tm 11)), op 13 (.bin .add .int (tm 12) (ci (1))), mv 9 13] [0, 2, 3, 8, 9] none)
 (.seq (.seq (.region none [] [
 mv 14 9, mv 15 2, op 16 (.bin .geq .int (tm 14) (tm 15))] [0, 2, 3, 8, 9, 16] none)
 (.cond (tm 16) (.exit 0)
 (.skip)))
 (.seq (.seq (.region (some 20) [] [
 mv 17 9, op 18 (.bin .add .int (tm 17) (ci (1))), mv 19 2, op 20 (.bin .lss .int (tm 18) (tm 19)), mv 21 20, mg 22 0 21 true, mg 23 3 21 true, mg 24 9 21 true, ⟨some 25, .bin .add .int (tm 23) (tm 24), some (21, true)⟩, ⟨some 26, .iaddr 1 (tm 22) (tm 25), some (21, true)⟩, ⟨some 27, .load none (tm 26), some (21, true)⟩, mg 28 0 21 true, mg 29 3 21 true, mg 30 9 21 true, ⟨some 31, .bin .add .int (tm 29) (tm 30), some (21, true)⟩, ⟨some 32, .bin .add .int (tm 31) (ci (1)), some (21, true)⟩, ⟨some 33, .iaddr 1 (tm 28) (tm 32), some (21, true)⟩, ⟨some 34, .load none (tm 33), some (21, true)⟩, ⟨some 35, .call .pure 80 [(tm 27), (tm 34)], some (21, true)⟩, op 36 (.pick (tm 21) (tm 35) (.cst (.bool false)))] [0, 2, 3, 8, 9, 36] none)
 (.cond (tm 36) (.region none [] [
 mv 37 9, op 38 (.bin .add .int (tm 37) (ci (1))), mv 9 38] [0, 2, 3, 8, 9] none)
 (.skip)))
 (.seq (.seq (.region (some 14) [] [
 mv 39 0, mv 40 3, mv 41 8, op 42 (.bin .add .int (tm 40) (tm 41)), op 43 (.iaddr 1 (tm 39) (tm 42)), op 44 (.load none (tm 43)), mv 45 0, mv 46 3, mv 47 9, op 48 (.bin .add .int (tm 46) (tm 47)), op 49 (.iaddr 1 (tm 45) (tm 48)), op 50 (.load none (tm 49)), op 51 (.call .pure 80 [(tm 44), (tm 50)]), op 52 (.un .not (tm 51))] [0, 2, 3, 8, 9, 52] none)
 (.cond (tm 52) (.ret)
 (.skip)))
 (.seq (.par 24 [] [] [
 mv 53 0, mv 54 3, mv 55 8, op 56 (.bin .add .int (tm 54) (tm 55)), mv 57 0, mv 58 3, mv 59 9, op 60 (.bin .add .int (tm 58) (tm 59)), mv 61 0, mv 62 3, mv 63 9, op 64 (.bin .add .int (tm 62) (tm 63)), op 65 (.iaddr 1 (tm 61) (tm 64)), op 66 (.load none (tm 65)), mv 67 0, mv 68 3, mv 69 8, op 70 (.bin .add .int (tm 68) (tm 69)), op 71 (.iaddr 1 (tm 67) (tm 70)), op 72 (.load none (tm 71)), op 73 (.iaddr 1 (tm 53) (tm 56)), ⟨none, .store 1 (tm 73) (tm 66), none⟩, op 74 (.iaddr 1 (tm 57) (tm 60)), ⟨none, .store 1 (tm 74) (tm 72), none⟩] [0, 2, 3, 9] none)
 (.region none [] [
 mv 75 9, mv 8 75] [0, 2, 3, 8] none))))))

def c95 : ACode :=
 .seq (.region none [] [
 mv 10 1, mv 8 10] [0, 2, 3, 8] none)
 (.block 0 (.loop l95_0_h l95_0_b))

def a95 : AFunc := ⟨4, c95, []⟩

def an95 : List RAnn := [
 { id := 0, live := [0, 2, 3, 8] },
 { id := 1, live := [0, 2, 3, 8, 9], hdr := [0, 2, 3, 8] },
 { id := 2, live := [0, 2, 3, 8, 9, 16] },
 { id := 3, head := some 20, live := [0, 2, 3, 8, 9, 36] },
 { id := 4, live := [0, 2, 3, 8, 9] },
 { id := 5, head := some 14, live := [0, 2, 3, 8, 9, 52] },
 { id := 6, head := some 24, live := [0, 2, 3, 9], par := true },
 { id := 7, live := [0, 2, 3, 8] }]

theorem comp95 : compF Tryz.prog an95 Tryz.f95 = some a95 := by kernel_rfl

/- slices.nextPowerOfTwo -/
def c96 : ACode :=
 .seq (.region none [] [
 op 2 (.mov (.cst (.int .u64 0)))] [0] none)
 (.seq (.region none [] [
 mv 3 0, op 4 (.conv .u64 (tm 3)), op 5 (.call .pure 63 [(tm 4)]), op 6 (.bin .shl .int (.cst (.int .u64 1)) (tm 5)), mv 2 6] [2] none)
 (.ret))

def a96 : AFunc := ⟨1, c96, [.tmp 2]⟩

def an96 : List RAnn := [
 { id := 0, live := [0] },
 { id := 1, live := [2] }]

theorem comp96 : compF Tryz.prog an96 Tryz.f96 = some a96 := by kernel_rfl

/- (*slices.xorshift).Next -/
def c97 : ACode :=
 .seq (.region none [] [
 op 2 (.mov (.cst (.int .u64 0)))] [0] none)
 (.seq (.region (some 9) [] [
 mv 3 0, op 4 (.nilchk (tm 3)), op 5 (.load none (tm 4)), mv 6 0, op 7 (.nilchk (tm 6)), op 8 (.load none (tm 7)), op 9 (.bin .shl .int (tm 8) (.cst (.int .u64 13))), op 10 (.bin .xor .int (tm 5) (tm 9)), op 11 (.nilchk (tm 3)), ⟨none, .store 1 (tm 11) (tm 10), none⟩] [0] none)
 (.seq (.region (some 9) [] [
 mv 12 0, op 13 (.nilchk (tm 12)), op 14 (.load none (tm 13)), mv 15 0, op 16 (.nilchk (tm 15)), op 17 (.load none (tm 16)), op 18 (.bin .shr .int (tm 17) (.cst (.int .u64 7))), op 19 (.bin .xor .int (tm 14) (tm 18)), op 20 (.nilchk (tm 12)), ⟨none, .store 1 (tm 20) (tm 19), none⟩] [0] none)
 (.seq (.region (some 9) [] [
 mv 21 0, op 22 (.nilchk (tm 21)), op 23 (.load none (tm 22)), mv 24 0, op 25 (.nilchk (tm 24)), op 26 (.load none (tm 25)), op 27 (.bin .shl .int (tm 26) (.cst (.int .u64 17))), op 28 (.bin .xor .int (tm 23) (tm 27)), op 29 (.nilchk (tm 21)), ⟨none, .store 1 (tm 29) (tm 28), none⟩] [0] none)
 (.seq (.region none [] [
 mv 30 0, op 31 (.nilchk (tm 30)), op 32 (.load none (tm 31)), mv 2 32] [2] none)
 (.ret)))))

def a97 : AFunc := ⟨1, c97, [.tmp 2]⟩

def an97 : List RAnn := [
 { id := 0, live := [0] },
 { id := 1, head := some 9, live := [0] },
 { id := 2, head := some 9, live := [0] },
 { id := 3, head := some 9, live := [0] },
 { id := 4, live := [2] }]

theorem comp97 : compF Tryz.prog an97 Tryz.f97 = some a97 := by kernel_rfl

/- slices.medianAdjacentOrdered[string] -/
def c98 : ACode :=
 .seq (.region none [] [
 op 6 (.mov (ci (0)))] [0, 1, 2] none)
 (.seq (.region none [] [
 mv 7 0, mv 8 1, op 9 (.bin .sub .int (tm 8) (ci (1))), mv 10 1, mv 11 1, op 12 (.bin .add .int (tm 11) (ci (1))), mv 13 2, op 14 (.call .share 99 [(tm 7), (tm 9), (tm 10), (tm 12), (tm 13)]), mv 6 14] [6] none)
 (.ret))

def a98 : AFunc := ⟨3, c98, [.tmp 6]⟩

def an98 : List RAnn := [
 { id := 0, live := [0, 1, 2] },
 { id := 1, live := [6], ops := [(7, .mode .share)] }]

theorem comp98 : compF Tryz.prog an98 Tryz.f98 = some a98 := by kernel_rfl

/- slices.medianOrdered[string] -/
def c99 : ACode :=
 .seq (.region none [] [
 op 10 (.mov (ci (0)))] [0, 1, 2, 3, 4] none)
 (.seq (.region none [] [
 mv 12 0, mv 13 1, mv 14 2, mv 15 4, op 16 (.call .share 110 [(tm 12), (tm 13), (tm 14), (tm 15)]), mv 11 16, op 17 (.ext (tm 11) 0), op 18 (.ext (tm 11) 1), mv 1 17, mv 2 18] [0, 1, 2, 3, 4] none)
 (.seq (.region none [] [
 mv 20 0, mv 21 2, mv 22 3, mv 23 4, op 24 (.call .share 110 [(tm 20), (tm 21), (tm 22), (tm 23)]), mv 19 24, op 25 (.ext (tm 19) 0), op 26 (.ext (tm 19) 1), mv 2 25, mv 3 26] [0, 1, 2, 4] none)
 (.seq (.region none [] [
 mv 28 0, mv 29 1, mv 30 2, mv 31 4, op 32 (.call .share 110 [(tm 28), (tm 29), (tm 30), (tm 31)]), mv 27 32, op 33 (.ext (tm 27) 0), op 34 (.ext (tm 27) 1), mv 1 33, mv 2 34] [2] none)
 (.seq (.region none [] [
 mv 35 2, mv 10 35] [10] none)
 (.ret)))))

def a99 : AFunc := ⟨5, c99, [.tmp 10]⟩

def an99 : List RAnn := [
 { id := 0, live := [0, 1, 2, 3, 4] },
 { id := 1, live := [0, 1, 2, 3, 4], ops := [(4, .mode .share)] },
 { id := 2, live := [0, 1, 2, 4], ops := [(4, .mode .share)] },
 { id := 3, live := [2], ops := [(4, .mode .share)] },
 { id := 4, live := [10] }]

theorem comp99 : compF Tryz.prog an99 Tryz.f99 = some a99 := by kernel_rfl

/- cmp.isNaN[string] -/
def c100 : ACode :=
 .seq (.region none [] [
 op 2 (.mov (.cst (.bool false)))] [0] none)
 (.seq (.region none [] [
 mv 3 0, mv 4 0, op 5 (.bin .neq .str (tm 3) (tm 4)), mv 2 5] [2] none)
 (.ret))

def a100 : AFunc := ⟨1, c100, [.tmp 2]⟩

def an100 : List RAnn := [
 { id := 0, live := [0] },
 { id := 1, live := [2] }]

theorem comp100 : compF Tryz.prog an100 Tryz.f100 = some a100 := by kernel_rfl

/- slices.siftDownCmpFunc[int] -/
/-- loop 0 of function 101 -/
def l101_0_h : List Nat := [0, 2, 3, 4, 10]

def l101_0_b : ACode :=
 .block 1 (.seq (.region none [] [
 mv 13 10, op 14 (.bin .mul .int (ci (2)) (tm 13)), op 15 (.bin .add .int (tm 14) (ci (1))), mv 11 15] [0, 2, 3, 4, 10, 11] none)
 (.seq (.seq (.region none [] [
 mv 16 11, mv 17 2, op 18 (.bin .geq .int (tm 16) (tm 17))] [0, 2, 3, 4, 10, 11, 18] none)
 (.cond (tm 18) (.exit 0)
 (.skip)))
 (.seq (.seq (.region (some 22) [] [
 mv 19 11, op 20 (.bin .add .int (tm 19) (ci (1))), mv 21 2, op 22 (.bin .lss .int (tm 20) (tm 21)), mv 23 22, mg 24 4 23 true, mg 25 0 23 true, mg 26 3 23 true, mg 27 11 23 true, ⟨some 28, .bin .add .int (tm 26) (tm 27), some (23, true)⟩, ⟨some 29, .iaddr 1 (tm 25) (tm 28), some (23, true)⟩, ⟨some 30, .load none (tm 29), some (23, true)⟩, mg 31 0 23 true, mg 32 3 23 true, mg 33 11 23 true, ⟨some 34, .bin .add .int (tm 32) (tm 33), some (23, true)⟩, ⟨some 35, .bin .add .int (tm 34) (ci (1)), some (23, true)⟩, ⟨some 36, .iaddr 1 (tm 31) (tm 35), some (23, true)⟩, ⟨some 37, .load none (tm 36), some (23, true)⟩, ⟨some 38, .callv .pure (tm 24) [(tm 30), (tm 37)], some (23, true)⟩, ⟨some 39, .bin .lss .int (tm 38) (ci (0)), some (23, true)⟩, op 40 (.pick (tm 23) (tm 39) (.cst (.bool false)))] [0, 2, 3, 4, 10, 11, 40] none)
 (.cond (tm 40) (.region none [] [
 mv 41 11, op 42 (.bin .add .int (tm 41) (ci (1))), mv 11 42] [0, 2, 3, 4, 10, 11] none)
 (.skip)))
 (.seq (.seq (.region (some 16) [] [
 mv 43 4, mv 44 0, mv 45 3, mv 46 10, op 47 (.bin .add .int (tm 45) (tm 46)), op 48 (.iaddr 1 (tm 44) (tm 47)), op 49 (.load none (tm 48)), mv 50 0, mv 51 3, mv 52 11, op 53 (.bin .add .int (tm 51) (tm 52)), op 54 (.iaddr 1 (tm 50) (tm 53)), op 55 (.load none (tm 54)), op 56 (.callv .pure (tm 43) [(tm 49), (tm 55)]), op 57 (.bin .lss .int (tm 56) (ci (0))), op 58 (.un .not (tm 57))] [0, 2, 3, 4, 10, 11, 58] none)
 (.cond (tm 58) (.ret)
 (.skip)))
 (.seq (.par 24 [] [] [
 mv 59 0, mv 60 3, mv 61 10, op 62 (.bin .add .int (tm 60) (tm 61)), mv 63 0, mv 64 3, mv 65 11, op 66 (.bin .add .int (tm 64) (tm 65)), mv 67 0, mv 68 3, mv 69 11, op 70 (.bin .add .int (tm 68) (tm 69)), op 71 (.iaddr 1 (tm 67) (tm 70)), op 72 (.load none (tm 71)), mv 73 0, mv 74 3, mv 75 10, op 76 (.bin .add .int (tm 74) (tm 75)), op 77 (.iaddr 1 (tm 73) (tm 76)), op 78 (.load none (tm 77)), op 79 (.iaddr 1 (tm 59) (tm 62)), ⟨none, .store 1 (tm 79) (tm 72), none⟩, op 80 (.iaddr 1 (tm 63) (tm 66)), ⟨none, .store 1 (tm 80) (tm 78), none⟩] [0, 2, 3, 4, 11] none)
 (.region none [] [
 mv 81 11, mv 10 81] [0, 2, 3, 4, 10] none))))))

def c101 : ACode :=
 .seq (.region none [] [
 mv 12 1, mv 10 12] [0, 2, 3, 4, 10] none)
 (.block 0 (.loop l101_0_h l101_0_b))

def a101 : AFunc := ⟨5, c101, []⟩

def an101 : List RAnn := [
 { id := 0, live := [0, 2, 3, 4, 10] },
 { id := 1, live := [0, 2, 3, 4, 10, 11], hdr := [0, 2, 3, 4, 10] },
 { id := 2, live := [0, 2, 3, 4, 10, 11, 18] },
 { id := 3, head := some 22, live := [0, 2, 3, 4, 10, 11, 40] },
 { id := 4, live := [0, 2, 3, 4, 10, 11] },
 { id := 5, head := some 16, live := [0, 2, 3, 4, 10, 11, 58] },
 { id := 6, head := some 24, live := [0, 2, 3, 4, 11], par := true },
 { id := 7, live := [0, 2, 3, 4, 10] }]

theorem comp101 : compF Tryz.prog an101 Tryz.f101 = some a101 := by kernel_rfl

/- slices.medianAdjacentCmpFunc[int] -/
def c102 : ACode :=
 .seq (.region none [] [
 op 8 (.mov (ci (0)))] [0, 1, 2, 3] none)
 (.seq (.region none [] [
 mv 9 0, mv 10 1, op 11 (.bin .sub .int (tm 10) (ci (1))), mv 12 1, mv 13 1, op 14 (.bin .add .int (tm 13) (ci (1))), mv 15 2, mv 16 3, op 17 (.call .share 103 [(tm 9), (tm 11), (tm 12), (tm 14), (tm 15), (tm 16)]), mv 8 17] [8] none)
 (.ret))

def a102 : AFunc := ⟨4, c102, [.tmp 8]⟩

def an102 : List RAnn := [
 { id := 0, live := [0, 1, 2, 3] },
 { id := 1, live := [8], ops := [(8, .mode .share)] }]

theorem comp102 : compF Tryz.prog an102 Tryz.f102 = some a102 := by kernel_rfl

/- slices.medianCmpFunc[int] -/
def c103 : ACode :=
 .seq (.region none [] [
 op 12 (.mov (ci (0)))] [0, 1, 2, 3, 4, 5] none)
 (.seq (.region none [] [
 mv 14 0, mv 15 1, mv 16 2, mv 17 4, mv 18 5, op 19 (.call .share 111 [(tm 14), (tm 15), (tm 16), (tm 17), (tm 18)]), mv 13 19, op 20 (.ext (tm 13) 0), op 21 (.ext (tm 13) 1), mv 1 20, mv 2 21] [0, 1, 2, 3, 4, 5] none)
 (.seq (.region none [] [
 mv 23 0, mv 24 2, mv 25 3, mv 26 4, mv 27 5, op 28 (.call .share 111 [(tm 23), (tm 24), (tm 25), (tm 26), (tm 27)]), mv 22 28, op 29 (.ext (tm 22) 0), op 30 (.ext (tm 22) 1), mv 2 29, mv 3 30] [0, 1, 2, 4, 5] none)
 (.seq (.region none [] [
 mv 32 0, mv 33 1, mv 34 2, mv 35 4, mv 36 5, op 37 (.call .share 111 [(tm 32), (tm 33), (tm 34), (tm 35), (tm 36)]), mv 31 37, op 38 (.ext (tm 31) 0), op 39 (.ext (tm 31) 1), mv 1 38, mv 2 39] [2] none)
 (.seq (.region none [] [
 mv 40 2, mv 12 40] [12] none)
 (.ret)))))

def a103 : AFunc := ⟨6, c103, [.tmp 12]⟩

def an103 : List RAnn := [
 { id := 0, live := [0, 1, 2, 3, 4, 5] },
 { id := 1, live := [0, 1, 2, 3, 4, 5], ops := [(5, .mode .share)] },
 { id := 2, live := [0, 1, 2, 4, 5], ops := [(5, .mode .share)] },
 { id := 3, live := [2], ops := [(5, .mode .share)] },
 { id := 4, live := [12] }]

theorem comp103 : compF Tryz.prog an103 Tryz.f103 = some a103 := by kernel_rfl

/- graphdb/graphdbref04.valid -/
def c104 : ACode :=
 .seq (.region none [] [
 op 2 (.box 5 (tm 0)), op 4 (.mov (.cst (.bool false)))] [1, 2] none)
 (.seq (.seq (.region none [] [
 op 5 (.faddr 0 (tm 2)), op 6 (.load none (tm 5))] [1, 2, 6] none)
 (.block 0 (.seq (.region none [] [
 op 8 (.bin .eql .int (tm 6) (ci (0))), mv 7 8] [1, 2, 6, 7] none)
 (.cond (tm 7) (.seq (.region none [] [
 op 9 (.load (some 5) (tm 2)), op 10 (.call .pure 112 [(tm 9), (.cst (.bool false)), (.cst (.bool false)), (.cst (.bool false)), (.cst (.bool false))]), mv 4 10] [4] none)
 (.ret))
 (.seq (.region none [] [
 op 12 (.bin .eql .int (tm 6) (ci (1))), mv 11 12] [1, 2, 6, 11] none)
 (.cond (tm 11) (.seq (.region none [] [
 op 13 (.load (some 5) (tm 2)), op 14 (.call .pure 112 [(tm 13), (.cst (.bool true)), (.cst (.bool false)), (.cst (.bool false)), (.cst (.bool false))]), mv 15 14, ⟨some 16, .faddr 1 (tm 2), some (15, true)⟩, ⟨some 17, .load none (tm 16), some (15, true)⟩, ⟨some 18, .bin .eql .int (tm 17) (ci (0)), some (15, true)⟩, mg 19 18 15 true, ⟨some 20, .faddr 1 (tm 2), some (19, false)⟩, ⟨some 21, .load none (tm 20), some (19, false)⟩, ⟨some 22, .bin .eql .int (tm 21) (ci (1)), some (19, false)⟩, ⟨some 23, .pick (tm 19) (.cst (.bool true)) (tm 22), some (15, true)⟩, op 24 (.pick (tm 15) (tm 23) (.cst (.bool false))), mv 4 24] [4] none)
 (.ret))
 (.seq (.region none [] [
 op 26 (.bin .eql .int (tm 6) (ci (2))), mv 25 26] [1, 2, 6, 25] none)
 (.cond (tm 25) (.seq (.region none [] [
 op 27 (.load (some 5) (tm 2)), op 28 (.call .pure 112 [(tm 27), (.cst (.bool true)), (.cst (.bool false)), (.cst (.bool false)), (.cst (.bool false))]), mv 29 28, ⟨some 30, .faddr 1 (tm 2), some (29, true)⟩, ⟨some 31, .load none (tm 30), some (29, true)⟩, ⟨some 32, .call .pure 113 [(tm 31)], some (29, true)⟩, op 33 (.pick (tm 29) (tm 32) (.cst (.bool false))), mv 4 33] [4] none)
 (.ret))
 (.seq (.region none [] [
 op 35 (.bin .eql .int (tm 6) (ci (3))), mv 34 35] [1, 2, 6, 34] none)
 (.cond (tm 34) (.seq (.region none [] [
 op 36 (.load (some 5) (tm 2)), op 37 (.call .pure 112 [(tm 36), (.cst (.bool true)), (.cst (.bool true)), (.cst (.bool false)), (.cst (.bool false))]), mv 38 37, ⟨some 39, .faddr 2 (tm 2), some (38, true)⟩, ⟨some 40, .load none (tm 39), some (38, true)⟩, ⟨some 41, .bin .geq .int (tm 40) (ci (2)), some (38, true)⟩, op 42 (.pick (tm 38) (tm 41) (.cst (.bool false))), mv 43 42, ⟨some 44, .faddr 1 (tm 2), some (43, true)⟩, ⟨some 45, .load none (tm 44), some (43, true)⟩, ⟨some 46, .faddr 2 (tm 2), some (43, true)⟩, ⟨some 47, .load none (tm 46), some (43, true)⟩, ⟨some 48, .build [.int .i64 0, .int .i64 0] [(0, 1, (tm 45)), (1, 1, (tm 47))], some (43, true)⟩, ⟨some 49, .call .pure 114 [(tm 48)], some (43, true)⟩, op 50 (.pick (tm 43) (tm 49) (.cst (.bool false))), mv 4 50] [4] none)
 (.ret))
 (.seq (.region none [] [
 op 52 (.bin .eql .int (tm 6) (ci (4))), mv 51 52] [1, 2, 6, 51] none)
 (.cond (tm 51) (.seq (.region none [] [
 op 53 (.load (some 5) (tm 2)), op 54 (.call .pure 112 [(tm 53), (.cst (.bool false)), (.cst (.bool false)), (.cst (.bool true)), (.cst (.bool false))]), mv 55 54, ⟨some 56, .faddr 3 (tm 2), some (55, true)⟩, ⟨some 57, .load none (tm 56), some (55, true)⟩, ⟨some 58, .call .pure 115 [(tm 57)], some (55, true)⟩, op 59 (.pick (tm 55) (tm 58) (.cst (.bool false))), mv 4 59] [4] none)
 (.ret))
 (.seq (.seq (.region none [] [
 op 61 (.bin .eql .int (tm 6) (ci (5))), mv 60 61] [1, 2, 6, 60] none)
 (.cond (tm 60) (.skip)
 (.region none [] [
 op 62 (.bin .eql .int (tm 6) (ci (6))), mv 60 62] [1, 2, 6, 60] none)))
 (.cond (tm 60) (.seq (.region none [] [
 op 63 (.load (some 5) (tm 2)), op 64 (.call .pure 112 [(tm 63), (.cst (.bool true)), (.cst (.bool false)), (.cst (.bool false)), (.cst (.bool false))]), mv 65 64, ⟨some 66, .faddr 1 (tm 2), some (65, true)⟩, ⟨some 67, .load none (tm 66), some (65, true)⟩, ⟨some 68, .bin .geq .int (tm 67) (ci (1)), some (65, true)⟩, op 69 (.pick (tm 65) (tm 68) (.cst (.bool false))), mv 70 69, ⟨some 71, .faddr 1 (tm 2), some (70, true)⟩, ⟨some 72, .load none (tm 71), some (70, true)⟩, ⟨some 73, .bin .leq .int (tm 72) (ci (1000000)), some (70, true)⟩, op 74 (.pick (tm 70) (tm 73) (.cst (.bool false))), mv 4 74] [4] none)
 (.ret))
 (.seq (.region none [] [
 op 76 (.bin .eql .int (tm 6) (ci (7))), mv 75 76] [1, 2, 6, 75] none)
 (.cond (tm 75) (.seq (.region none [] [
 op 77 (.load (some 5) (tm 2)), op 78 (.call .pure 112 [(tm 77), (.cst (.bool false)), (.cst (.bool false)), (.cst (.bool false)), (.cst (.bool true))]), mv 79 78, ⟨some 80, .faddr 4 (tm 2), some (79, true)⟩, ⟨some 81, .load none (tm 80), some (79, true)⟩, ⟨some 82, .call .pure 116 [(tm 81)], some (79, true)⟩, op 83 (.pick (tm 79) (tm 82) (.cst (.bool false))), mv 4 83] [4] none)
 (.ret))
 (.seq (.region none [] [
 op 85 (.bin .eql .int (tm 6) (ci (8))), mv 84 85] [1, 2, 84] none)
 (.cond (tm 84) (.seq (.region none [] [
 op 86 (.load (some 5) (tm 2)), op 87 (.call .pure 112 [(tm 86), (.cst (.bool false)), (.cst (.bool false)), (.cst (.bool false)), (.cst (.bool true))]), mv 88 87, ⟨some 89, .faddr 4 (tm 2), some (88, true)⟩, ⟨some 90, .load none (tm 89), some (88, true)⟩, mg 91 1 88 true, ⟨some 92, .call .pure 117 [(tm 90), (tm 91)], some (88, true)⟩, op 93 (.pick (tm 88) (tm 92) (.cst (.bool false))), mv 4 93] [4] none)
 (.ret))
 (.skip)))))))))))))))))))
 (.seq (.region none [] [
 op 4 (.mov (.cst (.bool false)))] [4] none)
 (.ret)))

def a104 : AFunc := ⟨2, c104, [.tmp 4]⟩

def an104 : List RAnn := [
 { id := 0, live := [1, 2] },
 { id := 1, live := [1, 2, 6] },
 { id := 2, live := [1, 2, 6, 7] },
 { id := 3, live := [4] },
 { id := 4, live := [1, 2, 6, 11] },
 { id := 5, live := [4] },
 { id := 6, live := [1, 2, 6, 25] },
 { id := 7, live := [4] },
 { id := 8, live := [1, 2, 6, 34] },
 { id := 9, live := [4] },
 { id := 10, live := [1, 2, 6, 51] },
 { id := 11, live := [4] },
 { id := 12, live := [1, 2, 6, 60] },
 { id := 13, live := [1, 2, 6, 60] },
 { id := 14, live := [4] },
 { id := 15, live := [1, 2, 6, 75] },
 { id := 16, live := [4] },
 { id := 17, live := [1, 2, 84] },
 { id := 18, live := [4] },
 { id := 19, live := [4] }]

theorem comp104 : compF Tryz.prog an104 Tryz.f104 = some a104 := by kernel_rfl

/- graphdb/num.In -/
def c105 : ACode :=
 .seq (.region none [] [
 op 2 (.mov (.cst (.bool false)))] [0] none)
 (.seq (.region none [] [
 mv 3 0, op 4 (.bin .geq .int (tm 3) (ci ((-1000000000000000)))), mv 5 4, mg 6 0 5 true, ⟨some 7, .bin .leq .int (tm 6) (ci (1000000000000000)), some (5, true)⟩, op 8 (.pick (tm 5) (tm 7) (.cst (.bool false))), mv 2 8] [2] none)
 (.ret))

def a105 : AFunc := ⟨1, c105, [.tmp 2]⟩

def an105 : List RAnn := [
 { id := 0, live := [0] },
 { id := 1, live := [2] }]

theorem comp105 : compF Tryz.prog an105 Tryz.f105 = some a105 := by kernel_rfl

/- graphdb/frac.Valid -/
def c106 : ACode :=
 .seq (.region none [] [
 op 1 (.box 2 (tm 0)), op 2 (.mov (.cst (.bool false)))] [1] none)
 (.seq (.region none [] [
 op 3 (.faddr 1 (tm 1)), op 4 (.load none (tm 3)), op 5 (.bin .geq .int (tm 4) (ci (1))), mv 6 5, ⟨some 7, .faddr 1 (tm 1), some (6, true)⟩, ⟨some 8, .load none (tm 7), some (6, true)⟩, ⟨some 9, .bin .leq .int (tm 8) (ci (1000000000000000)), some (6, true)⟩, op 10 (.pick (tm 6) (tm 9) (.cst (.bool false))), mv 11 10, ⟨some 12, .faddr 0 (tm 1), some (11, true)⟩, ⟨some 13, .load none (tm 12), some (11, true)⟩, ⟨some 14, .call .pure 105 [(tm 13)], some (11, true)⟩, op 15 (.pick (tm 11) (tm 14) (.cst (.bool false))), mv 16 15, ⟨some 17, .faddr 0 (tm 1), some (16, true)⟩, ⟨some 18, .load none (tm 17), some (16, true)⟩, ⟨some 19, .faddr 1 (tm 1), some (16, true)⟩, ⟨some 20, .load none (tm 19), some (16, true)⟩, ⟨some 21, .call .pure 118 [(tm 18), (tm 20)], some (16, true)⟩, ⟨some 22, .bin .eql .int (tm 21) (ci (1)), some (16, true)⟩, op 23 (.pick (tm 16) (tm 22) (.cst (.bool false))), mv 2 23] [2] none)
 (.ret))

def a106 : AFunc := ⟨1, c106, [.tmp 2]⟩

def an106 : List RAnn := [
 { id := 0, live := [1] },
 { id := 1, live := [2] }]

theorem comp106 : compF Tryz.prog an106 Tryz.f106 = some a106 := by kernel_rfl

/- graphdb/value.valid$1 -/
def c108 : ACode :=
 .seq (.region none [] [
 op 2 (.mov (.cst (.bool false)))] [0] none)
 (.seq (.region none [] [
 mv 3 0, op 4 (.bin .lss .int (tm 3) (.cst (.int .i32 32))), mv 5 4, mg 6 0 5 false, ⟨some 7, .bin .gtr .int (tm 6) (.cst (.int .i32 126)), some (5, false)⟩, op 8 (.pick (tm 5) (.cst (.bool true)) (tm 7)), mv 2 8] [2] none)
 (.ret))

def a108 : AFunc := ⟨1, c108, [.tmp 2]⟩

def an108 : List RAnn := [
 { id := 0, live := [0] },
 { id := 1, live := [2] }]

theorem comp108 : compF Tryz.prog an108 Tryz.f108 = some a108 := by kernel_rfl

/- graphdb/value.path -/
/-- loop 0 of function 109 -/
def l109_0_h : List Nat := [15, 16, 17]

def l109_0_b : ACode :=
 .seq (.region none [] [
 op 18 (.bin .lss .int (tm 17) (tm 16))] [15, 16, 17, 18] none)
 (.seq (.cond (tm 18) (.skip)
 (.exit 0))
 (.seq (.block 1 (.seq (.region none [] [
 mv 19 17, op 20 (.iaddr 5 (tm 15) (tm 17)), op 21 (.load (some 5) (tm 20)), op 4 (.alloc 5 (.agg [.int .i64 0, .int .i64 0, .int .i64 0, .str [], .sl false []])), mv 3 19, ⟨none, .store 5 (tm 4) (tm 21), none⟩] [3, 4, 15, 16, 17] none)
 (.seq (.region none [] [
 op 22 (.lit false 1 (.int .i64 0) 2 [(0, (ci (5))), (1, (ci (6)))]), mv 23 3, op 24 (.bin .rem .int (tm 23) (ci (2))), op 25 (.iaddr 1 (tm 22) (tm 24)), op 26 (.load none (tm 25)), mv 5 26] [4, 5, 15, 16, 17] none)
 (.seq (.region none [] [
 op 27 (.faddr 0 (tm 4)), op 28 (.load none (tm 27)), mv 29 5, op 30 (.bin .neq .int (tm 28) (tm 29)), mv 31 30, ⟨some 32, .load (some 5) (tm 4), some (31, false)⟩, ⟨some 33, .call .pure 94 [(tm 32), (ci (0))], some (31, false)⟩, ⟨some 34, .un .not (tm 33), some (31, false)⟩, op 35 (.pick (tm 31) (.cst (.bool true)) (tm 34))] [15, 16, 17, 35] none)
 (.cond (tm 35) (.seq (.region none [] [
 op 2 (.mov (.cst (.bool false)))] [2] none)
 (.ret))
 (.skip))))))
 (.region none [] [
 op 36 (.bin .add .int (tm 17) (ci (1))), mv 17 36] [15, 16, 17] none)))

def c109 : ACode :=
 .seq (.region none [] [
 op 2 (.mov (.cst (.bool false)))] [0] none)
 (.seq (.seq (.region none [] [
 mv 6 0, op 7 (.len .slice (tm 6)), op 8 (.bin .rem .int (tm 7) (ci (2))), op 9 (.bin .eql .int (tm 8) (ci (0))), mv 10 9, mg 11 0 10 false, ⟨some 12, .len .slice (tm 11), some (10, false)⟩, ⟨some 13, .bin .gtr .int (tm 12) (ci (25)), some (10, false)⟩, op 14 (.pick (tm 10) (.cst (.bool true)) (tm 13))] [0, 14] none)
 (.cond (tm 14) (.seq (.region none [] [
 op 2 (.mov (.cst (.bool false)))] [2] none)
 (.ret))
 (.skip)))
 (.seq (.seq (.region none [] [
 mv 15 0, op 16 (.len .slice (tm 15)), op 17 (.mov (ci (0)))] [15, 16, 17] none)
 (.block 0 (.loop l109_0_h l109_0_b)))
 (.seq (.region none [] [
 op 2 (.mov (.cst (.bool true)))] [2] none)
 (.ret))))

def a109 : AFunc := ⟨1, c109, [.tmp 2]⟩

def an109 : List RAnn := [
 { id := 0, live := [0] },
 { id := 1, live := [0, 14] },
 { id := 2, live := [2] },
 { id := 3, live := [15, 16, 17] },
 { id := 4, live := [15, 16, 17, 18], hdr := [15, 16, 17] },
 { id := 5, live := [3, 4, 15, 16, 17] },
 { id := 6, live := [4, 5, 15, 16, 17] },
 { id := 7, live := [15, 16, 17, 35] },
 { id := 8, live := [2] },
 { id := 9, live := [15, 16, 17] },
 { id := 10, live := [2] }]

theorem comp109 : compF Tryz.prog an109 Tryz.f109 = some a109 := by kernel_rfl

/- slices.order2Ordered[string] -/
def c110 : ACode :=
 .seq (.region none [] [
 op 8 (.mov (ci (0))), op 9 (.mov (ci (0)))] [0, 1, 2, 3] none)
 (.seq (.seq (.region (some 9) [] [
 mv 10 0, mv 11 2, op 12 (.iaddr 1 (tm 10) (tm 11)), op 13 (.load none (tm 12)), mv 14 0, mv 15 1, op 16 (.iaddr 1 (tm 14) (tm 15)), op 17 (.load none (tm 16)), op 18 (.call .pure 80 [(tm 13), (tm 17)])] [1, 2, 3, 18] none)
 (.cond (tm 18) (.seq (.region none [] [
 mv 19 3, op 20 (.nilchk (tm 19)), op 21 (.load none (tm 20)), op 22 (.bin .add .int (tm 21) (ci (1))), op 23 (.nilchk (tm 19)), ⟨none, .store 1 (tm 23) (tm 22), none⟩] [1, 2] none)
 (.seq (.region none [] [
 mv 24 2, mv 25 1, mv 8 24, mv 9 25] [8, 9] none)
 (.ret)))
 (.skip)))
 (.seq (.region none [] [
 mv 26 1, mv 27 2, mv 8 26, mv 9 27] [8, 9] none)
 (.ret)))

def a110 : AFunc := ⟨4, c110, [.tmp 8, .tmp 9]⟩

def an110 : List RAnn := [
 { id := 0, live := [0, 1, 2, 3] },
 { id := 1, head := some 9, live := [1, 2, 3, 18] },
 { id := 2, live := [1, 2] },
 { id := 3, live := [8, 9] },
 { id := 4, live := [8, 9] }]

theorem comp110 : compF Tryz.prog an110 Tryz.f110 = some a110 := by kernel_rfl

/- slices.order2CmpFunc[int] -/
def c111 : ACode :=
 .seq (.region none [] [
 op 10 (.mov (ci (0))), op 11 (.mov (ci (0)))] [0, 1, 2, 3, 4] none)
 (.seq (.seq (.region (some 11) [] [
 mv 12 4, mv 13 0, mv 14 2, op 15 (.iaddr 1 (tm 13) (tm 14)), op 16 (.load none (tm 15)), mv 17 0, mv 18 1, op 19 (.iaddr 1 (tm 17) (tm 18)), op 20 (.load none (tm 19)), op 21 (.callv .pure (tm 12) [(tm 16), (tm 20)]), op 22 (.bin .lss .int (tm 21) (ci (0)))] [1, 2, 3, 22] none)
 (.cond (tm 22) (.seq (.region none [] [
 mv 23 3, op 24 (.nilchk (tm 23)), op 25 (.load none (tm 24)), op 26 (.bin .add .int (tm 25) (ci (1))), op 27 (.nilchk (tm 23)), ⟨none, .store 1 (tm 27) (tm 26), none⟩] [1, 2] none)
 (.seq (.region none [] [
 mv 28 2, mv 29 1, mv 10 28, mv 11 29] [10, 11] none)
 (.ret)))
 (.skip)))
 (.seq (.region none [] [
 mv 30 1, mv 31 2, mv 10 30, mv 11 31] [10, 11] none)
 (.ret)))

def a111 : AFunc := ⟨5, c111, [.tmp 10, .tmp 11]⟩

def an111 : List RAnn := [
 { id := 0, live := [0, 1, 2, 3, 4] },
 { id := 1, head := some 11, live := [1, 2, 3, 22] },
 { id := 2, live := [1, 2] },
 { id := 3, live := [10, 11] },
 { id := 4, live := [10, 11] }]

theorem comp111 : compF Tryz.prog an111 Tryz.f111 = some a111 := by kernel_rfl

/- graphdb/graphdbref04.bare -/
def c112 : ACode :=
 .seq (.region none [] [
 op 5 (.box 5 (tm 0)), op 10 (.mov (.cst (.bool false)))] [1, 2, 3, 4, 5] none)
 (.seq (.region none [] [
 mv 11 1, mv 12 11, ⟨some 13, .faddr 1 (tm 5), some (12, false)⟩, ⟨some 14, .load none (tm 13), some (12, false)⟩, ⟨some 15, .bin .eql .int (tm 14) (ci (0)), some (12, false)⟩, op 16 (.pick (tm 12) (.cst (.bool true)) (tm 15)), mv 17 16, mg 18 2 17 true, mg 19 18 17 true, ⟨some 20, .faddr 2 (tm 5), some (19, false)⟩, ⟨some 21, .load none (tm 20), some (19, false)⟩, ⟨some 22, .bin .eql .int (tm 21) (ci (0)), some (19, false)⟩, ⟨some 23, .pick (tm 19) (.cst (.bool true)) (tm 22), some (17, true)⟩, op 24 (.pick (tm 17) (tm 23) (.cst (.bool false))), mv 25 24, mg 26 3 25 true, mg 27 26 25 true, ⟨some 28, .faddr 3 (tm 5), some (27, false)⟩, ⟨some 29, .load none (tm 28), some (27, false)⟩, ⟨some 30, .bin .eql .str (tm 29) (.cst (.str [])), some (27, false)⟩, ⟨some 31, .pick (tm 27) (.cst (.bool true)) (tm 30), some (25, true)⟩, op 32 (.pick (tm 25) (tm 31) (.cst (.bool false))), mv 33 32, mg 34 4 33 true, mg 35 34 33 true, ⟨some 36, .faddr 4 (tm 5), some (35, false)⟩, ⟨some 37, .load none (tm 36), some (35, false)⟩, ⟨some 38, .len .slice (tm 37), some (35, false)⟩, ⟨some 39, .bin .eql .int (tm 38) (ci (0)), some (35, false)⟩, ⟨some 40, .pick (tm 35) (.cst (.bool true)) (tm 39), some (33, true)⟩, op 41 (.pick (tm 33) (tm 40) (.cst (.bool false))), mv 10 41] [10] none)
 (.ret))

def a112 : AFunc := ⟨5, c112, [.tmp 10]⟩

def an112 : List RAnn := [
 { id := 0, live := [1, 2, 3, 4, 5] },
 { id := 1, live := [10] }]

theorem comp112 : compF Tryz.prog an112 Tryz.f112 = some a112 := by kernel_rfl

/- graphdb/graphdbref01.In -/
def c113 : ACode :=
 .seq (.region none [] [
 op 2 (.mov (.cst (.bool false)))] [0] none)
 (.seq (.region none [] [
 mv 3 0, op 4 (.bin .geq .int (tm 3) (ci ((-1000000000000000)))), mv 5 4, mg 6 0 5 true, ⟨some 7, .bin .leq .int (tm 6) (ci (1000000000000000)), some (5, true)⟩, op 8 (.pick (tm 5) (tm 7) (.cst (.bool false))), mv 2 8] [2] none)
 (.ret))

def a113 : AFunc := ⟨1, c113, [.tmp 2]⟩

def an113 : List RAnn := [
 { id := 0, live := [0] },
 { id := 1, live := [2] }]

theorem comp113 : compF Tryz.prog an113 Tryz.f113 = some a113 := by kernel_rfl

/- graphdb/graphdbref03.Valid -/
def c114 : ACode :=
 .seq (.region none [] [
 op 1 (.box 2 (tm 0)), op 2 (.mov (.cst (.bool false)))] [1] none)
 (.seq (.region (some 28) [] [
 op 3 (.faddr 1 (tm 1)), op 4 (.load none (tm 3)), op 5 (.bin .geq .int (tm 4) (ci (1))), mv 6 5, ⟨some 7, .faddr 1 (tm 1), some (6, true)⟩, ⟨some 8, .load none (tm 7), some (6, true)⟩, ⟨some 9, .bin .leq .int (tm 8) (ci (1000000000000000)), some (6, true)⟩, op 10 (.pick (tm 6) (tm 9) (.cst (.bool false))), mv 11 10, ⟨some 12, .faddr 0 (tm 1), some (11, true)⟩, ⟨some 13, .load none (tm 12), some (11, true)⟩, ⟨some 14, .bin .geq .int (tm 13) (ci ((-1000000000000000))), some (11, true)⟩, op 15 (.pick (tm 11) (tm 14) (.cst (.bool false))), mv 16 15, ⟨some 17, .faddr 0 (tm 1), some (16, true)⟩, ⟨some 18, .load none (tm 17), some (16, true)⟩, ⟨some 19, .bin .leq .int (tm 18) (ci (1000000000000000)), some (16, true)⟩, op 20 (.pick (tm 16) (tm 19) (.cst (.bool false))), mv 21 20, ⟨some 22, .faddr 0 (tm 1), some (21, true)⟩, ⟨some 23, .load none (tm 22), some (21, true)⟩, ⟨some 24, .call .pure 121 [(tm 23)], some (21, true)⟩, ⟨some 25, .faddr 1 (tm 1), some (21, true)⟩, ⟨some 26, .load none (tm 25), some (21, true)⟩, ⟨some 27, .call .pure 120 [(tm 24), (tm 26)], some (21, true)⟩, ⟨some 28, .bin .eql .int (tm 27) (ci (1)), some (21, true)⟩, op 29 (.pick (tm 21) (tm 28) (.cst (.bool false))), mv 2 29] [2] none)
 (.ret))

def a114 : AFunc := ⟨1, c114, [.tmp 2]⟩

def an114 : List RAnn := [
 { id := 0, live := [1] },
 { id := 1, head := some 28, live := [2] }]

theorem comp114 : compF Tryz.prog an114 Tryz.f114 = some a114 := by kernel_rfl

/- graphdb/graphdbref04.str -/
/-- loop 0 of function 115 -/
def l115_0_h : List Nat := [0, 3]

def l115_0_b : ACode :=
 .seq (.seq (.region none [] [
 mv 4 3, mv 5 0, op 6 (.len .str (tm 5)), op 7 (.bin .lss .int (tm 4) (tm 6))] [0, 3, 7] none)
 (.cond (tm 7) (.skip)
 (.exit 0)))
 (.seq (.block 1 (.seq (.region none [] [
 mv 10 0, mv 11 3, op 12 (.sidx (tm 10) (tm 11)), op 13 (.bin .lss .int (tm 12) (.cst (.int .u8 32))), mv 14 13, mg 15 0 14 false, mg 16 3 14 false, ⟨some 17, .sidx (tm 15) (tm 16), some (14, false)⟩, ⟨some 18, .bin .gtr .int (tm 17) (.cst (.int .u8 126)), some (14, false)⟩, op 19 (.pick (tm 14) (.cst (.bool true)) (tm 18))] [0, 3, 19] none)
 (.cond (tm 19) (.seq (.region none [] [
 op 2 (.mov (.cst (.bool false)))] [2] none)
 (.ret))
 (.skip))))
 (.region none [] [
 mv 8 3, op 9 (.bin .add .int (tm 8) (ci (1))), mv 3 9] [0, 3] none))

def c115 : ACode :=
 .seq (.region none [] [
 op 2 (.mov (.cst (.bool false)))] [0] none)
 (.seq (.seq (.region none [] [
 op 3 (.mov (ci (0)))] [0, 3] none)
 (.block 0 (.loop l115_0_h l115_0_b)))
 (.seq (.region none [] [
 mv 20 0, op 21 (.len .str (tm 20)), op 22 (.bin .leq .int (tm 21) (ci (100))), mv 2 22] [2] none)
 (.ret)))

def a115 : AFunc := ⟨1, c115, [.tmp 2]⟩

def an115 : List RAnn := [
 { id := 0, live := [0] },
 { id := 1, live := [0, 3] },
 { id := 2, live := [0, 3, 7], hdr := [0, 3] },
 { id := 4, live := [0, 3, 19] },
 { id := 5, live := [2] },
 { id := 3, live := [0, 3] },
 { id := 6, live := [2] }]

theorem comp115 : compF Tryz.prog an115 Tryz.f115 = some a115 := by kernel_rfl

/- graphdb/graphdbref04.path -/
/-- loop 0 of function 116 -/
def l116_0_h : List Nat := [0, 3]

def l116_0_b : ACode :=
 .seq (.seq (.region none [] [
 mv 14 3, mv 15 0, op 16 (.len .slice (tm 15)), op 17 (.bin .lss .int (tm 14) (tm 16))] [0, 3, 17] none)
 (.cond (tm 17) (.skip)
 (.exit 0)))
 (.seq (.block 1 (.seq (.region none [] [
 op 4 (.mov (ci (5)))] [0, 3, 4] none)
 (.seq (.seq (.region none [] [
 mv 20 3, op 21 (.bin .rem .int (tm 20) (ci (2))), op 22 (.bin .eql .int (tm 21) (ci (1)))] [0, 3, 4, 22] none)
 (.cond (tm 22) (.region none [] [
 op 4 (.mov (ci (6)))] [0, 3, 4] none)
 (.skip)))
 (.seq (.region none [] [
 mv 23 0, mv 24 3, op 25 (.iaddr 5 (tm 23) (tm 24)), op 26 (.faddr 0 (tm 25)), op 27 (.load none (tm 26)), mv 28 4, op 29 (.bin .neq .int (tm 27) (tm 28)), mv 30 29, mg 31 0 30 false, mg 32 3 30 false, ⟨some 33, .iaddr 5 (tm 31) (tm 32), some (30, false)⟩, ⟨some 34, .load (some 5) (tm 33), some (30, false)⟩, ⟨some 35, .call .pure 104 [(tm 34), (ci (0))], some (30, false)⟩, ⟨some 36, .un .not (tm 35), some (30, false)⟩, op 37 (.pick (tm 30) (.cst (.bool true)) (tm 36))] [0, 3, 37] none)
 (.cond (tm 37) (.seq (.region none [] [
 op 2 (.mov (.cst (.bool false)))] [2] none)
 (.ret))
 (.skip))))))
 (.region none [] [
 mv 18 3, op 19 (.bin .add .int (tm 18) (ci (1))), mv 3 19] [0, 3] none))

def c116 : ACode :=
 .seq (.region none [] [
 op 2 (.mov (.cst (.bool false)))] [0] none)
 (.seq (.seq (.region none [] [
 mv 5 0, op 6 (.len .slice (tm 5)), op 7 (.bin .rem .int (tm 6) (ci (2))), op 8 (.bin .eql .int (tm 7) (ci (0))), mv 9 8, mg 10 0 9 false, ⟨some 11, .len .slice (tm 10), some (9, false)⟩, ⟨some 12, .bin .gtr .int (tm 11) (ci (25)), some (9, false)⟩, op 13 (.pick (tm 9) (.cst (.bool true)) (tm 12))] [0, 13] none)
 (.cond (tm 13) (.seq (.region none [] [
 op 2 (.mov (.cst (.bool false)))] [2] none)
 (.ret))
 (.skip)))
 (.seq (.seq (.region none [] [
 op 3 (.mov (ci (0)))] [0, 3] none)
 (.block 0 (.loop l116_0_h l116_0_b)))
 (.seq (.region none [] [
 op 2 (.mov (.cst (.bool true)))] [2] none)
 (.ret))))

def a116 : AFunc := ⟨1, c116, [.tmp 2]⟩

def an116 : List RAnn := [
 { id := 0, live := [0] },
 { id := 1, live := [0, 13] },
 { id := 2, live := [2] },
 { id := 3, live := [0, 3] },
 { id := 4, live := [0, 3, 17], hdr := [0, 3] },
 { id := 6, live := [0, 3, 4] },
 { id := 7, live := [0, 3, 4, 22] },
 { id := 8, live := [0, 3, 4] },
 { id := 9, live := [0, 3, 37] },
 { id := 10, live := [2] },
 { id := 5, live := [0, 3] },
 { id := 11, live := [2] }]

theorem comp116 : compF Tryz.prog an116 Tryz.f116 = some a116 := by kernel_rfl

/- graphdb/graphdbref04.list -/
/-- loop 0 of function 117 -/
def l117_0_h : List Nat := [0, 1, 5]

def l117_0_b : ACode :=
 .seq (.seq (.region none [] [
 mv 13 5, mv 14 0, op 15 (.len .slice (tm 14)), op 16 (.bin .lss .int (tm 13) (tm 15))] [0, 1, 5, 16] none)
 (.cond (tm 16) (.skip)
 (.exit 0)))
 (.seq (.block 1 (.seq (.region none [] [
 mv 19 0, mv 20 5, op 21 (.iaddr 5 (tm 19) (tm 20)), op 22 (.load (some 5) (tm 21)), mv 23 1, op 24 (.bin .sub .int (tm 23) (ci (1))), op 25 (.call .pure 104 [(tm 22), (tm 24)]), op 26 (.un .not (tm 25))] [0, 1, 5, 26] none)
 (.cond (tm 26) (.seq (.region none [] [
 op 4 (.mov (.cst (.bool false)))] [4] none)
 (.ret))
 (.skip))))
 (.region none [] [
 mv 17 5, op 18 (.bin .add .int (tm 17) (ci (1))), mv 5 18] [0, 1, 5] none))

def c117 : ACode :=
 .seq (.region none [] [
 op 4 (.mov (.cst (.bool false)))] [0, 1] none)
 (.seq (.seq (.region none [] [
 mv 6 1, op 7 (.bin .lss .int (tm 6) (ci (1))), mv 8 7, mg 9 0 8 false, ⟨some 10, .len .slice (tm 9), some (8, false)⟩, ⟨some 11, .bin .gtr .int (tm 10) (ci (64)), some (8, false)⟩, op 12 (.pick (tm 8) (.cst (.bool true)) (tm 11))] [0, 1, 12] none)
 (.cond (tm 12) (.seq (.region none [] [
 op 4 (.mov (.cst (.bool false)))] [4] none)
 (.ret))
 (.skip)))
 (.seq (.seq (.region none [] [
 op 5 (.mov (ci (0)))] [0, 1, 5] none)
 (.block 0 (.loop l117_0_h l117_0_b)))
 (.seq (.region none [] [
 op 4 (.mov (.cst (.bool true)))] [4] none)
 (.ret))))

def a117 : AFunc := ⟨2, c117, [.tmp 4]⟩

def an117 : List RAnn := [
 { id := 0, live := [0, 1] },
 { id := 1, live := [0, 1, 12] },
 { id := 2, live := [4] },
 { id := 3, live := [0, 1, 5] },
 { id := 4, live := [0, 1, 5, 16], hdr := [0, 1, 5] },
 { id := 6, live := [0, 1, 5, 26] },
 { id := 7, live := [4] },
 { id := 5, live := [0, 1, 5] },
 { id := 8, live := [4] }]

theorem comp117 : compF Tryz.prog an117 Tryz.f117 = some a117 := by kernel_rfl

/- graphdb/num.Gcd -/
/-- loop 0 of function 118 -/
def l118_0_h : List Nat := [0, 1]

def l118_0_b : ACode :=
 .seq (.seq (.region none [] [
 mv 17 1, op 18 (.bin .neq .int (tm 17) (ci (0)))] [0, 1, 18] none)
 (.cond (tm 18) (.skip)
 (.exit 0)))
 (.block 1 (.region (some 6) [] [
 mv 19 1, mv 20 0, mv 21 1, op 22 (.bin .rem .int (tm 20) (tm 21)), mv 0 19, mv 1 22] [0, 1] none))

def c118 : ACode :=
 .seq (.region none [] [
 op 4 (.mov (ci (0)))] [0, 1] none)
 (.seq (.seq (.region none [] [
 mv 5 0, op 6 (.call .pure 105 [(tm 5)]), op 7 (.un .not (tm 6)), mv 8 7, mg 9 1 8 false, ⟨some 10, .call .pure 105 [(tm 9)], some (8, false)⟩, ⟨some 11, .un .not (tm 10), some (8, false)⟩, op 12 (.pick (tm 8) (.cst (.bool true)) (tm 11))] [0, 1, 12] none)
 (.cond (tm 12) (.seq (.region none [] [
 op 4 (.mov (ci (0)))] [4] none)
 (.ret))
 (.skip)))
 (.seq (.region none [] [
 mv 13 0, op 14 (.call .pure 122 [(tm 13)]), mv 15 1, op 16 (.call .pure 122 [(tm 15)]), mv 0 14, mv 1 16] [0, 1] none)
 (.seq (.block 0 (.loop l118_0_h l118_0_b))
 (.seq (.region none [] [
 mv 23 0, mv 4 23] [4] none)
 (.ret)))))

def a118 : AFunc := ⟨2, c118, [.tmp 4]⟩

def an118 : List RAnn := [
 { id := 0, live := [0, 1] },
 { id := 1, live := [0, 1, 12] },
 { id := 2, live := [4] },
 { id := 3, live := [0, 1] },
 { id := 4, live := [0, 1, 18], hdr := [0, 1] },
 { id := 5, head := some 6, live := [0, 1] },
 { id := 6, live := [4] }]

theorem comp118 : compF Tryz.prog an118 Tryz.f118 = some a118 := by kernel_rfl

/- strings.indexFunc -/
/-- loop 0 of function 119 -/
def l119_0_h : List Nat := [1, 2, 10]

def l119_0_b : ACode :=
 .seq (.cond (ci (0)) (.skip)
 (.skip))
 (.seq (.cond (tm 12) (.skip)
 (.exit 0))
 (.block 1 (.seq (.region none [] [
 op 13 (.ext (tm 11) 1), op 14 (.ext (tm 11) 2), mv 7 13, mv 8 14] [1, 2, 7, 8, 10] none)
 (.seq (.region none [] [
 mv 15 1, mv 16 8, op 17 (.callv .pure (tm 15) [(tm 16)]), mv 18 2, op 19 (.bin .eql .bool (tm 17) (tm 18))] [1, 2, 7, 10, 19] none)
 (.cond (tm 19) (.seq (.region none [] [
 mv 20 7, mv 6 20] [6] none)
 (.ret))
 (.skip))))))

def c119 : ACode :=
 .seq (.region none [] [
 op 6 (.mov (ci (0)))] [0, 1, 2] none)
 (.seq (.seq (.cond (ci (0)) (.skip)
 (.skip))
 (.block 0 (.loop l119_0_h l119_0_b)))
 (.seq (.region none [] [
 op 6 (.mov (ci ((-1))))] [6] none)
 (.ret)))

def a119 : AFunc := ⟨3, c119, [.tmp 6]⟩

def an119 : List RAnn := [
 { id := 0, live := [0, 1, 2] },
 { id := 1, live := [1, 2, 10] },
 { id := 2, live := [1, 2, 10, 11, 12], hdr := [1, 2, 10] },
 { id := 3, live := [1, 2, 7, 8, 10] },
 { id := 4, live := [1, 2, 7, 10, 19] },
 { id := 5, live := [6] },
 { id := 6, live := [6] }]

theorem comp119 : compF Tryz.prog an119 Tryz.f119 = some a119 := by kernel_rfl

/- graphdb/graphdbref03.gcd -/
/-- loop 0 of function 120 -/
def l120_0_h : List Nat := [0, 1]

def l120_0_b : ACode :=
 .seq (.seq (.region none [] [
 mv 5 1, op 6 (.bin .gtr .int (tm 5) (ci (0)))] [0, 1, 6] none)
 (.cond (tm 6) (.skip)
 (.exit 0)))
 (.block 1 (.region (some 6) [] [
 mv 7 1, mv 8 0, mv 9 1, op 10 (.bin .rem .int (tm 8) (tm 9)), mv 0 7, mv 1 10] [0, 1] none))

def c120 : ACode :=
 .seq (.region none [] [
 op 4 (.mov (ci (0)))] [0, 1] none)
 (.seq (.block 0 (.loop l120_0_h l120_0_b))
 (.seq (.region none [] [
 mv 11 0, mv 4 11] [4] none)
 (.ret)))

def a120 : AFunc := ⟨2, c120, [.tmp 4]⟩

def an120 : List RAnn := [
 { id := 0, live := [0, 1] },
 { id := 1, live := [0, 1, 6], hdr := [0, 1] },
 { id := 2, head := some 6, live := [0, 1] },
 { id := 3, live := [4] }]

theorem comp120 : compF Tryz.prog an120 Tryz.f120 = some a120 := by kernel_rfl

/- graphdb/graphdbref03.size -/
def c121 : ACode :=
 .seq (.region none [] [
 op 2 (.mov (ci (0)))] [0] none)
 (.seq (.seq (.region none [] [
 mv 3 0, op 4 (.bin .lss .int (tm 3) (ci (0)))] [0, 4] none)
 (.cond (tm 4) (.seq (.region none [] [
 mv 5 0, op 6 (.un .neg (tm 5)), mv 2 6] [2] none)
 (.ret))
 (.skip)))
 (.seq (.region none [] [
 mv 7 0, mv 2 7] [2] none)
 (.ret)))

def a121 : AFunc := ⟨1, c121, [.tmp 2]⟩

def an121 : List RAnn := [
 { id := 0, live := [0] },
 { id := 1, live := [0, 4] },
 { id := 2, live := [2] },
 { id := 3, live := [2] }]

theorem comp121 : compF Tryz.prog an121 Tryz.f121 = some a121 := by kernel_rfl

/- graphdb/num.abs -/
def c122 : ACode :=
 .seq (.region none [] [
 op 2 (.mov (ci (0)))] [0] none)
 (.seq (.region none [] [
 mv 3 0, mv 4 0, op 5 (.un .neg (tm 4)), op 6 (.max (tm 3) (tm 5)), mv 2 6] [2] none)
 (.ret))

def a122 : AFunc := ⟨1, c122, [.tmp 2]⟩

def an122 : List RAnn := [
 { id := 0, live := [0] },
 { id := 1, live := [2] }]

theorem comp122 : compF Tryz.prog an122 Tryz.f122 = some a122 := by kernel_rfl

end AI
end Go.Proofs.YtokdbmakkoleiaaGreat
