/- Printed by a program of mine: the functions, compiled; the kernel checks each against the given form. -/
import Derived.Test.YtokdbmakkoleiaaSe
import Derived.Test.YtokdbmakkoleiaaProg
import Derived.Test.YtokdbmakkoleiaaAb
import Derived.KernelRfl
import Derived.Test.YtokdbmakkoleiaaIxF
namespace Go.Proofs.Ytokdbmakkoleiaa
namespace AI
/- math/bits.Len32 -/
def c61 : ACode :=
 .seq (.region none [] [
 op 2 (.mov (ci (0)))] [0, 2] none)
 (.seq (.seq (.region none [] [
 mv 3 0, op 4 (.bin .geq .int (tm 3) (.cst (.int .u32 65536)))] [0, 2, 4] none)
 (.cond (tm 4) (.seq (.region none [] [
 mv 5 0, op 6 (.bin .shr .int (tm 5) (.cst (.int .u64 16))), mv 0 6] [0] none)
 (.region none [] [
 op 2 (.mov (ci (16)))] [0, 2] none))
 (.skip)))
 (.seq (.seq (.region none [] [
 mv 7 0, op 8 (.bin .geq .int (tm 7) (.cst (.int .u32 256)))] [0, 2, 8] none)
 (.cond (tm 8) (.seq (.region none [] [
 mv 9 0, op 10 (.bin .shr .int (tm 9) (.cst (.int .u64 8))), mv 0 10] [0, 2] none)
 (.region none [] [
 mv 11 2, op 12 (.bin .add .int (tm 11) (ci (8))), mv 2 12] [0, 2] none))
 (.skip)))
 (.seq (.region none [] [
 mv 13 2, mv 14 0, op 15 (.conv .u8 (tm 14)), op 16 (.sidx (.cst (.str [0, 1, 2, 2, 3, 3, 3, 3, 4, 4, 4, 4, 4, 4, 4, 4, 5, 5, 5, 5, 5, 5, 5, 5, 5, 5, 5, 5, 5, 5, 5, 5, 6, 6, 6, 6, 6, 6, 6, 6, 6, 6, 6, 6, 6, 6, 6, 6, 6, 6, 6, 6, 6, 6, 6, 6, 6, 6, 6, 6, 6, 6, 6, 6, 7, 7, 7, 7, 7, 7, 7, 7, 7, 7, 7, 7, 7, 7, 7, 7, 7, 7, 7, 7, 7, 7, 7, 7, 7, 7, 7, 7, 7, 7, 7, 7, 7, 7, 7, 7, 7, 7, 7, 7, 7, 7, 7, 7, 7, 7, 7, 7, 7, 7, 7, 7, 7, 7, 7, 7, 7, 7, 7, 7, 7, 7, 7, 7, 8, 8, 8, 8, 8, 8, 8, 8, 8, 8, 8, 8, 8, 8, 8, 8, 8, 8, 8, 8, 8, 8, 8, 8, 8, 8, 8, 8, 8, 8, 8, 8, 8, 8, 8, 8, 8, 8, 8, 8, 8, 8, 8, 8, 8, 8, 8, 8, 8, 8, 8, 8, 8, 8, 8, 8, 8, 8, 8, 8, 8, 8, 8, 8, 8, 8, 8, 8, 8, 8, 8, 8, 8, 8, 8, 8, 8, 8, 8, 8, 8, 8, 8, 8, 8, 8, 8, 8, 8, 8, 8, 8, 8, 8, 8, 8, 8, 8, 8, 8, 8, 8, 8, 8, 8, 8, 8, 8, 8, 8, 8, 8, 8, 8, 8, 8, 8, 8, 8, 8, 8, 8, 8, 8, 8, 8, 8, 8])) (tm 15)), op 17 (.conv .i64 (tm 16)), op 18 (.bin .add .int (tm 13) (tm 17)), mv 2 18] [2] none)
 (.ret))))

def a61 : AFunc := ⟨1, c61, [.tmp 2]⟩

def an61 : List RAnn := [
 { id := 0, live := [0, 2] },
 { id := 1, live := [0, 2, 4] },
 { id := 2, live := [0] },
 { id := 3, live := [0, 2] },
 { id := 4, live := [0, 2, 8] },
 { id := 5, live := [0, 2] },
 { id := 6, live := [0, 2] },
 { id := 7, live := [2] }]

theorem comp61 : compF Try.prog an61 Try.f61 = some a61 := by kernel_rfl

/- math/bits.Len64 -/
def c62 : ACode :=
 .seq (.region none [] [
 op 2 (.mov (ci (0)))] [0, 2] none)
 (.seq (.seq (.region none [] [
 mv 3 0, op 4 (.bin .geq .int (tm 3) (.cst (.int .u64 4294967296)))] [0, 2, 4] none)
 (.cond (tm 4) (.seq (.region none [] [
 mv 5 0, op 6 (.bin .shr .int (tm 5) (.cst (.int .u64 32))), mv 0 6] [0] none)
 (.region none [] [
 op 2 (.mov (ci (32)))] [0, 2] none))
 (.skip)))
 (.seq (.seq (.region none [] [
 mv 7 0, op 8 (.bin .geq .int (tm 7) (.cst (.int .u64 65536)))] [0, 2, 8] none)
 (.cond (tm 8) (.seq (.region none [] [
 mv 9 0, op 10 (.bin .shr .int (tm 9) (.cst (.int .u64 16))), mv 0 10] [0, 2] none)
 (.region none [] [
 mv 11 2, op 12 (.bin .add .int (tm 11) (ci (16))), mv 2 12] [0, 2] none))
 (.skip)))
 (.seq (.seq (.region none [] [
 mv 13 0, op 14 (.bin .geq .int (tm 13) (.cst (.int .u64 256)))] [0, 2, 14] none)
 (.cond (tm 14) (.seq (.region none [] [
 mv 15 0, op 16 (.bin .shr .int (tm 15) (.cst (.int .u64 8))), mv 0 16] [0, 2] none)
 (.region none [] [
 mv 17 2, op 18 (.bin .add .int (tm 17) (ci (8))), mv 2 18] [0, 2] none))
 (.skip)))
 (.seq (.region none [] [
 mv 19 2, mv 20 0, op 21 (.conv .u8 (tm 20)), op 22 (.sidx (.cst (.str [0, 1, 2, 2, 3, 3, 3, 3, 4, 4, 4, 4, 4, 4, 4, 4, 5, 5, 5, 5, 5, 5, 5, 5, 5, 5, 5, 5, 5, 5, 5, 5, 6, 6, 6, 6, 6, 6, 6, 6, 6, 6, 6, 6, 6, 6, 6, 6, 6, 6, 6, 6, 6, 6, 6, 6, 6, 6, 6, 6, 6, 6, 6, 6, 7, 7, 7, 7, 7, 7, 7, 7, 7, 7, 7, 7, 7, 7, 7, 7, 7, 7, 7, 7, 7, 7, 7, 7, 7, 7, 7, 7, 7, 7, 7, 7, 7, 7, 7, 7, 7, 7, 7, 7, 7, 7, 7, 7, 7, 7, 7, 7, 7, 7, 7, 7, 7, 7, 7, 7, 7, 7, 7, 7, 7, 7, 7, 7, 8, 8, 8, 8, 8, 8, 8, 8, 8, 8, 8, 8, 8, 8, 8, 8, 8, 8, 8, 8, 8, 8, 8, 8, 8, 8, 8, 8, 8, 8, 8, 8, 8, 8, 8, 8, 8, 8, 8, 8, 8, 8, 8, 8, 8, 8, 8, 8, 8, 8, 8, 8, 8, 8, 8, 8, 8, 8, 8, 8, 8, 8, 8, 8, 8, 8, 8, 8, 8, 8, 8, 8, 8, 8, 8, 8, 8, 8, 8, 8, 8, 8, 8, 8, 8, 8, 8, 8, 8, 8, 8, 8, 8, 8, 8, 8, 8, 8, 8, 8, 8, 8, 8, 8, 8, 8, 8, 8, 8, 8, 8, 8, 8, 8, 8, 8, 8, 8, 8, 8, 8, 8, 8, 8, 8, 8, 8, 8])) (tm 21)), op 23 (.conv .i64 (tm 22)), op 24 (.bin .add .int (tm 19) (tm 23)), mv 2 24] [2] none)
 (.ret)))))

def a62 : AFunc := ⟨1, c62, [.tmp 2]⟩

def an62 : List RAnn := [
 { id := 0, live := [0, 2] },
 { id := 1, live := [0, 2, 4] },
 { id := 2, live := [0] },
 { id := 3, live := [0, 2] },
 { id := 4, live := [0, 2, 8] },
 { id := 5, live := [0, 2] },
 { id := 6, live := [0, 2] },
 { id := 7, live := [0, 2, 14] },
 { id := 8, live := [0, 2] },
 { id := 9, live := [0, 2] },
 { id := 10, live := [2] }]

theorem comp62 : compF Try.prog an62 Try.f62 = some a62 := by kernel_rfl

/- cmp.isNaN[int] -/
def c63 : ACode :=
 .seq (.region none [] [
 op 2 (.mov (.cst (.bool false)))] [0] none)
 (.seq (.region none [] [
 mv 3 0, mv 4 0, op 5 (.bin .neq .int (tm 3) (tm 4)), mv 2 5] [2] none)
 (.ret))

def a63 : AFunc := ⟨1, c63, [.tmp 2]⟩

def an63 : List RAnn := [
 { id := 0, live := [0] },
 { id := 1, live := [2] }]

theorem comp63 : compF Try.prog an63 Try.f63 = some a63 := by kernel_rfl

/- slices.IndexFunc[[]string,string] -/
/-- loop 0 of function 64 -/
def l64_0_h : List Nat := [0, 1, 7, 8]

def l64_0_b : ACode :=
 .seq (.region none [] [
 op 9 (.bin .lss .int (tm 8) (tm 7))] [0, 1, 7, 8, 9] none)
 (.seq (.cond (tm 9) (.skip)
 (.exit 0))
 (.seq (.block 1 (.seq (.region none [] [
 mv 10 8, mv 5 10] [0, 1, 5, 7, 8] none)
 (.seq (.region none [] [
 mv 11 1, mv 12 0, mv 13 5, op 14 (.iaddr 1 (tm 12) (tm 13)), op 15 (.load none (tm 14)), op 16 (.callv .pure (tm 11) [(tm 15)])] [0, 1, 5, 7, 8, 16] none)
 (.cond (tm 16) (.seq (.region none [] [
 mv 17 5, mv 4 17] [4] none)
 (.ret))
 (.skip)))))
 (.region none [] [
 op 18 (.bin .add .int (tm 8) (ci (1))), mv 8 18] [0, 1, 7, 8] none)))

def c64 : ACode :=
 .seq (.region none [] [
 op 4 (.mov (ci (0)))] [0, 1] none)
 (.seq (.seq (.region none [] [
 mv 6 0, op 7 (.len .slice (tm 6)), op 8 (.mov (ci (0)))] [0, 1, 7, 8] none)
 (.block 0 (.loop l64_0_h l64_0_b)))
 (.seq (.region none [] [
 op 4 (.mov (ci ((-1))))] [4] none)
 (.ret)))

def a64 : AFunc := ⟨2, c64, [.tmp 4]⟩

def an64 : List RAnn := [
 { id := 0, live := [0, 1] },
 { id := 1, live := [0, 1, 7, 8] },
 { id := 2, live := [0, 1, 7, 8, 9], hdr := [0, 1, 7, 8] },
 { id := 3, live := [0, 1, 5, 7, 8] },
 { id := 4, live := [0, 1, 5, 7, 8, 16] },
 { id := 5, live := [4] },
 { id := 6, live := [0, 1, 7, 8] },
 { id := 7, live := [4] }]

theorem comp64 : compF Try.prog an64 Try.f64 = some a64 := by kernel_rfl

/- graphdb/value.Valid -/
def c65 : ACode :=
 .seq (.region none [] [
 op 1 (.box 5 (tm 0)), op 2 (.mov (.cst (.bool false)))] [1] none)
 (.seq (.region none [] [
 op 3 (.load (some 5) (tm 1)), op 4 (.call .pure 80 [(tm 3), (ci (0))]), mv 2 4] [2] none)
 (.ret))

def a65 : AFunc := ⟨1, c65, [.tmp 2]⟩

def an65 : List RAnn := [
 { id := 0, live := [1] },
 { id := 1, live := [2] }]

theorem comp65 : compF Try.prog an65 Try.f65 = some a65 := by kernel_rfl

/- slices.insertionSortOrdered[string] -/
/-- loop 0 of function 66 -/
def l66_0_h : List Nat := [0, 1, 2, 6, 7]

def l66_0_b : ACode :=
 .seq (.seq (.region (some 15) [] [
 mv 16 7, mv 17 1, op 18 (.bin .gtr .int (tm 16) (tm 17)), mv 19 18, mg 20 0 19 true, mg 21 7 19 true, ⟨some 22, .iaddr 1 (tm 20) (tm 21), some (19, true)⟩, ⟨some 23, .load none (tm 22), some (19, true)⟩, mg 24 0 19 true, mg 25 7 19 true, ⟨some 26, .bin .sub .int (tm 25) (ci (1)), some (19, true)⟩, ⟨some 27, .iaddr 1 (tm 24) (tm 26), some (19, true)⟩, ⟨some 28, .load none (tm 27), some (19, true)⟩, ⟨some 29, .call .pure 72 [(tm 23), (tm 28)], some (19, true)⟩, op 30 (.pick (tm 19) (tm 29) (.cst (.bool false)))] [0, 1, 2, 6, 7, 30] none)
 (.cond (tm 30) (.skip)
 (.exit 2)))
 (.seq (.block 3 (.par 18 [] [] [
 mv 33 0, mv 34 7, mv 35 0, mv 36 7, op 37 (.bin .sub .int (tm 36) (ci (1))), mv 38 0, mv 39 7, op 40 (.bin .sub .int (tm 39) (ci (1))), op 41 (.iaddr 1 (tm 38) (tm 40)), op 42 (.load none (tm 41)), mv 43 0, mv 44 7, op 45 (.iaddr 1 (tm 43) (tm 44)), op 46 (.load none (tm 45)), op 47 (.iaddr 1 (tm 33) (tm 34)), ⟨none, .store 1 (tm 47) (tm 42), none⟩, op 48 (.iaddr 1 (tm 35) (tm 37)), ⟨none, .store 1 (tm 48) (tm 46), none⟩] [0, 1, 2, 6, 7] none))
 (.region none [] [
 mv 31 7, op 32 (.bin .sub .int (tm 31) (ci (1))), mv 7 32] [0, 1, 2, 6, 7] none))

/-- loop 1 of function 66 -/
def l66_1_h : List Nat := [0, 1, 2, 6]

def l66_1_b : ACode :=
 .seq (.seq (.region none [] [
 mv 10 6, mv 11 2, op 12 (.bin .lss .int (tm 10) (tm 11))] [0, 1, 2, 6, 12] none)
 (.cond (tm 12) (.skip)
 (.exit 0)))
 (.seq (.block 1 (.seq (.region none [] [
 mv 15 6, mv 7 15] [0, 1, 2, 6, 7] none)
 (.block 2 (.loop l66_0_h l66_0_b))))
 (.region none [] [
 mv 13 6, op 14 (.bin .add .int (tm 13) (ci (1))), mv 6 14] [0, 1, 2, 6] none))

def c66 : ACode :=
 .seq (.region none [] [
 mv 8 1, op 9 (.bin .add .int (tm 8) (ci (1))), mv 6 9] [0, 1, 2, 6] none)
 (.block 0 (.loop l66_1_h l66_1_b))

def a66 : AFunc := ⟨3, c66, []⟩

def an66 : List RAnn := [
 { id := 0, live := [0, 1, 2, 6] },
 { id := 1, live := [0, 1, 2, 6, 12], hdr := [0, 1, 2, 6] },
 { id := 3, live := [0, 1, 2, 6, 7] },
 { id := 4, head := some 15, live := [0, 1, 2, 6, 7, 30], hdr := [0, 1, 2, 6, 7] },
 { id := 6, head := some 18, live := [0, 1, 2, 6, 7], par := true },
 { id := 5, live := [0, 1, 2, 6, 7] },
 { id := 2, live := [0, 1, 2, 6] }]

theorem comp66 : compF Try.prog an66 Try.f66 = some a66 := by kernel_rfl

/- slices.heapSortOrdered[string] -/
/-- loop 0 of function 67 -/
def l67_0_h : List Nat := [0, 6, 7, 8, 9]

def l67_0_b : ACode :=
 .seq (.seq (.region none [] [
 mv 18 9, op 19 (.bin .geq .int (tm 18) (ci (0)))] [0, 6, 7, 8, 9, 19] none)
 (.cond (tm 19) (.skip)
 (.exit 0)))
 (.seq (.block 1 (.region none [] [
 mv 22 0, mv 23 9, mv 24 8, mv 25 6, op 26 (.call .share 81 [(tm 22), (tm 23), (tm 24), (tm 25)])] [0, 6, 7, 8, 9] none))
 (.region none [] [
 mv 20 9, op 21 (.bin .sub .int (tm 20) (ci (1))), mv 9 21] [0, 6, 7, 8, 9] none))

/-- loop 1 of function 67 -/
def l67_1_h : List Nat := [0, 6, 7, 10]

def l67_1_b : ACode :=
 .seq (.seq (.region none [] [
 mv 29 10, op 30 (.bin .geq .int (tm 29) (ci (0)))] [0, 6, 7, 10, 30] none)
 (.cond (tm 30) (.skip)
 (.exit 2)))
 (.seq (.block 3 (.seq (.par 20 [] [] [
 mv 33 0, mv 34 6, mv 35 0, mv 36 6, mv 37 10, op 38 (.bin .add .int (tm 36) (tm 37)), mv 39 0, mv 40 6, mv 41 10, op 42 (.bin .add .int (tm 40) (tm 41)), op 43 (.iaddr 1 (tm 39) (tm 42)), op 44 (.load none (tm 43)), mv 45 0, mv 46 6, op 47 (.iaddr 1 (tm 45) (tm 46)), op 48 (.load none (tm 47)), op 49 (.iaddr 1 (tm 33) (tm 34)), ⟨none, .store 1 (tm 49) (tm 44), none⟩, op 50 (.iaddr 1 (tm 35) (tm 38)), ⟨none, .store 1 (tm 50) (tm 48), none⟩] [0, 6, 7, 10] none)
 (.region none [] [
 mv 51 0, mv 52 7, mv 53 10, mv 54 6, op 55 (.call .share 81 [(tm 51), (tm 52), (tm 53), (tm 54)])] [0, 6, 7, 10] none)))
 (.region none [] [
 mv 31 10, op 32 (.bin .sub .int (tm 31) (ci (1))), mv 10 32] [0, 6, 7, 10] none))

def c67 : ACode :=
 .seq (.region none [] [
 mv 11 1, mv 6 11] [0, 1, 2, 6] none)
 (.seq (.region none [] [
 op 7 (.mov (ci (0)))] [0, 1, 2, 6, 7] none)
 (.seq (.region none [] [
 mv 12 2, mv 13 1, op 14 (.bin .sub .int (tm 12) (tm 13)), mv 8 14] [0, 6, 7, 8] none)
 (.seq (.seq (.region none [] [
 mv 15 8, op 16 (.bin .sub .int (tm 15) (ci (1))), op 17 (.bin .quo .int (tm 16) (ci (2))), mv 9 17] [0, 6, 7, 8, 9] none)
 (.block 0 (.loop l67_0_h l67_0_b)))
 (.seq (.region none [] [
 mv 27 8, op 28 (.bin .sub .int (tm 27) (ci (1))), mv 10 28] [0, 6, 7, 10] none)
 (.block 2 (.loop l67_1_h l67_1_b))))))

def a67 : AFunc := ⟨3, c67, []⟩

def an67 : List RAnn := [
 { id := 0, live := [0, 1, 2, 6] },
 { id := 1, live := [0, 1, 2, 6, 7] },
 { id := 2, live := [0, 6, 7, 8] },
 { id := 3, live := [0, 6, 7, 8, 9] },
 { id := 4, live := [0, 6, 7, 8, 9, 19], hdr := [0, 6, 7, 8, 9] },
 { id := 6, live := [0, 6, 7, 8, 9], ops := [(4, .mode .share)] },
 { id := 5, live := [0, 6, 7, 8, 9] },
 { id := 7, live := [0, 6, 7, 10] },
 { id := 8, live := [0, 6, 7, 10, 30], hdr := [0, 6, 7, 10] },
 { id := 10, head := some 20, live := [0, 6, 7, 10], par := true },
 { id := 11, live := [0, 6, 7, 10], ops := [(4, .mode .share)] },
 { id := 9, live := [0, 6, 7, 10] }]

theorem comp67 : compF Try.prog an67 Try.f67 = some a67 := by kernel_rfl

/- slices.breakPatternsOrdered[string] -/
/-- loop 0 of function 68 -/
def l68_0_h : List Nat := [0, 1, 6, 7, 8, 9]

def l68_0_b : ACode :=
 .seq (.seq (.region none [] [
 mv 26 9, mv 27 1, mv 28 6, op 29 (.bin .quo .int (tm 28) (ci (4))), op 30 (.bin .mul .int (tm 29) (ci (2))), op 31 (.bin .add .int (tm 27) (tm 30)), op 32 (.bin .add .int (tm 31) (ci (1))), op 33 (.bin .leq .int (tm 26) (tm 32))] [0, 1, 6, 7, 8, 9, 33] none)
 (.cond (tm 33) (.skip)
 (.exit 0)))
 (.seq (.block 1 (.seq (.region none [] [
 op 36 (.call .share 77 [(tm 7)]), mv 37 8, op 38 (.bin .sub .int (tm 37) (.cst (.int .u64 1))), op 39 (.bin .and .int (tm 36) (tm 38)), op 40 (.conv .i64 (tm 39)), mv 10 40] [0, 1, 6, 7, 8, 9, 10] none)
 (.seq (.seq (.region none [] [
 mv 41 10, mv 42 6, op 43 (.bin .geq .int (tm 41) (tm 42))] [0, 1, 6, 7, 8, 9, 10, 43] none)
 (.cond (tm 43) (.region none [] [
 mv 44 10, mv 45 6, op 46 (.bin .sub .int (tm 44) (tm 45)), mv 10 46] [0, 1, 6, 7, 8, 9, 10] none)
 (.skip)))
 (.par 20 [] [] [
 mv 47 0, mv 48 9, mv 49 0, mv 50 1, mv 51 10, op 52 (.bin .add .int (tm 50) (tm 51)), mv 53 0, mv 54 1, mv 55 10, op 56 (.bin .add .int (tm 54) (tm 55)), op 57 (.iaddr 1 (tm 53) (tm 56)), op 58 (.load none (tm 57)), mv 59 0, mv 60 9, op 61 (.iaddr 1 (tm 59) (tm 60)), op 62 (.load none (tm 61)), op 63 (.iaddr 1 (tm 47) (tm 48)), ⟨none, .store 1 (tm 63) (tm 58), none⟩, op 64 (.iaddr 1 (tm 49) (tm 52)), ⟨none, .store 1 (tm 64) (tm 62), none⟩] [0, 1, 6, 7, 8, 9] none))))
 (.region none [] [
 mv 34 9, op 35 (.bin .add .int (tm 34) (ci (1))), mv 9 35] [0, 1, 6, 7, 8, 9] none))

def c68 : ACode :=
 .seq (.region none [] [
 mv 11 2, mv 12 1, op 13 (.bin .sub .int (tm 11) (tm 12)), mv 6 13] [0, 1, 6] none)
 (.seq (.region none [] [
 mv 14 6, op 15 (.bin .geq .int (tm 14) (ci (8)))] [0, 1, 6, 15] none)
 (.cond (tm 15) (.seq (.region none [] [
 mv 16 6, op 17 (.conv .u64 (tm 16)), op 7 (.alloc 1 (.int .u64 0)), ⟨none, .store 1 (tm 7) (tm 17), none⟩] [0, 1, 6, 7] none)
 (.seq (.region none [] [
 mv 18 6, op 19 (.call .pure 76 [(tm 18)]), mv 8 19] [0, 1, 6, 7, 8] none)
 (.seq (.region none [] [
 mv 20 1, mv 21 6, op 22 (.bin .quo .int (tm 21) (ci (4))), op 23 (.bin .mul .int (tm 22) (ci (2))), op 24 (.bin .add .int (tm 20) (tm 23)), op 25 (.bin .sub .int (tm 24) (ci (1))), mv 9 25] [0, 1, 6, 7, 8, 9] none)
 (.block 0 (.loop l68_0_h l68_0_b)))))
 (.skip)))

def a68 : AFunc := ⟨3, c68, []⟩

def an68 : List RAnn := [
 { id := 0, live := [0, 1, 6] },
 { id := 1, live := [0, 1, 6, 15] },
 { id := 2, live := [0, 1, 6, 7] },
 { id := 3, live := [0, 1, 6, 7, 8] },
 { id := 4, live := [0, 1, 6, 7, 8, 9] },
 { id := 5, live := [0, 1, 6, 7, 8, 9, 33], hdr := [0, 1, 6, 7, 8, 9] },
 { id := 7, live := [0, 1, 6, 7, 8, 9, 10], ops := [(0, .mode .share)] },
 { id := 8, live := [0, 1, 6, 7, 8, 9, 10, 43] },
 { id := 9, live := [0, 1, 6, 7, 8, 9, 10] },
 { id := 10, head := some 20, live := [0, 1, 6, 7, 8, 9], par := true },
 { id := 6, live := [0, 1, 6, 7, 8, 9] }]

theorem comp68 : compF Try.prog an68 Try.f68 = some a68 := by kernel_rfl

/- slices.choosePivotOrdered[string] -/
def c69 : ACode :=
 .seq (.region none [] [
 op 6 (.mov (ci (0))), op 7 (.mov (ci (0)))] [0, 1, 2] none)
 (.seq (.region none [] [
 mv 13 2, mv 14 1, op 15 (.bin .sub .int (tm 13) (tm 14)), mv 8 15] [0, 1, 8] none)
 (.seq (.region none [] [
 op 9 (.alloc 1 (.int .i64 0))] [0, 1, 8, 9] none)
 (.seq (.region none [] [
 mv 16 1, mv 17 8, op 18 (.bin .quo .int (tm 17) (ci (4))), op 19 (.bin .mul .int (tm 18) (ci (1))), op 20 (.bin .add .int (tm 16) (tm 19)), mv 10 20] [0, 1, 8, 9, 10] none)
 (.seq (.region none [] [
 mv 21 1, mv 22 8, op 23 (.bin .quo .int (tm 22) (ci (4))), op 24 (.bin .mul .int (tm 23) (ci (2))), op 25 (.bin .add .int (tm 21) (tm 24)), mv 11 25] [0, 1, 8, 9, 10, 11] none)
 (.seq (.region none [] [
 mv 26 1, mv 27 8, op 28 (.bin .quo .int (tm 27) (ci (4))), op 29 (.bin .mul .int (tm 28) (ci (3))), op 30 (.bin .add .int (tm 26) (tm 29)), mv 12 30] [0, 8, 9, 10, 11, 12] none)
 (.seq (.seq (.region none [] [
 mv 31 8, op 32 (.bin .geq .int (tm 31) (ci (8)))] [0, 8, 9, 10, 11, 12, 32] none)
 (.cond (tm 32) (.seq (.seq (.region none [] [
 mv 33 8, op 34 (.bin .geq .int (tm 33) (ci (50)))] [0, 9, 10, 11, 12, 34] none)
 (.cond (tm 34) (.seq (.region none [] [
 mv 35 0, mv 36 10, op 37 (.call .share 82 [(tm 35), (tm 36), (tm 9)]), mv 10 37] [0, 9, 10, 11, 12] none)
 (.seq (.region none [] [
 mv 38 0, mv 39 11, op 40 (.call .share 82 [(tm 38), (tm 39), (tm 9)]), mv 11 40] [0, 9, 10, 11, 12] none)
 (.region none [] [
 mv 41 0, mv 42 12, op 43 (.call .share 82 [(tm 41), (tm 42), (tm 9)]), mv 12 43] [0, 9, 10, 11, 12] none)))
 (.skip)))
 (.region none [] [
 mv 44 0, mv 45 10, mv 46 11, mv 47 12, op 48 (.call .share 83 [(tm 44), (tm 45), (tm 46), (tm 47), (tm 9)]), mv 11 48] [9, 11] none))
 (.skip)))
 (.seq (.region none [] [
 op 49 (.load none (tm 9))] [11, 49] none)
 (.block 0 (.seq (.region none [] [
 op 52 (.bin .eql .int (tm 49) (ci (0))), mv 51 52] [11, 49, 51] none)
 (.cond (tm 51) (.seq (.region none [] [
 mv 53 11, mv 6 53, op 7 (.mov (ci (1)))] [6, 7] none)
 (.ret))
 (.seq (.region none [] [
 op 55 (.bin .eql .int (tm 49) (ci (12))), mv 54 55] [11, 54] none)
 (.cond (tm 54) (.seq (.region none [] [
 mv 56 11, mv 6 56, op 7 (.mov (ci (2)))] [6, 7] none)
 (.ret))
 (.seq (.region none [] [
 mv 50 11, mv 6 50, op 7 (.mov (ci (0)))] [6, 7] none)
 (.ret))))))))))))))

def a69 : AFunc := ⟨3, c69, [.tmp 6, .tmp 7]⟩

def an69 : List RAnn := [
 { id := 0, live := [0, 1, 2] },
 { id := 1, live := [0, 1, 8] },
 { id := 2, live := [0, 1, 8, 9] },
 { id := 3, live := [0, 1, 8, 9, 10] },
 { id := 4, live := [0, 1, 8, 9, 10, 11] },
 { id := 5, live := [0, 8, 9, 10, 11, 12] },
 { id := 6, live := [0, 8, 9, 10, 11, 12, 32] },
 { id := 7, live := [0, 9, 10, 11, 12, 34] },
 { id := 8, live := [0, 9, 10, 11, 12], ops := [(2, .mode .share)] },
 { id := 9, live := [0, 9, 10, 11, 12], ops := [(2, .mode .share)] },
 { id := 10, live := [0, 9, 10, 11, 12], ops := [(2, .mode .share)] },
 { id := 11, live := [9, 11], ops := [(4, .mode .share)] },
 { id := 12, live := [11, 49] },
 { id := 14, live := [11, 49, 51] },
 { id := 15, live := [6, 7] },
 { id := 16, live := [11, 54] },
 { id := 17, live := [6, 7] },
 { id := 13, live := [6, 7] }]

theorem comp69 : compF Try.prog an69 Try.f69 = some a69 := by kernel_rfl

/- slices.reverseRangeOrdered[string] -/
/-- loop 0 of function 70 -/
def l70_0_h : List Nat := [0, 6, 7]

def l70_0_b : ACode :=
 .seq (.seq (.region none [] [
 mv 11 6, mv 12 7, op 13 (.bin .lss .int (tm 11) (tm 12))] [0, 6, 7, 13] none)
 (.cond (tm 13) (.skip)
 (.exit 0)))
 (.block 1 (.seq (.par 16 [] [] [
 mv 14 0, mv 15 6, mv 16 0, mv 17 7, mv 18 0, mv 19 7, op 20 (.iaddr 1 (tm 18) (tm 19)), op 21 (.load none (tm 20)), mv 22 0, mv 23 6, op 24 (.iaddr 1 (tm 22) (tm 23)), op 25 (.load none (tm 24)), op 26 (.iaddr 1 (tm 14) (tm 15)), ⟨none, .store 1 (tm 26) (tm 21), none⟩, op 27 (.iaddr 1 (tm 16) (tm 17)), ⟨none, .store 1 (tm 27) (tm 25), none⟩] [0, 6, 7] none)
 (.seq (.region none [] [
 mv 28 6, op 29 (.bin .add .int (tm 28) (ci (1))), mv 6 29] [0, 6, 7] none)
 (.region none [] [
 mv 30 7, op 31 (.bin .sub .int (tm 30) (ci (1))), mv 7 31] [0, 6, 7] none))))

def c70 : ACode :=
 .seq (.region none [] [
 mv 8 1, mv 6 8] [0, 2, 6] none)
 (.seq (.region none [] [
 mv 9 2, op 10 (.bin .sub .int (tm 9) (ci (1))), mv 7 10] [0, 6, 7] none)
 (.block 0 (.loop l70_0_h l70_0_b)))

def a70 : AFunc := ⟨3, c70, []⟩

def an70 : List RAnn := [
 { id := 0, live := [0, 2, 6] },
 { id := 1, live := [0, 6, 7] },
 { id := 2, live := [0, 6, 7, 13], hdr := [0, 6, 7] },
 { id := 3, head := some 16, live := [0, 6, 7], par := true },
 { id := 4, live := [0, 6, 7] },
 { id := 5, live := [0, 6, 7] }]

theorem comp70 : compF Try.prog an70 Try.f70 = some a70 := by kernel_rfl

/- slices.partialInsertionSortOrdered[string] -/
/-- loop 0 of function 71 -/
def l71_0_h : List Nat := [0, 1, 2, 7, 8]

def l71_0_b : ACode :=
 .seq (.seq (.region (some 16) [] [
 mv 17 7, mv 18 2, op 19 (.bin .lss .int (tm 17) (tm 18)), mv 20 19, mg 21 0 20 true, mg 22 7 20 true, ⟨some 23, .iaddr 1 (tm 21) (tm 22), some (20, true)⟩, ⟨some 24, .load none (tm 23), some (20, true)⟩, mg 25 0 20 true, mg 26 7 20 true, ⟨some 27, .bin .sub .int (tm 26) (ci (1)), some (20, true)⟩, ⟨some 28, .iaddr 1 (tm 25) (tm 27), some (20, true)⟩, ⟨some 29, .load none (tm 28), some (20, true)⟩, ⟨some 30, .call .pure 72 [(tm 24), (tm 29)], some (20, true)⟩, ⟨some 31, .un .not (tm 30), some (20, true)⟩, op 32 (.pick (tm 20) (tm 31) (.cst (.bool false)))] [0, 1, 2, 7, 8, 32] none)
 (.cond (tm 32) (.skip)
 (.exit 2)))
 (.block 3 (.region none [] [
 mv 33 7, op 34 (.bin .add .int (tm 33) (ci (1))), mv 7 34] [0, 1, 2, 7, 8] none))

/-- loop 1 of function 71 -/
def l71_1_h : List Nat := [0, 1, 2, 7, 8, 9]

def l71_1_b : ACode :=
 .seq (.seq (.region none [] [
 mv 64 9, op 65 (.bin .geq .int (tm 64) (ci (1)))] [0, 1, 2, 7, 8, 9, 65] none)
 (.cond (tm 65) (.skip)
 (.exit 4)))
 (.seq (.block 5 (.seq (.seq (.region (some 11) [] [
 mv 68 0, mv 69 9, op 70 (.iaddr 1 (tm 68) (tm 69)), op 71 (.load none (tm 70)), mv 72 0, mv 73 9, op 74 (.bin .sub .int (tm 73) (ci (1))), op 75 (.iaddr 1 (tm 72) (tm 74)), op 76 (.load none (tm 75)), op 77 (.call .pure 72 [(tm 71), (tm 76)]), op 78 (.un .not (tm 77))] [0, 1, 2, 7, 8, 9, 78] none)
 (.cond (tm 78) (.exit 4)
 (.skip)))
 (.par 18 [] [] [
 mv 79 0, mv 80 9, mv 81 0, mv 82 9, op 83 (.bin .sub .int (tm 82) (ci (1))), mv 84 0, mv 85 9, op 86 (.bin .sub .int (tm 85) (ci (1))), op 87 (.iaddr 1 (tm 84) (tm 86)), op 88 (.load none (tm 87)), mv 89 0, mv 90 9, op 91 (.iaddr 1 (tm 89) (tm 90)), op 92 (.load none (tm 91)), op 93 (.iaddr 1 (tm 79) (tm 80)), ⟨none, .store 1 (tm 93) (tm 88), none⟩, op 94 (.iaddr 1 (tm 81) (tm 83)), ⟨none, .store 1 (tm 94) (tm 92), none⟩] [0, 1, 2, 7, 8, 9] none)))
 (.region none [] [
 mv 66 9, op 67 (.bin .sub .int (tm 66) (ci (1))), mv 9 67] [0, 1, 2, 7, 8, 9] none))

/-- loop 2 of function 71 -/
def l71_2_h : List Nat := [0, 1, 2, 7, 8, 10]

def l71_2_b : ACode :=
 .seq (.seq (.region none [] [
 mv 101 10, mv 102 2, op 103 (.bin .lss .int (tm 101) (tm 102))] [0, 1, 2, 7, 8, 10, 103] none)
 (.cond (tm 103) (.skip)
 (.exit 6)))
 (.seq (.block 7 (.seq (.seq (.region (some 11) [] [
 mv 106 0, mv 107 10, op 108 (.iaddr 1 (tm 106) (tm 107)), op 109 (.load none (tm 108)), mv 110 0, mv 111 10, op 112 (.bin .sub .int (tm 111) (ci (1))), op 113 (.iaddr 1 (tm 110) (tm 112)), op 114 (.load none (tm 113)), op 115 (.call .pure 72 [(tm 109), (tm 114)]), op 116 (.un .not (tm 115))] [0, 1, 2, 7, 8, 10, 116] none)
 (.cond (tm 116) (.exit 6)
 (.skip)))
 (.par 18 [] [] [
 mv 117 0, mv 118 10, mv 119 0, mv 120 10, op 121 (.bin .sub .int (tm 120) (ci (1))), mv 122 0, mv 123 10, op 124 (.bin .sub .int (tm 123) (ci (1))), op 125 (.iaddr 1 (tm 122) (tm 124)), op 126 (.load none (tm 125)), mv 127 0, mv 128 10, op 129 (.iaddr 1 (tm 127) (tm 128)), op 130 (.load none (tm 129)), op 131 (.iaddr 1 (tm 117) (tm 118)), ⟨none, .store 1 (tm 131) (tm 126), none⟩, op 132 (.iaddr 1 (tm 119) (tm 121)), ⟨none, .store 1 (tm 132) (tm 130), none⟩] [0, 1, 2, 7, 8, 10] none)))
 (.region none [] [
 mv 104 10, op 105 (.bin .add .int (tm 104) (ci (1))), mv 10 105] [0, 1, 2, 7, 8, 10] none))

/-- loop 3 of function 71 -/
def l71_3_h : List Nat := [0, 1, 2, 7, 8]

def l71_3_b : ACode :=
 .seq (.seq (.region none [] [
 mv 13 8, op 14 (.bin .lss .int (tm 13) (ci (5)))] [0, 1, 2, 7, 8, 14] none)
 (.cond (tm 14) (.skip)
 (.exit 0)))
 (.seq (.block 1 (.seq (.block 2 (.loop l71_0_h l71_0_b))
 (.seq (.seq (.region none [] [
 mv 35 7, mv 36 2, op 37 (.bin .eql .int (tm 35) (tm 36))] [0, 1, 2, 7, 8, 37] none)
 (.cond (tm 37) (.seq (.region none [] [
 op 6 (.mov (.cst (.bool true)))] [6] none)
 (.ret))
 (.skip)))
 (.seq (.seq (.region none [] [
 mv 38 2, mv 39 1, op 40 (.bin .sub .int (tm 38) (tm 39)), op 41 (.bin .lss .int (tm 40) (ci (50)))] [0, 1, 2, 7, 8, 41] none)
 (.cond (tm 41) (.seq (.region none [] [
 op 6 (.mov (.cst (.bool false)))] [6] none)
 (.ret))
 (.skip)))
 (.seq (.par 18 [] [] [
 mv 42 0, mv 43 7, mv 44 0, mv 45 7, op 46 (.bin .sub .int (tm 45) (ci (1))), mv 47 0, mv 48 7, op 49 (.bin .sub .int (tm 48) (ci (1))), op 50 (.iaddr 1 (tm 47) (tm 49)), op 51 (.load none (tm 50)), mv 52 0, mv 53 7, op 54 (.iaddr 1 (tm 52) (tm 53)), op 55 (.load none (tm 54)), op 56 (.iaddr 1 (tm 42) (tm 43)), ⟨none, .store 1 (tm 56) (tm 51), none⟩, op 57 (.iaddr 1 (tm 44) (tm 46)), ⟨none, .store 1 (tm 57) (tm 55), none⟩] [0, 1, 2, 7, 8] none)
 (.seq (.seq (.region none [] [
 mv 58 7, mv 59 1, op 60 (.bin .sub .int (tm 58) (tm 59)), op 61 (.bin .geq .int (tm 60) (ci (2)))] [0, 1, 2, 7, 8, 61] none)
 (.cond (tm 61) (.seq (.region none [] [
 mv 62 7, op 63 (.bin .sub .int (tm 62) (ci (1))), mv 9 63] [0, 1, 2, 7, 8, 9] none)
 (.block 4 (.loop l71_1_h l71_1_b)))
 (.skip)))
 (.seq (.region none [] [
 mv 95 2, mv 96 7, op 97 (.bin .sub .int (tm 95) (tm 96)), op 98 (.bin .geq .int (tm 97) (ci (2)))] [0, 1, 2, 7, 8, 98] none)
 (.cond (tm 98) (.seq (.region none [] [
 mv 99 7, op 100 (.bin .add .int (tm 99) (ci (1))), mv 10 100] [0, 1, 2, 7, 8, 10] none)
 (.block 6 (.loop l71_2_h l71_2_b)))
 (.skip)))))))))
 (.region none [] [
 mv 15 8, op 16 (.bin .add .int (tm 15) (ci (1))), mv 8 16] [0, 1, 2, 7, 8] none))

def c71 : ACode :=
 .seq (.region none [] [
 op 6 (.mov (.cst (.bool false)))] [0, 1, 2] none)
 (.seq (.region none [] [
 mv 11 1, op 12 (.bin .add .int (tm 11) (ci (1))), mv 7 12] [0, 1, 2, 7] none)
 (.seq (.seq (.region none [] [
 op 8 (.mov (ci (0)))] [0, 1, 2, 7, 8] none)
 (.block 0 (.loop l71_3_h l71_3_b)))
 (.seq (.region none [] [
 op 6 (.mov (.cst (.bool false)))] [6] none)
 (.ret))))

def a71 : AFunc := ⟨3, c71, [.tmp 6]⟩

def an71 : List RAnn := [
 { id := 0, live := [0, 1, 2] },
 { id := 1, live := [0, 1, 2, 7] },
 { id := 2, live := [0, 1, 2, 7, 8] },
 { id := 3, live := [0, 1, 2, 7, 8, 14], hdr := [0, 1, 2, 7, 8] },
 { id := 5, head := some 16, live := [0, 1, 2, 7, 8, 32], hdr := [0, 1, 2, 7, 8] },
 { id := 6, live := [0, 1, 2, 7, 8] },
 { id := 7, live := [0, 1, 2, 7, 8, 37] },
 { id := 8, live := [6] },
 { id := 9, live := [0, 1, 2, 7, 8, 41] },
 { id := 10, live := [6] },
 { id := 11, head := some 18, live := [0, 1, 2, 7, 8], par := true },
 { id := 12, live := [0, 1, 2, 7, 8, 61] },
 { id := 13, live := [0, 1, 2, 7, 8, 9] },
 { id := 14, live := [0, 1, 2, 7, 8, 9, 65], hdr := [0, 1, 2, 7, 8, 9] },
 { id := 16, head := some 11, live := [0, 1, 2, 7, 8, 9, 78] },
 { id := 17, head := some 18, live := [0, 1, 2, 7, 8, 9], par := true },
 { id := 15, live := [0, 1, 2, 7, 8, 9] },
 { id := 18, live := [0, 1, 2, 7, 8, 98] },
 { id := 19, live := [0, 1, 2, 7, 8, 10] },
 { id := 20, live := [0, 1, 2, 7, 8, 10, 103], hdr := [0, 1, 2, 7, 8, 10] },
 { id := 22, head := some 11, live := [0, 1, 2, 7, 8, 10, 116] },
 { id := 23, head := some 18, live := [0, 1, 2, 7, 8, 10], par := true },
 { id := 21, live := [0, 1, 2, 7, 8, 10] },
 { id := 4, live := [0, 1, 2, 7, 8] },
 { id := 24, live := [6] }]

theorem comp71 : compF Try.prog an71 Try.f71 = some a71 := by kernel_rfl

/- cmp.Less[string] -/
def c72 : ACode :=
 .seq (.region none [] [
 op 4 (.mov (.cst (.bool false)))] [0, 1] none)
 (.seq (.region none [] [
 mv 5 0, op 6 (.call .pure 84 [(tm 5)]), mv 7 6, mg 8 1 7 true, ⟨some 9, .call .pure 84 [(tm 8)], some (7, true)⟩, ⟨some 10, .un .not (tm 9), some (7, true)⟩, op 11 (.pick (tm 7) (tm 10) (.cst (.bool false))), mv 12 11, mg 13 0 12 false, mg 14 1 12 false, ⟨some 15, .bin .lss .str (tm 13) (tm 14), some (12, false)⟩, op 16 (.pick (tm 12) (.cst (.bool true)) (tm 15)), mv 4 16] [4] none)
 (.ret))

def a72 : AFunc := ⟨2, c72, [.tmp 4]⟩

def an72 : List RAnn := [
 { id := 0, live := [0, 1] },
 { id := 1, live := [4] }]

theorem comp72 : compF Try.prog an72 Try.f72 = some a72 := by kernel_rfl

/- slices.partitionEqualOrdered[string] -/
/-- loop 0 of function 73 -/
def l73_0_h : List Nat := [0, 1, 9, 10]

def l73_0_b : ACode :=
 .seq (.seq (.region (some 15) [] [
 mv 29 9, mv 30 10, op 31 (.bin .leq .int (tm 29) (tm 30)), mv 32 31, mg 33 0 32 true, mg 34 1 32 true, ⟨some 35, .iaddr 1 (tm 33) (tm 34), some (32, true)⟩, ⟨some 36, .load none (tm 35), some (32, true)⟩, mg 37 0 32 true, mg 38 9 32 true, ⟨some 39, .iaddr 1 (tm 37) (tm 38), some (32, true)⟩, ⟨some 40, .load none (tm 39), some (32, true)⟩, ⟨some 41, .call .pure 72 [(tm 36), (tm 40)], some (32, true)⟩, ⟨some 42, .un .not (tm 41), some (32, true)⟩, op 43 (.pick (tm 32) (tm 42) (.cst (.bool false)))] [0, 1, 9, 10, 43] none)
 (.cond (tm 43) (.skip)
 (.exit 2)))
 (.block 3 (.region none [] [
 mv 44 9, op 45 (.bin .add .int (tm 44) (ci (1))), mv 9 45] [0, 1, 9, 10] none))

/-- loop 1 of function 73 -/
def l73_1_h : List Nat := [0, 1, 9, 10]

def l73_1_b : ACode :=
 .seq (.seq (.region (some 14) [] [
 mv 46 9, mv 47 10, op 48 (.bin .leq .int (tm 46) (tm 47)), mv 49 48, mg 50 0 49 true, mg 51 1 49 true, ⟨some 52, .iaddr 1 (tm 50) (tm 51), some (49, true)⟩, ⟨some 53, .load none (tm 52), some (49, true)⟩, mg 54 0 49 true, mg 55 10 49 true, ⟨some 56, .iaddr 1 (tm 54) (tm 55), some (49, true)⟩, ⟨some 57, .load none (tm 56), some (49, true)⟩, ⟨some 58, .call .pure 72 [(tm 53), (tm 57)], some (49, true)⟩, op 59 (.pick (tm 49) (tm 58) (.cst (.bool false)))] [0, 1, 9, 10, 59] none)
 (.cond (tm 59) (.skip)
 (.exit 4)))
 (.block 5 (.region none [] [
 mv 60 10, op 61 (.bin .sub .int (tm 60) (ci (1))), mv 10 61] [0, 1, 9, 10] none))

/-- loop 2 of function 73 -/
def l73_2_h : List Nat := [0, 1, 9, 10]

def l73_2_b : ACode :=
 .block 1 (.seq (.block 2 (.loop l73_0_h l73_0_b))
 (.seq (.block 4 (.loop l73_1_h l73_1_b))
 (.seq (.seq (.region none [] [
 mv 62 9, mv 63 10, op 64 (.bin .gtr .int (tm 62) (tm 63))] [0, 1, 9, 10, 64] none)
 (.cond (tm 64) (.exit 0)
 (.skip)))
 (.seq (.par 16 [] [] [
 mv 65 0, mv 66 9, mv 67 0, mv 68 10, mv 69 0, mv 70 10, op 71 (.iaddr 1 (tm 69) (tm 70)), op 72 (.load none (tm 71)), mv 73 0, mv 74 9, op 75 (.iaddr 1 (tm 73) (tm 74)), op 76 (.load none (tm 75)), op 77 (.iaddr 1 (tm 65) (tm 66)), ⟨none, .store 1 (tm 77) (tm 72), none⟩, op 78 (.iaddr 1 (tm 67) (tm 68)), ⟨none, .store 1 (tm 78) (tm 76), none⟩] [0, 1, 9, 10] none)
 (.seq (.region none [] [
 mv 79 9, op 80 (.bin .add .int (tm 79) (ci (1))), mv 9 80] [0, 1, 9, 10] none)
 (.region none [] [
 mv 81 10, op 82 (.bin .sub .int (tm 81) (ci (1))), mv 10 82] [0, 1, 9, 10] none))))))

def c73 : ACode :=
 .seq (.region none [] [
 op 8 (.mov (ci (0)))] [0, 1, 2, 3] none)
 (.seq (.par 16 [] [] [
 mv 11 0, mv 12 1, mv 13 0, mv 14 3, mv 15 0, mv 16 3, op 17 (.iaddr 1 (tm 15) (tm 16)), op 18 (.load none (tm 17)), mv 19 0, mv 20 1, op 21 (.iaddr 1 (tm 19) (tm 20)), op 22 (.load none (tm 21)), op 23 (.iaddr 1 (tm 11) (tm 12)), ⟨none, .store 1 (tm 23) (tm 18), none⟩, op 24 (.iaddr 1 (tm 13) (tm 14)), ⟨none, .store 1 (tm 24) (tm 22), none⟩] [0, 1, 2] none)
 (.seq (.region none [] [
 mv 25 1, op 26 (.bin .add .int (tm 25) (ci (1))), mv 27 2, op 28 (.bin .sub .int (tm 27) (ci (1))), mv 9 26, mv 10 28] [0, 1, 9, 10] none)
 (.seq (.block 0 (.loop l73_2_h l73_2_b))
 (.seq (.region none [] [
 mv 83 9, mv 8 83] [8] none)
 (.ret)))))

def a73 : AFunc := ⟨4, c73, [.tmp 8]⟩

def an73 : List RAnn := [
 { id := 0, live := [0, 1, 2, 3] },
 { id := 1, head := some 16, live := [0, 1, 2], par := true },
 { id := 2, live := [0, 1, 9, 10] },
 { id := 3, head := some 15, live := [0, 1, 9, 10, 43], hdr := [0, 1, 9, 10] },
 { id := 4, live := [0, 1, 9, 10] },
 { id := 5, head := some 14, live := [0, 1, 9, 10, 59], hdr := [0, 1, 9, 10] },
 { id := 6, live := [0, 1, 9, 10] },
 { id := 7, live := [0, 1, 9, 10, 64] },
 { id := 8, head := some 16, live := [0, 1, 9, 10], par := true },
 { id := 9, live := [0, 1, 9, 10] },
 { id := 10, live := [0, 1, 9, 10] },
 { id := 11, live := [8] }]

theorem comp73 : compF Try.prog an73 Try.f73 = some a73 := by kernel_rfl

/- slices.partitionOrdered[string] -/
/-- loop 0 of function 74 -/
def l74_0_h : List Nat := [0, 1, 10, 11]

def l74_0_b : ACode :=
 .seq (.seq (.region (some 14) [] [
 mv 30 10, mv 31 11, op 32 (.bin .leq .int (tm 30) (tm 31)), mv 33 32, mg 34 0 33 true, mg 35 10 33 true, ⟨some 36, .iaddr 1 (tm 34) (tm 35), some (33, true)⟩, ⟨some 37, .load none (tm 36), some (33, true)⟩, mg 38 0 33 true, mg 39 1 33 true, ⟨some 40, .iaddr 1 (tm 38) (tm 39), some (33, true)⟩, ⟨some 41, .load none (tm 40), some (33, true)⟩, ⟨some 42, .call .pure 72 [(tm 37), (tm 41)], some (33, true)⟩, op 43 (.pick (tm 33) (tm 42) (.cst (.bool false)))] [0, 1, 10, 11, 43] none)
 (.cond (tm 43) (.skip)
 (.exit 0)))
 (.block 1 (.region none [] [
 mv 44 10, op 45 (.bin .add .int (tm 44) (ci (1))), mv 10 45] [0, 1, 10, 11] none))

/-- loop 1 of function 74 -/
def l74_1_h : List Nat := [0, 1, 10, 11]

def l74_1_b : ACode :=
 .seq (.seq (.region (some 15) [] [
 mv 46 10, mv 47 11, op 48 (.bin .leq .int (tm 46) (tm 47)), mv 49 48, mg 50 0 49 true, mg 51 11 49 true, ⟨some 52, .iaddr 1 (tm 50) (tm 51), some (49, true)⟩, ⟨some 53, .load none (tm 52), some (49, true)⟩, mg 54 0 49 true, mg 55 1 49 true, ⟨some 56, .iaddr 1 (tm 54) (tm 55), some (49, true)⟩, ⟨some 57, .load none (tm 56), some (49, true)⟩, ⟨some 58, .call .pure 72 [(tm 53), (tm 57)], some (49, true)⟩, ⟨some 59, .un .not (tm 58), some (49, true)⟩, op 60 (.pick (tm 49) (tm 59) (.cst (.bool false)))] [0, 1, 10, 11, 60] none)
 (.cond (tm 60) (.skip)
 (.exit 2)))
 (.block 3 (.region none [] [
 mv 61 11, op 62 (.bin .sub .int (tm 61) (ci (1))), mv 11 62] [0, 1, 10, 11] none))

/-- loop 2 of function 74 -/
def l74_2_h : List Nat := [0, 1, 10, 11]

def l74_2_b : ACode :=
 .seq (.seq (.region (some 14) [] [
 mv 99 10, mv 100 11, op 101 (.bin .leq .int (tm 99) (tm 100)), mv 102 101, mg 103 0 102 true, mg 104 10 102 true, ⟨some 105, .iaddr 1 (tm 103) (tm 104), some (102, true)⟩, ⟨some 106, .load none (tm 105), some (102, true)⟩, mg 107 0 102 true, mg 108 1 102 true, ⟨some 109, .iaddr 1 (tm 107) (tm 108), some (102, true)⟩, ⟨some 110, .load none (tm 109), some (102, true)⟩, ⟨some 111, .call .pure 72 [(tm 106), (tm 110)], some (102, true)⟩, op 112 (.pick (tm 102) (tm 111) (.cst (.bool false)))] [0, 1, 10, 11, 112] none)
 (.cond (tm 112) (.skip)
 (.exit 6)))
 (.block 7 (.region none [] [
 mv 113 10, op 114 (.bin .add .int (tm 113) (ci (1))), mv 10 114] [0, 1, 10, 11] none))

/-- loop 3 of function 74 -/
def l74_3_h : List Nat := [0, 1, 10, 11]

def l74_3_b : ACode :=
 .seq (.seq (.region (some 15) [] [
 mv 115 10, mv 116 11, op 117 (.bin .leq .int (tm 115) (tm 116)), mv 118 117, mg 119 0 118 true, mg 120 11 118 true, ⟨some 121, .iaddr 1 (tm 119) (tm 120), some (118, true)⟩, ⟨some 122, .load none (tm 121), some (118, true)⟩, mg 123 0 118 true, mg 124 1 118 true, ⟨some 125, .iaddr 1 (tm 123) (tm 124), some (118, true)⟩, ⟨some 126, .load none (tm 125), some (118, true)⟩, ⟨some 127, .call .pure 72 [(tm 122), (tm 126)], some (118, true)⟩, ⟨some 128, .un .not (tm 127), some (118, true)⟩, op 129 (.pick (tm 118) (tm 128) (.cst (.bool false)))] [0, 1, 10, 11, 129] none)
 (.cond (tm 129) (.skip)
 (.exit 8)))
 (.block 9 (.region none [] [
 mv 130 11, op 131 (.bin .sub .int (tm 130) (ci (1))), mv 11 131] [0, 1, 10, 11] none))

/-- loop 4 of function 74 -/
def l74_4_h : List Nat := [0, 1, 10, 11]

def l74_4_b : ACode :=
 .block 5 (.seq (.block 6 (.loop l74_2_h l74_2_b))
 (.seq (.block 8 (.loop l74_3_h l74_3_b))
 (.seq (.seq (.region none [] [
 mv 132 10, mv 133 11, op 134 (.bin .gtr .int (tm 132) (tm 133))] [0, 1, 10, 11, 134] none)
 (.cond (tm 134) (.exit 4)
 (.skip)))
 (.seq (.par 16 [] [] [
 mv 135 0, mv 136 10, mv 137 0, mv 138 11, mv 139 0, mv 140 11, op 141 (.iaddr 1 (tm 139) (tm 140)), op 142 (.load none (tm 141)), mv 143 0, mv 144 10, op 145 (.iaddr 1 (tm 143) (tm 144)), op 146 (.load none (tm 145)), op 147 (.iaddr 1 (tm 135) (tm 136)), ⟨none, .store 1 (tm 147) (tm 142), none⟩, op 148 (.iaddr 1 (tm 137) (tm 138)), ⟨none, .store 1 (tm 148) (tm 146), none⟩] [0, 1, 10, 11] none)
 (.seq (.region none [] [
 mv 149 10, op 150 (.bin .add .int (tm 149) (ci (1))), mv 10 150] [0, 1, 10, 11] none)
 (.region none [] [
 mv 151 11, op 152 (.bin .sub .int (tm 151) (ci (1))), mv 11 152] [0, 1, 10, 11] none))))))

def c74 : ACode :=
 .seq (.region none [] [
 op 8 (.mov (ci (0))), op 9 (.mov (.cst (.bool false)))] [0, 1, 2, 3] none)
 (.seq (.par 16 [] [] [
 mv 12 0, mv 13 1, mv 14 0, mv 15 3, mv 16 0, mv 17 3, op 18 (.iaddr 1 (tm 16) (tm 17)), op 19 (.load none (tm 18)), mv 20 0, mv 21 1, op 22 (.iaddr 1 (tm 20) (tm 21)), op 23 (.load none (tm 22)), op 24 (.iaddr 1 (tm 12) (tm 13)), ⟨none, .store 1 (tm 24) (tm 19), none⟩, op 25 (.iaddr 1 (tm 14) (tm 15)), ⟨none, .store 1 (tm 25) (tm 23), none⟩] [0, 1, 2] none)
 (.seq (.region none [] [
 mv 26 1, op 27 (.bin .add .int (tm 26) (ci (1))), mv 28 2, op 29 (.bin .sub .int (tm 28) (ci (1))), mv 10 27, mv 11 29] [0, 1, 10, 11] none)
 (.seq (.block 0 (.loop l74_0_h l74_0_b))
 (.seq (.block 2 (.loop l74_1_h l74_1_b))
 (.seq (.seq (.region none [] [
 mv 63 10, mv 64 11, op 65 (.bin .gtr .int (tm 63) (tm 64))] [0, 1, 10, 11, 65] none)
 (.cond (tm 65) (.seq (.par 16 [] [] [
 mv 66 0, mv 67 11, mv 68 0, mv 69 1, mv 70 0, mv 71 1, op 72 (.iaddr 1 (tm 70) (tm 71)), op 73 (.load none (tm 72)), mv 74 0, mv 75 11, op 76 (.iaddr 1 (tm 74) (tm 75)), op 77 (.load none (tm 76)), op 78 (.iaddr 1 (tm 66) (tm 67)), ⟨none, .store 1 (tm 78) (tm 73), none⟩, op 79 (.iaddr 1 (tm 68) (tm 69)), ⟨none, .store 1 (tm 79) (tm 77), none⟩] [11] none)
 (.seq (.region none [] [
 mv 80 11, mv 8 80, op 9 (.mov (.cst (.bool true)))] [8, 9] none)
 (.ret)))
 (.skip)))
 (.seq (.par 16 [] [] [
 mv 81 0, mv 82 10, mv 83 0, mv 84 11, mv 85 0, mv 86 11, op 87 (.iaddr 1 (tm 85) (tm 86)), op 88 (.load none (tm 87)), mv 89 0, mv 90 10, op 91 (.iaddr 1 (tm 89) (tm 90)), op 92 (.load none (tm 91)), op 93 (.iaddr 1 (tm 81) (tm 82)), ⟨none, .store 1 (tm 93) (tm 88), none⟩, op 94 (.iaddr 1 (tm 83) (tm 84)), ⟨none, .store 1 (tm 94) (tm 92), none⟩] [0, 1, 10, 11] none)
 (.seq (.region none [] [
 mv 95 10, op 96 (.bin .add .int (tm 95) (ci (1))), mv 10 96] [0, 1, 10, 11] none)
 (.seq (.region none [] [
 mv 97 11, op 98 (.bin .sub .int (tm 97) (ci (1))), mv 11 98] [0, 1, 10, 11] none)
 (.seq (.block 4 (.loop l74_4_h l74_4_b))
 (.seq (.par 16 [] [] [
 mv 153 0, mv 154 11, mv 155 0, mv 156 1, mv 157 0, mv 158 1, op 159 (.iaddr 1 (tm 157) (tm 158)), op 160 (.load none (tm 159)), mv 161 0, mv 162 11, op 163 (.iaddr 1 (tm 161) (tm 162)), op 164 (.load none (tm 163)), op 165 (.iaddr 1 (tm 153) (tm 154)), ⟨none, .store 1 (tm 165) (tm 160), none⟩, op 166 (.iaddr 1 (tm 155) (tm 156)), ⟨none, .store 1 (tm 166) (tm 164), none⟩] [11] none)
 (.seq (.region none [] [
 mv 167 11, mv 8 167, op 9 (.mov (.cst (.bool false)))] [8, 9] none)
 (.ret))))))))))))

def a74 : AFunc := ⟨4, c74, [.tmp 8, .tmp 9]⟩

def an74 : List RAnn := [
 { id := 0, live := [0, 1, 2, 3] },
 { id := 1, head := some 16, live := [0, 1, 2], par := true },
 { id := 2, live := [0, 1, 10, 11] },
 { id := 3, head := some 14, live := [0, 1, 10, 11, 43], hdr := [0, 1, 10, 11] },
 { id := 4, live := [0, 1, 10, 11] },
 { id := 5, head := some 15, live := [0, 1, 10, 11, 60], hdr := [0, 1, 10, 11] },
 { id := 6, live := [0, 1, 10, 11] },
 { id := 7, live := [0, 1, 10, 11, 65] },
 { id := 8, head := some 16, live := [11], par := true },
 { id := 9, live := [8, 9] },
 { id := 10, head := some 16, live := [0, 1, 10, 11], par := true },
 { id := 11, live := [0, 1, 10, 11] },
 { id := 12, live := [0, 1, 10, 11] },
 { id := 13, head := some 14, live := [0, 1, 10, 11, 112], hdr := [0, 1, 10, 11] },
 { id := 14, live := [0, 1, 10, 11] },
 { id := 15, head := some 15, live := [0, 1, 10, 11, 129], hdr := [0, 1, 10, 11] },
 { id := 16, live := [0, 1, 10, 11] },
 { id := 17, live := [0, 1, 10, 11, 134] },
 { id := 18, head := some 16, live := [0, 1, 10, 11], par := true },
 { id := 19, live := [0, 1, 10, 11] },
 { id := 20, live := [0, 1, 10, 11] },
 { id := 21, head := some 16, live := [11], par := true },
 { id := 22, live := [8, 9] }]

theorem comp74 : compF Try.prog an74 Try.f74 = some a74 := by kernel_rfl

/- slices.siftDownCmpFunc[int] -/
/-- loop 0 of function 75 -/
def l75_0_h : List Nat := [0, 2, 3, 4, 10]

def l75_0_b : ACode :=
 .block 1 (.seq (.region none [] [
 mv 13 10, op 14 (.bin .mul .int (ci (2)) (tm 13)), op 15 (.bin .add .int (tm 14) (ci (1))), mv 11 15] [0, 2, 3, 4, 10, 11] none)
 (.seq (.seq (.region none [] [
 mv 16 11, mv 17 2, op 18 (.bin .geq .int (tm 16) (tm 17))] [0, 2, 3, 4, 10, 11, 18] none)
 (.cond (tm 18) (.exit 0)
 (.skip)))
 (.seq (.seq (.region (some 22) [] [
 mv 19 11, op 20 (.bin .add .int (tm 19) (ci (1))), mv 21 2, op 22 (.bin .lss .int (tm 20) (tm 21)), mv 23 22, mg 24 4 23 true, mg 25 0 23 true, mg 26 3 23 true, mg 27 11 23 true, ⟨some 28, .bin .add .int (tm 26) (tm 27), some (23, true)⟩, ⟨some 29, .iaddr 1 (tm 25) (tm 28), some (23, true)⟩, ⟨some 30, .load none (tm 29), some (23, true)⟩, mg 31 0 23 true, mg 32 3 23 true, mg 33 11 23 true, ⟨some 34, .bin .add .int (tm 32) (tm 33), some (23, true)⟩, ⟨some 35, .bin .add .int (tm 34) (ci (1)), some (23, true)⟩, ⟨some 36, .iaddr 1 (tm 31) (tm 35), some (23, true)⟩, ⟨some 37, .load none (tm 36), some (23, true)⟩, ⟨some 38, .callv .pure (tm 24) [(tm 30), (tm 37)], some (23, true)⟩, ⟨some 39, .bin .lss .int (tm 38) (ci (0)), some (23, true)⟩, op 40 (.pick (tm 23) (tm 39) (.cst (.bool false)))] [0, 2, 3, 4, 10, 11, 40] none)
 (.cond (tm 40) (.region none [] [
 mv 41 11, op 42 (.bin .add .int (tm 41) (ci (1))), mv 11 42] [0, 2, 3, 4, 10, 11] none)
 (.skip)))
 (.seq (.seq (.region (some 16) [] [
 mv 43 4, mv 44 0, mv 45 3, mv 46 10, op 47 (.bin .add .int (tm 45) (tm 46)), op 48 (.iaddr 1 (tm 44) (tm 47)), op 49 (.load none (tm 48)), mv 50 0, mv 51 3, mv 52 11, op 53 (.bin .add .int (tm 51) (tm 52)), op 54 (.iaddr 1 (tm 50) (tm 53)), op 55 (.load none (tm 54)), op 56 (.callv .pure (tm 43) [(tm 49), (tm 55)]), op 57 (.bin .lss .int (tm 56) (ci (0))), op 58 (.un .not (tm 57))] [0, 2, 3, 4, 10, 11, 58] none)
 (.cond (tm 58) (.ret)
 (.skip)))
 (.seq (.par 24 [] [] [
 mv 59 0, mv 60 3, mv 61 10, op 62 (.bin .add .int (tm 60) (tm 61)), mv 63 0, mv 64 3, mv 65 11, op 66 (.bin .add .int (tm 64) (tm 65)), mv 67 0, mv 68 3, mv 69 11, op 70 (.bin .add .int (tm 68) (tm 69)), op 71 (.iaddr 1 (tm 67) (tm 70)), op 72 (.load none (tm 71)), mv 73 0, mv 74 3, mv 75 10, op 76 (.bin .add .int (tm 74) (tm 75)), op 77 (.iaddr 1 (tm 73) (tm 76)), op 78 (.load none (tm 77)), op 79 (.iaddr 1 (tm 59) (tm 62)), ⟨none, .store 1 (tm 79) (tm 72), none⟩, op 80 (.iaddr 1 (tm 63) (tm 66)), ⟨none, .store 1 (tm 80) (tm 78), none⟩] [0, 2, 3, 4, 11] none)
 (.region none [] [
 mv 81 11, mv 10 81] [0, 2, 3, 4, 10] none))))))

def c75 : ACode :=
 .seq (.region none [] [
 mv 12 1, mv 10 12] [0, 2, 3, 4, 10] none)
 (.block 0 (.loop l75_0_h l75_0_b))

def a75 : AFunc := ⟨5, c75, []⟩

def an75 : List RAnn := [
 { id := 0, live := [0, 2, 3, 4, 10] },
 { id := 1, live := [0, 2, 3, 4, 10, 11], hdr := [0, 2, 3, 4, 10] },
 { id := 2, live := [0, 2, 3, 4, 10, 11, 18] },
 { id := 3, head := some 22, live := [0, 2, 3, 4, 10, 11, 40] },
 { id := 4, live := [0, 2, 3, 4, 10, 11] },
 { id := 5, head := some 16, live := [0, 2, 3, 4, 10, 11, 58] },
 { id := 6, head := some 24, live := [0, 2, 3, 4, 11], par := true },
 { id := 7, live := [0, 2, 3, 4, 10] }]

theorem comp75 : compF Try.prog an75 Try.f75 = some a75 := by kernel_rfl

/- slices.nextPowerOfTwo -/
def c76 : ACode :=
 .seq (.region none [] [
 op 2 (.mov (.cst (.int .u64 0)))] [0] none)
 (.seq (.region none [] [
 mv 3 0, op 4 (.conv .u64 (tm 3)), op 5 (.call .pure 42 [(tm 4)]), op 6 (.bin .shl .int (.cst (.int .u64 1)) (tm 5)), mv 2 6] [2] none)
 (.ret))

def a76 : AFunc := ⟨1, c76, [.tmp 2]⟩

def an76 : List RAnn := [
 { id := 0, live := [0] },
 { id := 1, live := [2] }]

theorem comp76 : compF Try.prog an76 Try.f76 = some a76 := by kernel_rfl

/- (*slices.xorshift).Next -/
def c77 : ACode :=
 .seq (.region none [] [
 op 2 (.mov (.cst (.int .u64 0)))] [0] none)
 (.seq (.region (some 9) [] [
 mv 3 0, op 4 (.nilchk (tm 3)), op 5 (.load none (tm 4)), mv 6 0, op 7 (.nilchk (tm 6)), op 8 (.load none (tm 7)), op 9 (.bin .shl .int (tm 8) (.cst (.int .u64 13))), op 10 (.bin .xor .int (tm 5) (tm 9)), op 11 (.nilchk (tm 3)), ⟨none, .store 1 (tm 11) (tm 10), none⟩] [0] none)
 (.seq (.region (some 9) [] [
 mv 12 0, op 13 (.nilchk (tm 12)), op 14 (.load none (tm 13)), mv 15 0, op 16 (.nilchk (tm 15)), op 17 (.load none (tm 16)), op 18 (.bin .shr .int (tm 17) (.cst (.int .u64 7))), op 19 (.bin .xor .int (tm 14) (tm 18)), op 20 (.nilchk (tm 12)), ⟨none, .store 1 (tm 20) (tm 19), none⟩] [0] none)
 (.seq (.region (some 9) [] [
 mv 21 0, op 22 (.nilchk (tm 21)), op 23 (.load none (tm 22)), mv 24 0, op 25 (.nilchk (tm 24)), op 26 (.load none (tm 25)), op 27 (.bin .shl .int (tm 26) (.cst (.int .u64 17))), op 28 (.bin .xor .int (tm 23) (tm 27)), op 29 (.nilchk (tm 21)), ⟨none, .store 1 (tm 29) (tm 28), none⟩] [0] none)
 (.seq (.region none [] [
 mv 30 0, op 31 (.nilchk (tm 30)), op 32 (.load none (tm 31)), mv 2 32] [2] none)
 (.ret)))))

def a77 : AFunc := ⟨1, c77, [.tmp 2]⟩

def an77 : List RAnn := [
 { id := 0, live := [0] },
 { id := 1, head := some 9, live := [0] },
 { id := 2, head := some 9, live := [0] },
 { id := 3, head := some 9, live := [0] },
 { id := 4, live := [2] }]

theorem comp77 : compF Try.prog an77 Try.f77 = some a77 := by kernel_rfl

/- slices.medianAdjacentCmpFunc[int] -/
def c78 : ACode :=
 .seq (.region none [] [
 op 8 (.mov (ci (0)))] [0, 1, 2, 3] none)
 (.seq (.region none [] [
 mv 9 0, mv 10 1, op 11 (.bin .sub .int (tm 10) (ci (1))), mv 12 1, mv 13 1, op 14 (.bin .add .int (tm 13) (ci (1))), mv 15 2, mv 16 3, op 17 (.call .share 79 [(tm 9), (tm 11), (tm 12), (tm 14), (tm 15), (tm 16)]), mv 8 17] [8] none)
 (.ret))

def a78 : AFunc := ⟨4, c78, [.tmp 8]⟩

def an78 : List RAnn := [
 { id := 0, live := [0, 1, 2, 3] },
 { id := 1, live := [8], ops := [(8, .mode .share)] }]

theorem comp78 : compF Try.prog an78 Try.f78 = some a78 := by kernel_rfl

/- slices.medianCmpFunc[int] -/
def c79 : ACode :=
 .seq (.region none [] [
 op 12 (.mov (ci (0)))] [0, 1, 2, 3, 4, 5] none)
 (.seq (.region none [] [
 mv 14 0, mv 15 1, mv 16 2, mv 17 4, mv 18 5, op 19 (.call .share 85 [(tm 14), (tm 15), (tm 16), (tm 17), (tm 18)]), mv 13 19, op 20 (.ext (tm 13) 0), op 21 (.ext (tm 13) 1), mv 1 20, mv 2 21] [0, 1, 2, 3, 4, 5] none)
 (.seq (.region none [] [
 mv 23 0, mv 24 2, mv 25 3, mv 26 4, mv 27 5, op 28 (.call .share 85 [(tm 23), (tm 24), (tm 25), (tm 26), (tm 27)]), mv 22 28, op 29 (.ext (tm 22) 0), op 30 (.ext (tm 22) 1), mv 2 29, mv 3 30] [0, 1, 2, 4, 5] none)
 (.seq (.region none [] [
 mv 32 0, mv 33 1, mv 34 2, mv 35 4, mv 36 5, op 37 (.call .share 85 [(tm 32), (tm 33), (tm 34), (tm 35), (tm 36)]), mv 31 37, op 38 (.ext (tm 31) 0), op 39 (.ext (tm 31) 1), mv 1 38, mv 2 39] [2] none)
 (.seq (.region none [] [
 mv 40 2, mv 12 40] [12] none)
 (.ret)))))

def a79 : AFunc := ⟨6, c79, [.tmp 12]⟩

def an79 : List RAnn := [
 { id := 0, live := [0, 1, 2, 3, 4, 5] },
 { id := 1, live := [0, 1, 2, 3, 4, 5], ops := [(5, .mode .share)] },
 { id := 2, live := [0, 1, 2, 4, 5], ops := [(5, .mode .share)] },
 { id := 3, live := [2], ops := [(5, .mode .share)] },
 { id := 4, live := [12] }]

theorem comp79 : compF Try.prog an79 Try.f79 = some a79 := by kernel_rfl

/- graphdb/value.valid -/
/-- loop 0 of function 80 -/
def l80_0_h : List Nat := [1, 120, 121, 122]

def l80_0_b : ACode :=
 .seq (.region none [] [
 op 123 (.bin .lss .int (tm 122) (tm 121))] [1, 120, 121, 122, 123] none)
 (.seq (.cond (tm 123) (.skip)
 (.exit 1))
 (.seq (.block 2 (.seq (.region none [] [
 op 124 (.iaddr 5 (tm 120) (tm 122)), op 125 (.load (some 5) (tm 124)), op 6 (.alloc 5 (.agg [.int .i64 0, .int .i64 0, .int .i64 0, .str [], .sl false []])), ⟨none, .store 5 (tm 6) (tm 125), none⟩] [1, 6, 120, 121, 122] none)
 (.seq (.region none [] [
 op 126 (.load (some 5) (tm 6)), mv 127 1, op 128 (.bin .add .int (tm 127) (ci (1))), op 129 (.call .pure 80 [(tm 126), (tm 128)]), op 130 (.un .not (tm 129))] [1, 120, 121, 122, 130] none)
 (.cond (tm 130) (.seq (.region none [] [
 op 4 (.mov (.cst (.bool false)))] [4] none)
 (.ret))
 (.skip)))))
 (.region none [] [
 op 131 (.bin .add .int (tm 122) (ci (1))), mv 122 131] [1, 120, 121, 122] none)))

def c80 : ACode :=
 .seq (.region none [] [
 op 2 (.box 5 (tm 0)), op 4 (.mov (.cst (.bool false)))] [1, 2] none)
 (.seq (.seq (.region none [] [
 op 7 (.faddr 0 (tm 2)), op 8 (.load none (tm 7)), op 9 (.bin .neq .int (tm 8) (ci (3))), mv 10 9, ⟨some 11, .faddr 2 (tm 2), some (10, true)⟩, ⟨some 12, .load none (tm 11), some (10, true)⟩, ⟨some 13, .bin .neq .int (tm 12) (ci (0)), some (10, true)⟩, op 14 (.pick (tm 10) (tm 13) (.cst (.bool false))), mv 15 14, ⟨some 16, .faddr 0 (tm 2), some (15, false)⟩, ⟨some 17, .load none (tm 16), some (15, false)⟩, ⟨some 18, .bin .neq .int (tm 17) (ci (4)), some (15, false)⟩, mg 19 18 15 false, ⟨some 20, .faddr 3 (tm 2), some (19, true)⟩, ⟨some 21, .load none (tm 20), some (19, true)⟩, ⟨some 22, .bin .neq .str (tm 21) (.cst (.str [])), some (19, true)⟩, ⟨some 23, .pick (tm 19) (tm 22) (.cst (.bool false)), some (15, false)⟩, op 24 (.pick (tm 15) (.cst (.bool true)) (tm 23)), mv 25 24, ⟨some 26, .faddr 0 (tm 2), some (25, false)⟩, ⟨some 27, .load none (tm 26), some (25, false)⟩, ⟨some 28, .bin .neq .int (tm 27) (ci (8)), some (25, false)⟩, mg 29 28 25 false, ⟨some 30, .faddr 0 (tm 2), some (29, true)⟩, ⟨some 31, .load none (tm 30), some (29, true)⟩, ⟨some 32, .bin .neq .int (tm 31) (ci (7)), some (29, true)⟩, ⟨some 33, .pick (tm 29) (tm 32) (.cst (.bool false)), some (25, false)⟩, mg 34 33 25 false, ⟨some 35, .faddr 4 (tm 2), some (34, true)⟩, ⟨some 36, .load none (tm 35), some (34, true)⟩, ⟨some 37, .len .slice (tm 36), some (34, true)⟩, ⟨some 38, .bin .gtr .int (tm 37) (ci (0)), some (34, true)⟩, ⟨some 39, .pick (tm 34) (tm 38) (.cst (.bool false)), some (25, false)⟩, op 40 (.pick (tm 25) (.cst (.bool true)) (tm 39))] [1, 2, 40] none)
 (.cond (tm 40) (.seq (.region none [] [
 op 4 (.mov (.cst (.bool false)))] [4] none)
 (.ret))
 (.skip)))
 (.seq (.seq (.region none [] [
 op 41 (.faddr 0 (tm 2)), op 42 (.load none (tm 41))] [1, 2, 42] none)
 (.block 0 (.seq (.region none [] [
 op 44 (.bin .eql .int (tm 42) (ci (0))), mv 43 44] [1, 2, 42, 43] none)
 (.cond (tm 43) (.seq (.region none [] [
 op 45 (.faddr 1 (tm 2)), op 46 (.load none (tm 45)), op 47 (.bin .eql .int (tm 46) (ci (0))), mv 4 47] [4] none)
 (.ret))
 (.seq (.region none [] [
 op 49 (.bin .eql .int (tm 42) (ci (1))), mv 48 49] [1, 2, 42, 48] none)
 (.cond (tm 48) (.seq (.region none [] [
 op 50 (.faddr 1 (tm 2)), op 51 (.load none (tm 50)), op 52 (.bin .eql .int (tm 51) (ci (0))), mv 53 52, ⟨some 54, .faddr 1 (tm 2), some (53, false)⟩, ⟨some 55, .load none (tm 54), some (53, false)⟩, ⟨some 56, .bin .eql .int (tm 55) (ci (1)), some (53, false)⟩, op 57 (.pick (tm 53) (.cst (.bool true)) (tm 56)), mv 4 57] [4] none)
 (.ret))
 (.seq (.region none [] [
 op 59 (.bin .eql .int (tm 42) (ci (2))), mv 58 59] [1, 2, 42, 58] none)
 (.cond (tm 58) (.seq (.region none [] [
 op 60 (.faddr 1 (tm 2)), op 61 (.load none (tm 60)), op 62 (.call .pure 86 [(tm 61)]), mv 4 62] [4] none)
 (.ret))
 (.seq (.region none [] [
 op 64 (.bin .eql .int (tm 42) (ci (3))), mv 63 64] [1, 2, 42, 63] none)
 (.cond (tm 63) (.seq (.region none [] [
 op 65 (.faddr 2 (tm 2)), op 66 (.load none (tm 65)), op 67 (.bin .geq .int (tm 66) (ci (2))), mv 68 67, ⟨some 69, .faddr 1 (tm 2), some (68, true)⟩, ⟨some 70, .load none (tm 69), some (68, true)⟩, ⟨some 71, .faddr 2 (tm 2), some (68, true)⟩, ⟨some 72, .load none (tm 71), some (68, true)⟩, ⟨some 73, .build [.int .i64 0, .int .i64 0] [(0, 1, (tm 70)), (1, 1, (tm 72))], some (68, true)⟩, ⟨some 74, .call .pure 87 [(tm 73)], some (68, true)⟩, op 75 (.pick (tm 68) (tm 74) (.cst (.bool false))), mv 4 75] [4] none)
 (.ret))
 (.seq (.region none [] [
 op 77 (.bin .eql .int (tm 42) (ci (4))), mv 76 77] [1, 2, 42, 76] none)
 (.cond (tm 76) (.seq (.region none [] [
 op 78 (.faddr 1 (tm 2)), op 79 (.load none (tm 78)), op 80 (.bin .eql .int (tm 79) (ci (0))), mv 81 80, ⟨some 82, .faddr 3 (tm 2), some (81, true)⟩, ⟨some 83, .load none (tm 82), some (81, true)⟩, ⟨some 84, .len .str (tm 83), some (81, true)⟩, ⟨some 85, .bin .leq .int (tm 84) (ci (100)), some (81, true)⟩, op 86 (.pick (tm 81) (tm 85) (.cst (.bool false))), mv 87 86, ⟨some 88, .faddr 3 (tm 2), some (87, true)⟩, ⟨some 89, .load none (tm 88), some (87, true)⟩, ⟨some 90, .call .pure 88 [(tm 89), (.cst (.fn 89 []))], some (87, true)⟩, ⟨some 91, .bin .lss .int (tm 90) (ci (0)), some (87, true)⟩, op 92 (.pick (tm 87) (tm 91) (.cst (.bool false))), mv 4 92] [4] none)
 (.ret))
 (.seq (.seq (.region none [] [
 op 94 (.bin .eql .int (tm 42) (ci (5))), mv 93 94] [1, 2, 42, 93] none)
 (.cond (tm 93) (.skip)
 (.region none [] [
 op 95 (.bin .eql .int (tm 42) (ci (6))), mv 93 95] [1, 2, 42, 93] none)))
 (.cond (tm 93) (.seq (.region none [] [
 op 96 (.faddr 1 (tm 2)), op 97 (.load none (tm 96)), op 98 (.bin .geq .int (tm 97) (ci (1))), mv 99 98, ⟨some 100, .faddr 1 (tm 2), some (99, true)⟩, ⟨some 101, .load none (tm 100), some (99, true)⟩, ⟨some 102, .bin .leq .int (tm 101) (ci (1000000)), some (99, true)⟩, op 103 (.pick (tm 99) (tm 102) (.cst (.bool false))), mv 4 103] [4] none)
 (.ret))
 (.seq (.region none [] [
 op 105 (.bin .eql .int (tm 42) (ci (8))), mv 104 105] [1, 2, 42, 104] none)
 (.cond (tm 104) (.seq (.seq (.region none [] [
 op 106 (.faddr 1 (tm 2)), op 107 (.load none (tm 106)), op 108 (.bin .neq .int (tm 107) (ci (0))), mv 109 108, ⟨some 110, .faddr 4 (tm 2), some (109, false)⟩, ⟨some 111, .load none (tm 110), some (109, false)⟩, ⟨some 112, .len .slice (tm 111), some (109, false)⟩, ⟨some 113, .bin .gtr .int (tm 112) (ci (64)), some (109, false)⟩, op 114 (.pick (tm 109) (.cst (.bool true)) (tm 113)), mv 115 114, mg 116 1 115 false, ⟨some 117, .bin .geq .int (tm 116) (ci (8)), some (115, false)⟩, op 118 (.pick (tm 115) (.cst (.bool true)) (tm 117))] [1, 2, 118] none)
 (.cond (tm 118) (.seq (.region none [] [
 op 4 (.mov (.cst (.bool false)))] [4] none)
 (.ret))
 (.skip)))
 (.seq (.seq (.region none [] [
 op 119 (.faddr 4 (tm 2)), op 120 (.load none (tm 119)), op 121 (.len .slice (tm 120)), op 122 (.mov (ci (0)))] [1, 120, 121, 122] none)
 (.block 1 (.loop l80_0_h l80_0_b)))
 (.seq (.region none [] [
 op 4 (.mov (.cst (.bool true)))] [4] none)
 (.ret))))
 (.seq (.region none [] [
 op 133 (.bin .eql .int (tm 42) (ci (7))), mv 132 133] [2, 132] none)
 (.cond (tm 132) (.seq (.region none [] [
 op 134 (.faddr 1 (tm 2)), op 135 (.load none (tm 134)), op 136 (.bin .eql .int (tm 135) (ci (0))), mv 137 136, ⟨some 138, .faddr 4 (tm 2), some (137, true)⟩, ⟨some 139, .load none (tm 138), some (137, true)⟩, ⟨some 140, .call .pure 90 [(tm 139)], some (137, true)⟩, op 141 (.pick (tm 137) (tm 140) (.cst (.bool false))), mv 4 141] [4] none)
 (.ret))
 (.skip)))))))))))))))))))
 (.seq (.region none [] [
 op 4 (.mov (.cst (.bool false)))] [4] none)
 (.ret))))

def a80 : AFunc := ⟨2, c80, [.tmp 4]⟩

def an80 : List RAnn := [
 { id := 0, live := [1, 2] },
 { id := 1, live := [1, 2, 40] },
 { id := 2, live := [4] },
 { id := 3, live := [1, 2, 42] },
 { id := 4, live := [1, 2, 42, 43] },
 { id := 5, live := [4] },
 { id := 6, live := [1, 2, 42, 48] },
 { id := 7, live := [4] },
 { id := 8, live := [1, 2, 42, 58] },
 { id := 9, live := [4] },
 { id := 10, live := [1, 2, 42, 63] },
 { id := 11, live := [4] },
 { id := 12, live := [1, 2, 42, 76] },
 { id := 13, live := [4] },
 { id := 14, live := [1, 2, 42, 93] },
 { id := 15, live := [1, 2, 42, 93] },
 { id := 16, live := [4] },
 { id := 17, live := [1, 2, 42, 104] },
 { id := 18, live := [1, 2, 118] },
 { id := 19, live := [4] },
 { id := 20, live := [1, 120, 121, 122] },
 { id := 21, live := [1, 120, 121, 122, 123], hdr := [1, 120, 121, 122] },
 { id := 22, live := [1, 6, 120, 121, 122] },
 { id := 23, live := [1, 120, 121, 122, 130] },
 { id := 24, live := [4] },
 { id := 25, live := [1, 120, 121, 122] },
 { id := 26, live := [4] },
 { id := 27, live := [2, 132] },
 { id := 28, live := [4] },
 { id := 29, live := [4] }]

theorem comp80 : compF Try.prog an80 Try.f80 = some a80 := by kernel_rfl

/- slices.siftDownOrdered[string] -/
/-- loop 0 of function 81 -/
def l81_0_h : List Nat := [0, 2, 3, 8]

def l81_0_b : ACode :=
 .block 1 (.seq (.region none [] [
 mv 11 8, op 12 (.bin .mul .int (ci (2)) (tm 11)), op 13 (.bin .add .int (tm 12) (ci (1))), mv 9 13] [0, 2, 3, 8, 9] none)
 (.seq (.seq (.region none [] [
 mv 14 9, mv 15 2, op 16 (.bin .geq .int (tm 14) (tm 15))] [0, 2, 3, 8, 9, 16] none)
 (.cond (tm 16) (.exit 0)
 (.skip)))
 (.seq (.seq (.region (some 20) [] [
 mv 17 9, op 18 (.bin .add .int (tm 17) (ci (1))), mv 19 2, op 20 (.bin .lss .int (tm 18) (tm 19)), mv 21 20, mg 22 0 21 true, mg 23 3 21 true, mg 24 9 21 true, ⟨some 25, .bin .add .int (tm 23) (tm 24), some (21, true)⟩, ⟨some 26, .iaddr 1 (tm 22) (tm 25), some (21, true)⟩, ⟨some 27, .load none (tm 26), some (21, true)⟩, mg 28 0 21 true, mg 29 3 21 true, mg 30 9 21 true, ⟨some 31, .bin .add .int (tm 29) (tm 30), some (21, true)⟩, ⟨some 32, .bin .add .int (tm 31) (ci (1)), some (21, true)⟩, ⟨some 33, .iaddr 1 (tm 28) (tm 32), some (21, true)⟩, ⟨some 34, .load none (tm 33), some (21, true)⟩, ⟨some 35, .call .pure 72 [(tm 27), (tm 34)], some (21, true)⟩, op 36 (.pick (tm 21) (tm 35) (.cst (.bool false)))] [0, 2, 3, 8, 9, 36] none)
 (.cond (tm 36) (.region none [] [
 mv 37 9, op 38 (.bin .add .int (tm 37) (ci (1))), mv 9 38] [0, 2, 3, 8, 9] none)
 (.skip)))
 (.seq (.seq (.region (some 14) [] [
 mv 39 0, mv 40 3, mv 41 8, op 42 (.bin .add .int (tm 40) (tm 41)), op 43 (.iaddr 1 (tm 39) (tm 42)), op 44 (.load none (tm 43)), mv 45 0, mv 46 3, mv 47 9, op 48 (.bin .add .int (tm 46) (tm 47)), op 49 (.iaddr 1 (tm 45) (tm 48)), op 50 (.load none (tm 49)), op 51 (.call .pure 72 [(tm 44), (tm 50)]), op 52 (.un .not (tm 51))] [0, 2, 3, 8, 9, 52] none)
 (.cond (tm 52) (.ret)
 (.skip)))
 (.seq (.par 24 [] [] [
 mv 53 0, mv 54 3, mv 55 8, op 56 (.bin .add .int (tm 54) (tm 55)), mv 57 0, mv 58 3, mv 59 9, op 60 (.bin .add .int (tm 58) (tm 59)), mv 61 0, mv 62 3, mv 63 9, op 64 (.bin .add .int (tm 62) (tm 63)), op 65 (.iaddr 1 (tm 61) (tm 64)), op 66 (.load none (tm 65)), mv 67 0, mv 68 3, mv 69 8, op 70 (.bin .add .int (tm 68) (tm 69)), op 71 (.iaddr 1 (tm 67) (tm 70)), op 72 (.load none (tm 71)), op 73 (.iaddr 1 (tm 53) (tm 56)), ⟨none, .store 1 (tm 73) (tm 66), none⟩, op 74 (.iaddr 1 (tm 57) (tm 60)), ⟨none, .store 1 (tm 74) (tm 72), none⟩] [0, 2, 3, 9] none)
 (.region none [] [
 mv 75 9, mv 8 75] [0, 2, 3, 8] none))))))

def c81 : ACode :=
 .seq (.region none [] [
 mv 10 1, mv 8 10] [0, 2, 3, 8] none)
 (.block 0 (.loop l81_0_h l81_0_b))

def a81 : AFunc := ⟨4, c81, []⟩

def an81 : List RAnn := [
 { id := 0, live := [0, 2, 3, 8] },
 { id := 1, live := [0, 2, 3, 8, 9], hdr := [0, 2, 3, 8] },
 { id := 2, live := [0, 2, 3, 8, 9, 16] },
 { id := 3, head := some 20, live := [0, 2, 3, 8, 9, 36] },
 { id := 4, live := [0, 2, 3, 8, 9] },
 { id := 5, head := some 14, live := [0, 2, 3, 8, 9, 52] },
 { id := 6, head := some 24, live := [0, 2, 3, 9], par := true },
 { id := 7, live := [0, 2, 3, 8] }]

theorem comp81 : compF Try.prog an81 Try.f81 = some a81 := by kernel_rfl

/- slices.medianAdjacentOrdered[string] -/
def c82 : ACode :=
 .seq (.region none [] [
 op 6 (.mov (ci (0)))] [0, 1, 2] none)
 (.seq (.region none [] [
 mv 7 0, mv 8 1, op 9 (.bin .sub .int (tm 8) (ci (1))), mv 10 1, mv 11 1, op 12 (.bin .add .int (tm 11) (ci (1))), mv 13 2, op 14 (.call .share 83 [(tm 7), (tm 9), (tm 10), (tm 12), (tm 13)]), mv 6 14] [6] none)
 (.ret))

def a82 : AFunc := ⟨3, c82, [.tmp 6]⟩

def an82 : List RAnn := [
 { id := 0, live := [0, 1, 2] },
 { id := 1, live := [6], ops := [(7, .mode .share)] }]

theorem comp82 : compF Try.prog an82 Try.f82 = some a82 := by kernel_rfl

/- slices.medianOrdered[string] -/
def c83 : ACode :=
 .seq (.region none [] [
 op 10 (.mov (ci (0)))] [0, 1, 2, 3, 4] none)
 (.seq (.region none [] [
 mv 12 0, mv 13 1, mv 14 2, mv 15 4, op 16 (.call .share 91 [(tm 12), (tm 13), (tm 14), (tm 15)]), mv 11 16, op 17 (.ext (tm 11) 0), op 18 (.ext (tm 11) 1), mv 1 17, mv 2 18] [0, 1, 2, 3, 4] none)
 (.seq (.region none [] [
 mv 20 0, mv 21 2, mv 22 3, mv 23 4, op 24 (.call .share 91 [(tm 20), (tm 21), (tm 22), (tm 23)]), mv 19 24, op 25 (.ext (tm 19) 0), op 26 (.ext (tm 19) 1), mv 2 25, mv 3 26] [0, 1, 2, 4] none)
 (.seq (.region none [] [
 mv 28 0, mv 29 1, mv 30 2, mv 31 4, op 32 (.call .share 91 [(tm 28), (tm 29), (tm 30), (tm 31)]), mv 27 32, op 33 (.ext (tm 27) 0), op 34 (.ext (tm 27) 1), mv 1 33, mv 2 34] [2] none)
 (.seq (.region none [] [
 mv 35 2, mv 10 35] [10] none)
 (.ret)))))

def a83 : AFunc := ⟨5, c83, [.tmp 10]⟩

def an83 : List RAnn := [
 { id := 0, live := [0, 1, 2, 3, 4] },
 { id := 1, live := [0, 1, 2, 3, 4], ops := [(4, .mode .share)] },
 { id := 2, live := [0, 1, 2, 4], ops := [(4, .mode .share)] },
 { id := 3, live := [2], ops := [(4, .mode .share)] },
 { id := 4, live := [10] }]

theorem comp83 : compF Try.prog an83 Try.f83 = some a83 := by kernel_rfl

/- cmp.isNaN[string] -/
def c84 : ACode :=
 .seq (.region none [] [
 op 2 (.mov (.cst (.bool false)))] [0] none)
 (.seq (.region none [] [
 mv 3 0, mv 4 0, op 5 (.bin .neq .str (tm 3) (tm 4)), mv 2 5] [2] none)
 (.ret))

def a84 : AFunc := ⟨1, c84, [.tmp 2]⟩

def an84 : List RAnn := [
 { id := 0, live := [0] },
 { id := 1, live := [2] }]

theorem comp84 : compF Try.prog an84 Try.f84 = some a84 := by kernel_rfl

/- slices.order2CmpFunc[int] -/
def c85 : ACode :=
 .seq (.region none [] [
 op 10 (.mov (ci (0))), op 11 (.mov (ci (0)))] [0, 1, 2, 3, 4] none)
 (.seq (.seq (.region (some 11) [] [
 mv 12 4, mv 13 0, mv 14 2, op 15 (.iaddr 1 (tm 13) (tm 14)), op 16 (.load none (tm 15)), mv 17 0, mv 18 1, op 19 (.iaddr 1 (tm 17) (tm 18)), op 20 (.load none (tm 19)), op 21 (.callv .pure (tm 12) [(tm 16), (tm 20)]), op 22 (.bin .lss .int (tm 21) (ci (0)))] [1, 2, 3, 22] none)
 (.cond (tm 22) (.seq (.region none [] [
 mv 23 3, op 24 (.nilchk (tm 23)), op 25 (.load none (tm 24)), op 26 (.bin .add .int (tm 25) (ci (1))), op 27 (.nilchk (tm 23)), ⟨none, .store 1 (tm 27) (tm 26), none⟩] [1, 2] none)
 (.seq (.region none [] [
 mv 28 2, mv 29 1, mv 10 28, mv 11 29] [10, 11] none)
 (.ret)))
 (.skip)))
 (.seq (.region none [] [
 mv 30 1, mv 31 2, mv 10 30, mv 11 31] [10, 11] none)
 (.ret)))

def a85 : AFunc := ⟨5, c85, [.tmp 10, .tmp 11]⟩

def an85 : List RAnn := [
 { id := 0, live := [0, 1, 2, 3, 4] },
 { id := 1, head := some 11, live := [1, 2, 3, 22] },
 { id := 2, live := [1, 2] },
 { id := 3, live := [10, 11] },
 { id := 4, live := [10, 11] }]

theorem comp85 : compF Try.prog an85 Try.f85 = some a85 := by kernel_rfl

/- graphdb/num.In -/
def c86 : ACode :=
 .seq (.region none [] [
 op 2 (.mov (.cst (.bool false)))] [0] none)
 (.seq (.region none [] [
 mv 3 0, op 4 (.bin .geq .int (tm 3) (ci ((-1000000000000000)))), mv 5 4, mg 6 0 5 true, ⟨some 7, .bin .leq .int (tm 6) (ci (1000000000000000)), some (5, true)⟩, op 8 (.pick (tm 5) (tm 7) (.cst (.bool false))), mv 2 8] [2] none)
 (.ret))

def a86 : AFunc := ⟨1, c86, [.tmp 2]⟩

def an86 : List RAnn := [
 { id := 0, live := [0] },
 { id := 1, live := [2] }]

theorem comp86 : compF Try.prog an86 Try.f86 = some a86 := by kernel_rfl

/- graphdb/frac.Valid -/
def c87 : ACode :=
 .seq (.region none [] [
 op 1 (.box 2 (tm 0)), op 2 (.mov (.cst (.bool false)))] [1] none)
 (.seq (.region none [] [
 op 3 (.faddr 1 (tm 1)), op 4 (.load none (tm 3)), op 5 (.bin .geq .int (tm 4) (ci (1))), mv 6 5, ⟨some 7, .faddr 1 (tm 1), some (6, true)⟩, ⟨some 8, .load none (tm 7), some (6, true)⟩, ⟨some 9, .bin .leq .int (tm 8) (ci (1000000000000000)), some (6, true)⟩, op 10 (.pick (tm 6) (tm 9) (.cst (.bool false))), mv 11 10, ⟨some 12, .faddr 0 (tm 1), some (11, true)⟩, ⟨some 13, .load none (tm 12), some (11, true)⟩, ⟨some 14, .call .pure 86 [(tm 13)], some (11, true)⟩, op 15 (.pick (tm 11) (tm 14) (.cst (.bool false))), mv 16 15, ⟨some 17, .faddr 0 (tm 1), some (16, true)⟩, ⟨some 18, .load none (tm 17), some (16, true)⟩, ⟨some 19, .faddr 1 (tm 1), some (16, true)⟩, ⟨some 20, .load none (tm 19), some (16, true)⟩, ⟨some 21, .call .pure 92 [(tm 18), (tm 20)], some (16, true)⟩, ⟨some 22, .bin .eql .int (tm 21) (ci (1)), some (16, true)⟩, op 23 (.pick (tm 16) (tm 22) (.cst (.bool false))), mv 2 23] [2] none)
 (.ret))

def a87 : AFunc := ⟨1, c87, [.tmp 2]⟩

def an87 : List RAnn := [
 { id := 0, live := [1] },
 { id := 1, live := [2] }]

theorem comp87 : compF Try.prog an87 Try.f87 = some a87 := by kernel_rfl

/- graphdb/value.valid$1 -/
def c89 : ACode :=
 .seq (.region none [] [
 op 2 (.mov (.cst (.bool false)))] [0] none)
 (.seq (.region none [] [
 mv 3 0, op 4 (.bin .lss .int (tm 3) (.cst (.int .i32 32))), mv 5 4, mg 6 0 5 false, ⟨some 7, .bin .gtr .int (tm 6) (.cst (.int .i32 126)), some (5, false)⟩, op 8 (.pick (tm 5) (.cst (.bool true)) (tm 7)), mv 2 8] [2] none)
 (.ret))

def a89 : AFunc := ⟨1, c89, [.tmp 2]⟩

def an89 : List RAnn := [
 { id := 0, live := [0] },
 { id := 1, live := [2] }]

theorem comp89 : compF Try.prog an89 Try.f89 = some a89 := by kernel_rfl

/- graphdb/value.path -/
/-- loop 0 of function 90 -/
def l90_0_h : List Nat := [15, 16, 17]

def l90_0_b : ACode :=
 .seq (.region none [] [
 op 18 (.bin .lss .int (tm 17) (tm 16))] [15, 16, 17, 18] none)
 (.seq (.cond (tm 18) (.skip)
 (.exit 0))
 (.seq (.block 1 (.seq (.region none [] [
 mv 19 17, op 20 (.iaddr 5 (tm 15) (tm 17)), op 21 (.load (some 5) (tm 20)), op 4 (.alloc 5 (.agg [.int .i64 0, .int .i64 0, .int .i64 0, .str [], .sl false []])), mv 3 19, ⟨none, .store 5 (tm 4) (tm 21), none⟩] [3, 4, 15, 16, 17] none)
 (.seq (.region none [] [
 op 22 (.lit false 1 (.int .i64 0) 2 [(0, (ci (5))), (1, (ci (6)))]), mv 23 3, op 24 (.bin .rem .int (tm 23) (ci (2))), op 25 (.iaddr 1 (tm 22) (tm 24)), op 26 (.load none (tm 25)), mv 5 26] [4, 5, 15, 16, 17] none)
 (.seq (.region none [] [
 op 27 (.faddr 0 (tm 4)), op 28 (.load none (tm 27)), mv 29 5, op 30 (.bin .neq .int (tm 28) (tm 29)), mv 31 30, ⟨some 32, .load (some 5) (tm 4), some (31, false)⟩, ⟨some 33, .call .pure 80 [(tm 32), (ci (0))], some (31, false)⟩, ⟨some 34, .un .not (tm 33), some (31, false)⟩, op 35 (.pick (tm 31) (.cst (.bool true)) (tm 34))] [15, 16, 17, 35] none)
 (.cond (tm 35) (.seq (.region none [] [
 op 2 (.mov (.cst (.bool false)))] [2] none)
 (.ret))
 (.skip))))))
 (.region none [] [
 op 36 (.bin .add .int (tm 17) (ci (1))), mv 17 36] [15, 16, 17] none)))

def c90 : ACode :=
 .seq (.region none [] [
 op 2 (.mov (.cst (.bool false)))] [0] none)
 (.seq (.seq (.region none [] [
 mv 6 0, op 7 (.len .slice (tm 6)), op 8 (.bin .rem .int (tm 7) (ci (2))), op 9 (.bin .eql .int (tm 8) (ci (0))), mv 10 9, mg 11 0 10 false, ⟨some 12, .len .slice (tm 11), some (10, false)⟩, ⟨some 13, .bin .gtr .int (tm 12) (ci (25)), some (10, false)⟩, op 14 (.pick (tm 10) (.cst (.bool true)) (tm 13))] [0, 14] none)
 (.cond (tm 14) (.seq (.region none [] [
 op 2 (.mov (.cst (.bool false)))] [2] none)
 (.ret))
 (.skip)))
 (.seq (.seq (.region none [] [
 mv 15 0, op 16 (.len .slice (tm 15)), op 17 (.mov (ci (0)))] [15, 16, 17] none)
 (.block 0 (.loop l90_0_h l90_0_b)))
 (.seq (.region none [] [
 op 2 (.mov (.cst (.bool true)))] [2] none)
 (.ret))))

def a90 : AFunc := ⟨1, c90, [.tmp 2]⟩

def an90 : List RAnn := [
 { id := 0, live := [0] },
 { id := 1, live := [0, 14] },
 { id := 2, live := [2] },
 { id := 3, live := [15, 16, 17] },
 { id := 4, live := [15, 16, 17, 18], hdr := [15, 16, 17] },
 { id := 5, live := [3, 4, 15, 16, 17] },
 { id := 6, live := [4, 5, 15, 16, 17] },
 { id := 7, live := [15, 16, 17, 35] },
 { id := 8, live := [2] },
 { id := 9, live := [15, 16, 17] },
 { id := 10, live := [2] }]

theorem comp90 : compF Try.prog an90 Try.f90 = some a90 := by kernel_rfl

/- slices.order2Ordered[string] -/
def c91 : ACode :=
 .seq (.region none [] [
 op 8 (.mov (ci (0))), op 9 (.mov (ci (0)))] [0, 1, 2, 3] none)
 (.seq (.seq (.region (some 9) [] [
 mv 10 0, mv 11 2, op 12 (.iaddr 1 (tm 10) (tm 11)), op 13 (.load none (tm 12)), mv 14 0, mv 15 1, op 16 (.iaddr 1 (tm 14) (tm 15)), op 17 (.load none (tm 16)), op 18 (.call .pure 72 [(tm 13), (tm 17)])] [1, 2, 3, 18] none)
 (.cond (tm 18) (.seq (.region none [] [
 mv 19 3, op 20 (.nilchk (tm 19)), op 21 (.load none (tm 20)), op 22 (.bin .add .int (tm 21) (ci (1))), op 23 (.nilchk (tm 19)), ⟨none, .store 1 (tm 23) (tm 22), none⟩] [1, 2] none)
 (.seq (.region none [] [
 mv 24 2, mv 25 1, mv 8 24, mv 9 25] [8, 9] none)
 (.ret)))
 (.skip)))
 (.seq (.region none [] [
 mv 26 1, mv 27 2, mv 8 26, mv 9 27] [8, 9] none)
 (.ret)))

def a91 : AFunc := ⟨4, c91, [.tmp 8, .tmp 9]⟩

def an91 : List RAnn := [
 { id := 0, live := [0, 1, 2, 3] },
 { id := 1, head := some 9, live := [1, 2, 3, 18] },
 { id := 2, live := [1, 2] },
 { id := 3, live := [8, 9] },
 { id := 4, live := [8, 9] }]

theorem comp91 : compF Try.prog an91 Try.f91 = some a91 := by kernel_rfl

/- graphdb/num.Gcd -/
/-- loop 0 of function 92 -/
def l92_0_h : List Nat := [0, 1]

def l92_0_b : ACode :=
 .seq (.seq (.region none [] [
 mv 17 1, op 18 (.bin .neq .int (tm 17) (ci (0)))] [0, 1, 18] none)
 (.cond (tm 18) (.skip)
 (.exit 0)))
 (.block 1 (.region (some 6) [] [
 mv 19 1, mv 20 0, mv 21 1, op 22 (.bin .rem .int (tm 20) (tm 21)), mv 0 19, mv 1 22] [0, 1] none))

def c92 : ACode :=
 .seq (.region none [] [
 op 4 (.mov (ci (0)))] [0, 1] none)
 (.seq (.seq (.region none [] [
 mv 5 0, op 6 (.call .pure 86 [(tm 5)]), op 7 (.un .not (tm 6)), mv 8 7, mg 9 1 8 false, ⟨some 10, .call .pure 86 [(tm 9)], some (8, false)⟩, ⟨some 11, .un .not (tm 10), some (8, false)⟩, op 12 (.pick (tm 8) (.cst (.bool true)) (tm 11))] [0, 1, 12] none)
 (.cond (tm 12) (.seq (.region none [] [
 op 4 (.mov (ci (0)))] [4] none)
 (.ret))
 (.skip)))
 (.seq (.region none [] [
 mv 13 0, op 14 (.call .pure 94 [(tm 13)]), mv 15 1, op 16 (.call .pure 94 [(tm 15)]), mv 0 14, mv 1 16] [0, 1] none)
 (.seq (.block 0 (.loop l92_0_h l92_0_b))
 (.seq (.region none [] [
 mv 23 0, mv 4 23] [4] none)
 (.ret)))))

def a92 : AFunc := ⟨2, c92, [.tmp 4]⟩

def an92 : List RAnn := [
 { id := 0, live := [0, 1] },
 { id := 1, live := [0, 1, 12] },
 { id := 2, live := [4] },
 { id := 3, live := [0, 1] },
 { id := 4, live := [0, 1, 18], hdr := [0, 1] },
 { id := 5, head := some 6, live := [0, 1] },
 { id := 6, live := [4] }]

theorem comp92 : compF Try.prog an92 Try.f92 = some a92 := by kernel_rfl

/- graphdb/num.abs -/
def c94 : ACode :=
 .seq (.region none [] [
 op 2 (.mov (ci (0)))] [0] none)
 (.seq (.region none [] [
 mv 3 0, mv 4 0, op 5 (.un .neg (tm 4)), op 6 (.max (tm 3) (tm 5)), mv 2 6] [2] none)
 (.ret))

def a94 : AFunc := ⟨1, c94, [.tmp 2]⟩

def an94 : List RAnn := [
 { id := 0, live := [0] },
 { id := 1, live := [2] }]

theorem comp94 : compF Try.prog an94 Try.f94 = some a94 := by kernel_rfl

end AI
end Go.Proofs.Ytokdbmakkoleiaa
