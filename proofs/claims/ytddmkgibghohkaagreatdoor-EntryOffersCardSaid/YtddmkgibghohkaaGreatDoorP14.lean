/- The functions of the program in the compact form; the kernel checks each. -/
import Derived.Test.YtddmkgibghohkaaGreatDoorP10
import Derived.Test.YtddmkgibghohkaaGreatDoorProg
import Derived.KernelRfl
import Derived.Test.YtddmkgibghohkaaGreatDoorP11
import Derived.Test.YtddmkgibghohkaaGreatDoorP12
import Derived.Test.YtddmkgibghohkaaGreatDoorP13
import Derived.Test.YtddmkgibghohkaaGreatDoorP8
set_option linter.unusedSimpArgs false
set_option linter.unusedVariables false
namespace Go.Proofs.YtddmkgibghohkaaGreatDoor
open Go Go.Sx Go.Proofs
set_option maxRecDepth 100000
def ir195 : FI := ⟨83, [.tmp 4], (.seq (.reg [o1 4 (.mov (.const (.slice none 0 0)))]) (.seq (.reg [o1 5 (.mov (ci 0))]) (.seq (.seq (.reg [mv 11 1, o1 12 (.len false (.tmp 11)), o1 13 (.mov (ci 0))]) (.blk 0 (.loop (.seq (.reg [o1 14 (.bin .lss 0 (.tmp 13) (.tmp 12))]) (.seq (.cond (.tmp 14) .skip (.exit 0)) (.seq (.blk 1 (.seq (.reg [o1 15 (.ia 1 (.tmp 11) (.tmp 13)), o1 16 (.ld none (.tmp 15)), mv 7 16]) (.seq (.seq (.reg [mv 17 7, o1 18 (.len false (.tmp 17)), mv 19 5, o1 20 (.bin .sub 0 (ci 16777215) (.tmp 19)), o1 21 (.bin .gtr 0 (.tmp 18) (.tmp 20))]) (.cond (.tmp 21) (.seq (.reg [o1 4 (.mov (.const (.slice none 0 0)))]) .ret) .skip)) (.reg [mv 22 5, mv 23 7, o1 24 (.len false (.tmp 23)), o1 25 (.bin .add 0 (.tmp 22) (.tmp 24)), mv 5 25])))) (.reg [o1 26 (.bin .add 0 (.tmp 13) (ci 1)), mv 13 26]))))))) (.seq (.reg [mv 27 5, o1 28 (.bin .add 0 (.tmp 27) (ci 5)), o1 29 (.mks .u8 1 (ci 0) (.tmp 28)), mv 8 29]) (.seq (.reg [mv 30 8, mv 31 0, o1 32 (.bsl .u8 1 1 [(.int .u8 0)] [(0, (.tmp 31))]), o1 33 (.app .u8 1 (.tmp 30) (.tmp 32)), mv 8 33]) (.seq (.blk 2 (.seq (.reg [mv 46 5, o1 47 (.bin .lss 0 (.tmp 46) (ci 128)), mv 45 47]) (.cond (.tmp 45) (.reg [mv 48 8, mv 49 5, o1 50 (.toInt .u8 (.tmp 49)), o1 51 (.bsl .u8 1 1 [(.int .u8 0)] [(0, (.tmp 50))]), o1 52 (.app .u8 1 (.tmp 48) (.tmp 51)), mv 8 52]) (.seq (.reg [mv 54 5, o1 55 (.bin .lss 0 (.tmp 54) (ci 256)), mv 53 55]) (.cond (.tmp 53) (.reg [mv 56 8, mv 57 5, o1 58 (.toInt .u8 (.tmp 57)), o1 59 (.bsl .u8 2 1 [(.int .u8 0), (.int .u8 0)] [(0, (.const (.int .u8 129))), (1, (.tmp 58))]), o1 60 (.app .u8 1 (.tmp 56) (.tmp 59)), mv 8 60]) (.seq (.reg [mv 62 5, o1 63 (.bin .lss 0 (.tmp 62) (ci 65536)), mv 61 63]) (.cond (.tmp 61) (.reg [mv 64 8, mv 65 5, o1 66 (.bin .shr 0 (.tmp 65) (.const (.int .u64 8))), o1 67 (.toInt .u8 (.tmp 66)), mv 68 5, o1 69 (.toInt .u8 (.tmp 68)), o1 70 (.bsl .u8 3 1 [(.int .u8 0), (.int .u8 0), (.int .u8 0)] [(0, (.const (.int .u8 130))), (1, (.tmp 67)), (2, (.tmp 69))]), o1 71 (.app .u8 1 (.tmp 64) (.tmp 70)), mv 8 71]) (.reg [mv 34 8, mv 35 5, o1 36 (.bin .shr 0 (.tmp 35) (.const (.int .u64 16))), o1 37 (.toInt .u8 (.tmp 36)), mv 38 5, o1 39 (.bin .shr 0 (.tmp 38) (.const (.int .u64 8))), o1 40 (.toInt .u8 (.tmp 39)), mv 41 5, o1 42 (.toInt .u8 (.tmp 41)), o1 43 (.bsl .u8 4 1 [(.int .u8 0), (.int .u8 0), (.int .u8 0), (.int .u8 0)] [(0, (.const (.int .u8 131))), (1, (.tmp 37)), (2, (.tmp 40)), (3, (.tmp 42))]), o1 44 (.app .u8 1 (.tmp 34) (.tmp 43)), mv 8 44])))))))) (.seq (.seq (.reg [mv 72 1, o1 73 (.len false (.tmp 72)), o1 74 (.mov (ci 0))]) (.blk 3 (.loop (.seq (.reg [o1 75 (.bin .lss 0 (.tmp 74) (.tmp 73))]) (.seq (.cond (.tmp 75) .skip (.exit 3)) (.seq (.blk 4 (.seq (.reg [o1 76 (.ia 1 (.tmp 72) (.tmp 74)), o1 77 (.ld none (.tmp 76)), mv 10 77]) (.reg [mv 78 8, mv 79 10, o1 80 (.app .u8 1 (.tmp 78) (.tmp 79)), mv 8 80]))) (.reg [o1 81 (.bin .add 0 (.tmp 74) (ci 1)), mv 74 81]))))))) (.seq (.reg [mv 82 8, mv 4 82]) .ret))))))))⟩
theorem fi195 : finfo Tryz.prog 195 = some ir195 := by kernel_rfl
def ir196 : FI := ⟨27, [.tmp 2], (.seq (.reg [o1 2 (.mov (.const (.slice none 0 0)))]) (.seq (.seq (.reg [mv 5 0, o1 6 (.bin .lss 0 (.tmp 5) (.const (.int .i64 (-4611686018427387904)))), mv 7 6, oF 8 (.mov (.tmp 0)) 7, oF 9 (.bin .gtr 0 (.tmp 8) (ci 4611686018427387904)) 7, o1 10 (.pick (.tmp 7) (.const (.bool true)) (.tmp 9))]) (.cond (.tmp 10) (.seq (.reg [o1 2 (.mov (.const (.slice none 0 0)))]) .ret) .skip)) (.seq (.reg [o1 3 (.mov (ci 1))]) (.seq (.seq (.reg [mv 11 0, mv 4 11]) (.blk 0 (.loop (.seq (.seq (.reg [mv 12 4, o1 13 (.bin .lss 0 (.tmp 12) (.const (.int .i64 (-128)))), mv 14 13, oF 15 (.mov (.tmp 4)) 14, oF 16 (.bin .gtr 0 (.tmp 15) (ci 127)) 14, o1 17 (.pick (.tmp 14) (.const (.bool true)) (.tmp 16))]) (.cond (.tmp 17) .skip (.exit 0))) (.seq (.blk 1 (.reg [mv 20 3, o1 21 (.bin .add 0 (.tmp 20) (ci 1)), mv 3 21])) (.reg [mv 18 4, o1 19 (.bin .shr 0 (.tmp 18) (.const (.int .u64 8))), mv 4 19])))))) (.seq (.reg [mv 22 0, mv 23 3, o1 24 (.call (.func 210) [(.tmp 22), (.tmp 23)]), o1 25 (.bsl (.slice .u8) 1 1 [(.slice none 0 0)] [(0, (.tmp 24))]), o1 26 (.call (.func 195) [(.const (.int .u8 2)), (.tmp 25)]), mv 2 26]) .ret)))))⟩
theorem fi196 : finfo Tryz.prog 196 = some ir196 := by kernel_rfl
def ir197 : FI := ⟨7, [.tmp 2], (.seq (.reg [o1 2 (.mov (.const (.slice none 0 0)))]) (.seq (.reg [mv 3 0, o1 4 (.toB (.tmp 3)), o1 5 (.bsl (.slice .u8) 1 1 [(.slice none 0 0)] [(0, (.tmp 4))]), o1 6 (.call (.func 195) [(.const (.int .u8 27)), (.tmp 5)]), mv 2 6]) .ret))⟩
theorem fi197 : finfo Tryz.prog 197 = some ir197 := by kernel_rfl
def ir198 : FI := ⟨9, [.tmp 4], (.seq (.reg [o1 4 (.mov (.const (.pointer none)))]) (.seq (.reg [mv 5 1, o1 6 (.bin .eql 0 (.tmp 5) (ci 0)), o1 7 (.call (.func 140) [(.tmp 6)])]) (.seq (.reg [mv 8 0, mv 4 8]) .ret)))⟩
theorem fi198 : finfo Tryz.prog 198 = some ir198 := by kernel_rfl
def ir199 : FI := ⟨8, [.tmp 2, .tmp 3], (.seq (.reg [o1 2 (.mov (.const (.pointer none))), o1 3 (.mov (ci 0))]) (.seq (.reg [mv 4 0, o1 5 (.call (.func 245) [(.tmp 4), (.const (.int .u8 48)), (.func 246)]), ex 6 0 5, ex 7 1 5, mv 2 6, mv 3 7]) .ret))⟩
theorem fi199 : finfo Tryz.prog 199 = some ir199 := by kernel_rfl
def ir200 : FI := ⟨22, [.tmp 2], (.seq (.reg [o1 2 (.mov (.const (.slice none 0 0)))]) (.seq (.drw [(true, mv 3 0), (true, o1 4 (.nil (.tmp 3))), (true, o1 5 (.fa 0 (.tmp 4))), (true, o1 6 (.ld none (.tmp 5))), (true, mv 7 0), (true, o1 8 (.nil (.tmp 7))), (true, o1 9 (.fa 1 (.tmp 8))), (true, o1 10 (.ld none (.tmp 9))), (true, mv 11 0), (true, o1 12 (.nil (.tmp 11))), (true, o1 13 (.fa 0 (.tmp 12))), (true, o1 14 (.ld none (.tmp 13))), (true, o1 15 (.len false (.tmp 14))), (true, mv 16 0), (true, o1 17 (.nil (.tmp 16))), (true, o1 18 (.fa 0 (.tmp 17))), (true, o1 19 (.ld none (.tmp 18))), (true, o1 20 (.len false (.tmp 19))), (true, o1 21 (.sl3 1 false (.tmp 6) (some (.tmp 10)) (.tmp 15) (.tmp 20))), (true, mv 2 21)]) .ret))⟩
theorem fi200 : finfo Tryz.prog 200 = some ir200 := by kernel_rfl
def ir201 : FI := ⟨31, [.tmp 6], (.seq (.reg [o1 3 (.box 116 (.tmp 0)), o1 6 (.mov (.const (.bool false)))]) (.seq (.reg [o1 12 (.fa 0 (.tmp 3)), o1 13 (.ld none (.tmp 12)), mv 14 1, o1 15 (.call (.func 247) [(.tmp 13), (.tmp 14)]), mv 11 15, ex 16 0 11, ex 17 1 11, ex 18 2 11, mv 7 16, mv 8 17, mv 9 18]) (.seq (.reg [mv 19 9, o1 20 (.bin .eql 0 (.tmp 19) (ci 0)), o1 21 (.call (.func 140) [(.tmp 20)])]) (.seq (.seq (.reg [mv 22 8]) (.cond (.tmp 22) (.seq (.reg [mv 23 7, o1 24 (.bld [(.pointer none)] (.fields [(0, 1)]) [(0, (.tmp 23))]), o1 10 (.new 116 [(.pointer none)]), o0 (.st 1 (.tmp 10) (.tmp 24))]) (.seq (.reg [mv 25 2, o1 26 (.ld (some 1) (.tmp 10)), o1 27 (.call (.tmp 25) [(.tmp 26)])]) (.reg [o1 28 (.ld (some 1) (.tmp 10)), o1 29 (.call (.func 152) [(.tmp 28)])]))) .skip)) (.seq (.reg [mv 30 8, mv 6 30]) .ret)))))⟩
theorem fi201 : finfo Tryz.prog 201 = some ir201 := by kernel_rfl
def ir202 : FI := ⟨54, [.tmp 6, .tmp 7], (.seq (.reg [o1 6 (.mov (ci 0)), o1 7 (.mov (ci 0))]) (.seq (.reg [o1 8 (.mov (ci 0))]) (.seq (.seq (.reg [mv 12 0, o1 13 (.bin .eql 1 (.tmp 12) (.const (.pointer none))), mv 14 13, oF 15 (.mov (.tmp 0)) 14, oF 16 (.nil (.tmp 15)) 14, oF 17 (.fa 2 (.tmp 16)) 14, oF 18 (.ld none (.tmp 17)) 14, oF 19 (.un .not (.tmp 18)) 14, o1 20 (.pick (.tmp 14) (.const (.bool true)) (.tmp 19))]) (.cond (.tmp 20) (.seq (.reg [mv 21 8, mv 6 21, o1 7 (.mov (ci 1))]) .ret) .skip)) (.seq (.reg [mv 22 0, o1 23 (.nil (.tmp 22)), o1 24 (.fa 0 (.tmp 23)), o1 25 (.fa 1 (.tmp 24)), o1 26 (.ld none (.tmp 25)), mv 9 26]) (.seq (.reg [mv 28 0, o1 29 (.nil (.tmp 28)), o1 30 (.fa 0 (.tmp 29)), mv 31 1, o1 32 (.call (.func 248) [(.tmp 30), (.tmp 31)]), mv 27 32, ex 33 0 27, ex 34 1 27, mv 10 33, mv 7 34]) (.seq (.seq (.reg [mv 35 7, o1 36 (.bin .neq 0 (.tmp 35) (ci 0))]) (.cond (.tmp 36) (.seq (.reg [mv 37 8, mv 38 7, mv 6 37, mv 7 38]) .ret) .skip)) (.seq (.reg [mv 40 2, mv 41 10, o1 42 (.call (.tmp 40) [(.tmp 41)]), mv 39 42, ex 43 0 39, ex 44 1 39, mv 6 43, mv 11 44]) (.seq (.seq (.reg [mv 45 11, o1 46 (.un .not (.tmp 45))]) (.cond (.tmp 46) (.seq (.reg [mv 47 0, mv 48 9, o1 49 (.nil (.tmp 47)), o1 50 (.fa 0 (.tmp 49)), o1 51 (.fa 1 (.tmp 50)), o0 (.st 1 (.tmp 51) (.tmp 48))]) (.seq (.reg [mv 52 8, mv 6 52, o1 7 (.mov (ci 6))]) .ret)) .skip)) (.seq (.reg [mv 53 6, mv 6 53, o1 7 (.mov (ci 0))]) .ret)))))))))⟩
theorem fi202 : finfo Tryz.prog 202 = some ir202 := by kernel_rfl
def ir203 : FI := ⟨40, [.tmp 2, .tmp 3], (.seq (.reg [o1 2 (.mov (ci 0)), o1 3 (.mov (.const (.bool false)))]) (.seq (.seq (.reg [mv 7 0, o1 8 (.len false (.tmp 7)), o1 9 (.bin .lss 0 (.tmp 8) (ci 1)), mv 10 9, oF 11 (.mov (.tmp 0)) 10, oF 12 (.len false (.tmp 11)) 10, oF 13 (.bin .gtr 0 (.tmp 12) (ci 8)) 10, o1 14 (.pick (.tmp 10) (.const (.bool true)) (.tmp 13))]) (.cond (.tmp 14) (.seq (.reg [o1 2 (.mov (ci 0)), o1 3 (.mov (.const (.bool false)))]) .ret) .skip)) (.seq (.reg [mv 15 0, o1 16 (.ia 1 (.tmp 15) (ci 0)), o1 17 (.ld none (.tmp 16)), o1 18 (.toInt .i8 (.tmp 17)), o1 19 (.toInt .i64 (.tmp 18)), mv 4 19]) (.seq (.seq (.reg [mv 20 0, o1 21 (.sl (some 1) (.tmp 20) (some (ci 1)) none), o1 22 (.len false (.tmp 21)), o1 23 (.mov (ci 0))]) (.blk 0 (.loop (.seq (.reg [o1 24 (.bin .lss 0 (.tmp 23) (.tmp 22))]) (.seq (.cond (.tmp 24) .skip (.exit 0)) (.seq (.blk 1 (.seq (.reg [o1 25 (.ia 1 (.tmp 21) (.tmp 23)), o1 26 (.ld none (.tmp 25)), mv 6 26]) (.reg [mv 27 4, o1 28 (.bin .shl 0 (.tmp 27) (.const (.int .u64 8))), mv 29 6, o1 30 (.toInt .i64 (.tmp 29)), o1 31 (.bin .or 0 (.tmp 28) (.tmp 30)), mv 4 31]))) (.reg [o1 32 (.bin .add 0 (.tmp 23) (ci 1)), mv 23 32]))))))) (.seq (.reg [mv 33 4, mv 34 4, o1 35 (.call (.func 196) [(.tmp 34)]), mv 36 0, o1 37 (.bsl (.slice .u8) 1 1 [(.slice none 0 0)] [(0, (.tmp 36))]), o1 38 (.call (.func 195) [(.const (.int .u8 2)), (.tmp 37)]), o1 39 (.call (.func 69) [(.tmp 35), (.tmp 38)]), mv 2 33, mv 3 39]) .ret)))))⟩
theorem fi203 : finfo Tryz.prog 203 = some ir203 := by kernel_rfl
def ir204 : FI := ⟨54, [.tmp 6, .tmp 7], (.seq (.reg [o1 6 (.mov (.const (.string ⟨#[]⟩))), o1 7 (.mov (ci 0))]) (.seq (.reg [o1 8 (.mov (.const (.string ⟨#[]⟩)))]) (.seq (.seq (.reg [mv 12 0, o1 13 (.bin .eql 1 (.tmp 12) (.const (.pointer none))), mv 14 13, oF 15 (.mov (.tmp 0)) 14, oF 16 (.nil (.tmp 15)) 14, oF 17 (.fa 2 (.tmp 16)) 14, oF 18 (.ld none (.tmp 17)) 14, oF 19 (.un .not (.tmp 18)) 14, o1 20 (.pick (.tmp 14) (.const (.bool true)) (.tmp 19))]) (.cond (.tmp 20) (.seq (.reg [mv 21 8, mv 6 21, o1 7 (.mov (ci 1))]) .ret) .skip)) (.seq (.reg [mv 22 0, o1 23 (.nil (.tmp 22)), o1 24 (.fa 0 (.tmp 23)), o1 25 (.fa 1 (.tmp 24)), o1 26 (.ld none (.tmp 25)), mv 9 26]) (.seq (.reg [mv 28 0, o1 29 (.nil (.tmp 28)), o1 30 (.fa 0 (.tmp 29)), mv 31 1, o1 32 (.call (.func 248) [(.tmp 30), (.tmp 31)]), mv 27 32, ex 33 0 27, ex 34 1 27, mv 10 33, mv 7 34]) (.seq (.seq (.reg [mv 35 7, o1 36 (.bin .neq 0 (.tmp 35) (ci 0))]) (.cond (.tmp 36) (.seq (.reg [mv 37 8, mv 38 7, mv 6 37, mv 7 38]) .ret) .skip)) (.seq (.reg [mv 40 2, mv 41 10, o1 42 (.call (.tmp 40) [(.tmp 41)]), mv 39 42, ex 43 0 39, ex 44 1 39, mv 6 43, mv 11 44]) (.seq (.seq (.reg [mv 45 11, o1 46 (.un .not (.tmp 45))]) (.cond (.tmp 46) (.seq (.reg [mv 47 0, mv 48 9, o1 49 (.nil (.tmp 47)), o1 50 (.fa 0 (.tmp 49)), o1 51 (.fa 1 (.tmp 50)), o0 (.st 1 (.tmp 51) (.tmp 48))]) (.seq (.reg [mv 52 8, mv 6 52, o1 7 (.mov (ci 6))]) .ret)) .skip)) (.seq (.reg [mv 53 6, mv 6 53, o1 7 (.mov (ci 0))]) .ret)))))))))⟩
theorem fi204 : finfo Tryz.prog 204 = some ir204 := by kernel_rfl
def ir205 : FI := ⟨6, [.tmp 2, .tmp 3], (.seq (.reg [o1 2 (.mov (.const (.string ⟨#[]⟩))), o1 3 (.mov (.const (.bool false)))]) (.seq (.reg [mv 4 0, o1 5 (.toStr true (.tmp 4)), mv 2 5, o1 3 (.mov (.const (.bool true)))]) .ret))⟩
theorem fi205 : finfo Tryz.prog 205 = some ir205 := by kernel_rfl
def ir206 : FI := ⟨7, [.tmp 2], (.seq (.reg [o1 2 (.mov (.const (.pointer none)))]) (.seq (.reg [mv 3 0, o1 4 (.bld [(.slice none 0 0), (.int .i64 0)] (.fields [(0, 1), (1, 1)]) [(0, (.tmp 3)), (1, (ci 0))]), o1 5 (.bld [(.slice none 0 0), (.int .i64 0), (.bool false)] (.fields [(0, 2), (2, 1)]) [(0, (.tmp 4)), (1, (.const (.bool true)))]), o1 6 (.box 215 (.tmp 5)), mv 2 6]) .ret))⟩
theorem fi206 : finfo Tryz.prog 206 = some ir206 := by kernel_rfl
def ir207 : FI := ⟨17, [.tmp 2], (.seq (.reg [o1 2 (.mov (ci 0))]) (.seq (.blk 0 (.seq (.reg [mv 4 0, o1 5 (.bin .eql 1 (.tmp 4) (.const (.pointer none))), mv 6 5, oF 7 (.mov (.tmp 0)) 6, oF 8 (.nil (.tmp 7)) 6, oF 9 (.fa 2 (.tmp 8)) 6, oF 10 (.ld none (.tmp 9)) 6, oF 11 (.un .not (.tmp 10)) 6, o1 12 (.pick (.tmp 6) (.const (.bool true)) (.tmp 11)), mv 3 12]) (.cond (.tmp 3) (.seq (.reg [o1 2 (.mov (ci 1))]) .ret) (.seq (.reg [mv 14 0, o1 15 (.call (.func 139) [(.tmp 14)]), o1 16 (.bin .gtr 0 (.tmp 15) (ci 0)), mv 13 16]) (.cond (.tmp 13) (.seq (.reg [o1 2 (.mov (ci 5))]) .ret) .skip))))) (.seq (.reg [o1 2 (.mov (ci 0))]) .ret)))⟩
theorem fi207 : finfo Tryz.prog 207 = some ir207 := by kernel_rfl
def ir208 : FI := ⟨8, [.tmp 4], (.seq (.reg [o1 4 (.mov (.const (.slice none 0 0)))]) (.seq (.reg [mv 5 0, mv 6 1, o1 7 (.call (.func 249) [(ci 160), (.tmp 5), (.tmp 6)]), mv 4 7]) .ret))⟩
theorem fi208 : finfo Tryz.prog 208 = some ir208 := by kernel_rfl
def ir209 : FI := ⟨32, [.tmp 2, .tmp 3], (.seq (.reg [o1 1 (.box 24 (.tmp 0)), o1 2 (.mov (.const (.slice none 0 0))), o1 3 (.mov (ci 0))]) (.seq (.seq (.reg [o1 7 (.ld (some 2) (.tmp 1)), o1 8 (.call (.func 166) [(.tmp 7)]), o1 9 (.un .not (.tmp 8))]) (.cond (.tmp 9) (.seq (.reg [o1 2 (.mov (.const (.slice none 0 0))), o1 3 (.mov (ci 2))]) .ret) .skip)) (.seq (.reg [o1 4 (.mov (.const (.slice none 0 0)))]) (.seq (.seq (.reg [o1 10 (.fa 0 (.tmp 1)), o1 11 (.ld none (.tmp 10)), o1 12 (.len false (.tmp 11)), o1 13 (.mov (ci 0))]) (.blk 0 (.loop (.seq (.reg [o1 14 (.bin .lss 0 (.tmp 13) (.tmp 12))]) (.seq (.cond (.tmp 14) .skip (.exit 0)) (.seq (.blk 1 (.seq (.reg [o1 15 (.ia 1 (.tmp 11) (.tmp 13)), o1 16 (.ld none (.tmp 15)), mv 6 16]) (.reg [mv 17 4, mv 18 6, o1 19 (.call (.func 197) [(.tmp 18)]), o1 20 (.bsl (.slice .u8) 1 1 [(.slice none 0 0)] [(0, (.tmp 19))]), o1 21 (.app (.slice .u8) 24 (.tmp 17) (.tmp 20)), mv 4 21]))) (.reg [o1 22 (.bin .add 0 (.tmp 13) (ci 1)), mv 13 22]))))))) (.seq (.drw [(true, mv 23 4), (true, o1 26 (.fa 1 (.tmp 1))), (true, o1 27 (.ld none (.tmp 26))), (false, o1 24 (.call (.func 133) [(.tmp 23)])), (false, o1 25 (.call (.func 208) [(ci 0), (.tmp 24)])), (false, o1 28 (.call (.func 197) [(.tmp 27)])), (false, o1 29 (.call (.func 208) [(ci 1), (.tmp 28)])), (false, o1 30 (.bsl (.slice .u8) 2 1 [(.slice none 0 0), (.slice none 0 0)] [(0, (.tmp 25)), (1, (.tmp 29))])), (false, o1 31 (.call (.func 133) [(.tmp 30)])), (true, mv 2 31), (true, o1 3 (.mov (ci 0)))]) .ret)))))⟩
theorem fi209 : finfo Tryz.prog 209 = some ir209 := by kernel_rfl
def ir210 : FI := ⟨27, [.tmp 4], (.seq (.reg [o1 4 (.mov (.const (.slice none 0 0)))]) (.seq (.reg [mv 7 1, o1 8 (.mks .u8 1 (.tmp 7) (.tmp 7)), mv 5 8]) (.seq (.seq (.reg [mv 9 5, o1 10 (.len false (.tmp 9)), o1 11 (.mov (ci 0))]) (.blk 0 (.loop (.seq (.reg [o1 12 (.bin .lss 0 (.tmp 11) (.tmp 10))]) (.seq (.cond (.tmp 12) .skip (.exit 0)) (.seq (.blk 1 (.seq (.reg [mv 13 11, mv 6 13]) (.reg [mv 14 5, mv 15 1, o1 16 (.bin .sub 0 (.tmp 15) (ci 1)), mv 17 6, o1 18 (.bin .sub 0 (.tmp 16) (.tmp 17)), mv 19 0, mv 20 6, o1 21 (.bin .mul 0 (ci 8) (.tmp 20)), o1 22 (.bin .shr 0 (.tmp 19) (.tmp 21)), o1 23 (.toInt .u8 (.tmp 22)), o1 24 (.ia 1 (.tmp 14) (.tmp 18)), o0 (.st 1 (.tmp 24) (.tmp 23))]))) (.reg [o1 25 (.bin .add 0 (.tmp 11) (ci 1)), mv 11 25]))))))) (.seq (.reg [mv 26 5, mv 4 26]) .ret))))⟩
theorem fi210 : finfo Tryz.prog 210 = some ir210 := by kernel_rfl
def ir211 : FI := ⟨26, [.tmp 4], (.seq (.reg [o1 4 (.mov (.const (.slice none 0 0)))]) (.seq (.seq (.reg [mv 8 0, o1 9 (.len false (.tmp 8)), o1 10 (.bin .eql 0 (.tmp 9) (ci 0))]) (.cond (.tmp 10) (.seq (.reg [o1 4 (.mov (.const (.slice none 0 0)))]) .ret) .skip)) (.seq (.reg [o1 5 (.mov (.const (.slice none 0 0)))]) (.seq (.seq (.reg [mv 11 0, o1 12 (.len false (.tmp 11)), o1 13 (.mov (ci 0))]) (.blk 0 (.loop (.seq (.reg [o1 14 (.bin .lss 0 (.tmp 13) (.tmp 12))]) (.seq (.cond (.tmp 14) .skip (.exit 0)) (.seq (.blk 1 (.seq (.reg [o1 15 (.ia 3 (.tmp 11) (.tmp 13)), o1 16 (.ld (some 3) (.tmp 15)), o1 7 (.new 50 [(.int .i64 0), (.int .i64 0), (.slice none 0 0)]), o0 (.st 3 (.tmp 7) (.tmp 16))]) (.reg [mv 17 5, mv 18 1, o1 19 (.ld (some 3) (.tmp 7)), o1 20 (.call (.tmp 18) [(.tmp 19)]), o1 21 (.bsl (.slice .u8) 1 1 [(.slice none 0 0)] [(0, (.tmp 20))]), o1 22 (.app (.slice .u8) 24 (.tmp 17) (.tmp 21)), mv 5 22]))) (.reg [o1 23 (.bin .add 0 (.tmp 13) (ci 1)), mv 13 23]))))))) (.seq (.reg [mv 24 5, o1 25 (.call (.func 133) [(.tmp 24)]), mv 4 25]) .ret)))))⟩
theorem fi211 : finfo Tryz.prog 211 = some ir211 := by kernel_rfl
def ir212 : FI := ⟨10, [.tmp 2], (.seq (.reg [o1 1 (.box 50 (.tmp 0)), o1 2 (.mov (.const (.slice none 0 0)))]) (.seq (.reg [o1 3 (.fa 0 (.tmp 1)), o1 4 (.ld none (.tmp 3)), o1 5 (.fa 1 (.tmp 1)), o1 6 (.ld none (.tmp 5)), o1 7 (.fa 2 (.tmp 1)), o1 8 (.ld none (.tmp 7)), o1 9 (.call (.func 250) [(.tmp 4), (.tmp 6), (.tmp 8)]), mv 2 9]) .ret))⟩
theorem fi212 : finfo Tryz.prog 212 = some ir212 := by kernel_rfl
def ir213 : FI := ⟨13, [.tmp 2], (.seq (.reg [o1 2 (.mov (.const (.slice none 0 0)))]) (.seq (.seq (.reg [mv 3 0, o1 4 (.bin .lss 0 (.tmp 3) (ci 0)), mv 5 4, oF 6 (.mov (.tmp 0)) 5, oF 7 (.bin .gtr 0 (.tmp 6) (ci 1099511627776)) 5, o1 8 (.pick (.tmp 5) (.const (.bool true)) (.tmp 7))]) (.cond (.tmp 8) (.seq (.reg [o1 2 (.mov (.const (.slice none 0 0)))]) .ret) .skip)) (.seq (.reg [mv 9 0, o1 10 (.call (.func 210) [(.tmp 9), (ci 6)]), o1 11 (.bsl (.slice .u8) 1 1 [(.slice none 0 0)] [(0, (.tmp 10))]), o1 12 (.call (.func 195) [(.const (.int .u8 24)), (.tmp 11)]), mv 2 12]) .ret)))⟩
theorem fi213 : finfo Tryz.prog 213 = some ir213 := by kernel_rfl
def ir214 : FI := ⟨6, [.tmp 2], (.seq (.reg [o1 2 (.mov (.const (.bool false)))]) (.seq (.reg [mv 3 0, o1 4 (.call (.func 251) [(.tmp 3), (.const (.bool false))]), o1 5 (.un .not (.tmp 4)), mv 2 5]) .ret))⟩
theorem fi214 : finfo Tryz.prog 214 = some ir214 := by kernel_rfl
def ir216 : FI := ⟨22, [.tmp 2], (.seq (.reg [o1 2 (.mov (.const (.bool false)))]) (.seq (.seq (.reg [mv 4 0, o1 5 (.len true (.tmp 4)), o1 6 (.mov (ci 0))]) (.blk 0 (.loop (.seq (.reg [o1 7 (.bin .lss 0 (.tmp 6) (.tmp 5))]) (.seq (.cond (.tmp 7) .skip (.exit 0)) (.seq (.blk 1 (.seq (.reg [mv 8 6, mv 3 8]) (.seq (.reg [mv 9 0, mv 10 3, o1 11 (.ixs (.tmp 9) (.tmp 10)), o1 12 (.bin .lss 0 (.tmp 11) (.const (.int .u8 33))), mv 13 12, oF 14 (.mov (.tmp 0)) 13, oF 15 (.mov (.tmp 3)) 13, oF 16 (.ixs (.tmp 14) (.tmp 15)) 13, oF 17 (.bin .gtr 0 (.tmp 16) (.const (.int .u8 126))) 13, o1 18 (.pick (.tmp 13) (.const (.bool true)) (.tmp 17))]) (.cond (.tmp 18) (.seq (.reg [o1 2 (.mov (.const (.bool false)))]) .ret) .skip)))) (.reg [o1 19 (.bin .add 0 (.tmp 6) (ci 1)), mv 6 19]))))))) (.seq (.reg [mv 20 0, o1 21 (.call (.func 252) [(.tmp 20)]), mv 2 21]) .ret)))⟩
theorem fi216 : finfo Tryz.prog 216 = some ir216 := by kernel_rfl
def ir217 : FI := ⟨50, [.tmp 2, .tmp 3], (.seq (.reg [o1 1 (.box 24 (.tmp 0)), o1 2 (.mov (.const (.string ⟨#[]⟩))), o1 3 (.mov (ci 0))]) (.seq (.seq (.reg [o1 8 (.ld (some 2) (.tmp 1)), o1 9 (.call (.func 166) [(.tmp 8)]), o1 10 (.un .not (.tmp 9))]) (.cond (.tmp 10) (.seq (.reg [o1 2 (.mov (.const (.string ⟨#[]⟩))), o1 3 (.mov (ci 2))]) .ret) .skip)) (.seq (.reg [o1 4 (.mov (.const (.slice none 0 0)))]) (.seq (.seq (.reg [o1 11 (.fa 0 (.tmp 1)), o1 12 (.ld none (.tmp 11)), o1 13 (.len false (.tmp 12)), o1 14 (.mov (ci 0))]) (.blk 0 (.loop (.seq (.reg [o1 15 (.bin .lss 0 (.tmp 14) (.tmp 13))]) (.seq (.cond (.tmp 15) .skip (.exit 0)) (.seq (.blk 1 (.seq (.reg [mv 16 14, o1 17 (.ia 1 (.tmp 12) (.tmp 14)), o1 18 (.ld none (.tmp 17)), mv 5 16, mv 6 18]) (.seq (.seq (.reg [mv 19 5, o1 20 (.bin .gtr 0 (.tmp 19) (ci 0))]) (.cond (.tmp 20) (.reg [mv 21 4, o1 22 (.bsl .u8 1 1 [(.int .u8 0)] [(0, (.const (.int .u8 47)))]), o1 23 (.app .u8 1 (.tmp 21) (.tmp 22)), mv 4 23]) .skip)) (.seq (.reg [mv 24 6, o1 25 (.len true (.tmp 24)), o1 26 (.mov (ci 0))]) (.blk 2 (.loop (.seq (.reg [o1 27 (.bin .lss 0 (.tmp 26) (.tmp 25))]) (.seq (.cond (.tmp 27) .skip (.exit 2)) (.seq (.blk 3 (.seq (.reg [mv 28 26, mv 7 28]) (.seq (.seq (.reg [mv 29 6, mv 30 7, o1 31 (.ixs (.tmp 29) (.tmp 30)), o1 32 (.call (.func 254) [(.tmp 31)])]) (.cond (.tmp 32) (.reg [mv 33 4, o1 34 (.bsl .u8 1 1 [(.int .u8 0)] [(0, (.const (.int .u8 92)))]), o1 35 (.app .u8 1 (.tmp 33) (.tmp 34)), mv 4 35]) .skip)) (.reg [mv 36 4, mv 37 6, mv 38 7, o1 39 (.ixs (.tmp 37) (.tmp 38)), o1 40 (.bsl .u8 1 1 [(.int .u8 0)] [(0, (.tmp 39))]), o1 41 (.app .u8 1 (.tmp 36) (.tmp 40)), mv 4 41])))) (.reg [o1 42 (.bin .add 0 (.tmp 26) (ci 1)), mv 26 42])))))))))) (.reg [o1 43 (.bin .add 0 (.tmp 14) (ci 1)), mv 14 43]))))))) (.seq (.reg [mv 44 4, o1 45 (.toStr true (.tmp 44)), o1 46 (.bin .add 0 (.tmp 45) (.const (.string ⟨#[64]⟩))), o1 47 (.fa 1 (.tmp 1)), o1 48 (.ld none (.tmp 47)), o1 49 (.bin .add 0 (.tmp 46) (.tmp 48)), mv 2 49, o1 3 (.mov (ci 0))]) .ret)))))⟩
theorem fi217 : finfo Tryz.prog 217 = some ir217 := by kernel_rfl
def ir221 : FI := ⟨11, [.cell 6 25], (.seq (.reg [o1 3 (.box 116 (.tmp 0)), o1 4 (.box 3 (.tmp 1)), o1 5 (.box 187 (.tmp 2)), o1 6 (.new 25 [(.slice none 0 0)])]) (.seq (.reg [o1 7 (.ld (some 1) (.tmp 3)), o1 8 (.mkf 261 [] [(.tmp 6), (.tmp 4), (.tmp 5)]), o1 9 (.call (.func 137) [(.tmp 7), (.tmp 8)])]) (.seq (.reg [o1 10 (.ld none (.tmp 6)), o0 (.st 1 (.tmp 6) (.tmp 10))]) .ret)))⟩
def ir222 : FI := ⟨54, [.tmp 6, .tmp 7], (.seq (.reg [o1 6 (.mov (.const (.int .u32 0))), o1 7 (.mov (ci 0))]) (.seq (.reg [o1 8 (.mov (.const (.int .u32 0)))]) (.seq (.seq (.reg [mv 12 0, o1 13 (.bin .eql 1 (.tmp 12) (.const (.pointer none))), mv 14 13, oF 15 (.mov (.tmp 0)) 14, oF 16 (.nil (.tmp 15)) 14, oF 17 (.fa 2 (.tmp 16)) 14, oF 18 (.ld none (.tmp 17)) 14, oF 19 (.un .not (.tmp 18)) 14, o1 20 (.pick (.tmp 14) (.const (.bool true)) (.tmp 19))]) (.cond (.tmp 20) (.seq (.reg [mv 21 8, mv 6 21, o1 7 (.mov (ci 1))]) .ret) .skip)) (.seq (.reg [mv 22 0, o1 23 (.nil (.tmp 22)), o1 24 (.fa 0 (.tmp 23)), o1 25 (.fa 1 (.tmp 24)), o1 26 (.ld none (.tmp 25)), mv 9 26]) (.seq (.reg [mv 28 0, o1 29 (.nil (.tmp 28)), o1 30 (.fa 0 (.tmp 29)), mv 31 1, o1 32 (.call (.func 248) [(.tmp 30), (.tmp 31)]), mv 27 32, ex 33 0 27, ex 34 1 27, mv 10 33, mv 7 34]) (.seq (.seq (.reg [mv 35 7, o1 36 (.bin .neq 0 (.tmp 35) (ci 0))]) (.cond (.tmp 36) (.seq (.reg [mv 37 8, mv 38 7, mv 6 37, mv 7 38]) .ret) .skip)) (.seq (.reg [mv 40 2, mv 41 10, o1 42 (.call (.tmp 40) [(.tmp 41)]), mv 39 42, ex 43 0 39, ex 44 1 39, mv 6 43, mv 11 44]) (.seq (.seq (.reg [mv 45 11, o1 46 (.un .not (.tmp 45))]) (.cond (.tmp 46) (.seq (.reg [mv 47 0, mv 48 9, o1 49 (.nil (.tmp 47)), o1 50 (.fa 0 (.tmp 49)), o1 51 (.fa 1 (.tmp 50)), o0 (.st 1 (.tmp 51) (.tmp 48))]) (.seq (.reg [mv 52 8, mv 6 52, o1 7 (.mov (ci 6))]) .ret)) .skip)) (.seq (.reg [mv 53 6, mv 6 53, o1 7 (.mov (ci 0))]) .ret)))))))))⟩
def ir223 : FI := ⟨17, [.tmp 2, .tmp 3], (.seq (.reg [o1 2 (.mov (.const (.int .u32 0))), o1 3 (.mov (.const (.bool false)))]) (.seq (.seq (.reg [mv 4 0, o1 5 (.len false (.tmp 4)), o1 6 (.bin .neq 0 (.tmp 5) (ci 5)), mv 7 6, oF 8 (.mov (.tmp 0)) 7, oF 9 (.ia 1 (.tmp 8) (ci 0)) 7, oF 10 (.ld none (.tmp 9)) 7, oF 11 (.bin .neq 0 (.tmp 10) (.const (.int .u8 0))) 7, o1 12 (.pick (.tmp 7) (.const (.bool true)) (.tmp 11))]) (.cond (.tmp 12) (.seq (.reg [o1 2 (.mov (.const (.int .u32 0))), o1 3 (.mov (.const (.bool false)))]) .ret) .skip)) (.seq (.reg [mv 13 0, o1 14 (.sl (some 1) (.tmp 13) (some (ci 1)) none), o1 15 (.call (.func 224) [(.tmp 14)]), o1 16 (.toInt .u32 (.tmp 15)), mv 2 16, o1 3 (.mov (.const (.bool true)))]) .ret)))⟩
def ir224 : FI := ⟨18, [.tmp 2], (.seq (.reg [o1 2 (.mov (ci 0))]) (.seq (.seq (.reg [mv 5 0, o1 6 (.len false (.tmp 5)), o1 7 (.mov (ci 0))]) (.blk 0 (.loop (.seq (.reg [o1 8 (.bin .lss 0 (.tmp 7) (.tmp 6))]) (.seq (.cond (.tmp 8) .skip (.exit 0)) (.seq (.blk 1 (.seq (.reg [o1 9 (.ia 1 (.tmp 5) (.tmp 7)), o1 10 (.ld none (.tmp 9)), mv 4 10]) (.reg [mv 11 2, o1 12 (.bin .shl 0 (.tmp 11) (.const (.int .u64 8))), mv 13 4, o1 14 (.toInt .i64 (.tmp 13)), o1 15 (.bin .or 0 (.tmp 12) (.tmp 14)), mv 2 15]))) (.reg [o1 16 (.bin .add 0 (.tmp 7) (ci 1)), mv 7 16]))))))) (.seq (.reg [mv 17 2, mv 2 17]) .ret)))⟩
def ir225 : FI := ⟨9, [], (.seq (.reg [o1 2 (.box 116 (.tmp 0))]) (.reg [o1 3 (.fa 0 (.tmp 2)), o1 4 (.ld none (.tmp 3)), o1 5 (.call (.func 145) [(.tmp 4)]), ex 6 0 5, ex 7 1 5, o1 8 (.call (.func 144) [(.tmp 6), (.tmp 7)]), o0 (.st 1 (.tmp 1) (.tmp 8))]))⟩
def ir227 : FI := ⟨11, [.cell 6 28], (.seq (.reg [o1 3 (.box 116 (.tmp 0)), o1 4 (.box 3 (.tmp 1)), o1 5 (.box 192 (.tmp 2)), o1 6 (.new 28 [(.slice none 0 0)])]) (.seq (.reg [o1 7 (.ld (some 1) (.tmp 3)), o1 8 (.mkf 262 [] [(.tmp 6), (.tmp 4), (.tmp 5)]), o1 9 (.call (.func 137) [(.tmp 7), (.tmp 8)])]) (.seq (.reg [o1 10 (.ld none (.tmp 6)), o0 (.st 1 (.tmp 6) (.tmp 10))]) .ret)))⟩
def ir232 : FI := ⟨8, [.tmp 2, .tmp 3], (.seq (.reg [o1 2 (.mov (ci 0)), o1 3 (.mov (ci 0))]) (.seq (.reg [mv 4 0, o1 5 (.call (.func 202) [(.tmp 4), (.const (.int .u8 24)), (.func 267)]), ex 6 0 5, ex 7 1 5, mv 2 6, mv 3 7]) .ret))⟩
def ir233 : FI := ⟨9, [], (.seq (.reg [o1 2 (.box 116 (.tmp 0))]) (.reg [o1 3 (.fa 0 (.tmp 2)), o1 4 (.ld none (.tmp 3)), o1 5 (.call (.func 148) [(.tmp 4)]), ex 6 0 5, ex 7 1 5, o1 8 (.call (.func 147) [(.tmp 6), (.tmp 7)]), o0 (.st 1 (.tmp 1) (.tmp 8))]))⟩
def ir234 : FI := ⟨9, [], (.seq (.reg [o1 2 (.box 116 (.tmp 0))]) (.reg [o1 3 (.fa 0 (.tmp 2)), o1 4 (.ld none (.tmp 3)), o1 5 (.call (.func 232) [(.tmp 4)]), ex 6 0 5, ex 7 1 5, o1 8 (.call (.func 144) [(.tmp 6), (.tmp 7)]), o0 (.st 1 (.tmp 1) (.tmp 8))]))⟩
def ir236 : FI := ⟨11, [.cell 6 29], (.seq (.reg [o1 3 (.box 116 (.tmp 0)), o1 4 (.box 3 (.tmp 1)), o1 5 (.box 195 (.tmp 2)), o1 6 (.new 29 [(.slice none 0 0)])]) (.seq (.reg [o1 7 (.ld (some 1) (.tmp 3)), o1 8 (.mkf 268 [] [(.tmp 6), (.tmp 4), (.tmp 5)]), o1 9 (.call (.func 137) [(.tmp 7), (.tmp 8)])]) (.seq (.reg [o1 10 (.ld none (.tmp 6)), o0 (.st 1 (.tmp 6) (.tmp 10))]) .ret)))⟩
def ir237 : FI := ⟨9, [.tmp 4], (.seq (.reg [o1 4 (.mov (.const (.slice none 0 0)))]) (.seq (.reg [mv 5 1, o1 6 (.bin .eql 0 (.tmp 5) (ci 0)), o1 7 (.call (.func 140) [(.tmp 6)])]) (.seq (.reg [mv 8 0, mv 4 8]) .ret)))⟩
def ir238 : FI := ⟨8, [.tmp 2, .tmp 3], (.seq (.reg [o1 2 (.mov (.const (.slice none 0 0))), o1 3 (.mov (ci 0))]) (.seq (.reg [mv 4 0, o1 5 (.call (.func 269) [(.tmp 4), (.const (.int .u8 4)), (.func 270)]), ex 6 0 5, ex 7 1 5, mv 2 6, mv 3 7]) .ret))⟩
def ir245 : FI := ⟨54, [.tmp 6, .tmp 7], (.seq (.reg [o1 6 (.mov (.const (.pointer none))), o1 7 (.mov (ci 0))]) (.seq (.reg [o1 8 (.mov (.const (.pointer none)))]) (.seq (.seq (.reg [mv 12 0, o1 13 (.bin .eql 1 (.tmp 12) (.const (.pointer none))), mv 14 13, oF 15 (.mov (.tmp 0)) 14, oF 16 (.nil (.tmp 15)) 14, oF 17 (.fa 2 (.tmp 16)) 14, oF 18 (.ld none (.tmp 17)) 14, oF 19 (.un .not (.tmp 18)) 14, o1 20 (.pick (.tmp 14) (.const (.bool true)) (.tmp 19))]) (.cond (.tmp 20) (.seq (.reg [mv 21 8, mv 6 21, o1 7 (.mov (ci 1))]) .ret) .skip)) (.seq (.reg [mv 22 0, o1 23 (.nil (.tmp 22)), o1 24 (.fa 0 (.tmp 23)), o1 25 (.fa 1 (.tmp 24)), o1 26 (.ld none (.tmp 25)), mv 9 26]) (.seq (.reg [mv 28 0, o1 29 (.nil (.tmp 28)), o1 30 (.fa 0 (.tmp 29)), mv 31 1, o1 32 (.call (.func 248) [(.tmp 30), (.tmp 31)]), mv 27 32, ex 33 0 27, ex 34 1 27, mv 10 33, mv 7 34]) (.seq (.seq (.reg [mv 35 7, o1 36 (.bin .neq 0 (.tmp 35) (ci 0))]) (.cond (.tmp 36) (.seq (.reg [mv 37 8, mv 38 7, mv 6 37, mv 7 38]) .ret) .skip)) (.seq (.reg [mv 40 2, mv 41 10, o1 42 (.call (.tmp 40) [(.tmp 41)]), mv 39 42, ex 43 0 39, ex 44 1 39, mv 6 43, mv 11 44]) (.seq (.seq (.reg [mv 45 11, o1 46 (.un .not (.tmp 45))]) (.cond (.tmp 46) (.seq (.reg [mv 47 0, mv 48 9, o1 49 (.nil (.tmp 47)), o1 50 (.fa 0 (.tmp 49)), o1 51 (.fa 1 (.tmp 50)), o0 (.st 1 (.tmp 51) (.tmp 48))]) (.seq (.reg [mv 52 8, mv 6 52, o1 7 (.mov (ci 6))]) .ret)) .skip)) (.seq (.reg [mv 53 6, mv 6 53, o1 7 (.mov (ci 0))]) .ret)))))))))⟩
theorem fi245 : finfo Tryz.prog 245 = some ir245 := by kernel_rfl
def ir246 : FI := ⟨6, [.tmp 2, .tmp 3], (.seq (.reg [o1 2 (.mov (.const (.pointer none))), o1 3 (.mov (.const (.bool false)))]) (.seq (.reg [mv 4 0, o1 5 (.call (.func 206) [(.tmp 4)]), mv 2 5, o1 3 (.mov (.const (.bool true)))]) .ret))⟩
theorem fi246 : finfo Tryz.prog 246 = some ir246 := by kernel_rfl
def ir247 : FI := ⟨51, [.tmp 4, .tmp 5, .tmp 6], (.seq (.reg [o1 4 (.mov (.const (.pointer none))), o1 5 (.mov (.const (.bool false))), o1 6 (.mov (ci 0))]) (.seq (.seq (.reg [mv 8 0, o1 9 (.bin .eql 1 (.tmp 8) (.const (.pointer none))), mv 10 9, oF 11 (.mov (.tmp 0)) 10, oF 12 (.nil (.tmp 11)) 10, oF 13 (.fa 2 (.tmp 12)) 10, oF 14 (.ld none (.tmp 13)) 10, oF 15 (.un .not (.tmp 14)) 10, o1 16 (.pick (.tmp 10) (.const (.bool true)) (.tmp 15))]) (.cond (.tmp 16) (.seq (.reg [o1 4 (.mov (.const (.pointer none))), o1 5 (.mov (.const (.bool false))), o1 6 (.mov (ci 1))]) .ret) .skip)) (.seq (.seq (.reg [mv 17 1, o1 18 (.bin .lss 0 (.tmp 17) (ci 0)), mv 19 18, oF 20 (.mov (.tmp 1)) 19, oF 21 (.bin .gtr 0 (.tmp 20) (ci 30)) 19, o1 22 (.pick (.tmp 19) (.const (.bool true)) (.tmp 21))]) (.cond (.tmp 22) (.seq (.reg [o1 4 (.mov (.const (.pointer none))), o1 5 (.mov (.const (.bool false))), o1 6 (.mov (ci 2))]) .ret) .skip)) (.seq (.seq (.reg [mv 23 0, o1 24 (.nil (.tmp 23)), o1 25 (.fa 0 (.tmp 24)), o1 26 (.call (.func 200) [(.tmp 25)]), mv 7 26]) (.seq (.reg [mv 27 7, o1 28 (.len false (.tmp 27)), o1 29 (.bin .eql 0 (.tmp 28) (ci 0)), mv 30 29, oF 31 (.mov (.tmp 7)) 30, oF 32 (.ia 1 (.tmp 31) (ci 0)) 30, oF 33 (.ld none (.tmp 32)) 30, oF 34 (.mov (.tmp 1)) 30, oF 35 (.bin .add 0 (ci 160) (.tmp 34)) 30, oF 36 (.toInt .u8 (.tmp 35)) 30, oF 37 (.bin .neq 0 (.tmp 33) (.tmp 36)) 30, o1 38 (.pick (.tmp 30) (.const (.bool true)) (.tmp 37))]) (.cond (.tmp 38) (.seq (.reg [o1 4 (.mov (.const (.pointer none))), o1 5 (.mov (.const (.bool false))), o1 6 (.mov (ci 0))]) .ret) .skip))) (.seq (.reg [mv 40 0, mv 41 1, o1 42 (.bin .add 0 (ci 160) (.tmp 41)), o1 43 (.toInt .u8 (.tmp 42)), o1 44 (.call (.func 245) [(.tmp 40), (.tmp 43), (.func 246)]), mv 39 44, ex 45 0 39, ex 46 1 39, mv 4 45, mv 6 46]) (.seq (.reg [mv 47 4, mv 48 6, o1 49 (.bin .eql 0 (.tmp 48) (ci 0)), mv 50 6, mv 4 47, mv 5 49, mv 6 50]) .ret))))))⟩
theorem fi247 : finfo Tryz.prog 247 = some ir247 := by kernel_rfl
def ir248 : FI := ⟨42, [.tmp 4, .tmp 5], (.seq (.reg [o1 4 (.mov (.const (.slice none 0 0))), o1 5 (.mov (ci 0))]) (.seq (.reg [mv 10 0, o1 11 (.call (.func 200) [(.tmp 10)]), mv 6 11]) (.seq (.seq (.reg [mv 12 6, o1 13 (.len false (.tmp 12)), o1 14 (.bin .eql 0 (.tmp 13) (ci 0))]) (.cond (.tmp 14) (.seq (.reg [o1 4 (.mov (.const (.slice none 0 0))), o1 5 (.mov (ci 4))]) .ret) .skip)) (.seq (.seq (.reg [mv 15 6, o1 16 (.ia 1 (.tmp 15) (ci 0)), o1 17 (.ld none (.tmp 16)), mv 18 1, o1 19 (.bin .neq 0 (.tmp 17) (.tmp 18))]) (.cond (.tmp 19) (.seq (.reg [o1 4 (.mov (.const (.slice none 0 0))), o1 5 (.mov (ci 6))]) .ret) .skip)) (.seq (.reg [mv 21 6, o1 22 (.call (.func 276) [(.tmp 21)]), mv 20 22, ex 23 0 20, ex 24 1 20, ex 25 2 20, mv 7 23, mv 8 24, mv 9 25]) (.seq (.seq (.reg [mv 26 9, o1 27 (.bin .neq 0 (.tmp 26) (ci 0))]) (.cond (.tmp 27) (.seq (.reg [mv 28 9, o1 4 (.mov (.const (.slice none 0 0))), mv 5 28]) .ret) .skip)) (.seq (.reg [mv 29 0, o1 30 (.nil (.tmp 29)), o1 31 (.fa 1 (.tmp 30)), o1 32 (.ld none (.tmp 31)), mv 33 8, o1 34 (.bin .add 0 (.tmp 32) (.tmp 33)), o1 35 (.nil (.tmp 29)), o1 36 (.fa 1 (.tmp 35)), o0 (.st 1 (.tmp 36) (.tmp 34))]) (.seq (.reg [mv 37 6, mv 38 7, mv 39 8, mv 40 8, o1 41 (.sl3 1 false (.tmp 37) (some (.tmp 38)) (.tmp 39) (.tmp 40)), mv 4 41, o1 5 (.mov (ci 0))]) .ret))))))))⟩
theorem fi248 : finfo Tryz.prog 248 = some ir248 := by kernel_rfl
def ir249 : FI := ⟨25, [.tmp 6], (.seq (.reg [o1 6 (.mov (.const (.slice none 0 0)))]) (.seq (.seq (.reg [mv 7 1, o1 8 (.bin .lss 0 (.tmp 7) (ci 0)), mv 9 8, oF 10 (.mov (.tmp 1)) 9, oF 11 (.bin .gtr 0 (.tmp 10) (ci 30)) 9, o1 12 (.pick (.tmp 9) (.const (.bool true)) (.tmp 11)), mv 13 12, oF 14 (.mov (.tmp 2)) 13, oF 15 (.len false (.tmp 14)) 13, oF 16 (.bin .eql 0 (.tmp 15) (ci 0)) 13, o1 17 (.pick (.tmp 13) (.const (.bool true)) (.tmp 16))]) (.cond (.tmp 17) (.seq (.reg [o1 6 (.mov (.const (.slice none 0 0)))]) .ret) .skip)) (.seq (.reg [mv 18 0, mv 19 1, o1 20 (.bin .add 0 (.tmp 18) (.tmp 19)), o1 21 (.toInt .u8 (.tmp 20)), mv 22 2, o1 23 (.bsl (.slice .u8) 1 1 [(.slice none 0 0)] [(0, (.tmp 22))]), o1 24 (.call (.func 195) [(.tmp 21), (.tmp 23)]), mv 6 24]) .ret)))⟩
theorem fi249 : finfo Tryz.prog 249 = some ir249 := by kernel_rfl
def ir250 : FI := ⟨15, [.tmp 6], (.seq (.reg [o1 6 (.mov (.const (.slice none 0 0)))]) (.seq (.reg [mv 7 0, o1 8 (.call (.func 196) [(.tmp 7)]), mv 9 1, o1 10 (.call (.func 196) [(.tmp 9)]), mv 11 2, o1 12 (.call (.func 164) [(.tmp 11)]), o1 13 (.bsl (.slice .u8) 3 1 [(.slice none 0 0), (.slice none 0 0), (.slice none 0 0)] [(0, (.tmp 8)), (1, (.tmp 10)), (2, (.tmp 12))]), o1 14 (.call (.func 277) [(.tmp 13)]), mv 6 14]) .ret))⟩
theorem fi250 : finfo Tryz.prog 250 = some ir250 := by kernel_rfl
def ir251 : FI := ⟨9, [.tmp 4], (.seq (.reg [o1 4 (.mov (.const (.bool false)))]) (.seq (.reg [mv 5 0, mv 6 1, o1 7 (.call (.func 278) [(.tmp 5), (.tmp 6)]), o1 8 (.bin .geq 0 (.tmp 7) (ci 0)), mv 4 8]) .ret))⟩
theorem fi251 : finfo Tryz.prog 251 = some ir251 := by kernel_rfl
def ir252 : FI := ⟨11, [.tmp 2], (.seq (.reg [o1 2 (.mov (.const (.bool false)))]) (.seq (.reg [mv 3 0, o1 4 (.len true (.tmp 3)), o1 5 (.bin .geq 0 (.tmp 4) (ci 1)), mv 6 5, oT 7 (.mov (.tmp 0)) 6, oT 8 (.len true (.tmp 7)) 6, oT 9 (.bin .leq 0 (.tmp 8) (ci 32)) 6, o1 10 (.pick (.tmp 6) (.tmp 9) (.const (.bool false))), mv 2 10]) .ret))⟩
theorem fi252 : finfo Tryz.prog 252 = some ir252 := by kernel_rfl
def ir254 : FI := ⟨13, [.tmp 2], (.seq (.reg [o1 2 (.mov (.const (.bool false)))]) (.seq (.reg [mv 3 0, o1 4 (.bin .eql 0 (.tmp 3) (.const (.int .u8 47))), mv 5 4, oF 6 (.mov (.tmp 0)) 5, oF 7 (.bin .eql 0 (.tmp 6) (.const (.int .u8 64))) 5, o1 8 (.pick (.tmp 5) (.const (.bool true)) (.tmp 7)), mv 9 8, oF 10 (.mov (.tmp 0)) 9, oF 11 (.bin .eql 0 (.tmp 10) (.const (.int .u8 92))) 9, o1 12 (.pick (.tmp 9) (.const (.bool true)) (.tmp 11)), mv 2 12]) .ret))⟩
theorem fi254 : finfo Tryz.prog 254 = some ir254 := by kernel_rfl
def ir261 : FI := ⟨20, [], (.seq (.reg [o1 4 (.box 116 (.tmp 0))]) (.blk 0 (.loop (.seq (.seq (.reg [o1 5 (.fa 0 (.tmp 4)), o1 6 (.ld none (.tmp 5)), o1 7 (.call (.func 139) [(.tmp 6)]), o1 8 (.bin .gtr 0 (.tmp 7) (ci 0))]) (.cond (.tmp 8) .skip (.exit 0))) (.blk 1 (.seq (.reg [o1 9 (.ld none (.tmp 1)), o1 10 (.len false (.tmp 9)), o1 11 (.ld none (.tmp 2)), o1 12 (.bin .lss 0 (.tmp 10) (.tmp 11)), o1 13 (.call (.func 140) [(.tmp 12)])]) (.drw [(true, o1 14 (.ld none (.tmp 1))), (true, o1 15 (.ld none (.tmp 3))), (true, o1 16 (.ld (some 1) (.tmp 4))), (false, o1 17 (.call (.tmp 15) [(.tmp 16)])), (false, o1 18 (.bsl (.prod (.slice .str) .str) 1 2 [(.slice none 0 0), (.string ⟨#[]⟩)] [(0, (.tmp 17))])), (false, o1 19 (.app (.prod (.slice .str) .str) 40 (.tmp 14) (.tmp 18))), (false, o0 (.st 1 (.tmp 1) (.tmp 19)))])))))))⟩
def ir262 : FI := ⟨20, [], (.seq (.reg [o1 4 (.box 116 (.tmp 0))]) (.blk 0 (.loop (.seq (.seq (.reg [o1 5 (.fa 0 (.tmp 4)), o1 6 (.ld none (.tmp 5)), o1 7 (.call (.func 139) [(.tmp 6)]), o1 8 (.bin .gtr 0 (.tmp 7) (ci 0))]) (.cond (.tmp 8) .skip (.exit 0))) (.blk 1 (.seq (.reg [o1 9 (.ld none (.tmp 1)), o1 10 (.len false (.tmp 9)), o1 11 (.ld none (.tmp 2)), o1 12 (.bin .lss 0 (.tmp 10) (.tmp 11)), o1 13 (.call (.func 140) [(.tmp 12)])]) (.drw [(true, o1 14 (.ld none (.tmp 1))), (true, o1 15 (.ld none (.tmp 3))), (true, o1 16 (.ld (some 1) (.tmp 4))), (false, o1 17 (.call (.tmp 15) [(.tmp 16)])), (false, o1 18 (.bsl (.prod (.int .i64) (.prod (.slice (.prod (.int .i64) (.prod (.int .i64) (.slice .u8)))) (.prod .str (.prod (.int .i64) (.int .i64))))) 1 5 [(.int .i64 0), (.slice none 0 0), (.string ⟨#[]⟩), (.int .i64 0), (.int .i64 0)] [(0, (.tmp 17))])), (false, o1 19 (.app (.prod (.int .i64) (.prod (.slice (.prod (.int .i64) (.prod (.int .i64) (.slice .u8)))) (.prod .str (.prod (.int .i64) (.int .i64))))) 64 (.tmp 14) (.tmp 18))), (false, o0 (.st 1 (.tmp 1) (.tmp 19)))])))))))⟩
def ir264 : FI := ⟨11, [.cell 6 32], (.seq (.reg [o1 3 (.box 116 (.tmp 0)), o1 4 (.box 3 (.tmp 1)), o1 5 (.box 237 (.tmp 2)), o1 6 (.new 32 [(.slice none 0 0)])]) (.seq (.reg [o1 7 (.ld (some 1) (.tmp 3)), o1 8 (.mkf 280 [] [(.tmp 6), (.tmp 4), (.tmp 5)]), o1 9 (.call (.func 137) [(.tmp 7), (.tmp 8)])]) (.seq (.reg [o1 10 (.ld none (.tmp 6)), o0 (.st 1 (.tmp 6) (.tmp 10))]) .ret)))⟩
def ir267 : FI := ⟨13, [.tmp 2, .tmp 3], (.seq (.reg [o1 2 (.mov (ci 0)), o1 3 (.mov (.const (.bool false)))]) (.seq (.seq (.reg [mv 5 0, o1 6 (.len false (.tmp 5)), o1 7 (.bin .neq 0 (.tmp 6) (ci 6))]) (.cond (.tmp 7) (.seq (.reg [o1 2 (.mov (ci 0)), o1 3 (.mov (.const (.bool false)))]) .ret) .skip)) (.seq (.reg [mv 8 0, o1 9 (.call (.func 224) [(.tmp 8)]), mv 4 9]) (.seq (.reg [mv 10 4, mv 11 4, o1 12 (.bin .leq 0 (.tmp 11) (ci 1099511627776)), mv 2 10, mv 3 12]) .ret))))⟩
def ir268 : FI := ⟨20, [], (.seq (.reg [o1 4 (.box 116 (.tmp 0))]) (.blk 0 (.loop (.seq (.seq (.reg [o1 5 (.fa 0 (.tmp 4)), o1 6 (.ld none (.tmp 5)), o1 7 (.call (.func 139) [(.tmp 6)]), o1 8 (.bin .gtr 0 (.tmp 7) (ci 0))]) (.cond (.tmp 8) .skip (.exit 0))) (.blk 1 (.seq (.reg [o1 9 (.ld none (.tmp 1)), o1 10 (.len false (.tmp 9)), o1 11 (.ld none (.tmp 2)), o1 12 (.bin .lss 0 (.tmp 10) (.tmp 11)), o1 13 (.call (.func 140) [(.tmp 12)])]) (.drw [(true, o1 14 (.ld none (.tmp 1))), (true, o1 15 (.ld none (.tmp 3))), (true, o1 16 (.ld (some 1) (.tmp 4))), (false, o1 17 (.call (.tmp 15) [(.tmp 16)])), (false, o1 18 (.bsl (.slice .u8) 1 1 [(.slice none 0 0)] [(0, (.tmp 17))])), (false, o1 19 (.app (.slice .u8) 24 (.tmp 14) (.tmp 18))), (false, o0 (.st 1 (.tmp 1) (.tmp 19)))])))))))⟩
def ir269 : FI := ⟨54, [.tmp 6, .tmp 7], (.seq (.reg [o1 6 (.mov (.const (.slice none 0 0))), o1 7 (.mov (ci 0))]) (.seq (.reg [o1 8 (.mov (.const (.slice none 0 0)))]) (.seq (.seq (.reg [mv 12 0, o1 13 (.bin .eql 1 (.tmp 12) (.const (.pointer none))), mv 14 13, oF 15 (.mov (.tmp 0)) 14, oF 16 (.nil (.tmp 15)) 14, oF 17 (.fa 2 (.tmp 16)) 14, oF 18 (.ld none (.tmp 17)) 14, oF 19 (.un .not (.tmp 18)) 14, o1 20 (.pick (.tmp 14) (.const (.bool true)) (.tmp 19))]) (.cond (.tmp 20) (.seq (.reg [mv 21 8, mv 6 21, o1 7 (.mov (ci 1))]) .ret) .skip)) (.seq (.reg [mv 22 0, o1 23 (.nil (.tmp 22)), o1 24 (.fa 0 (.tmp 23)), o1 25 (.fa 1 (.tmp 24)), o1 26 (.ld none (.tmp 25)), mv 9 26]) (.seq (.reg [mv 28 0, o1 29 (.nil (.tmp 28)), o1 30 (.fa 0 (.tmp 29)), mv 31 1, o1 32 (.call (.func 248) [(.tmp 30), (.tmp 31)]), mv 27 32, ex 33 0 27, ex 34 1 27, mv 10 33, mv 7 34]) (.seq (.seq (.reg [mv 35 7, o1 36 (.bin .neq 0 (.tmp 35) (ci 0))]) (.cond (.tmp 36) (.seq (.reg [mv 37 8, mv 38 7, mv 6 37, mv 7 38]) .ret) .skip)) (.seq (.reg [mv 40 2, mv 41 10, o1 42 (.call (.tmp 40) [(.tmp 41)]), mv 39 42, ex 43 0 39, ex 44 1 39, mv 6 43, mv 11 44]) (.seq (.seq (.reg [mv 45 11, o1 46 (.un .not (.tmp 45))]) (.cond (.tmp 46) (.seq (.reg [mv 47 0, mv 48 9, o1 49 (.nil (.tmp 47)), o1 50 (.fa 0 (.tmp 49)), o1 51 (.fa 1 (.tmp 50)), o0 (.st 1 (.tmp 51) (.tmp 48))]) (.seq (.reg [mv 52 8, mv 6 52, o1 7 (.mov (ci 6))]) .ret)) .skip)) (.seq (.reg [mv 53 6, mv 6 53, o1 7 (.mov (ci 0))]) .ret)))))))))⟩
def ir270 : FI := ⟨6, [.tmp 2, .tmp 3], (.seq (.reg [o1 2 (.mov (.const (.slice none 0 0))), o1 3 (.mov (.const (.bool false)))]) (.seq (.reg [mv 4 0, o1 5 (.call (.func 194) [(.tmp 4)]), mv 2 5, o1 3 (.mov (.const (.bool true)))]) .ret))⟩
def ir276 : FI := ⟨65, [.tmp 2, .tmp 3, .tmp 4], (.seq (.reg [o1 2 (.mov (ci 0)), o1 3 (.mov (ci 0)), o1 4 (.mov (ci 0))]) (.seq (.seq (.reg [mv 10 0, o1 11 (.len false (.tmp 10)), o1 12 (.bin .lss 0 (.tmp 11) (ci 2))]) (.cond (.tmp 12) (.seq (.reg [o1 2 (.mov (ci 0)), o1 3 (.mov (ci 0)), o1 4 (.mov (ci 4))]) .ret) .skip)) (.seq (.reg [mv 13 0, o1 14 (.ia 1 (.tmp 13) (ci 1)), o1 15 (.ld none (.tmp 14)), o1 16 (.toInt .i64 (.tmp 15)), mv 5 16, o1 2 (.mov (ci 2))]) (.seq (.seq (.reg [mv 17 5, o1 18 (.bin .geq 0 (.tmp 17) (ci 128))]) (.cond (.tmp 18) (.seq (.reg [mv 19 5, o1 20 (.bin .sub 0 (.tmp 19) (ci 128)), mv 6 20]) (.seq (.seq (.reg [mv 21 6, o1 22 (.bin .lss 0 (.tmp 21) (ci 1)), mv 23 22, oF 24 (.mov (.tmp 6)) 23, oF 25 (.bin .gtr 0 (.tmp 24) (ci 3)) 23, o1 26 (.pick (.tmp 23) (.const (.bool true)) (.tmp 25))]) (.cond (.tmp 26) (.seq (.reg [o1 2 (.mov (ci 0)), o1 3 (.mov (ci 0)), o1 4 (.mov (ci 6))]) .ret) .skip)) (.seq (.seq (.reg [mv 27 0, o1 28 (.len false (.tmp 27)), mv 29 6, o1 30 (.bin .add 0 (ci 2) (.tmp 29)), o1 31 (.bin .lss 0 (.tmp 28) (.tmp 30))]) (.cond (.tmp 31) (.seq (.reg [o1 2 (.mov (ci 0)), o1 3 (.mov (ci 0)), o1 4 (.mov (ci 4))]) .ret) .skip)) (.seq (.reg [mv 32 6, o1 33 (.bin .add 0 (ci 2) (.tmp 32)), o1 5 (.mov (ci 0)), mv 2 33]) (.seq (.seq (.reg [mv 34 0, mv 35 2, mv 36 2, o1 37 (.sl3 1 false (.tmp 34) (some (ci 2)) (.tmp 35) (.tmp 36)), o1 38 (.len false (.tmp 37)), o1 39 (.mov (ci 0))]) (.blk 0 (.loop (.seq (.reg [o1 40 (.bin .lss 0 (.tmp 39) (.tmp 38))]) (.seq (.cond (.tmp 40) .skip (.exit 0)) (.seq (.blk 1 (.seq (.reg [o1 41 (.ia 1 (.tmp 37) (.tmp 39)), o1 42 (.ld none (.tmp 41)), mv 8 42]) (.reg [mv 43 5, o1 44 (.bin .shl 0 (.tmp 43) (.const (.int .u64 8))), mv 45 8, o1 46 (.toInt .i64 (.tmp 45)), o1 47 (.bin .or 0 (.tmp 44) (.tmp 46)), mv 5 47]))) (.reg [o1 48 (.bin .add 0 (.tmp 39) (ci 1)), mv 39 48]))))))) (.seq (.reg [o1 49 (.bld [(.int .i64 0), (.int .i64 0), (.int .i64 0), (.int .i64 0)] (.arr 1) [(0, (ci 0)), (1, (ci 128)), (2, (ci 256)), (3, (ci 65536))]), o1 9 (.new 298 [(.int .i64 0), (.int .i64 0), (.int .i64 0), (.int .i64 0)]), o0 (.st 4 (.tmp 9) (.tmp 49))]) (.seq (.reg [mv 50 5, mv 51 6, o1 52 (.iaa 4 1 (.tmp 9) (.tmp 51)), o1 53 (.ld none (.tmp 52)), o1 54 (.bin .lss 0 (.tmp 50) (.tmp 53))]) (.cond (.tmp 54) (.seq (.reg [o1 2 (.mov (ci 0)), o1 3 (.mov (ci 0)), o1 4 (.mov (ci 6))]) .ret) .skip)))))))) .skip)) (.seq (.seq (.reg [mv 55 0, o1 56 (.len false (.tmp 55)), mv 57 2, o1 58 (.bin .sub 0 (.tmp 56) (.tmp 57)), mv 59 5, o1 60 (.bin .lss 0 (.tmp 58) (.tmp 59))]) (.cond (.tmp 60) (.seq (.reg [o1 2 (.mov (ci 0)), o1 3 (.mov (ci 0)), o1 4 (.mov (ci 4))]) .ret) .skip)) (.seq (.reg [mv 61 2, mv 62 2, mv 63 5, o1 64 (.bin .add 0 (.tmp 62) (.tmp 63)), mv 2 61, mv 3 64, o1 4 (.mov (ci 0))]) .ret))))))⟩
theorem fi276 : finfo Tryz.prog 276 = some ir276 := by kernel_rfl
def ir277 : FI := ⟨22, [.tmp 2], (.seq (.reg [o1 2 (.mov (.const (.slice none 0 0)))]) (.seq (.reg [o1 3 (.mov (.const (.slice none 0 0)))]) (.seq (.seq (.reg [mv 6 0, o1 7 (.len false (.tmp 6)), o1 8 (.mov (ci 0))]) (.blk 0 (.loop (.seq (.reg [o1 9 (.bin .lss 0 (.tmp 8) (.tmp 7))]) (.seq (.cond (.tmp 9) .skip (.exit 0)) (.seq (.blk 1 (.seq (.reg [mv 10 8, o1 11 (.ia 1 (.tmp 6) (.tmp 8)), o1 12 (.ld none (.tmp 11)), mv 4 10, mv 5 12]) (.reg [mv 13 3, mv 14 4, mv 15 5, o1 16 (.call (.func 208) [(.tmp 14), (.tmp 15)]), o1 17 (.bsl (.slice .u8) 1 1 [(.slice none 0 0)] [(0, (.tmp 16))]), o1 18 (.app (.slice .u8) 24 (.tmp 13) (.tmp 17)), mv 3 18]))) (.reg [o1 19 (.bin .add 0 (.tmp 8) (ci 1)), mv 8 19]))))))) (.seq (.reg [mv 20 3, o1 21 (.call (.func 296) [(.tmp 20)]), mv 2 21]) .ret))))⟩
theorem fi277 : finfo Tryz.prog 277 = some ir277 := by kernel_rfl
def ir278 : FI := ⟨19, [.tmp 4], (.seq (.reg [o1 4 (.mov (ci 0))]) (.seq (.seq (.reg [mv 6 0, o1 7 (.len false (.tmp 6)), o1 8 (.mov (ci 0))]) (.blk 0 (.loop (.seq (.reg [o1 9 (.bin .lss 0 (.tmp 8) (.tmp 7))]) (.seq (.cond (.tmp 9) .skip (.exit 0)) (.seq (.blk 1 (.seq (.reg [mv 10 8, mv 5 10]) (.seq (.reg [mv 11 1, mv 12 0, mv 13 5, o1 14 (.ia 1 (.tmp 12) (.tmp 13)), o1 15 (.ld none (.tmp 14)), o1 16 (.bin .eql 3 (.tmp 11) (.tmp 15))]) (.cond (.tmp 16) (.seq (.reg [mv 17 5, mv 4 17]) .ret) .skip)))) (.reg [o1 18 (.bin .add 0 (.tmp 8) (ci 1)), mv 8 18]))))))) (.seq (.reg [o1 4 (.mov (.const (.int .i64 (-1))))]) .ret)))⟩
theorem fi278 : finfo Tryz.prog 278 = some ir278 := by kernel_rfl
def ir280 : FI := ⟨20, [], (.seq (.reg [o1 4 (.box 116 (.tmp 0))]) (.blk 0 (.loop (.seq (.seq (.reg [o1 5 (.fa 0 (.tmp 4)), o1 6 (.ld none (.tmp 5)), o1 7 (.call (.func 139) [(.tmp 6)]), o1 8 (.bin .gtr 0 (.tmp 7) (ci 0))]) (.cond (.tmp 8) .skip (.exit 0))) (.blk 1 (.seq (.reg [o1 9 (.ld none (.tmp 1)), o1 10 (.len false (.tmp 9)), o1 11 (.ld none (.tmp 2)), o1 12 (.bin .lss 0 (.tmp 10) (.tmp 11)), o1 13 (.call (.func 140) [(.tmp 12)])]) (.drw [(true, o1 14 (.ld none (.tmp 1))), (true, o1 15 (.ld none (.tmp 3))), (true, o1 16 (.ld (some 1) (.tmp 4))), (false, o1 17 (.call (.tmp 15) [(.tmp 16)])), (false, o1 18 (.bsl (.prod (.int .i64) (.prod (.int .i64) (.slice .u8))) 1 3 [(.int .i64 0), (.int .i64 0), (.slice none 0 0)] [(0, (.tmp 17))])), (false, o1 19 (.app (.prod (.int .i64) (.prod (.int .i64) (.slice .u8))) 40 (.tmp 14) (.tmp 18))), (false, o0 (.st 1 (.tmp 1) (.tmp 19)))])))))))⟩
def ir296 : FI := ⟨17, [.tmp 2], (.seq (.reg [o1 2 (.mov (.const (.slice none 0 0)))]) (.seq (.seq (.reg [mv 5 0, o1 6 (.len false (.tmp 5)), o1 7 (.mov (ci 0))]) (.blk 0 (.loop (.seq (.reg [o1 8 (.bin .lss 0 (.tmp 7) (.tmp 6))]) (.seq (.cond (.tmp 8) .skip (.exit 0)) (.seq (.blk 1 (.seq (.reg [o1 9 (.ia 1 (.tmp 5) (.tmp 7)), o1 10 (.ld none (.tmp 9)), mv 4 10]) (.seq (.reg [mv 11 4, o1 12 (.len false (.tmp 11)), o1 13 (.bin .eql 0 (.tmp 12) (ci 0))]) (.cond (.tmp 13) (.seq (.reg [o1 2 (.mov (.const (.slice none 0 0)))]) .ret) .skip)))) (.reg [o1 14 (.bin .add 0 (.tmp 7) (ci 1)), mv 7 14]))))))) (.seq (.reg [mv 15 0, o1 16 (.call (.func 133) [(.tmp 15)]), mv 2 16]) .ret)))⟩
theorem fi296 : finfo Tryz.prog 296 = some ir296 := by kernel_rfl
attribute [go_sem] ir195 ir196 ir197 ir198 ir199 ir200 ir201 ir202 ir203 ir204 ir205 ir206 ir207 ir208 ir209 ir210 ir211 ir212 ir213 ir214 ir216 ir217 ir221 ir222 ir223 ir224 ir225 ir227 ir232 ir233 ir234 ir236 ir237 ir238 ir245 ir246 ir247 ir248 ir249 ir250 ir251 ir252 ir254 ir261 ir262 ir264 ir267 ir268 ir269 ir270 ir276 ir277 ir278 ir280 ir296
end Go.Proofs.YtddmkgibghohkaaGreatDoor
/- The functions of the program in the compact form. -/
namespace Go.Proofs.YtddmkgibghohkaaGreatDoor
open Go Go.Sx Go.Proofs
theorem mixed : Tryz.prog.follows .mixedOrders = true := by kernel_rfl
end Go.Proofs.YtddmkgibghohkaaGreatDoor
/- The data of the statements: principals, keys, key sets, entries, salts. -/
namespace Go.Proofs.YtddmkgibghohkaaGreatDoor
open Go Go.Sx Go.Proofs
abbrev I64 : Ty := .int .i64
abbrev PrinT : Ty := .prod (.slice .str) .str
abbrev KeyT : Ty := .prod I64 (.prod I64 (.slice .u8))
abbrev SetT : Ty := .prod I64 (.prod (.slice KeyT) (.prod .str (.prod I64 I64)))
abbrev SaltT : Ty := .prod I64 (.prod .str I64)
abbrev EntT : Ty := .prod PrinT (.prod (.slice PrinT) (.prod (.int .u32) (.prod I64 (.prod (.slice SetT) (.prod .str (.prod I64 (.prod I64 (.prod I64 (.prod I64 (.prod I64 (.prod I64 (.prod I64 (.prod (.slice PrinT) (.prod (.slice PrinT) (.slice (.slice .u8))))))))))))))))
abbrev Prin := PrinT.den
abbrev Key := KeyT.den
abbrev KSet := SetT.den
abbrev Salt := SaltT.den
abbrev Ent := EntT.den
abbrev rI (n : Int) : SV := .raw (.int .i64 n)
abbrev rB (b : Bool) : SV := .raw (.bool b)
abbrev rS (s : ByteArray) : SV := .raw (.string s)
end Go.Proofs.YtddmkgibghohkaaGreatDoor
/- Contracts: between, every, ordered. -/
namespace Go.Proofs.YtddmkgibghohkaaGreatDoor
open Go Go.Sx Go.Proofs
set_option maxRecDepth 100000
set_option maxHeartbeats 4000000
set_option linter.unusedSimpArgs false

theorem btw_c (v lo hi : Int) : PC Tryz.prog 89 [rI v, rI lo, rI hi] (rB (decide (lo ≤ v) && decide (v ≤ hi))) := by
  refine pc_of rfl rfl ?_
  refine runE mixed fi89 ?_ <;> try with_reducible exact True.intro
  grind

/-- A function value that tells of each element. -/
def Fits (P : Program) (g : Nat) (ca : List SV) {t : Ty} (arg : t.den → SV) (l : List t.den) (p : t.den → Bool) (H : List SObj) : Prop :=
  ∀ x ∈ l, ∀ G, PCH P g (arg x :: ca) (rB (p x)) (H ++ G)

theorem every_int (l : List (I64).den) (m : Int) (g : Nat) (ca : List SV) (p : (I64).den → Bool) (H : List SObj) (hl : l.length ≤ 1125899906842624)
    (hp : Fits Tryz.prog g ca (t := I64) (fun x => rI x) l p H) :
    PCH Tryz.prog 87 [.isl (I64) l, rI m, .fn g [] ca] (rB (decide ((l.length : Int) ≤ m) && l.all p)) H := by
  refine pch_drop rfl ?_
  refine runE mixed fi87 ?_ <;> try with_reducible exact True.intro
  refine ⟨fun h => ⟨?_, [], by simp⟩, fun h => ?_⟩
  · have : ¬ ((l.length : Int) ≤ m) := by simpa using h
    simp [this]
  have hm : (l.length : Int) ≤ m := by simpa using h
  refine si_loopX (ι := Nat × List SObj) (fun x => [(15, rI x.1)]) (fun x => H ++ x.2) (fun x => l.length - x.1) (fun x => x.1 ≤ l.length ∧ (l.take x.1).all p = true) (0, []) (by simp) (by simp) ?_ ?_
  · (with_reducible refine sxE ?_ <;> try exact True.intro)
  rintro ⟨i, G⟩ ⟨hi, hall⟩
  dsimp only at hi hall
  refine goE mixed ?_ <;> try with_reducible exact True.intro
  refine ⟨fun hlt => ?_, fun hge => ?_⟩
  · have hlt : i < l.length := by simpa using hlt
    refine ⟨⟨by omega, hlt⟩, callI_at (hp _ (getD_mem hlt) G) ?_⟩
    refine goE mixed ?_ <;> try with_reducible exact True.intro
    refine ⟨fun hn => ⟨?_, G, rfl⟩, fun hy => ?_⟩
    · rw [all_of_not hlt (by simpa using hn)]; simp
    · refine ⟨(i + 1, G), ⟨hlt, ?_⟩, by dsimp only; omega, rfl, ?_⟩
      · rw [all_take_succ hlt, hall]; simpa using hy
      · (with_reducible refine sxE ?_ <;> try exact True.intro)
        rw [wrapi (by omega)]; simp
  · refine ⟨?_, G, rfl⟩
    rw [all_of_take (by simpa using hge) hall]
    simp [hm]
theorem every_bytes (l : List (Ty.slice Ty.u8).den) (m : Int) (g : Nat) (ca : List SV) (p : (Ty.slice Ty.u8).den → Bool) (H : List SObj) (hl : l.length ≤ 1125899906842624)
    (hp : Fits Tryz.prog g ca (t := Ty.slice Ty.u8) (fun x => SV.isl Ty.u8 x) l p H) :
    PCH Tryz.prog 94 [.isl (Ty.slice Ty.u8) l, rI m, .fn g [] ca] (rB (decide ((l.length : Int) ≤ m) && l.all p)) H := by
  refine pch_drop rfl ?_
  refine runE mixed fi94 ?_ <;> try with_reducible exact True.intro
  refine ⟨fun h => ⟨?_, [], by simp⟩, fun h => ?_⟩
  · have : ¬ ((l.length : Int) ≤ m) := by simpa using h
    simp [this]
  have hm : (l.length : Int) ≤ m := by simpa using h
  refine si_loopX (ι := Nat × List SObj) (fun x => [(15, rI x.1)]) (fun x => H ++ x.2) (fun x => l.length - x.1) (fun x => x.1 ≤ l.length ∧ (l.take x.1).all p = true) (0, []) (by simp) (by simp) ?_ ?_
  · (with_reducible refine sxE ?_ <;> try exact True.intro)
  rintro ⟨i, G⟩ ⟨hi, hall⟩
  dsimp only at hi hall
  refine goE mixed ?_ <;> try with_reducible exact True.intro
  refine ⟨fun hlt => ?_, fun hge => ?_⟩
  · have hlt : i < l.length := by simpa using hlt
    refine ⟨⟨by omega, hlt⟩, callI_at (hp _ (getD_mem hlt) G) ?_⟩
    refine goE mixed ?_ <;> try with_reducible exact True.intro
    refine ⟨fun hn => ⟨?_, G, rfl⟩, fun hy => ?_⟩
    · rw [all_of_not hlt (by simpa using hn)]; simp
    · refine ⟨(i + 1, G), ⟨hlt, ?_⟩, by dsimp only; omega, rfl, ?_⟩
      · rw [all_take_succ hlt, hall]; simpa using hy
      · (with_reducible refine sxE ?_ <;> try exact True.intro)
        rw [wrapi (by omega)]; simp
  · refine ⟨?_, G, rfl⟩
    rw [all_of_take (by simpa using hge) hall]
    simp [hm]

theorem every_prin (l : List (PrinT).den) (m : Int) (g : Nat) (ca : List SV) (p : (PrinT).den → Bool) (H : List SObj) (hl : l.length ≤ 1125899906842624)
    (hp : Fits Tryz.prog g ca (t := PrinT) (fun x => .agg ((PrinT).cells x)) l p H) :
    PCH Tryz.prog 167 [.isl (PrinT) l, rI m, .fn g [] ca] (rB (decide ((l.length : Int) ≤ m) && l.all p)) H := by
  refine pch_drop rfl ?_
  refine runE mixed fi167 ?_ <;> try with_reducible exact True.intro
  refine ⟨fun h => ⟨?_, [], by simp⟩, fun h => ?_⟩
  · have : ¬ ((l.length : Int) ≤ m) := by simpa using h
    simp [this]
  have hm : (l.length : Int) ≤ m := by simpa using h
  refine si_loopX (ι := Nat × List SObj) (fun x => [(15, rI x.1)]) (fun x => H ++ x.2) (fun x => l.length - x.1) (fun x => x.1 ≤ l.length ∧ (l.take x.1).all p = true) (0, []) (by simp) (by simp) ?_ ?_
  · (with_reducible refine sxE ?_ <;> try exact True.intro)
  rintro ⟨i, G⟩ ⟨hi, hall⟩
  dsimp only at hi hall
  refine goE mixed ?_ <;> try with_reducible exact True.intro
  refine ⟨fun hlt => ?_, fun hge => ?_⟩
  · have hlt : i < l.length := by simpa using hlt
    refine ⟨⟨by omega, hlt⟩, callI_at' (hp _ (getD_mem (d := (PrinT).dflt) hlt) (G ++ _)) (List.append_assoc _ _ _) rfl ?_⟩
    refine goE mixed ?_ <;> try with_reducible exact True.intro
    refine ⟨fun hn => ⟨?_, G ++ _, List.append_assoc _ _ _⟩, fun hy => ?_⟩
    · rw [all_of_not hlt (by simpa using hn)]; simp
    · refine ⟨(i + 1, G ++ _), ⟨hlt, ?_⟩, by dsimp only; omega, List.append_assoc _ _ _, ?_⟩
      · rw [all_take_succ hlt, hall]; simpa using hy
      · (with_reducible refine sxE ?_ <;> try exact True.intro)
        rw [wrapi (by omega)]; simp
  · refine ⟨?_, G, rfl⟩
    rw [all_of_take (by simpa using hge) hall]
    simp [hm]
theorem every_key (l : List (KeyT).den) (m : Int) (g : Nat) (ca : List SV) (p : (KeyT).den → Bool) (H : List SObj) (hl : l.length ≤ 1125899906842624)
    (hp : Fits Tryz.prog g ca (t := KeyT) (fun x => .agg ((KeyT).cells x)) l p H) :
    PCH Tryz.prog 115 [.isl (KeyT) l, rI m, .fn g [] ca] (rB (decide ((l.length : Int) ≤ m) && l.all p)) H := by
  refine pch_drop rfl ?_
  refine runE mixed fi115 ?_ <;> try with_reducible exact True.intro
  refine ⟨fun h => ⟨?_, [], by simp⟩, fun h => ?_⟩
  · have : ¬ ((l.length : Int) ≤ m) := by simpa using h
    simp [this]
  have hm : (l.length : Int) ≤ m := by simpa using h
  refine si_loopX (ι := Nat × List SObj) (fun x => [(15, rI x.1)]) (fun x => H ++ x.2) (fun x => l.length - x.1) (fun x => x.1 ≤ l.length ∧ (l.take x.1).all p = true) (0, []) (by simp) (by simp) ?_ ?_
  · (with_reducible refine sxE ?_ <;> try exact True.intro)
  rintro ⟨i, G⟩ ⟨hi, hall⟩
  dsimp only at hi hall
  refine goE mixed ?_ <;> try with_reducible exact True.intro
  refine ⟨fun hlt => ?_, fun hge => ?_⟩
  · have hlt : i < l.length := by simpa using hlt
    refine ⟨⟨by omega, hlt⟩, callI_at' (hp _ (getD_mem (d := (KeyT).dflt) hlt) (G ++ _)) (List.append_assoc _ _ _) rfl ?_⟩
    refine goE mixed ?_ <;> try with_reducible exact True.intro
    refine ⟨fun hn => ⟨?_, G ++ _, List.append_assoc _ _ _⟩, fun hy => ?_⟩
    · rw [all_of_not hlt (by simpa using hn)]; simp
    · refine ⟨(i + 1, G ++ _), ⟨hlt, ?_⟩, by dsimp only; omega, List.append_assoc _ _ _, ?_⟩
      · rw [all_take_succ hlt, hall]; simpa using hy
      · (with_reducible refine sxE ?_ <;> try exact True.intro)
        rw [wrapi (by omega)]; simp
  · refine ⟨?_, G, rfl⟩
    rw [all_of_take (by simpa using hge) hall]
    simp [hm]
theorem every_kset (l : List (SetT).den) (m : Int) (g : Nat) (ca : List SV) (p : (SetT).den → Bool) (H : List SObj) (hl : l.length ≤ 1125899906842624)
    (hp : Fits Tryz.prog g ca (t := SetT) (fun x => .agg ((SetT).cells x)) l p H) :
    PCH Tryz.prog 169 [.isl (SetT) l, rI m, .fn g [] ca] (rB (decide ((l.length : Int) ≤ m) && l.all p)) H := by
  refine pch_drop rfl ?_
  refine runE mixed fi169 ?_ <;> try with_reducible exact True.intro
  refine ⟨fun h => ⟨?_, [], by simp⟩, fun h => ?_⟩
  · have : ¬ ((l.length : Int) ≤ m) := by simpa using h
    simp [this]
  have hm : (l.length : Int) ≤ m := by simpa using h
  refine si_loopX (ι := Nat × List SObj) (fun x => [(15, rI x.1)]) (fun x => H ++ x.2) (fun x => l.length - x.1) (fun x => x.1 ≤ l.length ∧ (l.take x.1).all p = true) (0, []) (by simp) (by simp) ?_ ?_
  · (with_reducible refine sxE ?_ <;> try exact True.intro)
  rintro ⟨i, G⟩ ⟨hi, hall⟩
  dsimp only at hi hall
  refine goE mixed ?_ <;> try with_reducible exact True.intro
  refine ⟨fun hlt => ?_, fun hge => ?_⟩
  · have hlt : i < l.length := by simpa using hlt
    refine ⟨⟨by omega, hlt⟩, callI_at' (hp _ (getD_mem (d := (SetT).dflt) hlt) (G ++ _)) (List.append_assoc _ _ _) rfl ?_⟩
    refine goE mixed ?_ <;> try with_reducible exact True.intro
    refine ⟨fun hn => ⟨?_, G ++ _, List.append_assoc _ _ _⟩, fun hy => ?_⟩
    · rw [all_of_not hlt (by simpa using hn)]; simp
    · refine ⟨(i + 1, G ++ _), ⟨hlt, ?_⟩, by dsimp only; omega, List.append_assoc _ _ _, ?_⟩
      · rw [all_take_succ hlt, hall]; simpa using hy
      · (with_reducible refine sxE ?_ <;> try exact True.intro)
        rw [wrapi (by omega)]; simp
  · refine ⟨?_, G, rfl⟩
    rw [all_of_take (by simpa using hge) hall]
    simp [hm]
theorem every_salt (l : List (SaltT).den) (m : Int) (g : Nat) (ca : List SV) (p : (SaltT).den → Bool) (H : List SObj) (hl : l.length ≤ 1125899906842624)
    (hp : Fits Tryz.prog g ca (t := SaltT) (fun x => .agg ((SaltT).cells x)) l p H) :
    PCH Tryz.prog 129 [.isl (SaltT) l, rI m, .fn g [] ca] (rB (decide ((l.length : Int) ≤ m) && l.all p)) H := by
  refine pch_drop rfl ?_
  refine runE mixed fi129 ?_ <;> try with_reducible exact True.intro
  refine ⟨fun h => ⟨?_, [], by simp⟩, fun h => ?_⟩
  · have : ¬ ((l.length : Int) ≤ m) := by simpa using h
    simp [this]
  have hm : (l.length : Int) ≤ m := by simpa using h
  refine si_loopX (ι := Nat × List SObj) (fun x => [(15, rI x.1)]) (fun x => H ++ x.2) (fun x => l.length - x.1) (fun x => x.1 ≤ l.length ∧ (l.take x.1).all p = true) (0, []) (by simp) (by simp) ?_ ?_
  · (with_reducible refine sxE ?_ <;> try exact True.intro)
  rintro ⟨i, G⟩ ⟨hi, hall⟩
  dsimp only at hi hall
  refine goE mixed ?_ <;> try with_reducible exact True.intro
  refine ⟨fun hlt => ?_, fun hge => ?_⟩
  · have hlt : i < l.length := by simpa using hlt
    refine ⟨⟨by omega, hlt⟩, callI_at' (hp _ (getD_mem (d := (SaltT).dflt) hlt) (G ++ _)) (List.append_assoc _ _ _) rfl ?_⟩
    refine goE mixed ?_ <;> try with_reducible exact True.intro
    refine ⟨fun hn => ⟨?_, G ++ _, List.append_assoc _ _ _⟩, fun hy => ?_⟩
    · rw [all_of_not hlt (by simpa using hn)]; simp
    · refine ⟨(i + 1, G ++ _), ⟨hlt, ?_⟩, by dsimp only; omega, List.append_assoc _ _ _, ?_⟩
      · rw [all_take_succ hlt, hall]; simpa using hy
      · (with_reducible refine sxE ?_ <;> try exact True.intro)
        rw [wrapi (by omega)]; simp
  · refine ⟨?_, G, rfl⟩
    rw [all_of_take (by simpa using hge) hall]
    simp [hm]
end Go.Proofs.YtddmkgibghohkaaGreatDoor
