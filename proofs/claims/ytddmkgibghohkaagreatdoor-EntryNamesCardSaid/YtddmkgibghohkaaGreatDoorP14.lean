/- The functions of the program in the compact form; the kernel checks each. -/
import Derived.Test.YtddmkgibghohkaaGreatDoorP10
import Derived.Test.YtddmkgibghohkaaGreatDoorProg
import Derived.KernelRfl
import Derived.Test.YtddmkgibghohkaaGreatDoorP11
import Derived.Test.YtddmkgibghohkaaGreatDoorP12
import Derived.Test.YtddmkgibghohkaaGreatDoorP13
import Derived.Test.YtddmkgibghohkaaGreatDoorP8
set_option linter.unusedSimpArgs false
set_option linter.unusedVariables false
set_option linter.unusedSectionVars false
namespace Go.Proofs.YtddmkgibghohkaaGreatDoor
open Go Go.Sx Go.Proofs
set_option maxRecDepth 100000
def ir195 : FI := ⟨83, [.tmp 4], (qR [o1 4 (.mov kS)] (qR [mI 5 0] (.seq (qR [mv 11 1, lN 12 false 11, mI 13 0] (.blk 0 (.loop (qR [bN 14 .lss 0 13 12] (.seq (cE 14 0) (.seq (.blk 1 (qR [iA 15 1 11 13, lD 16 15, mv 7 16] (.seq (qR [mv 17 7, lN 18 false 17, mv 19 5, o1 20 (.bin .sub 0 (ci 16777215) (.tmp 19)), bN 21 .gtr 0 18 20] (.cond (.tmp 21) (qR [o1 4 (.mov kS)] .ret) .skip)) (.reg [mv 22 5, mv 23 7, lN 24 false 23, bN 25 .add 0 22 24, mv 5 25])))) (.reg [aI 26 13, mv 13 26]))))))) (qR [mv 27 5, o1 28 (.bin .add 0 (.tmp 27) (ci 5)), o1 29 (.mks .u8 1 (ci 0) (.tmp 28)), mv 8 29] (qR [mv 30 8, mv 31 0, o1 32 (.bsl .u8 1 1 [(.int .u8 0)] [(0, (.tmp 31))]), o1 33 (.app .u8 1 (.tmp 30) (.tmp 32)), mv 8 33] (.seq (.blk 2 (qR [mv 46 5, o1 47 (.bin .lss 0 (.tmp 46) (ci 128)), mv 45 47] (.cond (.tmp 45) (.reg [mv 48 8, mv 49 5, o1 50 (.toInt .u8 (.tmp 49)), o1 51 (.bsl .u8 1 1 [(.int .u8 0)] [(0, (.tmp 50))]), o1 52 (.app .u8 1 (.tmp 48) (.tmp 51)), mv 8 52]) (qR [mv 54 5, o1 55 (.bin .lss 0 (.tmp 54) (ci 256)), mv 53 55] (.cond (.tmp 53) (.reg [mv 56 8, mv 57 5, o1 58 (.toInt .u8 (.tmp 57)), o1 59 (.bsl .u8 2 1 [(.int .u8 0), (.int .u8 0)] [(0, (.const (.int .u8 129))), (1, (.tmp 58))]), o1 60 (.app .u8 1 (.tmp 56) (.tmp 59)), mv 8 60]) (qR [mv 62 5, o1 63 (.bin .lss 0 (.tmp 62) (ci 65536)), mv 61 63] (.cond (.tmp 61) (.reg [mv 64 8, mv 65 5, o1 66 (.bin .shr 0 (.tmp 65) (.const (.int .u64 8))), o1 67 (.toInt .u8 (.tmp 66)), mv 68 5, o1 69 (.toInt .u8 (.tmp 68)), o1 70 (.bsl .u8 3 1 [(.int .u8 0), (.int .u8 0), (.int .u8 0)] [(0, (.const (.int .u8 130))), (1, (.tmp 67)), (2, (.tmp 69))]), o1 71 (.app .u8 1 (.tmp 64) (.tmp 70)), mv 8 71]) (.reg [mv 34 8, mv 35 5, o1 36 (.bin .shr 0 (.tmp 35) (.const (.int .u64 16))), o1 37 (.toInt .u8 (.tmp 36)), mv 38 5, o1 39 (.bin .shr 0 (.tmp 38) (.const (.int .u64 8))), o1 40 (.toInt .u8 (.tmp 39)), mv 41 5, o1 42 (.toInt .u8 (.tmp 41)), o1 43 (.bsl .u8 4 1 [(.int .u8 0), (.int .u8 0), (.int .u8 0), (.int .u8 0)] [(0, (.const (.int .u8 131))), (1, (.tmp 37)), (2, (.tmp 40)), (3, (.tmp 42))]), o1 44 (.app .u8 1 (.tmp 34) (.tmp 43)), mv 8 44])))))))) (.seq (qR [mv 72 1, lN 73 false 72, mI 74 0] (.blk 3 (.loop (qR [bN 75 .lss 0 74 73] (.seq (cE 75 3) (.seq (.blk 4 (qR [iA 76 1 72 74, lD 77 76, mv 10 77] (.reg [mv 78 8, mv 79 10, o1 80 (.app .u8 1 (.tmp 78) (.tmp 79)), mv 8 80]))) (.reg [aI 81 74, mv 74 81]))))))) (qR [mv 82 8, mv 4 82] .ret))))))))⟩
theorem fi195 : finfo Tryz.prog 195 = some ir195 := by kernel_rfl
def ir196 : FI := ⟨27, [.tmp 2], (qR [o1 2 (.mov kS)] (.seq (qR [mv 5 0, o1 6 (.bin .lss 0 (.tmp 5) (.const (.int .i64 (-4611686018427387904)))), mv 7 6, oF 8 (.mov (.tmp 0)) 7, oF 9 (.bin .gtr 0 (.tmp 8) (ci 4611686018427387904)) 7, pT 10 7 9] (.cond (.tmp 10) (qR [o1 2 (.mov kS)] .ret) .skip)) (qR [mI 3 1] (.seq (qR [mv 11 0, mv 4 11] (.blk 0 (.loop (.seq (qR [mv 12 4, o1 13 (.bin .lss 0 (.tmp 12) (.const (.int .i64 (-128)))), mv 14 13, oF 15 (.mov (.tmp 4)) 14, oF 16 (.bin .gtr 0 (.tmp 15) (ci 127)) 14, pT 17 14 16] (cE 17 0)) (.seq (.blk 1 (.reg [mv 20 3, aI 21 20, mv 3 21])) (.reg [mv 18 4, o1 19 (.bin .shr 0 (.tmp 18) (.const (.int .u64 8))), mv 4 19])))))) (qR [mv 22 0, mv 23 3, c2 24 210 22 23, o1 25 (.bsl (.slice .u8) 1 1 [zs] [(0, (.tmp 24))]), o1 26 (.call (.func 195) [(.const (.int .u8 2)), (.tmp 25)]), mv 2 26] .ret)))))⟩
theorem fi196 : finfo Tryz.prog 196 = some ir196 := by kernel_rfl
def ir197 : FI := ⟨7, [.tmp 2], (qR [o1 2 (.mov kS)] (qR [mv 3 0, o1 4 (.toB (.tmp 3)), o1 5 (.bsl (.slice .u8) 1 1 [zs] [(0, (.tmp 4))]), o1 6 (.call (.func 195) [(.const (.int .u8 27)), (.tmp 5)]), mv 2 6] .ret))⟩
theorem fi197 : finfo Tryz.prog 197 = some ir197 := by kernel_rfl
def ir198 : FI := ⟨9, [.tmp 4], (qR [o1 4 (.mov (.const (.pointer none)))] (qR [mv 5 1, o1 6 (.bin .eql 0 (.tmp 5) (ci 0)), c1 7 140 6] (qR [mv 8 0, mv 4 8] .ret)))⟩
def ir199 : FI := ⟨8, [.tmp 2, .tmp 3], (qR [o1 2 (.mov (.const (.pointer none))), mI 3 0] (qR [mv 4 0, o1 5 (.call (.func 245) [(.tmp 4), (.const (.int .u8 48)), (.func 246)]), ex 6 0 5, ex 7 1 5, mv 2 6, mv 3 7] .ret))⟩
def ir200 : FI := ⟨22, [.tmp 2], (qR [o1 2 (.mov kS)] (.seq (.drw [(true, mv 3 0), (true, o1 4 (.nil (.tmp 3))), (true, fA 5 0 4), (true, lD 6 5), (true, mv 7 0), (true, o1 8 (.nil (.tmp 7))), (true, fA 9 1 8), (true, lD 10 9), (true, mv 11 0), (true, o1 12 (.nil (.tmp 11))), (true, fA 13 0 12), (true, lD 14 13), (true, lN 15 false 14), (true, mv 16 0), (true, o1 17 (.nil (.tmp 16))), (true, fA 18 0 17), (true, lD 19 18), (true, lN 20 false 19), (true, o1 21 (.sl3 1 false (.tmp 6) (some (.tmp 10)) (.tmp 15) (.tmp 20))), (true, mv 2 21)]) .ret))⟩
def ir201 : FI := ⟨31, [.tmp 6], (qR [o1 3 (.box 116 (.tmp 0)), o1 6 (.mov kF)] (qR [fA 12 0 3, lD 13 12, mv 14 1, c2 15 247 13 14, mv 11 15, ex 16 0 11, ex 17 1 11, ex 18 2 11, mv 7 16, mv 8 17, mv 9 18] (qR [mv 19 9, o1 20 (.bin .eql 0 (.tmp 19) (ci 0)), c1 21 140 20] (.seq (qR [mv 22 8] (.cond (.tmp 22) (qR [mv 23 7, o1 24 (.bld [(.pointer none)] (.fields [(0, 1)]) [(0, (.tmp 23))]), o1 10 (.new 116 [(.pointer none)]), sT 1 10 24] (qR [mv 25 2, lG 26 1 10, o1 27 (.call (.tmp 25) [(.tmp 26)])] (.reg [lG 28 1 10, c1 29 152 28]))) .skip)) (qR [mv 30 8, mv 6 30] .ret)))))⟩
def ir202 : FI := ⟨54, [.tmp 6, .tmp 7], (qR [mI 6 0, mI 7 0] (qR [mI 8 0] (.seq (qR [mv 12 0, o1 13 (.bin .eql 1 (.tmp 12) (.const (.pointer none))), mv 14 13, oF 15 (.mov (.tmp 0)) 14, oF 16 (.nil (.tmp 15)) 14, oF 17 (.fa 2 (.tmp 16)) 14, oF 18 (.ld none (.tmp 17)) 14, oF 19 (.un .not (.tmp 18)) 14, pT 20 14 19] (.cond (.tmp 20) (qR [mv 21 8, mv 6 21, mI 7 1] .ret) .skip)) (qR [mv 22 0, o1 23 (.nil (.tmp 22)), fA 24 0 23, fA 25 1 24, lD 26 25, mv 9 26] (qR [mv 28 0, o1 29 (.nil (.tmp 28)), fA 30 0 29, mv 31 1, c2 32 248 30 31, mv 27 32, ex 33 0 27, ex 34 1 27, mv 10 33, mv 7 34] (.seq (qR [mv 35 7, o1 36 (.bin .neq 0 (.tmp 35) (ci 0))] (.cond (.tmp 36) (qR [mv 37 8, mv 38 7, mv 6 37, mv 7 38] .ret) .skip)) (qR [mv 40 2, mv 41 10, o1 42 (.call (.tmp 40) [(.tmp 41)]), mv 39 42, ex 43 0 39, ex 44 1 39, mv 6 43, mv 11 44] (.seq (qR [mv 45 11, nT 46 45] (.cond (.tmp 46) (qR [mv 47 0, mv 48 9, o1 49 (.nil (.tmp 47)), fA 50 0 49, fA 51 1 50, sT 1 51 48] (qR [mv 52 8, mv 6 52, mI 7 6] .ret)) .skip)) (qR [mv 53 6, mv 6 53, mI 7 0] .ret)))))))))⟩
def ir203 : FI := ⟨40, [.tmp 2, .tmp 3], (qR [mI 2 0, o1 3 (.mov kF)] (.seq (qR [mv 7 0, lN 8 false 7, o1 9 (.bin .lss 0 (.tmp 8) (ci 1)), mv 10 9, oF 11 (.mov (.tmp 0)) 10, oF 12 (.len false (.tmp 11)) 10, oF 13 (.bin .gtr 0 (.tmp 12) (ci 8)) 10, pT 14 10 13] (.cond (.tmp 14) (qR [mI 2 0, o1 3 (.mov kF)] .ret) .skip)) (qR [mv 15 0, o1 16 (.ia 1 (.tmp 15) (ci 0)), lD 17 16, o1 18 (.toInt .i8 (.tmp 17)), o1 19 (.toInt .i64 (.tmp 18)), mv 4 19] (.seq (qR [mv 20 0, o1 21 (.sl (some 1) (.tmp 20) (some (ci 1)) none), lN 22 false 21, mI 23 0] (.blk 0 (.loop (qR [bN 24 .lss 0 23 22] (.seq (cE 24 0) (.seq (.blk 1 (qR [iA 25 1 21 23, lD 26 25, mv 6 26] (.reg [mv 27 4, o1 28 (.bin .shl 0 (.tmp 27) (.const (.int .u64 8))), mv 29 6, o1 30 (.toInt .i64 (.tmp 29)), bN 31 .or 0 28 30, mv 4 31]))) (.reg [aI 32 23, mv 23 32]))))))) (qR [mv 33 4, mv 34 4, c1 35 196 34, mv 36 0, o1 37 (.bsl (.slice .u8) 1 1 [zs] [(0, (.tmp 36))]), o1 38 (.call (.func 195) [(.const (.int .u8 2)), (.tmp 37)]), c2 39 69 35 38, mv 2 33, mv 3 39] .ret)))))⟩
def ir204 : FI := ⟨54, [.tmp 6, .tmp 7], (qR [o1 6 (.mov kE), mI 7 0] (qR [o1 8 (.mov kE)] (.seq (qR [mv 12 0, o1 13 (.bin .eql 1 (.tmp 12) (.const (.pointer none))), mv 14 13, oF 15 (.mov (.tmp 0)) 14, oF 16 (.nil (.tmp 15)) 14, oF 17 (.fa 2 (.tmp 16)) 14, oF 18 (.ld none (.tmp 17)) 14, oF 19 (.un .not (.tmp 18)) 14, pT 20 14 19] (.cond (.tmp 20) (qR [mv 21 8, mv 6 21, mI 7 1] .ret) .skip)) (qR [mv 22 0, o1 23 (.nil (.tmp 22)), fA 24 0 23, fA 25 1 24, lD 26 25, mv 9 26] (qR [mv 28 0, o1 29 (.nil (.tmp 28)), fA 30 0 29, mv 31 1, c2 32 248 30 31, mv 27 32, ex 33 0 27, ex 34 1 27, mv 10 33, mv 7 34] (.seq (qR [mv 35 7, o1 36 (.bin .neq 0 (.tmp 35) (ci 0))] (.cond (.tmp 36) (qR [mv 37 8, mv 38 7, mv 6 37, mv 7 38] .ret) .skip)) (qR [mv 40 2, mv 41 10, o1 42 (.call (.tmp 40) [(.tmp 41)]), mv 39 42, ex 43 0 39, ex 44 1 39, mv 6 43, mv 11 44] (.seq (qR [mv 45 11, nT 46 45] (.cond (.tmp 46) (qR [mv 47 0, mv 48 9, o1 49 (.nil (.tmp 47)), fA 50 0 49, fA 51 1 50, sT 1 51 48] (qR [mv 52 8, mv 6 52, mI 7 6] .ret)) .skip)) (qR [mv 53 6, mv 6 53, mI 7 0] .ret)))))))))⟩
def ir205 : FI := ⟨6, [.tmp 2, .tmp 3], (qR [o1 2 (.mov kE), o1 3 (.mov kF)] (qR [mv 4 0, tS 5 4, mv 2 5, o1 3 (.mov kT)] .ret))⟩
def ir206 : FI := ⟨7, [.tmp 2], (qR [o1 2 (.mov (.const (.pointer none)))] (qR [mv 3 0, o1 4 (.bld [zs, zi] (.fields [(0, 1), (1, 1)]) [(0, (.tmp 3)), (1, (ci 0))]), o1 5 (.bld [zs, zi, (.bool false)] (.fields [(0, 2), (2, 1)]) [(0, (.tmp 4)), (1, kT)]), o1 6 (.box 215 (.tmp 5)), mv 2 6] .ret))⟩
def ir207 : FI := ⟨17, [.tmp 2], (qR [mI 2 0] (.seq (.blk 0 (qR [mv 4 0, o1 5 (.bin .eql 1 (.tmp 4) (.const (.pointer none))), mv 6 5, oF 7 (.mov (.tmp 0)) 6, oF 8 (.nil (.tmp 7)) 6, oF 9 (.fa 2 (.tmp 8)) 6, oF 10 (.ld none (.tmp 9)) 6, oF 11 (.un .not (.tmp 10)) 6, pT 12 6 11, mv 3 12] (.cond (.tmp 3) (qR [mI 2 1] .ret) (qR [mv 14 0, c1 15 139 14, o1 16 (.bin .gtr 0 (.tmp 15) (ci 0)), mv 13 16] (.cond (.tmp 13) (qR [mI 2 5] .ret) .skip))))) (qR [mI 2 0] .ret)))⟩
def ir208 : FI := ⟨8, [.tmp 4], (qR [o1 4 (.mov kS)] (qR [mv 5 0, mv 6 1, o1 7 (.call (.func 249) [(ci 160), (.tmp 5), (.tmp 6)]), mv 4 7] .ret))⟩
theorem fi208 : finfo Tryz.prog 208 = some ir208 := by kernel_rfl
def ir209 : FI := ⟨32, [.tmp 2, .tmp 3], (qR [o1 1 (.box 24 (.tmp 0)), o1 2 (.mov kS), mI 3 0] (.seq (qR [lG 7 2 1, c1 8 166 7, nT 9 8] (.cond (.tmp 9) (qR [o1 2 (.mov kS), mI 3 2] .ret) .skip)) (qR [o1 4 (.mov kS)] (.seq (qR [fA 10 0 1, lD 11 10, lN 12 false 11, mI 13 0] (.blk 0 (.loop (qR [bN 14 .lss 0 13 12] (.seq (cE 14 0) (.seq (.blk 1 (qR [iA 15 1 11 13, lD 16 15, mv 6 16] (.reg [mv 17 4, mv 18 6, c1 19 197 18, o1 20 (.bsl (.slice .u8) 1 1 [zs] [(0, (.tmp 19))]), o1 21 (.app (.slice .u8) 24 (.tmp 17) (.tmp 20)), mv 4 21]))) (.reg [aI 22 13, mv 13 22]))))))) (.seq (.drw [(true, mv 23 4), (true, fA 26 1 1), (true, lD 27 26), (false, c1 24 133 23), (false, o1 25 (.call (.func 208) [(ci 0), (.tmp 24)])), (false, c1 28 197 27), (false, o1 29 (.call (.func 208) [(ci 1), (.tmp 28)])), (false, o1 30 (.bsl (.slice .u8) 2 1 [zs, zs] [(0, (.tmp 25)), (1, (.tmp 29))])), (false, c1 31 133 30), (true, mv 2 31), (true, mI 3 0)]) .ret)))))⟩
theorem fi209 : finfo Tryz.prog 209 = some ir209 := by kernel_rfl
def ir210 : FI := ⟨27, [.tmp 4], (qR [o1 4 (.mov kS)] (qR [mv 7 1, o1 8 (.mks .u8 1 (.tmp 7) (.tmp 7)), mv 5 8] (.seq (qR [mv 9 5, lN 10 false 9, mI 11 0] (.blk 0 (.loop (qR [bN 12 .lss 0 11 10] (.seq (cE 12 0) (.seq (.blk 1 (qR [mv 13 11, mv 6 13] (.reg [mv 14 5, mv 15 1, o1 16 (.bin .sub 0 (.tmp 15) (ci 1)), mv 17 6, bN 18 .sub 0 16 17, mv 19 0, mv 20 6, o1 21 (.bin .mul 0 (ci 8) (.tmp 20)), bN 22 .shr 0 19 21, o1 23 (.toInt .u8 (.tmp 22)), iA 24 1 14 18, sT 1 24 23]))) (.reg [aI 25 11, mv 11 25]))))))) (qR [mv 26 5, mv 4 26] .ret))))⟩
theorem fi210 : finfo Tryz.prog 210 = some ir210 := by kernel_rfl
def ir211 : FI := ⟨26, [.tmp 4], (qR [o1 4 (.mov kS)] (.seq (qR [mv 8 0, lN 9 false 8, o1 10 (.bin .eql 0 (.tmp 9) (ci 0))] (.cond (.tmp 10) (qR [o1 4 (.mov kS)] .ret) .skip)) (qR [o1 5 (.mov kS)] (.seq (qR [mv 11 0, lN 12 false 11, mI 13 0] (.blk 0 (.loop (qR [bN 14 .lss 0 13 12] (.seq (cE 14 0) (.seq (.blk 1 (qR [iA 15 3 11 13, lG 16 3 15, o1 7 (.new 50 [zi, zi, zs]), sT 3 7 16] (.reg [mv 17 5, mv 18 1, lG 19 3 7, o1 20 (.call (.tmp 18) [(.tmp 19)]), o1 21 (.bsl (.slice .u8) 1 1 [zs] [(0, (.tmp 20))]), o1 22 (.app (.slice .u8) 24 (.tmp 17) (.tmp 21)), mv 5 22]))) (.reg [aI 23 13, mv 13 23]))))))) (qR [mv 24 5, c1 25 133 24, mv 4 25] .ret)))))⟩
theorem fi211 : finfo Tryz.prog 211 = some ir211 := by kernel_rfl
def ir212 : FI := ⟨10, [.tmp 2], (qR [o1 1 (.box 50 (.tmp 0)), o1 2 (.mov kS)] (qR [fA 3 0 1, lD 4 3, fA 5 1 1, lD 6 5, fA 7 2 1, lD 8 7, c3 9 250 4 6 8, mv 2 9] .ret))⟩
theorem fi212 : finfo Tryz.prog 212 = some ir212 := by kernel_rfl
def ir213 : FI := ⟨13, [.tmp 2], (qR [o1 2 (.mov kS)] (.seq (qR [mv 3 0, o1 4 (.bin .lss 0 (.tmp 3) (ci 0)), mv 5 4, oF 6 (.mov (.tmp 0)) 5, oF 7 (.bin .gtr 0 (.tmp 6) (ci 1099511627776)) 5, pT 8 5 7] (.cond (.tmp 8) (qR [o1 2 (.mov kS)] .ret) .skip)) (qR [mv 9 0, o1 10 (.call (.func 210) [(.tmp 9), (ci 6)]), o1 11 (.bsl (.slice .u8) 1 1 [zs] [(0, (.tmp 10))]), o1 12 (.call (.func 195) [(.const (.int .u8 24)), (.tmp 11)]), mv 2 12] .ret)))⟩
theorem fi213 : finfo Tryz.prog 213 = some ir213 := by kernel_rfl
def ir214 : FI := ⟨6, [.tmp 2], (qR [o1 2 (.mov kF)] (qR [mv 3 0, o1 4 (.call (.func 251) [(.tmp 3), kF]), nT 5 4, mv 2 5] .ret))⟩
theorem fi214 : finfo Tryz.prog 214 = some ir214 := by kernel_rfl
def ir216 : FI := ⟨22, [.tmp 2], (qR [o1 2 (.mov kF)] (.seq (qR [mv 4 0, lN 5 true 4, mI 6 0] (.blk 0 (.loop (qR [bN 7 .lss 0 6 5] (.seq (cE 7 0) (.seq (.blk 1 (qR [mv 8 6, mv 3 8] (qR [mv 9 0, mv 10 3, o1 11 (.ixs (.tmp 9) (.tmp 10)), o1 12 (.bin .lss 0 (.tmp 11) (.const (.int .u8 33))), mv 13 12, oF 14 (.mov (.tmp 0)) 13, oF 15 (.mov (.tmp 3)) 13, oF 16 (.ixs (.tmp 14) (.tmp 15)) 13, oF 17 (.bin .gtr 0 (.tmp 16) (.const (.int .u8 126))) 13, pT 18 13 17] (.cond (.tmp 18) (qR [o1 2 (.mov kF)] .ret) .skip)))) (.reg [aI 19 6, mv 6 19]))))))) (qR [mv 20 0, c1 21 252 20, mv 2 21] .ret)))⟩
theorem fi216 : finfo Tryz.prog 216 = some ir216 := by kernel_rfl
def ir217 : FI := ⟨50, [.tmp 2, .tmp 3], (qR [o1 1 (.box 24 (.tmp 0)), o1 2 (.mov kE), mI 3 0] (.seq (qR [lG 8 2 1, c1 9 166 8, nT 10 9] (.cond (.tmp 10) (qR [o1 2 (.mov kE), mI 3 2] .ret) .skip)) (qR [o1 4 (.mov kS)] (.seq (qR [fA 11 0 1, lD 12 11, lN 13 false 12, mI 14 0] (.blk 0 (.loop (qR [bN 15 .lss 0 14 13] (.seq (cE 15 0) (.seq (.blk 1 (qR [mv 16 14, iA 17 1 12 14, lD 18 17, mv 5 16, mv 6 18] (.seq (qR [mv 19 5, o1 20 (.bin .gtr 0 (.tmp 19) (ci 0))] (.cond (.tmp 20) (.reg [mv 21 4, o1 22 (.bsl .u8 1 1 [(.int .u8 0)] [(0, (.const (.int .u8 47)))]), o1 23 (.app .u8 1 (.tmp 21) (.tmp 22)), mv 4 23]) .skip)) (qR [mv 24 6, lN 25 true 24, mI 26 0] (.blk 2 (.loop (qR [bN 27 .lss 0 26 25] (.seq (cE 27 2) (.seq (.blk 3 (qR [mv 28 26, mv 7 28] (.seq (qR [mv 29 6, mv 30 7, o1 31 (.ixs (.tmp 29) (.tmp 30)), c1 32 254 31] (.cond (.tmp 32) (.reg [mv 33 4, o1 34 (.bsl .u8 1 1 [(.int .u8 0)] [(0, (.const (.int .u8 92)))]), o1 35 (.app .u8 1 (.tmp 33) (.tmp 34)), mv 4 35]) .skip)) (.reg [mv 36 4, mv 37 6, mv 38 7, o1 39 (.ixs (.tmp 37) (.tmp 38)), o1 40 (.bsl .u8 1 1 [(.int .u8 0)] [(0, (.tmp 39))]), o1 41 (.app .u8 1 (.tmp 36) (.tmp 40)), mv 4 41])))) (.reg [aI 42 26, mv 26 42])))))))))) (.reg [aI 43 14, mv 14 43]))))))) (qR [mv 44 4, tS 45 44, o1 46 (.bin .add 0 (.tmp 45) (.const (.string ⟨#[64]⟩))), fA 47 1 1, lD 48 47, bN 49 .add 0 46 48, mv 2 49, mI 3 0] .ret)))))⟩
theorem fi217 : finfo Tryz.prog 217 = some ir217 := by kernel_rfl
def ir218 : FI := ⟨9, [.cell 4 24], (qR [o1 2 (.box 24 (.tmp 0)), o1 4 (.new 24 [zs, ze])] (qR [mv 5 1, o1 6 (.bin .eql 0 (.tmp 5) (ci 0)), c1 7 140 6] (qR [lG 8 2 2, sT 2 4 8] .ret)))⟩
def ir219 : DI := ⟨46, [.cell 2 24, .cell 3 38], [(.reg [o1 1 (.box 114 (.tmp 0)), o1 2 (.new 24 [zs, ze]), o1 3 (.new 38 [zi])]), (.reg [lD 7 1, c1 8 255 7, o1 4 (.new 114 [(.pointer none)]), sT 1 4 8]), (qR [lD 9 4, o1 10 (.bin .eql 1 (.tmp 9) (.const (.pointer none)))] (.cond (.tmp 10) (qR [o1 11 (.bld [zs, ze] (.fields [(0, 1), (1, 1)]) []), sT 2 2 11, o0 (.st 1 (.tmp 3) (ci 1))] .ret) .skip))], 12, 256, [(.tmp 4), (.tmp 1), (.tmp 2), (.tmp 3)], (qR [lD 13 1, c1 14 199 13, ex 15 0 14, ex 16 1 14, c2 17 257 15 16, mv 5 17] (qR [mv 18 5, o1 19 (.call (.func 258) [(.tmp 18), (ci 0), (.func 199)]), mv 6 19] (.seq (.blk 0 (.loop (.seq (qR [mv 20 6, c1 21 139 20, o1 22 (.bin .gtr 0 (.tmp 21) (ci 0))] (cE 22 0)) (.blk 1 (.drw [(true, fA 23 0 2), (true, lD 24 23), (true, mv 25 6), (false, c1 26 148 25), (true, ex 27 0 26), (true, ex 28 1 26), (false, c2 29 259 27 28), (false, o1 30 (.bsl .str 1 1 [ze] [(0, (.tmp 29))])), (false, o1 31 (.app .str 16 (.tmp 24) (.tmp 30))), (true, fA 32 0 2), (false, sT 1 32 31)]))))) (qR [mv 33 5, o1 34 (.call (.func 260) [(.tmp 33), (ci 1), (.func 148)]), fA 35 1 2, sT 1 35 34] (.seq (qR [mv 36 5, c1 37 139 36, o1 38 (.bin .gtr 0 (.tmp 37) (ci 0)), mv 39 38, oF 40 (.ld (some 2) (.tmp 2)) 39, oF 41 (.call (.func 166) [(.tmp 40)]) 39, oF 42 (.un .not (.tmp 41)) 39, pT 43 39 42] (.cond (.tmp 43) (.reg [o1 44 (.mki 38 (ci 6)), o0 (.pan (.tmp 44))]) .skip)) (qR [lG 45 2 2, sT 2 2 45, o0 (.st 1 (.tmp 3) (ci 0))] .ret))))))⟩
def ir220 : FI := ⟨9, [], (qR [o1 4 (.box 116 (.tmp 0))] (.reg [lG 5 1 4, lD 6 1, lD 7 2, c3 8 221 5 6 7, sT 1 3 8]))⟩
def ir221 : FI := ⟨11, [.cell 6 25], (qR [o1 3 (.box 116 (.tmp 0)), o1 4 (.box 3 (.tmp 1)), o1 5 (.box 187 (.tmp 2)), o1 6 (.new 25 [zs])] (qR [lG 7 1 3, o1 8 (.mkf 261 [] [(.tmp 6), (.tmp 4), (.tmp 5)]), c2 9 137 7 8] (qR [lD 10 6, sT 1 6 10] .ret)))⟩
def ir222 : FI := ⟨54, [.tmp 6, .tmp 7], (qR [o1 6 (.mov (.const (.int .u32 0))), mI 7 0] (qR [o1 8 (.mov (.const (.int .u32 0)))] (.seq (qR [mv 12 0, o1 13 (.bin .eql 1 (.tmp 12) (.const (.pointer none))), mv 14 13, oF 15 (.mov (.tmp 0)) 14, oF 16 (.nil (.tmp 15)) 14, oF 17 (.fa 2 (.tmp 16)) 14, oF 18 (.ld none (.tmp 17)) 14, oF 19 (.un .not (.tmp 18)) 14, pT 20 14 19] (.cond (.tmp 20) (qR [mv 21 8, mv 6 21, mI 7 1] .ret) .skip)) (qR [mv 22 0, o1 23 (.nil (.tmp 22)), fA 24 0 23, fA 25 1 24, lD 26 25, mv 9 26] (qR [mv 28 0, o1 29 (.nil (.tmp 28)), fA 30 0 29, mv 31 1, c2 32 248 30 31, mv 27 32, ex 33 0 27, ex 34 1 27, mv 10 33, mv 7 34] (.seq (qR [mv 35 7, o1 36 (.bin .neq 0 (.tmp 35) (ci 0))] (.cond (.tmp 36) (qR [mv 37 8, mv 38 7, mv 6 37, mv 7 38] .ret) .skip)) (qR [mv 40 2, mv 41 10, o1 42 (.call (.tmp 40) [(.tmp 41)]), mv 39 42, ex 43 0 39, ex 44 1 39, mv 6 43, mv 11 44] (.seq (qR [mv 45 11, nT 46 45] (.cond (.tmp 46) (qR [mv 47 0, mv 48 9, o1 49 (.nil (.tmp 47)), fA 50 0 49, fA 51 1 50, sT 1 51 48] (qR [mv 52 8, mv 6 52, mI 7 6] .ret)) .skip)) (qR [mv 53 6, mv 6 53, mI 7 0] .ret)))))))))⟩
def ir223 : FI := ⟨17, [.tmp 2, .tmp 3], (qR [o1 2 (.mov (.const (.int .u32 0))), o1 3 (.mov kF)] (.seq (qR [mv 4 0, lN 5 false 4, o1 6 (.bin .neq 0 (.tmp 5) (ci 5)), mv 7 6, oF 8 (.mov (.tmp 0)) 7, oF 9 (.ia 1 (.tmp 8) (ci 0)) 7, oF 10 (.ld none (.tmp 9)) 7, oF 11 (.bin .neq 0 (.tmp 10) (.const (.int .u8 0))) 7, pT 12 7 11] (.cond (.tmp 12) (qR [o1 2 (.mov (.const (.int .u32 0))), o1 3 (.mov kF)] .ret) .skip)) (qR [mv 13 0, o1 14 (.sl (some 1) (.tmp 13) (some (ci 1)) none), c1 15 224 14, o1 16 (.toInt .u32 (.tmp 15)), mv 2 16, o1 3 (.mov kT)] .ret)))⟩
def ir224 : FI := ⟨18, [.tmp 2], (qR [mI 2 0] (.seq (qR [mv 5 0, lN 6 false 5, mI 7 0] (.blk 0 (.loop (qR [bN 8 .lss 0 7 6] (.seq (cE 8 0) (.seq (.blk 1 (qR [iA 9 1 5 7, lD 10 9, mv 4 10] (.reg [mv 11 2, o1 12 (.bin .shl 0 (.tmp 11) (.const (.int .u64 8))), mv 13 4, o1 14 (.toInt .i64 (.tmp 13)), bN 15 .or 0 12 14, mv 2 15]))) (.reg [aI 16 7, mv 7 16]))))))) (qR [mv 17 2, mv 2 17] .ret)))⟩
def ir225 : FI := ⟨9, [], (qR [o1 2 (.box 116 (.tmp 0))] (.reg [fA 3 0 2, lD 4 3, c1 5 145 4, ex 6 0 5, ex 7 1 5, c2 8 144 6 7, sT 1 1 8]))⟩
def ir226 : FI := ⟨9, [], (qR [o1 4 (.box 116 (.tmp 0))] (.reg [lG 5 1 4, lD 6 1, lD 7 2, c3 8 227 5 6 7, sT 1 3 8]))⟩
def ir227 : FI := ⟨11, [.cell 6 28], (qR [o1 3 (.box 116 (.tmp 0)), o1 4 (.box 3 (.tmp 1)), o1 5 (.box 192 (.tmp 2)), o1 6 (.new 28 [zs])] (qR [lG 7 1 3, o1 8 (.mkf 262 [] [(.tmp 6), (.tmp 4), (.tmp 5)]), c2 9 137 7 8] (qR [lD 10 6, sT 1 6 10] .ret)))⟩
def ir228 : FI := ⟨18, [], (qR [o1 2 (.box 116 (.tmp 0))] (qR [lG 3 1 2, o1 4 (.call (.func 184) [(.tmp 3), (ci 0)]), fA 5 0 1, sT 1 5 4] (qR [lG 6 1 2, o1 7 (.call (.func 229) [(.tmp 6), (ci 1), (ci 4), (.func 230)]), fA 8 1 1, sT 1 8 7] (qR [lG 9 1 2, o1 10 (.call (.func 187) [(.tmp 9), (ci 2)]), fA 11 2 1, sT 1 11 10] (qR [lG 12 1 2, o1 13 (.call (.func 184) [(.tmp 12), (ci 3)]), fA 14 3 1, sT 1 14 13] (.reg [lG 15 1 2, o1 16 (.mkf 231 [] [(.tmp 1)]), o1 17 (.call (.func 142) [(.tmp 15), (ci 4), (.tmp 16)])]))))))⟩
def ir229 : FI := ⟨14, [.cell 8 32], (qR [o1 4 (.box 116 (.tmp 0)), o1 6 (.box 3 (.tmp 2)), o1 7 (.box 237 (.tmp 3)), o1 8 (.new 32 [zs])] (qR [lG 9 1 4, mv 10 1, o1 11 (.mkf 263 [] [(.tmp 6), (.tmp 7), (.tmp 8)]), c3 12 201 9 10 11] (qR [lD 13 8, sT 1 8 13] .ret)))⟩
def ir230 : FI := ⟨9, [.cell 2 50], (qR [o1 1 (.box 116 (.tmp 0)), o1 2 (.new 50 [zi, zi, zs])] (qR [fA 3 0 1, lD 4 3, c1 5 266 4, ex 6 0 5, ex 7 1 5, c2 8 265 6 7, sT 3 2 8] .ret))⟩
def ir231 : FI := ⟨10, [], (qR [o1 2 (.box 116 (.tmp 0))] (.reg [fA 3 0 2, lD 4 3, c1 5 232 4, ex 6 0 5, ex 7 1 5, c2 8 144 6 7, fA 9 4 1, sT 1 9 8]))⟩
def ir232 : FI := ⟨8, [.tmp 2, .tmp 3], (qR [mI 2 0, mI 3 0] (qR [mv 4 0, o1 5 (.call (.func 202) [(.tmp 4), (.const (.int .u8 24)), (.func 267)]), ex 6 0 5, ex 7 1 5, mv 2 6, mv 3 7] .ret))⟩
def ir233 : FI := ⟨9, [], (qR [o1 2 (.box 116 (.tmp 0))] (.reg [fA 3 0 2, lD 4 3, c1 5 148 4, ex 6 0 5, ex 7 1 5, c2 8 147 6 7, sT 1 1 8]))⟩
def ir234 : FI := ⟨9, [], (qR [o1 2 (.box 116 (.tmp 0))] (.reg [fA 3 0 2, lD 4 3, c1 5 232 4, ex 6 0 5, ex 7 1 5, c2 8 144 6 7, sT 1 1 8]))⟩
def ir235 : FI := ⟨9, [], (qR [o1 4 (.box 116 (.tmp 0))] (.reg [lG 5 1 4, lD 6 1, lD 7 2, c3 8 236 5 6 7, sT 1 3 8]))⟩
def ir236 : FI := ⟨11, [.cell 6 29], (qR [o1 3 (.box 116 (.tmp 0)), o1 4 (.box 3 (.tmp 1)), o1 5 (.box 195 (.tmp 2)), o1 6 (.new 29 [zs])] (qR [lG 7 1 3, o1 8 (.mkf 268 [] [(.tmp 6), (.tmp 4), (.tmp 5)]), c2 9 137 7 8] (qR [lD 10 6, sT 1 6 10] .ret)))⟩
def ir237 : FI := ⟨9, [.tmp 4], (qR [o1 4 (.mov kS)] (qR [mv 5 1, o1 6 (.bin .eql 0 (.tmp 5) (ci 0)), c1 7 140 6] (qR [mv 8 0, mv 4 8] .ret)))⟩
def ir238 : FI := ⟨8, [.tmp 2, .tmp 3], (qR [o1 2 (.mov kS), mI 3 0] (qR [mv 4 0, o1 5 (.call (.func 269) [(.tmp 4), (.const (.int .u8 4)), (.func 270)]), ex 6 0 5, ex 7 1 5, mv 2 6, mv 3 7] .ret))⟩
def ir245 : FI := ⟨54, [.tmp 6, .tmp 7], (qR [o1 6 (.mov (.const (.pointer none))), mI 7 0] (qR [o1 8 (.mov (.const (.pointer none)))] (.seq (qR [mv 12 0, o1 13 (.bin .eql 1 (.tmp 12) (.const (.pointer none))), mv 14 13, oF 15 (.mov (.tmp 0)) 14, oF 16 (.nil (.tmp 15)) 14, oF 17 (.fa 2 (.tmp 16)) 14, oF 18 (.ld none (.tmp 17)) 14, oF 19 (.un .not (.tmp 18)) 14, pT 20 14 19] (.cond (.tmp 20) (qR [mv 21 8, mv 6 21, mI 7 1] .ret) .skip)) (qR [mv 22 0, o1 23 (.nil (.tmp 22)), fA 24 0 23, fA 25 1 24, lD 26 25, mv 9 26] (qR [mv 28 0, o1 29 (.nil (.tmp 28)), fA 30 0 29, mv 31 1, c2 32 248 30 31, mv 27 32, ex 33 0 27, ex 34 1 27, mv 10 33, mv 7 34] (.seq (qR [mv 35 7, o1 36 (.bin .neq 0 (.tmp 35) (ci 0))] (.cond (.tmp 36) (qR [mv 37 8, mv 38 7, mv 6 37, mv 7 38] .ret) .skip)) (qR [mv 40 2, mv 41 10, o1 42 (.call (.tmp 40) [(.tmp 41)]), mv 39 42, ex 43 0 39, ex 44 1 39, mv 6 43, mv 11 44] (.seq (qR [mv 45 11, nT 46 45] (.cond (.tmp 46) (qR [mv 47 0, mv 48 9, o1 49 (.nil (.tmp 47)), fA 50 0 49, fA 51 1 50, sT 1 51 48] (qR [mv 52 8, mv 6 52, mI 7 6] .ret)) .skip)) (qR [mv 53 6, mv 6 53, mI 7 0] .ret)))))))))⟩
def ir246 : FI := ⟨6, [.tmp 2, .tmp 3], (qR [o1 2 (.mov (.const (.pointer none))), o1 3 (.mov kF)] (qR [mv 4 0, c1 5 206 4, mv 2 5, o1 3 (.mov kT)] .ret))⟩
def ir247 : FI := ⟨51, [.tmp 4, .tmp 5, .tmp 6], (qR [o1 4 (.mov (.const (.pointer none))), o1 5 (.mov kF), mI 6 0] (.seq (qR [mv 8 0, o1 9 (.bin .eql 1 (.tmp 8) (.const (.pointer none))), mv 10 9, oF 11 (.mov (.tmp 0)) 10, oF 12 (.nil (.tmp 11)) 10, oF 13 (.fa 2 (.tmp 12)) 10, oF 14 (.ld none (.tmp 13)) 10, oF 15 (.un .not (.tmp 14)) 10, pT 16 10 15] (.cond (.tmp 16) (qR [o1 4 (.mov (.const (.pointer none))), o1 5 (.mov kF), mI 6 1] .ret) .skip)) (.seq (qR [mv 17 1, o1 18 (.bin .lss 0 (.tmp 17) (ci 0)), mv 19 18, oF 20 (.mov (.tmp 1)) 19, oF 21 (.bin .gtr 0 (.tmp 20) (ci 30)) 19, pT 22 19 21] (.cond (.tmp 22) (qR [o1 4 (.mov (.const (.pointer none))), o1 5 (.mov kF), mI 6 2] .ret) .skip)) (.seq (qR [mv 23 0, o1 24 (.nil (.tmp 23)), fA 25 0 24, c1 26 200 25, mv 7 26] (qR [mv 27 7, lN 28 false 27, o1 29 (.bin .eql 0 (.tmp 28) (ci 0)), mv 30 29, oF 31 (.mov (.tmp 7)) 30, oF 32 (.ia 1 (.tmp 31) (ci 0)) 30, oF 33 (.ld none (.tmp 32)) 30, oF 34 (.mov (.tmp 1)) 30, oF 35 (.bin .add 0 (ci 160) (.tmp 34)) 30, oF 36 (.toInt .u8 (.tmp 35)) 30, oF 37 (.bin .neq 0 (.tmp 33) (.tmp 36)) 30, pT 38 30 37] (.cond (.tmp 38) (qR [o1 4 (.mov (.const (.pointer none))), o1 5 (.mov kF), mI 6 0] .ret) .skip))) (qR [mv 40 0, mv 41 1, o1 42 (.bin .add 0 (ci 160) (.tmp 41)), o1 43 (.toInt .u8 (.tmp 42)), o1 44 (.call (.func 245) [(.tmp 40), (.tmp 43), (.func 246)]), mv 39 44, ex 45 0 39, ex 46 1 39, mv 4 45, mv 6 46] (qR [mv 47 4, mv 48 6, o1 49 (.bin .eql 0 (.tmp 48) (ci 0)), mv 50 6, mv 4 47, mv 5 49, mv 6 50] .ret))))))⟩
def ir248 : FI := ⟨42, [.tmp 4, .tmp 5], (qR [o1 4 (.mov kS), mI 5 0] (qR [mv 10 0, c1 11 200 10, mv 6 11] (.seq (qR [mv 12 6, lN 13 false 12, o1 14 (.bin .eql 0 (.tmp 13) (ci 0))] (.cond (.tmp 14) (qR [o1 4 (.mov kS), mI 5 4] .ret) .skip)) (.seq (qR [mv 15 6, o1 16 (.ia 1 (.tmp 15) (ci 0)), lD 17 16, mv 18 1, bN 19 .neq 0 17 18] (.cond (.tmp 19) (qR [o1 4 (.mov kS), mI 5 6] .ret) .skip)) (qR [mv 21 6, c1 22 276 21, mv 20 22, ex 23 0 20, ex 24 1 20, ex 25 2 20, mv 7 23, mv 8 24, mv 9 25] (.seq (qR [mv 26 9, o1 27 (.bin .neq 0 (.tmp 26) (ci 0))] (.cond (.tmp 27) (qR [mv 28 9, o1 4 (.mov kS), mv 5 28] .ret) .skip)) (qR [mv 29 0, o1 30 (.nil (.tmp 29)), fA 31 1 30, lD 32 31, mv 33 8, bN 34 .add 0 32 33, o1 35 (.nil (.tmp 29)), fA 36 1 35, sT 1 36 34] (qR [mv 37 6, mv 38 7, mv 39 8, mv 40 8, o1 41 (.sl3 1 false (.tmp 37) (some (.tmp 38)) (.tmp 39) (.tmp 40)), mv 4 41, mI 5 0] .ret))))))))⟩
def ir249 : FI := ⟨25, [.tmp 6], (qR [o1 6 (.mov kS)] (.seq (qR [mv 7 1, o1 8 (.bin .lss 0 (.tmp 7) (ci 0)), mv 9 8, oF 10 (.mov (.tmp 1)) 9, oF 11 (.bin .gtr 0 (.tmp 10) (ci 30)) 9, pT 12 9 11, mv 13 12, oF 14 (.mov (.tmp 2)) 13, oF 15 (.len false (.tmp 14)) 13, oF 16 (.bin .eql 0 (.tmp 15) (ci 0)) 13, pT 17 13 16] (.cond (.tmp 17) (qR [o1 6 (.mov kS)] .ret) .skip)) (qR [mv 18 0, mv 19 1, bN 20 .add 0 18 19, o1 21 (.toInt .u8 (.tmp 20)), mv 22 2, o1 23 (.bsl (.slice .u8) 1 1 [zs] [(0, (.tmp 22))]), c2 24 195 21 23, mv 6 24] .ret)))⟩
theorem fi249 : finfo Tryz.prog 249 = some ir249 := by kernel_rfl
def ir250 : FI := ⟨15, [.tmp 6], (qR [o1 6 (.mov kS)] (qR [mv 7 0, c1 8 196 7, mv 9 1, c1 10 196 9, mv 11 2, c1 12 164 11, o1 13 (.bsl (.slice .u8) 3 1 [zs, zs, zs] [(0, (.tmp 8)), (1, (.tmp 10)), (2, (.tmp 12))]), c1 14 277 13, mv 6 14] .ret))⟩
theorem fi250 : finfo Tryz.prog 250 = some ir250 := by kernel_rfl
def ir251 : FI := ⟨9, [.tmp 4], (qR [o1 4 (.mov kF)] (qR [mv 5 0, mv 6 1, c2 7 278 5 6, o1 8 (.bin .geq 0 (.tmp 7) (ci 0)), mv 4 8] .ret))⟩
theorem fi251 : finfo Tryz.prog 251 = some ir251 := by kernel_rfl
def ir252 : FI := ⟨11, [.tmp 2], (qR [o1 2 (.mov kF)] (qR [mv 3 0, lN 4 true 3, o1 5 (.bin .geq 0 (.tmp 4) (ci 1)), mv 6 5, oT 7 (.mov (.tmp 0)) 6, oT 8 (.len true (.tmp 7)) 6, oT 9 (.bin .leq 0 (.tmp 8) (ci 32)) 6, pF 10 6 9, mv 2 10] .ret))⟩
theorem fi252 : finfo Tryz.prog 252 = some ir252 := by kernel_rfl
def ir254 : FI := ⟨13, [.tmp 2], (qR [o1 2 (.mov kF)] (qR [mv 3 0, o1 4 (.bin .eql 0 (.tmp 3) (.const (.int .u8 47))), mv 5 4, oF 6 (.mov (.tmp 0)) 5, oF 7 (.bin .eql 0 (.tmp 6) (.const (.int .u8 64))) 5, pT 8 5 7, mv 9 8, oF 10 (.mov (.tmp 0)) 9, oF 11 (.bin .eql 0 (.tmp 10) (.const (.int .u8 92))) 9, pT 12 9 11, mv 2 12] .ret))⟩
theorem fi254 : finfo Tryz.prog 254 = some ir254 := by kernel_rfl
def ir255 : FI := ⟨16, [.tmp 2], (qR [o1 2 (.mov (.const (.pointer none)))] (.seq (qR [mv 4 0, o1 5 (.bin .eql 1 (.tmp 4) (.const (.pointer none))), mv 6 5, oF 7 (.mov (.tmp 0)) 6, oF 8 (.nil (.tmp 7)) 6, oF 9 (.fa 2 (.tmp 8)) 6, oF 10 (.ld none (.tmp 9)) 6, oF 11 (.un .not (.tmp 10)) 6, pT 12 6 11] (.cond (.tmp 12) (qR [o1 2 (.mov (.const (.pointer none)))] .ret) .skip)) (qR [mv 13 0, o1 14 (.nil (.tmp 13)), lG 15 3 14, o1 3 (.new 215 [zs, zi, (.bool false)]), sT 3 3 15] (qR [mv 2 3] .ret))))⟩
def ir256 : RI := ⟨19, 7, [o1 8 (.ta 38 zi (.tmp 7)), mv 6 8, ex 9 0 6, ex 10 1 6, mv 4 9, mv 5 10], (qR [mv 11 5] (.cond (.tmp 11) (.seq (.drw [(true, lD 12 1), (true, lD 13 0), (true, o1 14 (.nil (.tmp 13))), (true, lG 15 3 14), (true, o1 16 (.nil (.tmp 12))), (false, sT 3 16 15)]) (.reg [o1 17 (.bld [zs, ze] (.fields [(0, 1), (1, 1)]) []), mv 18 4, sT 2 2 17, sT 1 3 18])) .skip))⟩
def ir257 : FI := ⟨10, [.tmp 4], (qR [o1 4 (.mov (.const (.pointer none)))] (.seq (qR [mv 5 1, o1 6 (.bin .neq 0 (.tmp 5) (ci 0))] (.cond (.tmp 6) (.reg [mv 7 1, o1 8 (.mki 38 (.tmp 7)), o0 (.pan (.tmp 8))]) .skip)) (qR [mv 9 0, mv 4 9] .ret)))⟩
def ir258 : FI := ⟨47, [.tmp 6], (qR [o1 6 (.mov (.const (.pointer none)))] (qR [mv 12 0, mv 13 1, c2 14 247 12 13, mv 11 14, ex 15 0 11, ex 16 1 11, ex 17 2 11, mv 7 15, mv 8 16, mv 9 17] (.seq (.blk 0 (qR [mv 19 9, o1 20 (.bin .neq 0 (.tmp 19) (ci 0)), mv 18 20] (.cond (.tmp 18) (.reg [mv 21 9, o1 22 (.mki 38 (.tmp 21)), o0 (.pan (.tmp 22))]) (qR [mv 24 8, nT 25 24, mv 26 25, oT 27 (.mov (.tmp 0)) 26, oT 28 (.call (.func 139) [(.tmp 27)]) 26, oT 29 (.bin .eql 0 (.tmp 28) (ci 0)) 26, pF 30 26 29, mv 23 30] (.cond (.tmp 23) (.reg [o1 31 (.mki 38 (ci 4)), o0 (.pan (.tmp 31))]) (qR [mv 33 8, nT 34 33, mv 32 34] (.cond (.tmp 32) (.reg [o1 35 (.mki 38 (ci 6)), o0 (.pan (.tmp 35))]) .skip))))))) (qR [mv 36 2, mv 37 7, o1 38 (.call (.tmp 36) [(.tmp 37)]), ex 39 0 38, ex 40 1 38, c2 41 257 39 40, mv 10 41] (.seq (qR [mv 42 7, c1 43 139 42, o1 44 (.bin .gtr 0 (.tmp 43) (ci 0))] (.cond (.tmp 44) (.reg [o1 45 (.mki 38 (ci 6)), o0 (.pan (.tmp 45))]) .skip)) (qR [mv 46 10, mv 6 46] .ret))))))⟩
def ir259 : FI := ⟨10, [.tmp 4], (qR [o1 4 (.mov kE)] (.seq (qR [mv 5 1, o1 6 (.bin .neq 0 (.tmp 5) (ci 0))] (.cond (.tmp 6) (.reg [mv 7 1, o1 8 (.mki 38 (.tmp 7)), o0 (.pan (.tmp 8))]) .skip)) (qR [mv 9 0, mv 4 9] .ret)))⟩
def ir260 : FI := ⟨47, [.tmp 6], (qR [o1 6 (.mov kE)] (qR [mv 12 0, mv 13 1, c2 14 247 12 13, mv 11 14, ex 15 0 11, ex 16 1 11, ex 17 2 11, mv 7 15, mv 8 16, mv 9 17] (.seq (.blk 0 (qR [mv 19 9, o1 20 (.bin .neq 0 (.tmp 19) (ci 0)), mv 18 20] (.cond (.tmp 18) (.reg [mv 21 9, o1 22 (.mki 38 (.tmp 21)), o0 (.pan (.tmp 22))]) (qR [mv 24 8, nT 25 24, mv 26 25, oT 27 (.mov (.tmp 0)) 26, oT 28 (.call (.func 139) [(.tmp 27)]) 26, oT 29 (.bin .eql 0 (.tmp 28) (ci 0)) 26, pF 30 26 29, mv 23 30] (.cond (.tmp 23) (.reg [o1 31 (.mki 38 (ci 4)), o0 (.pan (.tmp 31))]) (qR [mv 33 8, nT 34 33, mv 32 34] (.cond (.tmp 32) (.reg [o1 35 (.mki 38 (ci 6)), o0 (.pan (.tmp 35))]) .skip))))))) (qR [mv 36 2, mv 37 7, o1 38 (.call (.tmp 36) [(.tmp 37)]), ex 39 0 38, ex 40 1 38, c2 41 259 39 40, mv 10 41] (.seq (qR [mv 42 7, c1 43 139 42, o1 44 (.bin .gtr 0 (.tmp 43) (ci 0))] (.cond (.tmp 44) (.reg [o1 45 (.mki 38 (ci 6)), o0 (.pan (.tmp 45))]) .skip)) (qR [mv 46 10, mv 6 46] .ret))))))⟩
def ir261 : FI := ⟨20, [], (qR [o1 4 (.box 116 (.tmp 0))] (.blk 0 (.loop (.seq (qR [fA 5 0 4, lD 6 5, c1 7 139 6, o1 8 (.bin .gtr 0 (.tmp 7) (ci 0))] (cE 8 0)) (.blk 1 (qR [lD 9 1, lN 10 false 9, lD 11 2, bN 12 .lss 0 10 11, c1 13 140 12] (.drw [(true, lD 14 1), (true, lD 15 3), (true, lG 16 1 4), (false, o1 17 (.call (.tmp 15) [(.tmp 16)])), (false, o1 18 (.bsl (.prod (.slice .str) .str) 1 2 [zs, ze] [(0, (.tmp 17))])), (false, o1 19 (.app (.prod (.slice .str) .str) 40 (.tmp 14) (.tmp 18))), (false, sT 1 1 19)])))))))⟩
def ir262 : FI := ⟨20, [], (qR [o1 4 (.box 116 (.tmp 0))] (.blk 0 (.loop (.seq (qR [fA 5 0 4, lD 6 5, c1 7 139 6, o1 8 (.bin .gtr 0 (.tmp 7) (ci 0))] (cE 8 0)) (.blk 1 (qR [lD 9 1, lN 10 false 9, lD 11 2, bN 12 .lss 0 10 11, c1 13 140 12] (.drw [(true, lD 14 1), (true, lD 15 3), (true, lG 16 1 4), (false, o1 17 (.call (.tmp 15) [(.tmp 16)])), (false, o1 18 (.bsl (.prod (.int .i64) (.prod (.slice (.prod (.int .i64) (.prod (.int .i64) (.slice .u8)))) (.prod .str (.prod (.int .i64) (.int .i64))))) 1 5 z5 [(0, (.tmp 17))])), (false, o1 19 (.app (.prod (.int .i64) (.prod (.slice (.prod (.int .i64) (.prod (.int .i64) (.slice .u8)))) (.prod .str (.prod (.int .i64) (.int .i64))))) 64 (.tmp 14) (.tmp 18))), (false, sT 1 1 19)])))))))⟩
def ir263 : FI := ⟨9, [], (qR [o1 4 (.box 116 (.tmp 0))] (.reg [lG 5 1 4, lD 6 1, lD 7 2, c3 8 264 5 6 7, sT 1 3 8]))⟩
def ir264 : FI := ⟨11, [.cell 6 32], (qR [o1 3 (.box 116 (.tmp 0)), o1 4 (.box 3 (.tmp 1)), o1 5 (.box 237 (.tmp 2)), o1 6 (.new 32 [zs])] (qR [lG 7 1 3, o1 8 (.mkf 280 [] [(.tmp 6), (.tmp 4), (.tmp 5)]), c2 9 137 7 8] (qR [lD 10 6, sT 1 6 10] .ret)))⟩
def ir265 : FI := ⟨9, [.cell 4 50], (qR [o1 2 (.box 50 (.tmp 0)), o1 4 (.new 50 [zi, zi, zs])] (qR [mv 5 1, o1 6 (.bin .eql 0 (.tmp 5) (ci 0)), c1 7 140 6] (qR [lG 8 3 2, sT 3 4 8] .ret)))⟩
def ir266 : FI := ⟨8, [.cell 2 50, .tmp 3], (qR [o1 2 (.new 50 [zi, zi, zs]), mI 3 0] (qR [mv 4 0, o1 5 (.call (.func 281) [(.tmp 4), (.func 282)]), ex 6 0 5, ex 7 1 5, sT 3 2 6, mv 3 7] .ret))⟩
def ir267 : FI := ⟨13, [.tmp 2, .tmp 3], (qR [mI 2 0, o1 3 (.mov kF)] (.seq (qR [mv 5 0, lN 6 false 5, o1 7 (.bin .neq 0 (.tmp 6) (ci 6))] (.cond (.tmp 7) (qR [mI 2 0, o1 3 (.mov kF)] .ret) .skip)) (qR [mv 8 0, c1 9 224 8, mv 4 9] (qR [mv 10 4, mv 11 4, o1 12 (.bin .leq 0 (.tmp 11) (ci 1099511627776)), mv 2 10, mv 3 12] .ret))))⟩
def ir268 : FI := ⟨20, [], (qR [o1 4 (.box 116 (.tmp 0))] (.blk 0 (.loop (.seq (qR [fA 5 0 4, lD 6 5, c1 7 139 6, o1 8 (.bin .gtr 0 (.tmp 7) (ci 0))] (cE 8 0)) (.blk 1 (qR [lD 9 1, lN 10 false 9, lD 11 2, bN 12 .lss 0 10 11, c1 13 140 12] (.drw [(true, lD 14 1), (true, lD 15 3), (true, lG 16 1 4), (false, o1 17 (.call (.tmp 15) [(.tmp 16)])), (false, o1 18 (.bsl (.slice .u8) 1 1 [zs] [(0, (.tmp 17))])), (false, o1 19 (.app (.slice .u8) 24 (.tmp 14) (.tmp 18))), (false, sT 1 1 19)])))))))⟩
def ir269 : FI := ⟨54, [.tmp 6, .tmp 7], (qR [o1 6 (.mov kS), mI 7 0] (qR [o1 8 (.mov kS)] (.seq (qR [mv 12 0, o1 13 (.bin .eql 1 (.tmp 12) (.const (.pointer none))), mv 14 13, oF 15 (.mov (.tmp 0)) 14, oF 16 (.nil (.tmp 15)) 14, oF 17 (.fa 2 (.tmp 16)) 14, oF 18 (.ld none (.tmp 17)) 14, oF 19 (.un .not (.tmp 18)) 14, pT 20 14 19] (.cond (.tmp 20) (qR [mv 21 8, mv 6 21, mI 7 1] .ret) .skip)) (qR [mv 22 0, o1 23 (.nil (.tmp 22)), fA 24 0 23, fA 25 1 24, lD 26 25, mv 9 26] (qR [mv 28 0, o1 29 (.nil (.tmp 28)), fA 30 0 29, mv 31 1, c2 32 248 30 31, mv 27 32, ex 33 0 27, ex 34 1 27, mv 10 33, mv 7 34] (.seq (qR [mv 35 7, o1 36 (.bin .neq 0 (.tmp 35) (ci 0))] (.cond (.tmp 36) (qR [mv 37 8, mv 38 7, mv 6 37, mv 7 38] .ret) .skip)) (qR [mv 40 2, mv 41 10, o1 42 (.call (.tmp 40) [(.tmp 41)]), mv 39 42, ex 43 0 39, ex 44 1 39, mv 6 43, mv 11 44] (.seq (qR [mv 45 11, nT 46 45] (.cond (.tmp 46) (qR [mv 47 0, mv 48 9, o1 49 (.nil (.tmp 47)), fA 50 0 49, fA 51 1 50, sT 1 51 48] (qR [mv 52 8, mv 6 52, mI 7 6] .ret)) .skip)) (qR [mv 53 6, mv 6 53, mI 7 0] .ret)))))))))⟩
def ir270 : FI := ⟨6, [.tmp 2, .tmp 3], (qR [o1 2 (.mov kS), o1 3 (.mov kF)] (qR [mv 4 0, c1 5 194 4, mv 2 5, o1 3 (.mov kT)] .ret))⟩
def ir276 : FI := ⟨65, [.tmp 2, .tmp 3, .tmp 4], (qR [mI 2 0, mI 3 0, mI 4 0] (.seq (qR [mv 10 0, lN 11 false 10, o1 12 (.bin .lss 0 (.tmp 11) (ci 2))] (.cond (.tmp 12) (qR [mI 2 0, mI 3 0, mI 4 4] .ret) .skip)) (qR [mv 13 0, o1 14 (.ia 1 (.tmp 13) (ci 1)), lD 15 14, o1 16 (.toInt .i64 (.tmp 15)), mv 5 16, mI 2 2] (.seq (qR [mv 17 5, o1 18 (.bin .geq 0 (.tmp 17) (ci 128))] (.cond (.tmp 18) (qR [mv 19 5, o1 20 (.bin .sub 0 (.tmp 19) (ci 128)), mv 6 20] (.seq (qR [mv 21 6, o1 22 (.bin .lss 0 (.tmp 21) (ci 1)), mv 23 22, oF 24 (.mov (.tmp 6)) 23, oF 25 (.bin .gtr 0 (.tmp 24) (ci 3)) 23, pT 26 23 25] (.cond (.tmp 26) (qR [mI 2 0, mI 3 0, mI 4 6] .ret) .skip)) (.seq (qR [mv 27 0, lN 28 false 27, mv 29 6, o1 30 (.bin .add 0 (ci 2) (.tmp 29)), bN 31 .lss 0 28 30] (.cond (.tmp 31) (qR [mI 2 0, mI 3 0, mI 4 4] .ret) .skip)) (qR [mv 32 6, o1 33 (.bin .add 0 (ci 2) (.tmp 32)), mI 5 0, mv 2 33] (.seq (qR [mv 34 0, mv 35 2, mv 36 2, o1 37 (.sl3 1 false (.tmp 34) (some (ci 2)) (.tmp 35) (.tmp 36)), lN 38 false 37, mI 39 0] (.blk 0 (.loop (qR [bN 40 .lss 0 39 38] (.seq (cE 40 0) (.seq (.blk 1 (qR [iA 41 1 37 39, lD 42 41, mv 8 42] (.reg [mv 43 5, o1 44 (.bin .shl 0 (.tmp 43) (.const (.int .u64 8))), mv 45 8, o1 46 (.toInt .i64 (.tmp 45)), bN 47 .or 0 44 46, mv 5 47]))) (.reg [aI 48 39, mv 39 48]))))))) (qR [o1 49 (.bld [zi, zi, zi, zi] (.arr 1) [(0, (ci 0)), (1, (ci 128)), (2, (ci 256)), (3, (ci 65536))]), o1 9 (.new 298 [zi, zi, zi, zi]), sT 4 9 49] (qR [mv 50 5, mv 51 6, o1 52 (.iaa 4 1 (.tmp 9) (.tmp 51)), lD 53 52, bN 54 .lss 0 50 53] (.cond (.tmp 54) (qR [mI 2 0, mI 3 0, mI 4 6] .ret) .skip)))))))) .skip)) (.seq (qR [mv 55 0, lN 56 false 55, mv 57 2, bN 58 .sub 0 56 57, mv 59 5, bN 60 .lss 0 58 59] (.cond (.tmp 60) (qR [mI 2 0, mI 3 0, mI 4 4] .ret) .skip)) (qR [mv 61 2, mv 62 2, mv 63 5, bN 64 .add 0 62 63, mv 2 61, mv 3 64, mI 4 0] .ret))))))⟩
def ir277 : FI := ⟨22, [.tmp 2], (qR [o1 2 (.mov kS)] (qR [o1 3 (.mov kS)] (.seq (qR [mv 6 0, lN 7 false 6, mI 8 0] (.blk 0 (.loop (qR [bN 9 .lss 0 8 7] (.seq (cE 9 0) (.seq (.blk 1 (qR [mv 10 8, iA 11 1 6 8, lD 12 11, mv 4 10, mv 5 12] (.reg [mv 13 3, mv 14 4, mv 15 5, c2 16 208 14 15, o1 17 (.bsl (.slice .u8) 1 1 [zs] [(0, (.tmp 16))]), o1 18 (.app (.slice .u8) 24 (.tmp 13) (.tmp 17)), mv 3 18]))) (.reg [aI 19 8, mv 8 19]))))))) (qR [mv 20 3, c1 21 296 20, mv 2 21] .ret))))⟩
theorem fi277 : finfo Tryz.prog 277 = some ir277 := by kernel_rfl
def ir278 : FI := ⟨19, [.tmp 4], (qR [mI 4 0] (.seq (qR [mv 6 0, lN 7 false 6, mI 8 0] (.blk 0 (.loop (qR [bN 9 .lss 0 8 7] (.seq (cE 9 0) (.seq (.blk 1 (qR [mv 10 8, mv 5 10] (qR [mv 11 1, mv 12 0, mv 13 5, iA 14 1 12 13, lD 15 14, bN 16 .eql 3 11 15] (.cond (.tmp 16) (qR [mv 17 5, mv 4 17] .ret) .skip)))) (.reg [aI 18 8, mv 8 18]))))))) (qR [o1 4 (.mov (.const (.int .i64 (-1))))] .ret)))⟩
theorem fi278 : finfo Tryz.prog 278 = some ir278 := by kernel_rfl
def ir280 : FI := ⟨20, [], (qR [o1 4 (.box 116 (.tmp 0))] (.blk 0 (.loop (.seq (qR [fA 5 0 4, lD 6 5, c1 7 139 6, o1 8 (.bin .gtr 0 (.tmp 7) (ci 0))] (cE 8 0)) (.blk 1 (qR [lD 9 1, lN 10 false 9, lD 11 2, bN 12 .lss 0 10 11, c1 13 140 12] (.drw [(true, lD 14 1), (true, lD 15 3), (true, lG 16 1 4), (false, o1 17 (.call (.tmp 15) [(.tmp 16)])), (false, o1 18 (.bsl (.prod (.int .i64) (.prod (.int .i64) (.slice .u8))) 1 3 [zi, zi, zs] [(0, (.tmp 17))])), (false, o1 19 (.app (.prod (.int .i64) (.prod (.int .i64) (.slice .u8))) 40 (.tmp 14) (.tmp 18))), (false, sT 1 1 19)])))))))⟩
def ir281 : DI := ⟨26, [.cell 4 50, .cell 5 38], [(.reg [o1 2 (.box 114 (.tmp 0)), o1 4 (.new 50 [zi, zi, zs]), o1 5 (.new 38 [zi])]), (qR [lD 7 2, o1 8 (.bin .eql 1 (.tmp 7) (.const (.pointer none))), mv 9 8, oF 10 (.ld none (.tmp 2)) 9, oF 11 (.nil (.tmp 10)) 9, oF 12 (.fa 2 (.tmp 11)) 9, oF 13 (.ld none (.tmp 12)) 9, oF 14 (.un .not (.tmp 13)) 9, pT 15 9 14] (.cond (.tmp 15) (qR [lG 16 3 4, sT 3 4 16, o0 (.st 1 (.tmp 5) (ci 1))] .ret) .skip)), (.reg [lD 17 2, o1 18 (.nil (.tmp 17)), fA 19 0 18, fA 20 1 19, lD 21 20, o1 6 (.new 3 [zi]), sT 1 6 21])], 22, 300, [(.tmp 6), (.tmp 2), (.tmp 4), (.tmp 5)], (qR [mv 23 1, lD 24 2, o1 25 (.call (.tmp 23) [(.tmp 24)]), sT 3 4 25, o0 (.st 1 (.tmp 5) (ci 0))] .ret)⟩
def ir282 : FI := ⟨16, [.cell 2 50], (qR [o1 2 (.new 50 [zi, zi, zs])] (qR [mv 7 0, c1 8 283 7, mv 6 8, ex 9 0 6, ex 10 1 6, ex 11 2 6, mv 3 9, mv 4 10, mv 5 11] (qR [mv 12 3, mv 13 4, mv 14 5, o1 15 (.bld [zi, zi, zs] (.fields [(0, 1), (1, 1), (2, 1)]) [(0, (.tmp 12)), (1, (.tmp 13)), (2, (.tmp 14))]), sT 3 2 15] .ret)))⟩
attribute [go_sem] ir195 ir196 ir197 ir198 ir199 ir200 ir201 ir202 ir203 ir204 ir205 ir206 ir207 ir208 ir209 ir210 ir211 ir212 ir213 ir214 ir216 ir217 ir218 ir219 ir220 ir221 ir222 ir223 ir224 ir225 ir226 ir227 ir228 ir229 ir230 ir231 ir232 ir233 ir234 ir235 ir236 ir237 ir238 ir245 ir246 ir247 ir248 ir249 ir250 ir251 ir252 ir254 ir255 ir256 ir257 ir258 ir259 ir260 ir261 ir262 ir263 ir264 ir265 ir266 ir267 ir268 ir269 ir270 ir276 ir277 ir278 ir280 ir281 ir282
end Go.Proofs.YtddmkgibghohkaaGreatDoor
/- The functions of the program in the compact form; the kernel checks each. -/
namespace Go.Proofs.YtddmkgibghohkaaGreatDoor
open Go Go.Sx Go.Proofs
set_option maxRecDepth 100000
def ir283 : FI := ⟨22, [.tmp 2, .tmp 3, .tmp 4], (qR [mI 2 0, mI 3 0, o1 4 (.mov kS)] (qR [mv 6 0, c1 7 199 6, ex 8 0 7, ex 9 1 7, c2 10 301 8 9, mv 5 10] (qR [mv 11 5, o1 12 (.call (.func 302) [(.tmp 11), (ci 0), (.func 145)]), mv 2 12] (qR [mv 13 5, o1 14 (.call (.func 302) [(.tmp 13), (ci 1), (.func 145)]), mv 3 14] (qR [mv 15 5, o1 16 (.call (.func 303) [(.tmp 15), (ci 2), (.func 238)]), mv 4 16] (qR [mv 17 5, c1 18 304 17] (qR [mv 19 2, mv 20 3, mv 21 4, mv 2 19, mv 3 20, mv 4 21] .ret)))))))⟩
def ir296 : FI := ⟨17, [.tmp 2], (qR [o1 2 (.mov kS)] (.seq (qR [mv 5 0, lN 6 false 5, mI 7 0] (.blk 0 (.loop (qR [bN 8 .lss 0 7 6] (.seq (cE 8 0) (.seq (.blk 1 (qR [iA 9 1 5 7, lD 10 9, mv 4 10] (qR [mv 11 4, lN 12 false 11, o1 13 (.bin .eql 0 (.tmp 12) (ci 0))] (.cond (.tmp 13) (qR [o1 2 (.mov kS)] .ret) .skip)))) (.reg [aI 14 7, mv 7 14]))))))) (qR [mv 15 0, c1 16 133 15, mv 2 16] .ret)))⟩
theorem fi296 : finfo Tryz.prog 296 = some ir296 := by kernel_rfl
def ir300 : RI := ⟨20, 8, [o1 9 (.ta 38 zi (.tmp 8)), mv 7 9, ex 10 0 7, ex 11 1 7, mv 4 10, mv 5 11], (qR [mv 12 5] (.cond (.tmp 12) (qR [o1 6 (.new 50 [zi, zi, zs])] (.drw [(true, lD 13 1), (true, lD 14 0), (true, mv 16 4), (true, o1 17 (.nil (.tmp 13))), (true, fA 18 0 17), (true, fA 19 1 18), (true, o1 15 (.ldS (some 3) (.tmp 6))), (false, sT 1 19 14), (false, sT 3 2 15), (false, sT 1 3 16)])) .skip))⟩
def ir301 : FI := ⟨10, [.tmp 4], (qR [o1 4 (.mov (.const (.pointer none)))] (.seq (qR [mv 5 1, o1 6 (.bin .neq 0 (.tmp 5) (ci 0))] (.cond (.tmp 6) (.reg [mv 7 1, o1 8 (.mki 38 (.tmp 7)), o0 (.pan (.tmp 8))]) .skip)) (qR [mv 9 0, mv 4 9] .ret)))⟩
def ir302 : FI := ⟨45, [.tmp 6], (qR [mI 6 0] (qR [mv 12 0, mv 13 1, c2 14 247 12 13, mv 11 14, ex 15 0 11, ex 16 1 11, ex 17 2 11, mv 7 15, mv 8 16, mv 9 17] (.seq (.blk 0 (qR [mv 19 9, o1 20 (.bin .neq 0 (.tmp 19) (ci 0)), mv 18 20] (.cond (.tmp 18) (.reg [mv 21 9, o1 22 (.mki 38 (.tmp 21)), o0 (.pan (.tmp 22))]) (qR [mv 24 8, nT 25 24, mv 26 25, oT 27 (.mov (.tmp 0)) 26, oT 28 (.call (.func 139) [(.tmp 27)]) 26, oT 29 (.bin .eql 0 (.tmp 28) (ci 0)) 26, pF 30 26 29, mv 23 30] (.cond (.tmp 23) (.reg [o1 31 (.mki 38 (ci 4)), o0 (.pan (.tmp 31))]) (qR [mv 33 8, nT 34 33, mv 32 34] (.cond (.tmp 32) (.reg [o1 35 (.mki 38 (ci 6)), o0 (.pan (.tmp 35))]) .skip))))))) (qR [mv 36 2, mv 37 7, o1 38 (.call (.tmp 36) [(.tmp 37)]), ex 39 0 38, ex 40 1 38, c2 41 323 39 40, mv 10 41] (qR [mv 42 7, c1 43 304 42] (qR [mv 44 10, mv 6 44] .ret))))))⟩
def ir303 : FI := ⟨45, [.tmp 6], (qR [o1 6 (.mov kS)] (qR [mv 12 0, mv 13 1, c2 14 247 12 13, mv 11 14, ex 15 0 11, ex 16 1 11, ex 17 2 11, mv 7 15, mv 8 16, mv 9 17] (.seq (.blk 0 (qR [mv 19 9, o1 20 (.bin .neq 0 (.tmp 19) (ci 0)), mv 18 20] (.cond (.tmp 18) (.reg [mv 21 9, o1 22 (.mki 38 (.tmp 21)), o0 (.pan (.tmp 22))]) (qR [mv 24 8, nT 25 24, mv 26 25, oT 27 (.mov (.tmp 0)) 26, oT 28 (.call (.func 139) [(.tmp 27)]) 26, oT 29 (.bin .eql 0 (.tmp 28) (ci 0)) 26, pF 30 26 29, mv 23 30] (.cond (.tmp 23) (.reg [o1 31 (.mki 38 (ci 4)), o0 (.pan (.tmp 31))]) (qR [mv 33 8, nT 34 33, mv 32 34] (.cond (.tmp 32) (.reg [o1 35 (.mki 38 (ci 6)), o0 (.pan (.tmp 35))]) .skip))))))) (qR [mv 36 2, mv 37 7, o1 38 (.call (.tmp 36) [(.tmp 37)]), ex 39 0 38, ex 40 1 38, c2 41 324 39 40, mv 10 41] (qR [mv 42 7, c1 43 304 42] (qR [mv 44 10, mv 6 44] .ret))))))⟩
def ir304 : FI := ⟨6, [], (qR [mv 2 0, c1 3 139 2, o1 4 (.bin .gtr 0 (.tmp 3) (ci 0))] (.cond (.tmp 4) (.reg [o1 5 (.mki 38 (ci 6)), o0 (.pan (.tmp 5))]) .skip))⟩
def ir323 : FI := ⟨10, [.tmp 4], (qR [mI 4 0] (.seq (qR [mv 5 1, o1 6 (.bin .neq 0 (.tmp 5) (ci 0))] (.cond (.tmp 6) (.reg [mv 7 1, o1 8 (.mki 38 (.tmp 7)), o0 (.pan (.tmp 8))]) .skip)) (qR [mv 9 0, mv 4 9] .ret)))⟩
def ir324 : FI := ⟨10, [.tmp 4], (qR [o1 4 (.mov kS)] (.seq (qR [mv 5 1, o1 6 (.bin .neq 0 (.tmp 5) (ci 0))] (.cond (.tmp 6) (.reg [mv 7 1, o1 8 (.mki 38 (.tmp 7)), o0 (.pan (.tmp 8))]) .skip)) (qR [mv 9 0, mv 4 9] .ret)))⟩
attribute [go_sem] ir283 ir296 ir300 ir301 ir302 ir303 ir304 ir323 ir324
end Go.Proofs.YtddmkgibghohkaaGreatDoor
/- The functions of the program in the compact form. -/
namespace Go.Proofs.YtddmkgibghohkaaGreatDoor
open Go Go.Sx Go.Proofs
theorem mixed : Tryz.prog.follows .mixedOrders = true := by kernel_rfl
end Go.Proofs.YtddmkgibghohkaaGreatDoor
/- The data of the statements: principals, keys, key sets, entries, salts. -/
namespace Go.Proofs.YtddmkgibghohkaaGreatDoor
open Go Go.Sx Go.Proofs
abbrev I64 : Ty := .int .i64
abbrev PrinT : Ty := .prod (.slice .str) .str
abbrev KeyT : Ty := .prod I64 (.prod I64 (.slice .u8))
abbrev SetT : Ty := .prod I64 (.prod (.slice KeyT) (.prod .str (.prod I64 I64)))
abbrev SaltT : Ty := .prod I64 (.prod .str I64)
abbrev EntT : Ty := .prod PrinT (.prod (.slice PrinT) (.prod (.int .u32) (.prod I64 (.prod (.slice SetT) (.prod .str (.prod I64 (.prod I64 (.prod I64 (.prod I64 (.prod I64 (.prod I64 (.prod I64 (.prod (.slice PrinT) (.prod (.slice PrinT) (.slice (.slice .u8))))))))))))))))
abbrev Prin := PrinT.den
abbrev Key := KeyT.den
abbrev KSet := SetT.den
abbrev Salt := SaltT.den
abbrev Ent := EntT.den
abbrev rI (n : Int) : SV := .raw (.int .i64 n)
abbrev rB (b : Bool) : SV := .raw (.bool b)
abbrev rS (s : ByteArray) : SV := .raw (.string s)
end Go.Proofs.YtddmkgibghohkaaGreatDoor
/- Contracts: between, every, ordered. -/
namespace Go.Proofs.YtddmkgibghohkaaGreatDoor
open Go Go.Sx Go.Proofs
set_option maxRecDepth 100000
set_option maxHeartbeats 4000000
set_option linter.unusedSimpArgs false

theorem btw_c (v lo hi : Int) : PC Tryz.prog 89 [rI v, rI lo, rI hi] (rB (decide (lo ≤ v) && decide (v ≤ hi))) := by
 refine pc_of rfl rfl ?_
 refine runE mixed fi89 ?_
 grind

def Fits (P : Program) (g : Nat) (ca : List SV) {t : Ty} (arg : t.den → SV) (l : List t.den) (p : t.den → Bool) (H : List SObj) : Prop :=
 ∀ x ∈ l, ∀ G, PCH P g (arg x :: ca) (rB (p x)) (H ++ G)

theorem every_int (l : List (I64).den) (m : Int) (g : Nat) (ca : List SV) (p : (I64).den → Bool) (H : List SObj) (hl : l.length ≤ 1125899906842624)
 (hp : Fits Tryz.prog g ca (t := I64) (fun x => rI x) l p H) :
 PCH Tryz.prog 87 [.isl (I64) l, rI m, .fn g [] ca] (rB (decide ((l.length : Int) ≤ m) && l.all p)) H := by
 refine pch_drop rfl ?_
 refine runE mixed fi87 ?_
 refine ⟨fun h => ⟨?_, [], by simp⟩, fun h => ?_⟩
 · have : ¬ ((l.length : Int) ≤ m) := by simpa using h
   simp [this]
 have hm : (l.length : Int) ≤ m := by simpa using h
 refine si_loopX (ι := Nat × List SObj) (fun x => [(15, rI x.1)]) (fun x => H ++ x.2) (fun x => l.length - x.1) (fun x => x.1 ≤ l.length ∧ (l.take x.1).all p = true) (0, []) (by simp) (by simp) ?_ ?_
 · with_reducible refine sxE ?_; trivial
 rintro ⟨i, G⟩ ⟨hi, hall⟩
 dsimp only at hi hall
 refine goE mixed ?_
 refine ⟨fun hlt => ?_, fun hge => ?_⟩
 · have hlt : i < l.length := by simpa using hlt
   refine ⟨⟨by omega, hlt⟩, callI_at (hp _ (getD_mem hlt) G) ?_⟩
   refine goE mixed ?_
   refine ⟨fun hn => ⟨?_, G, rfl⟩, fun hy => ?_⟩
   · rw [all_of_not hlt (by simpa using hn)]; simp
   · refine ⟨(i + 1, G), ⟨hlt, ?_⟩, by dsimp only; omega, rfl, ?_⟩
     · rw [all_take_succ hlt, hall]; simpa using hy
     · with_reducible refine sxE ?_
       rw [wrapi (by omega)]; simp
 · refine ⟨?_, G, rfl⟩
   rw [all_of_take (by simpa using hge) hall]
   simp [hm]
theorem every_bytes (l : List (Ty.slice Ty.u8).den) (m : Int) (g : Nat) (ca : List SV) (p : (Ty.slice Ty.u8).den → Bool) (H : List SObj) (hl : l.length ≤ 1125899906842624)
 (hp : Fits Tryz.prog g ca (t := Ty.slice Ty.u8) (fun x => SV.isl Ty.u8 x) l p H) :
 PCH Tryz.prog 94 [.isl (Ty.slice Ty.u8) l, rI m, .fn g [] ca] (rB (decide ((l.length : Int) ≤ m) && l.all p)) H := by
 refine pch_drop rfl ?_
 refine runE mixed fi94 ?_
 refine ⟨fun h => ⟨?_, [], by simp⟩, fun h => ?_⟩
 · have : ¬ ((l.length : Int) ≤ m) := by simpa using h
   simp [this]
 have hm : (l.length : Int) ≤ m := by simpa using h
 refine si_loopX (ι := Nat × List SObj) (fun x => [(15, rI x.1)]) (fun x => H ++ x.2) (fun x => l.length - x.1) (fun x => x.1 ≤ l.length ∧ (l.take x.1).all p = true) (0, []) (by simp) (by simp) ?_ ?_
 · with_reducible refine sxE ?_; trivial
 rintro ⟨i, G⟩ ⟨hi, hall⟩
 dsimp only at hi hall
 refine goE mixed ?_
 refine ⟨fun hlt => ?_, fun hge => ?_⟩
 · have hlt : i < l.length := by simpa using hlt
   refine ⟨⟨by omega, hlt⟩, callI_at (hp _ (getD_mem hlt) G) ?_⟩
   refine goE mixed ?_
   refine ⟨fun hn => ⟨?_, G, rfl⟩, fun hy => ?_⟩
   · rw [all_of_not hlt (by simpa using hn)]; simp
   · refine ⟨(i + 1, G), ⟨hlt, ?_⟩, by dsimp only; omega, rfl, ?_⟩
     · rw [all_take_succ hlt, hall]; simpa using hy
     · with_reducible refine sxE ?_
       rw [wrapi (by omega)]; simp
 · refine ⟨?_, G, rfl⟩
   rw [all_of_take (by simpa using hge) hall]
   simp [hm]

theorem every_prin (l : List (PrinT).den) (m : Int) (g : Nat) (ca : List SV) (p : (PrinT).den → Bool) (H : List SObj) (hl : l.length ≤ 1125899906842624)
 (hp : Fits Tryz.prog g ca (t := PrinT) (fun x => .agg ((PrinT).cells x)) l p H) :
 PCH Tryz.prog 167 [.isl (PrinT) l, rI m, .fn g [] ca] (rB (decide ((l.length : Int) ≤ m) && l.all p)) H := by
 refine pch_drop rfl ?_
 refine runE mixed fi167 ?_
 refine ⟨fun h => ⟨?_, [], by simp⟩, fun h => ?_⟩
 · have : ¬ ((l.length : Int) ≤ m) := by simpa using h
   simp [this]
 have hm : (l.length : Int) ≤ m := by simpa using h
 refine si_loopX (ι := Nat × List SObj) (fun x => [(15, rI x.1)]) (fun x => H ++ x.2) (fun x => l.length - x.1) (fun x => x.1 ≤ l.length ∧ (l.take x.1).all p = true) (0, []) (by simp) (by simp) ?_ ?_
 · with_reducible refine sxE ?_; trivial
 rintro ⟨i, G⟩ ⟨hi, hall⟩
 dsimp only at hi hall
 refine goE mixed ?_
 refine ⟨fun hlt => ?_, fun hge => ?_⟩
 · have hlt : i < l.length := by simpa using hlt
   refine ⟨⟨by omega, hlt⟩, callI_at' (hp _ (getD_mem (d := (PrinT).dflt) hlt) (G ++ _)) (List.append_assoc _ _ _) rfl ?_⟩
   refine goE mixed ?_
   refine ⟨fun hn => ⟨?_, G ++ _, List.append_assoc _ _ _⟩, fun hy => ?_⟩
   · rw [all_of_not hlt (by simpa using hn)]; simp
   · refine ⟨(i + 1, G ++ _), ⟨hlt, ?_⟩, by dsimp only; omega, List.append_assoc _ _ _, ?_⟩
     · rw [all_take_succ hlt, hall]; simpa using hy
     · with_reducible refine sxE ?_
       rw [wrapi (by omega)]; simp
 · refine ⟨?_, G, rfl⟩
   rw [all_of_take (by simpa using hge) hall]
   simp [hm]
theorem every_key (l : List (KeyT).den) (m : Int) (g : Nat) (ca : List SV) (p : (KeyT).den → Bool) (H : List SObj) (hl : l.length ≤ 1125899906842624)
 (hp : Fits Tryz.prog g ca (t := KeyT) (fun x => .agg ((KeyT).cells x)) l p H) :
 PCH Tryz.prog 115 [.isl (KeyT) l, rI m, .fn g [] ca] (rB (decide ((l.length : Int) ≤ m) && l.all p)) H := by
 refine pch_drop rfl ?_
 refine runE mixed fi115 ?_
 refine ⟨fun h => ⟨?_, [], by simp⟩, fun h => ?_⟩
 · have : ¬ ((l.length : Int) ≤ m) := by simpa using h
   simp [this]
 have hm : (l.length : Int) ≤ m := by simpa using h
 refine si_loopX (ι := Nat × List SObj) (fun x => [(15, rI x.1)]) (fun x => H ++ x.2) (fun x => l.length - x.1) (fun x => x.1 ≤ l.length ∧ (l.take x.1).all p = true) (0, []) (by simp) (by simp) ?_ ?_
 · with_reducible refine sxE ?_; trivial
 rintro ⟨i, G⟩ ⟨hi, hall⟩
 dsimp only at hi hall
 refine goE mixed ?_
 refine ⟨fun hlt => ?_, fun hge => ?_⟩
 · have hlt : i < l.length := by simpa using hlt
   refine ⟨⟨by omega, hlt⟩, callI_at' (hp _ (getD_mem (d := (KeyT).dflt) hlt) (G ++ _)) (List.append_assoc _ _ _) rfl ?_⟩
   refine goE mixed ?_
   refine ⟨fun hn => ⟨?_, G ++ _, List.append_assoc _ _ _⟩, fun hy => ?_⟩
   · rw [all_of_not hlt (by simpa using hn)]; simp
   · refine ⟨(i + 1, G ++ _), ⟨hlt, ?_⟩, by dsimp only; omega, List.append_assoc _ _ _, ?_⟩
     · rw [all_take_succ hlt, hall]; simpa using hy
     · with_reducible refine sxE ?_
       rw [wrapi (by omega)]; simp
 · refine ⟨?_, G, rfl⟩
   rw [all_of_take (by simpa using hge) hall]
   simp [hm]
theorem every_kset (l : List (SetT).den) (m : Int) (g : Nat) (ca : List SV) (p : (SetT).den → Bool) (H : List SObj) (hl : l.length ≤ 1125899906842624)
 (hp : Fits Tryz.prog g ca (t := SetT) (fun x => .agg ((SetT).cells x)) l p H) :
 PCH Tryz.prog 169 [.isl (SetT) l, rI m, .fn g [] ca] (rB (decide ((l.length : Int) ≤ m) && l.all p)) H := by
 refine pch_drop rfl ?_
 refine runE mixed fi169 ?_
 refine ⟨fun h => ⟨?_, [], by simp⟩, fun h => ?_⟩
 · have : ¬ ((l.length : Int) ≤ m) := by simpa using h
   simp [this]
 have hm : (l.length : Int) ≤ m := by simpa using h
 refine si_loopX (ι := Nat × List SObj) (fun x => [(15, rI x.1)]) (fun x => H ++ x.2) (fun x => l.length - x.1) (fun x => x.1 ≤ l.length ∧ (l.take x.1).all p = true) (0, []) (by simp) (by simp) ?_ ?_
 · with_reducible refine sxE ?_; trivial
 rintro ⟨i, G⟩ ⟨hi, hall⟩
 dsimp only at hi hall
 refine goE mixed ?_
 refine ⟨fun hlt => ?_, fun hge => ?_⟩
 · have hlt : i < l.length := by simpa using hlt
   refine ⟨⟨by omega, hlt⟩, callI_at' (hp _ (getD_mem (d := (SetT).dflt) hlt) (G ++ _)) (List.append_assoc _ _ _) rfl ?_⟩
   refine goE mixed ?_
   refine ⟨fun hn => ⟨?_, G ++ _, List.append_assoc _ _ _⟩, fun hy => ?_⟩
   · rw [all_of_not hlt (by simpa using hn)]; simp
   · refine ⟨(i + 1, G ++ _), ⟨hlt, ?_⟩, by dsimp only; omega, List.append_assoc _ _ _, ?_⟩
     · rw [all_take_succ hlt, hall]; simpa using hy
     · with_reducible refine sxE ?_
       rw [wrapi (by omega)]; simp
 · refine ⟨?_, G, rfl⟩
   rw [all_of_take (by simpa using hge) hall]
   simp [hm]
theorem every_salt (l : List (SaltT).den) (m : Int) (g : Nat) (ca : List SV) (p : (SaltT).den → Bool) (H : List SObj) (hl : l.length ≤ 1125899906842624)
 (hp : Fits Tryz.prog g ca (t := SaltT) (fun x => .agg ((SaltT).cells x)) l p H) :
 PCH Tryz.prog 129 [.isl (SaltT) l, rI m, .fn g [] ca] (rB (decide ((l.length : Int) ≤ m) && l.all p)) H := by
 refine pch_drop rfl ?_
 refine runE mixed fi129 ?_
 refine ⟨fun h => ⟨?_, [], by simp⟩, fun h => ?_⟩
 · have : ¬ ((l.length : Int) ≤ m) := by simpa using h
   simp [this]
 have hm : (l.length : Int) ≤ m := by simpa using h
 refine si_loopX (ι := Nat × List SObj) (fun x => [(15, rI x.1)]) (fun x => H ++ x.2) (fun x => l.length - x.1) (fun x => x.1 ≤ l.length ∧ (l.take x.1).all p = true) (0, []) (by simp) (by simp) ?_ ?_
 · with_reducible refine sxE ?_; trivial
 rintro ⟨i, G⟩ ⟨hi, hall⟩
 dsimp only at hi hall
 refine goE mixed ?_
 refine ⟨fun hlt => ?_, fun hge => ?_⟩
 · have hlt : i < l.length := by simpa using hlt
   refine ⟨⟨by omega, hlt⟩, callI_at' (hp _ (getD_mem (d := (SaltT).dflt) hlt) (G ++ _)) (List.append_assoc _ _ _) rfl ?_⟩
   refine goE mixed ?_
   refine ⟨fun hn => ⟨?_, G ++ _, List.append_assoc _ _ _⟩, fun hy => ?_⟩
   · rw [all_of_not hlt (by simpa using hn)]; simp
   · refine ⟨(i + 1, G ++ _), ⟨hlt, ?_⟩, by dsimp only; omega, List.append_assoc _ _ _, ?_⟩
     · rw [all_take_succ hlt, hall]; simpa using hy
     · with_reducible refine sxE ?_
       rw [wrapi (by omega)]; simp
 · refine ⟨?_, G, rfl⟩
   rw [all_of_take (by simpa using hge) hall]
   simp [hm]
end Go.Proofs.YtddmkgibghohkaaGreatDoor
