/- The functions of the program in the compact form; the kernel checks each. -/
import Derived.Test.YthmoognbccfpiaaGreatDoorP10
import Derived.Test.YthmoognbccfpiaaGreatDoorProg
import Derived.KernelRfl
import Derived.Test.YthmoognbccfpiaaGreatDoorP11
import Derived.Test.YthmoognbccfpiaaGreatDoorP12
import Derived.Test.YthmoognbccfpiaaGreatDoorP13
import Derived.Test.YthmoognbccfpiaaGreatDoorP8
import Derived.WalkKit
import Derived.WalkSpells
import Derived.Deep.QuietTactic
import Derived.Lib.Hide
import Derived.OpenShut
import Derived.Maps.AppendAt
import Derived.Deep.AppendLies
import Derived.RegionTactic
import Derived.OwnWalk
import Derived.BigQuiet
import Derived.WalkLawsBesides
set_option linter.unusedSimpArgs false
set_option linter.unusedVariables false
set_option linter.unusedSectionVars false
namespace Go.Proofs.YthmoognbccfpiaaGreatDoor
open Go Go.Sx Go.Proofs
set_option maxRecDepth 100000
def ir230 : FI := ⟨8, [.tmp 2, .tmp 3], (qR [mI 2 0, mI 3 0] (qR [mv 4 0, o1 5 (.call (.func 198) [(.tmp 4), (.const (.int .u8 24)), (.func 263)]), ex 6 0 5, ex 7 1 5, mv 2 6, mv 3 7] .ret))⟩
theorem fi230 : finfo Tryz.prog 230 = some ir230 := by kernel_rfl
def ir231 : FI := ⟨9, [], (qR [o1 2 (.box 79 (.tmp 0))] (.reg [fA 3 0 2, lD 4 3, c1 5 230 4, ex 6 0 5, ex 7 1 5, c2 8 152 6 7, sT 1 1 8]))⟩
theorem fi231 : finfo Tryz.prog 231 = some ir231 := by kernel_rfl
def ir232 : FI := ⟨9, [], (qR [o1 2 (.box 79 (.tmp 0))] (.reg [fA 3 0 2, lD 4 3, c1 5 153 4, ex 6 0 5, ex 7 1 5, c2 8 152 6 7, sT 1 1 8]))⟩
theorem fi232 : finfo Tryz.prog 232 = some ir232 := by kernel_rfl
def ir233 : FI := ⟨18, [], (qR [o1 3 (.box 79 (.tmp 0))] (.blk 0 (.loop (.seq (qR [fA 4 0 3, lD 5 4, c1 6 204 5, o1 7 (.bin .gtr 0 (.tmp 6) (ci 0))] (cE 7 0)) (.blk 1 (qR [lD 8 1, lN 9 false 8, o1 10 (.bin .lss 0 (.tmp 9) (ci 16)), c1 11 98 10] (.drw [(true, lD 12 1), (true, lD 13 2), (true, lG 14 1 3), (false, o1 15 (.call (.tmp 13) [(.tmp 14)])), (false, o1 16 (.bsl (.int .i64) 1 1 [zi] [(0, (.tmp 15))])), (false, o1 17 (.app (.int .i64) 8 (.tmp 12) (.tmp 16))), (false, sT 1 1 17)])))))))⟩
theorem fi233 : finfo Tryz.prog 233 = some ir233 := by kernel_rfl
def ir238 : FI := ⟨19, [.tmp 4], (qR [mI 4 0] (.seq (qR [mv 6 0, lN 7 false 6, mI 8 0] (.blk 0 (.loop (qR [bN 9 .lss 0 8 7] (.seq (cE 9 0) (.seq (.blk 1 (qR [mv 10 8, mv 5 10] (qR [mv 11 1, mv 12 0, mv 13 5, iA 14 1 12 13, lD 15 14, bN 16 .eql 3 11 15] (.cond (.tmp 16) (qR [mv 17 5, mv 4 17] .ret) .skip)))) (.reg [aI 18 8, mv 8 18]))))))) (qR [o1 4 (.mov (.const (.int .i64 (-1))))] .ret)))⟩
theorem fi238 : finfo Tryz.prog 238 = some ir238 := by kernel_rfl
def ir246 : FI := ⟨42, [.tmp 4, .tmp 5], (qR [o1 4 (.mov kS), mI 5 0] (qR [mv 10 0, c1 11 247 10, mv 6 11] (.seq (qR [mv 12 6, lN 13 false 12, o1 14 (.bin .eql 0 (.tmp 13) (ci 0))] (.cond (.tmp 14) (qR [o1 4 (.mov kS), mI 5 4] .ret) .skip)) (.seq (qR [mv 15 6, o1 16 (.ia 1 (.tmp 15) (ci 0)), lD 17 16, mv 18 1, bN 19 .neq 0 17 18] (.cond (.tmp 19) (qR [o1 4 (.mov kS), mI 5 6] .ret) .skip)) (qR [mv 21 6, c1 22 272 21, mv 20 22, ex 23 0 20, ex 24 1 20, ex 25 2 20, mv 7 23, mv 8 24, mv 9 25] (.seq (qR [mv 26 9, o1 27 (.bin .neq 0 (.tmp 26) (ci 0))] (.cond (.tmp 27) (qR [mv 28 9, o1 4 (.mov kS), mv 5 28] .ret) .skip)) (qR [mv 29 0, o1 30 (.nil (.tmp 29)), fA 31 1 30, lD 32 31, mv 33 8, bN 34 .add 0 32 33, o1 35 (.nil (.tmp 29)), fA 36 1 35, sT 1 36 34] (qR [mv 37 6, mv 38 7, mv 39 8, mv 40 8, o1 41 (.sl3 1 false (.tmp 37) (some (.tmp 38)) (.tmp 39) (.tmp 40)), mv 4 41, mI 5 0] .ret))))))))⟩
theorem fi246 : finfo Tryz.prog 246 = some ir246 := by kernel_rfl
def ir247 : FI := ⟨22, [.tmp 2], (qR [o1 2 (.mov kS)] (.seq (.drw [(true, mv 3 0), (true, o1 4 (.nil (.tmp 3))), (true, fA 5 0 4), (true, lD 6 5), (true, mv 7 0), (true, o1 8 (.nil (.tmp 7))), (true, fA 9 1 8), (true, lD 10 9), (true, mv 11 0), (true, o1 12 (.nil (.tmp 11))), (true, fA 13 0 12), (true, lD 14 13), (true, lN 15 false 14), (true, mv 16 0), (true, o1 17 (.nil (.tmp 16))), (true, fA 18 0 17), (true, lD 19 18), (true, lN 20 false 19), (true, o1 21 (.sl3 1 false (.tmp 6) (some (.tmp 10)) (.tmp 15) (.tmp 20))), (true, mv 2 21)]) .ret))⟩
theorem fi247 : finfo Tryz.prog 247 = some ir247 := by kernel_rfl
def ir248 : RI := ⟨20, 8, [o1 9 (.ta 36 zi (.tmp 8)), mv 7 9, ex 10 0 7, ex 11 1 7, mv 4 10, mv 5 11], (qR [mv 12 5] (.cond (.tmp 12) (qR [o1 6 (.mov kS)] (.reg [lD 13 1, lD 14 0, mv 15 6, mv 16 4, o1 17 (.nil (.tmp 13)), fA 18 0 17, fA 19 1 18, sT 1 19 14, sT 1 2 15, sT 1 3 16])) .skip))⟩
theorem fi248 : rinfo Tryz.prog 248 = some ir248 := by kernel_rfl
def ir249 : FI := ⟨10, [.tmp 4], (qR [mI 4 0] (.seq (qR [mv 5 1, o1 6 (.bin .neq 0 (.tmp 5) (ci 0))] (.cond (.tmp 6) (.reg [mv 7 1, o1 8 (.mki 36 (.tmp 7)), o0 (.pan (.tmp 8))]) .skip)) (qR [mv 9 0, mv 4 9] .ret)))⟩
theorem fi249 : finfo Tryz.prog 249 = some ir249 := by kernel_rfl
def ir250 : FI := ⟨10, [.tmp 4], (qR [o1 4 (.mov kS)] (.seq (qR [mv 5 1, o1 6 (.bin .neq 0 (.tmp 5) (ci 0))] (.cond (.tmp 6) (.reg [mv 7 1, o1 8 (.mki 36 (.tmp 7)), o0 (.pan (.tmp 8))]) .skip)) (qR [mv 9 0, mv 4 9] .ret)))⟩
theorem fi250 : finfo Tryz.prog 250 = some ir250 := by kernel_rfl
def ir251 : FI := ⟨54, [.tmp 6, .tmp 7], (qR [o1 6 (.mov kS), mI 7 0] (qR [o1 8 (.mov kS)] (.seq (qR [mv 12 0, o1 13 (.bin .eql 1 (.tmp 12) (.const (.pointer none))), mv 14 13, oF 15 (.mov (.tmp 0)) 14, oF 16 (.nil (.tmp 15)) 14, oF 17 (.fa 2 (.tmp 16)) 14, oF 18 (.ld none (.tmp 17)) 14, oF 19 (.un .not (.tmp 18)) 14, pT 20 14 19] (.cond (.tmp 20) (qR [mv 21 8, mv 6 21, mI 7 1] .ret) .skip)) (qR [mv 22 0, o1 23 (.nil (.tmp 22)), fA 24 0 23, fA 25 1 24, lD 26 25, mv 9 26] (qR [mv 28 0, o1 29 (.nil (.tmp 28)), fA 30 0 29, mv 31 1, c2 32 246 30 31, mv 27 32, ex 33 0 27, ex 34 1 27, mv 10 33, mv 7 34] (.seq (qR [mv 35 7, o1 36 (.bin .neq 0 (.tmp 35) (ci 0))] (.cond (.tmp 36) (qR [mv 37 8, mv 38 7, mv 6 37, mv 7 38] .ret) .skip)) (qR [mv 40 2, mv 41 10, o1 42 (.call (.tmp 40) [(.tmp 41)]), mv 39 42, ex 43 0 39, ex 44 1 39, mv 6 43, mv 11 44] (.seq (qR [mv 45 11, nT 46 45] (.cond (.tmp 46) (qR [mv 47 0, mv 48 9, o1 49 (.nil (.tmp 47)), fA 50 0 49, fA 51 1 50, sT 1 51 48] (qR [mv 52 8, mv 6 52, mI 7 6] .ret)) .skip)) (qR [mv 53 6, mv 6 53, mI 7 0] .ret)))))))))⟩
theorem fi251 : finfo Tryz.prog 251 = some ir251 := by kernel_rfl
def ir252 : FI := ⟨6, [.tmp 2, .tmp 3], (qR [o1 2 (.mov kS), o1 3 (.mov kF)] (qR [mv 4 0, c1 5 167 4, mv 2 5, o1 3 (.mov kT)] .ret))⟩
theorem fi252 : finfo Tryz.prog 252 = some ir252 := by kernel_rfl
def ir253 : FI := ⟨54, [.tmp 6, .tmp 7], (qR [o1 6 (.mov kE), mI 7 0] (qR [o1 8 (.mov kE)] (.seq (qR [mv 12 0, o1 13 (.bin .eql 1 (.tmp 12) (.const (.pointer none))), mv 14 13, oF 15 (.mov (.tmp 0)) 14, oF 16 (.nil (.tmp 15)) 14, oF 17 (.fa 2 (.tmp 16)) 14, oF 18 (.ld none (.tmp 17)) 14, oF 19 (.un .not (.tmp 18)) 14, pT 20 14 19] (.cond (.tmp 20) (qR [mv 21 8, mv 6 21, mI 7 1] .ret) .skip)) (qR [mv 22 0, o1 23 (.nil (.tmp 22)), fA 24 0 23, fA 25 1 24, lD 26 25, mv 9 26] (qR [mv 28 0, o1 29 (.nil (.tmp 28)), fA 30 0 29, mv 31 1, c2 32 246 30 31, mv 27 32, ex 33 0 27, ex 34 1 27, mv 10 33, mv 7 34] (.seq (qR [mv 35 7, o1 36 (.bin .neq 0 (.tmp 35) (ci 0))] (.cond (.tmp 36) (qR [mv 37 8, mv 38 7, mv 6 37, mv 7 38] .ret) .skip)) (qR [mv 40 2, mv 41 10, o1 42 (.call (.tmp 40) [(.tmp 41)]), mv 39 42, ex 43 0 39, ex 44 1 39, mv 6 43, mv 11 44] (.seq (qR [mv 45 11, nT 46 45] (.cond (.tmp 46) (qR [mv 47 0, mv 48 9, o1 49 (.nil (.tmp 47)), fA 50 0 49, fA 51 1 50, sT 1 51 48] (qR [mv 52 8, mv 6 52, mI 7 6] .ret)) .skip)) (qR [mv 53 6, mv 6 53, mI 7 0] .ret)))))))))⟩
theorem fi253 : finfo Tryz.prog 253 = some ir253 := by kernel_rfl
def ir254 : FI := ⟨6, [.tmp 2, .tmp 3], (qR [o1 2 (.mov kE), o1 3 (.mov kF)] (qR [mv 4 0, tS 5 4, mv 2 5, o1 3 (.mov kT)] .ret))⟩
theorem fi254 : finfo Tryz.prog 254 = some ir254 := by kernel_rfl
def ir255 : FI := ⟨10, [.tmp 4], (qR [o1 4 (.mov (.const (.pointer none)))] (.seq (qR [mv 5 1, o1 6 (.bin .neq 0 (.tmp 5) (ci 0))] (.cond (.tmp 6) (.reg [mv 7 1, o1 8 (.mki 36 (.tmp 7)), o0 (.pan (.tmp 8))]) .skip)) (qR [mv 9 0, mv 4 9] .ret)))⟩
theorem fi255 : finfo Tryz.prog 255 = some ir255 := by kernel_rfl
def ir256 : FI := ⟨35, [.tmp 6, .tmp 7], (qR [o1 3 (.box 240 (.tmp 0)), mI 6 0, o1 7 (.mov kF)] (qR [fA 11 0 3, lD 12 11, mv 13 1, c2 14 200 12 13, mv 10 14, ex 15 0 10, ex 16 1 10, ex 17 2 10, mv 8 15, mv 7 16, mv 9 17] (.seq (qR [mv 18 9, o1 19 (.bin .neq 0 (.tmp 18) (ci 0))] (.cond (.tmp 19) (.reg [mv 20 9, o1 21 (.mki 36 (.tmp 20)), o0 (.pan (.tmp 21))]) .skip)) (.seq (qR [mv 22 7, nT 23 22] (.cond (.tmp 23) (qR [mv 24 6, mv 6 24, o1 7 (.mov kF)] .ret) .skip)) (qR [mv 25 2, mv 26 8, o1 27 (.call (.tmp 25) [(.tmp 26)]), ex 28 0 27, ex 29 1 27, c2 30 273 28 29, mv 6 30] (qR [mv 31 8, o1 32 (.bld [(.pointer none)] (.fields [(0, 1)]) [(0, (.tmp 31))]), c1 33 222 32] (qR [mv 34 6, mv 6 34, o1 7 (.mov kT)] .ret)))))))⟩
theorem fi256 : finfo Tryz.prog 256 = some ir256 := by kernel_rfl
def ir257 : FI := ⟨35, [.cell 6 26, .tmp 7], (qR [o1 3 (.box 240 (.tmp 0)), o1 6 (.new 26 [zs, ze]), o1 7 (.mov kF)] (qR [fA 11 0 3, lD 12 11, mv 13 1, c2 14 200 12 13, mv 10 14, ex 15 0 10, ex 16 1 10, ex 17 2 10, mv 8 15, mv 7 16, mv 9 17] (.seq (qR [mv 18 9, o1 19 (.bin .neq 0 (.tmp 18) (ci 0))] (.cond (.tmp 19) (.reg [mv 20 9, o1 21 (.mki 36 (.tmp 20)), o0 (.pan (.tmp 21))]) .skip)) (.seq (qR [mv 22 7, nT 23 22] (.cond (.tmp 23) (qR [lG 24 2 6, sT 2 6 24, o1 7 (.mov kF)] .ret) .skip)) (qR [mv 25 2, mv 26 8, o1 27 (.call (.tmp 25) [(.tmp 26)]), ex 28 0 27, ex 29 1 27, c2 30 274 28 29, sT 2 6 30] (qR [mv 31 8, o1 32 (.bld [(.pointer none)] (.fields [(0, 1)]) [(0, (.tmp 31))]), c1 33 222 32] (qR [lG 34 2 6, sT 2 6 34, o1 7 (.mov kT)] .ret)))))))⟩
theorem fi257 : finfo Tryz.prog 257 = some ir257 := by kernel_rfl
def ir258 : FI := ⟨35, [.cell 6 29, .tmp 7], (qR [o1 3 (.box 240 (.tmp 0)), o1 6 (.new 29 [zi, zi, zs]), o1 7 (.mov kF)] (qR [fA 11 0 3, lD 12 11, mv 13 1, c2 14 200 12 13, mv 10 14, ex 15 0 10, ex 16 1 10, ex 17 2 10, mv 8 15, mv 7 16, mv 9 17] (.seq (qR [mv 18 9, o1 19 (.bin .neq 0 (.tmp 18) (ci 0))] (.cond (.tmp 19) (.reg [mv 20 9, o1 21 (.mki 36 (.tmp 20)), o0 (.pan (.tmp 21))]) .skip)) (.seq (qR [mv 22 7, nT 23 22] (.cond (.tmp 23) (qR [lG 24 3 6, sT 3 6 24, o1 7 (.mov kF)] .ret) .skip)) (qR [mv 25 2, mv 26 8, o1 27 (.call (.tmp 25) [(.tmp 26)]), ex 28 0 27, ex 29 1 27, c2 30 275 28 29, sT 3 6 30] (qR [mv 31 8, o1 32 (.bld [(.pointer none)] (.fields [(0, 1)]) [(0, (.tmp 31))]), c1 33 222 32] (qR [lG 34 3 6, sT 3 6 34, o1 7 (.mov kT)] .ret)))))))⟩
theorem fi258 : finfo Tryz.prog 258 = some ir258 := by kernel_rfl
def ir260 : FI := ⟨54, [.tmp 6, .tmp 7], (qR [o1 6 (.mov (.const (.int .u32 0))), mI 7 0] (qR [o1 8 (.mov (.const (.int .u32 0)))] (.seq (qR [mv 12 0, o1 13 (.bin .eql 1 (.tmp 12) (.const (.pointer none))), mv 14 13, oF 15 (.mov (.tmp 0)) 14, oF 16 (.nil (.tmp 15)) 14, oF 17 (.fa 2 (.tmp 16)) 14, oF 18 (.ld none (.tmp 17)) 14, oF 19 (.un .not (.tmp 18)) 14, pT 20 14 19] (.cond (.tmp 20) (qR [mv 21 8, mv 6 21, mI 7 1] .ret) .skip)) (qR [mv 22 0, o1 23 (.nil (.tmp 22)), fA 24 0 23, fA 25 1 24, lD 26 25, mv 9 26] (qR [mv 28 0, o1 29 (.nil (.tmp 28)), fA 30 0 29, mv 31 1, c2 32 246 30 31, mv 27 32, ex 33 0 27, ex 34 1 27, mv 10 33, mv 7 34] (.seq (qR [mv 35 7, o1 36 (.bin .neq 0 (.tmp 35) (ci 0))] (.cond (.tmp 36) (qR [mv 37 8, mv 38 7, mv 6 37, mv 7 38] .ret) .skip)) (qR [mv 40 2, mv 41 10, o1 42 (.call (.tmp 40) [(.tmp 41)]), mv 39 42, ex 43 0 39, ex 44 1 39, mv 6 43, mv 11 44] (.seq (qR [mv 45 11, nT 46 45] (.cond (.tmp 46) (qR [mv 47 0, mv 48 9, o1 49 (.nil (.tmp 47)), fA 50 0 49, fA 51 1 50, sT 1 51 48] (qR [mv 52 8, mv 6 52, mI 7 6] .ret)) .skip)) (qR [mv 53 6, mv 6 53, mI 7 0] .ret)))))))))⟩
theorem fi260 : finfo Tryz.prog 260 = some ir260 := by kernel_rfl
def ir261 : FI := ⟨17, [.tmp 2, .tmp 3], (qR [o1 2 (.mov (.const (.int .u32 0))), o1 3 (.mov kF)] (.seq (qR [mv 4 0, lN 5 false 4, o1 6 (.bin .neq 0 (.tmp 5) (ci 5)), mv 7 6, oF 8 (.mov (.tmp 0)) 7, oF 9 (.ia 1 (.tmp 8) (ci 0)) 7, oF 10 (.ld none (.tmp 9)) 7, oF 11 (.bin .neq 0 (.tmp 10) (.const (.int .u8 0))) 7, pT 12 7 11] (.cond (.tmp 12) (qR [o1 2 (.mov (.const (.int .u32 0))), o1 3 (.mov kF)] .ret) .skip)) (qR [mv 13 0, o1 14 (.sl (some 1) (.tmp 13) (some (ci 1)) none), c1 15 262 14, o1 16 (.toInt .u32 (.tmp 15)), mv 2 16, o1 3 (.mov kT)] .ret)))⟩
theorem fi261 : finfo Tryz.prog 261 = some ir261 := by kernel_rfl
def ir262 : FI := ⟨18, [.tmp 2], (qR [mI 2 0] (.seq (qR [mv 5 0, lN 6 false 5, mI 7 0] (.blk 0 (.loop (qR [bN 8 .lss 0 7 6] (.seq (cE 8 0) (.seq (.blk 1 (qR [iA 9 1 5 7, lD 10 9, mv 4 10] (.reg [mv 11 2, o1 12 (.bin .shl 0 (.tmp 11) (.const (.int .u64 8))), mv 13 4, o1 14 (.toInt .i64 (.tmp 13)), bN 15 .or 0 12 14, mv 2 15]))) (.reg [aI 16 7, mv 7 16]))))))) (qR [mv 17 2, mv 2 17] .ret)))⟩
theorem fi262 : finfo Tryz.prog 262 = some ir262 := by kernel_rfl
def ir263 : FI := ⟨13, [.tmp 2, .tmp 3], (qR [mI 2 0, o1 3 (.mov kF)] (.seq (qR [mv 5 0, lN 6 false 5, o1 7 (.bin .neq 0 (.tmp 6) (ci 6))] (.cond (.tmp 7) (qR [mI 2 0, o1 3 (.mov kF)] .ret) .skip)) (qR [mv 8 0, c1 9 262 8, mv 4 9] (qR [mv 10 4, mv 11 4, o1 12 (.bin .leq 0 (.tmp 11) (ci 1099511627776)), mv 2 10, mv 3 12] .ret))))⟩
theorem fi263 : finfo Tryz.prog 263 = some ir263 := by kernel_rfl
def ir272 : FI := ⟨65, [.tmp 2, .tmp 3, .tmp 4], (qR [mI 2 0, mI 3 0, mI 4 0] (.seq (qR [mv 10 0, lN 11 false 10, o1 12 (.bin .lss 0 (.tmp 11) (ci 2))] (.cond (.tmp 12) (qR [mI 2 0, mI 3 0, mI 4 4] .ret) .skip)) (qR [mv 13 0, o1 14 (.ia 1 (.tmp 13) (ci 1)), lD 15 14, o1 16 (.toInt .i64 (.tmp 15)), mv 5 16, mI 2 2] (.seq (qR [mv 17 5, o1 18 (.bin .geq 0 (.tmp 17) (ci 128))] (.cond (.tmp 18) (qR [mv 19 5, o1 20 (.bin .sub 0 (.tmp 19) (ci 128)), mv 6 20] (.seq (qR [mv 21 6, o1 22 (.bin .lss 0 (.tmp 21) (ci 1)), mv 23 22, oF 24 (.mov (.tmp 6)) 23, oF 25 (.bin .gtr 0 (.tmp 24) (ci 3)) 23, pT 26 23 25] (.cond (.tmp 26) (qR [mI 2 0, mI 3 0, mI 4 6] .ret) .skip)) (.seq (qR [mv 27 0, lN 28 false 27, mv 29 6, o1 30 (.bin .add 0 (ci 2) (.tmp 29)), bN 31 .lss 0 28 30] (.cond (.tmp 31) (qR [mI 2 0, mI 3 0, mI 4 4] .ret) .skip)) (qR [mv 32 6, o1 33 (.bin .add 0 (ci 2) (.tmp 32)), mI 5 0, mv 2 33] (.seq (qR [mv 34 0, mv 35 2, mv 36 2, o1 37 (.sl3 1 false (.tmp 34) (some (ci 2)) (.tmp 35) (.tmp 36)), lN 38 false 37, mI 39 0] (.blk 0 (.loop (qR [bN 40 .lss 0 39 38] (.seq (cE 40 0) (.seq (.blk 1 (qR [iA 41 1 37 39, lD 42 41, mv 8 42] (.reg [mv 43 5, o1 44 (.bin .shl 0 (.tmp 43) (.const (.int .u64 8))), mv 45 8, o1 46 (.toInt .i64 (.tmp 45)), bN 47 .or 0 44 46, mv 5 47]))) (.reg [aI 48 39, mv 39 48]))))))) (qR [o1 49 (.bld [zi, zi, zi, zi] (.arr 1) [(0, (ci 0)), (1, (ci 128)), (2, (ci 256)), (3, (ci 65536))]), o1 9 (.new 300 [zi, zi, zi, zi]), sT 4 9 49] (qR [mv 50 5, mv 51 6, o1 52 (.iaa 4 1 (.tmp 9) (.tmp 51)), lD 53 52, bN 54 .lss 0 50 53] (.cond (.tmp 54) (qR [mI 2 0, mI 3 0, mI 4 6] .ret) .skip)))))))) .skip)) (.seq (qR [mv 55 0, lN 56 false 55, mv 57 2, bN 58 .sub 0 56 57, mv 59 5, bN 60 .lss 0 58 59] (.cond (.tmp 60) (qR [mI 2 0, mI 3 0, mI 4 4] .ret) .skip)) (qR [mv 61 2, mv 62 2, mv 63 5, bN 64 .add 0 62 63, mv 2 61, mv 3 64, mI 4 0] .ret))))))⟩
theorem fi272 : finfo Tryz.prog 272 = some ir272 := by kernel_rfl
def ir273 : FI := ⟨10, [.tmp 4], (qR [mI 4 0] (.seq (qR [mv 5 1, o1 6 (.bin .neq 0 (.tmp 5) (ci 0))] (.cond (.tmp 6) (.reg [mv 7 1, o1 8 (.mki 36 (.tmp 7)), o0 (.pan (.tmp 8))]) .skip)) (qR [mv 9 0, mv 4 9] .ret)))⟩
theorem fi273 : finfo Tryz.prog 273 = some ir273 := by kernel_rfl
def ir274 : FI := ⟨10, [.cell 4 26], (qR [o1 2 (.box 26 (.tmp 0)), o1 4 (.new 26 [zs, ze])] (.seq (qR [mv 5 1, o1 6 (.bin .neq 0 (.tmp 5) (ci 0))] (.cond (.tmp 6) (.reg [mv 7 1, o1 8 (.mki 36 (.tmp 7)), o0 (.pan (.tmp 8))]) .skip)) (qR [lG 9 2 2, sT 2 4 9] .ret)))⟩
theorem fi274 : finfo Tryz.prog 274 = some ir274 := by kernel_rfl
def ir275 : FI := ⟨10, [.cell 4 29], (qR [o1 2 (.box 29 (.tmp 0)), o1 4 (.new 29 [zi, zi, zs])] (.seq (qR [mv 5 1, o1 6 (.bin .neq 0 (.tmp 5) (ci 0))] (.cond (.tmp 6) (.reg [mv 7 1, o1 8 (.mki 36 (.tmp 7)), o0 (.pan (.tmp 8))]) .skip)) (qR [lG 9 3 2, sT 3 4 9] .ret)))⟩
theorem fi275 : finfo Tryz.prog 275 = some ir275 := by kernel_rfl
attribute [go_sem] ir230 ir231 ir232 ir233 ir238 ir246 ir247 ir248 ir249 ir250 ir251 ir252 ir253 ir254 ir255 ir256 ir257 ir258 ir260 ir261 ir262 ir263 ir272 ir273 ir274 ir275
end Go.Proofs.YthmoognbccfpiaaGreatDoor
/- The functions of the program in the compact form. -/
namespace Go.Proofs.YthmoognbccfpiaaGreatDoor
open Go Go.Sx Go.Proofs
theorem mixed : Tryz.prog.follows .mixedOrders = true := by kernel_rfl
end Go.Proofs.YthmoognbccfpiaaGreatDoor
/- The data of the statements: principals, keys, key sets, entries, salts. -/
namespace Go.Proofs.YthmoognbccfpiaaGreatDoor
open Go Go.Sx Go.Proofs
abbrev I64 : Ty := .int .i64
abbrev PrinT : Ty := .prod (.slice .str) .str
abbrev KeyT : Ty := .prod I64 (.prod I64 (.slice .u8))
abbrev SetT : Ty := .prod I64 (.prod (.slice KeyT) (.prod .str (.prod I64 I64)))
abbrev Prin := PrinT.den
abbrev Key := KeyT.den
abbrev KSet := SetT.den
abbrev rI (n : Int) : SV := .raw (.int .i64 n)
abbrev rB (b : Bool) : SV := .raw (.bool b)
abbrev rS (s : ByteArray) : SV := .raw (.string s)
end Go.Proofs.YthmoognbccfpiaaGreatDoor

/- Contracts: between, every, ordered. -/
namespace Go.Proofs.YthmoognbccfpiaaGreatDoor
open Go Go.Sx Go.Proofs
set_option maxRecDepth 100000
set_option maxHeartbeats 4000000
set_option linter.unusedSimpArgs false

end Go.Proofs.YthmoognbccfpiaaGreatDoor

/- Contracts: ordered. -/
namespace Go.Proofs.YthmoognbccfpiaaGreatDoor
open Go Go.Sx Go.Proofs
set_option maxRecDepth 100000
set_option maxHeartbeats 4000000
set_option linter.unusedSimpArgs false

theorem rb {b c : Bool} (h : b = c) : Out.ret (SV.raw (.bool b)) = Out.ret (rB c) := by rw [h]
def allN (n : Nat) (q : Nat → Bool) : Bool := (List.range n).all q
theorem allN_iff {n : Nat} {q : Nat → Bool} : allN n q = true ↔ ∀ j, j < n → q j = true := by simp [allN]
theorem allN_false {n i : Nat} {q : Nat → Bool} (h : i < n) (hq : q i = false) : allN n q = false := by
 rw [Bool.eq_false_iff]; exact fun ha => by rw [allN_iff.1 ha i h] at hq; cases hq
theorem allN_true {n : Nat} {q : Nat → Bool} (h : ∀ j, j < n → q j = true) : allN n q = true := allN_iff.2 h
end Go.Proofs.YthmoognbccfpiaaGreatDoor

/- Contracts: the profiles. -/
namespace Go.Proofs.YthmoognbccfpiaaGreatDoor
open Go Go.Sx Go.Proofs
set_option maxRecDepth 100000
set_option maxHeartbeats 4000000
set_option linter.unusedSimpArgs false

@[go_sem] def fnV (f : Nat) : Value := .func (.func f) #[] #[]
def name1 : ByteArray := ⟨#[97, 101, 115, 49, 50, 56, 45, 99, 116, 115, 45, 104, 109, 97, 99, 45, 115, 104, 97, 50, 53, 54, 45, 49, 50, 56]⟩
def name2 : ByteArray := ⟨#[115, 116, 114, 101, 97, 109, 45, 104, 109, 97, 99, 45, 115, 104, 97, 50, 53, 54, 45, 50, 53, 54]⟩
def kind1 : List Value := [.string name1, .int .i64 16, .int .i64 16, .int .i64 16, .int .i64 16, fnV 240, fnV 241, fnV 242]
def kind2 : List Value := [.string name2, .int .i64 32, .int .i64 16, .int .i64 32, .int .i64 32, fnV 243, fnV 244, fnV 245]
abbrev kindsM : SV := .imap (some .i64) [.int .i64 1, .int .i64 2] [.agg kind1.toArray, .agg kind2.toArray]

theorem kinds_c : PC Tryz.prog 191 [] kindsM := by
 refine pc_of rfl rfl (vc_frzM ?_)
 refine runE mixed fi191 ?_
 exact ⟨_, _, _, [], rfl, rfl⟩

def keyLen (p : Int) : Int := if p = 1 then 16 else if p = 2 then 32 else 0
theorem keyLen_c (p : Int) : PC Tryz.prog 139 [rI p] (rI (keyLen p)) := by
 refine pc_of rfl rfl ?_
 refine runE mixed fi139 ?_
 refine callI_pure kinds_c ?_
 by_cases h1 : p = 1
 · subst h1
   refine run_sound mixed 600 _ ?_
   simp (maxSteps := 3000000) only [kind1, keyLen, go_sem, ↓zA, ↓reduceIte, ↓reduceDIte, reduceCtorEq, Nat.reduceAdd, Nat.reduceSub, Nat.reduceLeDiff, Nat.reduceLT, Nat.reduceEqDiff, Nat.reduceBEq, Nat.reduceMul, Int.reduceToNat, Int.reduceEq, Int.reduceLT, Int.reduceLE] <;> try simp only [zB]
 by_cases h2 : p = 2
 · subst h2
   refine run_sound mixed 600 _ ?_
   simp (maxSteps := 3000000) only [kind2, keyLen, go_sem, ↓zA, ↓reduceIte, ↓reduceDIte, reduceCtorEq, Nat.reduceAdd, Nat.reduceSub, Nat.reduceLeDiff, Nat.reduceLT, Nat.reduceEqDiff, Nat.reduceBEq, Nat.reduceMul, Int.reduceToNat, Int.reduceEq, Int.reduceLT, Int.reduceLE] <;> try simp only [zB]
 · refine run_sound mixed 600 _ ?_
   simp (maxSteps := 3000000) only [h1, h2, keyLen, go_sem, ↓zA, ↓reduceIte, ↓reduceDIte, reduceCtorEq, Nat.reduceAdd, Nat.reduceSub, Nat.reduceLeDiff, Nat.reduceLT, Nat.reduceEqDiff, Nat.reduceBEq, Nat.reduceMul, Int.reduceToNat, Int.reduceEq, Int.reduceLT, Int.reduceLE] <;> try simp only [zB]
end Go.Proofs.YthmoognbccfpiaaGreatDoor

/-
  A world that has grown: 'w.more u' keeps every block of w; regions that draw their order, walked in one order; for whatever program.
-/
namespace Go
open Go.RowKit

def Gr (w w' : World) : Prop := Below w.heap.size w w'

theorem Gr.refl (w : World) : Gr w w := Below.refl _ _
theorem Gr.trans {a b c : World} (h : Gr a b) (k : Gr b c) : Gr a c := Below.trans h (Below.mono k h.size)
theorem Gr.size {a b : World} (h : Gr a b) : a.heap.size ≤ b.heap.size := Below.size h
theorem Gr.cell {a b : World} (h : Gr a b) {p : Addr} (hp : p.block < a.heap.size) : b.cell? p = a.cell? p := Below.cell h hp
theorem Gr.frozen {a b : World} (h : Gr a b) {p : Addr} (hp : p.block < a.heap.size) : b.frozen? p = a.frozen? p := Below.frozen h hp
theorem Gr.block {a b : World} (h : Gr a b) {k : Nat} (hk : k < a.heap.size) : b.heap[k]? = a.heap[k]? := Below.block h k hk
theorem Gr.alloc (w : World) (o : Obj) : Gr w (w.alloc o) := (Below.refl _ _).alloc (Nat.le_refl _) _
theorem Gr.drew (w : World) : Gr w w.drew := (Below.refl _ _).drew
open Classical in
noncomputable def World.more (w u : World) : World := if Gr w u then u else w

section
variable {w u v : World}
theorem World.more_gr (w u : World) : Gr w (w.more u) := by
  unfold World.more
  split
  · assumption
  · exact Gr.refl w
theorem World.more_eq (h : Gr w u) : w.more u = u := by unfold World.more; rw [if_pos h]
theorem Gr.more (h : Gr w u) : ∃ x, u = w.more x := ⟨u, (World.more_eq h).symm⟩
theorem World.size_more (w u : World) : w.heap.size ≤ (w.more u).heap.size := (World.more_gr w u).size
@[go_sem] theorem World.cell?_more (w u : World) (a : Addr) (h : a.block < w.heap.size) : (w.more u).cell? a = w.cell? a := (World.more_gr w u).cell h
@[go_sem] theorem World.frozen?_more (w u : World) (a : Addr) (h : a.block < w.heap.size) : (w.more u).frozen? a = w.frozen? a := (World.more_gr w u).frozen h
end

@[go_sem] theorem World.cell?_more_a1 (w u : World) (o1 : Obj) (b i : Nat) (h : b < w.heap.size) : ((w.alloc o1).more u).cell? ⟨b, i, none⟩ = w.cell? ⟨b, i, none⟩ := by
  rw [World.cell?_more _ u ⟨b, i, none⟩ (by simp; omega)]
  rw [World.cell?_alloc_past _ _ _ h]
@[go_sem] theorem World.frozen?_more_a1 (w u : World) (o1 : Obj) (b i : Nat) (h : b < w.heap.size) : ((w.alloc o1).more u).frozen? ⟨b, i, none⟩ = w.frozen? ⟨b, i, none⟩ := by
  rw [World.frozen?_more _ u ⟨b, i, none⟩ (by simp; omega)]
  rw [World.frozen?_alloc_past _ _ _ h]
@[go_sem] theorem World.cell?_more_a2 (w u : World) (o1 o2 : Obj) (b i : Nat) (h : b < w.heap.size) : (((w.alloc o1).alloc o2).more u).cell? ⟨b, i, none⟩ = w.cell? ⟨b, i, none⟩ := by
  rw [World.cell?_more _ u ⟨b, i, none⟩ (by simp; omega)]
  rw [World.cell?_alloc_past _ _ _ (by simp; omega), World.cell?_alloc_past _ _ _ h]
@[go_sem] theorem World.frozen?_more_a2 (w u : World) (o1 o2 : Obj) (b i : Nat) (h : b < w.heap.size) : (((w.alloc o1).alloc o2).more u).frozen? ⟨b, i, none⟩ = w.frozen? ⟨b, i, none⟩ := by
  rw [World.frozen?_more _ u ⟨b, i, none⟩ (by simp; omega)]
  rw [World.frozen?_alloc_past _ _ _ (by simp; omega), World.frozen?_alloc_past _ _ _ h]
@[go_sem] theorem World.cell?_more_a3 (w u : World) (o1 o2 o3 : Obj) (b i : Nat) (h : b < w.heap.size) : ((((w.alloc o1).alloc o2).alloc o3).more u).cell? ⟨b, i, none⟩ = w.cell? ⟨b, i, none⟩ := by
  rw [World.cell?_more _ u ⟨b, i, none⟩ (by simp; omega)]
  rw [World.cell?_alloc_past _ _ _ (by simp; omega), World.cell?_alloc_past _ _ _ (by simp; omega), World.cell?_alloc_past _ _ _ h]
@[go_sem] theorem World.frozen?_more_a3 (w u : World) (o1 o2 o3 : Obj) (b i : Nat) (h : b < w.heap.size) : ((((w.alloc o1).alloc o2).alloc o3).more u).frozen? ⟨b, i, none⟩ = w.frozen? ⟨b, i, none⟩ := by
  rw [World.frozen?_more _ u ⟨b, i, none⟩ (by simp; omega)]
  rw [World.frozen?_alloc_past _ _ _ (by simp; omega), World.frozen?_alloc_past _ _ _ (by simp; omega), World.frozen?_alloc_past _ _ _ h]
@[go_sem] theorem World.cell?_more_a4 (w u : World) (o1 o2 o3 o4 : Obj) (b i : Nat) (h : b < w.heap.size) : (((((w.alloc o1).alloc o2).alloc o3).alloc o4).more u).cell? ⟨b, i, none⟩ = w.cell? ⟨b, i, none⟩ := by
  rw [World.cell?_more _ u ⟨b, i, none⟩ (by simp; omega)]
  rw [World.cell?_alloc_past _ _ _ (by simp; omega), World.cell?_alloc_past _ _ _ (by simp; omega), World.cell?_alloc_past _ _ _ (by simp; omega), World.cell?_alloc_past _ _ _ h]
@[go_sem] theorem World.frozen?_more_a4 (w u : World) (o1 o2 o3 o4 : Obj) (b i : Nat) (h : b < w.heap.size) : (((((w.alloc o1).alloc o2).alloc o3).alloc o4).more u).frozen? ⟨b, i, none⟩ = w.frozen? ⟨b, i, none⟩ := by
  rw [World.frozen?_more _ u ⟨b, i, none⟩ (by simp; omega)]
  rw [World.frozen?_alloc_past _ _ _ (by simp; omega), World.frozen?_alloc_past _ _ _ (by simp; omega), World.frozen?_alloc_past _ _ _ (by simp; omega), World.frozen?_alloc_past _ _ _ h]
@[go_sem] theorem World.cell?_more_a5 (w u : World) (o1 o2 o3 o4 o5 : Obj) (b i : Nat) (h : b < w.heap.size) : ((((((w.alloc o1).alloc o2).alloc o3).alloc o4).alloc o5).more u).cell? ⟨b, i, none⟩ = w.cell? ⟨b, i, none⟩ := by
  rw [World.cell?_more _ u ⟨b, i, none⟩ (by simp; omega)]
  rw [World.cell?_alloc_past _ _ _ (by simp; omega), World.cell?_alloc_past _ _ _ (by simp; omega), World.cell?_alloc_past _ _ _ (by simp; omega), World.cell?_alloc_past _ _ _ (by simp; omega), World.cell?_alloc_past _ _ _ h]
@[go_sem] theorem World.frozen?_more_a5 (w u : World) (o1 o2 o3 o4 o5 : Obj) (b i : Nat) (h : b < w.heap.size) : ((((((w.alloc o1).alloc o2).alloc o3).alloc o4).alloc o5).more u).frozen? ⟨b, i, none⟩ = w.frozen? ⟨b, i, none⟩ := by
  rw [World.frozen?_more _ u ⟨b, i, none⟩ (by simp; omega)]
  rw [World.frozen?_alloc_past _ _ _ (by simp; omega), World.frozen?_alloc_past _ _ _ (by simp; omega), World.frozen?_alloc_past _ _ _ (by simp; omega), World.frozen?_alloc_past _ _ _ (by simp; omega), World.frozen?_alloc_past _ _ _ h]
@[go_sem] theorem World.cell?_more_a6 (w u : World) (o1 o2 o3 o4 o5 o6 : Obj) (b i : Nat) (h : b < w.heap.size) : (((((((w.alloc o1).alloc o2).alloc o3).alloc o4).alloc o5).alloc o6).more u).cell? ⟨b, i, none⟩ = w.cell? ⟨b, i, none⟩ := by
  rw [World.cell?_more _ u ⟨b, i, none⟩ (by simp; omega)]
  rw [World.cell?_alloc_past _ _ _ (by simp; omega), World.cell?_alloc_past _ _ _ (by simp; omega), World.cell?_alloc_past _ _ _ (by simp; omega), World.cell?_alloc_past _ _ _ (by simp; omega), World.cell?_alloc_past _ _ _ (by simp; omega), World.cell?_alloc_past _ _ _ h]
@[go_sem] theorem World.frozen?_more_a6 (w u : World) (o1 o2 o3 o4 o5 o6 : Obj) (b i : Nat) (h : b < w.heap.size) : (((((((w.alloc o1).alloc o2).alloc o3).alloc o4).alloc o5).alloc o6).more u).frozen? ⟨b, i, none⟩ = w.frozen? ⟨b, i, none⟩ := by
  rw [World.frozen?_more _ u ⟨b, i, none⟩ (by simp; omega)]
  rw [World.frozen?_alloc_past _ _ _ (by simp; omega), World.frozen?_alloc_past _ _ _ (by simp; omega), World.frozen?_alloc_past _ _ _ (by simp; omega), World.frozen?_alloc_past _ _ _ (by simp; omega), World.frozen?_alloc_past _ _ _ (by simp; omega), World.frozen?_alloc_past _ _ _ h]
@[go_sem] theorem nat_lt_size_more {a : Nat} (w u : World) (h : a < w.heap.size) : (a < (w.more u).heap.size) = True := eq_true (Nat.lt_of_lt_of_le h (World.size_more w u))

def stillUpon (w : World) (v : Value) : Result Next → Prop
  | .ok (.value u) w' => w' = w ∧ u = v
  | .ok .skip w' => w' = w ∧ v = undef
  | _ => False
attribute [go_sem] stillUpon

section
variable {P : Program} {ops : Array Oper} {Q : Exit → Act → World → Prop} {md : Region.Mode} {C : World → Prop}

def NoPan (Q : Exit → Act → World → Prop) : Exit → Act → World → Prop
  | .panic _, _, _ => False
  | e, a, w => Q e a w
theorem NoPan.toQ {Q : Exit → Act → World → Prop} : ∀ (e : Exit) (a : Act) (w : World), NoPan Q e a w → Q e a w := fun e a w h => by
  cases e <;> first | exact h | exact (h : False).elim

end
end Go

/-
  How data lie in memory: 'Rep': a type of data, the number of its cells, and when cells read as a datum. For whatever program.
-/
namespace Go
open Go.RowKit

structure Foot where
  S : Nat → Prop
  wr : Bool

structure Rep (α : Type) where
  size : Nat
  rel : World → Foot → List Value → α → Prop
  len : ∀ {w F cs a}, rel w F cs a → cs.length = size
  keep : ∀ {w w' F cs a}, (∀ k, F.S k → w'.heap[k]? = w.heap[k]?) → rel w F cs a → rel w' F cs a
  mono : ∀ {w F F' cs a}, (∀ k, F.S k → F'.S k) → (F'.wr = true → F.wr = true) → rel w F cs a → rel w F' cs a
  one : ∀ {w F cs a}, rel w F cs a → ∀ v ∈ cs, v.oneCell' = true

def Foot.all (w : World) : Foot := ⟨fun k => k < w.heap.size, false⟩

namespace Rep
variable {α β : Type}

theorem gr {r : Rep α} {w w' : World} {cs : List Value} {a : α} (h : r.rel w (Foot.all w) cs a) (g : Gr w w') : r.rel w' (Foot.all w') cs a :=
  r.mono (F := Foot.all w) (fun _ hk => Nat.lt_of_lt_of_le hk g.size) (fun h => h) (r.keep (fun _ hk => g.block hk) h)

theorem more {r : Rep α} {w : World} {cs : List Value} {a : α} (h : r.rel w (Foot.all w) cs a) (u : World) : r.rel (w.more u) (Foot.all (w.more u)) cs a :=
  r.gr h (World.more_gr w u)

def int (k : IntKind) : Rep Int where
  size := 1
  rel := fun _ _ cs n => cs = [.int k n] ∧ (Lit.int k n).wf = true
  len := fun h => by rw [h.1]; rfl
  keep := fun _ h => h
  mono := fun _ _ h => h
  one := fun h v hv => by rw [h.1] at hv; simp at hv; subst hv; rfl

def bool : Rep Bool where
  size := 1
  rel := fun _ _ cs b => cs = [.bool b]
  len := fun h => by rw [h]; rfl
  keep := fun _ h => h
  mono := fun _ _ h => h
  one := fun h v hv => by rw [h] at hv; simp at hv; subst hv; rfl

def u8 : Rep UInt8 where
  size := 1
  rel := fun _ _ cs b => cs = [.int .u8 b.toNat]
  len := fun h => by rw [h]; rfl
  keep := fun _ h => h
  mono := fun _ _ h => h
  one := fun h v hv => by rw [h] at hv; simp at hv; subst hv; rfl

def str : Rep ByteArray where
  size := 1
  rel := fun _ _ cs s => cs = [.string s] ∧ s.size ≤ 140737488355328
  len := fun h => by rw [h.1]; rfl
  keep := fun _ h => h
  mono := fun _ _ h => h
  one := fun h v hv => by rw [h.1] at hv; simp at hv; subst hv; rfl

def Sl (r : Rep α) (w : World) (F : Foot) (A : Option Addr) (n : Nat) (xs : List α) : Prop :=
  n = xs.length ∧ n * r.size ≤ 1125899906842624 ∧ n ≤ 1125899906842624 ∧
  (0 < n → ∃ b off, A = some ⟨b, off, none⟩ ∧ F.S b ∧ b < w.heap.size ∧
    ∀ i (hi : i < xs.length), ∃ es, (∀ j, j < r.size → w.cell? ⟨b, off + i * r.size + j, none⟩ = es[j]? ∧ (F.wr = true → w.frozen? ⟨b, off + i * r.size + j, none⟩ = false)) ∧ r.rel w F es xs[i])

theorem Sl.keep {r : Rep α} {w w' : World} {F : Foot} {A : Option Addr} {n : Nat} {xs : List α} (hk : ∀ k, F.S k → w'.heap[k]? = w.heap[k]?) (h : Sl r w F A n xs) : Sl r w' F A n xs := by
  obtain ⟨h1, h2, h3, h4⟩ := h
  refine ⟨h1, h2, h3, fun hn => ?_⟩
  obtain ⟨b, off, hA, hS, hb, hc⟩ := h4 hn
  have hblk := hk b hS
  refine ⟨b, off, hA, hS, ?_, fun i hi => ?_⟩
  · rcases Nat.lt_or_ge b w'.heap.size with h | h
    · exact h
    · rw [Array.getElem?_eq_none h, Array.getElem?_eq_getElem hb] at hblk; cases hblk
  · obtain ⟨es, he, hr⟩ := hc i hi
    exact ⟨es, fun j hj => ⟨(World.cell?_of_block (a := ⟨b, off + i * r.size + j, none⟩) hblk).trans (he j hj).1, fun hw => (World.frozen?_of_block (a := ⟨b, off + i * r.size + j, none⟩) hblk).trans ((he j hj).2 hw)⟩, r.keep hk hr⟩

theorem Sl.mono {r : Rep α} {w : World} {F F' : Foot} {A : Option Addr} {n : Nat} {xs : List α} (hs : ∀ k, F.S k → F'.S k) (hw : F'.wr = true → F.wr = true) (h : Sl r w F A n xs) : Sl r w F' A n xs := by
  obtain ⟨h1, h2, h3, h4⟩ := h
  refine ⟨h1, h2, h3, fun hn => ?_⟩
  obtain ⟨b, off, hA, hS, hb, hc⟩ := h4 hn
  refine ⟨b, off, hA, hs b hS, hb, fun i hi => ?_⟩
  obtain ⟨es, he, hr⟩ := hc i hi
  exact ⟨es, fun j hj => ⟨(he j hj).1, fun h => (he j hj).2 (hw h)⟩, r.mono hs hw hr⟩

def slice (r : Rep α) : Rep (List α) where
  size := 1
  rel := fun w F cs xs => ∃ A n c, cs = [.slice A n c] ∧ n ≤ c ∧ Sl r w F A n xs
  len := fun h => by obtain ⟨_, _, _, h, _⟩ := h; rw [h]; rfl
  keep := fun hk h => by obtain ⟨A, n, c, h1, h2, h3⟩ := h; exact ⟨A, n, c, h1, h2, h3.keep hk⟩
  mono := fun hs hw h => by obtain ⟨A, n, c, h1, h2, h3⟩ := h; exact ⟨A, n, c, h1, h2, h3.mono hs hw⟩
  one := fun h v hv => by obtain ⟨_, _, _, h, _⟩ := h; rw [h] at hv; simp at hv; subst hv; rfl

def prod (r : Rep α) (s : Rep β) : Rep (α × β) where
  size := r.size + s.size
  rel := fun w F cs p => ∃ xs ys, cs = xs ++ ys ∧ r.rel w F xs p.1 ∧ s.rel w F ys p.2
  len := fun h => by obtain ⟨xs, ys, h, hx, hy⟩ := h; rw [h, List.length_append, r.len hx, s.len hy]
  keep := fun hk h => by obtain ⟨xs, ys, h, hx, hy⟩ := h; exact ⟨xs, ys, h, r.keep hk hx, s.keep hk hy⟩
  mono := fun hs hw h => by obtain ⟨xs, ys, h, hx, hy⟩ := h; exact ⟨xs, ys, h, r.mono hs hw hx, s.mono hs hw hy⟩
  one := fun h v hv => by
    obtain ⟨xs, ys, h, hx, hy⟩ := h
    rw [h, List.mem_append] at hv
    rcases hv with hv | hv
    · exact r.one hx v hv
    · exact s.one hy v hv

def map (r : Rep α) (f : β → α) : Rep β where
  size := r.size
  rel := fun w F cs b => r.rel w F cs (f b)
  len := fun h => r.len h
  keep := fun hk h => r.keep hk h
  mono := fun hs hw h => r.mono hs hw h
  one := fun h => r.one h

section
variable {r : Rep α} {w w' : World} {F : Foot} {A : Option Addr} {n : Nat} {xs : List α}
theorem Sl.gr (h : Sl r w (Foot.all w) A n xs) (g : Gr w w') : Sl r w' (Foot.all w') A n xs :=
  Sl.mono (F := Foot.all w) (fun _ hk => Nat.lt_of_lt_of_le hk g.size) (fun h => h) (h.keep (w' := w') fun _ hk => g.block hk)
theorem Sl.more (h : Sl r w (Foot.all w) A n xs) (u : World) : Sl r (w.more u) (Foot.all (w.more u)) A n xs := h.gr (World.more_gr w u)
theorem Sl.alloc (h : Sl r w (Foot.all w) A n xs) (o : Obj) : Sl r (w.alloc o) (Foot.all (w.alloc o)) A n xs := h.gr (Gr.alloc w o)
theorem Sl.drew (h : Sl r w (Foot.all w) A n xs) : Sl r w.drew (Foot.all w.drew) A n xs := h.gr (Gr.drew w)
theorem Sl.all (h : Sl r w F A n xs) (hh : ∀ k, F.S k → k < w.heap.size) : Sl r w (Foot.all w) A n xs := h.mono hh (fun h => by cases h)
theorem Sl.len_ (h : Sl r w F A n xs) : n = xs.length := h.1
theorem Sl.nil : Sl r w F A 0 [] := ⟨rfl, by omega, by omega, fun h => absurd h (by omega)⟩
end

def Chunks (r : Rep α) (w : World) (F : Foot) (cs : List Value) (xs : List α) : Prop :=
  cs.length = xs.length * r.size ∧ ∀ i (hi : i < xs.length), r.rel w F ((cs.drop (i * r.size)).take r.size) xs[i]

theorem Chunks.nil {r : Rep α} {w : World} {F : Foot} : Chunks r w F [] [] := ⟨by simp, fun i hi => absurd hi (by simp)⟩
theorem Chunks.keep {r : Rep α} {w w' : World} {F : Foot} {cs : List Value} {xs : List α} (hk : ∀ k, F.S k → w'.heap[k]? = w.heap[k]?) (h : Chunks r w F cs xs) : Chunks r w' F cs xs := ⟨h.1, fun i hi => r.keep hk (h.2 i hi)⟩
theorem Chunks.mono {r : Rep α} {w : World} {F F' : Foot} {cs : List Value} {xs : List α} (hs : ∀ k, F.S k → F'.S k) (hw : F'.wr = true → F.wr = true) (h : Chunks r w F cs xs) : Chunks r w F' cs xs := ⟨h.1, fun i hi => r.mono hs hw (h.2 i hi)⟩
theorem Chunks.one_ {r : Rep α} {w : World} {F : Foot} {cs : List Value} {x : α} (h : r.rel w F cs x) : Chunks r w F cs [x] := by
  refine ⟨by simp [r.len h], fun i hi => ?_⟩
  obtain rfl : i = 0 := by simpa using hi
  simpa [List.take_of_length_le, r.len h] using h
theorem Chunks.append {r : Rep α} {w : World} {F : Foot} {cs ds : List Value} {xs ys : List α} (h : Chunks r w F cs xs) (k : Chunks r w F ds ys) : Chunks r w F (cs ++ ds) (xs ++ ys) := by
  refine ⟨by simp [h.1, k.1, Nat.add_mul], fun i hi => ?_⟩
  by_cases hlt : i < xs.length
  · have hle : i * r.size + r.size ≤ cs.length := by
      rw [h.1]
      calc i * r.size + r.size = (i + 1) * r.size := by rw [Nat.add_mul, Nat.one_mul]
        _ ≤ xs.length * r.size := Nat.mul_le_mul_right _ hlt
    have e1 : ((cs ++ ds).drop (i * r.size)).take r.size = (cs.drop (i * r.size)).take r.size := by
      rw [List.drop_append_of_le_length (by omega), List.take_append_of_le_length (by simp; omega)]
    have e2 : (xs ++ ys)[i] = xs[i] := List.getElem_append_left hlt
    rw [e1, e2]
    exact h.2 i hlt
  · have hlen : (xs ++ ys).length = xs.length + ys.length := List.length_append
    obtain ⟨j, rfl⟩ : ∃ j, i = xs.length + j := ⟨i - xs.length, by omega⟩
    have e1 : ((cs ++ ds).drop ((xs.length + j) * r.size)).take r.size = (ds.drop (j * r.size)).take r.size := by
      rw [Nat.add_mul, ← h.1, List.drop_append, List.drop_eq_nil_of_le (by omega)]
      simp
    have e2 : (xs ++ ys)[xs.length + j] = ys[j]'(by omega) := by simp [List.getElem_append_right]
    rw [e1, e2]
    exact k.2 j (by omega)

theorem Sl.flat {r : Rep α} {w : World} {F : Foot} {A : Option Addr} {n : Nat} {xs : List α} (h : Sl r w F A n xs) :
    ∃ cs, Chunks r w F cs xs ∧ (0 < n → ∃ b off, A = some ⟨b, off, none⟩ ∧ F.S b ∧ b < w.heap.size ∧ ∀ j u, cs[j]? = some u → w.cell? ⟨b, off + j, none⟩ = some u) := by
  obtain ⟨h1, h2, h3, h4⟩ := h
  rcases Nat.eq_zero_or_pos n with h0 | h0
  · obtain rfl : xs = [] := List.eq_nil_of_length_eq_zero (by omega)
    exact ⟨[], Chunks.nil, fun h => absurd h (by omega)⟩
  · obtain ⟨b, off, hA, hS, hb, hc⟩ := h4 h0
    have hx : ∀ m, m ≤ xs.length → ∃ cs, Chunks r w F cs (xs.take m) ∧ ∀ j u, cs[j]? = some u → w.cell? ⟨b, off + j, none⟩ = some u := by
      intro m
      induction m with
      | zero => exact fun _ => ⟨[], by simpa using Chunks.nil, by simp⟩
      | succ m ih =>
        intro hm
        obtain ⟨cs, hch, hcell⟩ := ih (by omega)
        obtain ⟨es, he, hr⟩ := hc m (by omega)
        have hlen : cs.length = m * r.size := by rw [hch.1, List.length_take, Nat.min_eq_left (by omega)]
        refine ⟨cs ++ es, ?_, fun j u hu => ?_⟩
        · rw [List.take_succ_eq_append_getElem (by omega)]
          exact hch.append (Chunks.one_ hr)
        · by_cases hj : j < cs.length
          · rw [List.getElem?_append_left hj] at hu
            exact hcell j u hu
          · rw [List.getElem?_append_right (by omega)] at hu
            have hjs : j - cs.length < r.size := by rw [← r.len hr]; exact (List.getElem?_eq_some_iff.1 hu).1
            have := (he (j - cs.length) hjs).1
            rw [show off + m * r.size + (j - cs.length) = off + j by omega] at this
            rw [this, hu]
    obtain ⟨cs, hch, hcell⟩ := hx xs.length (Nat.le_refl _)
    rw [List.take_length] at hch
    exact ⟨cs, hch, fun _ => ⟨b, off, hA, hS, hb, hcell⟩⟩

def OwnS (r : Rep α) (e : TypeId) (w : World) (B : Nat) (F : Foot) (v : Value) (xs : List α) : Prop :=
  ∃ cs, w.ownsRow B e r.size v xs.length cs ∧ Chunks r w F cs xs ∧ ∀ k, F.S k → v.ownBlock ≠ some k ∧ k < w.heap.size

def Foot.none : Foot := ⟨fun _ => False, true⟩
def Foot.or (F G : Foot) : Foot := ⟨fun k => F.S k ∨ G.S k, F.wr && G.wr⟩
def Foot.plus (F : Foot) (b : Option Nat) : Foot := ⟨fun k => F.S k ∨ b = some k, F.wr⟩

theorem OwnS.nil (r : Rep α) (e : TypeId) (w : World) (B : Nat) : OwnS r e w B Foot.none (.slice .none 0 0) [] :=
  ⟨[], ⟨by simp, .inl ⟨rfl, rfl⟩⟩, Chunks.nil, fun _ h => h.elim⟩

theorem ownsRow_gr {w w' : World} {B : Nat} {e : TypeId} {size : Nat} {v : Value} {n : Nat} {cs : List Value} (h : w.ownsRow B e size v n cs) (g : Gr w w') : w'.ownsRow B e size v n cs := by
  obtain ⟨h1, h2⟩ := h
  refine ⟨h1, ?_⟩
  rcases h2 with h2 | ⟨b, cap, cur, hv, hg, hh, rest⟩
  · exact .inl h2
  · exact .inr ⟨b, cap, cur, hv, hg, (g.block (Array.getElem?_eq_some_iff.1 hh).1).trans hh, rest⟩

theorem OwnS.keep {r : Rep α} {e : TypeId} {w w' : World} {B : Nat} {F : Foot} {v : Value} {xs : List α} (h : OwnS r e w B F v xs) (g : Gr w w') : OwnS r e w' B F v xs := by
  obtain ⟨cs, ho, hc, hn⟩ := h
  exact ⟨cs, ownsRow_gr ho g, hc.keep fun k hk => g.block (hn k hk).2, fun k hk => ⟨(hn k hk).1, Nat.lt_of_lt_of_le (hn k hk).2 g.size⟩⟩

theorem OwnS.mono {r : Rep α} {e : TypeId} {w : World} {B : Nat} {F F' : Foot} {v : Value} {xs : List α} (h : OwnS r e w B F v xs) (hs : ∀ k, F.S k → F'.S k) (hw : F'.wr = true → F.wr = true) (hn : ∀ k, F'.S k → v.ownBlock ≠ some k ∧ k < w.heap.size) : OwnS r e w B F' v xs := by
  obtain ⟨cs, ho, hc, _⟩ := h
  exact ⟨cs, ho, hc.mono hs hw, hn⟩

theorem OwnS.sl {r : Rep α} {e : TypeId} {w : World} {B : Nat} {F : Foot} {v : Value} {xs : List α} (h : OwnS r e w B F v xs) (hb : xs.length * r.size ≤ 1125899906842624) (hb2 : xs.length ≤ 1125899906842624) :
    ∃ A c, v = .slice A xs.length c ∧ xs.length ≤ c ∧ Sl r w (Foot.plus F v.ownBlock) A xs.length xs := by
  obtain ⟨cs, ⟨h1, h2⟩, hc, hn⟩ := h
  rcases h2 with ⟨rfl, h0⟩ | ⟨g, cap, cur, rfl, hg, hh, hle, hmax, hsz, htk⟩
  · obtain rfl : xs = [] := List.eq_nil_of_length_eq_zero h0
    exact ⟨.none, 0, rfl, Nat.le_refl _, Sl.nil⟩
  · refine ⟨some ⟨g, 0, .none⟩, cap, rfl, hle, rfl, hb, hb2, fun hn0 => ⟨g, 0, rfl, .inr rfl, (Array.getElem?_eq_some_iff.1 hh).1, fun i hi => ?_⟩⟩
    refine ⟨(cs.drop (i * r.size)).take r.size, fun j hj => ⟨?_, fun _ => by simp [World.frozen?, hh]⟩, r.mono (F := F) (fun k hk => .inl hk) (fun h => h) (hc.2 i hi)⟩
    have hle2 : i * r.size + r.size ≤ xs.length * r.size := by
      have := Nat.mul_le_mul_right r.size hi
      rw [Nat.succ_mul] at this
      exact this
    rw [List.getElem?_take_of_lt hj, List.getElem?_drop, ← htk, List.getElem?_take_of_lt (by omega)]
    simp [World.cell?, hh]

theorem OwnS.blk {r : Rep α} {e : TypeId} {w : World} {B : Nat} {F : Foot} {v : Value} {xs : List α} (h : OwnS r e w B F v xs) {k : Nat} (hk : v.ownBlock = some k) : B ≤ k ∧ k < w.heap.size := by
  obtain ⟨cs, ⟨h1, h2⟩, _, _⟩ := h
  rcases h2 with ⟨rfl, h0⟩ | ⟨g, cap, cur, rfl, hg, hh, rest⟩
  · cases hk
  · simp [Value.ownBlock] at hk
    subst hk
    exact ⟨hg, (Array.getElem?_eq_some_iff.1 hh).1⟩

section
variable {P : Program} (w : World)
end

def _root_.Go.Foot.fresh (B : Nat) (w : World) : Foot := ⟨fun k => B ≤ k ∧ k < w.heap.size, true⟩
def _root_.Go.Foot.sans (B : Nat) (w : World) (v : Value) : Foot := ⟨fun k => B ≤ k ∧ k < w.heap.size ∧ v.ownBlock ≠ some k, true⟩
def OwnF (r : Rep α) (e : TypeId) (w : World) (B : Nat) (v : Value) (xs : List α) : Prop := OwnS r e w B (Foot.sans B w v) v xs

theorem OwnF.nil (r : Rep α) (e : TypeId) (w : World) (B : Nat) : OwnF r e w B (.slice .none 0 0) [] :=
  (OwnS.nil r e w B).mono (fun _ h => h.elim) (fun _ => rfl) (fun _ h => ⟨h.2.2, h.2.1⟩)
theorem OwnF.empty (r : Rep α) (e : TypeId) (w : World) (B g c : Nat) (hg : B ≤ g) (cur : Array Value) (hh : w.heap[g]? = some (.cells cur e (0, 0))) (hc : cur.size = c * r.size) (hm : c ≤ maxLen) : OwnF r e w B (.slice (some ⟨g, 0, .none⟩) 0 c) [] :=
  ⟨[], ⟨by simp, .inr ⟨g, c, cur, rfl, hg, hh, Nat.zero_le _, hm, hc, by simp⟩⟩, Chunks.nil, fun _ h => ⟨h.2.2, h.2.1⟩⟩
theorem OwnF.gr {r : Rep α} {e : TypeId} {w w' : World} {B : Nat} {v : Value} {xs : List α} (h : OwnF r e w B v xs) (g : Gr w w') : OwnF r e w' B v xs :=
  (OwnS.keep h g).mono (fun _ hk => ⟨hk.1, Nat.lt_of_lt_of_le hk.2.1 g.size, hk.2.2⟩) (fun h => h) (fun _ hk => ⟨hk.2.2, hk.2.1⟩)
theorem OwnF.more {r : Rep α} {e : TypeId} {w : World} {B : Nat} {v : Value} {xs : List α} (h : OwnF r e w B v xs) (u : World) : OwnF r e (w.more u) B v xs := h.gr (World.more_gr w u)
theorem OwnF.sl {r : Rep α} {e : TypeId} {w : World} {B : Nat} {v : Value} {xs : List α} (h : OwnF r e w B v xs) (hb : xs.length * r.size ≤ 1125899906842624) (hb2 : xs.length ≤ 1125899906842624) :
    ∃ A c, v = .slice A xs.length c ∧ xs.length ≤ c ∧ Sl r w (Foot.fresh B w) A xs.length xs := by
  obtain ⟨A, c, hv, hc, hs⟩ := OwnS.sl h hb hb2
  refine ⟨A, c, hv, hc, Sl.mono (F := Foot.plus (Foot.sans B w v) v.ownBlock) (fun k hk => ?_) (fun h => h) hs⟩
  rcases hk with hk | hk
  · exact ⟨hk.1, hk.2.1⟩
  · exact OwnS.blk h hk

section
variable {P : Program} (w : World)
end

theorem Sl.src {r : Rep α} {w : World} {F : Foot} {A : Option Addr} {n : Nat} {xs : List α} (h : Sl r w F A n xs) :
    ∃ cs, Chunks r w F cs xs ∧ (0 < n → ∃ b off, A = some ⟨b, off, .none⟩ ∧ ∀ j u, cs[j]? = some u → w.cell? ⟨b, off + j, .none⟩ = some u) := by
  obtain ⟨cs, h1, h2⟩ := h.flat
  exact ⟨cs, h1, fun hn => by obtain ⟨b, off, hA, _, _, hc⟩ := h2 hn; exact ⟨b, off, hA, hc⟩⟩

def Src (w : World) (A : Option Addr) (n : Nat) (ds : List Value) : Prop := 0 < n → ∃ b off, A = some ⟨b, off, .none⟩ ∧ ∀ j u, ds[j]? = some u → w.cell? ⟨b, off + j, .none⟩ = some u
theorem Src.gr {w w' : World} {A : Option Addr} {n : Nat} {ds : List Value} (h : Src w A n ds) (g : Gr w w') : Src w' A n ds := fun hn => by
  obtain ⟨b, off, e, hc⟩ := h hn
  exact ⟨b, off, e, fun j u hu => (g.cell (World.block_lt_of_cell? w ⟨b, off + j, .none⟩ (hc j u hu))).trans (hc j u hu)⟩
theorem Src.new (w : World) (ds : List Value) (t : TypeId) (n : Nat) : Src (w.alloc (.cells ds.toArray t)) (some ⟨w.heap.size, 0, .none⟩) n ds := fun _ =>
  ⟨w.heap.size, 0, rfl, fun j u hu => by simp [World.cell?_alloc_new, hu]⟩

end Rep
end Go

/-
  Contracts of small functions: numbers and strings alone.
-/
namespace Go.Proofs.YthmoognbccfpiaaGreatDoor
open Go Go.RowKit

def Ret (w : World) (v : Value) (e : Ending) (w' : World) : Prop := e = .returned v ∧ Gr w w'

theorem ba_toList_inj {a b : ByteArray} (h : a.toList = b.toList) : a = b := by
  rw [ByteArray.toList_eq, ByteArray.toList_eq] at h
  exact ByteArray.ext (Array.toList_inj.1 h)

theorem ret_bool {a b : Bool} (h : a = b) : Ending.returned (.bool a) = .returned (.bool b) := by rw [h]
theorem ret_int {k : IntKind} {a b : Int} (h : a = b) : Ending.returned (.int k a) = .returned (.int k b) := by rw [h]

def sizedB (s : ByteArray) : Bool := decide (1 ≤ s.size) && decide (s.size ≤ 32)

theorem sized_c (s : ByteArray) (w : World) (hs : s.size ≤ 140737488355328) (B : Bool) (HB : Hid (B = sizedB s)) : Calls Tryz.prog 189 #[.string s] w (Ret w (.bool B)) := by
  by_cases h1 : 1 ≤ s.size
  all_goals
    go_enter Tryz.func189, Tryz.ntmps189
    go_wp2
    go_ret
    refine ⟨ret_bool ?_, Gr.refl w⟩
    rw [HB.out, sizedB]
    simp [h1]
    try omega

theorem take_snoc (s : ByteArray) (k : Nat) (h : k < s.size) : s.data.toList.take (k + 1) = s.data.toList.take k ++ [s[k]] := by
  rw [List.take_succ_eq_append_getElem (by simpa using h)]; rfl

theorem all_snoc {s : ByteArray} {k : Nat} (h : k < s.size) {f : UInt8 → Bool} (ha : (s.data.toList.take k).all f = true) (hk : f s[k] = true) : (s.data.toList.take (k + 1)).all f = true := by
  rw [take_snoc s k h, List.all_append, ha]; simp [hk]
theorem all_not {s : ByteArray} {k : Nat} (h : k < s.size) {f : UInt8 → Bool} (hk : f s[k] = false) : s.data.toList.all f = false := by
  rw [List.all_eq_false]
  exact ⟨s[k], by rw [show s[k] = s.data.toList[k]'(by simpa using h) from rfl]; exact List.getElem_mem _, by simp [hk]⟩
theorem all_end {s : ByteArray} {k : Nat} (h : ¬ k < s.size) {f : UInt8 → Bool} (ha : (s.data.toList.take k).all f = true) : s.data.toList.all f = true := by
  rw [List.take_of_length_le (by have : s.size = s.data.toList.length := by simp
                                 omega)] at ha
  exact ha
end Go.Proofs.YthmoognbccfpiaaGreatDoor

