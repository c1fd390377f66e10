/- The functions of the program in the compact form; the kernel checks each. -/
import Derived.Test.YtmegaleepkmadaaGreatDoorP10
import Derived.Test.YtmegaleepkmadaaGreatDoorProg
import Derived.KernelRfl
import Derived.Test.YtmegaleepkmadaaGreatDoorP11
import Derived.Test.YtmegaleepkmadaaGreatDoorP12
import Derived.Test.YtmegaleepkmadaaGreatDoorP8
import Derived.WalkKit
import Derived.WalkSpells
import Derived.Deep.QuietTactic
import Derived.Lib.Hide
set_option linter.unusedSimpArgs false
set_option linter.unusedVariables false
set_option linter.unusedSectionVars false
namespace Go.Proofs.YtmegaleepkmadaaGreatDoor
open Go Go.Sx Go.Proofs
set_option maxRecDepth 100000
def ir130 : FI := ⟨29, [.tmp 2], (qR [o1 2 (.mov kS)] (.seq (qR [mv 6 0, lN 7 false 6, o1 8 (.bin .gtr 0 (.tmp 7) (ci 16))] (.cond (.tmp 8) (qR [o1 2 (.mov kS)] .ret) .skip)) (qR [o1 3 (.mov kS)] (.seq (qR [mv 9 0, lN 10 false 9, mI 11 0] (.blk 0 (.loop (qR [bN 12 .lss 0 11 10] (.seq (cE 12 0) (.seq (.blk 1 (qR [iA 13 2 9 11, lG 14 2 13, o1 5 (.new 122 [zi, zs]), sT 2 5 14] (.drw [(true, mv 15 3), (true, fA 16 0 5), (true, lD 17 16), (true, fA 19 1 5), (true, lD 20 19), (false, c1 18 67 17), (false, c1 21 182 20), (false, o1 22 (.bsl (.slice .u8) 2 1 [zs, zs] [(0, (.tmp 18)), (1, (.tmp 21))])), (false, c1 23 181 22), (false, o1 24 (.bsl (.slice .u8) 1 1 [zs] [(0, (.tmp 23))])), (false, o1 25 (.app (.slice .u8) 24 (.tmp 15) (.tmp 24))), (true, mv 3 25)]))) (.reg [aI 26 11, mv 11 26]))))))) (qR [mv 27 3, c1 28 183 27, mv 2 28] .ret)))))⟩
theorem fi130 : finfo Tryz.prog 130 = some ir130 := by kernel_rfl
def ir131 : FI := ⟨7, [.tmp 2], (qR [o1 2 (.mov (.const (.pointer none)))] (qR [mv 3 0, o1 4 (.bld [zs, zi] (.fields [(0, 1), (1, 1)]) [(0, (.tmp 3)), (1, (ci 0))]), o1 5 (.bld [zs, zi, (.bool false)] (.fields [(0, 2), (2, 1)]) [(0, (.tmp 4)), (1, kT)]), o1 6 (.box 161 (.tmp 5)), mv 2 6] .ret))⟩
theorem fi131 : finfo Tryz.prog 131 = some ir131 := by kernel_rfl
def ir132 : FI := ⟨8, [.tmp 2], (qR [o1 2 (.mov kS)] (.seq (qR [mv 3 0, o1 4 (.bin .eql 5 (.tmp 3) kS)] (.cond (.tmp 4) (qR [o1 2 (.mov kS)] .ret) .skip)) (qR [o1 5 (.bsl .u8 0 1 [] []), mv 6 0, o1 7 (.app .u8 1 (.tmp 5) (.tmp 6)), mv 2 7] .ret)))⟩
theorem fi132 : finfo Tryz.prog 132 = some ir132 := by kernel_rfl
def ir133 : FI := ⟨17, [.tmp 2], (qR [mI 2 0] (.seq (.blk 0 (qR [mv 4 0, o1 5 (.bin .eql 1 (.tmp 4) (.const (.pointer none))), mv 6 5, oF 7 (.mov (.tmp 0)) 6, oF 8 (.nil (.tmp 7)) 6, oF 9 (.fa 2 (.tmp 8)) 6, oF 10 (.ld none (.tmp 9)) 6, oF 11 (.un .not (.tmp 10)) 6, pT 12 6 11, mv 3 12] (.cond (.tmp 3) (qR [mI 2 1] .ret) (qR [mv 14 0, c1 15 148 14, o1 16 (.bin .gtr 0 (.tmp 15) (ci 0)), mv 13 16] (.cond (.tmp 13) (qR [mI 2 5] .ret) .skip))))) (qR [mI 2 0] .ret)))⟩
theorem fi133 : finfo Tryz.prog 133 = some ir133 := by kernel_rfl
def ir134 : FI := ⟨9, [.tmp 4], (qR [o1 4 (.mov (.const (.pointer none)))] (qR [mv 5 1, o1 6 (.bin .eql 0 (.tmp 5) (ci 0)), c1 7 78 6] (qR [mv 8 0, mv 4 8] .ret)))⟩
theorem fi134 : finfo Tryz.prog 134 = some ir134 := by kernel_rfl
def ir135 : FI := ⟨28, [.tmp 4, .tmp 5], (qR [o1 4 (.mov (.const (.pointer none))), mI 5 0] (.seq (qR [mv 6 0, o1 7 (.bin .eql 1 (.tmp 6) (.const (.pointer none))), mv 8 7, oF 9 (.mov (.tmp 0)) 8, oF 10 (.nil (.tmp 9)) 8, oF 11 (.fa 2 (.tmp 10)) 8, oF 12 (.ld none (.tmp 11)) 8, oF 13 (.un .not (.tmp 12)) 8, pT 14 8 13] (.cond (.tmp 14) (qR [o1 4 (.mov (.const (.pointer none))), mI 5 1] .ret) .skip)) (.seq (qR [mv 15 1, o1 16 (.bin .lss 0 (.tmp 15) (ci 0)), mv 17 16, oF 18 (.mov (.tmp 1)) 17, oF 19 (.bin .gtr 0 (.tmp 18) (ci 30)) 17, pT 20 17 19] (.cond (.tmp 20) (qR [o1 4 (.mov (.const (.pointer none))), mI 5 2] .ret) .skip)) (qR [mv 21 0, mv 22 1, o1 23 (.bin .add 0 (ci 96) (.tmp 22)), o1 24 (.toInt .u8 (.tmp 23)), o1 25 (.call (.func 184) [(.tmp 21), (.tmp 24), (.func 185)]), ex 26 0 25, ex 27 1 25, mv 4 26, mv 5 27] .ret))))⟩
theorem fi135 : finfo Tryz.prog 135 = some ir135 := by kernel_rfl
def ir136 : FI := ⟨12, [], (qR [o1 2 (.box 88 (.tmp 0))] (.drw [(true, fA 3 0 2), (true, lD 4 3), (true, lD 9 1), (false, c1 5 138 4), (true, ex 6 0 5), (true, ex 7 1 5), (false, c2 8 137 6 7), (true, bN 10 .eql 0 8 9), (false, c1 11 78 10)]))⟩
theorem fi136 : finfo Tryz.prog 136 = some ir136 := by kernel_rfl
def ir137 : FI := ⟨9, [.tmp 4], (qR [mI 4 0] (qR [mv 5 1, o1 6 (.bin .eql 0 (.tmp 5) (ci 0)), c1 7 78 6] (qR [mv 8 0, mv 4 8] .ret)))⟩
theorem fi137 : finfo Tryz.prog 137 = some ir137 := by kernel_rfl
def ir138 : FI := ⟨8, [.tmp 2, .tmp 3], (qR [mI 2 0, mI 3 0] (qR [mv 4 0, o1 5 (.call (.func 186) [(.tmp 4), (.const (.int .u8 2)), (.func 187)]), ex 6 0 5, ex 7 1 5, mv 2 6, mv 3 7] .ret))⟩
theorem fi138 : finfo Tryz.prog 138 = some ir138 := by kernel_rfl
def ir139 : FI := ⟨9, [], (qR [o1 2 (.box 88 (.tmp 0))] (.reg [fA 3 0 2, lD 4 3, c1 5 140 4, ex 6 0 5, ex 7 1 5, c2 8 137 6 7, sT 1 1 8]))⟩
theorem fi139 : finfo Tryz.prog 139 = some ir139 := by kernel_rfl
def ir140 : FI := ⟨8, [.tmp 2, .tmp 3], (qR [mI 2 0, mI 3 0] (qR [mv 4 0, o1 5 (.call (.func 186) [(.tmp 4), (.const (.int .u8 24)), (.func 188)]), ex 6 0 5, ex 7 1 5, mv 2 6, mv 3 7] .ret))⟩
theorem fi140 : finfo Tryz.prog 140 = some ir140 := by kernel_rfl
def ir141 : FI := ⟨9, [], (qR [o1 2 (.box 88 (.tmp 0))] (.reg [fA 3 0 2, lD 4 3, c1 5 138 4, ex 6 0 5, ex 7 1 5, c2 8 137 6 7, sT 1 1 8]))⟩
theorem fi141 : finfo Tryz.prog 141 = some ir141 := by kernel_rfl
def ir142 : FI := ⟨51, [.tmp 4, .tmp 5, .tmp 6], (qR [o1 4 (.mov (.const (.pointer none))), o1 5 (.mov kF), mI 6 0] (.seq (qR [mv 8 0, o1 9 (.bin .eql 1 (.tmp 8) (.const (.pointer none))), mv 10 9, oF 11 (.mov (.tmp 0)) 10, oF 12 (.nil (.tmp 11)) 10, oF 13 (.fa 2 (.tmp 12)) 10, oF 14 (.ld none (.tmp 13)) 10, oF 15 (.un .not (.tmp 14)) 10, pT 16 10 15] (.cond (.tmp 16) (qR [o1 4 (.mov (.const (.pointer none))), o1 5 (.mov kF), mI 6 1] .ret) .skip)) (.seq (qR [mv 17 1, o1 18 (.bin .lss 0 (.tmp 17) (ci 0)), mv 19 18, oF 20 (.mov (.tmp 1)) 19, oF 21 (.bin .gtr 0 (.tmp 20) (ci 30)) 19, pT 22 19 21] (.cond (.tmp 22) (qR [o1 4 (.mov (.const (.pointer none))), o1 5 (.mov kF), mI 6 2] .ret) .skip)) (.seq (qR [mv 23 0, o1 24 (.nil (.tmp 23)), fA 25 0 24, c1 26 190 25, mv 7 26] (qR [mv 27 7, lN 28 false 27, o1 29 (.bin .eql 0 (.tmp 28) (ci 0)), mv 30 29, oF 31 (.mov (.tmp 7)) 30, oF 32 (.ia 1 (.tmp 31) (ci 0)) 30, oF 33 (.ld none (.tmp 32)) 30, oF 34 (.mov (.tmp 1)) 30, oF 35 (.bin .add 0 (ci 160) (.tmp 34)) 30, oF 36 (.toInt .u8 (.tmp 35)) 30, oF 37 (.bin .neq 0 (.tmp 33) (.tmp 36)) 30, pT 38 30 37] (.cond (.tmp 38) (qR [o1 4 (.mov (.const (.pointer none))), o1 5 (.mov kF), mI 6 0] .ret) .skip))) (qR [mv 40 0, mv 41 1, o1 42 (.bin .add 0 (ci 160) (.tmp 41)), o1 43 (.toInt .u8 (.tmp 42)), o1 44 (.call (.func 184) [(.tmp 40), (.tmp 43), (.func 185)]), mv 39 44, ex 45 0 39, ex 46 1 39, mv 4 45, mv 6 46] (qR [mv 47 4, mv 48 6, o1 49 (.bin .eql 0 (.tmp 48) (ci 0)), mv 50 6, mv 4 47, mv 5 49, mv 6 50] .ret))))))⟩
theorem fi142 : finfo Tryz.prog 142 = some ir142 := by kernel_rfl
def ir143 : FI := ⟨16, [.tmp 2], (qR [o1 2 (.mov (.const (.pointer none)))] (.seq (qR [mv 4 0, o1 5 (.bin .eql 1 (.tmp 4) (.const (.pointer none))), mv 6 5, oF 7 (.mov (.tmp 0)) 6, oF 8 (.nil (.tmp 7)) 6, oF 9 (.fa 2 (.tmp 8)) 6, oF 10 (.ld none (.tmp 9)) 6, oF 11 (.un .not (.tmp 10)) 6, pT 12 6 11] (.cond (.tmp 12) (qR [o1 2 (.mov (.const (.pointer none)))] .ret) .skip)) (qR [mv 13 0, o1 14 (.nil (.tmp 13)), lG 15 3 14, o1 3 (.new 161 [zs, zi, (.bool false)]), sT 3 3 15] (qR [mv 2 3] .ret))))⟩
theorem fi143 : finfo Tryz.prog 143 = some ir143 := by kernel_rfl
def ir144 : RI := ⟨19, 7, [o1 8 (.ta 31 zi (.tmp 7)), mv 6 8, ex 9 0 6, ex 10 1 6, mv 4 9, mv 5 10], (qR [mv 11 5] (.cond (.tmp 11) (.seq (.drw [(true, lD 12 1), (true, lD 13 0), (true, o1 14 (.nil (.tmp 13))), (true, lG 15 3 14), (true, o1 16 (.nil (.tmp 12))), (false, sT 3 16 15)]) (.reg [o1 17 (.bld [zs, ze] (.fields [(0, 1), (1, 1)]) []), mv 18 4, sT 2 2 17, sT 1 3 18])) .skip))⟩
theorem fi144 : rinfo Tryz.prog 144 = some ir144 := by kernel_rfl
def ir145 : FI := ⟨10, [.tmp 4], (qR [o1 4 (.mov (.const (.pointer none)))] (.seq (qR [mv 5 1, o1 6 (.bin .neq 0 (.tmp 5) (ci 0))] (.cond (.tmp 6) (.reg [mv 7 1, o1 8 (.mki 31 (.tmp 7)), o0 (.pan (.tmp 8))]) .skip)) (qR [mv 9 0, mv 4 9] .ret)))⟩
theorem fi145 : finfo Tryz.prog 145 = some ir145 := by kernel_rfl
def ir146 : FI := ⟨8, [.tmp 2, .tmp 3], (qR [o1 2 (.mov (.const (.pointer none))), mI 3 0] (qR [mv 4 0, o1 5 (.call (.func 184) [(.tmp 4), (.const (.int .u8 48)), (.func 185)]), ex 6 0 5, ex 7 1 5, mv 2 6, mv 3 7] .ret))⟩
theorem fi146 : finfo Tryz.prog 146 = some ir146 := by kernel_rfl
def ir147 : FI := ⟨47, [.tmp 6], (qR [o1 6 (.mov (.const (.pointer none)))] (qR [mv 12 0, mv 13 1, c2 14 142 12 13, mv 11 14, ex 15 0 11, ex 16 1 11, ex 17 2 11, mv 7 15, mv 8 16, mv 9 17] (.seq (.blk 0 (qR [mv 19 9, o1 20 (.bin .neq 0 (.tmp 19) (ci 0)), mv 18 20] (.cond (.tmp 18) (.reg [mv 21 9, o1 22 (.mki 31 (.tmp 21)), o0 (.pan (.tmp 22))]) (qR [mv 24 8, nT 25 24, mv 26 25, oT 27 (.mov (.tmp 0)) 26, oT 28 (.call (.func 148) [(.tmp 27)]) 26, oT 29 (.bin .eql 0 (.tmp 28) (ci 0)) 26, pF 30 26 29, mv 23 30] (.cond (.tmp 23) (.reg [o1 31 (.mki 31 (ci 4)), o0 (.pan (.tmp 31))]) (qR [mv 33 8, nT 34 33, mv 32 34] (.cond (.tmp 32) (.reg [o1 35 (.mki 31 (ci 6)), o0 (.pan (.tmp 35))]) .skip))))))) (qR [mv 36 2, mv 37 7, o1 38 (.call (.tmp 36) [(.tmp 37)]), ex 39 0 38, ex 40 1 38, c2 41 145 39 40, mv 10 41] (.seq (qR [mv 42 7, c1 43 148 42, o1 44 (.bin .gtr 0 (.tmp 43) (ci 0))] (.cond (.tmp 44) (.reg [o1 45 (.mki 31 (ci 6)), o0 (.pan (.tmp 45))]) .skip)) (qR [mv 46 10, mv 6 46] .ret))))))⟩
theorem fi147 : finfo Tryz.prog 147 = some ir147 := by kernel_rfl
def ir148 : FI := ⟨17, [.tmp 2], (qR [mI 2 0] (.seq (qR [mv 3 0, o1 4 (.bin .eql 1 (.tmp 3) (.const (.pointer none))), mv 5 4, oF 6 (.mov (.tmp 0)) 5, oF 7 (.nil (.tmp 6)) 5, oF 8 (.fa 2 (.tmp 7)) 5, oF 9 (.ld none (.tmp 8)) 5, oF 10 (.un .not (.tmp 9)) 5, pT 11 5 10] (.cond (.tmp 11) (qR [mI 2 0] .ret) .skip)) (qR [mv 12 0, o1 13 (.nil (.tmp 12)), fA 14 0 13, c1 15 190 14, lN 16 false 15, mv 2 16] .ret)))⟩
theorem fi148 : finfo Tryz.prog 148 = some ir148 := by kernel_rfl
def ir149 : FI := ⟨10, [.tmp 4], (qR [o1 4 (.mov kE)] (.seq (qR [mv 5 1, o1 6 (.bin .neq 0 (.tmp 5) (ci 0))] (.cond (.tmp 6) (.reg [mv 7 1, o1 8 (.mki 31 (.tmp 7)), o0 (.pan (.tmp 8))]) .skip)) (qR [mv 9 0, mv 4 9] .ret)))⟩
theorem fi149 : finfo Tryz.prog 149 = some ir149 := by kernel_rfl
def ir150 : FI := ⟨47, [.tmp 6], (qR [o1 6 (.mov kE)] (qR [mv 12 0, mv 13 1, c2 14 142 12 13, mv 11 14, ex 15 0 11, ex 16 1 11, ex 17 2 11, mv 7 15, mv 8 16, mv 9 17] (.seq (.blk 0 (qR [mv 19 9, o1 20 (.bin .neq 0 (.tmp 19) (ci 0)), mv 18 20] (.cond (.tmp 18) (.reg [mv 21 9, o1 22 (.mki 31 (.tmp 21)), o0 (.pan (.tmp 22))]) (qR [mv 24 8, nT 25 24, mv 26 25, oT 27 (.mov (.tmp 0)) 26, oT 28 (.call (.func 148) [(.tmp 27)]) 26, oT 29 (.bin .eql 0 (.tmp 28) (ci 0)) 26, pF 30 26 29, mv 23 30] (.cond (.tmp 23) (.reg [o1 31 (.mki 31 (ci 4)), o0 (.pan (.tmp 31))]) (qR [mv 33 8, nT 34 33, mv 32 34] (.cond (.tmp 32) (.reg [o1 35 (.mki 31 (ci 6)), o0 (.pan (.tmp 35))]) .skip))))))) (qR [mv 36 2, mv 37 7, o1 38 (.call (.tmp 36) [(.tmp 37)]), ex 39 0 38, ex 40 1 38, c2 41 149 39 40, mv 10 41] (.seq (qR [mv 42 7, c1 43 148 42, o1 44 (.bin .gtr 0 (.tmp 43) (ci 0))] (.cond (.tmp 44) (.reg [o1 45 (.mki 31 (ci 6)), o0 (.pan (.tmp 45))]) .skip)) (qR [mv 46 10, mv 6 46] .ret))))))⟩
theorem fi150 : finfo Tryz.prog 150 = some ir150 := by kernel_rfl
def ir151 : FI := ⟨9, [], (qR [o1 2 (.box 88 (.tmp 0))] (.reg [fA 3 0 2, lD 4 3, c1 5 88 4, ex 6 0 5, ex 7 1 5, c2 8 87 6 7, sT 2 1 8]))⟩
theorem fi151 : finfo Tryz.prog 151 = some ir151 := by kernel_rfl
def ir152 : FI := ⟨54, [.tmp 6, .tmp 7], (qR [o1 6 (.mov kE), mI 7 0] (qR [o1 8 (.mov kE)] (.seq (qR [mv 12 0, o1 13 (.bin .eql 1 (.tmp 12) (.const (.pointer none))), mv 14 13, oF 15 (.mov (.tmp 0)) 14, oF 16 (.nil (.tmp 15)) 14, oF 17 (.fa 2 (.tmp 16)) 14, oF 18 (.ld none (.tmp 17)) 14, oF 19 (.un .not (.tmp 18)) 14, pT 20 14 19] (.cond (.tmp 20) (qR [mv 21 8, mv 6 21, mI 7 1] .ret) .skip)) (qR [mv 22 0, o1 23 (.nil (.tmp 22)), fA 24 0 23, fA 25 1 24, lD 26 25, mv 9 26] (qR [mv 28 0, o1 29 (.nil (.tmp 28)), fA 30 0 29, mv 31 1, c2 32 191 30 31, mv 27 32, ex 33 0 27, ex 34 1 27, mv 10 33, mv 7 34] (.seq (qR [mv 35 7, o1 36 (.bin .neq 0 (.tmp 35) (ci 0))] (.cond (.tmp 36) (qR [mv 37 8, mv 38 7, mv 6 37, mv 7 38] .ret) .skip)) (qR [mv 40 2, mv 41 10, o1 42 (.call (.tmp 40) [(.tmp 41)]), mv 39 42, ex 43 0 39, ex 44 1 39, mv 6 43, mv 11 44] (.seq (qR [mv 45 11, nT 46 45] (.cond (.tmp 46) (qR [mv 47 0, mv 48 9, o1 49 (.nil (.tmp 47)), fA 50 0 49, fA 51 1 50, sT 1 51 48] (qR [mv 52 8, mv 6 52, mI 7 6] .ret)) .skip)) (qR [mv 53 6, mv 6 53, mI 7 0] .ret)))))))))⟩
theorem fi152 : finfo Tryz.prog 152 = some ir152 := by kernel_rfl
def ir153 : FI := ⟨6, [.tmp 2, .tmp 3], (qR [o1 2 (.mov kE), o1 3 (.mov kF)] (qR [mv 4 0, tS 5 4, mv 2 5, o1 3 (.mov kT)] .ret))⟩
theorem fi153 : finfo Tryz.prog 153 = some ir153 := by kernel_rfl
def ir154 : FI := ⟨21, [], (qR [o1 2 (.box 88 (.tmp 0))] (qR [fA 5 0 2, lD 6 5, c1 7 156 6, ex 8 0 7, ex 9 1 7, c2 10 155 8 9, lN 11 false 10, mI 12 0] (.blk 0 (.loop (qR [bN 13 .lss 0 12 11] (.seq (cE 13 0) (.seq (.blk 1 (qR [iA 14 2 10 12, lG 15 2 14, o1 4 (.new 122 [zi, zs]), sT 2 4 15] (.reg [lD 16 1, lG 17 2 4, o1 18 (.bsl (.prod (.int .i64) (.slice .u8)) 1 2 [zi, zs] [(0, (.tmp 17))]), o1 19 (.app (.prod (.int .i64) (.slice .u8)) 32 (.tmp 16) (.tmp 18)), sT 1 1 19]))) (.reg [aI 20 12, mv 12 20]))))))))⟩
theorem fi154 : finfo Tryz.prog 154 = some ir154 := by kernel_rfl
def ir155 : FI := ⟨9, [.tmp 4], (qR [o1 4 (.mov kS)] (qR [mv 5 1, o1 6 (.bin .eql 0 (.tmp 5) (ci 0)), c1 7 78 6] (qR [mv 8 0, mv 4 8] .ret)))⟩
theorem fi155 : finfo Tryz.prog 155 = some ir155 := by kernel_rfl
def ir156 : FI := ⟨8, [.tmp 2, .tmp 3], (qR [o1 2 (.mov kS), mI 3 0] (qR [mv 4 0, o1 5 (.call (.func 192) [(.tmp 4), (.func 193)]), ex 6 0 5, ex 7 1 5, mv 2 6, mv 3 7] .ret))⟩
theorem fi156 : finfo Tryz.prog 156 = some ir156 := by kernel_rfl
def ir157 : FI := ⟨7, [.tmp 2], (qR [o1 2 (.mov kS)] (qR [o1 3 (.bsl .u8 0 1 [] []), mv 4 0, c1 5 34 4, o1 6 (.app .u8 1 (.tmp 3) (.tmp 5)), mv 2 6] .ret))⟩
theorem fi157 : finfo Tryz.prog 157 = some ir157 := by kernel_rfl
def ir158 : FI := ⟨5, [.tmp 2], (qR [o1 2 (.mov kS)] (qR [mv 3 0, o1 4 (.call (.func 97) [(ci 4), (.tmp 3)]), mv 2 4] .ret))⟩
theorem fi158 : finfo Tryz.prog 158 = some ir158 := by kernel_rfl
def ir159 : FI := ⟨4, [.tmp 1], (qR [o1 1 (.mov kS)] (qR [lD 2 0, c1 3 68 2, mv 1 3] .ret))⟩
theorem fi159 : finfo Tryz.prog 159 = some ir159 := by kernel_rfl
def ir160 : FI := ⟨4, [.tmp 1], (qR [o1 1 (.mov kS)] (qR [lD 2 0, c1 3 161 2, mv 1 3] .ret))⟩
theorem fi160 : finfo Tryz.prog 160 = some ir160 := by kernel_rfl
def ir163 : FI := ⟨12, [.tmp 2, .tmp 3, .tmp 4], (qR [mI 2 0, mI 3 0, o1 4 (.mov kF)] (qR [mI 2 25, mI 3 3] (.seq (qR [mv 5 0] (.blk 0 (.seq (.blk 2 (.seq (.blk 1 (.seq (.seq (qR [o1 7 (.bin .eql 0 (.tmp 5) (ci 12)), mv 6 7] (.cond (.tmp 6) (.exit 1) .skip)) (qR [o1 9 (.bin .eql 0 (.tmp 5) (ci 10)), mv 8 9] (.cond (.tmp 8) (.exit 2) .skip))) (.exit 0))) (.reg [mI 2 26, mI 3 8]))) (.seq (qR [mv 10 2, mv 11 3, mv 2 10, mv 3 11, o1 4 (.mov kT)] .ret) (.exit 0))))) (qR [mI 2 0, mI 3 0, o1 4 (.mov kF)] .ret))))⟩
theorem fi163 : finfo Tryz.prog 163 = some ir163 := by kernel_rfl
def ir164 : FI := ⟨10, [.tmp 4], (qR [o1 4 (.mov kF)] (qR [mv 5 0, mv 6 1, bN 7 .and 0 5 6, mv 8 1, bN 9 .eql 0 7 8, mv 4 9] .ret))⟩
theorem fi164 : finfo Tryz.prog 164 = some ir164 := by kernel_rfl
def ir167 : FI := ⟨10, [.cell 4 49], (qR [o1 2 (.box 88 (.tmp 0)), o1 4 (.new 49 [(.int .u32 0)])] (qR [lG 5 1 2, mv 6 1, o1 7 (.mkf 204 [] [(.tmp 4)]), c3 8 115 5 6 7] (qR [lD 9 4, sT 1 4 9] .ret)))⟩
theorem fi167 : finfo Tryz.prog 167 = some ir167 := by kernel_rfl
def ir168 : FI := ⟨10, [.cell 4 3], (qR [o1 2 (.box 88 (.tmp 0)), o1 4 (.new 3 [zi])] (qR [lG 5 1 2, mv 6 1, o1 7 (.mkf 207 [] [(.tmp 4)]), c3 8 85 5 6 7] (qR [lD 9 4, sT 1 4 9] .ret)))⟩
theorem fi168 : finfo Tryz.prog 168 = some ir168 := by kernel_rfl
def ir169 : FI := ⟨8, [], (qR [o1 2 (.box 88 (.tmp 0))] (.drw [(true, lD 3 1), (true, lG 4 1 2), (false, o1 5 (.call (.func 170) [(.tmp 4), (.func 171)])), (true, o1 6 (.nil (.tmp 3))), (true, fA 7 11 6), (false, sT 1 7 5)]))⟩
theorem fi169 : finfo Tryz.prog 169 = some ir169 := by kernel_rfl
def ir170 : FI := ⟨9, [.cell 4 47], (qR [o1 2 (.box 88 (.tmp 0)), o1 3 (.box 185 (.tmp 1)), o1 4 (.new 47 [zs])] (qR [lG 5 1 2, o1 6 (.mkf 208 [] [(.tmp 4), (.tmp 3)]), c2 7 117 5 6] (qR [lD 8 4, sT 1 4 8] .ret)))⟩
theorem fi170 : finfo Tryz.prog 170 = some ir170 := by kernel_rfl
def ir171 : FI := ⟨9, [.tmp 2], (qR [o1 1 (.box 88 (.tmp 0)), mI 2 0] (qR [fA 3 0 1, lD 4 3, c1 5 138 4, ex 6 0 5, ex 7 1 5, c2 8 137 6 7, mv 2 8] .ret))⟩
theorem fi171 : finfo Tryz.prog 171 = some ir171 := by kernel_rfl
def ir172 : FI := ⟨10, [.cell 4 50], (qR [o1 2 (.box 88 (.tmp 0)), o1 4 (.new 50 [zs])] (qR [lG 5 1 2, mv 6 1, o1 7 (.mkf 209 [] [(.tmp 4)]), c3 8 85 5 6 7] (qR [lD 9 4, sT 1 4 9] .ret)))⟩
theorem fi172 : finfo Tryz.prog 172 = some ir172 := by kernel_rfl
def ir178 : FI := ⟨9, [.tmp 4], (qR [o1 4 (.mov kF)] (qR [mv 5 0, mv 6 1, c2 7 215 5 6, o1 8 (.bin .geq 0 (.tmp 7) (ci 0)), mv 4 8] .ret))⟩
theorem fi178 : finfo Tryz.prog 178 = some ir178 := by kernel_rfl
def ir179 : FI := ⟨11, [.tmp 2], (qR [o1 2 (.mov kF)] (qR [mv 3 0, lN 4 true 3, o1 5 (.bin .geq 0 (.tmp 4) (ci 1)), mv 6 5, oT 7 (.mov (.tmp 0)) 6, oT 8 (.len true (.tmp 7)) 6, oT 9 (.bin .leq 0 (.tmp 8) (ci 32)) 6, pF 10 6 9, mv 2 10] .ret))⟩
theorem fi179 : finfo Tryz.prog 179 = some ir179 := by kernel_rfl
def ir181 : FI := ⟨22, [.tmp 2], (qR [o1 2 (.mov kS)] (qR [o1 3 (.mov kS)] (.seq (qR [mv 6 0, lN 7 false 6, mI 8 0] (.blk 0 (.loop (qR [bN 9 .lss 0 8 7] (.seq (cE 9 0) (.seq (.blk 1 (qR [mv 10 8, iA 11 1 6 8, lD 12 11, mv 4 10, mv 5 12] (.reg [mv 13 3, mv 14 4, mv 15 5, c2 16 66 14 15, o1 17 (.bsl (.slice .u8) 1 1 [zs] [(0, (.tmp 16))]), o1 18 (.app (.slice .u8) 24 (.tmp 13) (.tmp 17)), mv 3 18]))) (.reg [aI 19 8, mv 8 19]))))))) (qR [mv 20 3, c1 21 183 20, mv 2 21] .ret))))⟩
theorem fi181 : finfo Tryz.prog 181 = some ir181 := by kernel_rfl
def ir182 : FI := ⟨6, [.tmp 2], (qR [o1 2 (.mov kS)] (qR [mv 3 0, o1 4 (.bsl (.slice .u8) 1 1 [zs] [(0, (.tmp 3))]), o1 5 (.call (.func 126) [(.const (.int .u8 4)), (.tmp 4)]), mv 2 5] .ret))⟩
theorem fi182 : finfo Tryz.prog 182 = some ir182 := by kernel_rfl
def ir183 : FI := ⟨17, [.tmp 2], (qR [o1 2 (.mov kS)] (.seq (qR [mv 5 0, lN 6 false 5, mI 7 0] (.blk 0 (.loop (qR [bN 8 .lss 0 7 6] (.seq (cE 8 0) (.seq (.blk 1 (qR [iA 9 1 5 7, lD 10 9, mv 4 10] (qR [mv 11 4, lN 12 false 11, o1 13 (.bin .eql 0 (.tmp 12) (ci 0))] (.cond (.tmp 13) (qR [o1 2 (.mov kS)] .ret) .skip)))) (.reg [aI 14 7, mv 7 14]))))))) (qR [mv 15 0, c1 16 100 15, mv 2 16] .ret)))⟩
theorem fi183 : finfo Tryz.prog 183 = some ir183 := by kernel_rfl
def ir184 : FI := ⟨54, [.tmp 6, .tmp 7], (qR [o1 6 (.mov (.const (.pointer none))), mI 7 0] (qR [o1 8 (.mov (.const (.pointer none)))] (.seq (qR [mv 12 0, o1 13 (.bin .eql 1 (.tmp 12) (.const (.pointer none))), mv 14 13, oF 15 (.mov (.tmp 0)) 14, oF 16 (.nil (.tmp 15)) 14, oF 17 (.fa 2 (.tmp 16)) 14, oF 18 (.ld none (.tmp 17)) 14, oF 19 (.un .not (.tmp 18)) 14, pT 20 14 19] (.cond (.tmp 20) (qR [mv 21 8, mv 6 21, mI 7 1] .ret) .skip)) (qR [mv 22 0, o1 23 (.nil (.tmp 22)), fA 24 0 23, fA 25 1 24, lD 26 25, mv 9 26] (qR [mv 28 0, o1 29 (.nil (.tmp 28)), fA 30 0 29, mv 31 1, c2 32 191 30 31, mv 27 32, ex 33 0 27, ex 34 1 27, mv 10 33, mv 7 34] (.seq (qR [mv 35 7, o1 36 (.bin .neq 0 (.tmp 35) (ci 0))] (.cond (.tmp 36) (qR [mv 37 8, mv 38 7, mv 6 37, mv 7 38] .ret) .skip)) (qR [mv 40 2, mv 41 10, o1 42 (.call (.tmp 40) [(.tmp 41)]), mv 39 42, ex 43 0 39, ex 44 1 39, mv 6 43, mv 11 44] (.seq (qR [mv 45 11, nT 46 45] (.cond (.tmp 46) (qR [mv 47 0, mv 48 9, o1 49 (.nil (.tmp 47)), fA 50 0 49, fA 51 1 50, sT 1 51 48] (qR [mv 52 8, mv 6 52, mI 7 6] .ret)) .skip)) (qR [mv 53 6, mv 6 53, mI 7 0] .ret)))))))))⟩
theorem fi184 : finfo Tryz.prog 184 = some ir184 := by kernel_rfl
def ir185 : FI := ⟨6, [.tmp 2, .tmp 3], (qR [o1 2 (.mov (.const (.pointer none))), o1 3 (.mov kF)] (qR [mv 4 0, c1 5 131 4, mv 2 5, o1 3 (.mov kT)] .ret))⟩
theorem fi185 : finfo Tryz.prog 185 = some ir185 := by kernel_rfl
def ir186 : FI := ⟨54, [.tmp 6, .tmp 7], (qR [mI 6 0, mI 7 0] (qR [mI 8 0] (.seq (qR [mv 12 0, o1 13 (.bin .eql 1 (.tmp 12) (.const (.pointer none))), mv 14 13, oF 15 (.mov (.tmp 0)) 14, oF 16 (.nil (.tmp 15)) 14, oF 17 (.fa 2 (.tmp 16)) 14, oF 18 (.ld none (.tmp 17)) 14, oF 19 (.un .not (.tmp 18)) 14, pT 20 14 19] (.cond (.tmp 20) (qR [mv 21 8, mv 6 21, mI 7 1] .ret) .skip)) (qR [mv 22 0, o1 23 (.nil (.tmp 22)), fA 24 0 23, fA 25 1 24, lD 26 25, mv 9 26] (qR [mv 28 0, o1 29 (.nil (.tmp 28)), fA 30 0 29, mv 31 1, c2 32 191 30 31, mv 27 32, ex 33 0 27, ex 34 1 27, mv 10 33, mv 7 34] (.seq (qR [mv 35 7, o1 36 (.bin .neq 0 (.tmp 35) (ci 0))] (.cond (.tmp 36) (qR [mv 37 8, mv 38 7, mv 6 37, mv 7 38] .ret) .skip)) (qR [mv 40 2, mv 41 10, o1 42 (.call (.tmp 40) [(.tmp 41)]), mv 39 42, ex 43 0 39, ex 44 1 39, mv 6 43, mv 11 44] (.seq (qR [mv 45 11, nT 46 45] (.cond (.tmp 46) (qR [mv 47 0, mv 48 9, o1 49 (.nil (.tmp 47)), fA 50 0 49, fA 51 1 50, sT 1 51 48] (qR [mv 52 8, mv 6 52, mI 7 6] .ret)) .skip)) (qR [mv 53 6, mv 6 53, mI 7 0] .ret)))))))))⟩
theorem fi186 : finfo Tryz.prog 186 = some ir186 := by kernel_rfl
def ir187 : FI := ⟨40, [.tmp 2, .tmp 3], (qR [mI 2 0, o1 3 (.mov kF)] (.seq (qR [mv 7 0, lN 8 false 7, o1 9 (.bin .lss 0 (.tmp 8) (ci 1)), mv 10 9, oF 11 (.mov (.tmp 0)) 10, oF 12 (.len false (.tmp 11)) 10, oF 13 (.bin .gtr 0 (.tmp 12) (ci 8)) 10, pT 14 10 13] (.cond (.tmp 14) (qR [mI 2 0, o1 3 (.mov kF)] .ret) .skip)) (qR [mv 15 0, o1 16 (.ia 1 (.tmp 15) (ci 0)), lD 17 16, o1 18 (.toInt .i8 (.tmp 17)), o1 19 (.toInt .i64 (.tmp 18)), mv 4 19] (.seq (qR [mv 20 0, o1 21 (.sl (some 1) (.tmp 20) (some (ci 1)) none), lN 22 false 21, mI 23 0] (.blk 0 (.loop (qR [bN 24 .lss 0 23 22] (.seq (cE 24 0) (.seq (.blk 1 (qR [iA 25 1 21 23, lD 26 25, mv 6 26] (.reg [mv 27 4, o1 28 (.bin .shl 0 (.tmp 27) (.const (.int .u64 8))), mv 29 6, o1 30 (.toInt .i64 (.tmp 29)), bN 31 .or 0 28 30, mv 4 31]))) (.reg [aI 32 23, mv 23 32]))))))) (qR [mv 33 4, mv 34 4, c1 35 67 34, mv 36 0, o1 37 (.bsl (.slice .u8) 1 1 [zs] [(0, (.tmp 36))]), o1 38 (.call (.func 126) [(.const (.int .u8 2)), (.tmp 37)]), c2 39 79 35 38, mv 2 33, mv 3 39] .ret)))))⟩
theorem fi187 : finfo Tryz.prog 187 = some ir187 := by kernel_rfl
def ir188 : FI := ⟨13, [.tmp 2, .tmp 3], (qR [mI 2 0, o1 3 (.mov kF)] (.seq (qR [mv 5 0, lN 6 false 5, o1 7 (.bin .neq 0 (.tmp 6) (ci 6))] (.cond (.tmp 7) (qR [mI 2 0, o1 3 (.mov kF)] .ret) .skip)) (qR [mv 8 0, c1 9 189 8, mv 4 9] (qR [mv 10 4, mv 11 4, o1 12 (.bin .leq 0 (.tmp 11) (ci 1099511627776)), mv 2 10, mv 3 12] .ret))))⟩
theorem fi188 : finfo Tryz.prog 188 = some ir188 := by kernel_rfl
def ir189 : FI := ⟨18, [.tmp 2], (qR [mI 2 0] (.seq (qR [mv 5 0, lN 6 false 5, mI 7 0] (.blk 0 (.loop (qR [bN 8 .lss 0 7 6] (.seq (cE 8 0) (.seq (.blk 1 (qR [iA 9 1 5 7, lD 10 9, mv 4 10] (.reg [mv 11 2, o1 12 (.bin .shl 0 (.tmp 11) (.const (.int .u64 8))), mv 13 4, o1 14 (.toInt .i64 (.tmp 13)), bN 15 .or 0 12 14, mv 2 15]))) (.reg [aI 16 7, mv 7 16]))))))) (qR [mv 17 2, mv 2 17] .ret)))⟩
theorem fi189 : finfo Tryz.prog 189 = some ir189 := by kernel_rfl
def ir190 : FI := ⟨22, [.tmp 2], (qR [o1 2 (.mov kS)] (.seq (.drw [(true, mv 3 0), (true, o1 4 (.nil (.tmp 3))), (true, fA 5 0 4), (true, lD 6 5), (true, mv 7 0), (true, o1 8 (.nil (.tmp 7))), (true, fA 9 1 8), (true, lD 10 9), (true, mv 11 0), (true, o1 12 (.nil (.tmp 11))), (true, fA 13 0 12), (true, lD 14 13), (true, lN 15 false 14), (true, mv 16 0), (true, o1 17 (.nil (.tmp 16))), (true, fA 18 0 17), (true, lD 19 18), (true, lN 20 false 19), (true, o1 21 (.sl3 1 false (.tmp 6) (some (.tmp 10)) (.tmp 15) (.tmp 20))), (true, mv 2 21)]) .ret))⟩
theorem fi190 : finfo Tryz.prog 190 = some ir190 := by kernel_rfl
def ir191 : FI := ⟨42, [.tmp 4, .tmp 5], (qR [o1 4 (.mov kS), mI 5 0] (qR [mv 10 0, c1 11 190 10, mv 6 11] (.seq (qR [mv 12 6, lN 13 false 12, o1 14 (.bin .eql 0 (.tmp 13) (ci 0))] (.cond (.tmp 14) (qR [o1 4 (.mov kS), mI 5 4] .ret) .skip)) (.seq (qR [mv 15 6, o1 16 (.ia 1 (.tmp 15) (ci 0)), lD 17 16, mv 18 1, bN 19 .neq 0 17 18] (.cond (.tmp 19) (qR [o1 4 (.mov kS), mI 5 6] .ret) .skip)) (qR [mv 21 6, c1 22 217 21, mv 20 22, ex 23 0 20, ex 24 1 20, ex 25 2 20, mv 7 23, mv 8 24, mv 9 25] (.seq (qR [mv 26 9, o1 27 (.bin .neq 0 (.tmp 26) (ci 0))] (.cond (.tmp 27) (qR [mv 28 9, o1 4 (.mov kS), mv 5 28] .ret) .skip)) (qR [mv 29 0, o1 30 (.nil (.tmp 29)), fA 31 1 30, lD 32 31, mv 33 8, bN 34 .add 0 32 33, o1 35 (.nil (.tmp 29)), fA 36 1 35, sT 1 36 34] (qR [mv 37 6, mv 38 7, mv 39 8, mv 40 8, o1 41 (.sl3 1 false (.tmp 37) (some (.tmp 38)) (.tmp 39) (.tmp 40)), mv 4 41, mI 5 0] .ret))))))))⟩
theorem fi191 : finfo Tryz.prog 191 = some ir191 := by kernel_rfl
def ir192 : DI := ⟨26, [.cell 4 120, .cell 5 31], [(.reg [o1 2 (.box 86 (.tmp 0)), o1 4 (.new 120 [zs]), o1 5 (.new 31 [zi])]), (qR [lD 7 2, o1 8 (.bin .eql 1 (.tmp 7) (.const (.pointer none))), mv 9 8, oF 10 (.ld none (.tmp 2)) 9, oF 11 (.nil (.tmp 10)) 9, oF 12 (.fa 2 (.tmp 11)) 9, oF 13 (.ld none (.tmp 12)) 9, oF 14 (.un .not (.tmp 13)) 9, pT 15 9 14] (.cond (.tmp 15) (qR [lD 16 4, sT 1 4 16, o0 (.st 1 (.tmp 5) (ci 1))] .ret) .skip)), (.reg [lD 17 2, o1 18 (.nil (.tmp 17)), fA 19 0 18, fA 20 1 19, lD 21 20, o1 6 (.new 3 [zi]), sT 1 6 21])], 22, 218, [(.tmp 6), (.tmp 2), (.tmp 4), (.tmp 5)], (qR [mv 23 1, lD 24 2, o1 25 (.call (.tmp 23) [(.tmp 24)]), sT 1 4 25, o0 (.st 1 (.tmp 5) (ci 0))] .ret)⟩
theorem fi192 : dinfo Tryz.prog 192 = some ir192 := by kernel_rfl
def ir193 : FI := ⟨37, [.tmp 2], (qR [o1 2 (.mov kS)] (qR [mv 7 0, c1 8 146 7, ex 9 0 8, ex 10 1 8, c2 11 194 9 10, mv 3 11] (.seq (.blk 0 (.loop (.seq (qR [mv 12 3, c1 13 148 12, o1 14 (.bin .gtr 0 (.tmp 13) (ci 0))] (cE 14 0)) (.blk 1 (.seq (qR [mv 15 2, lN 16 false 15, o1 17 (.bin .eql 0 (.tmp 16) (ci 16))] (.cond (.tmp 17) (.reg [o1 18 (.mki 31 (ci 6)), o0 (.pan (.tmp 18))]) .skip)) (qR [mv 19 3, c1 20 146 19, ex 21 0 20, ex 22 1 20, c2 23 194 21 22, mv 4 23] (qR [mv 24 4, o1 25 (.call (.func 195) [(.tmp 24), (ci 0), (.func 138)]), mv 5 25] (qR [mv 26 4, o1 27 (.call (.func 196) [(.tmp 26), (ci 1), (.func 197)]), mv 6 27] (qR [mv 28 4, c1 29 198 28] (.reg [mv 30 2, mv 31 5, mv 32 6, o1 33 (.bld [zi, zs] (.fields [(0, 1), (1, 1)]) [(0, (.tmp 31)), (1, (.tmp 32))]), o1 34 (.bsl (.prod (.int .i64) (.slice .u8)) 1 2 [zi, zs] [(0, (.tmp 33))]), o1 35 (.app (.prod (.int .i64) (.slice .u8)) 32 (.tmp 30) (.tmp 34)), mv 2 35])))))))))) (qR [mv 36 2, mv 2 36] .ret))))⟩
theorem fi193 : finfo Tryz.prog 193 = some ir193 := by kernel_rfl
def ir194 : FI := ⟨10, [.tmp 4], (qR [o1 4 (.mov (.const (.pointer none)))] (.seq (qR [mv 5 1, o1 6 (.bin .neq 0 (.tmp 5) (ci 0))] (.cond (.tmp 6) (.reg [mv 7 1, o1 8 (.mki 31 (.tmp 7)), o0 (.pan (.tmp 8))]) .skip)) (qR [mv 9 0, mv 4 9] .ret)))⟩
theorem fi194 : finfo Tryz.prog 194 = some ir194 := by kernel_rfl
def ir195 : FI := ⟨45, [.tmp 6], (qR [mI 6 0] (qR [mv 12 0, mv 13 1, c2 14 142 12 13, mv 11 14, ex 15 0 11, ex 16 1 11, ex 17 2 11, mv 7 15, mv 8 16, mv 9 17] (.seq (.blk 0 (qR [mv 19 9, o1 20 (.bin .neq 0 (.tmp 19) (ci 0)), mv 18 20] (.cond (.tmp 18) (.reg [mv 21 9, o1 22 (.mki 31 (.tmp 21)), o0 (.pan (.tmp 22))]) (qR [mv 24 8, nT 25 24, mv 26 25, oT 27 (.mov (.tmp 0)) 26, oT 28 (.call (.func 148) [(.tmp 27)]) 26, oT 29 (.bin .eql 0 (.tmp 28) (ci 0)) 26, pF 30 26 29, mv 23 30] (.cond (.tmp 23) (.reg [o1 31 (.mki 31 (ci 4)), o0 (.pan (.tmp 31))]) (qR [mv 33 8, nT 34 33, mv 32 34] (.cond (.tmp 32) (.reg [o1 35 (.mki 31 (ci 6)), o0 (.pan (.tmp 35))]) .skip))))))) (qR [mv 36 2, mv 37 7, o1 38 (.call (.tmp 36) [(.tmp 37)]), ex 39 0 38, ex 40 1 38, c2 41 219 39 40, mv 10 41] (qR [mv 42 7, c1 43 198 42] (qR [mv 44 10, mv 6 44] .ret))))))⟩
theorem fi195 : finfo Tryz.prog 195 = some ir195 := by kernel_rfl
def ir196 : FI := ⟨45, [.tmp 6], (qR [o1 6 (.mov kS)] (qR [mv 12 0, mv 13 1, c2 14 142 12 13, mv 11 14, ex 15 0 11, ex 16 1 11, ex 17 2 11, mv 7 15, mv 8 16, mv 9 17] (.seq (.blk 0 (qR [mv 19 9, o1 20 (.bin .neq 0 (.tmp 19) (ci 0)), mv 18 20] (.cond (.tmp 18) (.reg [mv 21 9, o1 22 (.mki 31 (.tmp 21)), o0 (.pan (.tmp 22))]) (qR [mv 24 8, nT 25 24, mv 26 25, oT 27 (.mov (.tmp 0)) 26, oT 28 (.call (.func 148) [(.tmp 27)]) 26, oT 29 (.bin .eql 0 (.tmp 28) (ci 0)) 26, pF 30 26 29, mv 23 30] (.cond (.tmp 23) (.reg [o1 31 (.mki 31 (ci 4)), o0 (.pan (.tmp 31))]) (qR [mv 33 8, nT 34 33, mv 32 34] (.cond (.tmp 32) (.reg [o1 35 (.mki 31 (ci 6)), o0 (.pan (.tmp 35))]) .skip))))))) (qR [mv 36 2, mv 37 7, o1 38 (.call (.tmp 36) [(.tmp 37)]), ex 39 0 38, ex 40 1 38, c2 41 220 39 40, mv 10 41] (qR [mv 42 7, c1 43 198 42] (qR [mv 44 10, mv 6 44] .ret))))))⟩
theorem fi196 : finfo Tryz.prog 196 = some ir196 := by kernel_rfl
def ir197 : FI := ⟨8, [.tmp 2, .tmp 3], (qR [o1 2 (.mov kS), mI 3 0] (qR [mv 4 0, o1 5 (.call (.func 221) [(.tmp 4), (.const (.int .u8 4)), (.func 222)]), ex 6 0 5, ex 7 1 5, mv 2 6, mv 3 7] .ret))⟩
theorem fi197 : finfo Tryz.prog 197 = some ir197 := by kernel_rfl
def ir198 : FI := ⟨6, [], (qR [mv 2 0, c1 3 148 2, o1 4 (.bin .gtr 0 (.tmp 3) (ci 0))] (.cond (.tmp 4) (.reg [o1 5 (.mki 31 (ci 6)), o0 (.pan (.tmp 5))]) .skip))⟩
theorem fi198 : finfo Tryz.prog 198 = some ir198 := by kernel_rfl
def ir204 : FI := ⟨9, [], (qR [o1 2 (.box 88 (.tmp 0))] (.reg [fA 3 0 2, lD 4 3, c1 5 206 4, ex 6 0 5, ex 7 1 5, c2 8 205 6 7, sT 1 1 8]))⟩
theorem fi204 : finfo Tryz.prog 204 = some ir204 := by kernel_rfl
def ir205 : FI := ⟨9, [.tmp 4], (qR [o1 4 (.mov (.const (.int .u32 0)))] (qR [mv 5 1, o1 6 (.bin .eql 0 (.tmp 5) (ci 0)), c1 7 78 6] (qR [mv 8 0, mv 4 8] .ret)))⟩
theorem fi205 : finfo Tryz.prog 205 = some ir205 := by kernel_rfl
def ir206 : FI := ⟨8, [.tmp 2, .tmp 3], (qR [o1 2 (.mov (.const (.int .u32 0))), mI 3 0] (qR [mv 4 0, o1 5 (.call (.func 226) [(.tmp 4), (.const (.int .u8 3)), (.func 227)]), ex 6 0 5, ex 7 1 5, mv 2 6, mv 3 7] .ret))⟩
theorem fi206 : finfo Tryz.prog 206 = some ir206 := by kernel_rfl
def ir207 : FI := ⟨9, [], (qR [o1 2 (.box 88 (.tmp 0))] (.reg [fA 3 0 2, lD 4 3, c1 5 140 4, ex 6 0 5, ex 7 1 5, c2 8 137 6 7, sT 1 1 8]))⟩
theorem fi207 : finfo Tryz.prog 207 = some ir207 := by kernel_rfl
def ir208 : FI := ⟨18, [], (qR [o1 3 (.box 88 (.tmp 0))] (.blk 0 (.loop (.seq (qR [fA 4 0 3, lD 5 4, c1 6 148 5, o1 7 (.bin .gtr 0 (.tmp 6) (ci 0))] (cE 7 0)) (.blk 1 (qR [lD 8 1, lN 9 false 8, o1 10 (.bin .lss 0 (.tmp 9) (ci 16)), c1 11 78 10] (.drw [(true, lD 12 1), (true, lD 13 2), (true, lG 14 1 3), (false, o1 15 (.call (.tmp 13) [(.tmp 14)])), (false, o1 16 (.bsl (.int .i64) 1 1 [zi] [(0, (.tmp 15))])), (false, o1 17 (.app (.int .i64) 8 (.tmp 12) (.tmp 16))), (false, sT 1 1 17)])))))))⟩
theorem fi208 : finfo Tryz.prog 208 = some ir208 := by kernel_rfl
def ir215 : FI := ⟨19, [.tmp 4], (qR [mI 4 0] (.seq (qR [mv 6 0, lN 7 false 6, mI 8 0] (.blk 0 (.loop (qR [bN 9 .lss 0 8 7] (.seq (cE 9 0) (.seq (.blk 1 (qR [mv 10 8, mv 5 10] (qR [mv 11 1, mv 12 0, mv 13 5, iA 14 1 12 13, lD 15 14, bN 16 .eql 3 11 15] (.cond (.tmp 16) (qR [mv 17 5, mv 4 17] .ret) .skip)))) (.reg [aI 18 8, mv 8 18]))))))) (qR [o1 4 (.mov (.const (.int .i64 (-1))))] .ret)))⟩
theorem fi215 : finfo Tryz.prog 215 = some ir215 := by kernel_rfl
def ir217 : FI := ⟨65, [.tmp 2, .tmp 3, .tmp 4], (qR [mI 2 0, mI 3 0, mI 4 0] (.seq (qR [mv 10 0, lN 11 false 10, o1 12 (.bin .lss 0 (.tmp 11) (ci 2))] (.cond (.tmp 12) (qR [mI 2 0, mI 3 0, mI 4 4] .ret) .skip)) (qR [mv 13 0, o1 14 (.ia 1 (.tmp 13) (ci 1)), lD 15 14, o1 16 (.toInt .i64 (.tmp 15)), mv 5 16, mI 2 2] (.seq (qR [mv 17 5, o1 18 (.bin .geq 0 (.tmp 17) (ci 128))] (.cond (.tmp 18) (qR [mv 19 5, o1 20 (.bin .sub 0 (.tmp 19) (ci 128)), mv 6 20] (.seq (qR [mv 21 6, o1 22 (.bin .lss 0 (.tmp 21) (ci 1)), mv 23 22, oF 24 (.mov (.tmp 6)) 23, oF 25 (.bin .gtr 0 (.tmp 24) (ci 3)) 23, pT 26 23 25] (.cond (.tmp 26) (qR [mI 2 0, mI 3 0, mI 4 6] .ret) .skip)) (.seq (qR [mv 27 0, lN 28 false 27, mv 29 6, o1 30 (.bin .add 0 (ci 2) (.tmp 29)), bN 31 .lss 0 28 30] (.cond (.tmp 31) (qR [mI 2 0, mI 3 0, mI 4 4] .ret) .skip)) (qR [mv 32 6, o1 33 (.bin .add 0 (ci 2) (.tmp 32)), mI 5 0, mv 2 33] (.seq (qR [mv 34 0, mv 35 2, mv 36 2, o1 37 (.sl3 1 false (.tmp 34) (some (ci 2)) (.tmp 35) (.tmp 36)), lN 38 false 37, mI 39 0] (.blk 0 (.loop (qR [bN 40 .lss 0 39 38] (.seq (cE 40 0) (.seq (.blk 1 (qR [iA 41 1 37 39, lD 42 41, mv 8 42] (.reg [mv 43 5, o1 44 (.bin .shl 0 (.tmp 43) (.const (.int .u64 8))), mv 45 8, o1 46 (.toInt .i64 (.tmp 45)), bN 47 .or 0 44 46, mv 5 47]))) (.reg [aI 48 39, mv 39 48]))))))) (qR [o1 49 (.bld [zi, zi, zi, zi] (.arr 1) [(0, (ci 0)), (1, (ci 128)), (2, (ci 256)), (3, (ci 65536))]), o1 9 (.new 249 [zi, zi, zi, zi]), sT 4 9 49] (qR [mv 50 5, mv 51 6, o1 52 (.iaa 4 1 (.tmp 9) (.tmp 51)), lD 53 52, bN 54 .lss 0 50 53] (.cond (.tmp 54) (qR [mI 2 0, mI 3 0, mI 4 6] .ret) .skip)))))))) .skip)) (.seq (qR [mv 55 0, lN 56 false 55, mv 57 2, bN 58 .sub 0 56 57, mv 59 5, bN 60 .lss 0 58 59] (.cond (.tmp 60) (qR [mI 2 0, mI 3 0, mI 4 4] .ret) .skip)) (qR [mv 61 2, mv 62 2, mv 63 5, bN 64 .add 0 62 63, mv 2 61, mv 3 64, mI 4 0] .ret))))))⟩
theorem fi217 : finfo Tryz.prog 217 = some ir217 := by kernel_rfl
def ir218 : RI := ⟨20, 8, [o1 9 (.ta 31 zi (.tmp 8)), mv 7 9, ex 10 0 7, ex 11 1 7, mv 4 10, mv 5 11], (qR [mv 12 5] (.cond (.tmp 12) (qR [o1 6 (.mov kS)] (.reg [lD 13 1, lD 14 0, mv 15 6, mv 16 4, o1 17 (.nil (.tmp 13)), fA 18 0 17, fA 19 1 18, sT 1 19 14, sT 1 2 15, sT 1 3 16])) .skip))⟩
theorem fi218 : rinfo Tryz.prog 218 = some ir218 := by kernel_rfl
def ir219 : FI := ⟨10, [.tmp 4], (qR [mI 4 0] (.seq (qR [mv 5 1, o1 6 (.bin .neq 0 (.tmp 5) (ci 0))] (.cond (.tmp 6) (.reg [mv 7 1, o1 8 (.mki 31 (.tmp 7)), o0 (.pan (.tmp 8))]) .skip)) (qR [mv 9 0, mv 4 9] .ret)))⟩
theorem fi219 : finfo Tryz.prog 219 = some ir219 := by kernel_rfl
def ir220 : FI := ⟨10, [.tmp 4], (qR [o1 4 (.mov kS)] (.seq (qR [mv 5 1, o1 6 (.bin .neq 0 (.tmp 5) (ci 0))] (.cond (.tmp 6) (.reg [mv 7 1, o1 8 (.mki 31 (.tmp 7)), o0 (.pan (.tmp 8))]) .skip)) (qR [mv 9 0, mv 4 9] .ret)))⟩
theorem fi220 : finfo Tryz.prog 220 = some ir220 := by kernel_rfl
def ir221 : FI := ⟨54, [.tmp 6, .tmp 7], (qR [o1 6 (.mov kS), mI 7 0] (qR [o1 8 (.mov kS)] (.seq (qR [mv 12 0, o1 13 (.bin .eql 1 (.tmp 12) (.const (.pointer none))), mv 14 13, oF 15 (.mov (.tmp 0)) 14, oF 16 (.nil (.tmp 15)) 14, oF 17 (.fa 2 (.tmp 16)) 14, oF 18 (.ld none (.tmp 17)) 14, oF 19 (.un .not (.tmp 18)) 14, pT 20 14 19] (.cond (.tmp 20) (qR [mv 21 8, mv 6 21, mI 7 1] .ret) .skip)) (qR [mv 22 0, o1 23 (.nil (.tmp 22)), fA 24 0 23, fA 25 1 24, lD 26 25, mv 9 26] (qR [mv 28 0, o1 29 (.nil (.tmp 28)), fA 30 0 29, mv 31 1, c2 32 191 30 31, mv 27 32, ex 33 0 27, ex 34 1 27, mv 10 33, mv 7 34] (.seq (qR [mv 35 7, o1 36 (.bin .neq 0 (.tmp 35) (ci 0))] (.cond (.tmp 36) (qR [mv 37 8, mv 38 7, mv 6 37, mv 7 38] .ret) .skip)) (qR [mv 40 2, mv 41 10, o1 42 (.call (.tmp 40) [(.tmp 41)]), mv 39 42, ex 43 0 39, ex 44 1 39, mv 6 43, mv 11 44] (.seq (qR [mv 45 11, nT 46 45] (.cond (.tmp 46) (qR [mv 47 0, mv 48 9, o1 49 (.nil (.tmp 47)), fA 50 0 49, fA 51 1 50, sT 1 51 48] (qR [mv 52 8, mv 6 52, mI 7 6] .ret)) .skip)) (qR [mv 53 6, mv 6 53, mI 7 0] .ret)))))))))⟩
theorem fi221 : finfo Tryz.prog 221 = some ir221 := by kernel_rfl
def ir222 : FI := ⟨6, [.tmp 2, .tmp 3], (qR [o1 2 (.mov kS), o1 3 (.mov kF)] (qR [mv 4 0, c1 5 132 4, mv 2 5, o1 3 (.mov kT)] .ret))⟩
theorem fi222 : finfo Tryz.prog 222 = some ir222 := by kernel_rfl
def ir223 : FI := ⟨15, [.tmp 6], (qR [o1 6 (.mov kS)] (qR [mv 7 0, c1 8 67 7, mv 9 1, c1 10 67 9, mv 11 2, c1 12 182 11, o1 13 (.bsl (.slice .u8) 3 1 [zs, zs, zs] [(0, (.tmp 8)), (1, (.tmp 10)), (2, (.tmp 12))]), c1 14 181 13, mv 6 14] .ret))⟩
def ir225 : FI := ⟨8, [.tmp 2], (qR [mI 2 0] (qR [c0 3 242, mv 4 0, o1 5 (.mlk (some .i64) (.agg #[ze, zi, zi, zi, zi, .nilFunc, .nilFunc, .nilFunc]) false (.tmp 3) (.tmp 4)), o1 6 (.fld 1 (some 4) (.tmp 5)), o1 7 (.fld 0 none (.tmp 6)), mv 2 7] .ret))⟩
def ir226 : FI := ⟨54, [.tmp 6, .tmp 7], (qR [o1 6 (.mov (.const (.int .u32 0))), mI 7 0] (qR [o1 8 (.mov (.const (.int .u32 0)))] (.seq (qR [mv 12 0, o1 13 (.bin .eql 1 (.tmp 12) (.const (.pointer none))), mv 14 13, oF 15 (.mov (.tmp 0)) 14, oF 16 (.nil (.tmp 15)) 14, oF 17 (.fa 2 (.tmp 16)) 14, oF 18 (.ld none (.tmp 17)) 14, oF 19 (.un .not (.tmp 18)) 14, pT 20 14 19] (.cond (.tmp 20) (qR [mv 21 8, mv 6 21, mI 7 1] .ret) .skip)) (qR [mv 22 0, o1 23 (.nil (.tmp 22)), fA 24 0 23, fA 25 1 24, lD 26 25, mv 9 26] (qR [mv 28 0, o1 29 (.nil (.tmp 28)), fA 30 0 29, mv 31 1, c2 32 191 30 31, mv 27 32, ex 33 0 27, ex 34 1 27, mv 10 33, mv 7 34] (.seq (qR [mv 35 7, o1 36 (.bin .neq 0 (.tmp 35) (ci 0))] (.cond (.tmp 36) (qR [mv 37 8, mv 38 7, mv 6 37, mv 7 38] .ret) .skip)) (qR [mv 40 2, mv 41 10, o1 42 (.call (.tmp 40) [(.tmp 41)]), mv 39 42, ex 43 0 39, ex 44 1 39, mv 6 43, mv 11 44] (.seq (qR [mv 45 11, nT 46 45] (.cond (.tmp 46) (qR [mv 47 0, mv 48 9, o1 49 (.nil (.tmp 47)), fA 50 0 49, fA 51 1 50, sT 1 51 48] (qR [mv 52 8, mv 6 52, mI 7 6] .ret)) .skip)) (qR [mv 53 6, mv 6 53, mI 7 0] .ret)))))))))⟩
theorem fi226 : finfo Tryz.prog 226 = some ir226 := by kernel_rfl
def ir227 : FI := ⟨17, [.tmp 2, .tmp 3], (qR [o1 2 (.mov (.const (.int .u32 0))), o1 3 (.mov kF)] (.seq (qR [mv 4 0, lN 5 false 4, o1 6 (.bin .neq 0 (.tmp 5) (ci 5)), mv 7 6, oF 8 (.mov (.tmp 0)) 7, oF 9 (.ia 1 (.tmp 8) (ci 0)) 7, oF 10 (.ld none (.tmp 9)) 7, oF 11 (.bin .neq 0 (.tmp 10) (.const (.int .u8 0))) 7, pT 12 7 11] (.cond (.tmp 12) (qR [o1 2 (.mov (.const (.int .u32 0))), o1 3 (.mov kF)] .ret) .skip)) (qR [mv 13 0, o1 14 (.sl (some 1) (.tmp 13) (some (ci 1)) none), c1 15 189 14, o1 16 (.toInt .u32 (.tmp 15)), mv 2 16, o1 3 (.mov kT)] .ret)))⟩
theorem fi227 : finfo Tryz.prog 227 = some ir227 := by kernel_rfl
def ir242 : FI := ⟨7, [.tmp 0], (qR [o1 0 (.mov (.const (.map none)))] (qR [o1 1 (.mkm (some .i64)), o1 2 (.bld [zi, zi, zi, zi] (.fields [(0, 1), (1, 1), (2, 1), (3, 1)]) [(0, (ci 16)), (1, (ci 16)), (2, (ci 16)), (3, (ci 16))]), o1 3 (.bld [ze, zi, zi, zi, zi, .nilFunc, .nilFunc, .nilFunc] (.fields [(0, 1), (1, 4), (5, 1), (6, 1), (7, 1)]) [(0, (.const (.string ⟨#[97, 101, 115, 49, 50, 56, 45, 99, 116, 115, 45, 104, 109, 97, 99, 45, 115, 104, 97, 50, 53, 54, 45, 49, 50, 56]⟩))), (1, (.tmp 2)), (2, (.func 258)), (3, (.func 259)), (4, (.func 260))]), o0 (.mup (some .i64) (.tmp 1) (ci 1) (.tmp 3)), o1 4 (.bld [zi, zi, zi, zi] (.fields [(0, 1), (1, 1), (2, 1), (3, 1)]) [(0, (ci 32)), (1, (ci 16)), (2, (ci 32)), (3, (ci 32))]), o1 5 (.bld [ze, zi, zi, zi, zi, .nilFunc, .nilFunc, .nilFunc] (.fields [(0, 1), (1, 4), (5, 1), (6, 1), (7, 1)]) [(0, (.const (.string ⟨#[115, 116, 114, 101, 97, 109, 45, 104, 109, 97, 99, 45, 115, 104, 97, 50, 53, 54, 45, 50, 53, 54]⟩))), (1, (.tmp 4)), (2, (.func 261)), (3, (.func 262)), (4, (.func 263))]), o0 (.mup (some .i64) (.tmp 1) (ci 2) (.tmp 5)), mv 6 1, mv 0 6] .ret))⟩
def ir249 : FI := ⟨22, [.tmp 2, .tmp 3, .tmp 4], (qR [mI 2 0, mI 3 0, o1 4 (.mov kS)] (qR [mv 6 0, c1 7 146 6, ex 8 0 7, ex 9 1 7, c2 10 194 8 9, mv 5 10] (qR [mv 11 5, o1 12 (.call (.func 195) [(.tmp 11), (ci 0), (.func 138)]), mv 2 12] (qR [mv 13 5, o1 14 (.call (.func 195) [(.tmp 13), (ci 1), (.func 138)]), mv 3 14] (qR [mv 15 5, o1 16 (.call (.func 196) [(.tmp 15), (ci 2), (.func 197)]), mv 4 16] (qR [mv 17 5, c1 18 198 17] (qR [mv 19 2, mv 20 3, mv 21 4, mv 2 19, mv 3 20, mv 4 21] .ret)))))))⟩
attribute [go_sem] ir130 ir131 ir132 ir133 ir134 ir135 ir136 ir137 ir138 ir139 ir140 ir141 ir142 ir143 ir144 ir145 ir146 ir147 ir148 ir149 ir150 ir151 ir152 ir153 ir154 ir155 ir156 ir157 ir158 ir159 ir160 ir163 ir164 ir167 ir168 ir169 ir170 ir171 ir172 ir178 ir179 ir181 ir182 ir183 ir184 ir185 ir186 ir187 ir188 ir189 ir190 ir191 ir192 ir193 ir194 ir195 ir196 ir197 ir198 ir204 ir205 ir206 ir207 ir208 ir215 ir217 ir218 ir219 ir220 ir221 ir222 ir223 ir225 ir226 ir227 ir242 ir249
end Go.Proofs.YtmegaleepkmadaaGreatDoor
/- The functions of the program in the compact form. -/
namespace Go.Proofs.YtmegaleepkmadaaGreatDoor
open Go Go.Sx Go.Proofs
theorem mixed : Tryz.prog.follows .mixedOrders = true := by kernel_rfl
end Go.Proofs.YtmegaleepkmadaaGreatDoor
/- The data of the statements: principals, keys, key sets, entries, salts. -/
namespace Go.Proofs.YtmegaleepkmadaaGreatDoor
open Go Go.Sx Go.Proofs
abbrev I64 : Ty := .int .i64
abbrev PrinT : Ty := .prod (.slice .str) .str
abbrev KeyT : Ty := .prod I64 (.prod I64 (.slice .u8))
abbrev SetT : Ty := .prod I64 (.prod (.slice KeyT) (.prod .str (.prod I64 I64)))
abbrev Prin := PrinT.den
abbrev Key := KeyT.den
abbrev KSet := SetT.den
abbrev rI (n : Int) : SV := .raw (.int .i64 n)
abbrev rB (b : Bool) : SV := .raw (.bool b)
abbrev rS (s : ByteArray) : SV := .raw (.string s)
end Go.Proofs.YtmegaleepkmadaaGreatDoor

/- Contracts: between, every, ordered. -/
namespace Go.Proofs.YtmegaleepkmadaaGreatDoor
open Go Go.Sx Go.Proofs
set_option maxRecDepth 100000
set_option maxHeartbeats 4000000
set_option linter.unusedSimpArgs false

end Go.Proofs.YtmegaleepkmadaaGreatDoor

/- Contracts: ordered. -/
namespace Go.Proofs.YtmegaleepkmadaaGreatDoor
open Go Go.Sx Go.Proofs
set_option maxRecDepth 100000
set_option maxHeartbeats 4000000
set_option linter.unusedSimpArgs false

theorem rb {b c : Bool} (h : b = c) : Out.ret (SV.raw (.bool b)) = Out.ret (rB c) := by rw [h]
def allN (n : Nat) (q : Nat → Bool) : Bool := (List.range n).all q
theorem allN_iff {n : Nat} {q : Nat → Bool} : allN n q = true ↔ ∀ j, j < n → q j = true := by simp [allN]
theorem allN_false {n i : Nat} {q : Nat → Bool} (h : i < n) (hq : q i = false) : allN n q = false := by
 rw [Bool.eq_false_iff]; exact fun ha => by rw [allN_iff.1 ha i h] at hq; cases hq
theorem allN_true {n : Nat} {q : Nat → Bool} (h : ∀ j, j < n → q j = true) : allN n q = true := allN_iff.2 h
end Go.Proofs.YtmegaleepkmadaaGreatDoor

/- Contracts: the profiles. -/
namespace Go.Proofs.YtmegaleepkmadaaGreatDoor
open Go Go.Sx Go.Proofs
set_option maxRecDepth 100000
set_option maxHeartbeats 4000000
set_option linter.unusedSimpArgs false

@[go_sem] def fnV (f : Nat) : Value := .func (.func f) #[] #[]
def keyLen (p : Int) : Int := if p = 1 then 16 else if p = 2 then 32 else 0
end Go.Proofs.YtmegaleepkmadaaGreatDoor

/-
  A world that has grown: 'w.more u' keeps every block of w; regions that draw their order, walked in one order; for whatever program.
-/
namespace Go
open Go.RowKit

def Gr (w w' : World) : Prop := Below w.heap.size w w'

theorem Gr.refl (w : World) : Gr w w := Below.refl _ _
theorem Gr.trans {a b c : World} (h : Gr a b) (k : Gr b c) : Gr a c := Below.trans h (Below.mono k h.size)
theorem Gr.size {a b : World} (h : Gr a b) : a.heap.size ≤ b.heap.size := Below.size h
theorem Gr.cell {a b : World} (h : Gr a b) {p : Addr} (hp : p.block < a.heap.size) : b.cell? p = a.cell? p := Below.cell h hp
theorem Gr.frozen {a b : World} (h : Gr a b) {p : Addr} (hp : p.block < a.heap.size) : b.frozen? p = a.frozen? p := Below.frozen h hp
theorem Gr.block {a b : World} (h : Gr a b) {k : Nat} (hk : k < a.heap.size) : b.heap[k]? = a.heap[k]? := Below.block h k hk
theorem Gr.alloc (w : World) (o : Obj) : Gr w (w.alloc o) := (Below.refl _ _).alloc (Nat.le_refl _) _
theorem Gr.drew (w : World) : Gr w w.drew := (Below.refl _ _).drew
open Classical in
noncomputable def World.more (w u : World) : World := if Gr w u then u else w

section
variable {w u v : World}
theorem World.more_gr (w u : World) : Gr w (w.more u) := by
  unfold World.more
  split
  · assumption
  · exact Gr.refl w
theorem World.more_eq (h : Gr w u) : w.more u = u := by unfold World.more; rw [if_pos h]
theorem Gr.more (h : Gr w u) : ∃ x, u = w.more x := ⟨u, (World.more_eq h).symm⟩
theorem World.size_more (w u : World) : w.heap.size ≤ (w.more u).heap.size := (World.more_gr w u).size
@[go_sem] theorem World.cell?_more (w u : World) (a : Addr) (h : a.block < w.heap.size) : (w.more u).cell? a = w.cell? a := (World.more_gr w u).cell h
@[go_sem] theorem World.frozen?_more (w u : World) (a : Addr) (h : a.block < w.heap.size) : (w.more u).frozen? a = w.frozen? a := (World.more_gr w u).frozen h
end

@[go_sem] theorem World.cell?_more_a1 (w u : World) (o1 : Obj) (b i : Nat) (h : b < w.heap.size) : ((w.alloc o1).more u).cell? ⟨b, i, none⟩ = w.cell? ⟨b, i, none⟩ := by
  rw [World.cell?_more _ u ⟨b, i, none⟩ (by simp; omega)]
  rw [World.cell?_alloc_past _ _ _ h]
@[go_sem] theorem World.frozen?_more_a1 (w u : World) (o1 : Obj) (b i : Nat) (h : b < w.heap.size) : ((w.alloc o1).more u).frozen? ⟨b, i, none⟩ = w.frozen? ⟨b, i, none⟩ := by
  rw [World.frozen?_more _ u ⟨b, i, none⟩ (by simp; omega)]
  rw [World.frozen?_alloc_past _ _ _ h]
@[go_sem] theorem World.cell?_more_a2 (w u : World) (o1 o2 : Obj) (b i : Nat) (h : b < w.heap.size) : (((w.alloc o1).alloc o2).more u).cell? ⟨b, i, none⟩ = w.cell? ⟨b, i, none⟩ := by
  rw [World.cell?_more _ u ⟨b, i, none⟩ (by simp; omega)]
  rw [World.cell?_alloc_past _ _ _ (by simp; omega), World.cell?_alloc_past _ _ _ h]
@[go_sem] theorem World.frozen?_more_a2 (w u : World) (o1 o2 : Obj) (b i : Nat) (h : b < w.heap.size) : (((w.alloc o1).alloc o2).more u).frozen? ⟨b, i, none⟩ = w.frozen? ⟨b, i, none⟩ := by
  rw [World.frozen?_more _ u ⟨b, i, none⟩ (by simp; omega)]
  rw [World.frozen?_alloc_past _ _ _ (by simp; omega), World.frozen?_alloc_past _ _ _ h]
@[go_sem] theorem World.cell?_more_a3 (w u : World) (o1 o2 o3 : Obj) (b i : Nat) (h : b < w.heap.size) : ((((w.alloc o1).alloc o2).alloc o3).more u).cell? ⟨b, i, none⟩ = w.cell? ⟨b, i, none⟩ := by
  rw [World.cell?_more _ u ⟨b, i, none⟩ (by simp; omega)]
  rw [World.cell?_alloc_past _ _ _ (by simp; omega), World.cell?_alloc_past _ _ _ (by simp; omega), World.cell?_alloc_past _ _ _ h]
@[go_sem] theorem World.frozen?_more_a3 (w u : World) (o1 o2 o3 : Obj) (b i : Nat) (h : b < w.heap.size) : ((((w.alloc o1).alloc o2).alloc o3).more u).frozen? ⟨b, i, none⟩ = w.frozen? ⟨b, i, none⟩ := by
  rw [World.frozen?_more _ u ⟨b, i, none⟩ (by simp; omega)]
  rw [World.frozen?_alloc_past _ _ _ (by simp; omega), World.frozen?_alloc_past _ _ _ (by simp; omega), World.frozen?_alloc_past _ _ _ h]
@[go_sem] theorem World.cell?_more_a4 (w u : World) (o1 o2 o3 o4 : Obj) (b i : Nat) (h : b < w.heap.size) : (((((w.alloc o1).alloc o2).alloc o3).alloc o4).more u).cell? ⟨b, i, none⟩ = w.cell? ⟨b, i, none⟩ := by
  rw [World.cell?_more _ u ⟨b, i, none⟩ (by simp; omega)]
  rw [World.cell?_alloc_past _ _ _ (by simp; omega), World.cell?_alloc_past _ _ _ (by simp; omega), World.cell?_alloc_past _ _ _ (by simp; omega), World.cell?_alloc_past _ _ _ h]
@[go_sem] theorem World.frozen?_more_a4 (w u : World) (o1 o2 o3 o4 : Obj) (b i : Nat) (h : b < w.heap.size) : (((((w.alloc o1).alloc o2).alloc o3).alloc o4).more u).frozen? ⟨b, i, none⟩ = w.frozen? ⟨b, i, none⟩ := by
  rw [World.frozen?_more _ u ⟨b, i, none⟩ (by simp; omega)]
  rw [World.frozen?_alloc_past _ _ _ (by simp; omega), World.frozen?_alloc_past _ _ _ (by simp; omega), World.frozen?_alloc_past _ _ _ (by simp; omega), World.frozen?_alloc_past _ _ _ h]
@[go_sem] theorem World.cell?_more_a5 (w u : World) (o1 o2 o3 o4 o5 : Obj) (b i : Nat) (h : b < w.heap.size) : ((((((w.alloc o1).alloc o2).alloc o3).alloc o4).alloc o5).more u).cell? ⟨b, i, none⟩ = w.cell? ⟨b, i, none⟩ := by
  rw [World.cell?_more _ u ⟨b, i, none⟩ (by simp; omega)]
  rw [World.cell?_alloc_past _ _ _ (by simp; omega), World.cell?_alloc_past _ _ _ (by simp; omega), World.cell?_alloc_past _ _ _ (by simp; omega), World.cell?_alloc_past _ _ _ (by simp; omega), World.cell?_alloc_past _ _ _ h]
@[go_sem] theorem World.frozen?_more_a5 (w u : World) (o1 o2 o3 o4 o5 : Obj) (b i : Nat) (h : b < w.heap.size) : ((((((w.alloc o1).alloc o2).alloc o3).alloc o4).alloc o5).more u).frozen? ⟨b, i, none⟩ = w.frozen? ⟨b, i, none⟩ := by
  rw [World.frozen?_more _ u ⟨b, i, none⟩ (by simp; omega)]
  rw [World.frozen?_alloc_past _ _ _ (by simp; omega), World.frozen?_alloc_past _ _ _ (by simp; omega), World.frozen?_alloc_past _ _ _ (by simp; omega), World.frozen?_alloc_past _ _ _ (by simp; omega), World.frozen?_alloc_past _ _ _ h]
@[go_sem] theorem World.cell?_more_a6 (w u : World) (o1 o2 o3 o4 o5 o6 : Obj) (b i : Nat) (h : b < w.heap.size) : (((((((w.alloc o1).alloc o2).alloc o3).alloc o4).alloc o5).alloc o6).more u).cell? ⟨b, i, none⟩ = w.cell? ⟨b, i, none⟩ := by
  rw [World.cell?_more _ u ⟨b, i, none⟩ (by simp; omega)]
  rw [World.cell?_alloc_past _ _ _ (by simp; omega), World.cell?_alloc_past _ _ _ (by simp; omega), World.cell?_alloc_past _ _ _ (by simp; omega), World.cell?_alloc_past _ _ _ (by simp; omega), World.cell?_alloc_past _ _ _ (by simp; omega), World.cell?_alloc_past _ _ _ h]
@[go_sem] theorem World.frozen?_more_a6 (w u : World) (o1 o2 o3 o4 o5 o6 : Obj) (b i : Nat) (h : b < w.heap.size) : (((((((w.alloc o1).alloc o2).alloc o3).alloc o4).alloc o5).alloc o6).more u).frozen? ⟨b, i, none⟩ = w.frozen? ⟨b, i, none⟩ := by
  rw [World.frozen?_more _ u ⟨b, i, none⟩ (by simp; omega)]
  rw [World.frozen?_alloc_past _ _ _ (by simp; omega), World.frozen?_alloc_past _ _ _ (by simp; omega), World.frozen?_alloc_past _ _ _ (by simp; omega), World.frozen?_alloc_past _ _ _ (by simp; omega), World.frozen?_alloc_past _ _ _ (by simp; omega), World.frozen?_alloc_past _ _ _ h]
@[go_sem] theorem nat_lt_size_more {a : Nat} (w u : World) (h : a < w.heap.size) : (a < (w.more u).heap.size) = True := eq_true (Nat.lt_of_lt_of_le h (World.size_more w u))

def stillUpon (w : World) (v : Value) : Result Next → Prop
  | .ok (.value u) w' => w' = w ∧ u = v
  | .ok .skip w' => w' = w ∧ v = undef
  | _ => False
attribute [go_sem] stillUpon

section
variable {P : Program} {ops : Array Oper} {Q : Exit → Act → World → Prop} {md : Region.Mode} {C : World → Prop}

def NoPan (Q : Exit → Act → World → Prop) : Exit → Act → World → Prop
  | .panic _, _, _ => False
  | e, a, w => Q e a w
theorem NoPan.toQ {Q : Exit → Act → World → Prop} : ∀ (e : Exit) (a : Act) (w : World), NoPan Q e a w → Q e a w := fun e a w h => by
  cases e <;> first | exact h | exact (h : False).elim

end
end Go

