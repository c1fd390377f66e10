/- The functions of the program in the compact form; the kernel checks each. -/
import Derived.Test.YtcjehhejgimmdaaGreatDoorP10
import Derived.Test.YtcjehhejgimmdaaGreatDoorProg
import Derived.KernelRfl
import Derived.Test.YtcjehhejgimmdaaGreatDoorP11
import Derived.Test.YtcjehhejgimmdaaGreatDoorP12
import Derived.Test.YtcjehhejgimmdaaGreatDoorP13
import Derived.Test.YtcjehhejgimmdaaGreatDoorP8
import Derived.WalkKit
import Derived.WalkSpells
import Derived.Deep.QuietTactic
import Derived.Lib.Hide
set_option linter.all false
namespace Go.Proofs.YtcjehhejgimmdaaGreatDoor
open Go Go.Sx Go.Proofs
set_option maxRecDepth 100000
abbrev Fi3 (n : Nat) (i : FI) : Prop := finfo Tryz.prog n = some i
def ir218 : FI := ⟨40, [.tmp 2, .tmp 3], (qR [mI 2 0, o1 3 (.mov kF)] (.seq (qR [mv 7 0, lN 8 false 7, bC 9 .lss 8 1, mv 10 9, vF 11 0 10, oF 12 (.len false (T 11)) 10, oF 13 (.bin .gtr 0 (T 12) (ci 8)) 10, pT 14 10 13] (.cond (T 14) (qR [mI 2 0, o1 3 (.mov kF)] .ret) .skip)) (qR [mv 15 0, o1 16 (.ia 1 (T 15) (ci 0)), lD 17 16, o1 18 (.toInt .i8 (T 17)), o1 19 (.toInt .i64 (T 18)), mv 4 19] (.seq (qR [mv 20 0, o1 21 (.sl (some 1) (T 20) (some (ci 1)) none), lN 22 false 21, mI 23 0] (.blk 0 (.loop (qR [bN 24 .lss 0 23 22] (.seq (cE 24 0) (.seq (.blk 1 (qR [iA 25 1 21 23, lD 26 25, mv 6 26] (.reg [mv 27 4, o1 28 (.bin .shl 0 (T 27) (.const (.int .u64 8))), mv 29 6, o1 30 (.toInt .i64 (T 29)), bN 31 .or 0 28 30, mv 4 31]))) (.reg [aI 32 23, mv 23 32]))))))) (qR [mv 33 4, mv 34 4, c1 35 83 34, mv 36 0, o1 37 (.bsl (.slice .u8) 1 1 [zs] [(0, (T 36))]), o1 38 (.call (.func 153) [(.const (.int .u8 2)), (T 37)]), c2 39 105 35 38, mv 2 33, mv 3 39] .ret)))))⟩
theorem fi218 : Fi3 218 ir218 := by delta Fi3; kernel_rfl
def ir219 : FI := ⟨13, [.tmp 2, .tmp 3], (qR [mI 2 0, o1 3 (.mov kF)] (.seq (qR [mv 5 0, lN 6 false 5, bC 7 .neq 6 6] (.cond (T 7) (qR [mI 2 0, o1 3 (.mov kF)] .ret) .skip)) (qR [mv 8 0, c1 9 220 8, mv 4 9] (qR [mv 10 4, mv 11 4, bC 12 .leq 11 1099511627776, mv 2 10, mv 3 12] .ret))))⟩
theorem fi219 : Fi3 219 ir219 := by delta Fi3; kernel_rfl
def ir220 : FI := ⟨18, [.tmp 2], (qR [mI 2 0] (.seq (qR [mv 5 0, lN 6 false 5, mI 7 0] (.blk 0 (.loop (qR [bN 8 .lss 0 7 6] (.seq (cE 8 0) (.seq (.blk 1 (qR [iA 9 1 5 7, lD 10 9, mv 4 10] (.reg [mv 11 2, o1 12 (.bin .shl 0 (T 11) (.const (.int .u64 8))), mv 13 4, o1 14 (.toInt .i64 (T 13)), bN 15 .or 0 12 14, mv 2 15]))) (.reg [aI 16 7, mv 7 16]))))))) (qR [mv 17 2, mv 2 17] .ret)))⟩
theorem fi220 : Fi3 220 ir220 := by delta Fi3; kernel_rfl
def ir221 : FI := ⟨54, [.tmp 6, .tmp 7], (qR [o1 6 (.mov (.const (.int .u32 0))), mI 7 0] (qR [o1 8 (.mov (.const (.int .u32 0)))] (.seq (qR [mv 12 0, o1 13 (.bin .eql 1 (T 12) (.const (.pointer none))), mv 14 13, vF 15 0 14, oF 16 (.nil (T 15)) 14, fF 17 2 16 14, lF 18 17 14, oF 19 (.un .not (T 18)) 14, pT 20 14 19] (.cond (T 20) (qR [mv 21 8, mv 6 21, mI 7 1] .ret) .skip)) (qR [mv 22 0, nL 23 22, fA 24 0 23, fA 25 1 24, lD 26 25, mv 9 26] (qR [mv 28 0, nL 29 28, fA 30 0 29, mv 31 1, c2 32 250 30 31, mv 27 32, ex 33 0 27, ex 34 1 27, mv 10 33, mv 7 34] (.seq (qR [mv 35 7, bC 36 .neq 35 0] (.cond (T 36) (qR [mv 37 8, mv 38 7, mv 6 37, mv 7 38] .ret) .skip)) (qR [mv 40 2, mv 41 10, o1 42 (.call (T 40) [(T 41)]), mv 39 42, ex 43 0 39, ex 44 1 39, mv 6 43, mv 11 44] (.seq (qR [mv 45 11, nT 46 45] (.cond (T 46) (qR [mv 47 0, mv 48 9, nL 49 47, fA 50 0 49, fA 51 1 50, sT 1 51 48] (qR [mv 52 8, mv 6 52, mI 7 6] .ret)) .skip)) (qR [mv 53 6, mv 6 53, mI 7 0] .ret)))))))))⟩
theorem fi221 : Fi3 221 ir221 := by delta Fi3; kernel_rfl
def ir222 : FI := ⟨17, [.tmp 2, .tmp 3], (qR [o1 2 (.mov (.const (.int .u32 0))), o1 3 (.mov kF)] (.seq (qR [mv 4 0, lN 5 false 4, bC 6 .neq 5 5, mv 7 6, vF 8 0 7, oF 9 (.ia 1 (T 8) (ci 0)) 7, lF 10 9 7, oF 11 (.bin .neq 0 (T 10) (.const (.int .u8 0))) 7, pT 12 7 11] (.cond (T 12) (qR [o1 2 (.mov (.const (.int .u32 0))), o1 3 (.mov kF)] .ret) .skip)) (qR [mv 13 0, o1 14 (.sl (some 1) (T 13) (some (ci 1)) none), c1 15 220 14, o1 16 (.toInt .u32 (T 15)), mv 2 16, o1 3 (.mov kT)] .ret)))⟩
theorem fi222 : Fi3 222 ir222 := by delta Fi3; kernel_rfl
def ir223 : FI := ⟨16, [.tmp 2], (qR [o1 2 (.mov (.const (.pointer none)))] (.seq (qR [mv 4 0, o1 5 (.bin .eql 1 (T 4) (.const (.pointer none))), mv 6 5, vF 7 0 6, oF 8 (.nil (T 7)) 6, fF 9 2 8 6, lF 10 9 6, oF 11 (.un .not (T 10)) 6, pT 12 6 11] (.cond (T 12) (qR [o1 2 (.mov (.const (.pointer none)))] .ret) .skip)) (qR [mv 13 0, nL 14 13, lG 15 3 14, o1 3 (.new 223 [zs, zi, (.bool false)]), sT 3 3 15] (qR [mv 2 3] .ret))))⟩
theorem fi223 : Fi3 223 ir223 := by delta Fi3; kernel_rfl
def ir224 : RI := ⟨19, 7, [o1 8 (.ta 38 zi (T 7)), mv 6 8, ex 9 0 6, ex 10 1 6, mv 4 9, mv 5 10], (qR [mv 11 5] (.cond (T 11) (.seq (.drw [tt (lD 12 1), tt (lD 13 0), tt (nL 14 13), tt (lG 15 3 14), tt (nL 16 12), ft (sT 3 16 15)]) (.reg [o1 17 (.bld [zs, ze] (.fields [(0, 1), (1, 1)]) []), mv 18 4, sT 2 2 17, sT 1 3 18])) .skip))⟩
theorem fi224 : rinfo Tryz.prog 224 = some ir224 := by kernel_rfl
def ir225 : FI := ⟨10, [.tmp 4], (qR [o1 4 (.mov (.const (.pointer none)))] (.seq (qR [mv 5 1, bC 6 .neq 5 0] (.cond (T 6) (.reg [mv 7 1, o1 8 (.mki 38 (T 7)), o0 (.pan (T 8))]) .skip)) (qR [mv 9 0, mv 4 9] .ret)))⟩
theorem fi225 : Fi3 225 ir225 := by delta Fi3; kernel_rfl
def ir226 : FI := ⟨47, [.tmp 6], (qR [o1 6 (.mov (.const (.pointer none)))] (qR [mv 12 0, mv 13 1, c2 14 210 12 13, mv 11 14, ex 15 0 11, ex 16 1 11, ex 17 2 11, mv 7 15, mv 8 16, mv 9 17] (.seq (.blk 0 (qR [mv 19 9, bC 20 .neq 19 0, mv 18 20] (.cond (T 18) (.reg [mv 21 9, o1 22 (.mki 38 (T 21)), o0 (.pan (T 22))]) (qR [mv 24 8, nT 25 24, mv 26 25, vT 27 0 26, oT 28 (.call (.func 227) [(T 27)]) 26, oT 29 (.bin .eql 0 (T 28) (ci 0)) 26, pF 30 26 29, mv 23 30] (.cond (T 23) (.reg [o1 31 (.mki 38 (ci 4)), o0 (.pan (T 31))]) (qR [mv 33 8, nT 34 33, mv 32 34] (.cond (T 32) (.reg [o1 35 (.mki 38 (ci 6)), o0 (.pan (T 35))]) .skip))))))) (qR [mv 36 2, mv 37 7, o1 38 (.call (T 36) [(T 37)]), ex 39 0 38, ex 40 1 38, c2 41 225 39 40, mv 10 41] (.seq (qR [mv 42 7, c1 43 227 42, bC 44 .gtr 43 0] (.cond (T 44) (.reg [o1 45 (.mki 38 (ci 6)), o0 (.pan (T 45))]) .skip)) (qR [mv 46 10, mv 6 46] .ret))))))⟩
theorem fi226 : Fi3 226 ir226 := by delta Fi3; kernel_rfl
def ir227 : FI := ⟨17, [.tmp 2], (qR [mI 2 0] (.seq (qR [mv 3 0, o1 4 (.bin .eql 1 (T 3) (.const (.pointer none))), mv 5 4, vF 6 0 5, oF 7 (.nil (T 6)) 5, fF 8 2 7 5, lF 9 8 5, oF 10 (.un .not (T 9)) 5, pT 11 5 10] (.cond (T 11) (qR [mI 2 0] .ret) .skip)) (qR [mv 12 0, nL 13 12, fA 14 0 13, c1 15 251 14, lN 16 false 15, mv 2 16] .ret)))⟩
theorem fi227 : Fi3 227 ir227 := by delta Fi3; kernel_rfl
def ir228 : FI := ⟨10, [.tmp 4], (qR [o1 4 (.mov kE)] (.seq (qR [mv 5 1, bC 6 .neq 5 0] (.cond (T 6) (.reg [mv 7 1, o1 8 (.mki 38 (T 7)), o0 (.pan (T 8))]) .skip)) (qR [mv 9 0, mv 4 9] .ret)))⟩
theorem fi228 : Fi3 228 ir228 := by delta Fi3; kernel_rfl
def ir229 : FI := ⟨8, [.tmp 2, .tmp 3], (qR [o1 2 (.mov kE), mI 3 0] (qR [mv 4 0, o1 5 (.call (.func 256) [(T 4), (.const (.int .u8 27)), (.func 257)]), ex 6 0 5, ex 7 1 5, mv 2 6, mv 3 7] .ret))⟩
theorem fi229 : Fi3 229 ir229 := by delta Fi3; kernel_rfl
def ir230 : FI := ⟨47, [.tmp 6], (qR [o1 6 (.mov kE)] (qR [mv 12 0, mv 13 1, c2 14 210 12 13, mv 11 14, ex 15 0 11, ex 16 1 11, ex 17 2 11, mv 7 15, mv 8 16, mv 9 17] (.seq (.blk 0 (qR [mv 19 9, bC 20 .neq 19 0, mv 18 20] (.cond (T 18) (.reg [mv 21 9, o1 22 (.mki 38 (T 21)), o0 (.pan (T 22))]) (qR [mv 24 8, nT 25 24, mv 26 25, vT 27 0 26, oT 28 (.call (.func 227) [(T 27)]) 26, oT 29 (.bin .eql 0 (T 28) (ci 0)) 26, pF 30 26 29, mv 23 30] (.cond (T 23) (.reg [o1 31 (.mki 38 (ci 4)), o0 (.pan (T 31))]) (qR [mv 33 8, nT 34 33, mv 32 34] (.cond (T 32) (.reg [o1 35 (.mki 38 (ci 6)), o0 (.pan (T 35))]) .skip))))))) (qR [mv 36 2, mv 37 7, o1 38 (.call (T 36) [(T 37)]), ex 39 0 38, ex 40 1 38, c2 41 228 39 40, mv 10 41] (.seq (qR [mv 42 7, c1 43 227 42, bC 44 .gtr 43 0] (.cond (T 44) (.reg [o1 45 (.mki 38 (ci 6)), o0 (.pan (T 45))]) .skip)) (qR [mv 46 10, mv 6 46] .ret))))))⟩
theorem fi230 : Fi3 230 ir230 := by delta Fi3; kernel_rfl
def ir237 : FI := ⟨19, [.tmp 4], (qR [mI 4 0] (.seq (qR [mv 6 0, lN 7 false 6, mI 8 0] (.blk 0 (.loop (qR [bN 9 .lss 0 8 7] (.seq (cE 9 0) (.seq (.blk 1 (qR [mv 10 8, mv 5 10] (qR [mv 11 1, mv 12 0, mv 13 5, iA 14 1 12 13, lD 15 14, bN 16 .eql 3 11 15] (.cond (T 16) (qR [mv 17 5, mv 4 17] .ret) .skip)))) (.reg [aI 18 8, mv 8 18]))))))) (qR [o1 4 (.mov (.const (.int .i64 (-1))))] .ret)))⟩
theorem fi237 : Fi3 237 ir237 := by delta Fi3; kernel_rfl
def ir239 : FI := ⟨3, [.tmp 0], (qR [o1 0 (.mov (.const (.map none)))] (qR [o1 1 (.mkm (some .i64)), o0 (.mup (some .i64) (T 1) (ci 2) (.func 266)), o0 (.mup (some .i64) (T 1) (ci 20) (.func 267)), o0 (.mup (some .i64) (T 1) (ci 24) (.func 268)), mv 2 1, mv 0 2] .ret))⟩
theorem fi239 : Fi3 239 ir239 := by delta Fi3; kernel_rfl
def ir240 : FI := ⟨9, [.tmp 4], (qR [o1 4 (.mov kS)] (qR [mv 5 0, mv 6 1, c1 7 125 6, c2 8 150 5 7, mv 4 8] .ret))⟩
def ir241 : FI := ⟨10, [.tmp 2], (qR [o1 1 (.box 159 (T 0)), o1 2 (.mov kS)] (qR [fA 3 0 1, lD 4 3, fA 5 1 1, lD 6 5, fA 7 2 1, lD 8 7, c3 9 152 4 6 8, mv 2 9] .ret))⟩
def ir242 : FI := ⟨23, [.tmp 2], (qR [o1 1 (.box 159 (T 0)), o1 2 (.mov kF)] (qR [fA 3 0 1, lD 4 3, c1 5 269 4, bC 6 .gtr 5 0, mv 7 6, fT 8 1 1 7, lT 9 8 7, oT 10 (.bin .geq 0 (T 9) (ci 0)) 7, pF 11 7 10, mv 12 11, fT 13 1 1 12, lT 14 13 12, oT 15 (.bin .leq 0 (T 14) (ci 65535)) 12, pF 16 12 15, mv 17 16, fT 18 2 1 17, lT 19 18 17, oT 20 (.len false (T 19)) 17, oT 21 (.bin .leq 0 (T 20) (ci 65536)) 17, pF 22 17 21, mv 2 22] .ret))⟩
def ir243 : FI := ⟨17, [.tmp 2], (qR [o1 2 (.mov kS)] (.seq (qR [mv 5 0, lN 6 false 5, mI 7 0] (.blk 0 (.loop (qR [bN 8 .lss 0 7 6] (.seq (cE 8 0) (.seq (.blk 1 (qR [iA 9 1 5 7, lD 10 9, mv 4 10] (qR [mv 11 4, lN 12 false 11, bC 13 .eql 12 0] (.cond (T 13) (qR [o1 2 (.mov kS)] .ret) .skip)))) (.reg [aI 14 7, mv 7 14]))))))) (qR [mv 15 0, c1 16 125 15, mv 2 16] .ret)))⟩
theorem fi243 : Fi3 243 ir243 := by delta Fi3; kernel_rfl
def ir244 : DI := ⟨26, [.cell 4 138, .cell 5 38], [(.reg [o1 2 (.box 75 (T 0)), o1 4 (.new 138 [zs]), o1 5 (.new 38 [zi])]), (qR [lD 7 2, o1 8 (.bin .eql 1 (T 7) (.const (.pointer none))), mv 9 8, lF 10 2 9, oF 11 (.nil (T 10)) 9, fF 12 2 11 9, lF 13 12 9, oF 14 (.un .not (T 13)) 9, pT 15 9 14] (.cond (T 15) (qR [lD 16 4, sT 1 4 16, o0 (.st 1 (T 5) (ci 1))] .ret) .skip)), (.reg [lD 17 2, nL 18 17, fA 19 0 18, fA 20 1 19, lD 21 20, o1 6 (.new 3 [zi]), sT 1 6 21])], 22, 270, [(T 6), (T 2), (T 4), (T 5)], (qR [mv 23 1, lD 24 2, o1 25 (.call (T 23) [(T 24)]), sT 1 4 25, o0 (.st 1 (T 5) (ci 0))] .ret)⟩
theorem fi244 : dinfo Tryz.prog 244 = some ir244 := by kernel_rfl
def ir245 : FI := ⟨37, [.tmp 2], (qR [o1 2 (.mov kS)] (qR [mv 7 0, c1 8 196 7, ex 9 0 8, ex 10 1 8, c2 11 212 9 10, mv 3 11] (.seq (.blk 0 (.loop (.seq (qR [mv 12 3, c1 13 227 12, bC 14 .gtr 13 0] (cE 14 0)) (.blk 1 (.seq (qR [mv 15 2, lN 16 false 15, bC 17 .eql 16 16] (.cond (T 17) (.reg [o1 18 (.mki 38 (ci 6)), o0 (.pan (T 18))]) .skip)) (qR [mv 19 3, c1 20 196 19, ex 21 0 20, ex 22 1 20, c2 23 212 21 22, mv 4 23] (qR [mv 24 4, o1 25 (.call (.func 213) [(T 24), (ci 0), (.func 167)]), mv 5 25] (qR [mv 26 4, o1 27 (.call (.func 214) [(T 26), (ci 1), (.func 215)]), mv 6 27] (qR [mv 28 4, c1 29 216 28] (.reg [mv 30 2, mv 31 5, mv 32 6, o1 33 (.bld [zi, zs] (.fields [(0, 1), (1, 1)]) [(0, (T 31)), (1, (T 32))]), o1 34 (.bsl (.prod (.int .i64) (.slice .u8)) 1 2 [zi, zs] [(0, (T 33))]), o1 35 (.app (.prod (.int .i64) (.slice .u8)) 32 (T 30) (T 34)), mv 2 35])))))))))) (qR [mv 36 2, mv 2 36] .ret))))⟩
theorem fi245 : Fi3 245 ir245 := by delta Fi3; kernel_rfl
def ir246 : FI := ⟨18, [], (qR [o1 3 (.box 77 (T 0))] (.blk 0 (.loop (.seq (qR [fA 4 0 3, lD 5 4, c1 6 227 5, bC 7 .gtr 6 0] (cE 7 0)) (.blk 1 (qR [lD 8 1, lN 9 false 8, bC 10 .lss 9 16, c1 11 104 10] (.drw [tt (lD 12 1), tt (lD 13 2), tt (lG 14 1 3), ft (o1 15 (.call (T 13) [(T 14)])), ft (o1 16 (.bsl (.int .i64) 1 1 [zi] [(0, (T 15))])), ft (o1 17 (.app (.int .i64) 8 (T 12) (T 16))), ft (sT 1 1 17)])))))))⟩
theorem fi246 : Fi3 246 ir246 := by delta Fi3; kernel_rfl
def ir247 : FI := ⟨18, [], (qR [o1 3 (.box 77 (T 0))] (.blk 0 (.loop (.seq (qR [fA 4 0 3, lD 5 4, c1 6 227 5, bC 7 .gtr 6 0] (cE 7 0)) (.blk 1 (qR [lD 8 1, lN 9 false 8, bC 10 .lss 9 16, c1 11 104 10] (.drw [tt (lD 12 1), tt (lD 13 2), tt (lG 14 1 3), ft (o1 15 (.call (T 13) [(T 14)])), ft (o1 16 (.bsl (.prod (.prod (.slice .str) .str) (.prod (.int .i64) (.prod (.int .i64) (.slice .u8)))) 1 5 [zs, ze, zi, zi, zs] [(0, (T 15))])), ft (o1 17 (.app (.prod (.prod (.slice .str) .str) (.prod (.int .i64) (.prod (.int .i64) (.slice .u8)))) 80 (T 12) (T 16))), ft (sT 1 1 17)])))))))⟩
def ir248 : DI := ⟨17, [.cell 4 161, .cell 5 38], [(.reg [o1 2 (.box 75 (T 0)), o1 4 (.new 161 [zs, ze, zi, zi, zs]), o1 5 (.new 38 [zi])]), (.reg [lD 7 2, c1 8 223 7, o1 6 (.new 75 [(.pointer none)]), sT 1 6 8]), (qR [lD 9 6, o1 10 (.bin .eql 1 (T 9) (.const (.pointer none)))] (.cond (T 10) (qR [lG 11 5 4, sT 5 4 11, o0 (.st 1 (T 5) (ci 1))] .ret) .skip))], 12, 271, [(T 6), (T 2), (T 4), (T 5)], (qR [mv 13 1, lD 14 2, o1 15 (.bld [(.pointer none)] (.fields [(0, 1)]) [(0, (T 14))]), o1 16 (.call (T 13) [(T 15)]), sT 5 4 16, o0 (.st 1 (T 5) (ci 0))] .ret)⟩
def ir249 : FI := ⟨25, [.cell 2 161], (qR [o1 1 (.box 274 (T 0)), o1 2 (.new 161 [zs, ze, zi, zi, zs])] (qR [lG 5 1 1, o1 6 (.call (.func 272) [(T 5), (ci 1)]), o1 3 (.new 274 [(.pointer none)]), sT 1 3 6] (.seq (.drw [tt (lG 7 1 3), tt (lG 8 1 3), ft (o1 9 (.call (.func 274) [(T 8), (ci 0), (.func 167)])), tt (bC 10 .eql 9 5), ft (c2 11 273 7 10)]) (qR [o1 4 (.new 161 [zs, ze, zi, zi, zs])] (qR [lG 12 1 3, o1 13 (.call (.func 275) [(T 12), (ci 1), (.func 176)]), fA 14 0 4, sT 2 14 13] (qR [lG 15 1 3, o1 16 (.call (.func 276) [(T 15), (ci 2), (.func 277)]), fA 17 2 4, sT 3 17 16] (qR [lG 18 1 3, c1 19 278 18] (.seq (.drw [tt (lG 20 1 3), tt (lG 21 5 4), ft (c1 22 189 21), ft (c2 23 273 20 22)]) (qR [lG 24 5 4, sT 5 2 24] .ret)))))))))⟩
def ir250 : FI := ⟨42, [.tmp 4, .tmp 5], (qR [o1 4 (.mov kS), mI 5 0] (qR [mv 10 0, c1 11 251 10, mv 6 11] (.seq (qR [mv 12 6, lN 13 false 12, bC 14 .eql 13 0] (.cond (T 14) (qR [o1 4 (.mov kS), mI 5 4] .ret) .skip)) (.seq (qR [mv 15 6, o1 16 (.ia 1 (T 15) (ci 0)), lD 17 16, mv 18 1, bN 19 .neq 0 17 18] (.cond (T 19) (qR [o1 4 (.mov kS), mI 5 6] .ret) .skip)) (qR [mv 21 6, c1 22 279 21, mv 20 22, ex 23 0 20, ex 24 1 20, ex 25 2 20, mv 7 23, mv 8 24, mv 9 25] (.seq (qR [mv 26 9, bC 27 .neq 26 0] (.cond (T 27) (qR [mv 28 9, o1 4 (.mov kS), mv 5 28] .ret) .skip)) (qR [mv 29 0, nL 30 29, fA 31 1 30, lD 32 31, mv 33 8, bN 34 .add 0 32 33, nL 35 29, fA 36 1 35, sT 1 36 34] (qR [mv 37 6, mv 38 7, mv 39 8, mv 40 8, o1 41 (.sl3 1 false (T 37) (some (T 38)) (T 39) (T 40)), mv 4 41, mI 5 0] .ret))))))))⟩
theorem fi250 : Fi3 250 ir250 := by delta Fi3; kernel_rfl
def ir251 : FI := ⟨22, [.tmp 2], (qR [o1 2 (.mov kS)] (.seq (.drw [tt (mv 3 0), tt (nL 4 3), tt (fA 5 0 4), tt (lD 6 5), tt (mv 7 0), tt (nL 8 7), tt (fA 9 1 8), tt (lD 10 9), tt (mv 11 0), tt (nL 12 11), tt (fA 13 0 12), tt (lD 14 13), tt (lN 15 false 14), tt (mv 16 0), tt (nL 17 16), tt (fA 18 0 17), tt (lD 19 18), tt (lN 20 false 19), tt (o1 21 (.sl3 1 false (T 6) (some (T 10)) (T 15) (T 20))), tt (mv 2 21)]) .ret))⟩
theorem fi251 : Fi3 251 ir251 := by delta Fi3; kernel_rfl
def ir252 : FI := ⟨10, [.tmp 4], (qR [mI 4 0] (.seq (qR [mv 5 1, bC 6 .neq 5 0] (.cond (T 6) (.reg [mv 7 1, o1 8 (.mki 38 (T 7)), o0 (.pan (T 8))]) .skip)) (qR [mv 9 0, mv 4 9] .ret)))⟩
theorem fi252 : Fi3 252 ir252 := by delta Fi3; kernel_rfl
def ir253 : FI := ⟨10, [.tmp 4], (qR [o1 4 (.mov kS)] (.seq (qR [mv 5 1, bC 6 .neq 5 0] (.cond (T 6) (.reg [mv 7 1, o1 8 (.mki 38 (T 7)), o0 (.pan (T 8))]) .skip)) (qR [mv 9 0, mv 4 9] .ret)))⟩
theorem fi253 : Fi3 253 ir253 := by delta Fi3; kernel_rfl
def ir254 : FI := ⟨54, [.tmp 6, .tmp 7], (qR [o1 6 (.mov kS), mI 7 0] (qR [o1 8 (.mov kS)] (.seq (qR [mv 12 0, o1 13 (.bin .eql 1 (T 12) (.const (.pointer none))), mv 14 13, vF 15 0 14, oF 16 (.nil (T 15)) 14, fF 17 2 16 14, lF 18 17 14, oF 19 (.un .not (T 18)) 14, pT 20 14 19] (.cond (T 20) (qR [mv 21 8, mv 6 21, mI 7 1] .ret) .skip)) (qR [mv 22 0, nL 23 22, fA 24 0 23, fA 25 1 24, lD 26 25, mv 9 26] (qR [mv 28 0, nL 29 28, fA 30 0 29, mv 31 1, c2 32 250 30 31, mv 27 32, ex 33 0 27, ex 34 1 27, mv 10 33, mv 7 34] (.seq (qR [mv 35 7, bC 36 .neq 35 0] (.cond (T 36) (qR [mv 37 8, mv 38 7, mv 6 37, mv 7 38] .ret) .skip)) (qR [mv 40 2, mv 41 10, o1 42 (.call (T 40) [(T 41)]), mv 39 42, ex 43 0 39, ex 44 1 39, mv 6 43, mv 11 44] (.seq (qR [mv 45 11, nT 46 45] (.cond (T 46) (qR [mv 47 0, mv 48 9, nL 49 47, fA 50 0 49, fA 51 1 50, sT 1 51 48] (qR [mv 52 8, mv 6 52, mI 7 6] .ret)) .skip)) (qR [mv 53 6, mv 6 53, mI 7 0] .ret)))))))))⟩
theorem fi254 : Fi3 254 ir254 := by delta Fi3; kernel_rfl
def ir255 : FI := ⟨6, [.tmp 2, .tmp 3], (qR [o1 2 (.mov kS), o1 3 (.mov kF)] (qR [mv 4 0, c1 5 181 4, mv 2 5, o1 3 (.mov kT)] .ret))⟩
theorem fi255 : Fi3 255 ir255 := by delta Fi3; kernel_rfl
def ir256 : FI := ⟨54, [.tmp 6, .tmp 7], (qR [o1 6 (.mov kE), mI 7 0] (qR [o1 8 (.mov kE)] (.seq (qR [mv 12 0, o1 13 (.bin .eql 1 (T 12) (.const (.pointer none))), mv 14 13, vF 15 0 14, oF 16 (.nil (T 15)) 14, fF 17 2 16 14, lF 18 17 14, oF 19 (.un .not (T 18)) 14, pT 20 14 19] (.cond (T 20) (qR [mv 21 8, mv 6 21, mI 7 1] .ret) .skip)) (qR [mv 22 0, nL 23 22, fA 24 0 23, fA 25 1 24, lD 26 25, mv 9 26] (qR [mv 28 0, nL 29 28, fA 30 0 29, mv 31 1, c2 32 250 30 31, mv 27 32, ex 33 0 27, ex 34 1 27, mv 10 33, mv 7 34] (.seq (qR [mv 35 7, bC 36 .neq 35 0] (.cond (T 36) (qR [mv 37 8, mv 38 7, mv 6 37, mv 7 38] .ret) .skip)) (qR [mv 40 2, mv 41 10, o1 42 (.call (T 40) [(T 41)]), mv 39 42, ex 43 0 39, ex 44 1 39, mv 6 43, mv 11 44] (.seq (qR [mv 45 11, nT 46 45] (.cond (T 46) (qR [mv 47 0, mv 48 9, nL 49 47, fA 50 0 49, fA 51 1 50, sT 1 51 48] (qR [mv 52 8, mv 6 52, mI 7 6] .ret)) .skip)) (qR [mv 53 6, mv 6 53, mI 7 0] .ret)))))))))⟩
theorem fi256 : Fi3 256 ir256 := by delta Fi3; kernel_rfl
def ir257 : FI := ⟨6, [.tmp 2, .tmp 3], (qR [o1 2 (.mov kE), o1 3 (.mov kF)] (qR [mv 4 0, tS 5 4, mv 2 5, o1 3 (.mov kT)] .ret))⟩
theorem fi257 : Fi3 257 ir257 := by delta Fi3; kernel_rfl
def ir266 : FI := ⟨10, [.tmp 2, .tmp 3], (qR [o1 2 (.mov kE), o1 3 (.mov kF)] (.seq (qR [mv 4 0, lN 5 false 4, bC 6 .neq 5 4] (.cond (T 6) (qR [o1 2 (.mov kE), o1 3 (.mov kF)] .ret) .skip)) (qR [mv 7 0, o1 8 (.call (.func 295) [(T 7), (ci 1), (.func 296)]), o1 9 (.call (.func 294) [(.const (.string ⟨#[46]⟩)), (T 8)]), mv 2 9, o1 3 (.mov kT)] .ret)))⟩
theorem fi266 : Fi3 266 ir266 := by delta Fi3; kernel_rfl
def ir267 : FI := ⟨30, [.tmp 2, .tmp 3], (qR [o1 2 (.mov kE), o1 3 (.mov kF)] (.seq (qR [mv 6 0, lN 7 false 6, bC 8 .lss 7 1, mv 9 8, vF 10 0 9, oF 11 (.len false (T 10)) 9, oF 12 (.bin .gtr 0 (T 11) (ci 16)) 9, pT 13 9 12] (.cond (T 13) (qR [o1 2 (.mov kE), o1 3 (.mov kF)] .ret) .skip)) (.seq (qR [mv 14 0, lN 15 false 14, mI 16 0] (.blk 0 (.loop (qR [bN 17 .lss 0 16 15] (.seq (cE 17 0) (.seq (.blk 1 (qR [iA 18 1 14 16, lD 19 18, mv 5 19] (qR [mv 20 5, o1 21 (.bin .lss 0 (T 20) (.const (.int .u8 33))), mv 22 21, vF 23 5 22, oF 24 (.bin .gtr 0 (T 23) (.const (.int .u8 126))) 22, pT 25 22 24] (.cond (T 25) (qR [o1 2 (.mov kE), o1 3 (.mov kF)] .ret) .skip)))) (.reg [aI 26 16, mv 16 26]))))))) (qR [mv 27 0, tS 28 27, o1 29 (.bin .add 0 (.const (.string ⟨#[104, 111, 115, 116, 47]⟩)) (T 28)), mv 2 29, o1 3 (.mov kT)] .ret))))⟩
theorem fi267 : Fi3 267 ir267 := by delta Fi3; kernel_rfl
def ir268 : FI := ⟨62, [.tmp 2, .tmp 3], (qR [o1 2 (.mov kE), o1 3 (.mov kF)] (.seq (qR [mv 9 0, lN 10 false 9, bC 11 .neq 10 16] (.cond (T 11) (qR [o1 2 (.mov kE), o1 3 (.mov kF)] .ret) .skip)) (qR [mv 12 0, o1 13 (.call (.func 295) [(T 12), (ci 2), (.func 298)]), mv 4 13] (qR [mI 5 0, mI 6 0] (.seq (qR [mv 14 4, lN 15 false 14, mI 16 0] (.blk 0 (.loop (qR [bN 17 .lss 0 16 15] (.seq (cE 17 0) (.seq (.blk 1 (qR [mv 18 16, mv 7 18] (qR [mI 8 0] (.seq (.blk 2 (.loop (.seq (qR [mv 19 7, mv 20 8, bN 21 .add 0 19 20, mv 22 4, lN 23 false 22, bN 24 .lss 0 21 23, mv 25 24, vT 26 4 25, vT 27 7 25, vT 28 8 25, oT 29 (.bin .add 0 (T 27) (T 28)) 25, oT 30 (.ia 1 (T 26) (T 29)) 25, lT 31 30 25, oT 32 (.bin .eql 0 (T 31) (.const (.string ⟨#[48]⟩))) 25, pF 33 25 32] (cE 33 2)) (.blk 3 (.reg [mv 34 8, aI 35 34, mv 8 35]))))) (qR [mv 36 8, mv 37 6, bN 38 .gtr 0 36 37] (.cond (T 38) (.reg [mv 39 7, mv 40 8, mv 5 39, mv 6 40]) .skip)))))) (.reg [aI 41 16, mv 16 41]))))))) (.seq (qR [mv 42 6, bC 43 .lss 42 2] (.cond (T 43) (qR [mv 44 4, o1 45 (.call (.func 294) [(.const (.string ⟨#[58]⟩)), (T 44)]), o1 46 (.bin .add 0 (.const (.string ⟨#[91]⟩)) (T 45)), o1 47 (.bin .add 0 (T 46) (.const (.string ⟨#[93]⟩))), mv 2 47, o1 3 (.mov kT)] .ret) .skip)) (.seq (.drw [tt (mv 48 4), tt (mv 49 5), tt (o1 50 (.sl (some 1) (T 48) none (some (T 49)))), tt (mv 54 4), tt (mv 55 5), tt (mv 56 6), tt (bN 57 .add 0 55 56), tt (o1 58 (.sl (some 1) (T 54) (some (T 57)) none)), ft (o1 51 (.call (.func 294) [(.const (.string ⟨#[58]⟩)), (T 50)])), tt (o1 52 (.bin .add 0 (.const (.string ⟨#[91]⟩)) (T 51))), tt (o1 53 (.bin .add 0 (T 52) (.const (.string ⟨#[58, 58]⟩)))), ft (o1 59 (.call (.func 294) [(.const (.string ⟨#[58]⟩)), (T 58)])), tt (bN 60 .add 0 53 59), tt (o1 61 (.bin .add 0 (T 60) (.const (.string ⟨#[93]⟩)))), tt (mv 2 61), tt (o1 3 (.mov kT))]) .ret)))))))⟩
theorem fi268 : Fi3 268 ir268 := by delta Fi3; kernel_rfl
def ir269 : FI := ⟨8, [.tmp 2], (qR [mI 2 0] (qR [c0 3 183, mv 4 0, o1 5 (.mlk (some .i64) (.agg #[ze, zi, zi, zi, zi, .nilFunc, .nilFunc, .nilFunc]) false (T 3) (T 4)), o1 6 (.fld 1 (some 4) (T 5)), o1 7 (.fld 0 none (T 6)), mv 2 7] .ret))⟩
def ir270 : RI := ⟨20, 8, [o1 9 (.ta 38 zi (T 8)), mv 7 9, ex 10 0 7, ex 11 1 7, mv 4 10, mv 5 11], (qR [mv 12 5] (.cond (T 12) (qR [o1 6 (.mov kS)] (.reg [lD 13 1, lD 14 0, mv 15 6, mv 16 4, nL 17 13, fA 18 0 17, fA 19 1 18, sT 1 19 14, sT 1 2 15, sT 1 3 16])) .skip))⟩
theorem fi270 : rinfo Tryz.prog 270 = some ir270 := by kernel_rfl
def ir271 : RI := ⟨19, 8, [o1 9 (.ta 38 zi (T 8)), mv 7 9, ex 10 0 7, ex 11 1 7, mv 4 10, mv 5 11], (qR [mv 12 5] (.cond (T 12) (qR [o1 6 (.new 161 [zs, ze, zi, zi, zs])] (.seq (.drw [tt (lD 13 1), tt (lD 14 0), tt (nL 15 14), tt (lG 16 3 15), tt (nL 17 13), ft (sT 3 17 16)]) (.reg [lG 18 5 6, sT 5 2 18, o0 (.st 1 (T 3) (ci 6))]))) .skip))⟩
def ir272 : FI := ⟨25, [.cell 4 274], (qR [o1 2 (.box 274 (T 0)), o1 4 (.new 274 [(.pointer none)])] (qR [fA 7 0 2, lD 8 7, mv 9 1, c2 10 160 8 9, ex 11 0 10, ex 12 1 10, c2 13 300 11 12, o1 14 (.bld [(.pointer none)] (.fields [(0, 1)]) [(0, (T 13))]), o1 5 (.new 274 [(.pointer none)]), sT 1 5 14] (qR [fA 15 0 5, lD 16 15, c1 17 196 16, ex 18 0 17, ex 19 1 17, c2 20 300 18 19, o1 21 (.bld [(.pointer none)] (.fields [(0, 1)]) [(0, (T 20))]), o1 6 (.new 274 [(.pointer none)]), sT 1 6 21] (qR [lG 22 1 5, c1 23 278 22] (qR [lG 24 1 6, sT 1 4 24] .ret)))))⟩
def ir273 : FI := ⟨7, [], (qR [o1 2 (.box 274 (T 0))] (qR [mv 4 1, nT 5 4] (.cond (T 5) (.reg [o1 6 (.mki 38 (ci 6)), o0 (.pan (T 6))]) .skip)))⟩
def ir274 : FI := ⟨20, [.tmp 6], (qR [o1 3 (.box 274 (T 0)), mI 6 0] (qR [lG 10 1 3, mv 11 1, mv 12 2, c3 13 301 10 11 12, mv 9 13, ex 14 0 9, ex 15 1 9, mv 7 14, mv 8 15] (qR [lG 16 1 3, mv 17 8, c2 18 273 16 17] (qR [mv 19 7, mv 6 19] .ret))))⟩
def ir275 : FI := ⟨20, [.cell 6 31], (qR [o1 3 (.box 274 (T 0)), o1 6 (.new 31 [zs, ze])] (qR [lG 10 1 3, mv 11 1, mv 12 2, c3 13 302 10 11 12, mv 9 13, ex 14 0 9, ex 15 1 9, o1 7 (.new 31 [zs, ze]), sT 2 7 14, mv 8 15] (qR [lG 16 1 3, mv 17 8, c2 18 273 16 17] (qR [lG 19 2 7, sT 2 6 19] .ret))))⟩
def ir276 : FI := ⟨20, [.cell 6 159], (qR [o1 3 (.box 274 (T 0)), o1 6 (.new 159 [zi, zi, zs])] (qR [lG 10 1 3, mv 11 1, mv 12 2, c3 13 303 10 11 12, mv 9 13, ex 14 0 9, ex 15 1 9, o1 7 (.new 159 [zi, zi, zs]), sT 3 7 14, mv 8 15] (qR [lG 16 1 3, mv 17 8, c2 18 273 16 17] (qR [lG 19 3 7, sT 3 6 19] .ret))))⟩
def ir277 : FI := ⟨8, [.cell 2 159, .tmp 3], (qR [o1 2 (.new 159 [zi, zi, zs]), mI 3 0] (qR [mv 4 0, o1 5 (.call (.func 304) [(T 4), (.func 305)]), ex 6 0 5, ex 7 1 5, sT 3 2 6, mv 3 7] .ret))⟩
def ir278 : FI := ⟨8, [], (qR [o1 1 (.box 274 (T 0))] (.drw [tt (lG 2 1 1), tt (fA 3 0 1), tt (lD 4 3), ft (c1 5 227 4), tt (bC 6 .eql 5 0), ft (c2 7 273 2 6)]))⟩
def ir279 : FI := ⟨65, [.tmp 2, .tmp 3, .tmp 4], (qR [mI 2 0, mI 3 0, mI 4 0] (.seq (qR [mv 10 0, lN 11 false 10, bC 12 .lss 11 2] (.cond (T 12) (qR [mI 2 0, mI 3 0, mI 4 4] .ret) .skip)) (qR [mv 13 0, o1 14 (.ia 1 (T 13) (ci 1)), lD 15 14, o1 16 (.toInt .i64 (T 15)), mv 5 16, mI 2 2] (.seq (qR [mv 17 5, bC 18 .geq 17 128] (.cond (T 18) (qR [mv 19 5, bC 20 .sub 19 128, mv 6 20] (.seq (qR [mv 21 6, bC 22 .lss 21 1, mv 23 22, vF 24 6 23, oF 25 (.bin .gtr 0 (T 24) (ci 3)) 23, pT 26 23 25] (.cond (T 26) (qR [mI 2 0, mI 3 0, mI 4 6] .ret) .skip)) (.seq (qR [mv 27 0, lN 28 false 27, mv 29 6, o1 30 (.bin .add 0 (ci 2) (T 29)), bN 31 .lss 0 28 30] (.cond (T 31) (qR [mI 2 0, mI 3 0, mI 4 4] .ret) .skip)) (qR [mv 32 6, o1 33 (.bin .add 0 (ci 2) (T 32)), mI 5 0, mv 2 33] (.seq (qR [mv 34 0, mv 35 2, mv 36 2, o1 37 (.sl3 1 false (T 34) (some (ci 2)) (T 35) (T 36)), lN 38 false 37, mI 39 0] (.blk 0 (.loop (qR [bN 40 .lss 0 39 38] (.seq (cE 40 0) (.seq (.blk 1 (qR [iA 41 1 37 39, lD 42 41, mv 8 42] (.reg [mv 43 5, o1 44 (.bin .shl 0 (T 43) (.const (.int .u64 8))), mv 45 8, o1 46 (.toInt .i64 (T 45)), bN 47 .or 0 44 46, mv 5 47]))) (.reg [aI 48 39, mv 39 48]))))))) (qR [o1 49 (.bld [zi, zi, zi, zi] (.arr 1) [(0, (ci 0)), (1, (ci 128)), (2, (ci 256)), (3, (ci 65536))]), o1 9 (.new 314 [zi, zi, zi, zi]), sT 4 9 49] (qR [mv 50 5, mv 51 6, o1 52 (.iaa 4 1 (T 9) (T 51)), lD 53 52, bN 54 .lss 0 50 53] (.cond (T 54) (qR [mI 2 0, mI 3 0, mI 4 6] .ret) .skip)))))))) .skip)) (.seq (qR [mv 55 0, lN 56 false 55, mv 57 2, bN 58 .sub 0 56 57, mv 59 5, bN 60 .lss 0 58 59] (.cond (T 60) (qR [mI 2 0, mI 3 0, mI 4 4] .ret) .skip)) (qR [mv 61 2, mv 62 2, mv 63 5, bN 64 .add 0 62 63, mv 2 61, mv 3 64, mI 4 0] .ret))))))⟩
theorem fi279 : Fi3 279 ir279 := by delta Fi3; kernel_rfl
def ir294 : FI := ⟨8, [.tmp 4], (qR [o1 4 (.mov kE)] (qR [mv 5 1, mv 6 0, c2 7 326 5 6, mv 4 7] .ret))⟩
theorem fi294 : Fi3 294 ir294 := by delta Fi3; kernel_rfl
def ir295 : FI := ⟨25, [.tmp 6], (qR [o1 6 (.mov kS)] (qR [o1 7 (.mov kS)] (.seq (.blk 0 (.loop (.seq (qR [mv 8 0, lN 9 false 8, mv 10 1, bN 11 .geq 0 9 10] (cE 11 0)) (.seq (.blk 1 (.reg [mv 15 7, mv 16 2, mv 17 0, mv 18 1, mv 19 1, o1 20 (.sl3 1 false (T 17) none (T 18) (T 19)), o1 21 (.call (T 16) [(T 20)]), o1 22 (.bsl .str 1 1 [ze] [(0, (T 21))]), o1 23 (.app .str 16 (T 15) (T 22)), mv 7 23])) (.reg [mv 12 0, mv 13 1, o1 14 (.sl (some 1) (T 12) (some (T 13)) none), mv 0 14]))))) (qR [mv 24 7, mv 6 24] .ret))))⟩
theorem fi295 : Fi3 295 ir295 := by delta Fi3; kernel_rfl
def ir296 : FI := ⟨8, [.tmp 2], (qR [o1 2 (.mov kE)] (qR [mv 3 0, o1 4 (.ia 1 (T 3) (ci 0)), lD 5 4, o1 6 (.toInt .i64 (T 5)), c1 7 297 6, mv 2 7] .ret))⟩
theorem fi296 : Fi3 296 ir296 := by delta Fi3; kernel_rfl
def ir298 : FI := ⟨14, [.tmp 2], (qR [o1 2 (.mov kE)] (.seq (.drw [tt (mv 3 0), tt (o1 4 (.ia 1 (T 3) (ci 0))), tt (lD 5 4), tt (o1 6 (.toInt .u64 (T 5))), tt (o1 7 (.bin .shl 0 (T 6) (.const (.int .u64 8)))), tt (mv 8 0), tt (o1 9 (.ia 1 (T 8) (ci 1))), tt (lD 10 9), tt (o1 11 (.toInt .u64 (T 10))), tt (bN 12 .or 0 7 11), ft (o1 13 (.call (.func 299) [(T 12), (ci 16)])), tt (mv 2 13)]) .ret))⟩
theorem fi298 : Fi3 298 ir298 := by delta Fi3; kernel_rfl
def ir299 : FI := ⟨8, [.tmp 4], (qR [o1 4 (.mov kE)] (qR [mv 5 0, mv 6 1, c2 7 328 5 6, mv 4 7] .ret))⟩
theorem fi299 : Fi3 299 ir299 := by delta Fi3; kernel_rfl
def ir300 : FI := ⟨10, [.tmp 4], (qR [o1 4 (.mov (.const (.pointer none)))] (.seq (qR [mv 5 1, bC 6 .neq 5 0] (.cond (T 6) (.reg [mv 7 1, o1 8 (.mki 38 (T 7)), o0 (.pan (T 8))]) .skip)) (qR [mv 9 0, mv 4 9] .ret)))⟩
def ir301 : FI := ⟨35, [.tmp 6, .tmp 7], (qR [o1 3 (.box 274 (T 0)), mI 6 0, o1 7 (.mov kF)] (qR [fA 11 0 3, lD 12 11, mv 13 1, c2 14 210 12 13, mv 10 14, ex 15 0 10, ex 16 1 10, ex 17 2 10, mv 8 15, mv 7 16, mv 9 17] (.seq (qR [mv 18 9, bC 19 .neq 18 0] (.cond (T 19) (.reg [mv 20 9, o1 21 (.mki 38 (T 20)), o0 (.pan (T 21))]) .skip)) (.seq (qR [mv 22 7, nT 23 22] (.cond (T 23) (qR [mv 24 6, mv 6 24, o1 7 (.mov kF)] .ret) .skip)) (qR [mv 25 2, mv 26 8, o1 27 (.call (T 25) [(T 26)]), ex 28 0 27, ex 29 1 27, c2 30 329 28 29, mv 6 30] (qR [mv 31 8, o1 32 (.bld [(.pointer none)] (.fields [(0, 1)]) [(0, (T 31))]), c1 33 278 32] (qR [mv 34 6, mv 6 34, o1 7 (.mov kT)] .ret)))))))⟩
def ir302 : FI := ⟨35, [.cell 6 31, .tmp 7], (qR [o1 3 (.box 274 (T 0)), o1 6 (.new 31 [zs, ze]), o1 7 (.mov kF)] (qR [fA 11 0 3, lD 12 11, mv 13 1, c2 14 210 12 13, mv 10 14, ex 15 0 10, ex 16 1 10, ex 17 2 10, mv 8 15, mv 7 16, mv 9 17] (.seq (qR [mv 18 9, bC 19 .neq 18 0] (.cond (T 19) (.reg [mv 20 9, o1 21 (.mki 38 (T 20)), o0 (.pan (T 21))]) .skip)) (.seq (qR [mv 22 7, nT 23 22] (.cond (T 23) (qR [lG 24 2 6, sT 2 6 24, o1 7 (.mov kF)] .ret) .skip)) (qR [mv 25 2, mv 26 8, o1 27 (.call (T 25) [(T 26)]), ex 28 0 27, ex 29 1 27, c2 30 330 28 29, sT 2 6 30] (qR [mv 31 8, o1 32 (.bld [(.pointer none)] (.fields [(0, 1)]) [(0, (T 31))]), c1 33 278 32] (qR [lG 34 2 6, sT 2 6 34, o1 7 (.mov kT)] .ret)))))))⟩
def ir303 : FI := ⟨35, [.cell 6 159, .tmp 7], (qR [o1 3 (.box 274 (T 0)), o1 6 (.new 159 [zi, zi, zs]), o1 7 (.mov kF)] (qR [fA 11 0 3, lD 12 11, mv 13 1, c2 14 210 12 13, mv 10 14, ex 15 0 10, ex 16 1 10, ex 17 2 10, mv 8 15, mv 7 16, mv 9 17] (.seq (qR [mv 18 9, bC 19 .neq 18 0] (.cond (T 19) (.reg [mv 20 9, o1 21 (.mki 38 (T 20)), o0 (.pan (T 21))]) .skip)) (.seq (qR [mv 22 7, nT 23 22] (.cond (T 23) (qR [lG 24 3 6, sT 3 6 24, o1 7 (.mov kF)] .ret) .skip)) (qR [mv 25 2, mv 26 8, o1 27 (.call (T 25) [(T 26)]), ex 28 0 27, ex 29 1 27, c2 30 331 28 29, sT 3 6 30] (qR [mv 31 8, o1 32 (.bld [(.pointer none)] (.fields [(0, 1)]) [(0, (T 31))]), c1 33 278 32] (qR [lG 34 3 6, sT 3 6 34, o1 7 (.mov kT)] .ret)))))))⟩
def ir304 : DI := ⟨26, [.cell 4 159, .cell 5 38], [(.reg [o1 2 (.box 75 (T 0)), o1 4 (.new 159 [zi, zi, zs]), o1 5 (.new 38 [zi])]), (qR [lD 7 2, o1 8 (.bin .eql 1 (T 7) (.const (.pointer none))), mv 9 8, lF 10 2 9, oF 11 (.nil (T 10)) 9, fF 12 2 11 9, lF 13 12 9, oF 14 (.un .not (T 13)) 9, pT 15 9 14] (.cond (T 15) (qR [lG 16 3 4, sT 3 4 16, o0 (.st 1 (T 5) (ci 1))] .ret) .skip)), (.reg [lD 17 2, nL 18 17, fA 19 0 18, fA 20 1 19, lD 21 20, o1 6 (.new 3 [zi]), sT 1 6 21])], 22, 332, [(T 6), (T 2), (T 4), (T 5)], (qR [mv 23 1, lD 24 2, o1 25 (.call (T 23) [(T 24)]), sT 3 4 25, o0 (.st 1 (T 5) (ci 0))] .ret)⟩
def ir305 : FI := ⟨16, [.cell 2 159], (qR [o1 2 (.new 159 [zi, zi, zs])] (qR [mv 7 0, c1 8 164 7, mv 6 8, ex 9 0 6, ex 10 1 6, ex 11 2 6, mv 3 9, mv 4 10, mv 5 11] (qR [mv 12 3, mv 13 4, mv 14 5, o1 15 (.bld [zi, zi, zs] (.fields [(0, 1), (1, 1), (2, 1)]) [(0, (T 12)), (1, (T 13)), (2, (T 14))]), sT 3 2 15] .ret)))⟩
def ir328 : FI := ⟨32, [.tmp 4], (qR [o1 4 (.mov kE)] (.seq (qR [mv 9 1, bC 10 .eql 9 10] (.cond (T 10) (.seq (qR [mv 11 0, o1 12 (.bin .lss 0 (T 11) (.const (.int .u64 100)))] (.cond (T 12) (qR [mv 13 0, o1 14 (.toInt .i64 (T 13)), c1 15 354 14, mv 4 15] .ret) .skip)) (qR [o1 5 (.arr .u8 24)] (qR [mv 16 0, c1 17 355 16, mv 6 17] (qR [mv 18 6, o1 19 (.sla 24 1 (T 5) none (some (T 18))), mv 20 0, c2 21 356 19 20] (qR [mv 22 6, o1 23 (.sla 24 1 (T 5) none (some (T 22))), tS 24 23, mv 4 24] .ret))))) .skip)) (qR [mv 26 0, mv 27 1, o1 28 (.call (.func 357) [kS, (T 26), (T 27), kF, kF]), mv 25 28, ex 29 0 25, ex 30 1 25, mv 7 29, mv 8 30] (qR [mv 31 8, mv 4 31] .ret))))⟩
theorem fi328 : Fi3 328 ir328 := by delta Fi3; kernel_rfl
def ir329 : FI := ⟨10, [.tmp 4], (qR [mI 4 0] (.seq (qR [mv 5 1, bC 6 .neq 5 0] (.cond (T 6) (.reg [mv 7 1, o1 8 (.mki 38 (T 7)), o0 (.pan (T 8))]) .skip)) (qR [mv 9 0, mv 4 9] .ret)))⟩
def ir330 : FI := ⟨10, [.cell 4 31], (qR [o1 2 (.box 31 (T 0)), o1 4 (.new 31 [zs, ze])] (.seq (qR [mv 5 1, bC 6 .neq 5 0] (.cond (T 6) (.reg [mv 7 1, o1 8 (.mki 38 (T 7)), o0 (.pan (T 8))]) .skip)) (qR [lG 9 2 2, sT 2 4 9] .ret)))⟩
def ir331 : FI := ⟨10, [.cell 4 159], (qR [o1 2 (.box 159 (T 0)), o1 4 (.new 159 [zi, zi, zs])] (.seq (qR [mv 5 1, bC 6 .neq 5 0] (.cond (T 6) (.reg [mv 7 1, o1 8 (.mki 38 (T 7)), o0 (.pan (T 8))]) .skip)) (qR [lG 9 3 2, sT 3 4 9] .ret)))⟩
def ir332 : RI := ⟨20, 8, [o1 9 (.ta 38 zi (T 8)), mv 7 9, ex 10 0 7, ex 11 1 7, mv 4 10, mv 5 11], (qR [mv 12 5] (.cond (T 12) (qR [o1 6 (.new 159 [zi, zi, zs])] (.drw [tt (lD 13 1), tt (lD 14 0), tt (mv 16 4), tt (nL 17 13), tt (fA 18 0 17), tt (fA 19 1 18), tt (o1 15 (.ldS (some 3) (T 6))), ft (sT 1 19 14), ft (sT 3 2 15), ft (sT 1 3 16)])) .skip))⟩
def ir357 : FI := ⟨102, [.tmp 10, .tmp 11], (qR [o1 10 (.mov kS), o1 11 (.mov kE)] (.seq (qR [mv 19 2, bC 20 .lss 19 2, mv 21 20, vF 22 2 21, oF 23 (.bin .eql 0 (T 22) (ci 10)) 21, pT 24 21 23, mv 25 24, vF 26 2 25, oF 27 (.bin .gtr 0 (T 26) (ci 36)) 25, pT 28 25 27] (.cond (T 28) (.reg [o1 29 (.mki 9 (.const (.string ⟨#[115, 116, 114, 99, 111, 110, 118, 58, 32, 105, 108, 108, 101, 103, 97, 108, 32, 65, 112, 112, 101, 110, 100, 73, 110, 116, 47, 70, 111, 114, 109, 97, 116, 73, 110, 116, 32, 98, 97, 115, 101]⟩))), o0 (.pan (T 29))]) .skip)) (qR [o1 12 (.arr .u8 65)] (qR [mI 13 65] (.seq (qR [mv 30 3] (.cond (T 30) (.reg [mv 31 1, o1 32 (.un .neg (T 31)), mv 1 32]) .skip)) (.seq (qR [mv 33 2, c1 34 370 33] (.cond (T 34) (qR [mv 35 2, o1 36 (.toInt .u64 (T 35)), c1 37 371 36, o1 38 (.toInt .u64 (T 37)), mv 14 38] (qR [mv 39 2, o1 40 (.toInt .u64 (T 39)), mv 15 40] (qR [mv 41 2, o1 42 (.toInt .u64 (T 41)), o1 43 (.bin .sub 0 (T 42) (.const (.int .u64 1))), mv 16 43] (.seq (.blk 0 (.loop (.seq (qR [mv 44 1, mv 45 15, bN 46 .geq 0 44 45] (cE 46 0)) (.blk 1 (qR [mv 47 13, bC 48 .sub 47 1, mv 13 48] (qR [mv 49 13, mv 50 1, mv 51 16, bN 52 .and 0 50 51, o1 53 (.ixs (.const (.string ⟨#[48, 49, 50, 51, 52, 53, 54, 55, 56, 57, 97, 98, 99, 100, 101, 102, 103, 104, 105, 106, 107, 108, 109, 110, 111, 112, 113, 114, 115, 116, 117, 118, 119, 120, 121, 122]⟩)) (T 52)), o1 54 (.iaa 65 1 (T 12) (T 49)), sT 1 54 53] (.reg [mv 55 1, mv 56 14, bN 57 .shr 0 55 56, mv 1 57]))))))) (qR [mv 58 13, bC 59 .sub 58 1, mv 13 59] (.reg [mv 60 13, mv 61 1, o1 62 (.ixs (.const (.string ⟨#[48, 49, 50, 51, 52, 53, 54, 55, 56, 57, 97, 98, 99, 100, 101, 102, 103, 104, 105, 106, 107, 108, 109, 110, 111, 112, 113, 114, 115, 116, 117, 118, 119, 120, 121, 122]⟩)) (T 61)), o1 63 (.iaa 65 1 (T 12) (T 60)), sT 1 63 62])))))) (qR [mv 64 2, o1 65 (.toInt .u64 (T 64)), mv 17 65] (.seq (.blk 2 (.loop (.seq (qR [mv 66 1, mv 67 17, bN 68 .geq 0 66 67] (cE 68 2)) (.blk 3 (qR [mv 69 13, bC 70 .sub 69 1, mv 13 70] (qR [mv 71 1, mv 72 17, bN 73 .quo 0 71 72, mv 18 73] (qR [mv 74 13, mv 75 1, mv 76 18, mv 77 17, bN 78 .mul 0 76 77, bN 79 .sub 0 75 78, o1 80 (.ixs (.const (.string ⟨#[48, 49, 50, 51, 52, 53, 54, 55, 56, 57, 97, 98, 99, 100, 101, 102, 103, 104, 105, 106, 107, 108, 109, 110, 111, 112, 113, 114, 115, 116, 117, 118, 119, 120, 121, 122]⟩)) (T 79)), o1 81 (.iaa 65 1 (T 12) (T 74)), sT 1 81 80] (.reg [mv 82 18, mv 1 82])))))))) (qR [mv 83 13, bC 84 .sub 83 1, mv 13 84] (.reg [mv 85 13, mv 86 1, o1 87 (.ixs (.const (.string ⟨#[48, 49, 50, 51, 52, 53, 54, 55, 56, 57, 97, 98, 99, 100, 101, 102, 103, 104, 105, 106, 107, 108, 109, 110, 111, 112, 113, 114, 115, 116, 117, 118, 119, 120, 121, 122]⟩)) (T 86)), o1 88 (.iaa 65 1 (T 12) (T 85)), sT 1 88 87])))))) (.seq (qR [mv 89 3] (.cond (T 89) (qR [mv 90 13, bC 91 .sub 90 1, mv 13 91] (.reg [mv 92 13, o1 93 (.iaa 65 1 (T 12) (T 92)), o0 (.st 1 (T 93) (.const (.int .u8 45)))])) .skip)) (.seq (qR [mv 94 4] (.cond (T 94) (qR [mv 95 0, mv 96 13, o1 97 (.sla 65 1 (T 12) (some (T 96)) none), o1 98 (.app .u8 1 (T 95) (T 97)), mv 10 98] .ret) .skip)) (qR [mv 99 13, o1 100 (.sla 65 1 (T 12) (some (T 99)) none), tS 101 100, mv 11 101] .ret)))))))))⟩
theorem fi357 : Fi3 357 ir357 := by delta Fi3; kernel_rfl
def ir370 : FI := ⟨8, [.tmp 2], (qR [o1 2 (.mov kF)] (qR [mv 3 0, mv 4 0, bC 5 .sub 4 1, bN 6 .and 0 3 5, bC 7 .eql 6 0, mv 2 7] .ret))⟩
theorem fi370 : Fi3 370 ir370 := by delta Fi3; kernel_rfl
def ir371 : FI := ⟨8, [.tmp 2], (qR [mI 2 0] (.seq (.cond kF (qR [mv 3 0, o1 4 (.toInt .u32 (T 3)), c1 5 377 4, mv 2 5] .ret) .skip) (qR [mv 6 0, c1 7 378 6, mv 2 7] .ret)))⟩
theorem fi371 : Fi3 371 ir371 := by delta Fi3; kernel_rfl
def ir378 : FI := ⟨14, [.tmp 2], (qR [mI 2 0] (.seq (qR [mv 3 0, o1 4 (.bin .eql 0 (T 3) (.const (.int .u64 0)))] (.cond (T 4) (qR [mI 2 64] .ret) .skip)) (qR [mv 5 0, mv 6 0, o1 7 (.un .neg (T 6)), bN 8 .and 0 5 7, o1 9 (.bin .mul 0 (T 8) (.const (.int .u64 285870213051353865))), o1 10 (.bin .shr 0 (T 9) (.const (.int .u64 58))), o1 11 (.iaa 64 1 (.global 7) (T 10)), lD 12 11, o1 13 (.toInt .i64 (T 12)), mv 2 13] .ret)))⟩
theorem fi378 : Fi3 378 ir378 := by delta Fi3; kernel_rfl
attribute [go_sem] ir218 ir219 ir220 ir221 ir222 ir223 ir224 ir225 ir226 ir227 ir228 ir229 ir230 ir237 ir239 ir240 ir241 ir242 ir243 ir244 ir245 ir246 ir247 ir248 ir249 ir250 ir251 ir252 ir253 ir254 ir255 ir256 ir257 ir266 ir267 ir268 ir269 ir270 ir271 ir272 ir273 ir274 ir275 ir276 ir277 ir278 ir279 ir294 ir295 ir296 ir298 ir299 ir300 ir301 ir302 ir303 ir304 ir305 ir328 ir329 ir330 ir331 ir332 ir357 ir370 ir371 ir378
end Go.Proofs.YtcjehhejgimmdaaGreatDoor
namespace Go.Proofs.YtcjehhejgimmdaaGreatDoor
open Go Go.Sx Go.Proofs
theorem mixed : Tryz.prog.follows .mixedOrders = true := by kernel_rfl
theorem gQ [Ghost] {AQ : Ex → List SV → List SObj → Prop} {m : IM} {q : Prop} (h : q) (e : run Tryz.prog AQ 600 m = q := by (simp (maxSteps := 3000000) only [go_sem, ↓zA, ↓reduceIte, ↓reduceDIte]; (try simp only [zB]); rfl)) : SoundI Tryz.prog AQ m := goE mixed h e
theorem aQ [Ghost] {AQ : Ex → List SV → List SObj → Prop} {m : IM} {q : Prop} (h : q) (e : run Tryz.prog AQ 600 m = q := by (simp (maxSteps := 3000000) only [List.append_assoc, getA, getA0, setA, setA0, List.length_append, Nat.add_assoc, go_sem, ↓zA, ↓reduceIte, ↓reduceDIte]; (try simp only [zB]); rfl)) : SoundI Tryz.prog AQ m := goaE mixed h e
theorem rQ {f : FuncId} {fi : FI} {args : List SV} {K : Out → List SObj → Prop} {H : List SObj} {q : Prop} (hf : finfo Tryz.prog f = some fi) (h : q) (e : run Tryz.prog (retF Tryz.prog fi.results K) 600 ⟨H.length, [.ic fi.code], args ++ List.replicate (fi.ntmps - args.length) .any, H⟩ = q := by (simp (maxSteps := 3000000) only [go_sem, ↓zA, ↓reduceIte, ↓reduceDIte]; (try simp only [zB]); rfl)) : VC Tryz.prog f args H K := runE mixed hf h e
theorem eQ [Ghost] {AQ : Ex → List SV → List SObj → Prop} {f : FuncId} {args args0 : List SV} {H0 H1 : List SObj} {s : SV} {d : Option Tmp} {m : IM} {q : Prop} (hs : List Nat) (hp : PE Tryz.prog f args0 H0 (.ret s) H1) (h : q) (hargs : args = SV.renL (sig hs m.heap.length) args0 := by rfl) (hnd : hs.Nodup := by decide) (ha : atH (sig hs m.heap.length) m.heap hs H0 := by (repeat first | exact trivial | exact rfl | refine And.intro ?_ ?_)) (hb : SV.belL H0.length args0 = true := by rfl) (hbh : belH H0.length H0 = true := by rfl) (e : run Tryz.prog AQ 600 { m with tmps := putT m.tmps d (s.ren (sig hs m.heap.length)), heap := mgA (sig hs m.heap.length) hs H1 m.heap } = q := by (simp only [Out.ren, SV.ren, mgA, sig, SObj.ren, SV.renL, List.set, List.map, List.append_nil]; simp (maxSteps := 3000000) only [go_sem, ↓zA, ↓reduceIte, ↓reduceDIte]; (try simp only [zB]); rfl)) : CallI Tryz.prog AQ f args d m := effE mixed hs hp h hargs hnd ha hb hbh e
theorem uQ [Ghost] {AQ : Ex → List SV → List SObj → Prop} (n : Nat) (m : IM) (h : run Tryz.prog AQ n m) : SoundI Tryz.prog AQ m := q0l mixed n m h
abbrev I64 : Ty := .int .i64
abbrev PrinT : Ty := .prod (.slice .str) .str
abbrev KeyT : Ty := .prod I64 (.prod I64 (.slice .u8))
abbrev SetT : Ty := .prod I64 (.prod (.slice KeyT) (.prod .str (.prod I64 I64)))
abbrev Prin := PrinT.den
abbrev Key := KeyT.den
abbrev KSet := SetT.den
abbrev rI (n : Int) : SV := .raw (.int .i64 n)
abbrev rB (b : Bool) : SV := .raw (.bool b)
abbrev rS (s : ByteArray) : SV := .raw (.string s)
end Go.Proofs.YtcjehhejgimmdaaGreatDoor
namespace Go.Proofs.YtcjehhejgimmdaaGreatDoor
open Go Go.Sx Go.Proofs
set_option maxRecDepth 100000
set_option maxHeartbeats 4000000
theorem rb {b c : Bool} (h : b = c) : Out.ret (SV.raw (.bool b)) = Out.ret (rB c) := by rw [h]
def allN (n : Nat) (q : Nat → Bool) : Bool := (List.range n).all q
theorem q1S {n : Nat} {q : Nat → Bool} : allN n q = true ↔ ∀ j, j < n → q j = true := by simp [allN]
theorem q0k {n i : Nat} {q : Nat → Bool} (h : i < n) (hq : q i = false) : allN n q = false := by
 rw [Bool.eq_false_iff]; exact fun ha => by rw [q1S.1 ha i h] at hq; cases hq
theorem q0p {n : Nat} {q : Nat → Bool} (h : ∀ j, j < n → q j = true) : allN n q = true := q1S.2 h
@[go_sem] def fnV (f : Nat) : Value := .func (.func f) #[] #[]
def name1 : ByteArray := ⟨#[97, 101, 115, 49, 50, 56, 45, 99, 116, 115, 45, 104, 109, 97, 99, 45, 115, 104, 97, 50, 53, 54, 45, 49, 50, 56]⟩
def name2 : ByteArray := ⟨#[115, 116, 114, 101, 97, 109, 45, 104, 109, 97, 99, 45, 115, 104, 97, 50, 53, 54, 45, 50, 53, 54]⟩
def kind1 : List Value := [.string name1, .int .i64 16, .int .i64 16, .int .i64 16, .int .i64 16, fnV 231, fnV 232, fnV 233]
def kind2 : List Value := [.string name2, .int .i64 32, .int .i64 16, .int .i64 32, .int .i64 32, fnV 234, fnV 235, fnV 236]
abbrev kindsM : SV := .imap (some .i64) [.int .i64 1, .int .i64 2] [.agg kind1.toArray, .agg kind2.toArray]

theorem j0y : PC Tryz.prog 183 [] kindsM := by
 refine q0B rfl rfl (z6o ?_)
 refine rQ fi183 ?_
 exact ⟨_, _, _, [], rfl, rfl⟩

def keyLen (p : Int) : Int := if p = 1 then 16 else if p = 2 then 32 else 0
def kindZ : List Value := [.string ⟨#[]⟩, .int .i64 0, .int .i64 0, .int .i64 0, .int .i64 0, .nilFunc, .nilFunc, .nilFunc]
def kindOf (p : Int) : List Value := if p = 1 then kind1 else if p = 2 then kind2 else kindZ
def vKey (k : Key) : Bool := decide (keyLen k.1 ≠ 0) && (decide ((k.2.2.length : Int) = keyLen k.1) && (decide (0 ≤ k.2.1) && decide (k.2.1 ≤ 65535)))
theorem j1N (k : Key) : PC Tryz.prog 110 [.agg (KeyT.cells k)] (.tup [.agg (rawL (kindOf k.1)), rB (vKey k)]) := by
 obtain ⟨p, v, b⟩ := k
 refine q0B rfl (by simp [SV.clean, SV.cleanL, q5S]) ?_
 refine rQ fi110 ?_
 refine q0t j0y ?_
 by_cases h1 : p = 1
 · subst h1
   refine uQ 600 _ ?_
   simp (maxSteps := 3000000) only [kind1, kindOf, vKey, keyLen, go_sem, ↓zA, ↓reduceIte, ↓reduceDIte] <;> try simp only [zB]
   grind
 by_cases h2 : p = 2
 · subst h2
   refine uQ 600 _ ?_
   simp (maxSteps := 3000000) only [kind2, kindOf, vKey, keyLen, go_sem, ↓zA, ↓reduceIte, ↓reduceDIte] <;> try simp only [zB]
   grind
 refine uQ 600 _ ?_
 simp (maxSteps := 3000000) only [h1, h2, kindOf, kindZ, vKey, keyLen, go_sem, ↓zA, ↓reduceIte, ↓reduceDIte] <;> try simp only [zB]
 grind
end Go.Proofs.YtcjehhejgimmdaaGreatDoor
/-
  A world that has grown: 'w.more u' keeps every block of w; regions that draw their order, walked in one order; for whatever program.
-/
namespace Go
open Go.RowKit

def Gr (w w' : World) : Prop := Below w.heap.size w w'

theorem Gr.refl (w : World) : Gr w w := Below.refl _ _
theorem Gr.trans {a b c : World} (h : Gr a b) (k : Gr b c) : Gr a c := Below.trans h (Below.mono k h.size)
theorem Gr.size {a b : World} (h : Gr a b) : a.heap.size ≤ b.heap.size := Below.size h
theorem Gr.cell {a b : World} (h : Gr a b) {p : Addr} (hp : p.block < a.heap.size) : b.cell? p = a.cell? p := Below.cell h hp
theorem Gr.frozen {a b : World} (h : Gr a b) {p : Addr} (hp : p.block < a.heap.size) : b.frozen? p = a.frozen? p := Below.frozen h hp
theorem Gr.block {a b : World} (h : Gr a b) {k : Nat} (hk : k < a.heap.size) : b.heap[k]? = a.heap[k]? := Below.block h k hk
theorem Gr.alloc (w : World) (o : Obj) : Gr w (w.alloc o) := (Below.refl _ _).alloc (Nat.le_refl _) _
theorem Gr.drew (w : World) : Gr w w.drew := (Below.refl _ _).drew
theorem Gr.drewN (w : World) (n : Nat) : Gr w (w.drewN n) := ⟨rfl, rfl, rfl, Nat.le_refl _, fun _ _ => rfl⟩

open Classical in
noncomputable def World.more (w u : World) : World := if Gr w u then u else w

section
variable {w u v : World}
theorem World.more_gr (w u : World) : Gr w (w.more u) := by
  unfold World.more
  split
  · assumption
  · exact Gr.refl w
theorem World.more_eq (h : Gr w u) : w.more u = u := by unfold World.more; rw [if_pos h]
theorem Gr.more (h : Gr w u) : ∃ x, u = w.more x := ⟨u, (World.more_eq h).symm⟩
theorem World.size_more (w u : World) : w.heap.size ≤ (w.more u).heap.size := (World.more_gr w u).size
@[go_sem] theorem World.cell?_more (w u : World) (a : Addr) (h : a.block < w.heap.size) : (w.more u).cell? a = w.cell? a := (World.more_gr w u).cell h
@[go_sem] theorem World.frozen?_more (w u : World) (a : Addr) (h : a.block < w.heap.size) : (w.more u).frozen? a = w.frozen? a := (World.more_gr w u).frozen h
end

@[go_sem] theorem World.cell?_more_a1 (w u : World) (o1 : Obj) (b i : Nat) (h : b < w.heap.size) : ((w.alloc o1).more u).cell? ⟨b, i, none⟩ = w.cell? ⟨b, i, none⟩ := by
  rw [World.cell?_more _ u ⟨b, i, none⟩ (by simp; omega)]
  rw [World.cell?_alloc_past _ _ _ h]
@[go_sem] theorem World.frozen?_more_a1 (w u : World) (o1 : Obj) (b i : Nat) (h : b < w.heap.size) : ((w.alloc o1).more u).frozen? ⟨b, i, none⟩ = w.frozen? ⟨b, i, none⟩ := by
  rw [World.frozen?_more _ u ⟨b, i, none⟩ (by simp; omega)]
  rw [World.frozen?_alloc_past _ _ _ h]
@[go_sem] theorem World.cell?_more_a2 (w u : World) (o1 o2 : Obj) (b i : Nat) (h : b < w.heap.size) : (((w.alloc o1).alloc o2).more u).cell? ⟨b, i, none⟩ = w.cell? ⟨b, i, none⟩ := by
  rw [World.cell?_more _ u ⟨b, i, none⟩ (by simp; omega)]
  rw [World.cell?_alloc_past _ _ _ (by simp; omega), World.cell?_alloc_past _ _ _ h]
@[go_sem] theorem World.frozen?_more_a2 (w u : World) (o1 o2 : Obj) (b i : Nat) (h : b < w.heap.size) : (((w.alloc o1).alloc o2).more u).frozen? ⟨b, i, none⟩ = w.frozen? ⟨b, i, none⟩ := by
  rw [World.frozen?_more _ u ⟨b, i, none⟩ (by simp; omega)]
  rw [World.frozen?_alloc_past _ _ _ (by simp; omega), World.frozen?_alloc_past _ _ _ h]
@[go_sem] theorem World.cell?_more_a3 (w u : World) (o1 o2 o3 : Obj) (b i : Nat) (h : b < w.heap.size) : ((((w.alloc o1).alloc o2).alloc o3).more u).cell? ⟨b, i, none⟩ = w.cell? ⟨b, i, none⟩ := by
  rw [World.cell?_more _ u ⟨b, i, none⟩ (by simp; omega)]
  rw [World.cell?_alloc_past _ _ _ (by simp; omega), World.cell?_alloc_past _ _ _ (by simp; omega), World.cell?_alloc_past _ _ _ h]
@[go_sem] theorem World.frozen?_more_a3 (w u : World) (o1 o2 o3 : Obj) (b i : Nat) (h : b < w.heap.size) : ((((w.alloc o1).alloc o2).alloc o3).more u).frozen? ⟨b, i, none⟩ = w.frozen? ⟨b, i, none⟩ := by
  rw [World.frozen?_more _ u ⟨b, i, none⟩ (by simp; omega)]
  rw [World.frozen?_alloc_past _ _ _ (by simp; omega), World.frozen?_alloc_past _ _ _ (by simp; omega), World.frozen?_alloc_past _ _ _ h]
@[go_sem] theorem World.cell?_more_a4 (w u : World) (o1 o2 o3 o4 : Obj) (b i : Nat) (h : b < w.heap.size) : (((((w.alloc o1).alloc o2).alloc o3).alloc o4).more u).cell? ⟨b, i, none⟩ = w.cell? ⟨b, i, none⟩ := by
  rw [World.cell?_more _ u ⟨b, i, none⟩ (by simp; omega)]
  rw [World.cell?_alloc_past _ _ _ (by simp; omega), World.cell?_alloc_past _ _ _ (by simp; omega), World.cell?_alloc_past _ _ _ (by simp; omega), World.cell?_alloc_past _ _ _ h]
@[go_sem] theorem World.frozen?_more_a4 (w u : World) (o1 o2 o3 o4 : Obj) (b i : Nat) (h : b < w.heap.size) : (((((w.alloc o1).alloc o2).alloc o3).alloc o4).more u).frozen? ⟨b, i, none⟩ = w.frozen? ⟨b, i, none⟩ := by
  rw [World.frozen?_more _ u ⟨b, i, none⟩ (by simp; omega)]
  rw [World.frozen?_alloc_past _ _ _ (by simp; omega), World.frozen?_alloc_past _ _ _ (by simp; omega), World.frozen?_alloc_past _ _ _ (by simp; omega), World.frozen?_alloc_past _ _ _ h]
@[go_sem] theorem World.cell?_more_a5 (w u : World) (o1 o2 o3 o4 o5 : Obj) (b i : Nat) (h : b < w.heap.size) : ((((((w.alloc o1).alloc o2).alloc o3).alloc o4).alloc o5).more u).cell? ⟨b, i, none⟩ = w.cell? ⟨b, i, none⟩ := by
  rw [World.cell?_more _ u ⟨b, i, none⟩ (by simp; omega)]
  rw [World.cell?_alloc_past _ _ _ (by simp; omega), World.cell?_alloc_past _ _ _ (by simp; omega), World.cell?_alloc_past _ _ _ (by simp; omega), World.cell?_alloc_past _ _ _ (by simp; omega), World.cell?_alloc_past _ _ _ h]
@[go_sem] theorem World.frozen?_more_a5 (w u : World) (o1 o2 o3 o4 o5 : Obj) (b i : Nat) (h : b < w.heap.size) : ((((((w.alloc o1).alloc o2).alloc o3).alloc o4).alloc o5).more u).frozen? ⟨b, i, none⟩ = w.frozen? ⟨b, i, none⟩ := by
  rw [World.frozen?_more _ u ⟨b, i, none⟩ (by simp; omega)]
  rw [World.frozen?_alloc_past _ _ _ (by simp; omega), World.frozen?_alloc_past _ _ _ (by simp; omega), World.frozen?_alloc_past _ _ _ (by simp; omega), World.frozen?_alloc_past _ _ _ (by simp; omega), World.frozen?_alloc_past _ _ _ h]
@[go_sem] theorem World.cell?_more_a6 (w u : World) (o1 o2 o3 o4 o5 o6 : Obj) (b i : Nat) (h : b < w.heap.size) : (((((((w.alloc o1).alloc o2).alloc o3).alloc o4).alloc o5).alloc o6).more u).cell? ⟨b, i, none⟩ = w.cell? ⟨b, i, none⟩ := by
  rw [World.cell?_more _ u ⟨b, i, none⟩ (by simp; omega)]
  rw [World.cell?_alloc_past _ _ _ (by simp; omega), World.cell?_alloc_past _ _ _ (by simp; omega), World.cell?_alloc_past _ _ _ (by simp; omega), World.cell?_alloc_past _ _ _ (by simp; omega), World.cell?_alloc_past _ _ _ (by simp; omega), World.cell?_alloc_past _ _ _ h]
@[go_sem] theorem World.frozen?_more_a6 (w u : World) (o1 o2 o3 o4 o5 o6 : Obj) (b i : Nat) (h : b < w.heap.size) : (((((((w.alloc o1).alloc o2).alloc o3).alloc o4).alloc o5).alloc o6).more u).frozen? ⟨b, i, none⟩ = w.frozen? ⟨b, i, none⟩ := by
  rw [World.frozen?_more _ u ⟨b, i, none⟩ (by simp; omega)]
  rw [World.frozen?_alloc_past _ _ _ (by simp; omega), World.frozen?_alloc_past _ _ _ (by simp; omega), World.frozen?_alloc_past _ _ _ (by simp; omega), World.frozen?_alloc_past _ _ _ (by simp; omega), World.frozen?_alloc_past _ _ _ (by simp; omega), World.frozen?_alloc_past _ _ _ h]
@[go_sem] theorem nat_lt_size_more {a : Nat} (w u : World) (h : a < w.heap.size) : (a < (w.more u).heap.size) = True := eq_true (Nat.lt_of_lt_of_le h (World.size_more w u))

def stillUpon (w : World) (v : Value) : Result Next → Prop
  | .ok (.value u) w' => w' = w ∧ u = v
  | .ok .skip w' => w' = w ∧ v = undef
  | _ => False
attribute [go_sem] stillUpon

section
variable {P : Program} {ops : Array Oper} {Q : Exit → Act → World → Prop} {md : Region.Mode} {C : World → Prop}

def NoPan (Q : Exit → Act → World → Prop) : Exit → Act → World → Prop
  | .panic _, _, _ => False
  | e, a, w => Q e a w
theorem NoPan.toQ {Q : Exit → Act → World → Prop} : ∀ (e : Exit) (a : Act) (w : World), NoPan Q e a w → Q e a w := fun e a w h => by
  cases e <;> first | exact h | exact (h : False).elim

end
end Go

