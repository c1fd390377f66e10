/- The functions of the program in the compact form; the kernel checks each. -/
import Derived.Test.YtmapiojgmbgbgaaGreatDoorR14
import Derived.Test.YtmapiojgmbgbgaaGreatDoorR15
import Derived.WalkSpells
import Derived.Deep.QuietTactic
import Derived.Lib.Hide
set_option linter.all false
namespace Go.Proofs.YtmapiojgmbgbgaaGreatDoor
open Go Go.Sx Go.Proofs
set_option maxRecDepth 100000
abbrev Fi3(n:Nat)(i:FI):Prop:=finfo Tryz.prog n=some i
def ir189:FI:=⟨22,[.tmp 2],(qR [o1 2 (.mov kS)] (.seq (.drw [tt (mv 3 0),tt (nL 4 3),tt (fA 5 0 4),tt (lD 6 5),tt (mv 7 0),tt (nL 8 7),tt (fA 9 1 8),tt (lD 10 9),tt (mv 11 0),tt (nL 12 11),tt (fA 13 0 12),tt (lD 14 13),tt (lN 15 false 14),tt (mv 16 0),tt (nL 17 16),tt (fA 18 0 17),tt (lD 19 18),tt (lN 20 false 19),tt (o1 21 (.sl3 1 false (T 6) (some (T 10)) (T 15) (T 20))),tt (mv 2 21)]) .ret))⟩
theorem fi189:Fi3 189 ir189:=by delta Fi3;kernel_rfl
def ir196:FI:=⟨33,[.cell 4 217,.tmp 5],(qR [o1 4 (.arr .u8 32),mI 5 0] (qR [mv 11 0,c1 12 225 11,mv 10 12,ex 13 0 10,ex 14 1 10,mv 6 13,mv 7 14] (.seq (qR [mv 15 7,bC 16 .neq 15 0] (.cond (T 16) (qR [o1 17 (.bdd (.arr 32 .u8) (.arr 1) []),mv 18 7,sT 32 4 17,mv 5 18] .ret) .skip)) (.seq (qR [mv 19 1,lN 20 false 19,mI 21 0] (.blk 0 (.loop (qR [bN 22 .lss 0 21 20] (.seq (cE 22 0) (.seq (.blk 1 (qR [iA 23 1 19 21,lD 24 23,mv 9 24] (.reg [mv 25 6,mv 26 9,c2 27 226 25 26]))) (.reg [aI 28 21,mv 21 28]))))))) (qR [mv 29 6,c1 30 227 29,ex 31 0 30,ex 32 1 30,sT 32 4 31,mv 5 32] .ret)))))⟩
theorem fi196:Fi3 196 ir196:=by delta Fi3;kernel_rfl
def ir197:FI:=⟨23,[.tmp 4],(qR [o1 4 (.mov kS)] (.seq (.drw [tt (fA 8 2 1),tt (lD 9 8),tt (lD 10 2),tt (mv 12 0),tt (fA 16 2 1),tt (lD 17 16),tt (lN 18 false 17),tt (c1 11 199 10),tt (o1 13 (.bsl .u8 1 1 [(.int .u8 0)] [(0,(T 12))])),ft (o1 14 (.bsl (.slice .u8) 2 1 [zs,zs] [(0,(T 11)),(1,(T 13))])),ft (c1 15 148 14),ft (o1 19 (.call (.func 198) [(T 9),(T 15),kS,(T 18)])),tt (mv 7 19),tt (ex 20 0 7),tt (ex 21 1 7),tt (mv 5 20),tt (mv 6 21)]) (qR [mv 22 5,mv 4 22] .ret)))⟩
theorem fi197:Fi3 197 ir197:=by delta Fi3;kernel_rfl
def ir198:FI:=⟨29,[.tmp 8,.tmp 9],(qR [o1 8 (.mov kS),mI 9 0] (.seq (qR [mv 11 3,mv 12 0,mv 13 1,mv 14 2,o1 15 (.bsl (.slice .u8) 3 1 [zs,zs,zs] [(0,(T 12)),(1,(T 13)),(2,(T 14))]),c2 16 228 11 15,nT 17 16] (.cond (T 17) (qR [o1 8 (.mov kS),mI 9 2] .ret) .skip)) (qR [mv 18 0,o1 19 (.bld [zs] (.fields [(0,1)]) [(0,(T 18))]),mv 20 1,mv 21 2,mv 22 3,o1 23 (.bld [zs,zs,zs,zi] (.fields [(0,1),(1,1),(2,1),(3,1)]) [(0,(T 19)),(1,(T 20)),(2,(T 21)),(3,(T 22))]),o1 10 (.new 249 [zs,zs,zs,zi]),sT 4 10 23] (qR [mv 24 3,lG 25 4 10,o1 26 (.mkf 231 [(T 25)] []),c1 27 230 26,c2 28 229 24 27,mv 8 28,mI 9 0] .ret))))⟩
theorem fi198:Fi3 198 ir198:=by delta Fi3;kernel_rfl
def ir199:FI:=⟨15,[.tmp 2],(qR [o1 2 (.mov kS)] (qR [mv 3 0,o1 4 (.bin .shr 0 (T 3) (.const (.int .u64 24))),o1 5 (.toInt .u8 (T 4)),mv 6 0,o1 7 (.bin .shr 0 (T 6) (.const (.int .u64 16))),o1 8 (.toInt .u8 (T 7)),mv 9 0,o1 10 (.bin .shr 0 (T 9) (.const (.int .u64 8))),o1 11 (.toInt .u8 (T 10)),mv 12 0,o1 13 (.toInt .u8 (T 12)),o1 14 (.bsl .u8 4 1 [(.int .u8 0),(.int .u8 0),(.int .u8 0),(.int .u8 0)] [(0,(T 5)),(1,(T 8)),(2,(T 11)),(3,(T 13))]),mv 2 14] .ret))⟩
theorem fi199:Fi3 199 ir199:=by delta Fi3;kernel_rfl
def ir200:FI:=⟨7,[.tmp 2],(qR [o1 2 (.mov kS)] (qR [mv 3 0,o1 4 (.toB (T 3)),o1 5 (.bsl (.slice .u8) 1 1 [zs] [(0,(T 4))]),o1 6 (.call (.func 149) [(.const (.int .u8 27)),(T 5)]),mv 2 6] .ret))⟩
theorem fi200:Fi3 200 ir200:=by delta Fi3;kernel_rfl
def ir201:FI:=⟨22,[.tmp 2],(qR [o1 2 (.mov kS)] (qR [o1 3 (.mov kS)] (.seq (qR [mv 6 0,lN 7 false 6,mI 8 0] (.blk 0 (.loop (qR [bN 9 .lss 0 8 7] (.seq (cE 9 0) (.seq (.blk 1 (qR [mv 10 8,iA 11 1 6 8,lD 12 11,mv 4 10,mv 5 12] (.reg [mv 13 3,mv 14 4,mv 15 5,c2 16 90 14 15,o1 17 (.bsl (.slice .u8) 1 1 [zs] [(0,(T 16))]),o1 18 (.app (.slice .u8) 24 (T 13) (T 17)),mv 3 18]))) (.reg [aI 19 8,mv 8 19]))))))) (qR [mv 20 3,c1 21 232 20,mv 2 21] .ret))))⟩
theorem fi201:Fi3 201 ir201:=by delta Fi3;kernel_rfl
def ir202:FI:=⟨6,[.tmp 2],(qR [o1 2 (.mov kS)] (qR [mv 3 0,o1 4 (.bsl (.slice .u8) 1 1 [zs] [(0,(T 3))]),o1 5 (.call (.func 149) [(.const (.int .u8 4)),(T 4)]),mv 2 5] .ret))⟩
theorem fi202:Fi3 202 ir202:=by delta Fi3;kernel_rfl
def ir208:FI:=⟨54,[.tmp 6,.tmp 7],(qR [o1 6 (.mov (.const (.pointer none))),mI 7 0] (qR [o1 8 (.mov (.const (.pointer none)))] (.seq (qR [mv 12 0,o1 13 (.bin .eql 1 (T 12) (.const (.pointer none))),mv 14 13,vF 15 0 14,oF 16 (.nil (T 15)) 14,fF 17 2 16 14,lF 18 17 14,oF 19 (.un .not (T 18)) 14,pT 20 14 19] (.cond (T 20) (qR [mv 21 8,mv 6 21,mI 7 1] .ret) .skip)) (qR [mv 22 0,nL 23 22,fA 24 0 23,fA 25 1 24,lD 26 25,mv 9 26] (qR [mv 28 0,nL 29 28,fA 30 0 29,mv 31 1,c2 32 221 30 31,mv 27 32,ex 33 0 27,ex 34 1 27,mv 10 33,mv 7 34] (.seq (qR [mv 35 7,bC 36 .neq 35 0] (.cond (T 36) (qR [mv 37 8,mv 38 7,mv 6 37,mv 7 38] .ret) .skip)) (qR [mv 40 2,mv 41 10,o1 42 (.call (T 40) [(T 41)]),mv 39 42,ex 43 0 39,ex 44 1 39,mv 6 43,mv 11 44] (.seq (qR [mv 45 11,nT 46 45] (.cond (T 46) (qR [mv 47 0,mv 48 9,nL 49 47,fA 50 0 49,fA 51 1 50,sT 1 51 48] (qR [mv 52 8,mv 6 52,mI 7 6] .ret)) .skip)) (qR [mv 53 6,mv 6 53,mI 7 0] .ret)))))))))⟩
theorem fi208:Fi3 208 ir208:=by delta Fi3;kernel_rfl
def ir209:FI:=⟨6,[.tmp 2,.tmp 3],(qR [o1 2 (.mov (.const (.pointer none))),o1 3 (.mov kF)] (qR [mv 4 0,c1 5 159 4,mv 2 5,o1 3 (.mov kT)] .ret))⟩
theorem fi209:Fi3 209 ir209:=by delta Fi3;kernel_rfl
def ir210:RI:=⟨20,8,[o1 9 (.ta 36 zi (T 8)),mv 7 9,ex 10 0 7,ex 11 1 7,mv 4 10,mv 5 11],(qR [mv 12 5] (.cond (T 12) (qR [o1 6 (.new 82 [zi,zi,zs])] (.drw [tt (lD 13 1),tt (lD 14 0),tt (mv 16 4),tt (nL 17 13),tt (fA 18 0 17),tt (fA 19 1 18),tt (o1 15 (.ldS (some 3) (T 6))),ft (sT 1 19 14),ft (sT 3 2 15),ft (sT 1 3 16)])) .skip))⟩
theorem fi210:rinfo Tryz.prog 210=some ir210:=by kernel_rfl
def ir211:FI:=⟨10,[.tmp 4],(qR [o1 4 (.mov (.const (.pointer none)))] (.seq (qR [mv 5 1,bC 6 .neq 5 0] (.cond (T 6) (.reg [mv 7 1,o1 8 (.mki 36 (T 7)),o0 (.pan (T 8))]) .skip)) (qR [mv 9 0,mv 4 9] .ret)))⟩
theorem fi211:Fi3 211 ir211:=by delta Fi3;kernel_rfl
def ir212:FI:=⟨45,[.tmp 6],(qR [mI 6 0] (qR [mv 12 0,mv 13 1,c2 14 188 12 13,mv 11 14,ex 15 0 11,ex 16 1 11,ex 17 2 11,mv 7 15,mv 8 16,mv 9 17] (.seq (.blk 0 (qR [mv 19 9,bC 20 .neq 19 0,mv 18 20] (.cond (T 18) (.reg [mv 21 9,o1 22 (.mki 36 (T 21)),o0 (.pan (T 22))]) (qR [mv 24 8,nT 25 24,mv 26 25,vT 27 0 26,oT 28 (.call (.func 137) [(T 27)]) 26,oT 29 (.bin .eql 0 (T 28) (ci 0)) 26,pF 30 26 29,mv 23 30] (.cond (T 23) (.reg [o1 31 (.mki 36 (ci 4)),o0 (.pan (T 31))]) (qR [mv 33 8,nT 34 33,mv 32 34] (.cond (T 32) (.reg [o1 35 (.mki 36 (ci 6)),o0 (.pan (T 35))]) .skip))))))) (qR [mv 36 2,mv 37 7,o1 38 (.call (T 36) [(T 37)]),ex 39 0 38,ex 40 1 38,c2 41 236 39 40,mv 10 41] (qR [mv 42 7,c1 43 215 42] (qR [mv 44 10,mv 6 44] .ret))))))⟩
theorem fi212:Fi3 212 ir212:=by delta Fi3;kernel_rfl
def ir213:FI:=⟨45,[.tmp 6],(qR [o1 6 (.mov kS)] (qR [mv 12 0,mv 13 1,c2 14 188 12 13,mv 11 14,ex 15 0 11,ex 16 1 11,ex 17 2 11,mv 7 15,mv 8 16,mv 9 17] (.seq (.blk 0 (qR [mv 19 9,bC 20 .neq 19 0,mv 18 20] (.cond (T 18) (.reg [mv 21 9,o1 22 (.mki 36 (T 21)),o0 (.pan (T 22))]) (qR [mv 24 8,nT 25 24,mv 26 25,vT 27 0 26,oT 28 (.call (.func 137) [(T 27)]) 26,oT 29 (.bin .eql 0 (T 28) (ci 0)) 26,pF 30 26 29,mv 23 30] (.cond (T 23) (.reg [o1 31 (.mki 36 (ci 4)),o0 (.pan (T 31))]) (qR [mv 33 8,nT 34 33,mv 32 34] (.cond (T 32) (.reg [o1 35 (.mki 36 (ci 6)),o0 (.pan (T 35))]) .skip))))))) (qR [mv 36 2,mv 37 7,o1 38 (.call (T 36) [(T 37)]),ex 39 0 38,ex 40 1 38,c2 41 237 39 40,mv 10 41] (qR [mv 42 7,c1 43 215 42] (qR [mv 44 10,mv 6 44] .ret))))))⟩
theorem fi213:Fi3 213 ir213:=by delta Fi3;kernel_rfl
def ir214:FI:=⟨8,[.tmp 2,.tmp 3],(qR [o1 2 (.mov kS),mI 3 0] (qR [mv 4 0,o1 5 (.call (.func 238) [(T 4),(.const (.int .u8 4)),(.func 239)]),ex 6 0 5,ex 7 1 5,mv 2 6,mv 3 7] .ret))⟩
theorem fi214:Fi3 214 ir214:=by delta Fi3;kernel_rfl
def ir215:FI:=⟨6,[],(qR [mv 2 0,c1 3 137 2,bC 4 .gtr 3 0] (.cond (T 4) (.reg [o1 5 (.mki 36 (ci 6)),o0 (.pan (T 5))]) .skip))⟩
theorem fi215:Fi3 215 ir215:=by delta Fi3;kernel_rfl
def ir216:FI:=⟨31,[.tmp 4],(qR [o1 4 (.mov kF)] (.seq (qR [mv 7 0,lN 8 false 7,mv 9 1,lN 10 false 9,bN 11 .neq 0 8 10] (.cond (T 11) (qR [o1 4 (.mov kF)] .ret) .skip)) (qR [o1 5 (.mov (.const (.int .u8 0)))] (.seq (qR [mv 12 0,lN 13 false 12,mI 14 0] (.blk 0 (.loop (qR [bN 15 .lss 0 14 13] (.seq (cE 15 0) (.seq (.blk 1 (qR [mv 16 14,mv 6 16] (.drw [tt (mv 17 5),tt (mv 18 0),tt (mv 19 6),tt (iA 20 1 18 19),tt (lD 21 20),tt (mv 22 1),tt (mv 23 6),tt (iA 24 1 22 23),tt (lD 25 24),tt (bN 26 .xor 0 21 25),tt (bN 27 .or 0 17 26),tt (mv 5 27)]))) (.reg [aI 28 14,mv 14 28]))))))) (qR [mv 29 5,o1 30 (.bin .eql 0 (T 29) (.const (.int .u8 0))),mv 4 30] .ret)))))⟩
theorem fi216:Fi3 216 ir216:=by delta Fi3;kernel_rfl
def ir217:FI:=⟨19,[.tmp 4],(qR [mI 4 0] (.seq (qR [mv 6 0,lN 7 false 6,mI 8 0] (.blk 0 (.loop (qR [bN 9 .lss 0 8 7] (.seq (cE 9 0) (.seq (.blk 1 (qR [mv 10 8,mv 5 10] (qR [mv 11 1,mv 12 0,mv 13 5,iA 14 1 12 13,lD 15 14,bN 16 .eql 3 11 15] (.cond (T 16) (qR [mv 17 5,mv 4 17] .ret) .skip)))) (.reg [aI 18 8,mv 8 18]))))))) (qR [o1 4 (.mov (.const (.int .i64 (-1))))] .ret)))⟩
theorem fi217:Fi3 217 ir217:=by delta Fi3;kernel_rfl
def ir219:FI:=⟨54,[.tmp 6,.tmp 7],(qR [o1 6 (.mov kE),mI 7 0] (qR [o1 8 (.mov kE)] (.seq (qR [mv 12 0,o1 13 (.bin .eql 1 (T 12) (.const (.pointer none))),mv 14 13,vF 15 0 14,oF 16 (.nil (T 15)) 14,fF 17 2 16 14,lF 18 17 14,oF 19 (.un .not (T 18)) 14,pT 20 14 19] (.cond (T 20) (qR [mv 21 8,mv 6 21,mI 7 1] .ret) .skip)) (qR [mv 22 0,nL 23 22,fA 24 0 23,fA 25 1 24,lD 26 25,mv 9 26] (qR [mv 28 0,nL 29 28,fA 30 0 29,mv 31 1,c2 32 221 30 31,mv 27 32,ex 33 0 27,ex 34 1 27,mv 10 33,mv 7 34] (.seq (qR [mv 35 7,bC 36 .neq 35 0] (.cond (T 36) (qR [mv 37 8,mv 38 7,mv 6 37,mv 7 38] .ret) .skip)) (qR [mv 40 2,mv 41 10,o1 42 (.call (T 40) [(T 41)]),mv 39 42,ex 43 0 39,ex 44 1 39,mv 6 43,mv 11 44] (.seq (qR [mv 45 11,nT 46 45] (.cond (T 46) (qR [mv 47 0,mv 48 9,nL 49 47,fA 50 0 49,fA 51 1 50,sT 1 51 48] (qR [mv 52 8,mv 6 52,mI 7 6] .ret)) .skip)) (qR [mv 53 6,mv 6 53,mI 7 0] .ret)))))))))⟩
theorem fi219:Fi3 219 ir219:=by delta Fi3;kernel_rfl
def ir220:FI:=⟨6,[.tmp 2,.tmp 3],(qR [o1 2 (.mov kE),o1 3 (.mov kF)] (qR [mv 4 0,tS 5 4,mv 2 5,o1 3 (.mov kT)] .ret))⟩
theorem fi220:Fi3 220 ir220:=by delta Fi3;kernel_rfl
def ir221:FI:=⟨42,[.tmp 4,.tmp 5],(qR [o1 4 (.mov kS),mI 5 0] (qR [mv 10 0,c1 11 189 10,mv 6 11] (.seq (qR [mv 12 6,lN 13 false 12,bC 14 .eql 13 0] (.cond (T 14) (qR [o1 4 (.mov kS),mI 5 4] .ret) .skip)) (.seq (qR [mv 15 6,o1 16 (.ia 1 (T 15) (ci 0)),lD 17 16,mv 18 1,bN 19 .neq 0 17 18] (.cond (T 19) (qR [o1 4 (.mov kS),mI 5 6] .ret) .skip)) (qR [mv 21 6,c1 22 243 21,mv 20 22,ex 23 0 20,ex 24 1 20,ex 25 2 20,mv 7 23,mv 8 24,mv 9 25] (.seq (qR [mv 26 9,bC 27 .neq 26 0] (.cond (T 27) (qR [mv 28 9,o1 4 (.mov kS),mv 5 28] .ret) .skip)) (qR [mv 29 0,nL 30 29,fA 31 1 30,lD 32 31,mv 33 8,bN 34 .add 0 32 33,nL 35 29,fA 36 1 35,sT 1 36 34] (qR [mv 37 6,mv 38 7,mv 39 8,mv 40 8,o1 41 (.sl3 1 false (T 37) (some (T 38)) (T 39) (T 40)),mv 4 41,mI 5 0] .ret))))))))⟩
theorem fi221:Fi3 221 ir221:=by delta Fi3;kernel_rfl
def ir225:FI:=⟨38,[.tmp 2,.tmp 3],(qR [o1 2 (.mov (.const (.pointer none))),mI 3 0] (.seq (qR [mv 8 0,lN 9 false 8,bC 10 .gtr 9 4096] (.cond (T 10) (qR [o1 2 (.mov (.const (.pointer none))),mI 3 2] .ret) .skip)) (qR [o1 4 (.arr .u8 64)] (.seq (qR [mv 11 0,lN 12 false 11,bC 13 .gtr 12 64] (.cond (T 13) (qR [mv 14 0,c1 15 254 14,o1 5 (.arr .u8 32),sT 32 5 15] (.drw [tt (o1 16 (.sla 64 1 (T 4) none none)),tt (o1 17 (.sla 32 1 (T 5) none none)),ft (o1 18 (.cpy 1 (T 16) (T 17)))])) (.reg [o1 19 (.sla 64 1 (T 4) none none),mv 20 0,o1 21 (.cpy 1 (T 19) (T 20))]))) (qR [o1 22 (.mkf 255 [] [(T 4)]),mv 6 22] (qR [mv 23 6,o1 24 (.call (T 23) [(.const (.int .u8 92))]),mv 25 6,o1 26 (.call (T 25) [(.const (.int .u8 54))]),o1 27 (.bdd (.prod (.arr 64 .u8) (.arr 64 .u8)) (.fields [(0,64),(64,64)]) [(0,(T 24)),(1,(T 26))]),o1 28 (.bdd (.prod (.prod (.arr 64 .u8) (.arr 64 .u8)) (.prod (.prod (.arr 8 (.int .u32)) (.prod (.arr 64 .u8) (.int .i64))) .bool)) (.fields [(0,128),(128,73),(201,1)]) [(0,(T 27)),(2,kT)]),o1 29 (.box 291 (T 28)),mv 7 29] (qR [mv 30 7,mv 31 7,nL 32 31,fA 33 0 32,c1 34 256 33,nL 35 30,fA 36 128 35,sT 73 36 34] (qR [mv 37 7,mv 2 37,mI 3 0] .ret))))))))⟩
theorem fi225:Fi3 225 ir225:=by delta Fi3;kernel_rfl
def ir226:FI:=⟨19,[.tmp 4],(qR [mI 4 0] (.seq (qR [mv 5 0,o1 6 (.bin .eql 1 (T 5) (.const (.pointer none))),mv 7 6,vF 8 0 7,oF 9 (.nil (T 8)) 7,fF 10 201 9 7,lF 11 10 7,oF 12 (.un .not (T 11)) 7,pT 13 7 12] (.cond (T 13) (qR [mI 4 1] .ret) .skip)) (qR [mv 14 0,nL 15 14,fA 16 128 15,mv 17 1,c2 18 257 16 17,mv 4 18] .ret)))⟩
theorem fi226:Fi3 226 ir226:=by delta Fi3;kernel_rfl
def ir227:FI:=⟨22,[.cell 2 217,.tmp 3],(qR [o1 2 (.arr .u8 32),mI 3 0] (.seq (qR [mv 4 0,o1 5 (.bin .eql 1 (T 4) (.const (.pointer none))),mv 6 5,vF 7 0 6,oF 8 (.nil (T 7)) 6,fF 9 201 8 6,lF 10 9 6,oF 11 (.un .not (T 10)) 6,pT 12 6 11] (.cond (T 12) (qR [o1 13 (.bdd (.arr 32 .u8) (.arr 1) []),sT 32 2 13,mI 3 1] .ret) .skip)) (.seq (.drw [tt (mv 14 0),tt (nL 15 14),tt (fA 16 0 15),tt (mv 17 0),tt (nL 18 17),tt (fA 19 128 18),ft (c1 20 259 19),ft (c2 21 258 16 20),ft (sT 32 2 21),tt (mI 3 0)]) .ret)))⟩
theorem fi227:Fi3 227 ir227:=by delta Fi3;kernel_rfl
def ir228:FI:=⟨23,[.tmp 4],(qR [o1 4 (.mov kF)] (.seq (qR [mv 7 1,lN 8 false 7,mI 9 0] (.blk 0 (.loop (qR [bN 10 .lss 0 9 8] (.seq (cE 10 0) (.seq (.blk 1 (qR [iA 11 1 7 9,lD 12 11,mv 6 12] (qR [mv 13 6,lN 14 false 13,bC 15 .gtr 14 4096] (.cond (T 15) (qR [o1 4 (.mov kF)] .ret) .skip)))) (.reg [aI 16 9,mv 9 16]))))))) (qR [mv 17 0,bC 18 .geq 17 1,mv 19 18,vT 20 0 19,oT 21 (.bin .leq 0 (T 20) (ci 1024)) 19,pF 22 19 21,mv 4 22] .ret)))⟩
theorem fi228:Fi3 228 ir228:=by delta Fi3;kernel_rfl
def ir229:FI:=⟨22,[.tmp 4],(qR [o1 2 (.box 3 (T 0)),o1 4 (.mov kS)] (.scp (qR [o1 5 (.new 29 [zs])] (.seq (.lbl 0) (.seq (qR [mv 8 1] (.blk 0 (.rf (T 8) #[9,10] (.reg [mv 7 10]) (.blk 1 (qR [lD 11 5,mv 12 7,o1 13 (.app .u8 1 (T 11) (T 12)),sT 1 5 13] (qR [lD 14 5,lN 15 false 14,lD 16 2,bN 17 .geq 0 15 16] (.cond (T 17) (.exit 0) .skip))))))) (qR [lD 18 5,lD 19 2,o1 20 (.sl (some 1) (T 18) none (some (T 19))),c1 21 160 20,mv 4 21] .ret))))))⟩
theorem fi229:Fi3 229 ir229:=by delta Fi3;kernel_rfl
def ir230:FI:=⟨4,[.tmp 2],(qR [o1 1 (.box 254 (T 0)),o1 2 (.mov (.const .nilFunc))] (qR [o1 3 (.mkf 260 [] [(T 1)]),mv 2 3] .ret))⟩
theorem fi230:Fi3 230 ir230:=by delta Fi3;kernel_rfl
def ir231:FI:=⟨27,[.cell 4 217],(qR [o1 2 (.box 249 (T 0)),o1 4 (.arr .u8 32)] (.seq (.drw [tt (fA 8 0 2),tt (fA 9 0 8),tt (lD 10 9),tt (mv 11 1),tt (fA 13 1 2),tt (lD 14 13),tt (fA 16 2 2),tt (lD 17 16),tt (fA 18 3 2),tt (lD 19 18),tt (o1 20 (.bin .mul 0 (ci 8) (T 19))),tt (c1 12 261 11),tt (c1 21 261 20),tt (o1 15 (.bsl .u8 1 1 [(.int .u8 0)] [(0,(.const (.int .u8 0)))])),tt (o1 22 (.bsl (.slice .u8) 5 1 [zs,zs,zs,zs,zs] [(0,(T 12)),(1,(T 14)),(2,(T 15)),(3,(T 17)),(4,(T 21))])),tt (c2 23 196 10 22),tt (mv 7 23),tt (ex 24 0 7),tt (ex 25 1 7),ft (o1 5 (.arr .u8 32)),ft (sT 32 5 24),tt (mv 6 25)]) (qR [lG 26 32 5,sT 32 4 26] .ret)))⟩
theorem fi231:Fi3 231 ir231:=by delta Fi3;kernel_rfl
def ir232:FI:=⟨17,[.tmp 2],(qR [o1 2 (.mov kS)] (.seq (qR [mv 5 0,lN 6 false 5,mI 7 0] (.blk 0 (.loop (qR [bN 8 .lss 0 7 6] (.seq (cE 8 0) (.seq (.blk 1 (qR [iA 9 1 5 7,lD 10 9,mv 4 10] (qR [mv 11 4,lN 12 false 11,bC 13 .eql 12 0] (.cond (T 13) (qR [o1 2 (.mov kS)] .ret) .skip)))) (.reg [aI 14 7,mv 7 14]))))))) (qR [mv 15 0,c1 16 89 15,mv 2 16] .ret)))⟩
theorem fi232:Fi3 232 ir232:=by delta Fi3;kernel_rfl
def ir236:FI:=⟨10,[.tmp 4],(qR [mI 4 0] (.seq (qR [mv 5 1,bC 6 .neq 5 0] (.cond (T 6) (.reg [mv 7 1,o1 8 (.mki 36 (T 7)),o0 (.pan (T 8))]) .skip)) (qR [mv 9 0,mv 4 9] .ret)))⟩
theorem fi236:Fi3 236 ir236:=by delta Fi3;kernel_rfl
def ir237:FI:=⟨10,[.tmp 4],(qR [o1 4 (.mov kS)] (.seq (qR [mv 5 1,bC 6 .neq 5 0] (.cond (T 6) (.reg [mv 7 1,o1 8 (.mki 36 (T 7)),o0 (.pan (T 8))]) .skip)) (qR [mv 9 0,mv 4 9] .ret)))⟩
theorem fi237:Fi3 237 ir237:=by delta Fi3;kernel_rfl
def ir238:FI:=⟨54,[.tmp 6,.tmp 7],(qR [o1 6 (.mov kS),mI 7 0] (qR [o1 8 (.mov kS)] (.seq (qR [mv 12 0,o1 13 (.bin .eql 1 (T 12) (.const (.pointer none))),mv 14 13,vF 15 0 14,oF 16 (.nil (T 15)) 14,fF 17 2 16 14,lF 18 17 14,oF 19 (.un .not (T 18)) 14,pT 20 14 19] (.cond (T 20) (qR [mv 21 8,mv 6 21,mI 7 1] .ret) .skip)) (qR [mv 22 0,nL 23 22,fA 24 0 23,fA 25 1 24,lD 26 25,mv 9 26] (qR [mv 28 0,nL 29 28,fA 30 0 29,mv 31 1,c2 32 221 30 31,mv 27 32,ex 33 0 27,ex 34 1 27,mv 10 33,mv 7 34] (.seq (qR [mv 35 7,bC 36 .neq 35 0] (.cond (T 36) (qR [mv 37 8,mv 38 7,mv 6 37,mv 7 38] .ret) .skip)) (qR [mv 40 2,mv 41 10,o1 42 (.call (T 40) [(T 41)]),mv 39 42,ex 43 0 39,ex 44 1 39,mv 6 43,mv 11 44] (.seq (qR [mv 45 11,nT 46 45] (.cond (T 46) (qR [mv 47 0,mv 48 9,nL 49 47,fA 50 0 49,fA 51 1 50,sT 1 51 48] (qR [mv 52 8,mv 6 52,mI 7 6] .ret)) .skip)) (qR [mv 53 6,mv 6 53,mI 7 0] .ret)))))))))⟩
theorem fi238:Fi3 238 ir238:=by delta Fi3;kernel_rfl
def ir239:FI:=⟨6,[.tmp 2,.tmp 3],(qR [o1 2 (.mov kS),o1 3 (.mov kF)] (qR [mv 4 0,c1 5 160 4,mv 2 5,o1 3 (.mov kT)] .ret))⟩
theorem fi239:Fi3 239 ir239:=by delta Fi3;kernel_rfl
def ir243:FI:=⟨65,[.tmp 2,.tmp 3,.tmp 4],(qR [mI 2 0,mI 3 0,mI 4 0] (.seq (qR [mv 10 0,lN 11 false 10,bC 12 .lss 11 2] (.cond (T 12) (qR [mI 2 0,mI 3 0,mI 4 4] .ret) .skip)) (qR [mv 13 0,o1 14 (.ia 1 (T 13) (ci 1)),lD 15 14,o1 16 (.toInt .i64 (T 15)),mv 5 16,mI 2 2] (.seq (qR [mv 17 5,bC 18 .geq 17 128] (.cond (T 18) (qR [mv 19 5,bC 20 .sub 19 128,mv 6 20] (.seq (qR [mv 21 6,bC 22 .lss 21 1,mv 23 22,vF 24 6 23,oF 25 (.bin .gtr 0 (T 24) (ci 3)) 23,pT 26 23 25] (.cond (T 26) (qR [mI 2 0,mI 3 0,mI 4 6] .ret) .skip)) (.seq (qR [mv 27 0,lN 28 false 27,mv 29 6,o1 30 (.bin .add 0 (ci 2) (T 29)),bN 31 .lss 0 28 30] (.cond (T 31) (qR [mI 2 0,mI 3 0,mI 4 4] .ret) .skip)) (qR [mv 32 6,o1 33 (.bin .add 0 (ci 2) (T 32)),mI 5 0,mv 2 33] (.seq (qR [mv 34 0,mv 35 2,mv 36 2,o1 37 (.sl3 1 false (T 34) (some (ci 2)) (T 35) (T 36)),lN 38 false 37,mI 39 0] (.blk 0 (.loop (qR [bN 40 .lss 0 39 38] (.seq (cE 40 0) (.seq (.blk 1 (qR [iA 41 1 37 39,lD 42 41,mv 8 42] (.reg [mv 43 5,o1 44 (.bin .shl 0 (T 43) (.const (.int .u64 8))),mv 45 8,o1 46 (.toInt .i64 (T 45)),bN 47 .or 0 44 46,mv 5 47]))) (.reg [aI 48 39,mv 39 48]))))))) (qR [o1 49 (.bld [zi,zi,zi,zi] (.arr 1) [(0,(ci 0)),(1,(ci 128)),(2,(ci 256)),(3,(ci 65536))]),o1 9 (.new 299 [zi,zi,zi,zi]),sT 4 9 49] (qR [mv 50 5,mv 51 6,o1 52 (.iaa 4 1 (T 9) (T 51)),lD 53 52,bN 54 .lss 0 50 53] (.cond (T 54) (qR [mI 2 0,mI 3 0,mI 4 6] .ret) .skip)))))))) .skip)) (.seq (qR [mv 55 0,lN 56 false 55,mv 57 2,bN 58 .sub 0 56 57,mv 59 5,bN 60 .lss 0 58 59] (.cond (T 60) (qR [mI 2 0,mI 3 0,mI 4 4] .ret) .skip)) (qR [mv 61 2,mv 62 2,mv 63 5,bN 64 .add 0 62 63,mv 2 61,mv 3 64,mI 4 0] .ret))))))⟩
theorem fi243:Fi3 243 ir243:=by delta Fi3;kernel_rfl
def ir254:FI:=⟨15,[.cell 2 217],(qR [o1 2 (.arr .u8 32)] (qR [o1 5 (.ld (some 8) (.global 1)),o1 3 (.arr (.int .u32) 8),sT 8 3 5] (.seq (qR [mv 6 0,mv 7 0,lN 8 false 7,c2 9 281 6 8] (.blk 0 (.rf (T 9) #[10] (.reg [mv 4 10]) (.blk 1 (.reg [mv 11 4,c2 12 282 3 11]))))) (qR [lG 13 8 3,c1 14 283 13,sT 32 2 14] .ret))))⟩
theorem fi254:Fi3 254 ir254:=by delta Fi3;kernel_rfl
def ir255:FI:=⟨18,[.cell 3 281],(qR [o1 3 (.arr .u8 64)] (.seq (qR [lG 6 64 1,mI 7 0] (.blk 0 (.loop (qR [bC 8 .lss 7 64] (.seq (cE 8 0) (.seq (.blk 1 (qR [mv 9 7,o1 10 (.ixd 64 (T 6) (T 7)),mv 4 9,mv 5 10] (.reg [mv 11 4,mv 12 5,mv 13 0,bN 14 .xor 0 12 13,o1 15 (.iaa 64 1 (T 3) (T 11)),sT 1 15 14]))) (.reg [aI 16 7,mv 7 16]))))))) (qR [lG 17 64 3,sT 64 3 17] .ret)))⟩
theorem fi255:Fi3 255 ir255:=by delta Fi3;kernel_rfl
def ir256:FI:=⟨9,[.cell 2 289],(qR [o1 2 (.sgl (.prod (.arr 8 (.int .u32)) (.prod (.arr 64 .u8) (.int .i64))))] (qR [mv 3 0,nL 4 3,fA 5 64 4,o1 6 (.sla 64 1 (T 5) none none),c2 7 257 2 6] (qR [lG 8 73 2,sT 73 2 8] .ret)))⟩
theorem fi256:Fi3 256 ir256:=by delta Fi3;kernel_rfl
def ir257:FI:=⟨73,[.tmp 4],(qR [mI 4 0] (.seq (qR [mv 7 0,o1 8 (.bin .eql 1 (T 7) (.const (.pointer none)))] (.cond (T 8) (qR [mI 4 1] .ret) .skip)) (.seq (qR [mv 9 0,nL 10 9,fA 11 72 10,lD 12 11,bC 13 .eql 12 0] (.cond (T 13) (.reg [mv 14 0,o1 15 (.ld (some 8) (.global 1)),nL 16 14,fA 17 0 16,sT 8 17 15]) .skip)) (qR [mv 18 0,nL 19 18,fA 20 72 19,lD 21 20,bC 22 .rem 21 64,mv 5 22] (qR [mv 23 0,nL 24 23,fA 25 72 24,lD 26 25,mv 27 1,lN 28 false 27,bN 29 .add 0 26 28,nL 30 23,fA 31 72 30,sT 1 31 29] (.seq (qR [mv 32 5,bC 33 .gtr 32 0] (.cond (T 33) (qR [mv 34 0,nL 35 34,fA 36 8 35,mv 37 5,o1 38 (.sla 64 1 (T 36) (some (T 37)) none),mv 39 1,o1 40 (.cpy 1 (T 38) (T 39)),mv 6 40] (.seq (qR [mv 41 5,mv 42 6,bN 43 .add 0 41 42,bC 44 .lss 43 64] (.cond (T 44) (qR [mI 4 0] .ret) .skip)) (.seq (.drw [tt (mv 45 0),tt (nL 46 45),tt (fA 47 0 46),tt (mv 48 0),tt (nL 49 48),tt (fA 50 8 49),tt (o1 51 (.sla 64 1 (T 50) none none)),ft (c2 52 282 47 51)]) (.reg [mv 53 1,mv 54 6,o1 55 (.sl (some 1) (T 53) (some (T 54)) none),mv 1 55])))) .skip)) (.seq (.blk 0 (.loop (.seq (qR [mv 56 1,lN 57 false 56,bC 58 .geq 57 64] (cE 58 0)) (.blk 1 (.seq (.drw [tt (mv 59 0),tt (nL 60 59),tt (fA 61 0 60),tt (mv 62 1),tt (o1 63 (.sl3 1 true (T 62) none (ci 64) (ci 64))),ft (c2 64 282 61 63)]) (.reg [mv 65 1,o1 66 (.sl (some 1) (T 65) (some (ci 64)) none),mv 1 66])))))) (qR [mv 67 0,nL 68 67,fA 69 8 68,o1 70 (.sla 64 1 (T 69) none none),mv 71 1,o1 72 (.cpy 1 (T 70) (T 71))] (qR [mI 4 0] .ret)))))))))⟩
theorem fi257:Fi3 257 ir257:=by delta Fi3;kernel_rfl
def ir258:FI:=⟨14,[.cell 4 217],(qR [o1 3 (.box 217 (T 1)),o1 4 (.arr .u8 32)] (qR [o1 5 (.sgl (.prod (.arr 8 (.int .u32)) (.prod (.arr 64 .u8) (.int .i64))))] (qR [mv 6 0,nL 7 6,fA 8 0 7,o1 9 (.sla 64 1 (T 8) none none),c2 10 257 5 9] (qR [o1 11 (.sla 32 1 (T 3) none none),c2 12 257 5 11] (qR [c1 13 259 5,sT 32 4 13] .ret)))))⟩
theorem fi258:Fi3 258 ir258:=by delta Fi3;kernel_rfl
def ir259:FI:=⟨41,[.cell 2 217],(qR [o1 2 (.arr .u8 32)] (.seq (qR [mv 6 0,o1 7 (.bin .eql 1 (T 6) (.const (.pointer none))),mv 8 7,vF 9 0 8,oF 10 (.nil (T 9)) 8,fF 11 72 10 8,lF 12 11 8,oF 13 (.bin .eql 0 (T 12) (ci 0)) 8,pT 14 8 13] (.cond (T 14) (qR [o1 15 (.call (.func 254) [kS]),sT 32 2 15] .ret) .skip)) (qR [mv 16 0,nL 17 16,fA 18 0 17,lG 19 8 18,o1 3 (.arr (.int .u32) 8),sT 8 3 19] (qR [mv 20 0,nL 21 20,fA 22 72 21,lD 23 22,bC 24 .rem 23 64,mv 4 24] (.seq (.seq (.drw [tt (mv 25 0),tt (nL 26 25),tt (fA 27 8 26),tt (mv 28 4),tt (mv 29 4),tt (o1 30 (.sla3 64 1 (T 27) none (T 28) (T 29))),tt (mv 31 0),tt (nL 32 31),tt (fA 33 72 32),tt (lD 34 33),ft (c2 35 281 30 34)]) (.blk 0 (.rf (T 35) #[36] (.reg [mv 5 36]) (.blk 1 (.reg [mv 37 5,c2 38 282 3 37]))))) (qR [lG 39 8 3,c1 40 283 39,sT 32 2 40] .ret))))))⟩
theorem fi259:Fi3 259 ir259:=by delta Fi3;kernel_rfl
def ir260:FI:=⟨15,[],(qR [mI 3 1] (.blk 0 (.loop (.seq (.blk 1 (qR [lD 7 1,mv 8 3,o1 9 (.call (T 7) [(T 8)]),o1 4 (.arr .u8 32),sT 32 4 9] (qR [mv 10 0,mv 11 3,o1 12 (.sla 32 1 (T 4) none none),o1 13 (.call (T 10) [(T 11),(T 12)]),nT 14 13] (.cond (T 14) .ret .skip)))) (.reg [mv 5 3,aI 6 5,mv 3 6])))))⟩
theorem fi260:Fi3 260 ir260:=by delta Fi3;kernel_rfl
def ir261:FI:=⟨15,[.tmp 2],(qR [o1 2 (.mov kS)] (qR [mv 3 0,o1 4 (.bin .shr 0 (T 3) (.const (.int .u64 24))),o1 5 (.toInt .u8 (T 4)),mv 6 0,o1 7 (.bin .shr 0 (T 6) (.const (.int .u64 16))),o1 8 (.toInt .u8 (T 7)),mv 9 0,o1 10 (.bin .shr 0 (T 9) (.const (.int .u64 8))),o1 11 (.toInt .u8 (T 10)),mv 12 0,o1 13 (.toInt .u8 (T 12)),o1 14 (.bsl .u8 4 1 [(.int .u8 0),(.int .u8 0),(.int .u8 0),(.int .u8 0)] [(0,(T 5)),(1,(T 8)),(2,(T 11)),(3,(T 13))]),mv 2 14] .ret))⟩
theorem fi261:Fi3 261 ir261:=by delta Fi3;kernel_rfl
def ir281:FI:=⟨6,[.tmp 4],(qR [o1 2 (.box 29 (T 0)),o1 3 (.box 3 (T 1)),o1 4 (.mov (.const .nilFunc))] (qR [o1 5 (.mkf 297 [] [(T 2),(T 3)]),mv 4 5] .ret))⟩
theorem fi281:Fi3 281 ir281:=by delta Fi3;kernel_rfl
def ir282:FI:=⟨200,[],(qR [o1 4 (.arr (.int .u32) 64)] (.seq (qR [mI 26 0] (.blk 0 (.loop (qR [bC 27 .lss 26 16] (.seq (cE 27 0) (.seq (.blk 1 (qR [mv 28 26,mv 5 28] (qR [mv 29 1,mv 30 5,o1 31 (.bin .mul 0 (ci 4) (T 30)),mv 32 5,o1 33 (.bin .mul 0 (ci 4) (T 32)),bC 34 .add 33 4,mv 35 5,o1 36 (.bin .mul 0 (ci 4) (T 35)),bC 37 .add 36 4,o1 38 (.sl3 1 false (T 29) (some (T 31)) (T 34) (T 37)),mv 6 38] (.drw [tt (mv 39 5),tt (mv 40 6),tt (o1 41 (.ia 1 (T 40) (ci 0))),tt (lD 42 41),tt (o1 43 (.toInt .u32 (T 42))),tt (o1 44 (.bin .shl 0 (T 43) (.const (.int .u64 24)))),tt (mv 45 6),tt (o1 46 (.ia 1 (T 45) (ci 1))),tt (lD 47 46),tt (o1 48 (.toInt .u32 (T 47))),tt (o1 49 (.bin .shl 0 (T 48) (.const (.int .u64 16)))),tt (bN 50 .or 0 44 49),tt (mv 51 6),tt (o1 52 (.ia 1 (T 51) (ci 2))),tt (lD 53 52),tt (o1 54 (.toInt .u32 (T 53))),tt (o1 55 (.bin .shl 0 (T 54) (.const (.int .u64 8)))),tt (bN 56 .or 0 50 55),tt (mv 57 6),tt (o1 58 (.ia 1 (T 57) (ci 3))),tt (lD 59 58),tt (o1 60 (.toInt .u32 (T 59))),tt (bN 61 .or 0 56 60),tt (o1 62 (.iaa 64 1 (T 4) (T 39))),ft (sT 1 62 61)])))) (.reg [aI 63 26,mv 26 63]))))))) (.seq (qR [mI 7 16] (.blk 2 (.loop (.seq (qR [mv 64 7,bC 65 .lss 64 64] (cE 65 2)) (.seq (.blk 3 (.seq (.drw [tt (mv 68 7),tt (bC 69 .sub 68 15),tt (o1 70 (.iaa 64 1 (T 4) (T 69))),tt (lD 71 70),tt (mv 72 7),tt (bC 73 .sub 72 2),tt (o1 74 (.iaa 64 1 (T 4) (T 73))),tt (lD 75 74),tt (mv 8 71),tt (mv 9 75)]) (.drw [tt (mv 76 7),tt (mv 77 9),tt (mv 80 9),tt (o1 81 (.bin .shr 0 (T 80) (.const (.int .u64 10)))),tt (mv 83 7),tt (bC 84 .sub 83 7),tt (o1 85 (.iaa 64 1 (T 4) (T 84))),tt (lD 86 85),tt (mv 88 8),tt (mv 91 8),tt (o1 92 (.bin .shr 0 (T 91) (.const (.int .u64 3)))),tt (mv 95 7),tt (bC 96 .sub 95 16),tt (o1 97 (.iaa 64 1 (T 4) (T 96))),tt (lD 98 97),tt (o1 78 (.bsl (.int .i64) 2 1 [zi,zi] [(0,(ci 17)),(1,(ci 19))])),tt (c2 79 298 77 78),tt (bN 82 .xor 0 79 81),tt (bN 87 .add 0 82 86),ft (o1 89 (.bsl (.int .i64) 2 1 [zi,zi] [(0,(ci 7)),(1,(ci 18))])),ft (c2 90 298 88 89),tt (bN 93 .xor 0 90 92),tt (bN 94 .add 0 87 93),tt (bN 99 .add 0 94 98),tt (o1 100 (.iaa 64 1 (T 4) (T 76))),ft (sT 1 100 99)]))) (.reg [mv 66 7,aI 67 66,mv 7 67])))))) (qR [o1 10 (.mov (.func 299))] (qR [o1 11 (.mov (.func 300))] (.seq (.drw [tt (mv 101 0),tt (nL 102 101),tt (o1 103 (.iaa 8 1 (T 102) (ci 0))),tt (lD 104 103),tt (mv 105 0),tt (nL 106 105),tt (o1 107 (.iaa 8 1 (T 106) (ci 1))),tt (lD 108 107),tt (mv 109 0),tt (nL 110 109),tt (o1 111 (.iaa 8 1 (T 110) (ci 2))),tt (lD 112 111),tt (mv 113 0),tt (nL 114 113),tt (o1 115 (.iaa 8 1 (T 114) (ci 3))),tt (lD 116 115),tt (mv 117 0),tt (nL 118 117),tt (o1 119 (.iaa 8 1 (T 118) (ci 4))),tt (lD 120 119),tt (mv 121 0),tt (nL 122 121),tt (o1 123 (.iaa 8 1 (T 122) (ci 5))),tt (lD 124 123),tt (mv 125 0),tt (nL 126 125),tt (o1 127 (.iaa 8 1 (T 126) (ci 6))),tt (lD 128 127),tt (mv 129 0),tt (nL 130 129),tt (o1 131 (.iaa 8 1 (T 130) (ci 7))),tt (lD 132 131),tt (mv 12 104),tt (mv 13 108),tt (mv 14 112),tt (mv 15 116),tt (mv 16 120),tt (mv 17 124),tt (mv 18 128),tt (mv 19 132)]) (.seq (qR [o1 133 (.ld (some 64) (.global 5)),mI 134 0] (.blk 4 (.loop (qR [bC 135 .lss 134 64] (.seq (cE 135 4) (.seq (.blk 5 (qR [mv 136 134,o1 137 (.ixd 64 (T 133) (T 134)),mv 20 136,mv 21 137] (.seq (.drw [tt (mv 138 19),tt (mv 139 16),tt (mv 143 10),tt (mv 144 16),tt (mv 145 17),tt (mv 146 18),tt (mv 149 21),tt (mv 151 20),tt (o1 152 (.iaa 64 1 (T 4) (T 151))),tt (lD 153 152),ft (o1 140 (.bsl (.int .i64) 3 1 [zi,zi,zi] [(0,(ci 6)),(1,(ci 11)),(2,(ci 25))])),ft (c2 141 298 139 140),tt (bN 142 .add 0 138 141),ft (o1 147 (.call (T 143) [(T 144),(T 145),(T 146)])),tt (bN 148 .add 0 142 147),tt (bN 150 .add 0 148 149),tt (bN 154 .add 0 150 153),tt (mv 22 154)]) (qR [mv 155 12,o1 156 (.bsl (.int .i64) 3 1 [zi,zi,zi] [(0,(ci 2)),(1,(ci 13)),(2,(ci 22))]),c2 157 298 155 156,mv 158 11,mv 159 12,mv 160 13,mv 161 14,o1 162 (.call (T 158) [(T 159),(T 160),(T 161)]),bN 163 .add 0 157 162,mv 23 163] (.reg [mv 164 18,mv 165 17,mv 166 16,mv 167 15,mv 168 22,bN 169 .add 0 167 168,mv 170 14,mv 171 13,mv 172 12,mv 173 22,mv 174 23,bN 175 .add 0 173 174,mv 19 164,mv 18 165,mv 17 166,mv 16 169,mv 15 170,mv 14 171,mv 13 172,mv 12 175]))))) (.reg [aI 176 134,mv 134 176]))))))) (qR [mv 177 12,mv 178 13,mv 179 14,mv 180 15,mv 181 16,mv 182 17,mv 183 18,mv 184 19,o1 185 (.bdd (.arr 8 (.int .u32)) (.arr 1) [(0,(T 177)),(1,(T 178)),(2,(T 179)),(3,(T 180)),(4,(T 181)),(5,(T 182)),(6,(T 183)),(7,(T 184))]),mI 186 0] (.blk 6 (.loop (qR [bC 187 .lss 186 8] (.seq (cE 187 6) (.seq (.blk 7 (qR [mv 188 186,o1 189 (.ixd 8 (T 185) (T 186)),mv 24 188,mv 25 189] (.drw [tt (mv 190 0),tt (mv 191 24),tt (nL 192 190),tt (o1 193 (.iaa 8 1 (T 192) (T 191))),tt (lD 194 193),tt (mv 195 25),tt (bN 196 .add 0 194 195),tt (nL 197 190),tt (o1 198 (.iaa 8 1 (T 197) (T 191))),ft (sT 1 198 196)]))) (.reg [aI 199 186,mv 186 199]))))))))))))))⟩
theorem fi282:Fi3 282 ir282:=by delta Fi3;kernel_rfl
def ir283:FI:=⟨38,[.cell 2 217],(qR [o1 1 (.box 287 (T 0)),o1 2 (.arr .u8 32)] (.seq (qR [lG 5 8 1,mI 6 0] (.blk 0 (.loop (qR [bC 7 .lss 6 8] (.seq (cE 7 0) (.seq (.blk 1 (qR [mv 8 6,o1 9 (.ixd 8 (T 5) (T 6)),mv 3 8,mv 4 9] (.reg [mv 10 3,o1 11 (.bin .mul 0 (ci 4) (T 10)),mv 12 3,o1 13 (.bin .mul 0 (ci 4) (T 12)),aI 14 13,mv 15 3,o1 16 (.bin .mul 0 (ci 4) (T 15)),bC 17 .add 16 2,mv 18 3,o1 19 (.bin .mul 0 (ci 4) (T 18)),bC 20 .add 19 3,mv 21 4,o1 22 (.bin .shr 0 (T 21) (.const (.int .u64 24))),o1 23 (.toInt .u8 (T 22)),mv 24 4,o1 25 (.bin .shr 0 (T 24) (.const (.int .u64 16))),o1 26 (.toInt .u8 (T 25)),mv 27 4,o1 28 (.bin .shr 0 (T 27) (.const (.int .u64 8))),o1 29 (.toInt .u8 (T 28)),mv 30 4,o1 31 (.toInt .u8 (T 30)),o1 32 (.iaa 32 1 (T 2) (T 11)),sT 1 32 23,o1 33 (.iaa 32 1 (T 2) (T 14)),sT 1 33 26,o1 34 (.iaa 32 1 (T 2) (T 17)),sT 1 34 29,o1 35 (.iaa 32 1 (T 2) (T 20)),sT 1 35 31]))) (.reg [aI 36 6,mv 6 36]))))))) (qR [lG 37 32 2,sT 32 2 37] .ret)))⟩
theorem fi283:Fi3 283 ir283:=by delta Fi3;kernel_rfl
def ir297:FI:=⟨63,[],(qR [lD 8 1,mv 4 8] (.seq (.blk 0 (.loop (.seq (qR [mv 9 4,lN 10 false 9,bC 11 .geq 10 64] (cE 11 0)) (.blk 1 (.seq (qR [mv 12 0,mv 13 4,o1 14 (.sl3 1 true (T 13) none (ci 64) (ci 64)),o1 15 (.call (T 12) [(T 14)]),nT 16 15] (.cond (T 16) .ret .skip)) (.reg [mv 17 4,o1 18 (.sl (some 1) (T 17) (some (ci 64)) none),mv 4 18])))))) (qR [mI 5 64] (.seq (qR [mv 19 4,lN 20 false 19,bC 21 .add 20 9,bC 22 .gtr 21 64] (.cond (T 22) (.reg [mI 5 128]) .skip)) (qR [mv 23 5,o1 24 (.mks .u8 1 (T 23) (T 23)),mv 6 24] (qR [mv 25 6,mv 26 4,o1 27 (.cpy 1 (T 25) (T 26))] (qR [mv 28 6,mv 29 4,lN 30 false 29,iA 31 1 28 30,o0 (.st 1 (T 31) (.const (.int .u8 128)))] (.seq (qR [mI 32 0] (.blk 2 (.loop (qR [bC 33 .lss 32 8] (.seq (cE 33 2) (.seq (.blk 3 (qR [mv 34 32,mv 7 34] (.reg [mv 35 6,mv 36 5,bC 37 .sub 36 1,mv 38 7,bN 39 .sub 0 37 38,lD 40 2,o1 41 (.toInt .u64 (T 40)),o1 42 (.bin .mul 0 (T 41) (.const (.int .u64 8))),mv 43 7,o1 44 (.bin .mul 0 (ci 8) (T 43)),bN 45 .shr 0 42 44,o1 46 (.toInt .u8 (T 45)),iA 47 1 35 39,sT 1 47 46]))) (.reg [aI 48 32,mv 32 48]))))))) (qR [mv 49 0,mv 50 6,o1 51 (.sl3 1 true (T 50) none (ci 64) (ci 64)),o1 52 (.call (T 49) [(T 51)]),mv 53 52,vT 54 5 53,oT 55 (.bin .gtr 0 (T 54) (ci 64)) 53,pF 56 53 55] (.cond (T 56) (.reg [mv 57 0,mv 58 6,mv 59 5,mv 60 5,o1 61 (.sl3 1 false (T 58) (some (ci 64)) (T 59) (T 60)),o1 62 (.call (T 57) [(T 61)])]) .skip))))))))))⟩
theorem fi297:Fi3 297 ir297:=by delta Fi3;kernel_rfl
def ir298:FI:=⟨21,[.tmp 4],(qR [o1 4 (.mov (.const (.int .u32 0)))] (.seq (qR [mv 7 1,lN 8 false 7,mI 9 0] (.blk 0 (.loop (qR [bN 10 .lss 0 9 8] (.seq (cE 10 0) (.seq (.blk 1 (qR [iA 11 1 7 9,lD 12 11,mv 6 12] (.reg [mv 13 4,mv 14 0,mv 15 6,o1 16 (.un .neg (T 15)),c2 17 307 14 16,bN 18 .xor 0 13 17,mv 4 18]))) (.reg [aI 19 9,mv 9 19]))))))) (qR [mv 20 4,mv 4 20] .ret)))⟩
theorem fi298:Fi3 298 ir298:=by delta Fi3;kernel_rfl
def ir299:FI:=⟨15,[.tmp 6],(qR [o1 6 (.mov (.const (.int .u32 0)))] (qR [mv 7 0,mv 8 1,bN 9 .and 0 7 8,mv 10 0,o1 11 (.un .xor (T 10)),mv 12 2,bN 13 .and 0 11 12,bN 14 .xor 0 9 13,mv 6 14] .ret))⟩
theorem fi299:Fi3 299 ir299:=by delta Fi3;kernel_rfl
def ir300:FI:=⟨18,[.tmp 6],(qR [o1 6 (.mov (.const (.int .u32 0)))] (qR [mv 7 0,mv 8 1,bN 9 .and 0 7 8,mv 10 0,mv 11 2,bN 12 .and 0 10 11,bN 13 .xor 0 9 12,mv 14 1,mv 15 2,bN 16 .and 0 14 15,bN 17 .xor 0 13 16,mv 6 17] .ret))⟩
theorem fi300:Fi3 300 ir300:=by delta Fi3;kernel_rfl
def ir307:FI:=⟨17,[.tmp 4],(qR [o1 4 (.mov (.const (.int .u32 0)))] (qR [mv 6 1,o1 7 (.toInt .u64 (T 6)),o1 8 (.bin .and 0 (T 7) (.const (.int .u64 31))),mv 5 8] (qR [mv 9 0,mv 10 5,bN 11 .shl 0 9 10,mv 12 0,mv 13 5,o1 14 (.bin .sub 0 (.const (.int .u64 32)) (T 13)),bN 15 .shr 0 12 14,bN 16 .or 0 11 15,mv 4 16] .ret)))⟩
theorem fi307:Fi3 307 ir307:=by delta Fi3;kernel_rfl
attribute [go_sem] ir189 ir196 ir197 ir198 ir199 ir200 ir201 ir202 ir208 ir209 ir210 ir211 ir212 ir213 ir214 ir215 ir216 ir217 ir219 ir220 ir221 ir225 ir226 ir227 ir228 ir229 ir230 ir231 ir232 ir236 ir237 ir238 ir239 ir243 ir254 ir255 ir256 ir257 ir258 ir259 ir260 ir261 ir281 ir282 ir283 ir297 ir298 ir299 ir300 ir307
theorem mixed:Tryz.prog.follows .mixedOrders=true:=by kernel_rfl
theorem gQ[Ghost]{AQ:Ex→List SV→List SObj→Prop}{m:IM}{q:Prop}(h:q)(e:run Tryz.prog AQ 600 m=q:=by (simp (maxSteps:=3000000) only [go_sem,↓zA,↓reduceIte,↓reduceDIte];(try simp only [zB]);rfl)):SoundI Tryz.prog AQ m:=goE mixed h e
theorem aQ[Ghost]{AQ:Ex→List SV→List SObj→Prop}{m:IM}{q:Prop}(h:q)(e:run Tryz.prog AQ 600 m=q:=by (simp (maxSteps:=3000000) only [List.append_assoc,getA,getA0,setA,setA0,Ae,Nat.add_assoc,go_sem,↓zA,↓reduceIte,↓reduceDIte];(try simp only [zB]);rfl)):SoundI Tryz.prog AQ m:=goaE mixed h e
theorem rQ{f:FuncId}{fi:FI}{args:List SV}{K:Out→List SObj→Prop}{H:List SObj}{q:Prop}(hf:finfo Tryz.prog f=some fi)(h:q)(e:run Tryz.prog (retF Tryz.prog fi.results K) 600 ⟨H.length,[.ic fi.code],args++List.replicate (fi.ntmps-args.length) .any,H⟩=q:=by (simp (maxSteps:=3000000) only [go_sem,↓zA,↓reduceIte,↓reduceDIte];(try simp only [zB]);rfl)):VC Tryz.prog f args H K:=runE mixed hf h e
theorem eQ[Ghost]{AQ:Ex→List SV→List SObj→Prop}{f:FuncId}{args args0:List SV}{H0 H1:List SObj}{s:SV}{d:Option Tmp}{m:IM}{q:Prop}(hs:List Nat)(hp:PE Tryz.prog f args0 H0 (.ret s) H1)(h:q)(hargs:args=SV.renL (sig hs m.heap.length) args0:=by rfl)(hnd:hs.Nodup:=by decide)(ha:atH (sig hs m.heap.length) m.heap hs H0:=by (repeat first|exact trivial|exact rfl|refine And.intro ?_ ?_))(hb:SV.belL H0.length args0=true:=by rfl)(hbh:belH H0.length H0=true:=by rfl)(e:run Tryz.prog AQ 600 {m with tmps:=putT m.tmps d (s.ren (sig hs m.heap.length)),heap:=mgA (sig hs m.heap.length) hs H1 m.heap}=q:=by (simp only [Out.ren,SV.ren,mgA,sig,SObj.ren,SV.renL,List.set,List.map,Aj];simp (maxSteps:=3000000) only [go_sem,↓zA,↓reduceIte,↓reduceDIte];(try simp only [zB]);rfl)):CallI Tryz.prog AQ f args d m:=effE mixed hs hp h hargs hnd ha hb hbh e
theorem cQ[Ghost]{AQ:Ex→List SV→List SObj→Prop}{f:FuncId}{args:List SV}{s:SV}{d:Option Tmp}{m:IM}{q:Prop}(hp:PC Tryz.prog f args s)(h:q)(e:run Tryz.prog AQ 600 {m with tmps:=putT m.tmps d s}=q:=by (simp (maxSteps:=3000000) only [go_sem,↓zA,↓reduceIte,↓reduceDIte];(try simp only [zB]);rfl)):CallI Tryz.prog AQ f args d m:=q0a hp (goE mixed h e)
theorem cR[Ghost]{AQ:Ex→List SV→List SObj→Prop}{G:List Nat}{f:FuncId}{args:List SV}{s:SV}{d:Option Tmp}{m:IM}{q:Prop}(hp:PC Tryz.prog f args s)(h:q)(e:run Tryz.prog AQ 600 {m with tmps:=putT m.tmps d s}=q:=by (simp (maxSteps:=3000000) only [go_sem,↓zA,↓reduceIte,↓reduceDIte];(try simp only [zB]);rfl)):CallR Tryz.prog AQ G f args d m:=q0l hp (goE mixed h e)
theorem uQ[Ghost]{AQ:Ex→List SV→List SObj→Prop}(n:Nat)(m:IM)(h:run Tryz.prog AQ n m):SoundI Tryz.prog AQ m:=q0v mixed n m h
theorem gy1[Ghost]{AQ:Ex→List SV→List SObj→Prop}{m:IM}{a0 q:Prop}(w0:a0)(h:q)(e:a0→run Tryz.prog AQ 600 m=q:=by (intro w0;simp (maxSteps:=3000000) only [w0,go_sem,↓zA,↓reduceIte,↓reduceDIte];(try simp only [zB]);rfl)):SoundI Tryz.prog AQ m:=q0v mixed 600 m (Eq.mpr (e w0) h)
theorem cy1[Ghost]{AQ:Ex→List SV→List SObj→Prop}{f:FuncId}{args:List SV}{s:SV}{d:Option Tmp}{m:IM}{a0 q:Prop}(hp:PC Tryz.prog f args s)(w0:a0)(h:q)(e:a0→run Tryz.prog AQ 600 {m with tmps:=putT m.tmps d s}=q:=by (intro w0;simp (maxSteps:=3000000) only [w0,go_sem,↓zA,↓reduceIte,↓reduceDIte];(try simp only [zB]);rfl)):CallI Tryz.prog AQ f args d m:=q0a hp (q0v mixed 600 _ (Eq.mpr (e w0) h))
theorem ry1{f:FuncId}{fi:FI}{args:List SV}{K:Out→List SObj→Prop}{H:List SObj}{a0 q:Prop}(hf:finfo Tryz.prog f=some fi)(w0:a0)(h:q)(e:a0→run Tryz.prog (retF Tryz.prog fi.results K) 600 ⟨H.length,[.ic fi.code],args++List.replicate (fi.ntmps-args.length) .any,H⟩=q:=by (intro w0;simp (maxSteps:=3000000) only [w0,go_sem,↓zA,↓reduceIte,↓reduceDIte];(try simp only [zB]);rfl)):VC Tryz.prog f args H K:=q4r hf (q0v mixed 600 _ (Eq.mpr (e w0) h))
theorem sy2{a0 a1 p q:Prop}(w0:a0)(w1:a1)(h:q)(e:a0→a1→p=q:=by (intro w0 w1;simp (maxSteps:=3000000) only [w0,w1,go_sem,↓zA,↓reduceIte,↓reduceDIte];(try simp only [zB]);rfl)):p:=Eq.mpr (e w0 w1) h
theorem gy2[Ghost]{AQ:Ex→List SV→List SObj→Prop}{m:IM}{a0 a1 q:Prop}(w0:a0)(w1:a1)(h:q)(e:a0→a1→run Tryz.prog AQ 600 m=q:=by (intro w0 w1;simp (maxSteps:=3000000) only [w0,w1,go_sem,↓zA,↓reduceIte,↓reduceDIte];(try simp only [zB]);rfl)):SoundI Tryz.prog AQ m:=q0v mixed 600 m (Eq.mpr (e w0 w1) h)
theorem gya2[Ghost]{AQ:Ex→List SV→List SObj→Prop}{m:IM}{a0 a1 q:Prop}(w0:a0)(w1:a1)(h:q)(e:a0→a1→run Tryz.prog AQ 600 m=q:=by (intro w0 w1;simp (maxSteps:=3000000) only [w0,w1,List.append_assoc,getA,getA0,setA,setA0,Ae,Nat.add_assoc,go_sem,↓zA,↓reduceIte,↓reduceDIte];(try simp only [zB]);rfl)):SoundI Tryz.prog AQ m:=q0v mixed 600 m (Eq.mpr (e w0 w1) h)
theorem gy3[Ghost]{AQ:Ex→List SV→List SObj→Prop}{m:IM}{a0 a1 a2 q:Prop}(w0:a0)(w1:a1)(w2:a2)(h:q)(e:a0→a1→a2→run Tryz.prog AQ 600 m=q:=by (intro w0 w1 w2;simp (maxSteps:=3000000) only [w0,w1,w2,go_sem,↓zA,↓reduceIte,↓reduceDIte];(try simp only [zB]);rfl)):SoundI Tryz.prog AQ m:=q0v mixed 600 m (Eq.mpr (e w0 w1 w2) h)
theorem gyd3[Ghost]{AQ:Ex→List SV→List SObj→Prop}{m:IM}{a0 a1 a2 q:Prop}(w0:a0)(w1:a1)(w2:a2)(h:q)(e:a0→a1→a2→run Tryz.prog AQ 600 m=q:=by (intro w0 w1 w2;simp (maxSteps:=3000000) only [w0,w1,w2,Ty.dflt,go_sem,↓zA,↓reduceIte,↓reduceDIte];(try simp only [zB]);rfl)):SoundI Tryz.prog AQ m:=q0v mixed 600 m (Eq.mpr (e w0 w1 w2) h)
theorem cyd3[Ghost]{AQ:Ex→List SV→List SObj→Prop}{f:FuncId}{args:List SV}{s:SV}{d:Option Tmp}{m:IM}{a0 a1 a2 q:Prop}(hp:PC Tryz.prog f args s)(w0:a0)(w1:a1)(w2:a2)(h:q)(e:a0→a1→a2→run Tryz.prog AQ 600 {m with tmps:=putT m.tmps d s}=q:=by (intro w0 w1 w2;simp (maxSteps:=3000000) only [w0,w1,w2,Ty.dflt,go_sem,↓zA,↓reduceIte,↓reduceDIte];(try simp only [zB]);rfl)):CallI Tryz.prog AQ f args d m:=q0a hp (q0v mixed 600 _ (Eq.mpr (e w0 w1 w2) h))
theorem gy4[Ghost]{AQ:Ex→List SV→List SObj→Prop}{m:IM}{a0 a1 a2 a3 q:Prop}(w0:a0)(w1:a1)(w2:a2)(w3:a3)(h:q)(e:a0→a1→a2→a3→run Tryz.prog AQ 600 m=q:=by (intro w0 w1 w2 w3;simp (maxSteps:=3000000) only [w0,w1,w2,w3,go_sem,↓zA,↓reduceIte,↓reduceDIte];(try simp only [zB]);rfl)):SoundI Tryz.prog AQ m:=q0v mixed 600 m (Eq.mpr (e w0 w1 w2 w3) h)
theorem cy4[Ghost]{AQ:Ex→List SV→List SObj→Prop}{f:FuncId}{args:List SV}{s:SV}{d:Option Tmp}{m:IM}{a0 a1 a2 a3 q:Prop}(hp:PC Tryz.prog f args s)(w0:a0)(w1:a1)(w2:a2)(w3:a3)(h:q)(e:a0→a1→a2→a3→run Tryz.prog AQ 600 {m with tmps:=putT m.tmps d s}=q:=by (intro w0 w1 w2 w3;simp (maxSteps:=3000000) only [w0,w1,w2,w3,go_sem,↓zA,↓reduceIte,↓reduceDIte];(try simp only [zB]);rfl)):CallI Tryz.prog AQ f args d m:=q0a hp (q0v mixed 600 _ (Eq.mpr (e w0 w1 w2 w3) h))
theorem gyd4[Ghost]{AQ:Ex→List SV→List SObj→Prop}{m:IM}{a0 a1 a2 a3 q:Prop}(w0:a0)(w1:a1)(w2:a2)(w3:a3)(h:q)(e:a0→a1→a2→a3→run Tryz.prog AQ 600 m=q:=by (intro w0 w1 w2 w3;simp (maxSteps:=3000000) only [w0,w1,w2,w3,Ty.dflt,go_sem,↓zA,↓reduceIte,↓reduceDIte];(try simp only [zB]);rfl)):SoundI Tryz.prog AQ m:=q0v mixed 600 m (Eq.mpr (e w0 w1 w2 w3) h)
theorem ry5{f:FuncId}{fi:FI}{args:List SV}{K:Out→List SObj→Prop}{H:List SObj}{a0 a1 a2 a3 a4 q:Prop}(hf:finfo Tryz.prog f=some fi)(w0:a0)(w1:a1)(w2:a2)(w3:a3)(w4:a4)(h:q)(e:a0→a1→a2→a3→a4→run Tryz.prog (retF Tryz.prog fi.results K) 600 ⟨H.length,[.ic fi.code],args++List.replicate (fi.ntmps-args.length) .any,H⟩=q:=by (intro w0 w1 w2 w3 w4;simp (maxSteps:=3000000) only [w0,w1,w2,w3,w4,go_sem,↓zA,↓reduceIte,↓reduceDIte];(try simp only [zB]);rfl)):VC Tryz.prog f args H K:=q4r hf (q0v mixed 600 _ (Eq.mpr (e w0 w1 w2 w3 w4) h))
theorem gy8[Ghost]{AQ:Ex→List SV→List SObj→Prop}{m:IM}{a0 a1 a2 a3 a4 a5 a6 a7 q:Prop}(w0:a0)(w1:a1)(w2:a2)(w3:a3)(w4:a4)(w5:a5)(w6:a6)(w7:a7)(h:q)(e:a0→a1→a2→a3→a4→a5→a6→a7→run Tryz.prog AQ 600 m=q:=by (intro w0 w1 w2 w3 w4 w5 w6 w7;simp (maxSteps:=3000000) only [w0,w1,w2,w3,w4,w5,w6,w7,go_sem,↓zA,↓reduceIte,↓reduceDIte];(try simp only [zB]);rfl)):SoundI Tryz.prog AQ m:=q0v mixed 600 m (Eq.mpr (e w0 w1 w2 w3 w4 w5 w6 w7) h)
theorem gyd10[Ghost]{AQ:Ex→List SV→List SObj→Prop}{m:IM}{a0 a1 a2 a3 a4 a5 a6 a7 a8 a9 q:Prop}(w0:a0)(w1:a1)(w2:a2)(w3:a3)(w4:a4)(w5:a5)(w6:a6)(w7:a7)(w8:a8)(w9:a9)(h:q)(e:a0→a1→a2→a3→a4→a5→a6→a7→a8→a9→run Tryz.prog AQ 600 m=q:=by (intro w0 w1 w2 w3 w4 w5 w6 w7 w8 w9;simp (maxSteps:=3000000) only [w0,w1,w2,w3,w4,w5,w6,w7,w8,w9,Ty.dflt,go_sem,↓zA,↓reduceIte,↓reduceDIte];(try simp only [zB]);rfl)):SoundI Tryz.prog AQ m:=q0v mixed 600 m (Eq.mpr (e w0 w1 w2 w3 w4 w5 w6 w7 w8 w9) h)
abbrev I64:Ty:=.int .i64
abbrev PrinT:Ty:=.prod (.slice .str) .str
abbrev KeyT:Ty:=.prod I64 (.prod I64 (.slice .u8))
abbrev SetT:Ty:=.prod I64 (.prod (.slice KeyT) (.prod .str (.prod I64 I64)))
abbrev Prin:=PrinT.den
abbrev Key:=KeyT.den
abbrev KSet:=SetT.den
abbrev rI(n:Int):SV:=.raw (.int .i64 n)
abbrev rB(b:Bool):SV:=.raw (.bool b)
abbrev rS(s:ByteArray):SV:=.raw (.string s)
set_option maxHeartbeats 4000000
def allN(n:Nat)(q:Nat→Bool):Bool:=(List.range n).all q
theorem q2G{n:Nat}{q:Nat→Bool}:allN n q=true ↔ ∀j,j<n→q j=true:=by simp [allN]
theorem q0y{n i:Nat}{q:Nat→Bool}(h:i<n)(hq:q i=false):allN n q=false:=by
 rw [Bool.eq_false_iff];exact fun ha=>by rw [q2G.1 ha i h] at hq;cases hq
theorem q0B{n:Nat}{q:Nat→Bool}(h:∀j,j<n→q j=true):allN n q=true:=q2G.2 h
@[go_sem] def fnV(f:Nat):Value:=.func (.func f) #[] #[]
def name1:ByteArray:=⟨#[97,101,115,49,50,56,45,99,116,115,45,104,109,97,99,45,115,104,97,50,53,54,45,49,50,56]⟩
def name2:ByteArray:=⟨#[115,116,114,101,97,109,45,104,109,97,99,45,115,104,97,50,53,54,45,50,53,54]⟩
def kind1:List Value:=[.string name1,.int .i64 16,.int .i64 16,.int .i64 16,.int .i64 16,fnV 190,fnV 191,fnV 192]
attribute [go_sem] kind1
def kind2:List Value:=[.string name2,.int .i64 32,.int .i64 16,.int .i64 32,.int .i64 32,fnV 193,fnV 194,fnV 195]
attribute [go_sem] kind2
abbrev kindsM:SV:=.imap (some .i64) [.int .i64 1,.int .i64 2] [.agg kind1.toArray,.agg kind2.toArray]

theorem z6U:PC Tryz.prog 144 [] kindsM:=by
 refine q0w rfl rfl (j2b ?_);refine rQ fi144 ?_;exact ⟨_,_,[.agg kind1.toArray,.agg kind2.toArray],[],rfl,rfl⟩

def keyLen(p:Int):Int:=if p=1 then 16 else if p=2 then 32 else 0
def kindZ:List Value:=[.string ⟨#[]⟩,.int .i64 0,.int .i64 0,.int .i64 0,.int .i64 0,.nilFunc,.nilFunc,.nilFunc]
attribute [go_sem] kindZ
def kindOf(p:Int):List Value:=if p=1 then kind1 else if p=2 then kind2 else kindZ
def vKey(k:Key):Bool:=decide (keyLen k.1≠0) && (decide ((k.2.2.length:Int)=keyLen k.1) && (decide (0≤k.2.1) && decide (k.2.1≤65535)))
theorem j0L(k:Key):PC Tryz.prog 87 [.agg (KeyT.cells k)] (.tup [.agg (rawL (kindOf k.1)),rB (vKey k)]):=by
 obtain ⟨p,v,b⟩:=k;refine q0w rfl (by simp [SV.clean,SV.cleanL,q4v]) ?_
 refine rQ fi87 ?_;refine q0E z6U ?_;by_cases h1:p=1
 · subst h1;refine uQ 600 _ ?_;simp (maxSteps:=3000000) only [kind1,kindOf,vKey,keyLen,go_sem,↓zA,↓reduceIte,↓reduceDIte] <;>try simp only [zB]
   grind
 by_cases h2:p=2
 · subst h2;refine uQ 600 _ ?_;simp (maxSteps:=3000000) only [kind2,kindOf,vKey,keyLen,go_sem,↓zA,↓reduceIte,↓reduceDIte] <;>try simp only [zB]
   grind
 refine uQ 600 _ ?_;simp (maxSteps:=3000000) only [h1,h2,kindOf,kindZ,vKey,keyLen,go_sem,↓zA,↓reduceIte,↓reduceDIte] <;>try simp only [zB]
 grind
end Go.Proofs.YtmapiojgmbgbgaaGreatDoor
/-
  A world that has grown: 'w.more u' keeps every block of w; regions that draw their order, walked in one order; for whatever program.
-/
namespace Go
open Go.RowKit

def Gr(w w':World):Prop:=Below w.heap.size w w'

theorem Gr.refl(w:World):Gr w w:=Below.refl _ _
theorem Gr.trans{a b c:World}(h:Gr a b)(k:Gr b c):Gr a c:=Below.trans h (Below.mono k h.size)
theorem Gr.size{a b:World}(h:Gr a b):a.heap.size≤b.heap.size:=Below.size h
theorem Gr.cell{a b:World}(h:Gr a b){p:Addr}(hp:p.block<a.heap.size):b.cell? p=a.cell? p:=Below.cell h hp
theorem Gr.frozen{a b:World}(h:Gr a b){p:Addr}(hp:p.block<a.heap.size):b.frozen? p=a.frozen? p:=Below.frozen h hp
theorem Gr.block{a b:World}(h:Gr a b){k:Nat}(hk:k<a.heap.size):b.heap[k]?=a.heap[k]?:=Below.block h k hk
theorem Gr.alloc(w:World)(o:Obj):Gr w (w.alloc o):=(Below.refl _ _).alloc (Nat.le_refl _) _
theorem Gr.drew(w:World):Gr w w.drew:=(Below.refl _ _).drew
open Classical in
noncomputable def World.more(w u:World):World:=if Gr w u then u else w

section
variable {w u v:World}
theorem World.more_gr(w u:World):Gr w (w.more u):=by
  unfold World.more;split
  · assumption
  · exact Gr.refl w
theorem World.more_eq(h:Gr w u):w.more u=u:=by unfold World.more;rw [if_pos h]
theorem Gr.more(h:Gr w u):∃x,u=w.more x:=⟨u,(World.more_eq h).symm⟩
theorem World.size_more(w u:World):w.heap.size≤(w.more u).heap.size:=(World.more_gr w u).size
@[go_sem] theorem World.cell?_more(w u:World)(a:Addr)(h:a.block<w.heap.size):(w.more u).cell? a=w.cell? a:=(World.more_gr w u).cell h
@[go_sem] theorem World.frozen?_more(w u:World)(a:Addr)(h:a.block<w.heap.size):(w.more u).frozen? a=w.frozen? a:=(World.more_gr w u).frozen h
end

@[go_sem] theorem World.cell?_more_a1(w u:World)(o1:Obj)(b i:Nat)(h:b<w.heap.size):((w.alloc o1).more u).cell? ⟨b,i,none⟩=w.cell? ⟨b,i,none⟩:=by
  rw [World.cell?_more _ u ⟨b,i,none⟩ (by simp;omega)]
  rw [World.cell?_alloc_past _ _ _ h]
@[go_sem] theorem World.frozen?_more_a1(w u:World)(o1:Obj)(b i:Nat)(h:b<w.heap.size):((w.alloc o1).more u).frozen? ⟨b,i,none⟩=w.frozen? ⟨b,i,none⟩:=by
  rw [World.frozen?_more _ u ⟨b,i,none⟩ (by simp;omega)]
  rw [World.frozen?_alloc_past _ _ _ h]
@[go_sem] theorem World.cell?_more_a2(w u:World)(o1 o2:Obj)(b i:Nat)(h:b<w.heap.size):(((w.alloc o1).alloc o2).more u).cell? ⟨b,i,none⟩=w.cell? ⟨b,i,none⟩:=by
  rw [World.cell?_more _ u ⟨b,i,none⟩ (by simp;omega)]
  rw [World.cell?_alloc_past _ _ _ (by simp;omega),World.cell?_alloc_past _ _ _ h]
@[go_sem] theorem World.frozen?_more_a2(w u:World)(o1 o2:Obj)(b i:Nat)(h:b<w.heap.size):(((w.alloc o1).alloc o2).more u).frozen? ⟨b,i,none⟩=w.frozen? ⟨b,i,none⟩:=by
  rw [World.frozen?_more _ u ⟨b,i,none⟩ (by simp;omega)]
  rw [World.frozen?_alloc_past _ _ _ (by simp;omega),World.frozen?_alloc_past _ _ _ h]
@[go_sem] theorem World.cell?_more_a3(w u:World)(o1 o2 o3:Obj)(b i:Nat)(h:b<w.heap.size):((((w.alloc o1).alloc o2).alloc o3).more u).cell? ⟨b,i,none⟩=w.cell? ⟨b,i,none⟩:=by
  rw [World.cell?_more _ u ⟨b,i,none⟩ (by simp;omega)]
  rw [World.cell?_alloc_past _ _ _ (by simp;omega),World.cell?_alloc_past _ _ _ (by simp;omega),World.cell?_alloc_past _ _ _ h]
@[go_sem] theorem World.frozen?_more_a3(w u:World)(o1 o2 o3:Obj)(b i:Nat)(h:b<w.heap.size):((((w.alloc o1).alloc o2).alloc o3).more u).frozen? ⟨b,i,none⟩=w.frozen? ⟨b,i,none⟩:=by
  rw [World.frozen?_more _ u ⟨b,i,none⟩ (by simp;omega)]
  rw [World.frozen?_alloc_past _ _ _ (by simp;omega),World.frozen?_alloc_past _ _ _ (by simp;omega),World.frozen?_alloc_past _ _ _ h]
@[go_sem] theorem World.cell?_more_a4(w u:World)(o1 o2 o3 o4:Obj)(b i:Nat)(h:b<w.heap.size):(((((w.alloc o1).alloc o2).alloc o3).alloc o4).more u).cell? ⟨b,i,none⟩=w.cell? ⟨b,i,none⟩:=by
  rw [World.cell?_more _ u ⟨b,i,none⟩ (by simp;omega)]
  rw [World.cell?_alloc_past _ _ _ (by simp;omega),World.cell?_alloc_past _ _ _ (by simp;omega),World.cell?_alloc_past _ _ _ (by simp;omega),World.cell?_alloc_past _ _ _ h]
@[go_sem] theorem World.frozen?_more_a4(w u:World)(o1 o2 o3 o4:Obj)(b i:Nat)(h:b<w.heap.size):(((((w.alloc o1).alloc o2).alloc o3).alloc o4).more u).frozen? ⟨b,i,none⟩=w.frozen? ⟨b,i,none⟩:=by
  rw [World.frozen?_more _ u ⟨b,i,none⟩ (by simp;omega)]
  rw [World.frozen?_alloc_past _ _ _ (by simp;omega),World.frozen?_alloc_past _ _ _ (by simp;omega),World.frozen?_alloc_past _ _ _ (by simp;omega),World.frozen?_alloc_past _ _ _ h]
@[go_sem] theorem World.cell?_more_a5(w u:World)(o1 o2 o3 o4 o5:Obj)(b i:Nat)(h:b<w.heap.size):((((((w.alloc o1).alloc o2).alloc o3).alloc o4).alloc o5).more u).cell? ⟨b,i,none⟩=w.cell? ⟨b,i,none⟩:=by
  rw [World.cell?_more _ u ⟨b,i,none⟩ (by simp;omega)]
  rw [World.cell?_alloc_past _ _ _ (by simp;omega),World.cell?_alloc_past _ _ _ (by simp;omega),World.cell?_alloc_past _ _ _ (by simp;omega),World.cell?_alloc_past _ _ _ (by simp;omega),World.cell?_alloc_past _ _ _ h]
@[go_sem] theorem World.frozen?_more_a5(w u:World)(o1 o2 o3 o4 o5:Obj)(b i:Nat)(h:b<w.heap.size):((((((w.alloc o1).alloc o2).alloc o3).alloc o4).alloc o5).more u).frozen? ⟨b,i,none⟩=w.frozen? ⟨b,i,none⟩:=by
  rw [World.frozen?_more _ u ⟨b,i,none⟩ (by simp;omega)]
  rw [World.frozen?_alloc_past _ _ _ (by simp;omega),World.frozen?_alloc_past _ _ _ (by simp;omega),World.frozen?_alloc_past _ _ _ (by simp;omega),World.frozen?_alloc_past _ _ _ (by simp;omega),World.frozen?_alloc_past _ _ _ h]
@[go_sem] theorem World.cell?_more_a6(w u:World)(o1 o2 o3 o4 o5 o6:Obj)(b i:Nat)(h:b<w.heap.size):(((((((w.alloc o1).alloc o2).alloc o3).alloc o4).alloc o5).alloc o6).more u).cell? ⟨b,i,none⟩=w.cell? ⟨b,i,none⟩:=by
  rw [World.cell?_more _ u ⟨b,i,none⟩ (by simp;omega)]
  rw [World.cell?_alloc_past _ _ _ (by simp;omega),World.cell?_alloc_past _ _ _ (by simp;omega),World.cell?_alloc_past _ _ _ (by simp;omega),World.cell?_alloc_past _ _ _ (by simp;omega),World.cell?_alloc_past _ _ _ (by simp;omega),World.cell?_alloc_past _ _ _ h]
@[go_sem] theorem World.frozen?_more_a6(w u:World)(o1 o2 o3 o4 o5 o6:Obj)(b i:Nat)(h:b<w.heap.size):(((((((w.alloc o1).alloc o2).alloc o3).alloc o4).alloc o5).alloc o6).more u).frozen? ⟨b,i,none⟩=w.frozen? ⟨b,i,none⟩:=by
  rw [World.frozen?_more _ u ⟨b,i,none⟩ (by simp;omega)]
  rw [World.frozen?_alloc_past _ _ _ (by simp;omega),World.frozen?_alloc_past _ _ _ (by simp;omega),World.frozen?_alloc_past _ _ _ (by simp;omega),World.frozen?_alloc_past _ _ _ (by simp;omega),World.frozen?_alloc_past _ _ _ (by simp;omega),World.frozen?_alloc_past _ _ _ h]
@[go_sem] theorem nat_lt_size_more{a:Nat}(w u:World)(h:a<w.heap.size):(a< (w.more u).heap.size)=True:=eq_true (Nat.lt_of_lt_of_le h (World.size_more w u))

def stillUpon(w:World)(v:Value):Result Next→Prop
  |.ok (.value u) w'=>w'=w∧u=v
  |.ok .skip w'=>w'=w∧v=undef
  |_=>False
attribute [go_sem] stillUpon

section
variable {P:Program} {ops:Array Oper} {Q:Exit→Act→World→Prop} {md:Region.Mode} {C:World→Prop}

def NoPan(Q:Exit→Act→World→Prop):Exit→Act→World→Prop
  |.panic _,_,_=>False
  |e,a,w=>Q e a w
theorem NoPan.toQ{Q:Exit→Act→World→Prop}:∀ (e:Exit) (a:Act) (w:World),NoPan Q e a w→Q e a w:=fun e a w h=>by
  cases e<;>first|exact h|exact (h:False).elim

end
end Go

