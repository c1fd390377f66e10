/- The functions of the program in the compact form; the kernel checks each. -/
import Derived.Test.YthbcodbcndiapaaGreatDoorP9
set_option linter.all false
namespace Go.Proofs.YthbcodbcndiapaaGreatDoor
open Go Go.Sx Go.Proofs
set_option maxRecDepth 100000
abbrev Fi3(n:Nat)(i:FI):Prop:=finfo Tryz.prog n=some i
def ir225:FI:=⟨52,[],(.seq (qR [lD 9 1,lN 10 true 9,bC 11 .eql 10 0] (.cond (T 11) (.seq (.blk 0 (.loop (.seq (qR [lD 12 2,lN 13 true 12,bC 14 .gtr 13 0] (cE 14 0)) (.blk 1 (qR [lD 16 2,c1 17 226 16,mv 15 17,ex 18 0 15,ex 19 1 15,mv 5 18,mv 6 19] (.seq (qR [mv 20 0,lD 21 2,mv 22 6,o1 23 (.sl none (T 21) none (some (T 22))),o1 24 (.call (T 20) [(T 23)]),nT 25 24] (.cond (T 25) .ret .skip)) (.reg [lD 26 2,mv 27 6,o1 28 (.sl none (T 26) (some (T 27)) none),sT 1 2 28]))))))) .ret) .skip)) (.seq (.blk 2 (.loop (.blk 3 (qR [lD 29 2,lD 30 1,c2 31 227 29 30,mv 7 31] (.seq (qR [mv 32 7,bC 33 .lss 32 0] (.cond (T 33) (.exit 2) .skip)) (qR [lD 34 2,mv 35 7,lD 36 3,bN 37 .add 0 35 36,o1 38 (.sl none (T 34) none (some (T 37))),mv 8 38] (.seq (qR [mv 39 0,mv 40 8,o1 41 (.call (T 39) [(T 40)]),nT 42 41] (.cond (T 42) .ret .skip)) (.reg [lD 43 2,mv 44 7,lD 45 1,lN 46 true 45,bN 47 .add 0 44 46,o1 48 (.sl none (T 43) (some (T 47)) none),sT 1 2 48])))))))) (.reg [mv 49 0,lD 50 2,o1 51 (.call (T 49) [(T 50)])])))⟩
def fi225:Fi3 225 ir225:=by delta Fi3;kernel_rfl
def ir227:FI:=⟨8,[.tmp 4],(qR [mI 4 0] (qR [mv 5 0,mv 6 1,c2 7 240 5 6,mv 4 7] .ret))⟩
def fi227:Fi3 227 ir227:=by delta Fi3;kernel_rfl
def ir228:FI:=⟨47,[.tmp 6,.tmp 7],(qR [o1 6 (.mov kS),mI 7 0] (.seq (qR [mv 15 0,mv 16 1,c2 17 241 15 16,mv 14 17,ex 18 0 14,ex 19 1 14,o1 8 (.new 256 [(.pointer none),zs]),sT 2 8 18,mv 9 19] (qR [mv 20 9,bC 21 .neq 20 0] (.cond (T 21) (qR [mv 22 9,o1 6 (.mov kS),mv 7 22] .ret) .skip))) (.seq (qR [mv 23 2,c1 24 242 23,mv 10 24] (qR [mv 25 10,bC 26 .neq 25 0] (.cond (T 26) (qR [mv 27 10,o1 6 (.mov kS),mv 7 27] .ret) .skip))) (qR [o1 11 (.new 65 [zs])] (.seq (qR [mv 28 0,mv 29 1,mv 30 2,c1 31 244 30,c3 32 243 28 29 31] (.blk 0 (.rf (T 32) #[33] (.reg [mv 12 33]) (.blk 1 (.reg [lD 34 11,mv 35 12,o1 36 (.bsl (.slice .u8) 1 1 [zs] [(0,(T 35))]),o1 37 (.app (.slice .u8) 24 (T 34) (T 36)),sT 1 11 37]))))) (qR [o1 38 (.mkf 245 [] [(T 11)]),mv 13 38] (qR [mv 39 13,o1 40 (.call (T 39) [])] (qR [lD 41 11,o1 42 (.call (.func 246) [(T 41),kS]),mv 43 2,lN 44 false 43,o1 45 (.sl (some 1) (T 42) none (some (T 44))),c1 46 105 45,mv 6 46,mI 7 0] .ret))))))))⟩
def fi228:Fi3 228 ir228:=by delta Fi3;kernel_rfl
def ir229:FI:=⟨65,[.tmp 6,.tmp 7],(qR [o1 5 (.box 25 (T 2)),o1 6 (.mov kS),mI 7 0] (qR [mv 19 0,mv 20 1,c2 21 241 19 20,mv 18 21,ex 22 0 18,ex 23 1 18,o1 8 (.new 256 [(.pointer none),zs]),sT 2 8 22,mv 9 23] (.seq (qR [mv 24 9,bC 25 .neq 24 0] (.cond (T 25) (qR [mv 26 9,o1 6 (.mov kS),mv 7 26] .ret) .skip)) (.seq (qR [lD 27 5,c1 28 242 27,mv 10 28] (qR [mv 29 10,bC 30 .neq 29 0] (.cond (T 30) (qR [mv 31 10,o1 6 (.mov kS),mv 7 31] .ret) .skip))) (qR [o1 11 (.new 65 [zs])] (.seq (qR [lD 32 5,c1 33 244 32] (.blk 0 (.rf (T 33) #[34] (.reg [mv 12 34]) (.blk 1 (.reg [lD 35 11,mv 36 12,o1 37 (.bsl (.slice .u8) 1 1 [zs] [(0,(T 36))]),o1 38 (.app (.slice .u8) 24 (T 35) (T 37)),sT 1 11 38]))))) (qR [o1 39 (.mkf 247 [] [(T 11),(T 5),(T 8)]),mv 13 39] (qR [mv 40 13,o1 41 (.call (T 40) [])] (qR [o1 14 (.mov kS)] (qR [fA 42 1 8,lD 43 42,mv 15 43] (.seq (qR [lD 44 11,lN 45 false 44,mI 46 0] (.blk 2 (.loop (qR [bN 47 .lss 0 46 45] (.seq (cE 47 2) (.seq (.blk 3 (qR [iA 48 1 44 46,lD 49 48,mv 17 49] (qR [mv 50 14,lG 51 2 8,o1 52 (.mke 256 "Decrypt"),mv 53 17,c3 54 248 51 52 53,mv 55 15,c2 56 250 54 55,o1 57 (.app .u8 1 (T 50) (T 56)),mv 14 57] (.reg [mv 58 17,mv 15 58])))) (.reg [aI 59 46,mv 46 59]))))))) (qR [mv 60 14,lD 61 5,lN 62 false 61,o1 63 (.sl (some 1) (T 60) none (some (T 62))),c1 64 105 63,mv 6 64,mI 7 0] .ret))))))))))))⟩
def fi229:Fi3 229 ir229:=by delta Fi3;kernel_rfl
def ir230:FI:=⟨14,[.tmp 4],(qR [o1 4 (.mov kS)] (qR [mv 8 0,mv 9 1,c2 10 233 8 9,mv 7 10,ex 11 0 7,ex 12 1 7,o1 5 (.arr .u8 32),sT 32 5 11,mv 6 12] (qR [o1 13 (.sla 32 1 (T 5) none none),mv 4 13] .ret)))⟩
def fi230:Fi3 230 ir230:=by delta Fi3;kernel_rfl
def ir232:FI:=⟨15,[],(qR [mI 3 1] (.blk 0 (.loop (.seq (.blk 1 (qR [lD 7 1,mv 8 3,o1 9 (.call (T 7) [(T 8)]),o1 4 (.arr .u8 32),sT 32 4 9] (qR [mv 10 0,mv 11 3,o1 12 (.sla 32 1 (T 4) none none),o1 13 (.call (T 10) [(T 11),(T 12)]),nT 14 13] (.cond (T 14) .ret .skip)))) (.reg [mv 5 3,aI 6 5,mv 3 6])))))⟩
def fi232:Fi3 232 ir232:=by delta Fi3;kernel_rfl
def ir233:FI:=⟨33,[.cell 4 234,.tmp 5],(qR [o1 4 (.arr .u8 32),mI 5 0] (qR [mv 11 0,c1 12 251 11,mv 10 12,ex 13 0 10,ex 14 1 10,mv 6 13,mv 7 14] (.seq (qR [mv 15 7,bC 16 .neq 15 0] (.cond (T 16) (qR [o1 17 (.bdd (.arr 32 .u8) (.arr 1) []),mv 18 7,sT 32 4 17,mv 5 18] .ret) .skip)) (.seq (qR [mv 19 1,lN 20 false 19,mI 21 0] (.blk 0 (.loop (qR [bN 22 .lss 0 21 20] (.seq (cE 22 0) (.seq (.blk 1 (qR [iA 23 1 19 21,lD 24 23,mv 9 24] (.reg [mv 25 6,mv 26 9,c2 27 252 25 26]))) (.reg [aI 28 21,mv 21 28]))))))) (qR [mv 29 6,c1 30 253 29,ex 31 0 30,ex 32 1 30,sT 32 4 31,mv 5 32] .ret)))))⟩
def fi233:Fi3 233 ir233:=by delta Fi3;kernel_rfl
def ir234:FI:=⟨15,[.tmp 2],(qR [o1 2 (.mov kS)] (qR [mv 3 0,o1 4 (.bin .shr 0 (T 3) (.const (.int .u64 24))),o1 5 (.toInt .u8 (T 4)),mv 6 0,o1 7 (.bin .shr 0 (T 6) (.const (.int .u64 16))),o1 8 (.toInt .u8 (T 7)),mv 9 0,o1 10 (.bin .shr 0 (T 9) (.const (.int .u64 8))),o1 11 (.toInt .u8 (T 10)),mv 12 0,o1 13 (.toInt .u8 (T 12)),o1 14 (.bsl .u8 4 1 [(.int .u8 0),(.int .u8 0),(.int .u8 0),(.int .u8 0)] [(0,(T 5)),(1,(T 8)),(2,(T 11)),(3,(T 13))]),mv 2 14] .ret))⟩
def fi234:Fi3 234 ir234:=by delta Fi3;kernel_rfl
def ir241:FI:=⟨22,[.cell 4 256,.tmp 5],(qR [o1 4 (.new 256 [(.pointer none),zs]),mI 5 0] (.seq (qR [mv 8 1,lN 9 false 8,bC 10 .neq 9 16] (.cond (T 10) (qR [o1 11 (.bld [(.pointer none),zs] (.fields [(0,1),(1,1)]) []),sT 2 4 11,mI 5 2] .ret) .skip)) (qR [mv 13 0,c1 14 261 13,mv 12 14,ex 15 0 12,ex 16 1 12,mv 6 15,mv 7 16] (qR [mv 17 6,mv 18 1,c1 19 105 18,o1 20 (.bld [(.pointer none),zs] (.fields [(0,1),(1,1)]) [(0,(T 17)),(1,(T 19))]),mv 21 7,sT 2 4 20,mv 5 21] .ret))))⟩
def fi241:Fi3 241 ir241:=by delta Fi3;kernel_rfl
def ir242:FI:=⟨11,[.tmp 2],(qR [mI 2 0] (.seq (.blk 0 (qR [mv 4 0,lN 5 false 4,bC 6 .lss 5 16,mv 3 6] (.cond (T 3) (qR [mI 2 4] .ret) (qR [mv 8 0,lN 9 false 8,bC 10 .gtr 9 131072,mv 7 10] (.cond (T 7) (qR [mI 2 5] .ret) .skip))))) (qR [mI 2 0] .ret)))⟩
def fi242:Fi3 242 ir242:=by delta Fi3;kernel_rfl
def ir243:FI:=⟨16,[.tmp 6],(qR [o1 5 (.box 261 (T 2)),o1 6 (.mov (.const .nilFunc))] (qR [mv 10 0,mv 11 1,c2 12 241 10 11,mv 9 12,ex 13 0 9,ex 14 1 9,o1 7 (.new 256 [(.pointer none),zs]),o1 8 (.new 33 [zi]),sT 2 7 13,sT 1 8 14] (qR [o1 15 (.mkf 262 [] [(T 8),(T 5),(T 7)]),mv 6 15] .ret)))⟩
def fi243:Fi3 243 ir243:=by delta Fi3;kernel_rfl
def ir244:FI:=⟨4,[.tmp 2],(qR [o1 1 (.box 25 (T 0)),o1 2 (.mov (.const .nilFunc))] (qR [o1 3 (.mkf 265 [] [(T 1)]),mv 2 3] .ret))⟩
def fi244:Fi3 244 ir244:=by delta Fi3;kernel_rfl
def ir245:FI:=⟨24,[],(qR [lD 2 0,lN 3 false 2,mv 1 3] (qR [mv 4 1,bC 5 .gtr 4 1] (.cond (T 5) (.drw [tt (lD 6 0),tt (mv 7 1),tt (bC 8 .sub 7 2),tt (mv 10 1),tt (bC 11 .sub 10 1),tt (lD 12 0),tt (mv 13 1),tt (bC 14 .sub 13 1),tt (iA 15 1 12 14),tt (lD 16 15),tt (lD 17 0),tt (mv 18 1),tt (bC 19 .sub 18 2),tt (iA 20 1 17 19),tt (lD 21 20),tt (iA 22 1 6 8),tt (o1 9 (.ldS none (T 0))),ft (sT 1 22 16),tt (iA 23 1 9 11),ft (sT 1 23 21)]) .skip)))⟩
def fi245:Fi3 245 ir245:=by delta Fi3;kernel_rfl
def ir246:FI:=⟨92,[.tmp 4],(qR [o1 4 (.mov kS)] (.seq (qR [mv 12 0,lN 13 false 12,bC 14 .eql 13 0] (.cond (T 14) (qR [o1 15 (.bsl .u8 0 1 [] []),mv 4 15] .ret) .skip)) (.seq (qR [mv 16 0,lN 17 false 16,bC 18 .eql 17 1] (.cond (T 18) (qR [mv 19 0,o1 20 (.ia 1 (T 19) (ci 0)),lD 21 20,o1 22 (.app .u8 1 kS (T 21)),mv 4 22] .ret) .skip)) (qR [mI 5 0] (.seq (qR [mv 23 1,lN 24 false 23,bC 25 .gtr 24 0] (.cond (T 25) (.seq (qR [mv 26 1,lN 27 false 26,mv 28 0,lN 29 false 28,bC 30 .sub 29 1,o1 31 (.bin .quo 0 (ci 9223372036854775807) (T 30)),bN 32 .geq 0 27 31] (.cond (T 32) (.reg [o1 33 (.mki 9 (.const (.string ⟨#[98,121,116,101,115,58,32,74,111,105,110,32,111,117,116,112,117,116,32,108,101,110,103,116,104,32,111,118,101,114,102,108,111,119]⟩))),o0 (.pan (T 33))]) .skip)) (.reg [mv 34 5,mv 35 1,lN 36 false 35,mv 37 0,lN 38 false 37,bC 39 .sub 38 1,bN 40 .mul 0 36 39,bN 41 .add 0 34 40,mv 5 41])) .skip)) (.seq (qR [mv 42 0,lN 43 false 42,mI 44 0] (.blk 0 (.loop (qR [bN 45 .lss 0 44 43] (.seq (cE 45 0) (.seq (.blk 1 (qR [iA 46 1 42 44,lD 47 46,mv 7 47] (.seq (qR [mv 48 7,lN 49 false 48,mv 50 5,o1 51 (.bin .sub 0 (ci 9223372036854775807) (T 50)),bN 52 .gtr 0 49 51] (.cond (T 52) (.reg [o1 53 (.mki 9 (.const (.string ⟨#[98,121,116,101,115,58,32,74,111,105,110,32,111,117,116,112,117,116,32,108,101,110,103,116,104,32,111,118,101,114,102,108,111,119]⟩))),o0 (.pan (T 53))]) .skip)) (.reg [mv 54 5,mv 55 7,lN 56 false 55,bN 57 .add 0 54 56,mv 5 57])))) (.reg [aI 58 44,mv 44 58]))))))) (qR [mv 59 5,c1 60 266 59,mv 61 5,mv 62 5,o1 63 (.sl3 1 false (T 60) none (T 61) (T 62)),mv 8 63] (qR [mv 64 8,mv 65 0,o1 66 (.ia 1 (T 65) (ci 0)),lD 67 66,o1 68 (.cpy 1 (T 64) (T 67)),mv 9 68] (.seq (qR [mv 69 0,o1 70 (.sl (some 1) (T 69) (some (ci 1)) none),lN 71 false 70,mI 72 0] (.blk 2 (.loop (qR [bN 73 .lss 0 72 71] (.seq (cE 73 2) (.seq (.blk 3 (qR [iA 74 1 70 72,lD 75 74,mv 11 75] (qR [mv 76 9,mv 77 8,mv 78 9,o1 79 (.sl (some 1) (T 77) (some (T 78)) none),mv 80 1,o1 81 (.cpy 1 (T 79) (T 80)),bN 82 .add 0 76 81,mv 9 82] (.reg [mv 83 9,mv 84 8,mv 85 9,o1 86 (.sl (some 1) (T 84) (some (T 85)) none),mv 87 11,o1 88 (.cpy 1 (T 86) (T 87)),bN 89 .add 0 83 88,mv 9 89])))) (.reg [aI 90 72,mv 72 90]))))))) (qR [mv 91 8,mv 4 91] .ret))))))))))⟩
def fi246:Fi3 246 ir246:=by delta Fi3;kernel_rfl
def ir247:FI:=⟨49,[],(qR [lD 8 0,lN 9 false 8,mv 3 9] (.seq (qR [mv 10 3,bC 11 .eql 10 1] (.cond (T 11) .ret .skip)) (qR [lD 12 0,mv 13 3,bC 14 .sub 13 2,iA 15 1 12 14,lD 16 15,mv 4 16] (qR [lD 17 1,lN 18 false 17,mv 19 3,bC 20 .sub 19 1,o1 21 (.bin .mul 0 (ci 16) (T 20)),bN 22 .sub 0 18 21,mv 5 22] (qR [lG 23 2 2,o1 24 (.mke 256 "Decrypt"),mv 25 4,c3 26 248 23 24 25,mv 6 26] (.seq (.drw [tt (lD 27 0),tt (mv 28 3),tt (bC 29 .sub 28 1),tt (iA 30 1 27 29),tt (lD 31 30),tt (mv 32 5),tt (mv 33 5),tt (o1 34 (.sl3 1 false (T 31) none (T 32) (T 33))),tt (mv 35 6),tt (mv 36 5),tt (o1 37 (.sl (some 1) (T 35) (some (T 36)) none)),ft (o1 38 (.app .u8 1 (T 34) (T 37))),tt (mv 7 38)]) (.drw [tt (lD 39 0),tt (mv 40 3),tt (bC 41 .sub 40 2),tt (mv 43 3),tt (bC 44 .sub 43 1),tt (mv 45 7),tt (mv 46 4),tt (iA 47 1 39 41),tt (o1 42 (.ldS none (T 0))),ft (sT 1 47 45),tt (iA 48 1 42 44),ft (sT 1 48 46)])))))))⟩
def fi247:Fi3 247 ir247:=by delta Fi3;kernel_rfl
def ir248:FI:=⟨17,[.tmp 6],(qR [o1 3 (.box 256 (T 0)),o1 6 (.mov kS)] (qR [mv 10 1,lG 11 2 3,mv 12 2,o1 13 (.call (T 10) [(T 11),(T 12)]),mv 9 13,ex 14 0 9,ex 15 1 9,mv 7 14,mv 8 15] (qR [mv 16 7,mv 6 16] .ret)))⟩
def fi248:Fi3 248 ir248:=by delta Fi3;kernel_rfl
def ir249:FI:=⟨67,[.tmp 4,.tmp 5],(qR [o1 4 (.mov kS),mI 5 0] (.seq (qR [mv 11 0,mv 12 1,c2 13 267 11 12,mv 6 13] (qR [mv 14 6,bC 15 .neq 14 0] (.cond (T 15) (qR [mv 16 6,o1 4 (.mov kS),mv 5 16] .ret) .skip))) (qR [mv 17 0,mv 18 1,o1 19 (.s2a 16 (T 18)),lG 20 16 19,o1 21 (.bdd (.prod (.ptr (.prod (.prod (.arr 256 .u8) (.arr 256 .u8)) (.prod (.arr 176 .u8) .bool))) (.prod (.arr 16 .u8) (.arr 16 .u8))) (.fields [(0,1),(1,16),(17,16)]) [(0,(T 17)),(1,(T 20))]),o1 22 (.box 286 (T 21)),o1 7 (.new 282 [(.pointer none)]),sT 1 7 22] (qR [lD 23 7,o1 24 (.mkf 268 [(T 23)] []),lD 25 7,o1 26 (.mkf 269 [(T 25)] []),lD 27 7,o1 28 (.mkf 270 [(T 27)] []),lD 29 7,o1 30 (.mkf 271 [(T 29)] []),o1 31 (.bsf 1 4 [.nilFunc,.nilFunc,.nilFunc,.nilFunc] [(0,(T 24)),(1,(T 26)),(2,(T 28)),(3,(T 30))]),o1 8 (.new 287 [zs]),sT 1 8 31] (.seq (qR [mv 32 0,o1 33 (.call (.func 272) [(T 32),kT])] (.blk 0 (.rf (T 33) #[34,35] (qR [mv 9 34] (.reg [o1 10 (.arr .u8 16),sT 16 10 35])) (.blk 1 (qR [lD 36 7,lG 37 16 10,nL 38 36,fA 39 17 38,sT 16 39 37] (qR [mv 40 9] (.blk 2 (qR [bC 45 .eql 40 0,mv 44 45] (.cond (T 44) (.reg [lD 46 7,lD 47 7,o1 48 (.mkf 268 [(T 47)] []),o1 49 (.bsf 1 1 [.nilFunc] [(0,(T 48))]),c2 50 273 46 49]) (qR [bC 52 .eql 40 10,mv 51 52] (.cond (T 51) (.reg [lD 53 7,lD 54 7,o1 55 (.mkf 268 [(T 54)] []),lD 56 7,o1 57 (.mkf 270 [(T 56)] []),lD 58 7,o1 59 (.mkf 271 [(T 58)] []),o1 60 (.bsf 1 3 [.nilFunc,.nilFunc,.nilFunc] [(0,(T 55)),(1,(T 57)),(2,(T 59))]),c2 61 273 53 60]) (.reg [lD 41 7,lD 42 8,c2 43 273 41 42])))))))))))) (qR [lD 62 7,nL 63 62,fA 64 1 63,o1 65 (.sla 16 1 (T 64) none none),c1 66 105 65,mv 4 66,mI 5 0] .ret))))))⟩
def fi249:Fi3 249 ir249:=by delta Fi3;kernel_rfl
def ir250:FI:=⟨26,[.tmp 4],(qR [o1 4 (.mov kS)] (qR [mv 7 0,c1 8 105 7,mv 5 8] (.seq (qR [mv 9 5,lN 10 false 9,mI 11 0] (.blk 0 (.loop (qR [bN 12 .lss 0 11 10] (.seq (cE 12 0) (.seq (.blk 1 (qR [mv 13 11,mv 6 13] (.drw [tt (mv 14 5),tt (mv 15 6),tt (iA 16 1 14 15),tt (lD 17 16),tt (mv 18 1),tt (mv 19 6),tt (iA 20 1 18 19),tt (lD 21 20),tt (bN 22 .xor 0 17 21),tt (iA 23 1 14 15),ft (sT 1 23 22)]))) (.reg [aI 24 11,mv 11 24]))))))) (qR [mv 25 5,mv 4 25] .ret))))⟩
def fi250:Fi3 250 ir250:=by delta Fi3;kernel_rfl
def ir251:FI:=⟨38,[.tmp 2,.tmp 3],(qR [o1 2 (.mov (.const (.pointer none))),mI 3 0] (.seq (qR [mv 8 0,lN 9 false 8,bC 10 .gtr 9 4096] (.cond (T 10) (qR [o1 2 (.mov (.const (.pointer none))),mI 3 2] .ret) .skip)) (qR [o1 4 (.arr .u8 64)] (.seq (qR [mv 11 0,lN 12 false 11,bC 13 .gtr 12 64] (.cond (T 13) (qR [mv 14 0,c1 15 274 14,o1 5 (.arr .u8 32),sT 32 5 15] (.drw [tt (o1 16 (.sla 64 1 (T 4) none none)),tt (o1 17 (.sla 32 1 (T 5) none none)),ft (o1 18 (.cpy 1 (T 16) (T 17)))])) (.reg [o1 19 (.sla 64 1 (T 4) none none),mv 20 0,o1 21 (.cpy 1 (T 19) (T 20))]))) (qR [o1 22 (.mkf 275 [] [(T 4)]),mv 6 22] (qR [mv 23 6,o1 24 (.call (T 23) [(.const (.int .u8 92))]),mv 25 6,o1 26 (.call (T 25) [(.const (.int .u8 54))]),o1 27 (.bdd (.prod (.arr 64 .u8) (.arr 64 .u8)) (.fields [(0,64),(64,64)]) [(0,(T 24)),(1,(T 26))]),o1 28 (.bdd (.prod (.prod (.arr 64 .u8) (.arr 64 .u8)) (.prod (.prod (.arr 8 (.int .u32)) (.prod (.arr 64 .u8) (.int .i64))) .bool)) (.fields [(0,128),(128,73),(201,1)]) [(0,(T 27)),(2,kT)]),o1 29 (.box 302 (T 28)),mv 7 29] (qR [mv 30 7,mv 31 7,nL 32 31,fA 33 0 32,c1 34 276 33,nL 35 30,fA 36 128 35,sT 73 36 34] (qR [mv 37 7,mv 2 37,mI 3 0] .ret))))))))⟩
def fi251:Fi3 251 ir251:=by delta Fi3;kernel_rfl
def ir252:FI:=⟨19,[.tmp 4],(qR [mI 4 0] (.seq (qR [mv 5 0,o1 6 (.bin .eql 1 (T 5) (.const (.pointer none))),mv 7 6,vF 8 0 7,oF 9 (.nil (T 8)) 7,fF 10 201 9 7,lF 11 10 7,oF 12 (.un .not (T 11)) 7,pT 13 7 12] (.cond (T 13) (qR [mI 4 1] .ret) .skip)) (qR [mv 14 0,nL 15 14,fA 16 128 15,mv 17 1,c2 18 277 16 17,mv 4 18] .ret)))⟩
def fi252:Fi3 252 ir252:=by delta Fi3;kernel_rfl
def ir253:FI:=⟨22,[.cell 2 234,.tmp 3],(qR [o1 2 (.arr .u8 32),mI 3 0] (.seq (qR [mv 4 0,o1 5 (.bin .eql 1 (T 4) (.const (.pointer none))),mv 6 5,vF 7 0 6,oF 8 (.nil (T 7)) 6,fF 9 201 8 6,lF 10 9 6,oF 11 (.un .not (T 10)) 6,pT 12 6 11] (.cond (T 12) (qR [o1 13 (.bdd (.arr 32 .u8) (.arr 1) []),sT 32 2 13,mI 3 1] .ret) .skip)) (.seq (.drw [tt (mv 14 0),tt (nL 15 14),tt (fA 16 0 15),tt (mv 17 0),tt (nL 18 17),tt (fA 19 128 18),ft (c1 20 279 19),ft (c2 21 278 16 20),ft (sT 32 2 21),tt (mI 3 0)]) .ret)))⟩
def fi253:Fi3 253 ir253:=by delta Fi3;kernel_rfl
def ir261:FI:=⟨18,[.tmp 2,.tmp 3],(qR [o1 2 (.mov (.const (.pointer none))),mI 3 0] (.seq (qR [mv 5 0,lN 6 false 5,bC 7 .neq 6 16] (.cond (T 7) (qR [o1 2 (.mov (.const (.pointer none))),mI 3 2] .ret) .skip)) (qR [o1 8 (.bdd (.prod (.prod (.arr 256 .u8) (.arr 256 .u8)) (.prod (.arr 176 .u8) .bool)) (.fields [(0,512),(512,176),(688,1)]) [(2,kT)]),o1 9 (.box 312 (T 8)),mv 4 9] (qR [mv 10 4,nL 11 10,fA 12 0 11,c1 13 282 12] (qR [mv 14 4,mv 15 0,c2 16 283 14 15] (qR [mv 17 4,mv 2 17,mI 3 0] .ret))))))⟩
def fi261:Fi3 261 ir261:=by delta Fi3;kernel_rfl
def ir262:FI:=⟨18,[],(qR [o1 4 (.box 281 (T 0))] (.seq (qR [lD 7 1,bC 8 .neq 7 0,mv 9 8,lF 10 2 9,oF 11 (.bin .eql 2 (T 10) (.const .nilFunc)) 9,pT 12 9 11] (.cond (T 12) .ret .skip)) (qR [fA 13 1 3,lD 14 13,o1 5 (.new 25 [zs]),o1 6 (.new 4 [(.bool false)]),sT 1 5 14,o0 (.st 1 (T 6) kF)] (qR [lD 15 2,o1 16 (.mkf 263 [] [(T 6),(T 3),(T 5),(T 4)]),o1 17 (.call (T 15) [(T 16)])] (.reg [o0 (.st 1 (T 6) kT)])))))⟩
def fi262:Fi3 262 ir262:=by delta Fi3;kernel_rfl
def ir263:FI:=⟨26,[.tmp 6],(qR [o1 6 (.mov kF)] (.seq (qR [lD 7 1,mv 8 7,vF 9 0 8,oF 10 (.len false (T 9)) 8,oF 11 (.bin .neq 0 (T 10) (ci 16)) 8,pT 12 8 11] (.cond (T 12) (qR [o0 (.st 1 (T 1) kT)] (qR [o1 6 (.mov kF)] .ret)) .skip)) (.seq (.drw [tt (lG 13 2 2),tt (o1 14 (.mke 256 "Encrypt")),tt (lD 15 3),tt (mv 16 0),ft (c2 17 250 15 16),ft (c3 18 248 13 14 17),ft (sT 1 3 18)]) (.seq (.drw [tt (lD 19 4),tt (lD 20 3),ft (c1 21 105 20),ft (o1 22 (.call (T 19) [(T 21)])),tt (nT 23 22),ft (sT 1 1 23)]) (qR [lD 24 1,nT 25 24,mv 6 25] .ret)))))⟩
def fi263:Fi3 263 ir263:=by delta Fi3;kernel_rfl
def ir264:FI:=⟨67,[.tmp 4,.tmp 5],(qR [o1 4 (.mov kS),mI 5 0] (.seq (qR [mv 11 0,mv 12 1,c2 13 267 11 12,mv 6 13] (qR [mv 14 6,bC 15 .neq 14 0] (.cond (T 15) (qR [mv 16 6,o1 4 (.mov kS),mv 5 16] .ret) .skip))) (qR [mv 17 0,mv 18 1,o1 19 (.s2a 16 (T 18)),lG 20 16 19,o1 21 (.bdd (.prod (.ptr (.prod (.prod (.arr 256 .u8) (.arr 256 .u8)) (.prod (.arr 176 .u8) .bool))) (.prod (.arr 16 .u8) (.arr 16 .u8))) (.fields [(0,1),(1,16),(17,16)]) [(0,(T 17)),(1,(T 20))]),o1 22 (.box 286 (T 21)),o1 7 (.new 282 [(.pointer none)]),sT 1 7 22] (qR [lD 23 7,o1 24 (.mkf 284 [(T 23)] []),lD 25 7,o1 26 (.mkf 285 [(T 25)] []),lD 27 7,o1 28 (.mkf 286 [(T 27)] []),lD 29 7,o1 30 (.mkf 268 [(T 29)] []),o1 31 (.bsf 1 4 [.nilFunc,.nilFunc,.nilFunc,.nilFunc] [(0,(T 24)),(1,(T 26)),(2,(T 28)),(3,(T 30))]),o1 8 (.new 287 [zs]),sT 1 8 31] (.seq (qR [mv 32 0,o1 33 (.call (.func 272) [(T 32),kF])] (.blk 0 (.rf (T 33) #[34,35] (qR [mv 9 34] (.reg [o1 10 (.arr .u8 16),sT 16 10 35])) (.blk 1 (qR [lD 36 7,lG 37 16 10,nL 38 36,fA 39 17 38,sT 16 39 37] (qR [mv 40 9] (.blk 2 (qR [bC 45 .eql 40 0,mv 44 45] (.cond (T 44) (.reg [lD 46 7,lD 47 7,o1 48 (.mkf 268 [(T 47)] []),o1 49 (.bsf 1 1 [.nilFunc] [(0,(T 48))]),c2 50 273 46 49]) (qR [bC 52 .eql 40 10,mv 51 52] (.cond (T 51) (.reg [lD 53 7,lD 54 7,o1 55 (.mkf 284 [(T 54)] []),lD 56 7,o1 57 (.mkf 285 [(T 56)] []),lD 58 7,o1 59 (.mkf 268 [(T 58)] []),o1 60 (.bsf 1 3 [.nilFunc,.nilFunc,.nilFunc] [(0,(T 55)),(1,(T 57)),(2,(T 59))]),c2 61 273 53 60]) (.reg [lD 41 7,lD 42 8,c2 43 273 41 42])))))))))))) (qR [lD 62 7,nL 63 62,fA 64 1 63,o1 65 (.sla 16 1 (T 64) none none),c1 66 105 65,mv 4 66,mI 5 0] .ret))))))⟩
def fi264:Fi3 264 ir264:=by delta Fi3;kernel_rfl
def ir265:FI:=⟨34,[],(qR [mI 3 0] (.blk 0 (.loop (.seq (qR [mv 6 3,lD 7 1,lN 8 false 7,bN 9 .lss 0 6 8] (cE 9 0)) (.seq (.blk 1 (qR [mv 12 3,bC 13 .add 12 16,lD 14 1,lN 15 false 14,o1 16 (.mxm false (T 13) (T 15)),mv 4 16] (qR [lD 17 1,mv 18 3,mv 19 4,mv 20 4,o1 21 (.sl3 1 false (T 17) (some (T 18)) (T 19) (T 20)),mv 5 21] (.seq (qR [mv 22 5,lN 23 false 22,bC 24 .lss 23 16] (.cond (T 24) (.reg [mv 25 5,mv 26 5,lN 27 false 26,o1 28 (.bin .sub 0 (ci 16) (T 27)),o1 29 (.apz .u8 1 (T 25) (T 28)),mv 5 29]) .skip)) (qR [mv 30 0,mv 31 5,o1 32 (.call (T 30) [(T 31)]),nT 33 32] (.cond (T 33) .ret .skip)))))) (.reg [mv 10 3,bC 11 .add 10 16,mv 3 11]))))))⟩
def fi265:Fi3 265 ir265:=by delta Fi3;kernel_rfl
def ir267:FI:=⟨17,[.tmp 4],(qR [mI 4 0] (.seq (qR [mv 5 0,o1 6 (.bin .eql 1 (T 5) (.const (.pointer none))),mv 7 6,vF 8 0 7,oF 9 (.nil (T 8)) 7,fF 10 688 9 7,lF 11 10 7,oF 12 (.un .not (T 11)) 7,pT 13 7 12] (.cond (T 13) (qR [mI 4 1] .ret) .skip)) (.seq (qR [mv 14 1,lN 15 false 14,bC 16 .neq 15 16] (.cond (T 16) (qR [mI 4 2] .ret) .skip)) (qR [mI 4 0] .ret))))⟩
def fi267:Fi3 267 ir267:=by delta Fi3;kernel_rfl
def ir268:FI:=⟨23,[],(qR [mI 3 0] (.blk 0 (.loop (qR [bC 4 .lss 3 16] (.seq (cE 4 0) (.seq (.blk 1 (qR [mv 5 3,mv 2 5] (.drw [tt (mv 6 0),tt (mv 7 2),tt (nL 8 6),tt (fA 9 1 8),tt (o1 10 (.iaa 16 1 (T 9) (T 7))),tt (lD 11 10),tt (mv 12 0),tt (mv 13 2),tt (nL 14 12),tt (fA 15 17 14),tt (o1 16 (.iaa 16 1 (T 15) (T 13))),tt (lD 17 16),tt (bN 18 .xor 0 11 17),tt (nL 19 6),tt (fA 20 1 19),tt (o1 21 (.iaa 16 1 (T 20) (T 7))),ft (sT 1 21 18)]))) (.reg [aI 22 3,mv 3 22])))))))⟩
def fi268:Fi3 268 ir268:=by delta Fi3;kernel_rfl
def ir269:FI:=⟨5,[],(.reg [mv 2 0,o1 3 (.bld [(.int .u8 0),(.int .u8 0),(.int .u8 0),(.int .u8 0)] (.arr 1) [(0,(.const (.int .u8 14))),(1,(.const (.int .u8 11))),(2,(.const (.int .u8 13))),(3,(.const (.int .u8 9)))]),c2 4 287 2 3])⟩
def fi269:Fi3 269 ir269:=by delta Fi3;kernel_rfl
def ir270:FI:=⟨21,[],(qR [mv 4 0,nL 5 4,fA 6 1 5,lG 7 16 6,o1 2 (.arr .u8 16),sT 16 2 7] (qR [mI 8 0] (.blk 0 (.loop (qR [bC 9 .lss 8 16] (.seq (cE 9 0) (.seq (.blk 1 (qR [mv 10 8,mv 3 10] (.drw [tt (mv 11 0),tt (mv 12 3),tt (mv 14 3),tt (o1 15 (.iaa 16 1 (T 2) (T 14))),tt (lD 16 15),tt (nL 17 11),tt (fA 18 1 17),ft (c1 13 288 12),tt (o1 19 (.iaa 16 1 (T 18) (T 13))),ft (sT 1 19 16)]))) (.reg [aI 20 8,mv 8 20]))))))))⟩
def fi270:Fi3 270 ir270:=by delta Fi3;kernel_rfl
def ir271:FI:=⟨25,[],(qR [mI 3 0] (.blk 0 (.loop (qR [bC 4 .lss 3 16] (.seq (cE 4 0) (.seq (.blk 1 (qR [mv 5 3,mv 2 5] (.drw [tt (mv 6 0),tt (mv 7 2),tt (mv 8 0),tt (nL 9 8),tt (fA 10 0 9),tt (lD 11 10),tt (nL 12 11),tt (fA 13 0 12),tt (mv 14 0),tt (mv 15 2),tt (nL 16 14),tt (fA 17 1 16),tt (o1 18 (.iaa 16 1 (T 17) (T 15))),tt (lD 19 18),tt (nL 21 6),tt (fA 22 1 21),ft (c2 20 289 13 19),tt (o1 23 (.iaa 16 1 (T 22) (T 7))),ft (sT 1 23 20)]))) (.reg [aI 24 3,mv 3 24])))))))⟩
def fi271:Fi3 271 ir271:=by delta Fi3;kernel_rfl
def ir272:FI:=⟨6,[.tmp 4],(qR [o1 2 (.box 254 (T 0)),o1 3 (.box 4 (T 1)),o1 4 (.mov (.const .nilFunc))] (qR [o1 5 (.mkf 290 [] [(T 3),(T 2)]),mv 4 5] .ret))⟩
def fi272:Fi3 272 ir272:=by delta Fi3;kernel_rfl
def ir273:FI:=⟨15,[],(qR [mv 6 1,lN 7 false 6,mI 8 0] (.blk 0 (.loop (qR [bN 9 .lss 0 8 7] (.seq (cE 9 0) (.seq (.blk 1 (qR [iA 10 1 6 8,lD 11 10,mv 5 11] (.reg [mv 12 5,o1 13 (.call (T 12) [])]))) (.reg [aI 14 8,mv 8 14])))))))⟩
def fi273:Fi3 273 ir273:=by delta Fi3;kernel_rfl
def ir274:FI:=⟨15,[.cell 2 234],(qR [o1 2 (.arr .u8 32)] (qR [o1 5 (.ld (some 8) (.global 5)),o1 3 (.arr (.int .u32) 8),sT 8 3 5] (.seq (qR [mv 6 0,mv 7 0,lN 8 false 7,c2 9 291 6 8] (.blk 0 (.rf (T 9) #[10] (.reg [mv 4 10]) (.blk 1 (.reg [mv 11 4,c2 12 292 3 11]))))) (qR [lG 13 8 3,c1 14 293 13,sT 32 2 14] .ret))))⟩
def fi274:Fi3 274 ir274:=by delta Fi3;kernel_rfl
def ir275:FI:=⟨18,[.cell 3 292],(qR [o1 3 (.arr .u8 64)] (.seq (qR [lG 6 64 1,mI 7 0] (.blk 0 (.loop (qR [bC 8 .lss 7 64] (.seq (cE 8 0) (.seq (.blk 1 (qR [mv 9 7,o1 10 (.ixd 64 (T 6) (T 7)),mv 4 9,mv 5 10] (.reg [mv 11 4,mv 12 5,mv 13 0,bN 14 .xor 0 12 13,o1 15 (.iaa 64 1 (T 3) (T 11)),sT 1 15 14]))) (.reg [aI 16 7,mv 7 16]))))))) (qR [lG 17 64 3,sT 64 3 17] .ret)))⟩
def fi275:Fi3 275 ir275:=by delta Fi3;kernel_rfl
def ir276:FI:=⟨9,[.cell 2 300],(qR [o1 2 (.sgl (.prod (.arr 8 (.int .u32)) (.prod (.arr 64 .u8) (.int .i64))))] (qR [mv 3 0,nL 4 3,fA 5 64 4,o1 6 (.sla 64 1 (T 5) none none),c2 7 277 2 6] (qR [lG 8 73 2,sT 73 2 8] .ret)))⟩
def fi276:Fi3 276 ir276:=by delta Fi3;kernel_rfl
def ir277:FI:=⟨73,[.tmp 4],(qR [mI 4 0] (.seq (qR [mv 7 0,o1 8 (.bin .eql 1 (T 7) (.const (.pointer none)))] (.cond (T 8) (qR [mI 4 1] .ret) .skip)) (.seq (qR [mv 9 0,nL 10 9,fA 11 72 10,lD 12 11,bC 13 .eql 12 0] (.cond (T 13) (.reg [mv 14 0,o1 15 (.ld (some 8) (.global 5)),nL 16 14,fA 17 0 16,sT 8 17 15]) .skip)) (qR [mv 18 0,nL 19 18,fA 20 72 19,lD 21 20,bC 22 .rem 21 64,mv 5 22] (qR [mv 23 0,nL 24 23,fA 25 72 24,lD 26 25,mv 27 1,lN 28 false 27,bN 29 .add 0 26 28,nL 30 23,fA 31 72 30,sT 1 31 29] (.seq (qR [mv 32 5,bC 33 .gtr 32 0] (.cond (T 33) (qR [mv 34 0,nL 35 34,fA 36 8 35,mv 37 5,o1 38 (.sla 64 1 (T 36) (some (T 37)) none),mv 39 1,o1 40 (.cpy 1 (T 38) (T 39)),mv 6 40] (.seq (qR [mv 41 5,mv 42 6,bN 43 .add 0 41 42,bC 44 .lss 43 64] (.cond (T 44) (qR [mI 4 0] .ret) .skip)) (.seq (.drw [tt (mv 45 0),tt (nL 46 45),tt (fA 47 0 46),tt (mv 48 0),tt (nL 49 48),tt (fA 50 8 49),tt (o1 51 (.sla 64 1 (T 50) none none)),ft (c2 52 292 47 51)]) (.reg [mv 53 1,mv 54 6,o1 55 (.sl (some 1) (T 53) (some (T 54)) none),mv 1 55])))) .skip)) (.seq (.blk 0 (.loop (.seq (qR [mv 56 1,lN 57 false 56,bC 58 .geq 57 64] (cE 58 0)) (.blk 1 (.seq (.drw [tt (mv 59 0),tt (nL 60 59),tt (fA 61 0 60),tt (mv 62 1),tt (o1 63 (.sl3 1 true (T 62) none (ci 64) (ci 64))),ft (c2 64 292 61 63)]) (.reg [mv 65 1,o1 66 (.sl (some 1) (T 65) (some (ci 64)) none),mv 1 66])))))) (qR [mv 67 0,nL 68 67,fA 69 8 68,o1 70 (.sla 64 1 (T 69) none none),mv 71 1,o1 72 (.cpy 1 (T 70) (T 71))] (qR [mI 4 0] .ret)))))))))⟩
def fi277:Fi3 277 ir277:=by delta Fi3;kernel_rfl
def ir278:FI:=⟨14,[.cell 4 234],(qR [o1 3 (.box 234 (T 1)),o1 4 (.arr .u8 32)] (qR [o1 5 (.sgl (.prod (.arr 8 (.int .u32)) (.prod (.arr 64 .u8) (.int .i64))))] (qR [mv 6 0,nL 7 6,fA 8 0 7,o1 9 (.sla 64 1 (T 8) none none),c2 10 277 5 9] (qR [o1 11 (.sla 32 1 (T 3) none none),c2 12 277 5 11] (qR [c1 13 279 5,sT 32 4 13] .ret)))))⟩
def fi278:Fi3 278 ir278:=by delta Fi3;kernel_rfl
def ir279:FI:=⟨41,[.cell 2 234],(qR [o1 2 (.arr .u8 32)] (.seq (qR [mv 6 0,o1 7 (.bin .eql 1 (T 6) (.const (.pointer none))),mv 8 7,vF 9 0 8,oF 10 (.nil (T 9)) 8,fF 11 72 10 8,lF 12 11 8,oF 13 (.bin .eql 0 (T 12) (ci 0)) 8,pT 14 8 13] (.cond (T 14) (qR [o1 15 (.call (.func 274) [kS]),sT 32 2 15] .ret) .skip)) (qR [mv 16 0,nL 17 16,fA 18 0 17,lG 19 8 18,o1 3 (.arr (.int .u32) 8),sT 8 3 19] (qR [mv 20 0,nL 21 20,fA 22 72 21,lD 23 22,bC 24 .rem 23 64,mv 4 24] (.seq (.seq (.drw [tt (mv 25 0),tt (nL 26 25),tt (fA 27 8 26),tt (mv 28 4),tt (mv 29 4),tt (o1 30 (.sla3 64 1 (T 27) none (T 28) (T 29))),tt (mv 31 0),tt (nL 32 31),tt (fA 33 72 32),tt (lD 34 33),ft (c2 35 291 30 34)]) (.blk 0 (.rf (T 35) #[36] (.reg [mv 5 36]) (.blk 1 (.reg [mv 37 5,c2 38 292 3 37]))))) (qR [lG 39 8 3,c1 40 293 39,sT 32 2 40] .ret))))))⟩
def fi279:Fi3 279 ir279:=by delta Fi3;kernel_rfl
def ir282:FI:=⟨22,[],(qR [mI 3 0] (.blk 0 (.loop (qR [bC 4 .lss 3 256] (.seq (cE 4 0) (.seq (.blk 1 (qR [mv 5 3,mv 2 5] (.seq (.drw [tt (mv 6 0),tt (mv 7 2),tt (mv 8 2),tt (o1 9 (.ixs (.const (.string ⟨#[99,124,119,123,242,107,111,197,48,1,103,43,254,215,171,118,202,130,201,125,250,89,71,240,173,212,162,175,156,164,114,192,183,253,147,38,54,63,247,204,52,165,229,241,113,216,49,21,4,199,35,195,24,150,5,154,7,18,128,226,235,39,178,117,9,131,44,26,27,110,90,160,82,59,214,179,41,227,47,132,83,209,0,237,32,252,177,91,106,203,190,57,74,76,88,207,208,239,170,251,67,77,51,133,69,249,2,127,80,60,159,168,81,163,64,143,146,157,56,245,188,182,218,33,16,255,243,210,205,12,19,236,95,151,68,23,196,167,126,61,100,93,25,115,96,129,79,220,34,42,144,136,70,238,184,20,222,94,11,219,224,50,58,10,73,6,36,92,194,211,172,98,145,149,228,121,231,200,55,109,141,213,78,169,108,86,244,234,101,122,174,8,186,120,37,46,28,166,180,198,232,221,116,31,75,189,139,138,112,62,181,102,72,3,246,14,97,53,87,185,134,193,29,158,225,248,152,17,105,217,142,148,155,30,135,233,206,85,40,223,140,161,137,13,191,230,66,104,65,153,45,15,176,84,187,22]⟩)) (T 8))),tt (nL 10 6),tt (fA 11 0 10),tt (o1 12 (.iaa 256 1 (T 11) (T 7))),ft (sT 1 12 9)]) (.drw [tt (mv 13 0),tt (mv 14 2),tt (o1 15 (.ixs (.const (.string ⟨#[99,124,119,123,242,107,111,197,48,1,103,43,254,215,171,118,202,130,201,125,250,89,71,240,173,212,162,175,156,164,114,192,183,253,147,38,54,63,247,204,52,165,229,241,113,216,49,21,4,199,35,195,24,150,5,154,7,18,128,226,235,39,178,117,9,131,44,26,27,110,90,160,82,59,214,179,41,227,47,132,83,209,0,237,32,252,177,91,106,203,190,57,74,76,88,207,208,239,170,251,67,77,51,133,69,249,2,127,80,60,159,168,81,163,64,143,146,157,56,245,188,182,218,33,16,255,243,210,205,12,19,236,95,151,68,23,196,167,126,61,100,93,25,115,96,129,79,220,34,42,144,136,70,238,184,20,222,94,11,219,224,50,58,10,73,6,36,92,194,211,172,98,145,149,228,121,231,200,55,109,141,213,78,169,108,86,244,234,101,122,174,8,186,120,37,46,28,166,180,198,232,221,116,31,75,189,139,138,112,62,181,102,72,3,246,14,97,53,87,185,134,193,29,158,225,248,152,17,105,217,142,148,155,30,135,233,206,85,40,223,140,161,137,13,191,230,66,104,65,153,45,15,176,84,187,22]⟩)) (T 14))),tt (mv 16 2),tt (o1 17 (.toInt .u8 (T 16))),tt (nL 18 13),tt (fA 19 256 18),tt (o1 20 (.iaa 256 1 (T 19) (T 15))),ft (sT 1 20 17)])))) (.reg [aI 21 3,mv 3 21])))))))⟩
def fi282:Fi3 282 ir282:=by delta Fi3;kernel_rfl
def ir283:FI:=⟨104,[],(qR [o1 11 (.bdd (.arr 176 .u8) (.arr 4) []),o1 4 (.arr .u8 176),sT 176 4 11] (qR [o1 5 (.mov (.const (.int .u8 1)))] (.seq (qR [mI 12 0] (.blk 0 (.loop (qR [bC 13 .lss 12 44] (.seq (cE 13 0) (.seq (.blk 1 (qR [mv 14 12,mv 6 14] (.seq (qR [mv 15 6,bC 16 .lss 15 4] (.cond (T 16) (qR [mv 17 6,mv 18 1,mv 19 6,o1 20 (.bin .mul 0 (ci 4) (T 19)),mv 21 6,o1 22 (.bin .mul 0 (ci 4) (T 21)),bC 23 .add 22 4,mv 24 6,o1 25 (.bin .mul 0 (ci 4) (T 24)),bC 26 .add 25 4,o1 27 (.sl3 1 false (T 18) (some (T 20)) (T 23) (T 26)),o1 28 (.s2a 4 (T 27)),lG 29 4 28,o1 30 (.iaa 44 4 (T 4) (T 17)),sT 4 30 29] (.exit 1)) .skip)) (qR [mv 31 6,bC 32 .sub 31 1,o1 33 (.iaa 44 4 (T 4) (T 32)),lG 34 4 33,o1 7 (.arr .u8 4),sT 4 7 34] (.seq (qR [mv 35 6,bC 36 .rem 35 4,bC 37 .eql 36 0] (.cond (T 37) (.seq (.drw [tt (mv 38 0),tt (nL 39 38),tt (fA 40 0 39),tt (o1 41 (.iaa 4 1 (T 7) (ci 1))),tt (lD 42 41),tt (mv 44 5),tt (mv 46 0),tt (nL 47 46),tt (fA 48 0 47),tt (o1 49 (.iaa 4 1 (T 7) (ci 2))),tt (lD 50 49),tt (mv 52 0),tt (nL 53 52),tt (fA 54 0 53),tt (o1 55 (.iaa 4 1 (T 7) (ci 3))),tt (lD 56 55),tt (mv 58 0),tt (nL 59 58),tt (fA 60 0 59),tt (o1 61 (.iaa 4 1 (T 7) (ci 0))),tt (lD 62 61),ft (c2 43 294 40 42),tt (bN 45 .xor 0 43 44),ft (c2 51 294 48 50),ft (c2 57 294 54 56),ft (c2 63 294 60 62),tt (o1 64 (.bld [(.int .u8 0),(.int .u8 0),(.int .u8 0),(.int .u8 0)] (.arr 1) [(0,(T 45)),(1,(T 51)),(2,(T 57)),(3,(T 63))])),ft (sT 4 7 64)]) (.reg [mv 65 5,c1 66 295 65,mv 5 66])) .skip)) (qR [mI 67 0] (.blk 2 (.loop (qR [bC 68 .lss 67 4] (.seq (cE 68 2) (.seq (.blk 3 (qR [mv 69 67,mv 8 69] (.drw [tt (mv 70 6),tt (mv 71 8),tt (mv 72 6),tt (bC 73 .sub 72 4),tt (mv 74 8),tt (o1 75 (.iaa 44 4 (T 4) (T 73))),tt (o1 76 (.iaa 4 1 (T 75) (T 74))),tt (lD 77 76),tt (mv 78 8),tt (o1 79 (.iaa 4 1 (T 7) (T 78))),tt (lD 80 79),tt (bN 81 .xor 0 77 80),tt (o1 82 (.iaa 44 4 (T 4) (T 70))),tt (o1 83 (.iaa 4 1 (T 82) (T 71))),ft (sT 1 83 81)]))) (.reg [aI 84 67,mv 67 84])))))))))))) (.reg [aI 85 12,mv 12 85]))))))) (qR [lG 86 176 4,mI 87 0] (.blk 4 (.loop (qR [bC 88 .lss 87 44] (.seq (cE 88 4) (.seq (.blk 5 (qR [mv 89 87,o1 90 (.ixr 44 4 (T 86) (T 87)),o1 10 (.arr .u8 4),mv 9 89,sT 4 10 90] (.drw [tt (mv 91 0),tt (mv 92 9),tt (bC 93 .quo 92 4),tt (nL 94 91),tt (fA 95 512 94),tt (o1 96 (.iaa 11 16 (T 95) (T 93))),tt (mv 97 9),tt (bC 98 .rem 97 4),tt (bC 99 .mul 98 4),tt (o1 100 (.sla 16 1 (T 96) (some (T 99)) none)),tt (o1 101 (.sla 4 1 (T 10) none none)),ft (o1 102 (.cpy 1 (T 100) (T 101)))]))) (.reg [aI 103 87,mv 87 103]))))))))))⟩
def fi283:Fi3 283 ir283:=by delta Fi3;kernel_rfl
def ir284:FI:=⟨25,[],(qR [mI 3 0] (.blk 0 (.loop (qR [bC 4 .lss 3 16] (.seq (cE 4 0) (.seq (.blk 1 (qR [mv 5 3,mv 2 5] (.drw [tt (mv 6 0),tt (mv 7 2),tt (mv 8 0),tt (nL 9 8),tt (fA 10 0 9),tt (lD 11 10),tt (nL 12 11),tt (fA 13 0 12),tt (mv 14 0),tt (mv 15 2),tt (nL 16 14),tt (fA 17 1 16),tt (o1 18 (.iaa 16 1 (T 17) (T 15))),tt (lD 19 18),tt (nL 21 6),tt (fA 22 1 21),ft (c2 20 294 13 19),tt (o1 23 (.iaa 16 1 (T 22) (T 7))),ft (sT 1 23 20)]))) (.reg [aI 24 3,mv 3 24])))))))⟩
def fi284:Fi3 284 ir284:=by delta Fi3;kernel_rfl
def ir285:FI:=⟨21,[],(qR [mv 4 0,nL 5 4,fA 6 1 5,lG 7 16 6,o1 2 (.arr .u8 16),sT 16 2 7] (qR [mI 8 0] (.blk 0 (.loop (qR [bC 9 .lss 8 16] (.seq (cE 9 0) (.seq (.blk 1 (qR [mv 10 8,mv 3 10] (.drw [tt (mv 11 0),tt (mv 12 3),tt (mv 13 3),tt (nL 17 11),tt (fA 18 1 17),ft (c1 14 288 13),tt (o1 15 (.iaa 16 1 (T 2) (T 14))),tt (lD 16 15),tt (o1 19 (.iaa 16 1 (T 18) (T 12))),ft (sT 1 19 16)]))) (.reg [aI 20 8,mv 8 20]))))))))⟩
def fi285:Fi3 285 ir285:=by delta Fi3;kernel_rfl
def ir286:FI:=⟨5,[],(.reg [mv 2 0,o1 3 (.bld [(.int .u8 0),(.int .u8 0),(.int .u8 0),(.int .u8 0)] (.arr 1) [(0,(.const (.int .u8 2))),(1,(.const (.int .u8 3))),(2,(.const (.int .u8 1))),(3,(.const (.int .u8 1)))]),c2 4 287 2 3])⟩
def fi286:Fi3 286 ir286:=by delta Fi3;kernel_rfl
def ir287:FI:=⟨27,[],(qR [o1 3 (.box 241 (T 1))] (qR [mv 7 0,nL 8 7,fA 9 1 8,lG 10 16 9,o1 4 (.arr .u8 16),sT 16 4 10] (qR [o1 11 (.mkf 296 [] [(T 3),(T 4)]),mv 5 11] (qR [mI 12 0] (.blk 0 (.loop (qR [bC 13 .lss 12 16] (.seq (cE 13 0) (.seq (.blk 1 (qR [mv 14 12,mv 6 14] (.drw [tt (mv 15 0),tt (mv 16 6),tt (mv 17 5),tt (mv 18 6),tt (bC 19 .quo 18 4),tt (mv 20 6),tt (bC 21 .rem 20 4),tt (nL 23 15),tt (fA 24 1 23),ft (o1 22 (.call (T 17) [(T 19),(T 21)])),tt (o1 25 (.iaa 16 1 (T 24) (T 16))),ft (sT 1 25 22)]))) (.reg [aI 26 12,mv 12 26]))))))))))⟩
def fi287:Fi3 287 ir287:=by delta Fi3;kernel_rfl
def ir288:FI:=⟨13,[.tmp 2],(qR [mI 2 0] (qR [mv 3 0,bC 4 .quo 3 4,mv 5 0,bC 6 .rem 5 4,bN 7 .add 0 4 6,o1 8 (.bin .mul 0 (ci 4) (T 7)),mv 9 0,bC 10 .rem 9 4,bN 11 .add 0 8 10,bC 12 .rem 11 16,mv 2 12] .ret))⟩
def fi288:Fi3 288 ir288:=by delta Fi3;kernel_rfl
def ir289:FI:=⟨11,[.tmp 4],(qR [o1 4 (.mov (.const (.int .u8 0)))] (qR [mv 5 0,mv 6 1,nL 7 5,fA 8 256 7,o1 9 (.iaa 256 1 (T 8) (T 6)),lD 10 9,mv 4 10] .ret))⟩
def fi289:Fi3 289 ir289:=by delta Fi3;kernel_rfl
def ir290:FI:=⟨22,[],(qR [mI 5 0] (.blk 0 (.loop (qR [bC 6 .lss 5 11] (.seq (cE 6 0) (.seq (.blk 1 (qR [mv 7 5,mv 4 7] (.seq (qR [lD 8 1] (.cond (T 8) (.reg [mv 9 4,o1 10 (.bin .sub 0 (ci 10) (T 9)),mv 4 10]) .skip)) (qR [mv 11 0,mv 12 4,lD 13 2,mv 14 4,nL 15 13,fA 16 512 15,o1 17 (.iaa 11 16 (T 16) (T 14)),lG 18 16 17,o1 19 (.call (T 11) [(T 12),(T 18)]),nT 20 19] (.cond (T 20) .ret .skip))))) (.reg [aI 21 5,mv 5 21])))))))⟩
def fi290:Fi3 290 ir290:=by delta Fi3;kernel_rfl
attribute [go_sem] ir225 ir227 ir228 ir229 ir230 ir232 ir233 ir234 ir241 ir242 ir243 ir244 ir245 ir246 ir247 ir248 ir249 ir250 ir251 ir252 ir253 ir261 ir262 ir263 ir264 ir265 ir267 ir268 ir269 ir270 ir271 ir272 ir273 ir274 ir275 ir276 ir277 ir278 ir279 ir282 ir283 ir284 ir285 ir286 ir287 ir288 ir289 ir290
abbrev Fi4(n:Nat)(i:FI):Prop:=finfo Tryz.prog n=some i
def ir291:FI:=⟨6,[.tmp 4],(qR [o1 2 (.box 25 (T 0)),o1 3 (.box 3 (T 1)),o1 4 (.mov (.const .nilFunc))] (qR [o1 5 (.mkf 298 [] [(T 2),(T 3)]),mv 4 5] .ret))⟩
def fi291:Fi4 291 ir291:=by delta Fi4;kernel_rfl
def ir292:FI:=⟨200,[],(qR [o1 4 (.arr (.int .u32) 64)] (.seq (qR [mI 26 0] (.blk 0 (.loop (qR [bC 27 .lss 26 16] (.seq (cE 27 0) (.seq (.blk 1 (qR [mv 28 26,mv 5 28] (qR [mv 29 1,mv 30 5,o1 31 (.bin .mul 0 (ci 4) (T 30)),mv 32 5,o1 33 (.bin .mul 0 (ci 4) (T 32)),bC 34 .add 33 4,mv 35 5,o1 36 (.bin .mul 0 (ci 4) (T 35)),bC 37 .add 36 4,o1 38 (.sl3 1 false (T 29) (some (T 31)) (T 34) (T 37)),mv 6 38] (.drw [tt (mv 39 5),tt (mv 40 6),tt (o1 41 (.ia 1 (T 40) (ci 0))),tt (lD 42 41),tt (o1 43 (.toInt .u32 (T 42))),tt (o1 44 (.bin .shl 0 (T 43) (.const (.int .u64 24)))),tt (mv 45 6),tt (o1 46 (.ia 1 (T 45) (ci 1))),tt (lD 47 46),tt (o1 48 (.toInt .u32 (T 47))),tt (o1 49 (.bin .shl 0 (T 48) (.const (.int .u64 16)))),tt (bN 50 .or 0 44 49),tt (mv 51 6),tt (o1 52 (.ia 1 (T 51) (ci 2))),tt (lD 53 52),tt (o1 54 (.toInt .u32 (T 53))),tt (o1 55 (.bin .shl 0 (T 54) (.const (.int .u64 8)))),tt (bN 56 .or 0 50 55),tt (mv 57 6),tt (o1 58 (.ia 1 (T 57) (ci 3))),tt (lD 59 58),tt (o1 60 (.toInt .u32 (T 59))),tt (bN 61 .or 0 56 60),tt (o1 62 (.iaa 64 1 (T 4) (T 39))),ft (sT 1 62 61)])))) (.reg [aI 63 26,mv 26 63]))))))) (.seq (qR [mI 7 16] (.blk 2 (.loop (.seq (qR [mv 64 7,bC 65 .lss 64 64] (cE 65 2)) (.seq (.blk 3 (.seq (.drw [tt (mv 68 7),tt (bC 69 .sub 68 15),tt (o1 70 (.iaa 64 1 (T 4) (T 69))),tt (lD 71 70),tt (mv 72 7),tt (bC 73 .sub 72 2),tt (o1 74 (.iaa 64 1 (T 4) (T 73))),tt (lD 75 74),tt (mv 8 71),tt (mv 9 75)]) (.drw [tt (mv 76 7),tt (mv 77 9),tt (mv 80 9),tt (o1 81 (.bin .shr 0 (T 80) (.const (.int .u64 10)))),tt (mv 83 7),tt (bC 84 .sub 83 7),tt (o1 85 (.iaa 64 1 (T 4) (T 84))),tt (lD 86 85),tt (mv 88 8),tt (mv 91 8),tt (o1 92 (.bin .shr 0 (T 91) (.const (.int .u64 3)))),tt (mv 95 7),tt (bC 96 .sub 95 16),tt (o1 97 (.iaa 64 1 (T 4) (T 96))),tt (lD 98 97),tt (o1 78 (.bsl (.int .i64) 2 1 [zi,zi] [(0,(ci 17)),(1,(ci 19))])),tt (c2 79 299 77 78),tt (bN 82 .xor 0 79 81),tt (bN 87 .add 0 82 86),ft (o1 89 (.bsl (.int .i64) 2 1 [zi,zi] [(0,(ci 7)),(1,(ci 18))])),ft (c2 90 299 88 89),tt (bN 93 .xor 0 90 92),tt (bN 94 .add 0 87 93),tt (bN 99 .add 0 94 98),tt (o1 100 (.iaa 64 1 (T 4) (T 76))),ft (sT 1 100 99)]))) (.reg [mv 66 7,aI 67 66,mv 7 67])))))) (qR [o1 10 (.mov (.func 300))] (qR [o1 11 (.mov (.func 301))] (.seq (.drw [tt (mv 101 0),tt (nL 102 101),tt (o1 103 (.iaa 8 1 (T 102) (ci 0))),tt (lD 104 103),tt (mv 105 0),tt (nL 106 105),tt (o1 107 (.iaa 8 1 (T 106) (ci 1))),tt (lD 108 107),tt (mv 109 0),tt (nL 110 109),tt (o1 111 (.iaa 8 1 (T 110) (ci 2))),tt (lD 112 111),tt (mv 113 0),tt (nL 114 113),tt (o1 115 (.iaa 8 1 (T 114) (ci 3))),tt (lD 116 115),tt (mv 117 0),tt (nL 118 117),tt (o1 119 (.iaa 8 1 (T 118) (ci 4))),tt (lD 120 119),tt (mv 121 0),tt (nL 122 121),tt (o1 123 (.iaa 8 1 (T 122) (ci 5))),tt (lD 124 123),tt (mv 125 0),tt (nL 126 125),tt (o1 127 (.iaa 8 1 (T 126) (ci 6))),tt (lD 128 127),tt (mv 129 0),tt (nL 130 129),tt (o1 131 (.iaa 8 1 (T 130) (ci 7))),tt (lD 132 131),tt (mv 12 104),tt (mv 13 108),tt (mv 14 112),tt (mv 15 116),tt (mv 16 120),tt (mv 17 124),tt (mv 18 128),tt (mv 19 132)]) (.seq (qR [o1 133 (.ld (some 64) (.global 6)),mI 134 0] (.blk 4 (.loop (qR [bC 135 .lss 134 64] (.seq (cE 135 4) (.seq (.blk 5 (qR [mv 136 134,o1 137 (.ixd 64 (T 133) (T 134)),mv 20 136,mv 21 137] (.seq (.drw [tt (mv 138 19),tt (mv 139 16),tt (mv 143 10),tt (mv 144 16),tt (mv 145 17),tt (mv 146 18),tt (mv 149 21),tt (mv 151 20),tt (o1 152 (.iaa 64 1 (T 4) (T 151))),tt (lD 153 152),ft (o1 140 (.bsl (.int .i64) 3 1 [zi,zi,zi] [(0,(ci 6)),(1,(ci 11)),(2,(ci 25))])),ft (c2 141 299 139 140),tt (bN 142 .add 0 138 141),ft (o1 147 (.call (T 143) [(T 144),(T 145),(T 146)])),tt (bN 148 .add 0 142 147),tt (bN 150 .add 0 148 149),tt (bN 154 .add 0 150 153),tt (mv 22 154)]) (qR [mv 155 12,o1 156 (.bsl (.int .i64) 3 1 [zi,zi,zi] [(0,(ci 2)),(1,(ci 13)),(2,(ci 22))]),c2 157 299 155 156,mv 158 11,mv 159 12,mv 160 13,mv 161 14,o1 162 (.call (T 158) [(T 159),(T 160),(T 161)]),bN 163 .add 0 157 162,mv 23 163] (.reg [mv 164 18,mv 165 17,mv 166 16,mv 167 15,mv 168 22,bN 169 .add 0 167 168,mv 170 14,mv 171 13,mv 172 12,mv 173 22,mv 174 23,bN 175 .add 0 173 174,mv 19 164,mv 18 165,mv 17 166,mv 16 169,mv 15 170,mv 14 171,mv 13 172,mv 12 175]))))) (.reg [aI 176 134,mv 134 176]))))))) (qR [mv 177 12,mv 178 13,mv 179 14,mv 180 15,mv 181 16,mv 182 17,mv 183 18,mv 184 19,o1 185 (.bdd (.arr 8 (.int .u32)) (.arr 1) [(0,(T 177)),(1,(T 178)),(2,(T 179)),(3,(T 180)),(4,(T 181)),(5,(T 182)),(6,(T 183)),(7,(T 184))]),mI 186 0] (.blk 6 (.loop (qR [bC 187 .lss 186 8] (.seq (cE 187 6) (.seq (.blk 7 (qR [mv 188 186,o1 189 (.ixd 8 (T 185) (T 186)),mv 24 188,mv 25 189] (.drw [tt (mv 190 0),tt (mv 191 24),tt (nL 192 190),tt (o1 193 (.iaa 8 1 (T 192) (T 191))),tt (lD 194 193),tt (mv 195 25),tt (bN 196 .add 0 194 195),tt (nL 197 190),tt (o1 198 (.iaa 8 1 (T 197) (T 191))),ft (sT 1 198 196)]))) (.reg [aI 199 186,mv 186 199]))))))))))))))⟩
def fi292:Fi4 292 ir292:=by delta Fi4;kernel_rfl
def ir293:FI:=⟨38,[.cell 2 234],(qR [o1 1 (.box 298 (T 0)),o1 2 (.arr .u8 32)] (.seq (qR [lG 5 8 1,mI 6 0] (.blk 0 (.loop (qR [bC 7 .lss 6 8] (.seq (cE 7 0) (.seq (.blk 1 (qR [mv 8 6,o1 9 (.ixd 8 (T 5) (T 6)),mv 3 8,mv 4 9] (.reg [mv 10 3,o1 11 (.bin .mul 0 (ci 4) (T 10)),mv 12 3,o1 13 (.bin .mul 0 (ci 4) (T 12)),aI 14 13,mv 15 3,o1 16 (.bin .mul 0 (ci 4) (T 15)),bC 17 .add 16 2,mv 18 3,o1 19 (.bin .mul 0 (ci 4) (T 18)),bC 20 .add 19 3,mv 21 4,o1 22 (.bin .shr 0 (T 21) (.const (.int .u64 24))),o1 23 (.toInt .u8 (T 22)),mv 24 4,o1 25 (.bin .shr 0 (T 24) (.const (.int .u64 16))),o1 26 (.toInt .u8 (T 25)),mv 27 4,o1 28 (.bin .shr 0 (T 27) (.const (.int .u64 8))),o1 29 (.toInt .u8 (T 28)),mv 30 4,o1 31 (.toInt .u8 (T 30)),o1 32 (.iaa 32 1 (T 2) (T 11)),sT 1 32 23,o1 33 (.iaa 32 1 (T 2) (T 14)),sT 1 33 26,o1 34 (.iaa 32 1 (T 2) (T 17)),sT 1 34 29,o1 35 (.iaa 32 1 (T 2) (T 20)),sT 1 35 31]))) (.reg [aI 36 6,mv 6 36]))))))) (qR [lG 37 32 2,sT 32 2 37] .ret)))⟩
def fi293:Fi4 293 ir293:=by delta Fi4;kernel_rfl
def ir294:FI:=⟨11,[.tmp 4],(qR [o1 4 (.mov (.const (.int .u8 0)))] (qR [mv 5 0,mv 6 1,nL 7 5,fA 8 0 7,o1 9 (.iaa 256 1 (T 8) (T 6)),lD 10 9,mv 4 10] .ret))⟩
def fi294:Fi4 294 ir294:=by delta Fi4;kernel_rfl
def ir295:FI:=⟨10,[.tmp 2],(qR [o1 2 (.mov (.const (.int .u8 0)))] (.seq (qR [mv 3 0,o1 4 (.bin .geq 0 (T 3) (.const (.int .u8 128)))] (.cond (T 4) (qR [mv 5 0,o1 6 (.bin .shl 0 (T 5) (.const (.int .u64 1))),o1 7 (.bin .xor 0 (T 6) (.const (.int .u8 27))),mv 2 7] .ret) .skip)) (qR [mv 8 0,o1 9 (.bin .shl 0 (T 8) (.const (.int .u64 1))),mv 2 9] .ret)))⟩
def fi295:Fi4 295 ir295:=by delta Fi4;kernel_rfl
def ir296:FI:=⟨29,[.tmp 6],(qR [o1 6 (.mov (.const (.int .u8 0)))] (.seq (qR [lG 9 4 2,mI 10 0] (.blk 0 (.loop (qR [bC 11 .lss 10 4] (.seq (cE 11 0) (.seq (.blk 1 (qR [mv 12 10,o1 13 (.ixd 4 (T 9) (T 10)),mv 7 12,mv 8 13] (.reg [mv 14 6,mv 15 8,mv 16 0,o1 17 (.bin .mul 0 (ci 4) (T 16)),mv 18 1,mv 19 7,bN 20 .add 0 18 19,bC 21 .rem 20 4,bN 22 .add 0 17 21,o1 23 (.iaa 16 1 (T 3) (T 22)),lD 24 23,c2 25 297 15 24,bN 26 .xor 0 14 25,mv 6 26]))) (.reg [aI 27 10,mv 10 27]))))))) (qR [mv 28 6,mv 6 28] .ret)))⟩
def fi296:Fi4 296 ir296:=by delta Fi4;kernel_rfl
def ir297:FI:=⟨18,[.tmp 4],(qR [o1 4 (.mov (.const (.int .u8 0)))] (.seq (.blk 0 (.loop (.seq (qR [mv 5 0,o1 6 (.bin .neq 0 (T 5) (.const (.int .u8 0)))] (cE 6 0)) (.seq (.blk 1 (.seq (qR [mv 9 0,o1 10 (.bin .and 0 (T 9) (.const (.int .u8 1))),o1 11 (.bin .eql 0 (T 10) (.const (.int .u8 1)))] (.cond (T 11) (.reg [mv 12 4,mv 13 1,bN 14 .xor 0 12 13,mv 4 14]) .skip)) (.reg [mv 15 1,c1 16 295 15,mv 1 16]))) (.reg [mv 7 0,o1 8 (.bin .shr 0 (T 7) (.const (.int .u64 1))),mv 0 8]))))) (qR [mv 17 4,mv 4 17] .ret)))⟩
def fi297:Fi4 297 ir297:=by delta Fi4;kernel_rfl
def ir298:FI:=⟨63,[],(qR [lD 8 1,mv 4 8] (.seq (.blk 0 (.loop (.seq (qR [mv 9 4,lN 10 false 9,bC 11 .geq 10 64] (cE 11 0)) (.blk 1 (.seq (qR [mv 12 0,mv 13 4,o1 14 (.sl3 1 true (T 13) none (ci 64) (ci 64)),o1 15 (.call (T 12) [(T 14)]),nT 16 15] (.cond (T 16) .ret .skip)) (.reg [mv 17 4,o1 18 (.sl (some 1) (T 17) (some (ci 64)) none),mv 4 18])))))) (qR [mI 5 64] (.seq (qR [mv 19 4,lN 20 false 19,bC 21 .add 20 9,bC 22 .gtr 21 64] (.cond (T 22) (.reg [mI 5 128]) .skip)) (qR [mv 23 5,o1 24 (.mks .u8 1 (T 23) (T 23)),mv 6 24] (qR [mv 25 6,mv 26 4,o1 27 (.cpy 1 (T 25) (T 26))] (qR [mv 28 6,mv 29 4,lN 30 false 29,iA 31 1 28 30,o0 (.st 1 (T 31) (.const (.int .u8 128)))] (.seq (qR [mI 32 0] (.blk 2 (.loop (qR [bC 33 .lss 32 8] (.seq (cE 33 2) (.seq (.blk 3 (qR [mv 34 32,mv 7 34] (.reg [mv 35 6,mv 36 5,bC 37 .sub 36 1,mv 38 7,bN 39 .sub 0 37 38,lD 40 2,o1 41 (.toInt .u64 (T 40)),o1 42 (.bin .mul 0 (T 41) (.const (.int .u64 8))),mv 43 7,o1 44 (.bin .mul 0 (ci 8) (T 43)),bN 45 .shr 0 42 44,o1 46 (.toInt .u8 (T 45)),iA 47 1 35 39,sT 1 47 46]))) (.reg [aI 48 32,mv 32 48]))))))) (qR [mv 49 0,mv 50 6,o1 51 (.sl3 1 true (T 50) none (ci 64) (ci 64)),o1 52 (.call (T 49) [(T 51)]),mv 53 52,vT 54 5 53,oT 55 (.bin .gtr 0 (T 54) (ci 64)) 53,pF 56 53 55] (.cond (T 56) (.reg [mv 57 0,mv 58 6,mv 59 5,mv 60 5,o1 61 (.sl3 1 false (T 58) (some (ci 64)) (T 59) (T 60)),o1 62 (.call (T 57) [(T 61)])]) .skip))))))))))⟩
def fi298:Fi4 298 ir298:=by delta Fi4;kernel_rfl
def ir299:FI:=⟨21,[.tmp 4],(qR [o1 4 (.mov (.const (.int .u32 0)))] (.seq (qR [mv 7 1,lN 8 false 7,mI 9 0] (.blk 0 (.loop (qR [bN 10 .lss 0 9 8] (.seq (cE 10 0) (.seq (.blk 1 (qR [iA 11 1 7 9,lD 12 11,mv 6 12] (.reg [mv 13 4,mv 14 0,mv 15 6,o1 16 (.un .neg (T 15)),c2 17 302 14 16,bN 18 .xor 0 13 17,mv 4 18]))) (.reg [aI 19 9,mv 9 19]))))))) (qR [mv 20 4,mv 4 20] .ret)))⟩
def fi299:Fi4 299 ir299:=by delta Fi4;kernel_rfl
def ir300:FI:=⟨15,[.tmp 6],(qR [o1 6 (.mov (.const (.int .u32 0)))] (qR [mv 7 0,mv 8 1,bN 9 .and 0 7 8,mv 10 0,o1 11 (.un .xor (T 10)),mv 12 2,bN 13 .and 0 11 12,bN 14 .xor 0 9 13,mv 6 14] .ret))⟩
def fi300:Fi4 300 ir300:=by delta Fi4;kernel_rfl
def ir301:FI:=⟨18,[.tmp 6],(qR [o1 6 (.mov (.const (.int .u32 0)))] (qR [mv 7 0,mv 8 1,bN 9 .and 0 7 8,mv 10 0,mv 11 2,bN 12 .and 0 10 11,bN 13 .xor 0 9 12,mv 14 1,mv 15 2,bN 16 .and 0 14 15,bN 17 .xor 0 13 16,mv 6 17] .ret))⟩
def fi301:Fi4 301 ir301:=by delta Fi4;kernel_rfl
def ir302:FI:=⟨17,[.tmp 4],(qR [o1 4 (.mov (.const (.int .u32 0)))] (qR [mv 6 1,o1 7 (.toInt .u64 (T 6)),o1 8 (.bin .and 0 (T 7) (.const (.int .u64 31))),mv 5 8] (qR [mv 9 0,mv 10 5,bN 11 .shl 0 9 10,mv 12 0,mv 13 5,o1 14 (.bin .sub 0 (.const (.int .u64 32)) (T 13)),bN 15 .shr 0 12 14,bN 16 .or 0 11 15,mv 4 16] .ret)))⟩
def fi302:Fi4 302 ir302:=by delta Fi4;kernel_rfl
attribute [go_sem] ir291 ir292 ir293 ir294 ir295 ir296 ir297 ir298 ir299 ir300 ir301 ir302
def mixed:Tryz.prog.follows .mixedOrders=true:=by kernel_rfl
variable {AQ:Ex->List SV->List SObj->Prop}{m:IM}{q:Prop}
def gQ[Ghost](h:q)(e:run Tryz.prog AQ 600 m=q:=by (simp (maxSteps:=3000000) only [go_sem,↓zA,↓reduceIte,↓reduceDIte];(try simp only [zB]);rfl)):SoundI Tryz.prog AQ m:=goE mixed h e
def aQ[Ghost](h:q)(e:run Tryz.prog AQ 600 m=q:=by (simp (maxSteps:=3000000) only [List.append_assoc,getA,getA0,setA,setA0,Ab,Nat.add_assoc,go_sem,↓zA,↓reduceIte,↓reduceDIte];(try simp only [zB]);rfl)):SoundI Tryz.prog AQ m:=goaE mixed h e
variable {f:FuncId}{fi:FI}{args:List SV}{K:Out->List SObj->Prop}{H:List SObj}
def rQ(hf:finfo Tryz.prog f=some fi)(h:q)(e:run Tryz.prog (retF Tryz.prog fi.results K) 600 ⟨H.length,[.ic fi.code],args++List.replicate (fi.ntmps-args.length) .any,H⟩=q:=by (simp (maxSteps:=3000000) only [go_sem,↓zA,↓reduceIte,↓reduceDIte];(try simp only [zB]);rfl)):VC Tryz.prog f args H K:=runE mixed hf h e
variable {s:SV}{d:Option Tmp}
def eQ[Ghost]{args0:List SV}{H0 H1:List SObj}(hs:List Nat)(hp:PE Tryz.prog f args0 H0 (.ret s) H1)(h:q)(hargs:args=SV.renL (sig hs m.heap.length) args0:=by rfl)(hnd:hs.Nodup:=by decide)(ha:atH (sig hs m.heap.length) m.heap hs H0:=by (repeat first|exact trivial|exact rfl|refine And.intro ?_ ?_))(hb:SV.belL H0.length args0=true:=by rfl)(hbh:belH H0.length H0=true:=by rfl)(e:run Tryz.prog AQ 600 {m with tmps:=putT m.tmps d (s.ren (sig hs m.heap.length)),heap:=mgA (sig hs m.heap.length) hs H1 m.heap}=q:=by (simp only [Out.ren,SV.ren,mgA,sig,SObj.ren,SV.renL,List.set,List.map,Ah];simp (maxSteps:=3000000) only [go_sem,↓zA,↓reduceIte,↓reduceDIte];(try simp only [zB]);rfl)):CallI Tryz.prog AQ f args d m:=effE mixed hs hp h hargs hnd ha hb hbh e
def cQ[Ghost](hp:PC Tryz.prog f args s)(h:q)(e:run Tryz.prog AQ 600 {m with tmps:=putT m.tmps d s}=q:=by (simp (maxSteps:=3000000) only [go_sem,↓zA,↓reduceIte,↓reduceDIte];(try simp only [zB]);rfl)):CallI Tryz.prog AQ f args d m:=q0a hp (goE mixed h e)
def cR[Ghost]{G:List Nat}(hp:PC Tryz.prog f args s)(h:q)(e:run Tryz.prog AQ 600 {m with tmps:=putT m.tmps d s}=q:=by (simp (maxSteps:=3000000) only [go_sem,↓zA,↓reduceIte,↓reduceDIte];(try simp only [zB]);rfl)):CallR Tryz.prog AQ G f args d m:=q0c hp (goE mixed h e)
def uQ[Ghost](n:Nat)(m:IM)(h:run Tryz.prog AQ n m):SoundI Tryz.prog AQ m:=q0r mixed n m h
variable {a0:Prop}
def gy1[Ghost](w0:a0)(h:q)(e:a0->run Tryz.prog AQ 600 m=q:=by (intro w0;simp (maxSteps:=3000000) only [w0,go_sem,↓zA,↓reduceIte,↓reduceDIte];(try simp only [zB]);rfl)):SoundI Tryz.prog AQ m:=q0r mixed 600 m (Eq.mpr (e w0) h)
def cy1[Ghost](hp:PC Tryz.prog f args s)(w0:a0)(h:q)(e:a0->run Tryz.prog AQ 600 {m with tmps:=putT m.tmps d s}=q:=by (intro w0;simp (maxSteps:=3000000) only [w0,go_sem,↓zA,↓reduceIte,↓reduceDIte];(try simp only [zB]);rfl)):CallI Tryz.prog AQ f args d m:=q0a hp (q0r mixed 600 _ (Eq.mpr (e w0) h))
def ry1(hf:finfo Tryz.prog f=some fi)(w0:a0)(h:q)(e:a0->run Tryz.prog (retF Tryz.prog fi.results K) 600 ⟨H.length,[.ic fi.code],args++List.replicate (fi.ntmps-args.length) .any,H⟩=q:=by (intro w0;simp (maxSteps:=3000000) only [w0,go_sem,↓zA,↓reduceIte,↓reduceDIte];(try simp only [zB]);rfl)):VC Tryz.prog f args H K:=q1T hf (q0r mixed 600 _ (Eq.mpr (e w0) h))
theorem sya1{p:Prop}(w0:a0)(h:q)(e:a0->p=q:=by (intro w0;simp (maxSteps:=3000000) only [w0,List.append_assoc,getA,getA0,setA,setA0,Ab,Nat.add_assoc,go_sem,↓zA,↓reduceIte,↓reduceDIte];(try simp only [zB]);rfl)):p:=Eq.mpr (e w0) h
variable {a1:Prop}
theorem sy2{p:Prop}(w0:a0)(w1:a1)(h:q)(e:a0->a1->p=q:=by (intro w0 w1;simp (maxSteps:=3000000) only [w0,w1,go_sem,↓zA,↓reduceIte,↓reduceDIte];(try simp only [zB]);rfl)):p:=Eq.mpr (e w0 w1) h
def gy2[Ghost](w0:a0)(w1:a1)(h:q)(e:a0->a1->run Tryz.prog AQ 600 m=q:=by (intro w0 w1;simp (maxSteps:=3000000) only [w0,w1,go_sem,↓zA,↓reduceIte,↓reduceDIte];(try simp only [zB]);rfl)):SoundI Tryz.prog AQ m:=q0r mixed 600 m (Eq.mpr (e w0 w1) h)
def ry2(hf:finfo Tryz.prog f=some fi)(w0:a0)(w1:a1)(h:q)(e:a0->a1->run Tryz.prog (retF Tryz.prog fi.results K) 600 ⟨H.length,[.ic fi.code],args++List.replicate (fi.ntmps-args.length) .any,H⟩=q:=by (intro w0 w1;simp (maxSteps:=3000000) only [w0,w1,go_sem,↓zA,↓reduceIte,↓reduceDIte];(try simp only [zB]);rfl)):VC Tryz.prog f args H K:=q1T hf (q0r mixed 600 _ (Eq.mpr (e w0 w1) h))
def gya2[Ghost](w0:a0)(w1:a1)(h:q)(e:a0->a1->run Tryz.prog AQ 600 m=q:=by (intro w0 w1;simp (maxSteps:=3000000) only [w0,w1,List.append_assoc,getA,getA0,setA,setA0,Ab,Nat.add_assoc,go_sem,↓zA,↓reduceIte,↓reduceDIte];(try simp only [zB]);rfl)):SoundI Tryz.prog AQ m:=q0r mixed 600 m (Eq.mpr (e w0 w1) h)
variable {a2:Prop}
def gy3[Ghost](w0:a0)(w1:a1)(w2:a2)(h:q)(e:a0->a1->a2->run Tryz.prog AQ 600 m=q:=by (intro w0 w1 w2;simp (maxSteps:=3000000) only [w0,w1,w2,go_sem,↓zA,↓reduceIte,↓reduceDIte];(try simp only [zB]);rfl)):SoundI Tryz.prog AQ m:=q0r mixed 600 m (Eq.mpr (e w0 w1 w2) h)
def gyd3[Ghost](w0:a0)(w1:a1)(w2:a2)(h:q)(e:a0->a1->a2->run Tryz.prog AQ 600 m=q:=by (intro w0 w1 w2;simp (maxSteps:=3000000) only [w0,w1,w2,Ty.dflt,go_sem,↓zA,↓reduceIte,↓reduceDIte];(try simp only [zB]);rfl)):SoundI Tryz.prog AQ m:=q0r mixed 600 m (Eq.mpr (e w0 w1 w2) h)
def cyd3[Ghost](hp:PC Tryz.prog f args s)(w0:a0)(w1:a1)(w2:a2)(h:q)(e:a0->a1->a2->run Tryz.prog AQ 600 {m with tmps:=putT m.tmps d s}=q:=by (intro w0 w1 w2;simp (maxSteps:=3000000) only [w0,w1,w2,Ty.dflt,go_sem,↓zA,↓reduceIte,↓reduceDIte];(try simp only [zB]);rfl)):CallI Tryz.prog AQ f args d m:=q0a hp (q0r mixed 600 _ (Eq.mpr (e w0 w1 w2) h))
variable {a3:Prop}
def gy4[Ghost](w0:a0)(w1:a1)(w2:a2)(w3:a3)(h:q)(e:a0->a1->a2->a3->run Tryz.prog AQ 600 m=q:=by (intro w0 w1 w2 w3;simp (maxSteps:=3000000) only [w0,w1,w2,w3,go_sem,↓zA,↓reduceIte,↓reduceDIte];(try simp only [zB]);rfl)):SoundI Tryz.prog AQ m:=q0r mixed 600 m (Eq.mpr (e w0 w1 w2 w3) h)
def cy4[Ghost](hp:PC Tryz.prog f args s)(w0:a0)(w1:a1)(w2:a2)(w3:a3)(h:q)(e:a0->a1->a2->a3->run Tryz.prog AQ 600 {m with tmps:=putT m.tmps d s}=q:=by (intro w0 w1 w2 w3;simp (maxSteps:=3000000) only [w0,w1,w2,w3,go_sem,↓zA,↓reduceIte,↓reduceDIte];(try simp only [zB]);rfl)):CallI Tryz.prog AQ f args d m:=q0a hp (q0r mixed 600 _ (Eq.mpr (e w0 w1 w2 w3) h))
def gyd4[Ghost](w0:a0)(w1:a1)(w2:a2)(w3:a3)(h:q)(e:a0->a1->a2->a3->run Tryz.prog AQ 600 m=q:=by (intro w0 w1 w2 w3;simp (maxSteps:=3000000) only [w0,w1,w2,w3,Ty.dflt,go_sem,↓zA,↓reduceIte,↓reduceDIte];(try simp only [zB]);rfl)):SoundI Tryz.prog AQ m:=q0r mixed 600 m (Eq.mpr (e w0 w1 w2 w3) h)
def ry5{a4:Prop}(hf:finfo Tryz.prog f=some fi)(w0:a0)(w1:a1)(w2:a2)(w3:a3)(w4:a4)(h:q)(e:a0->a1->a2->a3->a4->run Tryz.prog (retF Tryz.prog fi.results K) 600 ⟨H.length,[.ic fi.code],args++List.replicate (fi.ntmps-args.length) .any,H⟩=q:=by (intro w0 w1 w2 w3 w4;simp (maxSteps:=3000000) only [w0,w1,w2,w3,w4,go_sem,↓zA,↓reduceIte,↓reduceDIte];(try simp only [zB]);rfl)):VC Tryz.prog f args H K:=q1T hf (q0r mixed 600 _ (Eq.mpr (e w0 w1 w2 w3 w4) h))
theorem sy6{a4 a5 p:Prop}(w0:a0)(w1:a1)(w2:a2)(w3:a3)(w4:a4)(w5:a5)(h:q)(e:a0->a1->a2->a3->a4->a5->p=q:=by (intro w0 w1 w2 w3 w4 w5;simp (maxSteps:=3000000) only [w0,w1,w2,w3,w4,w5,go_sem,↓zA,↓reduceIte,↓reduceDIte];(try simp only [zB]);rfl)):p:=Eq.mpr (e w0 w1 w2 w3 w4 w5) h
def gy8[Ghost]{a4 a5 a6 a7:Prop}(w0:a0)(w1:a1)(w2:a2)(w3:a3)(w4:a4)(w5:a5)(w6:a6)(w7:a7)(h:q)(e:a0->a1->a2->a3->a4->a5->a6->a7->run Tryz.prog AQ 600 m=q:=by (intro w0 w1 w2 w3 w4 w5 w6 w7;simp (maxSteps:=3000000) only [w0,w1,w2,w3,w4,w5,w6,w7,go_sem,↓zA,↓reduceIte,↓reduceDIte];(try simp only [zB]);rfl)):SoundI Tryz.prog AQ m:=q0r mixed 600 m (Eq.mpr (e w0 w1 w2 w3 w4 w5 w6 w7) h)
def gyd10[Ghost]{a4 a5 a6 a7 a8 a9:Prop}(w0:a0)(w1:a1)(w2:a2)(w3:a3)(w4:a4)(w5:a5)(w6:a6)(w7:a7)(w8:a8)(w9:a9)(h:q)(e:a0->a1->a2->a3->a4->a5->a6->a7->a8->a9->run Tryz.prog AQ 600 m=q:=by (intro w0 w1 w2 w3 w4 w5 w6 w7 w8 w9;simp (maxSteps:=3000000) only [w0,w1,w2,w3,w4,w5,w6,w7,w8,w9,Ty.dflt,go_sem,↓zA,↓reduceIte,↓reduceDIte];(try simp only [zB]);rfl)):SoundI Tryz.prog AQ m:=q0r mixed 600 m (Eq.mpr (e w0 w1 w2 w3 w4 w5 w6 w7 w8 w9) h)
abbrev I64:Ty:=.int .i64
abbrev PrinT:Ty:=.prod (.slice .str) .str
abbrev KeyT:Ty:=.prod I64 (.prod I64 (.slice .u8))
abbrev SetT:Ty:=.prod I64 (.prod (.slice KeyT) (.prod .str (.prod I64 I64)))
abbrev Prin:=PrinT.den
abbrev Key:=KeyT.den
abbrev KSet:=SetT.den
abbrev rI(n:Int):SV:=.raw (.int .i64 n)
abbrev rB(b:Bool):SV:=.raw (.bool b)
abbrev rS(s:ByteArray):SV:=.raw (.string s)
set_option maxHeartbeats 4000000
abbrev inW(x:Int):Prop:=0<=x∧x<4294967296
def xorW(a b:Int):Int:=((a.toNat^^^ b.toNat:Nat):Int)
def andW(a b:Int):Int:=((a.toNat&&& b.toNat:Nat):Int)
def rotW(n:Nat)(x:Int):Int:=x / 2^ n+x*2^ (32-n)%4294967296
def chW(e f g:Int):Int:=xorW (andW e f) (andW (4294967295-e) g)
def majW(a b c:Int):Int:=xorW (xorW (andW a b) (andW a c)) (andW b c)
variable {a:Int}
def q7N{b:Int}(ha:inW a)(hb:inW b):inW (xorW a b):=by have:a.toNat^^^ b.toNat<2^ 32:=Nat.xor_lt_two_pow (by omega) (by omega);unfold xorW;omega
def q3P{b:Int}(ha:inW a)(_:inW b):inW (andW a b):=by have:a.toNat&&& b.toNat<=a.toNat:=Nat.and_le_left;unfold andW;omega
theorem q3n{n:Nat}{x:Int}(h1:1<=n)(h2:n<=31)(hx:inW x):inW (rotW n x):=by
 obtain ⟨x,rfl⟩:∃m:Nat,x=m:=⟨x.toNat,by omega⟩
 unfold rotW;have hx':x<2^ n*2^ (32-n):=by rw [<-CY,show n+ (32-n)=32 by omega];omega
 have e1:((x:Int) / 2^ n)=((x / 2^ n:Nat):Int):=by simp
 have e2:((x:Int)*2^ (32-n)%4294967296)=((x*2^ (32-n)%4294967296:Nat):Int):=by simp
 rw [e1,e2];have h3:x / 2^ n<2^ (32-n):=Nat.div_lt_of_lt_mul hx';have h4:x*2^ (32-n)%4294967296=(x%2^ n)*2^ (32-n):=by
  have:(4294967296:Nat)=2^ n*2^ (32-n):=by rw [<-CY,show n+ (32-n)=32 by omega]
  rw [this,Nat.mul_mod_mul_right]
 have h5:x%2^ n<2^ n:=Dc _ (Nat.two_pow_pos n);have h6:(x%2^ n+1)*2^ (32-n)<=2^ n*2^ (32-n):=A4 _ h5;rw [<-CY,show n+ (32-n)=32 by omega,Nat.add_mul] at h6;rw [h4];generalize x / 2^ n=u at*;generalize x%2^ n*2^ (32-n)=v at*;generalize 2^ (32-n)=w at*;clear e1 e2 h4 h5 hx';omega
variable {k:IntKind}
theorem z9V{b:Int}(hk:32<=k.bits)(ha:inW a)(hb:inW b):((BitVec.ofInt k.bits a^^^ BitVec.ofInt k.bits b).toNat:Int)=xorW a b:=by
 obtain ⟨a,rfl⟩:∃m:Nat,a=m:=⟨a.toNat,by omega⟩
 obtain ⟨b,rfl⟩:∃m:Nat,b=m:=⟨b.toNat,by omega⟩
 have hp:2^ 32<=2^ k.bits:=BA (by decide) hk;unfold xorW;rw [BitVec.toNat_xor,AO,AO,AU,AU,AV (by omega),AV (by omega)];rfl
theorem j1t{b:Int}(hk:32<=k.bits)(ha:inW a)(hb:inW b):((BitVec.ofInt k.bits a&&& BitVec.ofInt k.bits b).toNat:Int)=andW a b:=by
 obtain ⟨a,rfl⟩:∃m:Nat,a=m:=⟨a.toNat,by omega⟩
 obtain ⟨b,rfl⟩:∃m:Nat,b=m:=⟨b.toNat,by omega⟩
 have hp:2^ 32<=2^ k.bits:=BA (by decide) hk;unfold andW;rw [BitVec.toNat_and,AO,AO,AU,AU,AV (by omega),AV (by omega)];rfl
theorem w32(ha:inW a):IntKind.u32.wrap a=a:=by have h:IntKind.u32.wrap a=a%4294967296:=rfl;rw [h];omega
def xor32{b:Int}(ha:inW a)(hb:inW b):xorK .u32 a b=xorW a b:=by unfold xorK;rw [z9V (by decide) ha hb,w32 (q7N ha hb)]
def and32{b:Int}(ha:inW a)(hb:inW b):andK .u32 a b=andW a b:=by unfold andK;rw [j1t (by decide) ha hb,w32 (q3P ha hb)]

abbrev W32:Int:=4294967296
def byI(b:List UInt8)(j:Nat):Int:=((b.getD j 0).toNat:Int)
def j6f(b:List UInt8)(j:Nat):0<=byI b j∧byI b j<256:=by have:=(b.getD j 0).toNat_lt;unfold byI;omega
def wdP(b:List UInt8)(t:Nat):Nat->Int
 |0=>0
 |i+1=>256*wdP b t i+byI b (4*t+i)
theorem j1Q(b:List UInt8)(t:Nat):∀i,i<=4->inW (wdP b t i)∧wdP b t i<256^ i
 |0,_=>by simp [wdP,inW]
 |i+1,hi=>by
  have:=j1Q b t i (by omega);have hb:=j6f b (4*t+i);have h3:i=0∨i=1∨i=2∨i=3:=by omega
  rcases h3 with rfl|rfl|rfl|rfl<;> (simp only [wdP] at*;simp at*;omega)
def sg0(x:Int):Int:=xorW (xorW (rotW 7 x) (rotW 18 x)) (x / 8)
def sg1(y:Int):Int:=xorW (xorW (rotW 17 y) (rotW 19 y)) (y / 1024)
def wS(b:List UInt8)(t:Nat):Int:=if h:t<16 then wdP b t 4 else (sg1 (wS b (t-2))+wS b (t-7)+sg0 (wS b (t-15))+wS b (t-16))%W32
termination_by t
variable {b:List UInt8}{t:Nat}
def z1L(h:t<16):wS b t=wdP b t 4:=by rw [wS,dif_pos h]
def z1Z(h:16<=t):wS b t=(sg1 (wS b (t-2))+wS b (t-7)+sg0 (wS b (t-15))+wS b (t-16))%W32:=by rw [wS,dif_neg (by omega)]
def q2N(b:List UInt8)(t:Nat):inW (wS b t):=by
 rcases AI t 16 with h|h
 . rw [z1L h];exact (j1Q b t 4 (Af _)).1
 rw [z1Z h];unfold inW W32;omega
def wL(b:List UInt8)(t:Nat):List Int:=(List.range 64).map fun j=>if j<t then wS b j else 0
def q4m(b:List UInt8)(t:Nat):(wL b t).length=64:=by simp [wL]
def q1c(b:List UInt8){j:Nat}(h:j<t)(h2:j<64):(wL b t).getD j 0=wS b j:=by simp [wL,Aa,h2,h]
theorem q4n(b:List UInt8)(h:t<64):(wL b t).set t (wS b t)=wL b (t+1):=by
 apply Aw
 . simp [wL]
 intro j h1 h2;simp [wL] at h1 h2;rw [Bn];simp only [wL,AG,Ay];split
 . subst_vars;rw [if_pos (by omega)]
 rename_i hne;by_cases hj:j<t
 . rw [if_pos hj,if_pos (by omega)]
 rw [if_neg hj,if_neg (by omega)]
theorem q7d(b:List UInt8):wL b 0=List.replicate 64 0:=by unfold wL;rw [B9];refine ⟨by rw [AX,Bo],fun x hx=> ?_⟩;obtain ⟨j,_,rfl⟩:=By.1 hx;exact if_neg (Bl _)
def kS(t:Nat):Int:=dat_ref04_constants.getD t 0
def bs1(e:Int):Int:=xorW (xorW (rotW 6 e) (rotW 11 e)) (rotW 25 e)
def bs0(a:Int):Int:=xorW (xorW (rotW 2 a) (rotW 13 a)) (rotW 22 a)
def t1S(k w:Int)(v:List Int):Int:=v.getD 7 0+bs1 (v.getD 4 0)+chW (v.getD 4 0) (v.getD 5 0) (v.getD 6 0)+k+w
def t2S(v:List Int):Int:=bs0 (v.getD 0 0)+majW (v.getD 0 0) (v.getD 1 0) (v.getD 2 0)
def rnd(k w:Int)(v:List Int):List Int:=
 [(t1S k w v+t2S v)%W32,v.getD 0 0,v.getD 1 0,v.getD 2 0,(v.getD 3 0+t1S k w v)%W32,v.getD 4 0,v.getD 5 0,v.getD 6 0]
def rnds(b:List UInt8)(h:List Int):Nat->List Int
 |0=>h
 |t+1=>rnd (kS t) (wS b t) (rnds b h t)
abbrev inWs(v:List Int):Prop:=v.length=8∧∀x∈v,inW x
variable {v:List Int}
def q0j(h:inWs v)(i:Nat)(hi:i<8):inW (v.getD i 0):=by rw [Aa,Ac (by omega)];exact h.2 _ (Bu _)
def j6A{k w:Int}(h:inWs v):inWs (rnd k w v):=by
 refine ⟨rfl,fun x hx=> ?_⟩;have hm:∀y:Int,inW (y%W32):=fun y=>by unfold inW W32;omega
 simp only [rnd,Bm,CC,or_false] at hx;rcases hx with rfl|rfl|rfl|rfl|rfl|rfl|rfl|rfl
 . exact hm _
 . exact q0j h 0 (by decide)
 . exact q0j h 1 (by decide)
 . exact q0j h 2 (by decide)
 . exact hm _
 . exact q0j h 4 (by decide)
 . exact q0j h 5 (by decide)
 exact q0j h 6 (by decide)
def q1t{b:List UInt8}{h:List Int}(hh:inWs h):∀t,inWs (rnds b h t)
 |0=>hh
 |t+1=>j6A (q1t hh t)
def j7w:∀t,t<64->inW (kS t):=by decide
def blkS(b:List UInt8)(h:List Int):List Int:=(List.range 8).map fun i=>(h.getD i 0+ (rnds b h 64).getD i 0)%W32
def blkP(b:List UInt8)(h:List Int)(n:Nat):List Int:=(List.range 8).map fun i=>if i<n then (h.getD i 0+ (rnds b h 64).getD i 0)%W32 else h.getD i 0
end Go.Proofs.YthbcodbcndiapaaGreatDoor
namespace Go.Sx
section
open Go
variable [Ghost] {P:Program} {AQ:Ex->List SV->List SObj->Prop} {k0:Nat} {k:List IT} {t:List SV} {H:List SObj}

structure Cln (cs:List SV):Prop where
 ren:∀σ,SV.renL σ cs=cs
 bel:∀n,SV.belL n cs=true
 shut:∀n H,SV.sealBL n H cs=some (cs,True)
 le:SV.leAL cs cs
def z5d{n:Nat}{l:List SObj}:sealHL n H l []=True:=by simp [sealHL]
def z2I{n:Nat}{o:SObj}{l l':List SObj}:sealHL n H (o :: l) (.dead :: l')=(o.unmarked∧sealHL n H l l'):=by simp [sealHL]
attribute [go_sem] z5d z2I
end
section
open Go
variable [Ghost] {P:Program} {AQ:Ex->List SV->List SObj->Prop} {k0:Nat} {k:List IT} {t:List SV} {H:List SObj}

def afterR(P:Program)(AQ:Ex->List SV->List SObj->Prop)(d:Option Tmp)(m:IM):Out->List SObj->Prop
 |.ret s,H'=>SoundI P AQ {m with tmps:=putT m.tmps d s,heap:=H'}
 |.pan s,H'=>AQ (.pan s) [] H'
def q0s{G:List Nat}{f:FuncId}{args args0:List SV}{H0 H1:List SObj}{o:Out}{d:Option Tmp}{m:IM}(hs:List Nat)(hp:PE P f args0 H0 o H1)(hargs:args=SV.renL (sig hs m.heap.length) args0)(hnd:hs.Nodup)
 (ha:atH (sig hs m.heap.length) m.heap hs H0)(hb:SV.belL H0.length args0=true)(hbh:belH H0.length H0=true)(hG:SameG G m.heap (mgA (sig hs m.heap.length) hs H1 m.heap))
 (h:afterR P AQ d m (o.ren (sig hs m.heap.length)) (mgA (sig hs m.heap.length) hs H1 m.heap)):CallR P AQ G f args d m:=by
 subst hargs;refine ⟨hp.1,VCall.g (VCall.fr hs hnd ha hb hbh hp.2 ?_)⟩;rintro o' H' _ ⟨rfl,rfl⟩;cases o' with
 |ret s=>exact ⟨fun _=>hG,h⟩
 |pan s=>exact h

variable {cs:List SV}
def z8N{C:Cx}{h:Nat}{T:TypeId}{cs':List SV}(hw:Wd C H)(hH:H[h]?=some (.cells T cs))(hd:∀vs,SV.denL C cs vs->SV.denL C cs' vs):Wd C (H.set h (.cells T cs'))∧Ext ⟨C,H⟩ C (H.set h (.cells T cs')):=by
 have hget:∀ {i y},(H.set h (.cells T cs'))[i]?=some y->∃y',H[i]?=some y'∧y'.live=y.live∧(i≠h->y'=y):=fun {i y} hy=>by
  by_cases e:i=h
  . subst e;rw [Ar (Ag.1 hH).1] at hy;cases hy;exact ⟨_,hH,rfl,fun hn=>absurd rfl hn⟩
  rw [Aq (Ne.symm e)] at hy;exact ⟨y,hy,rfl,fun _=>rfl⟩
 have hown:∀b,OwnB C (H.set h (.cells T cs')) b->OwnB C H b:=fun b ⟨i,y,hy,hl,hb⟩=>by obtain ⟨y',h1,h2,_⟩:=hget hy;exact ⟨i,y',h1,by rw [h2];exact hl,hb⟩
 refine ⟨⟨by rw [Bk];exact hw.n,fun i y hy=> ?_,fun b hb=>hw.own b (hown b hb),fun i j y z b hy hz hl hl' hb hb'=> ?_,hw.imm⟩,⟨Evo.refl _,Af _,rfl,rfl,rfl,fun _ _ _=>rfl,fun _ h=>.inl h,fun b hb=>.inr (hown b hb),fun _ _ hm=>q3R hH rfl hm⟩⟩
 . by_cases e:i=h
   . subst e;rw [Ar (Ag.1 hH).1] at hy;cases hy;obtain ⟨b,vs,h1,h2,h3⟩:=hw.obj i _ hH;exact ⟨b,vs,h1,h2,hd vs h3⟩
   rw [Aq (Ne.symm e)] at hy;exact hw.obj i y hy
 obtain ⟨y',h1,h2,_⟩:=hget hy;obtain ⟨z',h3,h4,_⟩:=hget hz;exact hw.inj i j y' z' b h1 h3 (by rw [h2];exact hl) (by rw [h4];exact hl') hb hb'
theorem q9I{k:List It}{tm:List SV}(h off:Nat)(ty:Ty){T:TypeId}(hH:H[h]?=some (.cells T cs))(hi:cs[off]?=some (.raw (.slice none 0 0)))(hs:Sound P AQ ⟨k0,k,tm,(H.set h (.cells T (cs.set off (.bld H.length ty 0))))++ [.row ty []]⟩):Sound P AQ ⟨k0,k,tm,H⟩:=by
 intro E r n C a h0 hd;obtain ⟨C',hw,g1,g2,g3⟩:=z1P (t:=ty) hd.wd;have hH':(H++ [SObj.row ty []])[h]?=some (.cells T cs):=by rw [Ai (Ag.1 hH).1];exact hH
 obtain ⟨q1,q2⟩:=z8N (cs':=cs.set off (.bld H.length ty 0)) g1 hH' (fun vs hv=>by
  obtain ⟨v,hv',hd'⟩:=q1Z hv hi;rw [SV.den] at hd';subst hd';have:=q2k (i:=off) hv g3;have he:vs.set off (.slice none 0 0)=vs:=by
   apply Bf;intro j;by_cases e:j=off
   . subst e;rw [Ar (Ag.1 hv').1,hv']
   rw [Aq (Ne.symm e)]
  rwa [he] at this)
 have hset:(H++ [SObj.row ty []]).set h (.cells T (cs.set off (.bld H.length ty 0)))=H.set h (.cells T (cs.set off (.bld H.length ty 0)))++ [.row ty []]:=List.set_append_left _ _ (Ag.1 hH).1;rw [hset] at q1 q2;have:=hs E r n C' a h0 ⟨q1,hd.ext.trans (g2.trans q2),DefOk.next (g2.trans q2) hd.defs,q0h g2.evo hd.tmps⟩;rw [<-hw];exact this
def q4e(h off:Nat)(ty:Ty){T:TypeId}{td:List IT}(hp:plainT td=true)(hH:H[h]?=some (.cells T cs))(hi:cs[off]?=some (.raw (.slice none 0 0)))(hs:SoundI P AQ ⟨k0,td,t,(H.set h (.cells T (cs.set off (.bld H.length ty 0))))++ [.row ty []]⟩):SoundI P AQ ⟨k0,td,t,H⟩:=
 q0f (fun _ hr=>q9I h off ty hH hi (q0g hs hr)) hp
theorem rnE{p q:Prop}(h:q)(e:p=q:=by (simp only [afterR,Out.ren,SV.ren,mgA,sig,SObj.ren,SV.renL,AH,Ax,List.append_assoc,Bh,Bi,List.set,List.map,Ah];rfl)):p:=Eq.mpr e h
end
section
open Go
variable [Ghost] {P:Program} {AQ:Ex->List SV->List SObj->Prop} {k0:Nat} {k:List IT} {t:List SV} {H:List SObj}

def z0c{k:List It}(A A' G:List SObj){ty:Ty}{xs:List ty.den}(hk:k0<=A.length)(hA:A=A'.map (SObj.ren (shift A.length (A.length+G.length))))(hb:belH (A.length+1) A'=true)(hbt:SV.belL (A.length+1) t=true)
 (hl:leT (shift A.length (A.length+G.length)) t t)(hs:Sound P AQ ⟨k0,k,t,A'++ [.row ty xs]⟩):Sound P AQ ⟨k0,k,t,A++G++ [.row ty xs]⟩:=by
 intro E r n C a h0 hd;have hlen:A.length=A'.length:=by have:=congrArg List.length hA;rwa [AX] at this
 have hsh:∀h,h<A.length->shift A.length (A.length+G.length) h=h:=fun h hh=>by unfold shift;rw [if_neg (by omega)]
 have hshn:shift A.length (A.length+G.length) A.length=A.length+G.length:=by unfold shift;rw [if_pos rfl]
 have hd':Den E (C.ren (shift A.length (A.length+G.length)) (A'++ [SObj.row ty xs]).length) t (A'++ [.row ty xs]) a:=by
  refine q7x h0.1 hd hl (by rw [Ab,<-hlen];exact hbt) (fun h o ho _=> ?_) (q4D fun h o ho=> ?_) (fun h h' o o' ho ho' _ _ e=> ?_) (fun h hh=>hsh h (An hh hk)) (by rw [Ab,<-hlen];exact As hk (CB _ _)) (fun m hm0 hm=> ?_)
  . rcases q0p ho with ⟨hh,ho⟩ | ⟨hh,rfl⟩
    . rw [hsh h (by omega),List.append_assoc,Ai (by omega)];have:=congrArg (fun l=>l[h]?) hA;simp only [AF,ho] at this;exact this
    rw [hh,<-hlen,hshn,<-Ab,Ao (Af _),Nat.sub_self];rfl
  . rcases q0p ho with ⟨hh,ho⟩ | ⟨hh,rfl⟩
    . rw [Ab,<-hlen];exact q2I hb ho
    rfl
  . have h1:=(Ag.1 ho).1;have h2:=(Ag.1 ho').1;rw [Ab,Bx] at h1 h2;unfold shift at e;split at e<;>split at e<;>omega
  have hm:=hm;have hpos:0<A.length:=An hm0 (As h0.1 hk);rw [List.append_assoc,Ai hpos] at hm;rw [Ai (by omega)];have h1:=congrArg (fun l=>l[0]?) hA;simp only [AF,hm] at h1;cases h2:A'[0]? with
  |none=>rw [h2] at h1;simp at h1
  |some o=>rw [h2] at h1;cases o<;>simp [SObj.ren] at h1;rw [h1]
 exact hs E r n (C.ren (shift A.length (A.length+G.length)) (A'++ [SObj.row ty xs]).length) a h0 hd'
def z4G(A A' G:List SObj){ty:Ty}{xs:List ty.den}{td:List IT}(hp:plainT td=true)(hH:H=A++G++ [.row ty xs])(hk:k0<=A.length)(hA:A=A'.map (SObj.ren (shift A.length (A.length+G.length))))(hb:belH (A.length+1) A'=true)(hbt:SV.belL (A.length+1) t=true)
 (hl:leT (shift A.length (A.length+G.length)) t t)(hs:SoundI P AQ ⟨k0,td,t,A'++ [.row ty xs]⟩):SoundI P AQ ⟨k0,td,t,H⟩:=by
 subst hH;exact q0f (fun _ hr=>z0c A A' G hk hA hb hbt hl (q0g hs hr)) hp
end
open Go
variable {P:Program} {AQ:Ex->List SV->List SObj->Prop} {k0:Nat} {k:List IT} {t:List SV} {H:List SObj}

def CutQ(P:Program)(AQ:Ex->List SV->List SObj->Prop)(k0:Nat)(k:List IT)(T0:List SV):Ex->List SV->List SObj->Prop
 |.normal,t,H=>SoundI P AQ ⟨k0,k,t,H⟩
 |.pan s,_,H=>AQ (.pan s) T0 H
 |_,_,_=>False
def z8y{T0:List SV}(h:SoundI P AQ ⟨k0,k,t,H⟩):CutQ P AQ k0 k T0 .normal t H:=h
def z3H{T0 t':List SV}{s:SV}(h:AQ (.pan s) T0 H):CutQ P AQ k0 k T0 (.pan s) t' H:=h
def SameBut(ws:List Nat)(t t':List SV):Prop:=t'.length=t.length∧∀i,i ∉ ws->t'[i]?=t[i]?
def SameBut.put{ws:List Nat}{t t':List SV}(h:SameBut ws t t'){d:Option Tmp}(hd:∀e,d=some e->e∈ws)(s:SV):SameBut ws t (putT t' d s):=by
 cases d with
 |none=>exact h
 |some e=>exact ⟨by simp [putT,h.1],fun i hi=>by
  have hne:e≠i:=fun e'=>hi (e'▸hd e rfl);simp only [putT];rw [Aq hne]
  exact h.2 i hi⟩
def z0y:∀ (ws:List Nat) (t:List SV),(maskT ws t).length=t.length
 | [],t=>rfl
 |d :: ws,t=>by show (maskT ws (t.set d .any)).length=_;rw [z0y ws,Bk]
def z3u:∀ (ws:List Nat) (t:List SV) (i:Nat) (s:SV),(maskT ws t)[i]?=some s->s= .any∨(i ∉ ws∧t[i]?=some s)
 | [],t,i,s,h=>.inr ⟨by simp,h⟩
 |d :: ws,t,i,s,h=>by
  have h':(maskT ws (t.set d .any))[i]?=some s:=h;rcases z3u ws _ i s h' with rfl| ⟨h1,h2⟩
  . exact .inl rfl
  by_cases e:d=i
  . subst e;rw [List.getElem?_set] at h2;simp at h2;exact .inl h2.2.symm
  rw [Aq e] at h2;exact .inr ⟨by simp [h1];exact fun q=>e q.symm,h2⟩
def z8C:∀ {l l':List SV},l.length=l'.length->(∀ (i:Nat) s s',l[i]?=some s->l'[i]?=some s'->s'= .any∨s'=s)->leL l l'
 | [],[],_,_=>trivial
 | [],_ :: _,h,_=>by simp at h
 |_ :: _,[],h,_=>by simp at h
 |s :: l,s' :: l',h,hp=>by
  refine ⟨?_,z8C (by simpa using h) fun i x x' hx hx'=>hp (i+1) x x' (by simpa using hx) (by simpa using hx')⟩;rcases hp 0 s s' rfl rfl with rfl|rfl
  . exact SV.le_any s
  exact SV.le_refl _
theorem SameBut.le{ws:List Nat}{t t':List SV}(h:SameBut ws t t'):leL t' (maskT ws t):=
 z8C (by rw [z0y,h.1]) fun i s s' hs hs'=>by
  rcases z3u ws t i s' hs' with rfl| ⟨h1,h2⟩
  . exact .inl rfl
  right;rw [h.2 i h1,h2] at hs;cases hs;rfl
theorem z9Z{k:List It}{all:Array Oper}{G:List Nat}{kI:List IT}{ws:List Nat}{S:Array Bool}{t0:List SV}(hr:RelT P kI k)(hS:Region.ready .any all S= [])(hW:∀ (i:Nat) o,all[i]?=some o->S.getD i false=true->∀d,o.dst=some d->d∈ws):
 ∀ (fuel:Nat) (listed:Array Bool) (t:List SV) (H:List SObj),SameBut ws t0 t->listed.size=S.size->(∀j,listed.getD j false=true->S.getD j false=true)->AnyV P (CutQ P AQ k0 kI (maskT ws t0)) k0 [] all G fuel listed t H->
  ∀ (E:EnD) (r:Option Nat) (n:Nat) (C:Cx) (a:Act),Fit E r k0->Den E C t H a->wpAnyIn (Fw r) n P .any all (afterT (Fw r) n P E (conc E AQ) k) fuel listed a C.w:=by
 have leaf:∀ {t:List SV} {H:List SObj},Sound P (CutQ P AQ k0 kI (maskT ws t0)) ⟨k0,[],t,H⟩->∀ (E:EnD) (r:Option Nat) (n:Nat) (C:Cx) (a:Act),Fit E r k0->Den E C t H a->wpT (Fw r) n P E (conc E AQ) k a C.w:=by intro t H h E r n C a h0 hd;have h1:=h E r n C a h0 hd;simp only [wpT] at h1;obtain ⟨C',t',H',h2,h3,h4⟩:=h1;rw [<-h3];exact q0g (h2:SoundI P AQ ⟨k0,kI,t',H'⟩) hr E r n C' a h0 h4
 intro fuel;induction fuel with
 |zero=>exact fun listed t H _ _ _ h E r n C a h0 hd=>⟨h.1,leaf h.2 E r n C a h0 hd⟩
 |succ fuel ih=>
  intro listed t H hb hsz hsub h E r n C a h0 hd;refine ⟨fun h9=>leaf (h.1 h9) E r n C a h0 hd,fun i hi=> ?_⟩;obtain ⟨o,ho,h1⟩:=h.2 i hi;obtain ⟨hun,o',ho',hall⟩:=mem_ready.1 hi;have hlt:i<S.size:=by
   rcases AI i listed.size with q|q
   . omega
   simp [BD q] at hun
  have hiS:S.getD i false=true:=by
   cases hq:S.getD i false with
   |true=>rfl
   |false=>have:i∈Region.ready .any all S:=mem_ready.2 ⟨by simp [hlt] at hq⊢;exact hq,o',ho',fun e he hb'=>hsub _ (hall e he hb')⟩;rw [hS] at this;cases this
  have hwd:∀d,o.dst=some d->d∈ws:=hW i o ho hiS;have hsub':∀j,(listed.setIfInBounds i true).getD j false=true->S.getD j false=true:=fun j hj=>by
   by_cases e:i=j
   . subst e;exact hiS
   rw [getD_set_ne false e] at hj;exact hsub j hj
  have hsz':(listed.setIfInBounds i true).size=S.size:=by simpa using hsz
  unfold wpOpIn;simp only [ho];rcases h1 with ⟨hw,hop⟩ | ⟨hw,hk⟩
  . rw [if_pos (q2r hd.tmps hw)];refine hop E C r n a _ _ hd.wd hd.defs.2 (fun x _=>q2g hd.tmps x) ?_ ?_
    . intro s v H' C' hk hw' hx hs;exact ih _ _ _ (hb.put hwd s) hsz' hsub' hk.2 E r n C' _ h0 (q3Z hd hw' hx hs)
    intro s v H' C' hk hw' hx hs;exact ⟨C',maskT ws t0,H',s,v,hk,rfl,hs,rfl,hw',hx.ext hd.ext,(DefOk.stp hx hd.defs).fin,.inr (q2L hb.le (q0h hx.evo hd.tmps))⟩
  rw [if_neg (by rw [q2r hd.tmps hw];simp)];exact ⟨fun f _=>q4U r f,ih _ _ _ (hb.put hwd _) hsz' hsub' hk.2 E r n C _ h0 (q3Z hd hd.wd (.of (Ext.refl _ _)) (by rw [SV.den];rfl))⟩
theorem z1a{all:Array Oper}:∀ (fuel:Nat) (listed:Array Bool) (l:List (Bool×OpI)),planL P all fuel listed=some l->
 ∃S:Array Bool,Region.ready .any all S= []∧S.size=listed.size∧(∀j,listed.getD j false=true->S.getD j false=true)∧∀i,S.getD i false=true->listed.getD i false=true∨∃o,all[i]?=some o∧∀d,o.dst=some d->d∈IC.wr (.drw l)
 |0,listed,l,h=>by
  unfold planL at h;split at h
  . rename_i he;exact ⟨listed,by simpa using he,rfl,fun _ h=>h,fun _ h=>.inl h⟩
  cases h
 |n+1,listed,l,h=>by
  unfold planL at h;split at h
  . rename_i he;exact ⟨listed,by simpa using he,rfl,fun _ h=>h,fun _ h=>.inl h⟩
  split at h
  . rename_i i fl hch;split at h
    . rename_i o ho;split at h
      . rename_i io hco;split at h
        . rename_i l' hl';split at h
          . cases h;obtain ⟨S,h1,h2,h3,h4⟩:=z1a n _ l' hl';refine ⟨S,h1,by simpa using h2,fun j hj=>h3 j (getD_set_true hj),fun j hj=> ?_⟩;rcases h4 j hj with q| ⟨o',q1,q2⟩
            . by_cases e:i=j
              . subst e;refine .inr ⟨o,ho,fun d hd=> ?_⟩;have hio:=(q0H hco).2;simp only [IC.wr,Cu,BV];left;unfold OpI.wr;split<;>simp [hio,hd]
              rw [getD_set_ne false e] at q;exact .inl q
            refine .inr ⟨o',q1,fun d hd=> ?_⟩;have:=q2 d hd;simp only [IC.wr,Cu,BV] at this⊢;exact .inr this
          cases h
        cases h
      cases h
    cases h
  cases h
theorem z2N{l:List (Bool×OpI)}(G:List Nat)(hm:P.follows .mixedOrders=true)(h:SoundI P (CutQ P AQ k0 k (maskT (IC.wr (.drw l)) t)) ⟨k0,[.dops G l],t,H⟩):SoundI P AQ ⟨k0,.ic (.drw l) :: k,t,H⟩:=q0f (fun td' hr=>by
 obtain ⟨c',r,rfl,hc,hr⟩:=hr;obtain ⟨id,all,rfl,hl⟩:=q0L hc;obtain ⟨S,h1,h2,h3,h4⟩:=z1a _ _ _ hl;intro E r' n C a h0 hd;simp only [wpT];have hd':Den E C.drew t H a:=⟨q2A hd.wd,hd.ext.trans (q1H C H),DefOk.next (q1H C H) hd.defs,q0h (q2m C) hd.tmps⟩
 have hno:∀j,(Array.replicate all.size false).getD j false=true->False:=fun j hj=>by
  rcases AI j all.size with q|q
  . simp [q] at hj
  simp [q] at hj
 refine wpIn_region_any hm (z9Z hr h1 (fun i o ho hi d hd=> ?_) _ _ _ _ ⟨rfl,fun _ _=>rfl⟩ h2.symm h3 (h all _ _ [] hl rfl) E r' n C.drew a h0 hd');rcases h4 i hi with q| ⟨o',q1,q2⟩
 . exact (hno i q).elim
 rw [ho] at q1;cases q1
 exact q2 d hd) rfl

def ZInv(q:Nat->Prop)(w0:World)(C:Cx)(H:List SObj):Prop:=∀b,q b->b<C.w.heap.size∧¬C.I b∧¬OwnB C H b∧C.w.heap[b]?=w0.heap[b]?

def z1Y{E:En}{C:Cx}(hx:Ext E C H){b:Nat}(h1:b<E.C.w.heap.size)(h2:¬E.C.I b)(h3:¬OwnB E.C E.H b):b<C.w.heap.size∧¬C.I b∧¬OwnB C H b∧C.w.heap[b]?=E.C.w.heap[b]?:=by
 refine ⟨An h1 hx.size,fun hi=> ?_,fun ho=> ?_,hx.frame b h1 h3⟩
 . rcases hx.immNew b hi with g| ⟨g|g,_⟩
   . exact h2 g
   . exact absurd h1 (AT.2 g)
   exact h3 g
 rcases hx.ownNew b ho with g|g
 . exact absurd h1 (AT.2 g)
 exact h3 g

@[reducible] def frzG(q:Nat->Prop)(w0:World):Ghost where
 inv0:=fun _ C H=>ZInv q w0 C H
 fin:=fun E _ _ ds=>ds=E.base∧True
 toFin0:=fun _ _=>⟨rfl,trivial⟩
 next0:=fun hx h b hb=>by obtain ⟨h1,h2,h3,h4⟩:=h b hb;obtain ⟨g1,g2,g3,g4⟩:=z1Y hx h1 h2 h3;exact ⟨g1,g2,g3,g4.trans h4⟩
 same0:=fun _ e _ hi ho _ _ h b hb=>by obtain ⟨h1,h2,h3,h4⟩:=h b hb;rw [e];exact ⟨h1,fun x=>(hi b x).elim h2 h3,fun x=>h3 (ho b x),h4⟩

def simV(u v:Value):Prop:=v=u∨(∃k n m,u= .int k n∧v= .int k m)∨∃s s',u= .string s∧v= .string s'∧s'.size<=140737488355328
def simB(o o':Option Obj):Prop:=o'=o∨∃ (vs vs':List Value) (T:TypeId) (fz:Nat×Nat),o=some (.cells vs.toArray T fz)∧o'=some (.cells vs'.toArray T fz)∧vs'.length=vs.length∧∀ (i:Nat) u v,vs[i]?=some u->vs'[i]?=some v->simV u v
theorem simV.trans{u v w:Value}(h:simV u v)(k:simV v w):simV u w:=by
 rcases h with rfl| ⟨k',n,m,rfl,rfl⟩ | ⟨s,s',rfl,rfl,h1⟩
 . exact k
 . rcases k with rfl| ⟨k2,n2,m2,h1,rfl⟩ | ⟨s,s',h1,_⟩
   . exact .inr (.inl ⟨_,_,_,rfl,rfl⟩)
   . cases h1;exact .inr (.inl ⟨_,_,_,rfl,rfl⟩)
   cases h1
 rcases k with rfl| ⟨k2,n2,m2,h1,rfl⟩ | ⟨s2,s3,h2,rfl,h3⟩
 . exact .inr (.inr ⟨_,_,rfl,rfl,h1⟩)
 . cases h1
 cases h2;exact .inr (.inr ⟨_,_,rfl,rfl,h3⟩)
def SInv(q:Nat->Prop)(w0:World)(E:En)(C:Cx)(H:List SObj):Prop:=
 ∀b,q b->((E.C.w.heap.size<=b∨OwnB E.C E.H b)∧¬TBlk b)∧b<C.w.heap.size∧¬C.I b∧¬OwnB C H b∧Unf C.w b∧simB w0.heap[b]? C.w.heap[b]?

@[reducible] def scrG(q:Nat->Prop)(w0:World):Ghost where
 inv0:=fun E C H=>SInv q w0 E.toEn C H
 fin:=fun E C H ds=>ds=E.base∧TabE E.toEn C H∧SInv q w0 E.toEn C H
 toFin0:=fun ht h=>⟨rfl,ht,h⟩
 next0:=fun hx h b hb=>by obtain ⟨h0,h1,h2,h3,h4,h5⟩:=h b hb;obtain ⟨g1,g2,g3,g4⟩:=z1Y hx h1 h2 h3;refine ⟨h0,g1,g2,g3,h4.keep g4,?_⟩;have g4':=g4;simp only at g4';rw [g4'];exact h5
 same0:=fun _ e _ hi ho _ _ h b hb=>by obtain ⟨h0,h1,h2,h3,h4,h5⟩:=h b hb;rw [e];exact ⟨h0,h1,fun x=>(hi b x).elim h2 h3,fun x=>h3 (ho b x),h4,h5⟩

def At(q:Nat->Prop)(w0:World)(t:Ty)(x:t.den)(b o:Nat):Prop:=q b∧∃vs,t.rel q w0 x vs∧∀j u,vs[j]?=some u->w0.cell? ⟨b,o+j,none⟩=some u
def At.fst{q:Nat->Prop}{w0:World}{s t:Ty}{x:(Ty.prod s t).den}{b o:Nat}(h:At q w0 (.prod s t) x b o):At q w0 s x.1 b o:=by obtain ⟨hq,vs,⟨v1,v2,rfl,h1,h2⟩,hc⟩:=h;exact ⟨hq,v1,h1,fun j u hj=>hc j u (by rw [Ai (Ag.1 hj).1];exact hj)⟩
def At.snd{q:Nat->Prop}{w0:World}{s t:Ty}{x:(Ty.prod s t).den}{b o:Nat}(h:At q w0 (.prod s t) x b o):At q w0 t x.2 b (o+s.size):=by obtain ⟨hq,vs,⟨v1,v2,rfl,h1,h2⟩,hc⟩:=h;refine ⟨hq,v2,h2,fun j u hj=> ?_⟩;rw [Nat.add_assoc];refine hc (s.size+j) u ?_;rw [<-s.rel_size _ _ h1,Ao (CB _ _),Cs];exact hj
def Sl(q:Nat->Prop)(w0:World)(t:Ty)(xs:List t.den)(v:Value):Prop:=(Ty.slice t).rel q w0 xs [v]
theorem Sl.out{q:Nat->Prop}{w0:World}{t:Ty}{xs:List t.den}{v:Value}(h:Sl q w0 t xs v):
 ∃A c,v= .slice A xs.length c∧(xs= []∨∃b o,A=some ⟨b,o,none⟩∧∀i x,xs[i]?=some x->At q w0 t x b (o+i*t.size)):=by
 obtain ⟨A,n,c,e,rfl,_,_,h⟩:=h;simp only [List.cons.injEq,and_true] at e;refine ⟨A,c,e,orMap h id ?_⟩;rintro ⟨b,o,rfl,hq,h⟩;exact ⟨b,o,rfl,fun i x hx=>⟨hq,h i x hx⟩⟩
theorem At.sl{q:Nat->Prop}{w0:World}{t:Ty}{xs:List t.den}{b o:Nat}(h:At q w0 (.slice t) xs b o):∃v,Sl q w0 t xs v∧w0.cell? ⟨b,o,none⟩=some v:=by obtain ⟨hq,vs,hr,hc⟩:=h;obtain ⟨A,n,c,rfl,_⟩:=id hr;exact ⟨_,hr,hc 0 _ rfl⟩
theorem At.int{q:Nat->Prop}{w0:World}{k:IntKind}{x:(Ty.int k).den}{b o:Nat}(h:At q w0 (.int k) x b o):w0.cell? ⟨b,o,none⟩=some (.int k x):=by obtain ⟨hq,vs,rfl,hc⟩:=h;exact hc 0 _ rfl
theorem At.u8{q:Nat->Prop}{w0:World}{x:Ty.u8.den}{b o:Nat}(h:At q w0 .u8 x b o):w0.cell? ⟨b,o,none⟩=some (.int .u8 (UInt8.toNat x)):=by obtain ⟨hq,vs,rfl,hc⟩:=h;exact hc 0 _ rfl
theorem At.str{q:Nat->Prop}{w0:World}{x:Ty.str.den}{b o:Nat}(h:At q w0 .str x b o):w0.cell? ⟨b,o,none⟩=some (.string x):=by obtain ⟨hq,vs,⟨rfl,_⟩,hc⟩:=h;exact hc 0 _ rfl

variable {P:Program} {AQ:Ex->List SV->List SObj->Prop}
def j6Y{C:Cx}{w':World}(hw:Wd C H)(hs:w'.heap.size=C.w.heap.size)(hb:∀b,C.I b∨OwnB C H b->w'.heap[b]?=C.w.heap[b]?)(hz:∀b m,World.bsize C.w b=some m->World.bsize w' b=some m):
 Wd {C with w:=w'} H∧Evo C {C with w:=w'}:=by
 have he:Evo C {C with w:=w'}:=⟨Af _,fun _ _=>rfl,fun b hI=>⟨hI,hb b (.inl hI)⟩,hz⟩
 refine ⟨⟨hw.n,fun h o ho=> ?_,fun b hb'=> ?_,hw.inj,fun b hI=> ?_⟩,he⟩
 . by_cases hl:o.live=true
   . exact q0E (C':={C with w:=w'}) he.I h rfl (fun b hb'=>hb b (.inr ⟨h,o,ho,hl,hb'⟩)) (q0h he) (hw.obj h o ho)
   cases o<;>first|trivial|simp [SObj.live] at hl
 . have:=hw.own b hb';exact ⟨this.1,by rw [hs];exact this.2⟩
 rw [hs];exact hw.imm b hI


variable {P:Program} {AQ:Ex->List SV->List SObj->Prop} {k0:Nat} {k:List IT} {t:List SV} {H:List SObj}

theorem j1U{f:FuncId}{fi:FI}(h:finfo P f=some fi):∃fn c,P.funcs[f]?=some fn∧fn.body=some c∧comp P c=some fi.code∧fn.ntmps=fi.ntmps∧fn.results.toList=fi.results∧enters P f=true:=by
 unfold finfo at h;split at h
 . rename_i fn hf;split at h
   . rename_i c hb;split at h
     . rename_i ic hc;split at h
       . cases h
       rename_i hn;cases h;exact ⟨fn,c,hf,hb,hc,rfl,rfl,by simp [enters,hf,hb];simpa using hn⟩
     cases h
   cases h
 cases h
def VCallZ(q:Nat->Prop)(w0:World)(P:Program)(f:FuncId)(args:List SV)(H:List SObj)(K:Out->List SObj->Prop):Prop:=
 ∀ (C:Cx) (vs:List Value),Wd C H->TabT C H->ZInv q w0 C H->SV.denL C args vs->Calls P f vs.toArray C.w fun e w'=>∃o H' C',K o H'∧C'.w=w'∧Wd C' H'∧Ext ⟨C,H⟩ C' H'∧outDen C' o e
def VCallZ.g{q:Nat->Prop}{w0:World}{f:FuncId}{args:List SV}{K:Out->List SObj->Prop}(h:VCallZ q w0 P f args H K): @VCallG (frzG q w0) P f args H K:=
 fun E C vs hw hg hv=>(h C vs hw hg.1.tab hg.2 hv).mono fun _ _ ⟨o,H',C',k,e,w,x,r⟩=>⟨o,H',C',k,e,w, @Stp.of (frzG q w0) E C C' H H' x,r⟩
def ZInv.nil{q:Nat->Prop}{w0:World}{C:Cx}(h:ZInv q w0 C H):ZInv q w0 {C with n:=0} []:=fun b hb=>by obtain ⟨h1,h2,h3,h4⟩:=h b hb;exact ⟨h1,h2,fun ⟨i,o,ho,_⟩=>by simp at ho,h4⟩
def Ty.flat:Ty->Bool
 |.slice _=>false
 |.prod a b=>a.flat&& b.flat
 |.arr _ t=>t.flat
 |.ptr _=>false
 |.clo _ _=>false
 |.clp _ _=>false
 |.mbs _=>false
 |_=>true
def Ty.rel_flat{I I':Nat->Prop}{w w':World}:∀ (t:Ty) (x:t.den) (vs:List Value),t.flat=true->t.rel I w x vs->t.rel I' w' x vs
 |.u8,_,_,_,h=>h
 |.int _,_,_,_,h=>h
 |.bool,_,_,_,h=>h
 |.str,_,_,_,h=>h
 |.slice t,_,_,hf,_=>by cases hf
 |.prod a b,x,vs,hf,h=>by obtain ⟨v1,v2,rfl,h1,h2⟩:=h;simp only [Ty.flat,Am] at hf;exact ⟨v1,v2,rfl,a.rel_flat _ _ hf.1 h1,b.rel_flat _ _ hf.2 h2⟩
 |.unit,_,_,_,h=>h
 |.arr n t,xs,vs,hf,h=>by obtain ⟨hn,vss,rfl,hl,h⟩:=h;exact ⟨hn,vss,rfl,hl,fun i x us hx hu=>t.rel_flat _ _ hf (h i x us hx hu)⟩
 |.ptr t,_,_,hf,_=>by cases hf
 |.clo _ t,_,_,hf,_=>by cases hf
 |.clp _ t,_,_,hf,_=>by cases hf
 |.mbs t,_,_,hf,_=>by cases hf
def RowK(ty:Ty)(xs:List ty.den):Out->List SObj->Prop:=fun o H'=>(xs= []∧o= .ret (.raw (.slice none 0 0))∧H'= [])∨(o= .ret (.bld 0 ty xs.length)∧H'= [.row ty xs])
variable {H':List SObj}
theorem j0j{ty:Ty}{xs:List ty.den}(h:xs= []):Weak 0 (RowK ty xs) (.ret (.raw (.slice none 0 0))) H':=
 ⟨fun h=>h,.raw (.slice none 0 0),.raw (.slice none 0 0),[],⟨⟨rfl,trivial⟩,trivial,rfl,rfl,rfl,rfl,Af _,fun _ h0=>absurd h0 (B8 0)⟩,.inl (.inl rfl),.inl ⟨h,rfl,rfl⟩⟩
theorem j0s{ty:Ty}{xs:List ty.den}{h n:Nat}(hH:H'[h]?=some (.row ty xs))(hn:n=xs.length):Weak 0 (RowK ty xs) (.ret (.bld h ty n)) H':=by subst hn;exact ⟨fun _=>h,.bld 0 ty xs.length,.bld 0 ty xs.length,[.row ty xs],⟨⟨rfl,trivial⟩,⟨hH,trivial⟩,rfl,rfl,rfl,rfl,Al _,fun _ h0=>absurd h0 (B8 0)⟩,.inl (.inl rfl),.inr ⟨rfl,rfl⟩⟩
def Ty.cells_rel{C:Cx}:∀ (t:Ty) (x:t.den) (vs:List Value),t.known=true->t.ok x->SV.denL C (t.cells x) vs->t.rel C.I C.w x vs
 |.u8,_,_,_,_,h=>by simp only [Ty.cells,SV.denL,SV.den] at h;obtain ⟨v,us,rfl,rfl,rfl⟩:=h;rfl
 |.int _,_,_,_,_,h=>by simp only [Ty.cells,SV.denL,SV.den] at h;obtain ⟨v,us,rfl,rfl,rfl⟩:=h;rfl
 |.bool,_,_,_,_,h=>by simp only [Ty.cells,SV.denL,SV.den] at h;obtain ⟨v,us,rfl,rfl,rfl⟩:=h;rfl
 |.str,_,_,_,ho,h=>by simp only [Ty.cells,SV.denL,SV.den] at h;obtain ⟨v,us,rfl,rfl,rfl⟩:=h;exact ⟨rfl,ho⟩
 |.slice t,_,_,_,_,h=>by simp only [Ty.cells,SV.denL,SV.den] at h;obtain ⟨v,us,rfl,h,rfl⟩:=h;exact h
 |.prod a b,x,vs,hk,ho,h=>by simp only [Ty.known,Am] at hk;obtain ⟨v1,v2,rfl,h1,h2⟩:=q0x.1 h;exact ⟨v1,v2,rfl,a.cells_rel _ _ hk.1 ho.1 h1,b.cells_rel _ _ hk.2 ho.2 h2⟩
 |.unit,_,_,_,_,h=>by simpa [Ty.cells,SV.denL,Ty.rel] using h
 |.arr n t,xs,vs,hk,ho,h=>by
  replace hk:t.known=true:=hk;obtain ⟨hn,ho⟩:=ho;refine ⟨hn,?_⟩;simp only [Ty.cells] at h;rw [<-hn] at h;clear hn;have key:∀ (ys:List t.den) (vs:List Value),(∀x∈ys,t.ok x)->SV.denL C ((List.range ys.length).flatMap fun i=>t.cells (ys.getD i t.dflt)) vs->∃vss:List (List Value),vs=vss.flatten∧vss.length=ys.length∧∀ (i:Nat) x us,ys[i]?=some x->vss[i]?=some us->t.rel C.I C.w x us:=by
   intro ys;induction ys with
   |nil=>intro vs _ h;exact ⟨[],by simpa [q0y] using h,rfl,fun i x us hx=>by simp at hx⟩
   |cons y ys ih=>
    intro vs ho h;rw [AK,B2,Cu,List.flatMap_map] at h;obtain ⟨v1,v2,rfl,h1,h2⟩:=q0x.1 h;obtain ⟨vss,rfl,hl,hr⟩:=ih v2 (fun x hx=>ho x (AM _ hx)) h2;refine ⟨v1 :: vss,rfl,by simp [hl],fun i x us hx hu=> ?_⟩;cases i with
    |zero=>simp at hx hu;subst hx hu;exact t.cells_rel _ _ hk (ho _ (Bp ..)) h1
    |succ i=>exact hr i x us (by simpa using hx) (by simpa using hu)
  exact key xs vs ho h
 |.ptr t,x,vs,_,ho,h=>by
  cases x with
  |none=>simp only [Ty.cells,SV.denL,SV.den] at h;obtain ⟨v,us,rfl,rfl,rfl⟩:=h;exact .inl ⟨rfl,rfl⟩
  |some x=>simp only [Ty.cells,SV.denL,SV.den] at h;obtain ⟨v,us,rfl,⟨b,off,ws,rfl,hI,hr,hc⟩,rfl⟩:=h;exact .inr ⟨x,b,off,ws,rfl,by rw [AB],hI,hr,hc⟩
 |.clo f t,x,vs,hk,ho,h=>by simp only [Ty.cells,SV.denL,SV.den] at h;obtain ⟨v,us,rfl,⟨v1,v2,rfl,⟨u,ws,rfl,⟨zs,rfl,hz⟩,rfl⟩,rfl⟩,rfl⟩:=h;exact ⟨zs,rfl,t.cells_rel _ _ hk ho hz⟩
 |.clp f t,x,vs,hk,ho,h=>by simp only [Ty.cells,SV.denL,SV.den] at h;obtain ⟨v,us,rfl,⟨v1,v2,rfl,rfl,⟨u,ws,rfl,⟨b,off,zs,rfl,hI,hr,hc⟩,rfl⟩⟩,rfl⟩:=h;exact ⟨b,off,zs,by rw [AB],hI,hr,hc⟩
 |.mbs _,_,_,hk,_,_=>by cases hk

end Go.Sx