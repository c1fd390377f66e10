/- The functions of the program in the compact form; the kernel checks each. -/
import Derived.Test.YthbcodbcndiapaaGreatDoorP5
import Derived.Deep.Draws
import Derived.Sort.Grow
set_option linter.all false
namespace Go.Proofs.YthbcodbcndiapaaGreatDoor
open Go Go.Sx Go.Proofs
set_option maxRecDepth 100000
def Fi3(n:Nat)(i:FI)(h:finfo Tryz.prog n=some i:=by kernel_rfl):finfo Tryz.prog n=some i:=h
def ir187:FI:=⟨6,[.tmp 2,.tmp 3],(qR [o1 2 (.mov kE),mB 3 false] (rR [mv 4 0,tS 5 4,mv 2 5,mB 3 true]))⟩
def fi187:=Fi3 187 ir187
def ir188:RI:=⟨20,8,[o1 9 (.ta 33 zi (T 8)),mv 7 9,ex 10 0 7,ex 11 1 7,mv 4 10,mv 5 11],(qR [mv 12 5] (cI 12 (qR [o1 6 (.new 27 [zi,zi,zs])] (.drw [tt (lD 13 1),tt (lD 14 0),tt (mv 16 4),tt (nL 17 13),tt (fA 18 0 17),tt (fA 19 1 18),tt (o1 15 (.ldS (some 3) (T 6))),ft (sT 1 19 14),ft (sT 3 2 15),ft (sT 1 3 16)]))))⟩
def fi188:rinfo Tryz.prog 188=some ir188:=by kernel_rfl
def ir189:RI:=⟨20,8,[o1 9 (.ta 33 zi (T 8)),mv 7 9,ex 10 0 7,ex 11 1 7,mv 4 10,mv 5 11],(qR [mv 12 5] (cI 12 (qR [mS 6] (.reg [lD 13 1,lD 14 0,mv 15 6,mv 16 4,nL 17 13,fA 18 0 17,fA 19 1 18,sT 1 19 14,sT 1 2 15,sT 1 3 16]))))⟩
def fi189:rinfo Tryz.prog 189=some ir189:=by kernel_rfl
def ir190:FI:=⟨10,[.tmp 4],(qR [mI 4 0] (.seq (qR [mv 5 1,bC 6 .neq 5 0] (cI 6 (pV 7 1 8 33))) (rR [mv 9 0,mv 4 9])))⟩
def fi190:=Fi3 190 ir190
def ir191:FI:=⟨10,[.tmp 4],(qR [mS 4] (.seq (qR [mv 5 1,bC 6 .neq 5 0] (cI 6 (pV 7 1 8 33))) (rR [mv 9 0,mv 4 9])))⟩
def fi191:=Fi3 191 ir191
def ir192:FI:=⟨23,[.tmp 4],(qR [mS 4] (.seq (.drw [tt (fA 8 2 1),tt (lD 9 8),tt (lD 10 2),tt (mv 12 0),tt (fA 16 2 1),tt (lD 17 16),tt (lN 18 false 17),tt (c1 11 194 10),tt (o1 13 (.bsl .u8 1 1 [(.int .u8 0)] [(0,(T 12))])),ft (o1 14 (.bsl (.slice .u8) 2 1 [zs,zs] [(0,(T 11)),(1,(T 13))])),ft (c1 15 161 14),ft (cl 19 193 [(T 9),(T 15),kS,(T 18)]),tt (mv 7 19),tt (ex 20 0 7),tt (ex 21 1 7),tt (mv 5 20),tt (mv 6 21)]) (rR [mv 22 5,mv 4 22])))⟩
def fi192:=Fi3 192 ir192
def ir193:FI:=⟨29,[.tmp 8,.tmp 9],(qR [mS 8,mI 9 0] (.seq (qR [mv 11 3,mv 12 0,mv 13 1,mv 14 2,o1 15 (.bsl (.slice .u8) 3 1 [zs,zs,zs] [(0,(T 12)),(1,(T 13)),(2,(T 14))]),c2 16 214 11 15,nT 17 16] (cI 17 (rR [mS 8,mI 9 2]))) (qR [mv 18 0,o1 19 (.bld [zs] (.fields [(0,1)]) [(0,(T 18))]),mv 20 1,mv 21 2,mv 22 3,o1 23 (.bld [zs,zs,zs,zi] (.fields [(0,1),(1,1),(2,1),(3,1)]) [(0,(T 19)),(1,(T 20)),(2,(T 21)),(3,(T 22))]),o1 10 (.new 227 [zs,zs,zs,zi]),sT 4 10 23] (rR [mv 24 3,lG 25 4 10,o1 26 (.mkf 217 [(T 25)] []),c1 27 216 26,c2 28 215 24 27,mv 8 28,mI 9 0]))))⟩
def fi193:=Fi3 193 ir193
def ir194:FI:=⟨15,[.tmp 2],(qR [mS 2] (rR [mv 3 0,o1 4 (.bin .shr 0 (T 3) (kU .u64 24)),o1 5 (.toInt .u8 (T 4)),mv 6 0,o1 7 (.bin .shr 0 (T 6) (kU .u64 16)),o1 8 (.toInt .u8 (T 7)),mv 9 0,o1 10 (.bin .shr 0 (T 9) (kU .u64 8)),o1 11 (.toInt .u8 (T 10)),mv 12 0,o1 13 (.toInt .u8 (T 12)),o1 14 (.bsl .u8 4 1 [(.int .u8 0),(.int .u8 0),(.int .u8 0),(.int .u8 0)] [(0,(T 5)),(1,(T 8)),(2,(T 11)),(3,(T 13))]),mv 2 14]))⟩
def fi194:=Fi3 194 ir194
def ir199:FI:=⟨31,[.tmp 4],(qR [mB 4 false] (.seq (qR [mv 7 0,lN 8 false 7,mv 9 1,lN 10 false 9,bN 11 .neq 0 8 10] (cI 11 (rR [mB 4 false]))) (qR [o1 5 (.mov (kU .u8 0))] (.seq (qR [mv 12 0,lN 13 false 12,mI 14 0] (.blk 0 (.loop (qR [bN 15 .lss 0 14 13] (.seq (cE 15 0) (.seq (.blk 1 (qR [mv 16 14,mv 6 16] (.drw [tt (mv 17 5),tt (mv 18 0),tt (mv 19 6),tt (iA 20 1 18 19),tt (lD 21 20),tt (mv 22 1),tt (mv 23 6),tt (iA 24 1 22 23),tt (lD 25 24),tt (bN 26 .xor 0 21 25),tt (bN 27 .or 0 17 26),tt (mv 5 27)]))) (iN 28 14 14))))))) (rR [mv 29 5,o1 30 (.bin .eql 0 (T 29) (kU .u8 0)),mv 4 30])))))⟩
def fi199:=Fi3 199 ir199
def ir203:FI:=⟨6,[.tmp 2],(qR [mB 2 false] (rR [mv 3 0,mv 4 0,bN 5 .neq 0 3 4,mv 2 5]))⟩
def fi203:=Fi3 203 ir203
def ir204:FI:=⟨19,[.tmp 4],(qR [mI 4 0] (.seq (qR [mv 6 0,lN 7 false 6,mI 8 0] (.blk 0 (.loop (qR [bN 9 .lss 0 8 7] (.seq (cE 9 0) (.seq (.blk 1 (qR [mv 10 8,mv 5 10] (qR [mv 11 1,mv 12 0,mv 13 5,iA 14 1 12 13,lD 15 14,bN 16 .eql 3 11 15] (cI 16 (rR [mv 17 5,mv 4 17]))))) (iN 18 8 8))))))) (rR [o1 4 (.mov (.const (.int .i64 (-1))))])))⟩
def fi204:=Fi3 204 ir204
def ir205:FI:=⟨8,[.tmp 6],(qR [bx 3 9 0,bx 4 9 1,bx 5 3 2,o1 6 (.mov (.const .nilFunc))] (rR [o1 7 (.mkf 225 [] [(T 4),(T 3),(T 5)]),mv 6 7]))⟩
def fi205:=Fi3 205 ir205
def ir206:FI:=⟨20,[.tmp 6],(qR [mS 6] (.seq (.drw [tt (mv 10 0),tt (mv 12 1),tt (mv 13 2),tt (o1 14 (.bsl (.slice .u8) 2 1 [zs,zs] [(0,(T 12)),(1,(T 13))])),tt (c1 15 161 14),ft (o1 11 (.mks .u8 1 (ci 16) (ci 16))),ft (c3 16 228 10 11 15),tt (mv 9 16),tt (ex 17 0 9),tt (ex 18 1 9),tt (mv 7 17),tt (mv 8 18)]) (rR [mv 19 7,mv 6 19])))⟩
def fi206:=Fi3 206 ir206
def ir207:FI:=⟨20,[.tmp 4],(qR [mS 4] (qR [mv 8 0,o1 9 (.mks .u8 1 (ci 16) (ci 16)),mv 10 1,c3 11 229 8 9 10,mv 7 11,ex 12 0 7,ex 13 1 7,mv 5 12,mv 6 13] (rR [mv 14 5,mv 15 5,lN 16 false 15,mv 17 5,lN 18 false 17,o1 19 (.sl3 1 false (T 14) (some (ci 16)) (T 16) (T 18)),mv 4 19])))⟩
def fi207:=Fi3 207 ir207
def ir208:FI:=⟨10,[.tmp 4],(qR [mS 4] (rR [mv 5 0,o1 6 (.mks .u8 1 (ci 16) (ci 16)),mv 7 1,o1 8 (.bsl (.slice .u8) 2 1 [zs,zs] [(0,(T 6)),(1,(T 7))]),c2 9 230 5 8,mv 4 9]))⟩
def fi208:=Fi3 208 ir208
def ir212:FI:=⟨8,[.tmp 2],(qR [mI 2 0] (.seq (qR [mv 3 0] (.blk 0 (qR [bC 5 .eql 3 1,mv 4 5] (.cond (T 4) (rR [mI 2 16]) (qR [bC 7 .eql 3 2,mv 6 7] (cI 6 (rR [mI 2 32]))))))) (rR [mI 2 0])))⟩
def fi212:=Fi3 212 ir212
def ir213:FI:=⟨65,[.tmp 2,.tmp 3,.tmp 4],(qR [mI 2 0,mI 3 0,mI 4 0] (.seq (qR [mv 10 0,lN 11 false 10,bC 12 .lss 11 2] (cI 12 (rR [mI 2 0,mI 3 0,mI 4 4]))) (qR [mv 13 0,o1 14 (.ia 1 (T 13) (ci 1)),lD 15 14,o1 16 (.toInt .i64 (T 15)),mv 5 16,mI 2 2] (.seq (qR [mv 17 5,bC 18 .geq 17 128] (cI 18 (qR [mv 19 5,bC 20 .sub 19 128,mv 6 20] (.seq (qR [mv 21 6,bC 22 .lss 21 1,mv 23 22,vF 24 6 23,oF 25 (.bin .gtr 0 (T 24) (ci 3)) 23,pT 26 23 25] (cI 26 (rR [mI 2 0,mI 3 0,mI 4 6]))) (.seq (qR [mv 27 0,lN 28 false 27,mv 29 6,o1 30 (.bin .add 0 (ci 2) (T 29)),bN 31 .lss 0 28 30] (cI 31 (rR [mI 2 0,mI 3 0,mI 4 4]))) (qR [mv 32 6,o1 33 (.bin .add 0 (ci 2) (T 32)),mI 5 0,mv 2 33] (.seq (qR [mv 34 0,mv 35 2,mv 36 2,o1 37 (.sl3 1 false (T 34) (some (ci 2)) (T 35) (T 36)),lN 38 false 37,mI 39 0] (.blk 0 (.loop (qR [bN 40 .lss 0 39 38] (.seq (cE 40 0) (.seq (.blk 1 (qR [iA 41 1 37 39,lD 42 41,mv 8 42] (.reg [mv 43 5,o1 44 (.bin .shl 0 (T 43) (kU .u64 8)),mv 45 8,o1 46 (.toInt .i64 (T 45)),bN 47 .or 0 44 46,mv 5 47]))) (iN 48 39 39))))))) (qR [o1 49 (.bld [zi,zi,zi,zi] (.arr 1) [(0,(ci 0)),(1,(ci 128)),(2,(ci 256)),(3,(ci 65536))]),o1 9 (.new 247 [zi,zi,zi,zi]),sT 4 9 49] (qR [mv 50 5,mv 51 6,iZ 52 4 1 9 51,lD 53 52,bN 54 .lss 0 50 53] (cI 54 (rR [mI 2 0,mI 3 0,mI 4 6]))))))))))) (.seq (qR [mv 55 0,lN 56 false 55,mv 57 2,bN 58 .sub 0 56 57,mv 59 5,bN 60 .lss 0 58 59] (cI 60 (rR [mI 2 0,mI 3 0,mI 4 4]))) (rR [mv 61 2,mv 62 2,mv 63 5,bN 64 .add 0 62 63,mv 2 61,mv 3 64,mI 4 0]))))))⟩
def fi213:=Fi3 213 ir213
def ir214:FI:=⟨23,[.tmp 4],(qR [mB 4 false] (.seq (qR [mv 7 1,lN 8 false 7,mI 9 0] (.blk 0 (.loop (qR [bN 10 .lss 0 9 8] (.seq (cE 10 0) (.seq (.blk 1 (qR [iA 11 1 7 9,lD 12 11,mv 6 12] (qR [mv 13 6,lN 14 false 13,bC 15 .gtr 14 4096] (cI 15 (rR [mB 4 false]))))) (iN 16 9 9))))))) (rR [mv 17 0,bC 18 .geq 17 1,mv 19 18,vT 20 0 19,oT 21 (.bin .leq 0 (T 20) (ci 1024)) 19,pF 22 19 21,mv 4 22])))⟩
def fi214:=Fi3 214 ir214
def ir215:FI:=⟨22,[.tmp 4],(qR [bx 2 3 0,mS 4] (.scp (qR [o1 5 (.new 25 [zs])] (.seq (.lbl 0) (.seq (qR [mv 8 1] (.blk 0 (.rf (T 8) #[9,10] (.reg [mv 7 10]) (.blk 1 (qR [lD 11 5,mv 12 7,o1 13 (.app .u8 1 (T 11) (T 12)),sT 1 5 13] (qR [lD 14 5,lN 15 false 14,lD 16 2,bN 17 .geq 0 15 16] (cI 17 (.exit 0)))))))) (rR [lD 18 5,lD 19 2,o1 20 (.sl (some 1) (T 18) none (some (T 19))),c1 21 105 20,mv 4 21]))))))⟩
def fi215:=Fi3 215 ir215
def ir216:FI:=⟨4,[.tmp 2],(qR [bx 1 232 0,o1 2 (.mov (.const .nilFunc))] (rR [o1 3 (.mkf 232 [] [(T 1)]),mv 2 3]))⟩
def fi216:=Fi3 216 ir216
def ir217:FI:=⟨27,[.cell 4 234],(qR [bx 2 227 0,o1 4 (.arr .u8 32)] (.seq (.drw [tt (fA 8 0 2),tt (fA 9 0 8),tt (lD 10 9),tt (mv 11 1),tt (fA 13 1 2),tt (lD 14 13),tt (fA 16 2 2),tt (lD 17 16),tt (fA 18 3 2),tt (lD 19 18),tt (o1 20 (.bin .mul 0 (ci 8) (T 19))),tt (c1 12 234 11),tt (c1 21 234 20),tt (o1 15 (.bsl .u8 1 1 [(.int .u8 0)] [(0,(kU .u8 0))])),tt (o1 22 (.bsl (.slice .u8) 5 1 [zs,zs,zs,zs,zs] [(0,(T 12)),(1,(T 14)),(2,(T 15)),(3,(T 17)),(4,(T 21))])),tt (c2 23 233 10 22),tt (mv 7 23),tt (ex 24 0 7),tt (ex 25 1 7),ft (o1 5 (.arr .u8 32)),ft (sT 32 5 24),tt (mv 6 25)]) (rR [lG 26 32 5,sT 32 4 26])))⟩
def fi217:=Fi3 217 ir217
def ir225:FI:=⟨52,[],(.seq (qR [lD 9 1,lN 10 true 9,bC 11 .eql 10 0] (cI 11 (.seq (.blk 0 (.loop (.seq (qR [lD 12 2,lN 13 true 12,bC 14 .gtr 13 0] (cE 14 0)) (.blk 1 (qR [lD 16 2,c1 17 226 16,mv 15 17,ex 18 0 15,ex 19 1 15,mv 5 18,mv 6 19] (.seq (qR [mv 20 0,lD 21 2,mv 22 6,o1 23 (.sl none (T 21) none (some (T 22))),o1 24 (.call (T 20) [(T 23)]),nT 25 24] (.cond (T 25) .ret .skip)) (.reg [lD 26 2,mv 27 6,o1 28 (.sl none (T 26) (some (T 27)) none),sT 1 2 28]))))))) .ret))) (.seq (.blk 2 (.loop (.blk 3 (qR [lD 29 2,lD 30 1,c2 31 227 29 30,mv 7 31] (.seq (qR [mv 32 7,bC 33 .lss 32 0] (cI 33 (.exit 2))) (qR [lD 34 2,mv 35 7,lD 36 3,bN 37 .add 0 35 36,o1 38 (.sl none (T 34) none (some (T 37))),mv 8 38] (.seq (qR [mv 39 0,mv 40 8,o1 41 (.call (T 39) [(T 40)]),nT 42 41] (.cond (T 42) .ret .skip)) (.reg [lD 43 2,mv 44 7,lD 45 1,lN 46 true 45,bN 47 .add 0 44 46,o1 48 (.sl none (T 43) (some (T 47)) none),sT 1 2 48])))))))) (.reg [mv 49 0,lD 50 2,o1 51 (.call (T 49) [(T 50)])])))⟩
def fi225:=Fi3 225 ir225
def ir227:FI:=⟨8,[.tmp 4],(qR [mI 4 0] (rR [mv 5 0,mv 6 1,c2 7 240 5 6,mv 4 7]))⟩
def fi227:=Fi3 227 ir227
def ir228:FI:=⟨47,[.tmp 6,.tmp 7],(qR [mS 6,mI 7 0] (.seq (qR [mv 15 0,mv 16 1,c2 17 241 15 16,mv 14 17,ex 18 0 14,ex 19 1 14,o1 8 (.new 256 [zp,zs]),sT 2 8 18,mv 9 19] (qR [mv 20 9,bC 21 .neq 20 0] (cI 21 (rR [mv 22 9,mS 6,mv 7 22])))) (.seq (qR [mv 23 2,c1 24 242 23,mv 10 24] (qR [mv 25 10,bC 26 .neq 25 0] (cI 26 (rR [mv 27 10,mS 6,mv 7 27])))) (qR [o1 11 (.new 65 [zs])] (.seq (qR [mv 28 0,mv 29 1,mv 30 2,c1 31 244 30,c3 32 243 28 29 31] (.blk 0 (.rf (T 32) #[33] (.reg [mv 12 33]) (.blk 1 (.reg [lD 34 11,mv 35 12,o1 36 (.bsl (.slice .u8) 1 1 [zs] [(0,(T 35))]),o1 37 (.app (.slice .u8) 24 (T 34) (T 36)),sT 1 11 37]))))) (qR [o1 38 (.mkf 245 [] [(T 11)]),mv 13 38] (qR [mv 39 13,o1 40 (.call (T 39) [])] (rR [lD 41 11,cl 42 246 [(T 41),kS],mv 43 2,lN 44 false 43,o1 45 (.sl (some 1) (T 42) none (some (T 44))),c1 46 105 45,mv 6 46,mI 7 0]))))))))⟩
def fi228:=Fi3 228 ir228
def ir229:FI:=⟨65,[.tmp 6,.tmp 7],(qR [bx 5 25 2,mS 6,mI 7 0] (qR [mv 19 0,mv 20 1,c2 21 241 19 20,mv 18 21,ex 22 0 18,ex 23 1 18,o1 8 (.new 256 [zp,zs]),sT 2 8 22,mv 9 23] (.seq (qR [mv 24 9,bC 25 .neq 24 0] (cI 25 (rR [mv 26 9,mS 6,mv 7 26]))) (.seq (qR [lD 27 5,c1 28 242 27,mv 10 28] (qR [mv 29 10,bC 30 .neq 29 0] (cI 30 (rR [mv 31 10,mS 6,mv 7 31])))) (qR [o1 11 (.new 65 [zs])] (.seq (qR [lD 32 5,c1 33 244 32] (.blk 0 (.rf (T 33) #[34] (.reg [mv 12 34]) (.blk 1 (.reg [lD 35 11,mv 36 12,o1 37 (.bsl (.slice .u8) 1 1 [zs] [(0,(T 36))]),o1 38 (.app (.slice .u8) 24 (T 35) (T 37)),sT 1 11 38]))))) (qR [o1 39 (.mkf 247 [] [(T 11),(T 5),(T 8)]),mv 13 39] (qR [mv 40 13,o1 41 (.call (T 40) [])] (qR [mS 14] (qR [fA 42 1 8,lD 43 42,mv 15 43] (.seq (qR [lD 44 11,lN 45 false 44,mI 46 0] (.blk 2 (.loop (qR [bN 47 .lss 0 46 45] (.seq (cE 47 2) (.seq (.blk 3 (qR [iA 48 1 44 46,lD 49 48,mv 17 49] (qR [mv 50 14,lG 51 2 8,o1 52 (.mke 256 "Decrypt"),mv 53 17,c3 54 248 51 52 53,mv 55 15,c2 56 250 54 55,o1 57 (.app .u8 1 (T 50) (T 56)),mv 14 57] (.reg [mv 58 17,mv 15 58])))) (iN 59 46 46))))))) (rR [mv 60 14,lD 61 5,lN 62 false 61,o1 63 (.sl (some 1) (T 60) none (some (T 62))),c1 64 105 63,mv 6 64,mI 7 0]))))))))))))⟩
def fi229:=Fi3 229 ir229
def ir230:FI:=⟨14,[.tmp 4],(qR [mS 4] (qR [mv 8 0,mv 9 1,c2 10 233 8 9,mv 7 10,ex 11 0 7,ex 12 1 7,o1 5 (.arr .u8 32),sT 32 5 11,mv 6 12] (rR [o1 13 (.sla 32 1 (T 5) none none),mv 4 13])))⟩
def fi230:=Fi3 230 ir230
def ir232:FI:=⟨15,[],(qR [mI 3 1] (.blk 0 (.loop (.seq (.blk 1 (qR [lD 7 1,mv 8 3,o1 9 (.call (T 7) [(T 8)]),o1 4 (.arr .u8 32),sT 32 4 9] (qR [mv 10 0,mv 11 3,o1 12 (.sla 32 1 (T 4) none none),o1 13 (.call (T 10) [(T 11),(T 12)]),nT 14 13] (.cond (T 14) .ret .skip)))) (.reg [mv 5 3,aI 6 5,mv 3 6])))))⟩
def fi232:=Fi3 232 ir232
def ir233:FI:=⟨33,[.cell 4 234,.tmp 5],(qR [o1 4 (.arr .u8 32),mI 5 0] (qR [mv 11 0,c1 12 251 11,mv 10 12,ex 13 0 10,ex 14 1 10,mv 6 13,mv 7 14] (.seq (qR [mv 15 7,bC 16 .neq 15 0] (cI 16 (rR [o1 17 (.bdd (.arr 32 .u8) (.arr 1) []),mv 18 7,sT 32 4 17,mv 5 18]))) (.seq (qR [mv 19 1,lN 20 false 19,mI 21 0] (.blk 0 (.loop (qR [bN 22 .lss 0 21 20] (.seq (cE 22 0) (.seq (.blk 1 (qR [iA 23 1 19 21,lD 24 23,mv 9 24] (.reg [mv 25 6,mv 26 9,c2 27 252 25 26]))) (iN 28 21 21))))))) (rR [mv 29 6,c1 30 253 29,ex 31 0 30,ex 32 1 30,sT 32 4 31,mv 5 32])))))⟩
def fi233:=Fi3 233 ir233
def ir234:FI:=⟨15,[.tmp 2],(qR [mS 2] (rR [mv 3 0,o1 4 (.bin .shr 0 (T 3) (kU .u64 24)),o1 5 (.toInt .u8 (T 4)),mv 6 0,o1 7 (.bin .shr 0 (T 6) (kU .u64 16)),o1 8 (.toInt .u8 (T 7)),mv 9 0,o1 10 (.bin .shr 0 (T 9) (kU .u64 8)),o1 11 (.toInt .u8 (T 10)),mv 12 0,o1 13 (.toInt .u8 (T 12)),o1 14 (.bsl .u8 4 1 [(.int .u8 0),(.int .u8 0),(.int .u8 0),(.int .u8 0)] [(0,(T 5)),(1,(T 8)),(2,(T 11)),(3,(T 13))]),mv 2 14]))⟩
def fi234:=Fi3 234 ir234
def ir241:FI:=⟨22,[.cell 4 256,.tmp 5],(qR [o1 4 (.new 256 [zp,zs]),mI 5 0] (.seq (qR [mv 8 1,lN 9 false 8,bC 10 .neq 9 16] (cI 10 (rR [o1 11 (.bld [zp,zs] (.fields [(0,1),(1,1)]) []),sT 2 4 11,mI 5 2]))) (qR [mv 13 0,c1 14 261 13,mv 12 14,ex 15 0 12,ex 16 1 12,mv 6 15,mv 7 16] (rR [mv 17 6,mv 18 1,c1 19 105 18,o1 20 (.bld [zp,zs] (.fields [(0,1),(1,1)]) [(0,(T 17)),(1,(T 19))]),mv 21 7,sT 2 4 20,mv 5 21]))))⟩
def fi241:=Fi3 241 ir241
def ir242:FI:=⟨11,[.tmp 2],(qR [mI 2 0] (.seq (.blk 0 (qR [mv 4 0,lN 5 false 4,bC 6 .lss 5 16,mv 3 6] (.cond (T 3) (rR [mI 2 4]) (qR [mv 8 0,lN 9 false 8,bC 10 .gtr 9 131072,mv 7 10] (cI 7 (rR [mI 2 5])))))) (rR [mI 2 0])))⟩
def fi242:=Fi3 242 ir242
def ir243:FI:=⟨16,[.tmp 6],(qR [bx 5 261 2,o1 6 (.mov (.const .nilFunc))] (qR [mv 10 0,mv 11 1,c2 12 241 10 11,mv 9 12,ex 13 0 9,ex 14 1 9,o1 7 (.new 256 [zp,zs]),o1 8 (.new 33 [zi]),sT 2 7 13,sT 1 8 14] (rR [o1 15 (.mkf 262 [] [(T 8),(T 5),(T 7)]),mv 6 15])))⟩
def fi243:=Fi3 243 ir243
def ir244:FI:=⟨4,[.tmp 2],(qR [bx 1 25 0,o1 2 (.mov (.const .nilFunc))] (rR [o1 3 (.mkf 265 [] [(T 1)]),mv 2 3]))⟩
def fi244:=Fi3 244 ir244
def ir245:FI:=⟨24,[],(qR [lD 2 0,lN 3 false 2,mv 1 3] (qR [mv 4 1,bC 5 .gtr 4 1] (cI 5 (.drw [tt (lD 6 0),tt (mv 7 1),tt (bC 8 .sub 7 2),tt (mv 10 1),tt (bC 11 .sub 10 1),tt (lD 12 0),tt (mv 13 1),tt (bC 14 .sub 13 1),tt (iA 15 1 12 14),tt (lD 16 15),tt (lD 17 0),tt (mv 18 1),tt (bC 19 .sub 18 2),tt (iA 20 1 17 19),tt (lD 21 20),tt (iA 22 1 6 8),tt (o1 9 (.ldS none (T 0))),ft (sT 1 22 16),tt (iA 23 1 9 11),ft (sT 1 23 21)]))))⟩
def fi245:=Fi3 245 ir245
def ir246:FI:=⟨92,[.tmp 4],(qR [mS 4] (.seq (qR [mv 12 0,lN 13 false 12,bC 14 .eql 13 0] (cI 14 (rR [o1 15 (.bsl .u8 0 1 [] []),mv 4 15]))) (.seq (qR [mv 16 0,lN 17 false 16,bC 18 .eql 17 1] (cI 18 (rR [mv 19 0,o1 20 (.ia 1 (T 19) (ci 0)),lD 21 20,o1 22 (.app .u8 1 kS (T 21)),mv 4 22]))) (qR [mI 5 0] (.seq (qR [mv 23 1,lN 24 false 23,bC 25 .gtr 24 0] (cI 25 (.seq (qR [mv 26 1,lN 27 false 26,mv 28 0,lN 29 false 28,bC 30 .sub 29 1,o1 31 (.bin .quo 0 (ci 9223372036854775807) (T 30)),bN 32 .geq 0 27 31] (cI 32 (.reg [o1 33 (.mki 9 (.const (.string ⟨#[98,121,116,101,115,58,32,74,111,105,110,32,111,117,116,112,117,116,32,108,101,110,103,116,104,32,111,118,101,114,102,108,111,119]⟩))),o0 (.pan (T 33))]))) (.reg [mv 34 5,mv 35 1,lN 36 false 35,mv 37 0,lN 38 false 37,bC 39 .sub 38 1,bN 40 .mul 0 36 39,bN 41 .add 0 34 40,mv 5 41])))) (.seq (qR [mv 42 0,lN 43 false 42,mI 44 0] (.blk 0 (.loop (qR [bN 45 .lss 0 44 43] (.seq (cE 45 0) (.seq (.blk 1 (qR [iA 46 1 42 44,lD 47 46,mv 7 47] (.seq (qR [mv 48 7,lN 49 false 48,mv 50 5,o1 51 (.bin .sub 0 (ci 9223372036854775807) (T 50)),bN 52 .gtr 0 49 51] (cI 52 (.reg [o1 53 (.mki 9 (.const (.string ⟨#[98,121,116,101,115,58,32,74,111,105,110,32,111,117,116,112,117,116,32,108,101,110,103,116,104,32,111,118,101,114,102,108,111,119]⟩))),o0 (.pan (T 53))]))) (.reg [mv 54 5,mv 55 7,lN 56 false 55,bN 57 .add 0 54 56,mv 5 57])))) (iN 58 44 44))))))) (qR [mv 59 5,c1 60 266 59,mv 61 5,mv 62 5,o1 63 (.sl3 1 false (T 60) none (T 61) (T 62)),mv 8 63] (qR [mv 64 8,mv 65 0,o1 66 (.ia 1 (T 65) (ci 0)),lD 67 66,o1 68 (.cpy 1 (T 64) (T 67)),mv 9 68] (.seq (qR [mv 69 0,o1 70 (.sl (some 1) (T 69) (some (ci 1)) none),lN 71 false 70,mI 72 0] (.blk 2 (.loop (qR [bN 73 .lss 0 72 71] (.seq (cE 73 2) (.seq (.blk 3 (qR [iA 74 1 70 72,lD 75 74,mv 11 75] (qR [mv 76 9,mv 77 8,mv 78 9,o1 79 (.sl (some 1) (T 77) (some (T 78)) none),mv 80 1,o1 81 (.cpy 1 (T 79) (T 80)),bN 82 .add 0 76 81,mv 9 82] (.reg [mv 83 9,mv 84 8,mv 85 9,o1 86 (.sl (some 1) (T 84) (some (T 85)) none),mv 87 11,o1 88 (.cpy 1 (T 86) (T 87)),bN 89 .add 0 83 88,mv 9 89])))) (iN 90 72 72))))))) (rR [mv 91 8,mv 4 91]))))))))))⟩
def fi246:=Fi3 246 ir246
def ir247:FI:=⟨49,[],(qR [lD 8 0,lN 9 false 8,mv 3 9] (.seq (qR [mv 10 3,bC 11 .eql 10 1] (.cond (T 11) .ret .skip)) (qR [lD 12 0,mv 13 3,bC 14 .sub 13 2,iA 15 1 12 14,lD 16 15,mv 4 16] (qR [lD 17 1,lN 18 false 17,mv 19 3,bC 20 .sub 19 1,o1 21 (.bin .mul 0 (ci 16) (T 20)),bN 22 .sub 0 18 21,mv 5 22] (qR [lG 23 2 2,o1 24 (.mke 256 "Decrypt"),mv 25 4,c3 26 248 23 24 25,mv 6 26] (.seq (.drw [tt (lD 27 0),tt (mv 28 3),tt (bC 29 .sub 28 1),tt (iA 30 1 27 29),tt (lD 31 30),tt (mv 32 5),tt (mv 33 5),tt (o1 34 (.sl3 1 false (T 31) none (T 32) (T 33))),tt (mv 35 6),tt (mv 36 5),tt (o1 37 (.sl (some 1) (T 35) (some (T 36)) none)),ft (o1 38 (.app .u8 1 (T 34) (T 37))),tt (mv 7 38)]) (.drw [tt (lD 39 0),tt (mv 40 3),tt (bC 41 .sub 40 2),tt (mv 43 3),tt (bC 44 .sub 43 1),tt (mv 45 7),tt (mv 46 4),tt (iA 47 1 39 41),tt (o1 42 (.ldS none (T 0))),ft (sT 1 47 45),tt (iA 48 1 42 44),ft (sT 1 48 46)])))))))⟩
def fi247:=Fi3 247 ir247
def ir248:FI:=⟨17,[.tmp 6],(qR [bx 3 256 0,mS 6] (qR [mv 10 1,lG 11 2 3,mv 12 2,o1 13 (.call (T 10) [(T 11),(T 12)]),mv 9 13,ex 14 0 9,ex 15 1 9,mv 7 14,mv 8 15] (rR [mv 16 7,mv 6 16])))⟩
def fi248:=Fi3 248 ir248
def ir249:FI:=⟨67,[.tmp 4,.tmp 5],(qR [mS 4,mI 5 0] (.seq (qR [mv 11 0,mv 12 1,c2 13 267 11 12,mv 6 13] (qR [mv 14 6,bC 15 .neq 14 0] (cI 15 (rR [mv 16 6,mS 4,mv 5 16])))) (qR [mv 17 0,mv 18 1,o1 19 (.s2a 16 (T 18)),lG 20 16 19,o1 21 (.bdd (.prod (.ptr (.prod (.prod (.arr 256 .u8) (.arr 256 .u8)) (.prod (.arr 176 .u8) .bool))) (.prod (.arr 16 .u8) (.arr 16 .u8))) (.fields [(0,1),(1,16),(17,16)]) [(0,(T 17)),(1,(T 20))]),bx 22 286 21,o1 7 (.new 282 [zp]),sT 1 7 22] (qR [lD 23 7,o1 24 (.mkf 268 [(T 23)] []),lD 25 7,o1 26 (.mkf 269 [(T 25)] []),lD 27 7,o1 28 (.mkf 270 [(T 27)] []),lD 29 7,o1 30 (.mkf 271 [(T 29)] []),o1 31 (.bsf 1 4 [.nilFunc,.nilFunc,.nilFunc,.nilFunc] [(0,(T 24)),(1,(T 26)),(2,(T 28)),(3,(T 30))]),o1 8 (.new 287 [zs]),sT 1 8 31] (.seq (qR [mv 32 0,cl 33 272 [(T 32),kT]] (.blk 0 (.rf (T 33) #[34,35] (qR [mv 9 34] (.reg [o1 10 (.arr .u8 16),sT 16 10 35])) (.blk 1 (qR [lD 36 7,lG 37 16 10,nL 38 36,fA 39 17 38,sT 16 39 37] (qR [mv 40 9] (.blk 2 (qR [bC 45 .eql 40 0,mv 44 45] (.cond (T 44) (.reg [lD 46 7,lD 47 7,o1 48 (.mkf 268 [(T 47)] []),o1 49 (.bsf 1 1 [.nilFunc] [(0,(T 48))]),c2 50 273 46 49]) (qR [bC 52 .eql 40 10,mv 51 52] (.cond (T 51) (.reg [lD 53 7,lD 54 7,o1 55 (.mkf 268 [(T 54)] []),lD 56 7,o1 57 (.mkf 270 [(T 56)] []),lD 58 7,o1 59 (.mkf 271 [(T 58)] []),o1 60 (.bsf 1 3 [.nilFunc,.nilFunc,.nilFunc] [(0,(T 55)),(1,(T 57)),(2,(T 59))]),c2 61 273 53 60]) (.reg [lD 41 7,lD 42 8,c2 43 273 41 42])))))))))))) (rR [lD 62 7,nL 63 62,fA 64 1 63,o1 65 (.sla 16 1 (T 64) none none),c1 66 105 65,mv 4 66,mI 5 0]))))))⟩
def fi249:=Fi3 249 ir249
def ir250:FI:=⟨26,[.tmp 4],(qR [mS 4] (qR [mv 7 0,c1 8 105 7,mv 5 8] (.seq (qR [mv 9 5,lN 10 false 9,mI 11 0] (.blk 0 (.loop (qR [bN 12 .lss 0 11 10] (.seq (cE 12 0) (.seq (.blk 1 (qR [mv 13 11,mv 6 13] (.drw [tt (mv 14 5),tt (mv 15 6),tt (iA 16 1 14 15),tt (lD 17 16),tt (mv 18 1),tt (mv 19 6),tt (iA 20 1 18 19),tt (lD 21 20),tt (bN 22 .xor 0 17 21),tt (iA 23 1 14 15),ft (sT 1 23 22)]))) (iN 24 11 11))))))) (rR [mv 25 5,mv 4 25]))))⟩
def fi250:=Fi3 250 ir250
def ir251:FI:=⟨38,[.tmp 2,.tmp 3],(qR [o1 2 (.mov kP),mI 3 0] (.seq (qR [mv 8 0,lN 9 false 8,bC 10 .gtr 9 4096] (cI 10 (rR [o1 2 (.mov kP),mI 3 2]))) (qR [o1 4 (.arr .u8 64)] (.seq (qR [mv 11 0,lN 12 false 11,bC 13 .gtr 12 64] (.cond (T 13) (qR [mv 14 0,c1 15 274 14,o1 5 (.arr .u8 32),sT 32 5 15] (.drw [tt (o1 16 (.sla 64 1 (T 4) none none)),tt (o1 17 (.sla 32 1 (T 5) none none)),ft (o1 18 (.cpy 1 (T 16) (T 17)))])) (.reg [o1 19 (.sla 64 1 (T 4) none none),mv 20 0,o1 21 (.cpy 1 (T 19) (T 20))]))) (qR [o1 22 (.mkf 275 [] [(T 4)]),mv 6 22] (qR [mv 23 6,o1 24 (.call (T 23) [(kU .u8 92)]),mv 25 6,o1 26 (.call (T 25) [(kU .u8 54)]),o1 27 (.bdd (.prod (.arr 64 .u8) (.arr 64 .u8)) (.fields [(0,64),(64,64)]) [(0,(T 24)),(1,(T 26))]),o1 28 (.bdd (.prod (.prod (.arr 64 .u8) (.arr 64 .u8)) (.prod (.prod (.arr 8 (.int .u32)) (.prod (.arr 64 .u8) (.int .i64))) .bool)) (.fields [(0,128),(128,73),(201,1)]) [(0,(T 27)),(2,kT)]),bx 29 302 28,mv 7 29] (qR [mv 30 7,mv 31 7,nL 32 31,fA 33 0 32,c1 34 276 33,nL 35 30,fA 36 128 35,sT 73 36 34] (rR [mv 37 7,mv 2 37,mI 3 0]))))))))⟩
def fi251:=Fi3 251 ir251
def ir252:FI:=⟨19,[.tmp 4],(qR [mI 4 0] (.seq (qR [mv 5 0,o1 6 (.bin .eql 1 (T 5) kP),mv 7 6,vF 8 0 7,oF 9 (.nil (T 8)) 7,fF 10 201 9 7,lF 11 10 7,oF 12 (.un .not (T 11)) 7,pT 13 7 12] (cI 13 (rR [mI 4 1]))) (rR [mv 14 0,nL 15 14,fA 16 128 15,mv 17 1,c2 18 277 16 17,mv 4 18])))⟩
def fi252:=Fi3 252 ir252
def ir253:FI:=⟨22,[.cell 2 234,.tmp 3],(qR [o1 2 (.arr .u8 32),mI 3 0] (.seq (qR [mv 4 0,o1 5 (.bin .eql 1 (T 4) kP),mv 6 5,vF 7 0 6,oF 8 (.nil (T 7)) 6,fF 9 201 8 6,lF 10 9 6,oF 11 (.un .not (T 10)) 6,pT 12 6 11] (cI 12 (rR [o1 13 (.bdd (.arr 32 .u8) (.arr 1) []),sT 32 2 13,mI 3 1]))) (.seq (.drw [tt (mv 14 0),tt (nL 15 14),tt (fA 16 0 15),tt (mv 17 0),tt (nL 18 17),tt (fA 19 128 18),ft (c1 20 279 19),ft (c2 21 278 16 20),ft (sT 32 2 21),tt (mI 3 0)]) .ret)))⟩
def fi253:=Fi3 253 ir253
def ir261:FI:=⟨18,[.tmp 2,.tmp 3],(qR [o1 2 (.mov kP),mI 3 0] (.seq (qR [mv 5 0,lN 6 false 5,bC 7 .neq 6 16] (cI 7 (rR [o1 2 (.mov kP),mI 3 2]))) (qR [o1 8 (.bdd (.prod (.prod (.arr 256 .u8) (.arr 256 .u8)) (.prod (.arr 176 .u8) .bool)) (.fields [(0,512),(512,176),(688,1)]) [(2,kT)]),bx 9 312 8,mv 4 9] (qR [mv 10 4,nL 11 10,fA 12 0 11,c1 13 282 12] (qR [mv 14 4,mv 15 0,c2 16 283 14 15] (rR [mv 17 4,mv 2 17,mI 3 0]))))))⟩
def fi261:=Fi3 261 ir261
def ir262:FI:=⟨18,[],(qR [bx 4 281 0] (.seq (qR [lD 7 1,bC 8 .neq 7 0,mv 9 8,lF 10 2 9,oF 11 (.bin .eql 2 (T 10) (.const .nilFunc)) 9,pT 12 9 11] (.cond (T 12) .ret .skip)) (qR [fA 13 1 3,lD 14 13,o1 5 (.new 25 [zs]),o1 6 (.new 4 [(.bool false)]),sT 1 5 14,o0 (.st 1 (T 6) kF)] (qR [lD 15 2,o1 16 (.mkf 263 [] [(T 6),(T 3),(T 5),(T 4)]),o1 17 (.call (T 15) [(T 16)])] (.reg [o0 (.st 1 (T 6) kT)])))))⟩
def fi262:=Fi3 262 ir262
def ir263:FI:=⟨26,[.tmp 6],(qR [mB 6 false] (.seq (qR [lD 7 1,mv 8 7,vF 9 0 8,oF 10 (.len false (T 9)) 8,oF 11 (.bin .neq 0 (T 10) (ci 16)) 8,pT 12 8 11] (cI 12 (qR [o0 (.st 1 (T 1) kT)] (rR [mB 6 false])))) (.seq (.drw [tt (lG 13 2 2),tt (o1 14 (.mke 256 "Encrypt")),tt (lD 15 3),tt (mv 16 0),ft (c2 17 250 15 16),ft (c3 18 248 13 14 17),ft (sT 1 3 18)]) (.seq (.drw [tt (lD 19 4),tt (lD 20 3),ft (c1 21 105 20),ft (o1 22 (.call (T 19) [(T 21)])),tt (nT 23 22),ft (sT 1 1 23)]) (rR [lD 24 1,nT 25 24,mv 6 25])))))⟩
def fi263:=Fi3 263 ir263
def ir264:FI:=⟨67,[.tmp 4,.tmp 5],(qR [mS 4,mI 5 0] (.seq (qR [mv 11 0,mv 12 1,c2 13 267 11 12,mv 6 13] (qR [mv 14 6,bC 15 .neq 14 0] (cI 15 (rR [mv 16 6,mS 4,mv 5 16])))) (qR [mv 17 0,mv 18 1,o1 19 (.s2a 16 (T 18)),lG 20 16 19,o1 21 (.bdd (.prod (.ptr (.prod (.prod (.arr 256 .u8) (.arr 256 .u8)) (.prod (.arr 176 .u8) .bool))) (.prod (.arr 16 .u8) (.arr 16 .u8))) (.fields [(0,1),(1,16),(17,16)]) [(0,(T 17)),(1,(T 20))]),bx 22 286 21,o1 7 (.new 282 [zp]),sT 1 7 22] (qR [lD 23 7,o1 24 (.mkf 284 [(T 23)] []),lD 25 7,o1 26 (.mkf 285 [(T 25)] []),lD 27 7,o1 28 (.mkf 286 [(T 27)] []),lD 29 7,o1 30 (.mkf 268 [(T 29)] []),o1 31 (.bsf 1 4 [.nilFunc,.nilFunc,.nilFunc,.nilFunc] [(0,(T 24)),(1,(T 26)),(2,(T 28)),(3,(T 30))]),o1 8 (.new 287 [zs]),sT 1 8 31] (.seq (qR [mv 32 0,cl 33 272 [(T 32),kF]] (.blk 0 (.rf (T 33) #[34,35] (qR [mv 9 34] (.reg [o1 10 (.arr .u8 16),sT 16 10 35])) (.blk 1 (qR [lD 36 7,lG 37 16 10,nL 38 36,fA 39 17 38,sT 16 39 37] (qR [mv 40 9] (.blk 2 (qR [bC 45 .eql 40 0,mv 44 45] (.cond (T 44) (.reg [lD 46 7,lD 47 7,o1 48 (.mkf 268 [(T 47)] []),o1 49 (.bsf 1 1 [.nilFunc] [(0,(T 48))]),c2 50 273 46 49]) (qR [bC 52 .eql 40 10,mv 51 52] (.cond (T 51) (.reg [lD 53 7,lD 54 7,o1 55 (.mkf 284 [(T 54)] []),lD 56 7,o1 57 (.mkf 285 [(T 56)] []),lD 58 7,o1 59 (.mkf 268 [(T 58)] []),o1 60 (.bsf 1 3 [.nilFunc,.nilFunc,.nilFunc] [(0,(T 55)),(1,(T 57)),(2,(T 59))]),c2 61 273 53 60]) (.reg [lD 41 7,lD 42 8,c2 43 273 41 42])))))))))))) (rR [lD 62 7,nL 63 62,fA 64 1 63,o1 65 (.sla 16 1 (T 64) none none),c1 66 105 65,mv 4 66,mI 5 0]))))))⟩
def fi264:=Fi3 264 ir264
def ir265:FI:=⟨34,[],(qR [mI 3 0] (.blk 0 (.loop (.seq (qR [mv 6 3,lD 7 1,lN 8 false 7,bN 9 .lss 0 6 8] (cE 9 0)) (.seq (.blk 1 (qR [mv 12 3,bC 13 .add 12 16,lD 14 1,lN 15 false 14,o1 16 (.mxm false (T 13) (T 15)),mv 4 16] (qR [lD 17 1,mv 18 3,mv 19 4,mv 20 4,o1 21 (.sl3 1 false (T 17) (some (T 18)) (T 19) (T 20)),mv 5 21] (.seq (qR [mv 22 5,lN 23 false 22,bC 24 .lss 23 16] (cI 24 (.reg [mv 25 5,mv 26 5,lN 27 false 26,o1 28 (.bin .sub 0 (ci 16) (T 27)),o1 29 (.apz .u8 1 (T 25) (T 28)),mv 5 29]))) (qR [mv 30 0,mv 31 5,o1 32 (.call (T 30) [(T 31)]),nT 33 32] (.cond (T 33) .ret .skip)))))) (.reg [mv 10 3,bC 11 .add 10 16,mv 3 11]))))))⟩
def fi265:=Fi3 265 ir265
def ir267:FI:=⟨17,[.tmp 4],(qR [mI 4 0] (.seq (qR [mv 5 0,o1 6 (.bin .eql 1 (T 5) kP),mv 7 6,vF 8 0 7,oF 9 (.nil (T 8)) 7,fF 10 688 9 7,lF 11 10 7,oF 12 (.un .not (T 11)) 7,pT 13 7 12] (cI 13 (rR [mI 4 1]))) (.seq (qR [mv 14 1,lN 15 false 14,bC 16 .neq 15 16] (cI 16 (rR [mI 4 2]))) (rR [mI 4 0]))))⟩
def fi267:=Fi3 267 ir267
attribute [go_sem] ir187 ir188 ir189 ir190 ir191 ir192 ir193 ir194 ir199 ir203 ir204 ir205 ir206 ir207 ir208 ir212 ir213 ir214 ir215 ir216 ir217 ir225 ir227 ir228 ir229 ir230 ir232 ir233 ir234 ir241 ir242 ir243 ir244 ir245 ir246 ir247 ir248 ir249 ir250 ir251 ir252 ir253 ir261 ir262 ir263 ir264 ir265 ir267
def Fi4(n:Nat)(i:FI)(h:finfo Tryz.prog n=some i:=by kernel_rfl):finfo Tryz.prog n=some i:=h
def ir268:FI:=⟨23,[],(qR [mI 3 0] (.blk 0 (.loop (qR [bC 4 .lss 3 16] (.seq (cE 4 0) (.seq (.blk 1 (qR [mv 5 3,mv 2 5] (.drw [tt (mv 6 0),tt (mv 7 2),tt (nL 8 6),tt (fA 9 1 8),tt (iZ 10 16 1 9 7),tt (lD 11 10),tt (mv 12 0),tt (mv 13 2),tt (nL 14 12),tt (fA 15 17 14),tt (iZ 16 16 1 15 13),tt (lD 17 16),tt (bN 18 .xor 0 11 17),tt (nL 19 6),tt (fA 20 1 19),tt (iZ 21 16 1 20 7),ft (sT 1 21 18)]))) (iN 22 3 3)))))))⟩
def fi268:=Fi4 268 ir268
def ir269:FI:=⟨5,[],(.reg [mv 2 0,o1 3 (.bld [(.int .u8 0),(.int .u8 0),(.int .u8 0),(.int .u8 0)] (.arr 1) [(0,(kU .u8 14)),(1,(kU .u8 11)),(2,(kU .u8 13)),(3,(kU .u8 9))]),c2 4 287 2 3])⟩
def fi269:=Fi4 269 ir269
def ir270:FI:=⟨21,[],(qR [mv 4 0,nL 5 4,fA 6 1 5,lG 7 16 6,o1 2 (.arr .u8 16),sT 16 2 7] (qR [mI 8 0] (.blk 0 (.loop (qR [bC 9 .lss 8 16] (.seq (cE 9 0) (.seq (.blk 1 (qR [mv 10 8,mv 3 10] (.drw [tt (mv 11 0),tt (mv 12 3),tt (mv 14 3),tt (iZ 15 16 1 2 14),tt (lD 16 15),tt (nL 17 11),tt (fA 18 1 17),ft (c1 13 288 12),tt (iZ 19 16 1 18 13),ft (sT 1 19 16)]))) (iN 20 8 8))))))))⟩
def fi270:=Fi4 270 ir270
def ir271:FI:=⟨25,[],(qR [mI 3 0] (.blk 0 (.loop (qR [bC 4 .lss 3 16] (.seq (cE 4 0) (.seq (.blk 1 (qR [mv 5 3,mv 2 5] (.drw [tt (mv 6 0),tt (mv 7 2),tt (mv 8 0),tt (nL 9 8),tt (fA 10 0 9),tt (lD 11 10),tt (nL 12 11),tt (fA 13 0 12),tt (mv 14 0),tt (mv 15 2),tt (nL 16 14),tt (fA 17 1 16),tt (iZ 18 16 1 17 15),tt (lD 19 18),tt (nL 21 6),tt (fA 22 1 21),ft (c2 20 289 13 19),tt (iZ 23 16 1 22 7),ft (sT 1 23 20)]))) (iN 24 3 3)))))))⟩
def fi271:=Fi4 271 ir271
def ir272:FI:=⟨6,[.tmp 4],(qR [bx 2 254 0,bx 3 4 1,o1 4 (.mov (.const .nilFunc))] (rR [o1 5 (.mkf 290 [] [(T 3),(T 2)]),mv 4 5]))⟩
def fi272:=Fi4 272 ir272
def ir273:FI:=⟨15,[],(qR [mv 6 1,lN 7 false 6,mI 8 0] (.blk 0 (.loop (qR [bN 9 .lss 0 8 7] (.seq (cE 9 0) (.seq (.blk 1 (qR [iA 10 1 6 8,lD 11 10,mv 5 11] (.reg [mv 12 5,o1 13 (.call (T 12) [])]))) (iN 14 8 8)))))))⟩
def fi273:=Fi4 273 ir273
def ir274:FI:=⟨15,[.cell 2 234],(qR [o1 2 (.arr .u8 32)] (qR [o1 5 (.ld (some 8) (.global 5)),o1 3 (.arr (.int .u32) 8),sT 8 3 5] (.seq (qR [mv 6 0,mv 7 0,lN 8 false 7,c2 9 291 6 8] (.blk 0 (.rf (T 9) #[10] (.reg [mv 4 10]) (.blk 1 (.reg [mv 11 4,c2 12 292 3 11]))))) (rR [lG 13 8 3,c1 14 293 13,sT 32 2 14]))))⟩
def fi274:=Fi4 274 ir274
def ir275:FI:=⟨18,[.cell 3 292],(qR [o1 3 (.arr .u8 64)] (.seq (qR [lG 6 64 1,mI 7 0] (.blk 0 (.loop (qR [bC 8 .lss 7 64] (.seq (cE 8 0) (.seq (.blk 1 (qR [mv 9 7,o1 10 (.ixd 64 (T 6) (T 7)),mv 4 9,mv 5 10] (.reg [mv 11 4,mv 12 5,mv 13 0,bN 14 .xor 0 12 13,iZ 15 64 1 3 11,sT 1 15 14]))) (iN 16 7 7))))))) (rR [lG 17 64 3,sT 64 3 17])))⟩
def fi275:=Fi4 275 ir275
def ir276:FI:=⟨9,[.cell 2 300],(qR [o1 2 (.sgl (.prod (.arr 8 (.int .u32)) (.prod (.arr 64 .u8) (.int .i64))))] (qR [mv 3 0,nL 4 3,fA 5 64 4,o1 6 (.sla 64 1 (T 5) none none),c2 7 277 2 6] (rR [lG 8 73 2,sT 73 2 8])))⟩
def fi276:=Fi4 276 ir276
def ir277:FI:=⟨73,[.tmp 4],(qR [mI 4 0] (.seq (qR [mv 7 0,o1 8 (.bin .eql 1 (T 7) kP)] (cI 8 (rR [mI 4 1]))) (.seq (qR [mv 9 0,nL 10 9,fA 11 72 10,lD 12 11,bC 13 .eql 12 0] (cI 13 (.reg [mv 14 0,o1 15 (.ld (some 8) (.global 5)),nL 16 14,fA 17 0 16,sT 8 17 15]))) (qR [mv 18 0,nL 19 18,fA 20 72 19,lD 21 20,bC 22 .rem 21 64,mv 5 22] (qR [mv 23 0,nL 24 23,fA 25 72 24,lD 26 25,mv 27 1,lN 28 false 27,bN 29 .add 0 26 28,nL 30 23,fA 31 72 30,sT 1 31 29] (.seq (qR [mv 32 5,bC 33 .gtr 32 0] (cI 33 (qR [mv 34 0,nL 35 34,fA 36 8 35,mv 37 5,o1 38 (.sla 64 1 (T 36) (some (T 37)) none),mv 39 1,o1 40 (.cpy 1 (T 38) (T 39)),mv 6 40] (.seq (qR [mv 41 5,mv 42 6,bN 43 .add 0 41 42,bC 44 .lss 43 64] (cI 44 (rR [mI 4 0]))) (.seq (.drw [tt (mv 45 0),tt (nL 46 45),tt (fA 47 0 46),tt (mv 48 0),tt (nL 49 48),tt (fA 50 8 49),tt (o1 51 (.sla 64 1 (T 50) none none)),ft (c2 52 292 47 51)]) (.reg [mv 53 1,mv 54 6,o1 55 (.sl (some 1) (T 53) (some (T 54)) none),mv 1 55])))))) (.seq (.blk 0 (.loop (.seq (qR [mv 56 1,lN 57 false 56,bC 58 .geq 57 64] (cE 58 0)) (.blk 1 (.seq (.drw [tt (mv 59 0),tt (nL 60 59),tt (fA 61 0 60),tt (mv 62 1),tt (o1 63 (.sl3 1 true (T 62) none (ci 64) (ci 64))),ft (c2 64 292 61 63)]) (.reg [mv 65 1,o1 66 (.sl (some 1) (T 65) (some (ci 64)) none),mv 1 66])))))) (qR [mv 67 0,nL 68 67,fA 69 8 68,o1 70 (.sla 64 1 (T 69) none none),mv 71 1,o1 72 (.cpy 1 (T 70) (T 71))] (rR [mI 4 0])))))))))⟩
def fi277:=Fi4 277 ir277
def ir278:FI:=⟨14,[.cell 4 234],(qR [bx 3 234 1,o1 4 (.arr .u8 32)] (qR [o1 5 (.sgl (.prod (.arr 8 (.int .u32)) (.prod (.arr 64 .u8) (.int .i64))))] (qR [mv 6 0,nL 7 6,fA 8 0 7,o1 9 (.sla 64 1 (T 8) none none),c2 10 277 5 9] (qR [o1 11 (.sla 32 1 (T 3) none none),c2 12 277 5 11] (rR [c1 13 279 5,sT 32 4 13])))))⟩
def fi278:=Fi4 278 ir278
def ir279:FI:=⟨41,[.cell 2 234],(qR [o1 2 (.arr .u8 32)] (.seq (qR [mv 6 0,o1 7 (.bin .eql 1 (T 6) kP),mv 8 7,vF 9 0 8,oF 10 (.nil (T 9)) 8,fF 11 72 10 8,lF 12 11 8,oF 13 (.bin .eql 0 (T 12) (ci 0)) 8,pT 14 8 13] (cI 14 (rR [cl 15 274 [kS],sT 32 2 15]))) (qR [mv 16 0,nL 17 16,fA 18 0 17,lG 19 8 18,o1 3 (.arr (.int .u32) 8),sT 8 3 19] (qR [mv 20 0,nL 21 20,fA 22 72 21,lD 23 22,bC 24 .rem 23 64,mv 4 24] (.seq (.seq (.drw [tt (mv 25 0),tt (nL 26 25),tt (fA 27 8 26),tt (mv 28 4),tt (mv 29 4),tt (o1 30 (.sla3 64 1 (T 27) none (T 28) (T 29))),tt (mv 31 0),tt (nL 32 31),tt (fA 33 72 32),tt (lD 34 33),ft (c2 35 291 30 34)]) (.blk 0 (.rf (T 35) #[36] (.reg [mv 5 36]) (.blk 1 (.reg [mv 37 5,c2 38 292 3 37]))))) (rR [lG 39 8 3,c1 40 293 39,sT 32 2 40]))))))⟩
def fi279:=Fi4 279 ir279
def ir282:FI:=⟨22,[],(qR [mI 3 0] (.blk 0 (.loop (qR [bC 4 .lss 3 256] (.seq (cE 4 0) (.seq (.blk 1 (qR [mv 5 3,mv 2 5] (.seq (.drw [tt (mv 6 0),tt (mv 7 2),tt (mv 8 2),tt (o1 9 (.ixs (.const (.string ⟨#[99,124,119,123,242,107,111,197,48,1,103,43,254,215,171,118,202,130,201,125,250,89,71,240,173,212,162,175,156,164,114,192,183,253,147,38,54,63,247,204,52,165,229,241,113,216,49,21,4,199,35,195,24,150,5,154,7,18,128,226,235,39,178,117,9,131,44,26,27,110,90,160,82,59,214,179,41,227,47,132,83,209,0,237,32,252,177,91,106,203,190,57,74,76,88,207,208,239,170,251,67,77,51,133,69,249,2,127,80,60,159,168,81,163,64,143,146,157,56,245,188,182,218,33,16,255,243,210,205,12,19,236,95,151,68,23,196,167,126,61,100,93,25,115,96,129,79,220,34,42,144,136,70,238,184,20,222,94,11,219,224,50,58,10,73,6,36,92,194,211,172,98,145,149,228,121,231,200,55,109,141,213,78,169,108,86,244,234,101,122,174,8,186,120,37,46,28,166,180,198,232,221,116,31,75,189,139,138,112,62,181,102,72,3,246,14,97,53,87,185,134,193,29,158,225,248,152,17,105,217,142,148,155,30,135,233,206,85,40,223,140,161,137,13,191,230,66,104,65,153,45,15,176,84,187,22]⟩)) (T 8))),tt (nL 10 6),tt (fA 11 0 10),tt (iZ 12 256 1 11 7),ft (sT 1 12 9)]) (.drw [tt (mv 13 0),tt (mv 14 2),tt (o1 15 (.ixs (.const (.string ⟨#[99,124,119,123,242,107,111,197,48,1,103,43,254,215,171,118,202,130,201,125,250,89,71,240,173,212,162,175,156,164,114,192,183,253,147,38,54,63,247,204,52,165,229,241,113,216,49,21,4,199,35,195,24,150,5,154,7,18,128,226,235,39,178,117,9,131,44,26,27,110,90,160,82,59,214,179,41,227,47,132,83,209,0,237,32,252,177,91,106,203,190,57,74,76,88,207,208,239,170,251,67,77,51,133,69,249,2,127,80,60,159,168,81,163,64,143,146,157,56,245,188,182,218,33,16,255,243,210,205,12,19,236,95,151,68,23,196,167,126,61,100,93,25,115,96,129,79,220,34,42,144,136,70,238,184,20,222,94,11,219,224,50,58,10,73,6,36,92,194,211,172,98,145,149,228,121,231,200,55,109,141,213,78,169,108,86,244,234,101,122,174,8,186,120,37,46,28,166,180,198,232,221,116,31,75,189,139,138,112,62,181,102,72,3,246,14,97,53,87,185,134,193,29,158,225,248,152,17,105,217,142,148,155,30,135,233,206,85,40,223,140,161,137,13,191,230,66,104,65,153,45,15,176,84,187,22]⟩)) (T 14))),tt (mv 16 2),tt (o1 17 (.toInt .u8 (T 16))),tt (nL 18 13),tt (fA 19 256 18),tt (iZ 20 256 1 19 15),ft (sT 1 20 17)])))) (iN 21 3 3)))))))⟩
def fi282:=Fi4 282 ir282
def ir283:FI:=⟨104,[],(qR [o1 11 (.bdd (.arr 176 .u8) (.arr 4) []),o1 4 (.arr .u8 176),sT 176 4 11] (qR [o1 5 (.mov (kU .u8 1))] (.seq (qR [mI 12 0] (.blk 0 (.loop (qR [bC 13 .lss 12 44] (.seq (cE 13 0) (.seq (.blk 1 (qR [mv 14 12,mv 6 14] (.seq (qR [mv 15 6,bC 16 .lss 15 4] (cI 16 (qR [mv 17 6,mv 18 1,mv 19 6,o1 20 (.bin .mul 0 (ci 4) (T 19)),mv 21 6,o1 22 (.bin .mul 0 (ci 4) (T 21)),bC 23 .add 22 4,mv 24 6,o1 25 (.bin .mul 0 (ci 4) (T 24)),bC 26 .add 25 4,o1 27 (.sl3 1 false (T 18) (some (T 20)) (T 23) (T 26)),o1 28 (.s2a 4 (T 27)),lG 29 4 28,iZ 30 44 4 4 17,sT 4 30 29] (.exit 1)))) (qR [mv 31 6,bC 32 .sub 31 1,iZ 33 44 4 4 32,lG 34 4 33,o1 7 (.arr .u8 4),sT 4 7 34] (.seq (qR [mv 35 6,bC 36 .rem 35 4,bC 37 .eql 36 0] (cI 37 (.seq (.drw [tt (mv 38 0),tt (nL 39 38),tt (fA 40 0 39),tt (o1 41 (.iaa 4 1 (T 7) (ci 1))),tt (lD 42 41),tt (mv 44 5),tt (mv 46 0),tt (nL 47 46),tt (fA 48 0 47),tt (o1 49 (.iaa 4 1 (T 7) (ci 2))),tt (lD 50 49),tt (mv 52 0),tt (nL 53 52),tt (fA 54 0 53),tt (o1 55 (.iaa 4 1 (T 7) (ci 3))),tt (lD 56 55),tt (mv 58 0),tt (nL 59 58),tt (fA 60 0 59),tt (o1 61 (.iaa 4 1 (T 7) (ci 0))),tt (lD 62 61),ft (c2 43 294 40 42),tt (bN 45 .xor 0 43 44),ft (c2 51 294 48 50),ft (c2 57 294 54 56),ft (c2 63 294 60 62),tt (o1 64 (.bld [(.int .u8 0),(.int .u8 0),(.int .u8 0),(.int .u8 0)] (.arr 1) [(0,(T 45)),(1,(T 51)),(2,(T 57)),(3,(T 63))])),ft (sT 4 7 64)]) (.reg [mv 65 5,c1 66 295 65,mv 5 66])))) (qR [mI 67 0] (.blk 2 (.loop (qR [bC 68 .lss 67 4] (.seq (cE 68 2) (.seq (.blk 3 (qR [mv 69 67,mv 8 69] (.drw [tt (mv 70 6),tt (mv 71 8),tt (mv 72 6),tt (bC 73 .sub 72 4),tt (mv 74 8),tt (iZ 75 44 4 4 73),tt (iZ 76 4 1 75 74),tt (lD 77 76),tt (mv 78 8),tt (iZ 79 4 1 7 78),tt (lD 80 79),tt (bN 81 .xor 0 77 80),tt (iZ 82 44 4 4 70),tt (iZ 83 4 1 82 71),ft (sT 1 83 81)]))) (iN 84 67 67)))))))))))) (iN 85 12 12))))))) (qR [lG 86 176 4,mI 87 0] (.blk 4 (.loop (qR [bC 88 .lss 87 44] (.seq (cE 88 4) (.seq (.blk 5 (qR [mv 89 87,o1 90 (.ixr 44 4 (T 86) (T 87)),o1 10 (.arr .u8 4),mv 9 89,sT 4 10 90] (.drw [tt (mv 91 0),tt (mv 92 9),tt (bC 93 .quo 92 4),tt (nL 94 91),tt (fA 95 512 94),tt (iZ 96 11 16 95 93),tt (mv 97 9),tt (bC 98 .rem 97 4),tt (bC 99 .mul 98 4),tt (o1 100 (.sla 16 1 (T 96) (some (T 99)) none)),tt (o1 101 (.sla 4 1 (T 10) none none)),ft (o1 102 (.cpy 1 (T 100) (T 101)))]))) (iN 103 87 87))))))))))⟩
def fi283:=Fi4 283 ir283
def ir284:FI:=⟨25,[],(qR [mI 3 0] (.blk 0 (.loop (qR [bC 4 .lss 3 16] (.seq (cE 4 0) (.seq (.blk 1 (qR [mv 5 3,mv 2 5] (.drw [tt (mv 6 0),tt (mv 7 2),tt (mv 8 0),tt (nL 9 8),tt (fA 10 0 9),tt (lD 11 10),tt (nL 12 11),tt (fA 13 0 12),tt (mv 14 0),tt (mv 15 2),tt (nL 16 14),tt (fA 17 1 16),tt (iZ 18 16 1 17 15),tt (lD 19 18),tt (nL 21 6),tt (fA 22 1 21),ft (c2 20 294 13 19),tt (iZ 23 16 1 22 7),ft (sT 1 23 20)]))) (iN 24 3 3)))))))⟩
def fi284:=Fi4 284 ir284
def ir285:FI:=⟨21,[],(qR [mv 4 0,nL 5 4,fA 6 1 5,lG 7 16 6,o1 2 (.arr .u8 16),sT 16 2 7] (qR [mI 8 0] (.blk 0 (.loop (qR [bC 9 .lss 8 16] (.seq (cE 9 0) (.seq (.blk 1 (qR [mv 10 8,mv 3 10] (.drw [tt (mv 11 0),tt (mv 12 3),tt (mv 13 3),tt (nL 17 11),tt (fA 18 1 17),ft (c1 14 288 13),tt (iZ 15 16 1 2 14),tt (lD 16 15),tt (iZ 19 16 1 18 12),ft (sT 1 19 16)]))) (iN 20 8 8))))))))⟩
def fi285:=Fi4 285 ir285
def ir286:FI:=⟨5,[],(.reg [mv 2 0,o1 3 (.bld [(.int .u8 0),(.int .u8 0),(.int .u8 0),(.int .u8 0)] (.arr 1) [(0,(kU .u8 2)),(1,(kU .u8 3)),(2,(kU .u8 1)),(3,(kU .u8 1))]),c2 4 287 2 3])⟩
def fi286:=Fi4 286 ir286
def ir287:FI:=⟨27,[],(qR [bx 3 241 1] (qR [mv 7 0,nL 8 7,fA 9 1 8,lG 10 16 9,o1 4 (.arr .u8 16),sT 16 4 10] (qR [o1 11 (.mkf 296 [] [(T 3),(T 4)]),mv 5 11] (qR [mI 12 0] (.blk 0 (.loop (qR [bC 13 .lss 12 16] (.seq (cE 13 0) (.seq (.blk 1 (qR [mv 14 12,mv 6 14] (.drw [tt (mv 15 0),tt (mv 16 6),tt (mv 17 5),tt (mv 18 6),tt (bC 19 .quo 18 4),tt (mv 20 6),tt (bC 21 .rem 20 4),tt (nL 23 15),tt (fA 24 1 23),ft (o1 22 (.call (T 17) [(T 19),(T 21)])),tt (iZ 25 16 1 24 16),ft (sT 1 25 22)]))) (iN 26 12 12))))))))))⟩
def fi287:=Fi4 287 ir287
def ir288:FI:=⟨13,[.tmp 2],(qR [mI 2 0] (rR [mv 3 0,bC 4 .quo 3 4,mv 5 0,bC 6 .rem 5 4,bN 7 .add 0 4 6,o1 8 (.bin .mul 0 (ci 4) (T 7)),mv 9 0,bC 10 .rem 9 4,bN 11 .add 0 8 10,bC 12 .rem 11 16,mv 2 12]))⟩
def fi288:=Fi4 288 ir288
def ir289:FI:=⟨11,[.tmp 4],(qR [o1 4 (.mov (kU .u8 0))] (rR [mv 5 0,mv 6 1,nL 7 5,fA 8 256 7,iZ 9 256 1 8 6,lD 10 9,mv 4 10]))⟩
def fi289:=Fi4 289 ir289
def ir290:FI:=⟨22,[],(qR [mI 5 0] (.blk 0 (.loop (qR [bC 6 .lss 5 11] (.seq (cE 6 0) (.seq (.blk 1 (qR [mv 7 5,mv 4 7] (.seq (qR [lD 8 1] (cI 8 (.reg [mv 9 4,o1 10 (.bin .sub 0 (ci 10) (T 9)),mv 4 10]))) (qR [mv 11 0,mv 12 4,lD 13 2,mv 14 4,nL 15 13,fA 16 512 15,iZ 17 11 16 16 14,lG 18 16 17,o1 19 (.call (T 11) [(T 12),(T 18)]),nT 20 19] (.cond (T 20) .ret .skip))))) (iN 21 5 5)))))))⟩
def fi290:=Fi4 290 ir290
def ir291:FI:=⟨6,[.tmp 4],(qR [bx 2 25 0,bx 3 3 1,o1 4 (.mov (.const .nilFunc))] (rR [o1 5 (.mkf 298 [] [(T 2),(T 3)]),mv 4 5]))⟩
def fi291:=Fi4 291 ir291
def ir292:FI:=⟨200,[],(qR [o1 4 (.arr (.int .u32) 64)] (.seq (qR [mI 26 0] (.blk 0 (.loop (qR [bC 27 .lss 26 16] (.seq (cE 27 0) (.seq (.blk 1 (qR [mv 28 26,mv 5 28] (qR [mv 29 1,mv 30 5,o1 31 (.bin .mul 0 (ci 4) (T 30)),mv 32 5,o1 33 (.bin .mul 0 (ci 4) (T 32)),bC 34 .add 33 4,mv 35 5,o1 36 (.bin .mul 0 (ci 4) (T 35)),bC 37 .add 36 4,o1 38 (.sl3 1 false (T 29) (some (T 31)) (T 34) (T 37)),mv 6 38] (.drw [tt (mv 39 5),tt (mv 40 6),tt (o1 41 (.ia 1 (T 40) (ci 0))),tt (lD 42 41),tt (o1 43 (.toInt .u32 (T 42))),tt (o1 44 (.bin .shl 0 (T 43) (kU .u64 24))),tt (mv 45 6),tt (o1 46 (.ia 1 (T 45) (ci 1))),tt (lD 47 46),tt (o1 48 (.toInt .u32 (T 47))),tt (o1 49 (.bin .shl 0 (T 48) (kU .u64 16))),tt (bN 50 .or 0 44 49),tt (mv 51 6),tt (o1 52 (.ia 1 (T 51) (ci 2))),tt (lD 53 52),tt (o1 54 (.toInt .u32 (T 53))),tt (o1 55 (.bin .shl 0 (T 54) (kU .u64 8))),tt (bN 56 .or 0 50 55),tt (mv 57 6),tt (o1 58 (.ia 1 (T 57) (ci 3))),tt (lD 59 58),tt (o1 60 (.toInt .u32 (T 59))),tt (bN 61 .or 0 56 60),tt (iZ 62 64 1 4 39),ft (sT 1 62 61)])))) (iN 63 26 26))))))) (.seq (qR [mI 7 16] (.blk 2 (.loop (.seq (qR [mv 64 7,bC 65 .lss 64 64] (cE 65 2)) (.seq (.blk 3 (.seq (.drw [tt (mv 68 7),tt (bC 69 .sub 68 15),tt (iZ 70 64 1 4 69),tt (lD 71 70),tt (mv 72 7),tt (bC 73 .sub 72 2),tt (iZ 74 64 1 4 73),tt (lD 75 74),tt (mv 8 71),tt (mv 9 75)]) (.drw [tt (mv 76 7),tt (mv 77 9),tt (mv 80 9),tt (o1 81 (.bin .shr 0 (T 80) (kU .u64 10))),tt (mv 83 7),tt (bC 84 .sub 83 7),tt (iZ 85 64 1 4 84),tt (lD 86 85),tt (mv 88 8),tt (mv 91 8),tt (o1 92 (.bin .shr 0 (T 91) (kU .u64 3))),tt (mv 95 7),tt (bC 96 .sub 95 16),tt (iZ 97 64 1 4 96),tt (lD 98 97),tt (o1 78 (.bsl (.int .i64) 2 1 [zi,zi] [(0,(ci 17)),(1,(ci 19))])),tt (c2 79 299 77 78),tt (bN 82 .xor 0 79 81),tt (bN 87 .add 0 82 86),ft (o1 89 (.bsl (.int .i64) 2 1 [zi,zi] [(0,(ci 7)),(1,(ci 18))])),ft (c2 90 299 88 89),tt (bN 93 .xor 0 90 92),tt (bN 94 .add 0 87 93),tt (bN 99 .add 0 94 98),tt (iZ 100 64 1 4 76),ft (sT 1 100 99)]))) (.reg [mv 66 7,aI 67 66,mv 7 67])))))) (qR [o1 10 (.mov (.func 300))] (qR [o1 11 (.mov (.func 301))] (.seq (.drw [tt (mv 101 0),tt (nL 102 101),tt (o1 103 (.iaa 8 1 (T 102) (ci 0))),tt (lD 104 103),tt (mv 105 0),tt (nL 106 105),tt (o1 107 (.iaa 8 1 (T 106) (ci 1))),tt (lD 108 107),tt (mv 109 0),tt (nL 110 109),tt (o1 111 (.iaa 8 1 (T 110) (ci 2))),tt (lD 112 111),tt (mv 113 0),tt (nL 114 113),tt (o1 115 (.iaa 8 1 (T 114) (ci 3))),tt (lD 116 115),tt (mv 117 0),tt (nL 118 117),tt (o1 119 (.iaa 8 1 (T 118) (ci 4))),tt (lD 120 119),tt (mv 121 0),tt (nL 122 121),tt (o1 123 (.iaa 8 1 (T 122) (ci 5))),tt (lD 124 123),tt (mv 125 0),tt (nL 126 125),tt (o1 127 (.iaa 8 1 (T 126) (ci 6))),tt (lD 128 127),tt (mv 129 0),tt (nL 130 129),tt (o1 131 (.iaa 8 1 (T 130) (ci 7))),tt (lD 132 131),tt (mv 12 104),tt (mv 13 108),tt (mv 14 112),tt (mv 15 116),tt (mv 16 120),tt (mv 17 124),tt (mv 18 128),tt (mv 19 132)]) (.seq (qR [o1 133 (.ld (some 64) (.global 6)),mI 134 0] (.blk 4 (.loop (qR [bC 135 .lss 134 64] (.seq (cE 135 4) (.seq (.blk 5 (qR [mv 136 134,o1 137 (.ixd 64 (T 133) (T 134)),mv 20 136,mv 21 137] (.seq (.drw [tt (mv 138 19),tt (mv 139 16),tt (mv 143 10),tt (mv 144 16),tt (mv 145 17),tt (mv 146 18),tt (mv 149 21),tt (mv 151 20),tt (iZ 152 64 1 4 151),tt (lD 153 152),ft (o1 140 (.bsl (.int .i64) 3 1 [zi,zi,zi] [(0,(ci 6)),(1,(ci 11)),(2,(ci 25))])),ft (c2 141 299 139 140),tt (bN 142 .add 0 138 141),ft (o1 147 (.call (T 143) [(T 144),(T 145),(T 146)])),tt (bN 148 .add 0 142 147),tt (bN 150 .add 0 148 149),tt (bN 154 .add 0 150 153),tt (mv 22 154)]) (qR [mv 155 12,o1 156 (.bsl (.int .i64) 3 1 [zi,zi,zi] [(0,(ci 2)),(1,(ci 13)),(2,(ci 22))]),c2 157 299 155 156,mv 158 11,mv 159 12,mv 160 13,mv 161 14,o1 162 (.call (T 158) [(T 159),(T 160),(T 161)]),bN 163 .add 0 157 162,mv 23 163] (.reg [mv 164 18,mv 165 17,mv 166 16,mv 167 15,mv 168 22,bN 169 .add 0 167 168,mv 170 14,mv 171 13,mv 172 12,mv 173 22,mv 174 23,bN 175 .add 0 173 174,mv 19 164,mv 18 165,mv 17 166,mv 16 169,mv 15 170,mv 14 171,mv 13 172,mv 12 175]))))) (iN 176 134 134))))))) (qR [mv 177 12,mv 178 13,mv 179 14,mv 180 15,mv 181 16,mv 182 17,mv 183 18,mv 184 19,o1 185 (.bdd (.arr 8 (.int .u32)) (.arr 1) [(0,(T 177)),(1,(T 178)),(2,(T 179)),(3,(T 180)),(4,(T 181)),(5,(T 182)),(6,(T 183)),(7,(T 184))]),mI 186 0] (.blk 6 (.loop (qR [bC 187 .lss 186 8] (.seq (cE 187 6) (.seq (.blk 7 (qR [mv 188 186,o1 189 (.ixd 8 (T 185) (T 186)),mv 24 188,mv 25 189] (.drw [tt (mv 190 0),tt (mv 191 24),tt (nL 192 190),tt (iZ 193 8 1 192 191),tt (lD 194 193),tt (mv 195 25),tt (bN 196 .add 0 194 195),tt (nL 197 190),tt (iZ 198 8 1 197 191),ft (sT 1 198 196)]))) (iN 199 186 186))))))))))))))⟩
def fi292:=Fi4 292 ir292
def ir293:FI:=⟨38,[.cell 2 234],(qR [bx 1 298 0,o1 2 (.arr .u8 32)] (.seq (qR [lG 5 8 1,mI 6 0] (.blk 0 (.loop (qR [bC 7 .lss 6 8] (.seq (cE 7 0) (.seq (.blk 1 (qR [mv 8 6,o1 9 (.ixd 8 (T 5) (T 6)),mv 3 8,mv 4 9] (.reg [mv 10 3,o1 11 (.bin .mul 0 (ci 4) (T 10)),mv 12 3,o1 13 (.bin .mul 0 (ci 4) (T 12)),aI 14 13,mv 15 3,o1 16 (.bin .mul 0 (ci 4) (T 15)),bC 17 .add 16 2,mv 18 3,o1 19 (.bin .mul 0 (ci 4) (T 18)),bC 20 .add 19 3,mv 21 4,o1 22 (.bin .shr 0 (T 21) (kU .u64 24)),o1 23 (.toInt .u8 (T 22)),mv 24 4,o1 25 (.bin .shr 0 (T 24) (kU .u64 16)),o1 26 (.toInt .u8 (T 25)),mv 27 4,o1 28 (.bin .shr 0 (T 27) (kU .u64 8)),o1 29 (.toInt .u8 (T 28)),mv 30 4,o1 31 (.toInt .u8 (T 30)),iZ 32 32 1 2 11,sT 1 32 23,iZ 33 32 1 2 14,sT 1 33 26,iZ 34 32 1 2 17,sT 1 34 29,iZ 35 32 1 2 20,sT 1 35 31]))) (iN 36 6 6))))))) (rR [lG 37 32 2,sT 32 2 37])))⟩
def fi293:=Fi4 293 ir293
def ir294:FI:=⟨11,[.tmp 4],(qR [o1 4 (.mov (kU .u8 0))] (rR [mv 5 0,mv 6 1,nL 7 5,fA 8 0 7,iZ 9 256 1 8 6,lD 10 9,mv 4 10]))⟩
def fi294:=Fi4 294 ir294
def ir295:FI:=⟨10,[.tmp 2],(qR [o1 2 (.mov (kU .u8 0))] (.seq (qR [mv 3 0,o1 4 (.bin .geq 0 (T 3) (kU .u8 128))] (cI 4 (rR [mv 5 0,o1 6 (.bin .shl 0 (T 5) (kU .u64 1)),o1 7 (.bin .xor 0 (T 6) (kU .u8 27)),mv 2 7]))) (rR [mv 8 0,o1 9 (.bin .shl 0 (T 8) (kU .u64 1)),mv 2 9])))⟩
def fi295:=Fi4 295 ir295
def ir296:FI:=⟨29,[.tmp 6],(qR [o1 6 (.mov (kU .u8 0))] (.seq (qR [lG 9 4 2,mI 10 0] (.blk 0 (.loop (qR [bC 11 .lss 10 4] (.seq (cE 11 0) (.seq (.blk 1 (qR [mv 12 10,o1 13 (.ixd 4 (T 9) (T 10)),mv 7 12,mv 8 13] (.reg [mv 14 6,mv 15 8,mv 16 0,o1 17 (.bin .mul 0 (ci 4) (T 16)),mv 18 1,mv 19 7,bN 20 .add 0 18 19,bC 21 .rem 20 4,bN 22 .add 0 17 21,iZ 23 16 1 3 22,lD 24 23,c2 25 297 15 24,bN 26 .xor 0 14 25,mv 6 26]))) (iN 27 10 10))))))) (rR [mv 28 6,mv 6 28])))⟩
def fi296:=Fi4 296 ir296
def ir297:FI:=⟨18,[.tmp 4],(qR [o1 4 (.mov (kU .u8 0))] (.seq (.blk 0 (.loop (.seq (qR [mv 5 0,o1 6 (.bin .neq 0 (T 5) (kU .u8 0))] (cE 6 0)) (.seq (.blk 1 (.seq (qR [mv 9 0,o1 10 (.bin .and 0 (T 9) (kU .u8 1)),o1 11 (.bin .eql 0 (T 10) (kU .u8 1))] (cI 11 (.reg [mv 12 4,mv 13 1,bN 14 .xor 0 12 13,mv 4 14]))) (.reg [mv 15 1,c1 16 295 15,mv 1 16]))) (.reg [mv 7 0,o1 8 (.bin .shr 0 (T 7) (kU .u64 1)),mv 0 8]))))) (rR [mv 17 4,mv 4 17])))⟩
def fi297:=Fi4 297 ir297
def ir298:FI:=⟨63,[],(qR [lD 8 1,mv 4 8] (.seq (.blk 0 (.loop (.seq (qR [mv 9 4,lN 10 false 9,bC 11 .geq 10 64] (cE 11 0)) (.blk 1 (.seq (qR [mv 12 0,mv 13 4,o1 14 (.sl3 1 true (T 13) none (ci 64) (ci 64)),o1 15 (.call (T 12) [(T 14)]),nT 16 15] (.cond (T 16) .ret .skip)) (.reg [mv 17 4,o1 18 (.sl (some 1) (T 17) (some (ci 64)) none),mv 4 18])))))) (qR [mI 5 64] (.seq (qR [mv 19 4,lN 20 false 19,bC 21 .add 20 9,bC 22 .gtr 21 64] (cI 22 (.reg [mI 5 128]))) (qR [mv 23 5,o1 24 (.mks .u8 1 (T 23) (T 23)),mv 6 24] (qR [mv 25 6,mv 26 4,o1 27 (.cpy 1 (T 25) (T 26))] (qR [mv 28 6,mv 29 4,lN 30 false 29,iA 31 1 28 30,o0 (.st 1 (T 31) (kU .u8 128))] (.seq (qR [mI 32 0] (.blk 2 (.loop (qR [bC 33 .lss 32 8] (.seq (cE 33 2) (.seq (.blk 3 (qR [mv 34 32,mv 7 34] (.reg [mv 35 6,mv 36 5,bC 37 .sub 36 1,mv 38 7,bN 39 .sub 0 37 38,lD 40 2,o1 41 (.toInt .u64 (T 40)),o1 42 (.bin .mul 0 (T 41) (kU .u64 8)),mv 43 7,o1 44 (.bin .mul 0 (ci 8) (T 43)),bN 45 .shr 0 42 44,o1 46 (.toInt .u8 (T 45)),iA 47 1 35 39,sT 1 47 46]))) (iN 48 32 32))))))) (qR [mv 49 0,mv 50 6,o1 51 (.sl3 1 true (T 50) none (ci 64) (ci 64)),o1 52 (.call (T 49) [(T 51)]),mv 53 52,vT 54 5 53,oT 55 (.bin .gtr 0 (T 54) (ci 64)) 53,pF 56 53 55] (cI 56 (.reg [mv 57 0,mv 58 6,mv 59 5,mv 60 5,o1 61 (.sl3 1 false (T 58) (some (ci 64)) (T 59) (T 60)),o1 62 (.call (T 57) [(T 61)])])))))))))))⟩
def fi298:=Fi4 298 ir298
def ir299:FI:=⟨21,[.tmp 4],(qR [o1 4 (.mov (kU .u32 0))] (.seq (qR [mv 7 1,lN 8 false 7,mI 9 0] (.blk 0 (.loop (qR [bN 10 .lss 0 9 8] (.seq (cE 10 0) (.seq (.blk 1 (qR [iA 11 1 7 9,lD 12 11,mv 6 12] (.reg [mv 13 4,mv 14 0,mv 15 6,o1 16 (.un .neg (T 15)),c2 17 302 14 16,bN 18 .xor 0 13 17,mv 4 18]))) (iN 19 9 9))))))) (rR [mv 20 4,mv 4 20])))⟩
def fi299:=Fi4 299 ir299
def ir300:FI:=⟨15,[.tmp 6],(qR [o1 6 (.mov (kU .u32 0))] (rR [mv 7 0,mv 8 1,bN 9 .and 0 7 8,mv 10 0,o1 11 (.un .xor (T 10)),mv 12 2,bN 13 .and 0 11 12,bN 14 .xor 0 9 13,mv 6 14]))⟩
def fi300:=Fi4 300 ir300
def ir301:FI:=⟨18,[.tmp 6],(qR [o1 6 (.mov (kU .u32 0))] (rR [mv 7 0,mv 8 1,bN 9 .and 0 7 8,mv 10 0,mv 11 2,bN 12 .and 0 10 11,bN 13 .xor 0 9 12,mv 14 1,mv 15 2,bN 16 .and 0 14 15,bN 17 .xor 0 13 16,mv 6 17]))⟩
def fi301:=Fi4 301 ir301
def ir302:FI:=⟨17,[.tmp 4],(qR [o1 4 (.mov (kU .u32 0))] (qR [mv 6 1,o1 7 (.toInt .u64 (T 6)),o1 8 (.bin .and 0 (T 7) (kU .u64 31)),mv 5 8] (rR [mv 9 0,mv 10 5,bN 11 .shl 0 9 10,mv 12 0,mv 13 5,o1 14 (.bin .sub 0 (kU .u64 32) (T 13)),bN 15 .shr 0 12 14,bN 16 .or 0 11 15,mv 4 16])))⟩
def fi302:=Fi4 302 ir302
attribute [go_sem] ir268 ir269 ir270 ir271 ir272 ir273 ir274 ir275 ir276 ir277 ir278 ir279 ir282 ir283 ir284 ir285 ir286 ir287 ir288 ir289 ir290 ir291 ir292 ir293 ir294 ir295 ir296 ir297 ir298 ir299 ir300 ir301 ir302
def mixed:Tryz.prog.follows .mixedOrders=true:=by kernel_rfl
variable {AQ:Ex->List SV->List SObj->Prop}{m:IM}{q:Prop}
def gQ[Ghost](h:q)(e:run Tryz.prog AQ 600 m=q:=by (simp (maxSteps:=3000000) only [go_sem,↓zA,↓reduceIte,↓reduceDIte];(try simp only [zB]);rfl)):SoundI Tryz.prog AQ m:=goE mixed h e
def aQ[Ghost](h:q)(e:run Tryz.prog AQ 600 m=q:=by (simp (maxSteps:=3000000) only [List.append_assoc,getA,getA0,setA,setA0,Ab,Ax,go_sem,↓zA,↓reduceIte,↓reduceDIte];(try simp only [zB]);rfl)):SoundI Tryz.prog AQ m:=goaE mixed h e
variable {f:FuncId}{fi:FI}{args:List SV}{K:Out->List SObj->Prop}{H:List SObj}
def rQ(c:finfo Tryz.prog f=some fi)(h:q)(e:run Tryz.prog (retF Tryz.prog fi.results K) 600 ⟨H.length,[.ic fi.code],args++List.replicate (fi.ntmps-args.length) .any,H⟩=q:=by (simp (maxSteps:=3000000) only [go_sem,↓zA,↓reduceIte,↓reduceDIte];(try simp only [zB]);rfl)):VC Tryz.prog f args H K:=runE mixed c h e
variable {s:SV}{d:Option Tmp}
def eQ[Ghost]{c:List SV}{H0 H1:List SObj}(j:List Nat)(n:PE Tryz.prog f c H0 (.ret s) H1)(h:q)(l:args=SV.renL (sig j m.heap.length) c:=by rfl)(hnd:j.Nodup:=by decide)(ha:atH (sig j m.heap.length) m.heap j H0:=by (repeat first|exact trivial|exact rfl|refine And.intro ?_ ?_))(hb:SV.belL H0.length c=true:=by rfl)(hbh:belH H0.length H0=true:=by rfl)(e:run Tryz.prog AQ 600 {m with tmps:=putT m.tmps d (s.ren (sig j m.heap.length)),heap:=mgA (sig j m.heap.length) j H1 m.heap}=q:=by (simp only [Out.ren,SV.ren,mgA,sig,SObj.ren,SV.renL,List.set,List.map,Ac];simp (maxSteps:=3000000) only [go_sem,↓zA,↓reduceIte,↓reduceDIte];(try simp only [zB]);rfl)):CallI Tryz.prog AQ f args d m:=effE mixed j n h l hnd ha hb hbh e
def cQ[Ghost](c:PC Tryz.prog f args s)(h:q)(e:run Tryz.prog AQ 600 {m with tmps:=putT m.tmps d s}=q:=by (simp (maxSteps:=3000000) only [go_sem,↓zA,↓reduceIte,↓reduceDIte];(try simp only [zB]);rfl)):CallI Tryz.prog AQ f args d m:=q0a c (goE mixed h e)
def cR[Ghost]{G:List Nat}(c:PC Tryz.prog f args s)(h:q)(e:run Tryz.prog AQ 600 {m with tmps:=putT m.tmps d s}=q:=by (simp (maxSteps:=3000000) only [go_sem,↓zA,↓reduceIte,↓reduceDIte];(try simp only [zB]);rfl)):CallR Tryz.prog AQ G f args d m:=q0d c (goE mixed h e)
def uQ[Ghost](n:Nat)(m:IM)(h:run Tryz.prog AQ n m):SoundI Tryz.prog AQ m:=q0p mixed n m h
variable {a0:Prop}
def gy1[Ghost](c:a0)(h:q)(e:a0->run Tryz.prog AQ 600 m=q:=by (intro c;simp (maxSteps:=3000000) only [c,go_sem,↓zA,↓reduceIte,↓reduceDIte];(try simp only [zB]);rfl)):SoundI Tryz.prog AQ m:=q0p mixed 600 m (Eq.mpr (e c) h)
def cy1[Ghost](j:PC Tryz.prog f args s)(c:a0)(h:q)(e:a0->run Tryz.prog AQ 600 {m with tmps:=putT m.tmps d s}=q:=by (intro c;simp (maxSteps:=3000000) only [c,go_sem,↓zA,↓reduceIte,↓reduceDIte];(try simp only [zB]);rfl)):CallI Tryz.prog AQ f args d m:=q0a j (q0p mixed 600 _ (Eq.mpr (e c) h))
def ry1(j:finfo Tryz.prog f=some fi)(c:a0)(h:q)(e:a0->run Tryz.prog (retF Tryz.prog fi.results K) 600 ⟨H.length,[.ic fi.code],args++List.replicate (fi.ntmps-args.length) .any,H⟩=q:=by (intro c;simp (maxSteps:=3000000) only [c,go_sem,↓zA,↓reduceIte,↓reduceDIte];(try simp only [zB]);rfl)):VC Tryz.prog f args H K:=q2g j (q0p mixed 600 _ (Eq.mpr (e c) h))
theorem sya1{p:Prop}(c:a0)(h:q)(e:a0->p=q:=by (intro c;simp (maxSteps:=3000000) only [c,List.append_assoc,getA,getA0,setA,setA0,Ab,Ax,go_sem,↓zA,↓reduceIte,↓reduceDIte];(try simp only [zB]);rfl)):p:=Eq.mpr (e c) h
variable {a1:Prop}
theorem sy2{p:Prop}(c:a0)(j:a1)(h:q)(e:a0->a1->p=q:=by (intro c j;simp (maxSteps:=3000000) only [c,j,go_sem,↓zA,↓reduceIte,↓reduceDIte];(try simp only [zB]);rfl)):p:=Eq.mpr (e c j) h
def gy2[Ghost](c:a0)(j:a1)(h:q)(e:a0->a1->run Tryz.prog AQ 600 m=q:=by (intro c j;simp (maxSteps:=3000000) only [c,j,go_sem,↓zA,↓reduceIte,↓reduceDIte];(try simp only [zB]);rfl)):SoundI Tryz.prog AQ m:=q0p mixed 600 m (Eq.mpr (e c j) h)
def ry2(l:finfo Tryz.prog f=some fi)(c:a0)(j:a1)(h:q)(e:a0->a1->run Tryz.prog (retF Tryz.prog fi.results K) 600 ⟨H.length,[.ic fi.code],args++List.replicate (fi.ntmps-args.length) .any,H⟩=q:=by (intro c j;simp (maxSteps:=3000000) only [c,j,go_sem,↓zA,↓reduceIte,↓reduceDIte];(try simp only [zB]);rfl)):VC Tryz.prog f args H K:=q2g l (q0p mixed 600 _ (Eq.mpr (e c j) h))
def gya2[Ghost](c:a0)(j:a1)(h:q)(e:a0->a1->run Tryz.prog AQ 600 m=q:=by (intro c j;simp (maxSteps:=3000000) only [c,j,List.append_assoc,getA,getA0,setA,setA0,Ab,Ax,go_sem,↓zA,↓reduceIte,↓reduceDIte];(try simp only [zB]);rfl)):SoundI Tryz.prog AQ m:=q0p mixed 600 m (Eq.mpr (e c j) h)
variable {a2:Prop}
def gy3[Ghost](c:a0)(j:a1)(l:a2)(h:q)(e:a0->a1->a2->run Tryz.prog AQ 600 m=q:=by (intro c j l;simp (maxSteps:=3000000) only [c,j,l,go_sem,↓zA,↓reduceIte,↓reduceDIte];(try simp only [zB]);rfl)):SoundI Tryz.prog AQ m:=q0p mixed 600 m (Eq.mpr (e c j l) h)
def gyd3[Ghost](c:a0)(j:a1)(l:a2)(h:q)(e:a0->a1->a2->run Tryz.prog AQ 600 m=q:=by (intro c j l;simp (maxSteps:=3000000) only [c,j,l,Ty.dflt,go_sem,↓zA,↓reduceIte,↓reduceDIte];(try simp only [zB]);rfl)):SoundI Tryz.prog AQ m:=q0p mixed 600 m (Eq.mpr (e c j l) h)
def cyd3[Ghost](n:PC Tryz.prog f args s)(c:a0)(j:a1)(l:a2)(h:q)(e:a0->a1->a2->run Tryz.prog AQ 600 {m with tmps:=putT m.tmps d s}=q:=by (intro c j l;simp (maxSteps:=3000000) only [c,j,l,Ty.dflt,go_sem,↓zA,↓reduceIte,↓reduceDIte];(try simp only [zB]);rfl)):CallI Tryz.prog AQ f args d m:=q0a n (q0p mixed 600 _ (Eq.mpr (e c j l) h))
variable {a3:Prop}
def gy4[Ghost](c:a0)(j:a1)(l:a2)(n:a3)(h:q)(e:a0->a1->a2->a3->run Tryz.prog AQ 600 m=q:=by (intro c j l n;simp (maxSteps:=3000000) only [c,j,l,n,go_sem,↓zA,↓reduceIte,↓reduceDIte];(try simp only [zB]);rfl)):SoundI Tryz.prog AQ m:=q0p mixed 600 m (Eq.mpr (e c j l n) h)
def cy4[Ghost](o:PC Tryz.prog f args s)(l:a0)(c:a1)(n:a2)(j:a3)(h:q)(e:a0->a1->a2->a3->run Tryz.prog AQ 600 {m with tmps:=putT m.tmps d s}=q:=by (intro l c n j;simp (maxSteps:=3000000) only [l,c,n,j,go_sem,↓zA,↓reduceIte,↓reduceDIte];(try simp only [zB]);rfl)):CallI Tryz.prog AQ f args d m:=q0a o (q0p mixed 600 _ (Eq.mpr (e l c n j) h))
def gyd4[Ghost](c:a0)(j:a1)(l:a2)(n:a3)(h:q)(e:a0->a1->a2->a3->run Tryz.prog AQ 600 m=q:=by (intro c j l n;simp (maxSteps:=3000000) only [c,j,l,n,Ty.dflt,go_sem,↓zA,↓reduceIte,↓reduceDIte];(try simp only [zB]);rfl)):SoundI Tryz.prog AQ m:=q0p mixed 600 m (Eq.mpr (e c j l n) h)
def ry5{p:Prop}(r:finfo Tryz.prog f=some fi)(n:a0)(j:a1)(o:a2)(l:a3)(c:p)(h:q)(e:a0->a1->a2->a3->p->run Tryz.prog (retF Tryz.prog fi.results K) 600 ⟨H.length,[.ic fi.code],args++List.replicate (fi.ntmps-args.length) .any,H⟩=q:=by (intro n j o l c;simp (maxSteps:=3000000) only [n,j,o,l,c,go_sem,↓zA,↓reduceIte,↓reduceDIte];(try simp only [zB]);rfl)):VC Tryz.prog f args H K:=q2g r (q0p mixed 600 _ (Eq.mpr (e n j o l c) h))
theorem sy6{u w p:Prop}(n:a0)(j:a1)(o:a2)(l:a3)(c:u)(r:w)(h:q)(e:a0->a1->a2->a3->u->w->p=q:=by (intro n j o l c r;simp (maxSteps:=3000000) only [n,j,o,l,c,r,go_sem,↓zA,↓reduceIte,↓reduceDIte];(try simp only [zB]);rfl)):p:=Eq.mpr (e n j o l c r) h
def gy8[Ghost]{w y z x:Prop}(n:a0)(j:a1)(o:a2)(l:a3)(c:w)(r:y)(p:z)(u:x)(h:q)(e:a0->a1->a2->a3->w->y->z->x->run Tryz.prog AQ 600 m=q:=by (intro n j o l c r p u;simp (maxSteps:=3000000) only [n,j,o,l,c,r,p,u,go_sem,↓zA,↓reduceIte,↓reduceDIte];(try simp only [zB]);rfl)):SoundI Tryz.prog AQ m:=q0p mixed 600 m (Eq.mpr (e n j o l c r p u) h)
def gyd10[Ghost]{y D E A z B:Prop}(o:a0)(j:a1)(r:a2)(n:a3)(c:y)(w:D)(u:E)(x:A)(l:z)(p:B)(h:q)(e:a0->a1->a2->a3->y->D->E->A->z->B->run Tryz.prog AQ 600 m=q:=by (intro o j r n c w u x l p;simp (maxSteps:=3000000) only [o,j,r,n,c,w,u,x,l,p,Ty.dflt,go_sem,↓zA,↓reduceIte,↓reduceDIte];(try simp only [zB]);rfl)):SoundI Tryz.prog AQ m:=q0p mixed 600 m (Eq.mpr (e o j r n c w u x l p) h)
abbrev I64:Ty:=.int .i64
abbrev PrinT:Ty:=.prod (.slice .str) .str
abbrev KeyT:Ty:=.prod I64 (.prod I64 (.slice .u8))
abbrev SetT:Ty:=.prod I64 (.prod (.slice KeyT) (.prod .str (.prod I64 I64)))
abbrev Prin:=PrinT.den
abbrev Key:=KeyT.den
abbrev KSet:=SetT.den
abbrev rI(n:Int):SV:=.raw (.int .i64 n)
abbrev rB(b:Bool):SV:=.raw (.bool b)
abbrev rS(s:ByteArray):SV:=.raw (.string s)
set_option maxHeartbeats 4000000
abbrev inW(x:Int):Prop:=0<=x/\x<4294967296
def xorW(a b:Int):Int:=((a.toNat^^^ b.toNat:Nat):Int)
def andW(a b:Int):Int:=((a.toNat&&& b.toNat:Nat):Int)
def rotW(n:Nat)(x:Int):Int:=x / 2^ n+x*2^ (32-n)%4294967296
def chW(e f g:Int):Int:=xorW (andW e f) (andW (4294967295-e) g)
def majW(a b c:Int):Int:=xorW (xorW (andW a b) (andW a c)) (andW b c)
variable {a:Int}
theorem q8Q{b:Int}(ha:inW a)(hb:inW b):inW (xorW a b):=by have:a.toNat^^^ b.toNat<2^ 32:=Nat.xor_lt_two_pow (by omega) (by omega);grind [xorW]
theorem q4r{b:Int}(ha:inW a)(_:inW b):inW (andW a b):=by grind [Nat.and_le_left,andW]
theorem q3M{n:Nat}{x:Int}(h1:1<=n)(h2:n<=31)(hx:inW x):inW (rotW n x):=by
 obtain ⟨x,rfl⟩:∃m:Nat,x=m:=⟨x.toNat,by omega⟩
 unfold rotW;have c:x<2^ n*2^ (32-n):=by rw [<-Cs,show n+ (32-n)=32 by omega];omega
 have j:((x:Int) / 2^ n)=((x / 2^ n:Nat):Int):=by simp
 have o:((x:Int)*2^ (32-n)%4294967296)=((x*2^ (32-n)%4294967296:Nat):Int):=by simp
 rw [j,o];have h3:x / 2^ n<2^ (32-n):=Nat.div_lt_of_lt_mul c;have h4:x*2^ (32-n)%4294967296=(x%2^ n)*2^ (32-n):=by
  have:(4294967296:Nat)=2^ n*2^ (32-n):=by rw [<-Cs,show n+ (32-n)=32 by omega]
  rw [this,Nat.mul_mod_mul_right]
 have l:x%2^ n<2^ n:=CS _ (Nat.two_pow_pos n);have e:(x%2^ n+1)*2^ (32-n)<=2^ n*2^ (32-n):=A1 _ l;rw [<-Cs,show n+ (32-n)=32 by omega,Nat.add_mul] at e;grind
variable {k:IntKind}
theorem j2D{b:Int}(c:32<=k.bits)(ha:inW a)(hb:inW b):((BitVec.ofInt k.bits a^^^ BitVec.ofInt k.bits b).toNat:Int)=xorW a b:=by
 obtain ⟨a,rfl⟩:∃m:Nat,a=m:=⟨a.toNat,by omega⟩
 obtain ⟨b,rfl⟩:∃m:Nat,b=m:=⟨b.toNat,by omega⟩
 have hp:2^ 32<=2^ k.bits:=A2 (by decide) c;grind [xorW]
theorem j4v{b:Int}(c:32<=k.bits)(ha:inW a)(hb:inW b):((BitVec.ofInt k.bits a&&& BitVec.ofInt k.bits b).toNat:Int)=andW a b:=by
 obtain ⟨a,rfl⟩:∃m:Nat,a=m:=⟨a.toNat,by omega⟩
 obtain ⟨b,rfl⟩:∃m:Nat,b=m:=⟨b.toNat,by omega⟩
 have hp:2^ 32<=2^ k.bits:=A2 (by decide) c;grind [andW]
theorem w32(ha:inW a):IntKind.u32.wrap a=a:=by have h:IntKind.u32.wrap a=a%4294967296:=rfl;rw [h];omega
def xor32{b:Int}(c:inW a)(e:inW b):xorK .u32 a b=xorW a b:=by unfold xorK;rw [j2D (by decide) c e,w32 (q8Q c e)]
def and32{b:Int}(c:inW a)(e:inW b):andK .u32 a b=andW a b:=by unfold andK;rw [j4v (by decide) c e,w32 (q4r c e)]

abbrev W32:Int:=4294967296
def byI(b:List UInt8)(j:Nat):Int:=((b.getD j 0).toNat:Int)
def j9Y(b:List UInt8)(j:Nat):0<=byI b j/\byI b j<256:=by have:=(b.getD j 0).toNat_lt;unfold byI;omega
def wdP(b:List UInt8)(t:Nat):Nat->Int
 |0=>0
 |i+1=>256*wdP b t i+byI b (4*t+i)
theorem j4T(b:List UInt8)(t:Nat):∀i,i<=4->inW (wdP b t i)/\wdP b t i<256^ i
 |0,_=>by simp [wdP,inW]
 |i+1,hi=>by
  have:=j4T b t i (by omega);have hb:=j9Y b (4*t+i);have c:i=0\/i=1\/i=2\/i=3:=by omega
  rcases c with rfl|rfl|rfl|rfl<;> (simp only [wdP] at*;simp at*;omega)
def sg0(x:Int):Int:=xorW (xorW (rotW 7 x) (rotW 18 x)) (x / 8)
def sg1(y:Int):Int:=xorW (xorW (rotW 17 y) (rotW 19 y)) (y / 1024)
def wS(b:List UInt8)(t:Nat):Int:=if h:t<16 then wdP b t 4 else (sg1 (wS b (t-2))+wS b (t-7)+sg0 (wS b (t-15))+wS b (t-16))%W32
termination_by t
variable {b:List UInt8}{t:Nat}
def j5R(h:t<16):wS b t=wdP b t 4:=by rw [wS,dif_pos h]
def j6z(h:16<=t):wS b t=(sg1 (wS b (t-2))+wS b (t-7)+sg0 (wS b (t-15))+wS b (t-16))%W32:=by rw [wS,dif_neg (by omega)]
theorem z8g(b:List UInt8)(t:Nat):inW (wS b t):=by
 rcases AL t 16 with h|h
 . rw [j5R h];exact (j4T b t 4 (Ad _)).1
 rw [j6z h];grind
def wL(b:List UInt8)(t:Nat):List Int:=(List.range 64).map λj=>if j<t then wS b j else 0
def j4W(b:List UInt8)(t:Nat):(wL b t).length=64:=by simp [wL]
theorem z2U(b:List UInt8){j:Nat}(h:j<t)(h2:j<64):(wL b t).getD j 0=wS b j:=by grind [wL]
theorem j5b(b:List UInt8)(h:t<64):(wL b t).set t (wS b t)=wL b (t+1):=by
 apply Av
 . simp [wL]
 intro j c e;simp [wL] at c e;rw [Bf];simp only [wL,AJ,AG];grind
theorem j6x(b:List UInt8):wL b 0=List.replicate 64 0:=by rfl
def kS(t:Nat):Int:=dat_ref04_constants.getD t 0
def bs1(e:Int):Int:=xorW (xorW (rotW 6 e) (rotW 11 e)) (rotW 25 e)
def bs0(a:Int):Int:=xorW (xorW (rotW 2 a) (rotW 13 a)) (rotW 22 a)
def t1S(k w:Int)(v:List Int):Int:=v.getD 7 0+bs1 (v.getD 4 0)+chW (v.getD 4 0) (v.getD 5 0) (v.getD 6 0)+k+w
def t2S(v:List Int):Int:=bs0 (v.getD 0 0)+majW (v.getD 0 0) (v.getD 1 0) (v.getD 2 0)
def rnd(k w:Int)(v:List Int):List Int:=
 [(t1S k w v+t2S v)%W32,v.getD 0 0,v.getD 1 0,v.getD 2 0,(v.getD 3 0+t1S k w v)%W32,v.getD 4 0,v.getD 5 0,v.getD 6 0]
def rnds(b:List UInt8)(h:List Int):Nat->List Int
 |0=>h
 |t+1=>rnd (kS t) (wS b t) (rnds b h t)
abbrev inWs(v:List Int):Prop:=v.length=8/\∀x∈v,inW x
variable {v:List Int}
theorem q1a(h:inWs v)(i:Nat)(hi:i<8):inW (v.getD i 0):=by grind [List.getElem_mem]
theorem k0t{k w:Int}(h:inWs v):inWs (rnd k w v):=by
 refine ⟨rfl,λx e=> ?_⟩;have c:∀y:Int,inW (y%W32):=λy=>by grind
 simp only [rnd,Bb,Co,or_false] at e;rcases e with rfl|rfl|rfl|rfl|rfl|rfl|rfl|rfl
 . exact c _
 . exact q1a h 0 (by decide)
 . exact q1a h 1 (by decide)
 . exact q1a h 2 (by decide)
 . exact c _
 . exact q1a h 4 (by decide)
 . exact q1a h 5 (by decide)
 exact q1a h 6 (by decide)
def z0V{b:List UInt8}{h:List Int}(hh:inWs h):∀t,inWs (rnds b h t)
 |0=>hh
 |t+1=>k0t (z0V hh t)
def k1u:∀t,t<64->inW (kS t):=by decide
def blkS(b:List UInt8)(h:List Int):List Int:=(List.range 8).map λi=>(h.getD i 0+ (rnds b h 64).getD i 0)%W32
def blkP(b:List UInt8)(h:List Int)(n:Nat):List Int:=(List.range 8).map λi=>if i<n then (h.getD i 0+ (rnds b h 64).getD i 0)%W32 else h.getD i 0
end Go.Proofs.YthbcodbcndiapaaGreatDoor
namespace Go.Sx
section
open Go
variable [Ghost] {P:Program} {AQ:Ex->List SV->List SObj->Prop} {k0:Nat} {k:List IT} {t:List SV} {H:List SObj}

structure Cln (cs:List SV):Prop where
 ren:∀σ,SV.renL σ cs=cs
 bel:∀n,SV.belL n cs=true
 shut:∀n H,SV.sealBL n H cs=some (cs,True)
 le:SV.leAL cs cs
def z7c{n:Nat}{l:List SObj}:sealHL n H l []=True:=by simp [sealHL]
def z4r{n:Nat}{o:SObj}{l c:List SObj}:sealHL n H (o :: l) (.dead :: c)=(o.unmarked/\sealHL n H l c):=by simp [sealHL]
attribute [go_sem] z7c z4r
end
section
open Go
variable [Ghost] {P:Program} {AQ:Ex->List SV->List SObj->Prop} {k0:Nat} {k:List IT} {t:List SV} {H:List SObj}

def afterR(P:Program)(AQ:Ex->List SV->List SObj->Prop)(d:Option Tmp)(m:IM):Out->List SObj->Prop
 |.ret s,H'=>SoundI P AQ {m with tmps:=putT m.tmps d s,heap:=H'}
 |.pan s,H'=>AQ (.pan s) [] H'
def q0t{G:List Nat}{f:FuncId}{args c:List SV}{H0 H1:List SObj}{o:Out}{d:Option Tmp}{m:IM}(e:List Nat)(p:PE P f c H0 o H1)(j:args=SV.renL (sig e m.heap.length) c)(n:e.Nodup)
 (r:atH (sig e m.heap.length) m.heap e H0)(u:SV.belL H0.length c=true)(l:belH H0.length H0=true)(w:SameG G m.heap (mgA (sig e m.heap.length) e H1 m.heap))
 (h:afterR P AQ d m (o.ren (sig e m.heap.length)) (mgA (sig e m.heap.length) e H1 m.heap)):CallR P AQ G f args d m:=by
 subst j;refine ⟨p.1,VCall.g (VCall.fr e n r u l p.2 ?_)⟩;rintro o' H' _ ⟨rfl,rfl⟩;cases o' with
 |ret s=>exact ⟨λ_=>w,h⟩
 |pan s=>exact h

variable {cs:List SV}
theorem j1g{C:Cx}{h:Nat}{T:TypeId}{cs':List SV}(u:Wd C H)(x:H[h]?=some (.cells T cs))(E:∀vs,SV.denL C cs vs->SV.denL C cs' vs):Wd C (H.set h (.cells T cs'))/\Ext ⟨C,H⟩ C (H.set h (.cells T cs')):=by
 have l:∀ {i y},(H.set h (.cells T cs'))[i]?=some y->∃r,H[i]?=some r/\r.live=y.live/\(i≠h->r=y):=λ{i y} c=>by
  by_cases e:i=h
  . subst e;rw [Bk (Au.1 x).1] at c;cases c;exact ⟨_,x,rfl,λJ=>absurd rfl J⟩
  grind
 have o:∀b,OwnB C (H.set h (.cells T cs')) b->OwnB C H b:=λb ⟨i,y,c,I,p⟩=>by obtain ⟨r,w,A,_⟩:=l c;exact ⟨i,r,w,by simp_all,p⟩
 refine ⟨⟨by rw [BG];exact u.n,λi y c=> ?_,λb p=>u.own b (o b p),λi j y z b c G I hl' p D=> ?_,u.imm⟩,⟨Evo.refl _,Ad _,rfl,rfl,rfl,λ_ _ _=>rfl,λ_ h=>.inl h,λb p=>.inr (o b p),λ_ _ L=>q4t x rfl L⟩⟩
 . by_cases e:i=h
   . subst e;rw [Bk (Au.1 x).1] at c;cases c;obtain ⟨b,vs,w,A,B⟩:=u.obj i _ x;exact ⟨b,vs,w,A,E vs B⟩
   rw [AU (Ne.symm e)] at c;exact u.obj i y c
 obtain ⟨r,w,A,_⟩:=l c;obtain ⟨F,B,h4,_⟩:=l G;exact u.inj i j r F b w B (by simp_all) (by simp_all) p D
theorem z1d{k:List It}{u:List SV}(h off:Nat)(ty:Ty){T:TypeId}(z:H[h]?=some (.cells T cs))(F:cs[off]?=some (.raw (.slice none 0 0)))(D:Sound P AQ ⟨k0,k,u,(H.set h (.cells T (cs.set off (.bld H.length ty 0))))++ [.row ty []]⟩):Sound P AQ ⟨k0,k,u,H⟩:=by
 intro E r n C a A j;obtain ⟨C',hw,y,l,B⟩:=z3u (t:=ty) j.wd;have o:(H++ [SObj.row ty []])[h]?=some (.cells T cs):=by grind
 obtain ⟨x,p⟩:=j1g (cs':=cs.set off (.bld H.length ty 0)) y o (λvs w=>by
  obtain ⟨v,hv',c⟩:=q2t w F;rw [SV.den] at c;subst c;have:=q2G (i:=off) w B;have he:vs.set off (.slice none 0 0)=vs:=by apply Ba;grind
  simp_all)
 have e:(H++ [SObj.row ty []]).set h (.cells T (cs.set off (.bld H.length ty 0)))=H.set h (.cells T (cs.set off (.bld H.length ty 0)))++ [.row ty []]:=List.set_append_left _ _ (Au.1 z).1;rw [e] at x p;have:=D E r n C' a A ⟨x,j.ext.trans (l.trans p),DefOk.next (l.trans p) j.defs,q0h l.evo j.tmps⟩
 simp_all
def q3D(h off:Nat)(ty:Ty){T:TypeId}{td:List IT}(hp:plainT td=true)(hH:H[h]?=some (.cells T cs))(hi:cs[off]?=some (.raw (.slice none 0 0)))(hs:SoundI P AQ ⟨k0,td,t,(H.set h (.cells T (cs.set off (.bld H.length ty 0))))++ [.row ty []]⟩):SoundI P AQ ⟨k0,td,t,H⟩:=
 q0e (λ_ hr=>z1d h off ty hH hi (q0f hs hr)) hp
theorem rnE{p q:Prop}(h:q)(e:p=q:=by (simp only [afterR,Out.ren,SV.ren,mgA,sig,SObj.ren,SV.renL,Ay,Ar,List.append_assoc,Bi,Bc,List.set,List.map,Ac];rfl)):p:=Eq.mpr e h
end
section
open Go
variable [Ghost] {P:Program} {AQ:Ex->List SV->List SObj->Prop} {k0:Nat} {k:List IT} {t:List SV} {H:List SObj}

theorem z1A{k:List It}(A A' G:List SObj){ty:Ty}{xs:List ty.den}(I:k0<=A.length)(O:A=A'.map (SObj.ren (shift A.length (A.length+G.length))))(N:belH (A.length+1) A'=true)(hbt:SV.belL (A.length+1) t=true)
 (Q:leT (shift A.length (A.length+G.length)) t t)(R:Sound P AQ ⟨k0,k,t,A'++ [.row ty xs]⟩):Sound P AQ ⟨k0,k,t,A++G++ [.row ty xs]⟩:=by
 intro E r n C a z J;have c:A.length=A'.length:=by grind
 have D:∀h,h<A.length->shift A.length (A.length+G.length) h=h:=λh p=>by unfold shift;grind
 have w:shift A.length (A.length+G.length) A.length=A.length+G.length:=by unfold shift;grind
 have F:Den E (C.ren (shift A.length (A.length+G.length)) (A'++ [SObj.row ty xs]).length) t (A'++ [.row ty xs]) a:=by
  refine q8v z.1 J Q (by grind) (λh o j _=> ?_) (q5h λh o j=> ?_) (λh h' o o' j ho' _ _ e=> ?_) (λh p=>D h (Al p I)) (by grind) (λm B y=> ?_)
  . rcases q0q j with ⟨p,j⟩ | ⟨p,rfl⟩
    . grind
    rw [p,<-c,w,<-Ab,AW (Ad _),Nat.sub_self];rfl
  . rcases q0q j with ⟨p,j⟩ | ⟨p,rfl⟩
    . rw [Ab,<-c];exact q3g N j
    rfl
  . grind
  have y:=y;have u:0<A.length:=Al B (Ao z.1 I);rw [List.append_assoc,Az u] at y;rw [Az (by omega)];have x:=congrArg (λl=>l[0]?) O;simp only [AR,y] at x;cases L:A'[0]? with
  |none=>grind
  |some o=>rw [L] at x;cases o<;>simp [SObj.ren] at x;rw [x]
 exact R E r n (C.ren (shift A.length (A.length+G.length)) (A'++ [SObj.row ty xs]).length) a z F
theorem z6E(A A' G:List SObj){ty:Ty}{xs:List ty.den}{td:List IT}(hp:plainT td=true)(hH:H=A++G++ [.row ty xs])(hk:k0<=A.length)(hA:A=A'.map (SObj.ren (shift A.length (A.length+G.length))))(hb:belH (A.length+1) A'=true)(hbt:SV.belL (A.length+1) t=true)
 (hl:leT (shift A.length (A.length+G.length)) t t)(hs:SoundI P AQ ⟨k0,td,t,A'++ [.row ty xs]⟩):SoundI P AQ ⟨k0,td,t,H⟩:=by
 grind [q0e,z1A,q0f]
end
open Go
variable {P:Program} {AQ:Ex->List SV->List SObj->Prop} {k0:Nat} {k:List IT} {t:List SV} {H:List SObj}

def CutQ(P:Program)(AQ:Ex->List SV->List SObj->Prop)(k0:Nat)(k:List IT)(T0:List SV):Ex->List SV->List SObj->Prop
 |.normal,t,H=>SoundI P AQ ⟨k0,k,t,H⟩
 |.pan s,_,H=>AQ (.pan s) T0 H
 |_,_,_=>False
def j0N{T0:List SV}(h:SoundI P AQ ⟨k0,k,t,H⟩):CutQ P AQ k0 k T0 .normal t H:=h
def z5x{T0 t':List SV}{s:SV}(h:AQ (.pan s) T0 H):CutQ P AQ k0 k T0 (.pan s) t' H:=h
def SameBut(ws:List Nat)(t t':List SV):Prop:=t'.length=t.length/\∀i,i ∉ ws->t'[i]?=t[i]?
theorem SameBut.put{ws:List Nat}{t j:List SV}(h:SameBut ws t j){d:Option Tmp}(n:∀e,d=some e->e∈ws)(s:SV):SameBut ws t (putT j d s):=by
 cases d with
 |none=>exact h
 |some e=>exact ⟨by simp [putT,h.1],λi l=>by
  have c:e≠i:=λo=>l (o▸n e rfl);simp only [putT];rw [AU c]
  exact h.2 i l⟩
def z1W:∀ (ws:List Nat) (t:List SV),(maskT ws t).length=t.length
 | [],t=>rfl
 |d :: ws,t=>by show (maskT ws (t.set d .any)).length=_;rw [z1W ws,BG]
theorem z5j:∀ (ws:List Nat) (t:List SV) (i:Nat) (s:SV),(maskT ws t)[i]?=some s->s= .any\/(i ∉ ws/\t[i]?=some s)
 | [],t,i,s,h=>.inr ⟨by simp,h⟩
 |d :: ws,t,i,s,h=>by have c:(maskT ws (t.set d .any))[i]?=some s:=h;rcases z5j ws _ i s c with rfl| ⟨h1,h2⟩;all_goals grind
theorem j0T:∀ {l c:List SV},l.length=c.length->(∀ (i:Nat) s s',l[i]?=some s->c[i]?=some s'->s'= .any\/s'=s)->leL l c
 | [],[],_,_=>trivial
 | [],_ :: _,h,_=>by simp at h
 |_ :: _,[],h,_=>by simp at h
 |s :: l,s' :: c,h,hp=>by refine ⟨?_,j0T (by simpa using h) λi x x' hx hx'=>hp (i+1) x x' (by grind) (by simp_all)⟩;rcases hp 0 s s' rfl rfl with rfl|rfl;all_goals grind [SV.le_any,SV.le_refl]
theorem SameBut.le{ws:List Nat}{t e:List SV}(h:SameBut ws t e):leL e (maskT ws t):=
 j0T (by rw [z1W,h.1]) λi s l j c=>by
  rcases z5j ws t i l c with rfl| ⟨o,n⟩
  . grind
  right;rw [h.2 i o,n] at j;cases j;rfl
theorem j2J{k:List It}{all:Array Oper}{G:List Nat}{Q:List IT}{ws:List Nat}{S:Array Bool}{O:List SV}(hr:RelT P Q k)(hS:Region.ready .any all S= [])(hW:∀ (i:Nat) o,all[i]?=some o->S.getD i false=true->∀d,o.dst=some d->d∈ws):
 ∀ (l:Nat) (c:Array Bool) (t:List SV) (H:List SObj),SameBut ws O t->c.size=S.size->(∀j,c.getD j false=true->S.getD j false=true)->AnyV P (CutQ P AQ k0 Q (maskT ws O)) k0 [] all G l c t H->
  ∀ (E:EnD) (r:Option Nat) (n:Nat) (C:Cx) (a:Act),Fit E r k0->Den E C t H a->wpAnyIn (Fw r) n P .any all (afterT (Fw r) n P E (conc E AQ) k) l c a C.w:=by
 have y:∀ {t:List SV} {H:List SObj},Sound P (CutQ P AQ k0 Q (maskT ws O)) ⟨k0,[],t,H⟩->∀ (E:EnD) (r:Option Nat) (n:Nat) (C:Cx) (a:Act),Fit E r k0->Den E C t H a->wpT (Fw r) n P E (conc E AQ) k a C.w:=by intro t H h E r n C a z p;have N:=h E r n C a z p;simp only [wpT] at N;obtain ⟨C',t',H',h2,h3,h4⟩:=N;rw [<-h3];exact q0f (h2:SoundI P AQ ⟨k0,Q,t',H'⟩) hr E r n C' a z h4
 intro l;induction l with
 |zero=>exact λc t H _ _ _ h E r n C a z p=>⟨h.1,y h.2 E r n C a z p⟩
 |succ l ih=>
  intro c t H U hsz J h E r n C a z p;refine ⟨λh9=>y (h.1 h9) E r n C a z p,λi hi=> ?_⟩;obtain ⟨o,ho,N⟩:=h.2 i hi;obtain ⟨hun,o',X,I⟩:=mem_ready.1 hi;have hlt:i<S.size:=by grind
  have R:S.getD i false=true:=by
   cases hq:S.getD i false with
   |true=>rfl
   |false=>
    have:i∈Region.ready .any all S:=mem_ready.2 ⟨by simp_all,o',X,λe he Z=>J _ (I e he Z)⟩
    simp_all
  have L:∀d,o.dst=some d->d∈ws:=hW i o ho R;have u:∀j,(c.setIfInBounds i true).getD j false=true->S.getD j false=true:=λj hj=>by by_cases e:i=j;all_goals simp_all
  have A:(c.setIfInBounds i true).size=S.size:=by simp_all
  unfold wpOpIn;simp only [ho];rcases N with ⟨W,V⟩ | ⟨W,D⟩
  . rw [if_pos (q2M p.tmps W)];refine V E C r n a _ _ p.wd p.defs.2 (λx _=>q2B p.tmps x) ?_ ?_
    . intro s v H' C' D B F Y;exact ih _ _ _ (U.put L s) A u D.2 E r n C' _ z (q4D p B F Y)
    intro s v H' C' D B F Y;exact ⟨C',maskT ws O,H',s,v,D,rfl,Y,rfl,B,F.ext p.ext,(DefOk.stp F p.defs).fin,.inr (q3k U.le (q0h F.evo p.tmps))⟩
  rw [if_neg (by rw [q2M p.tmps W];simp)];exact ⟨λf _=>q5G r f,ih _ _ _ (U.put L _) A u D.2 E r n C _ z (q4D p p.wd (.of (Ext.refl _ _)) (by rfl))⟩
theorem z2B{all:Array Oper}:∀ (p:Nat) (c:Array Bool) (l:List (Bool×OpI)),planL P all p c=some l->
 ∃S:Array Bool,Region.ready .any all S= []/\S.size=c.size/\(∀j,c.getD j false=true->S.getD j false=true)/\∀i,S.getD i false=true->c.getD i false=true\/∃o,all[i]?=some o/\∀d,o.dst=some d->d∈IC.wr (.drw l)
 |0,c,l,h=>by unfold planL at h;grind
 |n+1,c,l,h=>by
  unfold planL at h;split at h
  . grind
  split at h
  . rename_i i fl hch;split at h
    . rename_i o x;split at h
      . rename_i io r;split at h
        . rename_i z w;split at h
          . cases h;obtain ⟨S,A,h2,B,y⟩:=z2B n _ z w;refine ⟨S,A,by grind,λj u=>B j (getD_set_true u),λj u=> ?_⟩;rcases y j u with q| ⟨o',q1,q2⟩
            . by_cases e:i=j
              . subst e;refine .inr ⟨o,x,λd hd=> ?_⟩;have hio:=(q0K r).2;grind [IC.wr,OpI.wr]
              simp_all
            grind [IC.wr]
          cases h
        cases h
      cases h
    cases h
  cases h
theorem z4y{l:List (Bool×OpI)}(G:List Nat)(w:P.follows .mixedOrders=true)(h:SoundI P (CutQ P AQ k0 k (maskT (IC.wr (.drw l)) t)) ⟨k0,[.dops G l],t,H⟩):SoundI P AQ ⟨k0,.ic (.drw l) :: k,t,H⟩:=q0e (λtd' p=>by
 obtain ⟨c',r,rfl,B,p⟩:=p;obtain ⟨id,all,rfl,u⟩:=q0N B;obtain ⟨S,y,x,A,h4⟩:=z2B _ _ _ u;intro E r' n C a z c;simp only [wpT];have e:Den E C.drew t H a:=⟨q2W c.wd,c.ext.trans (q2a C H),DefOk.next (q2a C H) c.defs,q0h (q2I C) c.tmps⟩
 have hno:∀j,(Array.replicate all.size false).getD j false=true->False:=λj hj=>by rcases AL j all.size with q|q;all_goals simp_all
 refine wpIn_region_any w (j2J p y (λi o ho hi d c=> ?_) _ _ _ _ ⟨rfl,λ_ _=>rfl⟩ x.symm A (h all _ _ [] u rfl) E r' n C.drew a z e)
 grind) rfl

def ZInv(q:Nat->Prop)(w0:World)(C:Cx)(H:List SObj):Prop:=∀b,q b->b<C.w.heap.size/\¬C.I b/\¬OwnB C H b/\C.w.heap[b]?=w0.heap[b]?

theorem z3E{E:En}{C:Cx}(c:Ext E C H){b:Nat}(e:b<E.C.w.heap.size)(h2:¬E.C.I b)(l:¬OwnB E.C E.H b):b<C.w.heap.size/\¬C.I b/\¬OwnB C H b/\C.w.heap[b]?=E.C.w.heap[b]?:=by
 refine ⟨Al e c.size,λn=> ?_,λj=> ?_,c.frame b e l⟩
 . rcases c.immNew b n with g| ⟨g|g,_⟩;all_goals grind
 rcases c.ownNew b j with g|g;all_goals grind

@[reducible] def frzG(q:Nat->Prop)(w0:World):Ghost where
 inv0:=λ_ C H=>ZInv q w0 C H
 fin:=λE _ _ ds=>ds=E.base/\True
 toFin0:=λ_ _=>⟨rfl,trivial⟩
 next0:=λhx h b hb=>by
  obtain ⟨h1,h2,h3,h4⟩:=h b hb;obtain ⟨g1,g2,g3,g4⟩:=z3E hx h1 h2 h3
  simp_all
 same0:=λ_ e _ hi ho _ _ h b hb=>by obtain ⟨h1,h2,h3,h4⟩:=h b hb;grind

def simV(u v:Value):Prop:=v=u\/(∃k n m,u= .int k n/\v= .int k m)\/∃s s',u= .string s/\v= .string s'/\s'.size<=140737488355328
def simB(o o':Option Obj):Prop:=o'=o\/∃ (vs vs':List Value) (T:TypeId) (fz:Nat×Nat),o=some (.cells vs.toArray T fz)/\o'=some (.cells vs'.toArray T fz)/\vs'.length=vs.length/\∀ (i:Nat) u v,vs[i]?=some u->vs'[i]?=some v->simV u v
theorem simV.trans{u v w:Value}(h:simV u v)(k:simV v w):simV u w:=by
 rcases h with rfl| ⟨k',n,m,rfl,rfl⟩ | ⟨s,e,rfl,rfl,c⟩
 . exact k
 . rcases k with rfl| ⟨j,r,l,c,rfl⟩ | ⟨s,e,c,_⟩
   . exact .inr (.inl ⟨_,_,_,rfl,rfl⟩)
   . cases c;exact .inr (.inl ⟨_,_,_,rfl,rfl⟩)
   cases c
 rcases k with rfl| ⟨j,r,l,c,rfl⟩ | ⟨s2,s3,o,rfl,p⟩
 . exact .inr (.inr ⟨_,_,rfl,rfl,c⟩)
 . cases c
 cases o;exact .inr (.inr ⟨_,_,rfl,rfl,p⟩)
def SInv(q:Nat->Prop)(w0:World)(E:En)(C:Cx)(H:List SObj):Prop:=
 ∀b,q b->((E.C.w.heap.size<=b\/OwnB E.C E.H b)/\¬TBlk b)/\b<C.w.heap.size/\¬C.I b/\¬OwnB C H b/\Unf C.w b/\simB w0.heap[b]? C.w.heap[b]?

@[reducible] def scrG(q:Nat->Prop)(w0:World):Ghost where
 inv0:=λE C H=>SInv q w0 E.toEn C H
 fin:=λE C H ds=>ds=E.base/\TabE E.toEn C H/\SInv q w0 E.toEn C H
 toFin0:=λht h=>⟨rfl,ht,h⟩
 next0:=λhx h b hb=>by
  obtain ⟨h0,h1,h2,h3,h4,h5⟩:=h b hb;obtain ⟨g1,g2,g3,g4⟩:=z3E hx h1 h2 h3;refine ⟨h0,g1,g2,g3,h4.keep g4,?_⟩
  simp_all
 same0:=λ_ e _ hi ho _ _ h b hb=>by obtain ⟨h0,h1,h2,h3,h4,h5⟩:=h b hb;grind

def At(q:Nat->Prop)(w0:World)(t:Ty)(x:t.den)(b o:Nat):Prop:=q b/\∃vs,t.rel q w0 x vs/\∀j u,vs[j]?=some u->w0.cell? ⟨b,o+j,none⟩=some u
theorem At.fst{q:Nat->Prop}{c:World}{s t:Ty}{x:(Ty.prod s t).den}{b o:Nat}(h:At q c (.prod s t) x b o):At q c s x.1 b o:=by obtain ⟨e,vs,⟨n,v2,rfl,l,h2⟩,p⟩:=h;exact ⟨e,n,l,λj u hj=>p j u (by grind)⟩
def At.snd{q:Nat->Prop}{c:World}{s t:Ty}{x:(Ty.prod s t).den}{b o:Nat}(h:At q c (.prod s t) x b o):At q c t x.2 b (o+s.size):=by obtain ⟨e,vs,⟨v1,p,rfl,r,n⟩,w⟩:=h;refine ⟨e,p,n,λj u l=> ?_⟩;rw [Ax];refine w (s.size+j) u ?_;rw [<-s.rel_size _ _ r,AW (Nat.le_add_right _ _),Nat.add_sub_cancel_left];exact l
def Sl(q:Nat->Prop)(w0:World)(t:Ty)(xs:List t.den)(v:Value):Prop:=(Ty.slice t).rel q w0 xs [v]
theorem Sl.out{q:Nat->Prop}{j:World}{t:Ty}{xs:List t.den}{v:Value}(h:Sl q j t xs v):
 ∃A c,v= .slice A xs.length c/\(xs= []\/∃b o,A=some ⟨b,o,none⟩/\∀i x,xs[i]?=some x->At q j t x b (o+i*t.size)):=by
 obtain ⟨A,n,c,e,rfl,_,_,h⟩:=h;simp only [List.cons.injEq,and_true] at e;refine ⟨A,c,e,orMap h id ?_⟩;rintro ⟨b,o,rfl,p,h⟩;exact ⟨b,o,rfl,λi x l=>⟨p,h i x l⟩⟩
theorem At.sl{q:Nat->Prop}{e:World}{t:Ty}{xs:List t.den}{b o:Nat}(h:At q e (.slice t) xs b o):∃v,Sl q e t xs v/\e.cell? ⟨b,o,none⟩=some v:=by obtain ⟨hq,vs,j,l⟩:=h;obtain ⟨A,n,c,rfl,_⟩:=id j;exact ⟨_,j,l 0 _ rfl⟩
theorem At.int{q:Nat->Prop}{c:World}{k:IntKind}{x:(Ty.int k).den}{b o:Nat}(h:At q c (.int k) x b o):c.cell? ⟨b,o,none⟩=some (.int k x):=by obtain ⟨hq,vs,rfl,e⟩:=h;exact e 0 _ rfl
theorem At.u8{q:Nat->Prop}{c:World}{x:Ty.u8.den}{b o:Nat}(h:At q c .u8 x b o):c.cell? ⟨b,o,none⟩=some (.int .u8 (UInt8.toNat x)):=by obtain ⟨hq,vs,rfl,e⟩:=h;exact e 0 _ rfl
theorem At.str{q:Nat->Prop}{c:World}{x:Ty.str.den}{b o:Nat}(h:At q c .str x b o):c.cell? ⟨b,o,none⟩=some (.string x):=by obtain ⟨hq,vs,⟨rfl,_⟩,e⟩:=h;exact e 0 _ rfl

variable {P:Program} {AQ:Ex->List SV->List SObj->Prop}
theorem k0S{C:Cx}{w':World}(e:Wd C H)(x:w'.heap.size=C.w.heap.size)(u:∀b,C.I b\/OwnB C H b->w'.heap[b]?=C.w.heap[b]?)(y:∀b m,World.bsize C.w b=some m->World.bsize w' b=some m):
 Wd {C with w:=w'} H/\Evo C {C with w:=w'}:=by
 have l:Evo C {C with w:=w'}:=⟨Ad _,λ_ _=>rfl,λb j=>⟨j,u b (.inl j)⟩,y⟩
 refine ⟨⟨e.n,λh o p=> ?_,λb c=> ?_,e.inj,λb j=> ?_⟩,l⟩
 . by_cases r:o.live=true
   . exact q0G (C':={C with w:=w'}) l.I h rfl (λb c=>u b (.inr ⟨h,o,p,r,c⟩)) (q0h l) (e.obj h o p)
   cases o<;>first|trivial|simp [SObj.live] at r
 . have:=e.own b c
   simp_all
 rw [x];exact e.imm b j


variable {P:Program} {AQ:Ex->List SV->List SObj->Prop} {k0:Nat} {k:List IT} {t:List SV} {H:List SObj}

variable {f:FuncId}
theorem j4Y{fi:FI}(h:finfo P f=some fi):∃fn c,P.funcs[f]?=some fn/\fn.body=some c/\comp P c=some fi.code/\fn.ntmps=fi.ntmps/\fn.results.toList=fi.results/\enters P f=true:=by
 unfold finfo at h;split at h
 . rename_i fn e;split at h
   . rename_i c j;split at h
     . rename_i ic l;split at h
       . cases h
       rename_i hn;cases h;exact ⟨fn,c,e,j,l,rfl,rfl,by grind [enters]⟩
     cases h
   cases h
 cases h
def VCallZ(q:Nat->Prop)(w0:World)(P:Program)(f:FuncId)(args:List SV)(H:List SObj)(K:Out->List SObj->Prop):Prop:=
 ∀ (C:Cx) (vs:List Value),Wd C H->TabT C H->ZInv q w0 C H->SV.denL C args vs->Calls P f vs.toArray C.w λe w'=>∃o H' C',K o H'/\C'.w=w'/\Wd C' H'/\Ext ⟨C,H⟩ C' H'/\outDen C' o e
def VCallZ.g{q:Nat->Prop}{w0:World}{f:FuncId}{args:List SV}{K:Out->List SObj->Prop}(h:VCallZ q w0 P f args H K): @VCallG (frzG q w0) P f args H K:=
 λE C vs hw hg hv=>(h C vs hw hg.1.tab hg.2 hv).mono λ_ _ ⟨o,H',C',k,e,w,x,r⟩=>⟨o,H',C',k,e,w, @Stp.of (frzG q w0) E C C' H H' x,r⟩
def ZInv.nil{q:Nat->Prop}{c:World}{C:Cx}(h:ZInv q c C H):ZInv q c {C with n:=0} []:=λb r=>by obtain ⟨p,j,h3,l⟩:=h b r;exact ⟨p,j,λ⟨i,o,e,_⟩=>by simp at e,l⟩
def Ty.flat:Ty->Bool
 |.slice _=>false
 |.prod a b=>a.flat&& b.flat
 |.arr _ t=>t.flat
 |.ptr _=>false
 |.clo _ _=>false
 |.clp _ _=>false
 |.mbs _=>false
 |_=>true
def Ty.rel_flat{I I':Nat->Prop}{w w':World}:∀ (t:Ty) (x:t.den) (vs:List Value),t.flat=true->t.rel I w x vs->t.rel I' w' x vs
 |.u8,_,_,_,h=>h
 |.int _,_,_,_,h=>h
 |.bool,_,_,_,h=>h
 |.str,_,_,_,h=>h
 |.slice t,_,_,hf,_=>by cases hf
 |.prod a b,x,vs,hf,h=>by obtain ⟨o,j,rfl,l,e⟩:=h;simp only [Ty.flat,Ai] at hf;exact ⟨o,j,rfl,a.rel_flat _ _ hf.1 l,b.rel_flat _ _ hf.2 e⟩
 |.unit,_,_,_,h=>h
 |.arr n t,xs,vs,hf,h=>by obtain ⟨u,vss,rfl,c,h⟩:=h;exact ⟨u,vss,rfl,c,λi x us r p=>t.rel_flat _ _ hf (h i x us r p)⟩
 |.ptr t,_,_,hf,_=>by cases hf
 |.clo _ t,_,_,hf,_=>by cases hf
 |.clp _ t,_,_,hf,_=>by cases hf
 |.mbs t,_,_,hf,_=>by cases hf
def RowK(ty:Ty)(xs:List ty.den):Out->List SObj->Prop:=λo H'=>(xs= []/\o= .ret (.raw (.slice none 0 0))/\H'= [])\/(o= .ret (.bld 0 ty xs.length)/\H'= [.row ty xs])
variable {ty:Ty}{xs:List ty.den}{H':List SObj}
theorem j2V(h:xs= []):Weak 0 (RowK ty xs) (.ret (.raw (.slice none 0 0))) H':=
 ⟨λh=>h,.raw (.slice none 0 0),.raw (.slice none 0 0),[],⟨⟨rfl,trivial⟩,trivial,rfl,rfl,rfl,rfl,Ad _,λ_ h0=>absurd h0 (B0 0)⟩,.inl (.inl rfl),.inl ⟨h,rfl,rfl⟩⟩
theorem j3f{h n:Nat}(j:H'[h]?=some (.row ty xs))(c:n=xs.length):Weak 0 (RowK ty xs) (.ret (.bld h ty n)) H':=by subst c;exact ⟨λ_=>h,.bld 0 ty xs.length,.bld 0 ty xs.length,[.row ty xs],⟨⟨rfl,trivial⟩,⟨j,trivial⟩,rfl,rfl,rfl,rfl,Aj _,λ_ e=>absurd e (B0 0)⟩,.inl (.inl rfl),.inr ⟨rfl,rfl⟩⟩
theorem Ty.cells_rel{C:Cx}:∀ (t:Ty) (x:t.den) (vs:List Value),t.known=true->t.ok x->SV.denL C (t.cells x) vs->t.rel C.I C.w x vs
 |.u8,_,_,_,_,h=>by simp only [Ty.cells,SV.denL,SV.den] at h;obtain ⟨v,us,rfl,rfl,rfl⟩:=h;rfl
 |.int _,_,_,_,_,h=>by simp only [Ty.cells,SV.denL,SV.den] at h;obtain ⟨v,us,rfl,rfl,rfl⟩:=h;rfl
 |.bool,_,_,_,_,h=>by simp only [Ty.cells,SV.denL,SV.den] at h;obtain ⟨v,us,rfl,rfl,rfl⟩:=h;rfl
 |.str,_,_,_,c,h=>by simp only [Ty.cells,SV.denL,SV.den] at h;obtain ⟨v,us,rfl,rfl,rfl⟩:=h;exact ⟨rfl,c⟩
 |.slice t,_,_,_,_,h=>by simp only [Ty.cells,SV.denL,SV.den] at h;grind
 |.prod a b,x,vs,hk,c,h=>by simp only [Ty.known,Ai] at hk;obtain ⟨l,j,rfl,z,r⟩:=q0z.1 h;exact ⟨l,j,rfl,a.cells_rel _ _ hk.1 c.1 z,b.cells_rel _ _ hk.2 c.2 r⟩
 |.unit,_,_,_,_,h=>by grind [Ty.cells,SV.denL,Ty.rel]
 |.arr n t,xs,vs,hk,c,h=>by
  replace hk:t.known=true:=hk;obtain ⟨B,c⟩:=c;refine ⟨B,?_⟩;simp only [Ty.cells] at h;rw [<-B] at h;clear B;have key:∀ (ys:List t.den) (vs:List Value),(∀x∈ys,t.ok x)->SV.denL C ((List.range ys.length).flatMap λi=>t.cells (ys.getD i t.dflt)) vs->∃vss:List (List Value),vs=vss.flatten/\vss.length=ys.length/\∀ (i:Nat) x us,ys[i]?=some x->vss[i]?=some us->t.rel C.I C.w x us:=by
   intro ys;induction ys with
   |nil=>intro vs _ h;exact ⟨[],by grind [q0I],rfl,λi x us e=>by simp at e⟩
   |cons y ys E=>
    intro vs c h;rw [As,BX,List.flatMap_cons,List.flatMap_map] at h;obtain ⟨l,j,rfl,z,r⟩:=q0z.1 h;obtain ⟨vss,rfl,F,o⟩:=E j (λx e=>c x (AT _ e)) r;refine ⟨l :: vss,rfl,by simp [F],λi x us e D=> ?_⟩;cases i with
    |zero=>simp at e D;subst e D;exact t.cells_rel _ _ hk (c _ (Bs ..)) z
    |succ i=>grind
  simp_all
 |.ptr t,x,vs,_,c,h=>by
  cases x with
  |none=>simp only [Ty.cells,SV.denL,SV.den] at h;obtain ⟨v,us,rfl,rfl,rfl⟩:=h;exact .inl ⟨rfl,rfl⟩
  |some x=>simp only [Ty.cells,SV.denL,SV.den] at h;obtain ⟨v,us,rfl,⟨b,off,ws,rfl,p,o,A⟩,rfl⟩:=h;exact .inr ⟨x,b,off,ws,rfl,by rfl,p,o,A⟩
 |.clo f t,x,vs,hk,c,h=>by simp only [Ty.cells,SV.denL,SV.den] at h;obtain ⟨v,us,rfl,⟨l,j,rfl,⟨u,ws,rfl,⟨zs,rfl,G⟩,rfl⟩,rfl⟩,rfl⟩:=h;exact ⟨zs,rfl,t.cells_rel _ _ hk c G⟩
 |.clp f t,x,vs,hk,c,h=>by simp only [Ty.cells,SV.denL,SV.den] at h;obtain ⟨v,us,rfl,⟨l,j,rfl,rfl,⟨u,ws,rfl,⟨b,off,zs,rfl,p,o,A⟩,rfl⟩⟩,rfl⟩:=h;exact ⟨b,off,zs,by rfl,p,o,A⟩
 |.mbs _,_,_,hk,_,_=>by cases hk

variable {P:Program} {AQ:Ex->List SV->List SObj->Prop} {k0:Nat} {k:List IT} {t:List SV} {H:List SObj}

variable {d:Option Tmp}{td:List IT}
def z7x[Ghost]{args:List SV}(j:VC P f args [] (RowK ty xs))(n:SV.belL 0 args=true)(c:args=SV.renL (sig [] H.length) args)
 (l:xs= []->SoundI P AQ ⟨k0,td,putT t d (.raw (.slice none 0 0)),H⟩)(h:SoundI P AQ ⟨k0,td,putT t d (.bld H.length ty xs.length),H++ [.row ty xs]⟩):CallI P AQ f args d ⟨k0,td,t,H⟩:=by
 refine ⟨j.1,VCall.g ?_⟩;rw [c];refine VCall.fr (H0:=[]) [] (by simp) trivial n rfl j.2 ?_;rintro o H' _ (⟨e,rfl,rfl⟩ | ⟨rfl,rfl⟩)
 . simp only [mgA,BJ,Ac];exact l e
 exact h
theorem q2l[Ghost](d h:Nat){T:TypeId}{x:ty.den}(hp:plainT td=true)(R:ty.ok x)(B:H[h]?=some (.cells T (ty.cells x)))(Y:t[d]?=some (.ptr h 0))(hs:SoundI P AQ ⟨k0,td,t.set d (.iptr ty x 0),H.set h .dead⟩)(J:ty.known=true:=by rfl):
 SoundI P AQ ⟨k0,td,t,H⟩:=q0e (λtd' hr E r n C a N c=>by
 have O:=q0f hs hr;obtain ⟨b,vs,V,hcell,S⟩:=c.wd.obj h _ B;have w:OwnB C H b:=⟨h,_,B,rfl,V⟩;obtain ⟨hnI,L⟩:=c.wd.own b w;have y:∀p,OwnB C (H.set h .dead) p->OwnB C H p/\p≠b:=by
  rintro p ⟨i,o,z,Q,l⟩;by_cases e:h=i
  . grind [SObj.live]
  rw [AU e] at z;refine ⟨⟨i,o,z,Q,l⟩,λe'=> ?_⟩;subst e';exact e (c.wd.inj h i _ o p B z rfl Q V l)
 let C':Cx:={C with I:=λp=>C.I p\/p=b}
 have G:Evo C C':=⟨Ad _,λ_ _=>rfl,λp l=>⟨.inl l,rfl⟩,λ_ _ hm=>hm⟩;have hw:Wd C' (H.set h .dead):=by
  refine ⟨by simp [C',c.wd.n],λi o z=> ?_,λp l=> ?_,λi i' o o' p O Z X W h5 h6=> ?_,λp l=> ?_⟩
  . by_cases e:h=i
    . subst e;rw [Bk (Au.1 B).1] at z;cases z;trivial
    rw [AU e] at z;exact q0G G.I i rfl (λ_ _=>rfl) (q0h G) (c.wd.obj i o z)
  . obtain ⟨g1,g2⟩:=y p l;have:=c.wd.own p g1;grind
  . have key:∀ {i:Nat} {o:SObj},(H.set h .dead)[i]?=some o->o.live=true->H[i]?=some o:=λ{i o} z Q=>by grind [SObj.live]
    exact c.wd.inj i i' o o' p (key O X) (key Z W) X W h5 h6
  exact l.elim (c.wd.imm p) λe=>e▸L
 have D:∀n,H[0]?=some (.mark n)->(H.set h .dead)[0]?=some (.mark n):=λn F=>q4t B rfl F;have hx:Ext E.toEn C' (H.set h .dead):=by
  refine ⟨c.ext.evo.trans G,c.ext.size,c.ext.os,c.ext.tape,c.ext.output,c.ext.frame,λp l=> ?_,λp l=>c.ext.ownNew p (y p l).1,λn N F=>D n (c.ext.keep0 n N F)⟩;rcases l with l|rfl
  . exact c.ext.immNew p l
  exact .inr ⟨c.ext.ownNew p w,q5b (C:=C) c.wd w⟩
 have hg:Ghost.inv E C' (H.set h .dead):=Ghost.same (C:=C) (C':=C') c.wd rfl (λp l=>.inl l) (λp (l:C.I p\/p=b)=>l.elim .inl λe=>.inr (by simp_all)) (λp l=>(y p l).1) (λn _ F=>D n F) c.ext.evo.n c.defs.2;refine O E r n C' a N ⟨hw,hx,⟨c.defs.1,hg⟩,?_⟩;have U:=q0h G c.tmps;obtain ⟨v,hv,A⟩:=q2t U Y;rw [SV.den] at A;obtain ⟨_,p,l,rfl⟩:=A;have e:p=b:=by grind
 subst e;have hi:(SV.iptr ty x 0).den C' (.pointer (some ⟨p,0,none⟩)):=by rw [SV.den];exact ⟨p,0,vs,rfl,.inr rfl,ty.cells_rel _ _ J R (q0h G S),λj u hj=>by rw [Ag];grind [q0r]⟩
 have h9:=q2G (i:=d) U hi;have e9:a.tmps.toList.set d (.pointer (some ⟨p,0,none⟩))=a.tmps.toList:=by apply Ba;grind
 grind) hp
theorem z4g[Ghost](d h i k:Nat)(J:plainT td=true)(o:H[h]?=some (.row ty xs))(A:t[d]?=some (.rptr h ty i k))(hi:i<xs.length)(l:xs.length<=1125899906842624)(L:frzObH h ty xs H)(z:SV.frzObL h ty xs t)
 (Q:SoundI P AQ ⟨k0,td,(SV.frzL h ty xs t).set d (.iptr ty (xs.getD i ty.dflt) k),frzH h ty xs H⟩):SoundI P AQ ⟨k0,td,t,H⟩:=q0e (λtd' O E r n C a D c=>by
 obtain ⟨N,F⟩:=j0G c.wd c.ext o l L;have w:DefOk E (C.frz h) (frzH h ty xs H) a.defers:=⟨c.defs.1,Ghost.same c.wd rfl (λ_ h=>.inl h) (λb e=>orMap e id λe=>⟨h,_,o,rfl,e⟩) (λb e=>(z8U c.wd o e).1) (λ_ _ S=>z1p o S) c.ext.evo.n c.defs.2⟩;have B:=q2K c.wd o l z c.tmps;refine q0f Q O E r n (C.frz h) a D ⟨N,F,w,?_⟩;obtain ⟨v,hv,p⟩:=q2t c.tmps A;rw [SV.den] at p;obtain ⟨_,b,e,rfl⟩:=p;rcases c.wd.obj h _ o with ⟨_,h2⟩ | ⟨b',arr,T,fz,x,hcell,hfz,hsz,y⟩
 . simp_all
 rw [e] at x;cases x;obtain ⟨us,G,V⟩:=y i (xs.getD i ty.dflt) (by simp_all);have R:(SV.iptr ty (xs.getD i ty.dflt) k).den (C.frz h) (.pointer (some ⟨b,i*ty.size+k,none⟩)):=by rw [SV.den];refine ⟨b,i*ty.size,us,rfl,.inr e,Ty.rel_keep (q0W C h).I _ _ _ G,λj u U=> ?_⟩;have:=V j u U;rw [Ag] at this;exact this
 have h9:=q2G (i:=d) B R;have e9:a.tmps.toList.set d (.pointer (some ⟨b,i*ty.size+k,none⟩))=a.tmps.toList:=by apply Ba;grind
 grind) J

variable {P:Program} {AQ:Ex->List SV->List SObj->Prop} {k0:Nat} {k:List IT} {t:List SV} {H:List SObj}

section
variable [Ghost] {P:Program} {AQ:Ex->List SV->List SObj->Prop} {k0:Nat} {k:List IT} {t:List SV} {H:List SObj}

theorem q9r{k:List It}{x:List SV}(A A' G:List SObj)(J:k0<=A.length)(Q:A=A'.map (SObj.ren (shift A.length (A.length+G.length))))(O:belH (A.length+1) A'=true)(hbt:SV.belL (A.length+1) x=true)
 (R:leT (shift A.length (A.length+G.length)) t x)(S:Sound P AQ ⟨k0,k,x,A'++ [.row ty xs]⟩):Sound P AQ ⟨k0,k,t,A++G++ [.row ty xs]⟩:=by
 intro E r n C a B L;have c:A.length=A'.length:=by grind
 have F:∀h,h<A.length->shift A.length (A.length+G.length) h=h:=λh p=>by unfold shift;grind
 have w:shift A.length (A.length+G.length) A.length=A.length+G.length:=by unfold shift;grind
 have I:Den E (C.ren (shift A.length (A.length+G.length)) (A'++ [SObj.row ty xs]).length) x (A'++ [.row ty xs]) a:=by
  refine q8v B.1 L R (by grind) (λh o j _=> ?_) (q5h λh o j=> ?_) (λh h' o o' j ho' _ _ e=> ?_) (λh p=>F h (Al p J)) (by grind) (λm D z=> ?_)
  . rcases q0q j with ⟨p,j⟩ | ⟨p,rfl⟩
    . grind
    rw [p,<-c,w,<-Ab,AW (Ad _),Nat.sub_self];rfl
  . rcases q0q j with ⟨p,j⟩ | ⟨p,rfl⟩
    . rw [Ab,<-c];exact q3g O j
    rfl
  . grind
  have z:=z;have u:0<A.length:=Al D (Ao B.1 J);rw [List.append_assoc,Az u] at z;rw [Az (by omega)];have y:=congrArg (λl=>l[0]?) Q;simp only [AR,z] at y;cases N:A'[0]? with
  |none=>grind
  |some o=>rw [N] at y;cases o<;>simp [SObj.ren] at y;rw [y]
 exact S E r n (C.ren (shift A.length (A.length+G.length)) (A'++ [SObj.row ty xs]).length) a B I
theorem z3V(c:List SV)(A A' G:List SObj)(hp:plainT td=true)(hH:H=A++G++ [.row ty xs])(hk:k0<=A.length)(hA:A=A'.map (SObj.ren (shift A.length (A.length+G.length))))(hb:belH (A.length+1) A'=true)(hbt:SV.belL (A.length+1) c=true)
 (hl:leT (shift A.length (A.length+G.length)) t c)(hs:SoundI P AQ ⟨k0,td,c,A'++ [.row ty xs]⟩):SoundI P AQ ⟨k0,td,t,H⟩:=by
 grind [q0e,q9r,q0f]
def z4u(slot n:Nat)(A A' G:List SObj)(hp:plainT td=true)(hH:H=A++G++ [.row ty xs])(hk:k0<=A.length)(hA:A=A'.map (SObj.ren (shift A.length (A.length+G.length))))(hb:belH (A.length+1) A'=true)(hbt:SV.belL (A.length+1) (t.set slot (.bld A.length ty n))=true)
 (hl:leT (shift A.length (A.length+G.length)) t (t.set slot (.bld A.length ty n)))(hs:SoundI P AQ ⟨k0,td,t.set slot (.bld A.length ty n),A'++ [.row ty xs]⟩):SoundI P AQ ⟨k0,td,t,H⟩:=
 z3V _ A A' G hp hH hk hA hb hbt hl hs

def z7b{a b c:SV}(h:leM1 a b)(k:leM1 b c):leM1 a c:=by cases c<;>first|trivial| (simp only [leM1] at k;subst k;exact h)
def j0J(s:SV):leM1 s s:=(q5r [s]).1
def z1K:∀ {a b c:List SV},leM a b->leM b c->leM a c
 | [],[],[],_,_=>trivial
 |_ :: _,_ :: _,_ :: _,h,k=>⟨z7b h.1 k.1,z1K h.2 k.2⟩
 | [],[],_ :: _,_,k=>k.elim
 | [],_ :: _,_,h,_=>h.elim
 |_ :: _,[],_,h,_=>h.elim
 |_ :: _,_ :: _,[],_,k=>k.elim
def z9A:∀ (t:List SV) (d:Nat),leM t (t.set d .any)
 | [],_=>trivial
 |_ :: l,0=>⟨trivial,q5r l⟩
 |s :: l,d+1=>⟨j0J s,z9A l d⟩
def z6i:∀ (ws:List Nat) (t:List SV),leM t (maskT ws t)
 | [],t=>q5r t
 |d :: ws,t=>z1K (z9A t d) (z6i ws _)
def q3v(ws:List Nat)(hp:plainT td=true)(hs:SoundI P AQ ⟨k0,td,maskT ws t,H⟩):SoundI P AQ ⟨k0,td,t,H⟩:=
 q0e (λ_ hr E r n C a h0 hd=>q0f hs hr E r n C a h0 ⟨hd.wd,hd.ext,hd.defs,q3k (q3G (z6i ws t)) hd.tmps⟩) hp

def VC.arg{f:FuncId}{args args':List SV}{K:Out->List SObj->Prop}(h:VC P f args H K)(hl:SV.leVL args' args):VC P f args' H K:=
 ⟨h.1,λC vs hw ht hv=>h.2 C vs hw ht (q5A hl hv)⟩
end

variable {P:Program}
def PCE(P:Program)(f:FuncId)(args:List SV)(p:SV->Prop):Prop:=enters P f=true/\∀ (H:List SObj) (K:Out->List SObj->Prop),(∀s,p s->K (.ret s) H)->VCall P f args H K
theorem PCE.mono{f:FuncId}{args:List SV}{p q:SV->Prop}(h:PCE P f args p)(hq:∀s,p s->q s):PCE P f args q:=⟨h.1,λH K hk=>h.2 H K λs hs=>hk s (hq s hs)⟩
section
variable [Ghost] {AQ:Ex->List SV->List SObj->Prop}
end

section
variable {AQ:Ex->List SV->List SObj->Prop}
def z0g[Ghost]{b:Nat}{t:Ty}{x:t.den}{ag:Option Nat}{s:SV}{m:IM}(c:(b,(⟨t,x⟩:Sigma Ty.den))∈datList)(n:SV.ofT ag t x=some s)(j:ag=none\/ag=some t.size)(e:SoundI P AQ {m with tmps:=putT m.tmps d s}):ZldI P AQ ag b 0 d m:=by rintro E C _ ⟨⟨l,_⟩,_⟩;exact ⟨s,.inr ⟨t,x,(l.dat _ c).2,n,j⟩,e⟩
end
end Go.Sx
namespace Go.Proofs.YthbcodbcndiapaaGreatDoor
open Go Go.Sx Go.Proofs
set_option maxRecDepth 100000
set_option maxHeartbeats 40000000
def fdivW(x:Int)(n:Nat)(hn:0<n):x.fdiv (n:Int)=x / (n:Int):=BO _ (by omega)
def j3D(b:List UInt8)(h:List Int)(n:Nat):(blkP b h n).length=8:=by simp [blkP]
variable {i:Nat}
theorem j3h(b:List UInt8)(h:List Int)(hi:i<8):(blkP b h i).getD i 0=h.getD i 0:=by grind [blkP]
theorem j4u(b:List UInt8)(h:List Int)(hi:i<8):(blkP b h i).set i ((h.getD i 0+ (rnds b h 64).getD i 0)%W32)=blkP b h (i+1):=by
 apply Av
 . simp [blkP]
 intro j h1 h2;rw [Bf];simp only [blkP,AJ,AG];grind
variable {h:List Int}
theorem q4b(b:List UInt8)(hl:h.length=8):blkP b h 0=h:=by apply Av;all_goals simp_all [blkP]
theorem j2f(b:List UInt8)(h:List Int):blkP b h 8=blkS b h:=by rfl
theorem u8wrapR(x:Int):IntKind.u8.wrap x=x%256:=by rfl
theorem q3j(x:Int):((UInt8.ofNat (IntKind.u8.wrap x).toNat).toNat:Int)=IntKind.u8.wrap x:=by grind [u8wrapR,UInt8.toNat_ofNat']
def padZ(b:List UInt8)(k:Nat):List UInt8:=b++ [128]++List.replicate k 0
def padN(n:Nat):Nat:=(119-n%64)%64
theorem j3l(b:List UInt8)(k:Nat):(padZ b k).length=b.length+1+k:=by simp [padZ];omega
def lnB8(n:Nat)(j:Nat):List UInt8:=(List.range j).map λi=>UInt8.ofNat (n / 2^ (8* (7-i))%256)
theorem j2v(n j:Nat):(lnB8 n j).length=j:=by simp [lnB8]
def padS(b:List UInt8):List UInt8:=padZ b (padN b.length)++lnB8 (8*b.length) 8
def hS0:List Int:=[0x6a09e667,0xbb67ae85,0x3c6ef372,0xa54ff53a,0x510e527f,0x9b05688c,0x1f83d9ab,0x5be0cd19]
def hashS(p:List UInt8):Nat->List Int
 |0=>hS0
 |k+1=>blkS ((p.take (64*k+64)).drop (64*k)) (hashS p k)
variable {b:List UInt8}
theorem z3t:inWs (blkS b h):=by refine ⟨by simp [blkS],λx c=> ?_⟩;obtain ⟨i,_,rfl⟩:=Br.1 c;grind
def q7b:inWs hS0:=by decide
def wordB(h:List Int)(i:Nat):UInt8:=UInt8.ofNat ((h.getD (i / 4) 0).toNat / 2^ (24-8* (i%4))%256)
def bytesP(h:List Int)(n:Nat):List UInt8:=(List.range 32).map λi=>if i<n then wordB h i else 0
def bytesS(h:List Int):List UInt8:=(List.range 32).map (wordB h)
def z7f(h:List Int)(n:Nat):(bytesP h n).length=32:=by simp [bytesP]
def q1J(h:List Int):(bytesS h).length=32:=by simp [bytesS]
theorem q4E(h:List Int)(hi:i<32):(bytesP h i).set i (wordB h i)=bytesP h (i+1):=by
 apply Av
 . simp [bytesP]
 intro j h1 h2;rw [Bf];simp only [bytesP,AJ,AG];grind
def blksN(b:List UInt8):Nat:=(b.length+72) / 64
def shaS(b:List UInt8):List UInt8:=bytesS (hashS (padS b) (blksN b))
theorem xor8(a b:UInt8):xorK .u8 (a.toNat:Int) (b.toNat:Int)=((a^^^ b).toNat:Int):=by
 unfold xorK;have c:=a.toNat_lt;have j:=b.toNat_lt;have hx:a.toNat^^^ b.toNat<2^ 8:=Nat.xor_lt_two_pow c j;have e:(BitVec.ofInt IntKind.u8.bits (a.toNat:Int) ^^^ BitVec.ofInt IntKind.u8.bits (b.toNat:Int)).toNat=a.toNat^^^ b.toNat:=by rw [BitVec.toNat_xor,AP,AP,AX,AX];rw [show 2^ IntKind.u8.bits=256 from rfl,AI c,AI j]
 grind [u8wrapR,UInt8.toNat_xor]
def hkP(k:List UInt8)(c:UInt8)(n:Nat):List UInt8:=(List.range 64).map λi=>if i<n then k.getD i 0^^^ c else 0
def hkC(k:List UInt8):List UInt8:=if 64<k.length then shaS k else k
def hkS(k:List UInt8)(c:UInt8):List UInt8:=hkP (hkC k) c 64
def z1y(k:List UInt8)(c:UInt8)(n:Nat):(hkP k c n).length=64:=by simp [hkP]
theorem j7o(k:List UInt8)(c:UInt8)(hi:i<64):(hkP k c i).set i (k.getD i 0^^^ c)=hkP k c (i+1):=by
 apply Av
 . simp [hkP]
 intro j h1 h2;rw [Bf];simp only [hkP,AJ,AG];grind
theorem j2H(k:List UInt8)(c:UInt8):hkP k c 0=List.replicate 64 0:=by rfl
def dblS(b:UInt8):UInt8:=if 128<=b.toNat then (b<<<1) ^^^ 27 else b<<<1
theorem j0C{p:UInt8->Prop}(h:∀n:Fin 256,p (UInt8.ofNat n.val))(b:UInt8):p b:=by
 have:=h ⟨b.toNat,b.toNat_lt⟩
 simp_all
theorem shl8(b:UInt8):IntKind.u8.wrap ((b.toNat:Int)*2^ min 1 8)=((b<<<1).toNat:Int):=by rw [u8wrapR,UInt8.toNat_shiftLeft,CP];rfl
def xor27(b:UInt8):xorK .u8 (b.toNat:Int) 27=((b^^^ 27).toNat:Int):=xor8 b 27
def mulA:Nat->Nat->UInt8->UInt8->UInt8
 |0,_,_,p=>p
 |n+1,a,b,p=>if a=0 then p else mulA n (a / 2) (dblS b) (if a%2=1 then p^^^ b else p)
def mulS(a b:UInt8):UInt8:=mulA 8 a.toNat b 0
theorem z9S(n:Nat)(b p:UInt8):mulA n 0 b p=p:=by
 cases n with
 |zero=>rfl
 |succ n=>rfl
def j1n{n a:Nat}(b p:UInt8)(c:a≠0)(h:a<2^ n):∃m,a / 2<2^ m/\mulA n a b p=mulA m (a / 2) (dblS b) (if a%2=1 then p^^^ b else p):=by
 cases n with
 |zero=>omega
 |succ n=>exact ⟨n,by omega,if_neg c⟩
def fS(g:Nat->UInt8):List UInt8:=(List.range 16).map g
def q2z(g:Nat->UInt8):(fS g).length=16:=by simp [fS]
theorem q8G(g:Nat->UInt8)(hi:i<16):(fS g).getD i 0=g i:=by grind [fS]
def addS(b w:List UInt8)(r:Nat):List UInt8:=fS λi=>b.getD i 0^^^ w.getD (16*r+i) 0
def mixA(b f:List UInt8)(c r:Nat):Nat->UInt8
 |0=>0
 |k+1=>mixA b f c r k^^^ mulS (f.getD ((k+4-r)%4) 0) (b.getD (4*c+k) 0)
def mixS(b f:List UInt8):List UInt8:=fS λi=>mixA b f (i / 4) (i%4) 4
theorem q8S(b:UInt8):PC Tryz.prog 295 [.raw (.int .u8 b.toNat)] (.raw (.int .u8 (dblS b).toNat)):=by refine q0s rfl rfl ?_;refine rQ fi295 ?_;rw [shl8,xor27];unfold dblS;grind
def and1{x:Nat}(c:x<256):andK .u8 (x:Int) 1=((x%2:Nat):Int):=by
 have h:∀n:Fin 256,andK .u8 (n.val:Int) 1=((n.val%2:Nat):Int):=by decide
 exact h ⟨x,c⟩
theorem j3c(a b:UInt8):PC Tryz.prog 297 [.raw (.int .u8 a.toNat),.raw (.int .u8 b.toNat)] (.raw (.int .u8 (mulS a b).toNat)):=by
 refine q0s rfl rfl ?_;refine rQ fi297 ?_;have o:=a.toNat_lt;obtain ⟨R,r⟩:∃R,R=mulS a b:=⟨_,rfl⟩;rw [<-r];refine q0m (ι:=Nat×UInt8×UInt8) (λs=>[(0,.raw (.int .u8 s.1)),(1,.raw (.int .u8 s.2.1.toNat)),(4,.raw (.int .u8 s.2.2.toNat))]) (λ_=>[]) (λs=>s.1) (λs=>s.1<256/\∃n,s.1<2^ n/\R=mulA n s.1 s.2.1 s.2.2) (a.toNat,b,0) ⟨o,8,o,r⟩ rfl ?_ ?_
 . with_reducible refine sxE ?_
   rfl
 rintro ⟨x,y,p⟩ ⟨A,n,B,c⟩;dsimp only at*;by_cases u:x=0
 . subst u;rw [z9S] at c;subst c;refine gQ ?_;trivial
 have w:((x:Int)=0)=False:=eq_false (by omega);obtain ⟨m,j,e⟩:=j1n y p u B;rw [e] at c;refine gy1 w ?_;have l:(x:Int).fdiv (2^ min 1 8)=((x / 2:Nat):Int):=by grind
 rw [and1 A];refine ⟨λz=>q0a (q8S y) ?_,λz=>q0a (q8S y) ?_⟩
 . rw [if_pos (by omega)] at c;refine gy1 l ?_;refine ⟨(x / 2,dblS y,p^^^ y),⟨by omega,m,j,c⟩,by grind,rfl,?_⟩;simp (maxSteps:=3000000) only [xor8,go_sem,↓zA,↓reduceIte,↓reduceDIte] <;>try simp only [zB]
 rw [if_neg (by omega)] at c;refine gy1 l ?_;refine ⟨(x / 2,dblS y,p),⟨by omega,m,j,c⟩,by grind,rfl,?_⟩;with_reducible refine sxE ?_;trivial
def q9U(i:Nat)(c:i<16):PC Tryz.prog 288 [rI i] (rI ((4* (i / 4+i%4)+i%4)%16:Nat)):=by
 refine q0s rfl rfl ?_;refine rQ fi288 ?_;have h:∀n:Fin 16,((IntKind.i64.wrap (IntKind.i64.wrap (4*IntKind.i64.wrap (IntKind.i64.wrap (((n.val:Nat):Int).tdiv 4)+ ((n.val:Nat):Int).tmod 4))+ ((n.val:Nat):Int).tmod 4)).tmod 16)=(((4* (n.val / 4+n.val%4)+n.val%4)%16:Nat):Int):=by decide
 exact ⟨by decide,by decide,by decide,by decide,congrArg _ (h ⟨i,c⟩)⟩
abbrev CipT:Ty:=.prod (.prod (.arr 256 .u8) (.arr 256 .u8)) (.prod (.arr 176 .u8) .bool)
abbrev PasT:Ty:=.prod (.ptr CipT) (.prod (.arr 16 .u8) (.arr 16 .u8))
def gP(b:List UInt8)(g:Nat->UInt8)(n:Nat):List UInt8:=(List.range 16).map λj=>if j<n then g j else b.getD j 0
theorem q8R(b:List UInt8)(g:Nat->UInt8)(n:Nat):(gP b g n).length=16:=by simp [gP]
theorem q6B(g:Nat->UInt8)(hb:b.length=16):gP b g 0=b:=by grind [List.ext_getElem,q8R,gP]
theorem q9O(b:List UInt8)(g:Nat->UInt8):gP b g 16=fS g:=by rfl
theorem z6c(b:List UInt8)(g:Nat->UInt8){n:Nat}(hi:i<16)(hn:n<=i):(gP b g n).getD i 0=b.getD i 0:=by simp_all [gP,if_neg]
theorem z0a(b:List UInt8)(g:Nat->UInt8)(hi:i<16):(gP b g i).set i (g i)=gP b g (i+1):=by
 apply Av
 . simp [gP]
 intro j h1 h2;rw [Bf];simp only [gP,AJ,AG];grind
def z5K(c:Option CipT.den)(b k:List UInt8)(w:b.length=16)(u:k.length=16):PE Tryz.prog 268 [.rptr 0 PasT 0 0] [.row PasT [(c,(b,k))]] (.ret (.tup [])) [.row PasT [(c,(addS b k 0,k))]]:=by
 refine q0b (Ad _) ?_;refine rQ fi268 ?_;refine q0m (ι:=Nat) (λi=>[(3,rI i)]) (λi=>[.row PasT [(c,(gP b (λj=>b.getD j 0^^^ k.getD j 0) i,k))]]) (λi=>16-i) (λi=>i<=16) 0 (Aj _) (by rw [q6B _ w]) ?_ λi hi=> ?_
 . with_reducible refine sxE ?_;trivial
 have n:=wsx i (by omega);have p:=q8R b (λj=>b.getD j 0^^^ k.getD j 0) i;by_cases e:i<16
 . have l:((i:Int) <16)=True:=eq_true (by omega);refine uQ 600 _ ?_;have o:(gP b (λj=>b.getD j 0^^^ k.getD j 0) i).getD i Ty.u8.dflt=b.getD i 0:=z6c _ _ e (Ad _);have r:k.getD i Ty.u8.dflt=k.getD i 0:=rfl;simp (maxSteps:=3000000) only [l,p,u,AO,o,r,xor8,AA,AS,go_sem,↓zA,↓reduceIte,↓reduceDIte] <;>try simp only [zB]
   refine ⟨⟨by omega,e⟩,e,⟨by omega,e⟩,e,⟨by omega,e⟩,e,i+1,e,by show 16- (i+1) <16-i;omega,?_,?_⟩
   . dsimp only;rw [<-z0a b (λj=>b.getD j 0^^^ k.getD j 0) e]
   with_reducible refine sx1 n ?_;trivial
 obtain rfl:i=16:=by omega
 rw [q9O];refine uQ 600 _ ?_;have l:(((16:Nat):Int) <16)=False:=eq_false (by omega);simp (maxSteps:=3000000) only [l,go_sem,↓zA,↓reduceIte,↓reduceDIte] <;>try simp only [zB]
 simp only [addS,Nat.mul_zero,Ag]
theorem z6Q(c:CipT.den)(x:UInt8):PC Tryz.prog 294 [.iptr CipT c 0,.raw (.int .u8 x.toNat)] (.raw (.int .u8 ((c.1.1:List UInt8).getD x.toNat 0).toNat)):=by refine q0s rfl rfl ?_;refine rQ fi294 ?_;have e:=x.toNat_lt;exact ⟨⟨by omega,e⟩,rfl⟩
theorem z0X(c:CipT.den)(b k:List UInt8)(r:b.length=16):PE Tryz.prog 284 [.rptr 0 PasT 0 0] [.row PasT [(some c,(b,k))]] (.ret (.tup [])) [.row PasT [(some c,(fS λj=>(c.1.1:List UInt8).getD (b.getD j 0).toNat 0,k))]]:=by
 refine q0b (Ad _) ?_;refine rQ fi284 ?_;refine q0m (ι:=Nat) (λi=>[(3,rI i)]) (λi=>[.row PasT [(some c,(gP b (λj=>(c.1.1:List UInt8).getD (b.getD j 0).toNat 0) i,k))]]) (λi=>16-i) (λi=>i<=16) 0 (Aj _) (by rw [q6B _ r]) ?_ λi hi=> ?_
 . with_reducible refine sxE ?_;trivial
 have o:=wsx i (by omega);have l:=q8R b (λj=>(c.1.1:List UInt8).getD (b.getD j 0).toNat 0) i;by_cases e:i<16
 . have n:((i:Int) <16)=True:=eq_true (by omega);have p:(gP b (λj=>(c.1.1:List UInt8).getD (b.getD j 0).toNat 0) i).getD i Ty.u8.dflt=b.getD i 0:=z6c _ _ e (Ad _);refine uQ 600 _ ?_;simp (maxSteps:=3000000) only [n,l,AO,p,CO,Ty.cells,go_sem,↓zA,↓reduceIte,↓reduceDIte] <;>try simp only [zB]
   refine ⟨⟨by omega,e⟩,e,q0d (z6Q c (b.getD i 0)) ?_⟩;refine uQ 600 _ ?_;simp (maxSteps:=3000000) only [l,AO,AA,AS,go_sem,↓zA,↓reduceIte,↓reduceDIte] <;>try simp only [zB]
   refine ⟨⟨by omega,e⟩,e,i+1,e,by grind,?_,?_⟩
   . grind [z0a]
   with_reducible refine sx1 o ?_;trivial
 obtain rfl:i=16:=by omega
 rw [q9O];refine uQ 600 _ ?_;have n:(((16:Nat):Int) <16)=False:=eq_false (by omega);simp (maxSteps:=3000000) only [n,go_sem,↓zA,↓reduceIte,↓reduceDIte] <;>try simp only [zB]
theorem z9k(c:CipT.den)(x:UInt8):PC Tryz.prog 289 [.iptr CipT c 0,.raw (.int .u8 x.toNat)] (.raw (.int .u8 ((c.1.2:List UInt8).getD x.toNat 0).toNat)):=by refine q0s rfl rfl ?_;refine rQ fi289 ?_;have e:=x.toNat_lt;exact ⟨⟨by omega,e⟩,rfl⟩
theorem z7o(c:CipT.den)(b k:List UInt8)(r:b.length=16):PE Tryz.prog 271 [.rptr 0 PasT 0 0] [.row PasT [(some c,(b,k))]] (.ret (.tup [])) [.row PasT [(some c,(fS λj=>(c.1.2:List UInt8).getD (b.getD j 0).toNat 0,k))]]:=by
 refine q0b (Ad _) ?_;refine rQ fi271 ?_;refine q0m (ι:=Nat) (λi=>[(3,rI i)]) (λi=>[.row PasT [(some c,(gP b (λj=>(c.1.2:List UInt8).getD (b.getD j 0).toNat 0) i,k))]]) (λi=>16-i) (λi=>i<=16) 0 (Aj _) (by rw [q6B _ r]) ?_ λi hi=> ?_
 . with_reducible refine sxE ?_;trivial
 have o:=wsx i (by omega);have l:=q8R b (λj=>(c.1.2:List UInt8).getD (b.getD j 0).toNat 0) i;by_cases e:i<16
 . have n:((i:Int) <16)=True:=eq_true (by omega);have p:(gP b (λj=>(c.1.2:List UInt8).getD (b.getD j 0).toNat 0) i).getD i Ty.u8.dflt=b.getD i 0:=z6c _ _ e (Ad _);refine uQ 600 _ ?_;simp (maxSteps:=3000000) only [n,l,AO,p,CO,Ty.cells,go_sem,↓zA,↓reduceIte,↓reduceDIte] <;>try simp only [zB]
   refine ⟨⟨by omega,e⟩,e,q0d (z9k c (b.getD i 0)) ?_⟩;refine uQ 600 _ ?_;simp (maxSteps:=3000000) only [l,AO,AA,AS,go_sem,↓zA,↓reduceIte,↓reduceDIte] <;>try simp only [zB]
   refine ⟨⟨by omega,e⟩,e,i+1,e,by grind,?_,?_⟩
   . grind [z0a]
   with_reducible refine sx1 o ?_;trivial
 obtain rfl:i=16:=by omega
 rw [q9O];refine uQ 600 _ ?_;have n:(((16:Nat):Int) <16)=False:=eq_false (by omega);simp (maxSteps:=3000000) only [n,go_sem,↓zA,↓reduceIte,↓reduceDIte] <;>try simp only [zB]
end Go.Proofs.YthbcodbcndiapaaGreatDoor
namespace Go.Sx
open Go

variable {P:Program}

def Ty.bare:Ty->Bool
 |.slice _=>false
 |.ptr _=>false
 |.clo _ _=>false
 |.clp _ _=>false
 |.mbs _=>false
 |.prod a b=>a.bare&& b.bare
 |.arr _ t=>t.bare
 |_=>true
theorem q5Y{I I':Nat->Prop}{w w':World}:∀ (t:Ty) (x:t.den) (vs:List Value),t.bare=true->t.rel I w x vs->t.rel I' w' x vs
 |.u8,_,_,_,h=>h
 |.int _,_,_,_,h=>h
 |.bool,_,_,_,h=>h
 |.str,_,_,_,h=>h
 |.slice _,_,_,hb,_=>by cases hb
 |.prod a b,x,vs,hb,h=>by simp only [Ty.bare,Ai] at hb;obtain ⟨o,j,rfl,l,e⟩:=h;exact ⟨o,j,rfl,q5Y a _ _ hb.1 l,q5Y b _ _ hb.2 e⟩
 |.unit,_,_,_,h=>h
 |.arr n t,xs,vs,hb,h=>by obtain ⟨u,vss,rfl,c,h⟩:=h;exact ⟨u,vss,rfl,c,λi x us r p=>q5Y t _ _ hb (h i x us r p)⟩
 |.ptr _,_,_,hb,_=>by cases hb
 |.clo _ _,_,_,hb,_=>by cases hb
 |.clp _ _,_,_,hb,_=>by cases hb
 |.mbs _,_,_,hb,_=>by cases hb
def SObj.bare:SObj->Bool
 |.dead=>true
 |.row t _=>t.bare
 |_=>false
variable {C:Cx}{h:Nat}
def z5g{C':Cx}:∀ {o:SObj},o.bare=true->C'.ρ h=C.ρ h->(o.live=true->∀b,C.ρ h=some b->C'.w.heap[b]?=C.w.heap[b]?)->objDen C h o->objDen C' h o
 |.dead,_,_,_,_=>trivial
 |.row t xs,hb,hr,hw,d=>by
  rcases d with ⟨c,e⟩ | ⟨b,j,T,fz,c,e,z,p,r⟩
  . exact .inl ⟨hr.trans c,e⟩
  refine .inr ⟨b,j,T,fz,hr.trans c,(hw rfl b c).trans e,z,p,λi x A=> ?_⟩;obtain ⟨us,n,l⟩:=r i x A;exact ⟨us,q5Y t _ _ hb n,λk u y=>by rw [<-l k u y];exact World.cell?_of_block (hw rfl b c)⟩
 |.cells ..,hb,_,_,_=>by cases hb
 |.map ..,hb,_,_,_=>by cases hb
 |.mark _,hb,_,_,_=>by cases hb
mutual
def SV.bare:SV->Bool
 |.raw _=>true
 |.dat t _=>t.bare
 |.agg l=>SV.bareL l
 |.tup l=>SV.bareL l
 |.any=>true
 |_=>false
def SV.bareL:List SV->Bool
 | []=>true
 |s :: l=>s.bare&& SV.bareL l
end
mutual
theorem z5C{C C':Cx}:∀ {s:SV} {v:Value},s.bare=true->s.den C v->s.den C' v
 |.any,_,_,_=>by rw [SV.den];trivial
 |.raw u,v,_,h=>by grind [SV.den]
 |.dat t x,v,hb,h=>by grind [SV.den,q5Y,SV.bare]
 |.agg l,v,hb,h=>by rw [SV.den] at h⊢;obtain ⟨vs,c,e⟩:=h;exact ⟨vs,c,q7Z (by grind [SV.bare]) e⟩
 |.tup l,v,hb,h=>by rw [SV.den] at h⊢;obtain ⟨vs,c,e⟩:=h;exact ⟨vs,c,q7Z (by grind [SV.bare]) e⟩
 |.isl ..,_,hb,_=>by simp [SV.bare] at hb
 |.fsl ..,_,hb,_=>by simp [SV.bare] at hb
 |.iptr ..,_,hb,_=>by simp [SV.bare] at hb
 |.ptr ..,_,hb,_=>by simp [SV.bare] at hb
 |.rptr ..,_,hb,_=>by simp [SV.bare] at hb
 |.bld ..,_,hb,_=>by simp [SV.bare] at hb
 |.osl ..,_,hb,_=>by simp [SV.bare] at hb
 |.csl ..,_,hb,_=>by simp [SV.bare] at hb
 |.fn ..,_,hb,_=>by simp [SV.bare] at hb
 |.iface ..,_,hb,_=>by simp [SV.bare] at hb
 |.mp ..,_,hb,_=>by simp [SV.bare] at hb
 |.imap ..,_,hb,_=>by simp [SV.bare] at hb
theorem q7Z{C C':Cx}:∀ {l:List SV} {vs:List Value},SV.bareL l=true->SV.denL C l vs->SV.denL C' l vs
 | [],_,_,h=>by grind [SV.denL]
 |s :: l,_,hb,h=>by rw [SV.denL] at h⊢;simp only [SV.bareL,Ai] at hb;obtain ⟨v,us,rfl,c,e⟩:=h;exact ⟨v,us,rfl,z5C hb.1 c,q7Z hb.2 e⟩
end

def RLies(t:Ty)(xs:List t.den)(off:Nat)(t2:Ty)(y:t2.den):Prop:=
 (∃x,xs= [x]/\t.get x off t2.size=some ⟨t2,y⟩)\/(t2= .arr xs.length t/\off=0/\t.size=1/\0<xs.length/\HEq y xs)
inductive Bor (h:Nat) (t:Ty) (xs:List t.den):SV->SV->Prop where
 |keep {s:SV} (hb:s.bel h=true):Bor h t xs s s
 |bld {n:Nat} (hn:n<=xs.length):Bor h t xs (.bld h t n) (.isl t (xs.take n))
 |osl {off n:Nat} (hn:off+n<=xs.length):Bor h t xs (.osl h t off n) (.isl t ((xs.drop off).take n))
 |csl {e:Ty} {k i n:Nat} {ys:List e.den} {p:Prop} (ho:ownPart e k i n (.row t xs)=some (ys,p)) (hp:p) (hn:n<=1125899906842624):Bor h t xs (.csl h e k i n) (.isl e ys)
 |ptr {t' t2:Ty} {i k:Nat} {y:t2.den} (hr:RLies t xs (i*t'.size+k) t2 y):Bor h t xs (.rptr h t' i k) (.iptr t2 y 0)
inductive BorL (h:Nat) (t:Ty) (xs:List t.den):List SV->List SV->Prop where
 |nil:BorL h t xs [] []
 |cons {s s':SV} {l l':List SV} (h1:Bor h t xs s s') (h2:BorL h t xs l l'):BorL h t xs (s :: l) (s' :: l')

variable {H:List SObj}
variable {t:Ty}{xs:List t.den}
theorem rlies{off:Nat}{c:Ty}{y:c.den}(l:Wd C H)(n:H[h]?=some (.row t xs))(r:RLies t xs off c y):∃b,C.ρ h=some b/\Lies C.I C.w b off c y:=by
 rcases r with ⟨x,rfl,A⟩ | ⟨e,rfl,z,o,p⟩
 . obtain ⟨b,u,j⟩:=q2m (i:=0) l n rfl;rw [BU] at j;have h2:=(z2k t A j).1
   simp_all
 subst e;cases p;obtain ⟨b,u,j⟩:=z0x (i:=0) (m:=xs.length) l n z (by omega) o
 simp_all
variable {s:SV}
theorem j6h(x:Wd C H)(z:H[h]?=some (.row t xs))(r:xs.length<=1125899906842624){F:SV}{v:Value}(l:Bor h t xs s F)(o:s.den C v):F.den {C.frz h with n:=h} v:=by
 have G:Keeps C.I (C.frz h).I C.w C.w:=λb l=>⟨.inl l,rfl⟩;cases l with
 |keep l=>have E:=z0q (σ:=λh=>h) l (by rw [z4U];exact o);exact q1i (C:=C.ren (λh=>h) h) (C':={C.frz h with n:=h}) ⟨Ad _,λ_ _=>rfl,λb (l:C.I b)=>⟨Or.inl l,rfl⟩,λ_ _ h=>h⟩ E
 |bld hn=>have:=q6A x z r (off:=0) (by omega) (q6O o);rw [Ap] at this;exact q0H (C:=C.frz h) (Keeps.refl _ _) rfl this
 |osl hn=>exact q0H (C:=C.frz h) (Keeps.refl _ _) rfl (q6A x z r hn o)
 |csl ho hp hn=>
  rename_i e k i n ys p;obtain ⟨E,J⟩:=q9V x z ho hp;simp only [SV.den] at o;obtain ⟨_,A,c,rfl,N,o⟩:=o;rw [SV.den.eq_def];refine ⟨A,n,c,rfl,E.symm,N,hn,?_⟩;rcases o with h0| ⟨b,l,rfl⟩
  . simp_all
  refine .inr ⟨b,_,rfl,.inr l,λj y L=> ?_⟩;obtain ⟨us,D,B⟩:=J b l j y L;exact ⟨us,Ty.rel_keep G _ _ _ D,B⟩
 |ptr hr=>obtain ⟨b,l,us,D,B⟩:=rlies x z hr;obtain ⟨b',u,rfl⟩:=q4d o;rw [l] at u;cases u;rw [SV.den.eq_def];exact ⟨b,_,us,rfl,.inr l,Ty.rel_keep G _ _ _ D,B⟩
theorem j3L(o:Wd C H)(u:H[h]?=some (.row t xs))(c:xs.length<=1125899906842624){l j:List SV}(y:BorL h t xs l j):∀ {vs:List Value},SV.denL C l vs->SV.denL {C.frz h with n:=h} j vs:=by
 induction y with
 |nil=>grind [SV.denL]
 |cons x _ r=>intro vs e;rw [SV.denL] at e⊢;obtain ⟨v,us,rfl,w,p⟩:=e;exact ⟨v,us,rfl,j6h o u c x w,r p⟩
def z6a{l:List SObj}(h:l.all SObj.bare=true){i:Nat}{o:SObj}(ho:l[i]?=some o):o.bare=true:=Bu.1 h o (BT ho)
variable {f:FuncId}
theorem q9X{args N:List SV}{H0 H1:List SObj}(hp:VCall P f N H0 λo' H'=>o'= .ret s/\H'=H1)(hl:H1.length=H0.length)(ab:H0.all SObj.bare=true)(ac:H1.all SObj.bare=true)(hs:s.bare=true)
 (Y:xs.length<=1125899906842624)(hb:BorL H0.length t xs args N):VCall P f args (H0++ [.row t xs]) λo' H'=>o'= .ret s/\H'=H1++ [.row t xs]:=by
 intro C vs J ht hv;have U:(H0++ [SObj.row t xs])[H0.length]?=some (.row t xs):=by simp_all
 have hn:C.n=H0.length+1:=by rw [J.n];simp
 have z:∀ {i o},H0[i]?=some o->(H0++ [SObj.row t xs])[i]?=some o:=λhi=>by rw [Az (Au.1 hi).1];exact hi
 have r:∀b,OwnB {C.frz H0.length with n:=H0.length} H0 b->OwnB C (H0++ [.row t xs]) b/\C.ρ H0.length≠some b:=by
  rintro b ⟨i,o,F,x,Q⟩;refine ⟨⟨i,o,z F,x,Q⟩,λe=> ?_⟩;have:=J.inj i H0.length o _ b (z F) U x rfl Q e
  simp_all
 have aa:Wd {C.frz H0.length with n:=H0.length} H0:=by
  refine ⟨rfl,λi o F=>z5g (C:=C) (z6a ab F) rfl (λ_ _ _=>rfl) (J.obj i o (z F)),λb c=> ?_,λi j o o' b F S x E l B=>J.inj i j o o' b (z F) (z S) x E l B,λb c=> ?_⟩
  . obtain ⟨l,B⟩:=r b c;exact ⟨λh=>h.elim (J.own b l).1 B,(J.own b l).2⟩
  exact c.elim (J.imm b) λh=>(J.own b ⟨_,_,U,rfl,h⟩).2
 refine (hp {C.frz H0.length with n:=H0.length} vs aa (ht.sub rfl (λb c=>.inl c) λb c=>(r b c).1) (j3L J U Y hb hv)).mono ?_;rintro e w' ⟨o,H',C',⟨rfl,rfl⟩,rfl,y,G,v,rfl,hd⟩;have V:∀i,i<H0.length->C'.ρ i=C.ρ i:=λi hi=>G.evo.ρ i hi
 let D:Cx:={ρ:=C.ρ,n:=H0.length+1,I:=λb=>C'.I b/\C.ρ H0.length≠some b,w:=C'.w}
 have hK:Keeps C.I D.I C.w C'.w:=λb c=>⟨⟨(G.evo.I b (.inl c)).1,λe=>(J.own b ⟨_,_,U,rfl,e⟩).1 c⟩,(G.evo.I b (.inl c)).2⟩;have R:Evo C D:=⟨by grind,λ_ _=>rfl,hK,G.evo.sz⟩
 have p:∀ {i O},(H'++ [SObj.row t xs])[i]?=some O->(i<H0.length/\H'[i]?=some O)\/(i=H0.length/\O= .row t xs):=λ{i O} hi=>by grind
 have A:∀b,C.ρ H0.length=some b->C'.I b:=λb c=>(G.evo.I b (.inr c)).1;have L:∀b,OwnB D (H'++ [.row t xs]) b->OwnB C' H' b\/C.ρ H0.length=some b:=by
  rintro b ⟨i,O,F,x,Q⟩;rcases p F with ⟨l,B⟩ | ⟨rfl,_⟩
  . exact .inl ⟨i,O,B,x,(V i l).trans Q⟩
  grind
 refine ⟨.ret s,_,D,⟨rfl,rfl⟩,rfl,⟨?_,λi O F=> ?_,λb c=> ?_,λi j O X b F S x E l B=> ?_,λb c=>y.imm b c.1⟩,
  ⟨R,G.size,G.os,G.tape,G.output,λb l B=>G.frame b l λhq=>B (r b hq).1,λb c=> ?_,λb c=> ?_,λn _ hn'=> ?_⟩,v,rfl,z5C hs hd⟩
 . grind
 . rcases p F with ⟨l,B⟩ | ⟨rfl,rfl⟩
   . exact z5g (C:=C') (C':=D) (z6a ac B) (V i l).symm (λ_ _ _=>rfl) (y.obj i O B)
   exact q0G (C':=D) hK _ rfl (λb c=>(G.evo.I b (.inr c)).2) (q0h R) (J.obj _ _ U)
 . rcases L b c with l|l
   . exact ⟨λh=>(y.own b l).1 h.1,(y.own b l).2⟩
   exact ⟨λh=>h.2 l,y.imm b (A b l)⟩
 . rcases p F with ⟨g1,g2⟩ | ⟨rfl,rfl⟩ <;>rcases p S with ⟨W,Z⟩ | ⟨rfl,rfl⟩
   . exact y.inj i j O X b g2 Z x E ((V i g1).trans l) ((V j W).trans B)
   . exact absurd (A b B) (y.own b ⟨i,O,g2,x,(V i g1).trans l⟩).1
   . exact absurd (A b l) (y.own b ⟨j,X,Z,E,(V j W).trans B⟩).1
   rfl
 . rcases G.immNew b c.1 with (q|q) | ⟨q|q,u⟩
   . exact .inl q
   . grind
   . exact .inr ⟨.inl q,u⟩
   grind
 . rcases L b c with l|l
   . exact orMap (G.ownNew b l) id λq=>(r b q).1
   exact .inr ⟨_,_,U,rfl,l⟩
 exfalso;cases H0<;>simp_all [SObj.bare]
def z4t{args args':List SV}{H0 H1:List SObj}(hp:PE P f args' H0 (.ret s) H1)(hl:H1.length=H0.length)(hb0:H0.all SObj.bare=true)(hb1:H1.all SObj.bare=true)(hs:s.bare=true)
 (hlen:xs.length<=1125899906842624)(hb:BorL H0.length t xs args args'):PE P f args (H0++ [.row t xs]) (.ret s) (H1++ [.row t xs]):=⟨hp.1,q9X hp.2 hl hb0 hb1 hs hlen hb⟩
theorem q7q{args args':List SV}(hp:PC P f args' s)(hs:s.bare=true)(hlen:xs.length<=1125899906842624)(hb:BorL 0 t xs args args'):PE P f args [.row t xs] (.ret s) [.row t xs]:=
 ⟨hp.1,q9X (H0:=[]) (H1:=[]) (hp.2 [] _ ⟨rfl,rfl⟩) rfl rfl rfl hs hlen hb⟩
variable {α:Type}
theorem z8q(x:α):Option.getD (none:Option α) x=x:=rfl
theorem z7L(x y:α):Option.getD (some y) x=y:=rfl
def j5V{x y:t.den}:SV.leA (.dat t x) (.dat t y)=(x=y):=by simp [SV.leA]
def j1D{c:Ty}{i k j e k':Nat}:SV.leA (.rptr h t i k) (.rptr j c e k')=(h=j/\t=c/\i=e/\k=k'):=by simp [SV.leA]
attribute [go_sem] z8q z7L j5V j1D

variable {P:Program} {AQ:Ex->List SV->List SObj->Prop} {k0:Nat} {k:List It} {t:List SV} {H:List SObj}

@[reducible] def frzN(q:Nat->Prop)(w0:World)(N:Nat):Ghost where
 inv0:=λE C H=>(E.C.w.heap.size<=N/\∀b,TBlk b->b<N)/\ZInv q w0 C H
 fin:=λE C H ds=>ds=E.base/\TabE E.toEn C H/\True
 toFin0:=λht _=>⟨rfl,ht,trivial⟩
 next0:=λ{E _ _ _ _} hx h=>⟨h.1,(frzG q w0).next0 (E:=E) hx h.2⟩
 same0:=λ{E _ _ _ _} hw e hk hi ho hm hl h=>⟨h.1,(frzG q w0).same0 (E:=E) hw e hk hi ho hm hl h.2⟩

theorem q7c{Q c:Exit->Act->World->Prop}(j:∀e a w,Q e a w->c e a w)(h:LetsOut Q):LetsOut c:=by obtain ⟨a,w,h⟩:=h;exact ⟨a,w,j _ _ _ h⟩
theorem z7t{F:Fence}{n:Nat}{o:Oper}{a:Act}{w:World}{K p:Act->World->Prop}{Q j:Exit->Act->World->Prop}(h:∀a w,K a w->p a w)(hq:∀e a w,Q e a w->j e a w)
 (c:o.wpIn F n P a w K Q):o.wpIn F n P a w p j:=by
 unfold Oper.wpIn at*;refine ⟨c.1,?_⟩;have c:=c.2;generalize (o.semAt F.round a.eval).run P w=r at*;cases r with
 |ok x w'=>
  cases x<;>simp only [Oper.uponIn] at c⊢ <;>
   first
    |exact h _ _ c
    |exact ⟨c.1,CallsIn.mono c.2 (λe w'' l=>by grind [q7c])⟩
    |exact ⟨c.1,RowsIn.mono c.2 (λ_ _ l=>h _ _ l)⟩
    |grind [RoundIn.mono,q7c]
 |halt x w'=>cases x<;>simp only [Oper.uponIn] at c⊢ <;>first|simp_all|exact c
theorem q5H{F:Fence}{n:Nat}{all:Array Oper}{Q r:Exit->Act->World->Prop}(c:∀e a w,Q e a w->r e a w):∀ (l:List Nat) (a:Act) (w:World),wpOpsIn F n P all Q l a w->wpOpsIn F n P all r l a w
 | [],a,w,h=>c _ _ _ h
 |i :: l,a,w,h=>by
  unfold wpOpsIn at h⊢;split
  . rename_i p;simp only [p] at h;exact q5H c l a w h
  rename_i o p;simp only [p] at h;split
  . rename_i j;rw [if_pos j] at h;exact z7t (λa w h=>q5H c l a w h) c h
  rename_i j;rw [if_neg j] at h;exact ⟨h.1,q5H c l _ w h.2⟩

def noStop:List It->Bool
 | []=>true
 |.code _ :: k=>noStop k
 |.ops _ _ :: k=>noStop k
 |.blk _ :: k=>noStop k
 |_ :: _=>false
theorem q3x{G G':Ghost}{F:Fence}{n:Nat}{E E':EnD}{Q j:Exit->Act->World->Prop}(o:∀e a w,j e a w->Q e a w):∀ (k:List It),noStop k=true->
 (∀a w, @wpT G' F n P E' j k a w-> @wpT G F n P E Q k a w)/\(∀id a w, @exitT G' F n P E' j id k a w-> @exitT G F n P E Q id k a w)
 | [],_=>⟨λa w h=>by grind [wpT],λid a w h=>by grind [exitT]⟩
 |.code c :: k,hs=>by obtain ⟨p,r⟩:=q3x (G:=G) (G':=G') (F:=F) (n:=n) (E:=E) (E':=E') o k hs;grind [exitT,wpT,wpIn_mono]
 |.ops all l :: k,hs=>by obtain ⟨p,r⟩:=q3x (G:=G) (G':=G') (F:=F) (n:=n) (E:=E) (E':=E') o k hs;grind [exitT,wpT,q5H]
 |.blk id' :: k,hs=>by obtain ⟨p,r⟩:=q3x (G:=G) (G':=G') (F:=F) (n:=n) (E:=E) (E':=E') o k hs;refine ⟨λa w h=>by grind [wpT],λid a w h=> ?_⟩;simp only [exitT] at h⊢;grind
variable {td:List IT}
def noStopI:List IT->Bool
 | []=>true
 |.ic _ :: k=>noStopI k
 |.ops _ :: k=>noStopI k
 |.blk _ :: k=>noStopI k
 |_ :: _=>false
def q3Q:∀ {td:List IT} {r:List It},RelT P td r->noStopI td=true->noStop r=true
 | [],r,h,_=>by cases h;rfl
 |.ic c :: k,r,h,hs=>by obtain ⟨c',r',rfl,_,e⟩:=h;exact (q3Q (td:=k) (r:=r') e hs:noStop r'=true)
 |.ops l :: k,r,h,hs=>by obtain ⟨all,idx,r',rfl,_,e⟩:=h;exact (q3Q (td:=k) (r:=r') e hs:noStop r'=true)
 |.blk id :: k,r,h,hs=>by obtain ⟨r',rfl,e⟩:=h;exact (q3Q (td:=k) (r:=r') e hs:noStop r'=true)
end Go.Sx