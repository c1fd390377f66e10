/- The functions of the program in the compact form; the kernel checks each. -/
import Derived.Test.YthbcodbcndiapaaGreatDoorX5
import Derived.RangeFuncRecord
set_option linter.all false
namespace Go.Proofs.YthbcodbcndiapaaGreatDoor
open Go Go.Sx Go.Proofs
set_option maxRecDepth 100000
def Fi4(n:Nat)(i:FI)(h:finfo Tryz.prog n=some i:=by kernel_rfl):finfo Tryz.prog n=some i:=h
def ir268:FI:=⟨23,[],(qR [mI 3 0] (.blk 0 (.loop (qR [bC 4 .lss 3 16] (.seq (cE 4 0) (.seq (.blk 1 (qR [mv 5 3,mv 2 5] (.drw [tt (mv 6 0),tt (mv 7 2),tt (nL 8 6),tt (fA 9 1 8),tt (iZ 10 16 1 9 7),tt (lD 11 10),tt (mv 12 0),tt (mv 13 2),tt (nL 14 12),tt (fA 15 17 14),tt (iZ 16 16 1 15 13),tt (lD 17 16),tt (bN 18 .xor 0 11 17),tt (nL 19 6),tt (fA 20 1 19),tt (iZ 21 16 1 20 7),ft (sT 1 21 18)]))) (iN 22 3 3)))))))⟩
def fi268:=Fi4 268 ir268
def ir269:FI:=⟨5,[],(.reg [mv 2 0,o1 3 (.bld [(.int .u8 0),(.int .u8 0),(.int .u8 0),(.int .u8 0)] (.arr 1) [(0,(kU .u8 14)),(1,(kU .u8 11)),(2,(kU .u8 13)),(3,(kU .u8 9))]),c2 4 287 2 3])⟩
def fi269:=Fi4 269 ir269
def ir270:FI:=⟨21,[],(qR [mv 4 0,nL 5 4,fA 6 1 5,lG 7 16 6,o1 2 (.arr .u8 16),sT 16 2 7] (qR [mI 8 0] (.blk 0 (.loop (qR [bC 9 .lss 8 16] (.seq (cE 9 0) (.seq (.blk 1 (qR [mv 10 8,mv 3 10] (.drw [tt (mv 11 0),tt (mv 12 3),tt (mv 14 3),tt (iZ 15 16 1 2 14),tt (lD 16 15),tt (nL 17 11),tt (fA 18 1 17),ft (c1 13 288 12),tt (iZ 19 16 1 18 13),ft (sT 1 19 16)]))) (iN 20 8 8))))))))⟩
def fi270:=Fi4 270 ir270
def ir271:FI:=⟨25,[],(qR [mI 3 0] (.blk 0 (.loop (qR [bC 4 .lss 3 16] (.seq (cE 4 0) (.seq (.blk 1 (qR [mv 5 3,mv 2 5] (.drw [tt (mv 6 0),tt (mv 7 2),tt (mv 8 0),tt (nL 9 8),tt (fA 10 0 9),tt (lD 11 10),tt (nL 12 11),tt (fA 13 0 12),tt (mv 14 0),tt (mv 15 2),tt (nL 16 14),tt (fA 17 1 16),tt (iZ 18 16 1 17 15),tt (lD 19 18),tt (nL 21 6),tt (fA 22 1 21),ft (c2 20 289 13 19),tt (iZ 23 16 1 22 7),ft (sT 1 23 20)]))) (iN 24 3 3)))))))⟩
def fi271:=Fi4 271 ir271
def ir272:FI:=⟨6,[.tmp 4],(qR [bx 2 254 0,bx 3 4 1,o1 4 (.mov (.const .nilFunc))] (rR [o1 5 (.mkf 290 [] [(T 3),(T 2)]),mv 4 5]))⟩
def fi272:=Fi4 272 ir272
def ir273:FI:=⟨15,[],(qR [mv 6 1,lN 7 false 6,mI 8 0] (.blk 0 (.loop (qR [bN 9 .lss 0 8 7] (.seq (cE 9 0) (.seq (.blk 1 (qR [iA 10 1 6 8,lD 11 10,mv 5 11] (.reg [mv 12 5,o1 13 (.call (T 12) [])]))) (iN 14 8 8)))))))⟩
def fi273:=Fi4 273 ir273
def ir274:FI:=⟨15,[.cell 2 234],(qR [o1 2 (.arr .u8 32)] (qR [o1 5 (.ld (some 8) (.global 5)),o1 3 (.arr (.int .u32) 8),sT 8 3 5] (.seq (qR [mv 6 0,mv 7 0,lN 8 false 7,c2 9 291 6 8] (.blk 0 (.rf (T 9) #[10] (.reg [mv 4 10]) (.blk 1 (.reg [mv 11 4,c2 12 292 3 11]))))) (rR [lG 13 8 3,c1 14 293 13,sT 32 2 14]))))⟩
def fi274:=Fi4 274 ir274
def ir275:FI:=⟨18,[.cell 3 292],(qR [o1 3 (.arr .u8 64)] (.seq (qR [lG 6 64 1,mI 7 0] (.blk 0 (.loop (qR [bC 8 .lss 7 64] (.seq (cE 8 0) (.seq (.blk 1 (qR [mv 9 7,o1 10 (.ixd 64 (T 6) (T 7)),mv 4 9,mv 5 10] (.reg [mv 11 4,mv 12 5,mv 13 0,bN 14 .xor 0 12 13,iZ 15 64 1 3 11,sT 1 15 14]))) (iN 16 7 7))))))) (rR [lG 17 64 3,sT 64 3 17])))⟩
def fi275:=Fi4 275 ir275
def ir276:FI:=⟨9,[.cell 2 300],(qR [o1 2 (.sgl (.prod (.arr 8 (.int .u32)) (.prod (.arr 64 .u8) (.int .i64))))] (qR [mv 3 0,nL 4 3,fA 5 64 4,o1 6 (.sla 64 1 (T 5) none none),c2 7 277 2 6] (rR [lG 8 73 2,sT 73 2 8])))⟩
def fi276:=Fi4 276 ir276
def ir277:FI:=⟨73,[.tmp 4],(qR [mI 4 0] (.seq (qR [mv 7 0,o1 8 (.bin .eql 1 (T 7) kP)] (cI 8 (rR [mI 4 1]))) (.seq (qR [mv 9 0,nL 10 9,fA 11 72 10,lD 12 11,bC 13 .eql 12 0] (cI 13 (.reg [mv 14 0,o1 15 (.ld (some 8) (.global 5)),nL 16 14,fA 17 0 16,sT 8 17 15]))) (qR [mv 18 0,nL 19 18,fA 20 72 19,lD 21 20,bC 22 .rem 21 64,mv 5 22] (qR [mv 23 0,nL 24 23,fA 25 72 24,lD 26 25,mv 27 1,lN 28 false 27,bN 29 .add 0 26 28,nL 30 23,fA 31 72 30,sT 1 31 29] (.seq (qR [mv 32 5,bC 33 .gtr 32 0] (cI 33 (qR [mv 34 0,nL 35 34,fA 36 8 35,mv 37 5,o1 38 (.sla 64 1 (T 36) (some (T 37)) none),mv 39 1,o1 40 (.cpy 1 (T 38) (T 39)),mv 6 40] (.seq (qR [mv 41 5,mv 42 6,bN 43 .add 0 41 42,bC 44 .lss 43 64] (cI 44 (rR [mI 4 0]))) (.seq (.drw [tt (mv 45 0),tt (nL 46 45),tt (fA 47 0 46),tt (mv 48 0),tt (nL 49 48),tt (fA 50 8 49),tt (o1 51 (.sla 64 1 (T 50) none none)),ft (c2 52 292 47 51)]) (.reg [mv 53 1,mv 54 6,o1 55 (.sl (some 1) (T 53) (some (T 54)) none),mv 1 55])))))) (.seq (.blk 0 (.loop (.seq (qR [mv 56 1,lN 57 false 56,bC 58 .geq 57 64] (cE 58 0)) (.blk 1 (.seq (.drw [tt (mv 59 0),tt (nL 60 59),tt (fA 61 0 60),tt (mv 62 1),tt (o1 63 (.sl3 1 true (T 62) none (ci 64) (ci 64))),ft (c2 64 292 61 63)]) (.reg [mv 65 1,o1 66 (.sl (some 1) (T 65) (some (ci 64)) none),mv 1 66])))))) (qR [mv 67 0,nL 68 67,fA 69 8 68,o1 70 (.sla 64 1 (T 69) none none),mv 71 1,o1 72 (.cpy 1 (T 70) (T 71))] (rR [mI 4 0])))))))))⟩
def fi277:=Fi4 277 ir277
def ir278:FI:=⟨14,[.cell 4 234],(qR [bx 3 234 1,o1 4 (.arr .u8 32)] (qR [o1 5 (.sgl (.prod (.arr 8 (.int .u32)) (.prod (.arr 64 .u8) (.int .i64))))] (qR [mv 6 0,nL 7 6,fA 8 0 7,o1 9 (.sla 64 1 (T 8) none none),c2 10 277 5 9] (qR [o1 11 (.sla 32 1 (T 3) none none),c2 12 277 5 11] (rR [c1 13 279 5,sT 32 4 13])))))⟩
def fi278:=Fi4 278 ir278
def ir279:FI:=⟨41,[.cell 2 234],(qR [o1 2 (.arr .u8 32)] (.seq (qR [mv 6 0,o1 7 (.bin .eql 1 (T 6) kP),mv 8 7,vF 9 0 8,oF 10 (.nil (T 9)) 8,fF 11 72 10 8,lF 12 11 8,oF 13 (.bin .eql 0 (T 12) (ci 0)) 8,pT 14 8 13] (cI 14 (rR [cl 15 274 [kS],sT 32 2 15]))) (qR [mv 16 0,nL 17 16,fA 18 0 17,lG 19 8 18,o1 3 (.arr (.int .u32) 8),sT 8 3 19] (qR [mv 20 0,nL 21 20,fA 22 72 21,lD 23 22,bC 24 .rem 23 64,mv 4 24] (.seq (.seq (.drw [tt (mv 25 0),tt (nL 26 25),tt (fA 27 8 26),tt (mv 28 4),tt (mv 29 4),tt (o1 30 (.sla3 64 1 (T 27) none (T 28) (T 29))),tt (mv 31 0),tt (nL 32 31),tt (fA 33 72 32),tt (lD 34 33),ft (c2 35 291 30 34)]) (.blk 0 (.rf (T 35) #[36] (.reg [mv 5 36]) (.blk 1 (.reg [mv 37 5,c2 38 292 3 37]))))) (rR [lG 39 8 3,c1 40 293 39,sT 32 2 40]))))))⟩
def fi279:=Fi4 279 ir279
def ir282:FI:=⟨22,[],(qR [mI 3 0] (.blk 0 (.loop (qR [bC 4 .lss 3 256] (.seq (cE 4 0) (.seq (.blk 1 (qR [mv 5 3,mv 2 5] (.seq (.drw [tt (mv 6 0),tt (mv 7 2),tt (mv 8 2),tt (o1 9 (.ixs (.const (.string ⟨#[99,124,119,123,242,107,111,197,48,1,103,43,254,215,171,118,202,130,201,125,250,89,71,240,173,212,162,175,156,164,114,192,183,253,147,38,54,63,247,204,52,165,229,241,113,216,49,21,4,199,35,195,24,150,5,154,7,18,128,226,235,39,178,117,9,131,44,26,27,110,90,160,82,59,214,179,41,227,47,132,83,209,0,237,32,252,177,91,106,203,190,57,74,76,88,207,208,239,170,251,67,77,51,133,69,249,2,127,80,60,159,168,81,163,64,143,146,157,56,245,188,182,218,33,16,255,243,210,205,12,19,236,95,151,68,23,196,167,126,61,100,93,25,115,96,129,79,220,34,42,144,136,70,238,184,20,222,94,11,219,224,50,58,10,73,6,36,92,194,211,172,98,145,149,228,121,231,200,55,109,141,213,78,169,108,86,244,234,101,122,174,8,186,120,37,46,28,166,180,198,232,221,116,31,75,189,139,138,112,62,181,102,72,3,246,14,97,53,87,185,134,193,29,158,225,248,152,17,105,217,142,148,155,30,135,233,206,85,40,223,140,161,137,13,191,230,66,104,65,153,45,15,176,84,187,22]⟩)) (T 8))),tt (nL 10 6),tt (fA 11 0 10),tt (iZ 12 256 1 11 7),ft (sT 1 12 9)]) (.drw [tt (mv 13 0),tt (mv 14 2),tt (o1 15 (.ixs (.const (.string ⟨#[99,124,119,123,242,107,111,197,48,1,103,43,254,215,171,118,202,130,201,125,250,89,71,240,173,212,162,175,156,164,114,192,183,253,147,38,54,63,247,204,52,165,229,241,113,216,49,21,4,199,35,195,24,150,5,154,7,18,128,226,235,39,178,117,9,131,44,26,27,110,90,160,82,59,214,179,41,227,47,132,83,209,0,237,32,252,177,91,106,203,190,57,74,76,88,207,208,239,170,251,67,77,51,133,69,249,2,127,80,60,159,168,81,163,64,143,146,157,56,245,188,182,218,33,16,255,243,210,205,12,19,236,95,151,68,23,196,167,126,61,100,93,25,115,96,129,79,220,34,42,144,136,70,238,184,20,222,94,11,219,224,50,58,10,73,6,36,92,194,211,172,98,145,149,228,121,231,200,55,109,141,213,78,169,108,86,244,234,101,122,174,8,186,120,37,46,28,166,180,198,232,221,116,31,75,189,139,138,112,62,181,102,72,3,246,14,97,53,87,185,134,193,29,158,225,248,152,17,105,217,142,148,155,30,135,233,206,85,40,223,140,161,137,13,191,230,66,104,65,153,45,15,176,84,187,22]⟩)) (T 14))),tt (mv 16 2),tt (o1 17 (.toInt .u8 (T 16))),tt (nL 18 13),tt (fA 19 256 18),tt (iZ 20 256 1 19 15),ft (sT 1 20 17)])))) (iN 21 3 3)))))))⟩
def fi282:=Fi4 282 ir282
def ir283:FI:=⟨104,[],(qR [o1 11 (.bdd (.arr 176 .u8) (.arr 4) []),o1 4 (.arr .u8 176),sT 176 4 11] (qR [o1 5 (.mov (kU .u8 1))] (.seq (qR [mI 12 0] (.blk 0 (.loop (qR [bC 13 .lss 12 44] (.seq (cE 13 0) (.seq (.blk 1 (qR [mv 14 12,mv 6 14] (.seq (qR [mv 15 6,bC 16 .lss 15 4] (cI 16 (qR [mv 17 6,mv 18 1,mv 19 6,o1 20 (.bin .mul 0 (ci 4) (T 19)),mv 21 6,o1 22 (.bin .mul 0 (ci 4) (T 21)),bC 23 .add 22 4,mv 24 6,o1 25 (.bin .mul 0 (ci 4) (T 24)),bC 26 .add 25 4,o1 27 (.sl3 1 false (T 18) (some (T 20)) (T 23) (T 26)),o1 28 (.s2a 4 (T 27)),lG 29 4 28,iZ 30 44 4 4 17,sT 4 30 29] (.exit 1)))) (qR [mv 31 6,bC 32 .sub 31 1,iZ 33 44 4 4 32,lG 34 4 33,o1 7 (.arr .u8 4),sT 4 7 34] (.seq (qR [mv 35 6,bC 36 .rem 35 4,bC 37 .eql 36 0] (cI 37 (.seq (.drw [tt (mv 38 0),tt (nL 39 38),tt (fA 40 0 39),tt (o1 41 (.iaa 4 1 (T 7) (ci 1))),tt (lD 42 41),tt (mv 44 5),tt (mv 46 0),tt (nL 47 46),tt (fA 48 0 47),tt (o1 49 (.iaa 4 1 (T 7) (ci 2))),tt (lD 50 49),tt (mv 52 0),tt (nL 53 52),tt (fA 54 0 53),tt (o1 55 (.iaa 4 1 (T 7) (ci 3))),tt (lD 56 55),tt (mv 58 0),tt (nL 59 58),tt (fA 60 0 59),tt (o1 61 (.iaa 4 1 (T 7) (ci 0))),tt (lD 62 61),ft (c2 43 294 40 42),tt (bN 45 .xor 0 43 44),ft (c2 51 294 48 50),ft (c2 57 294 54 56),ft (c2 63 294 60 62),tt (o1 64 (.bld [(.int .u8 0),(.int .u8 0),(.int .u8 0),(.int .u8 0)] (.arr 1) [(0,(T 45)),(1,(T 51)),(2,(T 57)),(3,(T 63))])),ft (sT 4 7 64)]) (.reg [mv 65 5,c1 66 295 65,mv 5 66])))) (qR [mI 67 0] (.blk 2 (.loop (qR [bC 68 .lss 67 4] (.seq (cE 68 2) (.seq (.blk 3 (qR [mv 69 67,mv 8 69] (.drw [tt (mv 70 6),tt (mv 71 8),tt (mv 72 6),tt (bC 73 .sub 72 4),tt (mv 74 8),tt (iZ 75 44 4 4 73),tt (iZ 76 4 1 75 74),tt (lD 77 76),tt (mv 78 8),tt (iZ 79 4 1 7 78),tt (lD 80 79),tt (bN 81 .xor 0 77 80),tt (iZ 82 44 4 4 70),tt (iZ 83 4 1 82 71),ft (sT 1 83 81)]))) (iN 84 67 67)))))))))))) (iN 85 12 12))))))) (qR [lG 86 176 4,mI 87 0] (.blk 4 (.loop (qR [bC 88 .lss 87 44] (.seq (cE 88 4) (.seq (.blk 5 (qR [mv 89 87,o1 90 (.ixr 44 4 (T 86) (T 87)),o1 10 (.arr .u8 4),mv 9 89,sT 4 10 90] (.drw [tt (mv 91 0),tt (mv 92 9),tt (bC 93 .quo 92 4),tt (nL 94 91),tt (fA 95 512 94),tt (iZ 96 11 16 95 93),tt (mv 97 9),tt (bC 98 .rem 97 4),tt (bC 99 .mul 98 4),tt (o1 100 (.sla 16 1 (T 96) (some (T 99)) none)),tt (o1 101 (.sla 4 1 (T 10) none none)),ft (o1 102 (.cpy 1 (T 100) (T 101)))]))) (iN 103 87 87))))))))))⟩
def fi283:=Fi4 283 ir283
def ir284:FI:=⟨25,[],(qR [mI 3 0] (.blk 0 (.loop (qR [bC 4 .lss 3 16] (.seq (cE 4 0) (.seq (.blk 1 (qR [mv 5 3,mv 2 5] (.drw [tt (mv 6 0),tt (mv 7 2),tt (mv 8 0),tt (nL 9 8),tt (fA 10 0 9),tt (lD 11 10),tt (nL 12 11),tt (fA 13 0 12),tt (mv 14 0),tt (mv 15 2),tt (nL 16 14),tt (fA 17 1 16),tt (iZ 18 16 1 17 15),tt (lD 19 18),tt (nL 21 6),tt (fA 22 1 21),ft (c2 20 294 13 19),tt (iZ 23 16 1 22 7),ft (sT 1 23 20)]))) (iN 24 3 3)))))))⟩
def fi284:=Fi4 284 ir284
def ir285:FI:=⟨21,[],(qR [mv 4 0,nL 5 4,fA 6 1 5,lG 7 16 6,o1 2 (.arr .u8 16),sT 16 2 7] (qR [mI 8 0] (.blk 0 (.loop (qR [bC 9 .lss 8 16] (.seq (cE 9 0) (.seq (.blk 1 (qR [mv 10 8,mv 3 10] (.drw [tt (mv 11 0),tt (mv 12 3),tt (mv 13 3),tt (nL 17 11),tt (fA 18 1 17),ft (c1 14 288 13),tt (iZ 15 16 1 2 14),tt (lD 16 15),tt (iZ 19 16 1 18 12),ft (sT 1 19 16)]))) (iN 20 8 8))))))))⟩
def fi285:=Fi4 285 ir285
def ir286:FI:=⟨5,[],(.reg [mv 2 0,o1 3 (.bld [(.int .u8 0),(.int .u8 0),(.int .u8 0),(.int .u8 0)] (.arr 1) [(0,(kU .u8 2)),(1,(kU .u8 3)),(2,(kU .u8 1)),(3,(kU .u8 1))]),c2 4 287 2 3])⟩
def fi286:=Fi4 286 ir286
def ir287:FI:=⟨27,[],(qR [bx 3 241 1] (qR [mv 7 0,nL 8 7,fA 9 1 8,lG 10 16 9,o1 4 (.arr .u8 16),sT 16 4 10] (qR [o1 11 (.mkf 296 [] [(T 3),(T 4)]),mv 5 11] (qR [mI 12 0] (.blk 0 (.loop (qR [bC 13 .lss 12 16] (.seq (cE 13 0) (.seq (.blk 1 (qR [mv 14 12,mv 6 14] (.drw [tt (mv 15 0),tt (mv 16 6),tt (mv 17 5),tt (mv 18 6),tt (bC 19 .quo 18 4),tt (mv 20 6),tt (bC 21 .rem 20 4),tt (nL 23 15),tt (fA 24 1 23),ft (o1 22 (.call (T 17) [(T 19),(T 21)])),tt (iZ 25 16 1 24 16),ft (sT 1 25 22)]))) (iN 26 12 12))))))))))⟩
def fi287:=Fi4 287 ir287
def ir288:FI:=⟨13,[.tmp 2],(qR [mI 2 0] (rR [mv 3 0,bC 4 .quo 3 4,mv 5 0,bC 6 .rem 5 4,bN 7 .add 0 4 6,o1 8 (.bin .mul 0 (ci 4) (T 7)),mv 9 0,bC 10 .rem 9 4,bN 11 .add 0 8 10,bC 12 .rem 11 16,mv 2 12]))⟩
def fi288:=Fi4 288 ir288
def ir289:FI:=⟨11,[.tmp 4],(qR [o1 4 (.mov (kU .u8 0))] (rR [mv 5 0,mv 6 1,nL 7 5,fA 8 256 7,iZ 9 256 1 8 6,lD 10 9,mv 4 10]))⟩
def fi289:=Fi4 289 ir289
def ir290:FI:=⟨22,[],(qR [mI 5 0] (.blk 0 (.loop (qR [bC 6 .lss 5 11] (.seq (cE 6 0) (.seq (.blk 1 (qR [mv 7 5,mv 4 7] (.seq (qR [lD 8 1] (cI 8 (.reg [mv 9 4,o1 10 (.bin .sub 0 (ci 10) (T 9)),mv 4 10]))) (qR [mv 11 0,mv 12 4,lD 13 2,mv 14 4,nL 15 13,fA 16 512 15,iZ 17 11 16 16 14,lG 18 16 17,o1 19 (.call (T 11) [(T 12),(T 18)]),nT 20 19] (.cond (T 20) .ret .skip))))) (iN 21 5 5)))))))⟩
def fi290:=Fi4 290 ir290
def ir291:FI:=⟨6,[.tmp 4],(qR [bx 2 25 0,bx 3 3 1,o1 4 (.mov (.const .nilFunc))] (rR [o1 5 (.mkf 298 [] [(T 2),(T 3)]),mv 4 5]))⟩
def fi291:=Fi4 291 ir291
def ir292:FI:=⟨200,[],(qR [o1 4 (.arr (.int .u32) 64)] (.seq (qR [mI 26 0] (.blk 0 (.loop (qR [bC 27 .lss 26 16] (.seq (cE 27 0) (.seq (.blk 1 (qR [mv 28 26,mv 5 28] (qR [mv 29 1,mv 30 5,o1 31 (.bin .mul 0 (ci 4) (T 30)),mv 32 5,o1 33 (.bin .mul 0 (ci 4) (T 32)),bC 34 .add 33 4,mv 35 5,o1 36 (.bin .mul 0 (ci 4) (T 35)),bC 37 .add 36 4,o1 38 (.sl3 1 false (T 29) (some (T 31)) (T 34) (T 37)),mv 6 38] (.drw [tt (mv 39 5),tt (mv 40 6),tt (o1 41 (.ia 1 (T 40) (ci 0))),tt (lD 42 41),tt (o1 43 (.toInt .u32 (T 42))),tt (o1 44 (.bin .shl 0 (T 43) (kU .u64 24))),tt (mv 45 6),tt (o1 46 (.ia 1 (T 45) (ci 1))),tt (lD 47 46),tt (o1 48 (.toInt .u32 (T 47))),tt (o1 49 (.bin .shl 0 (T 48) (kU .u64 16))),tt (bN 50 .or 0 44 49),tt (mv 51 6),tt (o1 52 (.ia 1 (T 51) (ci 2))),tt (lD 53 52),tt (o1 54 (.toInt .u32 (T 53))),tt (o1 55 (.bin .shl 0 (T 54) (kU .u64 8))),tt (bN 56 .or 0 50 55),tt (mv 57 6),tt (o1 58 (.ia 1 (T 57) (ci 3))),tt (lD 59 58),tt (o1 60 (.toInt .u32 (T 59))),tt (bN 61 .or 0 56 60),tt (iZ 62 64 1 4 39),ft (sT 1 62 61)])))) (iN 63 26 26))))))) (.seq (qR [mI 7 16] (.blk 2 (.loop (.seq (qR [mv 64 7,bC 65 .lss 64 64] (cE 65 2)) (.seq (.blk 3 (.seq (.drw [tt (mv 68 7),tt (bC 69 .sub 68 15),tt (iZ 70 64 1 4 69),tt (lD 71 70),tt (mv 72 7),tt (bC 73 .sub 72 2),tt (iZ 74 64 1 4 73),tt (lD 75 74),tt (mv 8 71),tt (mv 9 75)]) (.drw [tt (mv 76 7),tt (mv 77 9),tt (mv 80 9),tt (o1 81 (.bin .shr 0 (T 80) (kU .u64 10))),tt (mv 83 7),tt (bC 84 .sub 83 7),tt (iZ 85 64 1 4 84),tt (lD 86 85),tt (mv 88 8),tt (mv 91 8),tt (o1 92 (.bin .shr 0 (T 91) (kU .u64 3))),tt (mv 95 7),tt (bC 96 .sub 95 16),tt (iZ 97 64 1 4 96),tt (lD 98 97),tt (o1 78 (.bsl (.int .i64) 2 1 [zi,zi] [(0,(ci 17)),(1,(ci 19))])),tt (c2 79 299 77 78),tt (bN 82 .xor 0 79 81),tt (bN 87 .add 0 82 86),ft (o1 89 (.bsl (.int .i64) 2 1 [zi,zi] [(0,(ci 7)),(1,(ci 18))])),ft (c2 90 299 88 89),tt (bN 93 .xor 0 90 92),tt (bN 94 .add 0 87 93),tt (bN 99 .add 0 94 98),tt (iZ 100 64 1 4 76),ft (sT 1 100 99)]))) (.reg [mv 66 7,aI 67 66,mv 7 67])))))) (qR [o1 10 (.mov (.func 300))] (qR [o1 11 (.mov (.func 301))] (.seq (.drw [tt (mv 101 0),tt (nL 102 101),tt (o1 103 (.iaa 8 1 (T 102) (ci 0))),tt (lD 104 103),tt (mv 105 0),tt (nL 106 105),tt (o1 107 (.iaa 8 1 (T 106) (ci 1))),tt (lD 108 107),tt (mv 109 0),tt (nL 110 109),tt (o1 111 (.iaa 8 1 (T 110) (ci 2))),tt (lD 112 111),tt (mv 113 0),tt (nL 114 113),tt (o1 115 (.iaa 8 1 (T 114) (ci 3))),tt (lD 116 115),tt (mv 117 0),tt (nL 118 117),tt (o1 119 (.iaa 8 1 (T 118) (ci 4))),tt (lD 120 119),tt (mv 121 0),tt (nL 122 121),tt (o1 123 (.iaa 8 1 (T 122) (ci 5))),tt (lD 124 123),tt (mv 125 0),tt (nL 126 125),tt (o1 127 (.iaa 8 1 (T 126) (ci 6))),tt (lD 128 127),tt (mv 129 0),tt (nL 130 129),tt (o1 131 (.iaa 8 1 (T 130) (ci 7))),tt (lD 132 131),tt (mv 12 104),tt (mv 13 108),tt (mv 14 112),tt (mv 15 116),tt (mv 16 120),tt (mv 17 124),tt (mv 18 128),tt (mv 19 132)]) (.seq (qR [o1 133 (.ld (some 64) (.global 6)),mI 134 0] (.blk 4 (.loop (qR [bC 135 .lss 134 64] (.seq (cE 135 4) (.seq (.blk 5 (qR [mv 136 134,o1 137 (.ixd 64 (T 133) (T 134)),mv 20 136,mv 21 137] (.seq (.drw [tt (mv 138 19),tt (mv 139 16),tt (mv 143 10),tt (mv 144 16),tt (mv 145 17),tt (mv 146 18),tt (mv 149 21),tt (mv 151 20),tt (iZ 152 64 1 4 151),tt (lD 153 152),ft (o1 140 (.bsl (.int .i64) 3 1 [zi,zi,zi] [(0,(ci 6)),(1,(ci 11)),(2,(ci 25))])),ft (c2 141 299 139 140),tt (bN 142 .add 0 138 141),ft (o1 147 (.call (T 143) [(T 144),(T 145),(T 146)])),tt (bN 148 .add 0 142 147),tt (bN 150 .add 0 148 149),tt (bN 154 .add 0 150 153),tt (mv 22 154)]) (qR [mv 155 12,o1 156 (.bsl (.int .i64) 3 1 [zi,zi,zi] [(0,(ci 2)),(1,(ci 13)),(2,(ci 22))]),c2 157 299 155 156,mv 158 11,mv 159 12,mv 160 13,mv 161 14,o1 162 (.call (T 158) [(T 159),(T 160),(T 161)]),bN 163 .add 0 157 162,mv 23 163] (.reg [mv 164 18,mv 165 17,mv 166 16,mv 167 15,mv 168 22,bN 169 .add 0 167 168,mv 170 14,mv 171 13,mv 172 12,mv 173 22,mv 174 23,bN 175 .add 0 173 174,mv 19 164,mv 18 165,mv 17 166,mv 16 169,mv 15 170,mv 14 171,mv 13 172,mv 12 175]))))) (iN 176 134 134))))))) (qR [mv 177 12,mv 178 13,mv 179 14,mv 180 15,mv 181 16,mv 182 17,mv 183 18,mv 184 19,o1 185 (.bdd (.arr 8 (.int .u32)) (.arr 1) [(0,(T 177)),(1,(T 178)),(2,(T 179)),(3,(T 180)),(4,(T 181)),(5,(T 182)),(6,(T 183)),(7,(T 184))]),mI 186 0] (.blk 6 (.loop (qR [bC 187 .lss 186 8] (.seq (cE 187 6) (.seq (.blk 7 (qR [mv 188 186,o1 189 (.ixd 8 (T 185) (T 186)),mv 24 188,mv 25 189] (.drw [tt (mv 190 0),tt (mv 191 24),tt (nL 192 190),tt (iZ 193 8 1 192 191),tt (lD 194 193),tt (mv 195 25),tt (bN 196 .add 0 194 195),tt (nL 197 190),tt (iZ 198 8 1 197 191),ft (sT 1 198 196)]))) (iN 199 186 186))))))))))))))⟩
def fi292:=Fi4 292 ir292
def ir293:FI:=⟨38,[.cell 2 234],(qR [bx 1 298 0,o1 2 (.arr .u8 32)] (.seq (qR [lG 5 8 1,mI 6 0] (.blk 0 (.loop (qR [bC 7 .lss 6 8] (.seq (cE 7 0) (.seq (.blk 1 (qR [mv 8 6,o1 9 (.ixd 8 (T 5) (T 6)),mv 3 8,mv 4 9] (.reg [mv 10 3,o1 11 (.bin .mul 0 (ci 4) (T 10)),mv 12 3,o1 13 (.bin .mul 0 (ci 4) (T 12)),aI 14 13,mv 15 3,o1 16 (.bin .mul 0 (ci 4) (T 15)),bC 17 .add 16 2,mv 18 3,o1 19 (.bin .mul 0 (ci 4) (T 18)),bC 20 .add 19 3,mv 21 4,o1 22 (.bin .shr 0 (T 21) (kU .u64 24)),o1 23 (.toInt .u8 (T 22)),mv 24 4,o1 25 (.bin .shr 0 (T 24) (kU .u64 16)),o1 26 (.toInt .u8 (T 25)),mv 27 4,o1 28 (.bin .shr 0 (T 27) (kU .u64 8)),o1 29 (.toInt .u8 (T 28)),mv 30 4,o1 31 (.toInt .u8 (T 30)),iZ 32 32 1 2 11,sT 1 32 23,iZ 33 32 1 2 14,sT 1 33 26,iZ 34 32 1 2 17,sT 1 34 29,iZ 35 32 1 2 20,sT 1 35 31]))) (iN 36 6 6))))))) (rR [lG 37 32 2,sT 32 2 37])))⟩
def fi293:=Fi4 293 ir293
def ir294:FI:=⟨11,[.tmp 4],(qR [o1 4 (.mov (kU .u8 0))] (rR [mv 5 0,mv 6 1,nL 7 5,fA 8 0 7,iZ 9 256 1 8 6,lD 10 9,mv 4 10]))⟩
def fi294:=Fi4 294 ir294
def ir295:FI:=⟨10,[.tmp 2],(qR [o1 2 (.mov (kU .u8 0))] (.seq (qR [mv 3 0,o1 4 (.bin .geq 0 (T 3) (kU .u8 128))] (cI 4 (rR [mv 5 0,o1 6 (.bin .shl 0 (T 5) (kU .u64 1)),o1 7 (.bin .xor 0 (T 6) (kU .u8 27)),mv 2 7]))) (rR [mv 8 0,o1 9 (.bin .shl 0 (T 8) (kU .u64 1)),mv 2 9])))⟩
def fi295:=Fi4 295 ir295
def ir296:FI:=⟨29,[.tmp 6],(qR [o1 6 (.mov (kU .u8 0))] (.seq (qR [lG 9 4 2,mI 10 0] (.blk 0 (.loop (qR [bC 11 .lss 10 4] (.seq (cE 11 0) (.seq (.blk 1 (qR [mv 12 10,o1 13 (.ixd 4 (T 9) (T 10)),mv 7 12,mv 8 13] (.reg [mv 14 6,mv 15 8,mv 16 0,o1 17 (.bin .mul 0 (ci 4) (T 16)),mv 18 1,mv 19 7,bN 20 .add 0 18 19,bC 21 .rem 20 4,bN 22 .add 0 17 21,iZ 23 16 1 3 22,lD 24 23,c2 25 297 15 24,bN 26 .xor 0 14 25,mv 6 26]))) (iN 27 10 10))))))) (rR [mv 28 6,mv 6 28])))⟩
def fi296:=Fi4 296 ir296
def ir297:FI:=⟨18,[.tmp 4],(qR [o1 4 (.mov (kU .u8 0))] (.seq (.blk 0 (.loop (.seq (qR [mv 5 0,o1 6 (.bin .neq 0 (T 5) (kU .u8 0))] (cE 6 0)) (.seq (.blk 1 (.seq (qR [mv 9 0,o1 10 (.bin .and 0 (T 9) (kU .u8 1)),o1 11 (.bin .eql 0 (T 10) (kU .u8 1))] (cI 11 (.reg [mv 12 4,mv 13 1,bN 14 .xor 0 12 13,mv 4 14]))) (.reg [mv 15 1,c1 16 295 15,mv 1 16]))) (.reg [mv 7 0,o1 8 (.bin .shr 0 (T 7) (kU .u64 1)),mv 0 8]))))) (rR [mv 17 4,mv 4 17])))⟩
def fi297:=Fi4 297 ir297
def ir298:FI:=⟨63,[],(qR [lD 8 1,mv 4 8] (.seq (.blk 0 (.loop (.seq (qR [mv 9 4,lN 10 false 9,bC 11 .geq 10 64] (cE 11 0)) (.blk 1 (.seq (qR [mv 12 0,mv 13 4,o1 14 (.sl3 1 true (T 13) none (ci 64) (ci 64)),o1 15 (.call (T 12) [(T 14)]),nT 16 15] (.cond (T 16) .ret .skip)) (.reg [mv 17 4,o1 18 (.sl (some 1) (T 17) (some (ci 64)) none),mv 4 18])))))) (qR [mI 5 64] (.seq (qR [mv 19 4,lN 20 false 19,bC 21 .add 20 9,bC 22 .gtr 21 64] (cI 22 (.reg [mI 5 128]))) (qR [mv 23 5,o1 24 (.mks .u8 1 (T 23) (T 23)),mv 6 24] (qR [mv 25 6,mv 26 4,o1 27 (.cpy 1 (T 25) (T 26))] (qR [mv 28 6,mv 29 4,lN 30 false 29,iA 31 1 28 30,o0 (.st 1 (T 31) (kU .u8 128))] (.seq (qR [mI 32 0] (.blk 2 (.loop (qR [bC 33 .lss 32 8] (.seq (cE 33 2) (.seq (.blk 3 (qR [mv 34 32,mv 7 34] (.reg [mv 35 6,mv 36 5,bC 37 .sub 36 1,mv 38 7,bN 39 .sub 0 37 38,lD 40 2,o1 41 (.toInt .u64 (T 40)),o1 42 (.bin .mul 0 (T 41) (kU .u64 8)),mv 43 7,o1 44 (.bin .mul 0 (ci 8) (T 43)),bN 45 .shr 0 42 44,o1 46 (.toInt .u8 (T 45)),iA 47 1 35 39,sT 1 47 46]))) (iN 48 32 32))))))) (qR [mv 49 0,mv 50 6,o1 51 (.sl3 1 true (T 50) none (ci 64) (ci 64)),o1 52 (.call (T 49) [(T 51)]),mv 53 52,vT 54 5 53,oT 55 (.bin .gtr 0 (T 54) (ci 64)) 53,pF 56 53 55] (cI 56 (.reg [mv 57 0,mv 58 6,mv 59 5,mv 60 5,o1 61 (.sl3 1 false (T 58) (some (ci 64)) (T 59) (T 60)),o1 62 (.call (T 57) [(T 61)])])))))))))))⟩
def fi298:=Fi4 298 ir298
def ir299:FI:=⟨21,[.tmp 4],(qR [o1 4 (.mov (kU .u32 0))] (.seq (qR [mv 7 1,lN 8 false 7,mI 9 0] (.blk 0 (.loop (qR [bN 10 .lss 0 9 8] (.seq (cE 10 0) (.seq (.blk 1 (qR [iA 11 1 7 9,lD 12 11,mv 6 12] (.reg [mv 13 4,mv 14 0,mv 15 6,o1 16 (.un .neg (T 15)),c2 17 302 14 16,bN 18 .xor 0 13 17,mv 4 18]))) (iN 19 9 9))))))) (rR [mv 20 4,mv 4 20])))⟩
def fi299:=Fi4 299 ir299
def ir300:FI:=⟨15,[.tmp 6],(qR [o1 6 (.mov (kU .u32 0))] (rR [mv 7 0,mv 8 1,bN 9 .and 0 7 8,mv 10 0,o1 11 (.un .xor (T 10)),mv 12 2,bN 13 .and 0 11 12,bN 14 .xor 0 9 13,mv 6 14]))⟩
def fi300:=Fi4 300 ir300
def ir301:FI:=⟨18,[.tmp 6],(qR [o1 6 (.mov (kU .u32 0))] (rR [mv 7 0,mv 8 1,bN 9 .and 0 7 8,mv 10 0,mv 11 2,bN 12 .and 0 10 11,bN 13 .xor 0 9 12,mv 14 1,mv 15 2,bN 16 .and 0 14 15,bN 17 .xor 0 13 16,mv 6 17]))⟩
def fi301:=Fi4 301 ir301
def ir302:FI:=⟨17,[.tmp 4],(qR [o1 4 (.mov (kU .u32 0))] (qR [mv 6 1,o1 7 (.toInt .u64 (T 6)),o1 8 (.bin .and 0 (T 7) (kU .u64 31)),mv 5 8] (rR [mv 9 0,mv 10 5,bN 11 .shl 0 9 10,mv 12 0,mv 13 5,o1 14 (.bin .sub 0 (kU .u64 32) (T 13)),bN 15 .shr 0 12 14,bN 16 .or 0 11 15,mv 4 16])))⟩
def fi302:=Fi4 302 ir302
attribute [go_sem] ir268 ir269 ir270 ir271 ir272 ir273 ir274 ir275 ir276 ir277 ir278 ir279 ir282 ir283 ir284 ir285 ir286 ir287 ir288 ir289 ir290 ir291 ir292 ir293 ir294 ir295 ir296 ir297 ir298 ir299 ir300 ir301 ir302
def mixed:Tryz.prog.follows .mixedOrders=true:=by kernel_rfl
variable {AQ:Ex->List SV->List SObj->Prop}{m:IM}{q:Prop}
def gQ[Ghost](h:q)(e:run Tryz.prog AQ 600 m=q:=by (simp (maxSteps:=3000000) only [go_sem,↓zA,↓reduceIte,↓reduceDIte];(try simp only [zB]);rfl)):SoundI Tryz.prog AQ m:=goE mixed h e
def aQ[Ghost](h:q)(e:run Tryz.prog AQ 600 m=q:=by (simp (maxSteps:=3000000) only [List.append_assoc,getA,getA0,setA,setA0,Ab,Au,go_sem,↓zA,↓reduceIte,↓reduceDIte];(try simp only [zB]);rfl)):SoundI Tryz.prog AQ m:=goaE mixed h e
variable {f:FuncId}{fi:FI}{args:List SV}{K:Out->List SObj->Prop}{H:List SObj}
def rQ(a:finfo Tryz.prog f=some fi)(h:q)(e:run Tryz.prog (retF Tryz.prog fi.results K) 600 ⟨H.length,[.ic fi.code],args++List.replicate (fi.ntmps-args.length) .any,H⟩=q:=by (simp (maxSteps:=3000000) only [go_sem,↓zA,↓reduceIte,↓reduceDIte];(try simp only [zB]);rfl)):VC Tryz.prog f args H K:=runE mixed a h e
variable {s:SV}{d:Option Tmp}
def eQ[Ghost]{a:List SV}{H0 H1:List SObj}(c:List Nat)(p:PE Tryz.prog f a H0 (.ret s) H1)(h:q)(j:args=SV.renL (sig c m.heap.length) a:=by rfl)(hnd:c.Nodup:=by decide)(ha:atH (sig c m.heap.length) m.heap c H0:=by (repeat first|exact trivial|exact rfl|refine And.intro ?_ ?_))(hb:SV.belL H0.length a=true:=by rfl)(hbh:belH H0.length H0=true:=by rfl)(e:run Tryz.prog AQ 600 {m with tmps:=putT m.tmps d (s.ren (sig c m.heap.length)),heap:=mgA (sig c m.heap.length) c H1 m.heap}=q:=by (simp only [Out.ren,SV.ren,mgA,sig,SObj.ren,SV.renL,List.set,List.map,Ad];simp (maxSteps:=3000000) only [go_sem,↓zA,↓reduceIte,↓reduceDIte];(try simp only [zB]);rfl)):CallI Tryz.prog AQ f args d m:=effE mixed c p h j hnd ha hb hbh e
def cQ[Ghost](a:PC Tryz.prog f args s)(h:q)(e:run Tryz.prog AQ 600 {m with tmps:=putT m.tmps d s}=q:=by (simp (maxSteps:=3000000) only [go_sem,↓zA,↓reduceIte,↓reduceDIte];(try simp only [zB]);rfl)):CallI Tryz.prog AQ f args d m:=q0b a (goE mixed h e)
def cR[Ghost]{G:List Nat}(a:PC Tryz.prog f args s)(h:q)(e:run Tryz.prog AQ 600 {m with tmps:=putT m.tmps d s}=q:=by (simp (maxSteps:=3000000) only [go_sem,↓zA,↓reduceIte,↓reduceDIte];(try simp only [zB]);rfl)):CallR Tryz.prog AQ G f args d m:=q0g a (goE mixed h e)
def uQ[Ghost](n:Nat)(m:IM)(h:run Tryz.prog AQ n m):SoundI Tryz.prog AQ m:=q0o mixed n m h
variable {a0:Prop}
def gy1[Ghost](w0:a0)(h:q)(e:a0->run Tryz.prog AQ 600 m=q:=by (intro w0;simp (maxSteps:=3000000) only [w0,go_sem,↓zA,↓reduceIte,↓reduceDIte];(try simp only [zB]);rfl)):SoundI Tryz.prog AQ m:=q0o mixed 600 m (Eq.mpr (e w0) h)
def cy1[Ghost](a:PC Tryz.prog f args s)(w0:a0)(h:q)(e:a0->run Tryz.prog AQ 600 {m with tmps:=putT m.tmps d s}=q:=by (intro w0;simp (maxSteps:=3000000) only [w0,go_sem,↓zA,↓reduceIte,↓reduceDIte];(try simp only [zB]);rfl)):CallI Tryz.prog AQ f args d m:=q0b a (q0o mixed 600 _ (Eq.mpr (e w0) h))
def ry1(a:finfo Tryz.prog f=some fi)(w0:a0)(h:q)(e:a0->run Tryz.prog (retF Tryz.prog fi.results K) 600 ⟨H.length,[.ic fi.code],args++List.replicate (fi.ntmps-args.length) .any,H⟩=q:=by (intro w0;simp (maxSteps:=3000000) only [w0,go_sem,↓zA,↓reduceIte,↓reduceDIte];(try simp only [zB]);rfl)):VC Tryz.prog f args H K:=q1Q a (q0o mixed 600 _ (Eq.mpr (e w0) h))
theorem sya1{p:Prop}(w0:a0)(h:q)(e:a0->p=q:=by (intro w0;simp (maxSteps:=3000000) only [w0,List.append_assoc,getA,getA0,setA,setA0,Ab,Au,go_sem,↓zA,↓reduceIte,↓reduceDIte];(try simp only [zB]);rfl)):p:=Eq.mpr (e w0) h
variable {a1:Prop}
theorem sy2{p:Prop}(w0:a0)(a:a1)(h:q)(e:a0->a1->p=q:=by (intro w0 a;simp (maxSteps:=3000000) only [w0,a,go_sem,↓zA,↓reduceIte,↓reduceDIte];(try simp only [zB]);rfl)):p:=Eq.mpr (e w0 a) h
def gy2[Ghost](w0:a0)(a:a1)(h:q)(e:a0->a1->run Tryz.prog AQ 600 m=q:=by (intro w0 a;simp (maxSteps:=3000000) only [w0,a,go_sem,↓zA,↓reduceIte,↓reduceDIte];(try simp only [zB]);rfl)):SoundI Tryz.prog AQ m:=q0o mixed 600 m (Eq.mpr (e w0 a) h)
def ry2(c:finfo Tryz.prog f=some fi)(w0:a0)(a:a1)(h:q)(e:a0->a1->run Tryz.prog (retF Tryz.prog fi.results K) 600 ⟨H.length,[.ic fi.code],args++List.replicate (fi.ntmps-args.length) .any,H⟩=q:=by (intro w0 a;simp (maxSteps:=3000000) only [w0,a,go_sem,↓zA,↓reduceIte,↓reduceDIte];(try simp only [zB]);rfl)):VC Tryz.prog f args H K:=q1Q c (q0o mixed 600 _ (Eq.mpr (e w0 a) h))
def gya2[Ghost](w0:a0)(a:a1)(h:q)(e:a0->a1->run Tryz.prog AQ 600 m=q:=by (intro w0 a;simp (maxSteps:=3000000) only [w0,a,List.append_assoc,getA,getA0,setA,setA0,Ab,Au,go_sem,↓zA,↓reduceIte,↓reduceDIte];(try simp only [zB]);rfl)):SoundI Tryz.prog AQ m:=q0o mixed 600 m (Eq.mpr (e w0 a) h)
variable {a2:Prop}
def gy3[Ghost](w0:a0)(a:a1)(c:a2)(h:q)(e:a0->a1->a2->run Tryz.prog AQ 600 m=q:=by (intro w0 a c;simp (maxSteps:=3000000) only [w0,a,c,go_sem,↓zA,↓reduceIte,↓reduceDIte];(try simp only [zB]);rfl)):SoundI Tryz.prog AQ m:=q0o mixed 600 m (Eq.mpr (e w0 a c) h)
def gyd3[Ghost](w0:a0)(a:a1)(c:a2)(h:q)(e:a0->a1->a2->run Tryz.prog AQ 600 m=q:=by (intro w0 a c;simp (maxSteps:=3000000) only [w0,a,c,Ty.dflt,go_sem,↓zA,↓reduceIte,↓reduceDIte];(try simp only [zB]);rfl)):SoundI Tryz.prog AQ m:=q0o mixed 600 m (Eq.mpr (e w0 a c) h)
def cyd3[Ghost](j:PC Tryz.prog f args s)(w0:a0)(a:a1)(c:a2)(h:q)(e:a0->a1->a2->run Tryz.prog AQ 600 {m with tmps:=putT m.tmps d s}=q:=by (intro w0 a c;simp (maxSteps:=3000000) only [w0,a,c,Ty.dflt,go_sem,↓zA,↓reduceIte,↓reduceDIte];(try simp only [zB]);rfl)):CallI Tryz.prog AQ f args d m:=q0b j (q0o mixed 600 _ (Eq.mpr (e w0 a c) h))
variable {a3:Prop}
def gy4[Ghost](w0:a0)(a:a1)(c:a2)(j:a3)(h:q)(e:a0->a1->a2->a3->run Tryz.prog AQ 600 m=q:=by (intro w0 a c j;simp (maxSteps:=3000000) only [w0,a,c,j,go_sem,↓zA,↓reduceIte,↓reduceDIte];(try simp only [zB]);rfl)):SoundI Tryz.prog AQ m:=q0o mixed 600 m (Eq.mpr (e w0 a c j) h)
def cy4[Ghost](p:PC Tryz.prog f args s)(w0:a0)(a:a1)(c:a2)(j:a3)(h:q)(e:a0->a1->a2->a3->run Tryz.prog AQ 600 {m with tmps:=putT m.tmps d s}=q:=by (intro w0 a c j;simp (maxSteps:=3000000) only [w0,a,c,j,go_sem,↓zA,↓reduceIte,↓reduceDIte];(try simp only [zB]);rfl)):CallI Tryz.prog AQ f args d m:=q0b p (q0o mixed 600 _ (Eq.mpr (e w0 a c j) h))
def gyd4[Ghost](w0:a0)(a:a1)(c:a2)(j:a3)(h:q)(e:a0->a1->a2->a3->run Tryz.prog AQ 600 m=q:=by (intro w0 a c j;simp (maxSteps:=3000000) only [w0,a,c,j,Ty.dflt,go_sem,↓zA,↓reduceIte,↓reduceDIte];(try simp only [zB]);rfl)):SoundI Tryz.prog AQ m:=q0o mixed 600 m (Eq.mpr (e w0 a c j) h)
def ry5{r:Prop}(x:finfo Tryz.prog f=some fi)(w0:a0)(c:a1)(p:a2)(j:a3)(a:r)(h:q)(e:a0->a1->a2->a3->r->run Tryz.prog (retF Tryz.prog fi.results K) 600 ⟨H.length,[.ic fi.code],args++List.replicate (fi.ntmps-args.length) .any,H⟩=q:=by (intro w0 c p j a;simp (maxSteps:=3000000) only [w0,c,p,j,a,go_sem,↓zA,↓reduceIte,↓reduceDIte];(try simp only [zB]);rfl)):VC Tryz.prog f args H K:=q1Q x (q0o mixed 600 _ (Eq.mpr (e w0 c p j a) h))
theorem sy6{y z p:Prop}(w0:a0)(c:a1)(r:a2)(j:a3)(a:y)(x:z)(h:q)(e:a0->a1->a2->a3->y->z->p=q:=by (intro w0 c r j a x;simp (maxSteps:=3000000) only [w0,c,r,j,a,x,go_sem,↓zA,↓reduceIte,↓reduceDIte];(try simp only [zB]);rfl)):p:=Eq.mpr (e w0 c r j a x) h
def gy8[Ghost]{z F G A:Prop}(w0:a0)(c:a1)(p:a2)(j:a3)(a:z)(x:F)(r:G)(y:A)(h:q)(e:a0->a1->a2->a3->z->F->G->A->run Tryz.prog AQ 600 m=q:=by (intro w0 c p j a x r y;simp (maxSteps:=3000000) only [w0,c,p,j,a,x,r,y,go_sem,↓zA,↓reduceIte,↓reduceDIte];(try simp only [zB]);rfl)):SoundI Tryz.prog AQ m:=q0o mixed 600 m (Eq.mpr (e w0 c p j a x r y) h)
def gyd10[Ghost]{F N O I G L:Prop}(w0:a0)(c:a1)(x:a2)(p:a3)(a:F)(z:N)(y:O)(A:I)(j:G)(r:L)(h:q)(e:a0->a1->a2->a3->F->N->O->I->G->L->run Tryz.prog AQ 600 m=q:=by (intro w0 c x p a z y A j r;simp (maxSteps:=3000000) only [w0,c,x,p,a,z,y,A,j,r,Ty.dflt,go_sem,↓zA,↓reduceIte,↓reduceDIte];(try simp only [zB]);rfl)):SoundI Tryz.prog AQ m:=q0o mixed 600 m (Eq.mpr (e w0 c x p a z y A j r) h)
abbrev I64:Ty:=.int .i64
abbrev PrinT:Ty:=.prod (.slice .str) .str
abbrev KeyT:Ty:=.prod I64 (.prod I64 (.slice .u8))
abbrev SetT:Ty:=.prod I64 (.prod (.slice KeyT) (.prod .str (.prod I64 I64)))
abbrev Prin:=PrinT.den
abbrev Key:=KeyT.den
abbrev KSet:=SetT.den
abbrev rI(n:Int):SV:=.raw (.int .i64 n)
abbrev rB(b:Bool):SV:=.raw (.bool b)
abbrev rS(s:ByteArray):SV:=.raw (.string s)
set_option maxHeartbeats 4000000
def allN(n:Nat)(q:Nat->Bool):Bool:=(List.range n).all q
variable {n:Nat}{q:Nat->Bool}
theorem q2I:allN n q=true ↔ ∀j,j<n->q j=true:=by simp [allN]
theorem q0C{i:Nat}(h:i<n)(hq:q i=false):allN n q=false:=by rw [Bool.eq_false_iff];grind [q2I]
theorem q0E(h:∀j,j<n->q j=true):allN n q=true:=q2I.2 h
@[go_sem] def fnV(f:Nat):Value:=.func (.func f) #[] #[]
def name1:ByteArray:=⟨#[97,101,115,49,50,56,45,99,116,115,45,104,109,97,99,45,115,104,97,50,53,54,45,49,50,56]⟩
def name2:ByteArray:=⟨#[115,116,114,101,97,109,45,104,109,97,99,45,115,104,97,50,53,54,45,50,53,54]⟩
def kind1:List Value:=[.string name1,.int .i64 16,.int .i64 16,.int .i64 16,.int .i64 16,fnV 206,fnV 207,fnV 208]
attribute [go_sem] kind1
def kind2:List Value:=[.string name2,.int .i64 32,.int .i64 16,.int .i64 32,.int .i64 32,fnV 209,fnV 210,fnV 211]
attribute [go_sem] kind2
abbrev kindsM:SV:=.imap (some .i64) [.int .i64 1,.int .i64 2] [.agg kind1.toArray,.agg kind2.toArray]

theorem j5E:PC Tryz.prog 180 [] kindsM:=by refine q0s rfl rfl (j4Y ?_);refine rQ fi180 ?_;exact ⟨_,_,[.agg kind1.toArray,.agg kind2.toArray],[],rfl,rfl⟩

def keyLen(p:Int):Int:=if p=1 then 16 else if p=2 then 32 else 0
def kindZ:List Value:=[.string ⟨#[]⟩,.int .i64 0,.int .i64 0,.int .i64 0,.int .i64 0,.nilFunc,.nilFunc,.nilFunc]
attribute [go_sem] kindZ
def kindOf(p:Int):List Value:=if p=1 then kind1 else if p=2 then kind2 else kindZ
def vKey(k:Key):Bool:=decide (keyLen k.1≠0) && (decide ((k.2.2.length:Int)=keyLen k.1) && (decide (0<=k.2.1) && decide (k.2.1<=65535)))
theorem j2X(k:Key):PC Tryz.prog 118 [.agg (KeyT.cells k)] (.tup [.agg (rawL (kindOf k.1)),rB (vKey k)]):=by
 obtain ⟨p,v,b⟩:=k;refine q0s rfl (by simp [SV.clean,SV.cleanL,q4w]) ?_;refine rQ fi118 ?_;refine q0n j5E ?_;by_cases a:p=1
 . subst a;refine uQ 600 _ ?_;simp (maxSteps:=3000000) only [kind1,kindOf,vKey,keyLen,go_sem,↓zA,↓reduceIte,↓reduceDIte] <;>try simp only [zB]
   grind
 by_cases c:p=2
 . subst c;refine uQ 600 _ ?_;simp (maxSteps:=3000000) only [kind2,kindOf,vKey,keyLen,go_sem,↓zA,↓reduceIte,↓reduceDIte] <;>try simp only [zB]
   grind
 refine uQ 600 _ ?_;simp (maxSteps:=3000000) only [a,c,kindOf,kindZ,vKey,keyLen,go_sem,↓zA,↓reduceIte,↓reduceDIte] <;>try simp only [zB]
 grind
end Go.Proofs.YthbcodbcndiapaaGreatDoor
namespace Go.Sx
section
open Go
variable [Ghost] {P:Program} {AQ:Ex->List SV->List SObj->Prop} {k0:Nat} {k:List IT} {t:List SV} {H:List SObj}

structure Cln (cs:List SV):Prop where
 ren:∀σ,SV.renL σ cs=cs
 bel:∀n,SV.belL n cs=true
 shut:∀n H,SV.sealBL n H cs=some (cs,True)
 le:SV.leAL cs cs
def z5C{n:Nat}{l:List SObj}:sealHL n H l []=True:=by simp [sealHL]
def z3a{n:Nat}{o:SObj}{l a:List SObj}:sealHL n H (o :: l) (.dead :: a)=(o.unmarked/\sealHL n H l a):=by simp [sealHL]
attribute [go_sem] z5C z3a
end
section
open Go
variable [Ghost] {P:Program} {AQ:Ex->List SV->List SObj->Prop} {k0:Nat} {k:List IT} {t:List SV} {H:List SObj}

def afterR(P:Program)(AQ:Ex->List SV->List SObj->Prop)(d:Option Tmp)(m:IM):Out->List SObj->Prop
 |.ret s,H'=>SoundI P AQ {m with tmps:=putT m.tmps d s,heap:=H'}
 |.pan s,H'=>AQ (.pan s) [] H'
def q0q{G:List Nat}{f:FuncId}{args a:List SV}{H0 H1:List SObj}{o:Out}{d:Option Tmp}{m:IM}(c:List Nat)(r:PE P f a H0 o H1)(e:args=SV.renL (sig c m.heap.length) a)(p:c.Nodup)
 (x:atH (sig c m.heap.length) m.heap c H0)(y:SV.belL H0.length a=true)(j:belH H0.length H0=true)(z:SameG G m.heap (mgA (sig c m.heap.length) c H1 m.heap))
 (h:afterR P AQ d m (o.ren (sig c m.heap.length)) (mgA (sig c m.heap.length) c H1 m.heap)):CallR P AQ G f args d m:=by
 subst e;refine ⟨r.1,VCall.g (VCall.fr c p x y j r.2 ?_)⟩;rintro o' H' _ ⟨rfl,rfl⟩;cases o' with
 |ret s=>exact ⟨λ_=>z,h⟩
 |pan s=>exact h

variable {cs:List SV}
theorem z1V{C:Cx}{h:Nat}{T:TypeId}{cs':List SV}(A:Wd C H)(G:H[h]?=some (.cells T cs))(O:∀vs,SV.denL C cs vs->SV.denL C cs' vs):Wd C (H.set h (.cells T cs'))/\Ext ⟨C,H⟩ C (H.set h (.cells T cs')):=by
 have c:∀ {i y},(H.set h (.cells T cs'))[i]?=some y->∃x,H[i]?=some x/\x.live=y.live/\(i≠h->x=y):=λ{i y} a=>by
  by_cases e:i=h
  . subst e;rw [Bd (Am.1 G).1] at a;cases a;exact ⟨_,G,rfl,λV=>absurd rfl V⟩
  grind
 have p:∀b,OwnB C (H.set h (.cells T cs')) b->OwnB C H b:=λb ⟨i,y,a,U,r⟩=>by obtain ⟨x,F,I,_⟩:=c a;exact ⟨i,x,F,by simp_all,r⟩
 refine ⟨⟨by rw [A9];exact A.n,λi y a=> ?_,λb r=>A.own b (p b r),λi j y z b a R U hl' r N=> ?_,A.imm⟩,⟨Evo.refl _,Ac _,rfl,rfl,rfl,λ_ _ _=>rfl,λ_ h=>.inl h,λb r=>.inr (p b r),λ_ _ W=>q3M G rfl W⟩⟩
 . by_cases e:i=h
   . subst e;rw [Bd (Am.1 G).1] at a;cases a;obtain ⟨b,vs,F,I,L⟩:=A.obj i _ G;exact ⟨b,vs,F,I,O vs L⟩
   rw [AJ (Ne.symm e)] at a;exact A.obj i y a
 obtain ⟨x,F,I,_⟩:=c a;obtain ⟨Q,L,h4,_⟩:=c R;exact A.inj i j x Q b F L (by simp_all) (by simp_all) r N
theorem q9U{k:List It}{z:List SV}(h off:Nat)(ty:Ty){T:TypeId}(I:H[h]?=some (.cells T cs))(Q:cs[off]?=some (.raw (.slice none 0 0)))(O:Sound P AQ ⟨k0,k,z,(H.set h (.cells T (cs.set off (.bld H.length ty 0))))++ [.row ty []]⟩):Sound P AQ ⟨k0,k,z,H⟩:=by
 intro E r n C a L j;obtain ⟨C',hw,G,p,N⟩:=z2h (t:=ty) j.wd;have x:(H++ [SObj.row ty []])[h]?=some (.cells T cs):=by grind
 obtain ⟨F,y⟩:=z1V (cs':=cs.set off (.bld H.length ty 0)) G x (λvs A=>by
  obtain ⟨v,hv',c⟩:=q1v A Q;rw [SV.den] at c;subst c;have:=q1u (i:=off) A N;have he:vs.set off (.slice none 0 0)=vs:=by apply AE;grind
  simp_all)
 have e:(H++ [SObj.row ty []]).set h (.cells T (cs.set off (.bld H.length ty 0)))=H.set h (.cells T (cs.set off (.bld H.length ty 0)))++ [.row ty []]:=List.set_append_left _ _ (Am.1 I).1;rw [e] at F y;have:=O E r n C' a L ⟨F,j.ext.trans (p.trans y),DefOk.next (p.trans y) j.defs,q0f p.evo j.tmps⟩
 simp_all
def q3Z(h off:Nat)(ty:Ty){T:TypeId}{td:List IT}(hp:plainT td=true)(hH:H[h]?=some (.cells T cs))(hi:cs[off]?=some (.raw (.slice none 0 0)))(hs:SoundI P AQ ⟨k0,td,t,(H.set h (.cells T (cs.set off (.bld H.length ty 0))))++ [.row ty []]⟩):SoundI P AQ ⟨k0,td,t,H⟩:=
 q0d (λ_ hr=>q9U h off ty hH hi (q0e hs hr)) hp
theorem rnE{p q:Prop}(h:q)(e:p=q:=by (simp only [afterR,Out.ren,SV.ren,mgA,sig,SObj.ren,SV.renL,Ay,Ar,List.append_assoc,A0,AY,List.set,List.map,Ad];rfl)):p:=Eq.mpr e h
end
section
open Go
variable [Ghost] {P:Program} {AQ:Ex->List SV->List SObj->Prop} {k0:Nat} {k:List IT} {t:List SV} {H:List SObj}

theorem z0r{k:List It}(A A' G:List SObj){ty:Ty}{xs:List ty.den}(Q:k0<=A.length)(W:A=A'.map (SObj.ren (shift A.length (A.length+G.length))))(V:belH (A.length+1) A'=true)(hbt:SV.belL (A.length+1) t=true)
 (Y:leT (shift A.length (A.length+G.length)) t t)(Z:Sound P AQ ⟨k0,k,t,A'++ [.row ty xs]⟩):Sound P AQ ⟨k0,k,t,A++G++ [.row ty xs]⟩:=by
 intro E r n C a I R;have c:A.length=A'.length:=by grind
 have N:∀h,h<A.length->shift A.length (A.length+G.length) h=h:=λh p=>by unfold shift;grind
 have y:shift A.length (A.length+G.length) A.length=A.length+G.length:=by unfold shift;grind
 have O:Den E (C.ren (shift A.length (A.length+G.length)) (A'++ [SObj.row ty xs]).length) t (A'++ [.row ty xs]) a:=by
  refine q7y I.1 R Y (by grind) (λh o j _=> ?_) (q4A λh o j=> ?_) (λh h' o o' j ho' _ _ e=> ?_) (λh p=>N h (Aj p Q)) (by grind) (λm L F=> ?_)
  . rcases q0j j with ⟨p,j⟩ | ⟨p,rfl⟩
    . grind
    rw [p,<-c,y,<-Ab,AI (Ac _),Nat.sub_self];rfl
  . rcases q0j j with ⟨p,j⟩ | ⟨p,rfl⟩
    . rw [Ab,<-c];exact q2F V j
    rfl
  . grind
  have F:=F;have x:0<A.length:=Aj L (Ao I.1 Q);rw [List.append_assoc,As x] at F;rw [As (by omega)];have z:=congrArg (λl=>l[0]?) W;simp only [AF,F] at z;cases U:A'[0]? with
  |none=>grind
  |some o=>rw [U] at z;cases o<;>simp [SObj.ren] at z;rw [z]
 exact Z E r n (C.ren (shift A.length (A.length+G.length)) (A'++ [SObj.row ty xs]).length) a I O
theorem z5h(A A' G:List SObj){ty:Ty}{xs:List ty.den}{td:List IT}(hp:plainT td=true)(hH:H=A++G++ [.row ty xs])(hk:k0<=A.length)(hA:A=A'.map (SObj.ren (shift A.length (A.length+G.length))))(hb:belH (A.length+1) A'=true)(hbt:SV.belL (A.length+1) t=true)
 (hl:leT (shift A.length (A.length+G.length)) t t)(hs:SoundI P AQ ⟨k0,td,t,A'++ [.row ty xs]⟩):SoundI P AQ ⟨k0,td,t,H⟩:=by
 grind [q0d,z0r,q0e]
end
open Go
variable {P:Program} {AQ:Ex->List SV->List SObj->Prop} {k0:Nat} {k:List IT} {t:List SV} {H:List SObj}

def CutQ(P:Program)(AQ:Ex->List SV->List SObj->Prop)(k0:Nat)(k:List IT)(T0:List SV):Ex->List SV->List SObj->Prop
 |.normal,t,H=>SoundI P AQ ⟨k0,k,t,H⟩
 |.pan s,_,H=>AQ (.pan s) T0 H
 |_,_,_=>False
def z9d{T0:List SV}(h:SoundI P AQ ⟨k0,k,t,H⟩):CutQ P AQ k0 k T0 .normal t H:=h
variable {s:SV}
def z4e{T0 t':List SV}(h:AQ (.pan s) T0 H):CutQ P AQ k0 k T0 (.pan s) t' H:=h
def SameBut(ws:List Nat)(t t':List SV):Prop:=t'.length=t.length/\∀i,i ∉ ws->t'[i]?=t[i]?
theorem SameBut.put{ws:List Nat}{t t':List SV}(h:SameBut ws t t'){d:Option Tmp}(j:∀e,d=some e->e∈ws)(s:SV):SameBut ws t (putT t' d s):=by
 cases d with
 |none=>exact h
 |some e=>exact ⟨by simp [putT,h.1],λi c=>by
  have a:e≠i:=λp=>c (p▸j e rfl);simp only [putT];rw [AJ a]
  exact h.2 i c⟩
def q6W:∀ (ws:List Nat) (t:List SV),(maskT ws t).length=t.length
 | [],t=>rfl
 |d :: ws,t=>by show (maskT ws (t.set d .any)).length=_;rw [q6W ws,A9]
theorem q9w:∀ (ws:List Nat) (t:List SV) (i:Nat) (s:SV),(maskT ws t)[i]?=some s->s= .any\/(i ∉ ws/\t[i]?=some s)
 | [],t,i,s,h=>.inr ⟨by simp,h⟩
 |d :: ws,t,i,s,h=>by have a:(maskT ws (t.set d .any))[i]?=some s:=h;rcases q9w ws _ i s a with rfl| ⟨h1,h2⟩;all_goals grind
theorem z3l:∀ {l a:List SV},l.length=a.length->(∀ (i:Nat) s s',l[i]?=some s->a[i]?=some s'->s'= .any\/s'=s)->leL l a
 | [],[],_,_=>trivial
 | [],_ :: _,h,_=>by simp at h
 |_ :: _,[],h,_=>by simp at h
 |s :: l,s' :: a,h,hp=>by refine ⟨?_,z3l (by simpa using h) λi x x' hx hx'=>hp (i+1) x x' (by grind) (by simp_all)⟩;rcases hp 0 s s' rfl rfl with rfl|rfl;all_goals grind [SV.le_any,SV.le_refl]
theorem SameBut.le{ws:List Nat}{t t':List SV}(h:SameBut ws t t'):leL t' (maskT ws t):=
 z3l (by rw [q6W,h.1]) λi s e c a=>by
  rcases q9w ws t i e a with rfl| ⟨p,j⟩
  . grind
  right;rw [h.2 i p,j] at c;cases c;rfl
theorem j0I{k:List It}{all:Array Oper}{G:List Nat}{Y:List IT}{ws:List Nat}{S:Array Bool}{W:List SV}(hr:RelT P Y k)(hS:Region.ready .any all S= [])(hW:∀ (i:Nat) o,all[i]?=some o->S.getD i false=true->∀d,o.dst=some d->d∈ws):
 ∀ (p:Nat) (c:Array Bool) (t:List SV) (H:List SObj),SameBut ws W t->c.size=S.size->(∀j,c.getD j false=true->S.getD j false=true)->AnyV P (CutQ P AQ k0 Y (maskT ws W)) k0 [] all G p c t H->
  ∀ (E:EnD) (r:Option Nat) (n:Nat) (C:Cx) (a:Act),Fit E r k0->Den E C t H a->wpAnyIn (Fw r) n P .any all (afterT (Fw r) n P E (conc E AQ) k) p c a C.w:=by
 have A:∀ {t:List SV} {H:List SObj},Sound P (CutQ P AQ k0 Y (maskT ws W)) ⟨k0,[],t,H⟩->∀ (E:EnD) (r:Option Nat) (n:Nat) (C:Cx) (a:Act),Fit E r k0->Den E C t H a->wpT (Fw r) n P E (conc E AQ) k a C.w:=by intro t H h E r n C a F y;have V:=h E r n C a F y;simp only [wpT] at V;obtain ⟨C',t',H',h2,h3,h4⟩:=V;rw [<-h3];exact q0e (h2:SoundI P AQ ⟨k0,Y,t',H'⟩) hr E r n C' a F h4
 intro p;induction p with
 |zero=>exact λc t H _ _ _ h E r n C a F y=>⟨h.1,A h.2 E r n C a F y⟩
 |succ p ih=>
  intro c t H hb hsz R h E r n C a F y;refine ⟨λh9=>A (h.1 h9) E r n C a F y,λi hi=> ?_⟩;obtain ⟨o,ho,V⟩:=h.2 i hi;obtain ⟨hun,o',ab,Q⟩:=mem_ready.1 hi;have hlt:i<S.size:=by grind
  have Z:S.getD i false=true:=by
   cases hq:S.getD i false with
   |true=>rfl
   |false=>
    have:i∈Region.ready .any all S:=mem_ready.2 ⟨by simp_all,o',ab,λe he ac=>R _ (Q e he ac)⟩
    simp_all
  have U:∀d,o.dst=some d->d∈ws:=hW i o ho Z;have z:∀j,(c.setIfInBounds i true).getD j false=true->S.getD j false=true:=λj hj=>by by_cases e:i=j;all_goals simp_all
  have I:(c.setIfInBounds i true).size=S.size:=by simp_all
  unfold wpOpIn;simp only [ho];rcases V with ⟨hw,aa⟩ | ⟨hw,N⟩
  . rw [if_pos (q2l y.tmps hw)];refine aa E C r n a _ _ y.wd y.defs.2 (λx _=>q2f y.tmps x) ?_ ?_
    . intro s v H' C' N L O hs;exact ih _ _ _ (hb.put U s) I z N.2 E r n C' _ F (q3V y L O hs)
    intro s v H' C' N L O hs;exact ⟨C',maskT ws W,H',s,v,N,rfl,hs,rfl,L,O.ext y.ext,(DefOk.stp O y.defs).fin,.inr (q2p hb.le (q0f O.evo y.tmps))⟩
  rw [if_neg (by rw [q2l y.tmps hw];simp)];exact ⟨λf _=>q4g r f,ih _ _ _ (hb.put U _) I z N.2 E r n C _ F (q3V y y.wd (.of (Ext.refl _ _)) (by rfl))⟩
theorem z1q{all:Array Oper}:∀ (c:Nat) (a:Array Bool) (l:List (Bool×OpI)),planL P all c a=some l->
 ∃S:Array Bool,Region.ready .any all S= []/\S.size=a.size/\(∀j,a.getD j false=true->S.getD j false=true)/\∀i,S.getD i false=true->a.getD i false=true\/∃o,all[i]?=some o/\∀d,o.dst=some d->d∈IC.wr (.drw l)
 |0,a,l,h=>by unfold planL at h;grind
 |n+1,a,l,h=>by
  unfold planL at h;split at h
  . grind
  split at h
  . rename_i i fl hch;split at h
    . rename_i o y;split at h
      . rename_i io p;split at h
        . rename_i A x;split at h
          . cases h;obtain ⟨S,F,h2,G,z⟩:=z1q n _ A x;refine ⟨S,F,by grind,λj r=>G j (getD_set_true r),λj r=> ?_⟩;rcases z j r with q| ⟨o',q1,q2⟩
            . by_cases e:i=j
              . subst e;refine .inr ⟨o,y,λd hd=> ?_⟩;have hio:=(q0D p).2;grind [IC.wr,OpI.wr]
              simp_all
            grind [IC.wr]
          cases h
        cases h
      cases h
    cases h
  cases h
theorem z3f{l:List (Bool×OpI)}(G:List Nat)(y:P.follows .mixedOrders=true)(h:SoundI P (CutQ P AQ k0 k (maskT (IC.wr (.drw l)) t)) ⟨k0,[.dops G l],t,H⟩):SoundI P AQ ⟨k0,.ic (.drw l) :: k,t,H⟩:=q0d (λtd' p=>by
 obtain ⟨c',r,rfl,N,p⟩:=p;obtain ⟨id,all,rfl,x⟩:=q0G N;obtain ⟨S,F,A,L,h4⟩:=z1q _ _ _ x;intro E z n C a I c;simp only [wpT];have e:Den E C.drew t H a:=⟨q2e c.wd,c.ext.trans (q1r C H),DefOk.next (q1r C H) c.defs,q0f (q1U C) c.tmps⟩
 have hno:∀j,(Array.replicate all.size false).getD j false=true->False:=λj hj=>by rcases A8 j all.size with q|q;all_goals simp_all
 refine wpIn_region_any y (j0I p F (λi o ho hi d c=> ?_) _ _ _ _ ⟨rfl,λ_ _=>rfl⟩ A.symm L (h all _ _ [] x rfl) E z n C.drew a I e)
 grind) rfl

def ZInv(q:Nat->Prop)(w0:World)(C:Cx)(H:List SObj):Prop:=∀b,q b->b<C.w.heap.size/\¬C.I b/\¬OwnB C H b/\C.w.heap[b]?=w0.heap[b]?

variable {E:En}{C:Cx}{b:Nat}
theorem z2q(a:Ext E C H)(c:b<E.C.w.heap.size)(h2:¬E.C.I b)(h:¬OwnB E.C E.H b):b<C.w.heap.size/\¬C.I b/\¬OwnB C H b/\C.w.heap[b]?=E.C.w.heap[b]?:=by
 refine ⟨Aj c a.size,λj=> ?_,λe=> ?_,a.frame b c h⟩
 . rcases a.immNew b j with g| ⟨g|g,_⟩;all_goals grind
 rcases a.ownNew b e with g|g;all_goals grind

@[reducible] def frzG(q:Nat->Prop)(w0:World):Ghost where
 inv0:=λ_ C H=>ZInv q w0 C H
 fin:=λE _ _ ds=>ds=E.base/\True
 toFin0:=λ_ _=>⟨rfl,trivial⟩
 next0:=λhx h b hb=>by
  obtain ⟨h1,h2,h3,h4⟩:=h b hb;obtain ⟨g1,g2,g3,g4⟩:=z2q hx h1 h2 h3
  simp_all
 same0:=λ_ e _ hi ho _ _ h b hb=>by obtain ⟨h1,h2,h3,h4⟩:=h b hb;grind

def simV(u v:Value):Prop:=v=u\/(∃k n m,u= .int k n/\v= .int k m)\/∃s s',u= .string s/\v= .string s'/\s'.size<=140737488355328
def simB(o o':Option Obj):Prop:=o'=o\/∃ (vs vs':List Value) (T:TypeId) (fz:Nat×Nat),o=some (.cells vs.toArray T fz)/\o'=some (.cells vs'.toArray T fz)/\vs'.length=vs.length/\∀ (i:Nat) u v,vs[i]?=some u->vs'[i]?=some v->simV u v
theorem simV.trans{u v w:Value}(h:simV u v)(k:simV v w):simV u w:=by
 rcases h with rfl| ⟨k',n,m,rfl,rfl⟩ | ⟨s,c,rfl,rfl,a⟩
 . exact k
 . rcases k with rfl| ⟨e,x,j,a,rfl⟩ | ⟨s,c,a,_⟩
   . exact .inr (.inl ⟨_,_,_,rfl,rfl⟩)
   . cases a;exact .inr (.inl ⟨_,_,_,rfl,rfl⟩)
   cases a
 rcases k with rfl| ⟨e,x,j,a,rfl⟩ | ⟨s2,s3,p,rfl,r⟩
 . exact .inr (.inr ⟨_,_,rfl,rfl,a⟩)
 . cases a
 cases p;exact .inr (.inr ⟨_,_,rfl,rfl,r⟩)
variable {w0 w:World}{o:Nat}{u:Value}
theorem z4d(h:simB w0.heap[b]? w.heap[b]?)(c:w0.cell? ⟨b,o,none⟩=some u):∃v,w.cell? ⟨b,o,none⟩=some v/\simV u v:=by
 rcases h with h| ⟨vs,vs',T,fz,e,h2,h3,h4⟩
 . exact ⟨u,(World.cell?_of_block (a:=⟨b,o,none⟩) h).trans c,.inl rfl⟩
 rw [q0h e] at c;grind [q0h]

def SInv(q:Nat->Prop)(w0:World)(E:En)(C:Cx)(H:List SObj):Prop:=
 ∀b,q b->((E.C.w.heap.size<=b\/OwnB E.C E.H b)/\¬TBlk b)/\b<C.w.heap.size/\¬C.I b/\¬OwnB C H b/\Unf C.w b/\simB w0.heap[b]? C.w.heap[b]?

@[reducible] def scrG(q:Nat->Prop)(w0:World):Ghost where
 inv0:=λE C H=>SInv q w0 E.toEn C H
 fin:=λE C H ds=>ds=E.base/\TabE E.toEn C H/\SInv q w0 E.toEn C H
 toFin0:=λht h=>⟨rfl,ht,h⟩
 next0:=λhx h b hb=>by
  obtain ⟨h0,h1,h2,h3,h4,h5⟩:=h b hb;obtain ⟨g1,g2,g3,g4⟩:=z2q hx h1 h2 h3;refine ⟨h0,g1,g2,g3,h4.keep g4,?_⟩
  simp_all
 same0:=λ_ e _ hi ho _ _ h b hb=>by obtain ⟨h0,h1,h2,h3,h4,h5⟩:=h b hb;grind

def At(q:Nat->Prop)(w0:World)(t:Ty)(x:t.den)(b o:Nat):Prop:=q b/\∃vs,t.rel q w0 x vs/\∀j u,vs[j]?=some u->w0.cell? ⟨b,o+j,none⟩=some u
theorem At.fst{q:Nat->Prop}{w0:World}{s t:Ty}{x:(Ty.prod s t).den}{b o:Nat}(h:At q w0 (.prod s t) x b o):At q w0 s x.1 b o:=by obtain ⟨a,vs,⟨e,v2,rfl,c,h2⟩,p⟩:=h;exact ⟨a,e,c,λj u hj=>p j u (by grind)⟩
def At.snd{q:Nat->Prop}{w0:World}{s t:Ty}{x:(Ty.prod s t).den}{b o:Nat}(h:At q w0 (.prod s t) x b o):At q w0 t x.2 b (o+s.size):=by obtain ⟨a,vs,⟨v1,p,rfl,r,e⟩,y⟩:=h;refine ⟨a,p,e,λj u c=> ?_⟩;rw [Au];refine y (s.size+j) u ?_;rw [<-s.rel_size _ _ r,AI (Nat.le_add_right _ _),Nat.add_sub_cancel_left];exact c
def Sl(q:Nat->Prop)(w0:World)(t:Ty)(xs:List t.den)(v:Value):Prop:=(Ty.slice t).rel q w0 xs [v]
theorem Sl.out{q:Nat->Prop}{w0:World}{t:Ty}{xs:List t.den}{v:Value}(h:Sl q w0 t xs v):
 ∃A c,v= .slice A xs.length c/\(xs= []\/∃b o,A=some ⟨b,o,none⟩/\∀i x,xs[i]?=some x->At q w0 t x b (o+i*t.size)):=by
 obtain ⟨A,n,c,e,rfl,_,_,h⟩:=h;simp only [List.cons.injEq,and_true] at e;refine ⟨A,c,e,orMap h id ?_⟩;rintro ⟨b,o,rfl,j,h⟩;exact ⟨b,o,rfl,λi x a=>⟨j,h i x a⟩⟩
theorem At.sl{q:Nat->Prop}{w0:World}{t:Ty}{xs:List t.den}{b o:Nat}(h:At q w0 (.slice t) xs b o):∃v,Sl q w0 t xs v/\w0.cell? ⟨b,o,none⟩=some v:=by obtain ⟨hq,vs,a,e⟩:=h;obtain ⟨A,n,c,rfl,_⟩:=id a;exact ⟨_,a,e 0 _ rfl⟩
theorem At.int{q:Nat->Prop}{w0:World}{k:IntKind}{x:(Ty.int k).den}{b o:Nat}(h:At q w0 (.int k) x b o):w0.cell? ⟨b,o,none⟩=some (.int k x):=by obtain ⟨hq,vs,rfl,a⟩:=h;exact a 0 _ rfl
theorem At.u8{q:Nat->Prop}{w0:World}{x:Ty.u8.den}{b o:Nat}(h:At q w0 .u8 x b o):w0.cell? ⟨b,o,none⟩=some (.int .u8 (UInt8.toNat x)):=by obtain ⟨hq,vs,rfl,a⟩:=h;exact a 0 _ rfl
theorem At.str{q:Nat->Prop}{w0:World}{x:Ty.str.den}{b o:Nat}(h:At q w0 .str x b o):w0.cell? ⟨b,o,none⟩=some (.string x):=by obtain ⟨hq,vs,⟨rfl,_⟩,a⟩:=h;exact a 0 _ rfl

variable {P:Program} {AQ:Ex->List SV->List SObj->Prop}
variable {q:Nat->Prop}{d:Option Tmp}{m:IM}
theorem z6A(c:q b)(p:w0.cell? ⟨b,o,none⟩=some u)(a:∀v,simV u v-> @SoundI (scrG q w0) P AQ {m with tmps:=putT m.tmps d (.raw v)}):
 @ZldI (scrG q w0) P AQ none b o d m:=by
 rintro E C _ ⟨_,h⟩;obtain ⟨v,h1,e⟩:=z4d (h b c).2.2.2.2.2 p;refine ⟨.raw v,.inl ⟨[.raw v],[v],q0c.2 ⟨v,[],rfl,by rw [SV.den],q0y.2 rfl⟩,λj u hj=> ?_,rfl⟩,a v e⟩;grind
theorem j2J{t:Ty}{ys:List t.den}(h:At q w0 (.slice t) ys b o)(hk:∀v,Sl q w0 t ys v-> @SoundI (scrG q w0) P AQ {m with tmps:=putT m.tmps d (.raw v)}):
 @ZldI (scrG q w0) P AQ none b o d m:=by
 obtain ⟨u,j,e⟩:=h.sl;refine z6A h.1 e λv a=> ?_;obtain ⟨A,c,rfl,_⟩:=j.out;rcases a with rfl| ⟨_,_,_,p,_⟩ | ⟨_,_,p,_⟩;all_goals simp_all
theorem q9j{k:IntKind}{n:Int}(a:q b)(h:w0.cell? ⟨b,o,none⟩=some (.int k n))(hk:∀n:Int, @SoundI (scrG q w0) P AQ {m with tmps:=putT m.tmps d (.raw (.int k n))}):
 @ZldI (scrG q w0) P AQ none b o d m:=by
 refine z6A a h λv c=> ?_;rcases c with rfl| ⟨_,_,_,e,rfl⟩ | ⟨_,_,e,_⟩;all_goals simp_all

theorem z9m{w':World}(c:Wd C H)(y:w'.heap.size=C.w.heap.size)(x:∀b,C.I b\/OwnB C H b->w'.heap[b]?=C.w.heap[b]?)(z:∀b m,World.bsize C.w b=some m->World.bsize w' b=some m):
 Wd {C with w:=w'} H/\Evo C {C with w:=w'}:=by
 have j:Evo C {C with w:=w'}:=⟨Ac _,λ_ _=>rfl,λb e=>⟨e,x b (.inl e)⟩,z⟩
 refine ⟨⟨c.n,λh o p=> ?_,λb a=> ?_,c.inj,λb e=> ?_⟩,j⟩
 . by_cases r:o.live=true
   . exact q0z (C':={C with w:=w'}) j.I h rfl (λb a=>x b (.inr ⟨h,o,p,r,a⟩)) (q0f j) (c.obj h o p)
   cases o<;>first|trivial|simp [SObj.live] at r
 . have:=c.own b a
   simp_all
 rw [y];exact c.imm b e

variable {v:Value}{vs:List Value}
theorem j4P{T:TypeId}{fz:Nat×Nat}(h:w.heap[b]?=some (.cells vs.toArray T fz))(hlt:o<vs.length):(w.setCells b o [v]).heap[b]?=some (.cells (vs.set o v).toArray T fz):=by
 rw [q1c [v] o w vs h (by simp;omega)]
 simp_all [splice,Cb]

theorem z7o(hq:q b)(hc:w0.cell? ⟨b,o,none⟩=some u)(hs:simV u v)(hf:(SV.raw v).flat=some [.raw v])(W:ones [SV.raw v]=true)
 (hk: @SoundI (scrG q w0) P AQ {m with tmps:=putT m.tmps d .any}): @ZstI (scrG q w0) P AQ 1 b o (.raw v) d m:=by
 refine ⟨[.raw v],hf,rfl,W,λE C us hw Y hv=> ?_,hk⟩;have hg:SInv q w0 E.toEn C m.heap:=Y.2;clear Y;generalize m.heap=H at*;obtain ⟨L,us',rfl,V,hn⟩:=q0c.1 hv;rw [q0y] at hn;subst hn;rw [SV.den] at V;subst V;obtain ⟨h0,g1,g2,g3,g4,Z⟩:=hg b hq;obtain ⟨u',A,hs'⟩:=z4d Z hc
 -- the block as it lies now
 have G:∃ (vs:List Value) (T:TypeId) (fz:Nat×Nat),C.w.heap[b]?=some (.cells vs.toArray T fz):=by
  unfold World.cell? at A;split at A
  . rename_i c T fz h;exact ⟨c.toList,T,fz,by simpa using h⟩
  cases A
 obtain ⟨vs,T,fz,p⟩:=G;rw [q0h p] at A;have aa:o<vs.length:=(Am.1 A).1;have N:=j4P (v:=L) p aa;have r:∀a,a≠b->(C.w.setCells b o [L]).heap[a]?=C.w.heap[a]?:=λa e=>q0t e _ _ _;have Q:∀a,C.I a\/OwnB C H a->a≠b:=λa h e=>by simp_all
 have O:(C.w.setCells b o [L]).heap.size=C.w.heap.size:=q0R _ _ _;have ab:∀a m,World.bsize C.w a=some m->World.bsize (C.w.setCells b o [L]) a=some m:=λa m hm=>by grind [World.bsize]
 obtain ⟨k1,k2⟩:=z9m hw O (λa h=>r a (Q a h)) ab;have hsim:simB (w0.heap[b]?) ((C.w.setCells b o [L]).heap[b]?):=by
  rw [N];rcases Z with Z| ⟨ws,ws',T',ad,e1,e2,e3,e4⟩
  . rw [p] at Z;refine .inr ⟨vs,vs.set o L,T,fz,Z.symm,rfl,by simp,λi x y z hy=> ?_⟩;by_cases e:o=i
    . grind [q0h]
    rw [AJ e,z] at hy;cases hy;exact .inl rfl
  rw [p] at e2;cases e2;refine .inr ⟨ws,vs.set o L,T,fz,e1,rfl,by grind,λi x y z hy=> ?_⟩;grind [q0h]
 refine ⟨vs,T,fz,p,by simp;omega,λj hj=> ?_,k1, @Stp.mk (scrG q w0) E C H _ H k2 (λz=> ?_) (λU=>⟨⟨U.1.tab.keep k2.I λa hT F ho=>⟨by simp_all,ho,r a λe=>by simp_all⟩,U.1.old⟩,λa F=> ?_⟩)⟩
 . have:=g4 _ _ _ p (o+j) (by simp_all);exact this
 . have ac:∀a,a<E.C.w.heap.size->¬OwnB E.C E.H a->a≠b:=λa W h2 e=>by grind
   exact ⟨z.evo.trans k2,by show _<=(C.w.setCells b o [L]).heap.size;rw [O];exact z.size,(q1m _ _ _).trans z.os,(q0T _ _ _).trans z.tape,(q0J _ _ _).trans z.output,
    λa W h2=>(r a (ac a W h2)).trans (z.frame a W h2),λa F=>orMap (z.immNew a F) id λ⟨x,y⟩=>⟨x,y.keep (r a (Q a (.inl F)))⟩,z.ownNew,z.keep0⟩
 have z:SInv q w0 E.toEn C H:=U.2;obtain ⟨a0,a1,a2,a3,a4,a5⟩:=z a F;refine ⟨a0,by simp_all,a2,a3,?_,?_⟩
 . by_cases e:a=b
   . subst e;intro c' T' ad R i hi;simp only at R;rw [N] at R;cases R;exact g4 _ _ _ p i (by grind)
   exact a4.keep (r a e)
 grind
theorem q9P{k:IntKind}{n n':Int}(hq:q b)(h:w0.cell? ⟨b,o,none⟩=some (.int k n))(hk: @SoundI (scrG q w0) P AQ {m with tmps:=putT m.tmps d .any}):
 @ZstI (scrG q w0) P AQ 1 b o (.raw (.int k n')) d m:=z7o hq h (.inr (.inl ⟨_,_,_,rfl,rfl⟩)) rfl rfl hk
theorem j4f{s s':ByteArray}(hq:q b)(h:w0.cell? ⟨b,o,none⟩=some (.string s))(hs:s'.size<=140737488355328)(hk: @SoundI (scrG q w0) P AQ {m with tmps:=putT m.tmps d .any}):
 @ZstI (scrG q w0) P AQ 1 b o (.raw (.string s')) d m:=z7o hq h (.inr (.inr ⟨_,_,rfl,rfl,hs⟩)) rfl rfl hk


variable {P:Program} {AQ:Ex->List SV->List SObj->Prop} {k0:Nat} {k:List IT} {t:List SV} {H:List SObj}

variable {f:FuncId}{fi:FI}
theorem z4o(h:finfo P f=some fi):∃fn c,P.funcs[f]?=some fn/\fn.body=some c/\comp P c=some fi.code/\fn.ntmps=fi.ntmps/\fn.results.toList=fi.results/\enters P f=true:=by
 unfold finfo at h;split at h
 . rename_i fn a;split at h
   . rename_i c e;split at h
     . rename_i ic j;split at h
       . cases h
       rename_i hn;cases h;exact ⟨fn,c,a,e,j,rfl,rfl,by grind [enters]⟩
     cases h
   cases h
 cases h
theorem j2e[Ghost]{f:FuncId}{fi:FI}{args:List SV}{K:Out->List SObj->Prop}{E:EnD}{C:Cx}{vs:List Value}(h:finfo P f=some fi)(j:E.base= [])(O:E.C.n<=H.length)(a:Wd C H)(N:Ext E C H)(I:Ghost.inv E C H)
 (J:Cx->List SObj->Prop)(A:LeaveOk E J)
 (x:SV.denL C args vs)(G:SoundI P (retF P fi.results K) ⟨H.length,[.ic fi.code],args++List.replicate (fi.ntmps-args.length) .any,H⟩):
 Calls P f vs.toArray C.w λe w'=>∃o H' C',K o H'/\C'.w=w'/\Wd C' H'/\Ext E C' H'/\J C' H'/\outDen C' o e:=by
 obtain ⟨fn,c,p,F,L,z,y,_⟩:=z4o h;have r:retQ P fn K=retF P fi.results K:=by rw [<-y];funext e t H;rfl
 exact q3o p F j O a N I J A x (by rw [r,z];exact q0e G ⟨c,[],rfl,L,rfl⟩)

def VCallZ(q:Nat->Prop)(w0:World)(P:Program)(f:FuncId)(args:List SV)(H:List SObj)(K:Out->List SObj->Prop):Prop:=
 ∀ (C:Cx) (vs:List Value),Wd C H->TabT C H->ZInv q w0 C H->SV.denL C args vs->Calls P f vs.toArray C.w λe w'=>∃o H' C',K o H'/\C'.w=w'/\Wd C' H'/\Ext ⟨C,H⟩ C' H'/\outDen C' o e
def VCZ(q:Nat->Prop)(w0:World)(P:Program)(f:FuncId)(args:List SV)(H:List SObj)(K:Out->List SObj->Prop):Prop:=enters P f=true/\VCallZ q w0 P f args H K
def VCallZ.g{q:Nat->Prop}{w0:World}{f:FuncId}{args:List SV}{K:Out->List SObj->Prop}(h:VCallZ q w0 P f args H K): @VCallG (frzG q w0) P f args H K:=
 λE C vs hw hg hv=>(h C vs hw hg.1.tab hg.2 hv).mono λ_ _ ⟨o,H',C',k,e,w,x,r⟩=>⟨o,H',C',k,e,w, @Stp.of (frzG q w0) E C C' H H' x,r⟩
variable {args:List SV}{K:Out->List SObj->Prop}
theorem z4i(h:finfo P f=some fi)
 (p: @SoundI (frzG q w0) P (retF P fi.results K) ⟨H.length,[.ic fi.code],args++List.replicate (fi.ntmps-args.length) .any,H⟩):VCZ q w0 P f args H K:=by
 obtain ⟨_,_,_,_,_,_,_,a⟩:=z4o h;refine ⟨a,λC vs c j r e=> ?_⟩;refine (@j2e P H (frzG q w0) f fi args K ⟨⟨C,H⟩,[]⟩ C vs h rfl (by rw [c.n];omega) c (Ext.refl _ _) ⟨j.here,r⟩ (λ_ _=>True) (λ_ _ ds _ _ h=>⟨[],h.1,Cy,λ_ h=>by simp at h,trivial⟩) e p).mono ?_
 simp_all
def PCZ(q:Nat->Prop)(w0:World)(P:Program)(f:FuncId)(args:List SV)(s:SV):Prop:=enters P f=true/\∀ (H:List SObj) (K:Out->List SObj->Prop),K (.ret s) H->VCallZ q w0 P f args H K
def ZInv.nil{q:Nat->Prop}{w0:World}{C:Cx}(h:ZInv q w0 C H):ZInv q w0 {C with n:=0} []:=λb p=>by obtain ⟨j,c,h3,e⟩:=h b p;exact ⟨j,c,λ⟨i,o,a,_⟩=>by simp at a,e⟩
def q6u(ha:SV.cleanL args=true)(hs:s.clean=true)(h:VCZ q w0 P f args [] (SealK s)):PCZ q w0 P f args s:=
 ⟨h.1,λH K hk C vs hw ht hg hv=>q7C hs hw (q8K (C:={C with n:=0}) hw.nil (h.2 {C with n:=0} vs hw.nil (ht.nil rfl λ_ h=>h) hg.nil (q1i (C:=C) (C':={C with n:=0}) (Keeps.refl _ _) ha hv))) hk⟩
def callZ(hp:PCZ q w0 P f args s)(h: @SoundI (frzG q w0) P AQ {m with tmps:=putT m.tmps d s}): @CallI (frzG q w0) P AQ f args d m:=
 ⟨hp.1,(hp.2 _ _ h).g⟩

def Ty.flat:Ty->Bool
 |.slice _=>false
 |.prod a b=>a.flat&& b.flat
 |.arr _ t=>t.flat
 |.ptr _=>false
 |.clo _ _=>false
 |.clp _ _=>false
 |.mbs _=>false
 |_=>true
def Ty.rel_flat{I I':Nat->Prop}{w w':World}:∀ (t:Ty) (x:t.den) (vs:List Value),t.flat=true->t.rel I w x vs->t.rel I' w' x vs
 |.u8,_,_,_,h=>h
 |.int _,_,_,_,h=>h
 |.bool,_,_,_,h=>h
 |.str,_,_,_,h=>h
 |.slice t,_,_,hf,_=>by cases hf
 |.prod a b,x,vs,hf,h=>by obtain ⟨r,j,rfl,p,e⟩:=h;simp only [Ty.flat,Ak] at hf;exact ⟨r,j,rfl,a.rel_flat _ _ hf.1 p,b.rel_flat _ _ hf.2 e⟩
 |.unit,_,_,_,h=>h
 |.arr n t,xs,vs,hf,h=>by obtain ⟨A,vss,rfl,c,h⟩:=h;exact ⟨A,vss,rfl,c,λi x us z y=>t.rel_flat _ _ hf (h i x us z y)⟩
 |.ptr t,_,_,hf,_=>by cases hf
 |.clo _ t,_,_,hf,_=>by cases hf
 |.clp _ t,_,_,hf,_=>by cases hf
 |.mbs t,_,_,hf,_=>by cases hf
def Cx.lend(C:Cx)(q:Nat->Prop):Cx:={C with I:=λb=>C.I b\/q b,n:=0}
def z3q(c:Wd C H)(e:ZInv q w0 C H):Wd (C.lend q) [] where
 n:=rfl
 obj:=λh o a=>by simp at a
 own:=λb ⟨h,o,a,_⟩=>by simp at a
 inj:=λh h' o o' b a=>by simp at a
 imm:=λb j=>j.elim (c.imm b) λh=>(e b h).1
def z4y(hg:ZInv q w0 C H){t:Ty}{x:t.den}(h:t.rel q w0 x vs):t.rel (C.lend q).I (C.lend q).w x vs:=
 Ty.rel_keep (λb hb=>⟨.inr hb,(hg b hb).2.2.2⟩) _ _ _ h
def LendA(q:Nat->Prop)(w0:World)(args args':List SV):Prop:=∀ (C:Cx) (H:List SObj) (vs:List Value),ZInv q w0 C H->SV.denL C args vs->SV.denL (C.lend q) args' vs
theorem q6J:LendA q w0 [] []:=λ_ _ _ _ h=>by grind [q0y]
def z7m{t:Ty}{xs:List t.den}{l a:List SV}(p:Sl q w0 t xs v)(h:LendA q w0 l a):LendA q w0 (.raw v :: l) (.isl t xs :: a):=λC H vs e j=>by obtain ⟨u,us,rfl,c,r⟩:=q0c.1 j;rw [SV.den] at c;subst c;exact q0c.2 ⟨_,us,rfl,by rw [SV.den];exact z4y e p,h C H us e r⟩
def j1j{t:Ty}{x:t.den}{ws:List Value}{l c:List SV}(p:t.rel q w0 x ws)(h:LendA q w0 l c):LendA q w0 (.agg (rawL ws) :: l) (.agg (t.cells x) :: c):=λC H vs e j=>by obtain ⟨u,us,rfl,a,r⟩:=q0c.1 j;rw [SV.den] at a;obtain ⟨ws',rfl,a⟩:=a;have:=q1d a;subst this;exact q0c.2 ⟨_,us,rfl,by rw [SV.den];exact ⟨_,rfl,Ty.cells_den (C:=C.lend q) _ _ _ (z4y e p)⟩,h C H us e r⟩
theorem z9h{l a:List SV}(x:s.clean=true)(h:LendA q w0 l a):LendA q w0 (s :: l) (s :: a):=λC H vs r c=>by obtain ⟨u,us,rfl,j,e⟩:=q0c.1 c;exact q0c.2 ⟨_,us,rfl,q0B (C:=C) (C':=C.lend q) (λb p=>⟨.inl p,rfl⟩) x j,h C H us r e⟩

def q6M{e:Cx}{H1:List SObj}(j:Wd C H)(c:Ext ⟨C.lend q,[]⟩ e H1):
 Wd {C with w:=e.w} H/\Ext ⟨C,H⟩ {C with w:=e.w} H:=by
 have a:∀b,b<C.w.heap.size->e.w.heap[b]?=C.w.heap[b]?:=λb r=>c.frame b r (λ⟨h,o,p,_⟩=>by simp at p);exact z2J j c.size a c.os c.tape c.output

variable {C':Cx}{ty:Ty}{xs:List ty.den}{n:Nat}
theorem z3y(hf:ty.flat=true)(W:Wd C H)(R:Wd C' [.row ty xs])(hx:Ext ⟨C.lend q,[]⟩ C' [.row ty xs])(hd:(SV.bld 0 ty n).den C' u):
 ∃D:Cx,D.w=C'.w/\Wd D (H++ [.row ty xs])/\Ext ⟨C,H⟩ D (H++ [.row ty xs])/\(SV.bld H.length ty n).den D u:=by
 obtain ⟨g1,G⟩:=q6M (q:=q) W hx
 let A:Cx:={C with w:=C'.w}
 let D:Cx:={A with ρ:=λh=>if h=C.n then C'.ρ 0 else C.ρ h,n:=C.n+1}
 have z:∀b,C'.ρ 0=some b->OwnB C' [.row ty xs] b:=λb p=>⟨0,_,rfl,rfl,p⟩;have V:∀b,C'.ρ 0=some b->C.w.heap.size<=b:=λb p=>(hx.ownNew b (z b p)).elim id λ⟨h,o,Y,_⟩=>by simp at Y
 have O:Evo A D:=⟨CV _,λh hh=>by
  grind,Keeps.refl _ _,λ_ _ h=>h⟩
 have hn:C.n=H.length:=W.n;have r:D.ρ H.length=C'.ρ 0:=by grind
 have y:∀h,h<H.length->D.ρ h=C.ρ h:=λh hh=>by grind
 have N:∀b,OwnB D (H++ [.row ty xs]) b->OwnB A H b\/C'.ρ 0=some b:=by
  rintro b ⟨h,x,ab,ac,p⟩;rcases q0j ab with ⟨a,e⟩ | ⟨a,e⟩
  . exact .inl ⟨h,x,e,ac,(y h a).symm.trans p⟩
  simp_all
 have hrow:objDen D H.length (.row ty xs):=by
  rcases R.obj 0 _ rfl with ⟨a,e⟩ | ⟨b,ae,T,fz,a,e,h3,h4,h5⟩
  . exact .inl ⟨r.trans a,e⟩
  refine .inr ⟨b,ae,T,fz,r.trans a,e,h3,h4,λi x hx=> ?_⟩;obtain ⟨us,hu,hc⟩:=h5 i x hx;exact ⟨us,Ty.rel_flat _ _ _ hf hu,hc⟩
 have af:Wd D (H++ [.row ty xs]):=by
  refine ⟨by simp [D,hn],λh o Y=> ?_,λb p=> ?_,λi j o o' b Y ad Z U p F=> ?_,g1.imm⟩
  . rcases q0j Y with ⟨a,e⟩ | ⟨a,e⟩
    . by_cases ag:o.live=true
      . exact q0z O.I h (y h a) (λ_ _=>rfl) (q0f O) (g1.obj h o e)
      cases o<;>first|trivial|simp [SObj.live] at ag
    simp_all
  . rcases N b p with a|a
    . exact g1.own b a
    exact ⟨λhi=>absurd (W.imm b hi) (by simp_all),(R.own b (z b a)).2⟩
  rcases q0j Y with ⟨a,e⟩ | ⟨a,e⟩ <;>rcases q0j ad with ⟨L,Q⟩ | ⟨L,Q⟩
  . rw [y i a] at p;rw [y j L] at F;exact g1.inj i j o o' b e Q Z U p F
  . exfalso;rw [y i a] at p;rw [L,r] at F;have:=(W.own b ⟨i,o,e,Z,p⟩).2;grind
  . exfalso;rw [y j L] at F;rw [a,r] at p;have:=(W.own b ⟨j,o',Q,U,F⟩).2;grind
  omega
 have aa:Ext ⟨C,H⟩ D (H++ [.row ty xs]):=
  ⟨G.evo.trans O,G.size,G.os,G.tape,G.output,G.frame,G.immNew,λb p=>(N b p).elim (λa=>G.ownNew b a) λa=>.inl (V b a),λm h0 hm=>q2J (G.keep0 m h0 hm)⟩
 refine ⟨D,rfl,af,aa,?_⟩;rw [SV.den] at hd⊢;refine ⟨by grind,orMap hd.2 (λ⟨a,e⟩=>⟨r.trans a,e⟩) λ⟨b,c,mm,a,e⟩=>⟨b,c,mm,r.trans a,e⟩⟩

def runZ{r:Prop}(a:P.follows .mixedOrders=true)(c:finfo P f=some fi)(h:r)
 (e: @run (frzG q w0) P (retF P fi.results K) 600 ⟨H.length,[.ic fi.code],args++List.replicate (fi.ntmps-args.length) .any,H⟩=r:=by (simp (maxSteps:=3000000) only [go_sem,↓zA,↓reduceIte,↓reduceDIte];(try simp only [zB]);rfl)):VCZ q w0 P f args H K:=z4i c (@q0o (frzG q w0) P _ a 600 _ (Eq.mpr e h))
def RowK(ty:Ty)(xs:List ty.den):Out->List SObj->Prop:=λo H'=>(xs= []/\o= .ret (.raw (.slice none 0 0))/\H'= [])\/(o= .ret (.bld 0 ty xs.length)/\H'= [.row ty xs])
variable {H':List SObj}
theorem q6z(h:xs= []):Weak 0 (RowK ty xs) (.ret (.raw (.slice none 0 0))) H':=
 ⟨λh=>h,.raw (.slice none 0 0),.raw (.slice none 0 0),[],⟨⟨rfl,trivial⟩,trivial,rfl,rfl,rfl,rfl,Ac _,λ_ h0=>absurd h0 (BF 0)⟩,.inl (.inl rfl),.inl ⟨h,rfl,rfl⟩⟩
theorem q6B{h:Nat}(a:H'[h]?=some (.row ty xs))(e:n=xs.length):Weak 0 (RowK ty xs) (.ret (.bld h ty n)) H':=by subst e;exact ⟨λ_=>h,.bld 0 ty xs.length,.bld 0 ty xs.length,[.row ty xs],⟨⟨rfl,trivial⟩,⟨a,trivial⟩,rfl,rfl,rfl,rfl,Ai _,λ_ c=>absurd c (BF 0)⟩,.inl (.inl rfl),.inr ⟨rfl,rfl⟩⟩
theorem q8V{a:List SV}(Q:ty.flat=true)(y:VC P f a [] (RowK ty xs))(U:LendA q w0 args a)
 (F:xs= []-> @SoundI (frzG q w0) P AQ {m with tmps:=putT m.tmps d (.raw (.slice none 0 0))})
 (h: @SoundI (frzG q w0) P AQ {m with tmps:=putT m.tmps d (.bld m.heap.length ty xs.length),heap:=m.heap++ [.row ty xs]}): @CallI (frzG q w0) P AQ f args d m:=by
 refine ⟨y.1,λE C vs r j W=> ?_⟩;have G:TabT C m.heap:=j.1.tab;have x:ZInv q w0 C m.heap:=j.2;refine (y.2 (C.lend q) vs (z3q r x) (G.nil rfl λb I=>.inl I) (U C _ vs x W)).mono ?_;rintro e w' ⟨o,H',C',L,rfl,p,z,c⟩;rcases L with ⟨rfl,rfl,rfl⟩ | ⟨rfl,rfl⟩
 . obtain ⟨u,rfl,c⟩:=c;rw [SV.den] at c;subst c;obtain ⟨R,N⟩:=q6M (q:=q) r z;exact ⟨.ret (.raw (.slice none 0 0)),m.heap,{C with w:=C'.w},F rfl,rfl,R, @Stp.of (frzG q w0) E C {C with w:=C'.w} m.heap m.heap N,_,rfl,by rw [SV.den]⟩
 obtain ⟨u,rfl,c⟩:=c;obtain ⟨D,A,V,O,Y⟩:=z3y (q:=q) Q r p z c;exact ⟨.ret (.bld m.heap.length ty xs.length),m.heap++ [SObj.row ty xs],D,h,A,V, @Stp.of (frzG q w0) E C D m.heap _ O,u,rfl,Y⟩
theorem j0S{a:List SV}(O:ty.flat=true)(x:VC P f a [] (RowK ty xs))(R:LendA q w0 args a)(W:SV.cleanL args=true)(h:xs.length<=1125899906842624):PCZ q w0 P f args (.isl ty xs):=by
 refine q6u W rfl ⟨x.1,λC vs p A r V=>(x.2 (C.lend q) vs (z3q p r) (A.nil rfl λb G=>.inl G) (R C _ vs r V)).mono ?_⟩;rintro e w' ⟨o,H',C',I,rfl,j,y,c⟩;rcases I with ⟨F,rfl,rfl⟩ | ⟨rfl,rfl⟩
 . subst F;obtain ⟨u,rfl,c⟩:=c;rw [SV.den] at c;subst c;obtain ⟨Q,L⟩:=q6M (q:=q) p y;exact ⟨.ret (.raw (.slice none 0 0)),[],{C with w:=C'.w},by simp [go_sem],rfl,Q,L,_,rfl,by rw [SV.den]⟩
 obtain ⟨u,rfl,c⟩:=c;obtain ⟨D,z,U,N,Y⟩:=z3y (q:=q) O p j y c;refine ⟨.ret (.bld 0 ty xs.length),[SObj.row ty xs],D,?_,z,U,N,u,rfl,Y⟩;simp [go_sem];exact h
theorem Ty.cells_rel{C:Cx}:∀ (t:Ty) (x:t.den) (vs:List Value),t.known=true->t.ok x->SV.denL C (t.cells x) vs->t.rel C.I C.w x vs
 |.u8,_,_,_,_,h=>by simp only [Ty.cells,SV.denL,SV.den] at h;obtain ⟨v,us,rfl,rfl,rfl⟩:=h;rfl
 |.int _,_,_,_,_,h=>by simp only [Ty.cells,SV.denL,SV.den] at h;obtain ⟨v,us,rfl,rfl,rfl⟩:=h;rfl
 |.bool,_,_,_,_,h=>by simp only [Ty.cells,SV.denL,SV.den] at h;obtain ⟨v,us,rfl,rfl,rfl⟩:=h;rfl
 |.str,_,_,_,c,h=>by simp only [Ty.cells,SV.denL,SV.den] at h;obtain ⟨v,us,rfl,rfl,rfl⟩:=h;exact ⟨rfl,c⟩
 |.slice t,_,_,_,_,h=>by simp only [Ty.cells,SV.denL,SV.den] at h;grind
 |.prod a b,x,vs,hk,c,h=>by simp only [Ty.known,Ak] at hk;obtain ⟨p,j,rfl,F,A⟩:=q0w.1 h;exact ⟨p,j,rfl,a.cells_rel _ _ hk.1 c.1 F,b.cells_rel _ _ hk.2 c.2 A⟩
 |.unit,_,_,_,_,h=>by grind [Ty.cells,SV.denL,Ty.rel]
 |.arr n t,xs,vs,hk,c,h=>by
  replace hk:t.known=true:=hk;obtain ⟨L,c⟩:=c;refine ⟨L,?_⟩;simp only [Ty.cells] at h;rw [<-L] at h;clear L;have key:∀ (ys:List t.den) (vs:List Value),(∀x∈ys,t.ok x)->SV.denL C ((List.range ys.length).flatMap λi=>t.cells (ys.getD i t.dflt)) vs->∃vss:List (List Value),vs=vss.flatten/\vss.length=ys.length/\∀ (i:Nat) x us,ys[i]?=some x->vss[i]?=some us->t.rel C.I C.w x us:=by
   intro ys;induction ys with
   |nil=>intro vs _ h;exact ⟨[],by grind [q0y],rfl,λi x us e=>by simp at e⟩
   |cons y ys O=>
    intro vs c h;rw [AB,BR,List.flatMap_cons,List.flatMap_map] at h;obtain ⟨p,j,rfl,F,A⟩:=q0w.1 h;obtain ⟨vss,rfl,Q,r⟩:=O j (λx e=>c x (AH _ e)) A;refine ⟨p :: vss,rfl,by simp [Q],λi x us e N=> ?_⟩;cases i with
    |zero=>simp at e N;subst e N;exact t.cells_rel _ _ hk (c _ (Bi ..)) F
    |succ i=>grind
  simp_all
 |.ptr t,x,vs,_,c,h=>by
  cases x with
  |none=>simp only [Ty.cells,SV.denL,SV.den] at h;obtain ⟨v,us,rfl,rfl,rfl⟩:=h;exact .inl ⟨rfl,rfl⟩
  |some x=>simp only [Ty.cells,SV.denL,SV.den] at h;obtain ⟨v,us,rfl,⟨b,off,ws,rfl,z,r,G⟩,rfl⟩:=h;exact .inr ⟨x,b,off,ws,rfl,by rfl,z,r,G⟩
 |.clo f t,x,vs,hk,c,h=>by simp only [Ty.cells,SV.denL,SV.den] at h;obtain ⟨v,us,rfl,⟨p,j,rfl,⟨u,ws,rfl,⟨zs,rfl,R⟩,rfl⟩,rfl⟩,rfl⟩:=h;exact ⟨zs,rfl,t.cells_rel _ _ hk c R⟩
 |.clp f t,x,vs,hk,c,h=>by simp only [Ty.cells,SV.denL,SV.den] at h;obtain ⟨v,us,rfl,⟨p,j,rfl,rfl,⟨u,ws,rfl,⟨b,off,zs,rfl,z,r,G⟩,rfl⟩⟩,rfl⟩:=h;exact ⟨b,off,zs,by rfl,z,r,G⟩
 |.mbs _,_,_,hk,_,_=>by cases hk


variable {P:Program} {AQ:Ex->List SV->List SObj->Prop} {k0:Nat} {k:List It} {t:List SV} {H:List SObj}

@[reducible] def frzN(q:Nat->Prop)(w0:World)(N:Nat):Ghost where
 inv0:=λE C H=>(E.C.w.heap.size<=N/\∀b,TBlk b->b<N)/\ZInv q w0 C H
 fin:=λE C H ds=>ds=E.base/\TabE E.toEn C H/\True
 toFin0:=λht _=>⟨rfl,ht,trivial⟩
 next0:=λ{E _ _ _ _} hx h=>⟨h.1,(frzG q w0).next0 (E:=E) hx h.2⟩
 same0:=λ{E _ _ _ _} hw e hk hi ho hm hl h=>⟨h.1,(frzG q w0).same0 (E:=E) hw e hk hi ho hm hl h.2⟩

theorem q6h{Q c:Exit->Act->World->Prop}(j:∀e a w,Q e a w->c e a w)(h:LetsOut Q):LetsOut c:=by obtain ⟨a,w,h⟩:=h;exact ⟨a,w,j _ _ _ h⟩
theorem z5R{F:Fence}{o:Oper}{a:Act}{K y:Act->World->Prop}{Q j:Exit->Act->World->Prop}(h:∀a w,K a w->y a w)(hq:∀e a w,Q e a w->j e a w)
 (c:o.wpIn F n P a w K Q):o.wpIn F n P a w y j:=by
 unfold Oper.wpIn at*;refine ⟨c.1,?_⟩;have c:=c.2;generalize (o.semAt F.round a.eval).run P w=r at*;cases r with
 |ok x w'=>
  cases x<;>simp only [Oper.uponIn] at c⊢ <;>
   first
    |exact h _ _ c
    |exact ⟨c.1,CallsIn.mono c.2 (λe w'' p=>by grind [q6h])⟩
    |exact ⟨c.1,RowsIn.mono c.2 (λ_ _ p=>h _ _ p)⟩
    |grind [RoundIn.mono,q6h]
 |halt x w'=>cases x<;>simp only [Oper.uponIn] at c⊢ <;>first|simp_all|exact c
theorem q4Q{F:Fence}{n:Nat}{all:Array Oper}{Q r:Exit->Act->World->Prop}(c:∀e a w,Q e a w->r e a w):∀ (l:List Nat) (a:Act) (w:World),wpOpsIn F n P all Q l a w->wpOpsIn F n P all r l a w
 | [],a,w,h=>c _ _ _ h
 |i :: l,a,w,h=>by
  unfold wpOpsIn at h⊢;split
  . rename_i p;simp only [p] at h;exact q4Q c l a w h
  rename_i o p;simp only [p] at h;split
  . rename_i j;rw [if_pos j] at h;exact z5R (λa w h=>q4Q c l a w h) c h
  rename_i j;rw [if_neg j] at h;exact ⟨h.1,q4Q c l _ w h.2⟩

def noStop:List It->Bool
 | []=>true
 |.code _ :: k=>noStop k
 |.ops _ _ :: k=>noStop k
 |.blk _ :: k=>noStop k
 |_ :: _=>false
theorem q2a{G G':Ghost}{F:Fence}{n:Nat}{E E':EnD}{Q j:Exit->Act->World->Prop}(p:∀e a w,j e a w->Q e a w):∀ (k:List It),noStop k=true->
 (∀a w, @wpT G' F n P E' j k a w-> @wpT G F n P E Q k a w)/\(∀id a w, @exitT G' F n P E' j id k a w-> @exitT G F n P E Q id k a w)
 | [],_=>⟨λa w h=>by grind [wpT],λid a w h=>by grind [exitT]⟩
 |.code c :: k,hs=>by obtain ⟨r,x⟩:=q2a (G:=G) (G':=G') (F:=F) (n:=n) (E:=E) (E':=E') p k hs;grind [exitT,wpT,wpIn_mono]
 |.ops all l :: k,hs=>by obtain ⟨r,x⟩:=q2a (G:=G) (G':=G') (F:=F) (n:=n) (E:=E) (E':=E') p k hs;grind [exitT,wpT,q4Q]
 |.blk id' :: k,hs=>by obtain ⟨r,x⟩:=q2a (G:=G) (G':=G') (F:=F) (n:=n) (E:=E) (E':=E') p k hs;refine ⟨λa w h=>by grind [wpT],λid a w h=> ?_⟩;simp only [exitT] at h⊢;grind
def q8v{G G':Ghost}{E:EnD}(r:∀E C H ds,G'.fin E C H ds->G.fin E C H ds)(e:Exit)(a:Act)(w:World)(h: @conc G' E AQ e a w): @conc G E AQ e a w:=by
 cases e with
 |normal=>obtain ⟨C,t,H,p,j,c⟩:=h;exact ⟨C,t,H,p,j,⟨c.wd,c.ext,r _ _ _ _ c.defs,c.tmps⟩⟩
 |ret=>obtain ⟨C,t,H,p,j,c⟩:=h;exact ⟨C,t,H,p,j,⟨c.wd,c.ext,r _ _ _ _ c.defs,c.tmps⟩⟩
 |exit id=>obtain ⟨C,t,H,p,j,c⟩:=h;exact ⟨C,t,H,p,j,⟨c.wd,c.ext,r _ _ _ _ c.defs,c.tmps⟩⟩
 |panic ch=>obtain ⟨C,t,H,s,v,p,j,c,z,F,x,A,y⟩:=h;exact ⟨C,t,H,s,v,p,j,c,z,F,x,r _ _ _ _ A,y⟩
 |goto l=>exact h
 |outgrown=>exact h
def unl(L:Array Bool):Nat:=L.toList.countP (λb=> !b)
variable {i:Nat}
theorem z6B{L:Array Bool}(h:L.getD i true=false):unl (L.setIfInBounds i true) <unl L:=by
 have hlt:i<L.toList.length:=by grind
 have hf:L.toList[i]=false:=by
  have h2:i<L.size:=by omega
  simp_all
 unfold unl;grind
theorem z1y{F:Fence}{n:Nat}{all:Array Oper}{Q:Exit->Act->World->Prop}(Inv:Array Bool->Act->World->Prop)(e:∀L a w,Inv L a w->Region.ready .any all L= []->Q .normal a w)
 (j:∀L a w i,Inv L a w->i∈Region.ready .any all L->wpOpIn F n P all Q i (Inv (L.setIfInBounds i true)) a w):∀ (c:Nat) (L:Array Bool) (a:Act) (w:World),Inv L a w->unl L<=c->wpAnyIn F n P .any all Q c L a w
 |0,L,a,w,hi,hf=>by
  have:Region.ready .any all L= []:=by
   cases p:Region.ready .any all L with
   |nil=>rfl
   |cons i l=>have:=z6B (mem_ready.1 (by simp_all:i∈Region.ready .any all L)).1;omega
  exact ⟨this,e L a w hi this⟩
 |c+1,L,a,w,hi,hf=>by refine ⟨λh=>e L a w hi h,λi p=> ?_⟩;have hu:=z6B (mem_ready.1 p).1;exact wpOpIn_mono (K:=Inv (L.setIfInBounds i true)) (λa w h=>z1y Inv e j c _ a w h (by omega)) (j L a w i hi p)

theorem q6T{o:Oper}{a:Act}{w':World}{r:Option Nat}{next:Act->World->Prop}{Q:Exit->Act->World->Prop}(j:∀c,o.op≠ .defer c)
 (e:(execOp a.eval o).run P w= .ok (.value v) w'\/((execOp a.eval o).run P w= .ok .skip w'/\v=undef))(h:next (a.put o.dst v) w'):o.wpIn (Fw r) n P a w next Q:=by
 refine ⟨λf _=>q4g r f,?_⟩;rw [Oper.semAt_eq _ _ _ j];rcases e with e| ⟨e,rfl⟩ <;>rw [e] <;>exact h

variable {td:List IT}
def noStopI:List IT->Bool
 | []=>true
 |.ic _ :: k=>noStopI k
 |.ops _ :: k=>noStopI k
 |.blk _ :: k=>noStopI k
 |_ :: _=>false
def q2v:∀ {td:List IT} {r:List It},RelT P td r->noStopI td=true->noStop r=true
 | [],r,h,_=>by cases h;rfl
 |.ic c :: k,r,h,hs=>by obtain ⟨c',a,rfl,_,e⟩:=h;exact (q2v (td:=k) (r:=a) e hs:noStop a=true)
 |.ops l :: k,r,h,hs=>by obtain ⟨all,idx,a,rfl,_,e⟩:=h;exact (q2v (td:=k) (r:=a) e hs:noStop a=true)
 |.blk id :: k,r,h,hs=>by obtain ⟨a,rfl,e⟩:=h;exact (q2v (td:=k) (r:=a) e hs:noStop a=true)

variable {P:Program} {AQ:Ex->List SV->List SObj->Prop} {k0:Nat} {k:List It} {t:List SV} {H:List SObj}

def far:Obj->Prop
 |.loop _=>True
 |.deferred _=>True
 |_=>False
def FarAt(w:World)(b:Nat):Prop:=∃o,w.heap[b]?=some o/\far o
def Perm(E:En)(b:Nat):Prop:=E.C.w.heap.size<=b\/OwnB E.C E.H b
theorem z5u(z:Wd C H)(h:OwnB C H b):¬FarAt C.w b:=by
 obtain ⟨i,o,A,r,j⟩:=h;have:=z.obj i o A;rintro ⟨x,p,e⟩;cases o with
 |dead=>simp [SObj.live] at r
 |mark n=>simp [SObj.live] at r
 |cells T cs=>obtain ⟨y,vs,a,c,_⟩:=this;rw [j] at a;cases a;rw [p] at c;cases c;exact e
 |row t xs=>
  rcases this with ⟨a,_⟩ | ⟨y,arr,T',fz',a,c,h3,_⟩
  . simp_all
  rw [j] at a;cases a;rw [p] at c;cases c;exact e
 |map kk ks vs=>obtain ⟨y,us,a,⟨es,cl,c,_⟩,_⟩:=this;rw [j] at a;cases a;rw [p] at c;cases c;exact e
theorem z8c(h:FarAt w b):World.bsize w b=none:=by obtain ⟨o,c,a⟩:=h;unfold World.bsize;rw [c];cases o<;>first|rfl|exact a.elim

def unmk:SObj->SObj
 |.mark _=>.dead
 |o=>o
def z6y{o:SObj}:(unmk o).live=true ↔ o.live=true:=by cases o<;>simp [unmk,SObj.live]
theorem j4R{o:SObj}(h:o.live=true):unmk o=o:=by cases o<;>first|rfl|simp [SObj.live] at h
open Classical in
noncomputable def rowOf(S:Nat->Prop)(b:Nat):Option Nat:=if S b then some b else none
noncomputable def startE(um:Bool)(S:Nat->Prop)(C:Cx)(H:List SObj):EnD:=
 {C:={C with ρ:=λh=>if h<C.n then C.ρ h else rowOf S (h-C.n)},H:=(if um then H.map unmk else H)++List.replicate C.w.heap.size (.row .u8 []),base:=[]}
variable {um:Bool}{S:Nat->Prop}
theorem q0K(hn:C.n=H.length):OwnB (startE um S C H).C (startE um S C H).H b ↔ OwnB C H b\/(S b/\b<C.w.heap.size):=by
 have e:(if um then H.map unmk else H).length=H.length:=by grind
 constructor
 . rintro ⟨h,o,a,j,c⟩;simp only [startE] at a c;rcases A8 h H.length with r|r
   . rw [As (by omega)] at a;rw [if_pos (by omega)] at c;cases um
     . exact .inl ⟨h,o,a,j,c⟩
     simp only [if_true,AF,Al] at a;obtain ⟨o',p,rfl⟩:=a;exact .inl ⟨h,o',p,z6y.1 j,c⟩
   rw [AI (by omega),e] at a;rw [if_neg (by omega)] at c;grind [rowOf]
 rintro (⟨h,o,a,j,c⟩ | ⟨hS,c⟩)
 . have r:=(Am.1 a).1;refine ⟨h,o,?_,j,?_⟩
   . simp only [startE];rw [As (by omega)];cases um;all_goals simp_all [j4R]
   simp_all [startE]
 refine ⟨H.length+b,.row .u8 [],?_,rfl,?_⟩;all_goals simp_all [startE,if_neg,rowOf]
theorem q4y{m:Nat}(h0:0<H.length)(h:(startE um S C H).H[0]?=some (.mark m)):um=false/\H[0]?=some (.mark m):=by
 simp only [startE] at h;rw [As (by grind)] at h;cases um
 . simp_all
 simp only [if_true,AF,Al] at h;obtain ⟨o,_,a⟩:=h;cases o<;>simp [unmk] at a
def q3Q(p:C.n=H.length):Ext (startE um S C H) C H:=
 ⟨⟨Ac _,λh c=>(if_pos (show h<C.n from c)).symm,Keeps.refl _ _,λ_ _ h=>h⟩,Ac _,rfl,rfl,rfl,λ_ _ _=>rfl,λ_ h=>.inl h,λb j=>.inr ((q0K p).2 (.inl j)),
  λm e a=>(q4y (show 0<H.length by have:0<C.n:=e;omega) a).2⟩
theorem q5q(hn:C.n=H.length)(h:TabT C H)(hS:∀b,S b->¬TBlk b):TabT (startE um S C H).C (startE um S C H).H:=
 h.keep (Keeps.refl _ _) λb hT hb ho=>⟨hb,λx=>((q0K hn).1 x).elim ho λy=>hS b y.1 hT,rfl⟩
def q3b(h:Evo (startE um S C H).C C'):Evo C C':=
 ⟨h.n,λx hx=>(h.ρ x hx).trans (if_pos hx),h.I,h.sz⟩
theorem q7N(r:Wd C H)(a:Ext E C H)(G:∀b,S b->Perm E b)(hu:um=true->∀n,E.H[0]?≠some (.mark n))(k:Ext (startE um S C H) C' H'):Ext E C' H':=by
 have c:∀b,OwnB (startE um S C H).C (startE um S C H).H b->Perm E b:=λb e=>((q0K r.n).1 e).elim (a.ownNew b) λh=>G b h.1;refine ⟨a.evo.trans (q3b k.evo),Ao a.size k.size,k.os.trans a.os,k.tape.trans a.tape,k.output.trans a.output,λb j y=> ?_,λb e=> ?_,λb e=> ?_,λm z A=> ?_⟩
 . exact (k.frame b (Aj j a.size) λF=>(c b F).elim (λx=>absurd j (AC.2 x)) y).trans (a.frame b j y)
 . rcases k.immNew b e with g| ⟨g,u⟩
   . exact orMap (a.immNew b g) id λ⟨x,u⟩=>⟨x,u.keep (k.evo.I b g).2⟩
   exact .inr ⟨g.elim (λx=>.inl (Ao a.size x)) (c b),u⟩
 . exact (k.ownNew b e).elim (λx=>.inl (Ao a.size x)) (c b)
 have j:=a.keep0 m z A;have hn:=r.n;have p:0<C.n:=Aj z a.evo.n;cases um with
 |true=>simp_all
 |false=>refine k.keep0 m p ?_;grind [startE]

structure FG where
 um:Bool
 core:EnD->Cx->List SObj->(Nat->Prop)->Prop
 next:∀ {E C C' H H' S},Ext ⟨C,H⟩ C' H'->core E C H S->core E C' H' S
 own:∀ {E C C' H H' S},Wd C H->C'.w=C.w->(∀b,C.I b->C'.I b)->(∀b,C'.I b->C.I b\/OwnB C H b)->(∀b,OwnB C' H' b->OwnB C H b\/(E.C.w.heap.size<=b/\¬S b))->(∀n,0<E.C.n->H[0]?=some (.mark n)->H'[0]?=some (.mark n))->E.C.n<=C'.n->core E C H S->core E C' H' S
 perm:∀ {E C H S b},core E C H S->S b->Perm E.toEn b/\¬C.I b/\¬OwnB C H b/\b<C.w.heap.size
 abide:∀ {E C H S w' I'},core E C H S->C.w.heap.size<=w'.heap.size->(∀b,b<C.w.heap.size->(b<E.C.w.heap.size\/S b\/C.I b\/OwnB C H b)->w'.heap[b]?=C.w.heap[b]?)->(∀b,C.I b->w'.heap[b]?=C.w.heap[b]?)->w'.os=C.w.os->w'.tape=C.w.tape->w'.output=C.w.output->
  (∀b m,World.bsize C.w b=some m->World.bsize w' b=some m)->(∀b,C.I b->I' b)->(∀b,I' b->C.I b\/(E.C.w.heap.size<=b/\¬S b/\¬OwnB C H b/\Unf w' b))->core E {C with w:=w',I:=I'} H S
 lo:∀ {E C H S b},core E C H S->S b->FarAt C.w b->b<E.C.w.heap.size
 start:∀ {E C H S},Wd C H->core E C H S->core (startE um S C H) C H S
 back:∀ {E C H S C' H' S'},Wd C H->core E C H S->Ext (startE um S C H) C' H'->core (startE um S C H) C' H' S'->core E C' H' S'
 unm:∀ {E C H S},um=true->core E C H S->∀n,E.H[0]?≠some (.mark n)
 base:∀ {E C H S} (ds:List Deferred),core E C H S->core {E with base:=ds} C H S
 nt:∀ {E C H S b},core E C H S->S b->¬TBlk b

def noFG:FG where
 um:=false
 core:=λ_ _ _ S=>∀b,¬S b
 next:=λ_ h=>h
 own:=λ_ _ _ _ _ _ _ h=>h
 perm:=λh a=>absurd a (h _)
 abide:=λh _ _ _ _ _ _ _ _ _=>h
 lo:=λh a=>absurd a (h _)
 start:=λ_ h=>h
 back:=λ_ _ _ h=>h
 unm:=λh=>by cases h
 base:=λ_ h=>h
 nt:=λh a=>absurd a (h _)

def chgC(C:Cx)(b:Nat)(o:Obj):Cx:={C with w:={C.w with heap:=C.w.heap.setIfInBounds b o}}
variable {D:Nat}{o:Obj}
theorem q1g(h:b≠D):(chgC C D o).w.heap[b]?=C.w.heap[b]?:=by simp_all [chgC,Ne.symm]
theorem j4e{x:Obj}(h:C.w.heap[D]?=some x):(chgC C D o).w.heap[D]?=some o:=by grind [chgC]
theorem q3y:(chgC C D o).w.heap.size=C.w.heap.size:=by simp [chgC]
theorem q9D(h:FarAt C.w D)(b m:Nat)(hm:World.bsize C.w b=some m):World.bsize (chgC C D o).w b=some m:=by grind [z8c,World.bsize,q1g]
theorem FG.chg(g:FG){E:EnD}{C:Cx}{S:Nat->Prop}{D:Nat}{o:Obj}(j:g.core E C H S)(r:E.C.w.heap.size<=D)(p:¬C.I D)(h3:¬OwnB C H D)(c:FarAt C.w D):g.core E (chgC C D o) H S:=by
 refine g.abide (w':=(chgC C D o).w) (I':=C.I) j (by simp_all [q3y]) (λb _ a=>q1g λe=> ?_) (λb a=>q1g λe=>p (e▸a)) rfl rfl rfl (q9D c) (λ_ h=>h) (λ_ h=>.inl h);subst e;rcases a with a|a|a|a
 . omega
 . exact absurd (g.lo j a c) (AC.2 r)
 all_goals simp_all

def MarkOk.far{E:En}{C:Cx}{D:Nat}(h:MarkOk E C H D):FarAt C.w D:=⟨_,h.at_,trivial⟩
theorem MarkOk.next{E:En}{C C':Cx}{H':List SObj}{D:Nat}(c:Ext ⟨C,H⟩ C' H')(h:MarkOk E C H D):MarkOk E C' H' D:=by
 have a:D<C.w.heap.size:=(Ax.1 h.at_).1;refine ⟨h.sz,λj=> ?_,λe=> ?_,(c.frame D a h.own).trans h.at_⟩
 . exact (c.immNew D j).elim h.imm λ⟨x,_⟩=>x.elim (λx=>absurd a (AC.2 x)) h.own
 exact (c.ownNew D e).elim (λx=>absurd a (AC.2 x)) h.own
def MarkOk.same{E:En}{C C':Cx}{H':List SObj}{D:Nat}(e:C'.w=C.w)(a:∀b,C'.I b->C.I b\/OwnB C H b)(c:∀b,OwnB C' H' b->OwnB C H b)(h:MarkOk E C H D):MarkOk E C' H' D:=
 ⟨h.sz,λx=>(a D x).elim h.imm h.own,λx=>h.own (c D x),by rw [e];exact h.at_⟩

@[reducible] def fgG(g:FG):Ghost where
 inv0:=λE C H=>∃S,g.core E C H S
 fin:=λE C H ds=>ds=E.base/\∃S,g.core E C H S
 toFin0:=λ_ h=>⟨rfl,h⟩
 next0:=λhx ⟨S,h⟩=>⟨S,g.next hx h⟩
 same0:=λhw e hk hi ho hm hl ⟨S,h⟩=>⟨S,g.own hw e hk hi (λb hb=>.inl (ho b hb)) hm hl h⟩

variable {P:Program} {AQ:Ex->List SV->List SObj->Prop} {k0:Nat} {k:List It} {t:List SV} {H:List SObj}

@[reducible] def topG(g:FG)(Ds:List Nat):Ghost where
 inv0:=λE C H=>(∃S,g.core E C H S)/\Ds.Nodup/\∀D∈Ds,MarkOk E.toEn C H D
 fin:=λE C H ds=>∃Ds':List Nat,ds=Ds'.map markD++E.base/\(∃S,g.core E C H S)/\(Ds'++Ds).Nodup/\∀D∈Ds'++Ds,MarkOk E.toEn C H D
 toFin0:=λ_ h=>⟨[],rfl,h.1,by simp_all,by simp_all⟩
 next0:=λhx h=>⟨(fgG g).next0 hx h.1,h.2.1,λD hD=>(h.2.2 D hD).next hx⟩
 same0:=λhw e hk hi ho hm hl h=>⟨(fgG g).same0 hw e hk hi ho hm hl h.1,h.2.1,λD hD=>(h.2.2 D hD).same e hi ho⟩
 rd:=λr=>r=none
 rd0:=rfl

def Pins(L:List (Nat×Obj))(C:Cx)(H:List SObj)(S:Nat->Prop):Prop:=∀x∈L,¬C.I x.1/\¬OwnB C H x.1/\¬S x.1/\C.w.heap[x.1]?=some x.2/\far x.2
theorem Pins.next{L:List (Nat×Obj)}{S:Nat->Prop}{C C':Cx}{H':List SObj}(j:Ext ⟨C,H⟩ C' H')(h:Pins L C H S):Pins L C' H' S:=λx e=>by
 obtain ⟨F,c,A,p,z⟩:=h x e;have a:x.1<C.w.heap.size:=(Ax.1 p).1;refine ⟨λG=> ?_,λr=> ?_,A,(j.frame _ a c).trans p,z⟩
 . exact (j.immNew _ G).elim F λ⟨y,_⟩=>y.elim (λy=>absurd a (AC.2 y)) c
 exact (j.ownNew _ r).elim (λy=>absurd a (AC.2 y)) c
theorem Pins.same{L:List (Nat×Obj)}{S:Nat->Prop}{C C':Cx}{H':List SObj}(e:C'.w=C.w)(hi:∀b,C'.I b->C.I b\/OwnB C H b)(ho:∀b,OwnB C' H' b->OwnB C H b)(h:Pins L C H S):Pins L C' H' S:=λx a=>by obtain ⟨h1,h2,hS,h3,h4⟩:=h x a;grind
@[reducible] def pinG(g:FG)(L:List (Nat×Obj)):Ghost where
 inv0:=λE C H=>∃S,g.core E C H S/\Pins L C H S
 fin:=λE C H ds=>ds=E.base/\∃S,g.core E C H S/\Pins L C H S
 toFin0:=λ_ h=>⟨rfl,h⟩
 next0:=λhx ⟨S,h⟩=>⟨S,g.next hx h.1,h.2.next hx⟩
 same0:=λhw e hk hi ho hm hl ⟨S,h⟩=>⟨S,g.own hw e hk hi (λb hb=>.inl (ho b hb)) hm hl h.1,h.2.same e hi ho⟩

def z2P{D':Nat}(h:MarkOk E C H D')(hne:D'≠D):MarkOk E (dropD C D) H D':=⟨h.sz,h.imm,h.own,(q1E hne).trans h.at_⟩
def q8I(g:FG){E:EnD}{S:Nat->Prop}:∀ (Ds:List Nat) {C:Cx},g.core E C H S->Ds.Nodup->(∀D∈Ds,MarkOk E.toEn C H D)->g.core E (Ds.foldl dropD C) H S
 | [],_,h,_,_=>h
 |D :: Ds,C,h,hnd,hok=>by have c:=hok D (by simp);exact q8I g Ds (C:=dropD C D) (g.chg (o:=.deferred none) h c.sz c.imm c.own c.far) (BA.1 hnd).2 λj a=>z2P (hok j (by simp [a])) λe=>(BA.1 hnd).1 (e▸a)

theorem z6F(g:FG){f:FuncId}{fn:Func}{c:Code}{args:List SV}{K:Out->List SObj->Prop}(N:P.funcs[f]?=some fn)(r:fn.body=some c)
 (h: @Sound (topG g []) P (retQ P fn K) ⟨H.length,[.code c],args++List.replicate (fn.ntmps-args.length) .any,H⟩): @VCallG (fgG g) P f args H K:=by
 rintro E C vs a ⟨F,S,y⟩ U
 refine (@q3o (topG g []) P H f fn c args K (startE g.um S C H) C vs N r rfl (by show C.n<=_;rw [a.n];omega) a (q3Q a.n) ⟨⟨F.tab,F.tab.lt⟩,⟨S,g.start a y⟩,Cy,λ_ h=>by simp at h⟩
  (λC' H'=>∃S',g.core (startE g.um S C H) C' H' S') ?_ U h).mono ?_
 . rintro C' H' ds hw' hx' ⟨Ds',e,⟨S',A⟩,j,p⟩;rw [Ad] at j p;exact ⟨Ds',by rw [e];exact Ad _,j,p,S',q8I g Ds' A j p⟩
 rintro e w' ⟨o,H',C',G,R,I,z,⟨S',L⟩,O⟩;exact ⟨o,H',C',G,R,I, @Stp.mk (fgG g) E C H C' H' (q3b z.evo) (λk=>q7N a k (λb r=>(g.perm y r).1) (λQ=>g.unm Q y) z) (λx=>⟨⟨(q5q a.n x.1.tab λb r=>g.nt y r).next z,x.1.old⟩,S',g.back a y z L⟩),O⟩
theorem q1D(g:FG)(h:finfo P f=some fi)
 (z: @SoundI (topG g []) P (retF P fi.results K) ⟨H.length,[.ic fi.code],args++List.replicate (fi.ntmps-args.length) .any,H⟩): @VCG (fgG g) P f args H K:=by
 obtain ⟨fn,c,j,y,A,x,r,a⟩:=z4o h;have p:retQ P fn K=retF P fi.results K:=by rw [<-r];funext e t H;rfl
 refine ⟨a, @z6F P H g f fn c args K j y ?_⟩;rw [p,x];exact @q0e (topG g []) P (retF P fi.results K) _ _ _ _ _ z ⟨c,[],rfl,A,rfl⟩
def q3K(h: @VCG (fgG noFG) P f args H K):VC P f args H K:=
 ⟨h.1,λC vs hw ht hv=>(h.2 ⟨⟨C,H⟩,[]⟩ C vs hw ⟨ht.here,λ_=>False,λ_ h=>h⟩ hv).mono λ_ _ ⟨o,H',C',k1,k2,k3,k4,k5⟩=>⟨o,H',C',k1,k2,k3, @Stp.ext (fgG noFG) _ _ _ _ _ k4 (Ext.refl _ _),k5⟩⟩

structure FJ (B:Nat) (J:Nat->(Nat->Prop)->World->(Nat->Prop)->Prop):Prop where
 abide:∀ {m S w I w' I'},J m S w I->w.heap.size<=w'.heap.size->(∀b,b<w.heap.size->(b<B\/S b\/I b)->w'.heap[b]?=w.heap[b]?)->(∀b,I b->w'.heap[b]?=w.heap[b]?)->w'.os=w.os->w'.tape=w.tape->w'.output=w.output->
  (∀b m,World.bsize w b=some m->World.bsize w' b=some m)->(∀b,I b->I' b)->(∀b,I' b->I b\/(B<=b/\¬S b/\Unf w' b))->J m S w' I'
 fp:∀ {m S w I b},J m S w I->S b->¬I b/\b<w.heap.size
 nt:∀ {m S w I b},J m S w I->S b->¬TBlk b
structure YCore (B:Nat) (J:Nat->(Nat->Prop)->World->(Nat->Prop)->Prop) (E:EnD) (C:Cx) (H:List SObj) (S:Nat->Prop):Prop where
 pos:0<E.C.n
 n:E.C.n<=C.n
 unm:∀n,E.H[0]?≠some (.mark n)
 lo:B<=E.C.w.heap.size
 sz:E.C.w.heap.size<=C.w.heap.size
 own:∀b,OwnB C H b->Perm E.toEn b/\B<=b
 st:∃m,H[0]?=some (.mark m)/\J m S C.w C.I
 fp:∀b,S b->Perm E.toEn b/\¬OwnB C H b
 far:∀ {m S w I b},J m S w I->S b->FarAt w b->b<E.C.w.heap.size
variable {B:Nat}{J:Nat->(Nat->Prop)->World->(Nat->Prop)->Prop}
def yFG(A:FJ B J):FG where
 um:=true
 core:=YCore B J
 next:=λ{E C C' H H' S} hx h=>by
  obtain ⟨m,G,c⟩:=h.st;have r:∀b,S b->¬C.I b/\b<C.w.heap.size:=λb a=>A.fp c a;refine ⟨h.pos,Ao h.n hx.evo.n,h.unm,h.lo,Ao h.sz hx.size,λb a=> ?_,⟨m,hx.keep0 m (Aj h.pos h.n) G,?_⟩,λb a=>⟨(h.fp b a).1,λz=> ?_⟩,h.far⟩
  . rcases hx.ownNew b a with x|x
    . exact ⟨.inl (Ao h.sz x),Ao h.lo (Ao h.sz x)⟩
    exact h.own b x
  . refine A.abide c hx.size (λb a p=> ?_) (λb a=>(hx.evo.I b a).2) hx.os hx.tape hx.output hx.evo.sz (λb a=>(hx.evo.I b a).1) λb a=> ?_
    . rcases p with p|p|p
      . exact hx.frame b a λz=>absurd p (AC.2 (h.own b z).2)
      . exact hx.frame b a λz=>(h.fp b p).2 z
      exact (hx.evo.I b p).2
    rcases hx.immNew b a with x| ⟨x|x,u⟩
    . exact .inl x
    . exact .inr ⟨Ao h.lo (Ao h.sz x),λF=>absurd (r b F).2 (AC.2 x),u⟩
    exact .inr ⟨(h.own b x).2,λF=>(h.fp b F).2 x,u⟩
  rcases hx.ownNew b z with x|x
  . grind
  exact (h.fp b a).2 x
 own:=λ{E C C' H H' S} hw e hk hi z hm hl h=>by
  obtain ⟨m,G,c⟩:=h.st;refine ⟨h.pos,hl,h.unm,h.lo,by rw [e];exact h.sz,λb a=> ?_,⟨m,hm m h.pos G,?_⟩,λb a=>⟨(h.fp b a).1,λp=> ?_⟩,h.far⟩
  . rcases z b a with x| ⟨x,_⟩
    . exact h.own b x
    exact ⟨.inl x,Ao h.lo x⟩
  . rw [e];refine A.abide c (Ac _) (λ_ _ _=>rfl) (λ_ _=>rfl) rfl rfl rfl (λ_ _ h=>h) hk λb a=>orMap (hi b a) id λx=>⟨(h.own b x).2,λF=>(h.fp b F).2 x,q4v hw x⟩
  exact (z b p).elim (h.fp b a).2 λx=>x.2 a
 perm:=λ{E C H S b} h r=>by obtain ⟨m,G,c⟩:=h.st;exact ⟨(h.fp b r).1,(A.fp c r).1,(h.fp b r).2,(A.fp c r).2⟩
 abide:=λ{E C H S w' I'} h F hf hkI G c p hz hI hI'=>by
  obtain ⟨m,N,L⟩:=h.st;refine ⟨h.pos,h.n,h.unm,h.lo,Ao h.sz F,h.own,⟨m,N,?_⟩,h.fp,h.far⟩;refine A.abide L F (λb a O=>hf b a ?_) hkI G c p hz hI λb a=>orMap (hI' b a) id λ⟨x,y,_,u⟩=>⟨Ao h.lo x,y,u⟩;rcases O with O|O|O
  . exact .inl (Aj O h.lo)
  all_goals simp_all
 lo:=λ{E C H S b} h r hf=>by obtain ⟨m,N,L⟩:=h.st;exact h.far L r hf
 start:=λ{E C H S} hw h=>by obtain ⟨m,N,L⟩:=h.st;have Q:0<H.length:=(Am.1 N).1;refine ⟨by show 0<C.n;rw [hw.n];exact Q,Ac _,λn hn=>(by grind [q4y]),Ao h.lo h.sz,Ac _,λb a=>⟨.inr ((q0K hw.n).2 (.inl a)),(h.own b a).2⟩,⟨m,N,L⟩,λb a=>⟨.inr ((q0K hw.n).2 (.inr ⟨a,(A.fp L a).2⟩)),(h.fp b a).2⟩,λj s f=>Aj (h.far j s f) h.sz⟩
 back:=λ{E C H S C' H' S'} hw h hx k=>by
  have R:∀b,Perm (startE true S C H).toEn b->Perm E.toEn b:=λb a=>by
   rcases a with a|a
   . exact .inl (Ao h.sz a)
   exact ((q0K hw.n).1 a).elim (λx=>(h.own b x).1) λx=>(h.fp b x.1).1
  exact ⟨h.pos,Ao h.n (q3b hx.evo).n,h.unm,h.lo,Ao h.sz hx.size,λb a=>⟨R b (k.own b a).1,(k.own b a).2⟩,k.st,λb a=>⟨R b (k.fp b a).1,(k.fp b a).2⟩,h.far⟩
 unm:=λ_ h=>h.unm
 nt:=λ{E C H S b} h r=>by obtain ⟨m,G,c⟩:=h.st;exact A.nt c r
 base:=λ_ h=>⟨h.pos,h.n,h.unm,h.lo,h.sz,h.own,h.st,h.fp,h.far⟩

variable {P:Program} {AQ:Ex->List SV->List SObj->Prop} {k0:Nat} {k:List It} {t:List SV} {H:List SObj}

structure Fr (Q:Nat->Prop) (C C':Cx):Prop where
 size:C.w.heap.size<=C'.w.heap.size
 os:C'.w.os=C.w.os
 tape:C'.w.tape=C.w.tape
 output:C'.w.output=C.w.output
 keep:Keeps C.I C'.I C.w C'.w
 sz:∀b m,World.bsize C.w b=some m->World.bsize C'.w b=some m
 frame:∀b,b<C.w.heap.size->¬Q b->C'.w.heap[b]?=C.w.heap[b]?
 imm:∀b,C'.I b->C.I b\/((C.w.heap.size<=b\/Q b)/\Unf C'.w b)
def Fr.trans{Q e:Nat->Prop}{C C' c:Cx}(h:Fr Q C C')(k:Fr e C' c)(j:∀b,e b->C.w.heap.size<=b\/Q b):Fr Q C c where
 size:=Ao h.size k.size
 os:=k.os.trans h.os
 tape:=k.tape.trans h.tape
 output:=k.output.trans h.output
 keep:=h.keep.trans k.keep
 sz:=λb m r=>k.sz b m (h.sz b m r)
 frame:=λb a p=>(k.frame b (Aj a h.size) λz=>(j b z).elim (λx=>absurd a (AC.2 x)) p).trans (h.frame b a p)
 imm:=λb a=>by
  rcases k.imm b a with x| ⟨x,u⟩
  . exact orMap (h.imm b x) id λ⟨y,u⟩=>⟨y,u.keep (k.keep b x).2⟩
  exact .inr ⟨x.elim (λy=>.inl (Ao h.size y)) (j b),u⟩
theorem Fr.mono{Q Q':Nat->Prop}{C C':Cx}(h:Fr Q C C')(hq:∀b,Q b->Q' b):Fr Q' C C' where
 size:=h.size
 os:=h.os
 tape:=h.tape
 output:=h.output
 keep:=h.keep
 sz:=h.sz
 frame:=λb hb hn=>h.frame b hb λx=>hn (hq b x)
 imm:=λb hb=>orMap (h.imm b hb) id λ⟨y,u⟩=>⟨orMap y id (hq b),u⟩
def z4X(hn:C.n=H.length)(k:Ext (startE um S C H) C' H'):Fr (λb=>OwnB C H b\/S b) C C' where
 size:=k.size
 os:=k.os
 tape:=k.tape
 output:=k.output
 keep:=k.evo.I
 sz:=k.evo.sz
 frame:=λb hb hq=>k.frame b hb λho=>hq (orMap ((q0K hn).1 ho) id λx=>x.1)
 imm:=λb hb=>orMap (k.immNew b hb) id λ⟨y,u⟩=>⟨orMap y id λho=>orMap ((q0K hn).1 ho) id λx=>x.1,u⟩
def z0I(hn:C.n=H.length)(k:Ext (startE um S C H) C' H')(hb:OwnB C' H' b):C.w.heap.size<=b\/OwnB C H b\/S b:=
 orMap (k.ownNew b hb) id λho=>orMap ((q0K hn).1 ho) id λx=>x.1
def q7s(hi:¬C.I D)(hf:FarAt C.w D):Evo C (chgC C D o):=⟨Ac _,λ_ _=>rfl,λb hb=>⟨hb,q1g λe=>hi (e▸hb)⟩,q9D hf⟩
theorem j2I(e:¬C.I D)(a:FarAt C.w D):Fr (λb=>b=D) C (chgC C D o) where
 size:=by simp_all [q3y]
 os:=rfl
 tape:=rfl
 output:=rfl
 keep:=(q7s e a).I
 sz:=q9D a
 frame:=λb _ h=>q1g h
 imm:=λb c=>.inl c
def j6U(hw:Wd C H)(hi:¬C.I D)(ho:¬OwnB C H D)(hf:FarAt C.w D):Wd (chgC C D o) H:=
 (z9m (w':=(chgC C D o).w) hw q3y (λb hb=>q1g λe=>hb.elim (e▸hi) (e▸ho)) (q9D hf)).1
def j5Y(a:Ext E C H)(h:¬C.I D)(j:FarAt C.w D)(hs:E.C.w.heap.size<=D):Ext E (chgC C D o) H:=
 ⟨a.evo.trans (q7s h j),by rw [q3y];exact a.size,a.os,a.tape,a.output,λb c p=>(q1g (by omega)).trans (a.frame b c p),λb c=>orMap (a.immNew b c) id λ⟨x,u⟩=>⟨x,u.keep (q1g λe=>h (e▸c))⟩,a.ownNew,a.keep0⟩
structure Rnd (S:Nat->Prop) (C C':Cx) (H H':List SObj) (S':Nat->Prop):Prop where
 evo:Evo C C'
 fr:Fr (λb=>S b\/OwnB C H b) C C'
 own:∀b,OwnB C' H' b->OwnB C H b
 fp:∀b,S' b->(C.w.heap.size<=b\/S b\/OwnB C H b)/\¬OwnB C' H' b

theorem j0M{E:EnD}{S':Nat->Prop}(h:YCore B J E C H S)(r:Rnd S C C' H H' S')(e:∃m,H'[0]?=some (.mark m)/\J m S' C'.w C'.I):
 (Ext E.toEn C H->Ext E.toEn C' H')/\YCore B J E C' H' S':=by
 have p:∀b,S b\/OwnB C H b->Perm E.toEn b:=λb a=>a.elim (λx=>(h.fp b x).1) λx=>(h.own b x).1
 refine ⟨λc=>⟨c.evo.trans r.evo,Ao c.size r.fr.size,r.fr.os.trans c.os,r.fr.tape.trans c.tape,r.fr.output.trans c.output,λb j z=> ?_,λb a=> ?_,λb a=>c.ownNew b (r.own b a),λm _ e=>absurd e (h.unm m)⟩,
  ⟨h.pos,Ao h.n r.evo.n,h.unm,h.lo,Ao h.sz r.fr.size,λb a=>h.own b (r.own b a),e,λb a=>⟨?_,(r.fp b a).2⟩,h.far⟩⟩
 . exact (r.fr.frame b (Aj j c.size) λA=>(p b A).elim (λx=>absurd j (AC.2 x)) z).trans (c.frame b j z)
 . rcases r.fr.imm b a with x| ⟨x,u⟩
   . exact orMap (c.immNew b x) id λ⟨y,u⟩=>⟨y,u.keep (r.fr.keep b x).2⟩
   exact .inr ⟨x.elim (λy=>.inl (Ao c.size y)) (p b),u⟩
 rcases (r.fp b a).1 with x|x
 . exact .inl (Ao h.sz x)
 simp_all

def j4O{S':Nat->Prop}(r:Rnd S C C' H H' S')(h:TabT C H)(hS:∀b,S b->¬TBlk b):TabT C' H':=
 h.keep r.evo.I λb hT hb ho=>⟨Aj hb r.fr.size,λx=>ho (r.own b x),r.fr.frame b hb λy=>y.elim (λz=>hS b z hT) ho⟩
def Hand(n:Nat)(H H':List SObj)(args args':List SV)(new:List SObj):Prop:=
 ∀ (C Cc:Cx) (Hc:List SObj) (vs:List Value),Wd C H->SV.denL C args vs->Wd Cc Hc->Hc.length=n->Cc.w=C.w->(∀b,Cc.I b ↔ C.I b)->(∀b,OwnB C H b->¬OwnB Cc Hc b)->
  ∃C2 Cc2:Cx,C2.w=C.w/\C2.I=C.I/\Wd C2 H'/\Evo C C2/\(∀b,OwnB C2 H' b->OwnB C H b)/\Cc2.w=C.w/\Cc2.I=Cc.I/\Wd Cc2 (Hc++new)/\Evo Cc Cc2/\SV.denL Cc2 args' vs/\(∀b,OwnB Cc2 (Hc++new) b->OwnB Cc Hc b\/(OwnB C H b/\¬OwnB C2 H' b))
theorem q0M(p:SV.cleanL args=true):Hand n H H args args []:=λC Cc Hc vs c j hwc _ e r _=>⟨C,Cc,rfl,rfl,c,Evo.refl _,λ_ h=>h,e,rfl,by simp_all,Evo.refl _,q1i (C:=C) (C':=Cc) (λb a=>⟨(r b).2 a,by rw [e]⟩) p j,λb a=>.inl (by simp_all)⟩

def YG(P:Program)(l B N:Nat)(J:Nat->(Nat->Prop)->World->(Nat->Prop)->Prop)(vw:Nat->Nat->List SV->List SObj->Prop):Prop:=
 ∀ (i:Nat) (T T':List SObj) (args:List SV) (C:Cx) (S:Nat->Prop) (vs:List Value),i<N->Wd C (.mark i :: T)->J i S C.w C.I->(∀b,OwnB C (.mark i :: T) b->B<=b/\¬S b)->SV.denL C args vs->
  (∀n,∃args' new,vw i n args' new/\Hand n (.mark i :: T) (.mark i :: T') args args' new)->
  ∃f tmps assign body,(Instr.yield l vs.toArray).run P C.w= .ok (.round l f tmps assign body) C.w/\
   ∀ (r:Option Nat) (n:Nat),RoundIn (Fw r) n P l f tmps assign body C.w λe w'=>∃ (b:Bool) (C':Cx) (S':Nat->Prop),e= .returned (.bool b)/\C'.w=w'/\
    Wd C' (.mark (if b then i+1 else N+1+i) :: T')/\J (if b then i+1 else N+1+i) S' C'.w C'.I/\Rnd S C C' (.mark i :: T) (.mark (if b then i+1 else N+1+i) :: T') S'

theorem vyld{G:Ghost}{l B N:Nat}{J:Nat->(Nat->Prop)->World->(Nat->Prop)->Prop}{vw:Nat->Nat->List SV->List SObj->Prop}{i:Nat}{T T':List SObj}{args:List SV}{K:Out->List SObj->Prop}
 (Y:∀ {E C},G.inv E C (.mark i :: T)->∃S,YCore B J E C (.mark i :: T) S/\∀ (C':Cx) (H':List SObj) (S':Nat->Prop),YCore B J E C' H' S'->Rnd S C C' (.mark i :: T) H' S'->G.inv E C' H')
 (hJ:FJ B J)(R:YG P l B N J vw)(V:i<N)(Q:∀n,∃args' new,vw i n args' new/\Hand n (.mark i :: T) (.mark i :: T') args args' new)
 (L:∀b:Bool,K (.ret (.raw (.bool b))) (.mark (if b then i+1 else N+1+i) :: T')): @VYld G P l args (.mark i :: T) K:=by
 intro E C vs O I hv;obtain ⟨S,x,h⟩:=Y I;obtain ⟨m,h1,F⟩:=x.st;have e:m=i:=by simp_all
 subst e;obtain ⟨f,tmps,a,j,p,c⟩:=R m T T' args C S vs V O F (λb z=>⟨(x.own b z).2,λU=>(x.fp b U).2 z⟩) hv Q;refine ⟨f,tmps,a,j,p,λr n=>(c r n).mono ?_⟩;rintro e w' ⟨b,C',S',rfl,rfl,A,Z,y⟩;obtain ⟨x1,W⟩:=j0M x y ⟨_,rfl,Z⟩;exact ⟨.raw (.bool b),_,C',.bool b,rfl,L b,rfl,A, @Stp.mk G E C _ C' _ y.evo x1 λ_=>h C' _ S' W y,by rw [SV.den]⟩
variable {vw:Nat->Nat->List SV->List SObj->Prop}
def z4b{Ds:List Nat}{l N:Nat}{T T':List SObj}
 (c:FJ B J)(R:YG P l B N J vw)(p:i<N)(Q:∀n,∃args' new,vw i n args' new/\Hand n (.mark i :: T) (.mark i :: T') args args' new)
 (I:∀b:Bool,K (.ret (.raw (.bool b))) (.mark (if b then i+1 else N+1+i) :: T')): @VYld (topG (yFG c) Ds) P l args (.mark i :: T) K:=by
 refine @vyld P (topG (yFG c) Ds) l B N J vw i T T' args K (λ{E C} hg=> ?_) c R p Q I;obtain ⟨z,⟨S,x⟩,j,r⟩:=hg;refine ⟨S,x,λC' H' S' h e=>⟨⟨j4O e z.tab λb F=>(yFG c).nt x F,z.old⟩,⟨S',h⟩,j,λD G=> ?_⟩⟩;have m:=r D G;have a:D<C.w.heap.size:=(Ax.1 m.at_).1;have A:¬S D:=λU=>absurd ((yFG c).lo x U m.far) (AC.2 m.sz);refine ⟨m.sz,λp=> ?_,λO=>m.own (e.own _ O),(e.fr.frame _ a λL=>L.elim A m.own).trans m.at_⟩;exact (e.fr.imm _ p).elim m.imm λ⟨y,_⟩=>y.elim (λy=>absurd a (AC.2 y)) λy=>y.elim A m.own

def Iter(P:Program)(f:FuncId)(fi ca:List SV)(N:Nat)(vw:Nat->Nat->List SV->List SObj->Prop):Prop:=
 enters P f=true/\∀ (l B:Nat) (J:Nat->(Nat->Prop)->World->(Nat->Prop)->Prop) (hJ:FJ B J),YG P l B N J vw->
  @VCallG (fgG (yFG hJ)) P f (fi++ [.raw (.func (.yield l) #[] #[])]++ca) [.mark 0] λo H'=>∃s m,o= .ret s/\H'[0]?=some (.mark m)/\N<=m
def IterO(inf:Prop)(P:Program)(f:FuncId)(fi ca:List SV)(ob:List SObj)(N:Nat)(vw:Nat->Nat->List SV->List SObj->Prop):Prop:=
 enters P f=true/\∀ (l B:Nat) (J:Nat->(Nat->Prop)->World->(Nat->Prop)->Prop) (hJ:FJ B J),YG P l B N J vw->(inf->∀S w I,¬J N S w I)->
  @VCallG (fgG (yFG hJ)) P f (fi++ [.raw (.func (.yield l) #[] #[])]++ca) (.mark 0 :: ob) λo H'=>∃s m,o= .ret s/\H'[0]?=some (.mark m)/\N<=m
abbrev IterI(inf:Prop)(P:Program)(f:FuncId)(fi ca:List SV)(N:Nat)(vw:Nat->Nat->List SV->List SObj->Prop):Prop:=IterO inf P f fi ca [] N vw
def Iter.toI{inf:Prop}{f:FuncId}{fi ca:List SV}{N:Nat}{vw:Nat->Nat->List SV->List SObj->Prop}(h:Iter P f fi ca N vw):IterI inf P f fi ca N vw:=⟨h.1,λl B J hJ yg _=>h.2 l B J hJ yg⟩

variable {P:Program} {AQ:Ex->List SV->List SObj->Prop} {k0:Nat} {k:List It} {t:List SV} {H:List SObj}

def putL:List Tmp->List SV->List SV->List SV
 |p :: ps,s :: l,t=>putL ps l (t.set p s)
 |_,_,t=>t
theorem z0L{C:Cx}:∀ (ps:List Tmp) (l:List SV) (vs:List Value) (t:List SV) (us:Array Value),SV.denL C l vs->SV.denL C t us.toList->SV.denL C (putL ps l t) ((ps.zip vs).foldl (λe x=>e.setIfInBounds x.1 x.2) us).toList
 | [],_,_,_,_,_,ht=>by simpa [putL] using ht
 |p :: ps,[],vs,t,us,hl,ht=>by simp_all [q0y,putL]
 |p :: ps,s :: l,vs,t,us,hl,ht=>by obtain ⟨v,a,rfl,h1,c⟩:=q0c.1 hl;simp only [putL,List.zip_cons_cons,Bb];exact z0L ps l a _ _ c (by grind [q1u])
variable {ps:Array Tmp}{us:Array Value}
theorem j2t{l:List SV}(a:SV.denL C l vs)(c:SV.denL C t us.toList):SV.denL C (putL ps.toList l t) ((ps.zip vs.toArray).foldl (λtm (p,v)=>tm.setIfInBounds p v) us).toList:=by have:=z0L ps.toList l vs t us a c;grind [Array.toList_zip]

def Fr.congr{Q:Nat->Prop}{A A' B B':Cx}(h:Fr Q A B)(a:A'.w=A.w)(j:∀b,A'.I b ↔ A.I b)(c:B'.w=B.w)(p:∀b,B'.I b ↔ B.I b):Fr Q A' B' where
 size:=by rw [a,c];exact h.size
 os:=by rw [a,c];exact h.os
 tape:=by rw [a,c];exact h.tape
 output:=by rw [a,c];exact h.output
 keep:=λb e=>⟨(p b).2 (h.keep b ((j b).1 e)).1,by rw [a,c];exact (h.keep b ((j b).1 e)).2⟩
 sz:=by rw [a,c];exact h.sz
 frame:=by rw [a,c];exact h.frame
 imm:=λb e=>by rw [a,c];exact (h.imm b ((p b).1 e)).imp (j b).2 id
theorem j8t{Q:Nat->Prop}(j:Wd C H)(p:Fr Q C C')(L:∀b,OwnB C H b->¬Q b)(N:C'.ρ=C.ρ)(V:C'.n=C.n)(F:∀b,C'.I b->b<C'.w.heap.size):Wd C' H/\Evo C C':=by
 have G:Evo C C':=⟨by omega,λh _=>by rw [N],p.keep,p.sz⟩
 have a:∀b,OwnB C' H b->OwnB C H b:=λb ⟨h,o,r,z,e⟩=>⟨h,o,r,z,by simp_all⟩
 refine ⟨⟨by rw [V];exact j.n,λh o r=> ?_,λb e=> ?_,λh O o o' b A c U R h5 h6=>j.inj h O o o' b A c U R (by simp_all) (by simp_all),F⟩,G⟩
 . by_cases z:o.live=true
   . exact q0z G.I h (by rw [N]) (λb e=>p.frame b (j.own b ⟨h,o,r,z,e⟩).2 (L b ⟨h,o,r,z,e⟩)) (q0f G) (j.obj h o r)
   cases o<;>first|trivial|simp [SObj.live] at z
 have A:=a b e;have c:=j.own b A;exact ⟨λF=>(p.imm b F).elim c.1 λ⟨x,_⟩=>x.elim (λy=>absurd c.2 (AC.2 y)) (L b A),Aj c.2 p.size⟩
theorem z4Y{j:Nat}{T:List SObj}(h:OwnB C (.mark i :: T) b):OwnB C (.mark j :: T) b:=by
 obtain ⟨x,o,ho,a,c⟩:=h;cases x with
 |zero=>grind [SObj.live]
 |succ x=>exact ⟨x+1,o,by grind,a,c⟩
theorem j4D{j:Nat}{T:List SObj}(h:Wd C (.mark i :: T)):Wd C (.mark j :: T):=by
 have a:∀ {x:Nat} {o:SObj},(SObj.mark j :: T)[x]?=some o->o.live=true->(SObj.mark i :: T)[x]?=some o:=λ{x o} e c=>by grind [SObj.live]
 refine ⟨h.n,λx o e=> ?_,λb A=>h.own b (z4Y A),λx x' o o' b z y r p=>h.inj x x' o o' b (a z r) (a y p) r p,h.imm⟩;by_cases c:o.live=true
 . exact h.obj x o (a e c)
 cases o<;>first|trivial|simp [SObj.live] at c

structure Cal (g:FG) (E:EnD) (Ds:List Nat) (t:List SV) (tms:List Value) (l:Nat) (o:Obj) (C:Cx) (H:List SObj) (S:Nat->Prop):Prop where
 wd:Wd C H
 ext:Ext E.toEn C H
 core:g.core E C H S
 tmps:SV.denL C t tms
 marks:∀D∈Ds,MarkOk E.toEn C H D
 lne:l ∉ Ds
 lsz:E.C.w.heap.size<=l
 limm:¬C.I l
 lown:¬OwnB C H l
 lat:C.w.heap[l]?=some o
 lfar:far o
 tab:TabE E.toEn C H
def calS(Ds:List Nat)(l:Nat)(C:Cx)(H:List SObj)(S:Nat->Prop)(b:Nat):Prop:=OwnB C H b\/S b\/b=l\/b∈Ds
variable {g:FG} {E:EnD} {Ds:List Nat} {tms:List Value} {l:Nat} {o:Obj} {C:Cx} {S:Nat->Prop}

def Cal.fp(h:Cal g E Ds t tms l o C H S){b:Nat}(a:calS Ds l C H S b):¬C.I b/\b<C.w.heap.size:=by
 rcases a with x|x|x|x
 . exact h.wd.own b x
 . exact ⟨(g.perm h.core x).2.1,(g.perm h.core x).2.2.2⟩
 . subst x;exact ⟨h.limm,(Ax.1 h.lat).1⟩
 exact ⟨(h.marks b x).imm,(Ax.1 (h.marks b x).at_).1⟩
theorem Cal.abide{B:Nat}{w':World}{I':Nat->Prop}(h:Cal g E Ds t tms l o C H S)(N:E.C.w.heap.size<=B)(z:C.w.heap.size<=w'.heap.size)(e:∀b,b<C.w.heap.size->(b<B\/calS Ds l C H S b\/C.I b)->w'.heap[b]?=C.w.heap[b]?)
 (Q:w'.os=C.w.os)(O:w'.tape=C.w.tape)(V:w'.output=C.w.output)(R:∀b m,World.bsize C.w b=some m->World.bsize w' b=some m)(U:∀b,C.I b->I' b)(c:∀b,I' b->C.I b\/(B<=b/\¬calS Ds l C H S b/\Unf w' b))(A:∀b,I' b->b<w'.heap.size):
 Cal g E Ds t tms l o {C with w:=w',I:=I'} H S:=by
 have j:Keeps C.I I' C.w w':=λb a=>⟨U b a,e b (h.wd.imm b a) (.inr (.inr a))⟩;have L:Evo C {C with w:=w',I:=I'}:=⟨Ac _,λ_ _=>rfl,j,R⟩
 refine ⟨⟨h.wd.n,λx o p=> ?_,λb a=> ?_,h.wd.inj,A⟩,⟨h.ext.evo.trans L,Ao h.ext.size z,Q.trans h.ext.os,O.trans h.ext.tape,V.trans h.ext.output,λb a Y=> ?_,λb a=> ?_,h.ext.ownNew,h.ext.keep0⟩,?_,q0f L h.tmps,λD F=> ?_,h.lne,h.lsz,?_,h.lown,?_,h.lfar,⟨h.tab.tab.keep j λb W a p=>⟨Aj a z,p,e b a (.inl (Aj (h.tab.old b W) N))⟩,h.tab.old⟩⟩
 . by_cases G:o.live=true
   . exact q0z (C':={C with w:=w',I:=I'}) j x rfl (λb a=>e b (h.wd.own b ⟨x,o,p,G,a⟩).2 (.inr (.inl (.inl ⟨x,o,p,G,a⟩)))) (q0f L) (h.wd.obj x o p)
   cases o<;>first|trivial|simp [SObj.live] at G
 . have:=h.wd.own b a;exact ⟨λr=>(c b r).elim this.1 λy=>y.2.1 (.inl a),Aj this.2 z⟩
 . exact (e b (Aj a h.ext.size) (.inl (Aj a N))).trans (h.ext.frame b a Y)
 . rcases c b a with x|x
   . exact orMap (h.ext.immNew b x) id λ⟨y,u⟩=>⟨y,u.keep (j b x).2⟩
   grind
 . refine g.abide h.core z (λb a Z=>e b a ?_) (λb a=>(j b a).2) Q O V R U λb a=>orMap (c b a) id λx=>⟨Ao N x.1,λy=>x.2.1 (.inr (.inl y)),λy=>x.2.1 (.inl y),x.2.2⟩;rcases Z with x|x|x|x
   . omega
   . exact .inr (.inl (.inr (.inl x)))
   . simp_all
   exact .inr (.inl (.inl x))
 . have m:=h.marks D F;exact ⟨m.sz,λr=>(c D r).elim m.imm λy=>y.2.1 (.inr (.inr (.inr F))),m.own,(e D (Ax.1 m.at_).1 (.inr (.inl (.inr (.inr (.inr F)))))).trans m.at_⟩
 . exact λr=>(c l r).elim h.limm λy=>y.2.1 (.inr (.inr (.inl rfl)))
 exact (e l (Ax.1 h.lat).1 (.inr (.inl (.inr (.inr (.inl rfl)))))).trans h.lat
theorem Cal.chg(h:Cal g E Ds t tms l o C H S){o':Obj}(c:far o'):Cal g E Ds t tms l o' (chgC C l o') H S:=by have a:FarAt C.w l:=⟨o,h.lat,h.lfar⟩;refine ⟨j6U h.wd h.limm h.lown a,j5Y h.ext h.limm a h.lsz,g.chg h.core h.lsz h.limm h.lown a,q0f (q7s h.limm a) h.tmps,λD j=> ?_,h.lne,h.lsz,h.limm,h.lown,j4e h.lat,c,⟨h.tab.tab.keep (q7s h.limm a).I λb p hb c=>⟨by grind [q3y],c,q1g λe=>absurd (h.tab.old b p) (AC.2 (e▸h.lsz))⟩,h.tab.old⟩⟩;have m:=h.marks D j;exact ⟨m.sz,m.imm,m.own,(q1g (D:=l) λe=>h.lne (e▸j)).trans m.at_⟩

def exC:Ex->Option Code
 |.ret=>some .ret
 |.exit id=>some (.exit id)
 |_=>none
def rfAt(N:Nat)(Hs:Nat->List SObj->Prop)(X:Nat->Ex->List SObj->Prop)(rec:LoopState->Option Code->Loop)(m:Nat)(H:List SObj)(o:Obj):Prop:=
 (m<=N/\Hs m H/\o= .loop (rec .ready none))\/∃i ex c,m=N+1+i/\i<N/\X i ex H/\exC ex=some c/\o= .loop (rec .done (some c))
def rfJ(g:FG)(E:EnD)(Ds:List Nat)(t:List SV)(tms:List Value)(l N:Nat)(Hs:Nat->List SObj->Prop)(X:Nat->Ex->List SObj->Prop)(rec:LoopState->Option Code->Loop)(m:Nat)(S:Nat->Prop)(w:World)(I:Nat->Prop):Prop:=
 ∃ (C:Cx) (S0:Nat->Prop) (H:List SObj) (o:Obj),C.w=w/\(∀b,C.I b ↔ I b/\b<w.heap.size)/\Cal g E Ds t tms l o C H S0/\(∀b,S b ↔ calS Ds l C H S0 b)/\rfAt N Hs X rec m H o
variable {Hs:Nat->List SObj->Prop}{X:Nat->Ex->List SObj->Prop}{rec:LoopState->Option Code->Loop}
theorem j7g{N:Nat}(G:E.C.w.heap.size<=B):FJ B (rfJ g E Ds t tms l N Hs X rec) where
 abide:=by rintro m S w I w' I' ⟨C,r,H,o,rfl,j,c,h,e⟩ y z hkI F A L Q O hi';refine ⟨{C with w:=w',I:=λb=>I' b/\b<w'.heap.size},r,H,o,rfl,λb=>Iff.rfl,c.abide G y (λb a hx=>z b a ?_) F A L Q (λb a=>⟨O b ((j b).1 a).1,Aj ((j b).1 a).2 y⟩) (λb a=> ?_) (λb a=>a.2),h,e⟩;all_goals grind
 fp:=by rintro m S w I b ⟨C,r,H,o,rfl,j,c,h,e⟩ a;have:=c.fp ((h b).1 a);grind
 nt:=by
  rintro m S w I b ⟨C,r,H,o,rfl,j,c,h,e⟩ a p;rcases (h b).1 a with x|x|x|x
  . exact c.tab.tab.own b p x
  . exact g.nt c.core x p
  . exact absurd (c.tab.old b p) (AC.2 (x▸c.lsz))
  exact absurd (c.tab.old b p) (AC.2 (c.marks b x).sz)
theorem j3K{N m:Nat}{I:Nat->Prop}(j:E.C.w.heap.size<=B)(hl:l<B)(hD:∀D∈Ds,D<B)
 (h:rfJ g E Ds t tms l N Hs X rec m S w I)(p:S b)(a:FarAt w b):b<B:=by
 obtain ⟨C,S0,H,o,rfl,hI,c,e,hat⟩:=h;rcases (e b).1 p with x|x|x|x
 . exact absurd a (z5u c.wd x)
 . exact Aj (g.lo c.core x a) j
 all_goals simp_all

variable {P:Program} {AQ:Ex->List SV->List SObj->Prop} {k0:Nat} {k:List It} {t:List SV} {H:List SObj}
variable {g:FG} {E:EnD} {Ds:List Nat} {tms:List Value} {l:Nat} {o:Obj} {C C':Cx} {H':List SObj} {S S':Nat->Prop}

def calL(Ds:List Nat)(l:Nat)(o:Obj):List (Nat×Obj):=(l,o) :: Ds.map λD=>(D,.deferred (some []))
def Cal.pins(h:Cal g E Ds t tms l o C H S):Pins (calL Ds l o) C H S:=by
 intro x c;rcases Ba.1 c with rfl|c
 . exact ⟨h.limm,h.lown,λa=>absurd (g.lo h.core a ⟨o,h.lat,h.lfar⟩) (AC.2 h.lsz),h.lat,h.lfar⟩
 obtain ⟨D,e,rfl⟩:=BZ.1 c;have m:=h.marks D e;exact ⟨m.imm,m.own,λa=>absurd (g.lo h.core a m.far) (AC.2 m.sz),m.at_,trivial⟩
theorem Cal.run(h:Cal g E Ds t tms l o C H S)(c:Ext (startE g.um S C H).toEn C' H')(p:Wd C' H')(a:g.core (startE g.um S C H) C' H' S')(j:Pins (calL Ds l o) C' H' S'):Cal g E Ds t tms l o C' H' S':=by obtain ⟨A,I,q3,y,L⟩:=j (l,o) (by simp [calL]);refine ⟨p,q7N h.wd h.ext (λb e=>(g.perm h.core e).1) (λG=>g.unm G h.core) c,g.back h.wd h.core c a,q0f (q3b c.evo) h.tmps,λD F=> ?_,h.lne,h.lsz,A,I,y,L,⟨(q5q h.wd.n h.tab.tab λb e=>g.nt h.core e).next c,h.tab.old⟩⟩;obtain ⟨x,z,p3,r,p5⟩:=j (D,.deferred (some [])) (by grind [calL]);exact ⟨(h.marks D F).sz,x,z,r⟩

def RQ(Hs:Nat->List SObj->Prop)(X:Nat->Ex->List SObj->Prop)(i:Nat):Ex->List SV->List SObj->Prop
 |.normal,_,H'=>Hs (i+1) H'
 |.ret,_,H'=>X i .ret H'
 |.exit id,_,H'=>X i (.exit id) H'
 |.pan _,_,_=>False
structure RfOk (P:Program) (g:FG) (ps:Array Tmp) (assign body:Code) (t:List SV) (N:Nat) (vw:Nat->Nat->List SV->List SObj->Prop) (Hs:Nat->List SObj->Prop) (X:Nat->Ex->List SObj->Prop):Prop where
 len:∀i n args' new,vw i n args' new->args'.length=ps.size
 round:∀i Hi args' new,i<N->Hs i Hi->vw i Hi.length args' new->∀L1 L2,∃Φ,(∀t' H',Φ t' H'-> @Sound (pinG g L2) P (RQ Hs X i) ⟨H'.length,[.code body],t',H'⟩)/\
  @Sound (pinG g L1) P (λ_ _ _=>False) ⟨(Hi++new).length,[.code assign,.stop Φ],putL ps.toList args' t,Hi++new⟩
@[reducible] def rfRec(fn:FuncId)(us:Array Value)(ps:Array Tmp)(assign body:Code)(D:Nat)(st:LoopState)(pe:Option Code):Loop:={state:=st,pending:=pe,fn,tmps:=us,params:=ps,assign,body,defers:=D}

theorem z6f{c A:Code}{N:Nat}{fn:FuncId}
 (hr:RfOk P g ps c A t N vw Hs X)(hB:E.C.w.heap.size<=B):YG P l B N (rfJ g E Ds t us.toList l N Hs X (rfRec fn us ps c A D)) vw:=by
 rintro i T T' args C S vs hi hw ⟨Cc,S0,Hm,o,e1,hI,U,hS,ay⟩ aj hv hh;obtain ⟨aE,rfl⟩:Hs i Hm/\o= .loop (rfRec fn us ps c A D .ready none):=by rcases ay with ⟨_,h1,h2⟩ | ⟨i',_,_,h,_⟩;all_goals grind
 have aF:∀b,Cc.I b ↔ C.I b:=λb=>(hI b).trans ⟨λh=>h.1,λh=>⟨h,hw.imm b h⟩⟩;obtain ⟨af,O,ao,am⟩:=hh Hm.length;have R:∀b,OwnB C (.mark i :: T) b->¬calS Ds l Cc Hm S0 b:=λb L h=>(aj b L).2 ((hS b).2 h);obtain ⟨C2,Cc2,a1,a2,a3,a4,a5,b1,b2,b3,b4,b5,b6⟩:=am C Cc Hm vs hw hv U.wd rfl e1 aF (λb L aG=>R b L (.inl aG));have e2:Cc2.w=Cc.w:=b1.trans e1.symm;have W:∀b,OwnB Cc2 (Hm++O) b->OwnB Cc Hm b\/(E.C.w.heap.size<=b/\OwnB C (.mark i :: T) b/\¬OwnB C2 (.mark i :: T') b):=λb L=>orMap (b6 b L) id λh=>⟨Ao hB (aj b h.1).1,h⟩;have ae:Cal g E Ds t us.toList l (.loop (rfRec fn us ps c A D .ready none)) Cc2 (Hm++O) S0:=by
  refine ⟨b3,⟨U.ext.evo.trans b4,by rw [e2];exact U.ext.size,by rw [e2];exact U.ext.os,by rw [e2];exact U.ext.tape,by rw [e2];exact U.ext.output,λb h1 h2=>by rw [e2];exact U.ext.frame b h1 h2,λb L=> ?_,λb L=> ?_,λm h0 hm=>q2J (U.ext.keep0 m h0 hm)⟩,?_,q0f b4 U.tmps,λD' hD=> ?_,U.lne,U.lsz,by rw [b2];exact U.limm,λho=> ?_,by rw [e2];exact U.lat,U.lfar,⟨U.tab.tab.keep b4.I λb hT L ho=>⟨by simp_all,λx=>(W b x).elim ho λy=>absurd (U.tab.old b hT) (AC.2 y.1),by rw [e2]⟩,U.tab.old⟩⟩
  . rw [b2] at L;rw [e2];exact U.ext.immNew b L
  . exact (W b L).elim (U.ext.ownNew b) λx=>.inl x.1
  . exact g.own U.wd e2 (λb h=>by simp_all) (λb h=>by simp_all) (λb L=>orMap (W b L) id λx=>⟨x.1,λh=>R b x.2.1 (.inr (.inl h))⟩) (λm _ hm=>q2J hm) (Ao U.ext.evo.n b4.n) U.core
  . have m:=U.marks D' hD;exact ⟨m.sz,by rw [b2];exact m.imm,λho=>(W D' ho).elim m.own λx=>R D' x.2.1 (.inr (.inr (.inr hD))),by rw [e2];exact m.at_⟩
  exact (W l ho).elim U.lown λx=>R l x.2.1 (.inr (.inr (.inl rfl)))
 have ai:Cc2.n=(Hm++O).length:=b3.n;have aA:C.w.heap[l]?=some (.loop (rfRec fn us ps c A D .ready none)):=by rw [<-e1];exact U.lat
 have aJ:vs.toArray.size=ps.size:=by have:=q0v b5;rw [Ce,this,hr.len _ _ _ _ ao]
 refine ⟨fn,_,c,A,run_yield (P:=P) aA aJ,λr n=>roundIn_of_wpIn (q4g r fn) ?_⟩;have aD: @Den (pinG g (calL Ds l (.loop (rfRec fn us ps c A D .ready none)))) (startE g.um S0 Cc2 (Hm++O)) Cc2 (putL ps.toList af t) (Hm++O) {tmps:=(ps.zip vs.toArray).foldl (λtm (p,v)=>tm.setIfInBounds p v) us,defers:=[]}:=
  ⟨b3,q3Q ai,⟨rfl,⟨ae.tab.tab,ae.tab.tab.lt⟩,S0,g.start b3 ae.core,ae.pins⟩,j2t b5 ae.tmps⟩
 obtain ⟨Φ,al,au⟩:=hr.round i Hm af O hi aE ao (calL Ds l (.loop (rfRec fn us ps c A D .ready none))) (calL Ds l (.loop (rfRec fn us ps c A D .busy none)));have h1:=au (startE g.um S0 Cc2 (Hm++O)) (some l) n Cc2 _ ⟨CN ai,trivial⟩ aD;simp only [wpT] at h1;refine wpIn_mono (by rw [<-b1];exact h1) λe a w hq=> ?_;clear h1;cases e with
 |exit id=>simp only [exitT] at hq;obtain ⟨_,_,_,h,_⟩:=hq;exact h.elim
 |ret=>obtain ⟨_,_,_,h,_⟩:=hq;exact h.elim
 |panic ch=>obtain ⟨_,_,_,_,_,h,_⟩:=hq;exact h.elim
 |goto _=>exact hq.elim
 |outgrown=>exact hq.elim
 |normal=>
  obtain ⟨C',t',H',hΦ,rfl,hd⟩:=hq;obtain ⟨az,_,S1,ad,aH⟩:=hd.defs;have Q:=ae.run hd.ext hd.wd ad aH;have ag:FarAt C'.w l:=⟨_,Q.lat,Q.lfar⟩;have F:=Q.chg (o':=.loop (rfRec fn us ps c A D .busy none)) trivial;refine ⟨_,run_beginRound Q.lat rfl,?_⟩;have aC: @Den (pinG g (calL Ds l (.loop (rfRec fn us ps c A D .busy none)))) (startE g.um S1 (chgC C' l (.loop (rfRec fn us ps c A D .busy none))) H') (chgC C' l (.loop (rfRec fn us ps c A D .busy none))) t' H' a:=
   ⟨F.wd,q3Q F.wd.n,⟨az,⟨F.tab.tab,F.tab.tab.lt⟩,S1,g.start F.wd F.core,F.pins⟩,q0f (q7s Q.limm ag) hd.tmps⟩
  have h2:=al _ _ hΦ _ (some l) n _ a ⟨CN F.wd.n,trivial⟩ aC;simp only [wpT] at h2;refine wpIn_mono h2 λe3 a9 w3 aa=> ?_;clear h2;have fin:∀ {Z:Cx} {t3:List SV} {H3:List SObj} (G:Option Code), @DenF (pinG g (calL Ds l (.loop (rfRec fn us ps c A D .busy none)))) (startE g.um S1 (chgC C' l (.loop (rfRec fn us ps c A D .busy none))) H') Z t3 H3 a9->
   rfAt N Hs X (rfRec fn us ps c A D) (if G.isNone then i+1 else N+1+i) H3 (.loop (rfRec fn us ps c A D (if G.isNone then .ready else .done) G))->
   ∃v w',(Instr.endRound l G).run P Z.w= .ok v w'/\∃ (b:Bool) (C':Cx) (S':Nat->Prop),Ending.returned v= .returned (.bool b)/\C'.w=w'/\
   Wd C' (.mark (if b then i+1 else N+1+i) :: T')/\rfJ g E Ds t us.toList l N Hs X (rfRec fn us ps c A D) (if b then i+1 else N+1+i) S' C'.w C'.I/\Rnd S C C' (.mark i :: T) (.mark (if b then i+1 else N+1+i) :: T') S':=by
   intro Z t3 H3 G V aK;obtain ⟨_,S3,ac,aw⟩:=V.defs;have Y:=F.run V.ext V.wd ac aw;have an:FarAt Z.w l:=⟨_,Y.lat,Y.lfar⟩;have ab:=Y.chg (o':=.loop (rfRec fn us ps c A D (if G.isNone then .ready else .done) G)) trivial;have aq:=run_endRound (P:=P) G Y.lat;refine ⟨_,_,aq,G.isNone,⟨C2.ρ,C2.n,Z.I,(chgC Z l (.loop (rfRec fn us ps c A D (if G.isNone then .ready else .done) G))).w⟩,calS Ds l Z H3 S3,rfl,rfl,?_⟩;generalize av:chgC Z l (.loop (rfRec fn us ps c A D (if G.isNone then .ready else .done) G))=C4 at*;have e4:C4.I=Z.I/\C4.ρ=Z.ρ:=by rw [<-av];exact ⟨rfl,rfl⟩
   have f1:Fr (λb=>OwnB Cc2 (Hm++O) b\/S0 b\/b=l) Cc2 C':=(z4X ai hd.ext).mono λb L=>orMap L id .inl;have f2:=j2I (o:=.loop (rfRec fn us ps c A D .busy none)) Q.limm ag;have f3:=z4X F.wd.n V.ext;have f4:Fr (λb=>b=l) Z C4:=by rw [<-av];exact j2I Y.limm an
   have z1:∀b,OwnB C' H' b\/S1 b->Cc2.w.heap.size<=b\/OwnB Cc2 (Hm++O) b\/S0 b\/b=l:=λb L=>by
    rcases L with x|x
    . exact orMap (z0I ai hd.ext x) id λy=>orMap y id .inl
    exact (g.perm ad x).1.imp id λy=>orMap ((q0K ai).1 y) id λz=>.inl z.1
   have ak:=f1.trans f2 λb L=>.inr (.inr (.inr L));have ar:=ak.trans f3 λb L=>z1 b L;have hf:=ar.trans f4 λb L=>.inr (.inr (.inr L));have z3:∀b,OwnB Z H3 b\/S3 b->Cc2.w.heap.size<=b\/OwnB Cc2 (Hm++O) b\/S0 b\/b=l:=λb L=>by
    rcases L with x|x
    . exact (z0I F.wd.n V.ext x).elim (λy=>.inl (Ao ak.size y)) λy=>z1 b y
    exact (g.perm ac x).1.elim (λy=>.inl (Ao ak.size y)) λy=>z1 b (orMap ((q0K F.wd.n).1 y) id λz=>z.1)
   have aB:∀b,OwnB C2 (.mark i :: T') b->¬(OwnB Cc2 (Hm++O) b\/S0 b\/b=l):=λb L hq=>by
    have ho:=a5 b L;rcases hq with x|x|x
    . exact (b6 b x).elim (λy=>R b ho (.inl y)) λy=>y.2 L
    . exact R b ho (.inr (.inl x))
    exact R b ho (.inr (.inr (.inl x)))
   have ax:Fr (λb=>OwnB Cc2 (Hm++O) b\/S0 b\/b=l) C2 ⟨C2.ρ,C2.n,Z.I,C4.w⟩:=hf.congr (a1.trans b1.symm) (λb=>by simp_all) rfl (λb=>by rw [e4.1]);obtain ⟨w1,w2⟩:=j8t a3 ax aB rfl rfl (by have:=ab.wd.imm;simp_all);have ah:∀ {b:Nat} {j:Nat},OwnB ⟨C2.ρ,C2.n,Z.I,C4.w⟩ (.mark j :: T') b->OwnB C2 (.mark i :: T') b:=λ{b j} L=>by obtain ⟨x,y,z⟩:=z4Y (j:=i) L;exact ⟨x,y,z⟩
   refine ⟨j4D w1,⟨C4,S3,H3,_,rfl,λb=> ?_,ab,λb=> ?_,aK⟩,a4.trans w2,(hf.congr (A':=C) (B':=⟨C2.ρ,C2.n,Z.I,C4.w⟩) b1.symm (λb=>by simp_all) rfl (λb=>by rw [e4.1])).mono λb hq=> ?_,λb L=>a5 b (ah L),λb L=> ?_⟩
   . rw [e4.1];exact ⟨λh=>⟨h,ab.wd.imm b (by simp_all)⟩,And.left⟩
   . grind [calS,OwnB]
   . rcases hq with x|x|x
     . exact orMap (b6 b x) (λy=>(hS b).2 (.inl y)) λy=>y.1
     . exact .inl ((hS b).2 (.inr (.inl x)))
     exact .inl ((hS b).2 (.inr (.inr (.inl x))))
   have hz:Cc2.w.heap.size<=b\/(OwnB Cc2 (Hm++O) b\/S0 b\/b=l)\/b∈Ds:=by
    rcases L with x|x|x|x
    . grind
    all_goals grind
   refine ⟨?_,λho=> ?_⟩
   . rcases hz with x| (x|x|x) |x
     . simp_all
     . exact .inr (orMap (b6 b x) (λy=>(hS b).2 (.inl y)) λy=>y.1)
     . exact .inr (.inl ((hS b).2 (.inr (.inl x))))
     . exact .inr (.inl ((hS b).2 (.inr (.inr (.inl x)))))
     exact .inr (.inl ((hS b).2 (.inr (.inr (.inr x)))))
   have ap:=ah ho;rcases hz with x|x|x
   . have:=(a3.own b ap).2;grind
   . simp_all
   exact R b (a5 b ap) (.inr (.inr (.inr x)))
  cases e3 with
  |normal=>obtain ⟨Z,t3,H3,hK,rfl,V⟩:=aa;exact fin none V (.inl ⟨hi,hK,rfl⟩)
  |ret=>obtain ⟨Z,t3,H3,hK,rfl,V⟩:=aa;exact fin (some .ret) V (.inr ⟨i,.ret,.ret,rfl,hi,hK,rfl,rfl⟩)
  |exit id=>simp only [exitT] at aa;obtain ⟨Z,t3,H3,hK,rfl,V⟩:=aa;exact fin (some (.exit id)) V (.inr ⟨i,.exit id,.exit id,rfl,hi,hK,rfl,rfl⟩)
  |panic ch=>obtain ⟨_,_,_,_,_,h,_⟩:=aa;exact h.elim
  |goto _=>exact aa.elim
  |outgrown=>exact aa.elim
end Go.Sx