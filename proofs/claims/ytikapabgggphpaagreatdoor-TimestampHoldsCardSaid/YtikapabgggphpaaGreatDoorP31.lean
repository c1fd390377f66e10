/- Timestamps: the law's examples: what Check and Find say. -/
import Derived.Test.YtikapabgggphpaaGreatDoorP30
import Derived.Test.YtikapabgggphpaaGreatDoorP24
import Derived.Test.YtikapabgggphpaaGreatDoorP26
set_option linter.all false
namespace Go.Proofs.YtikapabgggphpaaGreatDoor
open Go Go.Sx Go.Proofs
set_option maxRecDepth 100000
set_option maxHeartbeats 40000000
theorem z3r {k:Key} {now skew:Int} {b:List UInt8} {s:Key} {n:Nat} (ha:argOk k 2 now skew=true) (hk:keyP b= .ok (s,n)) (hn:¬n<b.length):ckG k 2 b now skew=if (opS k 1 s.1 s.2.1 s.2.2).2=0 then ckP (opS k 1 s.1 s.2.1 s.2.2).1 now skew else (0,0,(opS k 1 s.1 s.2.1 s.2.2).2):=by
 unfold ckG
 rw [if_pos ha,hk]
 dsimp only
 rw [if_neg hn]
theorem ck1:ckG (2,3,k32 1) 2 el0 1300 300=(1000,5,0):=by
 rw [z3r (by decide) q6p (by rw [q4I];decide)]
 dsimp only
 rw [op0 3 rfl,if_pos rfl]
 unfold ckP
 rw [rd0]
 decide
theorem ck2:ckG (2,3,k32 1) 2 el0 1301 300=(0,0,330):=by
 rw [z3r (by decide) q6p (by rw [q4I];decide)]
 dsimp only
 rw [op0 3 rfl,if_pos rfl]
 unfold ckP
 rw [rd0]
 decide
theorem ck3:ckG (2,3,k32 1) 2 el0 1000 (-1)=(0,0,2):=by
 unfold ckG
 rw [if_neg (by decide)]
theorem ck4:ckG (2,3,k32 1) 2 el0 1000 0=(1000,5,0):=by
 rw [z3r (by decide) q6p (by rw [q4I];decide)]
 dsimp only
 rw [op0 3 rfl,if_pos rfl]
 unfold ckP
 rw [rd0]
 decide
theorem ck5:ckG (2,3,k32 3) 2 el0 1000 0=(0,0,10):=by
 rw [z3r (by decide) q6p (by rw [q4I];decide)]
 dsimp only
 rw [op3,if_neg (by decide)]
theorem ck6:ckG (2,4,k32 1) 2 el0 1000 0=(0,0,9):=by
 rw [z3r (by decide) q6p (by rw [q4I];decide)]
 dsimp only
 have h:opS (2,4,k32 1) 1 2 3 (ci0++tag0)=([],9):=by
  rw [q8J]
  unfold opS2
  rw [if_pos (by decide),if_neg (by decide)]
 rw [h,if_neg (by decide)]
def elX:List UInt8:=el0.set 80 (el0.getD 80 0+1)
def tagX:List UInt8:=tag0.set 31 (tag0.getD 31 0+1)
theorem j2Q:keyP elX= .ok ((2,3,ci0++tagX),81):=by kernel_rfl
theorem z0A:elX.length=81:=by kernel_rfl
theorem ck7:ckG (2,3,k32 1) 2 elX 1000 0=(0,0,10):=by
 rw [z3r (by decide) j2Q (by rw [z0A];decide)]
 dsimp only
 have h:opS (2,3,k32 1) 1 2 3 (ci0++tagX)=([],10):=by
  rw [q8J]
  unfold opS2
  rw [if_pos (by decide),if_pos (by decide),if_neg (by decide),if_neg (by decide)]
  have e1:(ci0++tagX).take ((ci0++tagX).length-32)=ci0:=by kernel_rfl
  have e2:(ci0++tagX).drop ((ci0++tagX).length-32)=tagX:=by kernel_rfl
  rw [e1,e2,z1y,z0z,if_neg (by decide)]
 rw [h,if_neg (by decide)]
theorem j0B:keyP (el0.take 80)= .error 4:=by kernel_rfl
theorem ck8:ckG (2,3,k32 1) 2 (el0.take 80) 1000 0=(0,0,4):=by
 unfold ckG
 rw [if_pos (by decide),j0B]
 rfl
theorem q6G (n:Int):PC Tryz.prog 13 [rI n] (rI n):=by
 refine q0q rfl rfl ?_
 refine rQ fi13 ?_;trivial
def kfP (c:UInt8) (i:Nat):List UInt8:=List.replicate i c++List.replicate (32-i) 0
theorem j1W (c:UInt8) {i:Nat} (hi:i≤32):(kfP c i).length=32:=by simp [kfP];omega
theorem j0L (c:UInt8) {i:Nat} (hi:i<32):(kfP c i).set i c=kfP c (i+1):=by
 unfold kfP
 rw [List.set_append_right _ _ (by simp)]
 simp only [List.length_replicate,Nat.sub_self]
 rw [show 32-i=(32- (i+1))+1 by omega,List.replicate_succ,List.set_cons_zero,List.replicate_succ',List.append_assoc]
 rfl
theorem z6I (c:UInt8) (v:Int):PC Tryz.prog 22 [.raw (.int .u8 c.toNat),rI v] (.agg [rI 2,rI v,.isl .u8 (k32 c)]):=by
 refine q0t rfl rfl ?_
 refine rQ fi22 ?_
 refine q0i (ι:=Nat) (fun i=>[(6,rI i)]) (fun i=>[.cells 24 [rI 0,rI 0,.raw (.slice none 0 0)],.row .u8 (kfP c i)]) (fun i=>32-i) (fun i=>i≤32) 0 (Nat.zero_le _) rfl ?_ ?_
 · with_reducible refine sxE ?_;trivial
 intro i hi
 have hl:=j1W c hi
 have hwr:=wsx i (by omega)
 by_cases h:i<32
 · have f1:((i:Int) <32)=True:=eq_true (by omega)
   refine uQ 600 _ ?_
   simp (maxSteps:=3000000) only [f1,hl,Nat.zero_add,go_sem,↓zA,↓reduceIte,↓reduceDIte] <;>try simp only [zB]
   refine ⟨⟨by omega,by omega⟩,⟨by omega,by rw [UInt8.ofNat_toNat]⟩,i+1,h,by dsimp only;omega,?_,?_⟩
   · rw [UInt8.ofNat_toNat,j0L c h]
   with_reducible refine sx1 hwr ?_;trivial
 obtain rfl:i=32:=by omega
 have f1:(((32:Nat):Int) <32)=False:=eq_false (by omega)
 refine uQ 600 _ ?_
 simp (maxSteps:=3000000) only [f1,hl,go_sem,↓zA,↓reduceIte,↓reduceDIte] <;>try simp only [zB]
 simp [kfP,k32]
theorem q2C (v:Int) (kb:List UInt8) (kind:Int) (b:List UInt8) (now skew time micro no:Int) (hkb:kb.length≤1048576) (hb:b.length≤1048576):PC Tryz.prog 23 [.agg (KeyT.cells (2,v,kb)),.agg [rI kind,.isl .u8 b],rI now,rI skew,rI time,rI micro,rI no] (rB (decide (ckG (2,v,kb) kind b now skew=(time,micro,no)))):=by
 have hc:=q8O (2,v,kb) kind b now skew ⟨trivial,trivial,⟨show kb.length≤1125899906842624 by omega,fun _ _=>trivial⟩⟩ hb
 generalize ckG (2,v,kb) kind b now skew=x at*
 obtain ⟨x1,x2,x3⟩:=x
 simp only [ckO] at hc
 refine q0q rfl rfl ?_
 refine q0G fi23 ?_
 refine uQ 600 _ ?_
 with_reducible refine sxE ?_
 refine q0a hc ?_
 by_cases c1:x1=time
 · by_cases c2:x2=micro
   · refine uQ 600 _ ?_
     simp (maxSteps:=3000000) only [c1,c2,go_sem,↓zA,↓reduceIte,↓reduceDIte] <;>try simp only [zB]
     refine q0a (q6G x3) ?_
     refine uQ 600 _ ?_
     with_reducible refine sxE ?_
     simp
   refine uQ 600 _ ?_
   simp (maxSteps:=3000000) only [c1,c2,go_sem,↓zA,↓reduceIte,↓reduceDIte] <;>try simp only [zB]
   simp [c2]
 refine uQ 600 _ ?_
 simp (maxSteps:=3000000) only [c1,go_sem,↓zA,↓reduceIte,↓reduceDIte] <;>try simp only [zB]
 simp [c1]
def fnO (x:Int×Int×Int×Int):SV:=.tup [rI x.1,rI x.2.1,rI x.2.2.1,rI x.2.2.2]
def fnG (f:Key→Int×Int×Int):Nat→Int→List Key→Int×Int×Int×Int
 |_,first,[]=>(0,0,0,first)
 |i,first,k :: ks=>if (f k).2.2=0 then ((i:Int),(f k).1,(f k).2.1,0) else fnG f (i+1) (if i=0 then (f k).2.2 else first) ks
def fstG (f:Key→Int×Int×Int) (ks:List Key) (i:Nat):Int:=if i=0 then 9 else (f (ks.getD 0 KeyT.dflt)).2.2
theorem z4K {α:Type} {l:List α} {i:Nat} (h:i<l.length) (d:α):l.drop i=l.getD i d :: l.drop (i+1):=by
 rw [List.drop_eq_getElem_cons h,List.getD_eq_getElem?_getD,List.getElem?_eq_getElem h]
 rfl
theorem z4i (ks:List Key) (kind:Int) (b:List UInt8) (now skew:Int) (hks:∀k∈ks,KeyT.ok k) (hkl:ks.length≤1000) (hb:b.length≤1048576):PC Tryz.prog 19 [.isl KeyT ks,.agg [rI kind,.isl .u8 b],rI now,rI skew] (fnO (fnG (fun k=>ckG k kind b now skew) 0 9 ks)):=by
 refine q0q rfl rfl ?_
 have hcc:=fun k ho=>q8O k kind b now skew ho hb
 generalize hF:(fun k=>ckG k kind b now skew)=F at*
 have hcc:∀k,KeyT.ok k→PC Tryz.prog 14 [.agg (KeyT.cells k),.agg [rI kind,.isl .u8 b],rI now,rI skew] (ckO (F k)):=by rw [←hF];exact hcc
 refine q0G fi19 ?_
 refine uQ 600 _ ?_
 with_reducible refine sxE ?_
 obtain ⟨R,hR⟩:∃R,R=fnG F 0 9 ks:=⟨_,rfl⟩
 rw [←hR]
 refine q1j (ι:=Nat) (fun i=>[(17,rI i),(12,rI (fstG F ks i))]) (fun i=>[.cells 27 [rI kind,.isl .u8 b]]) (fun i=>ks.length-i) (fun i=>i≤ks.length∧R=fnG F i (fstG F ks i) (ks.drop i)) 0 ⟨Nat.zero_le _,by rw [List.drop_zero];exact hR⟩ 1 rfl (by decide) (fun _=>rfl) (fun _=>rfl) (fun _=>rfl) ?_ ?_
 · with_reducible refine sxE ?_
   rfl
 rintro i ⟨hi,hRi⟩
 have hwr:=wsx i (by omega)
 by_cases h:i<ks.length
 · rw [z4K h KeyT.dflt] at hRi
   have hm:ks.getD i KeyT.dflt∈ks:=by
    rw [List.getD_eq_getElem?_getD,List.getElem?_eq_getElem h];exact List.getElem_mem _
   have hko:=hks _ hm
   have hf0:i=0→fstG F ks (i+1)=(F (ks.getD i KeyT.dflt)).2.2:=fun e=>by subst e;rfl
   have hf1:i≠0→fstG F ks (i+1)=fstG F ks i:=fun e=>by unfold fstG;rw [if_neg e,if_neg (by omega)]
   have f1:((i:Int) < (ks.length:Int))=True:=eq_true (by omega)
   generalize hk:ks.getD i KeyT.dflt=k at*
   have hc:=hcc k hko
   rw [fnG] at hRi
   generalize F k=x at*
   obtain ⟨kp,kv,kb⟩:=k
   obtain ⟨x1,x2,x3⟩:=x
   simp only [ckO] at hc
   refine uQ 600 _ ?_
   simp (maxSteps:=3000000) only [f1,hk,go_sem,↓zA,↓reduceIte,↓reduceDIte] <;>try simp only [zB]
   refine ⟨⟨by omega,h⟩,q0a hc ?_⟩
   dsimp only at hRi hf0
   by_cases c0:x3=0
   · rw [if_pos c0] at hRi
     subst c0
     refine uQ 600 _ ?_
     with_reducible refine sxE ?_
     rw [hRi]
     rfl
   have c0':(x3=0)=False:=eq_false c0
   rw [if_neg c0] at hRi
   by_cases ci:i=0
   · have ci':((i:Int)=0)=True:=eq_true (by omega)
     rw [if_pos ci,←hf0 ci] at hRi
     refine uQ 600 _ ?_
     simp (maxSteps:=3000000) only [c0',ci',go_sem,↓zA,↓reduceIte,↓reduceDIte] <;>try simp only [zB]
     refine ⟨i+1,⟨h,hRi⟩,by dsimp only;omega,⟨[_],rfl⟩,?_⟩
     rw [←hf0 ci]
     with_reducible refine sx1 hwr ?_;trivial
   have ci':((i:Int)=0)=False:=eq_false (by omega)
   rw [if_neg ci,←hf1 ci] at hRi
   refine uQ 600 _ ?_
   simp (maxSteps:=3000000) only [c0',ci',go_sem,↓zA,↓reduceIte,↓reduceDIte] <;>try simp only [zB]
   refine ⟨i+1,⟨h,hRi⟩,by dsimp only;omega,⟨[_],rfl⟩,?_⟩
   rw [←hf1 ci]
   with_reducible refine sx1 hwr ?_;trivial
 obtain rfl:i=ks.length:=by omega
 have f1:((ks.length:Int) < (ks.length:Int))=False:=eq_false (by omega)
 rw [List.drop_length] at hRi
 refine uQ 600 _ ?_
 simp (maxSteps:=3000000) only [f1,go_sem,↓zA,↓reduceIte,↓reduceDIte] <;>try simp only [zB]
 rw [hRi]
 rfl
def irx9 (r:Array Oper):XI:=⟨135,[.tmp 0],[(.reg [o1 0 (.mov (.const (.bool false)))])],r,[(.reg [o1 3 (.mov (ci 0))]),(.blk 0 (.loop (.seq (.seq (.reg [mv 18 3,o1 19 (.bin .lss 0 (.tmp 18) (ci 16))]) (.cond (.tmp 19) .skip (.exit 0))) (.seq (.blk 1 (.reg [mv 22 2,mv 23 3,o1 24 (.ia 1 (.tmp 22) (.tmp 23)),o0 (.st 1 (.tmp 24) (.const (.int .u8 2)))])) (.reg [mv 20 3,o1 21 (.bin .add 0 (.tmp 20) (ci 1)),mv 3 21]))))),(.reg [o1 26 (.ld (some 3) (.tmp 1)),mv 27 2,o1 28 (.call (.func 10) [(.tmp 26),(ci 1000),(ci 5),(.tmp 27)]),mv 25 28,ex 29 0 25,ex 30 1 25,o1 4 (.new 27 [(.int .i64 0),(.slice none 0 0)]),o0 (.st 2 (.tmp 4) (.tmp 29)),mv 5 30]),(.reg [mv 31 5,o1 32 (.call (.func 13) [(.tmp 31)]),o1 33 (.bin .neq 0 (.tmp 32) (ci 0)),mv 34 33,oF 35 (.fa 1 (.tmp 4)) 34,oF 36 (.ld none (.tmp 35)) 34,oF 37 (.len false (.tmp 36)) 34,oF 38 (.bin .neq 0 (.tmp 37) (ci 81)) 34,o1 39 (.pick (.tmp 34) (.const (.bool true)) (.tmp 38)),mv 40 39,oF 41 (.fa 0 (.tmp 4)) 40,oF 42 (.ld none (.tmp 41)) 40,oF 43 (.bin .neq 0 (.tmp 42) (ci 2)) 40,o1 44 (.pick (.tmp 40) (.const (.bool true)) (.tmp 43)),mv 45 44,oF 46 (.ld (some 3) (.tmp 1)) 45,oF 47 (.ld (some 2) (.tmp 4)) 45,oF 48 (.call (.func 23) [(.tmp 46),(.tmp 47),(ci 1300),(ci 300),(ci 1000),(ci 5),(ci 0)]) 45,oF 49 (.un .not (.tmp 48)) 45,o1 50 (.pick (.tmp 45) (.const (.bool true)) (.tmp 49)),mv 51 50,oF 52 (.ld (some 3) (.tmp 1)) 51,oF 53 (.ld (some 2) (.tmp 4)) 51,oF 54 (.call (.func 23) [(.tmp 52),(.tmp 53),(ci 1301),(ci 300),(ci 0),(ci 0),(ci 330)]) 51,oF 55 (.un .not (.tmp 54)) 51,o1 56 (.pick (.tmp 51) (.const (.bool true)) (.tmp 55)),mv 57 56,oF 58 (.ld (some 3) (.tmp 1)) 57,oF 59 (.ld (some 2) (.tmp 4)) 57,oF 60 (.call (.func 23) [(.tmp 58),(.tmp 59),(ci 1000),(.const (.int .i64 (-1))),(ci 0),(ci 0),(ci 2)]) 57,oF 61 (.un .not (.tmp 60)) 57,o1 62 (.pick (.tmp 57) (.const (.bool true)) (.tmp 61))]),(.cond (.tmp 62) (.seq (.reg [o1 0 (.mov (.const (.bool false)))]) .ret) .skip),(.drw [(true,o1 65 (.ld (some 3) (.tmp 1))),(true,o1 67 (.ld (some 2) (.tmp 4))),(false,o1 64 (.call (.func 22) [(.const (.int .u8 3)),(ci 3)])),(false,o1 66 (.bsl (.prod (.int .i64) (.prod (.int .i64) (.slice .u8))) 2 3 [(.int .i64 0),(.int .i64 0),(.slice none 0 0),(.int .i64 0),(.int .i64 0),(.slice none 0 0)] [(0,(.tmp 64)),(1,(.tmp 65))])),(false,o1 68 (.call (.func 19) [(.tmp 66),(.tmp 67),(ci 1000),(ci 0)])),(true,mv 63 68),(true,ex 69 0 63),(true,ex 70 1 63),(true,ex 71 2 63),(true,ex 72 3 63),(true,mv 6 69),(true,mv 7 70),(true,mv 8 71),(true,mv 9 72)]),(.reg [o1 74 (.ld (some 3) (.tmp 1)),mv 75 2,o1 76 (.call (.func 10) [(.tmp 74),(ci 1000),(ci 1000000),(.tmp 75)]),mv 73 76,ex 77 0 73,ex 78 1 73,o1 10 (.new 27 [(.int .i64 0),(.slice none 0 0)]),o0 (.st 2 (.tmp 10) (.tmp 77)),mv 11 78]),(.reg [o1 80 (.ld (some 3) (.tmp 1)),o1 81 (.call (.func 10) [(.tmp 80),(ci 1000),(ci 5),(.const (.slice none 0 0))]),mv 79 81,ex 82 0 79,ex 83 1 79,o1 12 (.new 27 [(.int .i64 0),(.slice none 0 0)]),o0 (.st 2 (.tmp 12) (.tmp 82)),mv 13 83]),(.reg [mv 84 6,o1 85 (.bin .neq 0 (.tmp 84) (ci 1)),mv 86 85,oF 87 (.mov (.tmp 7)) 86,oF 88 (.bin .neq 0 (.tmp 87) (ci 1000)) 86,o1 89 (.pick (.tmp 86) (.const (.bool true)) (.tmp 88)),mv 90 89,oF 91 (.mov (.tmp 8)) 90,oF 92 (.bin .neq 0 (.tmp 91) (ci 5)) 90,o1 93 (.pick (.tmp 90) (.const (.bool true)) (.tmp 92)),mv 94 93,oF 95 (.mov (.tmp 9)) 94,oF 96 (.call (.func 13) [(.tmp 95)]) 94,oF 97 (.bin .neq 0 (.tmp 96) (ci 0)) 94,o1 98 (.pick (.tmp 94) (.const (.bool true)) (.tmp 97)),mv 99 98,oF 100 (.mov (.tmp 11)) 99,oF 101 (.bin .neq 0 (.tmp 100) (ci 2)) 99,o1 102 (.pick (.tmp 99) (.const (.bool true)) (.tmp 101)),mv 103 102,oF 104 (.mov (.tmp 13)) 103,oF 105 (.bin .neq 0 (.tmp 104) (ci 2)) 103,o1 106 (.pick (.tmp 103) (.const (.bool true)) (.tmp 105))]),(.cond (.tmp 106) (.seq (.reg [o1 0 (.mov (.const (.bool false)))]) .ret) .skip),(.reg [o1 107 (.bsl .u8 0 1 [] []),o1 108 (.fa 1 (.tmp 4)),o1 109 (.ld none (.tmp 108)),o1 110 (.app .u8 1 (.tmp 107) (.tmp 109)),o1 111 (.bld [(.int .i64 0),(.slice none 0 0)] (.fields [(0,1),(1,1)]) [(0,(ci 2)),(1,(.tmp 110))]),o1 14 (.new 27 [(.int .i64 0),(.slice none 0 0)]),o0 (.st 2 (.tmp 14) (.tmp 111))]),(.reg [o1 112 (.fa 1 (.tmp 14)),o1 113 (.ld none (.tmp 112)),o1 114 (.ia 1 (.tmp 113) (ci 80)),o1 115 (.ld none (.tmp 114)),o1 116 (.bin .add 0 (.tmp 115) (.const (.int .u8 1))),o1 117 (.ia 1 (.tmp 113) (ci 80)),o0 (.st 1 (.tmp 117) (.tmp 116))]),(.reg [o1 118 (.fa 1 (.tmp 4)),o1 119 (.ld none (.tmp 118)),o1 120 (.sl (some 1) (.tmp 119) none (some (ci 80))),o1 121 (.bld [(.int .i64 0),(.slice none 0 0)] (.fields [(0,1),(1,1)]) [(0,(ci 2)),(1,(.tmp 120))]),o1 15 (.new 27 [(.int .i64 0),(.slice none 0 0)]),o0 (.st 2 (.tmp 15) (.tmp 121))]),(.drw [(true,o1 122 (.ld (some 3) (.tmp 1))),(true,o1 123 (.ld (some 2) (.tmp 14))),(false,o1 124 (.call (.func 23) [(.tmp 122),(.tmp 123),(ci 1000),(ci 0),(ci 0),(ci 0),(ci 10)])),(true,mv 125 124),(true,oT 126 (.ld (some 3) (.tmp 1)) 125),(true,oT 127 (.ld (some 2) (.tmp 15)) 125),(false,oT 128 (.call (.func 23) [(.tmp 126),(.tmp 127),(ci 1000),(ci 0),(ci 0),(ci 0),(ci 4)]) 125),(true,o1 129 (.pick (.tmp 125) (.tmp 128) (.const (.bool false)))),(true,mv 130 129),(true,oT 132 (.ld (some 2) (.tmp 4)) 130),(false,oT 131 (.call (.func 22) [(.const (.int .u8 1)),(ci 4)]) 130),(false,oT 133 (.call (.func 23) [(.tmp 131),(.tmp 132),(ci 1000),(ci 0),(ci 0),(ci 0),(ci 9)]) 130),(true,o1 134 (.pick (.tmp 130) (.tmp 133) (.const (.bool false)))),(true,mv 0 134)]),.ret]⟩
theorem fix9:xinfo Tryz.prog 9=some (irx9 (xreg Tryz.prog 9)):=by kernel_rfl
attribute [go_sem] irx9
def knT:List SV:=[.raw (.bool false),.ptr 0 0,.bld 1 .u8 16]++List.replicate 13 .any++ [.agg [rI 2,rI 3,.isl .u8 (k32 1)],.bld 1 .u8 16]++List.replicate 117 .any
def cfP (i:Nat):List UInt8:=List.replicate i 2++List.replicate (16-i) 0
theorem j2G {i:Nat} (hi:i≤16):(cfP i).length=16:=by simp [cfP];omega
theorem j2i {i:Nat} (hi:i<16):(cfP i).set i 2=cfP (i+1):=by
 unfold cfP
 rw [List.set_append_right _ _ (by simp)]
 simp only [List.length_replicate,Nat.sub_self]
 rw [show 16-i=(16- (i+1))+1 by omega,List.replicate_succ,List.set_cons_zero,List.replicate_succ',List.append_assoc]
 rfl
theorem mk1:PC Tryz.prog 10 [.agg (KeyT.cells (2,3,k32 1)),rI 1000,rI 5,.isl .u8 conf16] (.tup [.agg [rI 2,.isl .u8 el0],rI 0]):=by
 have h:=z0F (2,3,k32 1) 1000 5 conf16 ⟨trivial,trivial,⟨show (k32 1).length≤1125899906842624 by rw [q1A];decide,fun _ _=>trivial⟩⟩
 unfold mkG at h
 rw [if_pos ⟨by decide,by decide⟩,j1h,j1b 3] at h
 exact h
theorem mk2:PC Tryz.prog 10 [.agg (KeyT.cells (2,3,k32 1)),rI 1000,rI 5,.isl .u8 []] (.tup [.agg [rI 0,.isl .u8 []],rI 2]):=by
 have h:=z0F (2,3,k32 1) 1000 5 [] ⟨trivial,trivial,⟨show (k32 1).length≤1125899906842624 by rw [q1A];decide,fun _ _=>trivial⟩⟩
 rwa [j3m (by decide)] at h
theorem z3Q {F:Key→Int×Int×Int} {a b:Key} {x y:Int} (h1:F a=(0,0,10)) (h2:F b=(x,y,0)):fnG F 0 9 [a,b]=(1,x,y,0):=by
 rw [fnG,h1,if_neg (by decide),fnG,h2,if_pos rfl]
 rfl
theorem fn0:fnG (fun k=>ckG k 2 el0 1000 0) 0 9 [(2,3,k32 3),(2,3,k32 1)]=(1,1000,5,0):=z3Q ck5 ck4
theorem z1O (c:UInt8):(((UInt8.ofNat (IntKind.u8.wrap ((c.toNat:Int)+1)).toNat).toNat:Nat):Int)=IntKind.u8.wrap ((c.toNat:Int)+1):=by
 rw [u8wrapR,UInt8.toNat_ofNat']
 omega
theorem j3X (c:UInt8):UInt8.ofNat (IntKind.u8.wrap ((c.toNat:Int)+1)).toNat=c+1:=by
 apply UInt8.toNat_inj.mp
 have h:=z1O c
 rw [u8wrapR] at*
 rw [UInt8.toNat_add]
 have:(1:UInt8).toNat=1:=rfl
 omega
theorem q3G: @SoundI noGhost Tryz.prog (retF Tryz.prog [.tmp 0] (PK (rB true))) ⟨0,(irx9 #[]).post.map .ic,knT,[.cells 24 [rI 2,rI 3,.isl .u8 (k32 1)],.row .u8 (List.replicate 16 0)]⟩:=by
 letI:Ghost:=noGhost
 unfold knT
 refine uQ 600 _ ?_
 with_reducible refine sxE ?_
 refine q0i (ι:=Nat) (fun i=>[(3,rI i)]) (fun i=>[.cells 24 [rI 2,rI 3,.isl .u8 (k32 1)],.row .u8 (cfP i)]) (fun i=>16-i) (fun i=>i≤16) 0 (Nat.zero_le _) rfl ?_ ?_
 · with_reducible refine sxE ?_;trivial
 intro i hi
 have hl:=j2G hi
 have hwr:=wsx i (by omega)
 by_cases h:i<16
 · have f1:((i:Int) <16)=True:=eq_true (by omega)
   refine uQ 600 _ ?_
   simp (maxSteps:=3000000) only [f1,hl,Nat.zero_add,go_sem,↓zA,↓reduceIte,↓reduceDIte] <;>try simp only [zB]
   refine ⟨⟨by omega,by omega⟩,⟨by omega,by decide⟩,i+1,h,by dsimp only;omega,?_,?_⟩
   · rw [show UInt8.ofNat 2=2 from rfl,j2i h]
   with_reducible refine sx1 hwr ?_;trivial
 obtain rfl:i=16:=by omega
 have f1:(((16:Nat):Int) <16)=False:=eq_false (by omega)
 refine uQ 8 _ ?_
 simp (maxSteps:=3000000) only [f1,hl,go_sem,↓zA,↓reduceIte,↓reduceDIte] <;>try simp only [zB]
 refine q1B 1 rfl rfl (by rw [hl];decide) ?_ ?_ ?_
 · with_reducible refine sxE ?_;trivial
 · with_reducible refine sxE ?_
   omega
 with_reducible refine sxE ?_
 have hcf:List.take 16 (cfP 16)=conf16:=by decide
 rw [hcf]
 refine uQ 600 _ ?_
 with_reducible refine sxE ?_
 refine q0a mk1 ?_
 have hl81:=q4I
 refine uQ 600 _ ?_
 with_reducible refine sx1 hl81 ?_
 refine q0a (q6G 0) ?_
 have f81:(((81:Nat):Int)=81)=True:=eq_true rfl
 refine uQ 600 _ ?_
 simp (maxSteps:=3000000) only [hl81,f81,go_sem,↓zA,↓reduceIte,↓reduceDIte] <;>try simp only [zB]
 refine q0a (q2C 3 (k32 1) 2 el0 1300 300 1000 5 0 (by rw [q1A];decide) (by rw [hl81];decide)) ?_
 rw [ck1]
 refine uQ 600 _ ?_
 with_reducible refine sxE ?_
 refine q0a (q2C 3 (k32 1) 2 el0 1301 300 0 0 330 (by rw [q1A];decide) (by rw [hl81];decide)) ?_
 rw [ck2]
 refine uQ 600 _ ?_
 with_reducible refine sxE ?_
 refine q0a (q2C 3 (k32 1) 2 el0 1000 (-1) 0 0 2 (by rw [q1A];decide) (by rw [hl81];decide)) ?_
 rw [ck3]
 refine uQ 600 _ ?_
 with_reducible refine sxE ?_
 refine q0f (z6I 3 3) ?_
 refine uQ 600 _ ?_
 with_reducible refine sxE ?_
 refine q0D 3 (by decide) ?_
 with_reducible refine sxE ?_
 have hks:∀k∈ [((2,3,k32 3):Key),(2,3,k32 1)],KeyT.ok k:=by
  intro k hk
  rcases List.mem_cons.mp hk with rfl|hk
  · exact ⟨trivial,trivial,⟨show (k32 3).length≤1125899906842624 by rw [q1A];decide,fun _ _=>trivial⟩⟩
  obtain rfl:=List.mem_singleton.mp hk
  exact ⟨trivial,trivial,⟨show (k32 1).length≤1125899906842624 by rw [q1A];decide,fun _ _=>trivial⟩⟩
 refine q0f (z4i [(2,3,k32 3),(2,3,k32 1)] 2 el0 1000 0 hks (by decide) (by rw [hl81];decide)) ?_
 rw [fn0]
 simp only [fnO]
 refine uQ 600 _ ?_
 with_reducible refine sxE ?_
 refine q0a (z5b (2,3,k32 1) 1000 1000000 conf16 ⟨trivial,trivial,⟨show (k32 1).length≤1125899906842624 by rw [q1A];decide,fun _ _=>trivial⟩⟩ (by decide)) ?_
 refine uQ 600 _ ?_
 with_reducible refine sxE ?_
 refine q0a (mk2.arg ?_) ?_
 · with_reducible refine sxE ?_;trivial
 refine uQ 600 _ ?_
 with_reducible refine sxE ?_
 refine q0a (q6G 0) ?_
 refine uQ 600 _ ?_
 simp (maxSteps:=3000000) only [hl81,f81,go_sem,↓zA,↓reduceIte,↓reduceDIte] <;>try simp only [zB]
 refine ⟨z1O _,by omega,?_⟩
 rw [j3X,show el0.set 80 (el0.getD 80 Ty.u8.dflt+1)=elX from rfl]
 refine q9O 7 (args':=[.agg [rI 2,rI 3,.isl .u8 (k32 1)],.agg [rI 2,.isl .u8 elX],rI 1000,rI 0,rI 0,rI 0,rI 10]) ?_ rfl (q2C 3 (k32 1) 2 elX 1000 0 0 0 10 (by rw [q1A];decide) (by rw [z0A];decide)) ?_
 · unfold borrowC
   simp (maxSteps:=3000000) only [z0A,go_sem,↓zA,↓reduceIte,↓reduceDIte] <;>try simp only [zB]
   all_goals (first|rfl|decide|skip)
 rw [ck7]
 refine uQ 600 _ ?_
 with_reducible refine sxE ?_
 refine q0f (q2C 3 (k32 1) 2 (el0.take 80) 1000 0 0 0 4 (by rw [q1A];decide) (by rw [List.length_take,hl81];decide)) ?_
 rw [ck8]
 refine uQ 600 _ ?_
 with_reducible refine sxE ?_
 refine q0f (z6I 1 4) ?_
 refine uQ 600 _ ?_
 with_reducible refine sxE ?_
 refine q0f (q2C 4 (k32 1) 2 el0 1000 0 0 0 9 (by rw [q1A];decide) (by rw [hl81];decide)) ?_
 rw [ck6]
 refine uQ 600 _ ?_
 with_reducible refine sxE ?_;trivial
theorem q2i:PC Tryz.prog 9 [] (rB true):=by
 refine q0q rfl rfl ?_
 refine j4q fix9 ?_
 letI:Ghost:=noGhost
 refine uQ 600 _ ?_
 generalize hR:xreg Tryz.prog 9=R
 with_reducible refine sxE ?_
 subst hR
 intro id k hns hrel
 refine z7O (G:=[]) mixed (m:=5) (by kernel_rfl) ?_
 refine j2S (i:=0) (io:=⟨some 16,.call (.func 22) [.const (.int .u8 1),.const (.int .i64 3)],none⟩) (by kernel_rfl) (by kernel_rfl) (fun H'=>rfl) (by kernel_rfl) (s:=.agg [rI 2,rI 3,.isl .u8 (k32 1)]) (fun H' K hk=>((z6I 1 3).2 H' K hk).g) ?_
 refine j0i (i:=1) (j:=2) (io:=⟨some 17,.mks .u8 1 (.const (.int .i64 16)) (.const (.int .i64 16)),none⟩) (jo:=⟨some 1,.new 24 [.int .i64 0,.int .i64 0,.slice none 0 0],none⟩) (by kernel_rfl) (by kernel_rfl) (by kernel_rfl) ?_ ?_
 · refine ⟨by decide,q5H,?_⟩
   refine z1u (l:=[(false,⟨some 1,.new 24 [.int .i64 0,.int .i64 0,.slice none 0 0],none⟩),(false,⟨none,.st 3 (.tmp 1) (.tmp 16),none⟩),(true,⟨some 2,.mov (.tmp 17),none⟩)]) (by kernel_rfl) hrel ?_
   clear hrel hns
   refine uQ 4 _ ?_
   with_reducible refine sxE ?_
   refine j4g rfl (σ:=fun h=>if h=0 then 1 else if h=1 then 0 else h) ⟨?_,?_,rfl,rfl,rfl,rfl,Nat.zero_le _,fun _ h0=>absurd h0 (Nat.lt_irrefl 0)⟩ q3G
   · unfold knT
     repeat (first|exact trivial|exact rfl|refine And.intro ?_ ?_)
   repeat (first|exact trivial|exact rfl|refine And.intro ?_ ?_)
 refine ⟨trivial,q5H,?_⟩
 refine j0i (i:=1) (j:=3) (io:=⟨some 17,.mks .u8 1 (.const (.int .i64 16)) (.const (.int .i64 16)),none⟩) (jo:=⟨none,.st 3 (.tmp 1) (.tmp 16),none⟩) (by kernel_rfl) (by kernel_rfl) (by kernel_rfl) ?_ ?_
 · refine ⟨by decide,q5H,?_⟩
   refine z1u (l:=[(false,⟨none,.st 3 (.tmp 1) (.tmp 16),none⟩),(true,⟨some 2,.mov (.tmp 17),none⟩)]) (by kernel_rfl) hrel ?_
   clear hrel hns
   refine uQ 3 _ ?_
   with_reducible refine sxE ?_
   exact q3G
 refine ⟨q5H,?_⟩
 refine z1u (l:=[(false,⟨some 17,.mks .u8 1 (.const (.int .i64 16)) (.const (.int .i64 16)),none⟩),(true,⟨some 2,.mov (.tmp 17),none⟩)]) (by kernel_rfl) hrel ?_
 clear hrel hns
 refine uQ 3 _ ?_
 with_reducible refine sxE ?_
 exact q3G
end Go.Proofs.YtikapabgggphpaaGreatDoor
namespace Go.Proofs.YtikapabgggphpaaGreatDoor
open Go Go.Sx Go.Proofs
set_option maxRecDepth 100000
theorem q5N (n:Nat):(lenS n).length≤4:=by
 unfold lenS
 repeat' split
 all_goals simp
theorem z4g {m:Nat} {P:List UInt8→Except Nat (Int×Nat)} {c:List UInt8} {v:Int} (h:c.length≤16777215) (hp:P c= .ok (v,c.length)) (r:List UInt8):nbP m P (tlv (tagB m) c++r)= .ok (v,(tlv (tagB m) c).length):=by
 unfold nbP
 rw [z0i,if_pos rfl,q4n _ _ _ h,if_pos rfl,q4z _ _ _ h,hp]
 dsimp only
 rw [if_neg (Nat.lt_irrefl _),q4f _ _ _ h]
theorem j2L {t m:Int} (ht:0≤t∧t≤1099511627776) (hm:0≤m∧m<1000000):plnS t m=tlv 48 (tlv (tagB 0) (timeS t)++tlv (tagB 1) (intS m))∧(timeS t).length≤100∧(intS m).length≤100∧(tlv (tagB 0) (timeS t)++tlv (tagB 1) (intS m)).length≤1000:=by
 have h1:=z0g ht
 obtain ⟨c,hc,hcl,_⟩:=q7B (v:=m) ⟨hm.1,by omega⟩
 have hl1:(timeS t).length≤100:=by
  rw [h1,q1K,q0H]
  have:=q5N 6
  omega
 have hl2:(intS m).length≤100:=by
  rw [hc,q1K]
  have:=q5N c.length
  omega
 have n1:timeS t≠ []:=by rw [h1];simp [tlv]
 have n2:intS m≠ []:=by rw [hc];simp [tlv]
 have w1:=q5P (n:=0) (b:=timeS t) (by decide) (by omega)
 have w2:=q5P (n:=1) (b:=intS m) (by decide) (by omega)
 rw [if_neg n1] at w1
 rw [if_neg n2] at w2
 have hlen:(tlv (tagB 0) (timeS t)++tlv (tagB 1) (intS m)).length≤1000:=by
  have q1:=q5N (timeS t).length
  have q2:=q5N (intS m).length
  rw [List.length_append,q1K,q1K]
  omega
 refine ⟨?_,hl1,hl2,hlen⟩
 unfold plnS
 change elemS 48 [wrapS 160 ((0:Nat):Int) (timeS t),wrapS 160 ((1:Nat):Int) (intS m)]=_
 rw [w1,w2,q7s (by simpa using Nat.le_trans hlen (by decide))]
 simp
theorem j2I {t m:Int} (ht:0≤t∧t≤1099511627776) (hm:0≤m∧m<1000000):rdT (plnS t m)= .ok (t,m):=by
 obtain ⟨he,h1,h2,h3⟩:=j2L ht hm
 have e0:=q4n 48 (tlv (tagB 0) (timeS t)++tlv (tagB 1) (intS m)) [] (by omega)
 have ec:=q4z 48 (tlv (tagB 0) (timeS t)++tlv (tagB 1) (intS m)) [] (by omega)
 have en:=q4f 48 (tlv (tagB 0) (timeS t)++tlv (tagB 1) (intS m)) [] (by omega)
 rw [List.append_nil] at e0 ec en
 have hti:timeI (timeS t)= .ok (t,(timeS t).length):=by
  obtain ⟨n,rfl⟩:=Int.eq_ofNat_of_zero_le ht.1
  have:=z8Q (n:=n) (by omega) []
  rw [List.append_nil] at this
  unfold timeI
  rw [this]
 have hin:intP (intS m)= .ok (m,(intS m).length):=by
  have:=z0R (v:=m) ⟨hm.1,by omega⟩ []
  rwa [List.append_nil] at this
 have hn2:=z4g (m:=1) (by omega) hin []
 rw [List.append_nil] at hn2
 unfold rdT
 rw [he,e0,if_pos rfl,en,if_neg (Nat.lt_irrefl _),ec,z4g (by omega) hti]
 dsimp only
 rw [List.drop_left,hn2]
 dsimp only
 rw [List.length_append,if_neg (Nat.lt_irrefl _)]
theorem j0r (k:Key) (u:Nat) (conf plain:List UInt8) (hc:conf.length=16):unS k u (ciS k u conf plain)=plain:=by
 unfold unS ciS
 by_cases h:k.1=1
 · rw [if_pos h,if_pos h,j0M _ _ _ rfl (by rw [List.length_append];omega),List.drop_left' hc]
 rw [if_neg h,if_neg h,List.take_left' hc,List.drop_left' hc,z7e]
theorem j4t (k:Key) (u:Nat) (conf plain:List UInt8) (hu:uOk k u=true) (hc:conf.length=16) (hp:plain.length≤65536):opS k u k.1 k.2.1 (seS k u conf plain)=(plain,0):=by
 obtain ⟨_,_,_,_,h1,h2⟩:=q2z hu
 have hcl:=z1k k u conf plain hc
 have htl:(tg9S k u (ciS k u conf plain)).length=k.2.2.length:=by
  rw [z3g]
  split
  · rename_i h;rw [h1 h]
  rename_i h;rw [(h2 h).2]
 have hsl:(seS k u conf plain).length=16+plain.length+k.2.2.length:=by
  unfold seS
  rw [List.length_append,hcl,htl]
 have e1:(seS k u conf plain).length-k.2.2.length=(ciS k u conf plain).length:=by omega
 unfold opS
 rw [if_pos hu,if_pos ⟨rfl,.inl rfl⟩,if_neg (by omega),if_neg (by omega),e1]
 unfold seS
 rw [List.take_left,List.drop_left,if_pos rfl,j0r k u conf plain hc]
end Go.Proofs.YtikapabgggphpaaGreatDoor
namespace Go.Proofs.YtikapabgggphpaaGreatDoor
open Go Go.Sx Go.Proofs
set_option maxRecDepth 100000
set_option maxHeartbeats 40000000
theorem j0f (k:Key) (u:Nat) (conf plain:List UInt8) (hc:conf.length=16):(seS k u conf plain).length≤48+plain.length:=by
 unfold seS
 rw [List.length_append,z1k _ _ _ _ hc,z3g]
 split<;>omega
theorem j4p (k:Key) (t m now skew:Int) (conf:List UInt8) (hv:mkOk k t m=true) (hc:conf.length=16) (hn:0≤now∧now≤1099511627776) (hs:0≤skew∧skew≤1099511627776):
 ckG k 2 (keyS (k.1,k.2.1,seS k 1 conf (plnS t m))) now skew=if skew<mxV true (t-now) (now-t) then (0,0,330) else (t,m,0):=by
 unfold mkOk at hv
 simp only [Bool.and_eq_true,decide_eq_true_eq] at hv
 obtain ⟨h1,h2,h3,h4,h5⟩:=hv
 have hu:uOk k (1:Nat)=true:=by unfold uOk;rw [h1];decide
 obtain ⟨_,_,_,_,hp1,hp2⟩:=q2z hu
 have hps:=z1s t m
 have hsl:=j0f k 1 conf (plnS t m) hc
 have hver:0≤k.2.1∧k.2.1≤65535:=by
  unfold vKey at h1
  simp only [Bool.and_eq_true,decide_eq_true_eq] at h1
  exact ⟨h1.2.2.1,h1.2.2.2⟩
 have hkp:0≤k.1∧k.1≤1048576:=by
  by_cases h:k.1=1
  · rw [h];decide
  rw [(hp2 h).1];decide
 have hkey:=j1f k.1 k.2.1 (seS k 1 conf (plnS t m)) hkp ⟨hver.1,Int.le_trans hver.2 (by decide)⟩ (by omega) []
 rw [List.append_nil] at hkey
 have hop:=j4t k 1 conf (plnS t m) hu hc (by omega)
 have hrd:=j2I (t:=t) (m:=m) ⟨h2,h3⟩ ⟨h4,h5⟩
 have ha:argOk k 2 now skew=true:=by
  unfold argOk
  simp [h1,hn.1,hn.2,hs.1,hs.2]
 unfold ckG
 rw [if_pos ha,hkey]
 dsimp only
 rw [if_neg (Nat.lt_irrefl _),hop,if_pos rfl]
 unfold ckP
 rw [hrd]
 dsimp only
 unfold ckT
 rw [if_neg (by omega),wrapi (by omega),wrapi (by omega)]
theorem j4d (k:Key) (c:List UInt8) (hc:c.length≤1000):(keyS (k.1,k.2.1,c)).length≤2000:=by
 have:=z8G k.1 k.2.1 c
 omega
theorem j0v (k:Key) (t m:Int) (conf:List UInt8) (now skew:Int) (hko:KeyT.ok k):PC Tryz.prog 7 [.agg (KeyT.cells k),rI t,rI m,.isl .u8 conf,rI now,rI skew] (rB true):=by
 by_cases c0:40<k.2.2.length
 · have f0:((40:Int) < ((k.2.2.length:Nat):Int))=True:=eq_true (by omega)
   obtain ⟨p,v,b⟩:=k
   dsimp only at f0
   refine q0q rfl rfl ?_
   refine q0G fi7 (q0s mixed 600 _ ?_)
   simp (maxSteps:=3000000) only [ir7,f0,go_sem,↓zA,↓reduceIte,↓reduceDIte] <;>try simp only [zB]
   refine q0a q2i ?_
   refine gQ ?_;trivial
 have f0:((40:Int) < ((k.2.2.length:Nat):Int))=False:=eq_false (by omega)
 by_cases c1:now<0
 · have f1:(now<0)=True:=eq_true c1
   obtain ⟨p,v,b⟩:=k
   dsimp only at f0
   refine q0q rfl rfl ?_
   refine q0G fi7 (q0s mixed 600 _ ?_)
   simp (maxSteps:=3000000) only [ir7,f0,f1,go_sem,↓zA,↓reduceIte,↓reduceDIte] <;>try simp only [zB]
   refine q0a q2i ?_
   refine gQ ?_;trivial
 have f1:(now<0)=False:=eq_false c1
 by_cases c2:1099511627776<now
 · have f2:(1099511627776<now)=True:=eq_true c2
   obtain ⟨p,v,b⟩:=k
   dsimp only at f0
   refine q0q rfl rfl ?_
   refine q0G fi7 (q0s mixed 600 _ ?_)
   simp (maxSteps:=3000000) only [ir7,f0,f1,f2,go_sem,↓zA,↓reduceIte,↓reduceDIte] <;>try simp only [zB]
   refine q0a q2i ?_
   refine gQ ?_;trivial
 have f2:(1099511627776<now)=False:=eq_false c2
 by_cases c3:skew<0
 · have f3:(skew<0)=True:=eq_true c3
   obtain ⟨p,v,b⟩:=k
   dsimp only at f0
   refine q0q rfl rfl ?_
   refine q0G fi7 (q0s mixed 600 _ ?_)
   simp (maxSteps:=3000000) only [ir7,f0,f1,f2,f3,go_sem,↓zA,↓reduceIte,↓reduceDIte] <;>try simp only [zB]
   refine q0a q2i ?_
   refine gQ ?_;trivial
 have f3:(skew<0)=False:=eq_false c3
 by_cases c4:1099511627776<skew
 · have f4:(1099511627776<skew)=True:=eq_true c4
   obtain ⟨p,v,b⟩:=k
   dsimp only at f0
   refine q0q rfl rfl ?_
   refine q0G fi7 (q0s mixed 600 _ ?_)
   simp (maxSteps:=3000000) only [ir7,f0,f1,f2,f3,f4,go_sem,↓zA,↓reduceIte,↓reduceDIte] <;>try simp only [zB]
   refine q0a q2i ?_
   refine gQ ?_;trivial
 have f4:(1099511627776<skew)=False:=eq_false c4
 have hmk:=z0F k t m conf hko
 unfold mkG at hmk
 by_cases hg:mkOk k t m=true∧conf.length=16
 · rw [if_pos hg] at hmk
   have hce:=j4p k t m now skew conf hg.1 hg.2 ⟨by omega,by omega⟩ ⟨by omega,by omega⟩
   have hyl:=j4d k (seS k 1 conf (plnS t m)) (by have h1:=j0f k 1 conf (plnS t m) hg.2;have h2:=z1s t m;omega)
   have htm:0≤t∧t≤1099511627776:=by
    have:=hg.1
    unfold mkOk at this
    simp only [Bool.and_eq_true,decide_eq_true_eq] at this
    exact ⟨this.2.1,this.2.2.1⟩
   generalize keyS (k.1,k.2.1,seS k 1 conf (plnS t m))=y at*
   have hck:=q8O k 2 y now skew hko (by omega)
   have hfi:=z4i [k] 2 y now skew (fun x hx=>by rw [List.mem_singleton.1 hx];exact hko) (by simp) (by omega)
   have e5:IntKind.i64.wrap (t-now)=t-now:=wrapi (by omega)
   have e6:IntKind.i64.wrap (now-t)=now-t:=wrapi (by omega)
   by_cases c6:skew<mxV true (t-now) (now-t)
   · have f6:(mxV true (t-now) (now-t)≤skew)=False:=eq_false (by omega)
     rw [if_pos c6] at hce
     rw [hce] at hck
     rw [show fnG (fun k=>ckG k 2 y now skew) 0 9 [k]=(0,0,0,330) by rw [fnG,hce];rfl] at hfi
     obtain ⟨p,v,b⟩:=k
     dsimp only at f0
     simp only [ckO,fnO] at hck hfi
     refine q0q rfl rfl ?_
     refine q0G fi7 (q0s mixed 600 _ ?_)
     simp (maxSteps:=3000000) only [ir7,f0,f1,f2,f3,f4,go_sem,↓zA,↓reduceIte,↓reduceDIte] <;>try simp only [zB]
     refine q0a hmk ?_
     refine gQ ?_
     refine q0a (q6G 0) ?_
     refine gQ ?_
     refine q0a hck ?_
     refine gQ ?_
     refine q0p 2 ?_
     with_reducible refine sxE ?_
     refine q0a hfi ?_
     refine uQ 600 _ ?_
     simp (maxSteps:=3000000) only [e5,e6,f6,go_sem,↓zA,↓reduceIte,↓reduceDIte] <;>try simp only [zB]
     refine q0a q2i ?_
     refine gQ ?_;trivial
   have f6:(mxV true (t-now) (now-t)≤skew)=True:=eq_true (by omega)
   rw [if_neg c6] at hce
   rw [hce] at hck
   rw [show fnG (fun k=>ckG k 2 y now skew) 0 9 [k]=(0,t,m,0) by rw [fnG,hce];rfl] at hfi
   obtain ⟨p,v,b⟩:=k
   dsimp only at f0
   simp only [ckO,fnO] at hck hfi
   refine q0q rfl rfl ?_
   refine q0G fi7 (q0s mixed 600 _ ?_)
   simp (maxSteps:=3000000) only [ir7,f0,f1,f2,f3,f4,go_sem,↓zA,↓reduceIte,↓reduceDIte] <;>try simp only [zB]
   refine q0a hmk ?_
   refine gQ ?_
   refine q0a (q6G 0) ?_
   refine gQ ?_
   refine q0a hck ?_
   refine gQ ?_
   refine q0p 2 ?_
   with_reducible refine sxE ?_
   refine q0a hfi ?_
   refine uQ 600 _ ?_
   simp (maxSteps:=3000000) only [e5,e6,f6,go_sem,↓zA,↓reduceIte,↓reduceDIte] <;>try simp only [zB]
   refine q0a (q6G 0) ?_
   refine gQ ?_
   refine q0a q2i ?_
   refine gQ ?_;trivial
 rw [if_neg hg] at hmk
 obtain ⟨p,v,b⟩:=k
 dsimp only at f0
 refine q0q rfl rfl ?_
 refine q0G fi7 (q0s mixed 600 _ ?_)
 simp (maxSteps:=3000000) only [ir7,f0,f1,f2,f3,f4,go_sem,↓zA,↓reduceIte,↓reduceDIte] <;>try simp only [zB]
 refine q0a hmk ?_
 refine gQ ?_
 refine q0a (q6G 2) ?_
 refine gQ ?_
 refine q0a q2i ?_
 refine gQ ?_;trivial
end Go.Proofs.YtikapabgggphpaaGreatDoor
