/- Timestamps: the law's examples hold. -/
import Derived.Test.YtikapabgggphpaaGreatDoorP30
import Derived.Test.YtikapabgggphpaaGreatDoorP25
import Derived.Test.YtikapabgggphpaaGreatDoorP26
import Derived.Test.YtikapabgggphpaaGreatDoorP28
import Derived.Test.YtikapabgggphpaaGreatDoorP27
import Derived.Test.YtikapabgggphpaaGreatDoorP29
import Derived.Test.YtikapabgggphpaaGreatDoorP20
set_option linter.all false
namespace Go.Proofs.YtikapabgggphpaaGreatDoor
open Go Go.Sx Go.Proofs
set_option maxRecDepth 100000
set_option maxHeartbeats 40000000
def irx9(r:Array Oper):XI:=⟨135,[.tmp 0],[(.reg [o1 0 (.mov (.const (.bool false)))])],r,[(.reg [o1 3 (.mov (ci 0))]),(.blk 0 (.loop (.seq (.seq (.reg [mv 18 3,o1 19 (.bin .lss 0 (.tmp 18) (ci 16))]) (.cond (.tmp 19) .skip (.exit 0))) (.seq (.blk 1 (.reg [mv 22 2,mv 23 3,o1 24 (.ia 1 (.tmp 22) (.tmp 23)),o0 (.st 1 (.tmp 24) (.const (.int .u8 2)))])) (.reg [mv 20 3,o1 21 (.bin .add 0 (.tmp 20) (ci 1)),mv 3 21]))))),(.reg [o1 26 (.ld (some 3) (.tmp 1)),mv 27 2,o1 28 (.call (.func 10) [(.tmp 26),(ci 1000),(ci 5),(.tmp 27)]),mv 25 28,ex 29 0 25,ex 30 1 25,o1 4 (.new 27 [(.int .i64 0),(.slice none 0 0)]),o0 (.st 2 (.tmp 4) (.tmp 29)),mv 5 30]),(.reg [mv 31 5,o1 32 (.call (.func 13) [(.tmp 31)]),o1 33 (.bin .neq 0 (.tmp 32) (ci 0)),mv 34 33,oF 35 (.fa 1 (.tmp 4)) 34,oF 36 (.ld none (.tmp 35)) 34,oF 37 (.len false (.tmp 36)) 34,oF 38 (.bin .neq 0 (.tmp 37) (ci 81)) 34,o1 39 (.pick (.tmp 34) (.const (.bool true)) (.tmp 38)),mv 40 39,oF 41 (.fa 0 (.tmp 4)) 40,oF 42 (.ld none (.tmp 41)) 40,oF 43 (.bin .neq 0 (.tmp 42) (ci 2)) 40,o1 44 (.pick (.tmp 40) (.const (.bool true)) (.tmp 43)),mv 45 44,oF 46 (.ld (some 3) (.tmp 1)) 45,oF 47 (.ld (some 2) (.tmp 4)) 45,oF 48 (.call (.func 23) [(.tmp 46),(.tmp 47),(ci 1300),(ci 300),(ci 1000),(ci 5),(ci 0)]) 45,oF 49 (.un .not (.tmp 48)) 45,o1 50 (.pick (.tmp 45) (.const (.bool true)) (.tmp 49)),mv 51 50,oF 52 (.ld (some 3) (.tmp 1)) 51,oF 53 (.ld (some 2) (.tmp 4)) 51,oF 54 (.call (.func 23) [(.tmp 52),(.tmp 53),(ci 1301),(ci 300),(ci 0),(ci 0),(ci 330)]) 51,oF 55 (.un .not (.tmp 54)) 51,o1 56 (.pick (.tmp 51) (.const (.bool true)) (.tmp 55)),mv 57 56,oF 58 (.ld (some 3) (.tmp 1)) 57,oF 59 (.ld (some 2) (.tmp 4)) 57,oF 60 (.call (.func 23) [(.tmp 58),(.tmp 59),(ci 1000),(.const (.int .i64 (-1))),(ci 0),(ci 0),(ci 2)]) 57,oF 61 (.un .not (.tmp 60)) 57,o1 62 (.pick (.tmp 57) (.const (.bool true)) (.tmp 61))]),(.cond (.tmp 62) (.seq (.reg [o1 0 (.mov (.const (.bool false)))]) .ret) .skip),(.drw [(true,o1 65 (.ld (some 3) (.tmp 1))),(true,o1 67 (.ld (some 2) (.tmp 4))),(false,o1 64 (.call (.func 22) [(.const (.int .u8 3)),(ci 3)])),(false,o1 66 (.bsl (.prod (.int .i64) (.prod (.int .i64) (.slice .u8))) 2 3 [(.int .i64 0),(.int .i64 0),(.slice none 0 0),(.int .i64 0),(.int .i64 0),(.slice none 0 0)] [(0,(.tmp 64)),(1,(.tmp 65))])),(false,o1 68 (.call (.func 19) [(.tmp 66),(.tmp 67),(ci 1000),(ci 0)])),(true,mv 63 68),(true,ex 69 0 63),(true,ex 70 1 63),(true,ex 71 2 63),(true,ex 72 3 63),(true,mv 6 69),(true,mv 7 70),(true,mv 8 71),(true,mv 9 72)]),(.reg [o1 74 (.ld (some 3) (.tmp 1)),mv 75 2,o1 76 (.call (.func 10) [(.tmp 74),(ci 1000),(ci 1000000),(.tmp 75)]),mv 73 76,ex 77 0 73,ex 78 1 73,o1 10 (.new 27 [(.int .i64 0),(.slice none 0 0)]),o0 (.st 2 (.tmp 10) (.tmp 77)),mv 11 78]),(.reg [o1 80 (.ld (some 3) (.tmp 1)),o1 81 (.call (.func 10) [(.tmp 80),(ci 1000),(ci 5),(.const (.slice none 0 0))]),mv 79 81,ex 82 0 79,ex 83 1 79,o1 12 (.new 27 [(.int .i64 0),(.slice none 0 0)]),o0 (.st 2 (.tmp 12) (.tmp 82)),mv 13 83]),(.reg [mv 84 6,o1 85 (.bin .neq 0 (.tmp 84) (ci 1)),mv 86 85,oF 87 (.mov (.tmp 7)) 86,oF 88 (.bin .neq 0 (.tmp 87) (ci 1000)) 86,o1 89 (.pick (.tmp 86) (.const (.bool true)) (.tmp 88)),mv 90 89,oF 91 (.mov (.tmp 8)) 90,oF 92 (.bin .neq 0 (.tmp 91) (ci 5)) 90,o1 93 (.pick (.tmp 90) (.const (.bool true)) (.tmp 92)),mv 94 93,oF 95 (.mov (.tmp 9)) 94,oF 96 (.call (.func 13) [(.tmp 95)]) 94,oF 97 (.bin .neq 0 (.tmp 96) (ci 0)) 94,o1 98 (.pick (.tmp 94) (.const (.bool true)) (.tmp 97)),mv 99 98,oF 100 (.mov (.tmp 11)) 99,oF 101 (.bin .neq 0 (.tmp 100) (ci 2)) 99,o1 102 (.pick (.tmp 99) (.const (.bool true)) (.tmp 101)),mv 103 102,oF 104 (.mov (.tmp 13)) 103,oF 105 (.bin .neq 0 (.tmp 104) (ci 2)) 103,o1 106 (.pick (.tmp 103) (.const (.bool true)) (.tmp 105))]),(.cond (.tmp 106) (.seq (.reg [o1 0 (.mov (.const (.bool false)))]) .ret) .skip),(.reg [o1 107 (.bsl .u8 0 1 [] []),o1 108 (.fa 1 (.tmp 4)),o1 109 (.ld none (.tmp 108)),o1 110 (.app .u8 1 (.tmp 107) (.tmp 109)),o1 111 (.bld [(.int .i64 0),(.slice none 0 0)] (.fields [(0,1),(1,1)]) [(0,(ci 2)),(1,(.tmp 110))]),o1 14 (.new 27 [(.int .i64 0),(.slice none 0 0)]),o0 (.st 2 (.tmp 14) (.tmp 111))]),(.reg [o1 112 (.fa 1 (.tmp 14)),o1 113 (.ld none (.tmp 112)),o1 114 (.ia 1 (.tmp 113) (ci 80)),o1 115 (.ld none (.tmp 114)),o1 116 (.bin .add 0 (.tmp 115) (.const (.int .u8 1))),o1 117 (.ia 1 (.tmp 113) (ci 80)),o0 (.st 1 (.tmp 117) (.tmp 116))]),(.reg [o1 118 (.fa 1 (.tmp 4)),o1 119 (.ld none (.tmp 118)),o1 120 (.sl (some 1) (.tmp 119) none (some (ci 80))),o1 121 (.bld [(.int .i64 0),(.slice none 0 0)] (.fields [(0,1),(1,1)]) [(0,(ci 2)),(1,(.tmp 120))]),o1 15 (.new 27 [(.int .i64 0),(.slice none 0 0)]),o0 (.st 2 (.tmp 15) (.tmp 121))]),(.drw [(true,o1 122 (.ld (some 3) (.tmp 1))),(true,o1 123 (.ld (some 2) (.tmp 14))),(false,o1 124 (.call (.func 23) [(.tmp 122),(.tmp 123),(ci 1000),(ci 0),(ci 0),(ci 0),(ci 10)])),(true,mv 125 124),(true,oT 126 (.ld (some 3) (.tmp 1)) 125),(true,oT 127 (.ld (some 2) (.tmp 15)) 125),(false,oT 128 (.call (.func 23) [(.tmp 126),(.tmp 127),(ci 1000),(ci 0),(ci 0),(ci 0),(ci 4)]) 125),(true,o1 129 (.pick (.tmp 125) (.tmp 128) (.const (.bool false)))),(true,mv 130 129),(true,oT 132 (.ld (some 2) (.tmp 4)) 130),(false,oT 131 (.call (.func 22) [(.const (.int .u8 1)),(ci 4)]) 130),(false,oT 133 (.call (.func 23) [(.tmp 131),(.tmp 132),(ci 1000),(ci 0),(ci 0),(ci 0),(ci 9)]) 130),(true,o1 134 (.pick (.tmp 130) (.tmp 133) (.const (.bool false)))),(true,mv 0 134)]),.ret]⟩
theorem fix9:xinfo Tryz.prog 9=some (irx9 (xreg Tryz.prog 9)):=by kernel_rfl
attribute [go_sem] irx9
def knT:List SV:=[.raw (.bool false),.ptr 0 0,.bld 1 .u8 16]++List.replicate 13 .any++ [.agg [rI 2,rI 3,.isl .u8 (k32 1)],.bld 1 .u8 16]++List.replicate 117 .any
def cfP(i:Nat):List UInt8:=List.replicate i 2++List.replicate (16-i) 0
theorem j0U{i:Nat}(hi:i≤16):(cfP i).length=16:=by simp [cfP];omega
theorem j2y{i:Nat}(hi:i<16):(cfP i).set i 2=cfP (i+1):=by
 unfold cfP;rw [Cj _ _ (by simp)]
 simp only [Bw,Nat.sub_self];rw [show 16-i=(16- (i+1))+1 by omega,BL,Cb,BH,List.append_assoc]
 rfl
theorem mk1:PC Tryz.prog 10 [.agg (KeyT.cells (2,3,k32 1)),rI 1000,rI 5,.isl .u8 conf16] (.tup [.agg [rI 2,.isl .u8 el0],rI 0]):=by
 have h:=z1W (2,3,k32 1) 1000 5 conf16 ⟨trivial,trivial,⟨show (k32 1).length≤1125899906842624 by rw [q1H];decide,fun _ _=>trivial⟩⟩
 unfold mkG at h;rw [if_pos ⟨by decide,by decide⟩,j1c,j3z 3] at h
 exact h
theorem mk2:PC Tryz.prog 10 [.agg (KeyT.cells (2,3,k32 1)),rI 1000,rI 5,.isl .u8 []] (.tup [.agg [rI 0,.isl .u8 []],rI 2]):=by
 have h:=z1W (2,3,k32 1) 1000 5 [] ⟨trivial,trivial,⟨show (k32 1).length≤1125899906842624 by rw [q1H];decide,fun _ _=>trivial⟩⟩
 rwa [j4j (by decide)] at h
theorem z3B{F:Key→Int×Int×Int}{a b:Key}{x y:Int}(h1:F a=(0,0,10))(h2:F b=(x,y,0)):fnG F 0 9 [a,b]=(1,x,y,0):=by
 rw [fnG,h1,if_neg (by decide),fnG,h2,if_pos rfl]
 rfl
theorem fn0:fnG (fun k=>ckG k 2 el0 1000 0) 0 9 [(2,3,k32 3),(2,3,k32 1)]=(1,1000,5,0):=z3B ck5 ck4
theorem z2J(c:UInt8):(((UInt8.ofNat (IntKind.u8.wrap ((c.toNat:Int)+1)).toNat).toNat:Nat):Int)=IntKind.u8.wrap ((c.toNat:Int)+1):=by
 rw [u8wrapR,BP];omega
theorem j3W(c:UInt8):UInt8.ofNat (IntKind.u8.wrap ((c.toNat:Int)+1)).toNat=c+1:=by
 apply BX.mp;have h:=z2J c;rw [u8wrapR] at*;rw [UInt8.toNat_add];have:(1:UInt8).toNat=1:=rfl;omega
theorem q4k: @SoundI noGhost Tryz.prog (retF Tryz.prog [.tmp 0] (PK (rB true))) ⟨0,(irx9 #[]).post.map .ic,knT,[.cells 24 [rI 2,rI 3,.isl .u8 (k32 1)],.row .u8 (List.replicate 16 0)]⟩:=by
 letI:Ghost:=noGhost
 unfold knT;refine uQ 600 _ ?_
 with_reducible refine sxE ?_
 refine q0f (ι:=Nat) (fun i=>[(3,rI i)]) (fun i=>[.cells 24 [rI 2,rI 3,.isl .u8 (k32 1)],.row .u8 (cfP i)]) (fun i=>16-i) (fun i=>i≤16) 0 (Aj _) rfl ?_ ?_
 · with_reducible refine sxE ?_;trivial
 intro i hi;have hl:=j0U hi;have hwr:=wsx i (by omega)
 by_cases h:i<16
 · have f1:((i:Int) <16)=True:=eq_true (by omega)
   refine gy3 f1 hl Ac ?_;refine ⟨⟨by omega,by omega⟩,⟨by omega,by decide⟩,i+1,h,by dsimp only;omega,?_,?_⟩
   · rw [show UInt8.ofNat 2=2 from rfl,j2y h]
   with_reducible refine sx1 hwr ?_;trivial
 obtain rfl:i=16:=by omega
 have f1:(((16:Nat):Int) <16)=False:=eq_false (by omega)
 refine uQ 8 _ ?_
 with_reducible refine sy2 f1 hl ?_
 refine q1b 1 rfl rfl (by rw [hl];decide) ?_ ?_ ?_
 · with_reducible refine sxE ?_;trivial
 · with_reducible refine sxE ?_
   omega
 with_reducible refine sxE ?_
 have hcf:List.take 16 (cfP 16)=conf16:=by decide
 rw [hcf];refine uQ 600 _ ?_
 with_reducible refine sxE ?_
 refine q0a mk1 ?_;have hl81:=q5d;refine gy1 hl81 ?_;refine q0a (z2V 0) ?_;have f81:(((81:Nat):Int)=81)=True:=eq_true rfl;refine gy2 hl81 f81 ?_;refine q0a (q2S 3 (k32 1) 2 el0 1300 300 1000 5 0 (by rw [q1H];decide) (by rw [hl81];decide)) ?_
 rw [ck1];refine uQ 600 _ ?_
 with_reducible refine sxE ?_
 refine q0a (q2S 3 (k32 1) 2 el0 1301 300 0 0 330 (by rw [q1H];decide) (by rw [hl81];decide)) ?_
 rw [ck2];refine uQ 600 _ ?_
 with_reducible refine sxE ?_
 refine q0a (q2S 3 (k32 1) 2 el0 1000 (-1) 0 0 2 (by rw [q1H];decide) (by rw [hl81];decide)) ?_
 rw [ck3];refine uQ 600 _ ?_
 with_reducible refine sxE ?_
 refine q0b (z7y 3 3) ?_;refine uQ 600 _ ?_
 with_reducible refine sxE ?_
 refine q0r 3 (by decide) ?_
 with_reducible refine sxE ?_
 have hks:∀k∈ [((2,3,k32 3):Key),(2,3,k32 1)],KeyT.ok k:=by
  intro k hk;rcases Bq.mp hk with rfl|hk
  · exact ⟨trivial,trivial,⟨show (k32 3).length≤1125899906842624 by rw [q1H];decide,fun _ _=>trivial⟩⟩
  obtain rfl:=Cy.mp hk;exact ⟨trivial,trivial,⟨show (k32 1).length≤1125899906842624 by rw [q1H];decide,fun _ _=>trivial⟩⟩
 refine q0b (j2l [(2,3,k32 3),(2,3,k32 1)] 2 el0 1000 0 hks (by decide) (by rw [hl81];decide)) ?_
 rw [fn0];simp only [fnO];refine uQ 600 _ ?_
 with_reducible refine sxE ?_
 refine q0a (z5X (2,3,k32 1) 1000 1000000 conf16 ⟨trivial,trivial,⟨show (k32 1).length≤1125899906842624 by rw [q1H];decide,fun _ _=>trivial⟩⟩ (by decide)) ?_
 refine uQ 600 _ ?_
 with_reducible refine sxE ?_
 refine q0a (mk2.arg ?_) ?_
 · with_reducible refine sxE ?_;trivial
 refine uQ 600 _ ?_
 with_reducible refine sxE ?_
 refine q0a (z2V 0) ?_;refine gy2 hl81 f81 ?_;refine ⟨z2J _,by omega,?_⟩
 rw [j3W,show el0.set 80 (el0.getD 80 Ty.u8.dflt+1)=elX from rfl]
 refine z0z 7 (args':=[.agg [rI 2,rI 3,.isl .u8 (k32 1)],.agg [rI 2,.isl .u8 elX],rI 1000,rI 0,rI 0,rI 0,rI 10]) ?_ rfl (q2S 3 (k32 1) 2 elX 1000 0 0 0 10 (by rw [q1H];decide) (by rw [z1T];decide)) ?_
 · unfold borrowC;simp (maxSteps:=3000000) only [z1T,go_sem,↓zA,↓reduceIte,↓reduceDIte] <;>try simp only [zB]
   all_goals (first|rfl|decide|skip)
 rw [ck7];refine uQ 600 _ ?_
 with_reducible refine sxE ?_
 refine q0b (q2S 3 (k32 1) 2 (el0.take 80) 1000 0 0 0 4 (by rw [q1H];decide) (by rw [Ak,hl81];decide)) ?_
 rw [ck8];refine uQ 600 _ ?_
 with_reducible refine sxE ?_
 refine q0b (z7y 1 4) ?_;refine uQ 600 _ ?_
 with_reducible refine sxE ?_
 refine q0b (q2S 4 (k32 1) 2 el0 1000 0 0 0 9 (by rw [q1H];decide) (by rw [hl81];decide)) ?_
 rw [ck6];refine uQ 600 _ ?_
 with_reducible refine sxE ?_;trivial
theorem q8p:PC Tryz.prog 9 [] (rB true):=by
 refine q0q rfl rfl ?_;refine j5n fix9 ?_
 letI:Ghost:=noGhost
 refine uQ 600 _ ?_;generalize hR:xreg Tryz.prog 9=R
 with_reducible refine sxE ?_
 subst hR;intro id k hns hrel;refine q9h (G:=[]) mixed (m:=5) (by kernel_rfl) ?_
 refine j2J (i:=0) (io:=⟨some 16,.call (.func 22) [.const (.int .u8 1),.const (.int .i64 3)],none⟩) (by kernel_rfl) (by kernel_rfl) (fun H'=>rfl) (by kernel_rfl) (s:=.agg [rI 2,rI 3,.isl .u8 (k32 1)]) (fun H' K hk=>((z7y 1 3).2 H' K hk).g) ?_
 refine q5z (i:=1) (j:=2) (io:=⟨some 17,.mks .u8 1 (.const (.int .i64 16)) (.const (.int .i64 16)),none⟩) (jo:=⟨some 1,.new 24 [.int .i64 0,.int .i64 0,.slice none 0 0],none⟩) (by kernel_rfl) (by kernel_rfl) (by kernel_rfl) ?_ ?_
 · refine ⟨by decide,q0W,?_⟩
   refine q2j (l:=[(false,⟨some 1,.new 24 [.int .i64 0,.int .i64 0,.slice none 0 0],none⟩),(false,⟨none,.st 3 (.tmp 1) (.tmp 16),none⟩),(true,⟨some 2,.mov (.tmp 17),none⟩)]) (by kernel_rfl) hrel ?_
   clear hrel hns;refine uQ 4 _ ?_
   with_reducible refine sxE ?_
   refine q3S rfl (σ:=fun h=>if h=0 then 1 else if h=1 then 0 else h) ⟨?_,?_,rfl,rfl,rfl,rfl,Aj _,fun _ h0=>absurd h0 (AT 0)⟩ q4k
   · unfold knT
     repeat (first|exact trivial|exact rfl|refine And.intro ?_ ?_)
   repeat (first|exact trivial|exact rfl|refine And.intro ?_ ?_)
 refine ⟨trivial,q0W,?_⟩;refine q5z (i:=1) (j:=3) (io:=⟨some 17,.mks .u8 1 (.const (.int .i64 16)) (.const (.int .i64 16)),none⟩) (jo:=⟨none,.st 3 (.tmp 1) (.tmp 16),none⟩) (by kernel_rfl) (by kernel_rfl) (by kernel_rfl) ?_ ?_
 · refine ⟨by decide,q0W,?_⟩
   refine q2j (l:=[(false,⟨none,.st 3 (.tmp 1) (.tmp 16),none⟩),(true,⟨some 2,.mov (.tmp 17),none⟩)]) (by kernel_rfl) hrel ?_
   clear hrel hns;refine uQ 3 _ ?_
   with_reducible refine sxE ?_
   exact q4k
 refine ⟨q0W,?_⟩;refine q2j (l:=[(false,⟨some 17,.mks .u8 1 (.const (.int .i64 16)) (.const (.int .i64 16)),none⟩),(true,⟨some 2,.mov (.tmp 17),none⟩)]) (by kernel_rfl) hrel ?_
 clear hrel hns;refine uQ 3 _ ?_
 with_reducible refine sxE ?_
 exact q4k
theorem j5d(k:Key)(u:Nat)(conf plain:List UInt8)(hc:conf.length=16):(seS k u conf plain).length≤48+plain.length:=by
 unfold seS;rw [Ad,q9f _ _ _ _ hc,q8s];split<;>omega
theorem j3R(tag:Int)(c:List UInt8)(hc:c.length≤1048576):PC Tryz.prog 90 [rI tag,.isl .u8 c] (.isl .u8 (tlv (byteOf tag) c)):=by
 have q1:IntKind.i64.wrap ((c.length:Int).tdiv 256)=((c.length / 256:Nat):Int):=by rw [show (256:Int)=((256:Nat):Int) from rfl,j4K,wrapi (by omega)]
 have q2:IntKind.i64.wrap ((c.length:Int).tdiv 65536)=((c.length / 65536:Nat):Int):=by rw [show (65536:Int)=((65536:Nat):Int) from rfl,j4K,wrapi (by omega)]
 have m1:IntKind.i64.wrap ((c.length:Int).tmod 256)=(c.length:Int).tmod 256:=by rw [Ar (by omega),wrapi (by omega)]
 have m2:IntKind.i64.wrap (((c.length / 256:Nat):Int).tmod 256)=((c.length / 256:Nat):Int).tmod 256:=by rw [Ar (by omega),wrapi (by omega)]
 have f1:(c.length:Int).fdiv 256=((c.length / 256:Nat):Int):=z8K _ 256;have f2:(c.length:Int).fdiv 65536=((c.length / 65536:Nat):Int):=z8K _ 65536;have hd:tlv (byteOf tag) c=byteOf tag :: (lenS c.length++c):=rfl;generalize tlv (byteOf tag) c=r at*;refine q0i rfl rfl ?_;refine ry4 fi90 q1 q2 m1 m2 ?_;refine ⟨q0T _,fun h1=> ?_,fun h1=>⟨fun h2=> ?_,fun h2=>⟨fun h3=> ?_,fun h3=>⟨fun h4=> ?_,fun h4=>absurd h4 (by omega)⟩⟩⟩⟩
 · refine ⟨q0T _,⟨by omega,by omega⟩,⟨by omega,by omega⟩,?_⟩
   rw [Aa (by simp;omega),hd,show lenS c.length= [byteOf c.length] by unfold lenS;rw [if_pos (by omega)]]
   rfl
 · refine ⟨⟨rfl,q0T _⟩,⟨by omega,by omega⟩,⟨by omega,by omega⟩,?_⟩
   rw [Aa (by simp;omega),hd,show lenS c.length= [129,byteOf c.length] by unfold lenS;rw [if_neg (by omega),if_pos (by omega)]]
   rfl
 · refine ⟨by decide,by decide,⟨rfl,q0T _,q0T _⟩,⟨by omega,by omega⟩,⟨by omega,by omega⟩,?_⟩
   rw [Aa (by simp;omega),hd,j2q,show lenS c.length= [130,byteOf ((c.length:Int).fdiv 256),byteOf c.length] by unfold lenS;rw [if_neg (by omega),if_neg (by omega),if_pos (by omega)],f1]
   rfl
 refine ⟨by decide,by decide,by decide,by decide,⟨rfl,q0T _,q0T _,q0T _⟩,⟨by omega,by omega⟩,⟨by omega,by omega⟩,?_⟩
 rw [Aa (by simp;omega),hd,j2q,j2q,show lenS c.length= [131,byteOf ((c.length:Int).fdiv 65536),byteOf ((c.length:Int).fdiv 256),byteOf c.length] by unfold lenS;rw [if_neg (by omega),if_neg (by omega),if_neg (by omega)],f1,f2]
 rfl
theorem z0t(t:UInt8)(tag:Int)(ht:byteOf tag=t)(c:List UInt8)(hc:c.length≤1048576):PC Tryz.prog 90 [rI tag,.isl .u8 c] (.isl .u8 (elemS t [c])):=by
 have h:=j3R tag c hc;rw [ht] at h;have e:elemS t [c]=tlv t c:=by unfold elemS;simp only [AL,Bv,Ah];rw [if_pos (by omega)]
 rwa [←e] at h
theorem j2u(b:List UInt8)(hb:b.length≤1048576):PC Tryz.prog 61 [.isl .u8 b] (.isl .u8 (elemS 4 [b])):=by
 refine q0q rfl rfl ?_;refine rQ fi61 ?_;refine q0a (z0t 4 4 (by decide) _ hb) ?_
 refine gQ ?_;trivial
theorem j4g(n:Int)(b:List UInt8)(hb:b.length≤1048576):PC Tryz.prog 91 [rI 160,rI n,.isl .u8 b] (.isl .u8 (wrapS 160 n b)):=by
 refine q0i rfl rfl ?_;refine rQ fi91 ?_;refine ⟨fun h1=>⟨fun h2=>⟨fun h3=> ?_,fun h3=> ?_⟩,fun h2=> ?_⟩,fun h1=> ?_⟩
 · unfold wrapS;rw [if_neg (fun h'=>h'.2.2 (Bm.1 (by omega)))]
 · rw [wrapi (by omega)]
   refine q0a (z0t (byteOf (160+n)) _ rfl _ hb) ?_;refine gQ ?_;unfold wrapS;rw [if_pos ⟨by omega,by omega,fun e=>h3 (by rw [e];rfl)⟩]
 · unfold wrapS;rw [if_neg (fun h'=>by omega)]
 unfold wrapS;rw [if_neg (fun h'=>by omega)]
theorem q7k(n:Int)(b:List UInt8)(hb:b.length≤1048576):PC Tryz.prog 58 [rI n,.isl .u8 b] (.isl .u8 (wrapS 160 n b)):=by
 refine q0q rfl rfl ?_;refine rQ fi58 ?_;refine q0a (j4g n b hb) ?_;refine gQ ?_;trivial
theorem z5S(l:List (List UInt8))(hl:l.length≤1048576)(hf:l.flatten.length≤1048576):PC Tryz.prog 57 [.isl (.slice .u8) l] (.isl .u8 (elemS 48 l)):=by
 refine q0i rfl rfl ?_;refine rQ fi57 ?_;refine q3b 3 .u8 (flatN l) (fun i=>[(4,rI i)]) l.length (fun _=>True) rfl (by simp) (by simp [flatN]) rfl (fun i=>rfl) ?_ fun i hi _=> ?_
 · with_reducible refine sxE ?_;trivial
 have hwr:=wsx i (by omega)
 have hle:=q4N l i;refine gQ ?_;refine ⟨fun hlt=> ?_,fun hge=> ?_⟩
 · have hst:=q3I hlt;have hle':=q4N l (i+1);rw [hst,Ad] at hle';refine ⟨⟨by omega,hlt⟩,⟨by omega,by omega⟩,q1s [.dead] [] hlt trivial (by rw [hst];rfl) ?_⟩
   with_reducible refine sx3 hwr hst ?_;trivial
 obtain rfl:i=l.length:=by omega
 rw [q6p] at*;refine q0k 0 ?_
 with_reducible refine sxE ?_
 refine ⟨by omega,Ag _,?_⟩
 rw [Aa (Ag _)];refine q0a (z0t 48 48 (by decide) l.flatten hf) ?_
 refine gQ ?_;exact z5b 48 l
theorem z9F(t:Int):PC Tryz.prog 59 [rI t] (.isl .u8 (timeS t)):=by
 refine q0i rfl rfl ?_;refine rQ fi59 ?_;refine ⟨fun h1=>⟨fun h2=> ?_,fun h2=>⟨⟨q0T _,q0T _,q0T _,q0T _,q0T _,q0T _⟩,?_⟩⟩,fun h1=> ?_⟩
 · unfold timeS;rw [if_neg (by omega)]
 · have e:[UInt8.ofNat (IntKind.u8.wrap (t.fdiv (2^ min 40 64))).toNat,UInt8.ofNat (IntKind.u8.wrap (t.fdiv (2^ min 32 64))).toNat,UInt8.ofNat (IntKind.u8.wrap (t.fdiv (2^ min 24 64))).toNat,UInt8.ofNat (IntKind.u8.wrap (t.fdiv (2^ min 16 64))).toNat,UInt8.ofNat (IntKind.u8.wrap (t.fdiv (2^ min 8 64))).toNat,UInt8.ofNat (IntKind.u8.wrap t).toNat]=numS t 6:=by
    show _= [byteAt t 5,byteAt t 4,byteAt t 3,byteAt t 2,byteAt t 1,byteAt t 0];have h0:byteAt t 0=UInt8.ofNat (IntKind.u8.wrap t).toNat:=by
     unfold byteAt byteOf;rw [show t.fdiv (2^ min (8*0) 64)=t by rw [show ((2:Int) ^ min (8*0) 64)=1 from rfl];exact Int.fdiv_one t]
    rw [h0];rfl
   rw [e];have hl:(numS t 6).length=6:=by simp [numS]
   generalize hn:numS t 6=c at*;refine q0k 0 ?_
   with_reducible refine sxE ?_
   rw [Aa (by omega)]
   refine ⟨by omega,by omega,?_⟩
   refine q0a (z0t 24 24 (by decide) c (by omega)) ?_
   refine gQ ?_;unfold timeS;rw [if_pos (by omega),hn]
 unfold timeS;rw [if_neg (by omega)]
theorem q1o(v:Int)(n:Nat)(h1:1≤n)(h8:n≤8)(hi:intS v=elemS 2 [numS v n]):
 @SoundI noGhost Tryz.prog (retF Tryz.prog [.tmp 2] (SealK (.isl .u8 (intS v)))) ⟨0,[.ic (icTail 4 ir60.code)],[rI v,.any,.raw (.slice none 0 0),rI n]++List.replicate 43 .any,[]⟩:=by
 letI:Ghost:=noGhost
 have hl:(numS v n).length=n:=by simp [numS]
 have w0:IntKind.i64.wrap ((n:Int) -1)=(n:Int) -1:=wrapi (by omega)
 refine gy1 w0 ?_;refine q3b 4 .u8 (fun k=>(numS v n).take k) (fun k=>[(5,rI ((n:Int) -1-k))]) n (fun _=>True) rfl (by simp) (by simp) rfl (fun i=>rfl) ?_ fun k hk _=> ?_
 · with_reducible refine sxE ?_
   simp
 have hln:((numS v n).take k).length=k:=by simp [numS];omega
 have w1:IntKind.i64.wrap (8* ((n:Int) -1-k))=8* ((n:Int) -1-k):=wrapi (by omega)
 have w2:IntKind.i64.wrap ((n:Int) -1-k-1)=(n:Int) -1- ((k+1:Nat):Int):=by rw [wrapi (by omega)];omega
 refine gy2 w1 w2 ?_;refine ⟨fun hlt=> ?_,fun hge=> ?_⟩
 · have hkn:k<n:=by omega
   have hst:=z7g (v:=v) hkn;have e8:(8* ((n:Int) -1-k)).toNat=8* (n-1-k):=by omega
   have hb:UInt8.ofNat (IntKind.u8.wrap (v.fdiv (2^ min (8* (n-1-k)) 64))).toNat=byteAt v (n-1-k):=rfl;rw [e8,hb];refine ⟨by omega,by rw [←hb];exact q0T _,⟨by omega,by omega⟩,q1s [_,_] [] hkn trivial (by rw [hst];rfl) ?_⟩
   simp (maxSteps:=3000000) only [hst,Ad,go_sem,↓zA,↓reduceIte,↓reduceDIte] <;>try simp only [zB]
 obtain rfl:k=n:=by omega
 have ht:List.take k (numS v k)=numS v k:=Aa (by omega)
 rw [ht,hl,hi];generalize numS v k=c at*;refine q0k 0 ?_
 with_reducible refine sxE ?_
 rw [Aa (by omega)]
 refine ⟨by omega,by omega,?_⟩
 refine q0a (z0t 2 2 (by decide) c (by omega)) ?_
 refine gQ ?_;trivial
theorem q1W{v:Int}{k:Nat}(hk:k<9)(h1: -4611686018427387904≤v∧v≤4611686018427387904)(ho:oneB v k=true)(hall:∀j,j<k→oneB v j=false):intS v=elemS 2 [numS v (k+1)]:=by
 have hz:intSz v=k+1:=by unfold intSz;rw [q7h hk ho hall];exact Bs 1 k
 unfold intS;rw [if_pos h1,hz]
theorem z1V(v:Int):PC Tryz.prog 60 [rI v] (.isl .u8 (intS v)):=by
 refine q0i rfl rfl ?_;refine rQ fi60 ?_;refine ⟨fun h1=>⟨fun h2=> ?_,fun h2=> ?_⟩,fun h1=> ?_⟩
 · unfold intS;rw [if_neg (by omega)]
 · refine q0f (ι:=Nat) (fun k=>[(3,rI ((k+1:Nat):Int))]) (fun _=>[]) (fun k=>9-k) (fun k=>k≤6∧∀j,j<k→oneB v j=false) 0 ⟨by omega,fun j hj=>absurd hj (by omega)⟩ rfl ?_ ?_
   · with_reducible refine sxE ?_
     rfl
   rintro k ⟨hk,hall⟩;rcases (show k=0∨k=1∨k=2∨k=3∨k=4∨k=5∨k=6 by omega) with rfl|rfl|rfl|rfl|rfl|rfl|rfl
   · have e1:IntKind.i64.wrap (8* ((1:Nat):Int))=8:=by decide
     have e2:IntKind.i64.wrap ((8:Int) -1)=7:=by decide
     have e3:IntKind.i64.wrap (1*2^ min 7 64)=128:=by decide
     have e4:IntKind.i64.wrap (0- (128:Int))= -128:=by decide
     have e5:IntKind.i64.wrap (((1:Nat):Int)+1)=((2:Nat):Int):=by decide
     have e6:((((2:Nat):Int))=8)=False:=by decide
     have hoe:oneB v 0=true ↔ (-128≤v∧v<128):=by
      unfold oneB restN;rw [Am,decide_eq_true_iff,decide_eq_true_iff];omega
     by_cases h3:v< -128
     · have f1:(v< -128)=True:=eq_true h3;have ho:oneB v 0=false:=by cases h:oneB v 0 with
        |false=>rfl
        |true=>exact absurd (hoe.1 h) (by omega)
       refine gy7 e1 e2 e3 e4 e5 e6 f1 ?_;refine ⟨1,⟨by omega,q0P hall ho⟩,by dsimp only;omega,rfl,?_⟩
       with_reducible refine sxE ?_;trivial
     have f1:(v< -128)=False:=eq_false h3
     by_cases h4:128≤v
     · have f2:(128≤v)=True:=eq_true h4;have ho:oneB v 0=false:=by cases h:oneB v 0 with
        |false=>rfl
        |true=>exact absurd (hoe.1 h) (by omega)
       refine uQ 600 _ ?_;simp (maxSteps:=3000000) only [e1,e2,e3,e4,e5,e6,f1,f2,go_sem,↓zA,↓reduceIte,↓reduceDIte] <;>try simp only [zB]
       refine ⟨1,⟨by omega,q0P hall ho⟩,by dsimp only;omega,rfl,?_⟩
       with_reducible refine sxE ?_;trivial
     have f2:(128≤v)=False:=eq_false h4;refine uQ 21 _ ?_
     with_reducible refine sy6 e1 e2 e3 e4 f1 f2 ?_
     refine q3S rfl (σ:=fun h=>h) ⟨?_,?_,rfl,rfl,rfl,rfl,Aj _,fun _ h0=>absurd h0 (AT 0)⟩ (q1o v 1 (by decide) (by decide) (q1W (k:=0) (by decide) (by omega) (hoe.2 (by omega)) hall))
     · repeat (first|exact trivial|exact rfl|refine And.intro ?_ ?_)
     repeat (first|exact trivial|exact rfl|refine And.intro ?_ ?_)
   · have e1:IntKind.i64.wrap (8* ((2:Nat):Int))=16:=by decide
     have e2:IntKind.i64.wrap ((16:Int) -1)=15:=by decide
     have e3:IntKind.i64.wrap (1*2^ min 15 64)=32768:=by decide
     have e4:IntKind.i64.wrap (0- (32768:Int))= -32768:=by decide
     have e5:IntKind.i64.wrap (((2:Nat):Int)+1)=((3:Nat):Int):=by decide
     have e6:((((3:Nat):Int))=8)=False:=by decide
     have hoe:oneB v 1=true ↔ (-32768≤v∧v<32768):=by
      simp only [oneB,restN,fdiv256,Am,decide_eq_true_eq];omega
     by_cases h3:v< -32768
     · have f1:(v< -32768)=True:=eq_true h3;have ho:oneB v 1=false:=by cases h:oneB v 1 with
        |false=>rfl
        |true=>exact absurd (hoe.1 h) (by omega)
       refine gy7 e1 e2 e3 e4 e5 e6 f1 ?_;refine ⟨2,⟨by omega,q0P hall ho⟩,by dsimp only;omega,rfl,?_⟩
       with_reducible refine sxE ?_;trivial
     have f1:(v< -32768)=False:=eq_false h3
     by_cases h4:32768≤v
     · have f2:(32768≤v)=True:=eq_true h4;have ho:oneB v 1=false:=by cases h:oneB v 1 with
        |false=>rfl
        |true=>exact absurd (hoe.1 h) (by omega)
       refine uQ 600 _ ?_;simp (maxSteps:=3000000) only [e1,e2,e3,e4,e5,e6,f1,f2,go_sem,↓zA,↓reduceIte,↓reduceDIte] <;>try simp only [zB]
       refine ⟨2,⟨by omega,q0P hall ho⟩,by dsimp only;omega,rfl,?_⟩
       with_reducible refine sxE ?_;trivial
     have f2:(32768≤v)=False:=eq_false h4;refine uQ 21 _ ?_
     with_reducible refine sy6 e1 e2 e3 e4 f1 f2 ?_
     refine q3S rfl (σ:=fun h=>h) ⟨?_,?_,rfl,rfl,rfl,rfl,Aj _,fun _ h0=>absurd h0 (AT 0)⟩ (q1o v 2 (by decide) (by decide) (q1W (k:=1) (by decide) (by omega) (hoe.2 (by omega)) hall))
     · repeat (first|exact trivial|exact rfl|refine And.intro ?_ ?_)
     repeat (first|exact trivial|exact rfl|refine And.intro ?_ ?_)
   · have e1:IntKind.i64.wrap (8* ((3:Nat):Int))=24:=by decide
     have e2:IntKind.i64.wrap ((24:Int) -1)=23:=by decide
     have e3:IntKind.i64.wrap (1*2^ min 23 64)=8388608:=by decide
     have e4:IntKind.i64.wrap (0- (8388608:Int))= -8388608:=by decide
     have e5:IntKind.i64.wrap (((3:Nat):Int)+1)=((4:Nat):Int):=by decide
     have e6:((((4:Nat):Int))=8)=False:=by decide
     have hoe:oneB v 2=true ↔ (-8388608≤v∧v<8388608):=by
      simp only [oneB,restN,fdiv256,Am,decide_eq_true_eq];omega
     by_cases h3:v< -8388608
     · have f1:(v< -8388608)=True:=eq_true h3;have ho:oneB v 2=false:=by cases h:oneB v 2 with
        |false=>rfl
        |true=>exact absurd (hoe.1 h) (by omega)
       refine gy7 e1 e2 e3 e4 e5 e6 f1 ?_;refine ⟨3,⟨by omega,q0P hall ho⟩,by dsimp only;omega,rfl,?_⟩
       with_reducible refine sxE ?_;trivial
     have f1:(v< -8388608)=False:=eq_false h3
     by_cases h4:8388608≤v
     · have f2:(8388608≤v)=True:=eq_true h4;have ho:oneB v 2=false:=by cases h:oneB v 2 with
        |false=>rfl
        |true=>exact absurd (hoe.1 h) (by omega)
       refine uQ 600 _ ?_;simp (maxSteps:=3000000) only [e1,e2,e3,e4,e5,e6,f1,f2,go_sem,↓zA,↓reduceIte,↓reduceDIte] <;>try simp only [zB]
       refine ⟨3,⟨by omega,q0P hall ho⟩,by dsimp only;omega,rfl,?_⟩
       with_reducible refine sxE ?_;trivial
     have f2:(8388608≤v)=False:=eq_false h4;refine uQ 21 _ ?_
     with_reducible refine sy6 e1 e2 e3 e4 f1 f2 ?_
     refine q3S rfl (σ:=fun h=>h) ⟨?_,?_,rfl,rfl,rfl,rfl,Aj _,fun _ h0=>absurd h0 (AT 0)⟩ (q1o v 3 (by decide) (by decide) (q1W (k:=2) (by decide) (by omega) (hoe.2 (by omega)) hall))
     · repeat (first|exact trivial|exact rfl|refine And.intro ?_ ?_)
     repeat (first|exact trivial|exact rfl|refine And.intro ?_ ?_)
   · have e1:IntKind.i64.wrap (8* ((4:Nat):Int))=32:=by decide
     have e2:IntKind.i64.wrap ((32:Int) -1)=31:=by decide
     have e3:IntKind.i64.wrap (1*2^ min 31 64)=2147483648:=by decide
     have e4:IntKind.i64.wrap (0- (2147483648:Int))= -2147483648:=by decide
     have e5:IntKind.i64.wrap (((4:Nat):Int)+1)=((5:Nat):Int):=by decide
     have e6:((((5:Nat):Int))=8)=False:=by decide
     have hoe:oneB v 3=true ↔ (-2147483648≤v∧v<2147483648):=by
      simp only [oneB,restN,fdiv256,Am,decide_eq_true_eq];omega
     by_cases h3:v< -2147483648
     · have f1:(v< -2147483648)=True:=eq_true h3;have ho:oneB v 3=false:=by cases h:oneB v 3 with
        |false=>rfl
        |true=>exact absurd (hoe.1 h) (by omega)
       refine gy7 e1 e2 e3 e4 e5 e6 f1 ?_;refine ⟨4,⟨by omega,q0P hall ho⟩,by dsimp only;omega,rfl,?_⟩
       with_reducible refine sxE ?_;trivial
     have f1:(v< -2147483648)=False:=eq_false h3
     by_cases h4:2147483648≤v
     · have f2:(2147483648≤v)=True:=eq_true h4;have ho:oneB v 3=false:=by cases h:oneB v 3 with
        |false=>rfl
        |true=>exact absurd (hoe.1 h) (by omega)
       refine uQ 600 _ ?_;simp (maxSteps:=3000000) only [e1,e2,e3,e4,e5,e6,f1,f2,go_sem,↓zA,↓reduceIte,↓reduceDIte] <;>try simp only [zB]
       refine ⟨4,⟨by omega,q0P hall ho⟩,by dsimp only;omega,rfl,?_⟩
       with_reducible refine sxE ?_;trivial
     have f2:(2147483648≤v)=False:=eq_false h4;refine uQ 21 _ ?_
     with_reducible refine sy6 e1 e2 e3 e4 f1 f2 ?_
     refine q3S rfl (σ:=fun h=>h) ⟨?_,?_,rfl,rfl,rfl,rfl,Aj _,fun _ h0=>absurd h0 (AT 0)⟩ (q1o v 4 (by decide) (by decide) (q1W (k:=3) (by decide) (by omega) (hoe.2 (by omega)) hall))
     · repeat (first|exact trivial|exact rfl|refine And.intro ?_ ?_)
     repeat (first|exact trivial|exact rfl|refine And.intro ?_ ?_)
   · have e1:IntKind.i64.wrap (8* ((5:Nat):Int))=40:=by decide
     have e2:IntKind.i64.wrap ((40:Int) -1)=39:=by decide
     have e3:IntKind.i64.wrap (1*2^ min 39 64)=549755813888:=by decide
     have e4:IntKind.i64.wrap (0- (549755813888:Int))= -549755813888:=by decide
     have e5:IntKind.i64.wrap (((5:Nat):Int)+1)=((6:Nat):Int):=by decide
     have e6:((((6:Nat):Int))=8)=False:=by decide
     have hoe:oneB v 4=true ↔ (-549755813888≤v∧v<549755813888):=by
      simp only [oneB,restN,fdiv256,Am,decide_eq_true_eq];omega
     by_cases h3:v< -549755813888
     · have f1:(v< -549755813888)=True:=eq_true h3;have ho:oneB v 4=false:=by cases h:oneB v 4 with
        |false=>rfl
        |true=>exact absurd (hoe.1 h) (by omega)
       refine gy7 e1 e2 e3 e4 e5 e6 f1 ?_;refine ⟨5,⟨by omega,q0P hall ho⟩,by dsimp only;omega,rfl,?_⟩
       with_reducible refine sxE ?_;trivial
     have f1:(v< -549755813888)=False:=eq_false h3
     by_cases h4:549755813888≤v
     · have f2:(549755813888≤v)=True:=eq_true h4;have ho:oneB v 4=false:=by cases h:oneB v 4 with
        |false=>rfl
        |true=>exact absurd (hoe.1 h) (by omega)
       refine uQ 600 _ ?_;simp (maxSteps:=3000000) only [e1,e2,e3,e4,e5,e6,f1,f2,go_sem,↓zA,↓reduceIte,↓reduceDIte] <;>try simp only [zB]
       refine ⟨5,⟨by omega,q0P hall ho⟩,by dsimp only;omega,rfl,?_⟩
       with_reducible refine sxE ?_;trivial
     have f2:(549755813888≤v)=False:=eq_false h4;refine uQ 21 _ ?_
     with_reducible refine sy6 e1 e2 e3 e4 f1 f2 ?_
     refine q3S rfl (σ:=fun h=>h) ⟨?_,?_,rfl,rfl,rfl,rfl,Aj _,fun _ h0=>absurd h0 (AT 0)⟩ (q1o v 5 (by decide) (by decide) (q1W (k:=4) (by decide) (by omega) (hoe.2 (by omega)) hall))
     · repeat (first|exact trivial|exact rfl|refine And.intro ?_ ?_)
     repeat (first|exact trivial|exact rfl|refine And.intro ?_ ?_)
   · have e1:IntKind.i64.wrap (8* ((6:Nat):Int))=48:=by decide
     have e2:IntKind.i64.wrap ((48:Int) -1)=47:=by decide
     have e3:IntKind.i64.wrap (1*2^ min 47 64)=140737488355328:=by decide
     have e4:IntKind.i64.wrap (0- (140737488355328:Int))= -140737488355328:=by decide
     have e5:IntKind.i64.wrap (((6:Nat):Int)+1)=((7:Nat):Int):=by decide
     have e6:((((7:Nat):Int))=8)=False:=by decide
     have hoe:oneB v 5=true ↔ (-140737488355328≤v∧v<140737488355328):=by
      simp only [oneB,restN,fdiv256,Am,decide_eq_true_eq];omega
     by_cases h3:v< -140737488355328
     · have f1:(v< -140737488355328)=True:=eq_true h3;have ho:oneB v 5=false:=by cases h:oneB v 5 with
        |false=>rfl
        |true=>exact absurd (hoe.1 h) (by omega)
       refine gy7 e1 e2 e3 e4 e5 e6 f1 ?_;refine ⟨6,⟨by omega,q0P hall ho⟩,by dsimp only;omega,rfl,?_⟩
       with_reducible refine sxE ?_;trivial
     have f1:(v< -140737488355328)=False:=eq_false h3
     by_cases h4:140737488355328≤v
     · have f2:(140737488355328≤v)=True:=eq_true h4;have ho:oneB v 5=false:=by cases h:oneB v 5 with
        |false=>rfl
        |true=>exact absurd (hoe.1 h) (by omega)
       refine uQ 600 _ ?_;simp (maxSteps:=3000000) only [e1,e2,e3,e4,e5,e6,f1,f2,go_sem,↓zA,↓reduceIte,↓reduceDIte] <;>try simp only [zB]
       refine ⟨6,⟨by omega,q0P hall ho⟩,by dsimp only;omega,rfl,?_⟩
       with_reducible refine sxE ?_;trivial
     have f2:(140737488355328≤v)=False:=eq_false h4;refine uQ 21 _ ?_
     with_reducible refine sy6 e1 e2 e3 e4 f1 f2 ?_
     refine q3S rfl (σ:=fun h=>h) ⟨?_,?_,rfl,rfl,rfl,rfl,Aj _,fun _ h0=>absurd h0 (AT 0)⟩ (q1o v 6 (by decide) (by decide) (q1W (k:=5) (by decide) (by omega) (hoe.2 (by omega)) hall))
     · repeat (first|exact trivial|exact rfl|refine And.intro ?_ ?_)
     repeat (first|exact trivial|exact rfl|refine And.intro ?_ ?_)
   have e1:IntKind.i64.wrap (8* ((7:Nat):Int))=56:=by decide
   have e2:IntKind.i64.wrap ((56:Int) -1)=55:=by decide
   have e3:IntKind.i64.wrap (1*2^ min 55 64)=36028797018963968:=by decide
   have e4:IntKind.i64.wrap (0- (36028797018963968:Int))= -36028797018963968:=by decide
   have e5:IntKind.i64.wrap (((7:Nat):Int)+1)=((8:Nat):Int):=by decide
   have e6:((((8:Nat):Int))=8)=True:=by decide
   have hoe:oneB v 6=true ↔ (-36028797018963968≤v∧v<36028797018963968):=by
    simp only [oneB,restN,fdiv256,Am,decide_eq_true_eq];omega
   by_cases h3:v< -36028797018963968
   · have f1:(v< -36028797018963968)=True:=eq_true h3;have ho:oneB v 6=false:=by cases h:oneB v 6 with
      |false=>rfl
      |true=>exact absurd (hoe.1 h) (by omega)
     refine uQ 35 _ ?_
     with_reducible refine sy7 e1 e2 e3 e4 e5 e6 f1 ?_
     refine q3S rfl (σ:=fun h=>h) ⟨?_,?_,rfl,rfl,rfl,rfl,Aj _,fun _ h0=>absurd h0 (AT 0)⟩ (q1o v 8 (by decide) (by decide) (q1W (k:=7) (by decide) (by omega) (by simp only [oneB,restN,fdiv256,Am,decide_eq_true_eq];omega) (q0P hall ho)))
     · repeat (first|exact trivial|exact rfl|refine And.intro ?_ ?_)
     repeat (first|exact trivial|exact rfl|refine And.intro ?_ ?_)
   have f1:(v< -36028797018963968)=False:=eq_false h3
   by_cases h4:36028797018963968≤v
   · have f2:(36028797018963968≤v)=True:=eq_true h4;have ho:oneB v 6=false:=by cases h:oneB v 6 with
      |false=>rfl
      |true=>exact absurd (hoe.1 h) (by omega)
     refine uQ 35 _ ?_;simp (maxSteps:=3000000) only [e1,e2,e3,e4,e5,e6,f1,f2,go_sem,↓zA,↓reduceIte,↓reduceDIte] <;>try simp only [zB]
     refine q3S rfl (σ:=fun h=>h) ⟨?_,?_,rfl,rfl,rfl,rfl,Aj _,fun _ h0=>absurd h0 (AT 0)⟩ (q1o v 8 (by decide) (by decide) (q1W (k:=7) (by decide) (by omega) (by simp only [oneB,restN,fdiv256,Am,decide_eq_true_eq];omega) (q0P hall ho)))
     · repeat (first|exact trivial|exact rfl|refine And.intro ?_ ?_)
     repeat (first|exact trivial|exact rfl|refine And.intro ?_ ?_)
   have f2:(36028797018963968≤v)=False:=eq_false h4;refine uQ 21 _ ?_
   with_reducible refine sy6 e1 e2 e3 e4 f1 f2 ?_
   refine q3S rfl (σ:=fun h=>h) ⟨?_,?_,rfl,rfl,rfl,rfl,Aj _,fun _ h0=>absurd h0 (AT 0)⟩ (q1o v 7 (by decide) (by decide) (q1W (k:=6) (by decide) (by omega) (hoe.2 (by omega)) hall))
   · repeat (first|exact trivial|exact rfl|refine And.intro ?_ ?_)
   repeat (first|exact trivial|exact rfl|refine And.intro ?_ ?_)
 unfold intS;rw [if_neg (by omega)]
def th3S(p v:Int)(b:List UInt8):List UInt8:=if intS p= []∨intS v= [] then [] else elemS 48 [wrapS 160 0 (intS p),wrapS 160 1 (intS v),wrapS 160 2 (elemS 4 [b])]
theorem q4r(t:UInt8)(l:List (List UInt8)):(elemS t l).length≤5+l.flatten.length:=by
 unfold elemS;split
 · unfold tlv lenS;simp only [AK,Ad];split
   · simp;omega
   split
   · simp;omega
   split<;> (simp;omega)
 simp
theorem q3e(n:Int)(b:List UInt8):(wrapS 160 n b).length≤5+b.length:=by
 unfold wrapS;split
 · have:=q4r (byteOf (160+n)) [b];simpa using this
 simp
theorem q6v(v:Int):(intS v).length≤20:=by
 unfold intS;split
 · have:=q4r 2 [numS v (intSz v)];have h1:(numS v (intSz v)).length=intSz v:=by simp [numS]
   have h2:intSz v≤10:=by
    unfold intSz;cases h:firstN 9 (oneB v) with
    |none=>decide
    |some i=>have:=(q4h h).1;show 1+i≤10;omega
   simp only [AL,Bv,Ah] at this;omega
 simp
theorem z5D(p v:Int)(b:List UInt8)(hb:b.length≤1000000):PC Tryz.prog 32 [rI p,rI v,.isl .u8 b] (.isl .u8 (th3S p v b)):=by
 have hp:=z1V p;have hv:=z1V v;have hpl:=q6v p;have hvl:=q6v v;have ho:=j2u b (by omega)
 have hol:(elemS 4 [b]).length≤5+b.length:=by have:=q4r 4 [b];simpa using this
 unfold th3S;generalize intS p=ip at*;generalize intS v=iv at*;generalize elemS 4 [b]=ob at*
 by_cases hp0:ip= []
 · rw [if_pos (.inl hp0)];subst hp0;refine q0i rfl rfl ?_;refine rQ fi32 ?_;refine q0a hp ?_;refine uQ 600 _ ?_
   with_reducible refine sxE ?_;trivial
 have f1:(((ip.length:Nat):Int)=0)=False:=eq_false (by have:=B6.2 hp0;omega)
 by_cases hv0:iv= []
 · rw [if_pos (.inr hv0)];subst hv0;refine q0i rfl rfl ?_;refine rQ fi32 ?_;refine q0a hp ?_;refine gy1 f1 ?_;refine q0a hv ?_;refine uQ 600 _ ?_
   with_reducible refine sxE ?_;trivial
 have f2:(((iv.length:Nat):Int)=0)=False:=eq_false (by have:=B6.2 hv0;omega)
 rw [if_neg (fun h=>h.elim hp0 hv0)];have w1:=q3e 0 ip;have w2:=q3e 1 iv;have w3:=q3e 2 ob;have t1:=q7k 0 ip (by omega)
 have t2:=q7k 1 iv (by omega)
 have t3:=q7k 2 ob (by omega)
 generalize wrapS 160 0 ip=a1 at*;generalize wrapS 160 1 iv=a2 at*;generalize wrapS 160 2 ob=a3 at*;refine q0i rfl rfl ?_;refine rQ fi32 ?_;refine q0a hp ?_;refine gy1 f1 ?_;refine q0a hv ?_;refine gy1 f2 ?_;refine q0a hp ?_;refine uQ 600 _ ?_
 with_reducible refine sxE ?_
 refine q0a t1 ?_;refine uQ 600 _ ?_
 with_reducible refine sxE ?_
 refine q0a hv ?_;refine uQ 600 _ ?_
 with_reducible refine sxE ?_
 refine q0a t2 ?_;refine uQ 600 _ ?_
 with_reducible refine sxE ?_
 refine q0a ho ?_;refine uQ 600 _ ?_
 with_reducible refine sxE ?_
 refine q0a t3 ?_;refine uQ 600 _ ?_
 with_reducible refine sxE ?_
 refine q0k 0 ?_
 with_reducible refine sxE ?_
 refine q0a (z5S [a1,a2,a3] (by simp) (by simp;omega)) ?_
 refine uQ 600 _ ?_
 with_reducible refine sxE ?_;trivial
def momS(t:Int):Bool:=decide (0≤t) && decide (t≤1099511627776)
theorem j3I(t:Int):PC Tryz.prog 29 [rI t] (rB (momS t)):=by
 unfold momS;refine q0q rfl rfl ?_
 by_cases h:0≤t
 · have f1:(0≤t)=True:=eq_true h;refine ry1 fi29 f1 ?_;trivial
 have f1:(0≤t)=False:=eq_false h;refine ry1 fi29 f1 ?_;trivial
theorem q8q(t:Int):(timeS t).length≤20:=by
 unfold timeS;split
 · have:=q4r 24 [numS t 6];have h1:(numS t 6).length=6:=by simp [numS]
   simp only [AL,Bv,Ah] at this;omega
 simp
theorem j0J(t m:Int):(plnS t m).length≤100:=by
 unfold plnS;have h:=q4r 48 [wrapS 160 0 (timeS t),wrapS 160 1 (intS m)];have h1:=q3e 0 (timeS t);have h2:=q3e 1 (intS m);have h3:=q8q t;have h4:=q6v m;simp only [AL,Bv,Ah,Ad] at h;omega
theorem z4K(t m:Int):PC Tryz.prog 31 [rI t,rI m] (.isl .u8 (plnS t m)):=by
 have h1:=z9F t;have h2:=z1V m;have h3:=q7k 0 (timeS t) (by have:=q8q t;omega)
 have h4:=q7k 1 (intS m) (by have:=q6v m;omega)
 have w1:=q3e 0 (timeS t);have w2:=q3e 1 (intS m);have l1:=q8q t;have l2:=q6v m;unfold plnS;generalize wrapS 160 0 (timeS t)=a at*;generalize wrapS 160 1 (intS m)=b at*;refine q0i rfl rfl ?_;refine rQ fi31 ?_;refine q0a h1 ?_;refine uQ 600 _ ?_
 with_reducible refine sxE ?_
 refine q0a h3 ?_;refine uQ 600 _ ?_
 with_reducible refine sxE ?_
 refine q0a h2 ?_;refine uQ 600 _ ?_
 with_reducible refine sxE ?_
 refine q0a h4 ?_;refine uQ 600 _ ?_
 with_reducible refine sxE ?_
 refine q0k 0 ?_
 with_reducible refine sxE ?_
 refine q0a (z5S [a,b] (by simp) (by simp;omega)) ?_
 refine uQ 600 _ ?_
 with_reducible refine sxE ?_;trivial
theorem j2i(k:Key)(u:Nat)(conf plain:List UInt8)(hc:conf.length=16):(seS k u conf plain).length≤48+plain.length:=by
 unfold seS;rw [Ad,q9f _ _ _ _ hc,q8s];split<;>omega
theorem j2P(k:Key)(t m:Int)(conf:List UInt8)(ho:KeyT.ok k)(hv:mkOk k t m=true)(hc:conf.length=16):PC Tryz.prog 11 [.agg (KeyT.cells k),rI t,rI m,.isl .u8 conf] (.tup [.agg [rI 2,.isl .u8 (th3S k.1 k.2.1 (seS k 1 conf (plnS t m)))],rI 0]):=by
 unfold mkOk at hv;simp only [Am,decide_eq_true_eq] at hv;obtain ⟨h1,h2,h3,h4,h5⟩:=hv;have hva:=z0R k;rw [h1] at hva;have hmo:=j3I t;rw [show momS t=true by simp [momS,h2,h3]] at hmo
 have hpl:=j0J t m;have hse:=z8L k 1 conf (plnS t m) ho;have hu:uOk k (1:Nat)=true:=by unfold uOk;rw [h1];decide
 unfold slO at hse;rw [if_pos ⟨hu,hc,by omega⟩] at hse
 have hsl:=j2i k 1 conf (plnS t m) hc;have hth:=z5D k.1 k.2.1 (seS k 1 conf (plnS t m)) (by omega)
 have hpc:=z4K t m;generalize seS k 1 conf (plnS t m)=se at*;generalize th3S k.1 k.2.1 se=th at*;generalize plnS t m=pl at*;obtain ⟨p,v,b⟩:=k;dsimp only at*;have f2:(m<0)=False:=eq_false (by omega)
 have f3:(999999<m)=False:=eq_false (by omega)
 have f4:(((conf.length:Nat):Int)=16)=True:=eq_true (by omega)
 refine q0i rfl rfl ?_;refine rQ fi11 ?_;refine q0a hva ?_;refine uQ 600 _ ?_
 with_reducible refine sxE ?_
 refine q0a hmo ?_;refine gy3 f2 f3 f4 ?_;refine q0K hpc ?_;refine uQ 600 _ ?_
 with_reducible refine sxE ?_
 refine q0K hse ?_;refine uQ 600 _ ?_
 with_reducible refine sxE ?_
 refine q0a hth ?_;refine uQ 600 _ ?_
 with_reducible refine sxE ?_;trivial
theorem j1O(k:Key)(t m:Int)(conf:List UInt8)(hv:mkOk k t m=true→conf.length≠16):PC Tryz.prog 11 [.agg (KeyT.cells k),rI t,rI m,.isl .u8 conf] (.tup [.agg [rI 0,.isl .u8 []],rI 2]):=by
 have hva:=z0R k;have hmo:=j3I t;unfold mkOk at hv;obtain ⟨p,v,b⟩:=k;cases h1:vKey (p,v,b) with
 |false=>
  rw [h1] at hva;refine q0i rfl rfl ?_;refine rQ fi11 ?_;refine q0a hva ?_;refine uQ 600 _ ?_
  with_reducible refine sxE ?_;trivial
 |true=>
  rw [h1] at hva hv;cases h2:momS t with
  |false=>
   rw [h2] at hmo;refine q0i rfl rfl ?_;refine rQ fi11 ?_;refine q0a hva ?_;refine uQ 600 _ ?_
   with_reducible refine sxE ?_
   refine q0a hmo ?_;refine uQ 600 _ ?_
   with_reducible refine sxE ?_;trivial
  |true=>
   rw [h2] at hmo;unfold momS at h2;simp only [Am,decide_eq_true_eq] at h2
   by_cases h3:m<0
   · have f2:(m<0)=True:=eq_true h3;refine q0i rfl rfl ?_;refine rQ fi11 ?_;refine q0a hva ?_;refine uQ 600 _ ?_
     with_reducible refine sxE ?_
     refine q0a hmo ?_;refine gy1 f2 ?_;trivial
   have f2:(m<0)=False:=eq_false h3
   by_cases h4:999999<m
   · have f3:(999999<m)=True:=eq_true h4;refine q0i rfl rfl ?_;refine rQ fi11 ?_;refine q0a hva ?_;refine uQ 600 _ ?_
     with_reducible refine sxE ?_
     refine q0a hmo ?_;refine gy2 f2 f3 ?_;trivial
   have f3:(999999<m)=False:=eq_false h4;have hcl:conf.length≠16:=hv (by simp [h2.1,h2.2];omega)
   have f4:(((conf.length:Nat):Int)=16)=False:=eq_false (by omega)
   refine q0i rfl rfl ?_;refine rQ fi11 ?_;refine q0a hva ?_;refine uQ 600 _ ?_
   with_reducible refine sxE ?_
   refine q0a hmo ?_;refine gy3 f2 f3 f4 ?_;trivial
end Go.Proofs.YtikapabgggphpaaGreatDoor
/- Timestamps: an iterator over the timestamps of a list is made. -/
namespace Go.Proofs.YtikapabgggphpaaGreatDoor
open Go Go.Sx Go.Proofs
set_option maxRecDepth 100000
set_option maxHeartbeats 4000000

variable {q:Nat→Prop} {w0:World}
end Go.Proofs.YtikapabgggphpaaGreatDoor

namespace Go.Proofs.YtikapabgggphpaaGreatDoor
open Go Go.Sx Go.Proofs
set_option maxRecDepth 100000
set_option maxHeartbeats 4000000
theorem j0L(a b:Pre):PC Tryz.prog 12 [.agg (PreT.cells a),.agg (PreT.cells b)] (rB (decide (a.1=b.1) && decide (a.2=b.2))):=by
 refine q0q rfl rfl ?_;refine rQ fi12 ?_;refine ⟨fun h=> ?_,fun h=> ?_⟩
 · rw [decide_eq_true h,Bool.true_and];exact decide_eq_decide.2 z6h
 rw [decide_eq_false h];rfl
set_option maxHeartbeats 40000000
theorem j3s{k:Key}{t m:Int}(hv:mkOk k t m=true)(c:List UInt8)(hc:c.length≤65536):th3S k.1 k.2.1 c=keyS (k.1,k.2.1,c):=by
 unfold mkOk at hv;simp only [Am,decide_eq_true_eq] at hv;have h1:=hv.1;have hu:uOk k (1:Nat)=true:=by unfold uOk;rw [h1];decide
 obtain ⟨_,_,_,_,hp1,hp2⟩:=q2N hu;have hver:0≤k.2.1∧k.2.1≤65535:=by
  unfold vKey at h1;simp only [Am,decide_eq_true_eq] at h1;exact ⟨h1.2.2.1,h1.2.2.2⟩
 have hkp:0≤k.1∧k.1≤4611686018427387904:=by
  by_cases h:k.1=1
  · rw [h];decide
  rw [(hp2 h).1];decide
 obtain ⟨c1,e1,_⟩:=j0H hkp;obtain ⟨c2,e2,_⟩:=j0H (v:=k.2.1) ⟨hver.1,Int.le_trans hver.2 (by decide)⟩
 have n1:intS k.1≠ []:=by rw [e1];exact q7E
 have n2:intS k.2.1≠ []:=by rw [e2];exact q7E
 unfold th3S;rw [if_neg (by rintro (h|h) <;>contradiction),j3f]
 dsimp only;have l1:=q5N k.1;have l2:=q5N k.2.1;have l3:=q2K 4 [c];rw [BA] at l3;have e3:=q6b (t:=4) (c:=c) (by omega)
 have w0:wrapS 160 0 (intS k.1)≠ []:=by rw [show (0:Int)=((0:Nat):Int) from rfl,q7m (by omega) (by omega) n1];exact q7E
 have w1:wrapS 160 1 (intS k.2.1)≠ []:=by rw [show (1:Int)=((1:Nat):Int) from rfl,q7m (by omega) (by omega) n2];exact q7E
 have w2:wrapS 160 2 (elemS 4 [c])≠ []:=by rw [show (2:Int)=((2:Nat):Int) from rfl,q7m (by omega) (by omega) (by rw [e3];exact q7E)];exact q7E
 unfold wholeS;refine (if_pos (q1U fun j hj=> ?_)).symm
 match j,hj with
 |0,_=>exact decide_eq_true w0
 |1,_=>exact decide_eq_true w1
 |2,_=>exact decide_eq_true w2
theorem j2h(k:Key)(t m:Int)(conf:List UInt8)(hko:KeyT.ok k):PC Tryz.prog 3 [.agg (KeyT.cells k),rI t,rI m,.isl .u8 conf] (rB true):=by
 by_cases c0:40<k.2.2.length
 · have f0:((40:Int) < ((k.2.2.length:Nat):Int))=True:=eq_true (by omega)
   obtain ⟨kp,v,b⟩:=k;dsimp only at f0;refine q0q rfl rfl ?_;refine ry1 fi3 f0 ?_;refine q0a q8p ?_;refine gQ ?_;trivial
 have f0:((40:Int) < ((k.2.2.length:Nat):Int))=False:=eq_false (by omega)
 by_cases c1:40<conf.length
 · have f1:((40:Int) < ((conf.length:Nat):Int))=True:=eq_true (by omega)
   obtain ⟨kp,v,b⟩:=k;dsimp only at f0;refine q0q rfl rfl ?_;refine ry2 fi3 f0 f1 ?_;refine q0a q8p ?_;refine gQ ?_;trivial
 have f1:((40:Int) < ((conf.length:Nat):Int))=False:=eq_false (by omega)
 have h1:=z1W k t m conf hko;have h2:∃ (p:Pre) (e:Int),mkG k t m conf= .tup [.agg (PreT.cells p),rI e]∧PC Tryz.prog 11 [.agg (KeyT.cells k),rI t,rI m,.isl .u8 conf] (.tup [.agg (PreT.cells p),rI e]):=by
  unfold mkG
  by_cases hg:mkOk k t m=true∧conf.length=16
  · rw [if_pos hg];have hr:=j2P k t m conf hko hg.1 hg.2;have hth:th3S k.1 k.2.1 (seS k 1 conf (plnS t m))=keyS (k.1,k.2.1,seS k 1 conf (plnS t m)):=j3s hg.1 _ (by have h1:=j5d k 1 conf (plnS t m) hg.2;have h2:=z7C t m;omega)
    rw [hth] at hr;exact ⟨(2,keyS (k.1,k.2.1,seS k 1 conf (plnS t m))),0,rfl,hr⟩
  rw [if_neg hg];exact ⟨(0,[]),2,rfl,j1O k t m conf fun hv hc=>hg ⟨hv,hc⟩⟩
 obtain ⟨⟨pk,pb⟩,e,he,h2⟩:=h2;rw [he] at h1;have hsm:=j0L (pk,pb) (pk,pb);rw [show (decide (pk=pk) && decide (pb=pb))=true by simp] at hsm
 obtain ⟨kp,v,b⟩:=k;dsimp only at*;refine q0q rfl rfl ?_;refine q0V fi3 ?_;refine uQ 32 _ ?_
 with_reducible refine sy2 f0 f1 ?_
 refine ⟨⟨by omega,by omega⟩,?_⟩
 refine q1b 2 (ty:=.u8) (xs:=conf) rfl rfl (by omega) ?_ ?_ ?_
 · with_reducible refine sxE ?_;trivial
 · with_reducible refine sxE ?_
   omega
 have htk:List.take (0+conf.length) conf=conf:=Aa (by omega)
 with_reducible refine sx1 htk ?_
 refine uQ 600 _ ?_
 with_reducible refine sxE ?_
 refine q0a h1 ?_;refine gQ ?_;refine q0a h2 ?_;refine gQ ?_;refine q0a hsm ?_;refine gQ ?_;refine q0a (z2V e) ?_;refine gQ ?_;refine q0a q8p ?_;refine gQ ?_;trivial
end Go.Proofs.YtikapabgggphpaaGreatDoor
