/- PacCopies: the law's region of two copies; its contract. -/
import Derived.Test.YtmapiojgmbgbgaaGreatDoorR30
set_option linter.all false
namespace Go.Proofs.YtmapiojgmbgbgaaGreatDoor
open Go Go.Sx Go.Proofs
set_option maxRecDepth 100000
set_option maxHeartbeats 40000000
def irx7(r:Array Oper):XI:=⟨127,[.tmp 6],[(.reg [o1 3 (.box 28 (.tmp 0)),o1 4 (.box 28 (.tmp 1)),o1 6 (.mov (.const (.bool false)))]),(.reg [o1 15 (.ld (some 6) (.tmp 3)),o1 16 (.call (.func 9) [(.tmp 15)]),o1 17 (.un .not (.tmp 16)),mv 18 17,oF 19 (.ld (some 6) (.tmp 4)) 18,oF 20 (.call (.func 9) [(.tmp 19)]) 18,oF 21 (.un .not (.tmp 20)) 18,o1 22 (.pick (.tmp 18) (.const (.bool true)) (.tmp 21))]),(.cond (.tmp 22) (.seq (.reg [o1 23 (.call (.func 12) []),mv 6 23]) .ret) .skip),(.reg [o1 7 (.mov (.const (.bool false)))]),(.reg [o1 8 (.mov (ci 0))]),(.blk 0 (.loop (.seq (.seq (.reg [mv 24 8,o1 25 (.fa 4 (.tmp 3)),o1 26 (.ld none (.tmp 25)),o1 27 (.len false (.tmp 26)),o1 28 (.bin .lss 0 (.tmp 24) (.tmp 27))]) (.cond (.tmp 28) .skip (.exit 0))) (.seq (.blk 1 (.reg [mv 31 7,mv 32 31,oF 33 (.fa 4 (.tmp 3)) 32,oF 34 (.ld none (.tmp 33)) 32,oF 35 (.mov (.tmp 8)) 32,oF 36 (.ia 1 (.tmp 34) (.tmp 35)) 32,oF 37 (.ld none (.tmp 36)) 32,oF 38 (.mov (.tmp 2)) 32,oF 39 (.bin .eql 0 (.tmp 37) (.tmp 38)) 32,o1 40 (.pick (.tmp 32) (.const (.bool true)) (.tmp 39)),mv 7 40])) (.reg [mv 29 8,o1 30 (.bin .add 0 (.tmp 29) (ci 1)),mv 8 30]))))),(.drw [(true,o1 41 (.ld (some 6) (.tmp 3))),(true,o1 42 (.ld (some 6) (.tmp 4))),(true,o1 44 (.ld (some 6) (.tmp 3))),(true,o1 45 (.ld (some 6) (.tmp 4))),(false,o1 43 (.call (.func 33) [(.tmp 41),(.tmp 42)])),(false,o1 46 (.call (.func 18) [(.tmp 44),(.tmp 45)])),(true,o1 47 (.bin .neq 3 (.tmp 43) (.tmp 46))),(true,mv 48 47),(true,oF 49 (.ld (some 6) (.tmp 3)) 48),(true,oF 50 (.mov (.tmp 2)) 48),(true,oF 52 (.mov (.tmp 7)) 48),(false,oF 51 (.call (.func 34) [(.tmp 49),(.tmp 50)]) 48),(true,oF 53 (.bin .neq 3 (.tmp 51) (.tmp 52)) 48),(true,o1 54 (.pick (.tmp 48) (.const (.bool true)) (.tmp 53)))]),(.cond (.tmp 54) (.seq (.reg [o1 6 (.mov (.const (.bool false)))]) .ret) .skip)],r,[(.reg [o1 59 (.ld (some 6) (.tmp 9)),o1 60 (.ld (some 6) (.tmp 3)),o1 61 (.call (.func 18) [(.tmp 59),(.tmp 60)]),o1 62 (.un .not (.tmp 61))]),(.cond (.tmp 62) (.seq (.reg [o1 6 (.mov (.const (.bool false)))]) .ret) .skip),(.reg [o1 11 (.mov (ci 0))]),(.blk 2 (.loop (.seq (.seq (.reg [mv 63 11,o1 64 (.fa 0 (.tmp 9)),o1 65 (.fa 0 (.tmp 64)),o1 66 (.ld none (.tmp 65)),o1 67 (.len false (.tmp 66)),o1 68 (.bin .lss 0 (.tmp 63) (.tmp 67))]) (.cond (.tmp 68) .skip (.exit 2))) (.seq (.blk 3 (.reg [o1 71 (.fa 0 (.tmp 9)),o1 72 (.fa 0 (.tmp 71)),o1 73 (.ld none (.tmp 72)),mv 74 11,o1 75 (.ia 1 (.tmp 73) (.tmp 74)),o0 (.st 1 (.tmp 75) (.const (.string ⟨#[63]⟩)))])) (.reg [mv 69 11,o1 70 (.bin .add 0 (.tmp 69) (ci 1)),mv 11 70]))))),(.reg [o1 12 (.mov (ci 0))]),(.blk 4 (.loop (.seq (.seq (.reg [mv 76 12,o1 77 (.fa 4 (.tmp 9)),o1 78 (.ld none (.tmp 77)),o1 79 (.len false (.tmp 78)),o1 80 (.bin .lss 0 (.tmp 76) (.tmp 79))]) (.cond (.tmp 80) .skip (.exit 4))) (.seq (.blk 5 (.reg [o1 83 (.fa 4 (.tmp 9)),o1 84 (.ld none (.tmp 83)),mv 85 12,o1 86 (.ia 1 (.tmp 84) (.tmp 85)),o1 87 (.ld none (.tmp 86)),o1 88 (.bin .add 0 (.tmp 87) (ci 1)),o1 89 (.ia 1 (.tmp 84) (.tmp 85)),o0 (.st 1 (.tmp 89) (.tmp 88))])) (.reg [mv 81 12,o1 82 (.bin .add 0 (.tmp 81) (ci 1)),mv 12 82]))))),(.reg [o1 13 (.mov (ci 0))]),(.blk 6 (.loop (.seq (.seq (.reg [mv 90 13,o1 91 (.fa 5 (.tmp 9)),o1 92 (.ld none (.tmp 91)),o1 93 (.len false (.tmp 92)),o1 94 (.bin .lss 0 (.tmp 90) (.tmp 93))]) (.cond (.tmp 94) .skip (.exit 6))) (.seq (.blk 7 (.seq (.seq (.reg [o1 14 (.mov (ci 0))]) (.blk 8 (.loop (.seq (.seq (.reg [mv 97 14,o1 98 (.fa 5 (.tmp 9)),o1 99 (.ld none (.tmp 98)),mv 100 13,o1 101 (.ia 2 (.tmp 99) (.tmp 100)),o1 102 (.fa 0 (.tmp 101)),o1 103 (.ld none (.tmp 102)),o1 104 (.len false (.tmp 103)),o1 105 (.bin .lss 0 (.tmp 97) (.tmp 104))]) (.cond (.tmp 105) .skip (.exit 8))) (.seq (.blk 9 (.reg [o1 108 (.fa 5 (.tmp 9)),o1 109 (.ld none (.tmp 108)),mv 110 13,o1 111 (.ia 2 (.tmp 109) (.tmp 110)),o1 112 (.fa 0 (.tmp 111)),o1 113 (.ld none (.tmp 112)),mv 114 14,o1 115 (.ia 1 (.tmp 113) (.tmp 114)),o0 (.st 1 (.tmp 115) (.const (.string ⟨#[63]⟩)))])) (.reg [mv 106 14,o1 107 (.bin .add 0 (.tmp 106) (ci 1)),mv 14 107])))))) (.reg [o1 116 (.fa 5 (.tmp 9)),o1 117 (.ld none (.tmp 116)),mv 118 13,o1 119 (.ia 2 (.tmp 117) (.tmp 118)),o1 120 (.fa 1 (.tmp 119)),o0 (.st 1 (.tmp 120) (.const (.string ⟨#[63]⟩)))]))) (.reg [mv 95 13,o1 96 (.bin .add 0 (.tmp 95) (ci 1)),mv 13 96]))))),(.reg [o1 121 (.ld (some 6) (.tmp 10)),o1 122 (.ld (some 6) (.tmp 3)),o1 123 (.call (.func 18) [(.tmp 121),(.tmp 122)]),mv 124 123,oT 125 (.call (.func 12) []) 124,o1 126 (.pick (.tmp 124) (.tmp 125) (.const (.bool false))),mv 6 126]),.ret]⟩
theorem fix7:xinfo Tryz.prog 7=some (irx7 (xreg Tryz.prog 7)):=by kernel_rfl
attribute [go_sem] irx7

def c2pac(p:Pac):C2P:={f:=35,p:=3,d0:=55,d1:=56,d2:=57,d3:=58,d4:=9,d5:=10,T:=28,m:=6,zs:=[.slice none 0 0,.string ⟨#[]⟩,.int .i64 0,.int .i64 0,.slice none 0 0,.slice none 0 0],ty:=PacT,x:=p}
theorem z9e(p:Pac):IsC2 Tryz.prog (xreg Tryz.prog 7) (c2pac p):=
 j1d (by kernel_rfl) (by kernel_rfl) (by kernel_rfl) rfl rfl
def memN(g:List Int)(v:Int)(i:Nat):Bool:=(g.take i).any fun x=>decide (x=v)
theorem z6B{g:List Int}{v:Int}{i:Nat}(h:i<g.length):memN g v (i+1)=(memN g v i||decide (g.getD i (Ty.dflt I64)=v)):=by
 unfold memN;rw [q0W (d:=(Ty.dflt I64:Int)) h];simp
theorem z9d(g:List Int)(v:Int):memN g v g.length=decide (v∈g):=by
 unfold memN;rw [AA,BE];simp
theorem z9K:(datList.all fun e=>e.2.1.flat)=true:=by rfl
theorem z8t{p:Pac}(h:smallP p=true)(ho:PacT.ok p):cpOk p:=by
 simp only [smallP,Ai,decide_eq_true_eq,q2G,viaAt] at h;have hp:∀v:Prin,shortB v=true→v.1.length≤6:=fun v hv=>by simp only [shortB,Ai,decide_eq_true_eq] at hv;omega
 refine ⟨by have:=hp _ h.2.1;omega,by omega,by omega,ho.2.2.2.2.2,fun x hx=> ?_⟩
 obtain ⟨j,hj,rfl⟩:=AX hx;have h1:=h.1 j hj;rw [q6D hj] at h1;have:=hp _ h1;omega
theorem z5a(p:Pac)(ho:PacT.ok p)(q:Pac)(hq:PacT.ok q)(v:Int):PC Tryz.prog 7 [.agg (PacT.cells p),.agg (PacT.cells q),rI v] (rB true):=by
 have c1:=z2J p ho;have c2:=z2J q hq;have ck:=z8k;have ce:=z7W p q ho;have cm:=q9s p v ho;have cs:=q5t p q ho;have cz:=q5t p p ho;rw [decide_eq_true rfl] at cz;refine q0w rfl rfl ?_;refine j4H fix7 ?_;refine uQ 600 _ ?_;generalize hR:xreg Tryz.prog 7=R;with_reducible refine sxE ?_
 refine q0a c1 ?_;cases h1:smallP p with
 |false=>
  refine gQ ?_;refine cQ ck ?_;trivial
 |true=>
 refine gQ ?_;refine q0a c2 ?_;cases h2:smallP q with
 |false=>
  refine gQ ?_;refine cQ ck ?_;trivial
 |true=>
 clear c1 c2;have hgl:List.length p.2.2.2.1≤1125899906842624:=ho.2.2.2.1.1;rw [←z9d] at cm;refine gQ ?_;refine q0X (fun i=>[(7,rB (memN p.2.2.2.1 v i)),(8,rI (i:Nat))]) (List.length p.2.2.2.1) (fun _=>True) (by first|decide|simp) (fun i=>rfl) ?_ fun i hi _=> ?_
 · with_reducible refine sxE ?_
   rfl
 have hwr:=wsx i (by omega)
 have hms:=fun h=>z6B (g:=p.2.2.2.1) (v:=v) (i:=i) h;by_cases hlt:i<List.length p.2.2.2.1
 · have hms:=hms hlt;cases hm:memN p.2.2.2.1 v i with
   |false=>
    rw [hm,Bool.false_or] at hms;refine gQ ?_;refine ⟨fun _=>⟨⟨by omega,hlt⟩,hlt,trivial,⟨[],rfl⟩,?_⟩,fun h=>absurd hlt h⟩
    with_reducible refine sy2 hwr hms ?_;trivial
   |true=>
    rw [hm,CB] at hms;refine gQ ?_;refine ⟨fun _=>⟨hlt,trivial,⟨[],rfl⟩,?_⟩,fun h=>absurd hlt h⟩;with_reducible refine sy2 hwr hms ?_;trivial
 obtain rfl:i=List.length p.2.2.2.1:=by omega
 refine gQ ?_;refine ⟨fun h=>absurd h hlt,fun _=>q0l ce ?_⟩;clear hms hwr hi;generalize memN p.2.2.2.1 v (List.length p.2.2.2.1)=mb at*;refine gQ ?_;refine cR cs ?_;refine cR cm ?_;subst hR;have hcp:=z8t h1 ho;intro id k hns hrel;refine z9m (c:=c2pac p) (h:=0) (T':=28) mixed (z9e p) z9K rfl ho rfl rfl (by intro d hd;simp [c2pac] at hd⊢;omega) hns (fun q w0 vs hv=>z9M p hv hcp) (z8p p hcp) fun z w1 N vs hv hz=> ?_
 change PacT.rel z w1 p vs at hv;dsimp only [c2pac];obtain ⟨A1,c1,A4,c4,A5,c5,rfl,r1,s1,s4,s5⟩:=z7v hv
 letI:Ghost:=frzN z w1 N
 refine q0f ?_ hrel;clear hrel hns;refine gQ ?_;refine z4Q cz (z9h hv (z7D rfl z4a)) ?_;refine uQ 6 _ ?_;with_reducible refine sxE ?_
 refine j3q hz rfl rfl fun w' htr=> ?_
 letI:Ghost:=scrG z w'
 have s1:Sl z w' .str p.1.1 (.slice A1 p.1.1.length c1):=htr (.slice .str) _ _ s1;have s4:Sl z w' I64 p.2.2.2.1 (.slice A4 p.2.2.2.1.length c4):=htr (.slice I64) _ _ s4;have s5:Sl z w' PrinT p.2.2.2.2 (.slice A5 p.2.2.2.2.length c5):=htr (.slice PrinT) _ _ s5;clear htr hz hv r1;obtain ⟨hl1,hl4,hl5,_,hl6⟩:=hcp;obtain ⟨B1,d1,e1,hA1⟩:=s1.out;cases e1;obtain ⟨B4,d4,e4,hA4⟩:=s4.out;cases e4;obtain ⟨B5,d5,e5,hA5⟩:=s5.out;cases e5;refine uQ 2 _ ?_;with_reducible refine sxE ?_
 refine q7l 11 p.1.1.length (fun _=>True) ?_ fun i hi _=> ?_
 · with_reducible refine sxE ?_;trivial
 refine uQ 12 _ ?_;with_reducible refine sxE ?_
 have hwr:=wsx i (by omega)
 refine ⟨fun hlt=> ?_,fun hge=> ?_⟩
 · rcases hA1 with h0| ⟨b1,o1,rfl,hat1⟩
   · exfalso;rw [h0] at hlt;simp at hlt
   have hy:=hat1 i _ (Ab hlt);refine gQ ?_;refine ⟨⟨by omega,hlt⟩,z1K hy.1 hy.str (by decide) ?_⟩
   refine gQ ?_;refine ⟨i+1,hlt,by dsimp only;omega,rfl,?_⟩
   with_reducible refine sx1 hwr ?_;trivial
 clear hi hge hwr;refine uQ 6 _ ?_;with_reducible refine sxE ?_
 refine q7l 12 (List.length p.2.2.2.1) (fun _=>True) ?_ fun i hi _=> ?_
 · with_reducible refine sxE ?_;trivial
 refine uQ 11 _ ?_;with_reducible refine sxE ?_
 have hwr:=wsx i (by omega)
 refine ⟨fun hlt=> ?_,fun hge=> ?_⟩
 · rcases hA4 with h0| ⟨b4,o4,rfl,hat4⟩
   · exfalso;rw [h0] at hlt;simp at hlt
   have hy:=hat4 i _ (Ab hlt);refine gQ ?_;refine ⟨⟨by omega,hlt⟩,j1o hy.1 hy.int fun m=> ?_⟩
   refine gQ ?_;refine ⟨⟨by omega,hlt⟩,j2q hy.1 hy.int ?_⟩
   refine gQ ?_;refine ⟨i+1,hlt,by dsimp only;omega,rfl,?_⟩
   with_reducible refine sx1 hwr ?_;trivial
 clear hi hge hwr;refine uQ 6 _ ?_;with_reducible refine sxE ?_
 have hok5:=ho.2.2.2.2;refine q7l 13 (List.length p.2.2.2.2) (fun _=>True) ?_ fun i hi _=> ?_
 · with_reducible refine sxE ?_;trivial
 refine uQ 11 _ ?_;with_reducible refine sxE ?_
 have hwr:=wsx i (by omega)
 refine ⟨fun hlt=> ?_,fun hge=> ?_⟩
 · rcases hA5 with h0| ⟨b5,o5,rfl,hat5⟩
   · exfalso;rw [h0] at hlt;simp at hlt
   have hx:=hat5 i (p.2.2.2.2.getD i PrinT.dflt) (by rw [Ad,Ab hlt];rfl)
   have hokp:=hok5.2 _ (q1a (d:=PrinT.dflt) hlt);generalize p.2.2.2.2.getD i PrinT.dflt=x at hx hokp;refine gQ ?_;refine q7l 14 x.1.length (fun _=>True) ?_ fun j hj _=> ?_
   · with_reducible refine sxE ?_;trivial
   have hlen2:=hokp.1.1;have hwr2:=wsx j (by omega)
   refine gQ ?_;refine ⟨⟨by omega,hlt⟩,j0B (t:=.str) (ys:=x.1) hx.fst fun v hv'=> ?_⟩
   obtain ⟨A',c',rfl,hA'⟩:=hv'.out;refine gQ ?_;refine ⟨fun hlt2=> ?_,fun hge2=> ?_⟩
   · refine ⟨⟨by omega,hlt⟩,j0B (t:=.str) (ys:=x.1) hx.fst fun v hv2=> ?_⟩
     obtain ⟨A2,c2,rfl,hA2⟩:=hv2.out;rcases hA2 with h0| ⟨b2,o2,rfl,hat2⟩
     · exfalso;rw [h0] at hlt2;simp at hlt2
     have hlt3:j<x.1.length:=by omega
     have hy:=hat2 j _ (Ab hlt3);refine gQ ?_;refine ⟨⟨by omega,hlt3⟩,z1K hy.1 hy.str (by decide) ?_⟩
     refine gQ ?_;refine ⟨j+1,hlt3,by dsimp only;omega,rfl,?_⟩
     with_reducible refine sx1 hwr2 ?_;trivial
   refine ⟨⟨by omega,hlt⟩,z1K hx.1 hx.snd.str (by decide) ?_⟩
   refine gQ ?_;refine ⟨i+1,hlt,by dsimp only;omega,rfl,?_⟩
   with_reducible refine sx1 hwr ?_;trivial
 clear hi hge hwr;refine gQ ?_;refine cQ cz ?_;refine cQ ck ?_;trivial
end Go.Proofs.YtmapiojgmbgbgaaGreatDoor
