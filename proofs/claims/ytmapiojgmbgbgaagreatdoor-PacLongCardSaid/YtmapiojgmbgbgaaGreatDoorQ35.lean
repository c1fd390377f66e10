/- Signed data in lists: Find; Put into no list. -/
import Derived.Test.YtmapiojgmbgbgaaGreatDoorQ31
set_option linter.all false
namespace Go.Proofs.YtmapiojgmbgbgaaGreatDoor
open Go Go.Sx Go.Proofs
set_option maxRecDepth 100000
set_option maxHeartbeats 4000000
theorem j3n:PC Tryz.prog 76 [.raw (.slice none 0 0),.fn 77 [] []] (rI (-1)):=by
 refine q0p rfl rfl ?_;refine rQ fi76 ?_;refine q0R (fun i=>[(8,.raw (.int .i64 ((i:Nat):Int)))]) (0) (fun j=>(fun _=>true) j=true) (by first|decide|simp) (fun i=>rfl) ?_ fun i hi hall=> ?_
 · (with_reducible refine sxE ?_<;>try exact True.intro)
   all_goals (try rfl)
 have hwr:=wsx i (by omega)
 refine gQ ?_;have bad:i< (0)→(fun _=>true) i=false→allN (0) (fun _=>true)=false:=fun hlt hv=>q0o hlt hv;have fin:¬i< (0)→allN (0) (fun _=>true)=true:=fun h=>q0u fun j hj=>hall j (by omega)
 try dsimp only at bad fin hall
 obtain rfl:i=0:=by omega
 exact ⟨fun h=>absurd h (by decide),fun _=>trivial⟩
theorem j5M(b:List UInt8)(hb:b.length≤1099511627776):PC Tryz.prog 24 [.raw (.slice none 0 0),.isl .u8 b] (if 4096<b.length then .tup [.isl PreT [],rI 2] else .tup [.isl PreT [((128:Int),b)],rI 0]):=by
 by_cases h:4096<b.length
 · rw [if_pos h];have f1:(4096< (b.length:Int))=True:=eq_true (by omega)
   refine q0f rfl rfl ?_;refine ry1 fi24 f1 ?_;trivial
 rw [if_neg h];have f1:(4096< (b.length:Int))=False:=eq_false (by omega)
 refine q0f rfl rfl ?_;refine ry1 fi24 f1 ?_;refine cQ j3n ?_;refine q0R (fun i=>[(7,.raw (.slice none 0 0)),(25,rI (i:Nat))]) 0 (fun _=>True) (by first|decide|simp) (fun i=>rfl) ?_ fun i hi _=> ?_
 · with_reducible refine sxE ?_;trivial
 obtain rfl:i=0:=by omega
 refine uQ 12 _ ?_;with_reducible refine sxE ?_
 refine ⟨⟨by omega,by omega⟩,?_⟩
 refine q0Q 0 rfl rfl (by omega) ?_ ?_ ?_
 · with_reducible refine sxE ?_;trivial
 · with_reducible refine sxE ?_
   omega
 with_reducible refine sxE ?_
 rw [Ab,AA];refine gQ ?_;trivial
set_option maxHeartbeats 40000000
theorem j4x{P:Program}{f:FuncId}{args args':List SV}{s:SV}(h:PC P f args s)(hw:∀C vs,SV.denL C args' vs→SV.denL C args vs):PC P f args' s:=⟨h.1,fun H K hk C vs hwd ht hv=>h.2 H K hk C vs hwd ht (hw C vs hv)⟩
theorem z8y{P:Program}{f:FuncId}{ty:Ty}{xs:List ty.den}{l l2:List SV}{s:SV}(h:PC P f (.agg (.isl ty xs :: l) :: l2) s):PC P f (.agg (.fsl ty xs :: l) :: l2) s:=j4x h fun C vs d=>by
 obtain ⟨v,us,rfl,d1,d2⟩:=q0e.1 d;rw [SV.den] at d1;obtain ⟨ws,rfl,d3⟩:=d1;obtain ⟨v,us',rfl,d4,d5⟩:=q0e.1 d3;rw [SV.den] at d4;refine q0e.2 ⟨_,us,rfl,?_,d2⟩;rw [SV.den];refine ⟨_,rfl,q0e.2 ⟨v,us',rfl,?_,d5⟩⟩;rw [SV.den];exact d4.1
def vaN(x:Prin)(i:Nat):List Prin:=List.replicate i x
def grN(i:Nat):List Int:=(List.range i).map fun (j:Nat)=>((1073741824+j:Nat):Int)
theorem z9W(x:Prin)(i:Nat):vaN x (i+1)=vaN x i++ [x]:=BT
theorem z8i(x:Prin)(i:Nat):(vaN x i).length=i:=Bc
theorem j0N(i:Nat):grN (i+1)=grN i++ [((1073741824+i:Nat):Int)]:=by unfold grN;rw [CG,CF];rfl
theorem z8S(i:Nat):(grN i).length=i:=by simp [grN]
def rep32(c:UInt8):List UInt8:=List.replicate 32 c
theorem q3l(c:UInt8):(rep32 c).length=32:=Bc
theorem j1L(hS:SumC)(n names:Int):PC Tryz.prog 5 [rI n,rI names] (rB true):=by
 have ck:=z3H;by_cases hA:(4090≤n∧n≤4110)∧(0≤names∧names≤16)
 rotate_left
 · have hc:((n<4090)=True)∨((n<4090)=False∧(4110<n)=True)∨((n<4090)=False∧(4110<n)=False∧(names<0)=True)∨((n<4090)=False∧(4110<n)=False∧(names<0)=False∧(16<names)=True):=by
    simp only [eq_iff_iff,iff_true,iff_false];omega
   rcases hc with y1| ⟨y1,y2⟩ | ⟨y1,y2,y3⟩ | ⟨y1,y2,y3,y4⟩
   · refine q0p rfl rfl ?_;refine ry1 fi5 y1 ?_;refine cQ ck ?_;trivial
   · refine q0p rfl rfl ?_;refine ry2 fi5 y1 y2 ?_;refine cQ ck ?_;trivial
   · refine q0p rfl rfl ?_;refine ry5 fi5 y1 y2 y3 y3 y3 ?_;refine cQ ck ?_;trivial
   refine q0p rfl rfl ?_;refine ry5 fi5 y1 y2 y3 y4 y4 ?_;refine cQ ck ?_;trivial
 obtain ⟨⟨a1,a2⟩,a3,a4⟩:=hA;obtain ⟨m,rfl⟩:∃m:Nat,n=m:=⟨n.toNat,by omega⟩
 obtain ⟨k,rfl⟩:∃k:Nat,names=k:=⟨names.toNat,by omega⟩
 have g1:((m:Int) <4090)=False:=eq_false (by omega)
 have g2:(4110< (m:Int))=False:=eq_false (by omega)
 have g3:((k:Int) <0)=False:=eq_false (by omega)
 have g4:(16< (k:Int))=False:=eq_false (by omega)
 have c1:=q5n 1 m (by omega)
 have c2:=j5M (List.replicate m 1) (by rw [Bc];omega)
 rw [Bc] at c2;have cA:PC Tryz.prog 25 [.raw (.int .u8 97),rI 32] (.isl .u8 (rep32 97)):=q5n 97 32 (by decide)
 have cB:PC Tryz.prog 25 [.raw (.int .u8 98),rI 32] (.isl .u8 (rep32 98)):=q5n 98 32 (by decide)
 have cC:PC Tryz.prog 25 [.raw (.int .u8 99),rI 32] (.isl .u8 (rep32 99)):=q5n 99 32 (by decide)
 have cD:PC Tryz.prog 25 [.raw (.int .u8 100),rI 32] (.isl .u8 (rep32 100)):=q5n 100 32 (by decide)
 have cE:PC Tryz.prog 25 [.raw (.int .u8 69),rI 32] (.isl .u8 (rep32 69)):=q5n 69 32 (by decide)
 have cK:PC Tryz.prog 25 [.raw (.int .u8 1),rI 32] (.isl .u8 (rep32 1)):=q5n 1 32 (by decide)
 have lA:=q3l 97;have lB:=q3l 98;have lC:=q3l 99;have lD:=q3l 100;have lE:=q3l 69;have lK:=q3l 1;generalize rep32 97=sA at*;generalize rep32 98=sB at*;generalize rep32 99=sC at*;generalize rep32 100=sD at*;generalize rep32 69=sE at*;generalize rep32 1=sK at*;generalize List.replicate m (1:UInt8)=xm at*;have uA:(strOf sA).size=32:=by show sA.toArray.size=32;simp [lA]
 have uB:(strOf sB).size=32:=by show sB.toArray.size=32;simp [lB]
 have uC:(strOf sC).size=32:=by show sC.toArray.size=32;simp [lC]
 have uD:(strOf sD).size=32:=by show sD.toArray.size=32;simp [lD]
 have uE:(strOf sE).size=32:=by show sE.toArray.size=32;simp [lE]
 obtain ⟨L,hL⟩:∃L:List ByteArray,L= [strOf sA,strOf sB,strOf sC,strOf sD]:=⟨_,rfl⟩;obtain ⟨E,hE⟩:∃E:ByteArray,E=strOf sE:=⟨_,rfl⟩;have hLl:L.length=4:=by rw [hL];rfl
 have okL:PrinT.ok ((L,E):Prin):=by
  refine ⟨⟨by rw [hLl];decide,fun x hx=> ?_⟩,show E.size≤_ by rw [hE];omega⟩
  rw [hL] at hx;simp only [Bi,CA,or_false] at hx;rcases hx with rfl|rfl|rfl|rfl<;> (show (strOf _).size≤_;omega)
 have hEs:E.size≤140737488355328:=okL.2;have okP:PacT.ok (((L,E),0,0,grN 64,vaN (L,E) k):Pac):=⟨okL,trivial,trivial,⟨by rw [z8S];decide,fun _ _=>trivial⟩,⟨by rw [z8i];show k≤_;omega,fun x hx=>by rw [List.eq_of_mem_replicate hx];exact okL⟩⟩
 have okK:KeyT.ok ((2,0,sK):Key):=⟨trivial,trivial,⟨by show sK.length≤_;omega,fun _ _=>trivial⟩⟩
 have s1:=z8y (q8v _ _ _ okP okK okK);have s2:=z8y (z3E hS _ _ _ okP okK okK);generalize signS ((L,E),0,0,grN 64,vaN (L,E) k) (2,0,sK) (2,0,sK)=X at*;obtain ⟨x1,x2⟩:=X;clear okP okK;obtain ⟨d,e,c2,hh⟩:∃ (d:List Pre) (e:Int),PC Tryz.prog 24 [.raw (.slice none 0 0),.isl .u8 xm] (.tup [.isl PreT d,rI e])∧(((4096< (m:Int))=True∧((m:Int)≤4096)=False∧e=2)∨((4096< (m:Int))=False∧((m:Int)≤4096)=True∧e=0)):=by
  by_cases hm:4096<m
  · rw [if_pos hm] at c2;exact ⟨_,_,c2,.inl ⟨eq_true (by omega),eq_false (by omega),rfl⟩⟩
  rw [if_neg hm] at c2;exact ⟨_,_,c2,.inr ⟨eq_false (by omega),eq_true (by omega),rfl⟩⟩
 rcases hh with ⟨f1,f2,rfl⟩ | ⟨f1,f2,rfl⟩
 all_goals
  refine q0p rfl rfl ?_;refine ry5 fi5 g1 g2 g3 g4 g4 ?_;refine cQ c1 ?_;refine cQ c2 ?_;refine q0a (q2L _) ?_;refine gy2 f1 f2 ?_;first
   |refine q0a (q2L _) ?_
    refine gQ ?_
   |skip
  refine q0q cA ?_;refine gQ ?_;refine q0q cB ?_;refine gQ ?_;refine q0q cC ?_;refine gQ ?_;refine q0q cD ?_;refine gQ ?_;refine q0q cE ?_;refine uQ 2 _ ?_;with_reducible refine sy6 lA lB lC lD lE lE ?_
  refine ⟨⟨by omega,by omega,by omega,by omega⟩,?_⟩
  rw [←hL,←hE];refine gQ ?_;refine q1E 1 5 (PrinT) rfl rfl rfl ?_;with_reducible refine sxE ?_
  refine q0i (ι:=Nat×List SObj) (fun s=>[(9,rI s.1)]) (fun s=>[.cells 24 [.fsl .str L,.raw (.string E)],.cells 28 [.fsl .str L,.raw (.string E),rI 0,rI 0,.raw (.slice none 0 0),.bld (s.2.length+2) (PrinT) (vaN (L,E) s.1).length]]++s.2++ [.row (PrinT) (vaN (L,E) s.1)]) (fun s=>k-s.1) (fun s=>s.1≤k) (0,[]) (Ak _) rfl ?_ ?_
  · with_reducible refine sxE ?_;trivial
  rintro ⟨i,G⟩ hi;dsimp only at hi;have hwr:=wsx i (by omega)
  have hln:(vaN (L,E) i).length=i:=z8i _ _;refine uQ 12 _ ?_;with_reducible refine sxaE ?_
  refine ⟨fun hlt=> ?_,fun hge=> ?_⟩
  · have hst:vaN (L,E) (i+1)=vaN (L,E) i++ [((L,E):Prin)]:=z9W _ _;refine aQ ?_;refine ⟨hEs,⟨by omega,by omega⟩,(i+1,G++ [.dead,.row (PrinT) [((L,E):Prin)]]),by dsimp only;omega,by dsimp only;omega,?_,?_⟩
    · simp [hst]
    with_reducible refine sya1 hwr ?_;trivial
  obtain rfl:k=i:=by omega
  refine q3f (ty:=PrinT) (xs:=vaN (L,E) k) [.cells 24 [.fsl .str L,.raw (.string E)],.cells 28 [.fsl .str L,.raw (.string E),rI 0,rI 0,.raw (.slice none 0 0),.bld (G.length+2) (PrinT) (vaN (L,E) k).length]] [.cells 24 [.fsl .str L,.raw (.string E)],.cells 28 [.fsl .str L,.raw (.string E),rI 0,rI 0,.raw (.slice none 0 0),.bld 2 (PrinT) (vaN (L,E) k).length]] G rfl (by simp) (by simp) ?_ (by rfl) ?_ ?_ ?_
  · simp [SObj.ren,SV.ren,SV.renL,shift,Ba]
  · rfl
  · with_reducible refine sxE ?_;trivial
  with_reducible refine sxE ?_
  refine q0Q 2 rfl rfl (by omega) ?_ ?_ ?_
  · with_reducible refine sxE ?_
    exact Ag _
  · with_reducible refine sxE ?_;trivial
  with_reducible refine sxE ?_
  rw [Aa (Ag _)];clear hi hwr hln hge;refine gQ ?_;refine q1E 1 4 (I64) rfl rfl rfl ?_;with_reducible refine sxE ?_
  refine q0i (ι:=Nat×List SObj) (fun s=>[(10,rI s.1)]) (fun s=>[.cells 24 [.fsl .str L,.raw (.string E)],.cells 28 [.fsl .str L,.raw (.string E),rI 0,rI 0,.bld (s.2.length+3) (I64) (grN s.1).length,.isl PrinT (vaN (L,E) k)],.dead]++s.2++ [.row (I64) (grN s.1)]) (fun s=>64-s.1) (fun s=>s.1≤64) (0,[]) (Ak _) rfl ?_ ?_
  · with_reducible refine sxE ?_;trivial
  rintro ⟨i,G⟩ hi;dsimp only at hi;have hwr:=wsx i (by omega)
  have hln:(grN i).length=i:=z8S _;refine uQ 7 _ ?_;with_reducible refine sxaE ?_
  refine ⟨fun hlt=> ?_,fun hge=> ?_⟩
  · have hst:grN (i+1)=grN i++ [((1073741824+i:Nat):Int)]:=j0N _;have hw2:IntKind.i64.wrap (1073741824+ (i:Int))=((1073741824+i:Nat):Int):=wrapi (by omega)
    refine gya2 hw2 hw2 ?_;refine ⟨⟨by omega,by omega⟩,(i+1,G++ [.dead,.row (I64) [((1073741824+i:Nat):Int)]]),by dsimp only;omega,by dsimp only;omega,?_,?_⟩
    · simp [hst]
    with_reducible refine sya1 hwr ?_;trivial
  obtain rfl:i=64:=by omega
  refine q3f (ty:=I64) (xs:=grN 64) [.cells 24 [.fsl .str L,.raw (.string E)],.cells 28 [.fsl .str L,.raw (.string E),rI 0,rI 0,.bld (G.length+3) (I64) (grN 64).length,.isl PrinT (vaN (L,E) k)],.dead] [.cells 24 [.fsl .str L,.raw (.string E)],.cells 28 [.fsl .str L,.raw (.string E),rI 0,rI 0,.bld 3 (I64) (grN 64).length,.isl PrinT (vaN (L,E) k)],.dead] G rfl (by simp) (by simp) ?_ (by rfl) ?_ ?_ ?_
  · simp [SObj.ren,SV.ren,SV.renL,shift,Ba]
  · rfl
  · with_reducible refine sxE ?_;trivial
  with_reducible refine sxE ?_
  refine q0Q 3 rfl rfl (by omega) ?_ ?_ ?_
  · with_reducible refine sxE ?_
    exact Ag _
  · with_reducible refine sxE ?_;trivial
  with_reducible refine sxE ?_
  rw [Aa (Ag _)];clear hi hwr hln hge;refine gQ ?_;refine cQ cK ?_;refine cQ s1 ?_;refine cQ s2 ?_;refine cQ (q2L _) ?_;refine cQ ck ?_;trivial
end Go.Proofs.YtmapiojgmbgbgaaGreatDoor
