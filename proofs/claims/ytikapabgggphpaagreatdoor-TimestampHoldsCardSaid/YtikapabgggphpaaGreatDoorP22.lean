/- SHA-256: contracts: the program's block over a hash of the call's own. -/
import Derived.Test.YtikapabgggphpaaGreatDoorP21
set_option linter.all false
namespace Go.Proofs.YtikapabgggphpaaGreatDoor
open Go Go.Sx Go.Proofs
set_option maxRecDepth 100000
set_option maxHeartbeats 40000000
theorem z6S (b:List UInt8) (r:List UInt8×Int) (h:List Int) (hb:b.length=64) (hh:inWs h):PE Tryz.prog 194 [.rptr 0 (.prod (.arr 8 (.int .u32)) (.prod (.arr 64 .u8) (.int .i64))) 0 0,.isl .u8 b] [.row (.prod (.arr 8 (.int .u32)) (.prod (.arr 64 .u8) (.int .i64))) [(h,r)]] (.ret (.tup [])) [.row (.prod (.arr 8 (.int .u32)) (.prod (.arr 64 .u8) (.int .i64))) [((blkS b h),r)]]:=by
 refine q0d (Nat.le_refl _) ?_
 refine rQ fi194 ?_
 refine q0i (ι:=Nat) (fun t=>[(26,rI t)]) (fun t=>[.row (.prod (.arr 8 (.int .u32)) (.prod (.arr 64 .u8) (.int .i64))) [(h,r)],.row (.int .u32) (wL b t)]) (fun t=>16-t) (fun t=>t≤16) 0 (Nat.zero_le _) (by rw [q6Z];rfl) ?_ ?_
 · with_reducible refine sxE ?_;trivial
 intro t ht
 have hwr:=wsx t (by omega)
 have hwl:=q3C b t
 by_cases hlt:t<16
 · have w1:IntKind.i64.wrap (4* (t:Int))=((4*t:Nat):Int):=by rw [wrapi (by omega)];omega
   have w4:IntKind.i64.wrap (((4*t:Nat):Int)+4)=((4*t+4:Nat):Int):=by rw [wrapi (by omega)];omega
   refine uQ 600 _ ?_
   simp (maxSteps:=3000000) only [w1,w4,hwl,Nat.zero_add,go_sem,↓zA,↓reduceIte,↓reduceDIte] <;>try simp only [zB]
   have hdl:(List.drop (4*t) (List.take (4*t+4) b)).length=4:=by rw [List.length_drop,List.length_take];omega
   refine ⟨fun _=> ?_,fun h=>absurd h (by omega)⟩
   repeat (with_reducible refine And.intro (by first|omega|exact ⟨by omega,by omega,by omega,by omega⟩ |exact ⟨by omega,by omega⟩) ?_)
   refine ⟨t+1,by show t+1≤16;omega,by dsimp only;omega,?_,?_⟩
   · have hd:∀j,j<4→(List.drop (4*t) (List.take (4*t+4) b)).getD j Ty.u8.dflt=b.getD (4*t+j) 0:=fun j hj=>by
      rw [List.getD_eq_getElem?_getD,List.getElem?_drop,List.getElem?_take_of_lt (by omega),←List.getD_eq_getElem?_getD]
      rfl
     have ho:=or4 fun j=>(List.drop (4*t) (List.take (4*t+4) b)).getD j Ty.u8.dflt
     rw [ho,hd 0 (by omega),hd 1 (by omega),hd 2 (by omega),hd 3 (by omega)]
     have hw:((256* (256* (256* (b.getD (4*t+0) 0).toNat+ (b.getD (4*t+1) 0).toNat)+ (b.getD (4*t+2) 0).toNat)+ (b.getD (4*t+3) 0).toNat:Nat):Int)=wS b t:=by
      rw [z0T hlt]
      simp only [wdP,byI]
      omega
     show [SObj.row (.prod (.arr 8 (.int .u32)) (.prod (.arr 64 .u8) (.int .i64))) [(h,r)],SObj.row (.int .u32) ((wL b t).set t ((256* (256* (256* (b.getD (4*t+0) 0).toNat+ (b.getD (4*t+1) 0).toNat)+ (b.getD (4*t+2) 0).toNat)+ (b.getD (4*t+3) 0).toNat:Nat):Int))]= [SObj.row (.prod (.arr 8 (.int .u32)) (.prod (.arr 64 .u8) (.int .i64))) [(h,r)],SObj.row (.int .u32) (wL b (t+1))]
     rw [hw,q3D b (by omega)]
   with_reducible refine sx1 hwr ?_;trivial
 obtain rfl:t=16:=by omega
 refine uQ 600 _ ?_
 simp (maxSteps:=3000000) only [hwl,Nat.zero_add,go_sem,↓zA,↓reduceIte,↓reduceDIte] <;>try simp only [zB]
 refine ⟨fun h=>absurd h (by omega),fun _=> ?_⟩
 refine q1j (ι:=Nat) (fun t=>[(7,rI t)]) (fun t=>[.row (.prod (.arr 8 (.int .u32)) (.prod (.arr 64 .u8) (.int .i64))) [(h,r)],.row (.int .u32) (wL b t)]) (fun t=>64-t) (fun t=>16≤t∧t≤64) 16 (by decide) 2 rfl (by decide) (fun _=>rfl) (fun _=>rfl) (fun _=>rfl) ?_ ?_
 · with_reducible refine sxE ?_
   rfl
 intro t ht
 have hwl:=q3C b t
 have hwr:=wsx t (by omega)
 by_cases hlt:t<64
 · have e15:IntKind.i64.wrap ((t:Int) -15)=((t-15:Nat):Int):=by rw [wrapi (by omega)];omega
   have e2:IntKind.i64.wrap ((t:Int) -2)=((t-2:Nat):Int):=by rw [wrapi (by omega)];omega
   have e7:IntKind.i64.wrap ((t:Int) -7)=((t-7:Nat):Int):=by rw [wrapi (by omega)];omega
   have e16:IntKind.i64.wrap ((t:Int) -16)=((t-16:Nat):Int):=by rw [wrapi (by omega)];omega
   have g15:=q0T b (t:=t) (j:=t-15) (by omega) (by omega)
   have g2:=q0T b (t:=t) (j:=t-2) (by omega) (by omega)
   have g7:=q0T b (t:=t) (j:=t-7) (by omega) (by omega)
   have g16:=q0T b (t:=t) (j:=t-16) (by omega) (by omega)
   have i15:=q2p b (t-15)
   have i2:=q2p b (t-2)
   have i7:=q2p b (t-7)
   have i16:=q2p b (t-16)
   refine uQ 600 _ ?_
   simp (maxSteps:=3000000) only [e15,e2,e7,e16,g15,g2,g7,g16,hwl,Nat.zero_add,Ty.dflt,go_sem,↓zA,↓reduceIte,↓reduceDIte] <;>try simp only [zB]
   refine ⟨fun _=>⟨⟨by omega,by omega⟩,by omega,⟨by omega,by omega⟩,by omega,⟨by omega,by omega⟩,by omega,⟨by omega,by omega⟩,by omega,q0Q (q0E (wS b (t-2)) [17,19] i2 (by decide) (by decide)) ?_⟩,fun h=>absurd hlt (by omega)⟩
   refine gQ ?_
   refine q0D 2 (by decide) ?_
   with_reducible refine sxE ?_
   refine q0f (q0E (wS b (t-15)) [7,18] i15 (by decide) (by decide)) ?_
   refine uQ 600 _ ?_
   simp (maxSteps:=3000000) only [e15,e2,e7,e16,g15,g2,g7,g16,hwl,Nat.zero_add,Ty.dflt,go_sem,↓zA,↓reduceIte,↓reduceDIte] <;>try simp only [zB]
   repeat (with_reducible refine And.intro (by first|omega|exact ⟨by omega,by omega⟩) ?_)
   refine ⟨t+1,⟨by omega,hlt⟩,by dsimp only;omega,⟨[.dead],?_⟩,?_⟩
   · rw [schU i15 i2,←z0x (by omega),q3D b hlt]
     rfl
   with_reducible refine sx1 hwr ?_;trivial
 obtain rfl:t=64:=by omega
 refine gQ ?_
 have hl:=hh.1
 refine ⟨fun h=>absurd h (by omega),fun _=> ?_⟩
 repeat (with_reducible refine And.intro (by omega) ?_)
 refine q2U (t:=.arr 64 (.int .u32)) (x:=dat_sha_constants) (ag:=some 64) (s:=.dat (.arr 64 (.int .u32)) dat_sha_constants) (by unfold datList;repeat (first|exact .head _|apply List.Mem.tail)) rfl (.inr rfl) ?_
 refine gQ ?_
 refine q1j (ι:=Nat) (fun t=>[(134,rI t),(12,.raw (.int .u32 ((rnds b h t).getD 0 0))),(13,.raw (.int .u32 ((rnds b h t).getD 1 0))),(14,.raw (.int .u32 ((rnds b h t).getD 2 0))),(15,.raw (.int .u32 ((rnds b h t).getD 3 0))),(16,.raw (.int .u32 ((rnds b h t).getD 4 0))),(17,.raw (.int .u32 ((rnds b h t).getD 5 0))),(18,.raw (.int .u32 ((rnds b h t).getD 6 0))),(19,.raw (.int .u32 ((rnds b h t).getD 7 0)))]) (fun t=>[.row (.prod (.arr 8 (.int .u32)) (.prod (.arr 64 .u8) (.int .i64))) [(h,r)],.row (.int .u32) (wL b 64)]) (fun t=>64-t) (fun t=>t≤64) 0 (Nat.zero_le _) 2 rfl (by decide) (fun _=>rfl) (fun _=>rfl) (fun _=>rfl) ?_ ?_
 · with_reducible refine sxE ?_
   exact ⟨rfl,rfl,rfl,rfl,rfl,rfl,rfl,rfl⟩
 intro t ht
 have hwr:=wsx t (by omega)
 by_cases hlt:t<64
 · have hv:=q1f (b:=b) hh t
   generalize hvv:rnds b h t=v at*
   have i0:=q0g hv 0 (by decide)
   have i1:=q0g hv 1 (by decide)
   have i2:=q0g hv 2 (by decide)
   have i3:=q0g hv 3 (by decide)
   have i4:=q0g hv 4 (by decide)
   have i5:=q0g hv 5 (by decide)
   have i6:=q0g hv 6 (by decide)
   have i7:=q0g hv 7 (by decide)
   refine uQ 600 _ ?_
   simp (maxSteps:=3000000) only [hl,hwl,Nat.zero_add,Ty.dflt,go_sem,↓zA,↓reduceIte,↓reduceDIte] <;>try simp only [zB]
   refine ⟨fun _=>⟨⟨by omega,by omega⟩,⟨by omega,by omega⟩,by omega,?_⟩,fun h=>absurd hlt (by omega)⟩
   refine q0D 2 (by decide) ?_
   with_reducible refine sxE ?_
   refine q0f (q0E _ [6,11,25] i4 (by decide) (by decide)) ?_
   refine uQ 600 _ ?_
   simp (maxSteps:=3000000) only [hl,hwl,Nat.zero_add,Ty.dflt,go_sem,↓zA,↓reduceIte,↓reduceDIte] <;>try simp only [zB]
   refine q0f (q4D _ _ _ i4 i5 i6) ?_
   refine uQ 600 _ ?_
   simp (maxSteps:=3000000) only [hl,hwl,Nat.zero_add,Ty.dflt,go_sem,↓zA,↓reduceIte,↓reduceDIte] <;>try simp only [zB]
   refine q0p 3 ?_
   with_reducible refine sxE ?_
   refine q0a (q0E _ [2,13,22] i0 (by decide) (by decide)) ?_
   refine uQ 600 _ ?_
   simp (maxSteps:=3000000) only [hl,hwl,Nat.zero_add,Ty.dflt,go_sem,↓zA,↓reduceIte,↓reduceDIte] <;>try simp only [zB]
   refine q0a (q2t _ _ _ i0 i1 i2) ?_
   refine uQ 600 _ ?_
   simp (maxSteps:=3000000) only [hl,hwl,Nat.zero_add,Ty.dflt,go_sem,↓zA,↓reduceIte,↓reduceDIte] <;>try simp only [zB]
   have hr:rnds b h (t+1)=rnd (kS t) (wS b t) v:=by show rnd (kS t) (wS b t) (rnds b h t)=_;rw [hvv]
   have hT1:=t1U (k:=kS t) (w:=wS b t) hv
   have hT2:=t2U hv
   refine ⟨t+1,hlt,by dsimp only;omega,⟨[.dead,.dead],rfl⟩,?_⟩
   rw [q9h,q0T b hlt hlt,hT1,hT2,aU,eU]
   simp (maxSteps:=3000000) only [hwr,hr,go_sem,↓zA,↓reduceIte,↓reduceDIte] <;>try simp only [zB]
   exact ⟨rfl,rfl,rfl,rfl,rfl,rfl,rfl,rfl⟩
 obtain rfl:t=64:=by omega
 refine uQ 600 _ ?_
 simp (maxSteps:=3000000) only [hl,hwl,Nat.zero_add,Ty.dflt,go_sem,↓zA,↓reduceIte,↓reduceDIte] <;>try simp only [zB]
 refine ⟨fun h=>absurd h (by omega),fun _=> ?_⟩
 have e8:=list8 (q1f (b:=b) hh 64).1
 refine q0i (ι:=Nat) (fun i=>[(186,rI i),(185,.dat (.arr 8 (.int .u32)) (rnds b h 64))]) (fun i=>[.row (.prod (.arr 8 (.int .u32)) (.prod (.arr 64 .u8) (.int .i64))) [((blkP b h i),r)],.row (.int .u32) (wL b 64)]) (fun t=>8-t) (fun t=>t≤8) 0 (Nat.zero_le _) ?_ ?_ ?_
 · rw [q2V b hh.1]
 · with_reducible refine sxE ?_
   exact congrArg (SV.dat (.arr 8 (.int .u32))) e8
 intro i hi
 have hwr:=wsx i (by omega)
 have hv:=q1f (b:=b) hh 64
 have hl:=hv.1
 have hbl:=q4x b h i
 by_cases hlt:i<8
 · have hbg:=q4j b h hlt
   refine uQ 600 _ ?_
   simp (maxSteps:=3000000) only [hl,hbl,Nat.zero_add,Nat.mul_one,Ty.dflt,go_sem,↓zA,↓reduceIte,↓reduceDIte] <;>try simp only [zB]
   refine ⟨fun _=> ?_,fun h=>absurd hlt (by omega)⟩
   repeat (with_reducible refine And.intro (by first|omega|exact ⟨by omega,by omega⟩) ?_)
   refine ⟨i+1,hlt,by dsimp only;omega,?_,?_⟩
   · rw [hbg,wrapU]
     show [_,_]= [SObj.row (.prod (.arr 8 (.int .u32)) (.prod (.arr 64 .u8) (.int .i64))) [((blkP b h (i+1)),r)],_]
     rw [←q3Z b h hlt]
   with_reducible refine sx1 hwr ?_;trivial
 obtain rfl:i=8:=by omega
 refine uQ 600 _ ?_
 simp (maxSteps:=3000000) only [hl,hbl,Nat.zero_add,Ty.dflt,go_sem,↓zA,↓reduceIte,↓reduceDIte] <;>try simp only [zB]
 refine ⟨fun h=>absurd h (by omega),fun _=> ?_⟩
 rw [q4p]
theorem j3M (b:List UInt8) (n:Int) (h:List Int) (hb:b.length=64) (hh:inWs h):PE Tryz.prog 194 [.rptr 0 (.prod (.arr 8 (.int .u32)) (.prod (.arr 64 .u8) (.int .i64))) 0 0,.csl 0 .u8 8 0 64] [.row (.prod (.arr 8 (.int .u32)) (.prod (.arr 64 .u8) (.int .i64))) [(h,(b,n))]] (.ret (.tup [])) [.row (.prod (.arr 8 (.int .u32)) (.prod (.arr 64 .u8) (.int .i64))) [((blkS b h),(b,n))]]:=by
 refine q0d (Nat.le_refl _) ?_
 refine rQ fi194 ?_
 refine q0i (ι:=Nat) (fun t=>[(26,rI t)]) (fun t=>[.row (.prod (.arr 8 (.int .u32)) (.prod (.arr 64 .u8) (.int .i64))) [(h,(b,n))],.row (.int .u32) (wL b t)]) (fun t=>16-t) (fun t=>t≤16) 0 (Nat.zero_le _) (by rw [q6Z];rfl) ?_ ?_
 · with_reducible refine sxE ?_;trivial
 intro t ht
 have hwr:=wsx t (by omega)
 have hwl:=q3C b t
 by_cases hlt:t<16
 · have w1:IntKind.i64.wrap (4* (t:Int))=((4*t:Nat):Int):=by rw [wrapi (by omega)];omega
   have w4:IntKind.i64.wrap (((4*t:Nat):Int)+4)=((4*t+4:Nat):Int):=by rw [wrapi (by omega)];omega
   refine uQ 600 _ ?_
   simp (maxSteps:=3000000) only [w1,w4,hwl,Nat.zero_add,go_sem,↓zA,↓reduceIte,↓reduceDIte] <;>try simp only [zB]
   have hdl:(List.drop (4*t) (List.take (4*t+4) b)).length=4:=by rw [List.length_drop,List.length_take];omega
   refine ⟨fun _=> ?_,fun h=>absurd h (by omega)⟩
   repeat (with_reducible refine And.intro (by first|omega|exact ⟨by omega,by omega,by omega,by omega⟩ |exact ⟨by omega,by omega⟩) ?_)
   refine ⟨t+1,by show t+1≤16;omega,by dsimp only;omega,?_,?_⟩
   · have hd:∀j,j<4→(List.drop (4*t) (List.take (4*t+4) b)).getD j Ty.u8.dflt=b.getD (4*t+j) 0:=fun j hj=>by
      rw [List.getD_eq_getElem?_getD,List.getElem?_drop,List.getElem?_take_of_lt (by omega),←List.getD_eq_getElem?_getD]
      rfl
     have ho:=or4 fun j=>b.getD (4*t+j) Ty.u8.dflt
     rw [ho]
     have hw:((256* (256* (256* (b.getD (4*t+0) 0).toNat+ (b.getD (4*t+1) 0).toNat)+ (b.getD (4*t+2) 0).toNat)+ (b.getD (4*t+3) 0).toNat:Nat):Int)=wS b t:=by
      rw [z0T hlt]
      simp only [wdP,byI]
      omega
     show [SObj.row (.prod (.arr 8 (.int .u32)) (.prod (.arr 64 .u8) (.int .i64))) [(h,(b,n))],SObj.row (.int .u32) ((wL b t).set t ((256* (256* (256* (b.getD (4*t+0) 0).toNat+ (b.getD (4*t+1) 0).toNat)+ (b.getD (4*t+2) 0).toNat)+ (b.getD (4*t+3) 0).toNat:Nat):Int))]= [SObj.row (.prod (.arr 8 (.int .u32)) (.prod (.arr 64 .u8) (.int .i64))) [(h,(b,n))],SObj.row (.int .u32) (wL b (t+1))]
     rw [hw,q3D b (by omega)]
   with_reducible refine sx1 hwr ?_;trivial
 obtain rfl:t=16:=by omega
 refine uQ 600 _ ?_
 simp (maxSteps:=3000000) only [hwl,Nat.zero_add,go_sem,↓zA,↓reduceIte,↓reduceDIte] <;>try simp only [zB]
 refine ⟨fun h=>absurd h (by omega),fun _=> ?_⟩
 refine q1j (ι:=Nat) (fun t=>[(7,rI t)]) (fun t=>[.row (.prod (.arr 8 (.int .u32)) (.prod (.arr 64 .u8) (.int .i64))) [(h,(b,n))],.row (.int .u32) (wL b t)]) (fun t=>64-t) (fun t=>16≤t∧t≤64) 16 (by decide) 2 rfl (by decide) (fun _=>rfl) (fun _=>rfl) (fun _=>rfl) ?_ ?_
 · with_reducible refine sxE ?_
   rfl
 intro t ht
 have hwl:=q3C b t
 have hwr:=wsx t (by omega)
 by_cases hlt:t<64
 · have e15:IntKind.i64.wrap ((t:Int) -15)=((t-15:Nat):Int):=by rw [wrapi (by omega)];omega
   have e2:IntKind.i64.wrap ((t:Int) -2)=((t-2:Nat):Int):=by rw [wrapi (by omega)];omega
   have e7:IntKind.i64.wrap ((t:Int) -7)=((t-7:Nat):Int):=by rw [wrapi (by omega)];omega
   have e16:IntKind.i64.wrap ((t:Int) -16)=((t-16:Nat):Int):=by rw [wrapi (by omega)];omega
   have g15:=q0T b (t:=t) (j:=t-15) (by omega) (by omega)
   have g2:=q0T b (t:=t) (j:=t-2) (by omega) (by omega)
   have g7:=q0T b (t:=t) (j:=t-7) (by omega) (by omega)
   have g16:=q0T b (t:=t) (j:=t-16) (by omega) (by omega)
   have i15:=q2p b (t-15)
   have i2:=q2p b (t-2)
   have i7:=q2p b (t-7)
   have i16:=q2p b (t-16)
   refine uQ 600 _ ?_
   simp (maxSteps:=3000000) only [e15,e2,e7,e16,g15,g2,g7,g16,hwl,Nat.zero_add,Ty.dflt,go_sem,↓zA,↓reduceIte,↓reduceDIte] <;>try simp only [zB]
   refine ⟨fun _=>⟨⟨by omega,by omega⟩,by omega,⟨by omega,by omega⟩,by omega,⟨by omega,by omega⟩,by omega,⟨by omega,by omega⟩,by omega,q0Q (q0E (wS b (t-2)) [17,19] i2 (by decide) (by decide)) ?_⟩,fun h=>absurd hlt (by omega)⟩
   refine gQ ?_
   refine q0D 2 (by decide) ?_
   with_reducible refine sxE ?_
   refine q0f (q0E (wS b (t-15)) [7,18] i15 (by decide) (by decide)) ?_
   refine uQ 600 _ ?_
   simp (maxSteps:=3000000) only [e15,e2,e7,e16,g15,g2,g7,g16,hwl,Nat.zero_add,Ty.dflt,go_sem,↓zA,↓reduceIte,↓reduceDIte] <;>try simp only [zB]
   repeat (with_reducible refine And.intro (by first|omega|exact ⟨by omega,by omega⟩) ?_)
   refine ⟨t+1,⟨by omega,hlt⟩,by dsimp only;omega,⟨[.dead],?_⟩,?_⟩
   · rw [schU i15 i2,←z0x (by omega),q3D b hlt]
     rfl
   with_reducible refine sx1 hwr ?_;trivial
 obtain rfl:t=64:=by omega
 refine gQ ?_
 have hl:=hh.1
 refine ⟨fun h=>absurd h (by omega),fun _=> ?_⟩
 repeat (with_reducible refine And.intro (by omega) ?_)
 refine q2U (t:=.arr 64 (.int .u32)) (x:=dat_sha_constants) (ag:=some 64) (s:=.dat (.arr 64 (.int .u32)) dat_sha_constants) (by unfold datList;repeat (first|exact .head _|apply List.Mem.tail)) rfl (.inr rfl) ?_
 refine gQ ?_
 refine q1j (ι:=Nat) (fun t=>[(134,rI t),(12,.raw (.int .u32 ((rnds b h t).getD 0 0))),(13,.raw (.int .u32 ((rnds b h t).getD 1 0))),(14,.raw (.int .u32 ((rnds b h t).getD 2 0))),(15,.raw (.int .u32 ((rnds b h t).getD 3 0))),(16,.raw (.int .u32 ((rnds b h t).getD 4 0))),(17,.raw (.int .u32 ((rnds b h t).getD 5 0))),(18,.raw (.int .u32 ((rnds b h t).getD 6 0))),(19,.raw (.int .u32 ((rnds b h t).getD 7 0)))]) (fun t=>[.row (.prod (.arr 8 (.int .u32)) (.prod (.arr 64 .u8) (.int .i64))) [(h,(b,n))],.row (.int .u32) (wL b 64)]) (fun t=>64-t) (fun t=>t≤64) 0 (Nat.zero_le _) 2 rfl (by decide) (fun _=>rfl) (fun _=>rfl) (fun _=>rfl) ?_ ?_
 · with_reducible refine sxE ?_
   exact ⟨rfl,rfl,rfl,rfl,rfl,rfl,rfl,rfl⟩
 intro t ht
 have hwr:=wsx t (by omega)
 by_cases hlt:t<64
 · have hv:=q1f (b:=b) hh t
   generalize hvv:rnds b h t=v at*
   have i0:=q0g hv 0 (by decide)
   have i1:=q0g hv 1 (by decide)
   have i2:=q0g hv 2 (by decide)
   have i3:=q0g hv 3 (by decide)
   have i4:=q0g hv 4 (by decide)
   have i5:=q0g hv 5 (by decide)
   have i6:=q0g hv 6 (by decide)
   have i7:=q0g hv 7 (by decide)
   refine uQ 600 _ ?_
   simp (maxSteps:=3000000) only [hl,hwl,Nat.zero_add,Ty.dflt,go_sem,↓zA,↓reduceIte,↓reduceDIte] <;>try simp only [zB]
   refine ⟨fun _=>⟨⟨by omega,by omega⟩,⟨by omega,by omega⟩,by omega,?_⟩,fun h=>absurd hlt (by omega)⟩
   refine q0D 2 (by decide) ?_
   with_reducible refine sxE ?_
   refine q0f (q0E _ [6,11,25] i4 (by decide) (by decide)) ?_
   refine uQ 600 _ ?_
   simp (maxSteps:=3000000) only [hl,hwl,Nat.zero_add,Ty.dflt,go_sem,↓zA,↓reduceIte,↓reduceDIte] <;>try simp only [zB]
   refine q0f (q4D _ _ _ i4 i5 i6) ?_
   refine uQ 600 _ ?_
   simp (maxSteps:=3000000) only [hl,hwl,Nat.zero_add,Ty.dflt,go_sem,↓zA,↓reduceIte,↓reduceDIte] <;>try simp only [zB]
   refine q0p 3 ?_
   with_reducible refine sxE ?_
   refine q0a (q0E _ [2,13,22] i0 (by decide) (by decide)) ?_
   refine uQ 600 _ ?_
   simp (maxSteps:=3000000) only [hl,hwl,Nat.zero_add,Ty.dflt,go_sem,↓zA,↓reduceIte,↓reduceDIte] <;>try simp only [zB]
   refine q0a (q2t _ _ _ i0 i1 i2) ?_
   refine uQ 600 _ ?_
   simp (maxSteps:=3000000) only [hl,hwl,Nat.zero_add,Ty.dflt,go_sem,↓zA,↓reduceIte,↓reduceDIte] <;>try simp only [zB]
   have hr:rnds b h (t+1)=rnd (kS t) (wS b t) v:=by show rnd (kS t) (wS b t) (rnds b h t)=_;rw [hvv]
   have hT1:=t1U (k:=kS t) (w:=wS b t) hv
   have hT2:=t2U hv
   refine ⟨t+1,hlt,by dsimp only;omega,⟨[.dead,.dead],rfl⟩,?_⟩
   rw [q9h,q0T b hlt hlt,hT1,hT2,aU,eU]
   simp (maxSteps:=3000000) only [hwr,hr,go_sem,↓zA,↓reduceIte,↓reduceDIte] <;>try simp only [zB]
   exact ⟨rfl,rfl,rfl,rfl,rfl,rfl,rfl,rfl⟩
 obtain rfl:t=64:=by omega
 refine uQ 600 _ ?_
 simp (maxSteps:=3000000) only [hl,hwl,Nat.zero_add,Ty.dflt,go_sem,↓zA,↓reduceIte,↓reduceDIte] <;>try simp only [zB]
 refine ⟨fun h=>absurd h (by omega),fun _=> ?_⟩
 have e8:=list8 (q1f (b:=b) hh 64).1
 refine q0i (ι:=Nat) (fun i=>[(186,rI i),(185,.dat (.arr 8 (.int .u32)) (rnds b h 64))]) (fun i=>[.row (.prod (.arr 8 (.int .u32)) (.prod (.arr 64 .u8) (.int .i64))) [((blkP b h i),(b,n))],.row (.int .u32) (wL b 64)]) (fun t=>8-t) (fun t=>t≤8) 0 (Nat.zero_le _) ?_ ?_ ?_
 · rw [q2V b hh.1]
 · with_reducible refine sxE ?_
   exact congrArg (SV.dat (.arr 8 (.int .u32))) e8
 intro i hi
 have hwr:=wsx i (by omega)
 have hv:=q1f (b:=b) hh 64
 have hl:=hv.1
 have hbl:=q4x b h i
 by_cases hlt:i<8
 · have hbg:=q4j b h hlt
   refine uQ 600 _ ?_
   simp (maxSteps:=3000000) only [hl,hbl,Nat.zero_add,Nat.mul_one,Ty.dflt,go_sem,↓zA,↓reduceIte,↓reduceDIte] <;>try simp only [zB]
   refine ⟨fun _=> ?_,fun h=>absurd hlt (by omega)⟩
   repeat (with_reducible refine And.intro (by first|omega|exact ⟨by omega,by omega⟩) ?_)
   refine ⟨i+1,hlt,by dsimp only;omega,?_,?_⟩
   · rw [hbg,wrapU]
     show [_,_]= [SObj.row (.prod (.arr 8 (.int .u32)) (.prod (.arr 64 .u8) (.int .i64))) [((blkP b h (i+1)),(b,n))],_]
     rw [←q3Z b h hlt]
   with_reducible refine sx1 hwr ?_;trivial
 obtain rfl:i=8:=by omega
 refine uQ 600 _ ?_
 simp (maxSteps:=3000000) only [hl,hbl,Nat.zero_add,Ty.dflt,go_sem,↓zA,↓reduceIte,↓reduceDIte] <;>try simp only [zB]
 refine ⟨fun h=>absurd h (by omega),fun _=> ?_⟩
 rw [q4p]
theorem tmod64 (n:Nat):((n:Int)).tmod 64=((n%64:Nat):Int):=by rw [Int.tmod_eq_emod_of_nonneg (by omega)];rfl
theorem q5M {m rest b:List UInt8} (h:m.length%64=0):wrR m rest b=splice rest 0 (b.drop (64* (b.length / 64))):=by
 have hme:(m++b).length=m.length+b.length:=List.length_append
 unfold wrR
 rw [h]
 split
 · rw [show 64* (b.length / 64)=0 by omega,List.drop_zero]
 rw [if_neg (by omega),hme,List.drop_append,List.drop_eq_nil_of_le (by omega),List.nil_append]
 congr 2
 omega
theorem z0b {m b:List UInt8} {x:HaD} (hst:x.1=foldB hS0 m (m.length / 64)) (h:m.length%64+b.length<64):(x.1,List.take (m.length%64) x.2.1++b++List.drop (m.length%64+b.length) x.2.1,((m.length+b.length:Nat):Int))=wrS m x b:=by
 have hme:(m++b).length=m.length+b.length:=List.length_append
 unfold wrS wrR
 rw [if_pos h,hme,show (m.length+b.length) / 64=m.length / 64 by omega,q2A hS0 (by omega),←hst]
 rfl
theorem q9s {m b pre b1:List UInt8} {c0:Nat} (hp:pre.length=64*c0) (happ:pre++b1=m++b):(m++b).drop (64* ((m++b).length / 64))=b1.drop (64* (b1.length / 64)):=by
 rw [←happ,List.length_append,List.drop_append,List.drop_eq_nil_of_le (by omega),List.nil_append]
 congr 1
 omega
theorem q3k {m b pre b1 rest1:List UInt8} {x:HaD} {c0:Nat} {st1:List Int} (hp:pre.length=64*c0) (happ:pre++b1=m++b) (hrr:wrR m x.2.1 b=splice rest1 0 (b1.drop (64* (b1.length / 64)))) (hst:st1=foldB hS0 pre c0:=by first|rfl|assumption):
 (foldB st1 b1 (b1.length / 64),List.take 0 rest1++b1.drop (64* (b1.length / 64))++List.drop (0+ (b1.drop (64* (b1.length / 64))).length) rest1,((m.length+b.length:Nat):Int))=wrS m x b:=by
 have hme:(m++b).length=m.length+b.length:=List.length_append
 have hl:(m++b).length / 64=c0+b1.length / 64:=by rw [←happ,List.length_append];omega
 unfold wrS
 rw [hrr,hl,hme,←happ,q6E hS0 hp,hst]
 rfl
theorem z0K (m b:List UInt8) (x:HaD) (hx:HRep m x) (hl:m.length+b.length≤70368744177664):PE Tryz.prog 181 [.rptr 0 (.prod (.arr 8 (.int .u32)) (.prod (.arr 64 .u8) (.int .i64))) 0 0,.isl .u8 b] [.row (.prod (.arr 8 (.int .u32)) (.prod (.arr 64 .u8) (.int .i64))) [x]] (.ret (rI 0)) [.row (.prod (.arr 8 (.int .u32)) (.prod (.arr 64 .u8) (.int .i64))) [wrS m x b]]:=by
 obtain ⟨st,rest,n⟩:=x
 obtain rfl:n=(m.length:Int):=hx.n
 have h2:rest.length=64:=hx.rest
 have h3:st.length=8:=hx.len
 have h4:m.length≠0→st=foldB hS0 m (m.length / 64):=hx.st
 have h5:rest.take (m.length%64)=m.drop (64* (m.length / 64)):=hx.tail
 have hmt:=tmod64 m.length
 have hmw:IntKind.i64.wrap ((m.length:Int)+ (b.length:Int))=((m.length+b.length:Nat):Int):=by rw [wrapi (by omega)];omega
 have hme:(m++b).length=m.length+b.length:=List.length_append
 refine q0d (Nat.le_refl _) ?_
 refine q0G fi181 ?_
 by_cases c0:m.length=0
 · have hm0:m= []:=List.length_eq_zero_iff.1 c0
   have hz:((m.length:Int)=0)=True:=eq_true (by omega)
   have hu:(0< ((m.length%64:Nat):Int))=False:=eq_false (by omega)
   refine uQ 600 _ ?_
   with_reducible refine sx1 hz ?_
   refine q2U (t:=.arr 8 (.int .u32)) (x:=dat_sha_start) (ag:=some 8) (s:=.dat (.arr 8 (.int .u32)) dat_sha_start) (by unfold datList;repeat (first|exact .head _|apply List.Mem.tail)) rfl (.inr rfl) ?_
   refine uQ 600 _ ?_
   simp (maxSteps:=3000000) only [hmt,hmw,hu,go_sem,↓zA,↓reduceIte,↓reduceDIte] <;>try simp only [zB]
   have hst1:inWs hS0:=q5r
   have hpre:([]:List UInt8).length=64*0:=rfl
   have happ:[]++b=m++b:=by rw [hm0]
   have hrr:wrR m rest b=splice rest 0 (b.drop (64* (b.length / 64))):=q5M (by omega)
   refine ⟨by decide,?_⟩
   refine q0i (ι:=Nat) (fun i=>[(1,.isl .u8 (b.drop (64*i)))]) (fun i=>[.row (.prod (.arr 8 (.int .u32)) (.prod (.arr 64 .u8) (.int .i64))) [(foldB hS0 b i,(rest,((m.length+b.length:Nat):Int)))]]) (fun i=>b.length / 64-i) (fun i=>i≤b.length / 64) 0 (Nat.zero_le _) ?_ ?_ ?_
   · rfl
   · with_reducible refine sxE ?_;trivial
   intro i hi
   have hv:inWs (foldB hS0 b i):=q0Z hst1 _ _
   have hdl:(b.drop (64*i)).length=b.length-64*i:=List.length_drop
   by_cases hlt:i<b.length / 64
   · have hbl:(List.take 64 (b.drop (64*i))).length=64:=by rw [List.length_take];omega
     have hbe:List.take 64 (b.drop (64*i))=blkAt b i:=by
      unfold blkAt;rw [List.drop_take];congr 1;omega
     have hdd:List.drop 64 (List.take (b.length-64*i) (b.drop (64*i)))=b.drop (64* (i+1)):=by
      rw [List.take_of_length_le (by omega),List.drop_drop];congr 1
     have hc:(64≤((b.length-64*i:Nat):Int))=True:=eq_true (by omega)
     refine uQ 11 _ ?_
     simp (maxSteps:=3000000) only [hdl,hc,go_sem,↓zA,↓reduceIte,↓reduceDIte] <;>try simp only [zB]
     refine q1P [] mixed ?_
     refine uQ 600 _ ?_
     with_reducible refine sxE ?_
     refine ⟨by omega,?_⟩
     refine q0M [0] (z6S (List.take 64 (b.drop (64*i))) (rest,((m.length+b.length:Nat):Int)) _ hbl hv) rfl (by decide) (by repeat first|exact trivial|exact rfl|refine And.intro ?_ ?_) rfl rfl (fun _ h=>by cases h) ?_
     simp only [afterR,Out.ren,SV.ren,mgA,sig,SObj.ren,SV.renL,List.set,List.map,List.append_nil]
     refine uQ 600 _ ?_
     with_reducible refine sx1 hdl ?_
     rw [hdd]
     refine ⟨⟨by omega,by omega⟩,i+1,hlt,by dsimp only;omega,?_,?_⟩
     · rw [hbe];rfl
     with_reducible refine sxE ?_;trivial
   obtain rfl:i=b.length / 64:=by omega
   have hc:(64≤((b.length-64* (b.length / 64):Nat):Int))=False:=eq_false (by omega)
   have hk0:min (b.length-64* (b.length / 64)) 64=b.length-64* (b.length / 64):=by omega
   refine uQ 600 _ ?_
   simp (maxSteps:=3000000) only [hdl,hc,hk0,go_sem,↓zA,↓reduceIte,↓reduceDIte] <;>try simp only [zB]
   rw [List.take_of_length_le (l:=b.drop (64* (b.length / 64))) (by omega)]
   repeat (with_reducible refine And.intro (by first|omega|exact ⟨by omega,by omega⟩) ?_)
   exact congrArg (fun x=>SObj.row (.prod (.arr 8 (.int .u32)) (.prod (.arr 64 .u8) (.int .i64))) [x]) (q3k (x:=(st,rest,(m.length:Int))) hpre happ hrr)

 have hz:((m.length:Int)=0)=False:=eq_false (by omega)
 have hst:=h4 c0
 have hst1:inWs st:=hst▸q0Z q5r _ _
 by_cases c1:0<m.length%64
 · have hu:(0< ((m.length%64:Nat):Int))=True:=eq_true (by omega)
   by_cases c2:m.length%64+b.length<64
   · have hk:min b.length (64-m.length%64)=b.length:=by omega
     have hw2:IntKind.i64.wrap (((m.length%64:Nat):Int)+ (b.length:Int))=((m.length%64+b.length:Nat):Int):=by rw [wrapi (by omega)];omega
     have hs:(((m.length%64+b.length:Nat):Int) <64)=True:=eq_true (by omega)
     refine uQ 600 _ ?_
     simp (maxSteps:=3000000) only [hz,hmt,hmw,hu,hk,hw2,hs,List.take_length,go_sem,↓zA,↓reduceIte,↓reduceDIte] <;>try simp only [zB]
     repeat (with_reducible refine And.intro (by first|omega|exact ⟨by omega,by omega⟩ |exact ⟨by omega,by omega,by omega⟩) ?_)
     exact congrArg (fun x=>SObj.row (.prod (.arr 8 (.int .u32)) (.prod (.arr 64 .u8) (.int .i64))) [x]) (z0b (x:=(st,rest,(m.length:Int))) hst c2)
   have hk:min b.length (64-m.length%64)=64-m.length%64:=by omega
   have hw2:IntKind.i64.wrap (((m.length%64:Nat):Int)+ ((64-m.length%64:Nat):Int))=((64:Nat):Int):=by rw [wrapi (by omega)];omega
   have htl:(List.take (64-m.length%64) b).length=64-m.length%64:=by rw [List.length_take];omega
   have hfull:m.length%64+ (64-m.length%64)=64:=by omega
   have hs:(((64:Nat):Int) <64)=False:=eq_false (by omega)
   have hpre:(m++b.take (64-m.length%64)).length=64* (m.length / 64+1):=by rw [List.length_append,htl];omega
   have happ:m++b.take (64-m.length%64)++b.drop (64-m.length%64)=m++b:=by rw [List.append_assoc,List.take_append_drop]
   obtain ⟨r1,hr1⟩:∃r1,r1=(List.take (m.length%64) rest++List.take (64-m.length%64) b++List.drop 64 rest):=⟨_,rfl⟩
   have hr1l:r1.length=64:=by rw [hr1,List.length_append,List.length_append,htl,List.length_take,List.length_drop];omega
   have hrr:wrR m rest b=splice r1 0 ((b.drop (64-m.length%64)).drop (64* ((b.drop (64-m.length%64)).length / 64))):=by
    unfold wrR
    rw [if_neg c2,if_pos c1,hr1,q9s hpre happ]
    simp only [splice,htl,hfull]
   have hstD:blkS r1 st=foldB hS0 (m++b.take (64-m.length%64)) (m.length / 64+1):=by
    rw [foldB,q2A hS0 (by omega),←hst]
    congr 1
    unfold blkAt
    rw [List.take_of_length_le (by omega),List.drop_append_of_le_length (by omega),←h5,hr1,show List.drop 64 rest= [] from List.drop_eq_nil_of_le (by omega),List.append_nil]
   have hst1':inWs (blkS r1 st):=z1q
   have hbl1:(List.drop (64-m.length%64) b).length=b.length- (64-m.length%64):=List.length_drop
   refine uQ 74 _ ?_
   simp (maxSteps:=3000000) only [hz,hmt,hmw,hu,hk,hw2,htl,hfull,hs,go_sem,↓zA,↓reduceIte,↓reduceDIte] <;>try simp only [zB]
   rw [←hr1]
   refine ⟨by decide,⟨by omega,by omega,by omega⟩,by omega,?_⟩
   refine q1P [] mixed ?_
   refine uQ 600 _ ?_
   with_reducible refine sxE ?_
   refine ⟨⟨by omega,by omega⟩,?_⟩
   refine q0M [0] (j3M r1 ((m.length+b.length:Nat):Int) _ hr1l hst1) rfl (by decide) (by repeat first|exact trivial|exact rfl|refine And.intro ?_ ?_) rfl rfl (fun _ h=>by cases h) ?_
   simp only [afterR,Out.ren,SV.ren,mgA,sig,SObj.ren,SV.renL,List.set,List.map,List.append_nil]
   refine uQ 600 _ ?_
   with_reducible refine sx1 hk ?_
   rw [List.take_length]
   refine ⟨⟨by omega,by omega⟩,?_⟩
   replace hst1:=hst1'
   refine q0i (ι:=Nat) (fun i=>[(1,.isl .u8 ((b.drop (64-m.length%64)).drop (64*i)))]) (fun i=>[.row (.prod (.arr 8 (.int .u32)) (.prod (.arr 64 .u8) (.int .i64))) [(foldB (blkS r1 st) (b.drop (64-m.length%64)) i,(r1,((m.length+b.length:Nat):Int)))]]) (fun i=>(b.drop (64-m.length%64)).length / 64-i) (fun i=>i≤(b.drop (64-m.length%64)).length / 64) 0 (Nat.zero_le _) ?_ ?_ ?_
   · rfl
   · with_reducible refine sxE ?_;trivial
   intro i hi
   have hv:inWs (foldB (blkS r1 st) (b.drop (64-m.length%64)) i):=q0Z hst1 _ _
   have hdl:((b.drop (64-m.length%64)).drop (64*i)).length=(b.drop (64-m.length%64)).length-64*i:=List.length_drop
   by_cases hlt:i< (b.drop (64-m.length%64)).length / 64
   · have hbl:(List.take 64 ((b.drop (64-m.length%64)).drop (64*i))).length=64:=by rw [List.length_take];omega
     have hbe:List.take 64 ((b.drop (64-m.length%64)).drop (64*i))=blkAt (b.drop (64-m.length%64)) i:=by
      unfold blkAt;rw [List.drop_take];congr 1;omega
     have hdd:List.drop 64 (List.take ((b.drop (64-m.length%64)).length-64*i) ((b.drop (64-m.length%64)).drop (64*i)))=(b.drop (64-m.length%64)).drop (64* (i+1)):=by
      rw [List.take_of_length_le (by omega),List.drop_drop];congr 1
     have hc:(64≤(((b.drop (64-m.length%64)).length-64*i:Nat):Int))=True:=eq_true (by omega)
     refine uQ 11 _ ?_
     simp (maxSteps:=3000000) only [hdl,hc,go_sem,↓zA,↓reduceIte,↓reduceDIte] <;>try simp only [zB]
     refine q1P [] mixed ?_
     refine uQ 600 _ ?_
     with_reducible refine sxE ?_
     refine ⟨by omega,?_⟩
     refine q0M [0] (z6S (List.take 64 ((b.drop (64-m.length%64)).drop (64*i))) (r1,((m.length+b.length:Nat):Int)) _ hbl hv) rfl (by decide) (by repeat first|exact trivial|exact rfl|refine And.intro ?_ ?_) rfl rfl (fun _ h=>by cases h) ?_
     simp only [afterR,Out.ren,SV.ren,mgA,sig,SObj.ren,SV.renL,List.set,List.map,List.append_nil]
     refine uQ 600 _ ?_
     with_reducible refine sx1 hdl ?_
     rw [hdd]
     refine ⟨⟨by omega,by omega⟩,i+1,hlt,by dsimp only;omega,?_,?_⟩
     · rw [hbe];rfl
     with_reducible refine sxE ?_;trivial
   obtain rfl:i=(b.drop (64-m.length%64)).length / 64:=by omega
   have hc:(64≤(((b.drop (64-m.length%64)).length-64* ((b.drop (64-m.length%64)).length / 64):Nat):Int))=False:=eq_false (by omega)
   have hk0:min ((b.drop (64-m.length%64)).length-64* ((b.drop (64-m.length%64)).length / 64)) 64=(b.drop (64-m.length%64)).length-64* ((b.drop (64-m.length%64)).length / 64):=by omega
   refine uQ 600 _ ?_
   simp (maxSteps:=3000000) only [hdl,hc,hk0,go_sem,↓zA,↓reduceIte,↓reduceDIte] <;>try simp only [zB]
   rw [List.take_of_length_le (l:=(b.drop (64-m.length%64)).drop (64* ((b.drop (64-m.length%64)).length / 64))) (by omega)]
   repeat (with_reducible refine And.intro (by first|omega|exact ⟨by omega,by omega⟩) ?_)
   exact congrArg (fun x=>SObj.row (.prod (.arr 8 (.int .u32)) (.prod (.arr 64 .u8) (.int .i64))) [x]) (q3k (x:=(st,rest,(m.length:Int))) hpre happ hrr)

 have hu:(0< ((m.length%64:Nat):Int))=False:=eq_false (by omega)
 refine uQ 600 _ ?_
 simp (maxSteps:=3000000) only [hz,hmt,hmw,hu,go_sem,↓zA,↓reduceIte,↓reduceDIte] <;>try simp only [zB]
 have hpre:m.length=64* (m.length / 64):=by omega
 have happ:m++b=m++b:=rfl
 have hrr:wrR m rest b=splice rest 0 (b.drop (64* (b.length / 64))):=q5M (by omega)
 refine ⟨by decide,?_⟩
 refine q0i (ι:=Nat) (fun i=>[(1,.isl .u8 (b.drop (64*i)))]) (fun i=>[.row (.prod (.arr 8 (.int .u32)) (.prod (.arr 64 .u8) (.int .i64))) [(foldB st b i,(rest,((m.length+b.length:Nat):Int)))]]) (fun i=>b.length / 64-i) (fun i=>i≤b.length / 64) 0 (Nat.zero_le _) ?_ ?_ ?_
 · rfl
 · with_reducible refine sxE ?_;trivial
 intro i hi
 have hv:inWs (foldB st b i):=q0Z hst1 _ _
 have hdl:(b.drop (64*i)).length=b.length-64*i:=List.length_drop
 by_cases hlt:i<b.length / 64
 · have hbl:(List.take 64 (b.drop (64*i))).length=64:=by rw [List.length_take];omega
   have hbe:List.take 64 (b.drop (64*i))=blkAt b i:=by
    unfold blkAt;rw [List.drop_take];congr 1;omega
   have hdd:List.drop 64 (List.take (b.length-64*i) (b.drop (64*i)))=b.drop (64* (i+1)):=by
    rw [List.take_of_length_le (by omega),List.drop_drop];congr 1
   have hc:(64≤((b.length-64*i:Nat):Int))=True:=eq_true (by omega)
   refine uQ 11 _ ?_
   simp (maxSteps:=3000000) only [hdl,hc,go_sem,↓zA,↓reduceIte,↓reduceDIte] <;>try simp only [zB]
   refine q1P [] mixed ?_
   refine uQ 600 _ ?_
   with_reducible refine sxE ?_
   refine ⟨by omega,?_⟩
   refine q0M [0] (z6S (List.take 64 (b.drop (64*i))) (rest,((m.length+b.length:Nat):Int)) _ hbl hv) rfl (by decide) (by repeat first|exact trivial|exact rfl|refine And.intro ?_ ?_) rfl rfl (fun _ h=>by cases h) ?_
   simp only [afterR,Out.ren,SV.ren,mgA,sig,SObj.ren,SV.renL,List.set,List.map,List.append_nil]
   refine uQ 600 _ ?_
   with_reducible refine sx1 hdl ?_
   rw [hdd]
   refine ⟨⟨by omega,by omega⟩,i+1,hlt,by dsimp only;omega,?_,?_⟩
   · rw [hbe];rfl
   with_reducible refine sxE ?_;trivial
 obtain rfl:i=b.length / 64:=by omega
 have hc:(64≤((b.length-64* (b.length / 64):Nat):Int))=False:=eq_false (by omega)
 have hk0:min (b.length-64* (b.length / 64)) 64=b.length-64* (b.length / 64):=by omega
 refine uQ 600 _ ?_
 simp (maxSteps:=3000000) only [hdl,hc,hk0,go_sem,↓zA,↓reduceIte,↓reduceDIte] <;>try simp only [zB]
 rw [List.take_of_length_le (l:=b.drop (64* (b.length / 64))) (by omega)]
 repeat (with_reducible refine And.intro (by first|omega|exact ⟨by omega,by omega⟩) ?_)
 exact congrArg (fun x=>SObj.row (.prod (.arr 8 (.int .u32)) (.prod (.arr 64 .u8) (.int .i64))) [x]) (q3k (x:=(st,rest,(m.length:Int))) hpre happ hrr)

theorem z5O (b:List UInt8) (ks:List UInt8×List UInt8) (r:List UInt8×Int) (rd:Bool) (h:List Int) (hb:b.length=64) (hh:inWs h):PE Tryz.prog 194 [.rptr 0 (.prod (.prod (.arr 64 .u8) (.arr 64 .u8)) (.prod (.prod (.arr 8 (.int .u32)) (.prod (.arr 64 .u8) (.int .i64))) .bool)) 0 128,.isl .u8 b] [.row (.prod (.prod (.arr 64 .u8) (.arr 64 .u8)) (.prod (.prod (.arr 8 (.int .u32)) (.prod (.arr 64 .u8) (.int .i64))) .bool)) [(ks,((h,r),rd))]] (.ret (.tup [])) [.row (.prod (.prod (.arr 64 .u8) (.arr 64 .u8)) (.prod (.prod (.arr 8 (.int .u32)) (.prod (.arr 64 .u8) (.int .i64))) .bool)) [(ks,(((blkS b h),r),rd))]]:=by
 refine q0d (Nat.le_refl _) ?_
 refine rQ fi194 ?_
 refine q0i (ι:=Nat) (fun t=>[(26,rI t)]) (fun t=>[.row (.prod (.prod (.arr 64 .u8) (.arr 64 .u8)) (.prod (.prod (.arr 8 (.int .u32)) (.prod (.arr 64 .u8) (.int .i64))) .bool)) [(ks,((h,r),rd))],.row (.int .u32) (wL b t)]) (fun t=>16-t) (fun t=>t≤16) 0 (Nat.zero_le _) (by rw [q6Z];rfl) ?_ ?_
 · with_reducible refine sxE ?_;trivial
 intro t ht
 have hwr:=wsx t (by omega)
 have hwl:=q3C b t
 by_cases hlt:t<16
 · have w1:IntKind.i64.wrap (4* (t:Int))=((4*t:Nat):Int):=by rw [wrapi (by omega)];omega
   have w4:IntKind.i64.wrap (((4*t:Nat):Int)+4)=((4*t+4:Nat):Int):=by rw [wrapi (by omega)];omega
   refine uQ 600 _ ?_
   simp (maxSteps:=3000000) only [w1,w4,hwl,Nat.zero_add,go_sem,↓zA,↓reduceIte,↓reduceDIte] <;>try simp only [zB]
   have hdl:(List.drop (4*t) (List.take (4*t+4) b)).length=4:=by rw [List.length_drop,List.length_take];omega
   refine ⟨fun _=> ?_,fun h=>absurd h (by omega)⟩
   repeat (with_reducible refine And.intro (by first|omega|exact ⟨by omega,by omega,by omega,by omega⟩ |exact ⟨by omega,by omega⟩) ?_)
   refine ⟨t+1,by show t+1≤16;omega,by dsimp only;omega,?_,?_⟩
   · have hd:∀j,j<4→(List.drop (4*t) (List.take (4*t+4) b)).getD j Ty.u8.dflt=b.getD (4*t+j) 0:=fun j hj=>by
      rw [List.getD_eq_getElem?_getD,List.getElem?_drop,List.getElem?_take_of_lt (by omega),←List.getD_eq_getElem?_getD]
      rfl
     have ho:=or4 fun j=>(List.drop (4*t) (List.take (4*t+4) b)).getD j Ty.u8.dflt
     rw [ho,hd 0 (by omega),hd 1 (by omega),hd 2 (by omega),hd 3 (by omega)]
     have hw:((256* (256* (256* (b.getD (4*t+0) 0).toNat+ (b.getD (4*t+1) 0).toNat)+ (b.getD (4*t+2) 0).toNat)+ (b.getD (4*t+3) 0).toNat:Nat):Int)=wS b t:=by
      rw [z0T hlt]
      simp only [wdP,byI]
      omega
     show [SObj.row (.prod (.prod (.arr 64 .u8) (.arr 64 .u8)) (.prod (.prod (.arr 8 (.int .u32)) (.prod (.arr 64 .u8) (.int .i64))) .bool)) [(ks,((h,r),rd))],SObj.row (.int .u32) ((wL b t).set t ((256* (256* (256* (b.getD (4*t+0) 0).toNat+ (b.getD (4*t+1) 0).toNat)+ (b.getD (4*t+2) 0).toNat)+ (b.getD (4*t+3) 0).toNat:Nat):Int))]= [SObj.row (.prod (.prod (.arr 64 .u8) (.arr 64 .u8)) (.prod (.prod (.arr 8 (.int .u32)) (.prod (.arr 64 .u8) (.int .i64))) .bool)) [(ks,((h,r),rd))],SObj.row (.int .u32) (wL b (t+1))]
     rw [hw,q3D b (by omega)]
   with_reducible refine sx1 hwr ?_;trivial
 obtain rfl:t=16:=by omega
 refine uQ 600 _ ?_
 simp (maxSteps:=3000000) only [hwl,Nat.zero_add,go_sem,↓zA,↓reduceIte,↓reduceDIte] <;>try simp only [zB]
 refine ⟨fun h=>absurd h (by omega),fun _=> ?_⟩
 refine q1j (ι:=Nat) (fun t=>[(7,rI t)]) (fun t=>[.row (.prod (.prod (.arr 64 .u8) (.arr 64 .u8)) (.prod (.prod (.arr 8 (.int .u32)) (.prod (.arr 64 .u8) (.int .i64))) .bool)) [(ks,((h,r),rd))],.row (.int .u32) (wL b t)]) (fun t=>64-t) (fun t=>16≤t∧t≤64) 16 (by decide) 2 rfl (by decide) (fun _=>rfl) (fun _=>rfl) (fun _=>rfl) ?_ ?_
 · with_reducible refine sxE ?_
   rfl
 intro t ht
 have hwl:=q3C b t
 have hwr:=wsx t (by omega)
 by_cases hlt:t<64
 · have e15:IntKind.i64.wrap ((t:Int) -15)=((t-15:Nat):Int):=by rw [wrapi (by omega)];omega
   have e2:IntKind.i64.wrap ((t:Int) -2)=((t-2:Nat):Int):=by rw [wrapi (by omega)];omega
   have e7:IntKind.i64.wrap ((t:Int) -7)=((t-7:Nat):Int):=by rw [wrapi (by omega)];omega
   have e16:IntKind.i64.wrap ((t:Int) -16)=((t-16:Nat):Int):=by rw [wrapi (by omega)];omega
   have g15:=q0T b (t:=t) (j:=t-15) (by omega) (by omega)
   have g2:=q0T b (t:=t) (j:=t-2) (by omega) (by omega)
   have g7:=q0T b (t:=t) (j:=t-7) (by omega) (by omega)
   have g16:=q0T b (t:=t) (j:=t-16) (by omega) (by omega)
   have i15:=q2p b (t-15)
   have i2:=q2p b (t-2)
   have i7:=q2p b (t-7)
   have i16:=q2p b (t-16)
   refine uQ 600 _ ?_
   simp (maxSteps:=3000000) only [e15,e2,e7,e16,g15,g2,g7,g16,hwl,Nat.zero_add,Ty.dflt,go_sem,↓zA,↓reduceIte,↓reduceDIte] <;>try simp only [zB]
   refine ⟨fun _=>⟨⟨by omega,by omega⟩,by omega,⟨by omega,by omega⟩,by omega,⟨by omega,by omega⟩,by omega,⟨by omega,by omega⟩,by omega,q0Q (q0E (wS b (t-2)) [17,19] i2 (by decide) (by decide)) ?_⟩,fun h=>absurd hlt (by omega)⟩
   refine gQ ?_
   refine q0D 2 (by decide) ?_
   with_reducible refine sxE ?_
   refine q0f (q0E (wS b (t-15)) [7,18] i15 (by decide) (by decide)) ?_
   refine uQ 600 _ ?_
   simp (maxSteps:=3000000) only [e15,e2,e7,e16,g15,g2,g7,g16,hwl,Nat.zero_add,Ty.dflt,go_sem,↓zA,↓reduceIte,↓reduceDIte] <;>try simp only [zB]
   repeat (with_reducible refine And.intro (by first|omega|exact ⟨by omega,by omega⟩) ?_)
   refine ⟨t+1,⟨by omega,hlt⟩,by dsimp only;omega,⟨[.dead],?_⟩,?_⟩
   · rw [schU i15 i2,←z0x (by omega),q3D b hlt]
     rfl
   with_reducible refine sx1 hwr ?_;trivial
 obtain rfl:t=64:=by omega
 refine gQ ?_
 have hl:=hh.1
 refine ⟨fun h=>absurd h (by omega),fun _=> ?_⟩
 repeat (with_reducible refine And.intro (by omega) ?_)
 refine q2U (t:=.arr 64 (.int .u32)) (x:=dat_sha_constants) (ag:=some 64) (s:=.dat (.arr 64 (.int .u32)) dat_sha_constants) (by unfold datList;repeat (first|exact .head _|apply List.Mem.tail)) rfl (.inr rfl) ?_
 refine gQ ?_
 refine q1j (ι:=Nat) (fun t=>[(134,rI t),(12,.raw (.int .u32 ((rnds b h t).getD 0 0))),(13,.raw (.int .u32 ((rnds b h t).getD 1 0))),(14,.raw (.int .u32 ((rnds b h t).getD 2 0))),(15,.raw (.int .u32 ((rnds b h t).getD 3 0))),(16,.raw (.int .u32 ((rnds b h t).getD 4 0))),(17,.raw (.int .u32 ((rnds b h t).getD 5 0))),(18,.raw (.int .u32 ((rnds b h t).getD 6 0))),(19,.raw (.int .u32 ((rnds b h t).getD 7 0)))]) (fun t=>[.row (.prod (.prod (.arr 64 .u8) (.arr 64 .u8)) (.prod (.prod (.arr 8 (.int .u32)) (.prod (.arr 64 .u8) (.int .i64))) .bool)) [(ks,((h,r),rd))],.row (.int .u32) (wL b 64)]) (fun t=>64-t) (fun t=>t≤64) 0 (Nat.zero_le _) 2 rfl (by decide) (fun _=>rfl) (fun _=>rfl) (fun _=>rfl) ?_ ?_
 · with_reducible refine sxE ?_
   exact ⟨rfl,rfl,rfl,rfl,rfl,rfl,rfl,rfl⟩
 intro t ht
 have hwr:=wsx t (by omega)
 by_cases hlt:t<64
 · have hv:=q1f (b:=b) hh t
   generalize hvv:rnds b h t=v at*
   have i0:=q0g hv 0 (by decide)
   have i1:=q0g hv 1 (by decide)
   have i2:=q0g hv 2 (by decide)
   have i3:=q0g hv 3 (by decide)
   have i4:=q0g hv 4 (by decide)
   have i5:=q0g hv 5 (by decide)
   have i6:=q0g hv 6 (by decide)
   have i7:=q0g hv 7 (by decide)
   refine uQ 600 _ ?_
   simp (maxSteps:=3000000) only [hl,hwl,Nat.zero_add,Ty.dflt,go_sem,↓zA,↓reduceIte,↓reduceDIte] <;>try simp only [zB]
   refine ⟨fun _=>⟨⟨by omega,by omega⟩,⟨by omega,by omega⟩,by omega,?_⟩,fun h=>absurd hlt (by omega)⟩
   refine q0D 2 (by decide) ?_
   with_reducible refine sxE ?_
   refine q0f (q0E _ [6,11,25] i4 (by decide) (by decide)) ?_
   refine uQ 600 _ ?_
   simp (maxSteps:=3000000) only [hl,hwl,Nat.zero_add,Ty.dflt,go_sem,↓zA,↓reduceIte,↓reduceDIte] <;>try simp only [zB]
   refine q0f (q4D _ _ _ i4 i5 i6) ?_
   refine uQ 600 _ ?_
   simp (maxSteps:=3000000) only [hl,hwl,Nat.zero_add,Ty.dflt,go_sem,↓zA,↓reduceIte,↓reduceDIte] <;>try simp only [zB]
   refine q0p 3 ?_
   with_reducible refine sxE ?_
   refine q0a (q0E _ [2,13,22] i0 (by decide) (by decide)) ?_
   refine uQ 600 _ ?_
   simp (maxSteps:=3000000) only [hl,hwl,Nat.zero_add,Ty.dflt,go_sem,↓zA,↓reduceIte,↓reduceDIte] <;>try simp only [zB]
   refine q0a (q2t _ _ _ i0 i1 i2) ?_
   refine uQ 600 _ ?_
   simp (maxSteps:=3000000) only [hl,hwl,Nat.zero_add,Ty.dflt,go_sem,↓zA,↓reduceIte,↓reduceDIte] <;>try simp only [zB]
   have hr:rnds b h (t+1)=rnd (kS t) (wS b t) v:=by show rnd (kS t) (wS b t) (rnds b h t)=_;rw [hvv]
   have hT1:=t1U (k:=kS t) (w:=wS b t) hv
   have hT2:=t2U hv
   refine ⟨t+1,hlt,by dsimp only;omega,⟨[.dead,.dead],rfl⟩,?_⟩
   rw [q9h,q0T b hlt hlt,hT1,hT2,aU,eU]
   simp (maxSteps:=3000000) only [hwr,hr,go_sem,↓zA,↓reduceIte,↓reduceDIte] <;>try simp only [zB]
   exact ⟨rfl,rfl,rfl,rfl,rfl,rfl,rfl,rfl⟩
 obtain rfl:t=64:=by omega
 refine uQ 600 _ ?_
 simp (maxSteps:=3000000) only [hl,hwl,Nat.zero_add,Ty.dflt,go_sem,↓zA,↓reduceIte,↓reduceDIte] <;>try simp only [zB]
 refine ⟨fun h=>absurd h (by omega),fun _=> ?_⟩
 have e8:=list8 (q1f (b:=b) hh 64).1
 refine q0i (ι:=Nat) (fun i=>[(186,rI i),(185,.dat (.arr 8 (.int .u32)) (rnds b h 64))]) (fun i=>[.row (.prod (.prod (.arr 64 .u8) (.arr 64 .u8)) (.prod (.prod (.arr 8 (.int .u32)) (.prod (.arr 64 .u8) (.int .i64))) .bool)) [(ks,(((blkP b h i),r),rd))],.row (.int .u32) (wL b 64)]) (fun t=>8-t) (fun t=>t≤8) 0 (Nat.zero_le _) ?_ ?_ ?_
 · rw [q2V b hh.1]
 · with_reducible refine sxE ?_
   exact congrArg (SV.dat (.arr 8 (.int .u32))) e8
 intro i hi
 have hwr:=wsx i (by omega)
 have hv:=q1f (b:=b) hh 64
 have hl:=hv.1
 have hbl:=q4x b h i
 by_cases hlt:i<8
 · have hbg:=q4j b h hlt
   refine uQ 600 _ ?_
   simp (maxSteps:=3000000) only [hl,hbl,Nat.zero_add,Nat.mul_one,Ty.dflt,go_sem,↓zA,↓reduceIte,↓reduceDIte] <;>try simp only [zB]
   refine ⟨fun _=> ?_,fun h=>absurd hlt (by omega)⟩
   repeat (with_reducible refine And.intro (by first|omega|exact ⟨by omega,by omega⟩) ?_)
   refine ⟨i+1,hlt,by dsimp only;omega,?_,?_⟩
   · rw [hbg,wrapU]
     show [_,_]= [SObj.row (.prod (.prod (.arr 64 .u8) (.arr 64 .u8)) (.prod (.prod (.arr 8 (.int .u32)) (.prod (.arr 64 .u8) (.int .i64))) .bool)) [(ks,(((blkP b h (i+1)),r),rd))],_]
     rw [←q3Z b h hlt]
   with_reducible refine sx1 hwr ?_;trivial
 obtain rfl:i=8:=by omega
 refine uQ 600 _ ?_
 simp (maxSteps:=3000000) only [hl,hbl,Nat.zero_add,Ty.dflt,go_sem,↓zA,↓reduceIte,↓reduceDIte] <;>try simp only [zB]
 refine ⟨fun h=>absurd h (by omega),fun _=> ?_⟩
 rw [q4p]
end Go.Proofs.YtikapabgggphpaaGreatDoor
