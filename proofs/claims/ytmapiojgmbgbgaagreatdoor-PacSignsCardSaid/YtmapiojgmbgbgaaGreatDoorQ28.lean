/- SHA-256: hashes in progress: the plain law. -/
import Derived.Test.YtmapiojgmbgbgaaGreatDoorQ27
set_option linter.all false
namespace Go.Proofs.YtmapiojgmbgbgaaGreatDoor
open Go Go.Sx Go.Proofs
set_option maxRecDepth 100000
set_option maxHeartbeats 40000000
theorem z8s{p q:List UInt8}{i:Nat}(h:64*i+64≤p.length):blkAt (p++q) i=blkAt p i:=by
 unfold blkAt;rw [A9 h]
theorem z3m{p q:List UInt8}{c i:Nat}(h:p.length=64*c):blkAt (p++q) (c+i)=blkAt q i:=by
 unfold blkAt;rw [Cz,BW,AN (by rw [Av];omega),Au,Av,h]
 congr 1
 · omega
 congr 1;omega
theorem q3i(h:List Int){p q:List UInt8}:∀ {k:Nat},64*k≤p.length→foldB h (p++q) k=foldB h p k
 |0,_=>rfl
 |k+1,hk=>by rw [foldB,foldB,q3i h (by omega),z8s (by omega)]
theorem q8j(h:List Int){p q:List UInt8}{c:Nat}(hp:p.length=64*c):∀k,foldB h (p++q) (c+k)=foldB (foldB h p c) q k
 |0=>by rw [AM,q3i h (by omega)];rfl
 |k+1=>by rw [←Nat.add_assoc,foldB,foldB,q8j h hp k,z3m hp]
abbrev HaD:Type:=List Int×List UInt8×Int
structure HRep (m:List UInt8) (x:HaD):Prop where
 n:x.2.2=(m.length:Int)
 rest:x.2.1.length=64
 len:x.1.length=8
 st:m.length≠0→x.1=foldB hS0 m (m.length / 64)
 tail:x.2.1.take (m.length%64)=m.drop (64* (m.length / 64))
theorem j0h:HRep [] (List.replicate 8 0,List.replicate 64 0,0):=⟨rfl,by simp,by simp,fun h=>absurd rfl h,by simp⟩
def wrR(m rest b:List UInt8):List UInt8:=
 if m.length%64+b.length<64 then splice rest (m.length%64) b
 else splice (if 0<m.length%64 then splice rest (m.length%64) (b.take (64-m.length%64)) else rest) 0 ((m++b).drop (64* ((m++b).length / 64)))
def wrS(m:List UInt8)(x:HaD)(b:List UInt8):HaD:=(foldB hS0 (m++b) ((m++b).length / 64),wrR m x.2.1 b,((m++b).length:Int))
theorem q2F{α:Type}{xs ys:List α}{i:Nat}(h:i+ys.length≤xs.length):(splice xs i ys).length=xs.length:=by simp [splice];omega
theorem q8c{α:Type}{xs ys:List α}{i:Nat}(h:i+ys.length≤xs.length):(splice xs i ys).take (i+ys.length)=xs.take i++ys:=by
 unfold splice;rw [A9 (by rw [Ac,Av];omega),Aa (by rw [Ac,Av];omega)]
theorem z0z{m b:List UInt8}{x:HaD}(h:HRep m x):HRep (m++b) (wrS m x b):=by
 obtain ⟨h1,h2,h3,h4,h5⟩:=h;have hlen:(m++b).length=m.length+b.length:=Ac;have hl:(wrR m x.2.1 b).length=64:=by
  unfold wrR;split
  · rw [q2F (by omega)];exact h2
  have h6:((m++b).drop (64* ((m++b).length / 64))).length≤64:=by rw [Al];omega
  split
  · rw [q2F,q2F] <;> (try rw [q2F]) <;> (try rw [Av]) <;>omega
  rw [q2F] <;>omega
 refine ⟨rfl,hl,(q1t q5r _ _).1,fun _=>rfl,?_⟩;show (wrR m x.2.1 b).take _=_;unfold wrR at hl⊢;split
 · rename_i hlt;have e:(m++b).length%64=m.length%64+b.length:=by omega
   rw [e,q8c (by omega),h5,Bn (by omega)]
   congr 2;omega
 rename_i hge;rw [if_neg hge] at hl;have h6:((m++b).drop (64* ((m++b).length / 64))).length=(m++b).length%64:=by rw [Al];omega
 generalize hr:(if 0<m.length%64 then splice x.2.1 (m.length%64) (b.take (64-m.length%64)) else x.2.1)=r at*;generalize ht:(m++b).drop (64* ((m++b).length / 64))=t at*;have hrl:r.length=64:=by
  rw [←hr];split
  · rw [q2F] <;> (try rw [Av]) <;>omega
  exact h2
 have:=q8c (xs:=r) (ys:=t) (i:=0) (by omega)
 rw [Ab,BQ,Au] at this;rw [←h6];exact this
theorem j1Q{m:List UInt8}{x:HaD}(h:HRep m x)(hm:m.length≠0):bytesS (foldB x.1 (padT (x.2.1.take (m.length%64)) m.length) (blksN (x.2.1.take (m.length%64))))=shaS m:=by
 obtain ⟨h1,h2,h3,h4,h5⟩:=h;rw [h4 hm,h5];have hp:padS m=m.take (64* (m.length / 64))++padT (m.drop (64* (m.length / 64))) m.length:=by
  unfold padS padT padZ;have e:padN (m.drop (64* (m.length / 64))).length=padN m.length:=by
   rw [Al];unfold padN;congr 2;omega
  rw [e];simp only [←List.append_assoc,Bb]
 have hb:blksN m=m.length / 64+blksN (m.drop (64* (m.length / 64))):=by
  unfold blksN;rw [Al];omega
 unfold shaS;rw [←q6h,hp,hb,q8j hS0 (by rw [Av];omega)]
 congr 2;have:=q3i hS0 (p:=m.take (64* (m.length / 64))) (q:=m.drop (64* (m.length / 64))) (k:=m.length / 64) (by rw [Av];omega)
 rw [Bb] at this;exact this
theorem z6E(b:List UInt8)(r:List UInt8×Int)(h:List Int)(hb:b.length=64)(hh:inWs h):PE Tryz.prog 282 [.rptr 0 HH 0 0,.isl .u8 b] [.row HH [(h,r)]] (.ret (.tup [])) [.row HH [((blkS b h),r)]]:=by
 refine q0b (Ag _) ?_;refine rQ fi282 ?_;refine q0i (ι:=Nat) (fun t=>[(26,rI t)]) (fun t=>[.row HH [(h,r)],.row (.int .u32) (wL b t)]) (fun t=>16-t) (fun t=>t≤16) 0 (Ak _) (by rw [q5Y];rfl) ?_ ?_
 · with_reducible refine sxE ?_;trivial
 intro t ht;have hwr:=wsx t (by omega)
 have hwl:=q3P b t;by_cases hlt:t<16
 · have w1:IntKind.i64.wrap (4* (t:Int))=((4*t:Nat):Int):=by rw [wrapi (by omega)];omega
   have w4:IntKind.i64.wrap (((4*t:Nat):Int)+4)=((4*t+4:Nat):Int):=by rw [wrapi (by omega)];omega
   refine gy4 w1 w4 hwl Ab ?_;have hdl:(List.drop (4*t) (List.take (4*t+4) b)).length=4:=by rw [Al,Av];omega
   refine ⟨fun _=> ?_,fun h=>absurd h (by omega)⟩
   repeat (with_reducible refine And.intro (by first|omega|exact ⟨by omega,by omega,by omega,by omega⟩ |exact ⟨by omega,by omega⟩) ?_)
   refine ⟨t+1,by show t+1≤16;omega,by dsimp only;omega,?_,?_⟩
   · have hd:∀j,j<4→(List.drop (4*t) (List.take (4*t+4) b)).getD j Ty.u8.dflt=b.getD (4*t+j) 0:=fun j hj=>by
      rw [Ad,AG,BE (by omega),←Ad]
      rfl
     have ho:=or4 fun j=>(List.drop (4*t) (List.take (4*t+4) b)).getD j Ty.u8.dflt;rw [ho,hd 0 (by omega),hd 1 (by omega),hd 2 (by omega),hd 3 (by omega)]
     have hw:((256* (256* (256* (b.getD (4*t+0) 0).toNat+ (b.getD (4*t+1) 0).toNat)+ (b.getD (4*t+2) 0).toNat)+ (b.getD (4*t+3) 0).toNat:Nat):Int)=wS b t:=by
      rw [z2t hlt];simp only [wdP,byI];omega
     show [SObj.row HH [(h,r)],SObj.row (.int .u32) ((wL b t).set t ((256* (256* (256* (b.getD (4*t+0) 0).toNat+ (b.getD (4*t+1) 0).toNat)+ (b.getD (4*t+2) 0).toNat)+ (b.getD (4*t+3) 0).toNat:Nat):Int))]= [SObj.row HH [(h,r)],SObj.row (.int .u32) (wL b (t+1))];rw [hw,q3Q b (by omega)]
   with_reducible refine sx1 hwr ?_;trivial
 obtain rfl:t=16:=by omega
 refine gy2 hwl Ab ?_;refine ⟨fun h=>absurd h (by omega),fun _=> ?_⟩
 refine q2n (ι:=Nat) (fun t=>[(7,rI t)]) (fun t=>[.row HH [(h,r)],.row (.int .u32) (wL b t)]) (fun t=>64-t) (fun t=>16≤t∧t≤64) 16 (by decide) 2 rfl (by decide) (fun _=>rfl) (fun _=>rfl) (fun _=>rfl) ?_ ?_
 · with_reducible refine sxE ?_
   rfl
 intro t ht;have hwl:=q3P b t;have hwr:=wsx t (by omega)
 by_cases hlt:t<64
 · have e15:IntKind.i64.wrap ((t:Int) -15)=((t-15:Nat):Int):=by rw [wrapi (by omega)];omega
   have e2:IntKind.i64.wrap ((t:Int) -2)=((t-2:Nat):Int):=by rw [wrapi (by omega)];omega
   have e7:IntKind.i64.wrap ((t:Int) -7)=((t-7:Nat):Int):=by rw [wrapi (by omega)];omega
   have e16:IntKind.i64.wrap ((t:Int) -16)=((t-16:Nat):Int):=by rw [wrapi (by omega)];omega
   have g15:=q1b b (t:=t) (j:=t-15) (by omega) (by omega)
   have g2:=q1b b (t:=t) (j:=t-2) (by omega) (by omega)
   have g7:=q1b b (t:=t) (j:=t-7) (by omega) (by omega)
   have g16:=q1b b (t:=t) (j:=t-16) (by omega) (by omega)
   have i15:=q2w b (t-15);have i2:=q2w b (t-2);have i7:=q2w b (t-7);have i16:=q2w b (t-16);refine gyd10 e15 e2 e7 e16 g15 g2 g7 g16 hwl Ab ?_;refine ⟨fun _=>⟨⟨by omega,by omega⟩,by omega,⟨by omega,by omega⟩,by omega,⟨by omega,by omega⟩,by omega,⟨by omega,by omega⟩,by omega,q0q (q0T (wS b (t-2)) [17,19] i2 (by decide) (by decide)) ?_⟩,fun h=>absurd hlt (by omega)⟩
   refine gQ ?_;refine q0A 2 (by decide) ?_
   with_reducible refine sxE ?_
   refine q0d (q0T (wS b (t-15)) [7,18] i15 (by decide) (by decide)) ?_
   refine uQ 600 _ ?_;simp (maxSteps:=3000000) only [e15,e2,e7,e16,g15,g2,g7,g16,hwl,Ab,Ty.dflt,go_sem,↓zA,↓reduceIte,↓reduceDIte] <;>try simp only [zB]
   repeat (with_reducible refine And.intro (by first|omega|exact ⟨by omega,by omega⟩) ?_)
   refine ⟨t+1,⟨by omega,hlt⟩,by dsimp only;omega,⟨[.dead],?_⟩,?_⟩
   · rw [schU i15 i2,←z2G (by omega),q3Q b hlt]
     rfl
   with_reducible refine sx1 hwr ?_;trivial
 obtain rfl:t=64:=by omega
 refine gQ ?_;have hl:=hh.1;refine ⟨fun h=>absurd h (by omega),fun _=> ?_⟩
 repeat (with_reducible refine And.intro (by omega) ?_)
 refine q3R (t:=.arr 64 (.int .u32)) (x:=dat_sha_constants) (ag:=some 64) (s:=.dat (.arr 64 (.int .u32)) dat_sha_constants) (by unfold datList;repeat (first|exact .head _|apply List.Mem.tail)) rfl (.inr rfl) ?_
 refine gQ ?_;refine q2n (ι:=Nat) (fun t=>[(134,rI t),(12,.raw (.int .u32 ((rnds b h t).getD 0 0))),(13,.raw (.int .u32 ((rnds b h t).getD 1 0))),(14,.raw (.int .u32 ((rnds b h t).getD 2 0))),(15,.raw (.int .u32 ((rnds b h t).getD 3 0))),(16,.raw (.int .u32 ((rnds b h t).getD 4 0))),(17,.raw (.int .u32 ((rnds b h t).getD 5 0))),(18,.raw (.int .u32 ((rnds b h t).getD 6 0))),(19,.raw (.int .u32 ((rnds b h t).getD 7 0)))]) (fun t=>[.row HH [(h,r)],.row (.int .u32) (wL b 64)]) (fun t=>64-t) (fun t=>t≤64) 0 (Ak _) 2 rfl (by decide) (fun _=>rfl) (fun _=>rfl) (fun _=>rfl) ?_ ?_
 · with_reducible refine sxE ?_
   exact ⟨rfl,rfl,rfl,rfl,rfl,rfl,rfl,rfl⟩
 intro t ht;have hwr:=wsx t (by omega)
 by_cases hlt:t<64
 · have hv:=q1r (b:=b) hh t;generalize hvv:rnds b h t=v at*;have i0:=q0c hv 0 (by decide)
   have i1:=q0c hv 1 (by decide)
   have i2:=q0c hv 2 (by decide)
   have i3:=q0c hv 3 (by decide)
   have i4:=q0c hv 4 (by decide)
   have i5:=q0c hv 5 (by decide)
   have i6:=q0c hv 6 (by decide)
   have i7:=q0c hv 7 (by decide)
   refine gyd3 hl hwl Ab ?_;refine ⟨fun _=>⟨⟨by omega,by omega⟩,⟨by omega,by omega⟩,by omega,?_⟩,fun h=>absurd hlt (by omega)⟩
   refine q0A 2 (by decide) ?_
   with_reducible refine sxE ?_
   refine q0d (q0T _ [6,11,25] i4 (by decide) (by decide)) ?_
   refine gyd3 hl hwl Ab ?_;refine q0d (q5g _ _ _ i4 i5 i6) ?_;refine gyd3 hl hwl Ab ?_;refine q0m 3 ?_;with_reducible refine sxE ?_
   refine cyd3 (q0T _ [2,13,22] i0 (by decide) (by decide)) hl hwl Ab ?_
   refine cyd3 (q3q _ _ _ i0 i1 i2) hl hwl Ab ?_;have hr:rnds b h (t+1)=rnd (kS t) (wS b t) v:=by show rnd (kS t) (wS b t) (rnds b h t)=_;rw [hvv]
   have hT1:=t1U (k:=kS t) (w:=wS b t) hv;have hT2:=t2U hv;refine ⟨t+1,hlt,by dsimp only;omega,⟨[.dead,.dead],rfl⟩,?_⟩
   rw [z1d,q1b b hlt hlt,hT1,hT2,aU,eU];with_reducible refine sy2 hwr hr ?_
   exact ⟨rfl,rfl,rfl,rfl,rfl,rfl,rfl,rfl⟩
 obtain rfl:t=64:=by omega
 refine gyd3 hl hwl Ab ?_;refine ⟨fun h=>absurd h (by omega),fun _=> ?_⟩
 have e8:=list8 (q1r (b:=b) hh 64).1;refine q0i (ι:=Nat) (fun i=>[(186,rI i),(185,.dat (.arr 8 (.int .u32)) (rnds b h 64))]) (fun i=>[.row HH [((blkP b h i),r)],.row (.int .u32) (wL b 64)]) (fun t=>8-t) (fun t=>t≤8) 0 (Ak _) ?_ ?_ ?_
 · rw [q3g b hh.1]
 · with_reducible refine sxE ?_
   exact congrArg (SV.dat (.arr 8 (.int .u32))) e8
 intro i hi;have hwr:=wsx i (by omega)
 have hv:=q1r (b:=b) hh 64;have hl:=hv.1;have hbl:=q4y b h i;by_cases hlt:i<8
 · have hbg:=q4u b h hlt;refine gyd4 hl hbl Ab AP ?_;refine ⟨fun _=> ?_,fun h=>absurd hlt (by omega)⟩
   repeat (with_reducible refine And.intro (by first|omega|exact ⟨by omega,by omega⟩) ?_)
   refine ⟨i+1,hlt,by dsimp only;omega,?_,?_⟩
   · rw [hbg,wrapU];show [_,_]= [SObj.row HH [((blkP b h (i+1)),r)],_];rw [←q4E b h hlt]
   with_reducible refine sx1 hwr ?_;trivial
 obtain rfl:i=8:=by omega
 refine gyd3 hl hbl Ab ?_;refine ⟨fun h=>absurd h (by omega),fun _=> ?_⟩
 rw [q4n]
theorem j5T(b:List UInt8)(n:Int)(h:List Int)(hb:b.length=64)(hh:inWs h):PE Tryz.prog 282 [.rptr 0 HH 0 0,.csl 0 .u8 8 0 64] [.row HH [(h,(b,n))]] (.ret (.tup [])) [.row HH [((blkS b h),(b,n))]]:=by
 refine q0b (Ag _) ?_;refine rQ fi282 ?_;refine q0i (ι:=Nat) (fun t=>[(26,rI t)]) (fun t=>[.row HH [(h,(b,n))],.row (.int .u32) (wL b t)]) (fun t=>16-t) (fun t=>t≤16) 0 (Ak _) (by rw [q5Y];rfl) ?_ ?_
 · with_reducible refine sxE ?_;trivial
 intro t ht;have hwr:=wsx t (by omega)
 have hwl:=q3P b t;by_cases hlt:t<16
 · have w1:IntKind.i64.wrap (4* (t:Int))=((4*t:Nat):Int):=by rw [wrapi (by omega)];omega
   have w4:IntKind.i64.wrap (((4*t:Nat):Int)+4)=((4*t+4:Nat):Int):=by rw [wrapi (by omega)];omega
   refine gy4 w1 w4 hwl Ab ?_;have hdl:(List.drop (4*t) (List.take (4*t+4) b)).length=4:=by rw [Al,Av];omega
   refine ⟨fun _=> ?_,fun h=>absurd h (by omega)⟩
   repeat (with_reducible refine And.intro (by first|omega|exact ⟨by omega,by omega,by omega,by omega⟩ |exact ⟨by omega,by omega⟩) ?_)
   refine ⟨t+1,by show t+1≤16;omega,by dsimp only;omega,?_,?_⟩
   · have hd:∀j,j<4→(List.drop (4*t) (List.take (4*t+4) b)).getD j Ty.u8.dflt=b.getD (4*t+j) 0:=fun j hj=>by
      rw [Ad,AG,BE (by omega),←Ad]
      rfl
     have ho:=or4 fun j=>b.getD (4*t+j) Ty.u8.dflt;rw [ho];have hw:((256* (256* (256* (b.getD (4*t+0) 0).toNat+ (b.getD (4*t+1) 0).toNat)+ (b.getD (4*t+2) 0).toNat)+ (b.getD (4*t+3) 0).toNat:Nat):Int)=wS b t:=by
      rw [z2t hlt];simp only [wdP,byI];omega
     show [SObj.row HH [(h,(b,n))],SObj.row (.int .u32) ((wL b t).set t ((256* (256* (256* (b.getD (4*t+0) 0).toNat+ (b.getD (4*t+1) 0).toNat)+ (b.getD (4*t+2) 0).toNat)+ (b.getD (4*t+3) 0).toNat:Nat):Int))]= [SObj.row HH [(h,(b,n))],SObj.row (.int .u32) (wL b (t+1))];rw [hw,q3Q b (by omega)]
   with_reducible refine sx1 hwr ?_;trivial
 obtain rfl:t=16:=by omega
 refine gy2 hwl Ab ?_;refine ⟨fun h=>absurd h (by omega),fun _=> ?_⟩
 refine q2n (ι:=Nat) (fun t=>[(7,rI t)]) (fun t=>[.row HH [(h,(b,n))],.row (.int .u32) (wL b t)]) (fun t=>64-t) (fun t=>16≤t∧t≤64) 16 (by decide) 2 rfl (by decide) (fun _=>rfl) (fun _=>rfl) (fun _=>rfl) ?_ ?_
 · with_reducible refine sxE ?_
   rfl
 intro t ht;have hwl:=q3P b t;have hwr:=wsx t (by omega)
 by_cases hlt:t<64
 · have e15:IntKind.i64.wrap ((t:Int) -15)=((t-15:Nat):Int):=by rw [wrapi (by omega)];omega
   have e2:IntKind.i64.wrap ((t:Int) -2)=((t-2:Nat):Int):=by rw [wrapi (by omega)];omega
   have e7:IntKind.i64.wrap ((t:Int) -7)=((t-7:Nat):Int):=by rw [wrapi (by omega)];omega
   have e16:IntKind.i64.wrap ((t:Int) -16)=((t-16:Nat):Int):=by rw [wrapi (by omega)];omega
   have g15:=q1b b (t:=t) (j:=t-15) (by omega) (by omega)
   have g2:=q1b b (t:=t) (j:=t-2) (by omega) (by omega)
   have g7:=q1b b (t:=t) (j:=t-7) (by omega) (by omega)
   have g16:=q1b b (t:=t) (j:=t-16) (by omega) (by omega)
   have i15:=q2w b (t-15);have i2:=q2w b (t-2);have i7:=q2w b (t-7);have i16:=q2w b (t-16);refine gyd10 e15 e2 e7 e16 g15 g2 g7 g16 hwl Ab ?_;refine ⟨fun _=>⟨⟨by omega,by omega⟩,by omega,⟨by omega,by omega⟩,by omega,⟨by omega,by omega⟩,by omega,⟨by omega,by omega⟩,by omega,q0q (q0T (wS b (t-2)) [17,19] i2 (by decide) (by decide)) ?_⟩,fun h=>absurd hlt (by omega)⟩
   refine gQ ?_;refine q0A 2 (by decide) ?_
   with_reducible refine sxE ?_
   refine q0d (q0T (wS b (t-15)) [7,18] i15 (by decide) (by decide)) ?_
   refine uQ 600 _ ?_;simp (maxSteps:=3000000) only [e15,e2,e7,e16,g15,g2,g7,g16,hwl,Ab,Ty.dflt,go_sem,↓zA,↓reduceIte,↓reduceDIte] <;>try simp only [zB]
   repeat (with_reducible refine And.intro (by first|omega|exact ⟨by omega,by omega⟩) ?_)
   refine ⟨t+1,⟨by omega,hlt⟩,by dsimp only;omega,⟨[.dead],?_⟩,?_⟩
   · rw [schU i15 i2,←z2G (by omega),q3Q b hlt]
     rfl
   with_reducible refine sx1 hwr ?_;trivial
 obtain rfl:t=64:=by omega
 refine gQ ?_;have hl:=hh.1;refine ⟨fun h=>absurd h (by omega),fun _=> ?_⟩
 repeat (with_reducible refine And.intro (by omega) ?_)
 refine q3R (t:=.arr 64 (.int .u32)) (x:=dat_sha_constants) (ag:=some 64) (s:=.dat (.arr 64 (.int .u32)) dat_sha_constants) (by unfold datList;repeat (first|exact .head _|apply List.Mem.tail)) rfl (.inr rfl) ?_
 refine gQ ?_;refine q2n (ι:=Nat) (fun t=>[(134,rI t),(12,.raw (.int .u32 ((rnds b h t).getD 0 0))),(13,.raw (.int .u32 ((rnds b h t).getD 1 0))),(14,.raw (.int .u32 ((rnds b h t).getD 2 0))),(15,.raw (.int .u32 ((rnds b h t).getD 3 0))),(16,.raw (.int .u32 ((rnds b h t).getD 4 0))),(17,.raw (.int .u32 ((rnds b h t).getD 5 0))),(18,.raw (.int .u32 ((rnds b h t).getD 6 0))),(19,.raw (.int .u32 ((rnds b h t).getD 7 0)))]) (fun t=>[.row HH [(h,(b,n))],.row (.int .u32) (wL b 64)]) (fun t=>64-t) (fun t=>t≤64) 0 (Ak _) 2 rfl (by decide) (fun _=>rfl) (fun _=>rfl) (fun _=>rfl) ?_ ?_
 · with_reducible refine sxE ?_
   exact ⟨rfl,rfl,rfl,rfl,rfl,rfl,rfl,rfl⟩
 intro t ht;have hwr:=wsx t (by omega)
 by_cases hlt:t<64
 · have hv:=q1r (b:=b) hh t;generalize hvv:rnds b h t=v at*;have i0:=q0c hv 0 (by decide)
   have i1:=q0c hv 1 (by decide)
   have i2:=q0c hv 2 (by decide)
   have i3:=q0c hv 3 (by decide)
   have i4:=q0c hv 4 (by decide)
   have i5:=q0c hv 5 (by decide)
   have i6:=q0c hv 6 (by decide)
   have i7:=q0c hv 7 (by decide)
   refine gyd3 hl hwl Ab ?_;refine ⟨fun _=>⟨⟨by omega,by omega⟩,⟨by omega,by omega⟩,by omega,?_⟩,fun h=>absurd hlt (by omega)⟩
   refine q0A 2 (by decide) ?_
   with_reducible refine sxE ?_
   refine q0d (q0T _ [6,11,25] i4 (by decide) (by decide)) ?_
   refine gyd3 hl hwl Ab ?_;refine q0d (q5g _ _ _ i4 i5 i6) ?_;refine gyd3 hl hwl Ab ?_;refine q0m 3 ?_;with_reducible refine sxE ?_
   refine cyd3 (q0T _ [2,13,22] i0 (by decide) (by decide)) hl hwl Ab ?_
   refine cyd3 (q3q _ _ _ i0 i1 i2) hl hwl Ab ?_;have hr:rnds b h (t+1)=rnd (kS t) (wS b t) v:=by show rnd (kS t) (wS b t) (rnds b h t)=_;rw [hvv]
   have hT1:=t1U (k:=kS t) (w:=wS b t) hv;have hT2:=t2U hv;refine ⟨t+1,hlt,by dsimp only;omega,⟨[.dead,.dead],rfl⟩,?_⟩
   rw [z1d,q1b b hlt hlt,hT1,hT2,aU,eU];with_reducible refine sy2 hwr hr ?_
   exact ⟨rfl,rfl,rfl,rfl,rfl,rfl,rfl,rfl⟩
 obtain rfl:t=64:=by omega
 refine gyd3 hl hwl Ab ?_;refine ⟨fun h=>absurd h (by omega),fun _=> ?_⟩
 have e8:=list8 (q1r (b:=b) hh 64).1;refine q0i (ι:=Nat) (fun i=>[(186,rI i),(185,.dat (.arr 8 (.int .u32)) (rnds b h 64))]) (fun i=>[.row HH [((blkP b h i),(b,n))],.row (.int .u32) (wL b 64)]) (fun t=>8-t) (fun t=>t≤8) 0 (Ak _) ?_ ?_ ?_
 · rw [q3g b hh.1]
 · with_reducible refine sxE ?_
   exact congrArg (SV.dat (.arr 8 (.int .u32))) e8
 intro i hi;have hwr:=wsx i (by omega)
 have hv:=q1r (b:=b) hh 64;have hl:=hv.1;have hbl:=q4y b h i;by_cases hlt:i<8
 · have hbg:=q4u b h hlt;refine gyd4 hl hbl Ab AP ?_;refine ⟨fun _=> ?_,fun h=>absurd hlt (by omega)⟩
   repeat (with_reducible refine And.intro (by first|omega|exact ⟨by omega,by omega⟩) ?_)
   refine ⟨i+1,hlt,by dsimp only;omega,?_,?_⟩
   · rw [hbg,wrapU];show [_,_]= [SObj.row HH [((blkP b h (i+1)),(b,n))],_];rw [←q4E b h hlt]
   with_reducible refine sx1 hwr ?_;trivial
 obtain rfl:i=8:=by omega
 refine gyd3 hl hbl Ab ?_;refine ⟨fun h=>absurd h (by omega),fun _=> ?_⟩
 rw [q4n]
theorem tmod64(n:Nat):((n:Int)).tmod 64=((n%64:Nat):Int):=by rw [AW (by omega)];rfl
theorem q6Q{m rest b:List UInt8}(h:m.length%64=0):wrR m rest b=splice rest 0 (b.drop (64* (b.length / 64))):=by
 have hme:(m++b).length=m.length+b.length:=Ac;unfold wrR;rw [h];split
 · rw [show 64* (b.length / 64)=0 by omega,As]
 rw [if_neg (by omega),hme,BW,AN (by omega),Au]
 congr 2;omega
theorem z0S{m b:List UInt8}{x:HaD}(hst:x.1=foldB hS0 m (m.length / 64))(h:m.length%64+b.length<64):(x.1,List.take (m.length%64) x.2.1++b++List.drop (m.length%64+b.length) x.2.1,((m.length+b.length:Nat):Int))=wrS m x b:=by
 have hme:(m++b).length=m.length+b.length:=Ac;unfold wrS wrR;rw [if_pos h,hme,show (m.length+b.length) / 64=m.length / 64 by omega,q3i hS0 (by omega),←hst]
 rfl
theorem z0T{m b pre b1:List UInt8}{c0:Nat}(hp:pre.length=64*c0)(happ:pre++b1=m++b):(m++b).drop (64* ((m++b).length / 64))=b1.drop (64* (b1.length / 64)):=by
 rw [←happ,Ac,BW,AN (by omega),Au]
 congr 1;omega
theorem q4B{m b pre b1 rest1:List UInt8}{x:HaD}{c0:Nat}{st1:List Int}(hp:pre.length=64*c0)(happ:pre++b1=m++b)(hrr:wrR m x.2.1 b=splice rest1 0 (b1.drop (64* (b1.length / 64))))(hst:st1=foldB hS0 pre c0:=by first|rfl|assumption):
 (foldB st1 b1 (b1.length / 64),List.take 0 rest1++b1.drop (64* (b1.length / 64))++List.drop (0+ (b1.drop (64* (b1.length / 64))).length) rest1,((m.length+b.length:Nat):Int))=wrS m x b:=by
 have hme:(m++b).length=m.length+b.length:=Ac;have hl:(m++b).length / 64=c0+b1.length / 64:=by rw [←happ,Ac];omega
 unfold wrS;rw [hrr,hl,hme,←happ,q8j hS0 hp,hst];rfl
theorem z2I(m b:List UInt8)(x:HaD)(hx:HRep m x)(hl:m.length+b.length≤70368744177664):PE Tryz.prog 257 [.rptr 0 HH 0 0,.isl .u8 b] [.row HH [x]] (.ret (rI 0)) [.row HH [wrS m x b]]:=by
 obtain ⟨st,rest,n⟩:=x;obtain rfl:n=(m.length:Int):=hx.n;have h2:rest.length=64:=hx.rest;have h3:st.length=8:=hx.len;have h4:m.length≠0→st=foldB hS0 m (m.length / 64):=hx.st;have h5:rest.take (m.length%64)=m.drop (64* (m.length / 64)):=hx.tail;have hmt:=tmod64 m.length;have hmw:IntKind.i64.wrap ((m.length:Int)+ (b.length:Int))=((m.length+b.length:Nat):Int):=by rw [wrapi (by omega)];omega
 have hme:(m++b).length=m.length+b.length:=Ac;refine q0b (Ag _) ?_;refine q3E fi257 ?_;by_cases c0:m.length=0
 · have hm0:m= []:=A2.1 c0;have hz:((m.length:Int)=0)=True:=eq_true (by omega)
   have hu:(0< ((m.length%64:Nat):Int))=False:=eq_false (by omega)
   refine gy1 hz ?_;refine q3R (t:=.arr 8 (.int .u32)) (x:=dat_sha_start) (ag:=some 8) (s:=.dat (.arr 8 (.int .u32)) dat_sha_start) (by unfold datList;repeat (first|exact .head _|apply List.Mem.tail)) rfl (.inr rfl) ?_
   refine gy3 hmt hmw hu ?_;have hst1:inWs hS0:=q5r;have hpre:([]:List UInt8).length=64*0:=rfl;have happ:[]++b=m++b:=by rw [hm0]
   have hrr:wrR m rest b=splice rest 0 (b.drop (64* (b.length / 64))):=q6Q (by omega)
   refine ⟨by decide,?_⟩
   refine q0i (ι:=Nat) (fun i=>[(1,.isl .u8 (b.drop (64*i)))]) (fun i=>[.row HH [(foldB hS0 b i,(rest,((m.length+b.length:Nat):Int)))]]) (fun i=>b.length / 64-i) (fun i=>i≤b.length / 64) 0 (Ak _) ?_ ?_ ?_
   · rfl
   · with_reducible refine sxE ?_;trivial
   intro i hi;have hv:inWs (foldB hS0 b i):=q1t hst1 _ _;have hdl:(b.drop (64*i)).length=b.length-64*i:=Al;by_cases hlt:i<b.length / 64
   · have hbl:(List.take 64 (b.drop (64*i))).length=64:=by rw [Av];omega
     have hbe:List.take 64 (b.drop (64*i))=blkAt b i:=by
      unfold blkAt;rw [BG];congr 1;omega
     have hdd:List.drop 64 (List.take (b.length-64*i) (b.drop (64*i)))=b.drop (64* (i+1)):=by
      rw [Aa (by omega),Bp];congr 1
     have hc:(64≤((b.length-64*i:Nat):Int))=True:=eq_true (by omega)
     refine uQ 11 _ ?_;with_reducible refine sy2 hdl hc ?_
     refine q2t [] mixed ?_;refine gQ ?_;refine ⟨by omega,?_⟩
     refine q0M [0] (z6E (List.take 64 (b.drop (64*i))) (rest,((m.length+b.length:Nat):Int)) _ hbl hv) rfl (by decide) (by repeat first|exact trivial|exact rfl|refine And.intro ?_ ?_) rfl rfl (fun _ h=>by cases h) ?_
     simp only [afterR,Out.ren,SV.ren,mgA,sig,SObj.ren,SV.renL,List.set,List.map,Ai];refine gy1 hdl ?_;rw [hdd];refine ⟨⟨by omega,by omega⟩,i+1,hlt,by dsimp only;omega,?_,?_⟩
     · rw [hbe];rfl
     with_reducible refine sxE ?_;trivial
   obtain rfl:i=b.length / 64:=by omega
   have hc:(64≤((b.length-64* (b.length / 64):Nat):Int))=False:=eq_false (by omega)
   have hk0:min (b.length-64* (b.length / 64)) 64=b.length-64* (b.length / 64):=by omega
   refine gy3 hdl hc hk0 ?_;rw [Aa (l:=b.drop (64* (b.length / 64))) (by omega)]
   repeat (with_reducible refine And.intro (by first|omega|exact ⟨by omega,by omega⟩) ?_)
   exact congrArg (fun x=>SObj.row HH [x]) (q4B (x:=(st,rest,(m.length:Int))) hpre happ hrr)

 have hz:((m.length:Int)=0)=False:=eq_false (by omega)
 have hst:=h4 c0;have hst1:inWs st:=hst▸q1t q5r _ _;by_cases c1:0<m.length%64
 · have hu:(0< ((m.length%64:Nat):Int))=True:=eq_true (by omega)
   by_cases c2:m.length%64+b.length<64
   · have hk:min b.length (64-m.length%64)=b.length:=by omega
     have hw2:IntKind.i64.wrap (((m.length%64:Nat):Int)+ (b.length:Int))=((m.length%64+b.length:Nat):Int):=by rw [wrapi (by omega)];omega
     have hs:(((m.length%64+b.length:Nat):Int) <64)=True:=eq_true (by omega)
     refine uQ 600 _ ?_;simp (maxSteps:=3000000) only [hz,hmt,hmw,hu,hk,hw2,hs,AA,go_sem,↓zA,↓reduceIte,↓reduceDIte] <;>try simp only [zB]
     repeat (with_reducible refine And.intro (by first|omega|exact ⟨by omega,by omega⟩ |exact ⟨by omega,by omega,by omega⟩) ?_)
     exact congrArg (fun x=>SObj.row HH [x]) (z0S (x:=(st,rest,(m.length:Int))) hst c2)
   have hk:min b.length (64-m.length%64)=64-m.length%64:=by omega
   have hw2:IntKind.i64.wrap (((m.length%64:Nat):Int)+ ((64-m.length%64:Nat):Int))=((64:Nat):Int):=by rw [wrapi (by omega)];omega
   have htl:(List.take (64-m.length%64) b).length=64-m.length%64:=by rw [Av];omega
   have hfull:m.length%64+ (64-m.length%64)=64:=by omega
   have hs:(((64:Nat):Int) <64)=False:=eq_false (by omega)
   have hpre:(m++b.take (64-m.length%64)).length=64* (m.length / 64+1):=by rw [Ac,htl];omega
   have happ:m++b.take (64-m.length%64)++b.drop (64-m.length%64)=m++b:=by rw [List.append_assoc,Bb]
   obtain ⟨r1,hr1⟩:∃r1,r1=(List.take (m.length%64) rest++List.take (64-m.length%64) b++List.drop 64 rest):=⟨_,rfl⟩;have hr1l:r1.length=64:=by rw [hr1,Ac,Ac,htl,Av,Al];omega
   have hrr:wrR m rest b=splice r1 0 ((b.drop (64-m.length%64)).drop (64* ((b.drop (64-m.length%64)).length / 64))):=by
    unfold wrR;rw [if_neg c2,if_pos c1,hr1,z0T hpre happ];simp only [splice,htl,hfull]
   have hstD:blkS r1 st=foldB hS0 (m++b.take (64-m.length%64)) (m.length / 64+1):=by
    rw [foldB,q3i hS0 (by omega),←hst]
    congr 1;unfold blkAt;rw [Aa (by omega),Bn (by omega),←h5,hr1,show List.drop 64 rest= [] from AN (by omega),Ai]
   have hst1':inWs (blkS r1 st):=q7o;have hbl1:(List.drop (64-m.length%64) b).length=b.length- (64-m.length%64):=Al;refine uQ 74 _ ?_;simp (maxSteps:=3000000) only [hz,hmt,hmw,hu,hk,hw2,htl,hfull,hs,go_sem,↓zA,↓reduceIte,↓reduceDIte] <;>try simp only [zB]
   rw [←hr1];refine ⟨by decide,⟨by omega,by omega,by omega⟩,by omega,?_⟩
   refine q2t [] mixed ?_;refine gQ ?_;refine ⟨⟨by omega,by omega⟩,?_⟩
   refine q0M [0] (j5T r1 ((m.length+b.length:Nat):Int) _ hr1l hst1) rfl (by decide) (by repeat first|exact trivial|exact rfl|refine And.intro ?_ ?_) rfl rfl (fun _ h=>by cases h) ?_
   simp only [afterR,Out.ren,SV.ren,mgA,sig,SObj.ren,SV.renL,List.set,List.map,Ai];refine gy1 hk ?_;rw [AA];refine ⟨⟨by omega,by omega⟩,?_⟩
   replace hst1:=hst1';refine q0i (ι:=Nat) (fun i=>[(1,.isl .u8 ((b.drop (64-m.length%64)).drop (64*i)))]) (fun i=>[.row HH [(foldB (blkS r1 st) (b.drop (64-m.length%64)) i,(r1,((m.length+b.length:Nat):Int)))]]) (fun i=>(b.drop (64-m.length%64)).length / 64-i) (fun i=>i≤(b.drop (64-m.length%64)).length / 64) 0 (Ak _) ?_ ?_ ?_
   · rfl
   · with_reducible refine sxE ?_;trivial
   intro i hi;have hv:inWs (foldB (blkS r1 st) (b.drop (64-m.length%64)) i):=q1t hst1 _ _;have hdl:((b.drop (64-m.length%64)).drop (64*i)).length=(b.drop (64-m.length%64)).length-64*i:=Al;by_cases hlt:i< (b.drop (64-m.length%64)).length / 64
   · have hbl:(List.take 64 ((b.drop (64-m.length%64)).drop (64*i))).length=64:=by rw [Av];omega
     have hbe:List.take 64 ((b.drop (64-m.length%64)).drop (64*i))=blkAt (b.drop (64-m.length%64)) i:=by
      unfold blkAt;rw [BG];congr 1;omega
     have hdd:List.drop 64 (List.take ((b.drop (64-m.length%64)).length-64*i) ((b.drop (64-m.length%64)).drop (64*i)))=(b.drop (64-m.length%64)).drop (64* (i+1)):=by
      rw [Aa (by omega),Bp];congr 1
     have hc:(64≤(((b.drop (64-m.length%64)).length-64*i:Nat):Int))=True:=eq_true (by omega)
     refine uQ 11 _ ?_;with_reducible refine sy2 hdl hc ?_
     refine q2t [] mixed ?_;refine gQ ?_;refine ⟨by omega,?_⟩
     refine q0M [0] (z6E (List.take 64 ((b.drop (64-m.length%64)).drop (64*i))) (r1,((m.length+b.length:Nat):Int)) _ hbl hv) rfl (by decide) (by repeat first|exact trivial|exact rfl|refine And.intro ?_ ?_) rfl rfl (fun _ h=>by cases h) ?_
     simp only [afterR,Out.ren,SV.ren,mgA,sig,SObj.ren,SV.renL,List.set,List.map,Ai];refine gy1 hdl ?_;rw [hdd];refine ⟨⟨by omega,by omega⟩,i+1,hlt,by dsimp only;omega,?_,?_⟩
     · rw [hbe];rfl
     with_reducible refine sxE ?_;trivial
   obtain rfl:i=(b.drop (64-m.length%64)).length / 64:=by omega
   have hc:(64≤(((b.drop (64-m.length%64)).length-64* ((b.drop (64-m.length%64)).length / 64):Nat):Int))=False:=eq_false (by omega)
   have hk0:min ((b.drop (64-m.length%64)).length-64* ((b.drop (64-m.length%64)).length / 64)) 64=(b.drop (64-m.length%64)).length-64* ((b.drop (64-m.length%64)).length / 64):=by omega
   refine gy3 hdl hc hk0 ?_;rw [Aa (l:=(b.drop (64-m.length%64)).drop (64* ((b.drop (64-m.length%64)).length / 64))) (by omega)]
   repeat (with_reducible refine And.intro (by first|omega|exact ⟨by omega,by omega⟩) ?_)
   exact congrArg (fun x=>SObj.row HH [x]) (q4B (x:=(st,rest,(m.length:Int))) hpre happ hrr)

 have hu:(0< ((m.length%64:Nat):Int))=False:=eq_false (by omega)
 refine gy4 hz hmt hmw hu ?_;have hpre:m.length=64* (m.length / 64):=by omega
 have happ:m++b=m++b:=rfl;have hrr:wrR m rest b=splice rest 0 (b.drop (64* (b.length / 64))):=q6Q (by omega)
 refine ⟨by decide,?_⟩
 refine q0i (ι:=Nat) (fun i=>[(1,.isl .u8 (b.drop (64*i)))]) (fun i=>[.row HH [(foldB st b i,(rest,((m.length+b.length:Nat):Int)))]]) (fun i=>b.length / 64-i) (fun i=>i≤b.length / 64) 0 (Ak _) ?_ ?_ ?_
 · rfl
 · with_reducible refine sxE ?_;trivial
 intro i hi;have hv:inWs (foldB st b i):=q1t hst1 _ _;have hdl:(b.drop (64*i)).length=b.length-64*i:=Al;by_cases hlt:i<b.length / 64
 · have hbl:(List.take 64 (b.drop (64*i))).length=64:=by rw [Av];omega
   have hbe:List.take 64 (b.drop (64*i))=blkAt b i:=by
    unfold blkAt;rw [BG];congr 1;omega
   have hdd:List.drop 64 (List.take (b.length-64*i) (b.drop (64*i)))=b.drop (64* (i+1)):=by
    rw [Aa (by omega),Bp];congr 1
   have hc:(64≤((b.length-64*i:Nat):Int))=True:=eq_true (by omega)
   refine uQ 11 _ ?_;with_reducible refine sy2 hdl hc ?_
   refine q2t [] mixed ?_;refine gQ ?_;refine ⟨by omega,?_⟩
   refine q0M [0] (z6E (List.take 64 (b.drop (64*i))) (rest,((m.length+b.length:Nat):Int)) _ hbl hv) rfl (by decide) (by repeat first|exact trivial|exact rfl|refine And.intro ?_ ?_) rfl rfl (fun _ h=>by cases h) ?_
   simp only [afterR,Out.ren,SV.ren,mgA,sig,SObj.ren,SV.renL,List.set,List.map,Ai];refine gy1 hdl ?_;rw [hdd];refine ⟨⟨by omega,by omega⟩,i+1,hlt,by dsimp only;omega,?_,?_⟩
   · rw [hbe];rfl
   with_reducible refine sxE ?_;trivial
 obtain rfl:i=b.length / 64:=by omega
 have hc:(64≤((b.length-64* (b.length / 64):Nat):Int))=False:=eq_false (by omega)
 have hk0:min (b.length-64* (b.length / 64)) 64=b.length-64* (b.length / 64):=by omega
 refine gy3 hdl hc hk0 ?_;rw [Aa (l:=b.drop (64* (b.length / 64))) (by omega)]
 repeat (with_reducible refine And.intro (by first|omega|exact ⟨by omega,by omega⟩) ?_)
 exact congrArg (fun x=>SObj.row HH [x]) (q4B (x:=(st,rest,(m.length:Int))) hpre happ hrr)

theorem z8b(b:List UInt8)(ks:List UInt8×List UInt8)(r:List UInt8×Int)(rd:Bool)(h:List Int)(hb:b.length=64)(hh:inWs h):PE Tryz.prog 282 [.rptr 0 MH 0 128,.isl .u8 b] [.row MH [(ks,((h,r),rd))]] (.ret (.tup [])) [.row MH [(ks,(((blkS b h),r),rd))]]:=by
 refine q0b (Ag _) ?_;refine rQ fi282 ?_;refine q0i (ι:=Nat) (fun t=>[(26,rI t)]) (fun t=>[.row MH [(ks,((h,r),rd))],.row (.int .u32) (wL b t)]) (fun t=>16-t) (fun t=>t≤16) 0 (Ak _) (by rw [q5Y];rfl) ?_ ?_
 · with_reducible refine sxE ?_;trivial
 intro t ht;have hwr:=wsx t (by omega)
 have hwl:=q3P b t;by_cases hlt:t<16
 · have w1:IntKind.i64.wrap (4* (t:Int))=((4*t:Nat):Int):=by rw [wrapi (by omega)];omega
   have w4:IntKind.i64.wrap (((4*t:Nat):Int)+4)=((4*t+4:Nat):Int):=by rw [wrapi (by omega)];omega
   refine gy4 w1 w4 hwl Ab ?_;have hdl:(List.drop (4*t) (List.take (4*t+4) b)).length=4:=by rw [Al,Av];omega
   refine ⟨fun _=> ?_,fun h=>absurd h (by omega)⟩
   repeat (with_reducible refine And.intro (by first|omega|exact ⟨by omega,by omega,by omega,by omega⟩ |exact ⟨by omega,by omega⟩) ?_)
   refine ⟨t+1,by show t+1≤16;omega,by dsimp only;omega,?_,?_⟩
   · have hd:∀j,j<4→(List.drop (4*t) (List.take (4*t+4) b)).getD j Ty.u8.dflt=b.getD (4*t+j) 0:=fun j hj=>by
      rw [Ad,AG,BE (by omega),←Ad]
      rfl
     have ho:=or4 fun j=>(List.drop (4*t) (List.take (4*t+4) b)).getD j Ty.u8.dflt;rw [ho,hd 0 (by omega),hd 1 (by omega),hd 2 (by omega),hd 3 (by omega)]
     have hw:((256* (256* (256* (b.getD (4*t+0) 0).toNat+ (b.getD (4*t+1) 0).toNat)+ (b.getD (4*t+2) 0).toNat)+ (b.getD (4*t+3) 0).toNat:Nat):Int)=wS b t:=by
      rw [z2t hlt];simp only [wdP,byI];omega
     show [SObj.row MH [(ks,((h,r),rd))],SObj.row (.int .u32) ((wL b t).set t ((256* (256* (256* (b.getD (4*t+0) 0).toNat+ (b.getD (4*t+1) 0).toNat)+ (b.getD (4*t+2) 0).toNat)+ (b.getD (4*t+3) 0).toNat:Nat):Int))]= [SObj.row MH [(ks,((h,r),rd))],SObj.row (.int .u32) (wL b (t+1))];rw [hw,q3Q b (by omega)]
   with_reducible refine sx1 hwr ?_;trivial
 obtain rfl:t=16:=by omega
 refine gy2 hwl Ab ?_;refine ⟨fun h=>absurd h (by omega),fun _=> ?_⟩
 refine q2n (ι:=Nat) (fun t=>[(7,rI t)]) (fun t=>[.row MH [(ks,((h,r),rd))],.row (.int .u32) (wL b t)]) (fun t=>64-t) (fun t=>16≤t∧t≤64) 16 (by decide) 2 rfl (by decide) (fun _=>rfl) (fun _=>rfl) (fun _=>rfl) ?_ ?_
 · with_reducible refine sxE ?_
   rfl
 intro t ht;have hwl:=q3P b t;have hwr:=wsx t (by omega)
 by_cases hlt:t<64
 · have e15:IntKind.i64.wrap ((t:Int) -15)=((t-15:Nat):Int):=by rw [wrapi (by omega)];omega
   have e2:IntKind.i64.wrap ((t:Int) -2)=((t-2:Nat):Int):=by rw [wrapi (by omega)];omega
   have e7:IntKind.i64.wrap ((t:Int) -7)=((t-7:Nat):Int):=by rw [wrapi (by omega)];omega
   have e16:IntKind.i64.wrap ((t:Int) -16)=((t-16:Nat):Int):=by rw [wrapi (by omega)];omega
   have g15:=q1b b (t:=t) (j:=t-15) (by omega) (by omega)
   have g2:=q1b b (t:=t) (j:=t-2) (by omega) (by omega)
   have g7:=q1b b (t:=t) (j:=t-7) (by omega) (by omega)
   have g16:=q1b b (t:=t) (j:=t-16) (by omega) (by omega)
   have i15:=q2w b (t-15);have i2:=q2w b (t-2);have i7:=q2w b (t-7);have i16:=q2w b (t-16);refine gyd10 e15 e2 e7 e16 g15 g2 g7 g16 hwl Ab ?_;refine ⟨fun _=>⟨⟨by omega,by omega⟩,by omega,⟨by omega,by omega⟩,by omega,⟨by omega,by omega⟩,by omega,⟨by omega,by omega⟩,by omega,q0q (q0T (wS b (t-2)) [17,19] i2 (by decide) (by decide)) ?_⟩,fun h=>absurd hlt (by omega)⟩
   refine gQ ?_;refine q0A 2 (by decide) ?_
   with_reducible refine sxE ?_
   refine q0d (q0T (wS b (t-15)) [7,18] i15 (by decide) (by decide)) ?_
   refine uQ 600 _ ?_;simp (maxSteps:=3000000) only [e15,e2,e7,e16,g15,g2,g7,g16,hwl,Ab,Ty.dflt,go_sem,↓zA,↓reduceIte,↓reduceDIte] <;>try simp only [zB]
   repeat (with_reducible refine And.intro (by first|omega|exact ⟨by omega,by omega⟩) ?_)
   refine ⟨t+1,⟨by omega,hlt⟩,by dsimp only;omega,⟨[.dead],?_⟩,?_⟩
   · rw [schU i15 i2,←z2G (by omega),q3Q b hlt]
     rfl
   with_reducible refine sx1 hwr ?_;trivial
 obtain rfl:t=64:=by omega
 refine gQ ?_;have hl:=hh.1;refine ⟨fun h=>absurd h (by omega),fun _=> ?_⟩
 repeat (with_reducible refine And.intro (by omega) ?_)
 refine q3R (t:=.arr 64 (.int .u32)) (x:=dat_sha_constants) (ag:=some 64) (s:=.dat (.arr 64 (.int .u32)) dat_sha_constants) (by unfold datList;repeat (first|exact .head _|apply List.Mem.tail)) rfl (.inr rfl) ?_
 refine gQ ?_;refine q2n (ι:=Nat) (fun t=>[(134,rI t),(12,.raw (.int .u32 ((rnds b h t).getD 0 0))),(13,.raw (.int .u32 ((rnds b h t).getD 1 0))),(14,.raw (.int .u32 ((rnds b h t).getD 2 0))),(15,.raw (.int .u32 ((rnds b h t).getD 3 0))),(16,.raw (.int .u32 ((rnds b h t).getD 4 0))),(17,.raw (.int .u32 ((rnds b h t).getD 5 0))),(18,.raw (.int .u32 ((rnds b h t).getD 6 0))),(19,.raw (.int .u32 ((rnds b h t).getD 7 0)))]) (fun t=>[.row MH [(ks,((h,r),rd))],.row (.int .u32) (wL b 64)]) (fun t=>64-t) (fun t=>t≤64) 0 (Ak _) 2 rfl (by decide) (fun _=>rfl) (fun _=>rfl) (fun _=>rfl) ?_ ?_
 · with_reducible refine sxE ?_
   exact ⟨rfl,rfl,rfl,rfl,rfl,rfl,rfl,rfl⟩
 intro t ht;have hwr:=wsx t (by omega)
 by_cases hlt:t<64
 · have hv:=q1r (b:=b) hh t;generalize hvv:rnds b h t=v at*;have i0:=q0c hv 0 (by decide)
   have i1:=q0c hv 1 (by decide)
   have i2:=q0c hv 2 (by decide)
   have i3:=q0c hv 3 (by decide)
   have i4:=q0c hv 4 (by decide)
   have i5:=q0c hv 5 (by decide)
   have i6:=q0c hv 6 (by decide)
   have i7:=q0c hv 7 (by decide)
   refine gyd3 hl hwl Ab ?_;refine ⟨fun _=>⟨⟨by omega,by omega⟩,⟨by omega,by omega⟩,by omega,?_⟩,fun h=>absurd hlt (by omega)⟩
   refine q0A 2 (by decide) ?_
   with_reducible refine sxE ?_
   refine q0d (q0T _ [6,11,25] i4 (by decide) (by decide)) ?_
   refine gyd3 hl hwl Ab ?_;refine q0d (q5g _ _ _ i4 i5 i6) ?_;refine gyd3 hl hwl Ab ?_;refine q0m 3 ?_;with_reducible refine sxE ?_
   refine cyd3 (q0T _ [2,13,22] i0 (by decide) (by decide)) hl hwl Ab ?_
   refine cyd3 (q3q _ _ _ i0 i1 i2) hl hwl Ab ?_;have hr:rnds b h (t+1)=rnd (kS t) (wS b t) v:=by show rnd (kS t) (wS b t) (rnds b h t)=_;rw [hvv]
   have hT1:=t1U (k:=kS t) (w:=wS b t) hv;have hT2:=t2U hv;refine ⟨t+1,hlt,by dsimp only;omega,⟨[.dead,.dead],rfl⟩,?_⟩
   rw [z1d,q1b b hlt hlt,hT1,hT2,aU,eU];with_reducible refine sy2 hwr hr ?_
   exact ⟨rfl,rfl,rfl,rfl,rfl,rfl,rfl,rfl⟩
 obtain rfl:t=64:=by omega
 refine gyd3 hl hwl Ab ?_;refine ⟨fun h=>absurd h (by omega),fun _=> ?_⟩
 have e8:=list8 (q1r (b:=b) hh 64).1;refine q0i (ι:=Nat) (fun i=>[(186,rI i),(185,.dat (.arr 8 (.int .u32)) (rnds b h 64))]) (fun i=>[.row MH [(ks,(((blkP b h i),r),rd))],.row (.int .u32) (wL b 64)]) (fun t=>8-t) (fun t=>t≤8) 0 (Ak _) ?_ ?_ ?_
 · rw [q3g b hh.1]
 · with_reducible refine sxE ?_
   exact congrArg (SV.dat (.arr 8 (.int .u32))) e8
 intro i hi;have hwr:=wsx i (by omega)
 have hv:=q1r (b:=b) hh 64;have hl:=hv.1;have hbl:=q4y b h i;by_cases hlt:i<8
 · have hbg:=q4u b h hlt;refine gyd4 hl hbl Ab AP ?_;refine ⟨fun _=> ?_,fun h=>absurd hlt (by omega)⟩
   repeat (with_reducible refine And.intro (by first|omega|exact ⟨by omega,by omega⟩) ?_)
   refine ⟨i+1,hlt,by dsimp only;omega,?_,?_⟩
   · rw [hbg,wrapU];show [_,_]= [SObj.row MH [(ks,(((blkP b h (i+1)),r),rd))],_];rw [←q4E b h hlt]
   with_reducible refine sx1 hwr ?_;trivial
 obtain rfl:i=8:=by omega
 refine gyd3 hl hbl Ab ?_;refine ⟨fun h=>absurd h (by omega),fun _=> ?_⟩
 rw [q4n]
theorem z9F(m b:List UInt8)(x:HaD)(ks:List UInt8×List UInt8)(rd:Bool)(hx:HRep m x)(hl:m.length+b.length≤70368744177664):PE Tryz.prog 257 [.rptr 0 MH 0 128,.isl .u8 b] [.row MH [(ks,(x,rd))]] (.ret (rI 0)) [.row MH [(ks,(wrS m x b,rd))]]:=by
 obtain ⟨st,rest,n⟩:=x;obtain rfl:n=(m.length:Int):=hx.n;have h2:rest.length=64:=hx.rest;have h3:st.length=8:=hx.len;have h4:m.length≠0→st=foldB hS0 m (m.length / 64):=hx.st;have h5:rest.take (m.length%64)=m.drop (64* (m.length / 64)):=hx.tail;have hmt:=tmod64 m.length;have hmw:IntKind.i64.wrap ((m.length:Int)+ (b.length:Int))=((m.length+b.length:Nat):Int):=by rw [wrapi (by omega)];omega
 have hme:(m++b).length=m.length+b.length:=Ac;refine q0b (Ag _) ?_;refine q3E fi257 ?_;by_cases c0:m.length=0
 · have hm0:m= []:=A2.1 c0;have hz:((m.length:Int)=0)=True:=eq_true (by omega)
   have hu:(0< ((m.length%64:Nat):Int))=False:=eq_false (by omega)
   refine gy1 hz ?_;refine q3R (t:=.arr 8 (.int .u32)) (x:=dat_sha_start) (ag:=some 8) (s:=.dat (.arr 8 (.int .u32)) dat_sha_start) (by unfold datList;repeat (first|exact .head _|apply List.Mem.tail)) rfl (.inr rfl) ?_
   refine gy3 hmt hmw hu ?_;have hst1:inWs hS0:=q5r;have hpre:([]:List UInt8).length=64*0:=rfl;have happ:[]++b=m++b:=by rw [hm0]
   have hrr:wrR m rest b=splice rest 0 (b.drop (64* (b.length / 64))):=q6Q (by omega)
   refine ⟨by decide,?_⟩
   refine q0i (ι:=Nat) (fun i=>[(1,.isl .u8 (b.drop (64*i)))]) (fun i=>[.row MH [(ks,((foldB hS0 b i,(rest,((m.length+b.length:Nat):Int))),rd))]]) (fun i=>b.length / 64-i) (fun i=>i≤b.length / 64) 0 (Ak _) ?_ ?_ ?_
   · rfl
   · with_reducible refine sxE ?_;trivial
   intro i hi;have hv:inWs (foldB hS0 b i):=q1t hst1 _ _;have hdl:(b.drop (64*i)).length=b.length-64*i:=Al;by_cases hlt:i<b.length / 64
   · have hbl:(List.take 64 (b.drop (64*i))).length=64:=by rw [Av];omega
     have hbe:List.take 64 (b.drop (64*i))=blkAt b i:=by
      unfold blkAt;rw [BG];congr 1;omega
     have hdd:List.drop 64 (List.take (b.length-64*i) (b.drop (64*i)))=b.drop (64* (i+1)):=by
      rw [Aa (by omega),Bp];congr 1
     have hc:(64≤((b.length-64*i:Nat):Int))=True:=eq_true (by omega)
     refine uQ 11 _ ?_;with_reducible refine sy2 hdl hc ?_
     refine q2t [] mixed ?_;refine gQ ?_;refine ⟨by omega,?_⟩
     refine q0M [0] (z8b (List.take 64 (b.drop (64*i))) ks (rest,((m.length+b.length:Nat):Int)) rd _ hbl hv) rfl (by decide) (by repeat first|exact trivial|exact rfl|refine And.intro ?_ ?_) rfl rfl (fun _ h=>by cases h) ?_
     simp only [afterR,Out.ren,SV.ren,mgA,sig,SObj.ren,SV.renL,List.set,List.map,Ai];refine gy1 hdl ?_;rw [hdd];refine ⟨⟨by omega,by omega⟩,i+1,hlt,by dsimp only;omega,?_,?_⟩
     · rw [hbe];rfl
     with_reducible refine sxE ?_;trivial
   obtain rfl:i=b.length / 64:=by omega
   have hc:(64≤((b.length-64* (b.length / 64):Nat):Int))=False:=eq_false (by omega)
   have hk0:min (b.length-64* (b.length / 64)) 64=b.length-64* (b.length / 64):=by omega
   refine gy3 hdl hc hk0 ?_;rw [Aa (l:=b.drop (64* (b.length / 64))) (by omega)]
   repeat (with_reducible refine And.intro (by first|omega|exact ⟨by omega,by omega⟩) ?_)
   exact congrArg (fun x=>SObj.row MH [(ks,(x,rd))]) (q4B (x:=(st,rest,(m.length:Int))) hpre happ hrr)

 have hz:((m.length:Int)=0)=False:=eq_false (by omega)
 have hst:=h4 c0;have hst1:inWs st:=hst▸q1t q5r _ _;by_cases c1:0<m.length%64
 · have hu:(0< ((m.length%64:Nat):Int))=True:=eq_true (by omega)
   by_cases c2:m.length%64+b.length<64
   · have hk:min b.length (64-m.length%64)=b.length:=by omega
     have hw2:IntKind.i64.wrap (((m.length%64:Nat):Int)+ (b.length:Int))=((m.length%64+b.length:Nat):Int):=by rw [wrapi (by omega)];omega
     have hs:(((m.length%64+b.length:Nat):Int) <64)=True:=eq_true (by omega)
     refine uQ 600 _ ?_;simp (maxSteps:=3000000) only [hz,hmt,hmw,hu,hk,hw2,hs,AA,go_sem,↓zA,↓reduceIte,↓reduceDIte] <;>try simp only [zB]
     repeat (with_reducible refine And.intro (by first|omega|exact ⟨by omega,by omega⟩ |exact ⟨by omega,by omega,by omega⟩) ?_)
     exact congrArg (fun x=>SObj.row MH [(ks,(x,rd))]) (z0S (x:=(st,rest,(m.length:Int))) hst c2)
   have hk:min b.length (64-m.length%64)=64-m.length%64:=by omega
   have hw2:IntKind.i64.wrap (((m.length%64:Nat):Int)+ ((64-m.length%64:Nat):Int))=((64:Nat):Int):=by rw [wrapi (by omega)];omega
   have htl:(List.take (64-m.length%64) b).length=64-m.length%64:=by rw [Av];omega
   have hfull:m.length%64+ (64-m.length%64)=64:=by omega
   have hs:(((64:Nat):Int) <64)=False:=eq_false (by omega)
   have hpre:(m++b.take (64-m.length%64)).length=64* (m.length / 64+1):=by rw [Ac,htl];omega
   have happ:m++b.take (64-m.length%64)++b.drop (64-m.length%64)=m++b:=by rw [List.append_assoc,Bb]
   obtain ⟨r1,hr1⟩:∃r1,r1=(List.take (m.length%64) rest++List.take (64-m.length%64) b++List.drop 64 rest):=⟨_,rfl⟩;have hr1l:r1.length=64:=by rw [hr1,Ac,Ac,htl,Av,Al];omega
   have hrr:wrR m rest b=splice r1 0 ((b.drop (64-m.length%64)).drop (64* ((b.drop (64-m.length%64)).length / 64))):=by
    unfold wrR;rw [if_neg c2,if_pos c1,hr1,z0T hpre happ];simp only [splice,htl,hfull]
   have hstD:blkS r1 st=foldB hS0 (m++b.take (64-m.length%64)) (m.length / 64+1):=by
    rw [foldB,q3i hS0 (by omega),←hst]
    congr 1;unfold blkAt;rw [Aa (by omega),Bn (by omega),←h5,hr1,show List.drop 64 rest= [] from AN (by omega),Ai]
   have hst1':inWs (blkS r1 st):=q7o;have hbl1:(List.drop (64-m.length%64) b).length=b.length- (64-m.length%64):=Al;refine uQ 74 _ ?_;simp (maxSteps:=3000000) only [hz,hmt,hmw,hu,hk,hw2,htl,hfull,hs,go_sem,↓zA,↓reduceIte,↓reduceDIte] <;>try simp only [zB]
   rw [←hr1];refine ⟨by decide,⟨by omega,by omega,by omega⟩,by omega,?_⟩
   refine q2t [] mixed ?_;refine gQ ?_;refine ⟨⟨by omega,by omega⟩,?_⟩
   refine q0M [0] (j5L r1 ks ((m.length+b.length:Nat):Int) rd _ hr1l hst1) rfl (by decide) (by repeat first|exact trivial|exact rfl|refine And.intro ?_ ?_) rfl rfl (fun _ h=>by cases h) ?_
   simp only [afterR,Out.ren,SV.ren,mgA,sig,SObj.ren,SV.renL,List.set,List.map,Ai];refine gy1 hk ?_;rw [AA];refine ⟨⟨by omega,by omega⟩,?_⟩
   replace hst1:=hst1';refine q0i (ι:=Nat) (fun i=>[(1,.isl .u8 ((b.drop (64-m.length%64)).drop (64*i)))]) (fun i=>[.row MH [(ks,((foldB (blkS r1 st) (b.drop (64-m.length%64)) i,(r1,((m.length+b.length:Nat):Int))),rd))]]) (fun i=>(b.drop (64-m.length%64)).length / 64-i) (fun i=>i≤(b.drop (64-m.length%64)).length / 64) 0 (Ak _) ?_ ?_ ?_
   · rfl
   · with_reducible refine sxE ?_;trivial
   intro i hi;have hv:inWs (foldB (blkS r1 st) (b.drop (64-m.length%64)) i):=q1t hst1 _ _;have hdl:((b.drop (64-m.length%64)).drop (64*i)).length=(b.drop (64-m.length%64)).length-64*i:=Al;by_cases hlt:i< (b.drop (64-m.length%64)).length / 64
   · have hbl:(List.take 64 ((b.drop (64-m.length%64)).drop (64*i))).length=64:=by rw [Av];omega
     have hbe:List.take 64 ((b.drop (64-m.length%64)).drop (64*i))=blkAt (b.drop (64-m.length%64)) i:=by
      unfold blkAt;rw [BG];congr 1;omega
     have hdd:List.drop 64 (List.take ((b.drop (64-m.length%64)).length-64*i) ((b.drop (64-m.length%64)).drop (64*i)))=(b.drop (64-m.length%64)).drop (64* (i+1)):=by
      rw [Aa (by omega),Bp];congr 1
     have hc:(64≤(((b.drop (64-m.length%64)).length-64*i:Nat):Int))=True:=eq_true (by omega)
     refine uQ 11 _ ?_;with_reducible refine sy2 hdl hc ?_
     refine q2t [] mixed ?_;refine gQ ?_;refine ⟨by omega,?_⟩
     refine q0M [0] (z8b (List.take 64 ((b.drop (64-m.length%64)).drop (64*i))) ks (r1,((m.length+b.length:Nat):Int)) rd _ hbl hv) rfl (by decide) (by repeat first|exact trivial|exact rfl|refine And.intro ?_ ?_) rfl rfl (fun _ h=>by cases h) ?_
     simp only [afterR,Out.ren,SV.ren,mgA,sig,SObj.ren,SV.renL,List.set,List.map,Ai];refine gy1 hdl ?_;rw [hdd];refine ⟨⟨by omega,by omega⟩,i+1,hlt,by dsimp only;omega,?_,?_⟩
     · rw [hbe];rfl
     with_reducible refine sxE ?_;trivial
   obtain rfl:i=(b.drop (64-m.length%64)).length / 64:=by omega
   have hc:(64≤(((b.drop (64-m.length%64)).length-64* ((b.drop (64-m.length%64)).length / 64):Nat):Int))=False:=eq_false (by omega)
   have hk0:min ((b.drop (64-m.length%64)).length-64* ((b.drop (64-m.length%64)).length / 64)) 64=(b.drop (64-m.length%64)).length-64* ((b.drop (64-m.length%64)).length / 64):=by omega
   refine gy3 hdl hc hk0 ?_;rw [Aa (l:=(b.drop (64-m.length%64)).drop (64* ((b.drop (64-m.length%64)).length / 64))) (by omega)]
   repeat (with_reducible refine And.intro (by first|omega|exact ⟨by omega,by omega⟩) ?_)
   exact congrArg (fun x=>SObj.row MH [(ks,(x,rd))]) (q4B (x:=(st,rest,(m.length:Int))) hpre happ hrr)

 have hu:(0< ((m.length%64:Nat):Int))=False:=eq_false (by omega)
 refine gy4 hz hmt hmw hu ?_;have hpre:m.length=64* (m.length / 64):=by omega
 have happ:m++b=m++b:=rfl;have hrr:wrR m rest b=splice rest 0 (b.drop (64* (b.length / 64))):=q6Q (by omega)
 refine ⟨by decide,?_⟩
 refine q0i (ι:=Nat) (fun i=>[(1,.isl .u8 (b.drop (64*i)))]) (fun i=>[.row MH [(ks,((foldB st b i,(rest,((m.length+b.length:Nat):Int))),rd))]]) (fun i=>b.length / 64-i) (fun i=>i≤b.length / 64) 0 (Ak _) ?_ ?_ ?_
 · rfl
 · with_reducible refine sxE ?_;trivial
 intro i hi;have hv:inWs (foldB st b i):=q1t hst1 _ _;have hdl:(b.drop (64*i)).length=b.length-64*i:=Al;by_cases hlt:i<b.length / 64
 · have hbl:(List.take 64 (b.drop (64*i))).length=64:=by rw [Av];omega
   have hbe:List.take 64 (b.drop (64*i))=blkAt b i:=by
    unfold blkAt;rw [BG];congr 1;omega
   have hdd:List.drop 64 (List.take (b.length-64*i) (b.drop (64*i)))=b.drop (64* (i+1)):=by
    rw [Aa (by omega),Bp];congr 1
   have hc:(64≤((b.length-64*i:Nat):Int))=True:=eq_true (by omega)
   refine uQ 11 _ ?_;with_reducible refine sy2 hdl hc ?_
   refine q2t [] mixed ?_;refine gQ ?_;refine ⟨by omega,?_⟩
   refine q0M [0] (z8b (List.take 64 (b.drop (64*i))) ks (rest,((m.length+b.length:Nat):Int)) rd _ hbl hv) rfl (by decide) (by repeat first|exact trivial|exact rfl|refine And.intro ?_ ?_) rfl rfl (fun _ h=>by cases h) ?_
   simp only [afterR,Out.ren,SV.ren,mgA,sig,SObj.ren,SV.renL,List.set,List.map,Ai];refine gy1 hdl ?_;rw [hdd];refine ⟨⟨by omega,by omega⟩,i+1,hlt,by dsimp only;omega,?_,?_⟩
   · rw [hbe];rfl
   with_reducible refine sxE ?_;trivial
 obtain rfl:i=b.length / 64:=by omega
 have hc:(64≤((b.length-64* (b.length / 64):Nat):Int))=False:=eq_false (by omega)
 have hk0:min (b.length-64* (b.length / 64)) 64=b.length-64* (b.length / 64):=by omega
 refine gy3 hdl hc hk0 ?_;rw [Aa (l:=b.drop (64* (b.length / 64))) (by omega)]
 repeat (with_reducible refine And.intro (by first|omega|exact ⟨by omega,by omega⟩) ?_)
 exact congrArg (fun x=>SObj.row MH [(ks,(x,rd))]) (q4B (x:=(st,rest,(m.length:Int))) hpre happ hrr)

theorem j2G(m:List UInt8)(x:HaD)(hx:HRep m x)(hl:m.length≤70368744177664):PC Tryz.prog 259 [.iptr HH x 0] (.dat (.arr 32 .u8) (shaS m)):=by
 have hrs:=j1Q hx;obtain ⟨st,rest,n⟩:=x;obtain rfl:n=(m.length:Int):=hx.n;have h2:rest.length=64:=hx.rest;have h3:st.length=8:=hx.len;have h4:m.length≠0→st=foldB hS0 m (m.length / 64):=hx.st;have hmt:=tmod64 m.length;refine q0p rfl rfl (z3v (q7q noFG fi259 ?_))
 letI:Ghost:=topG noFG []
 by_cases c0:m.length=0
 · have hm0:m= []:=A2.1 c0;have hz:((m.length:Int)=0)=True:=eq_true (by omega)
   refine gy1 hz ?_;refine q0a ((j4X [] (by simp)).arg ?_) ?_
   · with_reducible refine sxE ?_;trivial
   have hbl:(shaS []).length=32:=q0V _;refine gy1 hbl ?_;rw [hm0]
 have hz:((m.length:Int)=0)=False:=eq_false (by omega)
 have hst:inWs st:=(h4 c0)▸q1t q5r _ _;refine gy2 hz hmt ?_;rw [C5];refine ⟨by decide,⟨by omega,by omega,by omega⟩,?_⟩
 have hrl:(List.take (m.length%64) rest).length≤70368744177664:=by rw [Av];omega
 have hfe:bytesS (foldB st (padT (List.take (m.length%64) rest) m.length) (blksN (List.take (m.length%64) rest)))=shaS m:=hrs c0;generalize List.take (m.length%64) rest=r at*;refine cR (j1V r m.length hrl) ?_;refine j6x (smH st (padT r m.length)) (fun _ _ _=>False) rfl rfl rfl (z1o r m.length hrl hl) (fun i n args' new h=>by rw [h.1];rfl) ⟨[],?_⟩ rfl ?_ ?_ ?_
 · rw [h3,show List.drop (0+8) _=([]:List Int) from rfl,Ai]
   rfl
 · rintro i _ args' new hi ⟨G,rfl⟩ ⟨rfl,rfl⟩ L1 L2
   letI:Ghost:=pinG noFG L1
   rw [Ai];refine uQ 600 _ ?_;simp only [putL,CJ];with_reducible refine sxaE ?_
   letI:Ghost:=pinG noFG L2
   refine aQ ?_;have hbl:(blkAt (padT r m.length) i).length=64:=z0Q (z0C r m.length) hi;refine eQ [1] (j5B (blkAt (padT r m.length) i) _ hbl (q1t hst _ i)) ?_;exact ⟨G,rfl⟩
 · rintro D _ ⟨G,rfl⟩
   letI:Ghost:=topG noFG [D]
   have hv:=q1t hst (padT r m.length) (blksN r);have hfl:=hv.1;generalize foldB st (padT r m.length) (blksN r)=h at*;refine gQ ?_;have htk:List.take 8 h=h:=Aa (by omega)
   rw [htk];refine ⟨by omega,q0a (z7N h hv) ?_⟩
   have hbl:=q0V h;refine gy1 hbl ?_;rw [hfe]
 rintro D i ex _ hi h;exact h.elim
end Go.Proofs.YtmapiojgmbgbgaaGreatDoor
