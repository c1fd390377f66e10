/- SHA-256: contracts: Write. -/
import Derived.Test.YtmapiojgmbgbgaaGreatDoorV26
set_option linter.all false
namespace Go.Proofs.YtmapiojgmbgbgaaGreatDoor
open Go Go.Sx Go.Proofs
set_option maxRecDepth 100000
set_option maxHeartbeats 40000000
theorem tmod64(n:Nat):((n:Int)).tmod 64=((n%64:Nat):Int):=by rw [Int.tmod_eq_emod_of_nonneg (by omega)];rfl
theorem q6g{m rest b:List UInt8}(h:m.length%64=0):wrR m rest b=splice rest 0 (b.drop (64* (b.length / 64))):=by
 have hme:(m++b).length=m.length+b.length:=Af;unfold wrR;rw [h];split
 · rw [show 64* (b.length / 64)=0 by omega,Au]
 rw [if_neg (by omega),hme,BS,AY (by omega),As]
 congr 2;omega
theorem q9U{m b:List UInt8}{x:HaD}(hst:x.1=foldB hS0 m (m.length / 64))(h:m.length%64+b.length<64):(x.1,List.take (m.length%64) x.2.1++b++List.drop (m.length%64+b.length) x.2.1,((m.length+b.length:Nat):Int))=wrS m x b:=by
 have hme:(m++b).length=m.length+b.length:=Af;unfold wrS wrR;rw [if_pos h,hme,show (m.length+b.length) / 64=m.length / 64 by omega,q2R hS0 (by omega),←hst]
 rfl
theorem q9V{m b pre b1:List UInt8}{c0:Nat}(hp:pre.length=64*c0)(happ:pre++b1=m++b):(m++b).drop (64* ((m++b).length / 64))=b1.drop (64* (b1.length / 64)):=by
 rw [←happ,Af,BS,AY (by omega),As]
 congr 1;omega
theorem q4b{m b pre b1 rest1:List UInt8}{x:HaD}{c0:Nat}{st1:List Int}(hp:pre.length=64*c0)(happ:pre++b1=m++b)(hrr:wrR m x.2.1 b=splice rest1 0 (b1.drop (64* (b1.length / 64))))(hst:st1=foldB hS0 pre c0:=by first|rfl|assumption):
 (foldB st1 b1 (b1.length / 64),List.take 0 rest1++b1.drop (64* (b1.length / 64))++List.drop (0+ (b1.drop (64* (b1.length / 64))).length) rest1,((m.length+b.length:Nat):Int))=wrS m x b:=by
 have hme:(m++b).length=m.length+b.length:=Af;have hl:(m++b).length / 64=c0+b1.length / 64:=by rw [←happ,Af];omega
 unfold wrS;rw [hrr,hl,hme,←happ,q7r hS0 hp,hst];rfl
theorem z1G(m b:List UInt8)(x:HaD)(hx:HRep m x)(hl:m.length+b.length≤70368744177664):PE Tryz.prog 257 [.rptr 0 HH 0 0,.isl .u8 b] [.row HH [x]] (.ret (rI 0)) [.row HH [wrS m x b]]:=by
 obtain ⟨st,rest,n⟩:=x;obtain rfl:n=(m.length:Int):=hx.n;have h2:rest.length=64:=hx.rest;have h3:st.length=8:=hx.len;have h4:m.length≠0→st=foldB hS0 m (m.length / 64):=hx.st;have h5:rest.take (m.length%64)=m.drop (64* (m.length / 64)):=hx.tail;have hmt:=tmod64 m.length;have hmw:IntKind.i64.wrap ((m.length:Int)+ (b.length:Int))=((m.length+b.length:Nat):Int):=by rw [wrapi (by omega)];omega
 have hme:(m++b).length=m.length+b.length:=Af;refine q0b (Ae _) ?_;refine q4s fi257 ?_;by_cases c0:m.length=0
 · have hm0:m= []:=Bi.1 c0;have hz:((m.length:Int)=0)=True:=eq_true (by omega)
   have hu:(0< ((m.length%64:Nat):Int))=False:=eq_false (by omega)
   refine gy1 hz ?_;refine q3v (t:=.arr 8 (.int .u32)) (x:=dat_sha_start) (ag:=some 8) (s:=.dat (.arr 8 (.int .u32)) dat_sha_start) (by unfold datList;repeat (first|exact .head _|apply List.Mem.tail)) rfl (.inr rfl) ?_
   refine gy3 hmt hmw hu ?_;have hst1:inWs hS0:=q5X;have hpre:([]:List UInt8).length=64*0:=rfl;have happ:[]++b=m++b:=by rw [hm0]
   have hrr:wrR m rest b=splice rest 0 (b.drop (64* (b.length / 64))):=q6g (by omega)
   refine ⟨by decide,?_⟩
   refine q0y (ι:=Nat) (fun i=>[(1,.isl .u8 (b.drop (64*i)))]) (fun i=>[.row HH [(foldB hS0 b i,(rest,((m.length+b.length:Nat):Int)))]]) (fun i=>b.length / 64-i) (fun i=>i≤b.length / 64) 0 (Al _) ?_ ?_ ?_
   · rfl
   · with_reducible refine sxE ?_;trivial
   intro i hi;have hv:inWs (foldB hS0 b i):=q1q hst1 _ _;have hdl:(b.drop (64*i)).length=b.length-64*i:=Ak;by_cases hlt:i<b.length / 64
   · have hbl:(List.take 64 (b.drop (64*i))).length=64:=by rw [Aw];omega
     have hbe:List.take 64 (b.drop (64*i))=blkAt b i:=by
      unfold blkAt;rw [BD];congr 1;omega
     have hdd:List.drop 64 (List.take (b.length-64*i) (b.drop (64*i)))=b.drop (64* (i+1)):=by
      rw [Ah (by omega),Bp];congr 1
     have hc:(64≤((b.length-64*i:Nat):Int))=True:=eq_true (by omega)
     refine uQ 11 _ ?_;with_reducible refine sy2 hdl hc ?_
     refine q1T [] mixed ?_;refine gQ ?_;refine ⟨by omega,?_⟩
     refine q0G [0] (z5p (List.take 64 (b.drop (64*i))) (rest,((m.length+b.length:Nat):Int)) _ hbl hv) rfl (by decide) (by repeat first|exact trivial|exact rfl|refine And.intro ?_ ?_) rfl rfl (fun _ h=>by cases h) ?_
     simp only [afterR,Out.ren,SV.ren,mgA,sig,SObj.ren,SV.renL,List.set,List.map,Ai];refine gy1 hdl ?_;rw [hdd];refine ⟨⟨by omega,by omega⟩,i+1,hlt,by dsimp only;omega,?_,?_⟩
     · rw [hbe];rfl
     with_reducible refine sxE ?_;trivial
   obtain rfl:i=b.length / 64:=by omega
   have hc:(64≤((b.length-64* (b.length / 64):Nat):Int))=False:=eq_false (by omega)
   have hk0:min (b.length-64* (b.length / 64)) 64=b.length-64* (b.length / 64):=by omega
   refine gy3 hdl hc hk0 ?_;rw [Ah (l:=b.drop (64* (b.length / 64))) (by omega)]
   repeat (with_reducible refine And.intro (by first|omega|exact ⟨by omega,by omega⟩) ?_)
   exact congrArg (fun x=>SObj.row HH [x]) (q4b (x:=(st,rest,(m.length:Int))) hpre happ hrr)

 have hz:((m.length:Int)=0)=False:=eq_false (by omega)
 have hst:=h4 c0;have hst1:inWs st:=hst▸q1q q5X _ _;by_cases c1:0<m.length%64
 · have hu:(0< ((m.length%64:Nat):Int))=True:=eq_true (by omega)
   by_cases c2:m.length%64+b.length<64
   · have hk:min b.length (64-m.length%64)=b.length:=by omega
     have hw2:IntKind.i64.wrap (((m.length%64:Nat):Int)+ (b.length:Int))=((m.length%64+b.length:Nat):Int):=by rw [wrapi (by omega)];omega
     have hs:(((m.length%64+b.length:Nat):Int) <64)=True:=eq_true (by omega)
     refine uQ 600 _ ?_;simp (maxSteps:=3000000) only [hz,hmt,hmw,hu,hk,hw2,hs,Az,go_sem,↓zA,↓reduceIte,↓reduceDIte] <;>try simp only [zB]
     repeat (with_reducible refine And.intro (by first|omega|exact ⟨by omega,by omega⟩ |exact ⟨by omega,by omega,by omega⟩) ?_)
     exact congrArg (fun x=>SObj.row HH [x]) (q9U (x:=(st,rest,(m.length:Int))) hst c2)
   have hk:min b.length (64-m.length%64)=64-m.length%64:=by omega
   have hw2:IntKind.i64.wrap (((m.length%64:Nat):Int)+ ((64-m.length%64:Nat):Int))=((64:Nat):Int):=by rw [wrapi (by omega)];omega
   have htl:(List.take (64-m.length%64) b).length=64-m.length%64:=by rw [Aw];omega
   have hfull:m.length%64+ (64-m.length%64)=64:=by omega
   have hs:(((64:Nat):Int) <64)=False:=eq_false (by omega)
   have hpre:(m++b.take (64-m.length%64)).length=64* (m.length / 64+1):=by rw [Af,htl];omega
   have happ:m++b.take (64-m.length%64)++b.drop (64-m.length%64)=m++b:=by rw [List.append_assoc,Bb]
   obtain ⟨r1,hr1⟩:∃r1,r1=(List.take (m.length%64) rest++List.take (64-m.length%64) b++List.drop 64 rest):=⟨_,rfl⟩;have hr1l:r1.length=64:=by rw [hr1,Af,Af,htl,Aw,Ak];omega
   have hrr:wrR m rest b=splice r1 0 ((b.drop (64-m.length%64)).drop (64* ((b.drop (64-m.length%64)).length / 64))):=by
    unfold wrR;rw [if_neg c2,if_pos c1,hr1,q9V hpre happ];simp only [splice,htl,hfull]
   have hstD:blkS r1 st=foldB hS0 (m++b.take (64-m.length%64)) (m.length / 64+1):=by
    rw [foldB,q2R hS0 (by omega),←hst]
    congr 1;unfold blkAt;rw [Ah (by omega),Bn (by omega),←h5,hr1,show List.drop 64 rest= [] from AY (by omega),Ai]
   have hst1':inWs (blkS r1 st):=z1t;have hbl1:(List.drop (64-m.length%64) b).length=b.length- (64-m.length%64):=Ak;refine uQ 74 _ ?_;simp (maxSteps:=3000000) only [hz,hmt,hmw,hu,hk,hw2,htl,hfull,hs,go_sem,↓zA,↓reduceIte,↓reduceDIte] <;>try simp only [zB]
   rw [←hr1];refine ⟨by decide,⟨by omega,by omega,by omega⟩,by omega,?_⟩
   refine q1T [] mixed ?_;refine gQ ?_;refine ⟨⟨by omega,by omega⟩,?_⟩
   refine q0G [0] (j3O r1 ((m.length+b.length:Nat):Int) _ hr1l hst1) rfl (by decide) (by repeat first|exact trivial|exact rfl|refine And.intro ?_ ?_) rfl rfl (fun _ h=>by cases h) ?_
   simp only [afterR,Out.ren,SV.ren,mgA,sig,SObj.ren,SV.renL,List.set,List.map,Ai];refine gy1 hk ?_;rw [Az];refine ⟨⟨by omega,by omega⟩,?_⟩
   replace hst1:=hst1';refine q0y (ι:=Nat) (fun i=>[(1,.isl .u8 ((b.drop (64-m.length%64)).drop (64*i)))]) (fun i=>[.row HH [(foldB (blkS r1 st) (b.drop (64-m.length%64)) i,(r1,((m.length+b.length:Nat):Int)))]]) (fun i=>(b.drop (64-m.length%64)).length / 64-i) (fun i=>i≤(b.drop (64-m.length%64)).length / 64) 0 (Al _) ?_ ?_ ?_
   · rfl
   · with_reducible refine sxE ?_;trivial
   intro i hi;have hv:inWs (foldB (blkS r1 st) (b.drop (64-m.length%64)) i):=q1q hst1 _ _;have hdl:((b.drop (64-m.length%64)).drop (64*i)).length=(b.drop (64-m.length%64)).length-64*i:=Ak;by_cases hlt:i< (b.drop (64-m.length%64)).length / 64
   · have hbl:(List.take 64 ((b.drop (64-m.length%64)).drop (64*i))).length=64:=by rw [Aw];omega
     have hbe:List.take 64 ((b.drop (64-m.length%64)).drop (64*i))=blkAt (b.drop (64-m.length%64)) i:=by
      unfold blkAt;rw [BD];congr 1;omega
     have hdd:List.drop 64 (List.take ((b.drop (64-m.length%64)).length-64*i) ((b.drop (64-m.length%64)).drop (64*i)))=(b.drop (64-m.length%64)).drop (64* (i+1)):=by
      rw [Ah (by omega),Bp];congr 1
     have hc:(64≤(((b.drop (64-m.length%64)).length-64*i:Nat):Int))=True:=eq_true (by omega)
     refine uQ 11 _ ?_;with_reducible refine sy2 hdl hc ?_
     refine q1T [] mixed ?_;refine gQ ?_;refine ⟨by omega,?_⟩
     refine q0G [0] (z5p (List.take 64 ((b.drop (64-m.length%64)).drop (64*i))) (r1,((m.length+b.length:Nat):Int)) _ hbl hv) rfl (by decide) (by repeat first|exact trivial|exact rfl|refine And.intro ?_ ?_) rfl rfl (fun _ h=>by cases h) ?_
     simp only [afterR,Out.ren,SV.ren,mgA,sig,SObj.ren,SV.renL,List.set,List.map,Ai];refine gy1 hdl ?_;rw [hdd];refine ⟨⟨by omega,by omega⟩,i+1,hlt,by dsimp only;omega,?_,?_⟩
     · rw [hbe];rfl
     with_reducible refine sxE ?_;trivial
   obtain rfl:i=(b.drop (64-m.length%64)).length / 64:=by omega
   have hc:(64≤(((b.drop (64-m.length%64)).length-64* ((b.drop (64-m.length%64)).length / 64):Nat):Int))=False:=eq_false (by omega)
   have hk0:min ((b.drop (64-m.length%64)).length-64* ((b.drop (64-m.length%64)).length / 64)) 64=(b.drop (64-m.length%64)).length-64* ((b.drop (64-m.length%64)).length / 64):=by omega
   refine gy3 hdl hc hk0 ?_;rw [Ah (l:=(b.drop (64-m.length%64)).drop (64* ((b.drop (64-m.length%64)).length / 64))) (by omega)]
   repeat (with_reducible refine And.intro (by first|omega|exact ⟨by omega,by omega⟩) ?_)
   exact congrArg (fun x=>SObj.row HH [x]) (q4b (x:=(st,rest,(m.length:Int))) hpre happ hrr)

 have hu:(0< ((m.length%64:Nat):Int))=False:=eq_false (by omega)
 refine gy4 hz hmt hmw hu ?_;have hpre:m.length=64* (m.length / 64):=by omega
 have happ:m++b=m++b:=rfl;have hrr:wrR m rest b=splice rest 0 (b.drop (64* (b.length / 64))):=q6g (by omega)
 refine ⟨by decide,?_⟩
 refine q0y (ι:=Nat) (fun i=>[(1,.isl .u8 (b.drop (64*i)))]) (fun i=>[.row HH [(foldB st b i,(rest,((m.length+b.length:Nat):Int)))]]) (fun i=>b.length / 64-i) (fun i=>i≤b.length / 64) 0 (Al _) ?_ ?_ ?_
 · rfl
 · with_reducible refine sxE ?_;trivial
 intro i hi;have hv:inWs (foldB st b i):=q1q hst1 _ _;have hdl:(b.drop (64*i)).length=b.length-64*i:=Ak;by_cases hlt:i<b.length / 64
 · have hbl:(List.take 64 (b.drop (64*i))).length=64:=by rw [Aw];omega
   have hbe:List.take 64 (b.drop (64*i))=blkAt b i:=by
    unfold blkAt;rw [BD];congr 1;omega
   have hdd:List.drop 64 (List.take (b.length-64*i) (b.drop (64*i)))=b.drop (64* (i+1)):=by
    rw [Ah (by omega),Bp];congr 1
   have hc:(64≤((b.length-64*i:Nat):Int))=True:=eq_true (by omega)
   refine uQ 11 _ ?_;with_reducible refine sy2 hdl hc ?_
   refine q1T [] mixed ?_;refine gQ ?_;refine ⟨by omega,?_⟩
   refine q0G [0] (z5p (List.take 64 (b.drop (64*i))) (rest,((m.length+b.length:Nat):Int)) _ hbl hv) rfl (by decide) (by repeat first|exact trivial|exact rfl|refine And.intro ?_ ?_) rfl rfl (fun _ h=>by cases h) ?_
   simp only [afterR,Out.ren,SV.ren,mgA,sig,SObj.ren,SV.renL,List.set,List.map,Ai];refine gy1 hdl ?_;rw [hdd];refine ⟨⟨by omega,by omega⟩,i+1,hlt,by dsimp only;omega,?_,?_⟩
   · rw [hbe];rfl
   with_reducible refine sxE ?_;trivial
 obtain rfl:i=b.length / 64:=by omega
 have hc:(64≤((b.length-64* (b.length / 64):Nat):Int))=False:=eq_false (by omega)
 have hk0:min (b.length-64* (b.length / 64)) 64=b.length-64* (b.length / 64):=by omega
 refine gy3 hdl hc hk0 ?_;rw [Ah (l:=b.drop (64* (b.length / 64))) (by omega)]
 repeat (with_reducible refine And.intro (by first|omega|exact ⟨by omega,by omega⟩) ?_)
 exact congrArg (fun x=>SObj.row HH [x]) (q4b (x:=(st,rest,(m.length:Int))) hpre happ hrr)

theorem z6y(b:List UInt8)(ks:List UInt8×List UInt8)(r:List UInt8×Int)(rd:Bool)(h:List Int)(hb:b.length=64)(hh:inWs h):PE Tryz.prog 282 [.rptr 0 MH 0 128,.isl .u8 b] [.row MH [(ks,((h,r),rd))]] (.ret (.tup [])) [.row MH [(ks,(((blkS b h),r),rd))]]:=by
 refine q0b (Ae _) ?_;refine rQ fi282 ?_;refine q0y (ι:=Nat) (fun t=>[(26,rI t)]) (fun t=>[.row MH [(ks,((h,r),rd))],.row (.int .u32) (wL b t)]) (fun t=>16-t) (fun t=>t≤16) 0 (Al _) (by rw [q6L];rfl) ?_ ?_
 · with_reducible refine sxE ?_;trivial
 intro t ht;have hwr:=wsx t (by omega)
 have hwl:=q4h b t;by_cases hlt:t<16
 · have w1:IntKind.i64.wrap (4* (t:Int))=((4*t:Nat):Int):=by rw [wrapi (by omega)];omega
   have w4:IntKind.i64.wrap (((4*t:Nat):Int)+4)=((4*t+4:Nat):Int):=by rw [wrapi (by omega)];omega
   refine gy4 w1 w4 hwl Ac ?_;have hdl:(List.drop (4*t) (List.take (4*t+4) b)).length=4:=by rw [Ak,Aw];omega
   refine ⟨fun _=> ?_,fun h=>absurd h (by omega)⟩
   repeat (with_reducible refine And.intro (by first|omega|exact ⟨by omega,by omega,by omega,by omega⟩ |exact ⟨by omega,by omega⟩) ?_)
   refine ⟨t+1,by show t+1≤16;omega,by dsimp only;omega,?_,?_⟩
   · have hd:∀j,j<4→(List.drop (4*t) (List.take (4*t+4) b)).getD j Ty.u8.dflt=b.getD (4*t+j) 0:=fun j hj=>by
      rw [Ad,AF,BB (by omega),←Ad]
      rfl
     have ho:=or4 fun j=>(List.drop (4*t) (List.take (4*t+4) b)).getD j Ty.u8.dflt;rw [ho,hd 0 (by omega),hd 1 (by omega),hd 2 (by omega),hd 3 (by omega)]
     have hw:((256* (256* (256* (b.getD (4*t+0) 0).toNat+ (b.getD (4*t+1) 0).toNat)+ (b.getD (4*t+2) 0).toNat)+ (b.getD (4*t+3) 0).toNat:Nat):Int)=wS b t:=by
      rw [z4a hlt];simp only [wdP,byI];omega
     show [SObj.row MH [(ks,((h,r),rd))],SObj.row (.int .u32) ((wL b t).set t ((256* (256* (256* (b.getD (4*t+0) 0).toNat+ (b.getD (4*t+1) 0).toNat)+ (b.getD (4*t+2) 0).toNat)+ (b.getD (4*t+3) 0).toNat:Nat):Int))]= [SObj.row MH [(ks,((h,r),rd))],SObj.row (.int .u32) (wL b (t+1))];rw [hw,q4i b (by omega)]
   with_reducible refine sx1 hwr ?_;trivial
 obtain rfl:t=16:=by omega
 refine gy2 hwl Ac ?_;refine ⟨fun h=>absurd h (by omega),fun _=> ?_⟩
 refine q2d (ι:=Nat) (fun t=>[(7,rI t)]) (fun t=>[.row MH [(ks,((h,r),rd))],.row (.int .u32) (wL b t)]) (fun t=>64-t) (fun t=>16≤t∧t≤64) 16 (by decide) 2 rfl (by decide) (fun _=>rfl) (fun _=>rfl) (fun _=>rfl) ?_ ?_
 · with_reducible refine sxE ?_
   rfl
 intro t ht;have hwl:=q4h b t;have hwr:=wsx t (by omega)
 by_cases hlt:t<64
 · have e15:IntKind.i64.wrap ((t:Int) -15)=((t-15:Nat):Int):=by rw [wrapi (by omega)];omega
   have e2:IntKind.i64.wrap ((t:Int) -2)=((t-2:Nat):Int):=by rw [wrapi (by omega)];omega
   have e7:IntKind.i64.wrap ((t:Int) -7)=((t-7:Nat):Int):=by rw [wrapi (by omega)];omega
   have e16:IntKind.i64.wrap ((t:Int) -16)=((t-16:Nat):Int):=by rw [wrapi (by omega)];omega
   have g15:=q1j b (t:=t) (j:=t-15) (by omega) (by omega)
   have g2:=q1j b (t:=t) (j:=t-2) (by omega) (by omega)
   have g7:=q1j b (t:=t) (j:=t-7) (by omega) (by omega)
   have g16:=q1j b (t:=t) (j:=t-16) (by omega) (by omega)
   have i15:=q2P b (t-15);have i2:=q2P b (t-2);have i7:=q2P b (t-7);have i16:=q2P b (t-16);refine gyd10 e15 e2 e7 e16 g15 g2 g7 g16 hwl Ac ?_;refine ⟨fun _=>⟨⟨by omega,by omega⟩,by omega,⟨by omega,by omega⟩,by omega,⟨by omega,by omega⟩,by omega,⟨by omega,by omega⟩,by omega,q0H (q0M (wS b (t-2)) [17,19] i2 (by decide) (by decide)) ?_⟩,fun h=>absurd hlt (by omega)⟩
   refine gQ ?_;refine q0L 2 (by decide) ?_
   with_reducible refine sxE ?_
   refine q0k (q0M (wS b (t-15)) [7,18] i15 (by decide) (by decide)) ?_
   refine uQ 600 _ ?_;simp (maxSteps:=3000000) only [e15,e2,e7,e16,g15,g2,g7,g16,hwl,Ac,Ty.dflt,go_sem,↓zA,↓reduceIte,↓reduceDIte] <;>try simp only [zB]
   repeat (with_reducible refine And.intro (by first|omega|exact ⟨by omega,by omega⟩) ?_)
   refine ⟨t+1,⟨by omega,hlt⟩,by dsimp only;omega,⟨[.dead],?_⟩,?_⟩
   · rw [schU i15 i2,←z4j (by omega),q4i b hlt]
     rfl
   with_reducible refine sx1 hwr ?_;trivial
 obtain rfl:t=64:=by omega
 refine gQ ?_;have hl:=hh.1;refine ⟨fun h=>absurd h (by omega),fun _=> ?_⟩
 repeat (with_reducible refine And.intro (by omega) ?_)
 refine q3v (t:=.arr 64 (.int .u32)) (x:=dat_sha_constants) (ag:=some 64) (s:=.dat (.arr 64 (.int .u32)) dat_sha_constants) (by unfold datList;repeat (first|exact .head _|apply List.Mem.tail)) rfl (.inr rfl) ?_
 refine gQ ?_;refine q2d (ι:=Nat) (fun t=>[(134,rI t),(12,.raw (.int .u32 ((rnds b h t).getD 0 0))),(13,.raw (.int .u32 ((rnds b h t).getD 1 0))),(14,.raw (.int .u32 ((rnds b h t).getD 2 0))),(15,.raw (.int .u32 ((rnds b h t).getD 3 0))),(16,.raw (.int .u32 ((rnds b h t).getD 4 0))),(17,.raw (.int .u32 ((rnds b h t).getD 5 0))),(18,.raw (.int .u32 ((rnds b h t).getD 6 0))),(19,.raw (.int .u32 ((rnds b h t).getD 7 0)))]) (fun t=>[.row MH [(ks,((h,r),rd))],.row (.int .u32) (wL b 64)]) (fun t=>64-t) (fun t=>t≤64) 0 (Al _) 2 rfl (by decide) (fun _=>rfl) (fun _=>rfl) (fun _=>rfl) ?_ ?_
 · with_reducible refine sxE ?_
   exact ⟨rfl,rfl,rfl,rfl,rfl,rfl,rfl,rfl⟩
 intro t ht;have hwr:=wsx t (by omega)
 by_cases hlt:t<64
 · have hv:=q1v (b:=b) hh t;generalize hvv:rnds b h t=v at*;have i0:=q0h hv 0 (by decide)
   have i1:=q0h hv 1 (by decide)
   have i2:=q0h hv 2 (by decide)
   have i3:=q0h hv 3 (by decide)
   have i4:=q0h hv 4 (by decide)
   have i5:=q0h hv 5 (by decide)
   have i6:=q0h hv 6 (by decide)
   have i7:=q0h hv 7 (by decide)
   refine gyd3 hl hwl Ac ?_;refine ⟨fun _=>⟨⟨by omega,by omega⟩,⟨by omega,by omega⟩,by omega,?_⟩,fun h=>absurd hlt (by omega)⟩
   refine q0L 2 (by decide) ?_
   with_reducible refine sxE ?_
   refine q0k (q0M _ [6,11,25] i4 (by decide) (by decide)) ?_
   refine gyd3 hl hwl Ac ?_;refine q0k (q4J _ _ _ i4 i5 i6) ?_;refine gyd3 hl hwl Ac ?_;refine q0A 3 ?_;with_reducible refine sxE ?_
   refine cyd3 (q0M _ [2,13,22] i0 (by decide) (by decide)) hl hwl Ac ?_
   refine cyd3 (q2X _ _ _ i0 i1 i2) hl hwl Ac ?_;have hr:rnds b h (t+1)=rnd (kS t) (wS b t) v:=by show rnd (kS t) (wS b t) (rnds b h t)=_;rw [hvv]
   have hT1:=t1U (k:=kS t) (w:=wS b t) hv;have hT2:=t2U hv;refine ⟨t+1,hlt,by dsimp only;omega,⟨[.dead,.dead],rfl⟩,?_⟩
   rw [z0f,q1j b hlt hlt,hT1,hT2,aU,eU];with_reducible refine sy2 hwr hr ?_
   exact ⟨rfl,rfl,rfl,rfl,rfl,rfl,rfl,rfl⟩
 obtain rfl:t=64:=by omega
 refine gyd3 hl hwl Ac ?_;refine ⟨fun h=>absurd h (by omega),fun _=> ?_⟩
 have e8:=list8 (q1v (b:=b) hh 64).1;refine q0y (ι:=Nat) (fun i=>[(186,rI i),(185,.dat (.arr 8 (.int .u32)) (rnds b h 64))]) (fun i=>[.row MH [(ks,(((blkP b h i),r),rd))],.row (.int .u32) (wL b 64)]) (fun t=>8-t) (fun t=>t≤8) 0 (Al _) ?_ ?_ ?_
 · rw [q3z b hh.1]
 · with_reducible refine sxE ?_
   exact congrArg (SV.dat (.arr 8 (.int .u32))) e8
 intro i hi;have hwr:=wsx i (by omega)
 have hv:=q1v (b:=b) hh 64;have hl:=hv.1;have hbl:=q4T b h i;by_cases hlt:i<8
 · have hbg:=q4O b h hlt;refine gyd4 hl hbl Ac AM ?_;refine ⟨fun _=> ?_,fun h=>absurd hlt (by omega)⟩
   repeat (with_reducible refine And.intro (by first|omega|exact ⟨by omega,by omega⟩) ?_)
   refine ⟨i+1,hlt,by dsimp only;omega,?_,?_⟩
   · rw [hbg,wrapU];show [_,_]= [SObj.row MH [(ks,(((blkP b h (i+1)),r),rd))],_];rw [←q5a b h hlt]
   with_reducible refine sx1 hwr ?_;trivial
 obtain rfl:i=8:=by omega
 refine gyd3 hl hbl Ac ?_;refine ⟨fun h=>absurd h (by omega),fun _=> ?_⟩
 rw [q4I]
theorem z7X(m b:List UInt8)(x:HaD)(ks:List UInt8×List UInt8)(rd:Bool)(hx:HRep m x)(hl:m.length+b.length≤70368744177664):PE Tryz.prog 257 [.rptr 0 MH 0 128,.isl .u8 b] [.row MH [(ks,(x,rd))]] (.ret (rI 0)) [.row MH [(ks,(wrS m x b,rd))]]:=by
 obtain ⟨st,rest,n⟩:=x;obtain rfl:n=(m.length:Int):=hx.n;have h2:rest.length=64:=hx.rest;have h3:st.length=8:=hx.len;have h4:m.length≠0→st=foldB hS0 m (m.length / 64):=hx.st;have h5:rest.take (m.length%64)=m.drop (64* (m.length / 64)):=hx.tail;have hmt:=tmod64 m.length;have hmw:IntKind.i64.wrap ((m.length:Int)+ (b.length:Int))=((m.length+b.length:Nat):Int):=by rw [wrapi (by omega)];omega
 have hme:(m++b).length=m.length+b.length:=Af;refine q0b (Ae _) ?_;refine q4s fi257 ?_;by_cases c0:m.length=0
 · have hm0:m= []:=Bi.1 c0;have hz:((m.length:Int)=0)=True:=eq_true (by omega)
   have hu:(0< ((m.length%64:Nat):Int))=False:=eq_false (by omega)
   refine gy1 hz ?_;refine q3v (t:=.arr 8 (.int .u32)) (x:=dat_sha_start) (ag:=some 8) (s:=.dat (.arr 8 (.int .u32)) dat_sha_start) (by unfold datList;repeat (first|exact .head _|apply List.Mem.tail)) rfl (.inr rfl) ?_
   refine gy3 hmt hmw hu ?_;have hst1:inWs hS0:=q5X;have hpre:([]:List UInt8).length=64*0:=rfl;have happ:[]++b=m++b:=by rw [hm0]
   have hrr:wrR m rest b=splice rest 0 (b.drop (64* (b.length / 64))):=q6g (by omega)
   refine ⟨by decide,?_⟩
   refine q0y (ι:=Nat) (fun i=>[(1,.isl .u8 (b.drop (64*i)))]) (fun i=>[.row MH [(ks,((foldB hS0 b i,(rest,((m.length+b.length:Nat):Int))),rd))]]) (fun i=>b.length / 64-i) (fun i=>i≤b.length / 64) 0 (Al _) ?_ ?_ ?_
   · rfl
   · with_reducible refine sxE ?_;trivial
   intro i hi;have hv:inWs (foldB hS0 b i):=q1q hst1 _ _;have hdl:(b.drop (64*i)).length=b.length-64*i:=Ak;by_cases hlt:i<b.length / 64
   · have hbl:(List.take 64 (b.drop (64*i))).length=64:=by rw [Aw];omega
     have hbe:List.take 64 (b.drop (64*i))=blkAt b i:=by
      unfold blkAt;rw [BD];congr 1;omega
     have hdd:List.drop 64 (List.take (b.length-64*i) (b.drop (64*i)))=b.drop (64* (i+1)):=by
      rw [Ah (by omega),Bp];congr 1
     have hc:(64≤((b.length-64*i:Nat):Int))=True:=eq_true (by omega)
     refine uQ 11 _ ?_;with_reducible refine sy2 hdl hc ?_
     refine q1T [] mixed ?_;refine gQ ?_;refine ⟨by omega,?_⟩
     refine q0G [0] (z6y (List.take 64 (b.drop (64*i))) ks (rest,((m.length+b.length:Nat):Int)) rd _ hbl hv) rfl (by decide) (by repeat first|exact trivial|exact rfl|refine And.intro ?_ ?_) rfl rfl (fun _ h=>by cases h) ?_
     simp only [afterR,Out.ren,SV.ren,mgA,sig,SObj.ren,SV.renL,List.set,List.map,Ai];refine gy1 hdl ?_;rw [hdd];refine ⟨⟨by omega,by omega⟩,i+1,hlt,by dsimp only;omega,?_,?_⟩
     · rw [hbe];rfl
     with_reducible refine sxE ?_;trivial
   obtain rfl:i=b.length / 64:=by omega
   have hc:(64≤((b.length-64* (b.length / 64):Nat):Int))=False:=eq_false (by omega)
   have hk0:min (b.length-64* (b.length / 64)) 64=b.length-64* (b.length / 64):=by omega
   refine gy3 hdl hc hk0 ?_;rw [Ah (l:=b.drop (64* (b.length / 64))) (by omega)]
   repeat (with_reducible refine And.intro (by first|omega|exact ⟨by omega,by omega⟩) ?_)
   exact congrArg (fun x=>SObj.row MH [(ks,(x,rd))]) (q4b (x:=(st,rest,(m.length:Int))) hpre happ hrr)

 have hz:((m.length:Int)=0)=False:=eq_false (by omega)
 have hst:=h4 c0;have hst1:inWs st:=hst▸q1q q5X _ _;by_cases c1:0<m.length%64
 · have hu:(0< ((m.length%64:Nat):Int))=True:=eq_true (by omega)
   by_cases c2:m.length%64+b.length<64
   · have hk:min b.length (64-m.length%64)=b.length:=by omega
     have hw2:IntKind.i64.wrap (((m.length%64:Nat):Int)+ (b.length:Int))=((m.length%64+b.length:Nat):Int):=by rw [wrapi (by omega)];omega
     have hs:(((m.length%64+b.length:Nat):Int) <64)=True:=eq_true (by omega)
     refine uQ 600 _ ?_;simp (maxSteps:=3000000) only [hz,hmt,hmw,hu,hk,hw2,hs,Az,go_sem,↓zA,↓reduceIte,↓reduceDIte] <;>try simp only [zB]
     repeat (with_reducible refine And.intro (by first|omega|exact ⟨by omega,by omega⟩ |exact ⟨by omega,by omega,by omega⟩) ?_)
     exact congrArg (fun x=>SObj.row MH [(ks,(x,rd))]) (q9U (x:=(st,rest,(m.length:Int))) hst c2)
   have hk:min b.length (64-m.length%64)=64-m.length%64:=by omega
   have hw2:IntKind.i64.wrap (((m.length%64:Nat):Int)+ ((64-m.length%64:Nat):Int))=((64:Nat):Int):=by rw [wrapi (by omega)];omega
   have htl:(List.take (64-m.length%64) b).length=64-m.length%64:=by rw [Aw];omega
   have hfull:m.length%64+ (64-m.length%64)=64:=by omega
   have hs:(((64:Nat):Int) <64)=False:=eq_false (by omega)
   have hpre:(m++b.take (64-m.length%64)).length=64* (m.length / 64+1):=by rw [Af,htl];omega
   have happ:m++b.take (64-m.length%64)++b.drop (64-m.length%64)=m++b:=by rw [List.append_assoc,Bb]
   obtain ⟨r1,hr1⟩:∃r1,r1=(List.take (m.length%64) rest++List.take (64-m.length%64) b++List.drop 64 rest):=⟨_,rfl⟩;have hr1l:r1.length=64:=by rw [hr1,Af,Af,htl,Aw,Ak];omega
   have hrr:wrR m rest b=splice r1 0 ((b.drop (64-m.length%64)).drop (64* ((b.drop (64-m.length%64)).length / 64))):=by
    unfold wrR;rw [if_neg c2,if_pos c1,hr1,q9V hpre happ];simp only [splice,htl,hfull]
   have hstD:blkS r1 st=foldB hS0 (m++b.take (64-m.length%64)) (m.length / 64+1):=by
    rw [foldB,q2R hS0 (by omega),←hst]
    congr 1;unfold blkAt;rw [Ah (by omega),Bn (by omega),←h5,hr1,show List.drop 64 rest= [] from AY (by omega),Ai]
   have hst1':inWs (blkS r1 st):=z1t;have hbl1:(List.drop (64-m.length%64) b).length=b.length- (64-m.length%64):=Ak;refine uQ 74 _ ?_;simp (maxSteps:=3000000) only [hz,hmt,hmw,hu,hk,hw2,htl,hfull,hs,go_sem,↓zA,↓reduceIte,↓reduceDIte] <;>try simp only [zB]
   rw [←hr1];refine ⟨by decide,⟨by omega,by omega,by omega⟩,by omega,?_⟩
   refine q1T [] mixed ?_;refine gQ ?_;refine ⟨⟨by omega,by omega⟩,?_⟩
   refine q0G [0] (j3H r1 ks ((m.length+b.length:Nat):Int) rd _ hr1l hst1) rfl (by decide) (by repeat first|exact trivial|exact rfl|refine And.intro ?_ ?_) rfl rfl (fun _ h=>by cases h) ?_
   simp only [afterR,Out.ren,SV.ren,mgA,sig,SObj.ren,SV.renL,List.set,List.map,Ai];refine gy1 hk ?_;rw [Az];refine ⟨⟨by omega,by omega⟩,?_⟩
   replace hst1:=hst1';refine q0y (ι:=Nat) (fun i=>[(1,.isl .u8 ((b.drop (64-m.length%64)).drop (64*i)))]) (fun i=>[.row MH [(ks,((foldB (blkS r1 st) (b.drop (64-m.length%64)) i,(r1,((m.length+b.length:Nat):Int))),rd))]]) (fun i=>(b.drop (64-m.length%64)).length / 64-i) (fun i=>i≤(b.drop (64-m.length%64)).length / 64) 0 (Al _) ?_ ?_ ?_
   · rfl
   · with_reducible refine sxE ?_;trivial
   intro i hi;have hv:inWs (foldB (blkS r1 st) (b.drop (64-m.length%64)) i):=q1q hst1 _ _;have hdl:((b.drop (64-m.length%64)).drop (64*i)).length=(b.drop (64-m.length%64)).length-64*i:=Ak;by_cases hlt:i< (b.drop (64-m.length%64)).length / 64
   · have hbl:(List.take 64 ((b.drop (64-m.length%64)).drop (64*i))).length=64:=by rw [Aw];omega
     have hbe:List.take 64 ((b.drop (64-m.length%64)).drop (64*i))=blkAt (b.drop (64-m.length%64)) i:=by
      unfold blkAt;rw [BD];congr 1;omega
     have hdd:List.drop 64 (List.take ((b.drop (64-m.length%64)).length-64*i) ((b.drop (64-m.length%64)).drop (64*i)))=(b.drop (64-m.length%64)).drop (64* (i+1)):=by
      rw [Ah (by omega),Bp];congr 1
     have hc:(64≤(((b.drop (64-m.length%64)).length-64*i:Nat):Int))=True:=eq_true (by omega)
     refine uQ 11 _ ?_;with_reducible refine sy2 hdl hc ?_
     refine q1T [] mixed ?_;refine gQ ?_;refine ⟨by omega,?_⟩
     refine q0G [0] (z6y (List.take 64 ((b.drop (64-m.length%64)).drop (64*i))) ks (r1,((m.length+b.length:Nat):Int)) rd _ hbl hv) rfl (by decide) (by repeat first|exact trivial|exact rfl|refine And.intro ?_ ?_) rfl rfl (fun _ h=>by cases h) ?_
     simp only [afterR,Out.ren,SV.ren,mgA,sig,SObj.ren,SV.renL,List.set,List.map,Ai];refine gy1 hdl ?_;rw [hdd];refine ⟨⟨by omega,by omega⟩,i+1,hlt,by dsimp only;omega,?_,?_⟩
     · rw [hbe];rfl
     with_reducible refine sxE ?_;trivial
   obtain rfl:i=(b.drop (64-m.length%64)).length / 64:=by omega
   have hc:(64≤(((b.drop (64-m.length%64)).length-64* ((b.drop (64-m.length%64)).length / 64):Nat):Int))=False:=eq_false (by omega)
   have hk0:min ((b.drop (64-m.length%64)).length-64* ((b.drop (64-m.length%64)).length / 64)) 64=(b.drop (64-m.length%64)).length-64* ((b.drop (64-m.length%64)).length / 64):=by omega
   refine gy3 hdl hc hk0 ?_;rw [Ah (l:=(b.drop (64-m.length%64)).drop (64* ((b.drop (64-m.length%64)).length / 64))) (by omega)]
   repeat (with_reducible refine And.intro (by first|omega|exact ⟨by omega,by omega⟩) ?_)
   exact congrArg (fun x=>SObj.row MH [(ks,(x,rd))]) (q4b (x:=(st,rest,(m.length:Int))) hpre happ hrr)

 have hu:(0< ((m.length%64:Nat):Int))=False:=eq_false (by omega)
 refine gy4 hz hmt hmw hu ?_;have hpre:m.length=64* (m.length / 64):=by omega
 have happ:m++b=m++b:=rfl;have hrr:wrR m rest b=splice rest 0 (b.drop (64* (b.length / 64))):=q6g (by omega)
 refine ⟨by decide,?_⟩
 refine q0y (ι:=Nat) (fun i=>[(1,.isl .u8 (b.drop (64*i)))]) (fun i=>[.row MH [(ks,((foldB st b i,(rest,((m.length+b.length:Nat):Int))),rd))]]) (fun i=>b.length / 64-i) (fun i=>i≤b.length / 64) 0 (Al _) ?_ ?_ ?_
 · rfl
 · with_reducible refine sxE ?_;trivial
 intro i hi;have hv:inWs (foldB st b i):=q1q hst1 _ _;have hdl:(b.drop (64*i)).length=b.length-64*i:=Ak;by_cases hlt:i<b.length / 64
 · have hbl:(List.take 64 (b.drop (64*i))).length=64:=by rw [Aw];omega
   have hbe:List.take 64 (b.drop (64*i))=blkAt b i:=by
    unfold blkAt;rw [BD];congr 1;omega
   have hdd:List.drop 64 (List.take (b.length-64*i) (b.drop (64*i)))=b.drop (64* (i+1)):=by
    rw [Ah (by omega),Bp];congr 1
   have hc:(64≤((b.length-64*i:Nat):Int))=True:=eq_true (by omega)
   refine uQ 11 _ ?_;with_reducible refine sy2 hdl hc ?_
   refine q1T [] mixed ?_;refine gQ ?_;refine ⟨by omega,?_⟩
   refine q0G [0] (z6y (List.take 64 (b.drop (64*i))) ks (rest,((m.length+b.length:Nat):Int)) rd _ hbl hv) rfl (by decide) (by repeat first|exact trivial|exact rfl|refine And.intro ?_ ?_) rfl rfl (fun _ h=>by cases h) ?_
   simp only [afterR,Out.ren,SV.ren,mgA,sig,SObj.ren,SV.renL,List.set,List.map,Ai];refine gy1 hdl ?_;rw [hdd];refine ⟨⟨by omega,by omega⟩,i+1,hlt,by dsimp only;omega,?_,?_⟩
   · rw [hbe];rfl
   with_reducible refine sxE ?_;trivial
 obtain rfl:i=b.length / 64:=by omega
 have hc:(64≤((b.length-64* (b.length / 64):Nat):Int))=False:=eq_false (by omega)
 have hk0:min (b.length-64* (b.length / 64)) 64=b.length-64* (b.length / 64):=by omega
 refine gy3 hdl hc hk0 ?_;rw [Ah (l:=b.drop (64* (b.length / 64))) (by omega)]
 repeat (with_reducible refine And.intro (by first|omega|exact ⟨by omega,by omega⟩) ?_)
 exact congrArg (fun x=>SObj.row MH [(ks,(x,rd))]) (q4b (x:=(st,rest,(m.length:Int))) hpre happ hrr)

theorem j0J(m:List UInt8)(x:HaD)(hx:HRep m x)(hl:m.length≤70368744177664):PC Tryz.prog 259 [.iptr HH x 0] (.dat (.arr 32 .u8) (shaS m)):=by
 have hrs:=j0b hx;obtain ⟨st,rest,n⟩:=x;obtain rfl:n=(m.length:Int):=hx.n;have h2:rest.length=64:=hx.rest;have h3:st.length=8:=hx.len;have h4:m.length≠0→st=foldB hS0 m (m.length / 64):=hx.st;have hmt:=tmod64 m.length;refine q0w rfl rfl (z2n (q6H noFG fi259 ?_))
 letI:Ghost:=topG noFG []
 by_cases c0:m.length=0
 · have hm0:m= []:=Bi.1 c0;have hz:((m.length:Int)=0)=True:=eq_true (by omega)
   refine gy1 hz ?_;refine q0a ((j2R [] (by simp)).arg ?_) ?_
   · with_reducible refine sxE ?_;trivial
   have hbl:(shaS []).length=32:=q1p _;refine gy1 hbl ?_;rw [hm0]
 have hz:((m.length:Int)=0)=False:=eq_false (by omega)
 have hst:inWs st:=(h4 c0)▸q1q q5X _ _;refine gy2 hz hmt ?_;rw [Nat.sub_zero];refine ⟨by decide,⟨by omega,by omega,by omega⟩,?_⟩
 have hrl:(List.take (m.length%64) rest).length≤70368744177664:=by rw [Aw];omega
 have hfe:bytesS (foldB st (padT (List.take (m.length%64) rest) m.length) (blksN (List.take (m.length%64) rest)))=shaS m:=hrs c0;generalize List.take (m.length%64) rest=r at*;refine cR (j0f r m.length hrl) ?_;refine j4m (smH st (padT r m.length)) (fun _ _ _=>False) rfl rfl rfl (z0q r m.length hrl hl) (fun i n args' new h=>by rw [h.1];rfl) ⟨[],?_⟩ rfl ?_ ?_ ?_
 · rw [h3,show List.drop (0+8) _=([]:List Int) from rfl,Ai]
   rfl
 · rintro i _ args' new hi ⟨G,rfl⟩ ⟨rfl,rfl⟩ L1 L2
   letI:Ghost:=pinG noFG L1
   rw [Ai];refine uQ 600 _ ?_;simp only [putL,CD];with_reducible refine sxaE ?_
   letI:Ghost:=pinG noFG L2
   refine aQ ?_;have hbl:(blkAt (padT r m.length) i).length=64:=q9S (q9C r m.length) hi;refine eQ [1] (j3A (blkAt (padT r m.length) i) _ hbl (q1q hst _ i)) ?_;exact ⟨G,rfl⟩
 · rintro D _ ⟨G,rfl⟩
   letI:Ghost:=topG noFG [D]
   have hv:=q1q hst (padT r m.length) (blksN r);have hfl:=hv.1;generalize foldB st (padT r m.length) (blksN r)=h at*;refine gQ ?_;have htk:List.take 8 h=h:=Ah (by omega)
   rw [htk];refine ⟨by omega,q0a (z6m h hv) ?_⟩
   have hbl:=q1p h;refine gy1 hbl ?_;rw [hfe]
 rintro D i ex _ hi h;exact h.elim
theorem z4U{h k n N:Nat}{t e:Ty}{x:t.den}{ys:List e.den}(ha:t.arrAt x k=some ⟨e,N,ys⟩)(hne:t≠e)(hn:n=N)(hl:ys.length=n)(hb:n≤1125899906842624):Bor h t [x] (.csl h e k 0 n) (.isl e ys):=by
 refine .csl (p:=0+n≤N) ?_ (by omega) hb
 simp only [ownPart];rw [dif_neg hne];simp only [ha,dite_true,cast_eq,Au];rw [Ah (by omega)]
theorem j0W{h n:Nat}{t:Ty}{xs:List t.den}(hl:xs.length=n):Bor h t xs (.osl h t 0 n) (.isl t xs):=by
 have:=Bor.osl (h:=h) (t:=t) (xs:=xs) (off:=0) (n:=n) (by omega)
 rwa [Au,Ah (by omega)] at this
theorem z3i{h n:Nat}{xs:List UInt8}(hl:xs.length=n)(h0:0<n):Bor h .u8 xs (.rptr h .u8 0 0) (.iptr (.arr n .u8) xs 0):=by
 subst hl;exact .ptr (.inr ⟨rfl,rfl,rfl,h0,.rfl⟩)
theorem z9o{h:Nat}{t:Ty}{x:t.den}(hg:t.get x 0 t.size=some ⟨t,x⟩):Bor h t [x] (.rptr h t 0 0) (.iptr t x 0):=.ptr (.inl ⟨x,rfl,by rw [Be];exact hg⟩)
theorem j0w(w:List UInt8)(c:UInt8)(_hw:w.length=64):PC Tryz.prog 255 [.raw (.int .u8 c.toNat),.iptr (.arr 64 .u8) w 0] (.dat (.arr 64 .u8) (hkP w c 64)):=by
 refine q0w rfl rfl ?_;refine rQ fi255 ?_;refine q0y (ι:=Nat) (fun i=>[(7,rI i)]) (fun i=>[.row .u8 (hkP w c i)]) (fun i=>64-i) (fun i=>i≤64) 0 (Al _) (by rw [z8I];first|done|rfl) ?_ ?_
 · with_reducible refine sxE ?_;trivial
 intro i hi;have hwr:=wsx i (by omega)
 have hpl:=q9G w c i;by_cases h64:i<64
 · have hx8:=xor8 (w.getD i 0) c;refine gyd3 hpl hx8 Ac ?_;refine ⟨fun _=>⟨⟨by omega,h64⟩,⟨by omega,h64⟩,⟨h64,by rw [UInt8.ofNat_toNat]⟩,i+1,h64,by dsimp only;omega,?_,?_⟩,fun h=>absurd h (by omega)⟩
   · rw [CP,j1O w c h64]
   with_reducible refine sx1 hwr ?_;trivial
 obtain rfl:i=64:=by omega
 refine gy2 hpl Ac ?_;refine ⟨fun h=>absurd h (by omega),fun _=> ?_⟩
 have e:List.take 64 (hkP w c 64)++List.drop (List.take 64 (hkP w c 64)).length (hkP w c 64)=hkP w c 64:=by
  rw [Ah (by omega),hpl,AY (by omega),Ai]
 rw [e,if_pos hpl];exact ⟨_,rfl,rfl⟩
def hz0:HaD:=(List.replicate 8 0,List.replicate 64 0,0)
theorem q9y:HRep [] hz0:=z8t
theorem j1P(o i:List UInt8)(x:HaD)(rd:Bool)(hi:i.length=64):PE Tryz.prog 256 [.rptr 0 MH 0 0] [.row MH [((o,i),(x,rd))]] (.ret (.dat HH (wrS [] hz0 i))) [.row MH [((o,i),(x,rd))]]:=by
 refine q0b (Ae _) ?_;refine rQ fi256 ?_;refine ⟨⟨by decide,by decide⟩,?_⟩
 refine q0K [1,0] (z2h (t:=MH) (xs:=[((o,i),(x,rd))]) (z1G [] i hz0 q9y (by simp;omega)) rfl rfl rfl rfl (by simp) (.cons (.keep rfl) (.cons (z4U rfl (by decide) rfl hi (by decide)) .nil))) rfl (by decide) (by repeat first|exact trivial|exact rfl|refine And.intro ?_ ?_) rfl rfl ?_
 simp only [afterO,Out.ren,SV.ren,mgA,sig,SObj.ren,SV.renL,List.set,List.map,Ai,Ay,As];refine gQ ?_;trivial
theorem z9a(o i d:List UInt8)(x:HaD)(rd:Bool)(ho:o.length=64)(hd:d.length=32):PE Tryz.prog 258 [.rptr 0 MH 0 0,.dat (.arr 32 .u8) d] [.row MH [((o,i),(x,rd))]] (.ret (.dat (.arr 32 .u8) (shaS (o++d)))) [.row MH [((o,i),(x,rd))]]:=by
 refine q0b (Ae _) ?_;refine rQ fi258 ?_;refine ⟨⟨by decide,by decide⟩,?_⟩
 refine q0K [3,0] (z2h (t:=MH) (xs:=[((o,i),(x,rd))]) (z1G [] o hz0 q9y (by simp;omega)) rfl rfl rfl rfl (by simp) (.cons (.keep rfl) (.cons (z4U rfl (by decide) rfl ho (by decide)) .nil))) rfl (by decide) (by repeat first|exact trivial|exact rfl|refine And.intro ?_ ?_) rfl rfl ?_
 simp only [afterO,Out.ren,SV.ren,mgA,sig,SObj.ren,SV.renL,List.set,List.map,Ai,Ay,As];have hr1:HRep o (wrS [] hz0 o):=q9z q9y;have hr2:HRep (o++d) (wrS o (wrS [] hz0 o) d):=q9z hr1;generalize wrS [] hz0 o=y1 at*;generalize hy:wrS o y1 d=y at*;have hw2:=hy▸z1G o d y1 hr1 (by omega)
 refine gQ ?_;refine ⟨⟨by decide,by decide⟩,?_⟩
 refine q0K [3,1] (z2h (t:=.u8) (xs:=d) hw2 (by simp only [AB,Bq]) rfl rfl rfl (by omega) (.cons (.keep rfl) (.cons (j0W hd) .nil))) rfl (by decide) (by repeat first|exact trivial|exact rfl|refine And.intro ?_ ?_) rfl rfl ?_
 simp only [afterO,Out.ren,SV.ren,mgA,sig,SObj.ren,SV.renL,List.set,List.map,Ai,Ay,As];refine gQ ?_;refine q0K [3] (q6n (t:=HH) (xs:=[y]) (j0J (o++d) y hr2 (by simp;omega)) rfl (by simp) (.cons (z9o rfl) .nil)) rfl (by decide) (by repeat first|exact trivial|exact rfl|refine And.intro ?_ ?_) rfl rfl ?_
 simp only [afterO,Out.ren,SV.ren,mgA,sig,SObj.ren,SV.renL,List.set,List.map,Ai,Ay,As];have hsl:(shaS (o++d)).length=32:=q1p _;refine gy1 hsl ?_;trivial
def padK(k:List UInt8):List UInt8:=hkC k++List.replicate (64- (hkC k).length) 0
theorem j0O(k:List UInt8):(hkC k).length≤64:=by
 unfold hkC;split
 · have:(shaS k).length=32:=q1p _;omega
 omega
theorem z9F(k:List UInt8):(padK k).length=64:=by
 have:=j0O k;unfold padK;rw [Af,BM];omega
theorem z4V(k:List UInt8)(c:UInt8):hkP (padK k) c 64=hkS k c:=by
 unfold hkS hkP;apply CC;intro i hi;have hi':i<64:=Cq.1 hi;rw [if_pos hi',if_pos hi'];congr 1;unfold padK;rw [Ad,Ad];rcases AC i (hkC k).length with h|h
 · rw [Ag h]
 rw [Ao h,AJ h,List.getElem?_replicate];split<;>rfl
def macI(k:List UInt8):(List UInt8×List UInt8)×(HaD×Bool):=((hkS k 92,hkS k 54),(wrS [] hz0 (hkS k 54),true))
theorem j1Y{ty:Ty}{x:ty.den}{v:Value}{H':List SObj}{h:Nat}(hH:H'[h]?=some (.row ty [x])):Weak 0 (fun o' H''=>o'= .ret (.tup [.rptr 0 ty 0 0,.raw v])∧H''= [.row ty [x]]) (.ret (.tup [.rptr h ty 0 0,.raw v])) H':=
 ⟨fun _=>h,.tup [.rptr 0 ty 0 0,.raw v],.tup [.rptr 0 ty 0 0,.raw v],[.row ty [x]],⟨⟨rfl,trivial⟩,⟨hH,trivial⟩,rfl,rfl,rfl,rfl,Al _,fun _ h0=>absurd h0 (Ck 0)⟩,.inl (.inl rfl),⟨rfl,rfl⟩⟩
abbrev HTT:Ty:=HH 
abbrev MTT:Ty:=MH 
theorem j3o(k:List UInt8)(hk:k.length≤64):PE Tryz.prog 225 [.isl .u8 k] [] (.ret (.tup [.rptr 0 MH 0 0,rI 0])) [.row MH [macI k]]:=by
 have c1:(4096< (k.length:Int))=False:=eq_false (by omega)
 have c2:(64< (k.length:Int))=False:=eq_false (by omega)
 have hkc:hkC k=k:=if_neg (by omega)
 have hkm:min k.length 64=k.length:=by omega
 have hpl:=z9F k;refine j4r ?_;refine q4s fi225 ?_;refine uQ 600 _ ?_;simp (maxSteps:=3000000) only [c1,c2,hkm,Az,go_sem,↓zA,↓reduceIte,↓reduceDIte] <;>try simp only [zB]
 have hrow:∀l,l=List.replicate 64 (0:UInt8)→k++List.drop (0+k.length) l=padK k:=fun l hl=>by
  subst hl;unfold padK;rw [hkc,Ac,List.drop_replicate]
 rw [hrow]
 case a=>rfl
 refine ⟨⟨by decide,by decide⟩,by omega,?_⟩
 refine q0K [0] (q6n (t:=.u8) (xs:=padK k) (j0w (padK k) 92 hpl) rfl (by omega) (.cons (.keep rfl) (.cons (z3i hpl (by decide)) .nil))) rfl (by decide) (by repeat first|exact trivial|exact rfl|refine And.intro ?_ ?_) rfl rfl ?_
 simp only [afterO,Out.ren,SV.ren,mgA,sig,SObj.ren,SV.renL,List.set,List.map,Ai,Ay,As];refine gQ ?_;refine q0K [0] (q6n (t:=.u8) (xs:=padK k) (j0w (padK k) 54 hpl) rfl (by omega) (.cons (.keep rfl) (.cons (z3i hpl (by decide)) .nil))) rfl (by decide) (by repeat first|exact trivial|exact rfl|refine And.intro ?_ ?_) rfl rfl ?_
 simp only [afterO,Out.ren,SV.ren,mgA,sig,SObj.ren,SV.renL,List.set,List.map,Ai,Ay,As];rw [z4V,z4V];refine gQ ?_;refine eQ [1] (j1P (hkS k 92) (hkS k 54) _ true (q9G _ _ _)) ?_;exact j1Y rfl
theorem z8E(m b:List UInt8)(ks:List UInt8×List UInt8)(x:HaD)(hx:HRep m x)(hl:m.length+b.length≤70368744177664):PE Tryz.prog 226 [.rptr 0 MH 0 0,.isl .u8 b] [.row MH [(ks,(x,true))]] (.ret (rI 0)) [.row MH [(ks,(wrS m x b,true))]]:=by
 refine q0b (Ae _) ?_;refine rQ fi226 ?_;refine eQ [0] (z7X m b x ks true hx hl) ?_;trivial
theorem j3s(m:List UInt8)(o i:List UInt8)(x:HaD)(hx:HRep m x)(hl:m.length≤70368744177664)(ho:o.length=64):PE Tryz.prog 227 [.rptr 0 MH 0 0] [.row MH [((o,i),(x,true))]] (.ret (.tup [.dat (.arr 32 .u8) (shaS (o++shaS m)),rI 0])) [.row MH [((o,i),(x,true))]]:=by
 have hsl:(shaS m).length=32:=q1p _;have hsl2:(shaS (o++shaS m)).length=32:=q1p _;have hg:RLies MTT [((o,i),(x,true))] (0*MTT.size+128) HTT x:=.inl ⟨_,rfl,rfl⟩;refine q0b (Ae _) ?_;refine q4s fi227 ?_;refine uQ 21 _ ?_;with_reducible refine sxE ?_
 refine q1T [0] mixed ?_;refine gQ ?_;refine q0G [0] (q6n (t:=MTT) (xs:=[((o,i),(x,true))]) (j0J m x hx hl) rfl (by simp) (.cons (.ptr hg) .nil)) rfl (by decide) (by repeat first|exact trivial|exact rfl|refine And.intro ?_ ?_) rfl rfl (fun h hh=> ?_) ?_
 · obtain rfl:h=0:=by simpa using hh
   rfl
 simp only [afterR,Out.ren,SV.ren,mgA,sig,SObj.ren,SV.renL,List.set,List.map,Ai,Ay,As];refine gy1 hsl ?_;refine q0G [0] (z9a o i (shaS m) x true ho hsl) rfl (by decide) (by repeat first|exact trivial|exact rfl|refine And.intro ?_ ?_) rfl rfl (fun h hh=> ?_) ?_
 · obtain rfl:h=0:=by simpa using hh
   rfl
 simp only [afterR,Out.ren,SV.ren,mgA,sig,SObj.ren,SV.renL,List.set,List.map,Ai,Ay,As];refine gy1 hsl2 ?_;trivial
def hmS(k b:List UInt8):List UInt8:=shaS (hkS k 92++shaS (hkS k 54++b))
theorem q9n(k b:List UInt8):(hmS k b).length=32:=q1p _
def mWr(k:List UInt8)(ps:List (List UInt8)):Nat→HaD
 |0=>wrS [] hz0 (hkS k 54)
 |i+1=>wrS (hkS k 54++(ps.take i).flatten) (mWr k ps i) (ps.getD i [])
theorem q7q{ps:List (List UInt8)}{i:Nat}(h:i<ps.length):(ps.take (i+1)).flatten=(ps.take i).flatten++ps.getD i []:=by
 rw [List.take_succ_eq_append_getElem h,List.flatten_append,Cu,Ad,Ab h];rfl
theorem z7F(k:List UInt8)(ps:List (List UInt8)):∀i,i≤ps.length→HRep (hkS k 54++(ps.take i).flatten) (mWr k ps i)
 |0,_=>by
  have:=q9z (b:=hkS k 54) q9y;simpa [mWr] using this
 |i+1,hi=>by
  have:=q9z (b:=ps.getD i []) (z7F k ps i (by omega))
  rw [List.append_assoc,←q7q (by omega)] at this
  exact this
theorem q2g:∀ (ps:List (List UInt8)) (i:Nat),(ps.take i).flatten.length≤ps.flatten.length
 | [],i=>by simp
 |p :: ps,0=>by simp
 |p :: ps,i+1=>by simp only [Cf,AD,Af];have:=q2g ps i;omega
theorem j0z(k:List UInt8)(ps:List (List UInt8))(hk:k.length≤64)(hp:ps.flatten.length≤1099511627776)(hpl:ps.length≤1099511627776):PC Tryz.prog 196 [.isl .u8 k,.isl (.slice .u8) ps] (.tup [.dat (.arr 32 .u8) (hmS k ps.flatten),rI 0]):=by
 refine q0w rfl rfl ?_;refine q4s fi196 ?_;refine gQ ?_;refine eQ [] (j3o k hk) ?_;refine q0y (ι:=Nat) (fun i=>[(21,rI i)]) (fun i=>[.row .u8 (List.replicate 32 0),.row MH [((hkS k 92,hkS k 54),(mWr k ps i,true))]]) (fun i=>ps.length-i) (fun i=>i≤ps.length) 0 (Al _) rfl ?_ ?_
 · with_reducible refine sxE ?_;trivial
 intro i hi;have hrep:=z7F k ps i hi;have hwr:=wsx i (by omega)
 have hfl:=q2g ps i;have hil:(hkS k 54).length=64:=q9G _ _ _;by_cases h:i<ps.length
 · have hf1:=q7q h;have hfl1:=q2g ps (i+1);rw [hf1,Af] at hfl1;refine gQ ?_;refine ⟨fun _=>⟨⟨by omega,h⟩,?_⟩,fun hh=>absurd h hh⟩
   refine eQ [1] (z8E (hkS k 54++(ps.take i).flatten) (ps.getD i []) (hkS k 92,hkS k 54) _ hrep (by rw [Af];omega)) ?_
   refine ⟨i+1,h,by dsimp only;omega,rfl,?_⟩
   with_reducible refine sx1 hwr ?_;trivial
 obtain rfl:i=ps.length:=by omega
 rw [Az] at hrep;have hsl:(shaS (hkS k 92++shaS (hkS k 54++ps.flatten))).length=32:=q1p _;refine gQ ?_;refine ⟨fun hh=>absurd hh (by omega),fun _=> ?_⟩
 refine q0K [1] (j3s (hkS k 54++ps.flatten) (hkS k 92) (hkS k 54) _ hrep (by rw [Af];omega) (q9G _ _ _)) rfl (by decide) (by repeat first|exact trivial|exact rfl|refine And.intro ?_ ?_) rfl rfl ?_
 simp only [afterO,Out.ren,SV.ren,mgA,sig,SObj.ren,SV.renL,List.set,List.map,Ai,hsl];refine gy1 hsl ?_;rfl
def four(n:Nat):List UInt8:=[UInt8.ofNat (n / 2^ 24%256),UInt8.ofNat (n / 2^ 16%256),UInt8.ofNat (n / 2^ 8%256),UInt8.ofNat (n / 2^ 0%256)]
theorem z8Y(n:Nat):(four n).length=4:=rfl
theorem fdivN(n m:Nat)(hm:m≤64):((n:Int).fdiv (2^ min m 64))=((n / 2^ m:Nat):Int):=by
 rw [Bf hm,A6 _ (by exact_mod_cast Al (2^ m))]
 simp
theorem byteN(n m:Nat)(hm:m≤64):UInt8.ofNat (IntKind.u8.wrap ((n:Int).fdiv (2^ min m 64))).toNat=UInt8.ofNat (n / 2^ m%256):=by
 rw [fdivN n m hm];generalize n / 2^ m=m;rw [u8wrapR];congr 1
theorem byteN0(n:Nat):UInt8.ofNat (IntKind.u8.wrap (n:Int)).toNat=UInt8.ofNat (n / 2^ 0%256):=by
 rw [Nat.pow_zero,Nat.div_one,u8wrapR];congr 1
theorem j0q(n:Nat):PC Tryz.prog 261 [rI n] (.isl .u8 (four n)):=by
 refine q0u rfl rfl ?_;refine rQ fi261 ?_;refine ⟨⟨q2D _,q2D _,q2D _,q2D _⟩,?_⟩;rw [byteN _ 24 (by decide),byteN _ 16 (by decide),byteN _ 8 (by decide),byteN0]
 rfl
theorem j2h(n:Nat)(ls:List (List UInt8))(h1:1≤n)(h2:n≤1024)(hl:∀l∈ls,l.length≤4096)(hn:ls.length≤100):PC Tryz.prog 228 [rI n,.isl (.slice .u8) ls] (rB true):=by
 refine q0w rfl rfl ?_;refine rQ fi228 ?_;refine q0y (ι:=Nat) (fun i=>[(9,rI i)]) (fun i=>[]) (fun i=>ls.length-i) (fun i=>i≤ls.length) 0 (Al _) rfl ?_ ?_
 · with_reducible refine sxE ?_;trivial
 intro i hi;have hwr:=wsx i (by omega)
 by_cases h:i<ls.length
 · have hli:(ls.getD i []).length≤4096:=by
    rw [Ad,Ab h];exact hl _ (B7 _)
   have hli':(4096< (((ls.getD i (Ty.dflt (.slice .u8))).length:Nat):Int))=False:=eq_false (by show ¬(4096< (((ls.getD i []).length:Nat):Int));omega)
   refine gy1 hli' ?_;refine ⟨fun _=>⟨⟨by omega,h⟩,i+1,h,by dsimp only;omega,rfl,?_⟩,fun hh=>absurd h hh⟩
   with_reducible refine sx1 hwr ?_;trivial
 obtain rfl:i=ls.length:=by omega
 refine gQ ?_;exact ⟨fun hh=>absurd hh (by omega),fun _=>⟨fun _=>by omega,fun hh=>absurd hh (by omega)⟩⟩
abbrev derT:Ty:=.prod (.slice .u8) (.prod (.slice .u8) (.prod (.slice .u8) (.int .i64)))
def kblk(key label ctx:List UInt8)(n i:Nat):List UInt8:=hmS key (four i++label++ [0]++ctx++four (8*n))
theorem q6w(key label ctx:List UInt8)(n i:Nat):(kblk key label ctx n i).length=32:=q9n _ _
theorem z9f(key label ctx:List UInt8)(n i:Nat)(hk:key.length≤64)(hl:label.length≤4096)(hc:ctx.length≤4096)(hn:n≤1024)(hi:i≤1000000):PC Tryz.prog 231 [.agg [.isl .u8 key,.isl .u8 label,.isl .u8 ctx,rI n],rI i] (.dat (.arr 32 .u8) (kblk key label ctx n i)):=by
 have hw8:IntKind.i64.wrap (8* (n:Int))=((8*n:Nat):Int):=by rw [wrapi (by omega)];omega
 refine q0w rfl rfl ?_;refine ry1 fi231 hw8 ?_;refine q0H (j0q i) ?_;refine gQ ?_;refine q0H (j0q (8*n)) ?_;refine gQ ?_;have hfl:[four i,label,[UInt8.ofNat 0],ctx,four (8*n)].flatten=four i++label++ [0]++ctx++four (8*n):=by simp
 have hfn:[four i,label,[UInt8.ofNat 0],ctx,four (8*n)].flatten.length≤1099511627776:=by
  rw [hfl];simp only [Af,z8Y,AB,Bq];omega
 have hm:=j0z key [four i,label,[UInt8.ofNat 0],ctx,four (8*n)] hk hfn (by simp)
 rw [hfl] at hm;have hkl:=q6w key label ctx n i;change PC _ _ _ (.tup [.dat (.arr 32 .u8) (kblk key label ctx n i),_]) at hm;generalize kblk key label ctx n i=kb at*;refine ⟨by decide,q0H hm ?_⟩
 have htk:List.take 32 kb=kb:=Ah (by omega)
 refine gy2 hkl htk ?_;trivial
end Go.Proofs.YtmapiojgmbgbgaaGreatDoor
