/- SHA-256: contracts: Write. -/
import Derived.Test.YtmapiojgmbgbgaaGreatDoorR27
set_option linter.all false
namespace Go.Proofs.YtmapiojgmbgbgaaGreatDoor
open Go Go.Sx Go.Proofs
set_option maxRecDepth 100000
set_option maxHeartbeats 40000000
theorem z8c(m b:List UInt8)(x:HaD)(ks:List UInt8×List UInt8)(rd:Bool)(hx:HRep m x)(hl:m.length+b.length≤70368744177664):PE Tryz.prog 257 [.rptr 0 MH 0 128,.isl .u8 b] [.row MH [(ks,(x,rd))]] (.ret (rI 0)) [.row MH [(ks,(wrS m x b,rd))]]:=by
 obtain ⟨st,rest,n⟩:=x;obtain rfl:n=(m.length:Int):=hx.n;have h2:rest.length=64:=hx.rest;have h3:st.length=8:=hx.len;have h4:m.length≠0→st=foldB hS0 m (m.length / 64):=hx.st;have h5:rest.take (m.length%64)=m.drop (64* (m.length / 64)):=hx.tail;have hmt:=tmod64 m.length;have hmw:IntKind.i64.wrap ((m.length:Int)+ (b.length:Int))=((m.length+b.length:Nat):Int):=by rw [wrapi (by omega)];omega
 have hme:(m++b).length=m.length+b.length:=Ae;refine q0b (Af _) ?_;refine q4r fi257 ?_;by_cases c0:m.length=0
 · have hm0:m= []:=Bj.1 c0;have hz:((m.length:Int)=0)=True:=eq_true (by omega)
   have hu:(0< ((m.length%64:Nat):Int))=False:=eq_false (by omega)
   refine gy1 hz ?_;refine q3q (t:=.arr 8 (.int .u32)) (x:=dat_sha_start) (ag:=some 8) (s:=.dat (.arr 8 (.int .u32)) dat_sha_start) (by unfold datList;repeat (first|exact .head _|apply List.Mem.tail)) rfl (.inr rfl) ?_
   refine gy3 hmt hmw hu ?_;have hst1:inWs hS0:=q6a;have hpre:([]:List UInt8).length=64*0:=rfl;have happ:[]++b=m++b:=by rw [hm0]
   have hrr:wrR m rest b=splice rest 0 (b.drop (64* (b.length / 64))):=q6h (by omega)
   refine ⟨by decide,?_⟩
   refine q0x (ι:=Nat) (fun i=>[(1,.isl .u8 (b.drop (64*i)))]) (fun i=>[.row MH [(ks,((foldB hS0 b i,(rest,((m.length+b.length:Nat):Int))),rd))]]) (fun i=>b.length / 64-i) (fun i=>i≤b.length / 64) 0 (Al _) ?_ ?_ ?_
   · rfl
   · with_reducible refine sxE ?_;trivial
   intro i hi;have hv:inWs (foldB hS0 b i):=q1q hst1 _ _;have hdl:(b.drop (64*i)).length=b.length-64*i:=Ak;by_cases hlt:i<b.length / 64
   · have hbl:(List.take 64 (b.drop (64*i))).length=64:=by rw [Aw];omega
     have hbe:List.take 64 (b.drop (64*i))=blkAt b i:=by
      unfold blkAt;rw [BB];congr 1;omega
     have hdd:List.drop 64 (List.take (b.length-64*i) (b.drop (64*i)))=b.drop (64* (i+1)):=by
      rw [Ah (by omega),Bp];congr 1
     have hc:(64≤((b.length-64*i:Nat):Int))=True:=eq_true (by omega)
     refine uQ 11 _ ?_;with_reducible refine sy2 hdl hc ?_
     refine q2D [] mixed ?_;refine gQ ?_;refine ⟨by omega,?_⟩
     refine q0F [0] (z6F (List.take 64 (b.drop (64*i))) ks (rest,((m.length+b.length:Nat):Int)) rd _ hbl hv) rfl (by decide) (by repeat first|exact trivial|exact rfl|refine And.intro ?_ ?_) rfl rfl (fun _ h=>by cases h) ?_
     simp only [afterR,Out.ren,SV.ren,mgA,sig,SObj.ren,SV.renL,List.set,List.map,Aj];refine gy1 hdl ?_;rw [hdd];refine ⟨⟨by omega,by omega⟩,i+1,hlt,by dsimp only;omega,?_,?_⟩
     · rw [hbe];rfl
     with_reducible refine sxE ?_;trivial
   obtain rfl:i=b.length / 64:=by omega
   have hc:(64≤((b.length-64* (b.length / 64):Nat):Int))=False:=eq_false (by omega)
   have hk0:min (b.length-64* (b.length / 64)) 64=b.length-64* (b.length / 64):=by omega
   refine gy3 hdl hc hk0 ?_;rw [Ah (l:=b.drop (64* (b.length / 64))) (by omega)]
   repeat (with_reducible refine And.intro (by first|omega|exact ⟨by omega,by omega⟩) ?_)
   exact congrArg (fun x=>SObj.row MH [(ks,(x,rd))]) (q3X (x:=(st,rest,(m.length:Int))) hpre happ hrr)

 have hz:((m.length:Int)=0)=False:=eq_false (by omega)
 have hst:=h4 c0;have hst1:inWs st:=hst▸q1q q6a _ _;by_cases c1:0<m.length%64
 · have hu:(0< ((m.length%64:Nat):Int))=True:=eq_true (by omega)
   by_cases c2:m.length%64+b.length<64
   · have hk:min b.length (64-m.length%64)=b.length:=by omega
     have hw2:IntKind.i64.wrap (((m.length%64:Nat):Int)+ (b.length:Int))=((m.length%64+b.length:Nat):Int):=by rw [wrapi (by omega)];omega
     have hs:(((m.length%64+b.length:Nat):Int) <64)=True:=eq_true (by omega)
     refine uQ 600 _ ?_;simp (maxSteps:=3000000) only [hz,hmt,hmw,hu,hk,hw2,hs,AA,go_sem,↓zA,↓reduceIte,↓reduceDIte] <;>try simp only [zB]
     repeat (with_reducible refine And.intro (by first|omega|exact ⟨by omega,by omega⟩ |exact ⟨by omega,by omega,by omega⟩) ?_)
     exact congrArg (fun x=>SObj.row MH [(ks,(x,rd))]) (z0e (x:=(st,rest,(m.length:Int))) hst c2)
   have hk:min b.length (64-m.length%64)=64-m.length%64:=by omega
   have hw2:IntKind.i64.wrap (((m.length%64:Nat):Int)+ ((64-m.length%64:Nat):Int))=((64:Nat):Int):=by rw [wrapi (by omega)];omega
   have htl:(List.take (64-m.length%64) b).length=64-m.length%64:=by rw [Aw];omega
   have hfull:m.length%64+ (64-m.length%64)=64:=by omega
   have hs:(((64:Nat):Int) <64)=False:=eq_false (by omega)
   have hpre:(m++b.take (64-m.length%64)).length=64* (m.length / 64+1):=by rw [Ae,htl];omega
   have happ:m++b.take (64-m.length%64)++b.drop (64-m.length%64)=m++b:=by rw [List.append_assoc,Bb]
   obtain ⟨r1,hr1⟩:∃r1,r1=(List.take (m.length%64) rest++List.take (64-m.length%64) b++List.drop 64 rest):=⟨_,rfl⟩;have hr1l:r1.length=64:=by rw [hr1,Ae,Ae,htl,Aw,Ak];omega
   have hrr:wrR m rest b=splice r1 0 ((b.drop (64-m.length%64)).drop (64* ((b.drop (64-m.length%64)).length / 64))):=by
    unfold wrR;rw [if_neg c2,if_pos c1,hr1,z0f hpre happ];simp only [splice,htl,hfull]
   have hstD:blkS r1 st=foldB hS0 (m++b.take (64-m.length%64)) (m.length / 64+1):=by
    rw [foldB,q2R hS0 (by omega),←hst]
    congr 1;unfold blkAt;rw [Ah (by omega),Bn (by omega),←h5,hr1,show List.drop 64 rest= [] from AY (by omega),Aj]
   have hst1':inWs (blkS r1 st):=z1A;have hbl1:(List.drop (64-m.length%64) b).length=b.length- (64-m.length%64):=Ak;refine uQ 74 _ ?_;simp (maxSteps:=3000000) only [hz,hmt,hmw,hu,hk,hw2,htl,hfull,hs,go_sem,↓zA,↓reduceIte,↓reduceDIte] <;>try simp only [zB]
   rw [←hr1];refine ⟨by decide,⟨by omega,by omega,by omega⟩,by omega,?_⟩
   refine q2D [] mixed ?_;refine gQ ?_;refine ⟨⟨by omega,by omega⟩,?_⟩
   refine q0F [0] (j3O r1 ks ((m.length+b.length:Nat):Int) rd _ hr1l hst1) rfl (by decide) (by repeat first|exact trivial|exact rfl|refine And.intro ?_ ?_) rfl rfl (fun _ h=>by cases h) ?_
   simp only [afterR,Out.ren,SV.ren,mgA,sig,SObj.ren,SV.renL,List.set,List.map,Aj];refine gy1 hk ?_;rw [AA];refine ⟨⟨by omega,by omega⟩,?_⟩
   replace hst1:=hst1';refine q0x (ι:=Nat) (fun i=>[(1,.isl .u8 ((b.drop (64-m.length%64)).drop (64*i)))]) (fun i=>[.row MH [(ks,((foldB (blkS r1 st) (b.drop (64-m.length%64)) i,(r1,((m.length+b.length:Nat):Int))),rd))]]) (fun i=>(b.drop (64-m.length%64)).length / 64-i) (fun i=>i≤(b.drop (64-m.length%64)).length / 64) 0 (Al _) ?_ ?_ ?_
   · rfl
   · with_reducible refine sxE ?_;trivial
   intro i hi;have hv:inWs (foldB (blkS r1 st) (b.drop (64-m.length%64)) i):=q1q hst1 _ _;have hdl:((b.drop (64-m.length%64)).drop (64*i)).length=(b.drop (64-m.length%64)).length-64*i:=Ak;by_cases hlt:i< (b.drop (64-m.length%64)).length / 64
   · have hbl:(List.take 64 ((b.drop (64-m.length%64)).drop (64*i))).length=64:=by rw [Aw];omega
     have hbe:List.take 64 ((b.drop (64-m.length%64)).drop (64*i))=blkAt (b.drop (64-m.length%64)) i:=by
      unfold blkAt;rw [BB];congr 1;omega
     have hdd:List.drop 64 (List.take ((b.drop (64-m.length%64)).length-64*i) ((b.drop (64-m.length%64)).drop (64*i)))=(b.drop (64-m.length%64)).drop (64* (i+1)):=by
      rw [Ah (by omega),Bp];congr 1
     have hc:(64≤(((b.drop (64-m.length%64)).length-64*i:Nat):Int))=True:=eq_true (by omega)
     refine uQ 11 _ ?_;with_reducible refine sy2 hdl hc ?_
     refine q2D [] mixed ?_;refine gQ ?_;refine ⟨by omega,?_⟩
     refine q0F [0] (z6F (List.take 64 ((b.drop (64-m.length%64)).drop (64*i))) ks (r1,((m.length+b.length:Nat):Int)) rd _ hbl hv) rfl (by decide) (by repeat first|exact trivial|exact rfl|refine And.intro ?_ ?_) rfl rfl (fun _ h=>by cases h) ?_
     simp only [afterR,Out.ren,SV.ren,mgA,sig,SObj.ren,SV.renL,List.set,List.map,Aj];refine gy1 hdl ?_;rw [hdd];refine ⟨⟨by omega,by omega⟩,i+1,hlt,by dsimp only;omega,?_,?_⟩
     · rw [hbe];rfl
     with_reducible refine sxE ?_;trivial
   obtain rfl:i=(b.drop (64-m.length%64)).length / 64:=by omega
   have hc:(64≤(((b.drop (64-m.length%64)).length-64* ((b.drop (64-m.length%64)).length / 64):Nat):Int))=False:=eq_false (by omega)
   have hk0:min ((b.drop (64-m.length%64)).length-64* ((b.drop (64-m.length%64)).length / 64)) 64=(b.drop (64-m.length%64)).length-64* ((b.drop (64-m.length%64)).length / 64):=by omega
   refine gy3 hdl hc hk0 ?_;rw [Ah (l:=(b.drop (64-m.length%64)).drop (64* ((b.drop (64-m.length%64)).length / 64))) (by omega)]
   repeat (with_reducible refine And.intro (by first|omega|exact ⟨by omega,by omega⟩) ?_)
   exact congrArg (fun x=>SObj.row MH [(ks,(x,rd))]) (q3X (x:=(st,rest,(m.length:Int))) hpre happ hrr)

 have hu:(0< ((m.length%64:Nat):Int))=False:=eq_false (by omega)
 refine gy4 hz hmt hmw hu ?_;have hpre:m.length=64* (m.length / 64):=by omega
 have happ:m++b=m++b:=rfl;have hrr:wrR m rest b=splice rest 0 (b.drop (64* (b.length / 64))):=q6h (by omega)
 refine ⟨by decide,?_⟩
 refine q0x (ι:=Nat) (fun i=>[(1,.isl .u8 (b.drop (64*i)))]) (fun i=>[.row MH [(ks,((foldB st b i,(rest,((m.length+b.length:Nat):Int))),rd))]]) (fun i=>b.length / 64-i) (fun i=>i≤b.length / 64) 0 (Al _) ?_ ?_ ?_
 · rfl
 · with_reducible refine sxE ?_;trivial
 intro i hi;have hv:inWs (foldB st b i):=q1q hst1 _ _;have hdl:(b.drop (64*i)).length=b.length-64*i:=Ak;by_cases hlt:i<b.length / 64
 · have hbl:(List.take 64 (b.drop (64*i))).length=64:=by rw [Aw];omega
   have hbe:List.take 64 (b.drop (64*i))=blkAt b i:=by
    unfold blkAt;rw [BB];congr 1;omega
   have hdd:List.drop 64 (List.take (b.length-64*i) (b.drop (64*i)))=b.drop (64* (i+1)):=by
    rw [Ah (by omega),Bp];congr 1
   have hc:(64≤((b.length-64*i:Nat):Int))=True:=eq_true (by omega)
   refine uQ 11 _ ?_;with_reducible refine sy2 hdl hc ?_
   refine q2D [] mixed ?_;refine gQ ?_;refine ⟨by omega,?_⟩
   refine q0F [0] (z6F (List.take 64 (b.drop (64*i))) ks (rest,((m.length+b.length:Nat):Int)) rd _ hbl hv) rfl (by decide) (by repeat first|exact trivial|exact rfl|refine And.intro ?_ ?_) rfl rfl (fun _ h=>by cases h) ?_
   simp only [afterR,Out.ren,SV.ren,mgA,sig,SObj.ren,SV.renL,List.set,List.map,Aj];refine gy1 hdl ?_;rw [hdd];refine ⟨⟨by omega,by omega⟩,i+1,hlt,by dsimp only;omega,?_,?_⟩
   · rw [hbe];rfl
   with_reducible refine sxE ?_;trivial
 obtain rfl:i=b.length / 64:=by omega
 have hc:(64≤((b.length-64* (b.length / 64):Nat):Int))=False:=eq_false (by omega)
 have hk0:min (b.length-64* (b.length / 64)) 64=b.length-64* (b.length / 64):=by omega
 refine gy3 hdl hc hk0 ?_;rw [Ah (l:=b.drop (64* (b.length / 64))) (by omega)]
 repeat (with_reducible refine And.intro (by first|omega|exact ⟨by omega,by omega⟩) ?_)
 exact congrArg (fun x=>SObj.row MH [(ks,(x,rd))]) (q3X (x:=(st,rest,(m.length:Int))) hpre happ hrr)

theorem j0S(m:List UInt8)(x:HaD)(hx:HRep m x)(hl:m.length≤70368744177664):PC Tryz.prog 259 [.iptr HH x 0] (.dat (.arr 32 .u8) (shaS m)):=by
 have hrs:=j0k hx;obtain ⟨st,rest,n⟩:=x;obtain rfl:n=(m.length:Int):=hx.n;have h2:rest.length=64:=hx.rest;have h3:st.length=8:=hx.len;have h4:m.length≠0→st=foldB hS0 m (m.length / 64):=hx.st;have hmt:=tmod64 m.length;refine q0w rfl rfl (z2v (q6I noFG fi259 ?_))
 letI:Ghost:=topG noFG []
 by_cases c0:m.length=0
 · have hm0:m= []:=Bj.1 c0;have hz:((m.length:Int)=0)=True:=eq_true (by omega)
   refine gy1 hz ?_;refine q0a ((j3b [] (by simp)).arg ?_) ?_
   · with_reducible refine sxE ?_;trivial
   have hbl:(shaS []).length=32:=q1p _;refine gy1 hbl ?_;rw [hm0]
 have hz:((m.length:Int)=0)=False:=eq_false (by omega)
 have hst:inWs st:=(h4 c0)▸q1q q6a _ _;refine gy2 hz hmt ?_;rw [Nat.sub_zero];refine ⟨by decide,⟨by omega,by omega,by omega⟩,?_⟩
 have hrl:(List.take (m.length%64) rest).length≤70368744177664:=by rw [Aw];omega
 have hfe:bytesS (foldB st (padT (List.take (m.length%64) rest) m.length) (blksN (List.take (m.length%64) rest)))=shaS m:=hrs c0;generalize List.take (m.length%64) rest=r at*;refine cR (j0o r m.length hrl) ?_;refine j4r (smH st (padT r m.length)) (fun _ _ _=>False) rfl rfl rfl (z0y r m.length hrl hl) (fun i n args' new h=>by rw [h.1];rfl) ⟨[],?_⟩ rfl ?_ ?_ ?_
 · rw [h3,show List.drop (0+8) _=([]:List Int) from rfl,Aj]
   rfl
 · rintro i _ args' new hi ⟨G,rfl⟩ ⟨rfl,rfl⟩ L1 L2
   letI:Ghost:=pinG noFG L1
   rw [Aj];refine uQ 600 _ ?_;simp only [putL,CJ];with_reducible refine sxaE ?_
   letI:Ghost:=pinG noFG L2
   refine aQ ?_;have hbl:(blkAt (padT r m.length) i).length=64:=z0c (q9N r m.length) hi;refine eQ [1] (j3G (blkAt (padT r m.length) i) _ hbl (q1q hst _ i)) ?_;exact ⟨G,rfl⟩
 · rintro D _ ⟨G,rfl⟩
   letI:Ghost:=topG noFG [D]
   have hv:=q1q hst (padT r m.length) (blksN r);have hfl:=hv.1;generalize foldB st (padT r m.length) (blksN r)=h at*;refine gQ ?_;have htk:List.take 8 h=h:=Ah (by omega)
   rw [htk];refine ⟨by omega,q0a (z6t h hv) ?_⟩
   have hbl:=q1p h;refine gy1 hbl ?_;rw [hfe]
 rintro D i ex _ hi h;exact h.elim
theorem z5d{h k n N:Nat}{t e:Ty}{x:t.den}{ys:List e.den}(ha:t.arrAt x k=some ⟨e,N,ys⟩)(hne:t≠e)(hn:n=N)(hl:ys.length=n)(hb:n≤1125899906842624):Bor h t [x] (.csl h e k 0 n) (.isl e ys):=by
 refine .csl (p:=0+n≤N) ?_ (by omega) hb
 simp only [ownPart];rw [dif_neg hne];simp only [ha,dite_true,cast_eq,Ar];rw [Ah (by omega)]
theorem j1i{h n:Nat}{t:Ty}{xs:List t.den}(hl:xs.length=n):Bor h t xs (.osl h t 0 n) (.isl t xs):=by
 have:=Bor.osl (h:=h) (t:=t) (xs:=xs) (off:=0) (n:=n) (by omega)
 rwa [Ar,Ah (by omega)] at this
theorem z3s{h n:Nat}{xs:List UInt8}(hl:xs.length=n)(h0:0<n):Bor h .u8 xs (.rptr h .u8 0 0) (.iptr (.arr n .u8) xs 0):=by
 subst hl;exact .ptr (.inr ⟨rfl,rfl,rfl,h0,.rfl⟩)
theorem z9x{h:Nat}{t:Ty}{x:t.den}(hg:t.get x 0 t.size=some ⟨t,x⟩):Bor h t [x] (.rptr h t 0 0) (.iptr t x 0):=.ptr (.inl ⟨x,rfl,by rw [Bf];exact hg⟩)
theorem j0F(w:List UInt8)(c:UInt8)(_hw:w.length=64):PC Tryz.prog 255 [.raw (.int .u8 c.toNat),.iptr (.arr 64 .u8) w 0] (.dat (.arr 64 .u8) (hkP w c 64)):=by
 refine q0w rfl rfl ?_;refine rQ fi255 ?_;refine q0x (ι:=Nat) (fun i=>[(7,rI i)]) (fun i=>[.row .u8 (hkP w c i)]) (fun i=>64-i) (fun i=>i≤64) 0 (Al _) (by rw [z8N];first|done|rfl) ?_ ?_
 · with_reducible refine sxE ?_;trivial
 intro i hi;have hwr:=wsx i (by omega)
 have hpl:=q9R w c i;by_cases h64:i<64
 · have hx8:=xor8 (w.getD i 0) c;refine gyd3 hpl hx8 Ac ?_;refine ⟨fun _=>⟨⟨by omega,h64⟩,⟨by omega,h64⟩,⟨h64,by rw [UInt8.ofNat_toNat]⟩,i+1,h64,by dsimp only;omega,?_,?_⟩,fun h=>absurd h (by omega)⟩
   · rw [CQ,j2c w c h64]
   with_reducible refine sx1 hwr ?_;trivial
 obtain rfl:i=64:=by omega
 refine gy2 hpl Ac ?_;refine ⟨fun h=>absurd h (by omega),fun _=> ?_⟩
 have e:List.take 64 (hkP w c 64)++List.drop (List.take 64 (hkP w c 64)).length (hkP w c 64)=hkP w c 64:=by
  rw [Ah (by omega),hpl,AY (by omega),Aj]
 rw [e,if_pos hpl];exact ⟨_,rfl,rfl⟩
def hz0:HaD:=(List.replicate 8 0,List.replicate 64 0,0)
theorem q9J:HRep [] hz0:=z8y
theorem j2d(o i:List UInt8)(x:HaD)(rd:Bool)(hi:i.length=64):PE Tryz.prog 256 [.rptr 0 MH 0 0] [.row MH [((o,i),(x,rd))]] (.ret (.dat HH (wrS [] hz0 i))) [.row MH [((o,i),(x,rd))]]:=by
 refine q0b (Af _) ?_;refine rQ fi256 ?_;refine ⟨⟨by decide,by decide⟩,?_⟩
 refine q0H [1,0] (z2o (t:=MH) (xs:=[((o,i),(x,rd))]) (z1O [] i hz0 q9J (by simp;omega)) rfl rfl rfl rfl (by simp) (.cons (.keep rfl) (.cons (z5d rfl (by decide) rfl hi (by decide)) .nil))) rfl (by decide) (by repeat first|exact trivial|exact rfl|refine And.intro ?_ ?_) rfl rfl ?_
 simp only [afterO,Out.ren,SV.ren,mgA,sig,SObj.ren,SV.renL,List.set,List.map,Aj,Ay,Au];refine gQ ?_;trivial
theorem z9k(o i d:List UInt8)(x:HaD)(rd:Bool)(ho:o.length=64)(hd:d.length=32):PE Tryz.prog 258 [.rptr 0 MH 0 0,.dat (.arr 32 .u8) d] [.row MH [((o,i),(x,rd))]] (.ret (.dat (.arr 32 .u8) (shaS (o++d)))) [.row MH [((o,i),(x,rd))]]:=by
 refine q0b (Af _) ?_;refine rQ fi258 ?_;refine ⟨⟨by decide,by decide⟩,?_⟩
 refine q0H [3,0] (z2o (t:=MH) (xs:=[((o,i),(x,rd))]) (z1O [] o hz0 q9J (by simp;omega)) rfl rfl rfl rfl (by simp) (.cons (.keep rfl) (.cons (z5d rfl (by decide) rfl ho (by decide)) .nil))) rfl (by decide) (by repeat first|exact trivial|exact rfl|refine And.intro ?_ ?_) rfl rfl ?_
 simp only [afterO,Out.ren,SV.ren,mgA,sig,SObj.ren,SV.renL,List.set,List.map,Aj,Ay,Au];have hr1:HRep o (wrS [] hz0 o):=q9K q9J;have hr2:HRep (o++d) (wrS o (wrS [] hz0 o) d):=q9K hr1;generalize wrS [] hz0 o=y1 at*;generalize hy:wrS o y1 d=y at*;have hw2:=hy▸z1O o d y1 hr1 (by omega)
 refine gQ ?_;refine ⟨⟨by decide,by decide⟩,?_⟩
 refine q0H [3,1] (z2o (t:=.u8) (xs:=d) hw2 (by simp only [AC,BG]) rfl rfl rfl (by omega) (.cons (.keep rfl) (.cons (j1i hd) .nil))) rfl (by decide) (by repeat first|exact trivial|exact rfl|refine And.intro ?_ ?_) rfl rfl ?_
 simp only [afterO,Out.ren,SV.ren,mgA,sig,SObj.ren,SV.renL,List.set,List.map,Aj,Ay,Au];refine gQ ?_;refine q0H [3] (q6m (t:=HH) (xs:=[y]) (j0S (o++d) y hr2 (by simp;omega)) rfl (by simp) (.cons (z9x rfl) .nil)) rfl (by decide) (by repeat first|exact trivial|exact rfl|refine And.intro ?_ ?_) rfl rfl ?_
 simp only [afterO,Out.ren,SV.ren,mgA,sig,SObj.ren,SV.renL,List.set,List.map,Aj,Ay,Au];have hsl:(shaS (o++d)).length=32:=q1p _;refine gy1 hsl ?_;trivial
def padK(k:List UInt8):List UInt8:=hkC k++List.replicate (64- (hkC k).length) 0
theorem j0X(k:List UInt8):(hkC k).length≤64:=by
 unfold hkC;split
 · have:(shaS k).length=32:=q1p _;omega
 omega
theorem z9T(k:List UInt8):(padK k).length=64:=by
 have:=j0X k;unfold padK;rw [Ae,BO];omega
theorem z5e(k:List UInt8)(c:UInt8):hkP (padK k) c 64=hkS k c:=by
 unfold hkS hkP;apply CI;intro i hi;have hi':i<64:=B7.1 hi;rw [if_pos hi',if_pos hi'];congr 1;unfold padK;rw [Ad,Ad];rcases AB i (hkC k).length with h|h
 · rw [Ag h]
 rw [Ap h,AT h,List.getElem?_replicate];split<;>rfl
def macI(k:List UInt8):(List UInt8×List UInt8)×(HaD×Bool):=((hkS k 92,hkS k 54),(wrS [] hz0 (hkS k 54),true))
theorem j2m{ty:Ty}{x:ty.den}{v:Value}{H':List SObj}{h:Nat}(hH:H'[h]?=some (.row ty [x])):Weak 0 (fun o' H''=>o'= .ret (.tup [.rptr 0 ty 0 0,.raw v])∧H''= [.row ty [x]]) (.ret (.tup [.rptr h ty 0 0,.raw v])) H':=
 ⟨fun _=>h,.tup [.rptr 0 ty 0 0,.raw v],.tup [.rptr 0 ty 0 0,.raw v],[.row ty [x]],⟨⟨rfl,trivial⟩,⟨hH,trivial⟩,rfl,rfl,rfl,rfl,Al _,fun _ h0=>absurd h0 (BR 0)⟩,.inl (.inl rfl),⟨rfl,rfl⟩⟩
abbrev HTT:Ty:=HH 
abbrev MTT:Ty:=MH 
theorem j3u(k:List UInt8)(hk:k.length≤64):PE Tryz.prog 225 [.isl .u8 k] [] (.ret (.tup [.rptr 0 MH 0 0,rI 0])) [.row MH [macI k]]:=by
 have c1:(4096< (k.length:Int))=False:=eq_false (by omega)
 have c2:(64< (k.length:Int))=False:=eq_false (by omega)
 have hkc:hkC k=k:=if_neg (by omega)
 have hkm:min k.length 64=k.length:=by omega
 have hpl:=z9T k;refine j4w ?_;refine q4r fi225 ?_;refine uQ 600 _ ?_;simp (maxSteps:=3000000) only [c1,c2,hkm,AA,go_sem,↓zA,↓reduceIte,↓reduceDIte] <;>try simp only [zB]
 have hrow:∀l,l=List.replicate 64 (0:UInt8)→k++List.drop (0+k.length) l=padK k:=fun l hl=>by
  subst hl;unfold padK;rw [hkc,Ac,List.drop_replicate]
 rw [hrow]
 case a=>rfl
 refine ⟨⟨by decide,by decide⟩,by omega,?_⟩
 refine q0H [0] (q6m (t:=.u8) (xs:=padK k) (j0F (padK k) 92 hpl) rfl (by omega) (.cons (.keep rfl) (.cons (z3s hpl (by decide)) .nil))) rfl (by decide) (by repeat first|exact trivial|exact rfl|refine And.intro ?_ ?_) rfl rfl ?_
 simp only [afterO,Out.ren,SV.ren,mgA,sig,SObj.ren,SV.renL,List.set,List.map,Aj,Ay,Au];refine gQ ?_;refine q0H [0] (q6m (t:=.u8) (xs:=padK k) (j0F (padK k) 54 hpl) rfl (by omega) (.cons (.keep rfl) (.cons (z3s hpl (by decide)) .nil))) rfl (by decide) (by repeat first|exact trivial|exact rfl|refine And.intro ?_ ?_) rfl rfl ?_
 simp only [afterO,Out.ren,SV.ren,mgA,sig,SObj.ren,SV.renL,List.set,List.map,Aj,Ay,Au];rw [z5e,z5e];refine gQ ?_;refine eQ [1] (j2d (hkS k 92) (hkS k 54) _ true (q9R _ _ _)) ?_;exact j2m rfl
theorem z8J(m b:List UInt8)(ks:List UInt8×List UInt8)(x:HaD)(hx:HRep m x)(hl:m.length+b.length≤70368744177664):PE Tryz.prog 226 [.rptr 0 MH 0 0,.isl .u8 b] [.row MH [(ks,(x,true))]] (.ret (rI 0)) [.row MH [(ks,(wrS m x b,true))]]:=by
 refine q0b (Af _) ?_;refine rQ fi226 ?_;refine eQ [0] (z8c m b x ks true hx hl) ?_;trivial
theorem j3y(m:List UInt8)(o i:List UInt8)(x:HaD)(hx:HRep m x)(hl:m.length≤70368744177664)(ho:o.length=64):PE Tryz.prog 227 [.rptr 0 MH 0 0] [.row MH [((o,i),(x,true))]] (.ret (.tup [.dat (.arr 32 .u8) (shaS (o++shaS m)),rI 0])) [.row MH [((o,i),(x,true))]]:=by
 have hsl:(shaS m).length=32:=q1p _;have hsl2:(shaS (o++shaS m)).length=32:=q1p _;have hg:RLies MTT [((o,i),(x,true))] (0*MTT.size+128) HTT x:=.inl ⟨_,rfl,rfl⟩;refine q0b (Af _) ?_;refine q4r fi227 ?_;refine uQ 21 _ ?_;with_reducible refine sxE ?_
 refine q2D [0] mixed ?_;refine gQ ?_;refine q0F [0] (q6m (t:=MTT) (xs:=[((o,i),(x,true))]) (j0S m x hx hl) rfl (by simp) (.cons (.ptr hg) .nil)) rfl (by decide) (by repeat first|exact trivial|exact rfl|refine And.intro ?_ ?_) rfl rfl (fun h hh=> ?_) ?_
 · obtain rfl:h=0:=by simpa using hh
   rfl
 simp only [afterR,Out.ren,SV.ren,mgA,sig,SObj.ren,SV.renL,List.set,List.map,Aj,Ay,Au];refine gy1 hsl ?_;refine q0F [0] (z9k o i (shaS m) x true ho hsl) rfl (by decide) (by repeat first|exact trivial|exact rfl|refine And.intro ?_ ?_) rfl rfl (fun h hh=> ?_) ?_
 · obtain rfl:h=0:=by simpa using hh
   rfl
 simp only [afterR,Out.ren,SV.ren,mgA,sig,SObj.ren,SV.renL,List.set,List.map,Aj,Ay,Au];refine gy1 hsl2 ?_;trivial
def hmS(k b:List UInt8):List UInt8:=shaS (hkS k 92++shaS (hkS k 54++b))
theorem q9z(k b:List UInt8):(hmS k b).length=32:=q1p _
def mWr(k:List UInt8)(ps:List (List UInt8)):Nat→HaD
 |0=>wrS [] hz0 (hkS k 54)
 |i+1=>wrS (hkS k 54++(ps.take i).flatten) (mWr k ps i) (ps.getD i [])
theorem q7w{ps:List (List UInt8)}{i:Nat}(h:i<ps.length):(ps.take (i+1)).flatten=(ps.take i).flatten++ps.getD i []:=by
 rw [List.take_succ_eq_append_getElem h,List.flatten_append,CA,Ad,Ab h];rfl
theorem z7N(k:List UInt8)(ps:List (List UInt8)):∀i,i≤ps.length→HRep (hkS k 54++(ps.take i).flatten) (mWr k ps i)
 |0,_=>by
  have:=q9K (b:=hkS k 54) q9J;simpa [mWr] using this
 |i+1,hi=>by
  have:=q9K (b:=ps.getD i []) (z7N k ps i (by omega))
  rw [List.append_assoc,←q7w (by omega)] at this
  exact this
theorem q2a:∀ (ps:List (List UInt8)) (i:Nat),(ps.take i).flatten.length≤ps.flatten.length
 | [],i=>by simp
 |p :: ps,0=>by simp
 |p :: ps,i+1=>by simp only [Ch,AD,Ae];have:=q2a ps i;omega
theorem j0I(k:List UInt8)(ps:List (List UInt8))(hk:k.length≤64)(hp:ps.flatten.length≤1099511627776)(hpl:ps.length≤1099511627776):PC Tryz.prog 196 [.isl .u8 k,.isl (.slice .u8) ps] (.tup [.dat (.arr 32 .u8) (hmS k ps.flatten),rI 0]):=by
 refine q0w rfl rfl ?_;refine q4r fi196 ?_;refine gQ ?_;refine eQ [] (j3u k hk) ?_;refine q0x (ι:=Nat) (fun i=>[(21,rI i)]) (fun i=>[.row .u8 (List.replicate 32 0),.row MH [((hkS k 92,hkS k 54),(mWr k ps i,true))]]) (fun i=>ps.length-i) (fun i=>i≤ps.length) 0 (Al _) rfl ?_ ?_
 · with_reducible refine sxE ?_;trivial
 intro i hi;have hrep:=z7N k ps i hi;have hwr:=wsx i (by omega)
 have hfl:=q2a ps i;have hil:(hkS k 54).length=64:=q9R _ _ _;by_cases h:i<ps.length
 · have hf1:=q7w h;have hfl1:=q2a ps (i+1);rw [hf1,Ae] at hfl1;refine gQ ?_;refine ⟨fun _=>⟨⟨by omega,h⟩,?_⟩,fun hh=>absurd h hh⟩
   refine eQ [1] (z8J (hkS k 54++(ps.take i).flatten) (ps.getD i []) (hkS k 92,hkS k 54) _ hrep (by rw [Ae];omega)) ?_
   refine ⟨i+1,h,by dsimp only;omega,rfl,?_⟩
   with_reducible refine sx1 hwr ?_;trivial
 obtain rfl:i=ps.length:=by omega
 rw [AA] at hrep;have hsl:(shaS (hkS k 92++shaS (hkS k 54++ps.flatten))).length=32:=q1p _;refine gQ ?_;refine ⟨fun hh=>absurd hh (by omega),fun _=> ?_⟩
 refine q0H [1] (j3y (hkS k 54++ps.flatten) (hkS k 92) (hkS k 54) _ hrep (by rw [Ae];omega) (q9R _ _ _)) rfl (by decide) (by repeat first|exact trivial|exact rfl|refine And.intro ?_ ?_) rfl rfl ?_
 simp only [afterO,Out.ren,SV.ren,mgA,sig,SObj.ren,SV.renL,List.set,List.map,Aj,hsl];refine gy1 hsl ?_;rfl
def four(n:Nat):List UInt8:=[UInt8.ofNat (n / 2^ 24%256),UInt8.ofNat (n / 2^ 16%256),UInt8.ofNat (n / 2^ 8%256),UInt8.ofNat (n / 2^ 0%256)]
theorem z9i(n:Nat):(four n).length=4:=rfl
theorem fdivN(n m:Nat)(hm:m≤64):((n:Int).fdiv (2^ min m 64))=((n / 2^ m:Nat):Int):=by
 rw [Bg hm,A8 _ (by exact_mod_cast Al (2^ m))]
 simp
theorem byteN(n m:Nat)(hm:m≤64):UInt8.ofNat (IntKind.u8.wrap ((n:Int).fdiv (2^ min m 64))).toNat=UInt8.ofNat (n / 2^ m%256):=by
 rw [fdivN n m hm];generalize n / 2^ m=m;rw [u8wrapR];congr 1
theorem byteN0(n:Nat):UInt8.ofNat (IntKind.u8.wrap (n:Int)).toNat=UInt8.ofNat (n / 2^ 0%256):=by
 rw [Nat.pow_zero,Nat.div_one,u8wrapR];congr 1
theorem j0z(n:Nat):PC Tryz.prog 261 [rI n] (.isl .u8 (four n)):=by
 refine q0q rfl rfl ?_;refine rQ fi261 ?_;refine ⟨⟨q2F _,q2F _,q2F _,q2F _⟩,?_⟩;rw [byteN _ 24 (by decide),byteN _ 16 (by decide),byteN _ 8 (by decide),byteN0]
 rfl
theorem j2w(n:Nat)(ls:List (List UInt8))(h1:1≤n)(h2:n≤1024)(hl:∀l∈ls,l.length≤4096)(hn:ls.length≤100):PC Tryz.prog 228 [rI n,.isl (.slice .u8) ls] (rB true):=by
 refine q0w rfl rfl ?_;refine rQ fi228 ?_;refine q0x (ι:=Nat) (fun i=>[(9,rI i)]) (fun i=>[]) (fun i=>ls.length-i) (fun i=>i≤ls.length) 0 (Al _) rfl ?_ ?_
 · with_reducible refine sxE ?_;trivial
 intro i hi;have hwr:=wsx i (by omega)
 by_cases h:i<ls.length
 · have hli:(ls.getD i []).length≤4096:=by
    rw [Ad,Ab h];exact hl _ (BV _)
   have hli':(4096< (((ls.getD i (Ty.dflt (.slice .u8))).length:Nat):Int))=False:=eq_false (by show ¬(4096< (((ls.getD i []).length:Nat):Int));omega)
   refine gy1 hli' ?_;refine ⟨fun _=>⟨⟨by omega,h⟩,i+1,h,by dsimp only;omega,rfl,?_⟩,fun hh=>absurd h hh⟩
   with_reducible refine sx1 hwr ?_;trivial
 obtain rfl:i=ls.length:=by omega
 refine gQ ?_;exact ⟨fun hh=>absurd hh (by omega),fun _=>⟨fun _=>by omega,fun hh=>absurd hh (by omega)⟩⟩
abbrev derT:Ty:=.prod (.slice .u8) (.prod (.slice .u8) (.prod (.slice .u8) (.int .i64)))
def kblk(key label ctx:List UInt8)(n i:Nat):List UInt8:=hmS key (four i++label++ [0]++ctx++four (8*n))
theorem q6v(key label ctx:List UInt8)(n i:Nat):(kblk key label ctx n i).length=32:=q9z _ _
theorem z9p(key label ctx:List UInt8)(n i:Nat)(hk:key.length≤64)(hl:label.length≤4096)(hc:ctx.length≤4096)(hn:n≤1024)(hi:i≤1000000):PC Tryz.prog 231 [.agg [.isl .u8 key,.isl .u8 label,.isl .u8 ctx,rI n],rI i] (.dat (.arr 32 .u8) (kblk key label ctx n i)):=by
 have hw8:IntKind.i64.wrap (8* (n:Int))=((8*n:Nat):Int):=by rw [wrapi (by omega)];omega
 refine q0w rfl rfl ?_;refine ry1 fi231 hw8 ?_;refine q0E (j0z i) ?_;refine gQ ?_;refine q0E (j0z (8*n)) ?_;refine gQ ?_;have hfl:[four i,label,[UInt8.ofNat 0],ctx,four (8*n)].flatten=four i++label++ [0]++ctx++four (8*n):=by simp
 have hfn:[four i,label,[UInt8.ofNat 0],ctx,four (8*n)].flatten.length≤1099511627776:=by
  rw [hfl];simp only [Ae,z9i,AC,BG];omega
 have hm:=j0I key [four i,label,[UInt8.ofNat 0],ctx,four (8*n)] hk hfn (by simp)
 rw [hfl] at hm;have hkl:=q6v key label ctx n i;change PC _ _ _ (.tup [.dat (.arr 32 .u8) (kblk key label ctx n i),_]) at hm;generalize kblk key label ctx n i=kb at*;refine ⟨by decide,q0E hm ?_⟩
 have htk:List.take 32 kb=kb:=Ah (by omega)
 refine gy2 hkl htk ?_;trivial
theorem z4l(x:derT.den)(hok:derT.ok x):PC Tryz.prog 230 [.fn 231 [.agg (derT.cells x)] []] (.fn 260 [] [.iptr (.clo 231 derT) x 0]):=by
 refine q0w rfl rfl ?_;refine q4r fi230 ?_;refine uQ 3 _ ?_;with_reducible refine sxE ?_
 refine q3I 1 0 (ty:=.clo 231 derT) (x:=x) rfl hok rfl rfl ?_;refine gQ ?_;trivial
def vwK(key label ctx:List UInt8)(n:Nat):Nat→Nat→List SV→List SObj→Prop:=fun i _ args' new=>args'= [rI ((i+1:Nat):Int),.isl .u8 (kblk key label ctx n (i+1))]∧new= []
theorem z1C(key label ctx:List UInt8)(n N:Nat)(hk:key.length≤64)(hl:label.length≤4096)(hc:ctx.length≤4096)(hn:n≤1024)(hN:N≤1000):IterI True Tryz.prog 260 [] [.iptr (.clo 231 derT) (key,label,ctx,(n:Int)) 0] N (vwK key label ctx n):=by
 refine ⟨by kernel_rfl,fun l B J hJ yg hno=> ?_⟩
 refine (q6I (yFG hJ) fi260 ?_).2
 letI:Ghost:=topG (yFG hJ) []
 refine gQ ?_;refine z6z [] (fun i=>i) (fun i=>[(3,rI ((i+1:Nat):Int))]) N (fun _=>True) trivial rfl (by simp) (by simp [SV.bel]) ?_ fun i hi _=> ?_
 · with_reducible refine sxE ?_
   rfl
 by_cases hlt:i<N
 · have hwr:IntKind.i64.wrap (((i+1:Nat):Int)+1)=((i+1+1:Nat):Int):=q2U (by omega)
   refine gQ ?_;refine q0a (z9p key label ctx n (i+1) hk hl hc hn (by omega)) ?_
   have hbl:=q6v key label ctx n (i+1);generalize hb:kblk key label ctx n (i+1)=b at*;refine uQ 8 _ ?_;with_reducible refine sx1 hbl ?_
   refine ⟨⟨by decide,by decide⟩,?_⟩
   refine q1u 1 rfl rfl (by rw [hbl];decide) ?_ ?_ ?_
   · with_reducible refine sxE ?_;trivial
   · with_reducible refine sxE ?_
     omega
   with_reducible refine sxE ?_
   have htk:List.take 32 (List.drop 0 b)=b:=by rw [Ar];exact Ah (by omega)
   refine gy1 htk ?_;refine q4R [.dead] hJ yg hlt (fun n=>⟨_,_,⟨by rw [hb,Ah (show b.length≤32 by omega)],rfl⟩,q2W rfl⟩) fun c=> ?_
   cases c
   · refine gQ ?_;exact ⟨_,_,rfl,rfl,by omega⟩
   refine gQ ?_;refine ⟨hlt,trivial,⟨[_],rfl⟩,?_⟩;with_reducible refine sx1 hwr ?_;trivial
 obtain rfl:i=N:=by omega
 exact z9O hJ (hno trivial)
def kacc(key label ctx:List UInt8)(n:Nat):Nat→List UInt8
 |0=>[]
 |i+1=>kacc key label ctx n i++kblk key label ctx n (i+1)
theorem q6w(key label ctx:List UInt8)(n:Nat):∀i,(kacc key label ctx n i).length=32*i
 |0=>rfl
 |i+1=>by rw [kacc,Ae,q6w key label ctx n i,q6v];omega
def kdfS(key label ctx:List UInt8)(n:Nat):List UInt8:=(kacc key label ctx n ((n+31) / 32)).take n
theorem z3J(key label ctx:List UInt8)(n:Nat):(kdfS key label ctx n).length=n:=by
 unfold kdfS;rw [Aw,q6w];omega
def frC(n i:Nat)(G:List SObj)(acc:List UInt8):List SObj:=.cells 3 [rI n] :: .cells 29 [.bld (G.length+2) .u8 (32*i)] :: (G++ [.row .u8 acc])
def frH(key label ctx:List UInt8)(n:Nat)(i:Nat)(H':List SObj):Prop:=i< (n+31) / 32∧∃G,(∃g,G=List.replicate g SObj.dead)∧H'=frC n i G (kacc key label ctx n i)
def frX(key label ctx:List UInt8)(n:Nat)(i:Nat)(ex:Ex)(H':List SObj):Prop:=ex= .exit 0∧i+1=(n+31) / 32∧∃G,(∃g,G=List.replicate g SObj.dead)∧H'=frC n (i+1) G (kacc key label ctx n (i+1))
theorem q7p{h:Nat}{t:Ty}{xs:List t.den}{l:List SObj}:∀g,frzObH h t xs l→frzObH h t xs (List.replicate g SObj.dead++l)
 |0,hl=>hl
 |g+1,hl=>⟨trivial,q7p g hl⟩
theorem j1t(key label ctx:List UInt8)(n:Nat)(hk:key.length≤64)(hl:label.length≤4096)(hc:ctx.length≤4096)(h1:1≤n)(hn:n≤1024):PC Tryz.prog 229 [rI n,.fn 260 [] [.iptr (.clo 231 derT) (key,label,ctx,(n:Int)) 0]] (.isl .u8 (kdfS key label ctx n)):=by
 refine q0w rfl rfl (z2v (q6I noFG fi229 ?_))
 letI:Ghost:=topG noFG []
 refine gQ ?_;refine q3Y 1 0 .u8 rfl rfl rfl ?_;have hN:(n+31) / 32≤1000:=by omega
 refine j0m (inf:=True) (frH key label ctx n) (frX key label ctx n) rfl rfl rfl (z1C key label ctx n ((n+31) / 32) hk hl hc hn hN) (fun _ Hn h=>absurd h.1 (BR _)) (fun i n args' new h=>by rw [h.1];rfl) ⟨by omega,[],⟨0,rfl⟩,rfl⟩ rfl ?_ ?_ ?_
 · rintro i _ args' new hi ⟨hlt,G,⟨g,hg⟩,rfl⟩ ⟨rfl,rfl⟩ L1 L2
   letI:Ghost:=pinG noFG L1
   rw [Aj];have hal:=q6w key label ctx n i;have hbl:=q6v key label ctx n (i+1);have hac:kacc key label ctx n i++kblk key label ctx n (i+1)=kacc key label ctx n (i+1):=rfl;generalize hka:kacc key label ctx n i=a at*;generalize hkb:kblk key label ctx n (i+1)=b at*;unfold frC;refine uQ 600 _ ?_;simp only [putL,CJ];with_reducible refine sxaE ?_
   letI:Ghost:=pinG noFG L2
   refine gya2 hal hbl ?_;refine ⟨⟨by omega,by omega⟩,fun h=>⟨rfl,by omega,G++ [.dead],⟨g+1,by rw [hg,CG]⟩,?_⟩,fun h=>⟨by omega,G++ [.dead],⟨g+1,by rw [hg,CG]⟩,?_⟩⟩
   · rw [←hac];simp [frC,CO]
   rw [←hac];simp [frC,CO]
 · rintro D _ ⟨h,_⟩;exact absurd h (BR _)
 rintro D i ex _ hi ⟨rfl,hiN,G,⟨g,hg⟩,rfl⟩;refine ⟨_,rfl,?_⟩;unfold frC
 letI:Ghost:=topG noFG [D]
 have hal:=q6w key label ctx n (i+1);have hke:List.take n (kacc key label ctx n (i+1))=kdfS key label ctx n:=by rw [hiN];rfl
 generalize kacc key label ctx n (i+1)=a at*;refine uQ 5 _ ?_;with_reducible refine sxaE ?_
 refine ⟨⟨by omega,by omega⟩,?_⟩
 refine q1u (G.length+2) (ty:=.u8) (xs:=a) rfl (by simp) (by omega) ?_ ?_ ?_
 · with_reducible refine sxaE ?_
   refine ⟨by omega,?_⟩
   rw [hg];exact q7p g ⟨trivial,trivial⟩
 · with_reducible refine sxaE ?_
   exact ⟨by omega,by omega⟩
 with_reducible refine sxaE ?_
 rw [Nat.sub_zero,hke];have hkl:(kdfS key label ctx n).length=n:=z3J _ _ _ _;refine aQ ?_;refine q0a (q9U (kdfS key label ctx n) (by omega)) ?_
 refine aQ ?_;trivial
theorem j4x(key label ctx:List UInt8)(n:Nat)(hk:key.length≤64)(hl:label.length≤4096)(hc:ctx.length≤4096)(h1:1≤n)(hn:n≤1024):PC Tryz.prog 198 [.isl .u8 key,.isl .u8 label,.isl .u8 ctx,rI n] (.tup [.isl .u8 (kdfS key label ctx n),rI 0]):=by
 have hal:=j2w n [key,label,ctx] h1 hn (fun l hl'=>by simp at hl';rcases hl' with rfl|rfl|rfl<;>omega) (by simp)
 refine q0w rfl rfl ?_;refine rQ fi198 ?_;refine q0z 0 ?_;with_reducible refine sxE ?_
 refine cQ hal ?_;refine cQ (z4l (key,label,ctx,(n:Int)) ⟨⟨show key.length≤1125899906842624 by omega,fun _ _=>trivial⟩,⟨show label.length≤1125899906842624 by omega,fun _ _=>trivial⟩,⟨show ctx.length≤1125899906842624 by omega,fun _ _=>trivial⟩,trivial⟩) ?_
 refine cQ (j1t key label ctx n hk hl hc h1 hn) ?_;trivial
theorem j4l(n:Nat):PC Tryz.prog 199 [rI n] (.isl .u8 (four n)):=by
 refine q0q rfl rfl ?_;refine rQ fi199 ?_;refine ⟨⟨q2F _,q2F _,q2F _,q2F _⟩,?_⟩;rw [byteN _ 24 (by decide),byteN _ 16 (by decide),byteN _ 8 (by decide),byteN0]
 rfl
theorem j0w(ls:List (List UInt8))(hl:ls.flatten.length≤1099511627776)(hn:ls.length≤1099511627776):PC Tryz.prog 148 [.isl (.slice .u8) ls] (.isl .u8 ls.flatten):=by
 refine q0q rfl rfl ?_;refine rQ fi148 ?_;refine q3G 3 .u8 (fun i=>(ls.take i).flatten) (fun i=>[(8,rI i)]) ls.length (fun _=>True) rfl (by simp) (by simp) rfl (fun i=>rfl) ?_ fun i hi _=> ?_
 · with_reducible refine sxE ?_;trivial
 have hwr:=wsx i (by omega)
 have hfl:=q2a ls i;by_cases h:i<ls.length
 · have hf1:=q7w h;have hfl1:=q2a ls (i+1);rw [hf1,Ae] at hfl1;have hfl2:(ls.take i).flatten.length+ (ls.getD i (Ty.dflt (.slice .u8))).length≤ls.flatten.length:=hfl1;refine gQ ?_;refine ⟨fun _=>⟨⟨by omega,h⟩,⟨by omega,by omega⟩,q2g [.dead] [] h trivial (by rw [hf1];rfl) ?_⟩,fun hh=>absurd h hh⟩
   with_reducible refine sx3 hwr hf1 ?_
   rfl
 obtain rfl:i=ls.length:=by omega
 rw [AA] at*;refine gQ ?_;refine ⟨fun hh=>absurd hh (by omega),fun _=> ?_⟩
 exact ⟨⟨by omega,by omega⟩,AA⟩
theorem z9j(k:List UInt8)(ps:List (List UInt8))(hk:k.length≤64)(hp:ps.flatten.length≤1099511627776)(hpl:ps.length≤1099511627776):PC Tryz.prog 146 [.isl .u8 k,.isl (.slice .u8) ps] (.isl .u8 (hmS k ps.flatten)):=by
 have hsl:=q9z k ps.flatten;refine q0q rfl rfl ?_;refine rQ fi146 ?_;refine cy1 (j0I k ps hk hp hpl) hsl ?_;exact ⟨⟨by decide,by decide⟩,Ah (by omega)⟩
def dkS(k:KeyT.den)(u use:Nat):List UInt8:=kdfS k.2.2 (four u++ [UInt8.ofNat use]) [] k.2.2.length
theorem j2U(k:KeyT.den)(u use:Nat):(dkS k u use).length=k.2.2.length:=z3J _ _ _ _
theorem z7U(k:KeyT.den)(u:Nat)(hk:k.2.2.length≤64):PC Tryz.prog 147 [.agg (KeyT.cells k),rI u] (.fn 197 [] [.iptr KeyT k 0,.iptr (.int .i64) (u:Int) 0]):=by
 refine q0w rfl rfl ?_;refine q4r fi147 ?_;refine uQ 4 _ ?_;with_reducible refine sxE ?_
 refine q3I 2 0 (ty:=KeyT) (x:=k) rfl ⟨trivial,trivial,⟨by omega,fun _ _=>trivial⟩⟩ rfl rfl ?_
 refine q3I 3 1 (ty:=.int .i64) (x:=(u:Int)) rfl trivial rfl rfl ?_;refine gQ ?_;trivial
theorem z7h(k:KeyT.den)(u use:Nat)(hk:k.2.2.length≤64)(h1:1≤k.2.2.length)(hu:use<256):PC Tryz.prog 197 [.raw (.int .u8 use),.iptr KeyT k 0,.iptr (.int .i64) (u:Int) 0] (.isl .u8 (dkS k u use)):=by
 obtain ⟨p,v,b⟩:=k;have hbl:b.length≤64:=hk;have hb1:1≤b.length:=h1;refine q0w rfl rfl ?_;refine rQ fi197 ?_;refine q0E (j4l u) ?_;refine gQ ?_;have hj:=j0w [four u,[UInt8.ofNat use]] (by simp [four]) (by simp)
 rw [show [four u,[UInt8.ofNat use]].flatten=four u++ [UInt8.ofNat use] by simp] at hj
 refine ⟨by rw [Cr];omega,?_⟩
 refine q0I 0 (by decide) ?_
 with_reducible refine sxE ?_
 refine cR hj ?_;refine q0l ((j4x b (four u++ [UInt8.ofNat use]) [] b.length hbl (by simp [four]) (by simp) hb1 (by omega)).arg ?_) ?_
 · with_reducible refine sxE ?_;trivial
 refine gQ ?_;rfl
def uOk(k:Key)(u:Int):Bool:=vKey k&& (decide (1≤u) && decide (u≤1023))
theorem z9u(k:Key)(u:Int)(ho:KeyT.ok k):PC Tryz.prog 145 [.agg (KeyT.cells k),rI u] (.tup [.agg (rawL (if uOk k u=true then kindOf k.1 else kindZ)),rI (if uOk k u=true then 0 else 2)]):=by
 have hf:=j0L k;obtain ⟨p,v,b⟩:=k;refine q0w rfl (by simp [SV.clean,SV.cleanL,q4v]) ?_
 change PC _ _ _ (.tup [.agg (rawL (kindOf p)),rB (vKey (p,v,b))]) at hf;unfold uOk;show VC _ _ _ _ (PK (.tup [.agg (rawL (if (vKey (p,v,b) && (decide (1≤u) && decide (u≤1023)))=true then kindOf p else kindZ)),_]));generalize vKey (p,v,b)=vb at*;have h3:=q5U p;generalize kindOf p=kv at*;rcases h3 with rfl|rfl|rfl
 all_goals
  cases vb
  · refine rQ fi145 ?_;refine cQ hf ?_;trivial
  by_cases h1:1≤u
  · have h1':(u<1)=False:=eq_false (by omega)
    by_cases h2:u≤1023
    · have h2':(1023<u)=False:=eq_false (by omega)
      refine rQ fi145 ?_;refine cy4 hf h1 h2 h1' h2' ?_;trivial
    have h2':(1023<u)=True:=eq_true (by omega)
    refine rQ fi145 ?_;refine cy4 hf h1 h2 h1' h2' ?_;trivial
  have h1':(u<1)=True:=eq_true (by omega)
  refine rQ fi145 ?_;refine q0a hf ?_;refine gy2 h1 h1' ?_;trivial
theorem or8(a b:UInt8):orK .u8 (a.toNat:Int) (b.toNat:Int)=((a|||b).toNat:Int):=by
 unfold orK;have ha:=a.toNat_lt;have hb:=b.toNat_lt;have hx:a.toNat|||b.toNat<2^ 8:=Nat.or_lt_two_pow ha hb
 have e:(BitVec.ofInt IntKind.u8.bits (a.toNat:Int) |||BitVec.ofInt IntKind.u8.bits (b.toNat:Int)).toNat=a.toNat|||b.toNat:=by
  rw [Cn,AH,AH,AP,AP];rw [show 2^ IntKind.u8.bits=256 from rfl,AL ha,AL hb]
 rw [e,u8wrapR,UInt8.toNat_or];omega
def dfS(a b:List UInt8):Nat→UInt8
 |0=>0
 |i+1=>dfS a b i||| (a.getD i 0^^^ b.getD i 0)
theorem z9Y{a b:UInt8}:a|||b=0 ↔ a=0∧b=0:=by
 constructor
 · intro h;have h1:(a|||b).toNat=0:=by rw [h];rfl
   rw [UInt8.toNat_or] at h1;have ha:= @Nat.left_le_or a.toNat b.toNat;have hb:= @Nat.right_le_or a.toNat b.toNat;exact ⟨Co.1 (by show a.toNat=0;omega),Co.1 (by show b.toNat=0;omega)⟩
 rintro ⟨rfl,rfl⟩;rfl
theorem z7t{a b:UInt8}:a^^^ b=0 ↔ a=b:=UInt8.xor_eq_zero_iff
theorem z3Z(a b:List UInt8):∀i,dfS a b i=0 ↔ ∀j,j<i→a.getD j 0=b.getD j 0
 |0=>by simp [dfS]
 |i+1=>by
  rw [dfS,z9Y,z3Z a b i,z7t];constructor
  · rintro ⟨h1,h2⟩ j hj;by_cases e:j=i
    · subst e;exact h2
    exact h1 j (by omega)
  intro h;exact ⟨fun j hj=>h j (by omega),h i (by omega)⟩
theorem j4p{a b:List UInt8}(h:a.length=b.length):dfS a b a.length=0 ↔ a=b:=by
 rw [z3Z];constructor
 · intro h1;apply AO h;intro j h2 h3;have:=h1 j h2;rw [Ad,Ad,Ab h2,Ab h3] at this;exact this
 rintro rfl j _;rfl
theorem j2X(a b:List UInt8)(ha:a.length≤1099511627776)(hb:b.length≤1099511627776):PC Tryz.prog 216 [.isl .u8 a,.isl .u8 b] (rB (decide (a=b))):=by
 refine q0w rfl rfl ?_;by_cases hl:a.length=b.length
 · have hl':((a.length:Int)=(b.length:Int))=True:=eq_true (by omega)
   refine ry1 fi216 hl' ?_;refine q0x (ι:=Nat) (fun i=>[(14,rI i),(5,.raw (.int .u8 (dfS a b i).toNat))]) (fun i=>[]) (fun i=>a.length-i) (fun i=>i≤a.length) 0 (Al _) rfl ?_ ?_
   · with_reducible refine sxE ?_
     rfl
   intro i hi;have hwr:=wsx i (by omega)
   by_cases h:i<a.length
   · have hx:=xor8 (a.getD i 0) (b.getD i 0);have ho:=or8 (dfS a b i) (a.getD i 0^^^ b.getD i 0);refine gyd3 hx ho Ac ?_;refine ⟨fun _=>⟨⟨by omega,by omega⟩,⟨by omega,by omega⟩,i+1,h,by dsimp only;omega,rfl,?_⟩,fun hh=>absurd h hh⟩
     with_reducible refine sx1 hwr ?_
     rfl
   obtain rfl:i=a.length:=by omega
   refine gQ ?_;refine ⟨fun hh=>absurd hh (by omega),fun _=> ?_⟩
   rw [decide_eq_decide,←j4p hl,←Co];exact Int.natCast_eq_zero
 have hl':((a.length:Int)=(b.length:Int))=False:=eq_false (by omega)
 refine ry1 fi216 hl' ?_;exact (decide_eq_false (fun e=>hl (by rw [e]))).symm
theorem z8s(a b:List UInt8)(ha:a.length≤1099511627776)(hb:b.length≤1099511627776):PC Tryz.prog 168 [.isl .u8 a,.isl .u8 b] (rB (decide (a=b))):=by
 refine q0w rfl rfl ?_;refine rQ fi168 ?_;refine cQ (j2X a b ha hb) ?_;trivial
def kdL(nm:ByteArray)(kl tl:Nat)(fe fd fm:FuncId):List Value:=[.string nm,.int .i64 kl,.int .i64 16,.int .i64 tl,.int .i64 tl,fnV fe,fnV fd,fnV fm]
def smS(k:Key)(u:Nat)(b:List UInt8):List UInt8:=(hmS (dkS k u 153) b).take k.2.2.length
theorem q5L(k:Key)(u:Nat)(b:List UInt8)(h:k.2.2.length≤32):(smS k u b).length=k.2.2.length:=by
 unfold smS;rw [Aw,q9z];omega
theorem z0q(nm:ByteArray)(tl:Nat)(fe fd fm:FuncId)(p v:Int)(b:List UInt8)(u:Nat)(x:List UInt8)(hu:PC Tryz.prog 145 [.agg (KeyT.cells (p,v,b)),rI u] (.tup [.agg (rawL (kdL nm tl tl fe fd fm)),rI 0]))
 (ht:tl=b.length)(hb1:1≤b.length)(hb2:b.length≤32)(hx:x.length≤1048576):PC Tryz.prog 88 [.agg (KeyT.cells (p,v,b)),rI u,.isl .u8 x] (.tup [.isl .u8 (smS (p,v,b) u x),rI 0]):=by
 unfold kdL at hu;have hkl:=j2U (p,v,b) u 153;have hb3:b.length≤64:=by omega
 have hd1:=z7h (p,v,b) u 153 hb3 hb1 (by decide)
 have hE:smS (p,v,b) u x=(hmS (dkS (p,v,b) u 153) x).take tl:=by rw [ht];rfl
 rw [hE];change _=b.length at hkl;generalize dkS (p,v,b) u 153=dk at*;have hk:=z9j dk [x] (by omega) (by simp;omega) (by simp)
 rw [CA] at hk;have hhl:=q9z dk x;generalize hmS dk x=hm at*;have hj:=j0w [hm.take tl] (by simp;omega) (by simp)
 rw [CA] at hj;refine q0q rfl rfl ?_;refine rQ fi88 ?_;refine cQ hu ?_;refine cQ (z7U (p,v,b) u hb3) ?_;refine cQ hd1 ?_;refine q0z 2 ?_;with_reducible refine sxE ?_
 refine cy1 hk B3 ?_;refine ⟨⟨by omega,Af _,by omega⟩,?_⟩
 refine q0z 3 ?_;with_reducible refine sxE ?_
 refine cQ hj ?_;trivial
theorem q6Y{k:Key}{u:Nat}(h:uOk k u=true):vKey k=true∧u≤1023∧((k.2.2.length:Nat):Int)=keyLen k.1∧k.2.2.length≤32∧(k.1=1→k.2.2.length=16)∧(k.1≠1→k.1=2∧k.2.2.length=32):=by
 unfold uOk at h;simp only [Ai,decide_eq_true_eq] at h;have hv:=h.1;unfold vKey at hv;simp only [Ai,decide_eq_true_eq] at hv;have h1:=hv.2.1;have h2:=hv.1;refine ⟨h.1,by omega,h1,?_⟩
 unfold keyLen at h1 h2
 grind
theorem j0t(k:Key)(u:Nat)(x:List UInt8)(ho:KeyT.ok k)(hu:uOk k u=true)(hx:x.length≤1048576):PC Tryz.prog 88 [.agg (KeyT.cells k),rI u,.isl .u8 x] (.tup [.isl .u8 (smS k u x),rI 0]):=by
 have hus:=z9u k u ho;rw [if_pos hu,if_pos hu] at hus;obtain ⟨_,_,_,_,h1,h2⟩:=q6Y hu;obtain ⟨p,v,b⟩:=k;dsimp only at h1 h2;by_cases hp:p=1
 · subst hp;have:=h1 rfl;exact z0q name1 16 _ _ _ 1 v b u x hus (by omega) (by omega) (by omega) hx
 obtain ⟨rfl,hl⟩:=h2 hp;exact z0q name2 32 _ _ _ 2 v b u x hus (by omega) (by omega) (by omega) hx
theorem z7I(k:Key)(u:Nat)(x s:List UInt8)(ho:KeyT.ok k)(hu:uOk k u=true)(hx:x.length≤1048576)(hs:s.length≤1099511627776):PC Tryz.prog 114 [.agg (KeyT.cells k),rI u,.isl .u8 x,.isl .u8 s] (rI (if smS k u x=s then 0 else 10)):=by
 have h:=j0t k u x ho hu hx;obtain ⟨_,_,_,hl,_⟩:=q6Y hu;have hm:=z8s (smS k u x) s (by rw [q5L k u x hl];omega) hs
 generalize smS k u x=w at*;obtain ⟨p,v,b⟩:=k;refine q0w rfl rfl ?_;refine rQ fi114 ?_;refine cQ h ?_;refine q0a hm ?_;by_cases e:w=s
 · rw [if_pos e,decide_eq_true e];refine gQ ?_;trivial
 rw [if_neg e,decide_eq_false e];refine gQ ?_;trivial
set_option maxHeartbeats 4000000
theorem z3w{v:Int}(h:0≤v∧v≤4611686018427387904):intS v≠ []:=by
 obtain ⟨c1,e1,_⟩:=q8i h;rw [e1];exact q2b
theorem z7B{k:Key}(h:vKey k=true):keyOk k:=by
 obtain ⟨a,v,c⟩:=k;simp only [vKey,keyLen,Ai,decide_eq_true_eq] at h;change Int at a v;obtain ⟨h1,h2,h3,h4⟩:=h;refine ⟨?_,⟨h3,Int.le_trans (show v≤(65535:Int) from h4) (by decide)⟩,?_⟩
 · split at h1
   · rename_i e;rw [e];decide
   split at h1
   · rename_i e;rw [e];decide
   exact absurd rfl h1
 split at h2
 · omega
 split at h2
 · omega
 omega
def pacL(p:Pac):List (List UInt8):=[prinE p.1,timeS p.2.1,intS p.2.2.1,listS (t:=I64) intS p.2.2.2.1,listS (t:=PrinT) prinE p.2.2.2.2]
theorem j0u{v:Int}(h:vNum v=true):0≤v∧v≤2147483647:=by
 simpa only [vNum,mIn,Ai,decide_eq_true_eq] using h
theorem j3F{l:List Int}(h:allN l.length (grpAt l)=true):∀x∈l,0≤x∧x≤2147483647:=fun x hx=>by
 obtain ⟨j,hj,rfl⟩:=AX hx;have h1:=q2G.1 h j hj;unfold grpAt at h1;rw [q6D hj] at h1;simp only [Ai] at h1;exact j0u h1.1
theorem j3w{l:List Int}(hl:l.length≤64)(hv:∀x∈l,0≤x∧x≤2147483647):(if listS (t:=I64) intS l= [] then l= [] else grpsP (listS (t:=I64) intS l)= .ok (l,(listS (t:=I64) intS l).length))∧(listS (t:=I64) intS l).length≤1000:=by
 have hi:∀x∈l,(0:Int)≤x∧x≤4611686018427387904:=fun x hx=>⟨(hv x hx).1,Int.le_trans (hv x hx).2 (by decide)⟩
 have hf:=flat_len intS 14 l fun x _=>q1U x;have h4:14*l.length≤14*64:=Ci _ hl;refine ⟨z6Q (t:=I64) (p:=intP) (w:=intS) hl (fun x hx=>⟨z3w (hi x hx),q8T (hi x hx)⟩) (by omega),?_⟩
 have:=z3i (t:=I64) (w:=intS) (l:=l) 14 fun x _=>q1U x;exact An this (by omega)
theorem j0G(p:Pac)(h:vPac p=true):pacS p=tlv 48 (sufS (pacL p) 0 5)∧(∀j,((pacL p).getD j []).length≤16777215)∧(sufS (pacL p) 0 5).length≤10000∧∀r,pacP (pacS p++r)= .ok (p,(pacS p).length):=by
 obtain ⟨c,a,u,g,w⟩:=p;simp only [vPac,Ai,decide_eq_true_eq,A3] at h;obtain ⟨hc,ha,hu,hg1,hw1,hg,hw⟩:=h;change Int at a u;change List Int at g;change List Prin at w;have hg1:(g.length:Int)≤64:=hg1;have hw1:(w.length:Int)≤16:=hw1;obtain ⟨ps,psl,psn⟩:=q4H hc;obtain ⟨a,rfl,ga⟩:=j3v (show (0:Int)≤a∧a≤1099511627776 by simpa only [vTime,mIn,Ai,decide_eq_true_eq] using ha)
 have hu2:=j0u hu;have zn:(0:Int)≤u∧u≤4611686018427387904:=⟨hu2.1,Int.le_trans hu2.2 (by decide)⟩
 obtain ⟨gq,gl⟩:=j3w (l:=g) (by omega) (j3F hg)
 obtain ⟨wq,wl⟩:=j4F (l:=w) (by omega) hw
 have a1:timeS (a:Int)≠ []:=by rw [q7A (by omega)];exact q2b
 have a2:timeP (timeS (a:Int))= .ok (a,(timeS (a:Int)).length):=full (z8v ga);have a3:(timeS (a:Int)).length≤11:=by rw [q7A (by omega),q2p,q0N];decide
 have l2:=q1U u;have hL:∀j,((pacL (c,(a:Int),u,g,w)).getD j []).length≤16777215:=fun j=>by
  match j with
  |0=>exact An psl (by omega)
  |1=>show (timeS (a:Int)).length≤_;omega
  |2=>show (intS u).length≤_;omega
  |3=>exact An gl (by omega)
  |4=>exact An wl (by omega)
  |j+5=>exact Al _
 have hs:(sufS (pacL (c,(a:Int),u,g,w)) 0 5).length≤10000:=by
  refine An (q9B 5 0) ?_;show (prinE c).length+5+ ((timeS (a:Int)).length+5+ ((intS u).length+5+ ((listS (t:=I64) intS g).length+5+ ((listS (t:=PrinT) prinE w).length+5+0))))≤_;generalize (listS (t:=I64) intS g).length=x1 at*;generalize (listS (t:=PrinT) prinE w).length=x2 at*;generalize (prinE c).length=x3 at*;omega
 have hT:pacS (c,(a:Int),u,g,w)=tlv 48 (sufS (pacL (c,(a:Int),u,g,w)) 0 5):=by
  have h1:=z2I (l:=pacL (c,(a:Int),u,g,w)) (An hs (by omega))
  exact (show pacS (c,(a:Int),u,g,w)=tagS (pacL (c,(a:Int),u,g,w)) from rfl).trans h1
 have hin:pacIn (sufS (pacL (c,(a:Int),u,g,w)) 0 5)= .ok ((c,(a:Int),u,g,w),(sufS (pacL (c,(a:Int),u,g,w)) 0 5).length):=by
  unfold pacIn;refine q2A (n:=0) (k:=4) (q1I hL (by omega) psn (full ps)) ?_
  refine q2A (n:=1) (k:=3) (q1I hL (by omega) a1 a2) ?_
  refine q2A (n:=2) (k:=2) (q1I hL (by omega) (z3w zn) (full (q8T zn))) ?_
  refine q2A (n:=3) (k:=1) (z4b hL (by omega) gq) ?_
  refine q2A (n:=4) (k:=0) (z4b hL (by omega) wq) ?_
  rfl
 refine ⟨hT,hL,hs,fun r=> ?_⟩;rw [hT];exact q4n (by omega) hin r
theorem z2w{p:Pac}(h:vPac p=true):(pacS p).length≤10010∧pacS p≠ []:=by
 obtain ⟨h1,_,h3,_⟩:=j0G p h;rw [h1];refine ⟨?_,q2b⟩;rw [q2p];have:=q8P (sufS (pacL p) 0 5).length;omega
def sgnL(x:Sgd):List (List UInt8):=[pacS x.1,keyS x.2.1,keyS x.2.2]
theorem j3x(x:Sgd)(h:vSgn x=true):sgnS x=tlv 48 (sufS (sgnL x) 0 3)∧(∀j,((sgnL x).getD j []).length≤16777215)∧(sufS (sgnL x) 0 3).length≤200000∧∀r,sgP (sgnS x++r)= .ok (x,(sgnS x).length):=by
 obtain ⟨p,k1,k2⟩:=x;simp only [vSgn,Ai] at h;obtain ⟨h0,h1,h2⟩:=h;obtain ⟨pl,pn⟩:=z2w h0;have pp:=full (j0G p h0).2.2.2;have o1:=z7B h1;have o2:=z7B h2;have l1:=z5p o1;have l2:=z5p o2;have hL:∀j,((sgnL (p,k1,k2)).getD j []).length≤16777215:=fun j=>by
  match j with
  |0=>exact An pl (by omega)
  |1=>exact An l1 (by omega)
  |2=>exact An l2 (by omega)
  |j+3=>exact Al _
 have hs:(sufS (sgnL (p,k1,k2)) 0 3).length≤200000:=by
  refine An (q9B 3 0) ?_;show (pacS p).length+5+ ((keyS k1).length+5+ ((keyS k2).length+5+0))≤_;generalize (pacS p).length=x1 at*;generalize (keyS k1).length=x2 at*;generalize (keyS k2).length=x3 at*;omega
 have hT:sgnS (p,k1,k2)=tlv 48 (sufS (sgnL (p,k1,k2)) 0 3):=by
  have h1:=z2I (l:=sgnL (p,k1,k2)) (An hs (by omega))
  exact (show sgnS (p,k1,k2)=tagS (sgnL (p,k1,k2)) from rfl).trans h1
 have hin:sgIn (sufS (sgnL (p,k1,k2)) 0 3)= .ok ((p,k1,k2),(sufS (sgnL (p,k1,k2)) 0 3).length):=by
  unfold sgIn;refine q2A (n:=0) (k:=2) (q1I hL (by omega) pn pp) ?_
  refine q2A (n:=1) (k:=1) (q1I hL (by omega) (z5L o1) (full (z5h o1))) ?_
  refine q2A (n:=2) (k:=0) (q1I hL (by omega) (z5L o2) (full (z5h o2))) ?_
  rfl
 refine ⟨hT,hL,hs,fun r=> ?_⟩;rw [hT];exact q4n (by omega) hin r
theorem z3I{x:Sgd}(h:vSgn x=true):decSg (sgnS x)=some x:=by
 have hx:=full (j3x x h).2.2.2;unfold decSg allP;rw [hx];simp [h]
theorem z4K{b:List UInt8}{x:Sgd}(h:decSg b=some x):vSgn x=true∧sgnS x=b:=by
 unfold decSg at h;split at h
 · split at h
   · rename_i h2;cases h;exact h2
   cases h
 cases h
end Go.Proofs.YtmapiojgmbgbgaaGreatDoor
