/- SHA-256: contracts: the program's padding, an iterator. -/
import Derived.Test.YtmapiojgmbgbgaaGreatDoorR26
set_option linter.all false
namespace Go.Proofs.YtmapiojgmbgbgaaGreatDoor
open Go Go.Sx Go.Proofs
set_option maxRecDepth 100000
set_option maxHeartbeats 40000000
def padT(b:List UInt8)(total:Nat):List UInt8:=padZ b (padN b.length)++lnB8 (8*total) 8
theorem q9N(b:List UInt8)(total:Nat):(padT b total).length=64*blksN b:=by
 unfold padT blksN;rw [Ae,z9f,z8G];unfold padN;omega
def blkAt(p:List UInt8)(i:Nat):List UInt8:=(p.take (64*i+64)).drop (64*i)
theorem z0c{p:List UInt8}{N i:Nat}(hp:p.length=64*N)(hi:i<N):(blkAt p i).length=64:=by
 unfold blkAt;rw [Ak,Aw];omega
def vwB(b:List UInt8)(total:Nat):Nat→Nat→List SV→List SObj→Prop:=fun i _ args' new=>args'= [.isl .u8 (blkAt (padT b total) i)]∧new= []
theorem j0o(b:List UInt8)(total:Nat)(hb:b.length≤70368744177664):PC Tryz.prog 281 [.isl .u8 b,rI total] (.fn 297 [] [.iptr (.slice .u8) b 0,.iptr (.int .i64) total 0]):=by
 refine q0w rfl rfl ?_;refine q4r fi281 ?_;refine uQ 4 _ ?_;with_reducible refine sxE ?_
 refine q3I 2 0 (ty:=.slice .u8) (x:=b) rfl ⟨by omega,fun _ _=>trivial⟩ rfl rfl ?_
 refine q3I 3 1 (ty:=.int .i64) (x:=(total:Int)) rfl trivial rfl rfl ?_;refine gQ ?_;trivial
def endP(r:List UInt8)(total S i:Nat):List UInt8:=(List.range S).map fun j=>if j<r.length then r.getD j 0 else if j=r.length then 128 else if S-i≤j then UInt8.ofNat (8*total / 2^ (8* (S-1-j))%256) else 0
theorem q4S(r:List UInt8)(total S i:Nat):(endP r total S i).length=S:=by simp [endP]
theorem z0Q(r:List UInt8)(total:Nat){S:Nat}(h:r.length<S):(splice (List.replicate S 0) 0 r).set r.length 128=endP r total S 0:=by
 apply AO
 · simp [endP,splice];omega
 intro j h1 h2;rw [BJ];simp only [endP,AZ,AU];rw [q4S] at h2;split
 · subst_vars;rw [if_neg (by omega),if_pos rfl]
 rename_i hne;simp only [splice,BM,Au,Ac];by_cases hj:j<r.length
 · rw [if_pos hj,Bi hj,Ad,Ab hj];rfl
 rw [if_neg hj,if_neg (by omega),if_neg (by omega),BP (by omega)]
 simp
theorem z3e(r:List UInt8)(total:Nat){S i:Nat}(h:r.length+9≤S)(hi:i<8):(endP r total S i).set (S-1-i) (UInt8.ofNat (8*total / 2^ (8*i)%256))=endP r total S (i+1):=by
 apply AO
 · simp [endP]
 intro j h1 h2;rw [q4S] at h2;rw [BJ];simp only [endP,AZ,AU];split
 · subst_vars
   rw [if_neg (by omega),if_neg (by omega),if_pos (by omega)]
   rw [show S-1- (S-1-i)=i by omega]
 rename_i hne;by_cases h1:j<r.length
 · rw [if_pos h1,if_pos h1]
 rw [if_neg h1,if_neg h1];by_cases h2:j=r.length
 · rw [if_pos h2,if_pos h2]
 rw [if_neg h2,if_neg h2];by_cases h3:S-i≤j
 · rw [if_pos h3,if_pos (by omega)]
 rw [if_neg h3,if_neg (by omega)]
theorem z8j(b:List UInt8)(total:Nat){S:Nat}(hS:S=64* (blksN b-b.length / 64)):(padT b total).drop (64* (b.length / 64))=endP (b.drop (64* (b.length / 64))) total S 8:=by
 have hl:=q9N b total;have hb:blksN b=(b.length+72) / 64:=rfl;apply AO
 · rw [Ak,hl,q4S];omega
 intro j h1 h2;rw [Ak,hl] at h1;have hd:(b.drop (64* (b.length / 64))).length=b.length%64:=by rw [Ak];omega
 have hn:padN b.length=(119-b.length%64)%64:=rfl;rw [List.getElem_drop];simp only [endP,AZ,AU,hd];unfold padT padZ;by_cases c1:j<b.length%64
 · rw [if_pos c1,Bi (by simp;omega),Bi (by simp;omega),Bi (by omega),Ad,AF,Ab (by omega)];rfl
 rw [if_neg c1];by_cases c2:j=b.length%64
 · rw [if_pos c2,Bi (by simp;omega),Bi (by simp;omega),BP (by omega)]
   have:64* (b.length / 64)+j-b.length=0:=by omega
   simp [this]
 rw [if_neg c2];by_cases c3:S-8≤j
 · have hpl:(b++ [128]++List.replicate (padN b.length) (0:UInt8)).length=b.length+1+padN b.length:=by simp;omega
   rw [if_pos c3,BP (by rw [hpl];omega)]
   simp only [lnB8,AZ,AU,hpl];refine congrArg (fun k=>UInt8.ofNat (8*total / 2^ (8*k)%256)) ?_;omega
 rw [if_neg c3,Bi (by simp;omega),BP (by simp;omega)]
 simp
theorem u64i{x:Int}(h:0≤x∧x<18446744073709551616):IntKind.u64.wrap x=x:=by
 have e:IntKind.u64.wrap x=x%18446744073709551616:=rfl;rw [e];omega
theorem byteQ(n i:Nat)(hi:i≤7):UInt8.ofNat (IntKind.u8.wrap ((n:Int).fdiv (2^ min (8*i) 64))).toNat=UInt8.ofNat (n / 2^ (8*i)%256):=by
 have e:((n:Int).fdiv (2^ (8*i)))=((n / 2^ (8*i):Nat):Int):=by
  rw [A8 _ (by exact_mod_cast Al (2^ (8*i)))]
  simp
 rw [Bg (by omega),e]
 generalize n / 2^ (8*i)=m;rw [u8wrapR];congr 1
theorem q6y(p:List UInt8)(f k:Nat):blkAt p (f+k)=((p.drop (64*f)).drop (64*k)).take 64:=by
 unfold blkAt;rw [Bp,BB,CO];congr 1;omega
theorem z7P(b:List UInt8)(total:Nat){i:Nat}(hi:i<b.length / 64):List.take 64 (b.drop (64*i))=blkAt (padT b total) i:=by
 unfold blkAt padT padZ;rw [Ba (by simp;omega),Ba (by simp;omega),Ba (by omega),BB]
 congr 1;omega
theorem z0y(b:List UInt8)(total:Nat)(hb:b.length≤70368744177664)(ht:total≤70368744177664):Iter Tryz.prog 297 [] [.iptr (.slice .u8) b 0,.iptr (.int .i64) (total:Int) 0] (blksN b) (vwB b total):=by
 refine ⟨by kernel_rfl,fun l B J hJ yg=> ?_⟩
 refine (q6I (yFG hJ) fi297 ?_).2
 letI:Ghost:=topG (yFG hJ) []
 refine gQ ?_;refine z6z [] (fun i=>i) (fun i=>[(4,.isl .u8 (b.drop (64*i)))]) (b.length / 64) (fun _=>True) trivial rfl (by simp) (by simp [SV.bel]) ?_ fun i hi _=> ?_
 · with_reducible refine sxE ?_;trivial
 have hN:blksN b=(b.length+72) / 64:=rfl;by_cases hlt:i<b.length / 64
 · refine uQ 600 _ ?_;simp (maxSteps:=3000000) only [Ak,go_sem,↓zA,↓reduceIte,↓reduceDIte] <;>try simp only [zB]
   refine ⟨fun _=>⟨by omega,?_⟩,fun h=>absurd h (by omega)⟩
   refine q4R [] hJ yg (by omega) (fun n=>⟨_,_,⟨by rw [z7P b total hlt],rfl⟩,q2W rfl⟩) fun c=> ?_
   cases c
   · refine gQ ?_;exact ⟨_,_,rfl,rfl,by omega⟩
   refine uQ 600 _ ?_;simp (maxSteps:=3000000) only [Ak,go_sem,↓zA,↓reduceIte,↓reduceDIte] <;>try simp only [zB]
   have he:List.drop 64 (List.take (b.length-64*i) (List.drop (64*i) b))=List.drop (64* (i+1)) b:=by
    rw [Ah (by rw [Ak];omega),Bp];congr 1
   refine ⟨⟨by omega,by omega⟩,hlt,trivial,⟨[],rfl⟩,?_⟩
   rw [he];with_reducible refine sxE ?_;trivial
 obtain rfl:i=b.length / 64:=by omega
 refine uQ 600 _ ?_;simp (maxSteps:=3000000) only [Ak,go_sem,↓zA,↓reduceIte,↓reduceDIte] <;>try simp only [zB]
 have hrl:(b.drop (64* (b.length / 64))).length=b.length%64:=by rw [Ak];omega
 have hea:=z8j b total (S:=64* (blksN b-b.length / 64)) rfl;generalize hr:b.drop (64* (b.length / 64))=r at*;have hl2:b.length-64* (b.length / 64)=b.length%64:=by omega
 rw [hl2];refine ⟨fun h=>absurd h (by omega),fun _=>⟨fun hg=> ?_,fun hg=> ?_⟩⟩
 · have hw9:IntKind.i64.wrap (((b.length%64:Nat):Int)+9)=((b.length%64:Nat):Int)+9:=by rw [wrapi (by omega)]
   have hS:64* (blksN b-b.length / 64)=128:=by omega
   rw [hS] at hea;have htk:List.take (min (b.length%64) 128) r=r:=Ah (by omega)
   have hz:=z0Q r total (S:=128) (by omega)
   rw [htk];repeat (with_reducible refine And.intro (by first|omega|exact ⟨by omega,by omega⟩ |exact ⟨by simp;omega,by decide⟩) ?_)
   refine q0x (ι:=Nat) (fun i=>[(32,rI i)]) (fun i=>[.mark (b.length / 64),.row .u8 (endP r total 128 i)]) (fun i=>8-i) (fun i=>i≤8) 0 (Al _) ?_ ?_ ?_
   · rw [←hz];simp only [splice,BM,Au,hrl,Ac];rfl
   · with_reducible refine sxE ?_;trivial
   intro i hi;have hel:=q4S r total 128 i;have hwr:=wsx i (by omega)
   by_cases h8:i<8
   · have w0:IntKind.i64.wrap (128-1)=127:=by rw [wrapi (by omega)];rfl
     have w1:IntKind.i64.wrap (127- (i:Int))=((127-i:Nat):Int):=by rw [wrapi (by omega)];omega
     have w2:IntKind.u64.wrap (total:Int)=total:=u64i (by omega)
     have w3:IntKind.u64.wrap ((total:Int)*8)=((8*total:Nat):Int):=by rw [u64i (by omega)];omega
     have w4:IntKind.i64.wrap (8* (i:Int))=((8*i:Nat):Int):=by rw [wrapi (by omega)];omega
     refine gy8 w0 w1 w2 w3 w4 hel Ac Ac ?_;refine ⟨fun _=> ?_,fun h=>absurd h (by omega)⟩
     repeat (with_reducible refine And.intro (by first|omega|exact ⟨by omega,by omega⟩ |exact ⟨by omega,q2F _⟩) ?_)
     refine ⟨i+1,h8,by dsimp only;omega,?_,?_⟩
     · dsimp only;rw [byteQ _ _ (by omega),←z3e r total (by omega) h8]
     with_reducible refine sx1 hwr ?_;trivial
   obtain rfl:i=8:=by omega
   refine uQ 6 _ ?_;with_reducible refine sy2 hel Ac ?_
   refine ⟨fun h=>absurd h (by omega),fun _=> ?_⟩
   refine uQ 1 _ ?_;with_reducible refine sxE ?_
   refine q1u 1 rfl rfl (by rw [hel];decide) ?_ ?_ ?_
   · with_reducible refine sxE ?_;trivial
   · with_reducible refine sxE ?_
     omega
   with_reducible refine sxE ?_
   have hck:List.take 128 (endP r total 128 8)=endP r total 128 8:=Ah (by omega)
   rw [hck];refine gy2 hel Ac ?_;refine ⟨by omega,?_⟩
   refine q4R [.dead] hJ yg (i:=b.length / 64) (by omega) (fun n=>⟨_,_,⟨by rw [show blkAt (padT b total) (b.length / 64)=_ from q6y (padT b total) (b.length / 64) 0,hea,Ar],rfl⟩,q2W rfl⟩) fun c=> ?_
   cases c
   · refine gQ ?_;exact ⟨_,_,rfl,rfl,by omega⟩
   refine uQ 600 _ ?_;simp (maxSteps:=3000000) only [hel,Ac,go_sem,↓zA,↓reduceIte,↓reduceDIte] <;>try simp only [zB]
   repeat (with_reducible refine And.intro (by first|omega|exact ⟨by omega,by omega⟩) ?_)
   refine q4R [.dead] hJ yg (i:=b.length / 64+1) (by omega) (fun n=>⟨_,_,⟨by rw [q6y _ _ 1,hea,hck,Ah (by rw [Ak];omega)],rfl⟩,q2W rfl⟩) fun c=> ?_
   cases c
   · refine gQ ?_;exact ⟨_,_,rfl,rfl,by omega⟩
   refine gQ ?_;exact ⟨_,_,rfl,rfl,by omega⟩
 have hw9:IntKind.i64.wrap (((b.length%64:Nat):Int)+9)=((b.length%64:Nat):Int)+9:=by rw [wrapi (by omega)]
 have hS:64* (blksN b-b.length / 64)=64:=by omega
 rw [hS] at hea;have htk:List.take (min (b.length%64) 64) r=r:=Ah (by omega)
 have hz:=z0Q r total (S:=64) (by omega)
 rw [htk];repeat (with_reducible refine And.intro (by first|omega|exact ⟨by omega,by omega⟩ |exact ⟨by simp;omega,by decide⟩) ?_)
 refine q0x (ι:=Nat) (fun i=>[(32,rI i)]) (fun i=>[.mark (b.length / 64),.row .u8 (endP r total 64 i)]) (fun i=>8-i) (fun i=>i≤8) 0 (Al _) ?_ ?_ ?_
 · rw [←hz];simp only [splice,BM,Au,hrl,Ac];rfl
 · with_reducible refine sxE ?_;trivial
 intro i hi;have hel:=q4S r total 64 i;have hwr:=wsx i (by omega)
 by_cases h8:i<8
 · have w0:IntKind.i64.wrap (64-1)=63:=by rw [wrapi (by omega)];rfl
   have w1:IntKind.i64.wrap (63- (i:Int))=((63-i:Nat):Int):=by rw [wrapi (by omega)];omega
   have w2:IntKind.u64.wrap (total:Int)=total:=u64i (by omega)
   have w3:IntKind.u64.wrap ((total:Int)*8)=((8*total:Nat):Int):=by rw [u64i (by omega)];omega
   have w4:IntKind.i64.wrap (8* (i:Int))=((8*i:Nat):Int):=by rw [wrapi (by omega)];omega
   refine gy8 w0 w1 w2 w3 w4 hel Ac Ac ?_;refine ⟨fun _=> ?_,fun h=>absurd h (by omega)⟩
   repeat (with_reducible refine And.intro (by first|omega|exact ⟨by omega,by omega⟩ |exact ⟨by omega,q2F _⟩) ?_)
   refine ⟨i+1,h8,by dsimp only;omega,?_,?_⟩
   · dsimp only;rw [byteQ _ _ (by omega),←z3e r total (by omega) h8]
   with_reducible refine sx1 hwr ?_;trivial
 obtain rfl:i=8:=by omega
 refine uQ 6 _ ?_;with_reducible refine sy2 hel Ac ?_
 refine ⟨fun h=>absurd h (by omega),fun _=> ?_⟩
 refine uQ 1 _ ?_;with_reducible refine sxE ?_
 refine q1u 1 rfl rfl (by rw [hel];decide) ?_ ?_ ?_
 · with_reducible refine sxE ?_;trivial
 · with_reducible refine sxE ?_
   omega
 with_reducible refine sxE ?_
 have hck:List.take 64 (endP r total 64 8)=endP r total 64 8:=Ah (by omega)
 rw [hck];refine gy2 hel Ac ?_;refine ⟨by omega,?_⟩
 refine q4R [.dead] hJ yg (i:=b.length / 64) (by omega) (fun n=>⟨_,_,⟨by rw [show blkAt (padT b total) (b.length / 64)=_ from q6y (padT b total) (b.length / 64) 0,hea,Ar],rfl⟩,q2W rfl⟩) fun c=> ?_
 cases c
 · refine gQ ?_;exact ⟨_,_,rfl,rfl,by omega⟩
 refine gQ ?_;exact ⟨_,_,rfl,rfl,by omega⟩
def foldB(h:List Int)(p:List UInt8):Nat→List Int
 |0=>h
 |k+1=>blkS (blkAt p k) (foldB h p k)
theorem q5A(p:List UInt8):∀k,foldB hS0 p k=hashS p k
 |0=>rfl
 |k+1=>by rw [foldB,q5A p k];rfl
theorem q1q{h:List Int}(hh:inWs h)(p:List UInt8):∀k,inWs (foldB h p k)
 |0=>hh
 |_+1=>z1A
def smH(h:List Int)(p:List UInt8)(i:Nat)(H':List SObj):Prop:=∃G,H'= .row .u8 (List.replicate 32 0) :: .row (.int .u32) (foldB h p i) :: G
theorem j3b(b:List UInt8)(hb:b.length≤70368744177664):PC Tryz.prog 254 [.isl .u8 b] (.dat (.arr 32 .u8) (shaS b)):=by
 refine q0w rfl rfl (z2v (q6I noFG fi254 ?_))
 letI:Ghost:=topG noFG []
 refine gQ ?_;refine q3q (t:=.arr 8 (.int .u32)) (x:=dat_sha_start) (ag:=some 8) (s:=.dat (.arr 8 (.int .u32)) dat_sha_start) (by unfold datList;repeat (first|exact .head _|apply List.Mem.tail)) rfl (.inr rfl) ?_
 refine gQ ?_;refine cQ (j0o b b.length hb) ?_;refine j4r (smH hS0 (padS b)) (fun _ _ _=>False) rfl rfl rfl (z0y b b.length hb hb) (fun i n args' new h=>by rw [h.1];rfl) ⟨[],rfl⟩ rfl ?_ ?_ ?_
 · rintro i _ args' new hi ⟨G,rfl⟩ ⟨rfl,rfl⟩ L1 L2
   letI:Ghost:=pinG noFG L1
   rw [Aj];refine uQ 600 _ ?_;simp only [putL,CJ];with_reducible refine sxaE ?_
   letI:Ghost:=pinG noFG L2
   refine aQ ?_;have hbl:(blkAt (padT b b.length) i).length=64:=z0c (q9N b b.length) hi;refine eQ [1] (j3G (blkAt (padT b b.length) i) _ hbl (q1q q6a _ i)) ?_;exact ⟨G,rfl⟩
 · rintro D _ ⟨G,rfl⟩
   letI:Ghost:=topG noFG [D]
   have hv:=q1q q6a (padS b) (blksN b);have hfl:=hv.1;have hfe:bytesS (foldB hS0 (padS b) (blksN b))=shaS b:=by rw [q5A];rfl
   generalize foldB hS0 (padS b) (blksN b)=h at*;refine gQ ?_;have htk:List.take 8 h=h:=Ah (by omega)
   rw [htk];refine ⟨by omega,q0a (z6t h hv) ?_⟩
   have hbl:=q1p h;refine gy1 hbl ?_;rw [hfe]
 rintro D i ex _ hi h;exact h.elim
theorem z6S{p q:List UInt8}{i:Nat}(h:64*i+64≤p.length):blkAt (p++q) i=blkAt p i:=by
 unfold blkAt;rw [Ba h]
theorem z2l{p q:List UInt8}{c i:Nat}(h:p.length=64*c):blkAt (p++q) (c+i)=blkAt q i:=by
 unfold blkAt;rw [CD,BU,AY (by rw [Aw];omega),Au,Aw,h]
 congr 1
 · omega
 congr 1;omega
theorem q2R(h:List Int){p q:List UInt8}:∀ {k:Nat},64*k≤p.length→foldB h (p++q) k=foldB h p k
 |0,_=>rfl
 |k+1,hk=>by rw [foldB,foldB,q2R h (by omega),z6S (by omega)]
theorem q7x(h:List Int){p q:List UInt8}{c:Nat}(hp:p.length=64*c):∀k,foldB h (p++q) (c+k)=foldB (foldB h p c) q k
 |0=>by rw [AK,q2R h (by omega)];rfl
 |k+1=>by rw [←Nat.add_assoc,foldB,foldB,q7x h hp k,z2l hp]
abbrev HaD:Type:=List Int×List UInt8×Int
structure HRep (m:List UInt8) (x:HaD):Prop where
 n:x.2.2=(m.length:Int)
 rest:x.2.1.length=64
 len:x.1.length=8
 st:m.length≠0→x.1=foldB hS0 m (m.length / 64)
 tail:x.2.1.take (m.length%64)=m.drop (64* (m.length / 64))
theorem z8y:HRep [] (List.replicate 8 0,List.replicate 64 0,0):=⟨rfl,by simp,by simp,fun h=>absurd rfl h,by simp⟩
def wrR(m rest b:List UInt8):List UInt8:=
 if m.length%64+b.length<64 then splice rest (m.length%64) b
 else splice (if 0<m.length%64 then splice rest (m.length%64) (b.take (64-m.length%64)) else rest) 0 ((m++b).drop (64* ((m++b).length / 64)))
def wrS(m:List UInt8)(x:HaD)(b:List UInt8):HaD:=(foldB hS0 (m++b) ((m++b).length / 64),wrR m x.2.1 b,((m++b).length:Int))
theorem q2m{α:Type}{xs ys:List α}{i:Nat}(h:i+ys.length≤xs.length):(splice xs i ys).length=xs.length:=by simp [splice];omega
theorem q7o{α:Type}{xs ys:List α}{i:Nat}(h:i+ys.length≤xs.length):(splice xs i ys).take (i+ys.length)=xs.take i++ys:=by
 unfold splice;rw [Ba (by rw [Ae,Aw];omega),Ah (by rw [Ae,Aw];omega)]
theorem q9K{m b:List UInt8}{x:HaD}(h:HRep m x):HRep (m++b) (wrS m x b):=by
 obtain ⟨h1,h2,h3,h4,h5⟩:=h;have hlen:(m++b).length=m.length+b.length:=Ae;have hl:(wrR m x.2.1 b).length=64:=by
  unfold wrR;split
  · rw [q2m (by omega)];exact h2
  have h6:((m++b).drop (64* ((m++b).length / 64))).length≤64:=by rw [Ak];omega
  split
  · rw [q2m,q2m] <;> (try rw [q2m]) <;> (try rw [Aw]) <;>omega
  rw [q2m] <;>omega
 refine ⟨rfl,hl,(q1q q6a _ _).1,fun _=>rfl,?_⟩;show (wrR m x.2.1 b).take _=_;unfold wrR at hl⊢;split
 · rename_i hlt;have e:(m++b).length%64=m.length%64+b.length:=by omega
   rw [e,q7o (by omega),h5,Bn (by omega)]
   congr 2;omega
 rename_i hge;rw [if_neg hge] at hl;have h6:((m++b).drop (64* ((m++b).length / 64))).length=(m++b).length%64:=by rw [Ak];omega
 generalize hr:(if 0<m.length%64 then splice x.2.1 (m.length%64) (b.take (64-m.length%64)) else x.2.1)=r at*;generalize ht:(m++b).drop (64* ((m++b).length / 64))=t at*;have hrl:r.length=64:=by
  rw [←hr];split
  · rw [q2m] <;> (try rw [Aw]) <;>omega
  exact h2
 have:=q7o (xs:=r) (ys:=t) (i:=0) (by omega)
 rw [Ac,BM,Au] at this;rw [←h6];exact this
theorem j0k{m:List UInt8}{x:HaD}(h:HRep m x)(hm:m.length≠0):bytesS (foldB x.1 (padT (x.2.1.take (m.length%64)) m.length) (blksN (x.2.1.take (m.length%64))))=shaS m:=by
 obtain ⟨h1,h2,h3,h4,h5⟩:=h;rw [h4 hm,h5];have hp:padS m=m.take (64* (m.length / 64))++padT (m.drop (64* (m.length / 64))) m.length:=by
  unfold padS padT padZ;have e:padN (m.drop (64* (m.length / 64))).length=padN m.length:=by
   rw [Ak];unfold padN;congr 2;omega
  rw [e];simp only [←List.append_assoc,Bb]
 have hb:blksN m=m.length / 64+blksN (m.drop (64* (m.length / 64))):=by
  unfold blksN;rw [Ak];omega
 unfold shaS;rw [←q5A,hp,hb,q7x hS0 (by rw [Aw];omega)]
 congr 2;have:=q2R hS0 (p:=m.take (64* (m.length / 64))) (q:=m.drop (64* (m.length / 64))) (k:=m.length / 64) (by rw [Aw];omega)
 rw [Bb] at this;exact this
theorem z5A(b:List UInt8)(r:List UInt8×Int)(h:List Int)(hb:b.length=64)(hh:inWs h):PE Tryz.prog 282 [.rptr 0 HH 0 0,.isl .u8 b] [.row HH [(h,r)]] (.ret (.tup [])) [.row HH [((blkS b h),r)]]:=by
 refine q0b (Af _) ?_;refine rQ fi282 ?_;refine q0x (ι:=Nat) (fun t=>[(26,rI t)]) (fun t=>[.row HH [(h,r)],.row (.int .u32) (wL b t)]) (fun t=>16-t) (fun t=>t≤16) 0 (Al _) (by rw [q6O];rfl) ?_ ?_
 · with_reducible refine sxE ?_;trivial
 intro t ht;have hwr:=wsx t (by omega)
 have hwl:=q4e b t;by_cases hlt:t<16
 · have w1:IntKind.i64.wrap (4* (t:Int))=((4*t:Nat):Int):=by rw [wrapi (by omega)];omega
   have w4:IntKind.i64.wrap (((4*t:Nat):Int)+4)=((4*t+4:Nat):Int):=by rw [wrapi (by omega)];omega
   refine gy4 w1 w4 hwl Ac ?_;have hdl:(List.drop (4*t) (List.take (4*t+4) b)).length=4:=by rw [Ak,Aw];omega
   refine ⟨fun _=> ?_,fun h=>absurd h (by omega)⟩
   repeat (with_reducible refine And.intro (by first|omega|exact ⟨by omega,by omega,by omega,by omega⟩ |exact ⟨by omega,by omega⟩) ?_)
   refine ⟨t+1,by show t+1≤16;omega,by dsimp only;omega,?_,?_⟩
   · have hd:∀j,j<4→(List.drop (4*t) (List.take (4*t+4) b)).getD j Ty.u8.dflt=b.getD (4*t+j) 0:=fun j hj=>by
      rw [Ad,AF,Bz (by omega),←Ad]
      rfl
     have ho:=or4 fun j=>(List.drop (4*t) (List.take (4*t+4) b)).getD j Ty.u8.dflt;rw [ho,hd 0 (by omega),hd 1 (by omega),hd 2 (by omega),hd 3 (by omega)]
     have hw:((256* (256* (256* (b.getD (4*t+0) 0).toNat+ (b.getD (4*t+1) 0).toNat)+ (b.getD (4*t+2) 0).toNat)+ (b.getD (4*t+3) 0).toNat:Nat):Int)=wS b t:=by
      rw [z4j hlt];simp only [wdP,byI];omega
     show [SObj.row HH [(h,r)],SObj.row (.int .u32) ((wL b t).set t ((256* (256* (256* (b.getD (4*t+0) 0).toNat+ (b.getD (4*t+1) 0).toNat)+ (b.getD (4*t+2) 0).toNat)+ (b.getD (4*t+3) 0).toNat:Nat):Int))]= [SObj.row HH [(h,r)],SObj.row (.int .u32) (wL b (t+1))];rw [hw,q4f b (by omega)]
   with_reducible refine sx1 hwr ?_;trivial
 obtain rfl:t=16:=by omega
 refine gy2 hwl Ac ?_;refine ⟨fun h=>absurd h (by omega),fun _=> ?_⟩
 refine q1V (ι:=Nat) (fun t=>[(7,rI t)]) (fun t=>[.row HH [(h,r)],.row (.int .u32) (wL b t)]) (fun t=>64-t) (fun t=>16≤t∧t≤64) 16 (by decide) 2 rfl (by decide) (fun _=>rfl) (fun _=>rfl) (fun _=>rfl) ?_ ?_
 · with_reducible refine sxE ?_
   rfl
 intro t ht;have hwl:=q4e b t;have hwr:=wsx t (by omega)
 by_cases hlt:t<64
 · have e15:IntKind.i64.wrap ((t:Int) -15)=((t-15:Nat):Int):=by rw [wrapi (by omega)];omega
   have e2:IntKind.i64.wrap ((t:Int) -2)=((t-2:Nat):Int):=by rw [wrapi (by omega)];omega
   have e7:IntKind.i64.wrap ((t:Int) -7)=((t-7:Nat):Int):=by rw [wrapi (by omega)];omega
   have e16:IntKind.i64.wrap ((t:Int) -16)=((t-16:Nat):Int):=by rw [wrapi (by omega)];omega
   have g15:=q1j b (t:=t) (j:=t-15) (by omega) (by omega)
   have g2:=q1j b (t:=t) (j:=t-2) (by omega) (by omega)
   have g7:=q1j b (t:=t) (j:=t-7) (by omega) (by omega)
   have g16:=q1j b (t:=t) (j:=t-16) (by omega) (by omega)
   have i15:=q2O b (t-15);have i2:=q2O b (t-2);have i7:=q2O b (t-7);have i16:=q2O b (t-16);refine gyd10 e15 e2 e7 e16 g15 g2 g7 g16 hwl Ac ?_;refine ⟨fun _=>⟨⟨by omega,by omega⟩,by omega,⟨by omega,by omega⟩,by omega,⟨by omega,by omega⟩,by omega,⟨by omega,by omega⟩,by omega,q0E (q0M (wS b (t-2)) [17,19] i2 (by decide) (by decide)) ?_⟩,fun h=>absurd hlt (by omega)⟩
   refine gQ ?_;refine q0I 2 (by decide) ?_
   with_reducible refine sxE ?_
   refine q0l (q0M (wS b (t-15)) [7,18] i15 (by decide) (by decide)) ?_
   refine uQ 600 _ ?_;simp (maxSteps:=3000000) only [e15,e2,e7,e16,g15,g2,g7,g16,hwl,Ac,Ty.dflt,go_sem,↓zA,↓reduceIte,↓reduceDIte] <;>try simp only [zB]
   repeat (with_reducible refine And.intro (by first|omega|exact ⟨by omega,by omega⟩) ?_)
   refine ⟨t+1,⟨by omega,hlt⟩,by dsimp only;omega,⟨[.dead],?_⟩,?_⟩
   · rw [schU i15 i2,←z4s (by omega),q4f b hlt]
     rfl
   with_reducible refine sx1 hwr ?_;trivial
 obtain rfl:t=64:=by omega
 refine gQ ?_;have hl:=hh.1;refine ⟨fun h=>absurd h (by omega),fun _=> ?_⟩
 repeat (with_reducible refine And.intro (by omega) ?_)
 refine q3q (t:=.arr 64 (.int .u32)) (x:=dat_sha_constants) (ag:=some 64) (s:=.dat (.arr 64 (.int .u32)) dat_sha_constants) (by unfold datList;repeat (first|exact .head _|apply List.Mem.tail)) rfl (.inr rfl) ?_
 refine gQ ?_;refine q1V (ι:=Nat) (fun t=>[(134,rI t),(12,.raw (.int .u32 ((rnds b h t).getD 0 0))),(13,.raw (.int .u32 ((rnds b h t).getD 1 0))),(14,.raw (.int .u32 ((rnds b h t).getD 2 0))),(15,.raw (.int .u32 ((rnds b h t).getD 3 0))),(16,.raw (.int .u32 ((rnds b h t).getD 4 0))),(17,.raw (.int .u32 ((rnds b h t).getD 5 0))),(18,.raw (.int .u32 ((rnds b h t).getD 6 0))),(19,.raw (.int .u32 ((rnds b h t).getD 7 0)))]) (fun t=>[.row HH [(h,r)],.row (.int .u32) (wL b 64)]) (fun t=>64-t) (fun t=>t≤64) 0 (Al _) 2 rfl (by decide) (fun _=>rfl) (fun _=>rfl) (fun _=>rfl) ?_ ?_
 · with_reducible refine sxE ?_
   exact ⟨rfl,rfl,rfl,rfl,rfl,rfl,rfl,rfl⟩
 intro t ht;have hwr:=wsx t (by omega)
 by_cases hlt:t<64
 · have hv:=q1x (b:=b) hh t;generalize hvv:rnds b h t=v at*;have i0:=q0h hv 0 (by decide)
   have i1:=q0h hv 1 (by decide)
   have i2:=q0h hv 2 (by decide)
   have i3:=q0h hv 3 (by decide)
   have i4:=q0h hv 4 (by decide)
   have i5:=q0h hv 5 (by decide)
   have i6:=q0h hv 6 (by decide)
   have i7:=q0h hv 7 (by decide)
   refine gyd3 hl hwl Ac ?_;refine ⟨fun _=>⟨⟨by omega,by omega⟩,⟨by omega,by omega⟩,by omega,?_⟩,fun h=>absurd hlt (by omega)⟩
   refine q0I 2 (by decide) ?_
   with_reducible refine sxE ?_
   refine q0l (q0M _ [6,11,25] i4 (by decide) (by decide)) ?_
   refine gyd3 hl hwl Ac ?_;refine q0l (q4J _ _ _ i4 i5 i6) ?_;refine gyd3 hl hwl Ac ?_;refine q0z 3 ?_;with_reducible refine sxE ?_
   refine cyd3 (q0M _ [2,13,22] i0 (by decide) (by decide)) hl hwl Ac ?_
   refine cyd3 (q2Y _ _ _ i0 i1 i2) hl hwl Ac ?_;have hr:rnds b h (t+1)=rnd (kS t) (wS b t) v:=by show rnd (kS t) (wS b t) (rnds b h t)=_;rw [hvv]
   have hT1:=t1U (k:=kS t) (w:=wS b t) hv;have hT2:=t2U hv;refine ⟨t+1,hlt,by dsimp only;omega,⟨[.dead,.dead],rfl⟩,?_⟩
   rw [z0o,q1j b hlt hlt,hT1,hT2,aU,eU];with_reducible refine sy2 hwr hr ?_
   exact ⟨rfl,rfl,rfl,rfl,rfl,rfl,rfl,rfl⟩
 obtain rfl:t=64:=by omega
 refine gyd3 hl hwl Ac ?_;refine ⟨fun h=>absurd h (by omega),fun _=> ?_⟩
 have e8:=list8 (q1x (b:=b) hh 64).1;refine q0x (ι:=Nat) (fun i=>[(186,rI i),(185,.dat (.arr 8 (.int .u32)) (rnds b h 64))]) (fun i=>[.row HH [((blkP b h i),r)],.row (.int .u32) (wL b 64)]) (fun t=>8-t) (fun t=>t≤8) 0 (Al _) ?_ ?_ ?_
 · rw [q3w b hh.1]
 · with_reducible refine sxE ?_
   exact congrArg (SV.dat (.arr 8 (.int .u32))) e8
 intro i hi;have hwr:=wsx i (by omega)
 have hv:=q1x (b:=b) hh 64;have hl:=hv.1;have hbl:=q4T b h i;by_cases hlt:i<8
 · have hbg:=q4O b h hlt;refine gyd4 hl hbl Ac AM ?_;refine ⟨fun _=> ?_,fun h=>absurd hlt (by omega)⟩
   repeat (with_reducible refine And.intro (by first|omega|exact ⟨by omega,by omega⟩) ?_)
   refine ⟨i+1,hlt,by dsimp only;omega,?_,?_⟩
   · rw [hbg,wrapU];show [_,_]= [SObj.row HH [((blkP b h (i+1)),r)],_];rw [←q5b b h hlt]
   with_reducible refine sx1 hwr ?_;trivial
 obtain rfl:i=8:=by omega
 refine gyd3 hl hbl Ac ?_;refine ⟨fun h=>absurd h (by omega),fun _=> ?_⟩
 rw [q4I]
theorem j3U(b:List UInt8)(n:Int)(h:List Int)(hb:b.length=64)(hh:inWs h):PE Tryz.prog 282 [.rptr 0 HH 0 0,.csl 0 .u8 8 0 64] [.row HH [(h,(b,n))]] (.ret (.tup [])) [.row HH [((blkS b h),(b,n))]]:=by
 refine q0b (Af _) ?_;refine rQ fi282 ?_;refine q0x (ι:=Nat) (fun t=>[(26,rI t)]) (fun t=>[.row HH [(h,(b,n))],.row (.int .u32) (wL b t)]) (fun t=>16-t) (fun t=>t≤16) 0 (Al _) (by rw [q6O];rfl) ?_ ?_
 · with_reducible refine sxE ?_;trivial
 intro t ht;have hwr:=wsx t (by omega)
 have hwl:=q4e b t;by_cases hlt:t<16
 · have w1:IntKind.i64.wrap (4* (t:Int))=((4*t:Nat):Int):=by rw [wrapi (by omega)];omega
   have w4:IntKind.i64.wrap (((4*t:Nat):Int)+4)=((4*t+4:Nat):Int):=by rw [wrapi (by omega)];omega
   refine gy4 w1 w4 hwl Ac ?_;have hdl:(List.drop (4*t) (List.take (4*t+4) b)).length=4:=by rw [Ak,Aw];omega
   refine ⟨fun _=> ?_,fun h=>absurd h (by omega)⟩
   repeat (with_reducible refine And.intro (by first|omega|exact ⟨by omega,by omega,by omega,by omega⟩ |exact ⟨by omega,by omega⟩) ?_)
   refine ⟨t+1,by show t+1≤16;omega,by dsimp only;omega,?_,?_⟩
   · have hd:∀j,j<4→(List.drop (4*t) (List.take (4*t+4) b)).getD j Ty.u8.dflt=b.getD (4*t+j) 0:=fun j hj=>by
      rw [Ad,AF,Bz (by omega),←Ad]
      rfl
     have ho:=or4 fun j=>b.getD (4*t+j) Ty.u8.dflt;rw [ho];have hw:((256* (256* (256* (b.getD (4*t+0) 0).toNat+ (b.getD (4*t+1) 0).toNat)+ (b.getD (4*t+2) 0).toNat)+ (b.getD (4*t+3) 0).toNat:Nat):Int)=wS b t:=by
      rw [z4j hlt];simp only [wdP,byI];omega
     show [SObj.row HH [(h,(b,n))],SObj.row (.int .u32) ((wL b t).set t ((256* (256* (256* (b.getD (4*t+0) 0).toNat+ (b.getD (4*t+1) 0).toNat)+ (b.getD (4*t+2) 0).toNat)+ (b.getD (4*t+3) 0).toNat:Nat):Int))]= [SObj.row HH [(h,(b,n))],SObj.row (.int .u32) (wL b (t+1))];rw [hw,q4f b (by omega)]
   with_reducible refine sx1 hwr ?_;trivial
 obtain rfl:t=16:=by omega
 refine gy2 hwl Ac ?_;refine ⟨fun h=>absurd h (by omega),fun _=> ?_⟩
 refine q1V (ι:=Nat) (fun t=>[(7,rI t)]) (fun t=>[.row HH [(h,(b,n))],.row (.int .u32) (wL b t)]) (fun t=>64-t) (fun t=>16≤t∧t≤64) 16 (by decide) 2 rfl (by decide) (fun _=>rfl) (fun _=>rfl) (fun _=>rfl) ?_ ?_
 · with_reducible refine sxE ?_
   rfl
 intro t ht;have hwl:=q4e b t;have hwr:=wsx t (by omega)
 by_cases hlt:t<64
 · have e15:IntKind.i64.wrap ((t:Int) -15)=((t-15:Nat):Int):=by rw [wrapi (by omega)];omega
   have e2:IntKind.i64.wrap ((t:Int) -2)=((t-2:Nat):Int):=by rw [wrapi (by omega)];omega
   have e7:IntKind.i64.wrap ((t:Int) -7)=((t-7:Nat):Int):=by rw [wrapi (by omega)];omega
   have e16:IntKind.i64.wrap ((t:Int) -16)=((t-16:Nat):Int):=by rw [wrapi (by omega)];omega
   have g15:=q1j b (t:=t) (j:=t-15) (by omega) (by omega)
   have g2:=q1j b (t:=t) (j:=t-2) (by omega) (by omega)
   have g7:=q1j b (t:=t) (j:=t-7) (by omega) (by omega)
   have g16:=q1j b (t:=t) (j:=t-16) (by omega) (by omega)
   have i15:=q2O b (t-15);have i2:=q2O b (t-2);have i7:=q2O b (t-7);have i16:=q2O b (t-16);refine gyd10 e15 e2 e7 e16 g15 g2 g7 g16 hwl Ac ?_;refine ⟨fun _=>⟨⟨by omega,by omega⟩,by omega,⟨by omega,by omega⟩,by omega,⟨by omega,by omega⟩,by omega,⟨by omega,by omega⟩,by omega,q0E (q0M (wS b (t-2)) [17,19] i2 (by decide) (by decide)) ?_⟩,fun h=>absurd hlt (by omega)⟩
   refine gQ ?_;refine q0I 2 (by decide) ?_
   with_reducible refine sxE ?_
   refine q0l (q0M (wS b (t-15)) [7,18] i15 (by decide) (by decide)) ?_
   refine uQ 600 _ ?_;simp (maxSteps:=3000000) only [e15,e2,e7,e16,g15,g2,g7,g16,hwl,Ac,Ty.dflt,go_sem,↓zA,↓reduceIte,↓reduceDIte] <;>try simp only [zB]
   repeat (with_reducible refine And.intro (by first|omega|exact ⟨by omega,by omega⟩) ?_)
   refine ⟨t+1,⟨by omega,hlt⟩,by dsimp only;omega,⟨[.dead],?_⟩,?_⟩
   · rw [schU i15 i2,←z4s (by omega),q4f b hlt]
     rfl
   with_reducible refine sx1 hwr ?_;trivial
 obtain rfl:t=64:=by omega
 refine gQ ?_;have hl:=hh.1;refine ⟨fun h=>absurd h (by omega),fun _=> ?_⟩
 repeat (with_reducible refine And.intro (by omega) ?_)
 refine q3q (t:=.arr 64 (.int .u32)) (x:=dat_sha_constants) (ag:=some 64) (s:=.dat (.arr 64 (.int .u32)) dat_sha_constants) (by unfold datList;repeat (first|exact .head _|apply List.Mem.tail)) rfl (.inr rfl) ?_
 refine gQ ?_;refine q1V (ι:=Nat) (fun t=>[(134,rI t),(12,.raw (.int .u32 ((rnds b h t).getD 0 0))),(13,.raw (.int .u32 ((rnds b h t).getD 1 0))),(14,.raw (.int .u32 ((rnds b h t).getD 2 0))),(15,.raw (.int .u32 ((rnds b h t).getD 3 0))),(16,.raw (.int .u32 ((rnds b h t).getD 4 0))),(17,.raw (.int .u32 ((rnds b h t).getD 5 0))),(18,.raw (.int .u32 ((rnds b h t).getD 6 0))),(19,.raw (.int .u32 ((rnds b h t).getD 7 0)))]) (fun t=>[.row HH [(h,(b,n))],.row (.int .u32) (wL b 64)]) (fun t=>64-t) (fun t=>t≤64) 0 (Al _) 2 rfl (by decide) (fun _=>rfl) (fun _=>rfl) (fun _=>rfl) ?_ ?_
 · with_reducible refine sxE ?_
   exact ⟨rfl,rfl,rfl,rfl,rfl,rfl,rfl,rfl⟩
 intro t ht;have hwr:=wsx t (by omega)
 by_cases hlt:t<64
 · have hv:=q1x (b:=b) hh t;generalize hvv:rnds b h t=v at*;have i0:=q0h hv 0 (by decide)
   have i1:=q0h hv 1 (by decide)
   have i2:=q0h hv 2 (by decide)
   have i3:=q0h hv 3 (by decide)
   have i4:=q0h hv 4 (by decide)
   have i5:=q0h hv 5 (by decide)
   have i6:=q0h hv 6 (by decide)
   have i7:=q0h hv 7 (by decide)
   refine gyd3 hl hwl Ac ?_;refine ⟨fun _=>⟨⟨by omega,by omega⟩,⟨by omega,by omega⟩,by omega,?_⟩,fun h=>absurd hlt (by omega)⟩
   refine q0I 2 (by decide) ?_
   with_reducible refine sxE ?_
   refine q0l (q0M _ [6,11,25] i4 (by decide) (by decide)) ?_
   refine gyd3 hl hwl Ac ?_;refine q0l (q4J _ _ _ i4 i5 i6) ?_;refine gyd3 hl hwl Ac ?_;refine q0z 3 ?_;with_reducible refine sxE ?_
   refine cyd3 (q0M _ [2,13,22] i0 (by decide) (by decide)) hl hwl Ac ?_
   refine cyd3 (q2Y _ _ _ i0 i1 i2) hl hwl Ac ?_;have hr:rnds b h (t+1)=rnd (kS t) (wS b t) v:=by show rnd (kS t) (wS b t) (rnds b h t)=_;rw [hvv]
   have hT1:=t1U (k:=kS t) (w:=wS b t) hv;have hT2:=t2U hv;refine ⟨t+1,hlt,by dsimp only;omega,⟨[.dead,.dead],rfl⟩,?_⟩
   rw [z0o,q1j b hlt hlt,hT1,hT2,aU,eU];with_reducible refine sy2 hwr hr ?_
   exact ⟨rfl,rfl,rfl,rfl,rfl,rfl,rfl,rfl⟩
 obtain rfl:t=64:=by omega
 refine gyd3 hl hwl Ac ?_;refine ⟨fun h=>absurd h (by omega),fun _=> ?_⟩
 have e8:=list8 (q1x (b:=b) hh 64).1;refine q0x (ι:=Nat) (fun i=>[(186,rI i),(185,.dat (.arr 8 (.int .u32)) (rnds b h 64))]) (fun i=>[.row HH [((blkP b h i),(b,n))],.row (.int .u32) (wL b 64)]) (fun t=>8-t) (fun t=>t≤8) 0 (Al _) ?_ ?_ ?_
 · rw [q3w b hh.1]
 · with_reducible refine sxE ?_
   exact congrArg (SV.dat (.arr 8 (.int .u32))) e8
 intro i hi;have hwr:=wsx i (by omega)
 have hv:=q1x (b:=b) hh 64;have hl:=hv.1;have hbl:=q4T b h i;by_cases hlt:i<8
 · have hbg:=q4O b h hlt;refine gyd4 hl hbl Ac AM ?_;refine ⟨fun _=> ?_,fun h=>absurd hlt (by omega)⟩
   repeat (with_reducible refine And.intro (by first|omega|exact ⟨by omega,by omega⟩) ?_)
   refine ⟨i+1,hlt,by dsimp only;omega,?_,?_⟩
   · rw [hbg,wrapU];show [_,_]= [SObj.row HH [((blkP b h (i+1)),(b,n))],_];rw [←q5b b h hlt]
   with_reducible refine sx1 hwr ?_;trivial
 obtain rfl:i=8:=by omega
 refine gyd3 hl hbl Ac ?_;refine ⟨fun h=>absurd h (by omega),fun _=> ?_⟩
 rw [q4I]
theorem tmod64(n:Nat):((n:Int)).tmod 64=((n%64:Nat):Int):=by rw [Int.tmod_eq_emod_of_nonneg (by omega)];rfl
theorem q6h{m rest b:List UInt8}(h:m.length%64=0):wrR m rest b=splice rest 0 (b.drop (64* (b.length / 64))):=by
 have hme:(m++b).length=m.length+b.length:=Ae;unfold wrR;rw [h];split
 · rw [show 64* (b.length / 64)=0 by omega,Ar]
 rw [if_neg (by omega),hme,BU,AY (by omega),Au]
 congr 2;omega
theorem z0e{m b:List UInt8}{x:HaD}(hst:x.1=foldB hS0 m (m.length / 64))(h:m.length%64+b.length<64):(x.1,List.take (m.length%64) x.2.1++b++List.drop (m.length%64+b.length) x.2.1,((m.length+b.length:Nat):Int))=wrS m x b:=by
 have hme:(m++b).length=m.length+b.length:=Ae;unfold wrS wrR;rw [if_pos h,hme,show (m.length+b.length) / 64=m.length / 64 by omega,q2R hS0 (by omega),←hst]
 rfl
theorem z0f{m b pre b1:List UInt8}{c0:Nat}(hp:pre.length=64*c0)(happ:pre++b1=m++b):(m++b).drop (64* ((m++b).length / 64))=b1.drop (64* (b1.length / 64)):=by
 rw [←happ,Ae,BU,AY (by omega),Au]
 congr 1;omega
theorem q3X{m b pre b1 rest1:List UInt8}{x:HaD}{c0:Nat}{st1:List Int}(hp:pre.length=64*c0)(happ:pre++b1=m++b)(hrr:wrR m x.2.1 b=splice rest1 0 (b1.drop (64* (b1.length / 64))))(hst:st1=foldB hS0 pre c0:=by first|rfl|assumption):
 (foldB st1 b1 (b1.length / 64),List.take 0 rest1++b1.drop (64* (b1.length / 64))++List.drop (0+ (b1.drop (64* (b1.length / 64))).length) rest1,((m.length+b.length:Nat):Int))=wrS m x b:=by
 have hme:(m++b).length=m.length+b.length:=Ae;have hl:(m++b).length / 64=c0+b1.length / 64:=by rw [←happ,Ae];omega
 unfold wrS;rw [hrr,hl,hme,←happ,q7x hS0 hp,hst];rfl
theorem z1O(m b:List UInt8)(x:HaD)(hx:HRep m x)(hl:m.length+b.length≤70368744177664):PE Tryz.prog 257 [.rptr 0 HH 0 0,.isl .u8 b] [.row HH [x]] (.ret (rI 0)) [.row HH [wrS m x b]]:=by
 obtain ⟨st,rest,n⟩:=x;obtain rfl:n=(m.length:Int):=hx.n;have h2:rest.length=64:=hx.rest;have h3:st.length=8:=hx.len;have h4:m.length≠0→st=foldB hS0 m (m.length / 64):=hx.st;have h5:rest.take (m.length%64)=m.drop (64* (m.length / 64)):=hx.tail;have hmt:=tmod64 m.length;have hmw:IntKind.i64.wrap ((m.length:Int)+ (b.length:Int))=((m.length+b.length:Nat):Int):=by rw [wrapi (by omega)];omega
 have hme:(m++b).length=m.length+b.length:=Ae;refine q0b (Af _) ?_;refine q4r fi257 ?_;by_cases c0:m.length=0
 · have hm0:m= []:=Bj.1 c0;have hz:((m.length:Int)=0)=True:=eq_true (by omega)
   have hu:(0< ((m.length%64:Nat):Int))=False:=eq_false (by omega)
   refine gy1 hz ?_;refine q3q (t:=.arr 8 (.int .u32)) (x:=dat_sha_start) (ag:=some 8) (s:=.dat (.arr 8 (.int .u32)) dat_sha_start) (by unfold datList;repeat (first|exact .head _|apply List.Mem.tail)) rfl (.inr rfl) ?_
   refine gy3 hmt hmw hu ?_;have hst1:inWs hS0:=q6a;have hpre:([]:List UInt8).length=64*0:=rfl;have happ:[]++b=m++b:=by rw [hm0]
   have hrr:wrR m rest b=splice rest 0 (b.drop (64* (b.length / 64))):=q6h (by omega)
   refine ⟨by decide,?_⟩
   refine q0x (ι:=Nat) (fun i=>[(1,.isl .u8 (b.drop (64*i)))]) (fun i=>[.row HH [(foldB hS0 b i,(rest,((m.length+b.length:Nat):Int)))]]) (fun i=>b.length / 64-i) (fun i=>i≤b.length / 64) 0 (Al _) ?_ ?_ ?_
   · rfl
   · with_reducible refine sxE ?_;trivial
   intro i hi;have hv:inWs (foldB hS0 b i):=q1q hst1 _ _;have hdl:(b.drop (64*i)).length=b.length-64*i:=Ak;by_cases hlt:i<b.length / 64
   · have hbl:(List.take 64 (b.drop (64*i))).length=64:=by rw [Aw];omega
     have hbe:List.take 64 (b.drop (64*i))=blkAt b i:=by
      unfold blkAt;rw [BB];congr 1;omega
     have hdd:List.drop 64 (List.take (b.length-64*i) (b.drop (64*i)))=b.drop (64* (i+1)):=by
      rw [Ah (by omega),Bp];congr 1
     have hc:(64≤((b.length-64*i:Nat):Int))=True:=eq_true (by omega)
     refine uQ 11 _ ?_;with_reducible refine sy2 hdl hc ?_
     refine q2D [] mixed ?_;refine gQ ?_;refine ⟨by omega,?_⟩
     refine q0F [0] (z5A (List.take 64 (b.drop (64*i))) (rest,((m.length+b.length:Nat):Int)) _ hbl hv) rfl (by decide) (by repeat first|exact trivial|exact rfl|refine And.intro ?_ ?_) rfl rfl (fun _ h=>by cases h) ?_
     simp only [afterR,Out.ren,SV.ren,mgA,sig,SObj.ren,SV.renL,List.set,List.map,Aj];refine gy1 hdl ?_;rw [hdd];refine ⟨⟨by omega,by omega⟩,i+1,hlt,by dsimp only;omega,?_,?_⟩
     · rw [hbe];rfl
     with_reducible refine sxE ?_;trivial
   obtain rfl:i=b.length / 64:=by omega
   have hc:(64≤((b.length-64* (b.length / 64):Nat):Int))=False:=eq_false (by omega)
   have hk0:min (b.length-64* (b.length / 64)) 64=b.length-64* (b.length / 64):=by omega
   refine gy3 hdl hc hk0 ?_;rw [Ah (l:=b.drop (64* (b.length / 64))) (by omega)]
   repeat (with_reducible refine And.intro (by first|omega|exact ⟨by omega,by omega⟩) ?_)
   exact congrArg (fun x=>SObj.row HH [x]) (q3X (x:=(st,rest,(m.length:Int))) hpre happ hrr)

 have hz:((m.length:Int)=0)=False:=eq_false (by omega)
 have hst:=h4 c0;have hst1:inWs st:=hst▸q1q q6a _ _;by_cases c1:0<m.length%64
 · have hu:(0< ((m.length%64:Nat):Int))=True:=eq_true (by omega)
   by_cases c2:m.length%64+b.length<64
   · have hk:min b.length (64-m.length%64)=b.length:=by omega
     have hw2:IntKind.i64.wrap (((m.length%64:Nat):Int)+ (b.length:Int))=((m.length%64+b.length:Nat):Int):=by rw [wrapi (by omega)];omega
     have hs:(((m.length%64+b.length:Nat):Int) <64)=True:=eq_true (by omega)
     refine uQ 600 _ ?_;simp (maxSteps:=3000000) only [hz,hmt,hmw,hu,hk,hw2,hs,AA,go_sem,↓zA,↓reduceIte,↓reduceDIte] <;>try simp only [zB]
     repeat (with_reducible refine And.intro (by first|omega|exact ⟨by omega,by omega⟩ |exact ⟨by omega,by omega,by omega⟩) ?_)
     exact congrArg (fun x=>SObj.row HH [x]) (z0e (x:=(st,rest,(m.length:Int))) hst c2)
   have hk:min b.length (64-m.length%64)=64-m.length%64:=by omega
   have hw2:IntKind.i64.wrap (((m.length%64:Nat):Int)+ ((64-m.length%64:Nat):Int))=((64:Nat):Int):=by rw [wrapi (by omega)];omega
   have htl:(List.take (64-m.length%64) b).length=64-m.length%64:=by rw [Aw];omega
   have hfull:m.length%64+ (64-m.length%64)=64:=by omega
   have hs:(((64:Nat):Int) <64)=False:=eq_false (by omega)
   have hpre:(m++b.take (64-m.length%64)).length=64* (m.length / 64+1):=by rw [Ae,htl];omega
   have happ:m++b.take (64-m.length%64)++b.drop (64-m.length%64)=m++b:=by rw [List.append_assoc,Bb]
   obtain ⟨r1,hr1⟩:∃r1,r1=(List.take (m.length%64) rest++List.take (64-m.length%64) b++List.drop 64 rest):=⟨_,rfl⟩;have hr1l:r1.length=64:=by rw [hr1,Ae,Ae,htl,Aw,Ak];omega
   have hrr:wrR m rest b=splice r1 0 ((b.drop (64-m.length%64)).drop (64* ((b.drop (64-m.length%64)).length / 64))):=by
    unfold wrR;rw [if_neg c2,if_pos c1,hr1,z0f hpre happ];simp only [splice,htl,hfull]
   have hstD:blkS r1 st=foldB hS0 (m++b.take (64-m.length%64)) (m.length / 64+1):=by
    rw [foldB,q2R hS0 (by omega),←hst]
    congr 1;unfold blkAt;rw [Ah (by omega),Bn (by omega),←h5,hr1,show List.drop 64 rest= [] from AY (by omega),Aj]
   have hst1':inWs (blkS r1 st):=z1A;have hbl1:(List.drop (64-m.length%64) b).length=b.length- (64-m.length%64):=Ak;refine uQ 74 _ ?_;simp (maxSteps:=3000000) only [hz,hmt,hmw,hu,hk,hw2,htl,hfull,hs,go_sem,↓zA,↓reduceIte,↓reduceDIte] <;>try simp only [zB]
   rw [←hr1];refine ⟨by decide,⟨by omega,by omega,by omega⟩,by omega,?_⟩
   refine q2D [] mixed ?_;refine gQ ?_;refine ⟨⟨by omega,by omega⟩,?_⟩
   refine q0F [0] (j3U r1 ((m.length+b.length:Nat):Int) _ hr1l hst1) rfl (by decide) (by repeat first|exact trivial|exact rfl|refine And.intro ?_ ?_) rfl rfl (fun _ h=>by cases h) ?_
   simp only [afterR,Out.ren,SV.ren,mgA,sig,SObj.ren,SV.renL,List.set,List.map,Aj];refine gy1 hk ?_;rw [AA];refine ⟨⟨by omega,by omega⟩,?_⟩
   replace hst1:=hst1';refine q0x (ι:=Nat) (fun i=>[(1,.isl .u8 ((b.drop (64-m.length%64)).drop (64*i)))]) (fun i=>[.row HH [(foldB (blkS r1 st) (b.drop (64-m.length%64)) i,(r1,((m.length+b.length:Nat):Int)))]]) (fun i=>(b.drop (64-m.length%64)).length / 64-i) (fun i=>i≤(b.drop (64-m.length%64)).length / 64) 0 (Al _) ?_ ?_ ?_
   · rfl
   · with_reducible refine sxE ?_;trivial
   intro i hi;have hv:inWs (foldB (blkS r1 st) (b.drop (64-m.length%64)) i):=q1q hst1 _ _;have hdl:((b.drop (64-m.length%64)).drop (64*i)).length=(b.drop (64-m.length%64)).length-64*i:=Ak;by_cases hlt:i< (b.drop (64-m.length%64)).length / 64
   · have hbl:(List.take 64 ((b.drop (64-m.length%64)).drop (64*i))).length=64:=by rw [Aw];omega
     have hbe:List.take 64 ((b.drop (64-m.length%64)).drop (64*i))=blkAt (b.drop (64-m.length%64)) i:=by
      unfold blkAt;rw [BB];congr 1;omega
     have hdd:List.drop 64 (List.take ((b.drop (64-m.length%64)).length-64*i) ((b.drop (64-m.length%64)).drop (64*i)))=(b.drop (64-m.length%64)).drop (64* (i+1)):=by
      rw [Ah (by omega),Bp];congr 1
     have hc:(64≤(((b.drop (64-m.length%64)).length-64*i:Nat):Int))=True:=eq_true (by omega)
     refine uQ 11 _ ?_;with_reducible refine sy2 hdl hc ?_
     refine q2D [] mixed ?_;refine gQ ?_;refine ⟨by omega,?_⟩
     refine q0F [0] (z5A (List.take 64 ((b.drop (64-m.length%64)).drop (64*i))) (r1,((m.length+b.length:Nat):Int)) _ hbl hv) rfl (by decide) (by repeat first|exact trivial|exact rfl|refine And.intro ?_ ?_) rfl rfl (fun _ h=>by cases h) ?_
     simp only [afterR,Out.ren,SV.ren,mgA,sig,SObj.ren,SV.renL,List.set,List.map,Aj];refine gy1 hdl ?_;rw [hdd];refine ⟨⟨by omega,by omega⟩,i+1,hlt,by dsimp only;omega,?_,?_⟩
     · rw [hbe];rfl
     with_reducible refine sxE ?_;trivial
   obtain rfl:i=(b.drop (64-m.length%64)).length / 64:=by omega
   have hc:(64≤(((b.drop (64-m.length%64)).length-64* ((b.drop (64-m.length%64)).length / 64):Nat):Int))=False:=eq_false (by omega)
   have hk0:min ((b.drop (64-m.length%64)).length-64* ((b.drop (64-m.length%64)).length / 64)) 64=(b.drop (64-m.length%64)).length-64* ((b.drop (64-m.length%64)).length / 64):=by omega
   refine gy3 hdl hc hk0 ?_;rw [Ah (l:=(b.drop (64-m.length%64)).drop (64* ((b.drop (64-m.length%64)).length / 64))) (by omega)]
   repeat (with_reducible refine And.intro (by first|omega|exact ⟨by omega,by omega⟩) ?_)
   exact congrArg (fun x=>SObj.row HH [x]) (q3X (x:=(st,rest,(m.length:Int))) hpre happ hrr)

 have hu:(0< ((m.length%64:Nat):Int))=False:=eq_false (by omega)
 refine gy4 hz hmt hmw hu ?_;have hpre:m.length=64* (m.length / 64):=by omega
 have happ:m++b=m++b:=rfl;have hrr:wrR m rest b=splice rest 0 (b.drop (64* (b.length / 64))):=q6h (by omega)
 refine ⟨by decide,?_⟩
 refine q0x (ι:=Nat) (fun i=>[(1,.isl .u8 (b.drop (64*i)))]) (fun i=>[.row HH [(foldB st b i,(rest,((m.length+b.length:Nat):Int)))]]) (fun i=>b.length / 64-i) (fun i=>i≤b.length / 64) 0 (Al _) ?_ ?_ ?_
 · rfl
 · with_reducible refine sxE ?_;trivial
 intro i hi;have hv:inWs (foldB st b i):=q1q hst1 _ _;have hdl:(b.drop (64*i)).length=b.length-64*i:=Ak;by_cases hlt:i<b.length / 64
 · have hbl:(List.take 64 (b.drop (64*i))).length=64:=by rw [Aw];omega
   have hbe:List.take 64 (b.drop (64*i))=blkAt b i:=by
    unfold blkAt;rw [BB];congr 1;omega
   have hdd:List.drop 64 (List.take (b.length-64*i) (b.drop (64*i)))=b.drop (64* (i+1)):=by
    rw [Ah (by omega),Bp];congr 1
   have hc:(64≤((b.length-64*i:Nat):Int))=True:=eq_true (by omega)
   refine uQ 11 _ ?_;with_reducible refine sy2 hdl hc ?_
   refine q2D [] mixed ?_;refine gQ ?_;refine ⟨by omega,?_⟩
   refine q0F [0] (z5A (List.take 64 (b.drop (64*i))) (rest,((m.length+b.length:Nat):Int)) _ hbl hv) rfl (by decide) (by repeat first|exact trivial|exact rfl|refine And.intro ?_ ?_) rfl rfl (fun _ h=>by cases h) ?_
   simp only [afterR,Out.ren,SV.ren,mgA,sig,SObj.ren,SV.renL,List.set,List.map,Aj];refine gy1 hdl ?_;rw [hdd];refine ⟨⟨by omega,by omega⟩,i+1,hlt,by dsimp only;omega,?_,?_⟩
   · rw [hbe];rfl
   with_reducible refine sxE ?_;trivial
 obtain rfl:i=b.length / 64:=by omega
 have hc:(64≤((b.length-64* (b.length / 64):Nat):Int))=False:=eq_false (by omega)
 have hk0:min (b.length-64* (b.length / 64)) 64=b.length-64* (b.length / 64):=by omega
 refine gy3 hdl hc hk0 ?_;rw [Ah (l:=b.drop (64* (b.length / 64))) (by omega)]
 repeat (with_reducible refine And.intro (by first|omega|exact ⟨by omega,by omega⟩) ?_)
 exact congrArg (fun x=>SObj.row HH [x]) (q3X (x:=(st,rest,(m.length:Int))) hpre happ hrr)

theorem z6F(b:List UInt8)(ks:List UInt8×List UInt8)(r:List UInt8×Int)(rd:Bool)(h:List Int)(hb:b.length=64)(hh:inWs h):PE Tryz.prog 282 [.rptr 0 MH 0 128,.isl .u8 b] [.row MH [(ks,((h,r),rd))]] (.ret (.tup [])) [.row MH [(ks,(((blkS b h),r),rd))]]:=by
 refine q0b (Af _) ?_;refine rQ fi282 ?_;refine q0x (ι:=Nat) (fun t=>[(26,rI t)]) (fun t=>[.row MH [(ks,((h,r),rd))],.row (.int .u32) (wL b t)]) (fun t=>16-t) (fun t=>t≤16) 0 (Al _) (by rw [q6O];rfl) ?_ ?_
 · with_reducible refine sxE ?_;trivial
 intro t ht;have hwr:=wsx t (by omega)
 have hwl:=q4e b t;by_cases hlt:t<16
 · have w1:IntKind.i64.wrap (4* (t:Int))=((4*t:Nat):Int):=by rw [wrapi (by omega)];omega
   have w4:IntKind.i64.wrap (((4*t:Nat):Int)+4)=((4*t+4:Nat):Int):=by rw [wrapi (by omega)];omega
   refine gy4 w1 w4 hwl Ac ?_;have hdl:(List.drop (4*t) (List.take (4*t+4) b)).length=4:=by rw [Ak,Aw];omega
   refine ⟨fun _=> ?_,fun h=>absurd h (by omega)⟩
   repeat (with_reducible refine And.intro (by first|omega|exact ⟨by omega,by omega,by omega,by omega⟩ |exact ⟨by omega,by omega⟩) ?_)
   refine ⟨t+1,by show t+1≤16;omega,by dsimp only;omega,?_,?_⟩
   · have hd:∀j,j<4→(List.drop (4*t) (List.take (4*t+4) b)).getD j Ty.u8.dflt=b.getD (4*t+j) 0:=fun j hj=>by
      rw [Ad,AF,Bz (by omega),←Ad]
      rfl
     have ho:=or4 fun j=>(List.drop (4*t) (List.take (4*t+4) b)).getD j Ty.u8.dflt;rw [ho,hd 0 (by omega),hd 1 (by omega),hd 2 (by omega),hd 3 (by omega)]
     have hw:((256* (256* (256* (b.getD (4*t+0) 0).toNat+ (b.getD (4*t+1) 0).toNat)+ (b.getD (4*t+2) 0).toNat)+ (b.getD (4*t+3) 0).toNat:Nat):Int)=wS b t:=by
      rw [z4j hlt];simp only [wdP,byI];omega
     show [SObj.row MH [(ks,((h,r),rd))],SObj.row (.int .u32) ((wL b t).set t ((256* (256* (256* (b.getD (4*t+0) 0).toNat+ (b.getD (4*t+1) 0).toNat)+ (b.getD (4*t+2) 0).toNat)+ (b.getD (4*t+3) 0).toNat:Nat):Int))]= [SObj.row MH [(ks,((h,r),rd))],SObj.row (.int .u32) (wL b (t+1))];rw [hw,q4f b (by omega)]
   with_reducible refine sx1 hwr ?_;trivial
 obtain rfl:t=16:=by omega
 refine gy2 hwl Ac ?_;refine ⟨fun h=>absurd h (by omega),fun _=> ?_⟩
 refine q1V (ι:=Nat) (fun t=>[(7,rI t)]) (fun t=>[.row MH [(ks,((h,r),rd))],.row (.int .u32) (wL b t)]) (fun t=>64-t) (fun t=>16≤t∧t≤64) 16 (by decide) 2 rfl (by decide) (fun _=>rfl) (fun _=>rfl) (fun _=>rfl) ?_ ?_
 · with_reducible refine sxE ?_
   rfl
 intro t ht;have hwl:=q4e b t;have hwr:=wsx t (by omega)
 by_cases hlt:t<64
 · have e15:IntKind.i64.wrap ((t:Int) -15)=((t-15:Nat):Int):=by rw [wrapi (by omega)];omega
   have e2:IntKind.i64.wrap ((t:Int) -2)=((t-2:Nat):Int):=by rw [wrapi (by omega)];omega
   have e7:IntKind.i64.wrap ((t:Int) -7)=((t-7:Nat):Int):=by rw [wrapi (by omega)];omega
   have e16:IntKind.i64.wrap ((t:Int) -16)=((t-16:Nat):Int):=by rw [wrapi (by omega)];omega
   have g15:=q1j b (t:=t) (j:=t-15) (by omega) (by omega)
   have g2:=q1j b (t:=t) (j:=t-2) (by omega) (by omega)
   have g7:=q1j b (t:=t) (j:=t-7) (by omega) (by omega)
   have g16:=q1j b (t:=t) (j:=t-16) (by omega) (by omega)
   have i15:=q2O b (t-15);have i2:=q2O b (t-2);have i7:=q2O b (t-7);have i16:=q2O b (t-16);refine gyd10 e15 e2 e7 e16 g15 g2 g7 g16 hwl Ac ?_;refine ⟨fun _=>⟨⟨by omega,by omega⟩,by omega,⟨by omega,by omega⟩,by omega,⟨by omega,by omega⟩,by omega,⟨by omega,by omega⟩,by omega,q0E (q0M (wS b (t-2)) [17,19] i2 (by decide) (by decide)) ?_⟩,fun h=>absurd hlt (by omega)⟩
   refine gQ ?_;refine q0I 2 (by decide) ?_
   with_reducible refine sxE ?_
   refine q0l (q0M (wS b (t-15)) [7,18] i15 (by decide) (by decide)) ?_
   refine uQ 600 _ ?_;simp (maxSteps:=3000000) only [e15,e2,e7,e16,g15,g2,g7,g16,hwl,Ac,Ty.dflt,go_sem,↓zA,↓reduceIte,↓reduceDIte] <;>try simp only [zB]
   repeat (with_reducible refine And.intro (by first|omega|exact ⟨by omega,by omega⟩) ?_)
   refine ⟨t+1,⟨by omega,hlt⟩,by dsimp only;omega,⟨[.dead],?_⟩,?_⟩
   · rw [schU i15 i2,←z4s (by omega),q4f b hlt]
     rfl
   with_reducible refine sx1 hwr ?_;trivial
 obtain rfl:t=64:=by omega
 refine gQ ?_;have hl:=hh.1;refine ⟨fun h=>absurd h (by omega),fun _=> ?_⟩
 repeat (with_reducible refine And.intro (by omega) ?_)
 refine q3q (t:=.arr 64 (.int .u32)) (x:=dat_sha_constants) (ag:=some 64) (s:=.dat (.arr 64 (.int .u32)) dat_sha_constants) (by unfold datList;repeat (first|exact .head _|apply List.Mem.tail)) rfl (.inr rfl) ?_
 refine gQ ?_;refine q1V (ι:=Nat) (fun t=>[(134,rI t),(12,.raw (.int .u32 ((rnds b h t).getD 0 0))),(13,.raw (.int .u32 ((rnds b h t).getD 1 0))),(14,.raw (.int .u32 ((rnds b h t).getD 2 0))),(15,.raw (.int .u32 ((rnds b h t).getD 3 0))),(16,.raw (.int .u32 ((rnds b h t).getD 4 0))),(17,.raw (.int .u32 ((rnds b h t).getD 5 0))),(18,.raw (.int .u32 ((rnds b h t).getD 6 0))),(19,.raw (.int .u32 ((rnds b h t).getD 7 0)))]) (fun t=>[.row MH [(ks,((h,r),rd))],.row (.int .u32) (wL b 64)]) (fun t=>64-t) (fun t=>t≤64) 0 (Al _) 2 rfl (by decide) (fun _=>rfl) (fun _=>rfl) (fun _=>rfl) ?_ ?_
 · with_reducible refine sxE ?_
   exact ⟨rfl,rfl,rfl,rfl,rfl,rfl,rfl,rfl⟩
 intro t ht;have hwr:=wsx t (by omega)
 by_cases hlt:t<64
 · have hv:=q1x (b:=b) hh t;generalize hvv:rnds b h t=v at*;have i0:=q0h hv 0 (by decide)
   have i1:=q0h hv 1 (by decide)
   have i2:=q0h hv 2 (by decide)
   have i3:=q0h hv 3 (by decide)
   have i4:=q0h hv 4 (by decide)
   have i5:=q0h hv 5 (by decide)
   have i6:=q0h hv 6 (by decide)
   have i7:=q0h hv 7 (by decide)
   refine gyd3 hl hwl Ac ?_;refine ⟨fun _=>⟨⟨by omega,by omega⟩,⟨by omega,by omega⟩,by omega,?_⟩,fun h=>absurd hlt (by omega)⟩
   refine q0I 2 (by decide) ?_
   with_reducible refine sxE ?_
   refine q0l (q0M _ [6,11,25] i4 (by decide) (by decide)) ?_
   refine gyd3 hl hwl Ac ?_;refine q0l (q4J _ _ _ i4 i5 i6) ?_;refine gyd3 hl hwl Ac ?_;refine q0z 3 ?_;with_reducible refine sxE ?_
   refine cyd3 (q0M _ [2,13,22] i0 (by decide) (by decide)) hl hwl Ac ?_
   refine cyd3 (q2Y _ _ _ i0 i1 i2) hl hwl Ac ?_;have hr:rnds b h (t+1)=rnd (kS t) (wS b t) v:=by show rnd (kS t) (wS b t) (rnds b h t)=_;rw [hvv]
   have hT1:=t1U (k:=kS t) (w:=wS b t) hv;have hT2:=t2U hv;refine ⟨t+1,hlt,by dsimp only;omega,⟨[.dead,.dead],rfl⟩,?_⟩
   rw [z0o,q1j b hlt hlt,hT1,hT2,aU,eU];with_reducible refine sy2 hwr hr ?_
   exact ⟨rfl,rfl,rfl,rfl,rfl,rfl,rfl,rfl⟩
 obtain rfl:t=64:=by omega
 refine gyd3 hl hwl Ac ?_;refine ⟨fun h=>absurd h (by omega),fun _=> ?_⟩
 have e8:=list8 (q1x (b:=b) hh 64).1;refine q0x (ι:=Nat) (fun i=>[(186,rI i),(185,.dat (.arr 8 (.int .u32)) (rnds b h 64))]) (fun i=>[.row MH [(ks,(((blkP b h i),r),rd))],.row (.int .u32) (wL b 64)]) (fun t=>8-t) (fun t=>t≤8) 0 (Al _) ?_ ?_ ?_
 · rw [q3w b hh.1]
 · with_reducible refine sxE ?_
   exact congrArg (SV.dat (.arr 8 (.int .u32))) e8
 intro i hi;have hwr:=wsx i (by omega)
 have hv:=q1x (b:=b) hh 64;have hl:=hv.1;have hbl:=q4T b h i;by_cases hlt:i<8
 · have hbg:=q4O b h hlt;refine gyd4 hl hbl Ac AM ?_;refine ⟨fun _=> ?_,fun h=>absurd hlt (by omega)⟩
   repeat (with_reducible refine And.intro (by first|omega|exact ⟨by omega,by omega⟩) ?_)
   refine ⟨i+1,hlt,by dsimp only;omega,?_,?_⟩
   · rw [hbg,wrapU];show [_,_]= [SObj.row MH [(ks,(((blkP b h (i+1)),r),rd))],_];rw [←q5b b h hlt]
   with_reducible refine sx1 hwr ?_;trivial
 obtain rfl:i=8:=by omega
 refine gyd3 hl hbl Ac ?_;refine ⟨fun h=>absurd h (by omega),fun _=> ?_⟩
 rw [q4I]
end Go.Proofs.YtmapiojgmbgbgaaGreatDoor
