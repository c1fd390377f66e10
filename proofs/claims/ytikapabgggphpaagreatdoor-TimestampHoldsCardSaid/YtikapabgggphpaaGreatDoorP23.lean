/- SHA-256: contracts: Write. -/
import Derived.Test.YtikapabgggphpaaGreatDoorP22
import Derived.Test.YtikapabgggphpaaGreatDoorP21
import Derived.Test.YtikapabgggphpaaGreatDoorP16
import Derived.Test.YtikapabgggphpaaGreatDoorP12
import Derived.Test.YtikapabgggphpaaGreatDoorP20
import Derived.Test.YtikapabgggphpaaGreatDoorP17
import Derived.Test.YtikapabgggphpaaGreatDoorP19
set_option linter.all false
namespace Go.Proofs.YtikapabgggphpaaGreatDoor
open Go Go.Sx Go.Proofs
set_option maxRecDepth 100000
set_option maxHeartbeats 40000000
theorem z8O (m b:List UInt8) (x:HaD) (ks:List UInt8×List UInt8) (rd:Bool) (hx:HRep m x) (hl:m.length+b.length≤70368744177664):PE Tryz.prog 181 [.rptr 0 (.prod (.prod (.arr 64 .u8) (.arr 64 .u8)) (.prod (.prod (.arr 8 (.int .u32)) (.prod (.arr 64 .u8) (.int .i64))) .bool)) 0 128,.isl .u8 b] [.row (.prod (.prod (.arr 64 .u8) (.arr 64 .u8)) (.prod (.prod (.arr 8 (.int .u32)) (.prod (.arr 64 .u8) (.int .i64))) .bool)) [(ks,(x,rd))]] (.ret (rI 0)) [.row (.prod (.prod (.arr 64 .u8) (.arr 64 .u8)) (.prod (.prod (.arr 8 (.int .u32)) (.prod (.arr 64 .u8) (.int .i64))) .bool)) [(ks,(wrS m x b,rd))]]:=by
 obtain ⟨st,rest,n⟩:=x
 obtain rfl:n=(m.length:Int):=hx.n
 have h2:rest.length=64:=hx.rest
 have h3:st.length=8:=hx.len
 have h4:m.length≠0→st=foldB hS0 m (m.length / 64):=hx.st
 have h5:rest.take (m.length%64)=m.drop (64* (m.length / 64)):=hx.tail
 have hmt:=tmod64 m.length
 have hmw:IntKind.i64.wrap ((m.length:Int)+ (b.length:Int))=((m.length+b.length:Nat):Int):=by rw [wrapi (by omega)];omega
 have hme:(m++b).length=m.length+b.length:=List.length_append
 refine q0d (Nat.le_refl _) ?_
 refine q0G fi181 ?_
 by_cases c0:m.length=0
 · have hm0:m= []:=List.length_eq_zero_iff.1 c0
   have hz:((m.length:Int)=0)=True:=eq_true (by omega)
   have hu:(0< ((m.length%64:Nat):Int))=False:=eq_false (by omega)
   refine uQ 600 _ ?_
   with_reducible refine sx1 hz ?_
   refine q2U (t:=.arr 8 (.int .u32)) (x:=dat_sha_start) (ag:=some 8) (s:=.dat (.arr 8 (.int .u32)) dat_sha_start) (by unfold datList;repeat (first|exact .head _|apply List.Mem.tail)) rfl (.inr rfl) ?_
   refine uQ 600 _ ?_
   simp (maxSteps:=3000000) only [hmt,hmw,hu,go_sem,↓zA,↓reduceIte,↓reduceDIte] <;>try simp only [zB]
   have hst1:inWs hS0:=q5r
   have hpre:([]:List UInt8).length=64*0:=rfl
   have happ:[]++b=m++b:=by rw [hm0]
   have hrr:wrR m rest b=splice rest 0 (b.drop (64* (b.length / 64))):=q5M (by omega)
   refine ⟨by decide,?_⟩
   refine q0i (ι:=Nat) (fun i=>[(1,.isl .u8 (b.drop (64*i)))]) (fun i=>[.row (.prod (.prod (.arr 64 .u8) (.arr 64 .u8)) (.prod (.prod (.arr 8 (.int .u32)) (.prod (.arr 64 .u8) (.int .i64))) .bool)) [(ks,((foldB hS0 b i,(rest,((m.length+b.length:Nat):Int))),rd))]]) (fun i=>b.length / 64-i) (fun i=>i≤b.length / 64) 0 (Nat.zero_le _) ?_ ?_ ?_
   · rfl
   · with_reducible refine sxE ?_;trivial
   intro i hi
   have hv:inWs (foldB hS0 b i):=q0Z hst1 _ _
   have hdl:(b.drop (64*i)).length=b.length-64*i:=List.length_drop
   by_cases hlt:i<b.length / 64
   · have hbl:(List.take 64 (b.drop (64*i))).length=64:=by rw [List.length_take];omega
     have hbe:List.take 64 (b.drop (64*i))=blkAt b i:=by
      unfold blkAt;rw [List.drop_take];congr 1;omega
     have hdd:List.drop 64 (List.take (b.length-64*i) (b.drop (64*i)))=b.drop (64* (i+1)):=by
      rw [List.take_of_length_le (by omega),List.drop_drop];congr 1
     have hc:(64≤((b.length-64*i:Nat):Int))=True:=eq_true (by omega)
     refine uQ 11 _ ?_
     simp (maxSteps:=3000000) only [hdl,hc,go_sem,↓zA,↓reduceIte,↓reduceDIte] <;>try simp only [zB]
     refine q1P [] mixed ?_
     refine uQ 600 _ ?_
     with_reducible refine sxE ?_
     refine ⟨by omega,?_⟩
     refine q0M [0] (z5O (List.take 64 (b.drop (64*i))) ks (rest,((m.length+b.length:Nat):Int)) rd _ hbl hv) rfl (by decide) (by repeat first|exact trivial|exact rfl|refine And.intro ?_ ?_) rfl rfl (fun _ h=>by cases h) ?_
     simp only [afterR,Out.ren,SV.ren,mgA,sig,SObj.ren,SV.renL,List.set,List.map,List.append_nil]
     refine uQ 600 _ ?_
     with_reducible refine sx1 hdl ?_
     rw [hdd]
     refine ⟨⟨by omega,by omega⟩,i+1,hlt,by dsimp only;omega,?_,?_⟩
     · rw [hbe];rfl
     with_reducible refine sxE ?_;trivial
   obtain rfl:i=b.length / 64:=by omega
   have hc:(64≤((b.length-64* (b.length / 64):Nat):Int))=False:=eq_false (by omega)
   have hk0:min (b.length-64* (b.length / 64)) 64=b.length-64* (b.length / 64):=by omega
   refine uQ 600 _ ?_
   simp (maxSteps:=3000000) only [hdl,hc,hk0,go_sem,↓zA,↓reduceIte,↓reduceDIte] <;>try simp only [zB]
   rw [List.take_of_length_le (l:=b.drop (64* (b.length / 64))) (by omega)]
   repeat (with_reducible refine And.intro (by first|omega|exact ⟨by omega,by omega⟩) ?_)
   exact congrArg (fun x=>SObj.row (.prod (.prod (.arr 64 .u8) (.arr 64 .u8)) (.prod (.prod (.arr 8 (.int .u32)) (.prod (.arr 64 .u8) (.int .i64))) .bool)) [(ks,(x,rd))]) (q3k (x:=(st,rest,(m.length:Int))) hpre happ hrr)

 have hz:((m.length:Int)=0)=False:=eq_false (by omega)
 have hst:=h4 c0
 have hst1:inWs st:=hst▸q0Z q5r _ _
 by_cases c1:0<m.length%64
 · have hu:(0< ((m.length%64:Nat):Int))=True:=eq_true (by omega)
   by_cases c2:m.length%64+b.length<64
   · have hk:min b.length (64-m.length%64)=b.length:=by omega
     have hw2:IntKind.i64.wrap (((m.length%64:Nat):Int)+ (b.length:Int))=((m.length%64+b.length:Nat):Int):=by rw [wrapi (by omega)];omega
     have hs:(((m.length%64+b.length:Nat):Int) <64)=True:=eq_true (by omega)
     refine uQ 600 _ ?_
     simp (maxSteps:=3000000) only [hz,hmt,hmw,hu,hk,hw2,hs,List.take_length,go_sem,↓zA,↓reduceIte,↓reduceDIte] <;>try simp only [zB]
     repeat (with_reducible refine And.intro (by first|omega|exact ⟨by omega,by omega⟩ |exact ⟨by omega,by omega,by omega⟩) ?_)
     exact congrArg (fun x=>SObj.row (.prod (.prod (.arr 64 .u8) (.arr 64 .u8)) (.prod (.prod (.arr 8 (.int .u32)) (.prod (.arr 64 .u8) (.int .i64))) .bool)) [(ks,(x,rd))]) (z0b (x:=(st,rest,(m.length:Int))) hst c2)
   have hk:min b.length (64-m.length%64)=64-m.length%64:=by omega
   have hw2:IntKind.i64.wrap (((m.length%64:Nat):Int)+ ((64-m.length%64:Nat):Int))=((64:Nat):Int):=by rw [wrapi (by omega)];omega
   have htl:(List.take (64-m.length%64) b).length=64-m.length%64:=by rw [List.length_take];omega
   have hfull:m.length%64+ (64-m.length%64)=64:=by omega
   have hs:(((64:Nat):Int) <64)=False:=eq_false (by omega)
   have hpre:(m++b.take (64-m.length%64)).length=64* (m.length / 64+1):=by rw [List.length_append,htl];omega
   have happ:m++b.take (64-m.length%64)++b.drop (64-m.length%64)=m++b:=by rw [List.append_assoc,List.take_append_drop]
   obtain ⟨r1,hr1⟩:∃r1,r1=(List.take (m.length%64) rest++List.take (64-m.length%64) b++List.drop 64 rest):=⟨_,rfl⟩
   have hr1l:r1.length=64:=by rw [hr1,List.length_append,List.length_append,htl,List.length_take,List.length_drop];omega
   have hrr:wrR m rest b=splice r1 0 ((b.drop (64-m.length%64)).drop (64* ((b.drop (64-m.length%64)).length / 64))):=by
    unfold wrR
    rw [if_neg c2,if_pos c1,hr1,q9s hpre happ]
    simp only [splice,htl,hfull]
   have hstD:blkS r1 st=foldB hS0 (m++b.take (64-m.length%64)) (m.length / 64+1):=by
    rw [foldB,q2A hS0 (by omega),←hst]
    congr 1
    unfold blkAt
    rw [List.take_of_length_le (by omega),List.drop_append_of_le_length (by omega),←h5,hr1,show List.drop 64 rest= [] from List.drop_eq_nil_of_le (by omega),List.append_nil]
   have hst1':inWs (blkS r1 st):=z1q
   have hbl1:(List.drop (64-m.length%64) b).length=b.length- (64-m.length%64):=List.length_drop
   refine uQ 74 _ ?_
   simp (maxSteps:=3000000) only [hz,hmt,hmw,hu,hk,hw2,htl,hfull,hs,go_sem,↓zA,↓reduceIte,↓reduceDIte] <;>try simp only [zB]
   rw [←hr1]
   refine ⟨by decide,⟨by omega,by omega,by omega⟩,by omega,?_⟩
   refine q1P [] mixed ?_
   refine uQ 600 _ ?_
   with_reducible refine sxE ?_
   refine ⟨⟨by omega,by omega⟩,?_⟩
   refine q0M [0] (j3D r1 ks ((m.length+b.length:Nat):Int) rd _ hr1l hst1) rfl (by decide) (by repeat first|exact trivial|exact rfl|refine And.intro ?_ ?_) rfl rfl (fun _ h=>by cases h) ?_
   simp only [afterR,Out.ren,SV.ren,mgA,sig,SObj.ren,SV.renL,List.set,List.map,List.append_nil]
   refine uQ 600 _ ?_
   with_reducible refine sx1 hk ?_
   rw [List.take_length]
   refine ⟨⟨by omega,by omega⟩,?_⟩
   replace hst1:=hst1'
   refine q0i (ι:=Nat) (fun i=>[(1,.isl .u8 ((b.drop (64-m.length%64)).drop (64*i)))]) (fun i=>[.row (.prod (.prod (.arr 64 .u8) (.arr 64 .u8)) (.prod (.prod (.arr 8 (.int .u32)) (.prod (.arr 64 .u8) (.int .i64))) .bool)) [(ks,((foldB (blkS r1 st) (b.drop (64-m.length%64)) i,(r1,((m.length+b.length:Nat):Int))),rd))]]) (fun i=>(b.drop (64-m.length%64)).length / 64-i) (fun i=>i≤(b.drop (64-m.length%64)).length / 64) 0 (Nat.zero_le _) ?_ ?_ ?_
   · rfl
   · with_reducible refine sxE ?_;trivial
   intro i hi
   have hv:inWs (foldB (blkS r1 st) (b.drop (64-m.length%64)) i):=q0Z hst1 _ _
   have hdl:((b.drop (64-m.length%64)).drop (64*i)).length=(b.drop (64-m.length%64)).length-64*i:=List.length_drop
   by_cases hlt:i< (b.drop (64-m.length%64)).length / 64
   · have hbl:(List.take 64 ((b.drop (64-m.length%64)).drop (64*i))).length=64:=by rw [List.length_take];omega
     have hbe:List.take 64 ((b.drop (64-m.length%64)).drop (64*i))=blkAt (b.drop (64-m.length%64)) i:=by
      unfold blkAt;rw [List.drop_take];congr 1;omega
     have hdd:List.drop 64 (List.take ((b.drop (64-m.length%64)).length-64*i) ((b.drop (64-m.length%64)).drop (64*i)))=(b.drop (64-m.length%64)).drop (64* (i+1)):=by
      rw [List.take_of_length_le (by omega),List.drop_drop];congr 1
     have hc:(64≤(((b.drop (64-m.length%64)).length-64*i:Nat):Int))=True:=eq_true (by omega)
     refine uQ 11 _ ?_
     simp (maxSteps:=3000000) only [hdl,hc,go_sem,↓zA,↓reduceIte,↓reduceDIte] <;>try simp only [zB]
     refine q1P [] mixed ?_
     refine uQ 600 _ ?_
     with_reducible refine sxE ?_
     refine ⟨by omega,?_⟩
     refine q0M [0] (z5O (List.take 64 ((b.drop (64-m.length%64)).drop (64*i))) ks (r1,((m.length+b.length:Nat):Int)) rd _ hbl hv) rfl (by decide) (by repeat first|exact trivial|exact rfl|refine And.intro ?_ ?_) rfl rfl (fun _ h=>by cases h) ?_
     simp only [afterR,Out.ren,SV.ren,mgA,sig,SObj.ren,SV.renL,List.set,List.map,List.append_nil]
     refine uQ 600 _ ?_
     with_reducible refine sx1 hdl ?_
     rw [hdd]
     refine ⟨⟨by omega,by omega⟩,i+1,hlt,by dsimp only;omega,?_,?_⟩
     · rw [hbe];rfl
     with_reducible refine sxE ?_;trivial
   obtain rfl:i=(b.drop (64-m.length%64)).length / 64:=by omega
   have hc:(64≤(((b.drop (64-m.length%64)).length-64* ((b.drop (64-m.length%64)).length / 64):Nat):Int))=False:=eq_false (by omega)
   have hk0:min ((b.drop (64-m.length%64)).length-64* ((b.drop (64-m.length%64)).length / 64)) 64=(b.drop (64-m.length%64)).length-64* ((b.drop (64-m.length%64)).length / 64):=by omega
   refine uQ 600 _ ?_
   simp (maxSteps:=3000000) only [hdl,hc,hk0,go_sem,↓zA,↓reduceIte,↓reduceDIte] <;>try simp only [zB]
   rw [List.take_of_length_le (l:=(b.drop (64-m.length%64)).drop (64* ((b.drop (64-m.length%64)).length / 64))) (by omega)]
   repeat (with_reducible refine And.intro (by first|omega|exact ⟨by omega,by omega⟩) ?_)
   exact congrArg (fun x=>SObj.row (.prod (.prod (.arr 64 .u8) (.arr 64 .u8)) (.prod (.prod (.arr 8 (.int .u32)) (.prod (.arr 64 .u8) (.int .i64))) .bool)) [(ks,(x,rd))]) (q3k (x:=(st,rest,(m.length:Int))) hpre happ hrr)

 have hu:(0< ((m.length%64:Nat):Int))=False:=eq_false (by omega)
 refine uQ 600 _ ?_
 simp (maxSteps:=3000000) only [hz,hmt,hmw,hu,go_sem,↓zA,↓reduceIte,↓reduceDIte] <;>try simp only [zB]
 have hpre:m.length=64* (m.length / 64):=by omega
 have happ:m++b=m++b:=rfl
 have hrr:wrR m rest b=splice rest 0 (b.drop (64* (b.length / 64))):=q5M (by omega)
 refine ⟨by decide,?_⟩
 refine q0i (ι:=Nat) (fun i=>[(1,.isl .u8 (b.drop (64*i)))]) (fun i=>[.row (.prod (.prod (.arr 64 .u8) (.arr 64 .u8)) (.prod (.prod (.arr 8 (.int .u32)) (.prod (.arr 64 .u8) (.int .i64))) .bool)) [(ks,((foldB st b i,(rest,((m.length+b.length:Nat):Int))),rd))]]) (fun i=>b.length / 64-i) (fun i=>i≤b.length / 64) 0 (Nat.zero_le _) ?_ ?_ ?_
 · rfl
 · with_reducible refine sxE ?_;trivial
 intro i hi
 have hv:inWs (foldB st b i):=q0Z hst1 _ _
 have hdl:(b.drop (64*i)).length=b.length-64*i:=List.length_drop
 by_cases hlt:i<b.length / 64
 · have hbl:(List.take 64 (b.drop (64*i))).length=64:=by rw [List.length_take];omega
   have hbe:List.take 64 (b.drop (64*i))=blkAt b i:=by
    unfold blkAt;rw [List.drop_take];congr 1;omega
   have hdd:List.drop 64 (List.take (b.length-64*i) (b.drop (64*i)))=b.drop (64* (i+1)):=by
    rw [List.take_of_length_le (by omega),List.drop_drop];congr 1
   have hc:(64≤((b.length-64*i:Nat):Int))=True:=eq_true (by omega)
   refine uQ 11 _ ?_
   simp (maxSteps:=3000000) only [hdl,hc,go_sem,↓zA,↓reduceIte,↓reduceDIte] <;>try simp only [zB]
   refine q1P [] mixed ?_
   refine uQ 600 _ ?_
   with_reducible refine sxE ?_
   refine ⟨by omega,?_⟩
   refine q0M [0] (z5O (List.take 64 (b.drop (64*i))) ks (rest,((m.length+b.length:Nat):Int)) rd _ hbl hv) rfl (by decide) (by repeat first|exact trivial|exact rfl|refine And.intro ?_ ?_) rfl rfl (fun _ h=>by cases h) ?_
   simp only [afterR,Out.ren,SV.ren,mgA,sig,SObj.ren,SV.renL,List.set,List.map,List.append_nil]
   refine uQ 600 _ ?_
   with_reducible refine sx1 hdl ?_
   rw [hdd]
   refine ⟨⟨by omega,by omega⟩,i+1,hlt,by dsimp only;omega,?_,?_⟩
   · rw [hbe];rfl
   with_reducible refine sxE ?_;trivial
 obtain rfl:i=b.length / 64:=by omega
 have hc:(64≤((b.length-64* (b.length / 64):Nat):Int))=False:=eq_false (by omega)
 have hk0:min (b.length-64* (b.length / 64)) 64=b.length-64* (b.length / 64):=by omega
 refine uQ 600 _ ?_
 simp (maxSteps:=3000000) only [hdl,hc,hk0,go_sem,↓zA,↓reduceIte,↓reduceDIte] <;>try simp only [zB]
 rw [List.take_of_length_le (l:=b.drop (64* (b.length / 64))) (by omega)]
 repeat (with_reducible refine And.intro (by first|omega|exact ⟨by omega,by omega⟩) ?_)
 exact congrArg (fun x=>SObj.row (.prod (.prod (.arr 64 .u8) (.arr 64 .u8)) (.prod (.prod (.arr 8 (.int .u32)) (.prod (.arr 64 .u8) (.int .i64))) .bool)) [(ks,(x,rd))]) (q3k (x:=(st,rest,(m.length:Int))) hpre happ hrr)

theorem z9X (m:List UInt8) (x:HaD) (hx:HRep m x) (hl:m.length≤70368744177664):PC Tryz.prog 183 [.iptr (.prod (.arr 8 (.int .u32)) (.prod (.arr 64 .u8) (.int .i64))) x 0] (.dat (.arr 32 .u8) (shaS m)):=by
 have hrs:=z8p hx
 obtain ⟨st,rest,n⟩:=x
 obtain rfl:n=(m.length:Int):=hx.n
 have h2:rest.length=64:=hx.rest
 have h3:st.length=8:=hx.len
 have h4:m.length≠0→st=foldB hS0 m (m.length / 64):=hx.st
 have hmt:=tmod64 m.length
 refine q0q rfl rfl (q3J (q1v noFG fi183 ?_))
 letI:Ghost:=topG noFG []
 by_cases c0:m.length=0
 · have hm0:m= []:=List.length_eq_zero_iff.1 c0
   have hz:((m.length:Int)=0)=True:=eq_true (by omega)
   refine uQ 600 _ ?_
   with_reducible refine sx1 hz ?_
   refine q0a ((j3E [] (by simp)).arg ?_) ?_
   · with_reducible refine sxE ?_;trivial
   have hbl:(shaS []).length=32:=q0W _
   refine uQ 600 _ ?_
   with_reducible refine sx1 hbl ?_
   rw [hm0]
 have hz:((m.length:Int)=0)=False:=eq_false (by omega)
 have hst:inWs st:=(h4 c0)▸q0Z q5r _ _
 refine uQ 600 _ ?_
 simp (maxSteps:=3000000) only [hz,hmt,go_sem,↓zA,↓reduceIte,↓reduceDIte] <;>try simp only [zB]
 rw [Nat.sub_zero]
 refine ⟨by decide,⟨by omega,by omega,by omega⟩,?_⟩
 have hrl:(List.take (m.length%64) rest).length≤70368744177664:=by rw [List.length_take];omega
 have hfe:bytesS (foldB st (padT (List.take (m.length%64) rest) m.length) (blksN (List.take (m.length%64) rest)))=shaS m:=hrs c0
 generalize List.take (m.length%64) rest=r at*
 refine q0f (z9U r m.length hrl) ?_
 refine gQ ?_
 refine z3m (smH st (padT r m.length)) (fun _ _ _=>False) rfl rfl rfl (q9z r m.length hrl hl) (fun i n args' new h=>by rw [h.1];rfl) ⟨[],?_⟩ rfl ?_ ?_ ?_
 · rw [h3,show List.drop (0+8) _=([]:List Int) from rfl,List.append_nil]
   rfl
 · rintro i _ args' new hi ⟨G,rfl⟩ ⟨rfl,rfl⟩ L1 L2
   letI:Ghost:=pinG noFG L1
   rw [List.append_nil]
   refine uQ 600 _ ?_
   simp only [putL,List.toList_toArray]
   with_reducible refine sxaE ?_
   letI:Ghost:=pinG noFG L2
   refine uQ 600 _ ?_
   with_reducible refine sxaE ?_
   have hbl:(blkAt (padT r m.length) i).length=64:=z0d (q8Q r m.length) hi
   refine eQ [1] (j3R (blkAt (padT r m.length) i) _ hbl (q0Z hst _ i)) ?_
   exact ⟨G,rfl⟩
 · rintro D _ ⟨G,rfl⟩
   letI:Ghost:=topG noFG [D]
   have hv:=q0Z hst (padT r m.length) (blksN r)
   have hfl:=hv.1
   generalize foldB st (padT r m.length) (blksN r)=h at*
   refine gQ ?_
   have htk:List.take 8 h=h:=List.take_of_length_le (by omega)
   rw [htk]
   refine ⟨by omega,q0a (z6z h hv) ?_⟩
   have hbl:=q0W h
   refine uQ 600 _ ?_
   with_reducible refine sx1 hbl ?_
   rw [hfe]
 rintro D i ex _ hi h
 exact h.elim
theorem z5j {h k n N:Nat} {t e:Ty} {x:t.den} {ys:List e.den} (ha:t.arrAt x k=some ⟨e,N,ys⟩) (hne:t≠e) (hn:n=N) (hl:ys.length=n) (hb:n≤1125899906842624):Bor h t [x] (.csl h e k 0 n) (.isl e ys):=by
 refine .csl (p:=0+n≤N) ?_ (by omega) hb
 simp only [ownPart]
 rw [dif_neg hne]
 simp only [ha,dite_true,cast_eq,List.drop_zero]
 rw [List.take_of_length_le (by omega)]
theorem j0A {h n:Nat} {t:Ty} {xs:List t.den} (hl:xs.length=n):Bor h t xs (.osl h t 0 n) (.isl t xs):=by
 have:=Bor.osl (h:=h) (t:=t) (xs:=xs) (off:=0) (n:=n) (by omega)
 rwa [List.drop_zero,List.take_of_length_le (by omega)] at this
theorem z2W {h n:Nat} {xs:List UInt8} (hl:xs.length=n) (h0:0<n):Bor h .u8 xs (.rptr h .u8 0 0) (.iptr (.arr n .u8) xs 0):=by
 subst hl
 exact .ptr (.inr ⟨rfl,rfl,rfl,h0,.rfl⟩)
theorem z7y {h:Nat} {t:Ty} {x:t.den} (hg:t.get x 0 t.size=some ⟨t,x⟩):Bor h t [x] (.rptr h t 0 0) (.iptr t x 0):=.ptr (.inl ⟨x,rfl,by rw [Nat.zero_mul];exact hg⟩)
theorem j0d (w:List UInt8) (c:UInt8) (_hw:w.length=64):PC Tryz.prog 179 [.raw (.int .u8 c.toNat),.iptr (.arr 64 .u8) w 0] (.dat (.arr 64 .u8) (hkP w c 64)):=by
 refine q0q rfl rfl ?_
 refine rQ fi179 ?_
 refine q0i (ι:=Nat) (fun i=>[(7,rI i)]) (fun i=>[.row .u8 (hkP w c i)]) (fun i=>64-i) (fun i=>i≤64) 0 (Nat.zero_le _) (by rw [z9G];first|done|rfl) ?_ ?_
 · with_reducible refine sxE ?_;trivial
 intro i hi
 have hwr:=wsx i (by omega)
 have hpl:=q9c w c i
 by_cases h64:i<64
 · have hx8:=xor8 (w.getD i 0) c
   refine uQ 600 _ ?_
   simp (maxSteps:=3000000) only [hpl,hx8,Nat.zero_add,Ty.dflt,go_sem,↓zA,↓reduceIte,↓reduceDIte] <;>try simp only [zB]
   refine ⟨fun _=>⟨⟨by omega,h64⟩,⟨by omega,h64⟩,⟨h64,by rw [UInt8.ofNat_toNat]⟩,i+1,h64,by dsimp only;omega,?_,?_⟩,fun h=>absurd h (by omega)⟩
   · rw [UInt8.ofNat_toNat,j2E w c h64]
   with_reducible refine sx1 hwr ?_;trivial
 obtain rfl:i=64:=by omega
 refine uQ 600 _ ?_
 simp (maxSteps:=3000000) only [hpl,Nat.zero_add,go_sem,↓zA,↓reduceIte,↓reduceDIte] <;>try simp only [zB]
 refine ⟨fun h=>absurd h (by omega),fun _=> ?_⟩
 have e:List.take 64 (hkP w c 64)++List.drop (List.take 64 (hkP w c 64)).length (hkP w c 64)=hkP w c 64:=by
  rw [List.take_of_length_le (by omega),hpl,List.drop_eq_nil_of_le (by omega),List.append_nil]
 rw [e,if_pos hpl]
 exact ⟨_,rfl,rfl⟩
def hz0:HaD:=(List.replicate 8 0,List.replicate 64 0,0)
theorem q8E:HRep [] hz0:=z9H
theorem j0R (o i:List UInt8) (x:HaD) (rd:Bool) (hi:i.length=64):PE Tryz.prog 180 [.rptr 0 (.prod (.prod (.arr 64 .u8) (.arr 64 .u8)) (.prod (.prod (.arr 8 (.int .u32)) (.prod (.arr 64 .u8) (.int .i64))) .bool)) 0 0] [.row (.prod (.prod (.arr 64 .u8) (.arr 64 .u8)) (.prod (.prod (.arr 8 (.int .u32)) (.prod (.arr 64 .u8) (.int .i64))) .bool)) [((o,i),(x,rd))]] (.ret (.dat (.prod (.arr 8 (.int .u32)) (.prod (.arr 64 .u8) (.int .i64))) (wrS [] hz0 i))) [.row (.prod (.prod (.arr 64 .u8) (.arr 64 .u8)) (.prod (.prod (.arr 8 (.int .u32)) (.prod (.arr 64 .u8) (.int .i64))) .bool)) [((o,i),(x,rd))]]:=by
 refine q0d (Nat.le_refl _) ?_
 refine rQ fi180 ?_
 refine ⟨⟨by decide,by decide⟩,?_⟩
 refine q0h [1,0] (z1d (t:=(.prod (.prod (.arr 64 .u8) (.arr 64 .u8)) (.prod (.prod (.arr 8 (.int .u32)) (.prod (.arr 64 .u8) (.int .i64))) .bool))) (xs:=[((o,i),(x,rd))]) (z0K [] i hz0 q8E (by simp;omega)) rfl rfl rfl rfl (by simp) (.cons (.keep rfl) (.cons (z5j rfl (by decide) rfl hi (by decide)) .nil))) rfl (by decide) (by repeat first|exact trivial|exact rfl|refine And.intro ?_ ?_) rfl rfl ?_
 simp only [afterO,Out.ren,SV.ren,mgA,sig,SObj.ren,SV.renL,List.set,List.map,List.append_nil,List.cons_append,List.nil_append]
 refine gQ ?_;trivial
theorem z9F (o i d:List UInt8) (x:HaD) (rd:Bool) (ho:o.length=64) (hd:d.length=32):PE Tryz.prog 182 [.rptr 0 (.prod (.prod (.arr 64 .u8) (.arr 64 .u8)) (.prod (.prod (.arr 8 (.int .u32)) (.prod (.arr 64 .u8) (.int .i64))) .bool)) 0 0,.dat (.arr 32 .u8) d] [.row (.prod (.prod (.arr 64 .u8) (.arr 64 .u8)) (.prod (.prod (.arr 8 (.int .u32)) (.prod (.arr 64 .u8) (.int .i64))) .bool)) [((o,i),(x,rd))]] (.ret (.dat (.arr 32 .u8) (shaS (o++d)))) [.row (.prod (.prod (.arr 64 .u8) (.arr 64 .u8)) (.prod (.prod (.arr 8 (.int .u32)) (.prod (.arr 64 .u8) (.int .i64))) .bool)) [((o,i),(x,rd))]]:=by
 refine q0d (Nat.le_refl _) ?_
 refine rQ fi182 ?_
 refine ⟨⟨by decide,by decide⟩,?_⟩
 refine q0h [3,0] (z1d (t:=(.prod (.prod (.arr 64 .u8) (.arr 64 .u8)) (.prod (.prod (.arr 8 (.int .u32)) (.prod (.arr 64 .u8) (.int .i64))) .bool))) (xs:=[((o,i),(x,rd))]) (z0K [] o hz0 q8E (by simp;omega)) rfl rfl rfl rfl (by simp) (.cons (.keep rfl) (.cons (z5j rfl (by decide) rfl ho (by decide)) .nil))) rfl (by decide) (by repeat first|exact trivial|exact rfl|refine And.intro ?_ ?_) rfl rfl ?_
 simp only [afterO,Out.ren,SV.ren,mgA,sig,SObj.ren,SV.renL,List.set,List.map,List.append_nil,List.cons_append,List.nil_append]
 have hr1:HRep o (wrS [] hz0 o):=q8a q8E
 have hr2:HRep (o++d) (wrS o (wrS [] hz0 o) d):=q8a hr1
 generalize wrS [] hz0 o=y1 at*
 generalize hy:wrS o y1 d=y at*
 have hw2:=hy▸z0K o d y1 hr1 (by omega)
 refine gQ ?_
 refine ⟨⟨by decide,by decide⟩,?_⟩
 refine q0h [3,1] (z1d (t:=.u8) (xs:=d) hw2 (by simp only [List.length_cons,List.length_nil]) rfl rfl rfl (by omega) (.cons (.keep rfl) (.cons (j0A hd) .nil))) rfl (by decide) (by repeat first|exact trivial|exact rfl|refine And.intro ?_ ?_) rfl rfl ?_
 simp only [afterO,Out.ren,SV.ren,mgA,sig,SObj.ren,SV.renL,List.set,List.map,List.append_nil,List.cons_append,List.nil_append]
 refine gQ ?_
 refine q0h [3] (q5z (t:=(.prod (.arr 8 (.int .u32)) (.prod (.arr 64 .u8) (.int .i64)))) (xs:=[y]) (z9X (o++d) y hr2 (by simp;omega)) rfl (by simp) (.cons (z7y rfl) .nil)) rfl (by decide) (by repeat first|exact trivial|exact rfl|refine And.intro ?_ ?_) rfl rfl ?_
 simp only [afterO,Out.ren,SV.ren,mgA,sig,SObj.ren,SV.renL,List.set,List.map,List.append_nil,List.cons_append,List.nil_append]
 have hsl:(shaS (o++d)).length=32:=q0W _
 refine uQ 600 _ ?_
 with_reducible refine sx1 hsl ?_;trivial
def padK (k:List UInt8):List UInt8:=hkC k++List.replicate (64- (hkC k).length) 0
theorem j1q (k:List UInt8):(hkC k).length≤64:=by
 unfold hkC
 split
 · have:(shaS k).length=32:=q0W _
   omega
 omega
theorem z8x (k:List UInt8):(padK k).length=64:=by
 have:=j1q k
 unfold padK;rw [List.length_append,List.length_replicate];omega
theorem z7t (k:List UInt8) (c:UInt8):hkP (padK k) c 64=hkS k c:=by
 unfold hkS hkP
 apply List.map_congr_left
 intro i hi
 have hi':i<64:=List.mem_range.1 hi
 rw [if_pos hi',if_pos hi']
 congr 1
 unfold padK
 rw [List.getD_eq_getElem?_getD,List.getD_eq_getElem?_getD]
 rcases Nat.lt_or_ge i (hkC k).length with h|h
 · rw [List.getElem?_append_left h]
 rw [List.getElem?_append_right h,List.getElem?_eq_none h,List.getElem?_replicate]
 split<;>rfl
def macI (k:List UInt8):(List UInt8×List UInt8)×(HaD×Bool):=((hkS k 92,hkS k 54),(wrS [] hz0 (hkS k 54),true))
theorem j1k {ty:Ty} {x:ty.den} {v:Value} {H':List SObj} {h:Nat} (hH:H'[h]?=some (.row ty [x])):Weak 0 (fun o' H''=>o'= .ret (.tup [.rptr 0 ty 0 0,.raw v])∧H''= [.row ty [x]]) (.ret (.tup [.rptr h ty 0 0,.raw v])) H':=
 ⟨fun _=>h,.tup [.rptr 0 ty 0 0,.raw v],.tup [.rptr 0 ty 0 0,.raw v],[.row ty [x]],⟨⟨rfl,trivial⟩,⟨hH,trivial⟩,rfl,rfl,rfl,rfl,Nat.zero_le _,fun _ h0=>absurd h0 (Nat.lt_irrefl 0)⟩,.inl (.inl rfl),⟨rfl,rfl⟩⟩
abbrev HTT:Ty:=(.prod (.arr 8 (.int .u32)) (.prod (.arr 64 .u8) (.int .i64))) 
abbrev MTT:Ty:=(.prod (.prod (.arr 64 .u8) (.arr 64 .u8)) (.prod (.prod (.arr 8 (.int .u32)) (.prod (.arr 64 .u8) (.int .i64))) .bool)) 
theorem j4b (k:List UInt8) (hk:k.length≤64):PE Tryz.prog 159 [.isl .u8 k] [] (.ret (.tup [.rptr 0 (.prod (.prod (.arr 64 .u8) (.arr 64 .u8)) (.prod (.prod (.arr 8 (.int .u32)) (.prod (.arr 64 .u8) (.int .i64))) .bool)) 0 0,rI 0])) [.row (.prod (.prod (.arr 64 .u8) (.arr 64 .u8)) (.prod (.prod (.arr 8 (.int .u32)) (.prod (.arr 64 .u8) (.int .i64))) .bool)) [macI k]]:=by
 have c1:(4096< (k.length:Int))=False:=eq_false (by omega)
 have c2:(64< (k.length:Int))=False:=eq_false (by omega)
 have hkc:hkC k=k:=if_neg (by omega)
 have hkm:min k.length 64=k.length:=by omega
 have hpl:=z8x k
 refine j3z ?_
 refine q0G fi159 ?_
 refine uQ 600 _ ?_
 simp (maxSteps:=3000000) only [c1,c2,hkm,List.take_length,go_sem,↓zA,↓reduceIte,↓reduceDIte] <;>try simp only [zB]
 have hrow:∀l,l=List.replicate 64 (0:UInt8)→k++List.drop (0+k.length) l=padK k:=fun l hl=>by
  subst hl
  unfold padK
  rw [hkc,Nat.zero_add,List.drop_replicate]
 rw [hrow]
 case a=>rfl
 refine ⟨⟨by decide,by decide⟩,by omega,?_⟩
 refine q0h [0] (q5z (t:=.u8) (xs:=padK k) (j0d (padK k) 92 hpl) rfl (by omega) (.cons (.keep rfl) (.cons (z2W hpl (by decide)) .nil))) rfl (by decide) (by repeat first|exact trivial|exact rfl|refine And.intro ?_ ?_) rfl rfl ?_
 simp only [afterO,Out.ren,SV.ren,mgA,sig,SObj.ren,SV.renL,List.set,List.map,List.append_nil,List.cons_append,List.nil_append]
 refine gQ ?_
 refine q0h [0] (q5z (t:=.u8) (xs:=padK k) (j0d (padK k) 54 hpl) rfl (by omega) (.cons (.keep rfl) (.cons (z2W hpl (by decide)) .nil))) rfl (by decide) (by repeat first|exact trivial|exact rfl|refine And.intro ?_ ?_) rfl rfl ?_
 simp only [afterO,Out.ren,SV.ren,mgA,sig,SObj.ren,SV.renL,List.set,List.map,List.append_nil,List.cons_append,List.nil_append]
 rw [z7t,z7t]
 refine gQ ?_
 refine eQ [1] (j0R (hkS k 92) (hkS k 54) _ true (q9c _ _ _)) ?_
 exact j1k rfl
theorem z8r (m b:List UInt8) (ks:List UInt8×List UInt8) (x:HaD) (hx:HRep m x) (hl:m.length+b.length≤70368744177664):PE Tryz.prog 160 [.rptr 0 (.prod (.prod (.arr 64 .u8) (.arr 64 .u8)) (.prod (.prod (.arr 8 (.int .u32)) (.prod (.arr 64 .u8) (.int .i64))) .bool)) 0 0,.isl .u8 b] [.row (.prod (.prod (.arr 64 .u8) (.arr 64 .u8)) (.prod (.prod (.arr 8 (.int .u32)) (.prod (.arr 64 .u8) (.int .i64))) .bool)) [(ks,(x,true))]] (.ret (rI 0)) [.row (.prod (.prod (.arr 64 .u8) (.arr 64 .u8)) (.prod (.prod (.arr 8 (.int .u32)) (.prod (.arr 64 .u8) (.int .i64))) .bool)) [(ks,(wrS m x b,true))]]:=by
 refine q0d (Nat.le_refl _) ?_
 refine rQ fi160 ?_
 refine eQ [0] (z8O m b x ks true hx hl) ?_;trivial
theorem j3k (m:List UInt8) (o i:List UInt8) (x:HaD) (hx:HRep m x) (hl:m.length≤70368744177664) (ho:o.length=64):PE Tryz.prog 161 [.rptr 0 (.prod (.prod (.arr 64 .u8) (.arr 64 .u8)) (.prod (.prod (.arr 8 (.int .u32)) (.prod (.arr 64 .u8) (.int .i64))) .bool)) 0 0] [.row (.prod (.prod (.arr 64 .u8) (.arr 64 .u8)) (.prod (.prod (.arr 8 (.int .u32)) (.prod (.arr 64 .u8) (.int .i64))) .bool)) [((o,i),(x,true))]] (.ret (.tup [.dat (.arr 32 .u8) (shaS (o++shaS m)),rI 0])) [.row (.prod (.prod (.arr 64 .u8) (.arr 64 .u8)) (.prod (.prod (.arr 8 (.int .u32)) (.prod (.arr 64 .u8) (.int .i64))) .bool)) [((o,i),(x,true))]]:=by
 have hsl:(shaS m).length=32:=q0W _
 have hsl2:(shaS (o++shaS m)).length=32:=q0W _
 have hg:RLies MTT [((o,i),(x,true))] (0*MTT.size+128) HTT x:=.inl ⟨_,rfl,rfl⟩
 refine q0d (Nat.le_refl _) ?_
 refine q0G fi161 ?_
 refine uQ 21 _ ?_
 with_reducible refine sxE ?_
 refine q1P [0] mixed ?_
 refine uQ 600 _ ?_
 with_reducible refine sxE ?_
 refine q0M [0] (q5z (t:=MTT) (xs:=[((o,i),(x,true))]) (z9X m x hx hl) rfl (by simp) (.cons (.ptr hg) .nil)) rfl (by decide) (by repeat first|exact trivial|exact rfl|refine And.intro ?_ ?_) rfl rfl (fun h hh=> ?_) ?_
 · obtain rfl:h=0:=by simpa using hh
   rfl
 simp only [afterR,Out.ren,SV.ren,mgA,sig,SObj.ren,SV.renL,List.set,List.map,List.append_nil,List.cons_append,List.nil_append]
 refine uQ 600 _ ?_
 with_reducible refine sx1 hsl ?_
 refine q0M [0] (z9F o i (shaS m) x true ho hsl) rfl (by decide) (by repeat first|exact trivial|exact rfl|refine And.intro ?_ ?_) rfl rfl (fun h hh=> ?_) ?_
 · obtain rfl:h=0:=by simpa using hh
   rfl
 simp only [afterR,Out.ren,SV.ren,mgA,sig,SObj.ren,SV.renL,List.set,List.map,List.append_nil,List.cons_append,List.nil_append]
 refine uQ 600 _ ?_
 with_reducible refine sx1 hsl2 ?_;trivial
def hmS (k b:List UInt8):List UInt8:=shaS (hkS k 92++shaS (hkS k 54++b))
theorem q2Q (k b:List UInt8):(hmS k b).length=32:=q0W _
def mWr (k:List UInt8) (ps:List (List UInt8)):Nat→HaD
 |0=>wrS [] hz0 (hkS k 54)
 |i+1=>wrS (hkS k 54++(ps.take i).flatten) (mWr k ps i) (ps.getD i [])
theorem q2Z {ps:List (List UInt8)} {i:Nat} (h:i<ps.length):(ps.take (i+1)).flatten=(ps.take i).flatten++ps.getD i []:=by
 rw [List.take_succ_eq_append_getElem h,List.flatten_append,List.flatten_singleton,List.getD_eq_getElem?_getD,List.getElem?_eq_getElem h]
 rfl
theorem z6X (k:List UInt8) (ps:List (List UInt8)):∀i,i≤ps.length→HRep (hkS k 54++(ps.take i).flatten) (mWr k ps i)
 |0,_=>by
  have:=q8a (b:=hkS k 54) q8E
  simpa [mWr] using this
 |i+1,hi=>by
  have:=q8a (b:=ps.getD i []) (z6X k ps i (by omega))
  rw [List.append_assoc,←q2Z (by omega)] at this
  exact this
theorem q1b:∀ (ps:List (List UInt8)) (i:Nat),(ps.take i).flatten.length≤ps.flatten.length
 | [],i=>by simp
 |p :: ps,0=>by simp
 |p :: ps,i+1=>by simp only [List.take_succ_cons,List.flatten_cons,List.length_append];have:=q1b ps i;omega
theorem j0e (k:List UInt8) (ps:List (List UInt8)) (hk:k.length≤64) (hp:ps.flatten.length≤1099511627776) (hpl:ps.length≤1099511627776):PC Tryz.prog 142 [.isl .u8 k,.isl (.slice .u8) ps] (.tup [.dat (.arr 32 .u8) (hmS k ps.flatten),rI 0]):=by
 refine q0q rfl rfl ?_
 refine q0G fi142 ?_
 refine uQ 600 _ ?_
 with_reducible refine sxE ?_
 refine eQ [] (j4b k hk) ?_
 refine q0i (ι:=Nat) (fun i=>[(21,rI i)]) (fun i=>[.row .u8 (List.replicate 32 0),.row (.prod (.prod (.arr 64 .u8) (.arr 64 .u8)) (.prod (.prod (.arr 8 (.int .u32)) (.prod (.arr 64 .u8) (.int .i64))) .bool)) [((hkS k 92,hkS k 54),(mWr k ps i,true))]]) (fun i=>ps.length-i) (fun i=>i≤ps.length) 0 (Nat.zero_le _) rfl ?_ ?_
 · with_reducible refine sxE ?_;trivial
 intro i hi
 have hrep:=z6X k ps i hi
 have hwr:=wsx i (by omega)
 have hfl:=q1b ps i
 have hil:(hkS k 54).length=64:=q9c _ _ _
 by_cases h:i<ps.length
 · have hf1:=q2Z h
   have hfl1:=q1b ps (i+1)
   rw [hf1,List.length_append] at hfl1
   refine gQ ?_
   refine ⟨fun _=>⟨⟨by omega,h⟩,?_⟩,fun hh=>absurd h hh⟩
   refine eQ [1] (z8r (hkS k 54++(ps.take i).flatten) (ps.getD i []) (hkS k 92,hkS k 54) _ hrep (by rw [List.length_append];omega)) ?_
   refine ⟨i+1,h,by dsimp only;omega,rfl,?_⟩
   with_reducible refine sx1 hwr ?_;trivial
 obtain rfl:i=ps.length:=by omega
 rw [List.take_length] at hrep
 have hsl:(shaS (hkS k 92++shaS (hkS k 54++ps.flatten))).length=32:=q0W _
 refine gQ ?_
 refine ⟨fun hh=>absurd hh (by omega),fun _=> ?_⟩
 refine q0h [1] (j3k (hkS k 54++ps.flatten) (hkS k 92) (hkS k 54) _ hrep (by rw [List.length_append];omega) (q9c _ _ _)) rfl (by decide) (by repeat first|exact trivial|exact rfl|refine And.intro ?_ ?_) rfl rfl ?_
 simp only [afterO,Out.ren,SV.ren,mgA,sig,SObj.ren,SV.renL,List.set,List.map,List.append_nil,hsl]
 refine uQ 600 _ ?_
 with_reducible refine sx1 hsl ?_
 rfl
def four (n:Nat):List UInt8:=[UInt8.ofNat (n / 2^ 24%256),UInt8.ofNat (n / 2^ 16%256),UInt8.ofNat (n / 2^ 8%256),UInt8.ofNat (n / 2^ 0%256)]
theorem z7z (n:Nat):(four n).length=4:=rfl
theorem fdivN (n m:Nat) (hm:m≤64):((n:Int).fdiv (2^ min m 64))=((n / 2^ m:Nat):Int):=by
 rw [Nat.min_eq_left hm,Int.fdiv_eq_ediv_of_nonneg _ (by exact_mod_cast Nat.zero_le (2^ m))]
 simp
theorem byteN (n m:Nat) (hm:m≤64):UInt8.ofNat (IntKind.u8.wrap ((n:Int).fdiv (2^ min m 64))).toNat=UInt8.ofNat (n / 2^ m%256):=by
 rw [fdivN n m hm]
 generalize n / 2^ m=m
 rw [u8wrapR]
 congr 1
theorem byteN0 (n:Nat):UInt8.ofNat (IntKind.u8.wrap (n:Int)).toNat=UInt8.ofNat (n / 2^ 0%256):=by
 rw [Nat.pow_zero,Nat.div_one,u8wrapR]
 congr 1
theorem z9V (n:Nat):PC Tryz.prog 143 [rI n] (.isl .u8 (four n)):=by
 refine q0t rfl rfl ?_
 refine rQ fi143 ?_
 refine ⟨⟨q2l _,q2l _,q2l _,q2l _⟩,?_⟩
 rw [byteN _ 24 (by decide),byteN _ 16 (by decide),byteN _ 8 (by decide),byteN0]
 rfl
theorem j0O (n:Nat) (ls:List (List UInt8)) (h1:1≤n) (h2:n≤1024) (hl:∀l∈ls,l.length≤4096) (hn:ls.length≤100):PC Tryz.prog 120 [rI n,.isl (.slice .u8) ls] (rB true):=by
 refine q0q rfl rfl ?_
 refine rQ fi120 ?_
 refine q0i (ι:=Nat) (fun i=>[(9,rI i)]) (fun i=>[]) (fun i=>ls.length-i) (fun i=>i≤ls.length) 0 (Nat.zero_le _) rfl ?_ ?_
 · with_reducible refine sxE ?_;trivial
 intro i hi
 have hwr:=wsx i (by omega)
 by_cases h:i<ls.length
 · have hli:(ls.getD i []).length≤4096:=by
    rw [List.getD_eq_getElem?_getD,List.getElem?_eq_getElem h];exact hl _ (List.getElem_mem _)
   have hli':(4096< (((ls.getD i (Ty.dflt (.slice .u8))).length:Nat):Int))=False:=eq_false (by show ¬(4096< (((ls.getD i []).length:Nat):Int));omega)
   refine uQ 600 _ ?_
   with_reducible refine sx1 hli' ?_
   refine ⟨fun _=>⟨⟨by omega,h⟩,i+1,h,by dsimp only;omega,rfl,?_⟩,fun hh=>absurd h hh⟩
   with_reducible refine sx1 hwr ?_;trivial
 obtain rfl:i=ls.length:=by omega
 refine gQ ?_
 exact ⟨fun hh=>absurd hh (by omega),fun _=>⟨fun _=>by omega,fun hh=>absurd hh (by omega)⟩⟩
abbrev derT:Ty:=.prod (.slice .u8) (.prod (.slice .u8) (.prod (.slice .u8) (.int .i64)))
def kblk (key label ctx:List UInt8) (n i:Nat):List UInt8:=hmS key (four i++label++ [0]++ctx++four (8*n))
theorem q3X (key label ctx:List UInt8) (n i:Nat):(kblk key label ctx n i).length=32:=q2Q _ _
theorem z8D (key label ctx:List UInt8) (n i:Nat) (hk:key.length≤64) (hl:label.length≤4096) (hc:ctx.length≤4096) (hn:n≤1024) (hi:i≤1000000):PC Tryz.prog 123 [.agg [.isl .u8 key,.isl .u8 label,.isl .u8 ctx,rI n],rI i] (.dat (.arr 32 .u8) (kblk key label ctx n i)):=by
 have hw8:IntKind.i64.wrap (8* (n:Int))=((8*n:Nat):Int):=by rw [wrapi (by omega)];omega
 refine q0q rfl rfl ?_
 refine q0G fi123 (q0s mixed 600 _ ?_)
 simp (maxSteps:=3000000) only [ir123,hw8,go_sem,↓zA,↓reduceIte,↓reduceDIte] <;>try simp only [zB]
 refine q0Q (z9V i) ?_
 refine gQ ?_
 refine q0Q (z9V (8*n)) ?_
 refine gQ ?_
 have hfl:[four i,label,[UInt8.ofNat 0],ctx,four (8*n)].flatten=four i++label++ [0]++ctx++four (8*n):=by simp
 have hfn:[four i,label,[UInt8.ofNat 0],ctx,four (8*n)].flatten.length≤1099511627776:=by
  rw [hfl];simp only [List.length_append,z7z,List.length_cons,List.length_nil];omega
 have hm:=j0e key [four i,label,[UInt8.ofNat 0],ctx,four (8*n)] hk hfn (by simp)
 rw [hfl] at hm
 have hkl:=q3X key label ctx n i
 change PC _ _ _ (.tup [.dat (.arr 32 .u8) (kblk key label ctx n i),_]) at hm
 generalize kblk key label ctx n i=kb at*
 refine ⟨by decide,q0Q hm ?_⟩
 have htk:List.take 32 kb=kb:=List.take_of_length_le (by omega)
 refine uQ 600 _ ?_
 simp (maxSteps:=3000000) only [hkl,htk,go_sem,↓zA,↓reduceIte,↓reduceDIte] <;>try simp only [zB]
end Go.Proofs.YtikapabgggphpaaGreatDoor
namespace Go.Proofs.YtikapabgggphpaaGreatDoor
open Go Go.Sx Go.Proofs
set_option maxRecDepth 100000
set_option maxHeartbeats 4000000
def allN (n:Nat) (q:Nat→Bool):Bool:=(List.range n).all q
theorem z2R {n:Nat} {q:Nat→Bool}:allN n q=true ↔ ∀j,j<n→q j=true:=by simp [allN]
theorem q1I {n i:Nat} {q:Nat→Bool} (h:i<n) (hq:q i=false):allN n q=false:=by
 rw [Bool.eq_false_iff];exact fun ha=>by rw [z2R.1 ha i h] at hq;cases hq
theorem q1N {n:Nat} {q:Nat→Bool} (h:∀j,j<n→q j=true):allN n q=true:=z2R.2 h
@[go_sem] def fnV (f:Nat):Value:=.func (.func f) #[] #[]
def name1:ByteArray:=⟨#[97,101,115,49,50,56,45,99,116,115,45,104,109,97,99,45,115,104,97,50,53,54,45,49,50,56]⟩
def name2:ByteArray:=⟨#[115,116,114,101,97,109,45,104,109,97,99,45,115,104,97,50,53,54,45,50,53,54]⟩
def kind1:List Value:=[.string name1,.int .i64 16,.int .i64 16,.int .i64 16,.int .i64 16,fnV 114,fnV 115,fnV 116]
def kind2:List Value:=[.string name2,.int .i64 32,.int .i64 16,.int .i64 32,.int .i64 32,fnV 117,fnV 118,fnV 119]
abbrev kindsM:SV:=.imap (some .i64) [.int .i64 1,.int .i64 2] [.agg kind1.toArray,.agg kind2.toArray]

theorem j2J:PC Tryz.prog 81 [] kindsM:=by
 refine q0q rfl rfl (j0p ?_)
 refine rQ fi81 ?_
 exact ⟨_,_,_,[],rfl,rfl⟩

def keyLen (p:Int):Int:=if p=1 then 16 else if p=2 then 32 else 0
def kindZ:List Value:=[.string ⟨#[]⟩,.int .i64 0,.int .i64 0,.int .i64 0,.int .i64 0,.nilFunc,.nilFunc,.nilFunc]
def kindOf (p:Int):List Value:=if p=1 then kind1 else if p=2 then kind2 else kindZ
def vKey (k:Key):Bool:=decide (keyLen k.1≠0) && (decide ((k.2.2.length:Int)=keyLen k.1) && (decide (0≤k.2.1) && decide (k.2.1≤65535)))
theorem j0c (k:Key):PC Tryz.prog 41 [.agg (KeyT.cells k)] (.tup [.agg (rawL (kindOf k.1)),rB (vKey k)]):=by
 obtain ⟨p,v,b⟩:=k
 refine q0q rfl (by simp [SV.clean,SV.cleanL,q3N]) ?_
 refine rQ fi41 ?_
 refine q0Q j2J ?_
 by_cases h1:p=1
 · subst h1
   refine uQ 600 _ ?_
   simp (maxSteps:=3000000) only [kind1,kindOf,vKey,keyLen,go_sem,↓zA,↓reduceIte,↓reduceDIte] <;>try simp only [zB]
   grind
 by_cases h2:p=2
 · subst h2
   refine uQ 600 _ ?_
   simp (maxSteps:=3000000) only [kind2,kindOf,vKey,keyLen,go_sem,↓zA,↓reduceIte,↓reduceDIte] <;>try simp only [zB]
   grind
 refine uQ 600 _ ?_
 simp (maxSteps:=3000000) only [h1,h2,kindOf,kindZ,vKey,keyLen,go_sem,↓zA,↓reduceIte,↓reduceDIte] <;>try simp only [zB]
 grind
def dec:Bool→List UInt8→List UInt8→List (List UInt8)
 |_,cur,[]=>[cur]
 |true,cur,c :: r=>dec false (cur++ [c]) r
 |false,cur,c :: r=>if c=92 then dec true cur r else if c=47 then cur :: dec false [] r else dec false (cur++ [c]) r
theorem q5n (p:Int):kindOf p=kind1∨kindOf p=kind2∨kindOf p=kindZ:=by
 unfold kindOf
 split
 · exact .inl rfl
 split
 · exact .inr (.inl rfl)
 exact .inr (.inr rfl)
theorem q1U (l:List UInt8) (hl:l.length≤140737488355328):PC Tryz.prog 63 [.isl .u8 l] (.isl .u8 l):=by
 refine q0t rfl rfl ?_
 refine rQ fi63 ?_
 intro b hb
 refine ⟨hb,fun h=>⟨⟨by omega,by omega⟩,⟨by omega,by omega⟩,List.take_of_length_le (by omega)⟩⟩
end Go.Proofs.YtikapabgggphpaaGreatDoor
namespace Go.Proofs.YtikapabgggphpaaGreatDoor
open Go Go.Sx Go.Proofs
set_option maxRecDepth 100000
set_option maxHeartbeats 40000000
theorem z3u (x:derT.den) (hok:derT.ok x):PC Tryz.prog 122 [.fn 123 [.agg (derT.cells x)] []] (.fn 141 [] [.iptr (.clo 123 derT) x 0]):=by
 refine q0q rfl rfl ?_
 refine q0G fi122 ?_
 refine uQ 3 _ ?_
 with_reducible refine sxE ?_
 refine q2f 1 0 (ty:=.clo 123 derT) (x:=x) rfl hok rfl rfl ?_
 refine gQ ?_;trivial
def vwK (key label ctx:List UInt8) (n:Nat):Nat→Nat→List SV→List SObj→Prop:=fun i _ args' new=>args'= [rI ((i+1:Nat):Int),.isl .u8 (kblk key label ctx n (i+1))]∧new= []
theorem z1j (key label ctx:List UInt8) (n N:Nat) (hk:key.length≤64) (hl:label.length≤4096) (hc:ctx.length≤4096) (hn:n≤1024) (hN:N≤1000):IterI True Tryz.prog 141 [] [.iptr (.clo 123 derT) (key,label,ctx,(n:Int)) 0] N (vwK key label ctx n):=by
 refine ⟨by kernel_rfl,fun l B J hJ yg hno=> ?_⟩
 refine (q1v (yFG hJ) fi141 ?_).2
 letI:Ghost:=topG (yFG hJ) []
 refine uQ 600 _ ?_
 with_reducible refine sxE ?_
 refine q8X [] (fun i=>i) (fun i=>[(3,rI ((i+1:Nat):Int))]) N (fun _=>True) trivial rfl (by simp) (by simp [SV.bel]) ?_ fun i hi _=> ?_
 · with_reducible refine sxE ?_
   rfl
 by_cases hlt:i<N
 · have hwr:IntKind.i64.wrap (((i+1:Nat):Int)+1)=((i+1+1:Nat):Int):=q2T (by omega)
   refine gQ ?_
   refine q0a (z8D key label ctx n (i+1) hk hl hc hn (by omega)) ?_
   have hbl:=q3X key label ctx n (i+1)
   generalize hb:kblk key label ctx n (i+1)=b at*
   refine uQ 8 _ ?_
   with_reducible refine sx1 hbl ?_
   refine ⟨⟨by decide,by decide⟩,?_⟩
   refine q1B 1 rfl rfl (by rw [hbl];decide) ?_ ?_ ?_
   · with_reducible refine sxE ?_;trivial
   · with_reducible refine sxE ?_
     omega
   with_reducible refine sxE ?_
   have htk:List.take 32 (List.drop 0 b)=b:=by rw [List.drop_zero];exact List.take_of_length_le (by omega)
   refine uQ 600 _ ?_
   with_reducible refine sx1 htk ?_
   refine q1R [.dead] hJ yg hlt (fun n=>⟨_,_,⟨by rw [hb,List.take_of_length_le (show b.length≤32 by omega)],rfl⟩,q0U rfl⟩) fun c=> ?_
   cases c
   · refine gQ ?_
     exact ⟨_,_,rfl,rfl,by omega⟩
   refine gQ ?_
   refine ⟨hlt,trivial,⟨[_],rfl⟩,?_⟩
   with_reducible refine sx1 hwr ?_;trivial
 obtain rfl:i=N:=by omega
 exact z8v hJ (hno trivial)
def kacc (key label ctx:List UInt8) (n:Nat):Nat→List UInt8
 |0=>[]
 |i+1=>kacc key label ctx n i++kblk key label ctx n (i+1)
theorem q5I (key label ctx:List UInt8) (n:Nat):∀i,(kacc key label ctx n i).length=32*i
 |0=>rfl
 |i+1=>by rw [kacc,List.length_append,q5I key label ctx n i,q3X];omega
def kdfS (key label ctx:List UInt8) (n:Nat):List UInt8:=(kacc key label ctx n ((n+31) / 32)).take n
theorem z1Y (key label ctx:List UInt8) (n:Nat):(kdfS key label ctx n).length=n:=by
 unfold kdfS
 rw [List.length_take,q5I];omega
def frC (n i:Nat) (G:List SObj) (acc:List UInt8):List SObj:=.cells 3 [rI n] :: .cells 22 [.bld (G.length+2) .u8 (32*i)] :: (G++ [.row .u8 acc])
def frH (key label ctx:List UInt8) (n:Nat) (i:Nat) (H':List SObj):Prop:=i< (n+31) / 32∧∃G,(∃g,G=List.replicate g SObj.dead)∧H'=frC n i G (kacc key label ctx n i)
def frX (key label ctx:List UInt8) (n:Nat) (i:Nat) (ex:Ex) (H':List SObj):Prop:=ex= .exit 0∧i+1=(n+31) / 32∧∃G,(∃g,G=List.replicate g SObj.dead)∧H'=frC n (i+1) G (kacc key label ctx n (i+1))
theorem q6J {h:Nat} {t:Ty} {xs:List t.den} {l:List SObj}:∀g,frzObH h t xs l→frzObH h t xs (List.replicate g SObj.dead++l)
 |0,hl=>hl
 |g+1,hl=>⟨trivial,q6J g hl⟩
theorem j1T (key label ctx:List UInt8) (n:Nat) (hk:key.length≤64) (hl:label.length≤4096) (hc:ctx.length≤4096) (h1:1≤n) (hn:n≤1024):PC Tryz.prog 121 [rI n,.fn 141 [] [.iptr (.clo 123 derT) (key,label,ctx,(n:Int)) 0]] (.isl .u8 (kdfS key label ctx n)):=by
 refine q0q rfl rfl (q3J (q1v noFG fi121 ?_))
 letI:Ghost:=topG noFG []
 refine uQ 600 _ ?_
 with_reducible refine sxE ?_
 refine q5j 1 0 .u8 rfl rfl rfl ?_
 have hN:(n+31) / 32≤1000:=by omega
 refine j0a (inf:=True) (frH key label ctx n) (frX key label ctx n) rfl rfl rfl (z1j key label ctx n ((n+31) / 32) hk hl hc hn hN) (fun _ Hn h=>absurd h.1 (Nat.lt_irrefl _)) (fun i n args' new h=>by rw [h.1];rfl) ⟨by omega,[],⟨0,rfl⟩,rfl⟩ rfl ?_ ?_ ?_
 · rintro i _ args' new hi ⟨hlt,G,⟨g,hg⟩,rfl⟩ ⟨rfl,rfl⟩ L1 L2
   letI:Ghost:=pinG noFG L1
   rw [List.append_nil]
   have hal:=q5I key label ctx n i
   have hbl:=q3X key label ctx n (i+1)
   have hac:kacc key label ctx n i++kblk key label ctx n (i+1)=kacc key label ctx n (i+1):=rfl
   generalize hka:kacc key label ctx n i=a at*
   generalize hkb:kblk key label ctx n (i+1)=b at*
   unfold frC
   refine uQ 600 _ ?_
   simp only [putL,List.toList_toArray]
   with_reducible refine sxaE ?_
   letI:Ghost:=pinG noFG L2
   refine uQ 600 _ ?_
   simp (maxSteps:=3000000) only [hal,hbl,List.append_assoc,getA,getA0,setA,setA0,List.length_append,Nat.add_assoc,go_sem,↓zA,↓reduceIte,↓reduceDIte] <;>try simp only [zB]
   refine ⟨⟨by omega,by omega⟩,fun h=>⟨rfl,by omega,G++ [.dead],⟨g+1,by rw [hg,List.replicate_succ']⟩,?_⟩,fun h=>⟨by omega,G++ [.dead],⟨g+1,by rw [hg,List.replicate_succ']⟩,?_⟩⟩
   · rw [←hac]
     simp [frC,Nat.mul_add]
   rw [←hac]
   simp [frC,Nat.mul_add]
 · rintro D _ ⟨h,_⟩
   exact absurd h (Nat.lt_irrefl _)
 rintro D i ex _ hi ⟨rfl,hiN,G,⟨g,hg⟩,rfl⟩
 refine ⟨_,rfl,?_⟩
 unfold frC
 letI:Ghost:=topG noFG [D]
 have hal:=q5I key label ctx n (i+1)
 have hke:List.take n (kacc key label ctx n (i+1))=kdfS key label ctx n:=by rw [hiN];rfl
 generalize kacc key label ctx n (i+1)=a at*
 refine uQ 5 _ ?_
 with_reducible refine sxaE ?_
 refine ⟨⟨by omega,by omega⟩,?_⟩
 refine q1B (G.length+2) (ty:=.u8) (xs:=a) rfl (by simp) (by omega) ?_ ?_ ?_
 · with_reducible refine sxaE ?_
   refine ⟨by omega,?_⟩
   rw [hg]
   exact q6J g ⟨trivial,trivial⟩
 · with_reducible refine sxaE ?_
   exact ⟨by omega,by omega⟩
 with_reducible refine sxaE ?_
 rw [Nat.sub_zero,hke]
 have hkl:(kdfS key label ctx n).length=n:=z1Y _ _ _ _
 refine uQ 600 _ ?_
 with_reducible refine sxaE ?_
 refine q0a (q1U (kdfS key label ctx n) (by omega)) ?_
 refine aQ ?_;trivial
theorem j4u (key label ctx:List UInt8) (n:Nat) (hk:key.length≤64) (hl:label.length≤4096) (hc:ctx.length≤4096) (h1:1≤n) (hn:n≤1024):PC Tryz.prog 83 [.isl .u8 key,.isl .u8 label,.isl .u8 ctx,rI n] (.tup [.isl .u8 (kdfS key label ctx n),rI 0]):=by
 have hal:=j0O n [key,label,ctx] h1 hn (fun l hl'=>by simp at hl';rcases hl' with rfl|rfl|rfl<;>omega) (by simp)
 refine q0q rfl rfl ?_
 refine rQ fi83 ?_
 refine q0p 0 ?_
 with_reducible refine sxE ?_
 refine q0a hal ?_
 refine gQ ?_
 refine q0a (z3u (key,label,ctx,(n:Int)) ⟨⟨show key.length≤1125899906842624 by omega,fun _ _=>trivial⟩,⟨show label.length≤1125899906842624 by omega,fun _ _=>trivial⟩,⟨show ctx.length≤1125899906842624 by omega,fun _ _=>trivial⟩,trivial⟩) ?_
 refine gQ ?_
 refine q0a (j1T key label ctx n hk hl hc h1 hn) ?_
 refine gQ ?_;trivial
abbrev rkF (key:List UInt8) (bw:Bool):SV:=.fn 192 [] [.iptr .bool bw 0,.iptr (.ptr CipT) (some (cipS key)) 0]
theorem z9W (key:List UInt8) (hk:key.length=16):CipT.ok (cipS key):=by
 have h1:fwS.length=256:=by simp [fwS]
 have h2:(invP 256).length=256:=z2H 256
 have h3:=q3p key hk
 unfold cipS
 generalize fwS=fw at*
 generalize invP 256=iv at*
 generalize wordsS key=w at*
 refine ⟨⟨?_,?_⟩,?_,?_⟩
 all_goals first|exact trivial|exact ⟨by assumption,fun _ _=>trivial⟩ |exact ⟨⟨by assumption,fun _ _=>trivial⟩,trivial⟩ |skip
theorem q5m (key:List UInt8) (bw:Bool) (hk:key.length=16):PC Tryz.prog 176 [.iptr CipT (cipS key) 0,rB bw] (rkF key bw):=by
 refine q0q rfl rfl ?_
 refine q0G fi176 ?_
 refine uQ 4 _ ?_
 with_reducible refine sxE ?_
 refine q2f 2 0 (ty:=.ptr CipT) (x:=some (cipS key)) rfl (fun y h=>by cases h;exact z9W key hk) rfl rfl ?_
 refine q2f 3 1 (ty:=.bool) (x:=bw) rfl trivial rfl rfl ?_
 refine gQ ?_;trivial
def rkI (bw:Bool) (i:Nat):Nat:=if bw then 10-i else i
def rkK (key:List UInt8) (i:Nat):List UInt8:=((wordsS key).drop (i*16)).take 16
def vwR (key:List UInt8) (bw:Bool):Nat→Nat→List SV→List SObj→Prop:=fun i _ args' new=>args'= [rI (rkI bw i:Nat),.dat (.arr 16 .u8) (rkK key (rkI bw i))]∧new= []
theorem q5o (key:List UInt8) (bw:Bool) (hk:key.length=16):Iter Tryz.prog 192 [] [.iptr .bool bw 0,.iptr (.ptr CipT) (some (cipS key)) 0] 11 (vwR key bw):=by
 refine ⟨by kernel_rfl,fun l B J hJ yg=> ?_⟩
 have hwl:=q3p key hk
 refine (q1v (yFG hJ) fi192 ?_).2
 letI:Ghost:=topG (yFG hJ) []
 refine uQ 600 _ ?_
 with_reducible refine sxE ?_
 refine q8X [] (fun i=>i) (fun i=>[(5,rI (i:Nat))]) 11 (fun _=>True) trivial rfl (by simp) (by simp [SV.bel]) ?_ fun i hi _=> ?_
 · with_reducible refine sxE ?_;trivial
 have hwr:=wsx i (by omega)
 by_cases hlt:i<11
 · have f1:((i:Int) <11)=True:=eq_true (by omega)
   have e1:IntKind.i64.wrap (10- (i:Int))=((10-i:Nat):Int):=by rw [wrapi (by omega)];omega
   cases bw with
   |false=>
    refine uQ 600 _ ?_
    simp (maxSteps:=3000000) only [f1,go_sem,↓zA,↓reduceIte,↓reduceDIte] <;>try simp only [zB]
    refine ⟨by omega,q1R [] hJ yg hlt (fun n=>⟨_,_,⟨rfl,rfl⟩,q0U rfl⟩) fun c=> ?_⟩
    cases c
    · refine gQ ?_
      exact ⟨_,_,rfl,rfl,by omega⟩
    refine gQ ?_
    refine ⟨hlt,trivial,⟨[],rfl⟩,?_⟩
    with_reducible refine sx1 hwr ?_;trivial
   |true=>
    refine uQ 600 _ ?_
    simp (maxSteps:=3000000) only [f1,e1,go_sem,↓zA,↓reduceIte,↓reduceDIte] <;>try simp only [zB]
    refine ⟨by omega,q1R [] hJ yg hlt (fun n=>⟨_,_,⟨rfl,rfl⟩,q0U rfl⟩) fun c=> ?_⟩
    cases c
    · refine gQ ?_
      exact ⟨_,_,rfl,rfl,by omega⟩
    refine gQ ?_
    refine ⟨hlt,trivial,⟨[],rfl⟩,?_⟩
    with_reducible refine sx1 hwr ?_;trivial
 obtain rfl:i=11:=by omega
 have f1:(((11:Nat):Int) <11)=False:=by decide
 refine uQ 600 _ ?_
 simp (maxSteps:=3000000) only [f1,go_sem,↓zA,↓reduceIte,↓reduceDIte] <;>try simp only [zB]
 exact ⟨_,_,rfl,rfl,Nat.le_refl _⟩
end Go.Proofs.YtikapabgggphpaaGreatDoor
