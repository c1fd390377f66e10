/- CTS: the program's encryption. -/
import Derived.Test.YtikapabgggphpaaGreatDoorP25
import Derived.Test.YtikapabgggphpaaGreatDoorP23
import Derived.Test.YtikapabgggphpaaGreatDoorP24
import Derived.Test.YtikapabgggphpaaGreatDoorP19
set_option linter.all false
namespace Go.Proofs.YtikapabgggphpaaGreatDoor
open Go Go.Sx Go.Proofs
set_option maxRecDepth 100000
set_option maxHeartbeats 40000000
theorem j4c (b:List UInt8) (hb:b.length=16):PC Tryz.prog 154 [.isl (.slice .u8) [b],.raw (.slice none 0 0)] (.isl .u8 b):=by
 have f1:(((1:Nat):Int)=0)=False:=eq_false (by decide)
 have f2:(((1:Nat):Int)=1)=True:=eq_true (by decide)
 have e5:(Ty.slice .u8).dflt=([]:List UInt8):=rfl
 refine q0t rfl rfl ?_
 refine q0G fi154 ?_
 refine uQ 600 _ ?_
 simp (maxSteps:=3000000) only [f1,f2,e5,hb,go_sem,↓zA,↓reduceIte,↓reduceDIte] <;>try simp only [zB]
 exact List.take_of_length_le (by omega)
theorem j2C (bs:List (List UInt8)) (h1:1≤bs.length) (h16:∀b∈bs,b.length=16) (hl:bs.length≤10000):PC Tryz.prog 154 [.isl (.slice .u8) bs,.raw (.slice none 0 0)] (.isl .u8 bs.flatten):=by
 by_cases h2:2≤bs.length
 · exact j3H bs h2 h16 (by omega) (by rw [flat16 bs h16];omega)
 obtain ⟨b,rfl⟩:=List.length_eq_one_iff.1 (show bs.length=1 by omega)
 rw [List.flatten_singleton]
 exact j4c b (h16 b List.mem_cons_self)
def ceC (m:List SV) (i:Nat) (G:List SObj) (acc:List (List UInt8)):List SObj:=.cells 184 m :: .cells 97 [.bld (G.length+2) (.slice .u8) i] :: (G++ [.row (.slice .u8) acc])
def quG (G:List SObj):Prop:=∀ (h:Nat) (t:Ty) (xs:List t.den),frzObH h t xs G
theorem z4r:quG []:=fun _ _ _=>trivial
theorem z6l {G L:List SObj} (h:quG G) (h':quG L):quG (G++L):=fun _ _ _=>q1i (h _ _ _) (h' _ _ _)
def ceH (m:List SV) (key iv p:List UInt8) (i:Nat) (H':List SObj):Prop:=∃G,quG G∧H'=ceC m i G (cbl key iv p i)
theorem z8M (key iv p:List UInt8) (i:Nat):cbl key iv p (i+1)=cbl key iv p i++ [cpre key iv p (i+1)]:=by
 unfold cbl
 rw [List.range_succ,List.map_append]
 rfl
theorem z5l (key iv p:List UInt8) (i:Nat):(cbl key iv p i).length=i:=by simp [cbl]
theorem j3F (key iv p:List UInt8) (i:Nat):∀b∈cbl key iv p i,b.length=16:=by
 intro b hb
 unfold cbl at hb
 obtain ⟨i,_,rfl⟩:=List.mem_map.1 hb
 exact q3w _ _
theorem z8h (bs:List (List UInt8)):(exgS bs).length=bs.length:=by
 unfold exgS swpS
 split<;>simp
theorem j2f (bs:List (List UInt8)) (h:∀b∈bs,b.length=16):∀b∈exgS bs,b.length=16:=by
 unfold exgS
 split
 · rename_i h1
   have hg:∀j,j<bs.length→(bs.getD j []).length=16:=fun j hj=>h _ (by rw [List.getD_eq_getElem?_getD,List.getElem?_eq_getElem hj];exact List.getElem_mem _)
   intro b hb
   unfold swpS at hb
   rcases List.mem_or_eq_of_mem_set hb with hb|rfl
   · rcases List.mem_or_eq_of_mem_set hb with hb|rfl
     · exact h b hb
     exact hg _ (by omega)
   exact hg _ (by omega)
 exact h
theorem j1P (key iv p:List UInt8) (hk:key.length=16) (hi:iv.length=16) (h1:16≤p.length) (hp:p.length≤131072):PC Tryz.prog 137 [.isl .u8 key,.isl .u8 iv,.isl .u8 p] (.tup [.isl .u8 (ctsE key iv p),rI 0]):=by
 have hst:=q8G key iv hk hi
 have hck:=z2d p h1 hp
 have hcu:=z9Q p (by omega)
 have hch:=z9B key iv p hk hi hp
 have hit:=z8Y key iv p hk hi hp
 have hpr:=z5g key iv p hi h1
 have hel:=z1P key iv p hi h1
 have hn:nblk p.length=(p.length+15) / 16:=rfl
 unfold modS at hst
 unfold chnF at hch
 generalize cipS key=cp at*
 refine q0q rfl rfl (q3J (q1v noFG fi137 ?_))
 letI:Ghost:=topG noFG []
 refine uQ 600 _ ?_
 with_reducible refine sxE ?_
 refine q0a hst ?_
 refine uQ 600 _ ?_
 with_reducible refine sxE ?_
 refine q0a hck ?_
 refine uQ 600 _ ?_
 with_reducible refine sxE ?_
 refine q0a hcu ?_
 refine uQ 600 _ ?_
 with_reducible refine sxE ?_
 refine q0a hch ?_
 refine uQ 600 _ ?_
 with_reducible refine sxE ?_
 refine q5j 1 0 (.slice .u8) rfl rfl rfl ?_
 refine z3m (ceH [.iptr CipT cp 0,.isl .u8 iv] key iv p) (fun _ _ _=>False) rfl rfl rfl hit (fun i n args' new h=>by rw [h.1];rfl) ⟨[],z4r,rfl⟩ rfl ?_ ?_ ?_
 · rintro i _ args' new hi' ⟨G,hG,rfl⟩ ⟨rfl,rfl⟩ L1 L2
   letI:Ghost:=pinG noFG L1
   rw [List.append_nil]
   have hal:=z5l key iv p i
   have hac:=z8M key iv p i
   have hbl:=z2u key iv p hi (i+1)
   generalize cbl key iv p i=a at*
   generalize cpre key iv p (i+1)=b at*
   unfold ceC
   refine uQ 600 _ ?_
   simp only [putL,List.toList_toArray]
   with_reducible refine sxaE ?_
   letI:Ghost:=pinG noFG L2
   refine uQ 600 _ ?_
   simp (maxSteps:=3000000) only [hal,hbl,List.append_assoc,getA,getA0,setA,setA0,List.length_append,Nat.add_assoc,go_sem,↓zA,↓reduceIte,↓reduceDIte] <;>try simp only [zB]
   have hi2:i< (p.length+15) / 16:=hi'
   refine ⟨⟨by omega,by omega⟩,G++ [.dead,.row (.slice .u8) [b]],z6l hG (fun _ _ _=>by simp [frzObH,SObj.frzOb]),?_⟩
   rw [hac]
   simp [ceC]
 · rintro D _ ⟨G,hG,rfl⟩
   unfold ceC
   letI:Ghost:=topG noFG [D]
   have hal:=z5l key iv p (nblk p.length)
   have hal6:=j3F key iv p (nblk p.length)
   generalize cbl key iv p (nblk p.length)=a at*
   have hxl:=z8h a
   have hx16:=j2f a hal6
   have hex:=j3P a (by omega)
   have hjo:=j2C (exgS a) (by omega) hx16 (by omega)
   have hfl:=flat16 (exgS a) hx16
   generalize exgS a=x at*
   refine uQ 600 _ ?_
   with_reducible refine sxaE ?_
   rw [←hal]
   refine q0h [1,G.length+2] hex rfl (by simp) ?_ rfl rfl ?_
   · simp (maxSteps:=3000000) only [atH,sig,SObj.ren,SV.ren,SV.renL,SObj.live,List.append_assoc,getA,getA0,setA,setA0,List.length_append,Nat.add_assoc,go_sem,↓zA,↓reduceIte,↓reduceDIte] <;>try simp only [zB]
   simp only [afterO,Out.ren,SV.ren,mgA,sig,SObj.ren,SV.renL,List.set,List.map,List.append_nil]
   refine uQ 3 _ ?_
   with_reducible refine sxaE ?_
   refine q1B (G.length+2) (ty:=.slice .u8) (xs:=x) rfl (by simp) (by omega) ?_ ?_ ?_
   · with_reducible refine sxaE ?_
     exact ⟨by omega,q1i (hG _ _ _) ⟨trivial,trivial⟩⟩
   · with_reducible refine sxaE ?_;trivial
   have htk:List.take a.length x=x:=List.take_of_length_le (by omega)
   simp (maxSteps:=3000000) only [htk,List.append_assoc,getA,getA0,setA,setA0,List.length_append,Nat.add_assoc,go_sem,↓zA,↓reduceIte,↓reduceDIte] <;>try simp only [zB]
   generalize (List.map (SObj.frz (G.length+2) (Ty.slice .u8) x) G++ [SObj.row (Ty.slice .u8) x]).set G.length SObj.dead=T
   refine uQ 600 _ ?_
   with_reducible refine sxE ?_
   refine q0a hjo ?_
   refine uQ 600 _ ?_
   with_reducible refine sx1 hpr ?_
   refine ⟨⟨by omega,by omega⟩,q0a (q1U (ctsE key iv p) (by omega)) ?_⟩
   refine uQ 600 _ ?_
   with_reducible refine sxE ?_;trivial
 rintro D i ex _ hi' h
 exact h.elim
def unxS (w:List UInt8) (n:Nat) (bs:List (List UInt8)):List (List UInt8):=
 if bs.length=1 then bs else
  (bs.set (bs.length-2) ((bs.getD (bs.length-1) []).take (n-16* (bs.length-1))++(decS w (bs.getD (bs.length-2) [])).drop (n-16* (bs.length-1)))).set (bs.length-1) (bs.getD (bs.length-2) [])
theorem j0K (key iv c:List UInt8) (bs:List (List UInt8)) (hk:key.length=16) (h16:∀b∈bs,b.length=16) (hc:c.length≤131072) (h1:1≤bs.length) (hn:16* (bs.length-1) <c.length) (hn2:c.length≤16*bs.length):
 PE Tryz.prog 155 [.ptr 0 0,.ptr 1 0,.ptr 2 0] [.cells 97 [.bld 3 (.slice .u8) bs.length],.cells 22 [.isl .u8 c],.cells 184 (modS key iv),.row (.slice .u8) bs] (.ret (.tup []))
  [.cells 97 [.bld 3 (.slice .u8) bs.length],.cells 22 [.isl .u8 c],.cells 184 (modS key iv),.row (.slice .u8) (unxS (wordsS key) c.length bs)]:=by
 refine q0d (Nat.le_refl _) ?_
 refine q0G fi155 ?_
 unfold unxS
 by_cases h:bs.length=1
 · have f1:(((bs.length:Nat):Int)=1)=True:=eq_true (by omega)
   rw [if_pos h]
   unfold modS
   generalize cipS key=cp at*
   refine uQ 600 _ ?_
   simp (maxSteps:=3000000) only [f1,go_sem,↓zA,↓reduceIte,↓reduceDIte] <;>try simp only [zB]
 have f1:(((bs.length:Nat):Int)=1)=False:=eq_false (by omega)
 have e1:IntKind.i64.wrap (((bs.length:Nat):Int) -1)=((bs.length-1:Nat):Int):=by rw [wrapi (by omega)];omega
 have e2:IntKind.i64.wrap (((bs.length:Nat):Int) -2)=((bs.length-2:Nat):Int):=by rw [wrapi (by omega)];omega
 have e3:IntKind.i64.wrap (16* ((bs.length-1:Nat):Int))=((16* (bs.length-1):Nat):Int):=by rw [wrapi (by omega)];omega
 obtain ⟨k,hkn⟩:∃k,k=c.length-16* (bs.length-1):=⟨_,rfl⟩
 have e4:IntKind.i64.wrap (((c.length:Nat):Int) - ((16* (bs.length-1):Nat):Int))=(k:Int):=by rw [wrapi (by omega)];omega
 have hg:∀j,j<bs.length→(bs.getD j []).length=16:=fun j hj=>h16 _ (by rw [List.getD_eq_getElem?_getD,List.getElem?_eq_getElem hj];exact List.getElem_mem _)
 have hg1:=hg (bs.length-1) (by omega)
 have hg2:=hg (bs.length-2) (by omega)
 have hap:=q9o key iv (bs.getD (bs.length-2) []) hk hg2
 have hdl:=q4r (wordsS key) (bs.getD (bs.length-2) [])
 rw [if_neg h,←hkn]
 unfold modS at*
 have e5:(Ty.slice .u8).dflt=([]:List UInt8):=rfl
 generalize hx1:bs.getD (bs.length-1) []=x1 at*
 generalize hx2:bs.getD (bs.length-2) []=x2 at*
 generalize decS (wordsS key) x2=dx at*
 generalize cipS key=cp at*
 refine uQ 600 _ ?_
 simp (maxSteps:=3000000) only [f1,e1,e2,e3,e4,e5,Nat.zero_add,Int.toNat_natCast,hx2,go_sem,↓zA,↓reduceIte,↓reduceDIte] <;>try simp only [zB]
 refine ⟨⟨by omega,by omega⟩,by omega,?_⟩
 refine q0a hap ?_
 refine uQ 3 _ ?_
 with_reducible refine sxE ?_
 refine q1P [0,3] mixed ?_
 have htl:List.take dx.length dx=dx:=List.take_length
 refine uQ 14 _ ?_
 simp (maxSteps:=3000000) only [e1,e5,Nat.zero_add,Int.toNat_natCast,hx1,htl,go_sem,↓zA,↓reduceIte,↓reduceDIte] <;>try simp only [zB]
 refine ⟨⟨by omega,by omega⟩,by omega,⟨by omega,Nat.le_refl _,by omega⟩,⟨by omega,by omega,Nat.le_refl _⟩,⟨by rw [List.length_take,List.length_drop];omega,by rw [List.length_take,List.length_drop];omega⟩,?_⟩
 refine q1P [3,999999,0] mixed ?_
 refine uQ 600 _ ?_
 simp (maxSteps:=3000000) only [e1,e2,e5,go_sem,↓zA,↓reduceIte,↓reduceDIte] <;>try simp only [zB]
 refine ⟨⟨by omega,by omega⟩,by omega,⟨by omega,by omega⟩,by rw [List.length_set];omega,?_⟩
 simp only [Nat.zero_add]
end Go.Proofs.YtikapabgggphpaaGreatDoor
namespace Go.Proofs.YtikapabgggphpaaGreatDoor
open Go Go.Sx Go.Proofs
set_option maxRecDepth 100000
theorem z8d {b:List UInt8} (hb:b.length=16):(fS fun j=>b.getD j 0)=b:=by
 apply List.ext_getElem
 · rw [q1F,hb]
 intro j h1 h2
 simp [fS,List.getD_eq_getElem?_getD,h2]
theorem q8N (b w:List UInt8) (r:Nat) (hb:b.length=16):addS (addS b w r) w r=b:=by
 conv=>rhs;rw [←z8d hb]
 unfold addS
 refine q2g fun j hj=> ?_
 rw [q5V _ hj,UInt8.xor_assoc,UInt8.xor_self,UInt8.xor_zero]
theorem j1a (c:UInt8):invS (subS c)=c:=z6C (p:=fun c=>invS (subS c)=c) (by decide+kernel) c
theorem z9i:∀j:Fin 16,srcU j.val<16∧4* ((srcU j.val / 4+srcU j.val%4)%4)+srcU j.val%4=j.val:=by decide
theorem z4h (b:List UInt8) (hb:b.length=16):unsS (shfS b)=b:=by
 conv=>rhs;rw [←z8d hb]
 unfold unsS shfS
 refine q2g fun j hj=> ?_
 have h:=z9i ⟨j,hj⟩
 dsimp only at h
 rw [q5V _ h.1,j1a,h.2]
theorem top8 (b:UInt8):(128≤b.toNat) ↔ b.toNat.testBit 7=true:=by
 have:=b.toNat_lt
 rw [Nat.testBit_eq_decide_div_mod_eq]
 simp
 omega
theorem z5z (b:UInt8):dblS b=(b<<<1) ^^^ (if b.toNat.testBit 7=true then 27 else 0):=by
 unfold dblS
 by_cases h:128≤b.toNat
 · rw [if_pos h,if_pos ((top8 b).1 h)]
 rw [if_neg h,if_neg (fun h'=>h ((top8 b).2 h')),UInt8.xor_zero]
theorem xor4 (p q x y:UInt8):p^^^ q^^^ (x^^^ y)=p^^^ x^^^ (q^^^ y):=by
 rw [UInt8.xor_assoc,UInt8.xor_assoc,←UInt8.xor_assoc q,UInt8.xor_comm q x,UInt8.xor_assoc]
theorem j1X (x y:UInt8):dblS (x^^^ y)=dblS x^^^ dblS y:=by
 rw [z5z,z5z x,z5z y,xor4,show (x^^^ y) <<<1=x<<<1^^^ y<<<1 by
  apply UInt8.toBitVec_inj.1
  simp [BitVec.shiftLeft_xor_distrib],UInt8.toNat_xor,Nat.testBit_xor]
 cases x.toNat.testBit 7<;>cases y.toNat.testBit 7<;>rfl
theorem q7R:∀ (n a:Nat) (x y p q:UInt8),mulA n a (x^^^ y) (p^^^ q)=mulA n a x p^^^ mulA n a y q
 |0,_,_,_,_,_=>rfl
 |n+1,a,x,y,p,q=>by
  unfold mulA
  by_cases h0:a=0
  · rw [if_pos h0,if_pos h0,if_pos h0]
  rw [if_neg h0,if_neg h0,if_neg h0,j1X]
  by_cases h1:a%2=1
  · rw [if_pos h1,if_pos h1,if_pos h1,xor4]
    exact q7R n _ _ _ _ _
  rw [if_neg h1,if_neg h1,if_neg h1]
  exact q7R n _ _ _ _ _
theorem j0q (a x y:UInt8):mulS a (x^^^ y)=mulS a x^^^ mulS a y:=by
 have:=q7R 8 a.toNat x y 0 0
 rwa [UInt8.xor_self] at this
def mixC (e x:UInt8):Prop:=
 (mulS 14 (mulS 2 x) ^^^ mulS 11 x^^^ mulS 13 x^^^ mulS 9 (mulS 3 x)=x)∧(mulS 14 (mulS 3 x) ^^^ mulS 11 (mulS 2 x) ^^^ mulS 13 x^^^ mulS 9 x=e)
 ∧(mulS 14 x^^^ mulS 11 (mulS 3 x) ^^^ mulS 13 (mulS 2 x) ^^^ mulS 9 x=e)∧(mulS 14 x^^^ mulS 11 x^^^ mulS 13 (mulS 3 x) ^^^ mulS 9 (mulS 2 x)=e)
instance (e x:UInt8):Decidable (mixC e x):=by unfold mixC;infer_instance
theorem q5F (x:UInt8):mixC 0 x:=z6C (p:=mixC 0) (by decide+kernel) x
theorem mul_one' (x:UInt8):mulS 1 x=x:=z6C (p:=fun x=>mulS 1 x=x) (by decide+kernel) x
theorem rot4 (a b c d:UInt8):a^^^ b^^^ c^^^ d=b^^^ c^^^ d^^^ a:=by ac_rfl
theorem rot2 (a b c d:UInt8):a^^^ b^^^ c^^^ d=c^^^ d^^^ a^^^ b:=by ac_rfl
theorem rot1 (a b c d:UInt8):a^^^ b^^^ c^^^ d=d^^^ a^^^ b^^^ c:=by ac_rfl
theorem xor16 (a b c d e f g h i j k l m n o p:UInt8):(a^^^ b^^^ c^^^ d) ^^^ (e^^^ f^^^ g^^^ h) ^^^ (i^^^ j^^^ k^^^ l) ^^^ (m^^^ n^^^ o^^^ p)=(a^^^ e^^^ i^^^ m) ^^^ (b^^^ f^^^ j^^^ n) ^^^ (c^^^ g^^^ k^^^ o) ^^^ (d^^^ h^^^ l^^^ p):=by
 ac_rfl
theorem mixA4 (b:List UInt8) (x0 x1 x2 x3:UInt8) (c r:Nat):mixA b [x0,x1,x2,x3] c r 4=mulS ([x0,x1,x2,x3].getD ((4-r)%4) 0) (b.getD (4*c) 0) ^^^ mulS ([x0,x1,x2,x3].getD ((5-r)%4) 0) (b.getD (4*c+1) 0) ^^^ mulS ([x0,x1,x2,x3].getD ((6-r)%4) 0) (b.getD (4*c+2) 0) ^^^ mulS ([x0,x1,x2,x3].getD ((7-r)%4) 0) (b.getD (4*c+3) 0):=by
 simp only [mixA,Nat.zero_add,Nat.add_zero]
 rw [UInt8.zero_xor]
theorem q8c (b:List UInt8) (x0 x1 x2 x3:UInt8) {c r:Nat} (hc:c<4) (hr:r<4):(mixS b [x0,x1,x2,x3]).getD (4*c+r) 0=mixA b [x0,x1,x2,x3] c r 4:=by
 unfold mixS
 rw [q5V _ (by omega),show (4*c+r) / 4=c by omega,show (4*c+r)%4=r by omega]
theorem j2z (b:List UInt8) (hb:b.length=16):mixS (mixS b [2,3,1,1]) [14,11,13,9]=b:=by
 conv=>rhs;rw [←z8d hb]
 conv=>lhs;unfold mixS
 refine q2g fun j hj=> ?_
 obtain ⟨c,r,hc,hr,rfl⟩:∃c r,c<4∧r<4∧j=4*c+r:=⟨j / 4,j%4,by omega,by omega,by omega⟩
 rw [show (4*c+r) / 4=c by omega,show (4*c+r)%4=r by omega,mixA4]
 have g0:=q8c b 2 3 1 1 hc (r:=0) (by decide)
 have g1:=q8c b 2 3 1 1 hc (r:=1) (by decide)
 have g2:=q8c b 2 3 1 1 hc (r:=2) (by decide)
 have g3:=q8c b 2 3 1 1 hc (r:=3) (by decide)
 change (mixS b [2,3,1,1]).getD (4*c) 0=_ at g0
 rw [mixA4] at g0 g1 g2 g3
 unfold mixS at g0 g1 g2 g3 
 rw [g0,g1,g2,g3]
 clear g0 g1 g2 g3
 have e0:=q5F (b.getD (4*c) 0)
 have e1:=q5F (b.getD (4*c+1) 0)
 have e2:=q5F (b.getD (4*c+2) 0)
 have e3:=q5F (b.getD (4*c+3) 0)
 unfold mixC at e0 e1 e2 e3
 rcases (show r=0∨r=1∨r=2∨r=3 by omega) with rfl|rfl|rfl|rfl
 all_goals
  rw [Nat.add_zero] at*
  generalize b.getD (4*c) 0=a0 at*
  generalize b.getD (4*c+1) 0=a1 at*
  generalize b.getD (4*c+2) 0=a2 at*
  generalize b.getD (4*c+3) 0=a3 at*
  simp only [Nat.sub_zero,Nat.reduceSub,Nat.reduceMod,List.getD_cons_zero,List.getD_cons_succ,j0q,mul_one']
  rw [xor16]
 · rw [e0.1,e1.2.1,e2.2.2.1,e3.2.2.2,UInt8.xor_zero,UInt8.xor_zero,UInt8.xor_zero]
 · rw [rot4 _ _ _ (mulS 13 (mulS 3 a0)),rot4 _ _ _ (mulS 13 a1),rot4 _ _ _ (mulS 13 a2),rot4 _ _ _ (mulS 13 (mulS 2 a3)),e0.2.2.2,e1.1,e2.2.1,e3.2.2.1,UInt8.zero_xor,UInt8.xor_zero,UInt8.xor_zero]
 · rw [rot2 _ _ _ (mulS 11 (mulS 3 a0)),rot2 _ _ _ (mulS 11 a1),rot2 _ _ _ (mulS 11 a2),rot2 _ _ _ (mulS 11 (mulS 2 a3)),e0.2.2.1,e1.2.2.2,e2.1,e3.2.1,UInt8.zero_xor,UInt8.zero_xor,UInt8.xor_zero]
 rw [rot1 _ _ _ (mulS 14 (mulS 3 a0)),rot1 _ _ _ (mulS 14 a1),rot1 _ _ _ (mulS 14 a2),rot1 _ _ _ (mulS 14 (mulS 2 a3)),e0.2.1,e1.2.2.1,e2.2.2.2,e3.1,UInt8.zero_xor,UInt8.zero_xor,UInt8.zero_xor]
theorem z4v (w b:List UInt8) (hb:b.length=16) (r:Nat):rndD w r (rndE w r b)=b:=by
 unfold rndD rndE mixD
 have hs:=z9z b
 by_cases h:r<10
 · rw [if_pos h,if_pos h,q8N _ _ _ (z8K _ _),j2z _ hs,z4h b hb]
 rw [if_neg h,if_neg h,q8N _ _ _ hs,z4h b hb]
theorem z5m (w b:List UInt8) (hb:b.length=16):decS w (encS w b)=b:=by
 have h:∀n,n≤10→decA w (encS w b) n=encA w b (10-n):=by
  intro n
  induction n with
  |zero=>intro _;rfl
  |succ n ih=>
   intro hn
   rw [decA,ih (by omega),show 10-n=10- (n+1)+1 by omega,encA,z4v _ _ (q5A _ _ _)]
 unfold decS
 rw [h 10 (Nat.le_refl _)]
 exact q8N b w 0 hb
theorem z8E (a b:List UInt8) (ha:a.length=16):xorS (xorS a b) b=a:=by
 conv=>rhs;rw [←z8d ha]
 unfold xorS
 refine q2g fun j hj=> ?_
 rw [q5V _ hj,UInt8.xor_assoc,UInt8.xor_self,UInt8.xor_zero]
theorem z3f (w iv z:List UInt8) (hi:iv.length=16) (n:Nat):∀m,((chA w iv z (n+m)).2).take (16*n)=(chA w iv z n).2
 |0=>List.take_of_length_le (by rw [(q6u w iv z hi _).2];exact Nat.le_refl _)
 |m+1=>by
  rw [show n+ (m+1)=n+m+1 by omega,chA,List.take_append_of_le_length (by rw [(q6u w iv z hi _).2];omega)]
  exact z3f w iv z hi n m
theorem z0y (w iv z:List UInt8) (hi:iv.length=16) (n m:Nat) (h:n<m):(((chA w iv z m).2).take (16*n+16)).drop (16*n)=(chA w iv z (n+1)).1:=by
 obtain ⟨d,rfl⟩:∃d,m=n+1+d:=⟨m-n-1,by omega⟩
 rw [show 16*n+16=16* (n+1) by omega,z3f w iv z hi,chA]
 dsimp only
 rw [List.drop_left' (q6u w iv z hi _).2]
theorem z2T (z:List UInt8) (n:Nat):z.take (16*n)++(z.take (16*n+16)).drop (16*n)=z.take (16* (n+1)):=by
 have h:(z.take (16*n+16)).take (16*n)=z.take (16*n):=by rw [List.take_take];congr 1;omega
 rw [←h,List.take_append_drop]
 rfl
theorem z5Y (w iv z:List UInt8) (hi:iv.length=16) (m:Nat) (hz:16*m≤z.length):∀n,n≤m→dchA w iv (chA w iv z m).2 n=((chA w iv z n).1,z.take (16*n))
 |0,_=>rfl
 |n+1,h=>by
  rw [dchA,z0y w iv z hi n m (by omega),z5Y w iv z hi m hz n (by omega)]
  dsimp only
  refine Prod.ext rfl ?_
  dsimp only
  rw [show (chA w iv z (n+1)).1=encS w (xorS ((z.take (16*n+16)).drop (16*n)) (chA w iv z n).1) from rfl,z5m _ _ (q1S _ _),z8E _ _ (by rw [List.length_drop,List.length_take];omega),z2T]
theorem z3V (key iv z:List UInt8) (hi:iv.length=16) (hz:z.length%16=0):unchS (wordsS key) iv (chainS key iv z)=z:=by
 unfold unchS
 rw [q4Z _ _ _ hi,Nat.mul_div_cancel_left _ (by decide)]
 unfold chainS
 rw [z5Y _ _ _ hi _ (by omega) _ (Nat.le_refl _)]
 exact List.take_of_length_le (by omega)
theorem z4G (w A x y:List UInt8) (n:Nat) (hA:A.length=whN n-32) (hx:x.length=16) (hy:y.length=16) (hn:16<n) (hd:(decS w y).drop (n- (whN n-16))=x.drop (n- (whN n-16))):unexS w ((A++y++x).take n)=A++x++y:=by
 have hw:whN n=(n+15) / 16*16:=rfl
 have hl:(A++y++x).length=whN n:=by simp only [List.length_append];omega
 have hln:((A++y++x).take n).length=n:=by rw [List.length_take];omega
 unfold unexS
 rw [hln]
 generalize whN n=N at*
 have e1:((A++y++x).take n).take (N-32)=A:=by rw [List.take_take,show min (N-32) n=A.length by omega,List.append_assoc,List.take_left]
 have e2:(((A++y++x).take n).take (N-16)).drop (N-32)=y:=by
  rw [List.take_take,show min (N-16) n=(A++y).length by simp only [List.length_append];omega,List.take_left,List.drop_left' (by omega)]
 have e3:((A++y++x).take n).drop (N-16)=x.take (n- (N-16)):=by
  rw [List.drop_take,List.drop_left' (by simp only [List.length_append];omega)]
 rw [e1,e2,e3]
 have hk:(x.take (n- (N-16))).length=n- (N-16):=by rw [List.length_take];omega
 dsimp only
 rw [hk,hd,List.take_append_drop]
theorem z6E (c:List UInt8) (h:32≤c.length):∃A x y,c=A++x++y∧A.length=c.length-32∧x.length=16∧y.length=16∧x=(c.take (c.length-16)).drop (c.length-32)∧y=c.drop (c.length-16):=by
 refine ⟨c.take (c.length-32),(c.take (c.length-16)).drop (c.length-32),c.drop (c.length-16),?_,?_,?_,?_,rfl,rfl⟩
 · have h1:(c.take (c.length-16)).take (c.length-32)=c.take (c.length-32):=by rw [List.take_take];congr 1;omega
   rw [←h1,List.take_append_drop,List.take_append_drop]
 · rw [List.length_take];omega
 · rw [List.length_drop,List.length_take];omega
 rw [List.length_drop];omega
theorem z8J (A x y:List UInt8) (hx:x.length=16) (hy:y.length=16):exchS (A++x++y)=A++y++x:=by
 have hl:(A++x++y).length=A.length+32:=by simp only [List.length_append];omega
 unfold exchS
 have e1:(A++x++y).take ((A++x++y).length-32)=A:=by rw [hl,Nat.add_sub_cancel,List.append_assoc,List.take_left]
 have e2:(A++x++y).drop ((A++x++y).length-16)=y:=by rw [hl];exact List.drop_left' (by simp only [List.length_append];omega)
 have e3:((A++x++y).take ((A++x++y).length-16)).drop ((A++x++y).length-32)=x:=by
  rw [hl,show A.length+32-16=(A++x).length by simp only [List.length_append];omega,List.take_left,Nat.add_sub_cancel,List.drop_left]
 rw [e1,e2,e3]
theorem z8L (z x:List UInt8) (hx:x.length=16) (k:Nat) (hz:∀j,k≤j→z.getD j 0=0):(xorS z x).drop k=x.drop k:=by
 apply List.ext_getElem
 · rw [List.length_drop,List.length_drop,q1S,hx]
 intro j h1 h2
 rw [List.length_drop] at h2
 rw [List.getElem_drop,List.getElem_drop]
 have hj:k+j<16:=by omega
 have h:=q5V (fun i=>z.getD i 0^^^ x.getD i 0) hj
 rw [List.getD_eq_getElem?_getD,List.getElem?_eq_getElem (by rw [q1F];exact hj)] at h
 refine Eq.trans h ?_
 rw [hz _ (by omega),UInt8.zero_xor,List.getD_eq_getElem?_getD,List.getElem?_eq_getElem (by omega)]
 rfl
theorem j0M (key iv p:List UInt8) (hi:iv.length=16) (h1:16≤p.length):ctsD key iv (ctsE key iv p)=p:=by
 have hz:zpN p.length=(16-p.length%16)%16:=rfl
 have hzl:=z0Z p (zpN p.length)
 have hzt:(zpL p (zpN p.length)).take p.length=p:=List.take_left ..
 have hzg:∀j,p.length≤j→(zpL p (zpN p.length)).getD j 0=0:=by
  intro j hj
  unfold zpL
  rw [List.getD_eq_getElem?_getD,List.getElem?_append_right hj,List.getElem?_replicate]
  split<;>rfl
 have hun:=z3V key iv (zpL p (zpN p.length)) hi (by omega)
 have hcl:=q4Z key iv (zpL p (zpN p.length)) hi
 unfold ctsE
 dsimp only
 by_cases h:(chainS key iv (zpL p (zpN p.length))).length=16
 · rw [if_pos h]
   have hp:p.length=16:=by omega
   have hzp:zpL p (zpN p.length)=p:=by
    unfold zpL
    rw [show zpN p.length=0 by omega]
    simp
   rw [hzp] at hun h⊢
   unfold ctsD
   rw [if_pos h]
   conv=>rhs;rw [←hun]
   unfold unchS
   rw [h]
   show _=((dchA _ _ _ 0).2++xorS (decS (wordsS key) (((chainS key iv p).take (16*0+16)).drop (16*0))) (dchA _ _ _ 0).1)
   rw [show ((chainS key iv p).take (16*0+16)).drop (16*0)=chainS key iv p by
    rw [List.drop_zero];exact List.take_of_length_le (by omega)]
   rfl
 rw [if_neg h]
 have hc:chainS key iv (zpL p (zpN p.length))=(chA (wordsS key) iv (zpL p (zpN p.length)) (whN p.length / 16)).2:=by
  unfold chainS
  rw [hzl]
  congr 2
  unfold whN zpN
  omega
 have hN:(chainS key iv (zpL p (zpN p.length))).length=whN p.length:=by unfold whN;omega
 have hw:whN p.length=(p.length+15) / 16*16:=rfl
 obtain ⟨A,x,y,he,hA,hx,hy,hxe,hye⟩:=z6E (chainS key iv (zpL p (zpN p.length))) (by omega)
 rw [hN] at hA hxe hye
 rw [he,z8J A x y hx hy]
 have hxl:(A++y++x).length=whN p.length:=by simp only [List.length_append];omega
 have hd:(decS (wordsS key) y).drop (p.length- (whN p.length-16))=x.drop (p.length- (whN p.length-16)):=by
  obtain ⟨n,hn⟩:∃n,whN p.length=16* (n+2):=⟨(p.length+15) / 16-2,by omega⟩
  rw [hc,hn] at hxe hye
  rw [Nat.mul_div_cancel_left _ (by decide)] at hxe hye
  have hx2:x=(chA (wordsS key) iv (zpL p (zpN p.length)) (n+1)).1:=by
   rw [hxe,show 16* (n+2) -16=16*n+16 by omega,show 16* (n+2) -32=16*n by omega]
   exact z0y _ _ _ hi n (n+2) (by omega)
  have hy2:y=(chA (wordsS key) iv (zpL p (zpN p.length)) (n+2)).1:=by
   have hb:=z0y (wordsS key) iv (zpL p (zpN p.length)) hi (n+1) (n+2) (by omega)
   rw [←hb,hye,show 16* (n+2) -16=16* (n+1) by omega,List.take_of_length_le]
   rw [(q6u _ _ _ hi _).2];omega
  have hy3:y=encS (wordsS key) (xorS (((zpL p (zpN p.length)).take (16* (n+1)+16)).drop (16* (n+1))) x):=by rw [hy2,hx2];rfl
  rw [hy3,z5m _ _ (q1S _ _)]
  refine z8L _ _ hx _ fun j hj=> ?_
  rw [List.take_of_length_le (by omega),List.getD_eq_getElem?_getD,List.getElem?_drop,←List.getD_eq_getElem?_getD]
  exact hzg _ (by omega)
 have hue:=z4G (wordsS key) A x y p.length hA hx hy (by omega) hd
 unfold ctsD
 rw [hue,←he,hun,List.length_take,hxl,if_neg (by omega),show min p.length (whN p.length)=p.length by omega,hzt]
theorem z2E:∀ (xs:List (List UInt8)) (i:Nat),(∀b∈xs,b.length=16)→i<xs.length→(xs.flatten.take (16*i+16)).drop (16*i)=xs.getD i []
 |b :: xs,0,h,_=>by
  have hb:=h b List.mem_cons_self
  show List.drop 0 (List.take 16 (b++xs.flatten))=b
  rw [List.drop_zero,List.take_left' hb]
 |b :: xs,i+1,h,hi=>by
  have hb:=h b List.mem_cons_self
  have ih:=z2E xs i (fun c hc=>h c (List.mem_cons_of_mem _ hc)) (by simpa using hi)
  rw [List.flatten_cons,show 16* (i+1)+16=b.length+ (16*i+16) by omega,List.take_length_add_append,show 16* (i+1)=b.length+16*i by omega,List.drop_length_add_append,ih]
  rfl
def dpl (w iv:List UInt8) (xs:List (List UInt8)):Nat→List UInt8×List UInt8
 |0=>(iv,[])
 |n+1=>(xs.getD n [],(dpl w iv xs n).2++xorS (decS w (xs.getD n [])) (dpl w iv xs n).1)
theorem z4x (w iv:List UInt8) (xs:List (List UInt8)) (h:∀b∈xs,b.length=16):∀n,n≤xs.length→dchA w iv xs.flatten n=dpl w iv xs n
 |0,_=>rfl
 |n+1,hn=>by
  rw [dchA,dpl,z2E xs n h (by omega),z4x w iv xs h n (by omega)]
def cblk (c:List UInt8) (n:Nat):List (List UInt8):=(List.range n).map (blkC c)
theorem q7P (c:List UInt8) (n:Nat):(cblk c n).length=n:=by simp [cblk]
theorem z5S (c:List UInt8) (n:Nat) (h:n≤nblk c.length):∀b∈cblk c n,b.length=16:=by
 intro b hb
 unfold cblk at hb
 obtain ⟨i,hi,rfl⟩:=List.mem_map.1 hb
 exact q3o c (by have:=List.mem_range.1 hi;omega)
theorem q4t (c:List UInt8) (n:Nat):cblk c (n+1)=cblk c n++ [blkC c n]:=by
 unfold cblk
 rw [List.range_succ,List.map_append]
 rfl
theorem q9F (c:List UInt8):∀n,16*n≤c.length→(cblk c n).flatten=c.take (16*n)
 |0,_=>rfl
 |n+1,h=>by
  rw [q4t,List.flatten_append,q9F c n (by omega),List.flatten_singleton,q2s c (by omega),z2T]
theorem j2P (w:List UInt8) (n:Nat) (l:List (List UInt8)) (x y:List UInt8):unxS w n (l++ [x,y])=l++ [y.take (n-16* (l.length+1))++(decS w x).drop (n-16* (l.length+1)),x]:=by
 unfold unxS
 have h1:(l++ [x,y]).length=l.length+2:=by simp
 rw [h1,if_neg (by omega),show l.length+2-2=l.length by omega,show l.length+2-1=l.length+1 by omega]
 have g1:(l++ [x,y]).getD (l.length+1) []=y:=by simp [List.getD_eq_getElem?_getD]
 have g0:(l++ [x,y]).getD l.length []=x:=by simp [List.getD_eq_getElem?_getD]
 rw [g1,g0]
 simp [List.set_append]
theorem z2L (w c:List UInt8) (h:16<c.length):(unxS w c.length (cblk c (nblk c.length))).flatten=unexS w c∧(∀b∈unxS w c.length (cblk c (nblk c.length)),b.length=16)∧(unxS w c.length (cblk c (nblk c.length))).length=nblk c.length:=by
 have hn:nblk c.length=(c.length+15) / 16:=rfl
 have hw:whN c.length=(c.length+15) / 16*16:=rfl
 obtain ⟨m,hm⟩:∃m,nblk c.length=m+2:=⟨nblk c.length-2,by omega⟩
 have hx:=q2s c (i:=m) (by omega)
 have hxl:=q3o c (i:=m) (by omega)
 have hyl:=q3o c (i:=m+1) (by omega)
 have hy:(blkC c (m+1)).take (c.length-16* (m+1))=c.drop (16* (m+1)):=by
  unfold blkC
  rw [List.take_append_of_le_length (by rw [List.length_drop,List.length_take];omega),List.take_of_length_le (show c.length≤16* (m+1)+16 by omega)]
  exact List.take_of_length_le (by rw [List.length_drop];omega)
 have hl:=q9F c m (by omega)
 have hll:=q7P c m
 have hl6:=z5S c m (by omega)
 have hkl:(c.drop (16* (m+1))).length=c.length-16* (m+1):=List.length_drop
 rw [hm,q4t,q4t,List.append_assoc]
 change (unxS w c.length (cblk c m++ [blkC c m,blkC c (m+1)])).flatten=_∧(∀b∈unxS w c.length (cblk c m++ [blkC c m,blkC c (m+1)]),_)∧(unxS w c.length (cblk c m++ [blkC c m,blkC c (m+1)])).length=_
 rw [j2P,hll,hy]
 generalize cblk c m=l at*
 generalize blkC c m=x at*
 refine ⟨?_,?_,?_⟩
 · unfold unexS
   dsimp only
   rw [show whN c.length-32=16*m by omega,show whN c.length-16=16* (m+1) by omega,show 16* (m+1)=16*m+16 by omega,←hx,show 16*m+16=16* (m+1) by omega,hkl,←hl]
   simp
 · intro b hb
   rcases List.mem_append.1 hb with hb|hb
   · exact hl6 b hb
   simp only [List.mem_cons,List.not_mem_nil,or_false] at hb
   rcases hb with rfl|rfl
   · rw [List.length_append,hkl,List.length_drop,q4r];omega
   exact hxl
 simp [hll]
theorem z4B (key iv c:List UInt8) (h1:16≤c.length):(dpl (wordsS key) iv (unxS (wordsS key) c.length (cblk c (nblk c.length))) (nblk c.length)).2.take c.length=ctsD key iv c:=by
 have hn:nblk c.length=(c.length+15) / 16:=rfl
 unfold ctsD
 by_cases h:c.length=16
 · have h2:nblk c.length=1:=by omega
   have hb:blkC c 0=c:=by
    rw [q2s c (by omega),Nat.mul_zero,List.drop_zero]
    exact List.take_of_length_le (by omega)
   rw [if_pos h,h2,show cblk c 1= [blkC c 0] from rfl,hb,show unxS (wordsS key) c.length [c]= [c] from rfl]
   show ([]++xorS (decS (wordsS key) c) iv).take c.length=_
   rw [List.nil_append]
   exact List.take_of_length_le (by rw [q1S];omega)
 obtain ⟨e1,e2,e3⟩:=z2L (wordsS key) c (by omega)
 rw [if_neg h,←e1,←z4x _ _ _ e2 _ (by omega)]
 unfold unchS
 rw [flat16 _ e2,e3,Nat.mul_div_cancel_left _ (by decide)]
end Go.Proofs.YtikapabgggphpaaGreatDoor
namespace Go.Proofs.YtikapabgggphpaaGreatDoor
open Go Go.Sx Go.Proofs
set_option maxRecDepth 100000
set_option maxHeartbeats 40000000
theorem z6Z {G:List SObj}:∀ (H0 L:List SObj) {H:List SObj},H=H0++L++G→leH (fun h=>h) H H0.length L
 |_,[],_,_=>trivial
 |H0,o :: L,H,e=>by
  have h1:leH (fun h=>h) H (H0.length+1) L:=by
   have:=z6Z (G:=G) (H0++ [o]) L (H:=H) (by rw [e];simp)
   rwa [List.length_append] at this
  have h2:H[H0.length]?=some o:=by rw [e];simp
  cases o with
  |dead=>exact h1
  |cells T cs=>exact ⟨by rw [q1y];exact h2,h1⟩
  |row t xs=>exact ⟨by rw [q1y];exact h2,h1⟩
  |map k ks vs=>exact ⟨by rw [q1y];exact h2,h1⟩
  |mark n=>exact ⟨by rw [q1y];exact h2,h1⟩
theorem j2s [Ghost] {P:Program} {AQ:Ex→List SV→List SObj→Prop} {td:List IT} {t:List SV} (H0:List SObj) {G:List SObj} (hp:plainT td=true) (hb:SV.belL H0.length t=true) (hh:belH H0.length H0=true) (hi:injH (fun h=>h) 0 H0 []=true) (hs:SoundI P AQ ⟨0,td,t,H0⟩):SoundI P AQ ⟨0,td,t,H0++G⟩:=
 j4g (σ:=fun h=>h) hp ⟨q6F (z1V _),z6Z (G:=G) [] H0 (by simp),hb,hh,hi,rfl,Nat.zero_le _,fun _ h0=>absurd h0 (Nat.lt_irrefl 0)⟩ hs
theorem z5J (w iv:List UInt8) (xs:List (List UInt8)) (hi:iv.length=16) (h:∀b∈xs,b.length=16):∀n,n≤xs.length→(dpl w iv xs n).1.length=16∧(dpl w iv xs n).2.length=16*n
 |0,_=>⟨hi,rfl⟩
 |n+1,hn=>by
  have ih:=z5J w iv xs hi h n (by omega)
  refine ⟨h _ (by rw [dpl,List.getD_eq_getElem?_getD,List.getElem?_eq_getElem hn];exact List.getElem_mem _),?_⟩
  rw [dpl,List.length_append,ih.2,q1S];omega
def cdC (m:List SV) (c:List UInt8) (i:Nat) (G:List SObj) (acc:List (List UInt8)):List SObj:=.cells 22 [.isl .u8 c] :: .cells 184 m :: .cells 97 [.bld (G.length+3) (.slice .u8) i] :: (G++ [.row (.slice .u8) acc])
def cdH (m:List SV) (c:List UInt8) (i:Nat) (H':List SObj):Prop:=∃G,quG G∧H'=cdC m c i G (cblk c i)
theorem j2g (key iv c:List UInt8) (hk:key.length=16) (hi:iv.length=16) (h1:16≤c.length) (hp:c.length≤131072):PC Tryz.prog 138 [.isl .u8 key,.isl .u8 iv,.isl .u8 c] (.tup [.isl .u8 (ctsD key iv c),rI 0]):=by
 have hst:=q8G key iv hk hi
 have hck:=z2d c h1 hp
 have hcu:=z9Q c (by omega)
 have hit:=j3O c hp
 have hpr:=z4B key iv c h1
 have hel:=q8D key iv c hi h1
 have hn:nblk c.length=(c.length+15) / 16:=rfl
 have hap:=fun b hb=>q9o key iv b hk hb
 have hbx:=z5S c (nblk c.length) (Nat.le_refl _)
 have hbl:=q7P c (nblk c.length)
 have hex:=j0K key iv c (cblk c (nblk c.length)) hk hbx hp (by omega) (by omega) (by omega)
 unfold modS at hst hap hex
 generalize cipS key=cp at*
 refine q0q rfl rfl (q3J (q1v noFG fi138 ?_))
 letI:Ghost:=topG noFG []
 refine uQ 600 _ ?_
 with_reducible refine sxE ?_
 refine q0a hst ?_
 refine uQ 600 _ ?_
 with_reducible refine sxE ?_
 refine q0a hck ?_
 refine uQ 600 _ ?_
 with_reducible refine sxE ?_
 refine q0a hcu ?_
 refine uQ 600 _ ?_
 with_reducible refine sxE ?_
 refine q5j 2 0 (.slice .u8) rfl rfl rfl ?_
 refine z3m (cdH [.iptr CipT cp 0,.isl .u8 iv] c) (fun _ _ _=>False) rfl rfl rfl hit (fun i n args' new h=>by rw [h.1];rfl) ⟨[],z4r,rfl⟩ rfl ?_ ?_ ?_
 · rintro i _ args' new hi' ⟨G,hG,rfl⟩ ⟨rfl,rfl⟩ L1 L2
   letI:Ghost:=pinG noFG L1
   rw [List.append_nil]
   have hal:=q7P c i
   have hac:=q4t c i
   have hbl:=q3o c hi'
   generalize cblk c i=a at*
   generalize blkC c i=b at*
   unfold cdC
   refine uQ 600 _ ?_
   simp only [putL,List.toList_toArray]
   with_reducible refine sxaE ?_
   letI:Ghost:=pinG noFG L2
   refine uQ 600 _ ?_
   simp (maxSteps:=3000000) only [hal,hbl,List.append_assoc,getA,getA0,setA,setA0,List.length_append,Nat.add_assoc,go_sem,↓zA,↓reduceIte,↓reduceDIte] <;>try simp only [zB]
   have hi2:i< (c.length+15) / 16:=hi'
   refine ⟨⟨by omega,by omega⟩,G++ [.dead,.row (.slice .u8) [b]],z6l hG (fun _ _ _=>by simp [frzObH,SObj.frzOb]),?_⟩
   rw [hac]
   simp [cdC]
 · rintro D _ ⟨G,hG,rfl⟩
   unfold cdC
   letI:Ghost:=topG noFG [D]
   obtain ⟨x,hx⟩:∃x,x=unxS (wordsS key) c.length (cblk c (nblk c.length)):=⟨_,rfl⟩
   have hx16:∀b∈x,b.length=16:=by
    by_cases h:c.length=16
    · rw [hx,show unxS (wordsS key) c.length (cblk c (nblk c.length))=cblk c (nblk c.length) from if_pos (by omega)]
      exact hbx
    rw [hx];exact (z2L (wordsS key) c (by omega)).2.1
   have hxl:x.length=nblk c.length:=by
    rw [hx]
    unfold unxS
    split
    · exact hbl
    rw [List.length_set,List.length_set];exact hbl
   rw [←hx] at hpr hex
   generalize cblk c (nblk c.length)=a at*
   refine uQ 600 _ ?_
   with_reducible refine sxaE ?_
   rw [←hbl]
   refine q0h [2,0,1,G.length+3] hex rfl (by simp) ?_ rfl rfl ?_
   · simp (maxSteps:=3000000) only [atH,sig,SObj.ren,SV.ren,SV.renL,SObj.live,List.append_assoc,getA,getA0,setA,setA0,List.length_append,Nat.add_assoc,go_sem,↓zA,↓reduceIte,↓reduceDIte] <;>try simp only [zB]
   simp only [afterO,Out.ren,SV.ren,mgA,sig,SObj.ren,SV.renL,List.set,List.map,List.append_nil]
   refine uQ 3 _ ?_
   with_reducible refine sxaE ?_
   refine q1B (G.length+3) (ty:=.slice .u8) (xs:=x) rfl (by simp) (by omega) ?_ ?_ ?_
   · with_reducible refine sxaE ?_
     exact ⟨by omega,q1i (hG _ _ _) ⟨trivial,trivial⟩⟩
   · with_reducible refine sxaE ?_;trivial
   have htk:List.take a.length x=x:=List.take_of_length_le (by omega)
   simp (maxSteps:=3000000) only [htk,List.append_assoc,getA,getA0,setA,setA0,List.length_append,Nat.add_assoc,go_sem,↓zA,↓reduceIte,↓reduceDIte] <;>try simp only [zB]
   refine j2s [_,_,_] (by rfl) (by simp [SV.belL,SV.bel]) (by simp [belH,SObj.bel,SV.belL,SV.bel]) (by rfl) ?_
   refine uQ 600 _ ?_
   with_reducible refine sxE ?_
   clear hex hit hst hcu hck
   obtain ⟨W,hW⟩:∃W,W=wordsS key:=⟨_,rfl⟩
   rw [←hW] at hpr hap
   refine q8d 14 .u8 (fun i=>(dpl W iv x i).2) (fun i=>[(15,.isl .u8 (dpl W iv x i).1),(46,rI i)]) x.length (fun _=>True) rfl (by simp) rfl rfl (fun i=>rfl) ?_ fun i hi' _=> ?_
   · with_reducible refine sxE ?_
     rfl
   have hdl:=z5J W iv x hi hx16 i hi'
   have hwr:=wsx i (by omega)
   by_cases hlt:i<x.length
   · have hd1:dpl W iv x (i+1)=(x.getD i [],(dpl W iv x i).2++xorS (decS W (x.getD i [])) (dpl W iv x i).1):=rfl
     have hbi:(x.getD i []).length=16:=hx16 _ (by rw [List.getD_eq_getElem?_getD,List.getElem?_eq_getElem hlt];exact List.getElem_mem _)
     have g1:((i:Int) < ((x.length:Nat):Int))=True:=eq_true (by omega)
     have e5:(Ty.slice .u8).dflt=([]:List UInt8):=rfl
     have hapb:=hap _ hbi
     have hcob:=q6Y (decS W (x.getD i [])) (dpl W iv x i).1 (q4r _ _) hdl.1
     have hxo:=q1S (decS W (x.getD i [])) (dpl W iv x i).1
     generalize hgd:x.getD i []=b at*
     generalize xorS (decS W b) (dpl W iv x i).1=y at*
     generalize hdi:dpl W iv x i=d at*
     obtain ⟨pv,acc⟩:=d
     dsimp only at*
     refine uQ 600 _ ?_
     simp (maxSteps:=3000000) only [g1,e5,hgd,go_sem,↓zA,↓reduceIte,↓reduceDIte] <;>try simp only [zB]
     refine ⟨⟨by omega,hlt⟩,?_⟩
     refine q0a hapb ?_
     refine uQ 600 _ ?_
     with_reducible refine sxE ?_
     refine q0a hcob ?_
     refine uQ 600 _ ?_
     simp (maxSteps:=3000000) only [hdl.2,hxo,go_sem,↓zA,↓reduceIte,↓reduceDIte] <;>try simp only [zB]
     refine ⟨⟨by omega,by omega⟩,q4o [.dead] [] hlt trivial (by rw [hd1];rfl) ?_⟩
     simp (maxSteps:=3000000) only [hwr,hd1,List.length_append,hdl.2,hxo,go_sem,↓zA,↓reduceIte,↓reduceDIte] <;>try simp only [zB]
   obtain rfl:i=x.length:=by omega
   have g1:(((x.length:Nat):Int) < ((x.length:Nat):Int))=False:=eq_false (by omega)
   refine uQ 11 _ ?_
   simp (maxSteps:=3000000) only [g1,go_sem,↓zA,↓reduceIte,↓reduceDIte] <;>try simp only [zB]
   rw [←hxl] at hpr hn
   generalize hac:dpl W iv x x.length=d at*
   obtain ⟨pv,acc⟩:=d
   dsimp only at*
   refine q1B 3 (ty:=.u8) (xs:=acc) rfl rfl (by omega) ?_ ?_ ?_
   · with_reducible refine sxE ?_;trivial
   · with_reducible refine sxE ?_
     first|done|exact Nat.le_refl _|exact ⟨Nat.le_refl _,Nat.le_refl _⟩
   have htk:List.take acc.length acc=acc:=List.take_length
   with_reducible refine sxE ?_
   refine uQ 600 _ ?_
   simp (maxSteps:=3000000) only [htk,hpr,go_sem,↓zA,↓reduceIte,↓reduceDIte] <;>try simp only [zB]
   have hal:acc.length=16*x.length:=hdl.2
   refine ⟨⟨by omega,by omega⟩,q0a (q1U (ctsD key iv c) (by omega)) ?_⟩
   refine uQ 600 _ ?_
   with_reducible refine sxE ?_;trivial
 rintro D i ex _ hi' h
 exact h.elim
theorem or8 (a b:UInt8):orK .u8 (a.toNat:Int) (b.toNat:Int)=((a|||b).toNat:Int):=by
 unfold orK
 have ha:=a.toNat_lt
 have hb:=b.toNat_lt
 have hx:a.toNat|||b.toNat<2^ 8:=Nat.or_lt_two_pow ha hb
 have e:(BitVec.ofInt IntKind.u8.bits (a.toNat:Int) |||BitVec.ofInt IntKind.u8.bits (b.toNat:Int)).toNat=a.toNat|||b.toNat:=by
  rw [BitVec.toNat_or,BitVec.ofInt_natCast,BitVec.ofInt_natCast,BitVec.toNat_ofNat,BitVec.toNat_ofNat]
  rw [show 2^ IntKind.u8.bits=256 from rfl,Nat.mod_eq_of_lt ha,Nat.mod_eq_of_lt hb]
 rw [e,u8wrapR,UInt8.toNat_or]
 omega
def dfS (a b:List UInt8):Nat→UInt8
 |0=>0
 |i+1=>dfS a b i||| (a.getD i 0^^^ b.getD i 0)
theorem z9M {a b:UInt8}:a|||b=0 ↔ a=0∧b=0:=by
 constructor
 · intro h
   have h1:(a|||b).toNat=0:=by rw [h];rfl
   rw [UInt8.toNat_or] at h1
   have ha:= @Nat.left_le_or a.toNat b.toNat
   have hb:= @Nat.right_le_or a.toNat b.toNat
   exact ⟨UInt8.toNat_inj.1 (by show a.toNat=0;omega),UInt8.toNat_inj.1 (by show b.toNat=0;omega)⟩
 rintro ⟨rfl,rfl⟩;rfl
theorem z5M {a b:UInt8}:a^^^ b=0 ↔ a=b:=UInt8.xor_eq_zero_iff
theorem z2i (a b:List UInt8):∀i,dfS a b i=0 ↔ ∀j,j<i→a.getD j 0=b.getD j 0
 |0=>by simp [dfS]
 |i+1=>by
  rw [dfS,z9M,z2i a b i,z5M]
  constructor
  · rintro ⟨h1,h2⟩ j hj
    by_cases e:j=i
    · subst e;exact h2
    exact h1 j (by omega)
  intro h
  exact ⟨fun j hj=>h j (by omega),h i (by omega)⟩
theorem j3t {a b:List UInt8} (h:a.length=b.length):dfS a b a.length=0 ↔ a=b:=by
 rw [z2i]
 constructor
 · intro h1
   apply List.ext_getElem h
   intro j h2 h3
   have:=h1 j h2
   rw [List.getD_eq_getElem?_getD,List.getD_eq_getElem?_getD,List.getElem?_eq_getElem h2,List.getElem?_eq_getElem h3] at this
   exact this
 rintro rfl j _;rfl
theorem j0N (a b:List UInt8) (ha:a.length≤1099511627776) (hb:b.length≤1099511627776):PC Tryz.prog 99 [.isl .u8 a,.isl .u8 b] (rB (decide (a=b))):=by
 refine q0q rfl rfl ?_
 by_cases hl:a.length=b.length
 · have hl':((a.length:Int)=(b.length:Int))=True:=eq_true (by omega)
   refine q0G fi99 (q0s mixed 600 _ ?_)
   simp (maxSteps:=3000000) only [ir99,hl',go_sem,↓zA,↓reduceIte,↓reduceDIte] <;>try simp only [zB]
   refine q0i (ι:=Nat) (fun i=>[(14,rI i),(5,.raw (.int .u8 (dfS a b i).toNat))]) (fun i=>[]) (fun i=>a.length-i) (fun i=>i≤a.length) 0 (Nat.zero_le _) rfl ?_ ?_
   · with_reducible refine sxE ?_
     rfl
   intro i hi
   have hwr:=wsx i (by omega)
   by_cases h:i<a.length
   · have hx:=xor8 (a.getD i 0) (b.getD i 0)
     have ho:=or8 (dfS a b i) (a.getD i 0^^^ b.getD i 0)
     refine uQ 600 _ ?_
     simp (maxSteps:=3000000) only [hx,ho,Nat.zero_add,Ty.dflt,go_sem,↓zA,↓reduceIte,↓reduceDIte] <;>try simp only [zB]
     refine ⟨fun _=>⟨⟨by omega,by omega⟩,⟨by omega,by omega⟩,i+1,h,by dsimp only;omega,rfl,?_⟩,fun hh=>absurd h hh⟩
     with_reducible refine sx1 hwr ?_
     rfl
   obtain rfl:i=a.length:=by omega
   refine gQ ?_
   refine ⟨fun hh=>absurd hh (by omega),fun _=> ?_⟩
   rw [decide_eq_decide,←j3t hl,←UInt8.toNat_inj]
   exact Int.natCast_eq_zero
 have hl':((a.length:Int)=(b.length:Int))=False:=eq_false (by omega)
 refine q0G fi99 (q0s mixed 600 _ ?_)
 simp (maxSteps:=3000000) only [ir99,hl',go_sem,↓zA,↓reduceIte,↓reduceDIte] <;>try simp only [zB]
 exact (decide_eq_false (fun e=>hl (by rw [e]))).symm
theorem z7P (a b:List UInt8) (ha:a.length≤1099511627776) (hb:b.length≤1099511627776):PC Tryz.prog 68 [.isl .u8 a,.isl .u8 b] (rB (decide (a=b))):=by
 refine q0q rfl rfl ?_
 refine rQ fi68 ?_
 refine q0a (j0N a b ha hb) ?_
 refine gQ ?_;trivial
def opS2 (k:Key) (u:Nat) (sp sv:Int) (sb:List UInt8):List UInt8×Int:=
 if uOk k u=true then
  if sp=k.1∧(sv=k.2.1∨sv=0∨k.2.1=0) then
   if sb.length<48 then ([],4)
   else if 65584<sb.length then ([],5)
   else if hmS (dkS k u 85) (sb.take (sb.length-32))=sb.drop (sb.length-32) then (ksS (dkS k u 170) ((sb.take (sb.length-32)).take 16) ((sb.take (sb.length-32)).drop 16),0)
   else ([],10)
  else ([],9)
 else ([],2)
theorem z1k (k:Key) (u:Nat) (conf plain:List UInt8) (hc:conf.length=16):(ciS k u conf plain).length=16+plain.length:=by
 unfold ciS
 split
 · rw [z1P _ _ _ rfl (by rw [List.length_append];omega),List.length_append,hc]
 rw [List.length_append,q3H,hc]
theorem z3g (k:Key) (u:Nat) (c:List UInt8):(tg9S k u c).length=if k.1=1 then 16 else 32:=by
 unfold tg9S
 split
 · rw [List.length_take,q2Q];rfl
 rw [q2Q]
def slO (k:Key) (u:Nat) (conf plain:List UInt8):SV:=if uOk k u=true∧conf.length=16∧plain.length≤65536 then .tup [.agg [rI k.1,rI k.2.1,.isl .u8 (seS k u conf plain)],rI 0] else .tup [.agg [rI 0,rI 0,.isl .u8 []],rI 2]
def icTail:Nat→IC→IC
 |0,c=>c
 |n+1,.seq _ b=>icTail n b
 |_,c=>c
attribute [go_sem] icTail
theorem q9g (key cipher:List UInt8) (hk:key.length≤64) (hc:cipher.length≤1048576):PC Tryz.prog 116 [.isl .u8 key,.isl .u8 cipher] (.isl .u8 (hmS key (z16++cipher))):=by
 have hj:=q8s key [z16,cipher] hk (by simp [j1z];omega) (by simp)
 rw [show [z16,cipher].flatten=z16++cipher by simp] at hj
 refine q0q rfl rfl ?_
 refine q0G fi116 ?_
 refine uQ 8 _ ?_
 with_reducible refine sxE ?_
 refine q1B 0 (ty:=.u8) (xs:=z16) rfl rfl (by decide) ?_ ?_ ?_
 · with_reducible refine sxE ?_;trivial
 · with_reducible refine sxE ?_
   exact Nat.le_refl _
 with_reducible refine sxE ?_
 change SoundI _ _ ⟨_,_,[_,_,_,_,_,_,.isl .u8 z16,_,_,_],_⟩
 refine uQ 600 _ ?_
 with_reducible refine sxE ?_
 refine q0p 1 ?_
 with_reducible refine sxE ?_
 refine q0a hj ?_
 refine gQ ?_;trivial
theorem z4D (key conf plain:List UInt8) (hk:key.length=16) (hc:conf.length=16) (hp:plain.length≤65536):PC Tryz.prog 114 [.isl .u8 key,.isl .u8 conf,.isl .u8 plain] (.isl .u8 (ctsE key z16 (conf++plain))):=by
 have hj:=z2M [conf,plain] (by simp;omega) (by simp)
 rw [show [conf,plain].flatten=conf++plain by simp] at hj
 have hen:=j1P key z16 (conf++plain) hk rfl (by simp;omega) (by simp;omega)
 refine q0q rfl rfl ?_
 refine rQ fi114 ?_
 refine q0Q hj ?_
 refine gQ ?_
 refine q0D 0 (by decide) ?_
 with_reducible refine sxE ?_
 change CallR _ _ _ _ [_,.isl .u8 z16,_] _ _
 refine q0f hen ?_
 refine gQ ?_;trivial
theorem z6v (key cipher:List UInt8) (hk:key.length=16) (h1:16≤cipher.length) (hc:cipher.length≤131072):PC Tryz.prog 115 [.isl .u8 key,.isl .u8 cipher] (.isl .u8 ((ctsD key z16 cipher).drop 16)):=by
 have hde:=j2g key z16 cipher hk rfl h1 hc
 have hel:=q8D key z16 cipher rfl h1
 refine q0q rfl rfl ?_
 refine rQ fi115 ?_
 refine q0p 0 ?_
 with_reducible refine sxE ?_
 change CallI _ _ _ [_,.isl .u8 z16,_] _ _
 refine q0a hde ?_
 have htk:List.take cipher.length (ctsD key z16 cipher)=ctsD key z16 cipher:=List.take_of_length_le (by omega)
 refine uQ 16 _ ?_
 simp (maxSteps:=3000000) only [hel,htk,go_sem,↓zA,↓reduceIte,↓reduceDIte] <;>try simp only [zB]
 refine ⟨⟨by omega,Nat.le_refl _⟩,z0l 4 rfl rfl ?_⟩
 refine uQ 600 _ ?_
 with_reducible refine sxE ?_;trivial
end Go.Proofs.YtikapabgggphpaaGreatDoor
