/- Profiles: contracts: strings joined, keyed, streamed. -/
import Derived.Test.YtikapabgggphpaaGreatDoorP23
import Derived.Test.YtikapabgggphpaaGreatDoorP17
import Derived.Test.YtikapabgggphpaaGreatDoorP19
import Derived.Test.YtikapabgggphpaaGreatDoorP12
set_option linter.all false
namespace Go.Proofs.YtikapabgggphpaaGreatDoor
open Go Go.Sx Go.Proofs
set_option maxRecDepth 100000
set_option maxHeartbeats 40000000
theorem z9Y (n:Nat):PC Tryz.prog 84 [rI n] (.isl .u8 (four n)):=by
 refine q0t rfl rfl ?_
 refine rQ fi84 ?_
 refine ⟨⟨q2l _,q2l _,q2l _,q2l _⟩,?_⟩
 rw [byteN _ 24 (by decide),byteN _ 16 (by decide),byteN _ 8 (by decide),byteN0]
 rfl
theorem j3x (ls:List (List UInt8)) (hl:ls.flatten.length≤1099511627776) (hn:ls.length≤1099511627776):PE Tryz.prog 44 [.isl (.slice .u8) ls] [] (.ret (.bld 0 .u8 ls.flatten.length)) [.row .u8 ls.flatten]:=by
 refine j3z ?_
 refine rQ fi44 ?_
 refine q8d 3 .u8 (fun i=>(ls.take i).flatten) (fun i=>[(8,rI i)]) ls.length (fun _=>True) rfl (by simp) (by simp) rfl (fun i=>rfl) ?_ fun i hi _=> ?_
 · with_reducible refine sxE ?_;trivial
 have hwr:=wsx i (by omega)
 have hfl:=q1b ls i
 by_cases h:i<ls.length
 · have hf1:=q2Z h
   have hfl1:=q1b ls (i+1)
   rw [hf1,List.length_append] at hfl1
   have hfl2:(ls.take i).flatten.length+ (ls.getD i (Ty.dflt (.slice .u8))).length≤ls.flatten.length:=hfl1
   refine gQ ?_
   refine ⟨fun _=>⟨⟨by omega,h⟩,⟨by omega,by omega⟩,q4o [.dead] [] h trivial (by rw [hf1];rfl) ?_⟩,fun hh=>absurd h hh⟩
   with_reducible refine sx3 hwr hf1 ?_
   rfl
 obtain rfl:i=ls.length:=by omega
 rw [List.take_length] at*
 refine gQ ?_
 refine ⟨fun hh=>absurd hh (by omega),fun _=> ?_⟩
 exact j3u (h:=0) rfl rfl
theorem z2M (ls:List (List UInt8)) (hl:ls.flatten.length≤1099511627776) (hn:ls.length≤1099511627776):PC Tryz.prog 44 [.isl (.slice .u8) ls] (.isl .u8 ls.flatten):=by
 refine q0t rfl rfl ?_
 refine rQ fi44 ?_
 refine q8d 3 .u8 (fun i=>(ls.take i).flatten) (fun i=>[(8,rI i)]) ls.length (fun _=>True) rfl (by simp) (by simp) rfl (fun i=>rfl) ?_ fun i hi _=> ?_
 · with_reducible refine sxE ?_;trivial
 have hwr:=wsx i (by omega)
 have hfl:=q1b ls i
 by_cases h:i<ls.length
 · have hf1:=q2Z h
   have hfl1:=q1b ls (i+1)
   rw [hf1,List.length_append] at hfl1
   have hfl2:(ls.take i).flatten.length+ (ls.getD i (Ty.dflt (.slice .u8))).length≤ls.flatten.length:=hfl1
   refine gQ ?_
   refine ⟨fun _=>⟨⟨by omega,h⟩,⟨by omega,by omega⟩,q4o [.dead] [] h trivial (by rw [hf1];rfl) ?_⟩,fun hh=>absurd h hh⟩
   with_reducible refine sx3 hwr hf1 ?_
   rfl
 obtain rfl:i=ls.length:=by omega
 rw [List.take_length] at*
 refine gQ ?_
 refine ⟨fun hh=>absurd hh (by omega),fun _=> ?_⟩
 exact ⟨⟨by omega,by omega⟩,List.take_length⟩
theorem q8s (k:List UInt8) (ps:List (List UInt8)) (hk:k.length≤64) (hp:ps.flatten.length≤1099511627776) (hpl:ps.length≤1099511627776):PC Tryz.prog 139 [.isl .u8 k,.isl (.slice .u8) ps] (.isl .u8 (hmS k ps.flatten)):=by
 have hsl:=q2Q k ps.flatten
 refine q0t rfl rfl ?_
 refine rQ fi139 ?_
 refine q0a (j0e k ps hk hp hpl) ?_
 refine uQ 600 _ ?_
 with_reducible refine sx1 hsl ?_
 exact ⟨⟨by decide,by decide⟩,List.take_of_length_le (by omega)⟩
def dkS (k:KeyT.den) (u use:Nat):List UInt8:=kdfS k.2.2 (four u++ [UInt8.ofNat use]) [] k.2.2.length
theorem q8e (k:KeyT.den) (u use:Nat):(dkS k u use).length=k.2.2.length:=z1Y _ _ _ _
theorem q9j (k:KeyT.den) (u:Nat) (hk:k.2.2.length≤64):PC Tryz.prog 43 [.agg (KeyT.cells k),rI u] (.fn 82 [] [.iptr KeyT k 0,.iptr (.int .i64) (u:Int) 0]):=by
 refine q0q rfl rfl ?_
 refine q0G fi43 ?_
 refine uQ 4 _ ?_
 with_reducible refine sxE ?_
 refine q2f 2 0 (ty:=KeyT) (x:=k) rfl ⟨trivial,trivial,⟨by omega,fun _ _=>trivial⟩⟩ rfl rfl ?_
 refine q2f 3 1 (ty:=.int .i64) (x:=(u:Int)) rfl trivial rfl rfl ?_
 refine gQ ?_;trivial
theorem q4m (k:KeyT.den) (u use:Nat) (hk:k.2.2.length≤64) (h1:1≤k.2.2.length) (hu:use<256):PC Tryz.prog 82 [.raw (.int .u8 use),.iptr KeyT k 0,.iptr (.int .i64) (u:Int) 0] (.isl .u8 (dkS k u use)):=by
 obtain ⟨p,v,b⟩:=k
 have hbl:b.length≤64:=hk
 have hb1:1≤b.length:=h1
 refine q0q rfl rfl ?_
 refine rQ fi82 ?_
 refine q0Q (z9Y u) ?_
 refine gQ ?_
 have hj:=z2M [four u,[UInt8.ofNat use]] (by simp [four]) (by simp)
 rw [show [four u,[UInt8.ofNat use]].flatten=four u++ [UInt8.ofNat use] by simp] at hj
 refine ⟨by rw [UInt8.toNat_ofNat'];omega,?_⟩
 refine q0D 0 (by decide) ?_
 with_reducible refine sxE ?_
 refine q0f hj ?_
 refine uQ 600 _ ?_
 with_reducible refine sxE ?_
 refine q0f ((j4u b (four u++ [UInt8.ofNat use]) [] b.length hbl (by simp [four]) (by simp) hb1 (by omega)).arg ?_) ?_
 · with_reducible refine sxE ?_;trivial
 refine uQ 600 _ ?_
 with_reducible refine sxE ?_
 rfl
def ksB (key conf text:List UInt8) (i:Nat):UInt8:=text.getD i 0^^^ (hmS key (conf++four (i / 32+1))).getD (i%32) 0
def ksP (key conf text:List UInt8) (n:Nat):List UInt8:=(List.range text.length).map fun i=>if i<n then ksB key conf text i else text.getD i 0
def ksS (key conf text:List UInt8):List UInt8:=(List.range text.length).map (ksB key conf text)
theorem z5R (key conf text:List UInt8) (n:Nat):(ksP key conf text n).length=text.length:=by simp [ksP]
theorem q3H (key conf text:List UInt8):(ksS key conf text).length=text.length:=by simp [ksS]
theorem z7Z (key conf text:List UInt8):ksP key conf text 0=text:=by
 apply List.ext_getElem
 · simp [ksP]
 intro j h1 h2
 simp [ksP,List.getD_eq_getElem?_getD,h2]
theorem z1C (key conf text:List UInt8) {n:Nat} (h:text.length≤n):ksP key conf text n=ksS key conf text:=by
 apply List.ext_getElem
 · simp [ksP,ksS]
 intro j h1 h2
 simp [ksP] at h1
 simp only [ksP,ksS,List.getElem_map,List.getElem_range]
 rw [if_pos (by omega)]
theorem j2l (key conf text:List UInt8) {i:Nat} (hi:i<text.length):(ksP key conf text i).getD i 0=text.getD i 0:=by
 simp [ksP,List.getD_eq_getElem?_getD,hi]
theorem j0z (key conf text:List UInt8) {i:Nat} (hi:i<text.length):(ksP key conf text i).set i (ksB key conf text i)=ksP key conf text (i+1):=by
 apply List.ext_getElem
 · simp [ksP]
 intro j h1 h2
 rw [List.getElem_set]
 simp only [ksP,List.getElem_map,List.getElem_range]
 split
 · subst_vars;rw [if_pos (by omega)]
 rename_i hne
 by_cases hj:j<i
 · rw [if_pos hj,if_pos (by omega)]
 rw [if_neg hj,if_neg (by omega)]
theorem z5s (key conf text:List UInt8) {i:Nat} (hi:i<text.length):(ksS key conf text).getD i 0=ksB key conf text i:=by
 simp [ksS,List.getD_eq_getElem?_getD,hi]
theorem z7e (key conf text:List UInt8):ksS key conf (ksS key conf text)=text:=by
 apply List.ext_getElem
 · rw [q3H,q3H]
 intro j h1 h2
 have e:(ksS key conf (ksS key conf text))[j]=ksB key conf (ksS key conf text) j:=by
  rw [←z5s key conf (ksS key conf text) (by rw [q3H];exact h2),List.getD_eq_getElem?_getD,List.getElem?_eq_getElem h1];rfl
 rw [e]
 unfold ksB
 rw [z5s key conf text h2]
 unfold ksB
 rw [UInt8.xor_assoc,UInt8.xor_self,UInt8.xor_zero,List.getD_eq_getElem?_getD,List.getElem?_eq_getElem h2]
 rfl
theorem q7J (key conf text:List UInt8) (hk:key.length≤64) (hc:conf.length≤4096) (ht:text.length≤1048576):PC Tryz.prog 140 [.isl .u8 key,.isl .u8 conf,.isl .u8 text] (.isl .u8 (ksS key conf text)):=by
 have hjo:=j3x [text] (by simp;omega) (by simp)
 rw [List.flatten_singleton] at hjo
 refine q0t rfl rfl ?_
 refine rQ fi140 ?_
 refine q0p 0 ?_
 with_reducible refine sxE ?_
 refine eQ [] (hjo) ?_
 refine q1j (ι:=Nat) (fun a=>[(8,.raw (.int .i64 ((32*a:Nat):Int)))]) (fun a=>[.dead,.row .u8 (ksP key conf text (32*a))]) (fun a=>(text.length+31) / 32-a) (fun a=>a≤(text.length+31) / 32) 0 (Nat.zero_le _) 2 (by rw [z7Z]) (by decide) (fun _=>rfl) (fun _=>rfl) (fun _=>rfl) ?_ ?_
 · with_reducible refine sxE ?_;trivial
 intro a ha
 have hpl:=z5R key conf text (32*a)
 have hw32:IntKind.i64.wrap (((32*a:Nat):Int)+32)=((32* (a+1):Nat):Int):=by rw [wrapi (by omega)];omega
 by_cases hlt:32*a<text.length
 · have hq:((32*a:Nat):Int).tdiv 32=(a:Int):=by rw [Int.tdiv_eq_ediv_of_nonneg (by omega)];omega
   have hqw:IntKind.i64.wrap (a:Int)=(a:Int):=by rw [wrapi (by omega)]
   have hq1:IntKind.i64.wrap ((a:Int)+1)=((a+1:Nat):Int):=q2T (by omega)
   have hlt':(((32*a:Nat):Int) < (text.length:Int))=True:=eq_true (by omega)
   refine uQ 600 _ ?_
   simp (maxSteps:=3000000) only [hlt',hq,hqw,hq1,go_sem,↓zA,↓reduceIte,↓reduceDIte] <;>try simp only [zB]
   have hke:=q8s key [conf,four (a+1)] hk (by simp [four];omega) (by simp)
   rw [show [conf,four (a+1)].flatten=conf++four (a+1) by simp] at hke
   have hkl:=q2Q key (conf++four (a+1))
   refine ⟨by decide,q0a (z9Y (a+1)) ?_⟩
   refine gQ ?_
   refine q0p 2 ?_
   with_reducible refine sxE ?_
   refine q0a hke ?_
   obtain ⟨E,hE⟩:∃E,E=min (32* (a+1)) text.length:=⟨_,rfl⟩
   have hmin:mxV false ((32* (a+1):Nat):Int) (text.length:Int)=(E:Int):=by
    unfold mxV
    simp only [Bool.false_eq_true,if_false]
    split<;>omega
   refine uQ 600 _ ?_
   simp (maxSteps:=3000000) only [hw32,hmin,go_sem,↓zA,↓reduceIte,↓reduceDIte] <;>try simp only [zB]
   refine ⟨⟨by omega,by omega,by omega⟩,?_⟩
   refine q0i (ι:=Nat) (fun j=>[(37,rI j)]) (fun j=>[.dead,.row .u8 (ksP key conf text (32*a+j)),.dead]) (fun j=>(E-32*a) -j) (fun j=>j≤E-32*a) 0 (Nat.zero_le _) rfl ?_ ?_
   · with_reducible refine sxE ?_;trivial
   intro j hj
   have hjl:=z5R key conf text (32*a+j)
   have hjw:IntKind.i64.wrap ((j:Int)+1)=((j+1:Nat):Int):=q2T (by omega)
   have hjs:IntKind.i64.wrap (((32*a:Nat):Int)+ (j:Int))=((32*a+j:Nat):Int):=by rw [wrapi (by omega)];omega
   by_cases hjl2:j<E-32*a
   · have hc1:((j:Int) < ((E-32*a:Nat):Int))=True:=eq_true (by omega)
     have hpg:=j2l key conf text (i:=32*a+j) (by omega)
     have hx8:=xor8 (text.getD (32*a+j) 0) ((hmS key (conf++four (a+1))).getD j 0)
     have hps:=j0z key conf text (i:=32*a+j) (by omega)
     have hkb:ksB key conf text (32*a+j)=text.getD (32*a+j) 0^^^ (hmS key (conf++four (a+1))).getD j 0:=by
      unfold ksB
      rw [show (32*a+j) / 32=a by omega,show (32*a+j)%32=j by omega]
     rw [hkb] at hps
     refine uQ 600 _ ?_
     simp (maxSteps:=3000000) only [hc1,hjs,hjl,hkl,hpg,hx8,Nat.zero_add,Ty.dflt,go_sem,↓zA,↓reduceIte,↓reduceDIte] <;>try simp only [zB]
     refine ⟨⟨by omega,by omega⟩,by omega,⟨by omega,by omega⟩,⟨by omega,by omega⟩,⟨by omega,by rw [UInt8.ofNat_toNat]⟩,j+1,(show j+1≤E-32*a by omega),by dsimp only;omega,?_,?_⟩
     · rw [UInt8.ofNat_toNat,hps];rfl
     with_reducible refine sx1 hjw ?_;trivial
   obtain rfl:j=E-32*a:=by omega
   have hc1:((((E-32*a:Nat):Int)) < ((E-32*a:Nat):Int))=False:=eq_false (by omega)
   refine uQ 600 _ ?_
   simp (maxSteps:=3000000) only [hc1,hw32,go_sem,↓zA,↓reduceIte,↓reduceDIte] <;>try simp only [zB]
   refine ⟨a+1,(show a+1≤(text.length+31) / 32 by omega),by dsimp only;omega,⟨[.dead],?_⟩,?_⟩
   · have e:ksP key conf text (32*a+ (E-32*a))=ksP key conf text (32* (a+1)):=by
      rcases Nat.le_total (32* (a+1)) text.length with h|h
      · rw [show 32*a+ (E-32*a)=32* (a+1) by omega]
      rw [z1C key conf text (by omega),z1C key conf text h]
     rw [e]
     rfl
   with_reducible refine sxE ?_;trivial
 have hlt':(((32*a:Nat):Int) < (text.length:Int))=False:=eq_false (by omega)
 refine uQ 600 _ ?_
 with_reducible refine sx1 hlt' ?_
 rw [z1C key conf text (by omega)]
 have hsl:=q3H key conf text
 exact ⟨⟨by omega,by omega⟩,List.take_of_length_le (by omega)⟩
def uOk (k:Key) (u:Int):Bool:=vKey k&& (decide (1≤u) && decide (u≤1023))
theorem z2p (k:Key) (u:Int) (ho:KeyT.ok k):PC Tryz.prog 42 [.agg (KeyT.cells k),rI u] (.tup [.agg (rawL (if uOk k u=true then kindOf k.1 else kindZ)),rI (if uOk k u=true then 0 else 2)]):=by
 have hf:=j0c k
 obtain ⟨p,v,b⟩:=k
 refine q0q rfl (by simp [SV.clean,SV.cleanL,q3N]) ?_
 change PC _ _ _ (.tup [.agg (rawL (kindOf p)),rB (vKey (p,v,b))]) at hf
 unfold uOk
 show VC _ _ _ _ (PK (.tup [.agg (rawL (if (vKey (p,v,b) && (decide (1≤u) && decide (u≤1023)))=true then kindOf p else kindZ)),_]))
 generalize vKey (p,v,b)=vb at*
 have h3:=q5n p
 generalize kindOf p=kv at*
 rcases h3 with rfl|rfl|rfl
 all_goals
  cases vb
  · refine rQ fi42 ?_
    refine q0a hf ?_
    refine uQ 600 _ ?_
    simp (maxSteps:=3000000) only [kind1,kind2,kindZ,go_sem,↓zA,↓reduceIte,↓reduceDIte] <;>try simp only [zB]
  by_cases h1:1≤u
  · have h1':(u<1)=False:=eq_false (by omega)
    by_cases h2:u≤1023
    · have h2':(1023<u)=False:=eq_false (by omega)
      refine rQ fi42 ?_
      refine q0a hf ?_
      refine uQ 600 _ ?_
      simp (maxSteps:=3000000) only [kind1,kind2,kindZ,h1,h2,h1',h2',go_sem,↓zA,↓reduceIte,↓reduceDIte] <;>try simp only [zB]
    have h2':(1023<u)=True:=eq_true (by omega)
    refine rQ fi42 ?_
    refine q0a hf ?_
    refine uQ 600 _ ?_
    simp (maxSteps:=3000000) only [kind1,kind2,kindZ,h1,h2,h1',h2',go_sem,↓zA,↓reduceIte,↓reduceDIte] <;>try simp only [zB]
  have h1':(u<1)=True:=eq_true (by omega)
  refine rQ fi42 ?_
  refine q0a hf ?_
  refine uQ 600 _ ?_
  simp (maxSteps:=3000000) only [kind1,kind2,kindZ,h1,h1',go_sem,↓zA,↓reduceIte,↓reduceDIte] <;>try simp only [zB]
theorem z7n (key conf plain:List UInt8) (hk:key.length≤64) (hc:conf.length≤4096) (ht:plain.length≤1048576):PC Tryz.prog 117 [.isl .u8 key,.isl .u8 conf,.isl .u8 plain] (.isl .u8 (conf++ksS key conf plain)):=by
 have hsl:=q3H key conf plain
 have hj:=z2M [conf,ksS key conf plain] (by simp;omega) (by simp)
 rw [show [conf,ksS key conf plain].flatten=conf++ksS key conf plain by simp] at hj
 refine q0q rfl rfl ?_
 refine rQ fi117 ?_
 refine q0a (q7J key conf plain hk hc ht) ?_
 refine gQ ?_
 refine q0p 0 ?_
 with_reducible refine sxE ?_
 refine q0a hj ?_
 refine gQ ?_;trivial
theorem z0e (key cipher:List UInt8) (hk:key.length≤64) (hc:cipher.length≤1048576):PC Tryz.prog 119 [.isl .u8 key,.isl .u8 cipher] (.isl .u8 (hmS key cipher)):=by
 have hj:=q8s key [cipher] hk (by simp;omega) (by simp)
 rw [List.flatten_singleton] at hj
 refine q0q rfl rfl ?_
 refine rQ fi119 ?_
 refine q0p 0 ?_
 with_reducible refine sxE ?_
 refine q0a hj ?_
 refine gQ ?_;trivial
theorem z5X (key cipher:List UInt8) (hk:key.length≤64) (h1:16≤cipher.length) (hc:cipher.length≤1048576):PC Tryz.prog 118 [.isl .u8 key,.isl .u8 cipher] (.isl .u8 (ksS key (cipher.take 16) (cipher.drop 16))):=by
 refine q0q rfl rfl ?_
 refine rQ fi118 ?_
 rw [List.take_length]
 refine ⟨by omega,⟨by omega,by omega⟩,q0f (q7J key (cipher.take 16) (cipher.drop 16) hk (by rw [List.length_take];omega) (by rw [List.length_drop];omega)) ?_⟩
 refine gQ ?_;trivial
def ciS2 (k:Key) (u:Nat) (conf plain:List UInt8):List UInt8:=conf++ksS (dkS k u 170) conf plain
def seS2 (k:Key) (u:Nat) (conf plain:List UInt8):List UInt8:=ciS2 k u conf plain++hmS (dkS k u 85) (ciS2 k u conf plain)
def z16:List UInt8:=List.replicate 16 0
def tg9S (k:Key) (u:Nat) (c:List UInt8):List UInt8:=if k.1=1 then (hmS (dkS k u 85) (z16++c)).take 16 else hmS (dkS k u 85) c
theorem z5a {t:Ty} {x:t.den}:rdPtr t [.iptr t x 0]=some (some x,True):=by simp [rdPtr]
theorem q1i {h:Nat} {t:Ty} {xs:List t.den} {L:List SObj}:∀ {G:List SObj},frzObH h t xs G→frzObH h t xs L→frzObH h t xs (G++L)
 | [],_,h2=>h2
 |_ :: _,h1,h2=>⟨h1.1,q1i h1.2 h2⟩
theorem q2g {f g:Nat→UInt8} (h:∀j,j<16→f j=g j):fS f=fS g:=by
 unfold fS
 exact List.map_congr_left fun j hj=>h j (List.mem_range.1 hj)
theorem j4x:∀j:Fin 16,shI j.val=4* ((j.val / 4+j.val%4)%4)+j.val%4∧shI j.val<16:=by decide
theorem shf_eq' (fw:List UInt8) (hf:∀c:UInt8,fw.getD c.toNat 0=subS c) (x:List UInt8):(fS fun j=>(fS fun j=>fw.getD (x.getD j 0).toNat 0).getD (shI j) 0)=shfS x:=by
 unfold shfS
 refine q2g fun j hj=> ?_
 have h:=j4x ⟨j,hj⟩
 dsimp only at h
 exact (q5V (fun j=>fw.getD (x.getD j 0).toNat 0) h.2).trans ((hf _).trans (by rw [h.1]))
theorem j3U (x:List UInt8):(fS fun j=>(fS fun j=>fwS.getD (x.getD j 0).toNat 0).getD (shI j) 0)=shfS x:=shf_eq' fwS z6Y x
theorem z8F (w:List UInt8) (i j:Nat) (hj:j<16):(List.take 16 (List.drop (i*16) w)).getD (16*0+j) 0=w.getD (16*i+j) 0:=by
 simp only [List.getD_eq_getElem?_getD]
 rw [List.getElem?_take_of_lt (by omega),List.getElem?_drop,show i*16+ (16*0+j)=16*i+j by omega]
theorem q4U {key:List UInt8} (x:List UInt8) (i:Nat):addS x (rkK key i) 0=addS x (wordsS key) i:=by
 unfold addS rkK
 refine q2g fun j hj=> ?_
 rw [z8F (wordsS key) i j hj]
def encH (cp:CipT.den) (b k:List UInt8) (G:List SObj):List SObj:=.row PasT [(some cp,(b,k))] :: .cells 207 [.rptr 0 PasT 0 0] :: .cells 1 [opF 186,opF 187,opF 188,opF 172] :: .cells 212 [.csl 2 .u8 0 0 4] :: G
def prS (w b:List UInt8):Nat→List UInt8
 |0=>b
 |n+1=>encA w b n
def pkS (key:List UInt8):Nat→List UInt8
 |0=>z16
 |n+1=>rkK key n
theorem q7S {key:List UInt8} (hk:key.length=16) {i:Nat} (hi:i<11):(rkK key i).length=16:=by
 have:=q3p key hk
 unfold rkK
 rw [List.length_take,List.length_drop];omega
theorem encOps (cp:CipT.den) (key:List UInt8) (hk:key.length=16) (hcp:cp=cipS key) {i:Nat} (hi:i<11) {rk x:List UInt8} (hrk:rk=rkK key i) (hpl:x.length=16):
 ∃s1 s2 s3 a0 a10 a4:List UInt8,OpE 186 (some cp,(x,rk)) (some cp,(s1,rk))∧OpE 187 (some cp,(s1,rk)) (some cp,(s2,rk))∧OpE 188 (some cp,(s2,rk)) (some cp,(s3,rk))∧
  OpE 172 (some cp,(x,rk)) (some cp,(a0,rk))∧OpE 172 (some cp,(s2,rk)) (some cp,(a10,rk))∧OpE 172 (some cp,(s3,rk)) (some cp,(a4,rk))∧
  a0=addS x (wordsS key) i∧(i=10→a10=rndE (wordsS key) i x)∧(i<10→a4=rndE (wordsS key) i x):=by
 have hrl:rk.length=16:=by rw [hrk];exact q7S hk hi
 have hc11:(cp.1.1:List UInt8)=fwS:=by rw [hcp];rfl
 have hsu:=q8p cp x rk hpl
 have hsh:=z7A (some cp) (fS fun j=>(cp.1.1:List UInt8).getD (x.getD j 0).toNat 0) rk (q1F _)
 have he:(fS fun j=>(fS fun j=>(cp.1.1:List UInt8).getD (x.getD j 0).toNat 0).getD (shI j) 0)=shfS x:=by rw [hc11];exact j3U x
 rw [he] at hsh
 refine ⟨_,_,_,_,_,_,hsu,hsh,j4o (some cp) (shfS x) rk (q1F _),z1Z (some cp) x rk hpl hrl,z1Z (some cp) (shfS x) rk (q1F _) hrl,z1Z (some cp) (mixS (shfS x) [2,3,1,1]) rk (q1F _) hrl,?_,?_,?_⟩
 · rw [hrk,q4U]
 · intro h
   unfold rndE
   rw [hrk,q4U,if_neg (by omega)]
 intro h
 unfold rndE
 rw [hrk,q4U,if_pos h]
def encHs (cp:CipT.den) (key b:List UInt8) (i:Nat) (H':List SObj):Prop:=∃G,(∀xs,frzObH 0 PasT xs G)∧H'=encH cp (prS (wordsS key) b i) (pkS key i) G
theorem z3N (key b:List UInt8) (hk:key.length=16) (hb:b.length=16):PC Tryz.prog 168 [.iptr CipT (cipS key) 0,.isl .u8 b] (.tup [.isl .u8 (encS (wordsS key) b),rI 0]):=by
 refine q0q rfl rfl (q3J (q1v noFG fi168 ?_))
 letI:Ghost:=topG noFG []
 have hch:=q9m key b hb
 have hrk:=q5m key false hk
 have hit:=q5o key false hk
 unfold rkF at hrk
 obtain ⟨cp,hcp⟩:∃cp,cp=cipS key:=⟨_,rfl⟩
 rw [←hcp] at hch hrk hit⊢
 have htb:List.take 16 b=b:=List.take_of_length_le (by omega)
 refine uQ 600 _ ?_
 with_reducible refine sxE ?_
 refine q0a hch ?_
 refine uQ 600 _ ?_
 simp (maxSteps:=3000000) only [hb,htb,z5a,go_sem,↓zA,↓reduceIte,↓reduceDIte] <;>try simp only [zB]
 refine q0a hrk ?_
 refine uQ 600 _ ?_
 with_reducible refine sxE ?_
 refine z3m (encHs cp key b) (fun _ _ _=>False) rfl rfl rfl hit (fun i n args' new h=>by rw [h.1];rfl) ⟨[],fun _=>trivial,rfl⟩ rfl ?_ ?_ ?_
 · rintro i _ args' new hi ⟨G,hG,rfl⟩ ⟨rfl,rfl⟩ L1 L2
   letI:Ghost:=pinG noFG L1
   rw [List.append_nil]
   unfold encH
   have hri:rkI false i=i:=rfl
   have hrl:(rkK key i).length=16:=q7S hk hi
   rw [hri]
   obtain ⟨rk,hrk⟩:∃rk,rk=rkK key i:=⟨_,rfl⟩
   rw [←hrk] at hrl⊢
   refine uQ 600 _ ?_
   simp only [putL,List.toList_toArray]
   simp (maxSteps:=3000000) only [hrl,List.append_assoc,getA,getA0,setA,setA0,List.length_append,Nat.add_assoc,go_sem,↓zA,↓reduceIte,↓reduceDIte] <;>try simp only [zB]
   letI:Ghost:=pinG noFG L2
   have htr:List.take 16 rk=rk:=List.take_of_length_le (by omega)
   have hpl:(prS (wordsS key) b i).length=16:=by cases i with
    |zero=>exact hb
    |succ n=>exact q5A _ _ _
   obtain ⟨s1,s2,s3,a0,a10,a4,hsu,hsh,hmi,had0,had10,had4,h0,h10,h4⟩:=encOps cp key hk hcp hi hrk hpl
   have e0:i=0→prS (wordsS key) b (i+1)=a0:=by
    rintro rfl;rw [h0];rfl
   have e10:i=10→prS (wordsS key) b (i+1)=a10:=by
    rintro rfl;rw [h10 rfl];rfl
   have e4:0<i→i<10→prS (wordsS key) b (i+1)=a4:=by
    intro h h';obtain ⟨j,rfl⟩:∃j,i=j+1:=⟨i-1,by omega⟩
    rw [h4 h'];rfl
   have ek:pkS key (i+1)=rk:=by rw [hrk];rfl
   have eH:∀ {G':List SObj} {y:List UInt8},(∀xs,frzObH 0 PasT xs G')→prS (wordsS key) b (i+1)=y→encHs cp key b (i+1) (encH cp y rk G'):=by
    intro G' y hg hy
    exact ⟨G',hg,by rw [hy,ek]⟩
   clear h0 h10 h4 hcp hch hrk
   generalize prS (wordsS key) b i=x at*
   generalize pkS key i=rk0 at*
   have hk2:(((i:Nat):Int)=0)=(i=0):=by simp
   rcases Nat.eq_zero_or_pos i with h|h
   · have f1:(((i:Nat):Int)=0)=True:=eq_true (by omega)
     have e:=e0 h
     clear e0 e10 e4 hsu hsh hmi had4 had10
     refine uQ 600 _ ?_
     simp (maxSteps:=3000000) only [f1,hrl,htr,Nat.le_refl,true_and,List.append_assoc,getA,getA0,setA,setA0,List.length_append,Nat.add_assoc,go_sem,↓zA,↓reduceIte,↓reduceDIte] <;>try simp only [zB]
     refine q0h [0,G.length+5] (z5K 172 _ _ had0) rfl (by simp) ?_ rfl rfl ?_
     · simp (maxSteps:=3000000) only [atH,sig,SObj.ren,SV.ren,SV.renL,SObj.live,opF,List.append_assoc,getA,getA0,setA,setA0,List.length_append,Nat.add_assoc,go_sem,↓zA,↓reduceIte,↓reduceDIte] <;>try simp only [zB]
     simp only [afterO,Out.ren,SV.ren,mgA,sig,SObj.ren,SV.renL,List.set,List.map,List.append_nil,opF]
     refine aQ ?_
     exact eH (fun xs=>q1i (hG xs) ⟨trivial,⟨trivial,trivial⟩,trivial⟩) e
   have f1:(((i:Nat):Int)=0)=False:=eq_false (by omega)
   rcases Nat.lt_or_ge i 10 with h'|h'
   · have f2:(((i:Nat):Int)=10)=False:=eq_false (by omega)
     have e:=e4 h h'
     clear e0 e10 e4 had0 had10
     refine uQ 600 _ ?_
     simp (maxSteps:=3000000) only [f1,f2,hrl,htr,Nat.le_refl,true_and,List.append_assoc,getA,getA0,setA,setA0,List.length_append,Nat.add_assoc,go_sem,↓zA,↓reduceIte,↓reduceDIte] <;>try simp only [zB]
     refine q0h [0,2] (z5P 186 187 188 172 _ _ _ _ _ hsu hsh hmi had4) rfl (by simp) ?_ rfl rfl ?_
     · simp (maxSteps:=3000000) only [atH,sig,SObj.ren,SV.ren,SV.renL,SObj.live,opF,List.append_assoc,getA,getA0,setA,setA0,List.length_append,Nat.add_assoc,go_sem,↓zA,↓reduceIte,↓reduceDIte] <;>try simp only [zB]
     simp only [afterO,Out.ren,SV.ren,mgA,sig,SObj.ren,SV.renL,List.set,List.map,List.append_nil,opF]
     refine aQ ?_
     exact eH (fun xs=>q1i (hG xs) ⟨trivial,trivial⟩) e
   have f2:(((i:Nat):Int)=10)=True:=eq_true (by omega)
   have e:=e10 (by omega)
   clear e0 e10 e4 hmi had0 had4
   refine uQ 600 _ ?_
   simp (maxSteps:=3000000) only [f1,f2,hrl,htr,Nat.le_refl,true_and,List.append_assoc,getA,getA0,setA,setA0,List.length_append,Nat.add_assoc,go_sem,↓zA,↓reduceIte,↓reduceDIte] <;>try simp only [zB]
   refine q0h [0,G.length+5] (z6m 186 187 172 _ _ _ _ hsu hsh had10) rfl (by simp) ?_ rfl rfl ?_
   · simp (maxSteps:=3000000) only [atH,sig,SObj.ren,SV.ren,SV.renL,SObj.live,opF,List.append_assoc,getA,getA0,setA,setA0,List.length_append,Nat.add_assoc,go_sem,↓zA,↓reduceIte,↓reduceDIte] <;>try simp only [zB]
   simp only [afterO,Out.ren,SV.ren,mgA,sig,SObj.ren,SV.renL,List.set,List.map,List.append_nil,opF]
   refine aQ ?_
   exact eH (fun xs=>q1i (hG xs) ⟨trivial,⟨trivial,trivial,trivial,trivial⟩,trivial⟩) e
 · rintro D Hn ⟨G,hG,rfl⟩
   letI:Ghost:=topG noFG [D]
   have hpl:(prS (wordsS key) b 11).length=16:=q5A _ _ _
   have he:encS (wordsS key) b=prS (wordsS key) b 11:=rfl
   rw [he]
   clear hcp hch hrk he
   generalize prS (wordsS key) b 11=x at*
   have hxt:List.take 16 x=x:=List.take_of_length_le (by omega)
   generalize pkS key 11=rk0 at*
   unfold encH
   refine uQ 6 _ ?_
   with_reducible refine sxaE ?_
   refine z0G (ty:=PasT) 64 0 0 1 rfl rfl rfl (Nat.succ_pos _) (show 1≤1125899906842624 by decide) ?_ ?_ ?_
   · exact ⟨trivial,⟨trivial,trivial⟩,⟨trivial,trivial,trivial,trivial,trivial⟩,⟨trivial,trivial⟩,hG _⟩
   · with_reducible refine sxaE ?_;trivial
   with_reducible refine sxaE ?_
   refine uQ 600 _ ?_
   with_reducible refine sxaE ?_
   refine ⟨⟨by decide,Nat.le_refl _⟩,q0a (hxt.symm▸q1U x (by omega)) ?_⟩
   refine uQ 600 _ ?_
   with_reducible refine sxaE ?_
   simp [SV.leV,hxt]
 rintro D i ex _ hi h
 exact h.elim
theorem uns_eq' (iv:List UInt8) (hf:∀c:UInt8,iv.getD c.toNat 0=invS c) (x:List UInt8):(fS fun j=>iv.getD ((fS fun j=>x.getD (srcU j) 0).getD j 0).toNat 0)=unsS x:=by
 unfold unsS
 refine q2g fun j hj=> ?_
 have e:=q5V (fun j=>x.getD (srcU j) 0) hj
 rw [hf]
 exact congrArg invS e
theorem j3y (x:List UInt8):(fS fun j=>(invP 256).getD ((fS fun j=>x.getD (srcU j) 0).getD j 0).toNat 0)=unsS x:=uns_eq' (invP 256) (fun _=>rfl) x
def decH (cp:CipT.den) (b k:List UInt8) (G:List SObj):List SObj:=.row PasT [(some cp,(b,k))] :: .cells 207 [.rptr 0 PasT 0 0] :: .cells 1 [opF 172,opF 173,opF 174,opF 175] :: .cells 212 [.csl 2 .u8 0 0 4] :: G
def pdS (w b:List UInt8) (n:Nat):List UInt8:=if n≤10 then decA w b n else decS w b
def pqS (key:List UInt8):Nat→List UInt8
 |0=>z16
 |n+1=>rkK key (10-n)
theorem decOps (cp:CipT.den) (key:List UInt8) (hk:key.length=16) (hcp:cp=cipS key) {i:Nat} (hi:i<11) {rk x:List UInt8} (hrk:rk=rkK key i) (hpl:x.length=16):
 ∃a s2 s3 t2 t3 t4:List UInt8,OpE 172 (some cp,(x,rk)) (some cp,(a,rk))∧OpE 174 (some cp,(a,rk)) (some cp,(s2,rk))∧OpE 175 (some cp,(s2,rk)) (some cp,(s3,rk))∧
  OpE 173 (some cp,(a,rk)) (some cp,(t2,rk))∧OpE 174 (some cp,(t2,rk)) (some cp,(t3,rk))∧OpE 175 (some cp,(t3,rk)) (some cp,(t4,rk))∧
  a=addS x (wordsS key) i∧(i=10→s3=rndD (wordsS key) i x)∧(i<10→t4=rndD (wordsS key) i x):=by
 have hrl:rk.length=16:=by rw [hrk];exact q7S hk hi
 have hc12:(cp.1.2:List UInt8)=invP 256:=by rw [hcp];rfl
 have hre:∀y:List UInt8,OpE 175 (some cp,((fS fun j=>y.getD (srcU j) 0),rk)) (some cp,(unsS y,rk)):=by
  intro y
  have h:=z3R cp (fS fun j=>y.getD (srcU j) 0) rk (q1F _)
  rw [hc12] at h
  have he:=j3y y
  rw [he] at h
  exact h
 refine ⟨_,_,_,_,_,_,z1Z (some cp) x rk hpl hrl,q7n (some cp) (addS x rk 0) rk (q1F _),hre _,z8X (some cp) (addS x rk 0) rk (q1F _),q7n (some cp) (mixS (addS x rk 0) [14,11,13,9]) rk (q1F _),hre _,?_,?_,?_⟩
 · rw [hrk,q4U]
 · intro h
   unfold rndD mixD
   rw [hrk,q4U,if_neg (by omega)]
 intro h
 unfold rndD mixD
 rw [hrk,q4U,if_pos h]
def decHs (cp:CipT.den) (key b:List UInt8) (i:Nat) (H':List SObj):Prop:=∃G,(∀xs,frzObH 0 PasT xs G)∧H'=decH cp (pdS (wordsS key) b i) (pqS key i) G
theorem z3t (key b:List UInt8) (hk:key.length=16) (hb:b.length=16):PC Tryz.prog 157 [.iptr CipT (cipS key) 0,.isl .u8 b] (.tup [.isl .u8 (decS (wordsS key) b),rI 0]):=by
 refine q0q rfl rfl (q3J (q1v noFG fi157 ?_))
 letI:Ghost:=topG noFG []
 have hch:=q9m key b hb
 have hrk:=q5m key true hk
 have hit:=q5o key true hk
 unfold rkF at hrk
 obtain ⟨cp,hcp⟩:∃cp,cp=cipS key:=⟨_,rfl⟩
 rw [←hcp] at hch hrk hit⊢
 have htb:List.take 16 b=b:=List.take_of_length_le (by omega)
 refine uQ 600 _ ?_
 with_reducible refine sxE ?_
 refine q0a hch ?_
 refine uQ 600 _ ?_
 simp (maxSteps:=3000000) only [hb,htb,z5a,go_sem,↓zA,↓reduceIte,↓reduceDIte] <;>try simp only [zB]
 refine q0a hrk ?_
 refine uQ 600 _ ?_
 with_reducible refine sxE ?_
 refine z3m (decHs cp key b) (fun _ _ _=>False) rfl rfl rfl hit (fun i n args' new h=>by rw [h.1];rfl) ⟨[],fun _=>trivial,rfl⟩ rfl ?_ ?_ ?_
 · rintro i _ args' new hi ⟨G,hG,rfl⟩ ⟨rfl,rfl⟩ L1 L2
   letI:Ghost:=pinG noFG L1
   rw [List.append_nil]
   unfold decH
   have hri:rkI true i=10-i:=rfl
   obtain ⟨r,hr⟩:∃r,r=10-i:=⟨_,rfl⟩
   have hr11:r<11:=by omega
   have hrl:(rkK key r).length=16:=q7S hk hr11
   rw [hri,←hr]
   obtain ⟨rk,hrk⟩:∃rk,rk=rkK key r:=⟨_,rfl⟩
   rw [←hrk] at hrl⊢
   refine uQ 600 _ ?_
   simp only [putL,List.toList_toArray]
   simp (maxSteps:=3000000) only [hrl,List.append_assoc,getA,getA0,setA,setA0,List.length_append,Nat.add_assoc,go_sem,↓zA,↓reduceIte,↓reduceDIte] <;>try simp only [zB]
   letI:Ghost:=pinG noFG L2
   have htr:List.take 16 rk=rk:=List.take_of_length_le (by omega)
   have hpd:pdS (wordsS key) b i=decA (wordsS key) b i:=if_pos (by omega)
   have hpl:(pdS (wordsS key) b i).length=16:=by rw [hpd];exact z8j _ _ hb _
   obtain ⟨a,s2,s3,t2,t3,t4,had,hsh,hre,hmi,hsh4,hre4,h0,h10,h4⟩:=decOps cp key hk hcp hr11 hrk hpl
   have e0:r=0→pdS (wordsS key) b (i+1)=a:=by
    intro h
    have hi:i=10:=by omega
    rw [h0,hpd,h,hi];rfl
   have e10:r=10→pdS (wordsS key) b (i+1)=s3:=by
    intro h
    have hi:i=0:=by omega
    rw [h10 h,hpd,h,hi];rfl
   have e4:0<r→r<10→pdS (wordsS key) b (i+1)=t4:=by
    intro h h'
    have hu:pdS (wordsS key) b (i+1)=decA (wordsS key) b (i+1):=if_pos (by omega)
    rw [h4 h',hu,decA,hpd,hr]
   have ek:pqS key (i+1)=rk:=by rw [hrk,hr];rfl
   have eH:∀ {G':List SObj} {y:List UInt8},(∀xs,frzObH 0 PasT xs G')→pdS (wordsS key) b (i+1)=y→decHs cp key b (i+1) (decH cp y rk G'):=by
    intro G' y hg hy
    exact ⟨G',hg,by rw [hy,ek]⟩
   clear h0 h10 h4 hcp hch hrk hpd
   generalize pdS (wordsS key) b i=x at*
   generalize pqS key i=rk0 at*
   rcases Nat.eq_zero_or_pos r with h|h
   · have f1:(((r:Nat):Int)=0)=True:=eq_true (by omega)
     have e:=e0 h
     clear e0 e10 e4 hsh hre hmi hsh4 hre4
     refine uQ 600 _ ?_
     simp (maxSteps:=3000000) only [f1,hrl,htr,Nat.le_refl,true_and,List.append_assoc,getA,getA0,setA,setA0,List.length_append,Nat.add_assoc,go_sem,↓zA,↓reduceIte,↓reduceDIte] <;>try simp only [zB]
     refine q0h [0,G.length+5] (z5K 172 _ _ had) rfl (by simp) ?_ rfl rfl ?_
     · simp (maxSteps:=3000000) only [atH,sig,SObj.ren,SV.ren,SV.renL,SObj.live,opF,List.append_assoc,getA,getA0,setA,setA0,List.length_append,Nat.add_assoc,go_sem,↓zA,↓reduceIte,↓reduceDIte] <;>try simp only [zB]
     simp only [afterO,Out.ren,SV.ren,mgA,sig,SObj.ren,SV.renL,List.set,List.map,List.append_nil,opF]
     refine aQ ?_
     exact eH (fun xs=>q1i (hG xs) ⟨trivial,⟨trivial,trivial⟩,trivial⟩) e
   have f1:(((r:Nat):Int)=0)=False:=eq_false (by omega)
   rcases Nat.lt_or_ge r 10 with h'|h'
   · have f2:(((r:Nat):Int)=10)=False:=eq_false (by omega)
     have e:=e4 h h'
     clear e0 e10 e4 hsh hre
     refine uQ 600 _ ?_
     simp (maxSteps:=3000000) only [f1,f2,hrl,htr,Nat.le_refl,true_and,List.append_assoc,getA,getA0,setA,setA0,List.length_append,Nat.add_assoc,go_sem,↓zA,↓reduceIte,↓reduceDIte] <;>try simp only [zB]
     refine q0h [0,2] (z5P 172 173 174 175 _ _ _ _ _ had hmi hsh4 hre4) rfl (by simp) ?_ rfl rfl ?_
     · simp (maxSteps:=3000000) only [atH,sig,SObj.ren,SV.ren,SV.renL,SObj.live,opF,List.append_assoc,getA,getA0,setA,setA0,List.length_append,Nat.add_assoc,go_sem,↓zA,↓reduceIte,↓reduceDIte] <;>try simp only [zB]
     simp only [afterO,Out.ren,SV.ren,mgA,sig,SObj.ren,SV.renL,List.set,List.map,List.append_nil,opF]
     refine aQ ?_
     exact eH (fun xs=>q1i (hG xs) ⟨trivial,trivial⟩) e
   have f2:(((r:Nat):Int)=10)=True:=eq_true (by omega)
   have e:=e10 (by omega)
   clear e0 e10 e4 hmi hsh4 hre4
   refine uQ 600 _ ?_
   simp (maxSteps:=3000000) only [f1,f2,hrl,htr,Nat.le_refl,true_and,List.append_assoc,getA,getA0,setA,setA0,List.length_append,Nat.add_assoc,go_sem,↓zA,↓reduceIte,↓reduceDIte] <;>try simp only [zB]
   refine q0h [0,G.length+5] (z6m 172 174 175 _ _ _ _ had hsh hre) rfl (by simp) ?_ rfl rfl ?_
   · simp (maxSteps:=3000000) only [atH,sig,SObj.ren,SV.ren,SV.renL,SObj.live,opF,List.append_assoc,getA,getA0,setA,setA0,List.length_append,Nat.add_assoc,go_sem,↓zA,↓reduceIte,↓reduceDIte] <;>try simp only [zB]
   simp only [afterO,Out.ren,SV.ren,mgA,sig,SObj.ren,SV.renL,List.set,List.map,List.append_nil,opF]
   refine aQ ?_
   exact eH (fun xs=>q1i (hG xs) ⟨trivial,⟨trivial,trivial,trivial,trivial⟩,trivial⟩) e
 · rintro D Hn ⟨G,hG,rfl⟩
   letI:Ghost:=topG noFG [D]
   have hpl:(pdS (wordsS key) b 11).length=16:=q4r _ _
   have he:decS (wordsS key) b=pdS (wordsS key) b 11:=rfl
   rw [he]
   clear hcp hch hrk he
   generalize pdS (wordsS key) b 11=x at*
   have hxt:List.take 16 x=x:=List.take_of_length_le (by omega)
   generalize pqS key 11=rk0 at*
   unfold decH
   refine uQ 6 _ ?_
   with_reducible refine sxaE ?_
   refine z0G (ty:=PasT) 64 0 0 1 rfl rfl rfl (Nat.succ_pos _) (show 1≤1125899906842624 by decide) ?_ ?_ ?_
   · exact ⟨trivial,⟨trivial,trivial⟩,⟨trivial,trivial,trivial,trivial,trivial⟩,⟨trivial,trivial⟩,hG _⟩
   · with_reducible refine sxaE ?_;trivial
   with_reducible refine sxaE ?_
   refine uQ 600 _ ?_
   with_reducible refine sxaE ?_
   refine ⟨⟨by decide,Nat.le_refl _⟩,q0a (hxt.symm▸q1U x (by omega)) ?_⟩
   refine uQ 600 _ ?_
   with_reducible refine sxaE ?_
   simp [SV.leV,hxt]
 rintro D i ex _ hi h
 exact h.elim
def xorS (a b:List UInt8):List UInt8:=fS fun i=>a.getD i 0^^^ b.getD i 0
theorem q1S (a b:List UInt8):(xorS a b).length=16:=q1F _
def chA (w iv p:List UInt8):Nat→List UInt8×List UInt8
 |0=>(iv,[])
 |n+1=>(encS w (xorS ((p.take (16*n+16)).drop (16*n)) (chA w iv p n).1),(chA w iv p n).2++encS w (xorS ((p.take (16*n+16)).drop (16*n)) (chA w iv p n).1))
def chainS (key iv p:List UInt8):List UInt8:=(chA (wordsS key) iv p (p.length / 16)).2
theorem q6u (w iv p:List UInt8) (hi:iv.length=16) (n:Nat):(chA w iv p n).1.length=16∧(chA w iv p n).2.length=16*n:=by
 induction n with
 |zero=>exact ⟨hi,rfl⟩
 |succ n ih=>exact ⟨q3w _ _,by rw [chA];simp only [List.length_append,ih.2,q3w];omega⟩
theorem q4Z (key iv p:List UInt8) (hi:iv.length=16):(chainS key iv p).length=16* (p.length / 16):=(q6u _ _ _ hi _).2
def zpN (n:Nat):Nat:=(16-n%16)%16
def zpL (p:List UInt8) (k:Nat):List UInt8:=p++List.replicate k 0
theorem z0Z (p:List UInt8) (k:Nat):(zpL p k).length=p.length+k:=by simp [zpL]
def exchS (c:List UInt8):List UInt8:=c.take (c.length-32)++c.drop (c.length-16)++(c.take (c.length-16)).drop (c.length-32)
def ctsE (key iv p:List UInt8):List UInt8:=
 let c:=chainS key iv (zpL p (zpN p.length))
 if c.length=16 then c else (exchS c).take p.length
end Go.Proofs.YtikapabgggphpaaGreatDoor
namespace Go.Sx
open Go

variable {P:Program} {AQ:Ex→List SV→List SObj→Prop} {k0:Nat} {k:List It} {t:List SV} {H:List SObj}

def flatC:Code→List Code
 |.seq a b=>flatC a++flatC b
 |c=>[c]
theorem q6v [Ghost] {F:Fence} {n:Nat} {E:EnD} {Q:Exit→Act→World→Prop} {id:Nat} {a:Act} {w:World} {k:List It}:∀ (l:List Code),exitT F n P E Q id (l.map .code++k) a w ↔ exitT F n P E Q id k a w
 | []=>Iff.rfl
 |c :: l=>by simp only [List.map_cons,List.cons_append,exitT];exact q6v l
theorem q8B [Ghost] {F:Fence} {n:Nat} {E:EnD} {Q:Exit→Act→World→Prop}:∀ (c:Code) (k:List It) (a:Act) (w:World),wpT F n P E Q ((flatC c).map .code++k) a w→wpT F n P E Q (.code c :: k) a w
 |.seq x y,k,a,w,h=>by
  rw [flatC,List.map_append,List.append_assoc] at h
  have h1:=q8B x _ a w h
  simp only [wpT] at h1⊢
  refine wpIn_seq (wpIn_mono h1 fun e a w hq=> ?_)
  cases e with
  |normal=>
   have h2:=q8B y k a w hq
   simp only [wpT] at h2
   exact h2
  |exit id=>exact (q6v _).1 hq
  |_=>exact hq
 |.skip,_,_,_,h=>h
 |.region ..,_,_,_,h=>h
 |.cond ..,_,_,_,h=>h
 |.block ..,_,_,_,h=>h
 |.loop _,_,_,_,h=>h
 |.rangeFunc ..,_,_,_,h=>h
 |.exit _,_,_,_,h=>h
 |.scope _,_,_,_,h=>h
 |.label _,_,_,_,h=>h
 |.goto _,_,_,_,h=>h
 |.ret,_,_,_,h=>h
 |.refuse ..,_,_,_,h=>h

def compAll (P:Program):List Code→Option (List IC)
 | []=>some []
 |c :: cs=>match comp P c,compAll P cs with
  |some x,some l=>some (x :: l)
  |_,_=>none
theorem q7D:∀ {cs:List Code} {l:List IC},compAll P cs=some l→cs.map (comp P)=l.map some
 | [],l,h=>by cases h;rfl
 |c :: cs,l,h=>by
  unfold compAll at h
  split at h
  · rename_i x l' h1 h2
    cases h
    simp only [List.map_cons,h1,q7D h2]
  cases h
def splitX (P:Program):List Code→Option (List IC×Array Oper×List IC)
 | []=>none
 |c :: cs=>match comp P c with
  |some (.hnd all)=>match compAll P cs with
   |some l=>some ([],all,l)
   |none=>none
  |some x=>match splitX P cs with
   |some (l,r,l')=>some (x :: l,r,l')
   |none=>none
  |none=>none
theorem q9W:∀ {cs:List Code} {l:List IC} {r:Array Oper} {l':List IC},splitX P cs=some (l,r,l')→∃ (cs1:List Code) (id:Nat) (cs2:List Code),cs=cs1++ .region id r true :: cs2∧cs1.map (comp P)=l.map some∧cs2.map (comp P)=l'.map some
 | [],_,_,_,h=>by cases h
 |c :: cs,l,r,l',h=>by
  unfold splitX at h
  split at h
  · rename_i all hx
    obtain ⟨id,rfl⟩:=q0C hx
    split at h
    · rename_i l1 h1
      cases h
      exact ⟨[],id,cs,rfl,rfl,q7D h1⟩
    cases h
  · split at h
    · rename_i hx _ _ l1 r1 l1' h1
      cases h
      obtain ⟨cs1,id,cs2,rfl,g1,g2⟩:=q9W h1
      exact ⟨c :: cs1,id,cs2,rfl,by simp only [List.map_cons, *],g2⟩
    cases h
  cases h
structure XI where
 ntmps:Nat
 results:List ResultVar
 pre:List IC
 reg:Array Oper
 post:List IC
def xinfo (P:Program) (f:FuncId):Option XI:=
 match P.funcs[f]? with
 |some fn=>match fn.body with
  |some c=>match splitX P (flatC c) with
   |some (l,r,l')=>if fn.name== "runtime.NumGoroutine" then none else some ⟨fn.ntmps,fn.results.toList,l,r,l'⟩
   |none=>none
  |none=>none
 |none=>none
def xreg (P:Program) (f:FuncId):Array Oper:=match xinfo P f with
 |some xi=>xi.reg
 |none=> #[]

theorem rel_codes':∀ {cs:List Code} {l:List IC},cs.map (comp P)=l.map some→RelT P (l.map .ic) (cs.map .code)
 | [],[],_=>rfl
 |c :: cs,ic :: l,h=>by
  simp only [List.map_cons,List.cons.injEq] at h
  exact ⟨c,_,rfl,h.1,rel_codes' h.2⟩
 | [],_ :: _,h=>by simp at h
 |_ :: _,[],h=>by simp at h
theorem q5u:∀ (cs:List Code),noStop (cs.map .code)=true
 | []=>rfl
 |_ :: cs=>q5u cs
def AtReg (P:Program) (AQ:Ex→List SV→List SObj→Prop) (k0:Nat) (xi:XI) (t:List SV) (H:List SObj):Prop:=
 ∀ (id:Nat) (k:List It),noStop k=true→RelT P (xi.post.map .ic) k→ @Sound noGhost P AQ ⟨k0,.code (.region id xi.reg true) :: k,t,H⟩
theorem j4q {f:FuncId} {xi:XI} {args:List SV} {K:Out→List SObj→Prop} (h:xinfo P f=some xi)
 (hs: @SoundI noGhost P (retF P xi.results K) ⟨H.length,xi.pre.map .ic++ [.stop (AtReg P (retF P xi.results K) H.length xi)],args++List.replicate (xi.ntmps-args.length) .any,H⟩):VC P f args H K:=by
 unfold xinfo at h
 split at h
 · rename_i fn hf
   split at h
   · rename_i c hb
     split at h
     · rename_i l r l' hsp
       split at h
       · cases h
       rename_i hn
       cases h
       refine ⟨by simp [enters,hf,hb];simpa using hn,?_⟩
       have hq:retQ P fn K=retF P fn.results.toList K:=by funext e t H;cases e<;>rfl
       obtain ⟨cs1,id,cs2,hcs,g1,g2⟩:=q9W hsp
       refine q6Q hf hb ?_
       rw [hq]
       intro E r n C a h0 hd
       refine q8B c [] a C.w ?_
       rw [List.append_nil,hcs,List.map_append]
       have h1:=q0e hs (q6n g1) E r n C a h0 hd
       refine q5c (Q1:=conc E (retF P fn.results.toList K)) (fun e a w _ h=>h) (fun id a w ⟨_,_,_,hq,_⟩=>hq) (fun a C t H hΦ hd=> ?_) cs1 a C.w h1
       exact hΦ id (cs2.map .code) (q5u cs2) (rel_codes' g2) E r n C a h0 hd
     cases h
   cases h
 cases h
end Go.Sx
namespace Go.Sx
open Go

variable {P:Program} {AQ:Ex→List SV→List SObj→Prop} {k0:Nat}

/- Values that hold nothing immutable. -/
mutual
def SV.noI:SV→Bool
 |.any|.raw _|.ptr .. |.rptr .. |.bld .. |.osl .. |.csl .. |.mp _=>true
 |.agg l=>SV.noIL l
 |.tup l=>SV.noIL l
 |.fn _ a b=>SV.noIL a&& SV.noIL b
 |.iface _ x=>SV.noI x
 |_=>false
def SV.noIL:List SV→Bool
 | []=>true
 |s :: l=>SV.noI s&& SV.noIL l
end
mutual
theorem z4y {C:Cx} {I:Nat→Prop}:∀ {s:SV} {v:Value},s.noI=true→s.den C v→s.den {C with I:=I} v
 |.any,_,_,_=>by rw [SV.den];trivial
 |.raw u,v,_,h=>by rw [SV.den] at h⊢;exact h
 |.isl ..,_,h,_=>by simp [SV.noI] at h
 |.fsl ..,_,h,_=>by simp [SV.noI] at h
 |.iptr ..,_,h,_=>by simp [SV.noI] at h
 |.dat ..,_,h,_=>by simp [SV.noI] at h
 |.imap ..,_,h,_=>by simp [SV.noI] at h
 |.ptr h off,v,_,d=>by rw [SV.den] at d⊢;exact d
 |.rptr h t i k,v,_,d=>by rw [SV.den] at d⊢;exact d
 |.bld h t n,v,_,d=>by rw [SV.den] at d⊢;exact d
 |.osl h t off n,v,_,d=>by rw [SV.den] at d⊢;exact d
 |.csl h t k i n,v,_,d=>by rw [SV.den] at d⊢;exact d
 |.mp h,v,_,d=>by rw [SV.den] at d⊢;exact d
 |.agg l,v,h,d=>by
  rw [SV.den] at d⊢
  obtain ⟨vs,hv,hl⟩:=d
  exact ⟨vs,hv,q4c (by simpa [SV.noI] using h) hl⟩
 |.tup l,v,h,d=>by
  rw [SV.den] at d⊢
  obtain ⟨vs,hv,hl⟩:=d
  exact ⟨vs,hv,q4c (by simpa [SV.noI] using h) hl⟩
 |.fn f l1 l2,v,h,d=>by
  rw [SV.den] at d⊢
  obtain ⟨v1,v2,hv,h1,h2⟩:=d
  simp [SV.noI] at h
  exact ⟨v1,v2,hv,q4c h.1 h1,q4c h.2 h2⟩
 |.iface T x,v,h,d=>by
  rw [SV.den] at d⊢
  obtain ⟨u,hv,h1⟩:=d
  exact ⟨u,hv,z4y (by simpa [SV.noI] using h) h1⟩
theorem q4c {C:Cx} {I:Nat→Prop}:∀ {l:List SV} {vs:List Value},SV.noIL l=true→SV.denL C l vs→SV.denL {C with I:=I} l vs
 | [],_,_,h=>by rw [SV.denL] at h⊢;exact h
 |s :: l,_,hc,h=>by
  rw [SV.denL] at h⊢
  obtain ⟨v,us,rfl,h1,h2⟩:=h
  simp [SV.noIL] at hc
  exact ⟨v,us,rfl,z4y hc.1 h1,q4c hc.2 h2⟩
end
def SObj.noI:SObj→Bool
 |.cells _ cs=>SV.noIL cs
 |.row t _=>t.flat
 |_=>true
theorem TabT.flat {C C':Cx} {H H':List SObj} (hf:(datList.all fun e=>e.2.1.flat)=true) (h:TabT C H) (e:C'.w=C.w) (ho:∀b,OwnB C' H' b→OwnB C H b):TabT C' H' where
 tab:=fun x hx=>by
  obtain ⟨h1,T,fz,h2⟩:=h.tab x hx
  exact ⟨⟨by rw [e];exact h1.1,fun y=>h1.2 (ho _ y)⟩,T,fz,by rw [e];exact h2⟩
 dat:=fun x hx=>by
  obtain ⟨h1,us,h2,h3⟩:=h.dat x hx
  refine ⟨⟨by rw [e];exact h1.1,fun y=>h1.2 (ho _ y)⟩,us,Ty.rel_flat _ _ _ (List.all_eq_true.1 hf x hx) h2,fun j u hu=> ?_⟩
  rw [e];exact h3 j u hu
theorem j4m {l:List IC}:∀x∈(l.map IT.ic),∃c,x= .ic c:=fun x hx=>by
 obtain ⟨c,_,rfl⟩:=List.mem_map.1 hx;exact ⟨c,rfl⟩
theorem z9a {Ds:List Nat} {q:Bool} {G:List Nat} {l B N:Nat} {J:Nat→(Nat→Prop)→World→(Nat→Prop)→Prop} {vw:Nat→Nat→List SV→List SObj→Prop} {i:Nat} {T:List SObj} (T':List SObj) {args:List SV} {d:Option Tmp} {k:List IT} {t:List SV}
 (hJ:FJ B J) (yg:YG P l B N J vw) (hi:i<N) (hh:∀n,∃args' new,vw i n args' new∧Hand n (.mark i :: T) (.mark i :: T') args args' new)
 (hk:∀b:Bool,(q=true→SameG G (.mark i :: T) (.mark (if b then i+1 else N+1+i) :: T'))∧ @SoundI (topG (yFG hJ) Ds) P AQ ⟨k0,k,putT t d (.raw (.bool b)),.mark (if b then i+1 else N+1+i) :: T'⟩): @YldR (topG (yFG hJ) Ds) P AQ q G l args d ⟨k0,k,t,.mark i :: T⟩:=z3b hJ yg hi hh hk
end Go.Sx
namespace Go.Sx
open Go

variable {P:Program} {AQ:Ex→List SV→List SObj→Prop} {k0:Nat}

def flatI:IC→List IC
 |.seq a b=>flatI a++flatI b
 |c=>[c]
theorem q7m:∀ {k1 k2:List IT} {l1 l2:List It},(∀x∈k1,∃c,x= .ic c)→RelT P k1 l1→RelT P k2 l2→RelT P (k1++k2) (l1++l2)
 | [],_,_,_,_,h,h2=>by cases h;exact h2
 |x :: k1,k2,l1,l2,hc,h,h2=>by
  obtain ⟨c,rfl⟩:=hc x (by simp)
  obtain ⟨c',r,rfl,h3,h4⟩:=h
  exact ⟨c',r++l2,rfl,h3,q7m (fun x hx=>hc x (by simp [hx])) h4 h2⟩
theorem rel_flat:∀ (ic:IC) {c:Code},comp P c=some ic→RelT P ((flatI ic).map .ic) ((flatC c).map .code):=by
 intro ic
 induction ic with
 |seq x y ihx ihy=>
  intro c h
  obtain ⟨a,b,rfl,h1,h2⟩:=q0C h
  simp only [flatI,flatC,List.map_append]
  exact q7m j4m (ihx h1) (ihy h2)
 |_=>
  intro c h
  have hc:flatC c= [c]:=by
   cases c with
   |seq a b=>simp only [comp] at h;split at h<;>cases h
   |_=>rfl
  rw [hc]
  exact ⟨c,[],rfl,h,rfl⟩
end Go.Sx
