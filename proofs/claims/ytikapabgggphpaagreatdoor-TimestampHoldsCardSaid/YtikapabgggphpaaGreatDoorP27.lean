/- Profiles: contracts: the program seals and opens, in both profiles. -/
import Derived.Test.YtikapabgggphpaaGreatDoorP26
import Derived.Test.YtikapabgggphpaaGreatDoorP23
import Derived.Test.YtikapabgggphpaaGreatDoorP12
import Derived.Test.YtikapabgggphpaaGreatDoorP17
set_option linter.all false
namespace Go.Proofs.YtikapabgggphpaaGreatDoor
open Go Go.Sx Go.Proofs
set_option maxRecDepth 100000
set_option maxHeartbeats 40000000
theorem z9P {P:Program} {f:FuncId} {args:List SV} {s s':SV} (h:PC P f args s) (e:s=s'):PC P f args s':=e▸h
def kdL (nm:ByteArray) (kl tl:Nat) (fe fd fm:FuncId):List Value:=[.string nm,.int .i64 kl,.int .i64 16,.int .i64 tl,.int .i64 tl,fnV fe,fnV fd,fnV fm]
theorem z0t (nm:ByteArray) (kl tl:Nat) (fe fd fm:FuncId) (p v:Int) (b:List UInt8) (u:Nat) (conf plain ci mk:List UInt8)
 (hu:PC Tryz.prog 42 [.agg (KeyT.cells (p,v,b)),rI u] (.tup [.agg (rawL (kdL nm kl tl fe fd fm)),rI 0])) (hb1:1≤b.length) (hb2:b.length≤64) (hc:conf.length=16) (hp:plain.length≤65536)
 (hen:PC Tryz.prog fe [.isl .u8 (dkS (p,v,b) u 170),.isl .u8 conf,.isl .u8 plain] (.isl .u8 ci)) (hmk:PC Tryz.prog fm [.isl .u8 (dkS (p,v,b) u 85),.isl .u8 ci] (.isl .u8 mk)) (htl:tl≤mk.length) (hml:mk.length≤4096) (hci:ci.length≤1048576):
 PC Tryz.prog 17 [.agg (KeyT.cells (p,v,b)),rI u,.isl .u8 conf,.isl .u8 plain] (.tup [.agg [rI p,rI v,.isl .u8 (ci++mk.take tl)],rI 0]):=by
 unfold kdL at hu
 refine q0q rfl rfl ?_
 refine q0G fi17 ?_
 refine uQ 600 _ ?_
 with_reducible refine sxE ?_
 refine q0a hu ?_
 have hcl:((conf.length:Int)=16)=True:=eq_true (by omega)
 have hpl:(65536< (plain.length:Int))=False:=eq_false (by omega)
 refine uQ 600 _ ?_
 simp (maxSteps:=3000000) only [hcl,hpl,go_sem,↓zA,↓reduceIte,↓reduceDIte] <;>try simp only [zB]
 refine q0a (q9j (p,v,b) u hb2) ?_
 refine uQ 600 _ ?_
 with_reducible refine sxE ?_
 refine q0f (q4m (p,v,b) u 170 hb2 hb1 (by decide)) ?_
 refine uQ 600 _ ?_
 with_reducible refine sxE ?_
 refine q0f hen ?_
 refine uQ 600 _ ?_
 with_reducible refine sxE ?_
 refine q0f (q4m (p,v,b) u 85 hb2 hb1 (by decide)) ?_
 refine uQ 600 _ ?_
 with_reducible refine sxE ?_
 refine q0f hmk ?_
 refine uQ 4 _ ?_
 simp (maxSteps:=3000000) only [Int.toNat_natCast,go_sem,↓zA,↓reduceIte,↓reduceDIte] <;>try simp only [zB]
 have htk:(List.take tl mk).length=tl:=by rw [List.length_take];omega
 have hj:=z2M [ci,List.take tl mk] (by simp;omega) (by simp)
 rw [show [ci,List.take tl mk].flatten=ci++List.take tl mk by simp] at hj
 refine ⟨⟨by omega,Nat.le_refl _,htl⟩,?_⟩
 refine q1P [0] mixed ?_
 refine uQ 600 _ ?_
 with_reducible refine sxE ?_
 refine q0D 3 (by decide) ?_
 with_reducible refine sxE ?_
 refine q0f hj ?_
 refine uQ 600 _ ?_
 with_reducible refine sxE ?_;trivial
theorem q9q (nm:ByteArray) (kl tl:Nat) (fe fd fm:FuncId) (p v:Int) (b:List UInt8) (u:Nat) (sp sv:Int) (sb pl mk:List UInt8)
 (hu:PC Tryz.prog 42 [.agg (KeyT.cells (p,v,b)),rI u] (.tup [.agg (rawL (kdL nm kl tl fe fd fm)),rI 0])) (hb1:1≤b.length) (hb2:b.length≤64) (htl:tl≤64) (hs:sb.length≤1099511627776)
 (hmk:16+tl≤sb.length→sb.length≤65552+tl→PC Tryz.prog fm [.isl .u8 (dkS (p,v,b) u 85),.isl .u8 (sb.take (sb.length-tl))] (.isl .u8 mk))
 (hde:16+tl≤sb.length→sb.length≤65552+tl→PC Tryz.prog fd [.isl .u8 (dkS (p,v,b) u 170),.isl .u8 (sb.take (sb.length-tl))] (.isl .u8 pl)) (hml:tl≤mk.length) (hmx:mk.length≤4096):
 PC Tryz.prog 36 [.agg (KeyT.cells (p,v,b)),rI u,.agg [rI sp,rI sv,.isl .u8 sb]] (.tup (if sp=p∧(sv=v∨sv=0∨v=0) then
  if sb.length<16+tl then [.isl .u8 [],rI 4] else if 65552+tl<sb.length then [.isl .u8 [],rI 5]
  else if mk.take tl=sb.drop (sb.length-tl) then [.isl .u8 pl,rI 0] else [.isl .u8 [],rI 10] else [.isl .u8 [],rI 9])):=by
 unfold kdL at hu
 have hw:IntKind.i64.wrap (((sb.length:Nat):Int) - (tl:Int))=((sb.length:Nat):Int) - (tl:Int):=wrapi (by omega)
 have hw2:IntKind.i64.wrap (16+65536)=65552:=by rw [wrapi (by omega)];rfl
 by_cases hsp:sp=p
 · subst hsp
   have f1:(sp=sp)=True:=eq_true rfl
   by_cases hsv:sv=v∨sv=0∨v=0
   · rw [if_pos ⟨rfl,hsv⟩]
     have hcase:(((sv=v)=True)∧((sv=v)=True)∧((sv=v)=True))∨(((sv=v)=False)∧((sv=0)=True)∧((sv=0)=True))∨(((sv=v)=False)∧((sv=0)=False)∧((v=0)=True)):=by
      by_cases h1:sv=v
      · exact .inl ⟨eq_true h1,eq_true h1,eq_true h1⟩
      by_cases h2:sv=0
      · exact .inr (.inl ⟨eq_false h1,eq_true h2,eq_true h2⟩)
      exact .inr (.inr ⟨eq_false h1,eq_false h2,eq_true ((hsv.resolve_left h1).resolve_left h2)⟩)
     by_cases c1:sb.length<16+tl
     · have n1:(((sb.length:Nat):Int) - (tl:Int) <16)=True:=eq_true (by omega)
       rw [if_pos c1]
       rcases hcase with ⟨g1,g2,g3⟩ | ⟨g1,g2,g3⟩ | ⟨g1,g2,g3⟩
       all_goals
        refine q0t rfl rfl ?_
        refine rQ fi36 ?_
        refine q0a hu ?_
        refine uQ 600 _ ?_
        simp (maxSteps:=3000000) only [f1,g1,g2,g3,hw,n1,go_sem,↓zA,↓reduceIte,↓reduceDIte] <;>try simp only [zB]
     have n1:(((sb.length-tl:Nat):Int) <16)=False:=eq_false (by omega)
     have n0:((sb.length:Nat):Int) - (tl:Int)=((sb.length-tl:Nat):Int):=by omega
     rw [n0] at hw
     rw [if_neg c1]
     by_cases c2:65552+tl<sb.length
     · have n2:(65552< ((sb.length-tl:Nat):Int))=True:=eq_true (by omega)
       rw [if_pos c2]
       rcases hcase with ⟨g1,g2,g3⟩ | ⟨g1,g2,g3⟩ | ⟨g1,g2,g3⟩
       all_goals
        refine q0t rfl rfl ?_
        refine rQ fi36 ?_
        refine q0a hu ?_
        refine uQ 600 _ ?_
        simp (maxSteps:=3000000) only [f1,g1,g2,g3,n0,hw,hw2,n1,n2,go_sem,↓zA,↓reduceIte,↓reduceDIte] <;>try simp only [zB]
     have n2:(65552< ((sb.length-tl:Nat):Int))=False:=eq_false (by omega)
     rw [if_neg c2]
     have hmk:=hmk (by omega) (by omega)
     have hde:=hde (by omega) (by omega)
     have hcl:(List.take (sb.length-tl) sb).length=sb.length-tl:=by rw [List.length_take];omega
     have hdl:(List.drop (sb.length-tl) sb).length=tl:=by rw [List.length_drop];omega
     have htk:(List.take tl mk).length=tl:=by rw [List.length_take];omega
     have hst:List.take sb.length sb=sb:=List.take_length
     have hme:=z7P (List.take tl mk) (List.drop (sb.length-tl) sb) (by omega) (by omega)
     generalize hci:List.take (sb.length-tl) sb=ci at*
     generalize htg:List.drop (sb.length-tl) sb=tg at*
     generalize hmt:List.take tl mk=mt at*
     rcases hcase with ⟨g1,g2,g3⟩ | ⟨g1,g2,g3⟩ | ⟨g1,g2,g3⟩
     all_goals
      refine q0t rfl (by split<;>rfl) ?_
      refine rQ fi36 ?_
      refine q0a hu ?_
      refine uQ 600 _ ?_
      simp (maxSteps:=3000000) only [f1,g1,g2,g3,n0,hw,hw2,n1,n2,Int.toNat_natCast,hst,hci,htg,go_sem,↓zA,↓reduceIte,↓reduceDIte] <;>try simp only [zB]
      refine ⟨⟨by omega,Nat.le_refl _,by omega⟩,⟨by omega,by omega,Nat.le_refl _⟩,?_⟩
      refine q0a (q9j (sp,v,b) u hb2) ?_
      refine uQ 600 _ ?_
      with_reducible refine sxE ?_
      refine q0f (q4m (sp,v,b) u 85 hb2 hb1 (by decide)) ?_
      refine uQ 600 _ ?_
      with_reducible refine sxE ?_
      refine q0f hmk ?_
      refine uQ 600 _ ?_
      simp (maxSteps:=3000000) only [Int.toNat_natCast,hmt,go_sem,↓zA,↓reduceIte,↓reduceDIte] <;>try simp only [zB]
      refine ⟨⟨by omega,Nat.le_refl _,hml⟩,?_⟩
      refine q0f hme ?_
      by_cases c3:mt=tg
      · rw [if_pos c3]
        refine uQ 600 _ ?_
        simp (maxSteps:=3000000) only [c3,go_sem,↓zA,↓reduceIte,↓reduceDIte] <;>try simp only [zB]
        refine q0f (q4m (sp,v,b) u 170 hb2 hb1 (by decide)) ?_
        refine uQ 600 _ ?_
        with_reducible refine sxE ?_
        refine q0f hde ?_
        refine uQ 600 _ ?_
        with_reducible refine sxE ?_;trivial
      rw [if_neg c3]
      refine uQ 600 _ ?_
      simp (maxSteps:=3000000) only [c3,go_sem,↓zA,↓reduceIte,↓reduceDIte] <;>try simp only [zB]
   rw [if_neg (fun h=>hsv h.2)]
   have g1:(sv=v)=False:=eq_false fun h=>hsv (.inl h)
   have g2:(sv=0)=False:=eq_false fun h=>hsv (.inr (.inl h))
   have g3:(v=0)=False:=eq_false fun h=>hsv (.inr (.inr h))
   refine q0t rfl rfl ?_
   refine rQ fi36 ?_
   refine q0a hu ?_
   refine uQ 600 _ ?_
   simp (maxSteps:=3000000) only [f1,g1,g2,g3,go_sem,↓zA,↓reduceIte,↓reduceDIte] <;>try simp only [zB]
 have f1:(sp=p)=False:=eq_false hsp
 rw [if_neg (fun h=>hsp h.1)]
 refine q0t rfl rfl ?_
 refine rQ fi36 ?_
 refine q0a hu ?_
 refine uQ 600 _ ?_
 simp (maxSteps:=3000000) only [f1,go_sem,↓zA,↓reduceIte,↓reduceDIte] <;>try simp only [zB]
theorem j2R (k:Key) (u:Nat) (conf plain:List UInt8) (ho:KeyT.ok k):PC Tryz.prog 17 [.agg (KeyT.cells k),rI u,.isl .u8 conf,.isl .u8 plain] (slO k u conf plain):=by
 have hu:=z2p k u ho
 have hf:= @q2z k u
 have hd1:=q8e k u 170
 have hd2:=q8e k u 85
 unfold slO
 by_cases hok:uOk k u=true
 · obtain ⟨hv,hu',hbl,hb32,hb1,hb2⟩:=hf hok
   rw [if_pos hok,if_pos hok] at hu
   by_cases hcl:conf.length=16∧plain.length≤65536
   · rw [if_pos ⟨hok,hcl⟩]
     have hse:seS k u conf plain=ciS k u conf plain++tg9S k u (ciS k u conf plain):=rfl
     have hcil:=z1k k u conf plain hcl.1
     rw [hse]
     by_cases hp:k.1=1
     · have hcd:ciS k u conf plain=ctsE (dkS k u 170) z16 (conf++plain):=if_pos hp
       have htd:tg9S k u (ciS k u conf plain)=(hmS (dkS k u 85) (z16++ciS k u conf plain)).take 16:=if_pos hp
       have hen:=z4D (dkS k u 170) conf plain (by rw [hd1,hb1 hp]) hcl.1 hcl.2
       have hmk:=q9g (dkS k u 85) (ciS k u conf plain) (by omega) (by omega)
       rw [←hcd] at hen
       rw [htd]
       have hml:=q2Q (dkS k u 85) (z16++ciS k u conf plain)
       generalize hmS (dkS k u 85) (z16++ciS k u conf plain)=mk at*
       generalize ciS k u conf plain=ci at*
       obtain ⟨p,v,b⟩:=k
       dsimp only at*
       subst hp
       exact z0t name1 16 16 114 115 116 1 v b u conf plain ci mk hu (by have:=hb1 rfl;omega) (by omega) hcl.1 hcl.2 hen hmk (by omega) (by omega) (by omega)
     obtain ⟨hp2,hb3⟩:=hb2 hp
     have hcd:ciS k u conf plain=conf++ksS (dkS k u 170) conf plain:=if_neg hp
     have htd:tg9S k u (ciS k u conf plain)=hmS (dkS k u 85) (ciS k u conf plain):=if_neg hp
     have hen:=z7n (dkS k u 170) conf plain (by omega) (by omega) (by omega)
     have hmk:=z0e (dkS k u 85) (ciS k u conf plain) (by omega) (by omega)
     rw [←hcd] at hen
     rw [htd]
     have hml:=q2Q (dkS k u 85) (ciS k u conf plain)
     generalize hmS (dkS k u 85) (ciS k u conf plain)=mk at*
     generalize ciS k u conf plain=ci at*
     obtain ⟨p,v,b⟩:=k
     dsimp only at*
     subst hp2
     have:=z0t name2 32 32 117 118 119 2 v b u conf plain ci mk hu (by omega) (by omega) hcl.1 hcl.2 hen hmk (by omega) (by omega) (by omega)
     rwa [List.take_of_length_le (by omega)] at this
   rw [if_neg (fun h=>hcl h.2)]
   have hkk:kindOf k.1=kind1∨kindOf k.1=kind2:=by
    unfold kindOf
    by_cases hp:k.1=1
    · rw [if_pos hp];exact .inl rfl
    rw [if_neg hp,if_pos (hb2 hp).1];exact .inr rfl
   generalize kindOf k.1=kv at*
   obtain ⟨p,v,b⟩:=k
   rcases hkk with rfl|rfl
   all_goals
    by_cases hc:conf.length=16
    · have f1:(((conf.length:Nat):Int)=16)=True:=eq_true (by omega)
      have f2:(65536< ((plain.length:Nat):Int))=True:=eq_true (by omega)
      refine q0t rfl rfl ?_
      refine rQ fi17 ?_
      refine q0a hu ?_
      refine uQ 600 _ ?_
      simp (maxSteps:=3000000) only [kind1,kind2,f1,f2,go_sem,↓zA,↓reduceIte,↓reduceDIte] <;>try simp only [zB]
    have f1:(((conf.length:Nat):Int)=16)=False:=eq_false (by omega)
    refine q0t rfl rfl ?_
    refine rQ fi17 ?_
    refine q0a hu ?_
    refine uQ 600 _ ?_
    simp (maxSteps:=3000000) only [kind1,kind2,f1,go_sem,↓zA,↓reduceIte,↓reduceDIte] <;>try simp only [zB]
 rw [if_neg (fun h=>hok h.1)]
 rw [if_neg hok,if_neg hok] at hu
 obtain ⟨p,v,b⟩:=k
 refine q0t rfl rfl ?_
 refine rQ fi17 ?_
 refine q0a hu ?_
 refine uQ 600 _ ?_
 simp (maxSteps:=3000000) only [kindZ,go_sem,↓zA,↓reduceIte,↓reduceDIte] <;>try simp only [zB]
theorem j2x (k:Key) (u:Nat) (sp sv:Int) (sb:List UInt8) (ho:KeyT.ok k) (hs:sb.length≤1099511627776):PC Tryz.prog 36 [.agg (KeyT.cells k),rI u,.agg [rI sp,rI sv,.isl .u8 sb]] (.tup [.isl .u8 (opS k u sp sv sb).1,rI (opS k u sp sv sb).2]):=by
 have hu:=z2p k u ho
 have hf:= @q2z k u
 have hd1:=q8e k u 170
 have hd2:=q8e k u 85
 unfold opS
 by_cases hok:uOk k u=true
 · obtain ⟨hv,hu',hbl,hb32,hb1,hb2⟩:=hf hok
   rw [if_pos hok,if_pos hok] at hu
   rw [if_pos hok]
   have hcl:(sb.take (sb.length-k.2.2.length)).length≤sb.length-k.2.2.length:=List.length_take_le _ _
   have hcl2:16+k.2.2.length≤sb.length→(sb.take (sb.length-k.2.2.length)).length=sb.length-k.2.2.length:=fun _=>by rw [List.length_take];omega
   unfold tg9S unS
   by_cases hp:k.1=1
   · rw [if_pos hp,if_pos hp]
     have hbb:=hb1 hp
     have hmk:=fun (h1:16+k.2.2.length≤sb.length) (h2:sb.length≤65552+k.2.2.length)=>q9g (dkS k u 85) (sb.take (sb.length-k.2.2.length)) (by omega) (by omega)
     have hde:=fun (h1:16+k.2.2.length≤sb.length) (h2:sb.length≤65552+k.2.2.length)=>z6v (dkS k u 170) (sb.take (sb.length-k.2.2.length)) (by rw [hd1,hbb]) (by rw [hcl2 h1];omega) (by omega)
     have hml:=q2Q (dkS k u 85) (z16++sb.take (sb.length-k.2.2.length))
     obtain ⟨p,v,b⟩:=k
     dsimp only at*
     subst hp
     have hb11:1≤b.length∧b.length≤64:=by omega
     rw [hbb] at hmk hde hml⊢
     refine z9P (q9q name1 16 16 114 115 116 1 v b u sp sv sb _ _ hu hb11.1 hb11.2 (by omega) hs hmk hde (by omega) (by omega)) ?_
     repeat' split
     all_goals rfl
   rw [if_neg hp,if_neg hp]
   obtain ⟨hp2,hbb⟩:=hb2 hp
   have hmk:=fun (h1:16+k.2.2.length≤sb.length) (h2:sb.length≤65552+k.2.2.length)=>z0e (dkS k u 85) (sb.take (sb.length-k.2.2.length)) (by omega) (by omega)
   have hde:=fun (h1:16+k.2.2.length≤sb.length) (h2:sb.length≤65552+k.2.2.length)=>z5X (dkS k u 170) (sb.take (sb.length-k.2.2.length)) (by omega) (by rw [hcl2 h1];omega) (by omega)
   have hml:=q2Q (dkS k u 85) (sb.take (sb.length-k.2.2.length))
   obtain ⟨p,v,b⟩:=k
   dsimp only at*
   subst hp2
   have hb11:1≤b.length∧b.length≤64:=by omega
   rw [hbb] at hmk hde hml⊢
   refine z9P (q9q name2 32 32 117 118 119 2 v b u sp sv sb _ _ hu hb11.1 hb11.2 (by omega) hs hmk hde (by omega) (by omega)) ?_
   rw [List.take_of_length_le (show (hmS (dkS (2,v,b) u 85) (sb.take (sb.length-32))).length≤32 by omega)]
   repeat' split
   all_goals rfl
 rw [if_neg hok]
 rw [if_neg hok,if_neg hok] at hu
 obtain ⟨p,v,b⟩:=k
 refine q0t rfl rfl ?_
 refine rQ fi36 ?_
 refine q0a hu ?_
 refine uQ 600 _ ?_
 simp (maxSteps:=3000000) only [kindZ,go_sem,↓zA,↓reduceIte,↓reduceDIte] <;>try simp only [zB]
theorem q8J (v:Int) (b:List UInt8) (u:Nat) (sp sv:Int) (sb:List UInt8):opS (2,v,b) u sp sv sb=opS2 (2,v,b) u sp sv sb:=by
 have h1:∀c,tg9S (2,v,b) u c=hmS (dkS (2,v,b) u 85) c:=fun c=>if_neg (show ¬((2:Int)=1) by decide)
 have h2:∀c,unS (2,v,b) u c=ksS (dkS (2,v,b) u 170) (c.take 16) (c.drop 16):=fun c=>if_neg (show ¬((2:Int)=1) by decide)
 unfold opS opS2
 by_cases h:uOk (2,v,b) u=true
 · have hl:b.length=32:=((q2z h).2.2.2.2.2 (show (2:Int)≠1 by decide)).2
   simp only [h1,h2,hl]
 rw [if_neg h,if_neg h]
theorem j1h (v:Int) (b:List UInt8) (u:Nat) (conf plain:List UInt8):seS (2,v,b) u conf plain=seS2 (2,v,b) u conf plain:=by
 have h1:∀c,tg9S (2,v,b) u c=hmS (dkS (2,v,b) u 85) c:=fun c=>if_neg (show ¬((2:Int)=1) by decide)
 have h2:ciS (2,v,b) u conf plain=ciS2 (2,v,b) u conf plain:=if_neg (show ¬((2:Int)=1) by decide)
 unfold seS seS2
 rw [h1,h2]
end Go.Proofs.YtikapabgggphpaaGreatDoor
namespace Go.Proofs.YtikapabgggphpaaGreatDoor
open Go Go.Sx Go.Proofs
set_option maxRecDepth 100000
set_option maxHeartbeats 4000000
def byteOf (x:Int):UInt8:=UInt8.ofNat (IntKind.u8.wrap x).toNat
theorem u8wrap (x:Int):0≤IntKind.u8.wrap x∧IntKind.u8.wrap x<256:=by
 have h:IntKind.u8.wrap x=x%256:=by simp [IntKind.wrap,IntKind.bits,IntKind.signed]
 rw [h]
 omega
theorem q4Q (x:Int):((UInt8.ofNat (IntKind.u8.wrap x).toNat).toNat:Int)=IntKind.u8.wrap x:=by
 have:=u8wrap x
 rw [UInt8.toNat_ofNat'];omega
theorem j3v (c:UInt8):((UInt8.ofNat c.toNat).toNat:Int)=c.toNat:=by simp
def lenS (n:Nat):List UInt8:=
 if n<128 then [byteOf n] else if n<256 then [129,byteOf n] else if n<65536 then [130,byteOf ((n:Int).fdiv 256),byteOf n] else [131,byteOf ((n:Int).fdiv 65536),byteOf ((n:Int).fdiv 256),byteOf n]
def tlv (tag:UInt8) (c:List UInt8):List UInt8:=tag :: (lenS c.length++c)
def elemS (tag:UInt8) (parts:List (List UInt8)):List UInt8:=if parts.flatten.length≤16777215 then tlv tag parts.flatten else []
def flatN (parts:List (List UInt8)) (i:Nat):List UInt8:=(parts.take i).flatten
theorem q5g {parts:List (List UInt8)} {i:Nat} (h:i<parts.length):flatN parts (i+1)=flatN parts i++parts.getD i (Ty.slice .u8).dflt:=by
 unfold flatN;rw [q3E (d:=(Ty.slice .u8).dflt) h];simp
theorem q9H (parts:List (List UInt8)):flatN parts parts.length=parts.flatten:=by unfold flatN;rw [List.take_length]
theorem q8m (parts:List (List UInt8)) (i:Nat):(flatN parts i).length≤parts.flatten.length:=by
 unfold flatN
 have:=congrArg List.flatten (List.take_append_drop i parts)
 rw [List.flatten_append] at this
 rw [←this];simp
def fitAt (parts:List (List UInt8)) (j:Nat):Bool:=decide ((flatN parts (j+1)).length≤16777215)

theorem z6i (tag:UInt8) (parts:List (List UInt8)) (hp:parts.length≤1125899906842624):PC Tryz.prog 48 [.raw (.int .u8 tag.toNat),.isl (.slice .u8) parts] (.isl .u8 (elemS tag parts)):=by
 refine q0t rfl rfl ?_
 refine rQ fi48 ?_
 refine q3L (fun i=>[(5,rI ((flatN parts i).length)),(13,.raw (.int .i64 ((i:Nat):Int)))]) (parts.length) (fun j=>(fitAt parts) j=true) (by first|decide|simp) (fun i=>rfl) ?_ fun i hi hall=> ?_
 · (with_reducible refine sxE ?_<;>try exact True.intro)
   all_goals (try rfl)
 have hwr:=wsx i (by omega)
 refine gQ ?_
 have bad:i< (parts.length)→(fitAt parts) i=false→allN (parts.length) (fitAt parts)=false:=fun hlt hv=>q1I hlt hv
 have fin:¬i< (parts.length)→allN (parts.length) (fitAt parts)=true:=fun h=>q1N fun j hj=>hall j (by omega)
 try dsimp only at bad fin hall
 have hn:(flatN parts i).length≤16777215:=by
  cases i with
  |zero=>simp [flatN]
  |succ j=>have:=hall j (by omega);simpa [fitAt] using this
 rw [wrapi (n:=16777215- ((flatN parts i).length:Int)) (by omega),wrapi (n:=((flatN parts i).length:Int)+5) (by omega)]
 refine ⟨fun hlt=>⟨⟨by omega,hlt⟩,fun hbig=> ?_,fun hfit=> ?_⟩,fun hge=> ?_⟩
 · have h1:=q8m parts (i+1)
   rw [q5g hlt,List.length_append] at h1
   unfold elemS
   rw [if_neg (by omega)]
 · have h2:((flatN parts i).length:Int)+ ((parts.getD i (Ty.slice .u8).dflt).length:Int)=((flatN parts (i+1)).length:Int):=by rw [q5g hlt,List.length_append];rfl
   have h3:(flatN parts (i+1)).length≤16777215:=by omega
   refine ⟨hlt,q5G hall (by simpa [fitAt] using h3),⟨_,rfl⟩,?_⟩
   rw [h2,wrapi (n:=((flatN parts (i+1)).length:Int)) (by omega)]
   with_reducible refine sx1 hwr ?_;trivial
 obtain rfl:i=parts.length:=by omega
 rw [q9H] at*
 have he:elemS tag parts=tag :: (lenS parts.flatten.length++flatN parts parts.length):=by unfold elemS tlv;rw [if_pos hn,q9H]
 refine ⟨⟨by omega,by omega,by omega⟩,j3v tag,fun h1=>⟨q4Q _,?_⟩,fun h1=>⟨fun h2=>⟨?_,?_⟩,fun h2=>⟨fun h3=>⟨?_,?_⟩,fun h3=>⟨?_,?_⟩⟩⟩⟩
 any_goals (repeat' (first|exact q4Q _|exact rfl|with_reducible refine And.intro ?_ ?_))
 have hL:lenS parts.flatten.length= [byteOf parts.flatten.length]:=by unfold lenS;rw [if_pos (by omega)]
 rotate_left
 have hL:lenS parts.flatten.length= [129,byteOf parts.flatten.length]:=by unfold lenS;rw [if_neg (by omega),if_pos (by omega)]
 rotate_left
 have hL:lenS parts.flatten.length= [130,byteOf ((parts.flatten.length:Int).fdiv 256),byteOf parts.flatten.length]:=by unfold lenS;rw [if_neg (by omega),if_neg (by omega),if_pos (by omega)]
 rotate_left
 have hL:lenS parts.flatten.length= [131,byteOf ((parts.flatten.length:Int).fdiv 65536),byteOf ((parts.flatten.length:Int).fdiv 256),byteOf parts.flatten.length]:=by unfold lenS;rw [if_neg (by omega),if_neg (by omega),if_neg (by omega)]
 rotate_left
 all_goals
  refine j1l (H:=[_,_,_,_]) 8 .u8 (fun i=>tag :: (lenS parts.flatten.length++flatN parts i)) (fun i=>[(44,.any),(52,.any),(60,.any),(71,.any),(74,rI i)]) parts.length (fun _=>True) (by rw [hL];simp [flatN,byteOf]) (by simp) rfl (fun i=>rfl) ?_ fun i hi _=> ?_
  · with_reducible refine sx1 hL ?_
    simp [flatN]
  have hwr:=wsx i (by omega)
  have hfl:=q8m parts i
  have hll:(lenS parts.flatten.length).length≤4:=by rw [hL];simp
  refine gQ ?_
  have e1:(lenS parts.flatten.length++flatN parts i).length=(lenS parts.flatten.length).length+ (flatN parts i).length:=List.length_append
  refine ⟨fun hlt=> ?_,fun hge=> ?_⟩
  · have h4:=q8m parts (i+1)
    have h5:=q5g hlt
    rw [h5,List.length_append] at h4
    refine ⟨⟨by omega,hlt⟩,⟨by omega,by omega⟩,q4o [.dead] [] hlt trivial (by rw [h5,←List.append_assoc];rfl) ?_⟩
    with_reducible refine sx3 hwr h5 ?_
    exact congrArg (SV.bld 5 .u8) (by omega)
  obtain rfl:i=parts.length:=by omega
  rw [List.take_of_length_le (Nat.le_refl _)]
  exact ⟨⟨Nat.le_refl _,by omega⟩,he.symm⟩
def byteAt (v:Int) (k:Nat):UInt8:=byteOf (v.fdiv (2^ min (8*k) 64))
def numN (v:Int) (size i:Nat):List UInt8:=(List.range size).map fun j=>if size-1-j<i then byteAt v (size-1-j) else 0
def numS (v:Int) (size:Nat):List UInt8:=(List.range size).map fun j=>byteAt v (size-1-j)
theorem z5p (v:Int) (size:Nat):List.replicate size (0:UInt8)=numN v size 0:=by
 apply List.ext_getElem
 · simp [numN]
 intro j h1 h2;simp [numN]
theorem z9p (v:Int) (size:Nat):numN v size size=numS v size:=by
 apply List.ext_getElem
 · simp [numN,numS]
 intro j h1 h2
 simp [numN,numS]
 simp [numN] at h1
 intro h;omega
theorem z9l {v:Int} {size i:Nat} (h:i<size):(numN v size i).set (size-1-i) (byteAt v i)=numN v size (i+1):=by
 apply List.ext_getElem
 · simp [numN]
 intro j h1 h2
 simp [numN] at h2
 simp only [numN,List.getElem_set,List.getElem_map,List.getElem_range]
 split
 · rename_i e
   have:size-1-j=i:=by omega
   rw [this,if_pos (by omega)]
 rename_i e
 by_cases h3:size-1-j<i
 · rw [if_pos h3,if_pos (by omega)]
 rw [if_neg h3,if_neg (by omega)]
theorem z2c (v:Int) (size:Nat) (hs:size≤64):PC Tryz.prog 50 [rI v,rI size] (.isl .u8 (numS v size)):=by
 refine q0t rfl rfl ?_
 refine rQ fi50 ?_
 refine ⟨by omega,?_⟩
 refine q0i (ι:=Nat) (fun i=>[(11,rI i)]) (fun i=>[.row .u8 (numN v size i)]) (fun i=>size-i) (fun i=>i≤size) 0 (Nat.zero_le _) (by rw [←z5p];rfl) ?_ ?_
 · with_reducible refine sxE ?_;trivial
 intro i hi
 have w3:IntKind.i64.wrap (8* (i:Int))=((8*i:Nat):Int):=by rw [wrapi (by omega)];rfl
 have hwr:=wsx i (by omega)
 have hln:(numN v size i).length=size:=by simp [numN]
 by_cases hlt:i<size
 · have w1:IntKind.i64.wrap ((size:Int) -1)=((size-1:Nat):Int):=by rw [wrapi (by omega)];omega
   have w2:IntKind.i64.wrap (((size-1:Nat):Int) - (i:Int))=((size-1-i:Nat):Int):=by rw [wrapi (by omega)];omega
   refine uQ 600 _ ?_
   simp (maxSteps:=3000000) only [w1,w2,w3,hln,go_sem,↓zA,↓reduceIte,↓reduceDIte] <;>try simp only [zB]
   refine ⟨fun _=>⟨by omega,⟨by omega,by omega⟩,⟨by omega,q4Q _⟩,i+1,hlt,by dsimp only;omega,?_,?_⟩,fun h=>absurd hlt h⟩
   · dsimp only;rw [←z9l hlt,Nat.zero_add];rfl
   with_reducible refine sx1 hwr ?_;trivial
 refine uQ 600 _ ?_
 with_reducible refine sx1 hln ?_
 refine ⟨fun h=>absurd h hlt,fun _=>⟨⟨by omega,by omega⟩,?_⟩⟩
 obtain rfl:i=size:=by omega
 rw [z9p,List.take_of_length_le (by simp [numS])]
theorem q2D (tag:UInt8) (n:Int) (hn:n=tag.toNat) (parts:List (List UInt8)) (hp:parts.length≤1125899906842624):PC Tryz.prog 48 [.raw (.int .u8 n),.isl (.slice .u8) parts] (.isl .u8 (elemS tag parts)):=by
 subst hn;exact z6i tag parts hp

def restN (v:Int):Nat→Int
 |0=>v
 |k+1=>(restN v k).fdiv 256
def firstN (n:Nat) (q:Nat→Bool):Option Nat:=(List.range n).find? q
theorem z0E {n i:Nat} {q:Nat→Bool} (hi:i<n) (hq:q i=true) (hn:∀j,j<i→q j=false):firstN n q=some i:=by
 unfold firstN
 rw [List.find?_range_eq_some]
 exact ⟨hq,by simpa using hi,fun j hj=>by rw [hn j hj];rfl⟩
theorem q6D {n i:Nat} {q:Nat→Bool} (h:firstN n q=some i):i<n∧q i=true∧∀j,j<i→q j=false:=by
 unfold firstN at h
 rw [List.find?_range_eq_some] at h
 exact ⟨by simpa using h.2.1,h.1,fun j hj=>by simpa using h.2.2 j hj⟩
def oneB (v:Int) (k:Nat):Bool:=decide (-128≤restN v k) && decide (restN v k≤127)
def intSz (v:Int):Nat:=1+ (firstN 9 (oneB v)).getD 0
def intS (v:Int):List UInt8:=if -4611686018427387904≤v∧v≤4611686018427387904 then elemS 2 [numS v (intSz v)] else []
theorem fdiv256 (r:Int):r.fdiv 256=r / 256:=Int.fdiv_eq_ediv_of_nonneg r (by decide)
theorem rest8 {v:Int} (h1: -4611686018427387904≤v) (h2:v≤4611686018427387904):oneB v 8=true:=by
 simp only [oneB,restN,fdiv256,Bool.and_eq_true,decide_eq_true_eq]
 omega
theorem q3i (v:Int):PC Tryz.prog 27 [rI v] (.isl .u8 (intS v)):=by
 refine q0t rfl rfl ?_
 refine rQ fi27 ?_<;>try with_reducible exact True.intro
 repeat' (first
  | (with_reducible refine And.intro ?_ ?_)
  | (with_reducible intro _))
 all_goals (skip)
 · unfold intS;rw [if_neg (by omega)]
 rotate_left
 · unfold intS;rw [if_neg (by omega)]
 rename_i h1 h2
 have h8:=rest8 (v:=v) (by omega) (by omega)
 refine q0i (ι:=Nat) (fun k=>[(3,rI ((1+k:Nat):Int)),(4,rI (restN v k))]) (fun _=>[]) (fun k=>9-k) (fun k=>k≤8∧∀j,j<k→oneB v j=false) 0 ⟨by omega,fun j hj=>absurd hj (by omega)⟩ rfl ?_ ?_
 · simp (maxSteps:=3000000) only [restN,go_sem,↓zA,↓reduceIte,↓reduceDIte] <;>try simp only [zB]
   rfl
 rintro k ⟨hk,hall⟩
 have hwr:IntKind.i64.wrap (((1+k:Nat):Int)+1)=((1+ (k+1):Nat):Int):=by rw [wrapi (by omega)];omega
 refine uQ 600 _ ?_
 with_reducible refine sx1 hwr ?_
 have hp:(2:Int) ^ min 8 64=256:=by decide
 refine ⟨fun h3=>⟨fun h4=> ?_,fun h4=> ?_⟩,fun h3=> ?_⟩
 · have ho:oneB v k=false:=by simp [oneB];omega
   have hk8:k≠8:=fun e=>by subst e;rw [h8] at ho;cases ho
   refine ⟨k+1,⟨by omega,q5G hall ho⟩,by dsimp only;omega,rfl,?_⟩
   simp (maxSteps:=3000000) only [restN,hp,go_sem,↓zA,↓reduceIte,↓reduceDIte] <;>try simp only [zB]
 · have ho:oneB v k=true:=by simp [oneB];omega
   have hz:intSz v=1+k:=by unfold intSz;rw [z0E (by omega) ho hall];rfl
   refine q0a (z2c v (1+k) (by omega)) ?_
   refine gQ ?_
   refine q0p 0 ?_
   with_reducible refine sxE ?_
   refine q0a (q2D 2 2 rfl _ (by simp)) ?_
   refine gQ ?_
   unfold intS
   rw [if_pos (by omega),hz]
 have ho:oneB v k=false:=by simp [oneB];omega
 have hk8:k≠8:=fun e=>by subst e;rw [h8] at ho;cases ho
 refine ⟨k+1,⟨by omega,q5G hall ho⟩,by dsimp only;omega,rfl,?_⟩
 simp (maxSteps:=3000000) only [restN,hp,go_sem,↓zA,↓reduceIte,↓reduceDIte] <;>try simp only [zB]
theorem z9u (b:List UInt8):PC Tryz.prog 86 [.isl .u8 b] (.isl .u8 (elemS 4 [b])):=by
 refine q0t rfl rfl ?_
 refine rQ fi86 ?_
 refine q0p 0 ?_
 with_reducible refine sxE ?_
 refine q0a (q2D 4 4 rfl _ (by simp)) ?_
 refine gQ ?_;trivial
def timeS (t:Int):List UInt8:=if 0≤t∧t≤1099511627776 then elemS 24 [numS t 6] else []
theorem z9O (t:Int):PC Tryz.prog 26 [rI t] (.isl .u8 (timeS t)):=by
 refine q0t rfl rfl ?_
 refine rQ fi26 ?_
 refine ⟨fun h1=>⟨fun h2=> ?_,fun h2=> ?_⟩,fun h1=> ?_⟩
 · unfold timeS;rw [if_neg (by omega)]
 · refine q0a (z2c t 6 (by omega)) ?_
   refine gQ ?_
   refine q0p 0 ?_
   with_reducible refine sxE ?_
   refine q0a (q2D 24 24 rfl _ (by simp)) ?_
   refine gQ ?_
   unfold timeS;rw [if_pos (by omega)]
 unfold timeS;rw [if_neg (by omega)]
theorem q7N (l:List (List UInt8)) (hl:l.length≤1125899906842624):PC Tryz.prog 24 [.isl (.slice .u8) l] (.isl .u8 (elemS 48 l)):=by
 refine q0t rfl rfl ?_
 refine rQ fi24 ?_
 refine q0a (q2D 48 48 rfl _ hl) ?_
 refine gQ ?_;trivial
def wrapS (tag n:Int) (b:List UInt8):List UInt8:=if 0≤n∧n≤30∧b≠ [] then elemS (byteOf (tag+n)) [b] else []
theorem z5B (tag n:Int) (b:List UInt8) (ht:0≤tag∧tag≤1000):PC Tryz.prog 49 [rI tag,rI n,.isl .u8 b] (.isl .u8 (wrapS tag n b)):=by
 refine q0t rfl rfl ?_
 refine rQ fi49 ?_
 refine ⟨fun h1=>⟨fun h2=>⟨fun h3=> ?_,fun h3=> ?_⟩,fun h2=> ?_⟩,fun h1=> ?_⟩
 · unfold wrapS;rw [if_neg (fun h=>h.2.2 (List.length_eq_zero_iff.1 (by omega)))]
 · refine q0p 0 ?_
   with_reducible refine sxE ?_
   refine q0a (q2D (byteOf (tag+n)) _ ?_ _ (by simp)) ?_
   · rw [wrapi (by omega)];exact (q4Q _).symm
   refine gQ ?_
   unfold wrapS
   rw [if_pos ⟨by omega,by omega,fun e=>h3 (by rw [e];rfl)⟩]
 · unfold wrapS;rw [if_neg (by omega)]
 unfold wrapS;rw [if_neg (by omega)]
theorem q4A (n:Int) (b:List UInt8):PC Tryz.prog 25 [rI n,.isl .u8 b] (.isl .u8 (wrapS 160 n b)):=by
 refine q0t rfl rfl ?_
 refine rQ fi25 ?_
 refine q0a (z5B 160 n b (by omega)) ?_
 refine gQ ?_;trivial
def fullAt (l:List (List UInt8)) (j:Nat):Bool:=decide (l.getD j (Ty.slice .u8).dflt≠ [])
def wholeS (l:List (List UInt8)):List UInt8:=if allN l.length (fullAt l) then elemS 48 l else []
theorem j0y (l:List (List UInt8)) (hl:l.length≤1125899906842624):PC Tryz.prog 124 [.isl (.slice .u8) l] (.isl .u8 (wholeS l)):=by
 refine q0t rfl rfl ?_
 refine rQ fi124 ?_
 refine q3L (fun i=>[(7,.raw (.int .i64 ((i:Nat):Int)))]) (l.length) (fun j=>(fullAt l) j=true) (by first|decide|simp) (fun i=>rfl) ?_ fun i hi hall=> ?_
 · (with_reducible refine sxE ?_<;>try exact True.intro)
   all_goals (try rfl)
 have hwr:=wsx i (by omega)
 refine gQ ?_
 have bad:i< (l.length)→(fullAt l) i=false→allN (l.length) (fullAt l)=false:=fun hlt hv=>q1I hlt hv
 have fin:¬i< (l.length)→allN (l.length) (fullAt l)=true:=fun h=>q1N fun j hj=>hall j (by omega)
 try dsimp only at bad fin hall
 refine ⟨fun hlt=>⟨⟨by omega,hlt⟩,fun h0=> ?_,fun h0=> ?_⟩,fun hge=>q0a (q7N l hl) ?_⟩
 · have:fullAt l i=false:=by simp only [fullAt,decide_eq_false_iff_not,ne_eq,Classical.not_not];exact List.length_eq_zero_iff.1 (by omega)
   unfold wholeS;rw [bad hlt this];rfl
 · refine ⟨hlt,q5G hall ?_,⟨_,rfl⟩,?_⟩
   · simp only [fullAt,decide_eq_true_eq];exact fun e=>h0 (by rw [e];rfl)
   with_reducible refine sx1 hwr ?_;trivial
 refine gQ ?_
 unfold wholeS;rw [fin hge];rfl
def tagN (l:List (List UInt8)) (i:Nat):List (List UInt8):=(List.range i).map fun (j:Nat)=>wrapS 160 j (l.getD j (Ty.slice .u8).dflt)
theorem z4O (l:List (List UInt8)) (i:Nat):tagN l (i+1)=tagN l i++ [wrapS 160 i (l.getD i (Ty.slice .u8).dflt)]:=by simp [tagN,List.range_succ]
def fieldsS (l:List (List UInt8)):List UInt8:=wholeS (tagN l l.length)
theorem z8C (l:List (List UInt8)) (hl:l.length≤1048576):PC Tryz.prog 85 [.isl (.slice .u8) l] (.isl .u8 (fieldsS l)):=by
 refine q0t rfl rfl ?_
 refine rQ fi85 ?_
 refine q8d 3 (.slice .u8) (fun i=>tagN l i) (fun i=>[(8,rI i)]) l.length (fun _=>True) rfl (by simp) (by simp [tagN]) rfl (fun i=>rfl) ?_ fun i hi _=> ?_
 · with_reducible refine sxE ?_;trivial
 have hwr:=wsx i (by omega)
 have hln:(tagN l i).length=i:=by simp [tagN]
 have hst:=z4O l i
 refine gQ ?_
 refine ⟨fun hlt=>⟨⟨by omega,hlt⟩,q0a (q4A _ _) ?_⟩,fun hge=> ?_⟩
 · refine gQ ?_
   refine ⟨⟨by omega,by omega⟩,q4o [_,_] [] hlt trivial (by rw [hst];rfl) ?_⟩
   with_reducible refine sx3 hwr hst ?_;trivial
 obtain rfl:i=l.length:=by omega
 refine q0p 0 ?_
 with_reducible refine sxE ?_
 refine ⟨by omega,?_⟩
 rw [List.take_of_length_le (by omega)]
 refine ⟨Nat.le_refl _,q0a (j0y (tagN l l.length) (by omega)) ?_⟩
 refine gQ ?_
 rfl
def keyS (k:Key):List UInt8:=fieldsS [intS k.1,intS k.2.1,elemS 4 [k.2.2]]
theorem z7X (p v:Int) (b:List UInt8):PC Tryz.prog 45 [rI p,rI v,.isl .u8 b] (.isl .u8 (keyS (p,v,b))):=by
 refine q0t rfl rfl ?_
 refine rQ fi45 ?_
 refine q0a (q3i p) ?_
 refine gQ ?_
 refine q0a (q3i v) ?_
 refine gQ ?_
 refine q0a (z9u b) ?_
 refine gQ ?_
 refine q0p 0 ?_
 with_reducible refine sxE ?_
 refine q0a (z8C _ (by simp)) ?_
 refine gQ ?_
 rfl
def beN (l:List UInt8):Nat:=l.foldl (fun v c=>v*256+c.toNat) 0
theorem q5D (l:List UInt8) (i:Nat) (h:i<l.length):beN (l.take (i+1))=beN (l.take i)*256+ (l.getD i 0).toNat:=by
 unfold beN
 rw [List.take_add_one,List.foldl_append,List.getElem?_eq_getElem h,List.getD_eq_getElem?_getD,List.getElem?_eq_getElem h]
 rfl
theorem q6h:∀ (l:List UInt8),beN l<256^ l.length:=by
 intro l
 have:∀ (l:List UInt8) (v:Nat),l.foldl (fun v c=>v*256+c.toNat) v< (v+1)*256^ l.length:=by
  intro l
  induction l with
  |nil=>intro v;simp
  |cons c l ih=>
   intro v
   have h1:=ih (v*256+c.toNat)
   have h2:c.toNat<256:=c.toNat_lt
   simp only [List.foldl_cons,List.length_cons,Nat.pow_succ]
   refine Nat.lt_of_lt_of_le h1 ?_
   have:(v*256+c.toNat+1)*256^ l.length≤((v+1)*256)*256^ l.length:=Nat.mul_le_mul_right _ (by omega)
   calc _≤_:=this
    _=_:=by rw [Nat.mul_assoc,Nat.mul_comm 256]
 have h:=this l 0
 simpa [beN] using h
theorem q8z (v c:Nat) (hv:v<36028797018963968) (hc:c<256):IntKind.i64.wrap ((BitVec.ofInt 64 ((v*256:Nat):Int) |||BitVec.ofInt 64 ((c:Nat):Int)).toNat:Int)=((v*256+c:Nat):Int):=by
 have h1:(BitVec.ofInt 64 ((v*256:Nat):Int)).toNat=v*256:=by rw [BitVec.ofInt_natCast,BitVec.toNat_ofNat];exact Nat.mod_eq_of_lt (by omega)
 have h2:(BitVec.ofInt 64 ((c:Nat):Int)).toNat=c:=by rw [BitVec.ofInt_natCast,BitVec.toNat_ofNat];exact Nat.mod_eq_of_lt (by omega)
 have h3:v*256|||c=v*256+c:=by
  have:=Nat.shiftLeft_add_eq_or_of_lt (b:=c) (i:=8) hc v
  rw [Nat.shiftLeft_eq] at this
  exact this.symm
 rw [BitVec.toNat_or,h1,h2,h3]
 exact wrapi (by omega)
theorem z3M (b:List UInt8) (hb:b.length≤7):PC Tryz.prog 105 [.isl .u8 b] (rI (beN b)):=by
 refine q0q rfl rfl ?_
 refine rQ fi105 ?_
 refine q3L (fun i=>[(2,rI (beN (b.take i))),(7,.raw (.int .i64 ((i:Nat):Int)))]) (b.length) (fun j=>(fun _=>true) j=true) (by first|decide|simp) (fun i=>rfl) ?_ fun i hi hall=> ?_
 · (with_reducible refine sxE ?_<;>try exact True.intro)
   all_goals (try rfl)
 have hwr:=wsx i (by omega)
 refine gQ ?_
 have bad:i< (b.length)→(fun _=>true) i=false→allN (b.length) (fun _=>true)=false:=fun hlt hv=>q1I hlt hv
 have fin:¬i< (b.length)→allN (b.length) (fun _=>true)=true:=fun h=>q1N fun j hj=>hall j (by omega)
 try dsimp only at bad fin hall
 refine ⟨fun hlt=>⟨⟨by omega,hlt⟩,?_⟩,fun hge=> ?_⟩
 · have hv:=q6h (b.take i)
   have hv2:256^ (b.take i).length≤256^ 6:=Nat.pow_le_pow_right (by decide) (by simp;omega)
   have hc:(b.getD i Ty.u8.dflt).toNat<256:=UInt8.toNat_lt _
   have e1:IntKind.i64.wrap ((beN (b.take i):Int)*2^ min 8 64)=((beN (b.take i)*256:Nat):Int):=by
    rw [show ((beN (b.take i):Int)*2^ min 8 64)=((beN (b.take i)*256:Nat):Int) by simp]
    exact wrapi (by omega)
   have e2:IntKind.i64.wrap ((b.getD i Ty.u8.dflt).toNat:Int)=(((b.getD i Ty.u8.dflt).toNat:Nat):Int):=wrapi (by omega)
   have e3:=q8z (beN (b.take i)) (b.getD i Ty.u8.dflt).toNat (by omega) hc
   have e4:=q5D b i hlt
   rw [e1,e2]
   refine ⟨hlt,trivial,⟨[],rfl⟩,?_⟩
   with_reducible refine sx1 hwr ?_
   rw [e4]
   exact congrArg (Value.int .i64) e3
 obtain rfl:i=b.length:=by omega
 rw [List.take_length]
def minLen:Nat→Nat
 |1=>128|2=>256|3=>65536|_=>0
def measE (b:List UInt8) (at_ n:Nat):Nat×Nat×Nat:=if b.length-at_<n then (0,0,4) else (at_,at_+n,0)
def meas (b:List UInt8):Nat×Nat×Nat:=
 if b.length<2 then (0,0,4) else
 if (b.getD 1 0).toNat<128 then measE b 2 (b.getD 1 0).toNat else
 if (b.getD 1 0).toNat-128<1∨3< (b.getD 1 0).toNat-128 then (0,0,6) else
 if b.length<2+ ((b.getD 1 0).toNat-128) then (0,0,4) else
 if beN ((b.drop 2).take ((b.getD 1 0).toNat-128)) <minLen ((b.getD 1 0).toNat-128) then (0,0,6) else
 measE b (2+ ((b.getD 1 0).toNat-128)) (beN ((b.drop 2).take ((b.getD 1 0).toNat-128)))
def measV (m:Nat×Nat×Nat):SV:=.tup [rI m.1,rI m.2.1,rI m.2.2]
theorem z7h (b:List UInt8) (hb:b.length≤1099511627776):PC Tryz.prog 147 [.isl .u8 b] (measV (meas b)):=by
 refine q0q rfl rfl ?_
 have hx:(b.getD 1 Ty.u8.dflt).toNat<256:=UInt8.toNat_lt _
 have e0:IntKind.i64.wrap ((b.getD 1 Ty.u8.dflt).toNat:Int)=(((b.getD 1 Ty.u8.dflt).toNat:Nat):Int):=wrapi (by omega)
 have e1:IntKind.i64.wrap (((b.getD 1 Ty.u8.dflt).toNat:Int) -128)=((b.getD 1 Ty.u8.dflt).toNat:Int) -128:=wrapi (by omega)
 have e2:IntKind.i64.wrap (2+ (((b.getD 1 Ty.u8.dflt).toNat:Int) -128))=2+ (((b.getD 1 Ty.u8.dflt).toNat:Int) -128):=wrapi (by omega)
 have e3:IntKind.i64.wrap ((b.length:Int) -2)=(b.length:Int) -2:=wrapi (by omega)
 have e4:IntKind.i64.wrap (2+ ((b.getD 1 Ty.u8.dflt).toNat:Int))=2+ ((b.getD 1 Ty.u8.dflt).toNat:Int):=wrapi (by omega)
 have hm:∀r,meas b=r→measV (meas b)=measV r:=fun r h=>by rw [h]
 unfold measV
 refine q0G fi147 (q0s mixed 600 _ ?_)
 simp (maxSteps:=3000000) only [ir147,e0,e1,e2,e3,e4,go_sem,↓zA,↓reduceIte,↓reduceDIte] <;>try simp only [zB]
 have hd:b.getD 1 0=b.getD 1 Ty.u8.dflt:=rfl
 generalize hxx:b.getD 1 Ty.u8.dflt=x at*
 refine ⟨fun h=> ?_,fun h=>⟨by omega,fun h2=>⟨fun h3=>⟨fun h4=> ?_,fun h4=>⟨fun h5=> ?_,fun h5=>⟨⟨by omega,by omega,by omega⟩,?_⟩⟩⟩,fun h3=> ?_⟩,fun h2=>⟨fun h3=> ?_,fun h3=> ?_⟩⟩⟩
 · have:meas b=(0,0,4):=by unfold meas;rw [if_pos (by omega)]
   rw [this];rfl
 · have:meas b=(0,0,6):=by unfold meas;rw [hd,if_neg (by omega),if_neg (by omega),if_pos (by omega)]
   rw [this];rfl
 · have:meas b=(0,0,4):=by unfold meas;rw [hd,if_neg (by omega),if_neg (by omega),if_neg (by omega),if_pos (by omega)]
   rw [this];rfl
 · obtain ⟨m,hxm⟩:∃m:Nat,(x.toNat:Int) -128=(m:Int):=⟨x.toNat-128,by omega⟩
   have hm3:1≤m∧m≤3:=by omega
   have ht2:((2:Int)+ (m:Int)).toNat=2+m:=by omega
   have hll:(List.drop 2 (List.take (2+m) b)).length=m:=by simp;omega
   rw [hxm,ht2,hll]
   generalize hL:List.drop 2 (List.take (2+m) b)=L at*
   have hmq:∀v,beN L=v→meas b=(if v<minLen m then (0,0,6) else measE b (2+m) v):=fun v hv=>by
    have hLx:(b.drop 2).take m=L:=by rw [←hL,List.drop_take];congr 1;omega
    unfold meas
    rw [hd,show x.toNat-128=m by omega,if_neg (by omega),if_neg (by omega),if_neg (by omega),if_neg (by omega),hLx,hv]
   rcases (by omega:m=1∨m=2∨m=3) with rfl|rfl|rfl
   · refine q3L (fun i=>[(5,rI (beN (L.take i))),(39,.raw (.int .i64 ((i:Nat):Int)))]) (1) (fun j=>(fun _=>true) j=true) (by first|decide|simp) (fun i=>rfl) ?_ fun i hi hall=> ?_
     · (with_reducible refine sxE ?_<;>try exact True.intro)
       all_goals (try rfl)
     have hwr:=wsx i (by omega)
     refine gQ ?_
     have bad:i< (1)→(fun _=>true) i=false→allN (1) (fun _=>true)=false:=fun hlt hv=>q1I hlt hv
     have fin:¬i< (1)→allN (1) (fun _=>true)=true:=fun h=>q1N fun j hj=>hall j (by omega)
     try dsimp only at bad fin hall
     refine ⟨fun hlt=>⟨⟨by omega,by omega⟩,?_⟩,fun hge=> ?_⟩
     · have hv:=q6h (L.take i)
       have hv2:256^ (L.take i).length≤256^ 6:=Nat.pow_le_pow_right (by decide) (by simp;omega)
       have hc:(L.getD i Ty.u8.dflt).toNat<256:=UInt8.toNat_lt _
       have e1:IntKind.i64.wrap ((beN (L.take i):Int)*2^ min 8 64)=((beN (L.take i)*256:Nat):Int):=by
        rw [show ((beN (L.take i):Int)*2^ min 8 64)=((beN (L.take i)*256:Nat):Int) by simp]
        exact wrapi (by omega)
       have e2:IntKind.i64.wrap ((L.getD i Ty.u8.dflt).toNat:Int)=(((L.getD i Ty.u8.dflt).toNat:Nat):Int):=wrapi (by omega)
       have e3:=q8z (beN (L.take i)) (L.getD i Ty.u8.dflt).toNat (by omega) hc
       have e4:=q5D L i (by omega)
       rw [e1,e2]
       refine ⟨hlt,trivial,⟨[],rfl⟩,?_⟩
       with_reducible refine sx1 hwr ?_
       rw [e4]
       exact congrArg (Value.int .i64) e3
     rw [List.take_of_length_le (by omega:L.length≤i)]
     have hv:=q6h L
     rw [hll] at hv
     have hv3:beN L<16777216:=by omega
     have w1:IntKind.i64.wrap ((b.length:Int) - (2+ ((1:Nat):Int)))=(b.length:Int) - (2+ ((1:Nat):Int)):=wrapi (by omega)
     have w2:IntKind.i64.wrap (2+ ((1:Nat):Int)+ (beN L:Int))=((2+1+beN L:Nat):Int):=by rw [wrapi (by omega)];omega
     rw [w1,w2]
     refine ⟨by decide,fun q=> ?_,fun q=>⟨fun q2=> ?_,fun q2=> ?_⟩⟩
     · rw [hmq _ rfl,if_pos (by simp only [minLen];omega)];rfl
     · rw [hmq _ rfl,if_neg (by simp only [minLen];omega)];unfold measE;rw [if_pos (by omega)];rfl
     rw [hmq _ rfl,if_neg (by simp only [minLen];omega)];unfold measE;rw [if_neg (by omega)];rfl
   · refine q3L (fun i=>[(5,rI (beN (L.take i))),(39,.raw (.int .i64 ((i:Nat):Int)))]) (2) (fun j=>(fun _=>true) j=true) (by first|decide|simp) (fun i=>rfl) ?_ fun i hi hall=> ?_
     · (with_reducible refine sxE ?_<;>try exact True.intro)
       all_goals (try rfl)
     have hwr:=wsx i (by omega)
     refine gQ ?_
     have bad:i< (2)→(fun _=>true) i=false→allN (2) (fun _=>true)=false:=fun hlt hv=>q1I hlt hv
     have fin:¬i< (2)→allN (2) (fun _=>true)=true:=fun h=>q1N fun j hj=>hall j (by omega)
     try dsimp only at bad fin hall
     refine ⟨fun hlt=>⟨⟨by omega,by omega⟩,?_⟩,fun hge=> ?_⟩
     · have hv:=q6h (L.take i)
       have hv2:256^ (L.take i).length≤256^ 6:=Nat.pow_le_pow_right (by decide) (by simp;omega)
       have hc:(L.getD i Ty.u8.dflt).toNat<256:=UInt8.toNat_lt _
       have e1:IntKind.i64.wrap ((beN (L.take i):Int)*2^ min 8 64)=((beN (L.take i)*256:Nat):Int):=by
        rw [show ((beN (L.take i):Int)*2^ min 8 64)=((beN (L.take i)*256:Nat):Int) by simp]
        exact wrapi (by omega)
       have e2:IntKind.i64.wrap ((L.getD i Ty.u8.dflt).toNat:Int)=(((L.getD i Ty.u8.dflt).toNat:Nat):Int):=wrapi (by omega)
       have e3:=q8z (beN (L.take i)) (L.getD i Ty.u8.dflt).toNat (by omega) hc
       have e4:=q5D L i (by omega)
       rw [e1,e2]
       refine ⟨hlt,trivial,⟨[],rfl⟩,?_⟩
       with_reducible refine sx1 hwr ?_
       rw [e4]
       exact congrArg (Value.int .i64) e3
     rw [List.take_of_length_le (by omega:L.length≤i)]
     have hv:=q6h L
     rw [hll] at hv
     have hv3:beN L<16777216:=by omega
     have w1:IntKind.i64.wrap ((b.length:Int) - (2+ ((2:Nat):Int)))=(b.length:Int) - (2+ ((2:Nat):Int)):=wrapi (by omega)
     have w2:IntKind.i64.wrap (2+ ((2:Nat):Int)+ (beN L:Int))=((2+2+beN L:Nat):Int):=by rw [wrapi (by omega)];omega
     rw [w1,w2]
     refine ⟨by decide,fun q=> ?_,fun q=>⟨fun q2=> ?_,fun q2=> ?_⟩⟩
     · rw [hmq _ rfl,if_pos (by simp only [minLen];omega)];rfl
     · rw [hmq _ rfl,if_neg (by simp only [minLen];omega)];unfold measE;rw [if_pos (by omega)];rfl
     rw [hmq _ rfl,if_neg (by simp only [minLen];omega)];unfold measE;rw [if_neg (by omega)];rfl
   refine q3L (fun i=>[(5,rI (beN (L.take i))),(39,.raw (.int .i64 ((i:Nat):Int)))]) (3) (fun j=>(fun _=>true) j=true) (by first|decide|simp) (fun i=>rfl) ?_ fun i hi hall=> ?_
   · (with_reducible refine sxE ?_<;>try exact True.intro)
     all_goals (try rfl)
   have hwr:=wsx i (by omega)
   refine gQ ?_
   have bad:i< (3)→(fun _=>true) i=false→allN (3) (fun _=>true)=false:=fun hlt hv=>q1I hlt hv
   have fin:¬i< (3)→allN (3) (fun _=>true)=true:=fun h=>q1N fun j hj=>hall j (by omega)
   try dsimp only at bad fin hall
   refine ⟨fun hlt=>⟨⟨by omega,by omega⟩,?_⟩,fun hge=> ?_⟩
   · have hv:=q6h (L.take i)
     have hv2:256^ (L.take i).length≤256^ 6:=Nat.pow_le_pow_right (by decide) (by simp;omega)
     have hc:(L.getD i Ty.u8.dflt).toNat<256:=UInt8.toNat_lt _
     have e1:IntKind.i64.wrap ((beN (L.take i):Int)*2^ min 8 64)=((beN (L.take i)*256:Nat):Int):=by
      rw [show ((beN (L.take i):Int)*2^ min 8 64)=((beN (L.take i)*256:Nat):Int) by simp]
      exact wrapi (by omega)
     have e2:IntKind.i64.wrap ((L.getD i Ty.u8.dflt).toNat:Int)=(((L.getD i Ty.u8.dflt).toNat:Nat):Int):=wrapi (by omega)
     have e3:=q8z (beN (L.take i)) (L.getD i Ty.u8.dflt).toNat (by omega) hc
     have e4:=q5D L i (by omega)
     rw [e1,e2]
     refine ⟨hlt,trivial,⟨[],rfl⟩,?_⟩
     with_reducible refine sx1 hwr ?_
     rw [e4]
     exact congrArg (Value.int .i64) e3
   rw [List.take_of_length_le (by omega:L.length≤i)]
   have hv:=q6h L
   rw [hll] at hv
   have hv3:beN L<16777216:=by omega
   have w1:IntKind.i64.wrap ((b.length:Int) - (2+ ((3:Nat):Int)))=(b.length:Int) - (2+ ((3:Nat):Int)):=wrapi (by omega)
   have w2:IntKind.i64.wrap (2+ ((3:Nat):Int)+ (beN L:Int))=((2+3+beN L:Nat):Int):=by rw [wrapi (by omega)];omega
   rw [w1,w2]
   refine ⟨by decide,fun q=> ?_,fun q=>⟨fun q2=> ?_,fun q2=> ?_⟩⟩
   · rw [hmq _ rfl,if_pos (by simp only [minLen];omega)];rfl
   · rw [hmq _ rfl,if_neg (by simp only [minLen];omega)];unfold measE;rw [if_pos (by omega)];rfl
   rw [hmq _ rfl,if_neg (by simp only [minLen];omega)];unfold measE;rw [if_neg (by omega)];rfl
 · have:meas b=(0,0,6):=by unfold meas;rw [hd,if_neg (by omega),if_neg (by omega),if_pos (by omega)]
   rw [this];rfl
 · have:meas b=(0,0,4):=by unfold meas;rw [hd,if_neg (by omega),if_pos (by omega)];unfold measE;rw [if_pos (by omega)]
   rw [this];rfl
 have:meas b=(2,2+x.toNat,0):=by unfold meas;rw [hd,if_neg (by omega),if_pos (by omega)];unfold measE;rw [if_neg (by omega)]
 rw [this];rfl
end Go.Proofs.YtikapabgggphpaaGreatDoor
