/- Timestamps: contracts: the reference reads plaintexts. -/
import Derived.Test.YtikapabgggphpaaGreatDoorS32
set_option linter.all false
namespace Go.Proofs.YtikapabgggphpaaGreatDoor
open Go Go.Sx Go.Proofs
set_option maxRecDepth 100000
set_option maxHeartbeats 40000000
def inE(m:Nat)(r:List UInt8):Nat:=if nextB m r=true then takeE (tagB m) r else 6
theorem q9Y(b:List UInt8)(a n:Nat)(hn:n≤30)(ha:a≤b.length)(hb:b.length≤1099511627776):PC Tryz.prog 78 [.isl .u8 b,rI a,rI n] (if inE n (b.drop a)=0 then .tup [.isl .u8 (takeC (b.drop a)),rI ((a+takeN (b.drop a):Nat):Int),rI 0] else .tup [.isl .u8 [],rI a,rI (inE n (b.drop a):Nat)]):=by
 have ht:=z1o b a n hn ha hb;unfold rdR at ht;have hl:(b.drop a).length=b.length-a:=Al;have h0:(b.drop a).getD 0 0=b.getD a 0:=by simp [Aa]
 have hi:inE n (b.drop a)=if nextB n (b.drop a)=true then takeE (tagB n) (b.drop a) else 6:=rfl;have hnb:nextB n (b.drop a)=(decide (b.length-a≠0) && decide (b.getD a 0=tagB n)):=by unfold nextB;rw [hl,h0]
 have w:IntKind.i64.wrap (160+ (n:Int))=160+ (n:Int):=wrapi (by omega)
 have hd:b.getD a Ty.u8.dflt=b.getD a 0:=rfl;have hx:(b.getD a 0).toNat<256:=Bj _;have htn:= @z4z n hn;have e0:IntKind.i64.wrap (((b.getD a 0).toNat:Nat):Int)=(((b.getD a 0).toNat:Nat):Int):=wrapi (by omega)
 by_cases c0:b.length≤a
 · have f0:(((b.length:Nat):Int)≤((a:Nat):Int))=True:=eq_true (by omega)
   have hf:nextB n (b.drop a)=false:=by rw [hnb];simp;omega
   rw [show inE n (b.drop a)=6 by rw [hi,hf];rfl,if_neg (by decide)]
   refine q0i rfl rfl ?_;refine ry1 fi78 f0 ?_;first|rfl|trivial
 have f0:(((b.length:Nat):Int)≤((a:Nat):Int))=False:=eq_false (by omega)
 by_cases c1:b.getD a 0=tagB n
 · have f1:((((b.getD a 0).toNat:Nat):Int)=160+ (n:Int))=True:=eq_true (by rw [c1,htn];omega)
   have hf:nextB n (b.drop a)=true:=by rw [hnb,c1];simp;omega
   rw [show inE n (b.drop a)=takeE (tagB n) (b.drop a) by rw [hi,hf];rfl]
   by_cases c2:takeE (tagB n) (b.drop a)=0
   · rw [if_pos c2] at ht⊢;refine q0i rfl rfl ?_;refine ry5 fi78 f0 hd e0 w f1 ?_;refine ⟨by omega,q0a ht ?_⟩
     refine gQ ?_;trivial
   rw [if_neg c2] at ht⊢;refine q0i rfl rfl ?_;refine ry5 fi78 f0 hd e0 w f1 ?_;refine ⟨by omega,q0a ht ?_⟩
   refine gQ ?_;trivial
 have f1:((((b.getD a 0).toNat:Nat):Int)=160+ (n:Int))=False:=eq_false (fun h=>c1 (BF.mp (by omega)))
 have hf:nextB n (b.drop a)=false:=by rw [hnb,decide_eq_false c1,Bool.and_false]
 rw [show inE n (b.drop a)=6 by rw [hi,hf];rfl,if_neg (by decide)]
 refine q0i rfl rfl ?_;refine ry5 fi78 f0 hd e0 w f1 ?_;exact ⟨by omega,rfl⟩
def rdF(p:List UInt8):Int×Int×Int:=match rdT p with
 |.error e=>(0,0,(e:Int))
 |.ok (t,m)=>if m<0∨999999<m then (0,0,3) else (t,m,0)
def rfO(x:Int×Int×Int):SV:=.tup [rI x.1,rI x.2.1,rI x.2.2]
attribute [go_sem] rfO
theorem j0L{m:Nat}{r:List UInt8}(h:inE m r≠0)(P:List UInt8→Except Nat (Int×Nat)):nbP m P r= .error (inE m r):=by
 unfold nbP;unfold inE at h⊢;by_cases hx:nextB m r=true
 · rw [if_pos hx] at h⊢;rw [if_pos hx,if_neg h]
 rw [if_neg hx];rw [if_neg hx]
theorem j0n{m:Nat}{r:List UInt8}(h:inE m r=0)(P:List UInt8→Except Nat (Int×Nat)):nbP m P r=(match P (takeC r) with
 |.error e=>.error e
 |.ok (v,k)=>if k< (takeC r).length then .error 6 else .ok (v,takeN r))∧takeE (tagB m) r=0:=by
 unfold nbP;unfold inE at h;by_cases hx:nextB m r=true
 · rw [if_pos hx] at h;rw [if_pos hx,if_pos h];exact ⟨rfl,h⟩
 rw [if_neg hx] at h;cases h
theorem j1J(p:List UInt8)(hp:p.length≤1099511627776):PC Tryz.prog 40 [.isl .u8 p] (rfO (rdF p)):=by
 have h:=q3E p 0 48 48 (by decide) (Ai _) hp
 unfold rdR at h;rw [Az] at h;unfold rdF rdT;have d6:((((6:Nat):Int))=0)=False:=by decide
 have d0:((((0:Nat):Int))=0)=True:=by decide
 refine q0p rfl rfl ?_;refine rQ fi40 ?_;by_cases h0:takeE 48 p=0
 · rw [if_pos h0] at h⊢;have hcl:(takeC p).length≤1099511627776:=by have:=q2O p;omega
   generalize takeC p=c at*;generalize takeN p=n at*;rw [Ac] at h;have hw:=q0W p n 0;refine cQ h ?_;by_cases c1:n<p.length
   · rw [if_pos ⟨rfl,c1⟩] at hw;rw [if_pos c1];refine cy1 hw d6 ?_;first|rfl|trivial
   rw [if_neg (fun h=>c1 h.2)] at hw;rw [if_neg c1];have hi:=q9Y c 0 0 (by decide) (Ai _) hcl
   rw [Az,Ac] at hi;refine cy1 hw d0 ?_;by_cases c2:inE 0 c=0
   · rw [if_pos c2] at hi;obtain ⟨hn1,ht1⟩:=j0n c2 timeI;have hk1:=q8X _ ht1;rw [hn1];have hcl1:(takeC c).length≤1099511627776:=by have:=q2O c;omega
     generalize takeC c=x at*;generalize takeN c=k1 at*;have hti:=j1e x 0 (Ai _) hcl1;rw [Az] at hti;refine cQ hi ?_;cases hq:timeI x with
     |error e=>
      rw [hq] at hti;have he:=q5T x e hq;have fe:(((e:Nat):Int)=0)=False:=eq_false (by omega)
      have hw1:=q0W x 0 e;rw [if_neg (fun h=>he h.1)] at hw1;refine cQ hti ?_;refine cy1 hw1 fe ?_;first|rfl|trivial
     |ok r=>
      obtain ⟨t,kt⟩:=r;rw [hq] at hti;have hw1:=q0W x (0+kt) 0;rw [Ac] at hw1;dsimp only;by_cases c3:kt<x.length
      · rw [if_pos ⟨rfl,c3⟩] at hw1;rw [if_pos c3];refine cy1 hti Ac ?_;refine cy1 hw1 d6 ?_;first|rfl|trivial
      rw [if_neg (fun h=>c3 h.2)] at hw1;rw [if_neg c3];have hj:=q9Y c k1 1 (by decide) hk1 hcl
      dsimp only;by_cases c4:inE 1 (c.drop k1)=0
      · rw [if_pos c4] at hj;obtain ⟨hn2,ht2⟩:=j0n c4 intP;rw [hn2];have hcl2:(takeC (c.drop k1)).length≤1099511627776:=q2s hcl;generalize takeC (c.drop k1)=y at*;generalize takeN (c.drop k1)=k2 at*;have hin:=j0l y 0 (Ai _) hcl2;rw [Az] at hin;cases hq2:intP y with
        |error e=>
         rw [hq2] at hin;have he:=z2S hq2;have fe:(((e:Nat):Int)=0)=False:=eq_false (by omega)
         have hw2:=q0W y 0 e;rw [if_neg (fun h=>he h.1)] at hw2;refine cy1 hti Ac ?_;refine cy1 hw1 d0 ?_;refine cy1 hj d0 ?_;refine cQ hin ?_;refine cy1 hw2 fe ?_;first|rfl|trivial
        |ok r2=>
         obtain ⟨m,km⟩:=r2;rw [hq2] at hin;have hw2:=q0W y (0+km) 0;rw [Ac] at hw2;dsimp only;refine cy1 hti Ac ?_;refine cy1 hw1 d0 ?_;refine cy1 hj d0 ?_;refine cy1 hin Ac ?_;by_cases c5:km<y.length
         · rw [if_pos ⟨rfl,c5⟩] at hw2;rw [if_pos c5];refine cy1 hw2 d6 ?_;first|rfl|trivial
         rw [if_neg (fun h=>c5 h.2)] at hw2;rw [if_neg c5];have hw3:=q0W c (k1+k2) 0;dsimp only;refine cy1 hw2 d0 ?_;by_cases c6:k1+k2<c.length
         · rw [if_pos ⟨rfl,c6⟩] at hw3;rw [if_pos c6];refine cy1 hw3 d6 ?_;first|rfl|trivial
         rw [if_neg (fun h=>c6 h.2)] at hw3;rw [if_neg c6];dsimp only;by_cases c7:m<0
         · have f7:(m<0)=True:=eq_true c7;rw [if_pos (.inl c7)];refine q0a hw3 ?_;refine gy2 d0 f7 ?_;first|rfl|trivial
         have f7:(m<0)=False:=eq_false c7;by_cases c8:999999<m
         · have f8:(999999<m)=True:=eq_true c8;rw [if_pos (.inr c8)];refine q0a hw3 ?_;refine gy3 d0 f7 f8 ?_;first|rfl|trivial
         have f8:(999999<m)=False:=eq_false c8;rw [if_neg (fun h=>h.elim c7 c8)];refine q0a hw3 ?_;refine gy3 d0 f7 f8 ?_;first|rfl|trivial
      rw [if_neg c4] at hj;have fe:(((inE 1 (c.drop k1):Nat):Int)=0)=False:=eq_false (by omega)
      rw [j0L c4];refine cy1 hti Ac ?_;refine cy1 hw1 d0 ?_;refine cy1 hj fe ?_;first|rfl|trivial
   rw [if_neg c2] at hi;have fe:(((inE 0 c:Nat):Int)=0)=False:=eq_false (by omega)
   rw [j0L c2];refine cy1 hi fe ?_;first|rfl|trivial
 rw [if_neg h0] at h⊢;have fe:(((takeE 48 p:Nat):Int)=0)=False:=eq_false (by omega)
 have hw:=q0W p 0 (takeE 48 p);rw [if_neg (fun h=>h0 h.1)] at hw;refine cQ h ?_;refine cy1 hw fe ?_;first|rfl|trivial
theorem j5j{p:List UInt8}{t m:Int}(h:rdT p= .ok (t,m)):0≤t∧t≤1099511627776:=by
 unfold rdT at h;split at h
 · split at h
   · cases h
   split at h
   · cases h
   rename_i t' k1 h1;split at h
   · cases h
   split at h
   · cases h
   cases h;unfold nbP at h1;split at h1
   · split at h1
     · split at h1
       · cases h1
       rename_i v k hq;split at h1
       · cases h1
       cases h1;unfold timeI timeP rdP at hq;split at hq
       · rename_i v' k' hq';cases hq;split at hq'
         · split at hq'
           · rename_i hd;cases hq';unfold decTime at hd;split at hd
             · rename_i hle;cases hd;omega
             cases hd
           cases hq'
         cases hq'
       cases hq
     cases h1
   cases h1
 cases h
theorem z6N(k:Key)(kind:Int)(b:List UInt8)(now skew:Int)(ha:argOk k kind now skew=false):PC Tryz.prog 15 [.agg (KeyT.cells k),.agg [rI kind,.isl .u8 b],rI now,rI skew] (ckO (0,0,2)):=by
 have hva:=z1i k;have hmn:=z7Q now;have hms:=z7Q skew;have hmo:∀t,momS t=(decide (0≤t) && decide (t≤1099511627776)):=fun _=>rfl;unfold argOk at ha;obtain ⟨p,v,kb⟩:=k;refine q0p rfl rfl ?_;refine q0Z fi15 ?_;refine gQ ?_;refine q0a hva ?_;generalize vKey (p,v,kb)=vb at*;cases vb with
 |false=>
  refine gQ ?_;first|rfl|trivial
 |true=>
  by_cases c1:kind=2
  · have f1:(kind=2)=True:=eq_true c1;cases h2:momS now with
    |false=>
     rw [h2] at hmn;refine gy1 f1 ?_;refine cQ hmn ?_;first|rfl|trivial
    |true=>
     rw [h2] at hmn;cases h3:momS skew with
     |false=>
      rw [h3] at hms;refine gy1 f1 ?_;refine cQ hmn ?_;refine cQ hms ?_;first|rfl|trivial
     |true=>
      exfalso;rw [hmo] at h2 h3;simp only [Am,decide_eq_true_eq] at h2 h3;simp [c1,h2.1,h2.2,h3.1,h3.2] at ha
  have f1:(kind=2)=False:=eq_false c1;refine gy1 f1 ?_;first|rfl|trivial
theorem q9p(k:Key)(kind:Int)(b:List UInt8)(now skew:Int)(ho:KeyT.ok k)(hb:b.length≤1048576):PC Tryz.prog 15 [.agg (KeyT.cells k),.agg [rI kind,.isl .u8 b],rI now,rI skew] (ckO (ckG k kind b now skew)):=by
 obtain ⟨p,v,kb⟩:=k;unfold ckG;cases ha:argOk (p,v,kb) kind now skew with
 |false=>exact z6N (p,v,kb) kind b now skew ha
 |true=>
  rw [if_pos rfl];have ha':=ha;unfold argOk at ha';simp only [Am,decide_eq_true_eq] at ha';obtain ⟨h1,h2,h3,h4,h5,h6⟩:=ha';subst h2;have hva:=z1i (p,v,kb);rw [h1] at hva;have hmn:=z7Q now;have hms:=z7Q skew;rw [show momS now=true by simp [momS,h3,h4]] at hmn
  rw [show momS skew=true by simp [momS,h5,h6]] at hms
  have hth:=z8N b 0 (Ai _) (by omega)
  rw [Az] at hth;have d0:((((0:Nat):Int))=0)=True:=by decide
  have hop:=fun sp sv sb hs=>z9Q (p,v,kb) 1 sp sv sb ho hs;have hol:=z6Q (p,v,kb) 1;refine q0p rfl rfl ?_;refine rQ fi15 ?_;refine cQ hva ?_;refine cQ hmn ?_;refine cQ hms ?_;cases hq:keyP b with
  |error e=>
   rw [hq] at hth;have he:e≠0:=z5j b e hq;have fe:(((e:Nat):Int)=0)=False:=eq_false (by omega)
   refine cy1 hth fe ?_;first|rfl|trivial
  |ok x=>
   obtain ⟨⟨sp,sv,sb⟩,n⟩:=x;rw [hq] at hth;dsimp only;have hsb:sb.length≤1099511627776:=z2X b _ _ (by omega) hq
   have hop:=hop sp sv sb (by omega)
   have hol:=hol sp sv sb;generalize opS (p,v,kb) 1 sp sv sb=O at*;obtain ⟨pl,oe⟩:=O;dsimp only at*;by_cases c1:n<b.length
   · rw [if_pos c1];have f1:(((n:Nat):Int) < ((b.length:Nat):Int))=True:=eq_true (by omega)
     refine q0a hth ?_;refine gy2 Ac f1 ?_;first|rfl|trivial
   rw [if_neg c1];have f1:(((n:Nat):Int) < ((b.length:Nat):Int))=False:=eq_false (by omega)
   by_cases c2:oe=0
   · rw [if_pos c2];subst c2;have hrd:=j1J pl (by omega)
     unfold ckP;unfold rdF at hrd;cases hr:rdT pl with
     |error e=>
      rw [hr] at hrd;have he:=j0M hr;have fe:(((e:Nat):Int)=0)=False:=eq_false (by omega)
      dsimp only at hrd⊢;refine q0a hth ?_;refine gy2 Ac f1 ?_;refine cQ hop ?_;refine cy1 hrd fe ?_;first|rfl|trivial
     |ok r=>
      obtain ⟨t,m⟩:=r;rw [hr] at hrd;obtain ⟨ht1,ht2⟩:=j5j hr;dsimp only at hrd⊢;unfold ckT;refine q0a hth ?_;refine gy2 Ac f1 ?_;refine cQ hop ?_;by_cases c3:m<0∨999999<m
      · rw [if_pos c3] at hrd;rw [if_pos (show m<0∨1000000≤m by omega)]
        refine cQ hrd ?_;first|rfl|trivial
      rw [if_neg c3] at hrd;rw [if_neg (show ¬(m<0∨1000000≤m) by omega)]
      have w1:IntKind.i64.wrap (t-now)=t-now:=wrapi (by omega)
      have w2:IntKind.i64.wrap (now-t)=now-t:=wrapi (by omega)
      have hmx:mxV true (t-now) (now-t)=if now-t>t-now then now-t else t-now:=rfl;rw [w1,w2,hmx];by_cases c4:skew<t-now
      · have f4:(skew<t-now)=True:=eq_true c4;rw [if_pos (show skew<if now-t>t-now then now-t else t-now by split<;>omega)]
        refine q0a hrd ?_;refine gy3 w1 w2 f4 ?_;first|rfl|trivial
      have f4:(skew<t-now)=False:=eq_false c4;by_cases c5:skew<now-t
      · have f5:(skew<now-t)=True:=eq_true c5;rw [if_pos (show skew<if now-t>t-now then now-t else t-now by split<;>omega)]
        refine cy4 hrd w1 w2 f4 f5 ?_;first|rfl|trivial
      have f5:(skew<now-t)=False:=eq_false c5;rw [if_neg (show ¬skew<if now-t>t-now then now-t else t-now by split<;>omega)]
      refine cy4 hrd w1 w2 f4 f5 ?_;first|rfl|trivial
   have f2:(oe=0)=False:=eq_false c2;rw [if_neg c2];refine q0a hth ?_;refine gy2 Ac f1 ?_;refine cy1 hop f2 ?_;first|rfl|trivial
theorem j2A(ks:List Key)(kind:Int)(b:List UInt8)(now skew:Int)(hks:∀k∈ks,KeyT.ok k)(hkl:ks.length≤1000)(hb:b.length≤1048576):PC Tryz.prog 20 [.isl KeyT ks,.agg [rI kind,.isl .u8 b],rI now,rI skew] (fnO (fnG (fun k=>ckG k kind b now skew) 0 9 ks)):=by
 refine q0p rfl rfl ?_;have hcc:=fun k ho=>q9p k kind b now skew ho hb;generalize hF:(fun k=>ckG k kind b now skew)=F at*;have hcc:∀k,KeyT.ok k→PC Tryz.prog 15 [.agg (KeyT.cells k),.agg [rI kind,.isl .u8 b],rI now,rI skew] (ckO (F k)):=by rw [←hF];exact hcc
 refine rQ fi20 ?_;obtain ⟨R,hR⟩:∃R,R=fnG F 0 9 ks:=⟨_,rfl⟩;rw [←hR];refine q0d (ι:=Nat) (fun i=>[(13,rI i),(12,rI (fstG F ks i))]) (fun i=>[.cells 27 [rI kind,.isl .u8 b]]) (fun i=>ks.length-i) (fun i=>i≤ks.length∧R=fnG F i (fstG F ks i) (ks.drop i)) 0 ⟨Ai _,by rw [Az];exact hR⟩ rfl ?_ ?_
 · with_reducible refine sxE ?_
   rfl
 rintro i ⟨hi,hRi⟩;have hwr:=wsx i (by omega)
 by_cases h:i<ks.length
 · rw [z0P h KeyT.dflt] at hRi;have hm:ks.getD i KeyT.dflt∈ks:=by
    rw [Aa,Ae h];exact Bq _
   have hko:=hks _ hm;have hf0:i=0→fstG F ks (i+1)=(F (ks.getD i KeyT.dflt)).2.2:=fun e=>by subst e;rfl
   have hf1:i≠0→fstG F ks (i+1)=fstG F ks i:=fun e=>by unfold fstG;rw [if_neg e,if_neg (by omega)]
   have f1:((i:Int) < (ks.length:Int))=True:=eq_true (by omega)
   generalize hk:ks.getD i KeyT.dflt=k at*;have hc:=hcc k hko;rw [fnG] at hRi;generalize F k=x at*;obtain ⟨kp,kv,kb⟩:=k;obtain ⟨x1,x2,x3⟩:=x;simp only [ckO] at hc;refine gy2 f1 hk ?_;refine ⟨⟨by omega,h⟩,q0e hc ?_⟩
   dsimp only at hRi hf0;by_cases c0:x3=0
   · rw [if_pos c0] at hRi;subst c0;refine gQ ?_;rw [hRi];rfl
   have c0':(x3=0)=False:=eq_false c0;rw [if_neg c0] at hRi;by_cases ci:i=0
   · have ci':((i:Int)=0)=True:=eq_true (by omega)
     rw [if_pos ci,←hf0 ci] at hRi;refine gy2 c0' ci' ?_;refine ⟨i+1,⟨h,hRi⟩,by dsimp only;omega,rfl,?_⟩
     rw [←hf0 ci];with_reducible refine sx1 hwr ?_;trivial
   have ci':((i:Int)=0)=False:=eq_false (by omega)
   rw [if_neg ci,←hf1 ci] at hRi;refine gy2 c0' ci' ?_;refine ⟨i+1,⟨h,hRi⟩,by dsimp only;omega,rfl,?_⟩
   rw [←hf1 ci];with_reducible refine sx1 hwr ?_;trivial
 obtain rfl:i=ks.length:=by omega
 have f1:(((ks.length:Nat):Int) < (ks.length:Int))=False:=eq_false (by omega)
 rw [List.drop_length,fnG] at hRi;refine gy1 f1 ?_;rw [hRi];rfl
end Go.Proofs.YtikapabgggphpaaGreatDoor
/- Timestamps: an iterator over the timestamps of a list is made. -/
namespace Go.Proofs.YtikapabgggphpaaGreatDoor
open Go Go.Sx Go.Proofs
set_option maxRecDepth 100000
set_option maxHeartbeats 4000000

variable {q:Nat→Prop} {w0:World}
end Go.Proofs.YtikapabgggphpaaGreatDoor

namespace Go.Proofs.YtikapabgggphpaaGreatDoor
open Go Go.Sx Go.Proofs
set_option maxRecDepth 100000
set_option maxHeartbeats 4000000
set_option maxHeartbeats 40000000
theorem z9F(k:Key)(p:Pre)(now skew:Int)(hko:KeyT.ok k)(hpo:PreT.ok p):PC Tryz.prog 4 [.agg (KeyT.cells k),.agg (PreT.cells p),rI now,rI skew] (rB true):=by
 obtain ⟨kind,pb⟩:=p;by_cases c0:40<k.2.2.length
 · have f0:((40:Int) < ((k.2.2.length:Nat):Int))=True:=eq_true (by omega)
   obtain ⟨kp,v,b⟩:=k;dsimp only at f0;refine q0p rfl rfl ?_;refine ry1 fi4 f0 ?_;refine cQ q1r ?_;trivial
 have f0:((40:Int) < ((k.2.2.length:Nat):Int))=False:=eq_false (by omega)
 by_cases c1:300<pb.length
 · have f1:((300:Int) < ((pb.length:Nat):Int))=True:=eq_true (by omega)
   obtain ⟨kp,v,b⟩:=k;dsimp only at f0;refine q0p rfl rfl ?_;refine ry2 fi4 f0 f1 ?_;refine cQ q1r ?_;trivial
 have f1:((300:Int) < ((pb.length:Nat):Int))=False:=eq_false (by omega)
 have h1:=q5M k kind pb now skew hko (by omega)
 have h2:=q9p k kind pb now skew hko (by omega)
 generalize ckG k kind pb now skew=x at*;obtain ⟨x1,x2,x3⟩:=x;simp only [ckO] at h1 h2;obtain ⟨kp,v,b⟩:=k;dsimp only at f0;refine q0p rfl rfl ?_;refine ry2 fi4 f0 f1 ?_;refine cQ h1 ?_;refine cQ h2 ?_;refine cQ (q7a x3) ?_;refine cQ q1r ?_;trivial
theorem z8Z(k:Key)(conf plain:List UInt8)(now skew:Int)(hko:KeyT.ok k):PC Tryz.prog 5 [.agg (KeyT.cells k),.isl .u8 conf,.isl .u8 plain,rI now,rI skew] (rB true):=by
 by_cases c0:40<k.2.2.length
 · have f0:((40:Int) < ((k.2.2.length:Nat):Int))=True:=eq_true (by omega)
   obtain ⟨kp,v,b⟩:=k;dsimp only at f0;refine q0p rfl rfl ?_;refine ry1 fi5 f0 ?_;refine cQ q1r ?_;trivial
 have f0:((40:Int) < ((k.2.2.length:Nat):Int))=False:=eq_false (by omega)
 by_cases c1:conf.length=16
 case neg=>
  have f1:(((conf.length:Nat):Int)=16)=False:=eq_false (by omega)
  obtain ⟨kp,v,b⟩:=k;dsimp only at f0;refine q0p rfl rfl ?_;refine ry2 fi5 f0 f1 ?_;refine cQ q1r ?_;trivial
 have f1:(((conf.length:Nat):Int)=16)=True:=eq_true (by omega)
 by_cases c2:100<plain.length
 · have f2:((100:Int) < ((plain.length:Nat):Int))=True:=eq_true (by omega)
   obtain ⟨kp,v,b⟩:=k;dsimp only at f0;refine q0p rfl rfl ?_;refine ry5 fi5 f0 f1 f2 f2 f2 ?_;refine cQ q1r ?_;trivial
 have f2:((100:Int) < ((plain.length:Nat):Int))=False:=eq_false (by omega)
 have hva:=q6A k hko;cases hv:vKey k with
 |false=>
  rw [hv] at hva;obtain ⟨kp,v,b⟩:=k;dsimp only at f0;refine q0p rfl rfl ?_;refine ry5 fi5 f0 f1 f2 f2 f2 ?_;refine cQ hva ?_;refine cQ q1r ?_;trivial
 |true=>
  rw [hv] at hva;have hu:uOk k (1:Nat)=true:=by unfold uOk;rw [hv];decide
  have hse:=z7L k 1 conf plain hko;unfold slO at hse;rw [if_pos ⟨hu,c1,by omega⟩] at hse
  have hds:=q9J (k.1,k.2.1,seS k 1 conf plain);have hyl:=j4x k (seS k 1 conf plain) (by have h1:=j3x k 1 conf plain c1;omega)
  generalize seS k 1 conf plain=z at*;generalize keyS (k.1,k.2.1,z)=y at*;have h1:=q5M k 2 y now skew hko (by omega)
  have h2:=q9p k 2 y now skew hko (by omega)
  generalize ckG k 2 y now skew=x at*;obtain ⟨x1,x2,x3⟩:=x;simp only [ckO] at h1 h2;obtain ⟨kp,v,b⟩:=k;dsimp only at*;refine q0p rfl rfl ?_;refine ry5 fi5 f0 f1 f2 f2 f2 ?_;refine cQ hva ?_;refine cQ hse ?_;refine cQ (q7a 0) ?_;refine cQ hds ?_;refine cQ h1 ?_;refine cQ h2 ?_;refine cQ (q7a x3) ?_;refine cQ q1r ?_;trivial
theorem j2m(ks:List Key)(p:Pre)(now skew:Int)(hko:(Ty.slice KeyT).ok ks)(hpo:PreT.ok p):PC Tryz.prog 6 [.isl KeyT ks,.agg (PreT.cells p),rI now,rI skew] (rB true):=by
 obtain ⟨kind,pb⟩:=p;have hkl:ks.length≤1125899906842624:=hko.1;by_cases c0:4<ks.length
 · have f0:((4:Int) < ((ks.length:Nat):Int))=True:=eq_true (by omega)
   refine q0p rfl rfl ?_;refine ry1 fi6 f0 ?_;refine cQ q1r ?_;trivial
 have f0:((4:Int) < ((ks.length:Nat):Int))=False:=eq_false (by omega)
 by_cases c1:300<pb.length
 · have f1:((300:Int) < ((pb.length:Nat):Int))=True:=eq_true (by omega)
   refine q0p rfl rfl ?_;refine ry2 fi6 f0 f1 ?_;refine cQ q1r ?_;trivial
 have f1:((300:Int) < ((pb.length:Nat):Int))=False:=eq_false (by omega)
 have h1:=z4I ks kind pb now skew hko.2 (by omega) (by omega)
 have h2:=j2A ks kind pb now skew hko.2 (by omega) (by omega)
 generalize fnG (fun k=>ckG k kind pb now skew) 0 9 ks=x at*;obtain ⟨x0,x1,x2,x3⟩:=x;simp only [fnO] at h1 h2;refine q0p rfl rfl ?_;refine ry2 fi6 f0 f1 ?_;refine q0d (ι:=Nat) (fun i=>[(9,rI i)]) (fun i=>[.cells 27 [rI kind,.isl .u8 pb]]) (fun i=>ks.length-i) (fun i=>i≤ks.length) 0 (Ai _) rfl ?_ ?_
 · with_reducible refine sxE ?_;trivial
 intro i hi;have hwr:=wsx i (by omega)
 by_cases hlt:i<ks.length
 · have g1:((i:Int) < ((ks.length:Nat):Int))=True:=eq_true (by omega)
   generalize hgk:ks.getD i KeyT.dflt=kk;obtain ⟨kp,kv,kb⟩:=kk;by_cases c2:40<kb.length
   · have f2:((40:Int) < ((kb.length:Nat):Int))=True:=eq_true (by omega)
     refine gy3 g1 hgk f2 ?_;refine ⟨⟨by omega,hlt⟩,?_⟩
     refine cQ q1r ?_;trivial
   have f2:((40:Int) < ((kb.length:Nat):Int))=False:=eq_false (by omega)
   refine gy3 g1 hgk f2 ?_;refine ⟨⟨by omega,hlt⟩,i+1,hlt,by dsimp only;omega,rfl,?_⟩
   with_reducible refine sx1 hwr ?_;trivial
 obtain rfl:i=ks.length:=by omega
 have g1:(((ks.length:Nat):Int) < ((ks.length:Nat):Int))=False:=eq_false (by omega)
 refine gy1 g1 ?_;refine cQ h1 ?_;refine cQ h2 ?_;refine cQ (q7a x3) ?_;refine cQ q1r ?_;trivial
end Go.Proofs.YtikapabgggphpaaGreatDoor
