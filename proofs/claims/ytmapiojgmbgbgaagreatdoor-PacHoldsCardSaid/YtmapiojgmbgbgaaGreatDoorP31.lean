/- A part of the proof: a symbolic executor over abstract values, and its soundness. -/
import Derived.Test.YtmapiojgmbgbgaaGreatDoorP30
set_option linter.all false
namespace Go.Sx
open Go

variable [Ghost] {P:Program} {AQ:Ex→List SV→List SObj→Prop} {k0:Nat} {k:List IT} {k':List It} {t:List SV} {H:List SObj}
variable {all:Array Oper} {G:List Nat} {o:Oper}

def AnyK(P:Program)(AQ:Ex→List SV→List SObj→Prop)(k0:Nat)(k':List It)(all:Array Oper)(G:List Nat)(n:Nat)(listed:Array Bool)(t:List SV)(H:List SObj)(i:Nat)(d:Option Tmp):Out→List SObj→Prop
 |.ret s,H'=>SameG (gsel all i G) H H'∧AnyV P AQ k0 k' all G n (listed.setIfInBounds i true) (putT t d s) H'
 |.pan s,H'=>AQ (.pan s) [] H'
theorem z3J{i j n:Nat}{listed:Array Bool}{io jo:OpI}(hci:atOp P all i=some io)(hcj:atOp P all j=some jo)(hB:(Region.ready .any all listed== [i,j] && io.guard.isNone&& jo.guard.isNone)=true)
 (hi:(io.op.ev H (evT t)).to P H (AnyK P AQ k0 k' all G n listed t H i io.dst))(hj:(jo.op.ev H (evT t)).to P H (AnyK P AQ k0 k' all G n listed t H j jo.dst)):AnyV P AQ k0 k' all G (n+1) listed t H:=by
 obtain ⟨oi,hoi,hcoi⟩:=z3g hci;obtain ⟨oj,hoj,hcoj⟩:=z3g hcj;simp only [Ai,CG,beq_iff_eq] at hB;refine ⟨fun h0=>(by rw [hB.1.1] at h0;cases h0),fun m hm=> ?_⟩
 rw [hB.1.1] at hm;have hK:∀ {x:Nat} {ox:Oper} {xo:OpI},compO P all ox=some xo→xo.dst=ox.dst→(xo.op.ev H (evT t)).to P H (AnyK P AQ k0 k' all G n listed t H x xo.dst)→OpV P ox (evT t) H fun
  |.ret s,H'=>SameG (gsel all x G) H H'∧AnyV P AQ k0 k' all G n (listed.setIfInBounds x true) (putT t ox.dst s) H'
  |.pan s,H'=>AQ (.pan s) [] H':=fun {x ox xo} hc hd h=>by
  rw [hd] at h;exact q2v (q0J hc).1 h
 rcases AZ.1 hm with rfl|hm
 · exact ⟨oi,hoi,.inl ⟨(q0t hcoi).1 hB.1.2,hK hcoi (q0J hcoi).2 hi⟩⟩
 obtain rfl:m=j:=by simpa using hm
 exact ⟨oj,hoj,.inl ⟨(q0t hcoj).1 hB.2,hK hcoj (q0J hcoj).2 hj⟩⟩
end Go.Sx
/- PacHolds: the law's contract. -/
namespace Go.Proofs.YtmapiojgmbgbgaaGreatDoor
open Go Go.Sx Go.Proofs
set_option maxRecDepth 100000
set_option maxHeartbeats 40000000

section
variable [Ghost] {P:Program} {AQ:Ex→List SV→List SObj→Prop} {k0:Nat} {k':List It} {t:List SV} {H:List SObj} {all:Array Oper} {G:List Nat}
theorem q3P{i n:Nat}{listed:Array Bool}{io:OpI}{p:Prop}{s:SV}(hc:atOp P all i=some io)(hB:(planChk all listed i true&& io.guard.isNone)=true)(hf:floatOk G (evT t) (toS io.op)=true)(he:io.op.ev H (evT t)= .val p s)(hp:p)
 (h:AnyV P AQ k0 k' all G n (listed.setIfInBounds i true) (putT t io.dst s) H):AnyV P AQ k0 k' all G (n+1) listed t H:=by
 obtain ⟨o,ho,hco⟩:=z3g hc;obtain ⟨f1,f2⟩:=floatS hf;simp only [Ai,CG] at hB;refine z0t ho hco ((q0t hco).1 hB.2) f1 he hp (fun hl=>.inr fun H1 H2 hs=>f2 hl H1 H2 hs) hB.1 ?_;rw [← (q0J hco).2];exact h
theorem q2P{x:Nat}{i:Nat}(h:x∈gsel all i G):x∈G:=by
 unfold gsel at h;split at h
 · split at h
   · exact h
   exact q1K h
 first|exact h|exact q1K h
end
theorem z6j{v:Prin}(h:vPrin v=true):0<v.1.length:=by
 simp only [vPrin,Ai,decide_eq_true_eq] at h;omega
theorem q7I(p:Pac)(s r:Key):((signS p s r).2≠0)∨(vPac p=true∧vKey s=true∧vKey r=true∧signS p s r=(sgnS (signX p s r),0)∧(sgnS (signX p s r)).length≤4096):=by
 unfold signS;split
 · rename_i h;simp only [Ai] at h;split
   · exact .inl (by decide)
   exact .inr ⟨h.1,h.2.1,h.2.2,rfl,by omega⟩
 exact .inl (by decide)

theorem z7r{v:Prin}(h:shortB v=true):v.1.length≤6:=by
 simp only [shortB,Ai,decide_eq_true_eq] at h;omega
theorem z9u{b:List UInt8}{s r o:Key}{v:Prin}{p:Pac}(hb:vfyS b s r=(p,0))(h:(resS b s r o v).2=0):∃q,vfyS (resS b s r o v).1 o r=(q,0)∧(resS b s r o v).1.length≤4096∧((v.1.length=0∧q=p)∨(0<v.1.length∧q=addV p v)):=by
 have key:∀q,(signS q o r).2=0→vfyS (signS q o r).1 o r=(q,0)∧(signS q o r).1.length≤4096:=fun q hq=>by
  rcases q7I q o r with hE| ⟨h1,h2,h3,h4,h5⟩
  · exact absurd hq hE
  rw [h4];exact ⟨q2R h1 h2 h3 (.inl rfl) (.inl rfl),h5⟩
 have hR:resS b s r o v=if (vKey s&& (vKey r&& vKey o)) && (noN v||vPrin v) then (if noN v then signS p o r else if 16≤p.2.2.2.2.length then ([],7) else signS (addV p v) o r) else ([],2):=by
  unfold resS;rw [hb];rfl
 rw [hR] at h⊢;by_cases hc:((vKey s&& (vKey r&& vKey o)) && (noN v||vPrin v))=true
 · rw [if_pos hc] at h⊢;by_cases hn:noN v=true
   · rw [if_pos hn] at h⊢;simp only [noN,Ai,decide_eq_true_eq] at hn;exact ⟨p,(key p h).1,(key p h).2,.inl ⟨hn.1,rfl⟩⟩
   rw [if_neg hn] at h⊢;by_cases hl:16≤p.2.2.2.2.length
   · rw [if_pos hl] at h;exact absurd h (by decide)
   rw [if_neg hl] at h⊢;simp only [Ai,BQ] at hc;exact ⟨_,(key _ h).1,(key _ h).2,.inr ⟨z6j (hc.2.resolve_left hn),rfl⟩⟩
 rw [if_neg hc] at h;exact absurd h (by decide)
theorem z8o(p:Pac)(ho:PacT.ok p)(s:Key)(hs:KeyT.ok s)(r:Key)(hr:KeyT.ok r)(o:Key)(hoo:KeyT.ok o)(v:Prin)(hv:PrinT.ok v):PC Tryz.prog 8 [.agg (PacT.cells p),.agg (KeyT.cells s),.agg (KeyT.cells r),.agg (KeyT.cells o),.agg (PrinT.cells v)] (rB true):=by
 have ck:=z4r;have cS:=z3O p ho;have cF:=j1Q [s,r,o] (show 3≤1000 by decide)
 have cV:=q9G v hv;have cE:=z0n p ho;by_cases hA:(smallP p&& (allN [s,r,o].length (keyAt [s,r,o]) && (shortB v&& (vPac p&& decide ((pacS p).length≤600)))))=true
 rotate_left
 · generalize pacS p=pb at*;generalize smallP p=q1 at*;generalize hq2:allN [s,r,o].length (keyAt [s,r,o])=q2 at*;generalize shortB v=q3 at*;generalize vPac p=q4 at*;obtain ⟨c,a,u,g,w⟩:=p;obtain ⟨s1,s2,s3⟩:=s;obtain ⟨r1,r2,r3⟩:=r;obtain ⟨o1,o2,o3⟩:=o;obtain ⟨v1,v2⟩:=v;refine q0w rfl rfl ?_;refine rQ fi8 ?_;refine q0a cS ?_;cases q1 with
   |false=>
    refine gQ ?_;refine cQ ck ?_;trivial
   |true=>
   refine gQ ?_;refine q0o 5 ?_;with_reducible refine sxE ?_
   refine q0a cF ?_;cases q2 with
   |false=>
    refine gQ ?_;refine cQ ck ?_;trivial
   |true=>
   refine gQ ?_;refine q0a cV ?_;cases q3 with
   |false=>
    refine gQ ?_;refine cQ ck ?_;trivial
   |true=>
   refine gQ ?_;refine q0a cE ?_;cases q4 with
   |false=>
    refine gQ ?_;refine cQ (q0S _) ?_;refine cQ ck ?_;trivial
   |true=>
   refine gQ ?_;refine q0a (q0S _) ?_;have f1:(600< (pb.length:Int))=True:=eq_true (by simp at hA;omega)
   refine gy1 f1 ?_;refine cQ ck ?_;trivial
 simp only [Ai,decide_eq_true_eq] at hA;obtain ⟨a1,a2,a3,a4,a5⟩:=hA;have cD:PC Tryz.prog 22 [.isl .u8 (pacS p)] (.tup [.agg (PacT.cells p),rI 0]):=by
  have h:=z1R (pacS p) (by omega)
  rwa [z3I a4] at h
 have csm:=q5W p p ho;rw [decide_eq_true rfl] at csm;have cG:=q4U p s r ho hs hr;rw [a1] at cS;rw [a2] at cF;rw [a3] at cV;rw [a4,if_pos rfl,if_pos rfl] at cE;have f0:(600< ((pacS p).length:Int))=False:=eq_false (by omega)
 rcases q7I p s r with hE| ⟨_,hs1,hr1,hX,hXl⟩
 · generalize signS p s r=X at*;obtain ⟨x1,x2⟩:=X;have f2:(x2=0)=False:=eq_false hE;generalize pacS p=pb at*;obtain ⟨c,a,u,g,w⟩:=p;obtain ⟨s1,s2,s3⟩:=s;obtain ⟨r1,r2,r3⟩:=r;obtain ⟨o1,o2,o3⟩:=o;obtain ⟨v1,v2⟩:=v;refine q0w rfl rfl ?_;refine rQ fi8 ?_;refine cQ cS ?_;refine q0o 5 ?_;with_reducible refine sxE ?_
   refine cQ cF ?_;refine cQ cV ?_;refine cQ cE ?_;refine cy1 (q0S _) f0 ?_;refine cQ cD ?_;refine cQ (q0S _) ?_;refine cQ csm ?_;refine cQ cG ?_;refine cy1 (q0S _) f2 ?_;refine cQ ck ?_;trivial
 rw [hX] at cG;have w1:=q2R (s':=s) (r':=r) a4 hs1 hr1 (.inl rfl) (.inl rfl);have w2:=q2R (s':=KeyT.dflt) (r':=r) a4 hs1 hr1 (.inr rfl) (.inl rfl);have w3:=q2R (s':=s) (r':=KeyT.dflt) a4 hs1 hr1 (.inl rfl) (.inr rfl);have w4:=q2R (s':=KeyT.dflt) (r':=KeyT.dflt) a4 hs1 hr1 (.inr rfl) (.inr rfl);generalize hcc:sgnS (signX p s r)=cc at*;have d1:=q1G cc s r (by omega) hs hr
 have d2:=q1G cc KeyT.dflt r (by omega) okK0 hr
 have d3:=q1G cc s KeyT.dflt (by omega) hs okK0
 have d4:=q1G cc KeyT.dflt KeyT.dflt (by omega) okK0 okK0
 have cR:=j0R cc s r o v (by omega) hs hr hoo hv (by have:=z7r a3;omega)
 have hRS:=z9u (o:=o) (v:=v) w1;have cY:=fun h=>q1G (resS cc s r o v).1 o r h hoo hr;rw [w1] at d1;rw [w2] at d2;rw [w3] at d3;rw [w4] at d4;have d2:PC Tryz.prog 15 [.isl .u8 cc,.agg [rI 0,rI 0,.raw (.slice none 0 0)],.agg (KeyT.cells r)] (.tup [.agg (PacT.cells p),rI 0]):=by
  refine PC.arg d2 ?_;with_reducible refine sxE ?_
  exact ⟨rfl,rfl,rfl⟩
 have d3:PC Tryz.prog 15 [.isl .u8 cc,.agg (KeyT.cells s),.agg [rI 0,rI 0,.raw (.slice none 0 0)]] (.tup [.agg (PacT.cells p),rI 0]):=by
  refine PC.arg d3 ?_;with_reducible refine sxE ?_
  exact ⟨rfl,rfl,rfl⟩
 have d4:PC Tryz.prog 15 [.isl .u8 cc,.agg [rI 0,rI 0,.raw (.slice none 0 0)],.agg [rI 0,rI 0,.raw (.slice none 0 0)]] (.tup [.agg (PacT.cells p),rI 0]):=by
  refine PC.arg d4 ?_;with_reducible refine sxE ?_
  exact ⟨rfl,rfl,rfl⟩
 have cP:=j4a cc (by omega)
 rw [if_neg (by omega)] at cP
 have cN:=j2f [((128:Int),cc)] ⟨show 1≤1125899906842624 by decide,fun x hx=>by rw [Bw.1 hx];exact ⟨trivial,show cc.length≤1125899906842624 by omega,fun _ _=>trivial⟩⟩ (fun x hx=>by rw [Bw.1 hx];show cc.length≤_;omega)
 have hN:findD [((128:Int),cc)]=(cc,true):=rfl;rw [hN] at cN;generalize resS cc s r o v=Y at*;generalize pacS p=pb at*;obtain ⟨c,a,u,g,w⟩:=p;obtain ⟨s1,s2,s3⟩:=s;obtain ⟨r1,r2,r3⟩:=r;obtain ⟨o1,o2,o3⟩:=o;obtain ⟨v1,v2⟩:=v;refine q0w rfl rfl ?_;refine rQ fi8 ?_;refine cQ cS ?_;refine q0o 5 ?_;with_reducible refine sxE ?_
 refine cQ cF ?_;refine cQ cV ?_;refine cQ cE ?_;refine cy1 (q0S _) f0 ?_;refine cQ cD ?_;refine cQ (q0S _) ?_;refine cQ csm ?_;refine cQ cG ?_;refine cQ (q0S _) ?_;refine q0I (fun i=>[(17,rI (i:Nat))]) 4 (fun _=>True) (by first|decide|simp) (fun i=>rfl) ?_ fun i hi _=> ?_
 · with_reducible refine sxE ?_;trivial
 have e0:((0:Nat):Int)=0:=rfl;have e1:((1:Nat):Int)=1:=rfl;have e2:((2:Nat):Int)=2:=rfl;have e3:((3:Nat):Int)=3:=rfl;have e4:((4:Nat):Int)=4:=rfl;have t0:(Int.tmod 0 2=1)=False:=eq_false (by decide)
 have t1:(Int.tmod 1 2=1)=True:=eq_true (by decide)
 have t2:(Int.tmod 2 2=1)=False:=eq_false (by decide)
 have t3:(Int.tmod 3 2=1)=True:=eq_true (by decide)
 by_cases hi0:i=0
 · subst hi0;refine gy1 e0 ?_;refine z4h fun id k' hrel=> ?_;refine q6N (G:=[999999,1,2]) mixed (m:=6) (by kernel_rfl) ?_
   refine q3P (i:=0) (io:=⟨some 90,.ld (some 3) (.tmp 6),none⟩) (by kernel_rfl) (by kernel_rfl) rfl rfl ?_ ?_
   · trivial
   refine q3P (i:=1) (io:=⟨some 91,.ld (some 3) (.tmp 7),none⟩) (by kernel_rfl) (by kernel_rfl) rfl rfl ?_ ?_
   · trivial
   refine z3J (i:=2) (j:=3) (io:=⟨some 18,.new 31 [.int .i64 0,.int .i64 0,.slice none 0 0],none⟩) (jo:=⟨some 19,.new 31 [.int .i64 0,.int .i64 0,.slice none 0 0],none⟩) (by kernel_rfl) (by kernel_rfl) (by kernel_rfl) ?_ ?_
   · simp (maxSteps:=3000000) only [Res.to,AnyK,go_sem,↓zA,↓reduceIte,↓reduceDIte] <;>try simp only [zB]
     refine ⟨fun x hx=> ?_,?_⟩
     · have hx:=q2P hx;simp only [AZ,Bf,or_false] at hx;rcases hx with rfl|rfl|rfl<;>rfl
     refine q3W (l:=[(false,⟨some 19,.new 31 [.int .i64 0,.int .i64 0,.slice none 0 0],none⟩),(false,⟨none,.st 3 (.tmp 18) (.tmp 90),none⟩),(false,⟨none,.st 3 (.tmp 19) (.tmp 91),none⟩)]) (by kernel_rfl) hrel ?_
     refine gy1 t0 ?_;refine ⟨rfl,by decide,q0a d1 ?_⟩
     refine gQ ?_;refine cQ (q0S _) ?_;refine cQ csm ?_;refine ⟨by decide,trivial,⟨[_,_,_],rfl⟩,?_⟩
     with_reducible refine sxE ?_
     rfl
   simp (maxSteps:=3000000) only [Res.to,AnyK,go_sem,↓zA,↓reduceIte,↓reduceDIte] <;>try simp only [zB]
   refine ⟨fun x hx=> ?_,?_⟩
   · have hx:=q2P hx;simp only [AZ,Bf,or_false] at hx;rcases hx with rfl|rfl|rfl<;>rfl
   refine q3W (l:=[(false,⟨some 18,.new 31 [.int .i64 0,.int .i64 0,.slice none 0 0],none⟩),(false,⟨none,.st 3 (.tmp 18) (.tmp 90),none⟩),(false,⟨none,.st 3 (.tmp 19) (.tmp 91),none⟩)]) (by kernel_rfl) hrel ?_
   refine gy1 t0 ?_;refine ⟨rfl,by decide,q0a d1 ?_⟩
   refine gQ ?_;refine cQ (q0S _) ?_;refine cQ csm ?_;refine ⟨by decide,trivial,⟨[_,_,_],rfl⟩,?_⟩
   with_reducible refine sxE ?_
   rfl
 by_cases hi1:i=1
 · subst hi1;refine gy1 e1 ?_;refine z4h fun id k' hrel=> ?_;refine q6N (G:=[999999,1,2]) mixed (m:=6) (by kernel_rfl) ?_
   refine q3P (i:=0) (io:=⟨some 90,.ld (some 3) (.tmp 6),none⟩) (by kernel_rfl) (by kernel_rfl) rfl rfl ?_ ?_
   · trivial
   refine q3P (i:=1) (io:=⟨some 91,.ld (some 3) (.tmp 7),none⟩) (by kernel_rfl) (by kernel_rfl) rfl rfl ?_ ?_
   · trivial
   refine z3J (i:=2) (j:=3) (io:=⟨some 18,.new 31 [.int .i64 0,.int .i64 0,.slice none 0 0],none⟩) (jo:=⟨some 19,.new 31 [.int .i64 0,.int .i64 0,.slice none 0 0],none⟩) (by kernel_rfl) (by kernel_rfl) (by kernel_rfl) ?_ ?_
   · simp (maxSteps:=3000000) only [Res.to,AnyK,go_sem,↓zA,↓reduceIte,↓reduceDIte] <;>try simp only [zB]
     refine ⟨fun x hx=> ?_,?_⟩
     · have hx:=q2P hx;simp only [AZ,Bf,or_false] at hx;rcases hx with rfl|rfl|rfl<;>rfl
     refine q3W (l:=[(false,⟨some 19,.new 31 [.int .i64 0,.int .i64 0,.slice none 0 0],none⟩),(false,⟨none,.st 3 (.tmp 18) (.tmp 90),none⟩),(false,⟨none,.st 3 (.tmp 19) (.tmp 91),none⟩)]) (by kernel_rfl) hrel ?_
     refine gy1 t1 ?_;refine ⟨rfl,by decide,q0a d2 ?_⟩
     refine gQ ?_;refine cQ (q0S _) ?_;refine cQ csm ?_;refine ⟨by decide,trivial,⟨[_,_,_],rfl⟩,?_⟩
     with_reducible refine sxE ?_
     rfl
   simp (maxSteps:=3000000) only [Res.to,AnyK,go_sem,↓zA,↓reduceIte,↓reduceDIte] <;>try simp only [zB]
   refine ⟨fun x hx=> ?_,?_⟩
   · have hx:=q2P hx;simp only [AZ,Bf,or_false] at hx;rcases hx with rfl|rfl|rfl<;>rfl
   refine q3W (l:=[(false,⟨some 18,.new 31 [.int .i64 0,.int .i64 0,.slice none 0 0],none⟩),(false,⟨none,.st 3 (.tmp 18) (.tmp 90),none⟩),(false,⟨none,.st 3 (.tmp 19) (.tmp 91),none⟩)]) (by kernel_rfl) hrel ?_
   refine gy1 t1 ?_;refine ⟨rfl,by decide,q0a d2 ?_⟩
   refine gQ ?_;refine cQ (q0S _) ?_;refine cQ csm ?_;refine ⟨by decide,trivial,⟨[_,_,_],rfl⟩,?_⟩
   with_reducible refine sxE ?_
   rfl
 by_cases hi2:i=2
 · subst hi2;refine gy1 e2 ?_;refine z4h fun id k' hrel=> ?_;refine q6N (G:=[999999,1,2]) mixed (m:=6) (by kernel_rfl) ?_
   refine q3P (i:=0) (io:=⟨some 90,.ld (some 3) (.tmp 6),none⟩) (by kernel_rfl) (by kernel_rfl) rfl rfl ?_ ?_
   · trivial
   refine q3P (i:=1) (io:=⟨some 91,.ld (some 3) (.tmp 7),none⟩) (by kernel_rfl) (by kernel_rfl) rfl rfl ?_ ?_
   · trivial
   refine z3J (i:=2) (j:=3) (io:=⟨some 18,.new 31 [.int .i64 0,.int .i64 0,.slice none 0 0],none⟩) (jo:=⟨some 19,.new 31 [.int .i64 0,.int .i64 0,.slice none 0 0],none⟩) (by kernel_rfl) (by kernel_rfl) (by kernel_rfl) ?_ ?_
   · simp (maxSteps:=3000000) only [Res.to,AnyK,go_sem,↓zA,↓reduceIte,↓reduceDIte] <;>try simp only [zB]
     refine ⟨fun x hx=> ?_,?_⟩
     · have hx:=q2P hx;simp only [AZ,Bf,or_false] at hx;rcases hx with rfl|rfl|rfl<;>rfl
     refine q3W (l:=[(false,⟨some 19,.new 31 [.int .i64 0,.int .i64 0,.slice none 0 0],none⟩),(false,⟨none,.st 3 (.tmp 18) (.tmp 90),none⟩),(false,⟨none,.st 3 (.tmp 19) (.tmp 91),none⟩)]) (by kernel_rfl) hrel ?_
     refine gy1 t2 ?_;refine ⟨rfl,by decide,q0a d3 ?_⟩
     refine gQ ?_;refine cQ (q0S _) ?_;refine cQ csm ?_;refine ⟨by decide,trivial,⟨[_,_,_],rfl⟩,?_⟩
     with_reducible refine sxE ?_
     rfl
   simp (maxSteps:=3000000) only [Res.to,AnyK,go_sem,↓zA,↓reduceIte,↓reduceDIte] <;>try simp only [zB]
   refine ⟨fun x hx=> ?_,?_⟩
   · have hx:=q2P hx;simp only [AZ,Bf,or_false] at hx;rcases hx with rfl|rfl|rfl<;>rfl
   refine q3W (l:=[(false,⟨some 18,.new 31 [.int .i64 0,.int .i64 0,.slice none 0 0],none⟩),(false,⟨none,.st 3 (.tmp 18) (.tmp 90),none⟩),(false,⟨none,.st 3 (.tmp 19) (.tmp 91),none⟩)]) (by kernel_rfl) hrel ?_
   refine gy1 t2 ?_;refine ⟨rfl,by decide,q0a d3 ?_⟩
   refine gQ ?_;refine cQ (q0S _) ?_;refine cQ csm ?_;refine ⟨by decide,trivial,⟨[_,_,_],rfl⟩,?_⟩
   with_reducible refine sxE ?_
   rfl
 by_cases hi3:i=3
 · subst hi3;refine gy1 e3 ?_;refine z4h fun id k' hrel=> ?_;refine q6N (G:=[999999,1,2]) mixed (m:=6) (by kernel_rfl) ?_
   refine q3P (i:=0) (io:=⟨some 90,.ld (some 3) (.tmp 6),none⟩) (by kernel_rfl) (by kernel_rfl) rfl rfl ?_ ?_
   · trivial
   refine q3P (i:=1) (io:=⟨some 91,.ld (some 3) (.tmp 7),none⟩) (by kernel_rfl) (by kernel_rfl) rfl rfl ?_ ?_
   · trivial
   refine z3J (i:=2) (j:=3) (io:=⟨some 18,.new 31 [.int .i64 0,.int .i64 0,.slice none 0 0],none⟩) (jo:=⟨some 19,.new 31 [.int .i64 0,.int .i64 0,.slice none 0 0],none⟩) (by kernel_rfl) (by kernel_rfl) (by kernel_rfl) ?_ ?_
   · simp (maxSteps:=3000000) only [Res.to,AnyK,go_sem,↓zA,↓reduceIte,↓reduceDIte] <;>try simp only [zB]
     refine ⟨fun x hx=> ?_,?_⟩
     · have hx:=q2P hx;simp only [AZ,Bf,or_false] at hx;rcases hx with rfl|rfl|rfl<;>rfl
     refine q3W (l:=[(false,⟨some 19,.new 31 [.int .i64 0,.int .i64 0,.slice none 0 0],none⟩),(false,⟨none,.st 3 (.tmp 18) (.tmp 90),none⟩),(false,⟨none,.st 3 (.tmp 19) (.tmp 91),none⟩)]) (by kernel_rfl) hrel ?_
     refine gy1 t3 ?_;refine ⟨rfl,by decide,q0a d4 ?_⟩
     refine gQ ?_;refine cQ (q0S _) ?_;refine cQ csm ?_;refine ⟨by decide,trivial,⟨[_,_,_],rfl⟩,?_⟩
     with_reducible refine sxE ?_
     rfl
   simp (maxSteps:=3000000) only [Res.to,AnyK,go_sem,↓zA,↓reduceIte,↓reduceDIte] <;>try simp only [zB]
   refine ⟨fun x hx=> ?_,?_⟩
   · have hx:=q2P hx;simp only [AZ,Bf,or_false] at hx;rcases hx with rfl|rfl|rfl<;>rfl
   refine q3W (l:=[(false,⟨some 18,.new 31 [.int .i64 0,.int .i64 0,.slice none 0 0],none⟩),(false,⟨none,.st 3 (.tmp 18) (.tmp 90),none⟩),(false,⟨none,.st 3 (.tmp 19) (.tmp 91),none⟩)]) (by kernel_rfl) hrel ?_
   refine gy1 t3 ?_;refine ⟨rfl,by decide,q0a d4 ?_⟩
   refine gQ ?_;refine cQ (q0S _) ?_;refine cQ csm ?_;refine ⟨by decide,trivial,⟨[_,_,_],rfl⟩,?_⟩
   with_reducible refine sxE ?_
   rfl
 obtain rfl:i=4:=by omega
 clear hi0 hi1 hi2 hi3 d1 d2 d3 d4 cG cE cD cS cF cV;refine gy1 e4 ?_;refine cQ cP ?_;refine cQ cN ?_;refine cQ (q0S _) ?_;refine cQ cR ?_;refine q0a (q0S _) ?_;obtain ⟨y1,y2⟩:=Y;by_cases hy:y2=0
 rotate_left
 · refine uQ 600 _ ?_;simp (maxSteps:=3000000) only [(eq_false hy),go_sem,↓zA,↓reduceIte,↓reduceDIte] <;>try simp only [zB]
   refine cQ ck ?_;trivial
 obtain ⟨q,q1,q2,q3⟩:=hRS hy;have cY:=cY (by omega)
 rw [q1] at cY;subst hy;obtain ⟨hz,rfl⟩ | ⟨hz,rfl⟩:=q3
 · have z1:(0< (v1.length:Int))=False:=eq_false (by have:v1.length=0:=hz;omega)
   refine gQ ?_;refine cy1 cY z1 ?_;refine cQ (q0S _) ?_;refine cQ csm ?_;refine cQ ck ?_;trivial
 have z1:(0< (v1.length:Int))=True:=eq_true (by have:0<v1.length:=hz;omega)
 refine gQ ?_;refine cy1 cY z1 ?_;have hal:List.length (addV (c,a,u,g,w) (v1,v2)).2.2.2.2=List.length w+1:=by show List.length (w++ [(v1,v2)])=_;rw [Af];rfl
 have hwl:List.length w≤16:=by simp only [vPac,Ai,decide_eq_true_eq] at a4;omega
 have hws:IntKind.i64.wrap ((List.length w:Int)+1)=((List.length w+1:Nat):Int):=q1y (by omega)
 have htk:List.take (List.length w) (addV (c,a,u,g,w) (v1,v2)).2.2.2.2=w:=by show List.take (List.length w) (w++ [(v1,v2)])=w;rw [List.take_left]
 rw [hws,hal];refine ⟨fun h=>absurd rfl h,fun _=>⟨⟨by omega,by omega⟩,q0a (q0S _) ?_⟩⟩
 refine gy1 htk ?_;refine cQ csm ?_;refine cQ ck ?_;trivial
end Go.Proofs.YtmapiojgmbgbgaaGreatDoor

