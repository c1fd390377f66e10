/- A part of the proof: a symbolic executor over abstract values, and its soundness. -/
import Derived.Test.YtmapiojgmbgbgaaGreatDoorV29
set_option linter.all false
namespace Go.Sx
open Go
variable {P:Program} {AQ:Ex→List SV→List SObj→Prop} {k0:Nat} {H:List SObj}

theorem z7M{o:Oper}{cl:Call}{f:FuncId}{d1 d2:Nat}{v1 v2:Value}{a:Act}{w:World}{r:Option Nat}{n:Nat}{R:Ending→World→Prop}{next:Act→World→Prop}{Q:Exit→Act→World→Prop}(hop:o.op= .call cl)(hc:cl.callee= .value (.func f))(ha:cl.args= #[.tmp d1,.tmp d2])(hen:enters P f=true)
 (hv1:a.tmps[d1]?=some v1)(hv2:a.tmps[d2]?=some v2)(hcall:Calls P f #[v1,v2] w R)(hR:∀e w',R e w'→∃u,e= .returned u∧next (a.put o.dst u) w'):o.wpIn (Fw r) n P a w next Q:=by
 refine ⟨fun f _=>q4r r f,?_⟩;rw [Oper.semAt_eq _ _ _ (by rw [hop];intro c hc;cases hc)]
 have he1:=z3J hv1;have he2:=z3J hv2;have hrun:(execOp a.eval o).run P w= .ok (.enter f #[v1,v2]) w:=by
  have hf:a.eval (.func f)= .func (.func f) #[] #[]:=rfl;simp [execOp,hop,resolve,hc,hf,ha,he1,he2,Deferred.ofValue,invoke,q2U hen]
 rw [hrun];refine ⟨(fun hd=>by cases hd),q3O (hcall.mono fun e w' h=> ?_)⟩
 obtain ⟨u,rfl,hn⟩:=hR e w' h;exact hn
theorem z9Q{op:Op}{g:Operand}{xs:List Operand}(h:compOp P op=some (.call g xs)):∃c,op= .call c∧c.callee= .value g∧c.args.toList=xs:=by
 unfold compOp at h;repeat' split at h
 all_goals first
  |contradiction
  | (cases h;exact ⟨_,rfl,by assumption,rfl⟩)
  | (simp only [A9,Ap,Option.some.injEq,reduceCtorEq,and_false,exists_false] at h;done)
  | (simp [A9] at h;done)
theorem z6Z{f:FuncId}{l:List OpI}{td:List IT}{t:List SV}{p1 p2 d:Nat}{t1 t2 ty:Ty}{xs:List t1.den}{ys:List t2.den}{zs:List ty.den}{e:Int}(hflat:(datList.all fun e=>e.2.1.flat)=true)(hp1:t[p1]?=some (.isl t1 xs))(hp2:t[p2]?=some (.isl t2 ys))(hen:enters P f=true)
 (hp:∀ (q:Nat→Prop) (w0:World) (u1 u2:Value),Sl q w0 t1 xs u1→Sl q w0 t2 ys u2→PCZ q w0 P f [.raw u1,.raw u2] (.tup [.isl ty zs,.raw (.int .i64 e)]))(hns:noStopI td=true)
 (hk:∀ (q:Nat→Prop) (w1:World) (N:Nat) (v:Value),Sl q w1 ty zs v→(∀b,q b→N≤b∧Unf w1 b)→ @SoundI (frzN q w1 N) P AQ ⟨k0,.ops l :: td,putT t (some d) (.tup [.raw v,.raw (.int .i64 e)]),H⟩):
 @SoundI noGhost P AQ ⟨k0,.ops (⟨some d,.call (.func f) [.tmp p1,.tmp p2],none⟩ :: l) :: td,t,H⟩:= @q0d noGhost P AQ k0 t H _ (fun td' hr'=>by
 obtain ⟨all,idx,r,rfl,ho,hrel⟩:=hr';cases idx with
 |nil=>exact ho.elim
 |cons i idx=>
  obtain ⟨⟨o,ho1,ho2⟩,ho⟩:=ho;obtain ⟨hc,hdst⟩:=q0E ho2;simp only at hc hdst;obtain ⟨cl,hop,hcal,hargs⟩:=z9Q hc;intro E rr n C a h0 hd;simp only [wpT,wpOpsIn,ho1];rw [if_pos (q1V hd.tmps (by rw [(q0m ho2).1 rfl]))]
  obtain ⟨v1,hv1,hd1⟩:=q1B hd.tmps hp1;obtain ⟨v2,hv2,hd2⟩:=q1B hd.tmps hp2;rw [SV.den] at hd1 hd2;refine z7M hop hcal (d1:=p1) (d2:=p2) (Bg.1 hargs) hen (by simpa using hv1) (by simpa using hv2) (z1b hflat hd.defs.2.1.tab hd.wd hd1 hd2 hp) ?_
  rintro ex w' ⟨q,v,rfl,hrl,hq,g1,g2⟩;refine ⟨_,rfl,?_⟩;rw [←hdst];have hsz:=hd.ext.size;have hz:ZInv q w' {C with w:=w'} H:=fun b hb=>by
   obtain ⟨q1,q2,q3⟩:=hq b hb;exact ⟨q2,fun hI=>absurd (hd.wd.imm b hI) (AG.2 q1),fun hO=>absurd (hd.wd.own b hO).2 (AG.2 q1),rfl⟩
  have hs:=hk q w' E.C.w.heap.size v hrl fun b hb=>⟨An hsz (hq b hb).1,(hq b hb).2.2⟩;have hd2: @Den (frzN q w' E.C.w.heap.size) E {C with w:=w'} (putT t (some d) (.tup [.raw v,.raw (.int .i64 e)])) H (a.put (some d) (.tuple #[v,.int .i64 e])):=
   ⟨g1,hd.ext.trans g2,⟨hd.defs.1,⟨hd.defs.2.1.tab.next g2,hd.defs.2.1.old⟩,⟨Ae _,hd.defs.2.1.old⟩,hz⟩,q6m (q0f g2.evo hd.tmps) (some d) (by rw [SV.den];exact ⟨[v,.int .i64 e],rfl,q1e [v,.int .i64 e]⟩)⟩
  have h5:= @q0e (frzN q w' E.C.w.heap.size) P AQ k0 _ H _ (.ops all idx :: r) hs ⟨all,idx,r,rfl,ho,hrel⟩ E rr n _ _ h0 hd2
  have h6:=(@q2A P noGhost (frzN q w' E.C.w.heap.size) (Fw rr) n E E (@conc noGhost E AQ) (@conc (frzN q w' E.C.w.heap.size) E AQ)
   (fun ex a w hh=> @q7T AQ noGhost (frzN q w' E.C.w.heap.size) E (fun _ _ _ _ h=>⟨h.1,h.2.1,trivial⟩) ex a w hh) (.ops all idx :: r) (show noStop r=true from q1W (td:=td) (r:=r) hrel hns)).1 _ _ h5
  simp only [wpT] at h6
  exact h6) rfl
end Go.Sx
namespace Go.Sx
open Go
variable [Ghost] {P:Program} {AQ:Ex→List SV→List SObj→Prop} {k0:Nat} {k:List IT} {t:List SV} {H:List SObj}

def frK(K:Out→List SObj→Prop):Out→List SObj→Prop
 |.ret (.bld h ty n),H'=>∃xs:List ty.den,H'[h]?=some (.row ty xs)∧n=xs.length∧xs.length≤1125899906842624∧frzObH h ty xs H'∧K (.ret (.isl ty xs)) (frzH h ty xs H')
 |.ret _,_=>False
 |.pan s,H'=>K (.pan s) H'
theorem j2j{o:Oper}{ev:Operand→SV}{K:Out→List SObj→Prop}(h:OpV P o ev H (frK K)):OpV P o ev H K:=by
 intro E C r n a next Q hw hg hv h1 h2
 refine h E C r n a next Q hw hg hv (fun s v H' C' hk hw' hst hd=> ?_) (fun s v H' C' hk=>h2 s v H' C' hk)
 cases s with
 |bld hh ty m=>
  obtain ⟨xs,g1,g2,g3,g4,g5⟩:=hk;obtain ⟨f1,f2⟩:=z7k hw' (Ext.refl C' H') g1 g3 g4;have hd':=q3E (s:=.bld hh ty m) hw' g1 g3 (by rw [SV.frzOb,if_pos ⟨rfl,rfl⟩,g2];exact Ae _) hd
  rw [SV.frz,if_pos ⟨rfl,rfl⟩,Ah (by rw [g2];exact Ae _)] at hd'
  exact h1 _ v _ (C'.frz hh) g5 f1 (hst.trans (Stp.of f2)) hd'
 |_=>exact hk.elim
theorem j1v{G:List Nat}{io:OpI}{l:List (Bool×OpI)}(hg:io.guard=none)(h:(io.op.ev H (evT t)).to P H (frK (opKG P AQ k0 true (if gkI io.op then G else strictP G) H (.dops G l :: k) t io.dst))):
 SoundI P AQ ⟨k0,.dops G ((false,io) :: l) :: k,t,H⟩:=by
 intro all listed fuel k' hpl hr;obtain ⟨n,i,o,io0,rfl,ho,hco,hpl',hB,hdst,hgd,hop⟩:=q1b hpl;have hw:wantedT all t o=some true:=(q0m hco).1 (hgd▸hg);obtain ⟨rfl, -⟩:io=io0∧True:=by
  rcases hop with h|h
  · exact ⟨h.1,trivial⟩
  cases h.1
 refine z1u hB ho hw (OpV.mono (j2j (q2b (q0E hco).1 h)) fun x H' hx=> ?_);cases x with
 |ret s=>
  simp only [opKG,(q0E hco).2] at hx;refine ⟨?_,hx.2 all _ n k' hpl' hr⟩;simp only [gsel,ho];rw [q9x hco];exact hx.1 trivial
 |pan s=>exact hx
theorem z8x{G X a b:Prop}(h:a∨b)(h1:a→X→G)(h2:b→X→G)(hx:X):G:=h.elim (fun k=>h1 k hx) (fun k=>h2 k hx)
theorem z9m{o:Oper}{b:Bool}{x:Operand}(h:compOp P o.op=some (.toStr b x)):isCv o=true:=by
 unfold isCv;unfold compOp at h;repeat' split at h
 all_goals first
  |contradiction
  | (simp only [‹o.op=Op.convert _ _ _›];done)
  | (simp only [A9,Ap,Option.some.injEq,reduceCtorEq,and_false,exists_false] at h;done)
  | (simp [A9] at h;done)
theorem j2b{G:List Nat}{l:List (Bool×OpI)}{d:Option Tmp}{x:Operand}{g:Option (Nat×Bool)}{h n:Nat}{xs:List UInt8}(hg:g=none∨∃d b,g=some (d,b)∧t.getD d .any= .raw (.bool b))(hx:evT t x= .bld h .u8 n)(hG:(strictP G).contains h=true)(hH:H[h]?=some (.row .u8 xs))(hn:n≤xs.length)(hl:xs.length≤1125899906842624)
 (hk:SoundI P AQ ⟨k0,.dops G l :: k,putT t d (.raw (.string (strOf (xs.take n)))),H⟩):SoundI P AQ ⟨k0,.dops G ((true,⟨d,.toStr true x,g⟩) :: l) :: k,t,H⟩:=by
 intro all listed fuel k' hpl hr;obtain ⟨n',i,o,io0,rfl,ho,hco,hpl',hB,hdst,hgd,hop⟩:=q1b hpl;have hio:io0=⟨d,.toStr true x,g⟩:=by
  rcases hop with h|h
  · exact h.1.symm
  obtain ⟨d0,opq,g0⟩:=io0;simp only at hdst hgd h⊢;have h2:=h.2;cases opq<;>simp only [toS,reduceCtorEq] at h2<;>first| (subst hdst;subst hgd;rw [←h2]) |skip
 subst hio;obtain ⟨hc,hd⟩:=q0E hco;have hw:wantedT all t o=some true:=by
  rcases hg with hg| ⟨d,b,hg,hv⟩
  · exact (q0m hco).1 hg
  rw [(q0m hco).2.1 d b b hg hv];simp
 obtain ⟨h1,h2⟩:=q1G hB;have hcl:closedB all listed=true:=by
  simp only [ldChkS,ho,z9m hc] at h2;simpa using h2
 refine q8n (s:=.raw (.string (strOf (xs.take n)))) h1 hcl ho (.inl ⟨hw,fun H' hs K hk=>q2b hc ?_⟩) ?_
 · have hH':H'[h]?=some (.row .u8 xs):=by rw [hs h (by simpa using hG)];exact hH
   simp only [IOp.ev,hx,hH'];exact ⟨⟨hn,hl⟩,hk⟩
 rw [←hd];exact hk all _ n' k' hpl' hr
theorem z3W{f:FuncId}{args:List SV}{ty:Ty}{xs:List ty.den}{v:Value}{d:Tmp}{td:List IT}{s0:SV}(hpl:plainT td=true)(ht:t[d]?=some s0)(hp:VC P f args [] (RowT ty xs v))(hb:SV.belL 0 args=true)(hargs:args=SV.renL (sig [] H.length) args)
 (h:SoundI P AQ ⟨k0,td,putT t (some d) (.tup [.bld H.length ty xs.length,.raw v]),H++ [.row ty xs]⟩):CallI P AQ f args (some d) ⟨k0,td,t,H⟩:=by
 refine z4Q hp hb hargs (fun e=> ?_) h;subst e;refine q0d (fun td' hr=> ?_) hpl;intro E r n C a h0 hd;obtain ⟨C',hw,g1,g2,g3⟩:=q8E (t:=ty) hd.wd;have hl:=(Aa.1 ht).1;have h1:=q0f g2.evo hd.tmps;obtain ⟨u,hu,hd'⟩:=q1B h1 (show (putT t (some d) (.tup [.raw (.slice none 0 0),.raw v]))[d]?=_ from Ar hl)
 have h2:(SV.tup [.bld H.length ty 0,.raw v]).den C' u:=by
  rw [SV.den] at hd'⊢;obtain ⟨vs,hv,hl⟩:=hd';obtain ⟨a1,us,rfl,d1,hl2⟩:=q0c.1 hl;rw [SV.den] at d1;subst d1;exact ⟨_,hv,q0c.2 ⟨_,_,rfl,g3,hl2⟩⟩
 have h3:=q2p (i:=d) h1 h2;have he:a.tmps.toList.set d u=a.tmps.toList:=by
  apply Bc;intro j;by_cases e:j=d
  · subst e;rw [Ar (Aa.1 hu).1,hu]
  rw [Aq (Ne.symm e)]
 rw [he] at h3
 have h4:=q0e h hr E r n C' a h0 ⟨g1,hd.ext.trans g2,DefOk.next g2 hd.defs,by
  simpa only [putT,List.set_set,Bq] using h3⟩
 rw [←hw];exact h4
end Go.Sx
namespace Go.Proofs.YtmapiojgmbgbgaaGreatDoor
open Go Go.Sx Go.Proofs
set_option maxRecDepth 100000
set_option maxHeartbeats 40000000
theorem z6i:(datList.all fun e=>e.2.1.flat)=true:=by rfl
theorem z7K(p:Pac)(ho:PacT.ok p)(c:Prin)(hc:PrinT.ok c)(auth:Int)(l:List Pre)(hl:(Ty.slice PreT).ok l)(b:List UInt8)(hb:(Ty.slice .u8).ok b):PC Tryz.prog 6 [.agg (PacT.cells p),.agg (PrinT.cells c),rI auth,.isl PreT l,.isl .u8 b] (rB true):=by
 have ck:=z8f;have c1:=z8i p ho;have c2:=q9g c hc;refine q0w rfl rfl ?_;refine rQ fi6 ?_;refine q0a c1 ?_;cases h1:smallP p with
 |false=>
  refine gQ ?_;refine cQ ck ?_;trivial
 |true=>
 refine gQ ?_;refine q0a c2 ?_;cases h2:shortB c with
 |false=>
  refine gQ ?_;refine cQ ck ?_;trivial
 |true=>
 by_cases h3:20<l.length
 · have f1:(20< (l.length:Int))=True:=eq_true (by omega)
   refine gy1 f1 ?_;refine cQ ck ?_;trivial
 have f1:(20< (l.length:Int))=False:=eq_false (by omega)
 by_cases h4:300<b.length
 · have f2:(300< (b.length:Int))=True:=eq_true (by omega)
   refine gy2 f1 f2 ?_;refine cQ ck ?_;trivial
 have f2:(300< (b.length:Int))=False:=eq_false (by omega)
 refine gy2 f1 f2 ?_;refine q3o 11 PreT (fun i=>List.take i l) (fun i=>[(12,rI i)]) l.length (fun j=>(l.getD j PreT.dflt).2.length≤300) rfl (by simp) (by simp) rfl (fun i=>rfl) ?_ fun i hi hall=> ?_
 · with_reducible refine sxE ?_;trivial
 have hwr:=wsx i (by omega)
 refine uQ 9 _ ?_;with_reducible refine sxE ?_
 refine ⟨fun hlt=> ?_,fun hge=> ?_⟩
 · refine uQ 15 _ ?_;with_reducible refine sxE ?_
   refine ⟨⟨by omega,hlt⟩,fun hb3=> ?_,fun hb3=> ?_⟩
   · refine gQ ?_;refine cQ ck ?_;trivial
   refine uQ 1 _ ?_;with_reducible refine sxE ?_
   refine q1T [999999] mixed ?_;refine uQ 12 _ ?_;with_reducible refine sxE ?_
   refine ⟨⟨by omega,hlt⟩,⟨by omega,hlt⟩,rfl,?_⟩
   refine j1v rfl ?_;simp (maxSteps:=3000000) only [Res.to,frK,go_sem,↓zA,↓reduceIte,↓reduceDIte] <;>try simp only [zB]
   refine ⟨⟨by omega,by omega⟩,_,rfl,by rw [Ac],by omega,?_⟩
   simp (maxSteps:=3000000) only [opKG,go_sem,↓zA,↓reduceIte,↓reduceDIte] <;>try simp only [zB]
   refine gQ ?_;have hst:l.take (i+1)=l.take i++ [l.getD i PreT.dflt]:=q0Y hlt;have hlen:(l.take i).length=i:=by simp;omega
   refine ⟨rfl,⟨by omega,by omega⟩,q2a [_,_,_,_] [] hlt (q0I hall (by omega)) (by rw [hst];rfl) ?_⟩
   with_reducible refine sx3 hwr hst ?_;trivial
 obtain rfl:i=l.length:=by omega
 rw [Az];refine q1i 2 rfl rfl (by omega) ?_ ?_ ?_
 · with_reducible refine sxE ?_;trivial
 · (with_reducible refine sxE ?_<;>try exact True.intro)
   all_goals exact Ae _
 with_reducible refine sxE ?_
 rw [Az];have hs:∀x∈l,x.2.length≤300:=fun x hx=>by
  obtain ⟨j,hj,rfl⟩:=AV hx;have h1:=hall j hj;rwa [q5i hj] at h1
 clear hall hi hge hwr;have cb:=q6R p c auth ho hc;have crb:=j2u p c auth ho hc;have cn:=q3u (bindS p c auth);generalize bindS p c auth=bi at cb crb cn;refine gQ ?_;refine cR cb ?_;refine cR cn ?_;refine cR crb ?_;refine z3W rfl rfl (j2v l hl fun x hx=>An (hs x hx) (by decide)) rfl rfl ?_
 refine gQ ?_;refine q0a (j3E l hl) ?_;have hfa:(∃i,i<l.length∧findD l=((l.getD i PreT.dflt).2,true)∧atD l=(i:Int))∨(findD l=([],false)∧atD l= -1):=by
  unfold findD atD;cases hf:firstN l.length (is128 l) with
  |some i=>exact .inl ⟨i,(q6F hf).1,rfl,rfl⟩
  |none=>exact .inr ⟨rfl,rfl⟩
 have hcs:(findD l).1.length≤300∧((findD l).2=true→0≤atD l∧(atD l).toNat<l.length∧(l.getD (atD l).toNat PreT.dflt).2=(findD l).1)∧((findD l).2=false→atD l= -1∧(findD l).1= []):=by
  rcases hfa with ⟨i,hlt,e1,e2⟩ | ⟨e1,e2⟩
  · rw [e1,e2];exact ⟨hs _ (q0O (d:=PreT.dflt) hlt),fun _=>⟨by omega,by omega,rfl⟩,fun h=>by cases h⟩
  rw [e1,e2];exact ⟨by simp,fun h=>(by cases h),fun _=>⟨rfl,rfl⟩⟩
 clear hfa;generalize findD l=fd at hcs;generalize atD l=z at hcs;obtain ⟨cs,is⟩:=fd;obtain ⟨hc3,hct,hcf⟩:=hcs;dsimp only at hc3 hct hcf⊢;refine uQ 4 _ ?_;with_reducible refine sxE ?_
 refine q1T [999999,3] mixed ?_;have hcb:cs.length≤1125899906842624:=by omega
 apply z8x (show is=true∨is=false by cases is<;>simp)
 · intro hb tail;obtain ⟨hz0,hz1,hz2⟩:=hct hb;have f3:(0≤z)=True:=eq_true hz0;refine uQ 8 _ ?_;with_reducible refine sy2 f3 hb ?_
   refine j2b (.inr ⟨_,_,rfl,rfl⟩) rfl rfl rfl (Ae _) hcb ?_;rw [Az];refine uQ 25 _ ?_;with_reducible refine sy6 f3 hb hz2 hz2 hz2 hz2 ?_
   refine ⟨hz1,?_⟩;refine z0A (14 :: 15 :: List.range' 82 35) rfl ?_;simp only [maskT,Bl,List.foldl_nil,Bj,Bk,List.range',Nat.reduceAdd];exact tail
 · intro hb tail;obtain ⟨rfl,rfl⟩:=hcf hb;refine uQ 34 _ ?_;with_reducible refine sx1 hb ?_
   refine z0A (14 :: 15 :: List.range' 82 35) rfl ?_;simp only [maskT,Bl,List.foldl_nil,Bj,Bk,List.range',Nat.reduceAdd];exact tail
 clear hct hcf;have crp:=j3f l b hl (by omega) (by omega)
 have cn:=q3u (putD l b).2;refine z6Z (t1:=PreT) (t2:=.u8) (ty:=PreT) (xs:=l) (ys:=b) (zs:=(putD l b).1) (e:=(putD l b).2) z6i rfl rfl (by kernel_rfl) (fun q w0 u1 u2 g1 g2=>j2X l b g1 g2 (by omega) (fun x hx=>An (hs x hx) (by decide)) (by omega)) rfl fun q w1 N v hv hz=> ?_
 letI:Ghost:=frzN q w1 N
 have hpz:(Ty.slice PreT).ok (putD l b).1:=Ty.rel_ok _ _ _ hv;have crs:=z3G (putD l b).1 (putD l b).1 hpz;rw [decide_eq_true rfl] at crs;generalize putD l b=pd at*;obtain ⟨zs,e⟩:=pd;dsimp only at hpz crp crs cn hv⊢;refine gQ ?_;refine cQ crp ?_;refine z4J crs (j3n hv (z7w rfl z9I)) ?_;refine gQ ?_;refine q0a cn ?_;refine uQ 6 _ ?_;with_reducible refine sxE ?_
 refine j3k hz rfl rfl fun w' htr=> ?_
 letI:Ghost:=scrG q w'
 have s1:Sl q w' PreT zs v:=htr (.slice PreT) _ _ hv;clear htr hz hv crs crp cn;obtain ⟨B,d,rfl,hB⟩:=s1.out;have hokl:=hpz.2;have hpl:=hpz.1;refine uQ 2 _ ?_;with_reducible refine sxE ?_
 refine gQ ?_;refine q5Y 20 zs.length (fun _=>True) ?_ fun i hi _=> ?_
 · with_reducible refine sxE ?_;trivial
 refine uQ 10 _ ?_;with_reducible refine sxE ?_
 have hwr:=wsx i (by omega)
 refine ⟨fun hlt=> ?_,fun hge=> ?_⟩
 · rcases hB with h0| ⟨b1,o1,rfl,hat⟩
   · exfalso;rw [h0] at hlt;simp at hlt
   have hx:=hat i (zs.getD i PreT.dflt) (by rw [Ad,Ab hlt];rfl)
   have hok2:=(hokl _ (q0O (d:=PreT.dflt) hlt)).2.1;generalize zs.getD i PreT.dflt=x at hx hok2;refine gQ ?_;refine q5Y 21 x.2.length (fun _=>True) ?_ fun j hj _=> ?_
   · with_reducible refine sxE ?_;trivial
   have hwr2:=wsx j (by omega)
   refine gQ ?_;refine ⟨⟨by omega,hlt⟩,j0s (t:=.u8) (ys:=x.2) hx.snd fun v hv=> ?_⟩
   obtain ⟨A',c',rfl,hA'⟩:=hv.out;clear hA' hv;refine gQ ?_;refine ⟨fun hlt2=> ?_,fun hge2=> ?_⟩
   · refine ⟨⟨by omega,hlt⟩,j0s (t:=.u8) (ys:=x.2) hx.snd fun v hv2=> ?_⟩
     obtain ⟨A2,c2,rfl,hA2⟩:=hv2.out;rcases hA2 with h0| ⟨b2,o2,rfl,hat2⟩
     · exfalso;rw [h0] at hlt2;simp at hlt2
     have hlt3:j<x.2.length:=by omega
     have hy:=hat2 j _ (Ab hlt3);refine gQ ?_;refine ⟨⟨by omega,hlt3⟩,z5w hy.1 hy.u8 fun m=> ?_⟩
     refine gQ ?_;refine ⟨⟨by omega,hlt3⟩,z6B hy.1 hy.u8 ?_⟩
     refine gQ ?_;refine ⟨j+1,hlt3,by dsimp only;omega,rfl,?_⟩
     with_reducible refine sx1 hwr2 ?_;trivial
   refine ⟨⟨by omega,hlt⟩,z5w hx.1 hx.fst.int fun m=> ?_⟩
   refine gQ ?_;refine ⟨⟨by omega,hlt⟩,z6B hx.1 hx.fst.int ?_⟩
   refine gQ ?_;refine ⟨i+1,hlt,by dsimp only;omega,rfl,?_⟩
   with_reducible refine sx1 hwr ?_;trivial
 clear hB s1 hwr hge hi hpz hokl hpl;refine gQ ?_;refine q0y (fun s:Nat×List UInt8=>[(22,rI (s.1:Nat))]) (fun s=>[_,_,_,.row .u8 s.2]) (fun s=>cs.length-s.1) (fun s=>s.1≤cs.length∧s.2.length=cs.length) (0,cs) ⟨Al _,rfl⟩ rfl ?_ fun s hs2=> ?_
 · with_reducible refine sxE ?_;trivial
 obtain ⟨i,ys⟩:=s;obtain ⟨hi,hy⟩:=hs2;dsimp only at hi hy⊢;refine gQ ?_;have hwr:=wsx i (by omega)
 have cf:=z3G l l hl;rw [decide_eq_true rfl] at cf;refine ⟨fun hlt=>⟨⟨by omega,hlt⟩,by omega,⟨by omega,hlt⟩,⟨by omega,q2D _⟩,⟨(i+1,_),⟨hlt,(List.length_set ..).trans hy⟩,by dsimp only;omega,rfl,?_⟩⟩,fun hge=> ?_⟩
 · with_reducible refine sx1 hwr ?_;trivial
 refine cQ cf ?_;refine cQ ck ?_;trivial
end Go.Proofs.YtmapiojgmbgbgaaGreatDoor
