/- A part of the proof: a symbolic executor over abstract values, and its soundness. -/
import Derived.Test.YthbcodbcndiapaaGreatDoorX1
import Derived.Laws.Append
import Derived.MapKept
import Derived.Laws.IdiomStrings
import Derived.Laws.MakeOwn
import Derived.IntWalk
import Derived.Laws.StructEq
set_option linter.all false
namespace Go.Sx
section
open Go

variable [Ghost] {P:Program} {AQ:Ex->List SV->List SObj->Prop} {k0:Nat} {k:List It} {t:List SV} {H:List SObj}

def resRow(t':Ty)(xs:List t'.den)(t:Ty)(i k:Nat)(ag:Option Nat):Option SV:=
 if t'=t/\i=0/\k=0 then (match ag with
  |some m=>if t'.plain=true then (if t'.size=1/\xs.length=m/\0<m then some (.dat (.arr m t') xs) else none) else (match xs with
   | [x]=>if t'.size=m then some (.dat t' x) else none
   |_=>none)
  |none=>none) else none
def resV1(P:Program)(t:List SV)(H:List SObj):ResultVar->Option SV
 |.tmp i=>some (t.getD i .any)
 |.cell i ty=>match t.getD i .any,aggOf P ty with
  |.ptr h off,some ag=>match H[h]? with
   |some (.cells _ cs)=>pick cs off ag
   |_=>none
  |.rptr h ty i k,some ag=>match H[h]? with
   |some (.row ty' xs)=>resRow ty' xs ty i k ag
   |_=>none
  |_,_=>none
def resVL(P:Program)(t:List SV)(H:List SObj):List ResultVar->Option (List SV)
 | []=>some []
 |r :: l=>match resV1 P t H r,resVL P t H l with
  |some s,some ss=>some (s :: ss)
  |_,_=>none
def resV(P:Program)(t:List SV)(H:List SObj)(rs:List ResultVar):Option SV:=
 match resVL P t H rs with
 |some [s]=>some s
 |some l=>some (.tup l)
 |none=>none

variable {C:Cx}{a:Act}
theorem z8E{r:ResultVar}{s:SV}(J:Wd C H)(B:SV.denL C t a.tmps.toList)(h:resV1 P t H r=some s):
 ∃v,(match r with
  |.tmp t=>(pure (a.tmps.getD t undef):Sem Value)
  |.cell b t=>do loadVar t (<-asAddr (a.tmps.getD b undef))).run P C.w= .ok v C.w/\s.den C v:=by
 cases r with
 |tmp i=>simp only [resV1] at h;cases h;exact ⟨a.tmps.getD i undef,rfl,q2f B (.tmp i)⟩
 |cell i ty=>
  simp only [resV1] at h;split at h
  . rename_i Q off ag G N;split at h
    . rename_i T cs y;have f:=q2f B (.tmp i);simp only [evT,Act.eval] at f;rw [G,SV.den] at f;obtain ⟨_,b,F,f⟩:=f;obtain ⟨O,vs,d,l,E⟩:=J.obj Q _ y;rw [F] at d;cases d;obtain ⟨v,g1,g2⟩:=q1b (P:=P) N (b:=b) (base:=0) (off:=off) E (λj u U=>by rw [Ag,q0h l];exact U) h
      simp_all [asAddr]
    cases h
  . rename_i Q t1 i1 k1 ag G N;split at h
    . rename_i t' xs y;have f:=q2f B (.tmp i);simp only [evT,Act.eval] at f;rw [G,SV.den] at f;obtain ⟨_,b,F,f⟩:=f;unfold resRow at h;split at h
      . rename_i L;obtain ⟨rfl,rfl,rfl⟩:=L;split at h
        . rename_i m;split at h
          . split at h
            . rename_i L;obtain ⟨R,hl,S⟩:=L;cases h;obtain ⟨O,d,q⟩:=q9m (i:=0) (m:=m) J y R (by omega) S;grind [q5c,SV.ofT,Ty.plain,Ty.size,asAddr]
            cases h
          rename_i hpl;split at h
          . rename_i x;split at h
            . rename_i R;cases h;obtain ⟨O,d,q⟩:=q1O (i:=0) (x:=x) J y rfl;rw [F] at d;cases d;rw [Ct] at q;grind [q5c,SV.ofT,asAddr]
            cases h
          cases h
        cases h
      cases h
    cases h
  cases h

theorem z0J{C:Cx}{a:Act}(j:Wd C H)(f:SV.denL C t a.tmps.toList):∀ {d:List ResultVar} {l:List SV},resVL P t H d=some l->
 ∃vs,(d.mapM (m:=Sem) λ
  |.tmp t=>(pure (a.tmps.getD t undef):Sem Value)
  |.cell b t=>do loadVar t (<-asAddr (a.tmps.getD b undef))).run P C.w= .ok vs C.w/\SV.denL C l vs
 | [],l,h=>by cases h;exact ⟨[],by simp,q0y.2 rfl⟩
 |r :: d,l,h=>by
  simp only [resVL] at h;split at h
  . rename_i s ss B y;cases h;obtain ⟨v,g1,u⟩:=z8E j f B;obtain ⟨vs,g3,q⟩:=z0J j f y;refine ⟨v :: vs,?_,q0c.2 ⟨v,vs,rfl,u,q⟩⟩
    simp_all
  cases h

variable {fn:Func}
theorem q9E{s:SV}(B:Wd C H)(y:SV.denL C t a.tmps.toList)(h:resV P t H fn.results.toList=some s):∃v,(results fn a.tmps).run P C.w= .ok v C.w/\s.den C v:=by
 unfold resV at h
 have key:∀ {l:List SV},resVL P t H fn.results.toList=some l->∃vs:List Value,(fn.results.mapM (m:=Sem) λ
  |.tmp t=>(pure (a.tmps.getD t undef):Sem Value)
  |.cell b t=>do loadVar t (<-asAddr (a.tmps.getD b undef))).run P C.w= .ok vs.toArray C.w/\SV.denL C l vs:=by
  intro l d;obtain ⟨vs,r,q⟩:=z0J B y d
  simp_all [B0]
 split at h
 . rename_i E d;cases h;obtain ⟨vs,r,q⟩:=key d;obtain ⟨v,us,rfl,F,f⟩:=q0c.1 q;rw [q0y] at f;subst f;refine ⟨v,?_,F⟩;unfold results;simp only [Sem.run_bind]
   erw [r]
   rfl
 . rename_i l hne d;cases h;obtain ⟨vs,r,q⟩:=key d;have j:=q0v q;refine ⟨.tuple vs.toArray,?_,by rw [SV.den];simp_all⟩;unfold results;simp only [Sem.run_bind]
   erw [r]
   have hn:¬vs.length=1:=by
    intro u;rw [j] at u;match l,u with
    | [E],_=>simp_all
   simp_all
 cases h

variable {w:World}{D:Nat}
def q6m(h:w.heap[D]?=some (.deferred (some []))):(Instr.takeDeferred D).run P w= .ok [] {w with heap:=w.heap.setIfInBounds D (.deferred none)}:=by simp [Instr.takeDeferred,getObj,setObj,Sem.run,h]

def dropD(C:Cx)(D:Nat):Cx:={C with w:={C.w with heap:=C.w.heap.setIfInBounds D (.deferred none)}}
theorem q1E{b:Nat}(h:b≠D):(dropD C D).w.heap[b]?=C.w.heap[b]?:=by simp_all [dropD,Ne.symm]
theorem q7e(f:¬C.I D)(hD:C.w.heap[D]?=some (.deferred (some []))):Evo C (dropD C D):=
 ⟨Ac _,λ_ _=>rfl,λb d=>⟨d,q1E (λe=>f (e▸d))⟩,λb m hm=>by
  grind [World.bsize,q1E]⟩
theorem z9S(d:Wd C H)(r:¬C.I D)(q:¬OwnB C H D)(u:C.w.heap[D]?=some (.deferred (some []))):Wd (dropD C D) H:=by
 have j:=q7e r u;refine ⟨d.n,λh x m=> ?_,λb f=> ?_,d.inj,λb f=> ?_⟩
 . by_cases l:x.live=true
   . exact q0z j.I h rfl (λb f=>q1E (λe=>q (e▸ ⟨h,x,m,l,f⟩))) (q0f j) (d.obj h x m)
   cases x<;>first|trivial|simp [SObj.live] at l
 . have:=d.own b f;grind [dropD]
 simp only [dropD,Array.size_setIfInBounds];exact d.imm b f
theorem z6C{E:En}(d:Ext E C H)(j:¬C.I D)(m:C.w.heap[D]?=some (.deferred (some [])))(hs:E.C.w.heap.size<=D):Ext E (dropD C D) H:=
 ⟨d.evo.trans (q7e j m),by grind [dropD],d.os,d.tape,d.output,λb f l=>(q1E (by omega)).trans (d.frame b f l),λb f=>orMap (d.immNew b f) id λ⟨x,u⟩=>⟨x,u.keep (q1E λe=>j (e▸f))⟩,d.ownNew,d.keep0⟩

structure MarkOk (E:En) (C:Cx) (H:List SObj) (D:Nat):Prop where
 sz:E.C.w.heap.size<=D
 imm:¬C.I D
 own:¬OwnB C H D
 at_:C.w.heap[D]?=some (.deferred (some []))
def q3C{fn:Func}{tmps:Array Value}{R:Ending->World->Prop}{E:En}{u:FrameMode}(r:u≠ .run):∀ (Ds:List Nat) (C:Cx),Wd C H->Ext E C H->Ds.Nodup->
 (∀D∈Ds,MarkOk E C H D)->
 (Wd (Ds.foldl dropD C) H->Ext E (Ds.foldl dropD C) H->Evo C (Ds.foldl dropD C)->LeavesIn Fence.wide 0 P fn tmps R [] u (Ds.foldl dropD C).w)->LeavesInM Fence.wide 0 P fn tmps R (Ds.map markD) u C.w
 | [],C,hw,hx,_,_,h=>h hw hx (Evo.refl _)
 |D :: Ds,C,hw,hx,hnd,hD,h=>by obtain ⟨G,l,O,d⟩:=hD D (by simp);have L:=q7e l d;refine ⟨r,.inl ⟨D,_,rfl,q6m d,?_⟩⟩;refine q3C r Ds (dropD C D) (z9S hw l O d) (z6C hx l d G) (BA.1 hnd).2 (λy b=> ?_) (λj f q=>h j f (L.trans q));obtain ⟨B,F,J,N⟩:=hD y (by simp [b]);have m:y≠D:=λe=>(BA.1 hnd).1 (e▸b);exact ⟨B,F,J,(q1E m).trans N⟩

def retQ(P:Program)(fn:Func)(K:Out->List SObj->Prop):Ex->List SV->List SObj->Prop
 |.normal,t,H=>∃s,resV P t H fn.results.toList=some s/\K (.ret s) H
 |.ret,t,H=>∃s,resV P t H fn.results.toList=some s/\K (.ret s) H
 |.pan s,_,H=>K (.pan s) H
 |.exit _,_,_=>False

theorem q6i{R:Ending->World->Prop}{v:Value}(hr:(results fn a.tmps).run P w= .ok v w)(h:R (.returned v) w):LeavesIn Fence.wide 0 P fn a.tmps R [] .returning w:=by grind [LeavesIn]

def LeaveOk(E:EnD)(J:Cx->List SObj->Prop):Prop:=
 ∀ (C:Cx) (H:List SObj) (ds:List Deferred),Wd C H->Ext E C H->Ghost.fin E C H ds->∃Ds:List Nat,ds=Ds.map markD/\Ds.Nodup/\(∀D∈Ds,MarkOk E C H D)/\J (Ds.foldl dropD C) H
theorem q3o{f:FuncId}{fn:Func}{c:Code}{args:List SV}{K:Out->List SObj->Prop}{E:EnD}{C:Cx}{vs:List Value}(hf:P.funcs[f]?=some fn)(X:fn.body=some c)(hE:E.base= [])(hn:E.C.n<=H.length)(hw:Wd C H)(hx:Ext E C H)(Y:Ghost.inv E C H)
 (J:Cx->List SObj->Prop)(U:LeaveOk E J)
 (V:SV.denL C args vs)(h:Sound P (retQ P fn K) ⟨H.length,[.code c],args++List.replicate (fn.ntmps-args.length) .any,H⟩):
 Calls P f vs.toArray C.w λe w'=>∃o H' C',K o H'/\C'.w=w'/\Wd C' H'/\Ext E C' H'/\J C' H'/\outDen C' o e:=by
 refine (callsIn_wide (n:=0)).1 (callsIn_of_wp_marks hf X trivial ?_ rfl);have y:=q0v V;have W:Den E C (args++List.replicate (fn.ntmps-args.length) .any) H {tmps:=vs.toArray++Array.replicate (fn.ntmps-vs.toArray.size) undef,defers:=[]}:=by
  refine ⟨hw,hx,⟨hE.symm,Y⟩,?_⟩;simp only [Cs,Cd,Ce,y];refine q0w.2 ⟨vs,_,rfl,V,?_⟩;generalize fn.ntmps-args.length=m;induction m with
  |zero=>rfl
  |succ m ih=>grind [q0c,SV.den]
 have S:=h E none 0 C _ ⟨hn,Ghost.rd0⟩ W;simp only [wpT] at S;refine wpIn_mono S λe a w j=> ?_;have fin:∀ {C':Cx} {t':List SV} {H':List SObj},(∃s,resV P t' H' fn.results.toList=some s/\K (.ret s) H')->C'.w=w->DenF E C' t' H' a->
  LeavesInM Fence.wide 0 P fn a.tmps (λe w'=>∃o H' C',K o H'/\C'.w=w'/\Wd C' H'/\Ext E C' H'/\J C' H'/\outDen C' o e) a.defers .returning w:=by
  rintro C' t' H' ⟨s,N,G⟩ rfl b;obtain ⟨Ds,O,q,r,Q⟩:=U _ _ _ b.wd b.ext b.defs;rw [O];refine q3C (by simp) Ds C' b.wd b.ext q r λB R L=> ?_;obtain ⟨v,g1,Z⟩:=q9E (P:=P) (fn:=fn) B (q0f L b.tmps) N;exact q6i g1 ⟨.ret s,H',_,G,rfl,B,R,Q,v,rfl,Z⟩
 cases e with
 |normal=>obtain ⟨C',t',H',j,d,b⟩:=j;exact fin j d b
 |ret=>obtain ⟨C',t',H',j,d,b⟩:=j;exact fin j d b
 |panic ch=>obtain ⟨C',t',H',s,v,G,rfl,N,rfl,d,u,F,_⟩:=j;obtain ⟨Ds,O,q,r,Q⟩:=U _ _ _ d u F;show LeavesInM _ _ _ _ _ _ _ _ _;rw [O];exact q3C (by simp) Ds C' d u q r λB R L=>⟨.pan s,H',_,G,rfl,B,R,Q,v,rfl,q0Y L N⟩
 |exit id=>obtain ⟨_,_,_,j,_⟩:=j;exact j.elim
 |goto l=>exact j.elim
 |outgrown=>exact j.elim
theorem q4t{f:FuncId}{c:Code}{args:List SV}{K:Out->List SObj->Prop}(d:P.funcs[f]?=some fn)(m:fn.body=some c)
 (h: @Sound noGhost P (retQ P fn K) ⟨H.length,[.code c],args++List.replicate (fn.ntmps-args.length) .any,H⟩):VCall P f args H K:=by
 intro C vs b l j;refine (@q3o noGhost P H f fn c args K ⟨⟨C,H⟩,[]⟩ C vs d m rfl (by rw [b.n];omega) b (Ext.refl _ _) ⟨l.here,trivial⟩ (λ_ _=>True) (λ_ _ ds _ _ h=>⟨[],h.1,Cy,λ_ h=>by simp at h,trivial⟩) j h).mono ?_
 simp_all
end
section
open Go

variable [Ghost] {P:Program} {o:Oper} {ev:Operand->SV} {H:List SObj} {K:Out->List SObj->Prop}

def q7m:∀ (cs:List Value) (off j:Nat) (b:Array Value),off+j+cs.length<=b.size->
 ((cs.zipIdx j).foldl (λ(a:Array Value) (x:Value×Nat)=>a.setIfInBounds (off+x.2) x.1) b).toList=splice b.toList (off+j) cs
 | [],off,j,b,_=>by simp [splice]
 |c :: cs,off,j,b,h=>by simp only [AB] at h;simp only [List.zipIdx_cons,Bb];rw [q7m cs off (j+1) _ (by simp;omega),q7j (by simp;omega)];simp [Au]

def fillS(place:Nat->Option (Nat×Nat)):List SV->List (Nat×SV)->Option (List SV)
 |zs,[]=>some zs
 |zs,(i,s) :: rest=>match place i,s.flat with
  |some (off,size),some cs=>if cs.length=size/\off+cs.length<=zs.length then fillS place (splice zs off cs) rest else none
  |_,_=>none

theorem q7P{C:Cx}{b:Nat->Option (Nat×Nat)}:∀ {ps:List (Nat×SV)} {qs:List (Nat×Value)} {zs cs:List SV} {vs:List Value},SV.denL C zs vs->
 (ps.map (·.1)=qs.map (·.1))->SV.denL C (ps.map (·.2)) (qs.map (·.2))->fillS b zs ps=some cs->∃us,Instr.fill b vs.toArray qs=some us.toArray/\SV.denL C cs us
 | [],[],zs,cs,vs,hz,_,_,h=>by cases h;exact ⟨vs,rfl,hz⟩
 | [],_ :: _,_,_,_,_,h,_,_=>by simp at h
 |_ :: _,[],_,_,_,_,h,_,_=>by simp at h
 | (i,s) :: ps,(j,v) :: qs,zs,cs,vs,hz,l,f,h=>by
  simp only [Az,List.cons.injEq] at l;obtain ⟨rfl,l⟩:=l;simp only [Az] at f;obtain ⟨v',us,e,r,f⟩:=q0c.1 f;simp only [List.cons.injEq] at e;obtain ⟨rfl,rfl⟩:=e;simp only [fillS] at h;split at h
  . rename_i off size ds m q;split at h
    . rename_i hc;have d:=q3n q r;have hl:=q0v d;have hzl:=q0v hz;obtain ⟨us,h1,u⟩:=q7P (q4o hz d) l f h;refine ⟨us,?_,u⟩;rw [Instr.fill];simp only [m];rw [if_neg (by grind)];have:(v.cells.zipIdx.foldl (λcs x=>cs.setIfInBounds (off+x.2) x.1) vs.toArray)=(splice vs off v.cells.toList).toArray:=by have:=q7m v.cells.toList off 0 vs.toArray (by grind);rw [AG] at this;grind [Array.toList_zipIdx]
      simp_all
    cases h
  cases h

inductive PlaceK where
 |fields (l:List (Nat×Nat))
 |arr (sz:Nat)
def PlaceK.fn:PlaceK->Nat->Option (Nat×Nat)
 |.fields l,i=>l[i]?
 |.arr sz,i=>some (i*sz,sz)
def placesOf(P:Program)(t:TypeId):Option PlaceK:=
 match P.underlying t with
 |some (.struct fs)=>(fs.toList.mapM λf=>(P.info? f.type).map λi=>(f.offset,i.size)).map .fields
 |some (.array _ e)=>(P.info? e).map λi=>.arr i.size
 |_=>none

theorem q4u{w:World}:∀ {b:List Field} {l:List (Nat×Nat)},(b.mapM (m:=Option) λf=>(P.info? f.type).map λi=>(f.offset,i.size))=some l->
 (b.mapM (m:=Sem) λf=>do pure (f.offset,<-sizeOf f.type)).run P w= .ok l w
 | [],l,h=>by simp_all
 |f :: b,l,h=>by
  rw [List.mapM_cons] at h;cases d:P.info? f.type with
  |none=>simp [d] at h
  |some i=>
   cases j:(b.mapM (m:=Option) λf=>(P.info? f.type).map λi=>(f.offset,i.size)) with
   |none=>simp [d,j] at h
   |some l'=>simp [d,j] at h;have q:=q4u (w:=w) j;rw [List.mapM_cons];simp only [Sem.run_bind];have r:(sizeOf f.type).run P w= .ok i.size w:=q0k (by simp [d]) w;simp only [r,Result.andThen,Sem.run_pure];rw [q];simp [<-h]

theorem z6N{t:TypeId}{parts:Array (Nat×Operand)}{zs:List Value}{J:PlaceK}{cs:List SV}(u:o.op= .build t parts)(G:(P.info? t).bind (λi=>i.zero.map (·.cells.toList))=some zs)
 (b:placesOf P t=some J)(Q:fillS J.fn (rawL zs) (parts.toList.map λp=>(p.1,ev p.2))=some cs)(O:K (.ret (.agg cs)) H):OpV P o ev H K:=by
 refine q0m (by simp_all) (λC e _ B=> ?_) O;rw [u] at B;simp only [Op.operands] at B;have d:SV.denL C ((parts.toList.map λp=>(p.1,ev p.2)).map (·.2)) ((parts.toList.map λp=>(p.1,e p.2)).map (·.2)):=by simp only [BD];have:=q1V (C:=C) (ev:=ev) (e:=e) (parts.toList.map (·.2)) (λx hx=>B x (by grind));simp only [BD] at this;exact this
 obtain ⟨us,E,h2⟩:=q7P (C:=C) (qs:=parts.toList.map λp=>(p.1,e p.2)) (q1a zs) (by simp) d Q;refine ⟨.agg us.toArray,?_,by rw [SV.den];simp_all⟩;cases N:P.info? t with
 |none=>simp_all
 |some i=>
  cases hz0:i.zero with
  |none=>simp_all
  |some z=>
   simp [N,hz0] at G;have hzz:z.cells=zs.toArray:=by rw [<-G]
   have hzr:(zeroValue t).run P C.w= .ok z C.w:=by simp [zeroValue,typeInfo,N,hz0]
   unfold placesOf at b;split at b
   . rename_i L R;cases j:(L.toList.mapM (m:=Option) λf=>(P.info? f.type).map λi=>(f.offset,i.size)) with
     |none=>simp_all
     |some l=>
      rw [j] at b;cases b;have hm:=q4u (P:=P) (w:=C.w) j;have hm':(L.mapM (m:=Sem) λf=>do pure (f.offset,<-sizeOf f.type)).run P C.w= .ok l.toArray C.w:=by simp_all [B0]
      have q:Instr.fill (l.toArray[·]?) zs.toArray (parts.map λp=>(p.1,e p.2)).toList=some us.toArray:=by
       rw [<-E];congr 1
       . grind [PlaceK.fn]
       simp
      simp_all [execOp,Instr.build,run_underlying']
   . rename_i n F R;cases r:P.info? F with
     |none=>simp_all
     |some y=>
      simp [r] at b;subst b;have hse:(sizeOf F).run P C.w= .ok y.size C.w:=q0k (by simp [r]) C.w;have q:Instr.fill (λi=>some (i*y.size,y.size)) zs.toArray (parts.map λp=>(p.1,e p.2)).toList=some us.toArray:=by rw [<-E];congr 1;simp
      simp_all [execOp,Instr.build,run_underlying']
   cases b
end
section
open Go

variable [Ghost] {P:Program} {o:Oper} {ev:Operand->SV} {H:List SObj} {K:Out->List SObj->Prop}

def relL(I:Nat->Prop)(w:World)(t:Ty):List t.den->List Value->Prop
 | [],vs=>vs= []
 |x :: xs,vs=>∃us vs',vs=us++vs'/\t.rel I w x us/\relL I w t xs vs'

variable {I:Nat->Prop} {w:World} {t:Ty}

theorem q0N:∀ {xs:List t.den} {vs:List Value},relL I w t xs vs->vs.length=xs.length*t.size
 | [],_,h=>by cases h;simp
 |x :: xs,_,h=>by obtain ⟨us,vs',rfl,b,d⟩:=h;rw [Ab,t.rel_size _ _ b,q0N d,AB,Nat.add_mul,Nat.one_mul,Br]

theorem q9g:∀ {xs:List t.den} {vs:List Value},relL I w t xs vs->∀i x,xs[i]?=some x->∃us,t.rel I w x us/\∀k u,us[k]?=some u->vs[i*t.size+k]?=some u
 | [],_,_,i,x,hx=>by simp at hx
 |y :: xs,_,h,0,x,hx=>by obtain ⟨us,d,rfl,j,f⟩:=h;grind
 |y :: xs,_,h,i+1,x,hx=>by obtain ⟨us,d,rfl,j,f⟩:=h;simp at hx;obtain ⟨b,l,g2⟩:=q9g f i x hx;refine ⟨b,l,λk u hu=> ?_⟩;have hl:=t.rel_size _ _ j;grind

theorem q1R:∀ {xs ys:List t.den} {vs us:List Value},relL I w t xs vs->relL I w t ys us->relL I w t (xs++ys) (vs++us)
 | [],_,_,_,h,k=>by cases h;exact k
 |x :: xs,ys,_,us,h,k=>by obtain ⟨b,d,rfl,f,j⟩:=h;exact ⟨b,d++us,by simp_all,f,q1R j k⟩

theorem q2Z{I':Nat->Prop}{w':World}(d:Keeps I I' w w'):∀ {xs:List t.den} {vs:List Value},relL I w t xs vs->relL I' w' t xs vs
 | [],_,h=>h
 |x :: xs,_,h=>by obtain ⟨us,b,rfl,j,f⟩:=h;exact ⟨us,b,rfl,t.rel_keep d _ _ j,q2Z d f⟩

theorem q4r:∀ (t:Ty) (x:t.den) (vs:List Value),t.rel I w x vs->∀v∈vs,v.oneCell'=true
 |.u8,_,_,h,v,d=>by cases h;simp at d;subst d;rfl
 |.int _,_,_,h,v,d=>by cases h;simp at d;subst d;rfl
 |.bool,_,_,h,v,d=>by cases h;simp at d;subst d;rfl
 |.str,_,_,h,v,d=>by cases h.1;simp at d;subst d;rfl
 |.slice t,xs,vs,h,v,d=>by obtain ⟨A,n,c,rfl,_⟩:=h;simp at d;subst d;rfl
 |.prod a b,x,vs,h,v,d=>by
  obtain ⟨v1,v2,rfl,l,j⟩:=h;rcases Cp.1 d with d|d
  . exact q4r a _ _ l v d
  exact q4r b _ _ j v d
 |.unit,_,_,h,v,d=>by cases h;cases d
 |.arr n t,xs,vs,h,v,d=>by obtain ⟨hn,vss,rfl,hl,h⟩:=h;obtain ⟨us,m,d⟩:=List.mem_flatten.1 d;obtain ⟨i,q,rfl⟩:=AT m;exact q4r t _ _ (h i (xs[i]'(by omega)) _ (Af _) (Af q)) v d
 |.ptr t,x,vs,h,v,d=>by rcases h with ⟨_,rfl⟩ | ⟨z,b,off,us,_,rfl,_⟩ <;> (simp at d;subst d;rfl)
 |.clo f t,x,vs,h,v,d=>by obtain ⟨us,rfl,_⟩:=h;simp at d;subst d;rfl
 |.clp f t,x,vs,h,v,d=>by obtain ⟨b,off,us,rfl,_⟩:=h;simp at d;subst d;rfl
 |.mbs t,x,vs,h,v,d=>by obtain ⟨A,n,c,rfl,_⟩:=h;simp at d;subst d;rfl
def q9e:∀ {xs:List t.den} {vs:List Value},relL I w t xs vs->∀v∈vs,v.oneCell'=true
 | [],_,h,v,b=>by cases h;cases b
 |x :: xs,_,h,v,b=>by
  obtain ⟨us,vs',rfl,d,f⟩:=h;rcases Cp.1 b with b|b
  . exact q4r t _ _ d v b
  exact q9e f v b

variable {xs:List t.den}
theorem q3R{vs:List Value}{b off:Nat}(h:relL I w t xs vs)(hc:∀j u,vs[j]?=some u->w.cell? ⟨b,off+j,none⟩=some u):rowAt I w t xs b off:=λi x hx=>by grind [q9g]

theorem q8g:∀ {xs:List t.den} {b off:Nat},rowAt I w t xs b off->∃vs,relL I w t xs vs/\∀j u,vs[j]?=some u->w.cell? ⟨b,off+j,none⟩=some u
 | [],_,_,_=>⟨[],rfl,λj u h=>by simp at h⟩
 |x :: xs,b,off,h=>by
  obtain ⟨us,d,h2⟩:=h 0 x rfl;have hl:=t.rel_size _ _ d
  obtain ⟨vs,f,g2⟩:=q8g (xs:=xs) (b:=b) (off:=off+t.size) (λi y hy=>by
   obtain ⟨us',k1,k2⟩:=h (i+1) y (by grind)
   grind)
  refine ⟨us++vs,⟨us,vs,rfl,d,f⟩,λj u hu=> ?_⟩;grind

theorem z1z:∀ {xs:List t.den} {vs:List Value} (n:Nat),relL I w t xs vs->relL I w t (xs.take n) (vs.take (n*t.size))
 | [],_,_,h=>by grind [relL]
 |x :: xs,_,0,h=>by simp [relL]
 |x :: xs,_,n+1,h=>by
  obtain ⟨us,b,rfl,d,f⟩:=h;have hl:=t.rel_size _ _ d;refine ⟨us,b.take (n*t.size),?_,d,z1z n f⟩
  simp_all [Ck,Nat.add_mul,Aa]
theorem z1D:∀ {xs:List t.den} {vs:List Value} (n:Nat),relL I w t xs vs->relL I w t (xs.drop n) (vs.drop (n*t.size))
 | [],_,_,h=>by grind [relL]
 |x :: xs,_,0,h=>by simpa using h
 |x :: xs,_,n+1,h=>by
  obtain ⟨us,vs',rfl,b,h2⟩:=h;have hl:=t.rel_size _ _ b
  simp_all [z1D,BO,Nat.add_mul,AU]

def srcOf(t:Ty)(H:List SObj):SV->Option (List t.den)
 |.isl t' xs=>if h:t'=t then some (cast (by rw [h]) xs) else none
 |.raw (.slice none 0 0)=>some []
 |.bld h t' n=>match H[h]? with
  |some (.row b xs)=>if h:b=t/\t'=t then some (cast (by rw [h.1]) (xs.take n)) else none
  |_=>none
 |.osl h t' off n=>match H[h]? with
  |some (.row b xs)=>if h:b=t/\t'=t then some (cast (by rw [h.1]) ((xs.drop off).take n)) else none
  |_=>none
 |_=>none

variable {C:Cx}{v:Value}
theorem z0m{h off n:Nat}(B:Wd C H)(F:H[h]?=some (.row t xs))(m:(SV.osl h t off n).den C v)(hn:off+n<=xs.length):
 ∃A c,v= .slice A n c/\n<=c/\(n=0\/∃b,A=some ⟨b,off*t.size,none⟩/\C.ρ h=some b/\b<C.w.heap.size/\rowAt C.I C.w t ((xs.drop off).take n) b (off*t.size)):=by
 rw [SV.den] at m;obtain ⟨_,A,c,G,J,m⟩:=m;refine ⟨A,c,G,J,?_⟩;rcases m with r| ⟨b,q,y⟩
 . exact .inl r
 rcases B.obj h _ F with ⟨h1,h2⟩ | ⟨b',arr,T,fz,f,d,hfz,hsz,l⟩
 . simp_all
 rw [q] at f;cases f;refine .inr ⟨b,y,q,(Ax.1 d).1,?_⟩;obtain ⟨vs,E,g2⟩:=q8g l;refine q3R (z1z n (z1D off E)) λj u hu=> ?_;grind

theorem q5U{h n:Nat}(b:(SV.bld h t n).den C v):(SV.osl h t 0 n).den C v:=by simp only [SV.den] at b⊢;grind

variable {ys:List t.den}
theorem q1n{A:Option Addr}{c:Nat}(h:ys= []\/∃b off,A=some ⟨b,off,none⟩/\rowAt C.I C.w t ys b off):
 ∃news,relL C.I C.w t ys news/\(Builtin.firstCells t.size ys.length (.slice A ys.length c)).run P C.w= .ok news.toArray C.w:=by
 rcases h with rfl| ⟨b,off,rfl,h⟩
 . refine ⟨[],rfl,?_⟩;cases A with
   |none=>rfl
   |some a=>simp [Builtin.firstCells,loadCells,loadCellsFrom]
 obtain ⟨vs,d,g2⟩:=q8g h;refine ⟨vs,d,?_⟩;have:=run_loadCells_list (P:=P) C.w ⟨b,off,none⟩ vs (λj v hj=>by grind [q0H]);grind [q0N,Builtin.firstCells]

theorem z8T{y:SV}(u:Wd C H)(f:y.den C v)(d:srcOf t H y=some ys)(l:∀h t' off n xs,(y= .osl h t' off n\/(y= .bld h t' n/\off=0))->H[h]?=some (.row t xs)->off+n<=xs.length):
 ∃A c news,v= .slice A ys.length c/\relL C.I C.w t ys news/\(Builtin.firstCells t.size ys.length v).run P C.w= .ok news.toArray C.w:=by
 unfold srcOf at d;split at d
 . split at d
   . rename_i h;subst h;cases d;rw [SV.den] at f;obtain ⟨A,n,c,e,rfl,_,_,f⟩:=f;cases e;obtain ⟨news,E,B⟩:=q1n (P:=P) (C:=C) (A:=A) (c:=c) (orMap f id λ⟨b,off,J,_,G⟩=>⟨b,off,J,G⟩)
     simp_all
   cases d
 . cases d;rw [SV.den] at f;subst f;exact ⟨none,0,[],rfl,rfl,by rfl⟩
 . split at d
   . split at d
     . rename_i h _ n _ q xs m r;obtain ⟨rfl,rfl⟩:=r;cases d;have j:=l h _ 0 n xs (.inr ⟨rfl,rfl⟩) m;rw [Ag] at j;obtain ⟨A,c,rfl,L,f⟩:=z0m u m (q5U f) (by omega);have F:(xs.take n).length=n:=by simp;omega
       obtain ⟨news,E,B⟩:=q1n (P:=P) (C:=C) (A:=A) (c:=c) (ys:=xs.take n) (by
        grind)
       simp_all
     cases d
   cases d
 . split at d
   . split at d
     . rename_i h _ off n _ q xs m r;obtain ⟨rfl,rfl⟩:=r;cases d;have j:=l h _ off n xs (.inl rfl) m;obtain ⟨A,c,rfl,L,f⟩:=z0m u m f j;have F:((xs.drop off).take n).length=n:=by simp;omega
       obtain ⟨news,E,B⟩:=q1n (P:=P) (C:=C) (A:=A) (c:=c) (ys:=(xs.drop off).take n) (by
        grind)
       simp_all
     cases d
   cases d
 cases d
end
section
open Go

variable [Ghost] {P:Program} {o:Oper} {ev:Operand->SV} {H:List SObj} {K:Out->List SObj->Prop} {t:Ty}

def srcType(P:Program)(t:TypeId):Option Bool:=match P.underlying t with
 |some (.slice _)=>some true
 |some .string=>some false
 |_=>none
theorem q2i{tX:TypeId}{b:Bool}(h:srcType P tX=some b):(∃e,P.underlying tX=some (.slice e))\/P.underlying tX=some .string:=by grind [srcType]

section
variable {w:World} {tS tX ty e:TypeId} {i:TypeInfo} {sLen sCap n:Nat} {xv:Value} {news:List Value}

variable {bb:Bool}
def q8o(l:P.underlying tS=some (.slice e))(j:srcType P tX=some bb)(m:P.info? e=some i)(b:(Builtin.lenOf xv).run P w= .ok 0 w)
 (f:(Builtin.firstCells i.size 0 xv).run P w= .ok news.toArray w):
 (Builtin.append_ #[tS,tX] ty #[.slice none 0 0,xv]).run P w= .ok (.slice none 0 0) w:=by
 rcases q2i j with ⟨e',d⟩ |d<;>clear j<;>have d:=run_underlying' d
 all_goals simp [Builtin.append_,run_underlying' l,sizeOf,typeInfo,m,d,b,f]

def q7L{b:Nat}(r:P.underlying tS=some (.slice e))(q:srcType P tX=some bb)(u:P.info? e=some i)(f:(Builtin.lenOf xv).run P w= .ok n w)
 (m:(Builtin.firstCells i.size n xv).run P w= .ok news.toArray w)(d:sLen+n<=sCap)
 (l:(storeCells ⟨b,sLen*i.size,none⟩ news 0).run P w= .ok () (w.setCells b (sLen*i.size) news)):
 (Builtin.append_ #[tS,tX] ty #[.slice (some ⟨b,0,none⟩) sLen sCap,xv]).run P w= .ok (.slice (some ⟨b,0,none⟩) (sLen+n) sCap) (w.setCells b (sLen*i.size) news):=by
 rcases q2i q with ⟨e',j⟩ |j<;>clear q<;>have j:=run_underlying' j
 all_goals simp [Builtin.append_,run_underlying' r,sizeOf,typeInfo,u,j,f,m,d,q0H,l]

def q3w{z:Value}{base:Option Addr}{d:List Value}(F:P.underlying tS=some (.slice e))(E:srcType P tX=some bb)(L:P.info? e=some i)(J:i.zero=some z)(j:(Builtin.lenOf xv).run P w= .ok n w)
 (b:sCap<sLen+n)(h63:sLen+n<=9223372036854775807)(G:(sLen+n)*i.bytes<=140737488355328)
 (f:(Builtin.firstCells i.size sLen (.slice base sLen sCap)).run P w.drew= .ok d.toArray w.drew)
 (y:(Builtin.firstCells i.size n xv).run P w.drew= .ok news.toArray w.drew):
 ∃cap,sLen+n<=cap/\(Builtin.append_ #[tS,tX] ty #[.slice base sLen sCap,xv]).run P w= .ok (.slice (some ⟨w.heap.size,0,none⟩) (sLen+n) cap) (w.drew.alloc (.cells (d++news++(Builtin.zeroCells z.cells (cap- (sLen+n))).toList).toArray e)):=by
 refine ⟨(Question.appendCap (sLen+n) sCap e).cut (w.tape w.drawn (.appendCap (sLen+n) sCap e)),by simp [Question.cut],?_⟩;have hfit:=growslice_fits b G;have r:¬(sLen+n<=sCap):=by omega
 have B:¬(((sLen:Int)+ (n:Int)) >9223372036854775807):=by omega
 have m:¬((9223372036854775807:Int) < (sLen:Int)+ (n:Int)):=B;have u:¬(281474976710656<Builtin.nextslicecap (sLen+n) sCap*i.bytes):=by omega
 have l:IntKind.i64.max=9223372036854775807:=by decide
 rcases q2i E with ⟨e',q⟩ |q<;>clear E<;>have q:=run_underlying' q
 all_goals simp [Builtin.append_,run_underlying' F,sizeOf,typeInfo,L,q,j,r,l,m,u,Question.forced,f,y,zeroValue,J,newRow]
 all_goals (congr 2;apply Array.ext';simp)
end

theorem z2p{C:Cx}(q:Wd C H)(h:Nat){so:SObj}(E:H[h]?=some so)(B:so.live=true):Wd C (H.set h .dead)/\Ext ⟨C,H⟩ C (H.set h .dead):=by
 have d:∀ {l:Nat} {x:SObj},(H.set h SObj.dead)[l]?=some x->x.live=true->H[l]?=some x:=by
  intro l x m f;by_cases e:l=h
  . grind [SObj.live]
  grind
 have j:∀b,OwnB C (H.set h .dead) b->OwnB C H b:=λb ⟨l,x,m,f,u⟩=>⟨l,x,d m f,f,u⟩
 refine ⟨⟨by simp [q.n],λl x m=> ?_,λb u=>q.own b (j b u),λG F x x' b m y f r=>q.inj G F x x' b (d m f) (d y r) f r,q.imm⟩,
  ⟨Evo.refl _,Ac _,rfl,rfl,rfl,λ_ _ _=>rfl,λ_ h=>.inl h,λb u=>.inr (j b u),λ_ _ J=>q3M E B J⟩⟩
 by_cases f:x.live=true
 . exact q.obj l x (d m f)
 cases x<;>first|trivial|simp [SObj.live] at f

theorem q8e{C:Cx}(j:Wd C H)(B:Option Nat)(so:SObj)(m:∀b,B=some b->¬C.I b/\b<C.w.heap.size/\¬OwnB C H b)
 (C':Cx)(Q:C'={C with ρ:=(λh=>if h=C.n then B else C.ρ h),n:=C.n+1})(hs:objDen C' C.n so):Wd C' (H++ [so])/\Evo C C'/\(∀b,OwnB C' (H++ [so]) b->OwnB C H b\/B=some b):=by
 subst Q;have L:Evo C {C with ρ:=(λh=>if h=C.n then B else C.ρ h),n:=C.n+1}:=⟨CV _,λh hh=>by grind,Keeps.refl _ _,λ_ _ h=>h⟩
 have u:∀b,OwnB {C with ρ:=(λh=>if h=C.n then B else C.ρ h),n:=C.n+1} (H++ [so]) b->OwnB C H b\/B=some b:=by
  rintro b ⟨h,x,G,J,r⟩;rcases q0j G with ⟨l,q⟩ | ⟨l,q⟩
  . refine .inl ⟨h,x,q,J,?_⟩;simp only at r;rwa [if_neg (by rw [j.n];omega)] at r
  subst l;simp only at r;rw [if_pos j.n.symm] at r;grind
 refine ⟨⟨by simp [j.n],?_,?_,?_,j.imm⟩,L,u⟩
 . intro h x G;rcases q0j G with ⟨l,q⟩ | ⟨l,q⟩
   . exact q0z L.I h (L.ρ h (by rw [j.n];exact l)) (λ_ _=>rfl) (q0f L) (j.obj h x q)
   subst q;rw [l,<-j.n];exact hs
 . intro b f;rcases u b f with l|l
   . exact j.own b l
   simp_all
 intro h O x x' b G N J E f d;rcases q0j G with ⟨l,q⟩ | ⟨l,q⟩ <;>rcases q0j N with ⟨F,y⟩ | ⟨F,y⟩
 . simp only at f d;rw [if_neg (by rw [j.n];omega)] at f d;exact j.inj h O x x' b q y J E f d
 . exfalso;simp only at f d;rw [if_neg (by rw [j.n];omega)] at f;rw [if_pos (by rw [F,j.n])] at d;exact (m b d).2.2 ⟨h,x,q,J,f⟩
 . exfalso;simp only at f d;rw [if_neg (by rw [j.n];omega)] at d;rw [if_pos (by rw [l,j.n])] at f;exact (m b f).2.2 ⟨O,x',y,E,d⟩
 omega
end
section
open Go

variable [Ghost] {P:Program} {o:Oper} {ev:Operand->SV} {H:List SObj} {K:Out->List SObj->Prop} {t:Ty}

variable {C:Cx}
theorem q3E(b:Wd C H){xs:List t.den}{vs rest:List Value}{T:TypeId}{n c:Nat}(f:relL C.I C.w t xs vs)(_hn:n=xs.length)(d:n<=c)(hc:c*t.size<=vs.length+rest.length):
 Wd (C.grow (.cells (vs++rest).toArray T)) (H++ [.row t xs])/\Ext ⟨C,H⟩ (C.grow (.cells (vs++rest).toArray T)) (H++ [.row t xs])/\
  (SV.bld H.length t n).den (C.grow (.cells (vs++rest).toArray T)) (.slice (some ⟨C.w.heap.size,0,none⟩) n c):=by
 have r:=q6w b.imm (.cells (vs++rest).toArray T);have y:=q0N f
 obtain ⟨q,m⟩:=q5A b (.cells (vs++rest).toArray T) (.row t xs) (by
  refine .inr ⟨C.w.heap.size,(vs++rest).toArray,T,(0,0),by simp [Cx.grow],q1q _ _,by simp,by simp [<-y],?_⟩;refine q3R (q2Z r.I f) λj u l=> ?_;have:(C.grow (.cells (vs++rest).toArray T)).w.heap[C.w.heap.size]?=some (.cells (vs++rest).toArray T):=q1q _ _;rw [Ag,q0h this,As (Am.1 l).1]
  exact l)
 refine ⟨q,m,?_⟩;rw [SV.den];refine ⟨by simp [Cx.grow,b.n],.inr ⟨C.w.heap.size,c,(vs++rest).length,by simp [Cx.grow,b.n],rfl,d,?_,by grind⟩⟩;unfold World.bsize;rw [show (C.grow (.cells (vs++rest).toArray T)).w.heap[C.w.heap.size]?=some (.cells (vs++rest).toArray T) from q1q _ _];simp

theorem z2h(d:Wd C H):∃C',C'.w=C.w/\Wd C' (H++ [.row t []])/\Ext ⟨C,H⟩ C' (H++ [.row t []])/\(SV.bld H.length t 0).den C' (.slice none 0 0):=by obtain ⟨j,f,q⟩:=q8e d none (.row t []) (λb h=>by cases h) _ rfl (.inl ⟨by simp,rfl⟩);refine ⟨{C with ρ:=(λh=>if h=C.n then none else C.ρ h),n:=C.n+1},rfl,j,⟨f,Ac _,rfl,rfl,rfl,λ_ _ _=>rfl,λ_ h=>.inl h,λb l=>(q b l).elim .inr (λh=>by cases h),λ_ _ m=>q2J m⟩,?_⟩;rw [SV.den];exact ⟨by simp [d.n],.inl ⟨by simp [d.n],rfl,rfl⟩⟩

def dstOf(t:Ty)(H:List SObj):SV->Option (List SObj×List t.den×Nat)
 |.raw (.slice none 0 0)=>some (H,[],0)
 |.bld h t' n=>match H[h]? with
  |some (.row b xs)=>if h':b=t/\t'=t then some (H.set h .dead,cast (by rw [h'.1]) xs,n) else none
  |_=>none
 |_=>none

def Src(P:Program)(t:Ty)(C:Cx)(v:Value)(ys:List t.den):Prop:=
 ∃news,relL C.I C.w t ys news/\(Builtin.lenOf v).run P C.w= .ok ys.length C.w/\(Builtin.firstCells t.size ys.length v).run P C.w= .ok news.toArray C.w

theorem q8E{s:SV}{v xv:Value}{tS tX ty e:TypeId}{i:TypeInfo}{z:Value}{bb:Bool}{Hk:List SObj}{xs ys:List t.den}{n:Nat}
 (V:Wd C H)(hd:s.den C v)(d:dstOf t H s=some (Hk,xs,n))(hn:n=xs.length)(au:Src P t C xv ys)(ac:Src P t C.drew xv ys)
 (ht:P.underlying tS=some (.slice e))(hx:srcType P tX=some bb)(hi:P.info? e=some i)(Z:i.size=t.size)(hz:i.zero=some z)(aw:z.cells.size=t.size)
 (h63:xs.length+ys.length<=1125899906842624)(hb:(xs.length+ys.length)*i.bytes<=140737488355328):
 ∃r C',(Builtin.append_ #[tS,tX] ty #[v,xv]).run P C.w= .ok r C'.w/\Wd C' (Hk++ [.row t (xs++ys)])/\Ext ⟨C,H⟩ C' (Hk++ [.row t (xs++ys)])/\(SV.bld H.length t (xs.length+ys.length)).den C' r:=by
 obtain ⟨news,hr,J,aa⟩:=au;obtain ⟨af,av,hlen',S⟩:=ac;rw [<-Z] at aa S
 -- a new array, after what is of the F one has been read
 have grow:∀ (O:Cx) (H0:List SObj),Wd O H0->O.w=C.w.drew->O.I=C.I->Ext ⟨C,H⟩ O H0->H0.length=H.length->∀ (base:Option Addr) (sCap:Nat) (F:List Value),sCap<xs.length+ys.length->relL O.I O.w t xs F->
  (Builtin.firstCells i.size xs.length (.slice base xs.length sCap)).run P C.w.drew= .ok F.toArray C.w.drew->
  ∃r C',(Builtin.append_ #[tS,tX] ty #[.slice base xs.length sCap,xv]).run P C.w= .ok r C'.w/\Wd C' (H0++ [.row t (xs++ys)])/\Ext ⟨C,H⟩ C' (H0++ [.row t (xs++ys)])/\(SV.bld H.length t (xs.length+ys.length)).den C' r:=by
  intro O H0 Q ak az N Y base sCap F ai aq ae;obtain ⟨cap,hc,q⟩:=q3w (P:=P) (w:=C.w) (ty:=ty) ht hx hi hz J ai (by omega) hb ae S;have X:relL O.I O.w t (xs++ys) (F++af):=q1R aq (by rw [ak,az];exact av);have ap:=q0N X
  obtain ⟨g1,g2,g3⟩:=q3E (T:=e) (rest:=(Builtin.zeroCells z.cells (cap- (xs.length+ys.length))).toList) Q (n:=xs.length+ys.length) (c:=cap) X (by simp) hc (by
   rw [ap];simp only [Be,size_zeroCells,aw,Ab,<-Nat.add_mul]
   simp_all)
  refine ⟨_,_,?_,g1,N.trans g2,by rw [<-Y];exact g3⟩;rw [q];simp only [Cx.grow,ak];rfl
 have G:∀ (H0:List SObj),Wd C H0->Ext ⟨C,H⟩ C H0->H0.length=H.length->xs= []->v= .slice none 0 0->
  ∃r C',(Builtin.append_ #[tS,tX] ty #[v,xv]).run P C.w= .ok r C'.w/\Wd C' (H0++ [.row t (xs++ys)])/\Ext ⟨C,H⟩ C' (H0++ [.row t (xs++ys)])/\(SV.bld H.length t (xs.length+ys.length)).den C' r:=by
  rintro H0 Q N Y rfl rfl;by_cases hy:ys.length=0
  . obtain rfl:ys= []:=Bs hy;have q:=q8o (P:=P) (ty:=ty) ht hx hi J aa;obtain ⟨C',aC,g1,g2,g3⟩:=z2h (t:=t) Q;exact ⟨_,C',by rw [q,aC],g1,N.trans g2,by simp_all⟩
  have:=grow C.drew H0 (q2e Q) rfl rfl (N.trans (q1r C H0)) Y none 0 [] (by simp;omega) rfl (by rfl);omega
 unfold dstOf at d;split at d
 . cases d;rw [SV.den] at hd;exact G H V (Ext.refl _ _) rfl rfl hd
 . split at d
   . split at d
     . rename_i h t' n' _ t'' xs' L hT;obtain ⟨rfl,rfl⟩:=hT;cases d;simp only [cast_eq] at*;obtain ⟨k1,k2⟩:=z2p V h L rfl;rw [SV.den] at hd;obtain ⟨hhn,hd⟩:=hd;rcases V.obj h _ L with ⟨h1,h2⟩ | ⟨b,f,T,fz,l,ab,hfz,hsize,W⟩
       . simp_all
       rcases hd with ⟨h1,_⟩ | ⟨b2,c,m,am,rfl,hnc,hm,an⟩
       . grind
       rw [l] at am;cases am;subst hn;have ay:m=f.size:=by grind [World.bsize]
       subst ay;have ap:=q0N hr;by_cases y:xs'.length+ys.length<=c
       . -- there is room
         have hle:(xs'.length+ys.length)*t'.size<=f.size:=Ao (AX _ y) an;have eL:f.toList.length=f.size:=Be;have ao:xs'.length*i.size+news.length<=f.toList.length:=by grind
         have aj:(storeCells ⟨b,xs'.length*i.size,none⟩ news 0).run P C.w= .ok () (C.w.setCells b (xs'.length*i.size+0) news):=run_storeCells_cells b _ news 0 C.w
          (λj hj=>by
           grind [World.cell?])
          (λj hj=>by
           have hj2:xs'.length*i.size+0+j<f.size:=by omega
           grind [World.frozen?])
          (q9e hr)
         rw [AG] at aj;have q:=q7L (P:=P) (ty:=ty) ht hx hi J aa y aj;have R:C.w.heap[b]?=some (.cells f.toList.toArray T fz):=by rw [ab]
         have ar:=q1c news (xs'.length*i.size) C.w f.toList R ao;have aB:Keeps C.I C.I C.w (C.w.setCells b (xs'.length*i.size) news):=λb' ah=>⟨ah,q0t (λ(eq:b'=b)=>(V.own b ⟨h,_,L,rfl,l⟩).1 (eq▸ah)) _ _ _⟩;have al:World.bsize (C.w.setCells b (xs'.length*i.size) news) b=some f.size:=by grind [World.bsize,q0r]
         obtain ⟨vs,v1,v2⟩:=q8g W;have hvl:=q0N v1;have U:∀ (C':Cx) (hh:Nat),C'.I=C.I->C'.w=C.w.setCells b (xs'.length*i.size) news->C'.ρ hh=some b->objDen C' hh (.row t' (xs'++ys)):=by
          intro C' hh e1 e2 e3;refine .inr ⟨b,(splice f.toList (xs'.length*i.size) news).toArray,T,fz,e3,by simp_all,?_,?_,?_⟩
          . grind [q0r]
          . simp_all [q0r]
          rw [e1,e2];refine q3R (q2Z aB (q1R v1 hr)) λj u hu=> ?_;rw [Ag,q0h ar];unfold splice;rw [Z];rcases A8 j vs.length with hj|hj
          . rw [As hj] at hu;have aA:=v2 j u hu;rw [Ag] at aA;have hc3:f.toList[j]?=some u:=by grind [World.cell?]
            grind
          grind
         obtain ⟨u1,u2,u3⟩:=z1x (so':=.row t' (xs'++ys)) V L rfl rfl l (C.w.setCells b (xs'.length*i.size) news) (λb' l=>q0t l _ _ _) (q0R _ _ _)
          (λm hm=>by simp_all)
          (q1m _ _ _) (q0T _ _ _) (q0J _ _ _) (U _ h rfl rfl l)
         obtain ⟨q1,q2⟩:=z2p u1 h (so:=.row t' (xs'++ys)) (Bd (Am.1 L).1) rfl;have hnown:¬OwnB {C with w:=C.w.setCells b (xs'.length*i.size) news} ((H.set h (.row t' (xs'++ys))).set h .dead) b:=by
          rintro ⟨h',x,B,ag,ad⟩;have E:h'≠h:=λe=>by grind [SObj.live]
          rw [AJ (Ne.symm E),AJ (Ne.symm E)] at B;exact E (V.inj h' h x _ b B L ag rfl ad l)
         obtain ⟨m1,m2,m3⟩:=q8e q1 (some b) (.row t' (xs'++ys)) (λb' e=>by
          cases e;have:=u1.own b ⟨h,_,Bd (Am.1 L).1,rfl,l⟩
          simp_all) _ rfl (U _ _ rfl rfl (by simp))
         rw [List.set_set] at m1 m3;refine ⟨_,_,q,m1,?_,?_⟩
         . refine ⟨u3.trans m2,by simp_all [q0R],q1m _ _ _,q0T _ _ _,q0J _ _ _,λb' _ ax=>q0t (λ(eq:b'=b)=>ax (eq▸ ⟨h,_,L,rfl,l⟩)) _ _ _,λ_ h=>.inl h,λb' ad=>.inr ?_,λ_ _ hn=>q2J (q3M L rfl hn)⟩;rcases m3 b' ad with ⟨h',x,B,ag,aD⟩ |h1
           . have E:h'≠h:=λe=>by grind [SObj.live]
             rw [AJ (Ne.symm E)] at B;exact ⟨h',x,B,ag,aD⟩
           cases h1;exact ⟨h,_,L,rfl,l⟩
         rw [SV.den];refine ⟨by simp [V.n],.inr ⟨b,c,f.size,by simp [V.n],rfl,y,al,an⟩⟩
       -- a new array
       obtain ⟨vs,v1,v2⟩:=q1n (P:=P) (C:=C.drew) (A:=some ⟨b,0,none⟩) (c:=c) (ys:=xs') (.inr ⟨b,0,rfl,λj x B=>by
        obtain ⟨us,a1,a2⟩:=W j x B
        exact ⟨us,Ty.rel_keep (q1U C).I _ _ _ a1,a2⟩⟩)
       rw [<-Z] at v2;have:=grow C.drew (H.set h .dead) (q2e k1) rfl rfl (k2.trans (q1r C _)) (by simp) (some ⟨b,0,none⟩) c vs (by omega) v1 v2;exact this
     cases d
   cases d
 cases d
end
section
open Go

variable [Ghost] {P:Program} {o:Oper} {ev:Operand->SV} {H:List SObj} {K:Out->List SObj->Prop} {t:Ty}

def bytesOf(s:ByteArray):List UInt8:=s.data.toList
theorem q4a(I:Nat->Prop)(w:World):∀ (xs:List UInt8),relL I w .u8 xs (xs.map λb=>.int .u8 b.toNat)
 | []=>rfl
 |x :: xs=>⟨[.int .u8 x.toNat],_,rfl,rfl,q4a I w xs⟩

def srcS(t:Ty)(H:List SObj):SV->Option (List t.den×Prop)
 |.raw (.string s)=>if h:t= .u8 then some (cast (by rw [h]) (bytesOf s),True) else none
 |.bld h t' n=>match srcOf t H (.bld h t' n),H[h]? with
  |some ys,some (.row _ xs)=>some (ys,n<=xs.length)
  |_,_=>none
 |.osl h t' off n=>match srcOf t H (.osl h t' off n),H[h]? with
  |some ys,some (.row _ xs)=>some (ys,off+n<=xs.length)
  |_,_=>none
 |s=>(srcOf t H s).map (·,True)

variable {p:Prop}
theorem z3C{C:Cx}{y:SV}{v:Value}{ys:List t.den}(f:Wd C H)(d:y.den C v)(b:srcS t H y=some (ys,p))(hp:p):Src P t C v ys:=by
 have gen:srcOf t H y=some ys->(∀h t' off n xs,(y= .osl h t' off n\/(y= .bld h t' n/\off=0))->H[h]?=some (.row t xs)->off+n<=xs.length)->Src P t C v ys:=by intro q m;obtain ⟨A,c,news,rfl,l,j⟩:=z8T (P:=P) f d q m;exact ⟨news,l,by rfl,j⟩
 unfold srcS at b;split at b
 . split at b
   . rename_i s h;subst h;cases b;rw [SV.den] at d;subst d;refine ⟨_,q4a _ _ _,?_,?_⟩
     . rfl
     simp only [cast_eq,Builtin.firstCells,bytesOf];have:s.extract 0 s.data.toList.length=s:=by simp_all
     rw [this];simp [<-Array.toList_map]
   cases b
 . grind
 . grind
 simp_all

theorem z5U{c:Call}{x y:Operand}{tS tX e:TypeId}{bb:Bool}{i:TypeInfo}{z:Value}{Hk:List SObj}{xs ys:List t.den}{n:Nat}(hop:o.op= .call c)(hc:c.callee= .builtin .append)(ha:c.args= #[x,y])(hty:c.argTypes= #[tS,tX])
 (F:P.underlying tS=some (.slice e))(R:srcType P tX=some bb)(Q:P.info? e=some i)(j:i.size=t.size)(N:i.zero=some z)(m:z.cells.size=t.size)
 (d:dstOf t H (ev x)=some (Hk,xs,n))(S:n=xs.length)(b:srcS t H (ev y)=some (ys,p))(u:p)
 (f:xs.length+ys.length<=1125899906842624)(G:(xs.length+ys.length)*i.bytes<=140737488355328)
 (L:K (.ret (.bld H.length t (xs.length+ys.length))) (Hk++ [.row t (xs++ys)])):OpV P o ev H K:=by
 refine q0L (by simp_all) λC e' l B=> ?_;have E:=B x (by grind [Op.operands,Call.operands]);have q:=B y (by grind [Op.operands,Call.operands]);obtain ⟨r,C',hrun,O,J,U⟩:=q8E (P:=P) (ty:=o.type) (tS:=tS) (tX:=tX) l E d S (z3C l q b u) (z3C (q2e l) (q0Y (q1U C) q) b u) F R Q j N m f G;exact ⟨_,r,_,C',L,.inl (by simp_all [execOp,resolve,invoke,builtin]),O,J,U⟩

def rdL(t:Ty):Nat->List SV->Option (List t.den×Prop)
 |0,[]=>some ([],True)
 |n+1,cs=>match t.rd (cs.take t.size),rdL t n (cs.drop t.size) with
  |some (x,p),some (xs,q)=>some (x :: xs,p/\q)
  |_,_=>none
 |0,_=>none
theorem q9X{C:Cx}:∀ (n:Nat) (cs:List SV) (xs:List t.den) (p:Prop) (vs:List Value),rdL t n cs=some (xs,p)->p->SV.denL C cs vs->relL C.I C.w t xs vs/\xs.length=n
 |0,[],xs,p,vs,h,_,hd=>by cases h;exact ⟨by rw [q0y] at hd;exact hd,rfl⟩
 |0,_ :: _,xs,p,vs,h,_,_=>by simp [rdL] at h
 |n+1,cs,xs,p,vs,h,hp,hd=>by
  simp only [rdL] at h;split at h
  . rename_i x1 p1 y1 q1 l f;cases h;rw [<-AA t.size cs] at hd;obtain ⟨m,j,rfl,d1,d2⟩:=q0w.1 hd;obtain ⟨d,b⟩:=q9X n _ _ _ _ f hp.2 d2;exact ⟨⟨m,j,rfl,t.rd_rel _ _ _ _ l hp.1 d1,d⟩,by simp [b]⟩
  cases h

variable {parts:Array (Nat×Operand)}{cs:List SV}
theorem q2L{C:Cx}{e:Operand->Value}(hv:∀p∈parts.toList,(ev p.2).den C (e p.2)){d:PlaceK}{zs:List Value}(f:fillS d.fn (rawL zs) (parts.toList.map λp=>(p.1,ev p.2))=some cs):
 ∃us,Instr.fill d.fn zs.toArray (parts.map λp=>(p.1,e p.2)).toList=some us.toArray/\SV.denL C cs us:=by
 have b:SV.denL C ((parts.toList.map λp=>(p.1,ev p.2)).map (·.2)) ((parts.toList.map λp=>(p.1,e p.2)).map (·.2)):=by
  simp only [BD]
  have:=q1V (C:=C) (ev:=ev) (e:=e) (parts.toList.map (·.2)) (λx hx=>by
   grind)
  simp only [BD] at this;exact this
 obtain ⟨us,h1,h2⟩:=q7P (C:=C) (qs:=parts.toList.map λp=>(p.1,e p.2)) (q1a zs) (by simp) b f
 simp_all

def zerosOf(P:Program)(e:TypeId)(len:Nat):Option (List Value):=
 match P.info? e with
 |some i=>match i.zero with
  |some z=>if len*i.size<=16777216 then some ((Array.range (len*i.size)).map (λj=>(if len*i.size=0 then #[] else z.cells)[j% (if len*i.size=0 then #[] else z.cells).size]!)).toList else none
  |none=>none
 |none=>none

theorem q8n{T e:TypeId}{len sz:Nat}{zs:List Value}{xs:List t.den}(d:o.op= .buildSlice T len parts)(G:P.underlying T=some (.slice e))(V:(P.info? e).map (·.size)=some sz)
 (b:zerosOf P e len=some zs)(S:fillS (PlaceK.arr sz).fn (rawL zs) (parts.toList.map λp=>(p.1,ev p.2))=some cs)(U:rdL t len cs=some (xs,p))(R:p)
 (J:K (.ret (.bld H.length t len)) (H++ [.row t xs])):OpV P o ev H K:=by
 refine q0L (by simp_all) λC N Q l=> ?_;rw [d] at l;simp only [Op.operands] at l;obtain ⟨us,y,F⟩:=q2L (C:=C) (e:=N) (parts:=parts) (λq hq=>l q.2 (by grind)) S;obtain ⟨B,u⟩:=q9X len cs xs p us U R F;obtain ⟨L,W,O⟩:=q3E (T:=e) (rest:=[]) Q (n:=len) (c:=len) B u.symm (Ac _) (by rw [q0N B,u];omega);refine ⟨_,_,_,_,J,.inl ?_,L,W,O⟩;unfold zerosOf at b;cases E:P.info? e with
 |none=>simp_all
 |some i=>
  simp only [E] at b;cases hz0:i.zero with
  |none=>simp_all
  |some z=>
   simp only [hz0] at b;split at b
   . rename_i m;have f:i.size=sz:=by simp_all
     cases b;simp only [execOp,d,Sem.run_bind,Instr.buildSlice,run_underlying' G,Result.andThen,q0k V,Sem.run_ite];rw [f] at y m;rw [if_neg (by omega)];have j:(zeroValue e).run P C.w= .ok z C.w:=by simp [zeroValue,typeInfo,E,hz0]
     have h1':=y;simp only [Cm] at h1';by_cases r:len*sz=0
     . simp only [if_pos r,Sem.run_pure] at h1'⊢
       erw [h1']
       simp [newRow,Cx.grow]
     simp only [if_neg r,j,Sem.run_pure] at h1'⊢
     erw [h1']
     simp [newRow,Cx.grow]
   cases b
theorem j4r{T e:TypeId}{len sz:Nat}{ty:Ty}{zs:List Value}(d:o.op= .buildSlice T len parts)(F:P.underlying T=some (.slice e))(O:(P.info? e).map (·.size)=some sz)
 (b:zerosOf P e len=some zs)(N:fillS (PlaceK.arr sz).fn (rawL zs) (parts.toList.map λp=>(p.1,ev p.2))=some cs)(G:K (.ret (.csl H.length ty 0 0 len)) (H++ [.cells e cs])):OpV P o ev H K:=by
 refine q0L (by simp_all) λC L f m=> ?_;rw [d] at m;simp only [Op.operands] at m;obtain ⟨us,y,E⟩:=q2L (C:=C) (e:=L) (parts:=parts) (λq hq=>m q.2 (by grind)) N;obtain ⟨J,Q⟩:=q5A f (.cells us.toArray e) (.cells e cs) (q5L f.imm e E);refine ⟨_,.slice (some ⟨C.w.heap.size,0,none⟩) len len,_,_,G,.inl ?_,J,Q,?_⟩
 . unfold zerosOf at b;cases B:P.info? e with
   |none=>simp_all
   |some i=>
    simp only [B] at b;cases hz0:i.zero with
    |none=>simp_all
    |some z=>
     simp only [hz0] at b;split at b
     . rename_i r;have j:i.size=sz:=by simp_all
       cases b;simp only [execOp,d,Sem.run_bind,Instr.buildSlice,run_underlying' F,Result.andThen,q0k O,Sem.run_ite];rw [j] at y r;rw [if_neg (by omega)];have l:(zeroValue e).run P C.w= .ok z C.w:=by simp [zeroValue,typeInfo,B,hz0]
       have h1':=y;simp only [Cm] at h1';by_cases u:len*sz=0
       . simp only [if_pos u,Sem.run_pure] at h1'⊢
         erw [h1']
         rfl
       simp only [if_neg u,l,Sem.run_pure] at h1'⊢
       erw [h1']
       rfl
     cases b
 rw [SV.den];exact ⟨by simp [Cx.grow,f.n],_,len,rfl,Ac _,.inr ⟨C.w.heap.size,by simp [Cx.grow,f.n],by simp⟩⟩
end
section
open Go

variable [Ghost] {P:Program} {o:Oper} {ev:Operand->SV} {H:List SObj} {K:Out->List SObj->Prop} {t:Ty}

def bndV(ev:Operand->SV):Option Operand->Option (Option Int)
 |none=>some none
 |some x=>match ev x with
  |.raw (.int _ n)=>some (some n)
  |_=>none

variable {C:Cx}{e:Operand->Value}{x:Operand}
theorem q5R{n:Int}(hd:(ev x).den C (e x))(h:bndV ev (some x)=some (some n))(y:Nat)(b:BoundsCode)(w:World)(h0:0<=n)(hy:n.toNat<=y):
 (Instr.sliceBound (e x) y b).run P w= .ok n.toNat w:=by
 simp only [bndV] at h;split at h;all_goals simp_all [SV.den,Instr.sliceBound,asIntOf]

def loOf:Option Int->Int
 |none=>0
 |some a=>a
def hiOf(n:Nat):Option Int->Int
 |none=>n
 |some a=>a

theorem q3m{lo j:Option Operand}{a b:Option Int}{isS:Bool}{len cap:Nat}(f:∀x∈lo,(ev x).den C (e x))(q:∀x∈j,(ev x).den C (e x))(d:bndV ev lo=some a)(l:bndV ev j=some b)(w:World)
 (u:0<=loOf a)(g1:loOf a<=hiOf len b)(g2:hiOf len b<=cap):
 (Instr.sliceBounds isS len cap (lo.map e) (j.map e) none).run P w= .ok ((loOf a).toNat,(hiOf len b).toNat,cap) w:=by
 have r:0<=hiOf len b:=by omega
 unfold Instr.sliceBounds;cases j with
 |none=>
  simp only [bndV,Option.some.injEq] at l;subst l;cases lo with
  |none=>simp only [bndV,Option.some.injEq] at d;subst d;rfl
  |some x=>
   cases a with
   |none=>grind [bndV]
   |some n=>simp only [loOf,hiOf] at*;have:=q5R (P:=P) (f x rfl) d len (.sliceB) w u (by omega);simp [this]
 |some y=>
  cases b with
  |none=>grind [bndV]
  |some m=>
   simp only [hiOf] at*;have B:=q5R (P:=P) (q y rfl) l cap (if isS then .sliceAcap else .sliceAlen) w r (by omega);cases lo with
   |none=>simp only [bndV,Option.some.injEq] at d;subst d;simp [loOf,B]
   |some x=>
    cases a with
    |none=>grind [bndV]
    |some n=>
     simp only [loOf] at*;have:=q5R (P:=P) (f x rfl) d m.toNat (.sliceB) w u (by omega)
     simp_all

def sliceTo(a b:Nat):SV->Option SV
 |.isl t xs=>some (.isl t ((xs.take b).drop a))
 |.raw (.string s)=>some (.raw (.string (s.extract a b)))
 |.bld h t _=>some (.osl h t a (b-a))
 |.osl h t off _=>some (.osl h t (off+a) (b-a))
 |.csl h t k i _=>some (.csl h t k (i+a) (b-a))
 |.raw (.slice none 0 0)=>some (.raw (.slice none 0 0))
 |_=>none
def lenOfS:SV->Nat
 |.isl _ xs=>xs.length
 |.raw (.string s)=>s.size
 |.bld _ _ n=>n
 |.osl _ _ _ n=>n
 |.csl _ _ _ _ n=>n
 |_=>0
def sliceKind(P:Program)(T:TypeId):SV->Bool
 |.raw (.string _)=>match P.underlying T with|some .string=>true|_=>false
 |.isl t _=>match P.underlying T with|some (.slice e)=>(P.info? e).map (·.size)==some t.size|_=>false
 |.bld _ t _=>match P.underlying T with|some (.slice e)=>(P.info? e).map (·.size)==some t.size|_=>false
 |.osl _ t _ _=>match P.underlying T with|some (.slice e)=>(P.info? e).map (·.size)==some t.size|_=>false
 |.raw (.slice none 0 0)=>match P.underlying T with|some (.slice e)=>(P.info? e).isSome|_=>false
 |.csl _ t _ _ _=>match P.underlying T with|some (.slice e)=>(P.info? e).map (·.size)==some t.size|_=>false
 |_=>false

theorem q1Z{T:TypeId}{n:Nat}(h:(match P.underlying T with|some (.slice e)=>(P.info? e).map (·.size)==some n|_=>false)=true):∃e,P.underlying T=some (.slice e)/\(P.info? e).map (·.size)=some n:=by grind

theorem z6D{xs:List t.den}{A:Option Addr}{c a b m:Nat}(d:(SV.isl t xs).den C (.slice A xs.length c))(hab:a<=b)(hb:b<=xs.length)(j:m=c):
 (SV.isl t ((xs.take b).drop a)).den C (.slice (if m=a then A else A.map (·.add (a*t.size))) (b-a) (m-a)):=by
 subst j;rw [SV.den] at d⊢;obtain ⟨A',n,c',e,hn,hc,hlim,d⟩:=d;simp only [List.cons.injEq,Value.slice.injEq,and_true] at e;obtain ⟨rfl,rfl,rfl⟩:=e;refine ⟨_,_,_,rfl,by simp;omega,by omega,by omega,?_⟩;by_cases hz:b-a=0
 . simp_all [Bs]
 rcases d with rfl| ⟨f,off,rfl,l,d⟩
 . simp_all
 refine .inr ⟨f,off+a*t.size,?_,l,λi x hx=> ?_⟩
 . rw [if_neg (by omega)];simp [q0H]
 grind

theorem z8M{T:TypeId}{lo X:Option Operand}{a b:Option Int}{s:SV}(U:o.op= .slice T x lo X none)(d:sliceKind P T (ev x)=true)(R:bndV ev lo=some a)(O:bndV ev X=some b)
 (Q:0<=loOf a)(S:loOf a<=hiOf (lenOfS (ev x)) b)(g2:hiOf (lenOfS (ev x)) b<=(lenOfS (ev x):Int))(B:sliceTo (loOf a).toNat (hiOf (lenOfS (ev x)) b).toNat (ev x)=some s)(hk:K (.ret s) H):OpV P o ev H K:=by
 refine q0m (by simp_all) (s:=s) (λC e _ Y=> ?_) hk;rw [U] at Y;have q:=Y x (by simp [Op.operands]);have u:∀y∈lo,(ev y).den C (e y):=λy hy=>Y y (by simp_all [Op.operands]);have m:∀y∈X,(ev y).den C (e y):=λy hy=>Y y (by simp_all [Op.operands]);have f:∀r:Value,(Instr.sliceAt T (e x) (lo.map e) (X.map e) none).run P C.w= .ok r C.w->(execOp e o).run P C.w= .ok (.value r) C.w:=λr hr=>by simp [execOp,U,hr]
 generalize hsx:ev x=sx at*;unfold sliceKind at d;split at d
 . rename_i str;split at d
   . rename_i J;rw [SV.den] at q;simp only [sliceTo,Option.some.injEq] at B;subst B;simp only [lenOfS] at*;have F:=q3m (P:=P) (C:=C) (e:=e) (isS:=false) (len:=str.size) (cap:=str.size) u m R O C.w Q S g2
     simp_all [SV.den,Instr.sliceAt,run_underlying',Instr.slice]
   cases d
 . rename_i ty xs;obtain ⟨W,J,l⟩:=q1Z d;simp only [sliceTo,Option.some.injEq] at B;subst B;simp only [lenOfS] at*;have hx':=q;rw [SV.den] at q;obtain ⟨A,n,c,G,L,Z,hlim,N⟩:=q;simp only [List.cons.injEq,and_true] at G;subst L;have F:=q3m (P:=P) (C:=C) (e:=e) (isS:=true) (len:=xs.length) (cap:=c) u m R O C.w Q S (by omega);rw [G] at hx';refine ⟨_,f _ ?_,z6D hx' (by omega) (by omega) rfl⟩;simp [Instr.sliceAt,run_underlying' J,Instr.slice,G,F,q0k l]
 . rename_i h ty n;obtain ⟨W,J,l⟩:=q1Z d;simp only [sliceTo,Option.some.injEq] at B;subst B;simp only [lenOfS] at*;have q:=q5U q;rw [SV.den] at q;obtain ⟨L,A,c,G,Z,N⟩:=q;have F:=q3m (P:=P) (C:=C) (e:=e) (isS:=true) (len:=n) (cap:=c) u m R O C.w Q S (by omega);refine ⟨.slice (if c=(loOf a).toNat then A else A.map (·.add ((loOf a).toNat*ty.size))) ((hiOf n b).toNat- (loOf a).toNat) (c- (loOf a).toNat),f _ ?_,?_⟩
   . simp [Instr.sliceAt,run_underlying' J,Instr.slice,G,F,q0k l]
   rw [SV.den];refine ⟨L,_,_,rfl,by omega,?_⟩;by_cases V:(hiOf n b).toNat- (loOf a).toNat=0
   . exact .inl V
   rcases N with h0| ⟨E,j,rfl⟩
   . omega
   refine .inr ⟨E,j,?_⟩;rw [if_neg (by omega)];simp [q0H]
 . rename_i h ty off n;obtain ⟨W,J,l⟩:=q1Z d;simp only [sliceTo,Option.some.injEq] at B;subst B;simp only [lenOfS] at*;rw [SV.den] at q;obtain ⟨L,A,c,G,Z,N⟩:=q;have F:=q3m (P:=P) (C:=C) (e:=e) (isS:=true) (len:=n) (cap:=c) u m R O C.w Q S (by omega);refine ⟨.slice (if c=(loOf a).toNat then A else A.map (·.add ((loOf a).toNat*ty.size))) ((hiOf n b).toNat- (loOf a).toNat) (c- (loOf a).toNat),f _ ?_,?_⟩
   . simp [Instr.sliceAt,run_underlying' J,Instr.slice,G,F,q0k l]
   rw [SV.den];refine ⟨L,_,_,rfl,by omega,?_⟩;by_cases V:(hiOf n b).toNat- (loOf a).toNat=0
   . exact .inl V
   rcases N with h0| ⟨E,j,rfl⟩
   . omega
   refine .inr ⟨E,j,?_⟩;rw [if_neg (by omega)];grind [q0H]
 . split at d
   . rename_i W J;simp only [sliceTo,Option.some.injEq] at B;subst B;simp only [lenOfS] at*;rw [SV.den] at q;have F:=q3m (P:=P) (C:=C) (e:=e) (isS:=true) (len:=0) (cap:=0) u m R O C.w Q S g2;have e1:(loOf a).toNat=0:=by omega
     have e2:(hiOf 0 b).toNat=0:=by omega
     rw [e1,e2] at F;obtain ⟨i,hi'⟩:=B4.1 d
     simp_all [SV.den,Instr.sliceAt,run_underlying',Instr.slice,sizeOf,typeInfo]
   cases d
 . rename_i h ty k0 off n;obtain ⟨W,J,l⟩:=q1Z d;simp only [sliceTo,Option.some.injEq] at B;subst B;simp only [lenOfS] at*;rw [SV.den] at q;obtain ⟨L,A,c,G,Z,N⟩:=q;have F:=q3m (P:=P) (C:=C) (e:=e) (isS:=true) (len:=n) (cap:=c) u m R O C.w Q S (by omega);refine ⟨.slice (if c=(loOf a).toNat then A else A.map (·.add ((loOf a).toNat*ty.size))) ((hiOf n b).toNat- (loOf a).toNat) (c- (loOf a).toNat),f _ ?_,?_⟩
   . simp [Instr.sliceAt,run_underlying' J,Instr.slice,G,F,q0k l]
   rw [SV.den];refine ⟨L,_,_,rfl,by omega,?_⟩;by_cases V:(hiOf n b).toNat- (loOf a).toNat=0
   . exact .inl V
   rcases N with h0| ⟨E,j,rfl⟩
   . omega
   refine .inr ⟨E,j,?_⟩;rw [if_neg (by omega)];grind [q0H]
 cases d

end
section
open Go

variable [Ghost] {P:Program} {AQ:Ex->List SV->List SObj->Prop} {k0:Nat} {k:List It} {tm:List SV} {H:List SObj}

mutual
def SV.frz(h:Nat)(t:Ty)(xs:List t.den):SV->SV
 |.bld h' t' n=>if h'=h/\t'=t then .isl t (xs.take n) else .bld h' t' n
 |.osl h' t' off n=>if h'=h/\t'=t then .isl t ((xs.drop off).take n) else .osl h' t' off n
 |.agg l=>.agg (SV.frzL h t xs l)
 |.tup l=>.tup (SV.frzL h t xs l)
 |.iface T x=>.iface T (SV.frz h t xs x)
 |s=>s
def SV.frzL(h:Nat)(t:Ty)(xs:List t.den):List SV->List SV
 | []=>[]
 |s :: l=>SV.frz h t xs s :: SV.frzL h t xs l
end
mutual
def SV.frzOb(h:Nat)(t:Ty)(xs:List t.den):SV->Prop
 |.bld h' t' n=>if h'=h/\t'=t then n<=xs.length else True
 |.osl h' t' off n=>if h'=h/\t'=t then off+n<=xs.length else True
 |.agg l=>SV.frzObL h t xs l
 |.tup l=>SV.frzObL h t xs l
 |.iface _ x=>SV.frzOb h t xs x
 |_=>True
def SV.frzObL(h:Nat)(t:Ty)(xs:List t.den):List SV->Prop
 | []=>True
 |s :: l=>SV.frzOb h t xs s/\SV.frzObL h t xs l
end

def Cx.frz(C:Cx)(h:Nat):Cx:={C with I:=λb=>C.I b\/C.ρ h=some b}
theorem q0P(C:Cx)(h:Nat):Evo C (C.frz h):=⟨Ac _,λ_ _=>rfl,λ_ hb=>⟨.inl hb,rfl⟩,λ_ _ h=>h⟩

variable {C:Cx}{h:Nat}{t:Ty}{xs:List t.den}
theorem q5E{off n:Nat}{v:Value}(f:Wd C H)(q:H[h]?=some (.row t xs))(hlen:xs.length<=1125899906842624)(l:off+n<=xs.length)(d:(SV.osl h t off n).den C v):(SV.isl t ((xs.drop off).take n)).den (C.frz h) v:=by
 obtain ⟨A,c,rfl,y,d⟩:=z0m f q d l;rw [SV.den];refine ⟨A,n,c,rfl,by simp;omega,y,by omega,?_⟩;rcases d with h0| ⟨b,rfl,u,_,r⟩
 . simp_all
 refine .inr ⟨b,off*t.size,rfl,.inr u,λi x B=> ?_⟩;obtain ⟨us,m,j⟩:=r i x B;exact ⟨us,Ty.rel_keep (q0P C h).I _ _ _ m,j⟩

mutual
theorem q4s{C:Cx}{h:Nat}{t:Ty}{xs:List t.den}(m:Wd C H)(q:H[h]?=some (.row t xs))(b:xs.length<=1125899906842624):∀ {s:SV} {v:Value},s.frzOb h t xs->s.den C v->(s.frz h t xs).den (C.frz h) v
 |.any,_,_,d=>by grind [SV.frz,q0Y,q0P]
 |.raw _,_,_,d=>by grind [SV.frz,q0Y,q0P]
 |.isl _ _,_,_,d=>by grind [SV.frz,q0Y,q0P]
 |.fsl _ _,_,_,d=>by grind [SV.frz,q0Y,q0P]
 |.iptr _ _ _,_,_,d=>by grind [SV.frz,q0Y,q0P]
 |.ptr _ _,_,_,d=>by grind [SV.frz,q0Y,q0P]
 |.rptr _ _ _ _,_,_,d=>by grind [SV.frz,q0Y,q0P]
 |.dat _ _,_,_,d=>by grind [SV.frz,q0Y,q0P]
 |.csl ..,_,_,d=>by grind [SV.frz,q0Y,q0P]
 |.mp _,_,_,d=>by grind [SV.frz,q0Y,q0P]
 |.imap ..,_,_,d=>by grind [SV.frz,q0Y,q0P]
 |.fn _ _ _,_,_,d=>by grind [SV.frz,q0Y,q0P]
 |.bld h' t' n,v,ob,d=>by
  rw [SV.frz];rw [SV.frzOb] at ob;split
  . rename_i e;rw [if_pos e] at ob;obtain ⟨rfl,rfl⟩:=e;have:=q5E m q b (off:=0) (n:=n) (by omega) (q5U d)
    simp_all
  grind [q0Y,q0P]
 |.osl h' t' off n,v,ob,d=>by
  rw [SV.frz];rw [SV.frzOb] at ob;split
  . rename_i e;rw [if_pos e] at ob;obtain ⟨rfl,rfl⟩:=e;grind [q5E]
  grind [q0Y,q0P]
 |.agg l,v,ob,d=>by rw [SV.frz,SV.den];rw [SV.frzOb] at ob;rw [SV.den] at d;obtain ⟨vs,f,j⟩:=d;exact ⟨vs,f,q2j m q b ob j⟩
 |.tup l,v,ob,d=>by rw [SV.frz,SV.den];rw [SV.frzOb] at ob;rw [SV.den] at d;obtain ⟨vs,f,j⟩:=d;exact ⟨vs,f,q2j m q b ob j⟩
 |.iface T x,v,ob,d=>by rw [SV.frz,SV.den];rw [SV.frzOb] at ob;rw [SV.den] at d;obtain ⟨u,f,j⟩:=d;exact ⟨u,f,q4s m q b ob j⟩
theorem q2j{C:Cx}{h:Nat}{t:Ty}{xs:List t.den}(f:Wd C H)(j:H[h]?=some (.row t xs))(b:xs.length<=1125899906842624):∀ {l:List SV} {vs:List Value},SV.frzObL h t xs l->SV.denL C l vs->SV.denL (C.frz h) (SV.frzL h t xs l) vs
 | [],_,_,d=>by grind [SV.frzL,SV.denL]
 |s :: l,_,ob,d=>by rw [SV.frzL,SV.denL];rw [SV.frzObL] at ob;rw [SV.denL] at d;obtain ⟨v,us,rfl,d1,d2⟩:=d;exact ⟨v,us,rfl,q4s f j b ob.1 d1,q2j f j b ob.2 d2⟩
end

def SObj.frz(h:Nat)(t:Ty)(xs:List t.den):SObj->SObj
 |.cells T cs=>.cells T (SV.frzL h t xs cs)
 |.map kk ks vs=>.map kk ks (SV.frzL h t xs vs)
 |o=>o
def SObj.frzOb(h:Nat)(t:Ty)(xs:List t.den):SObj->Prop
 |.cells _ cs=>SV.frzObL h t xs cs
 |.map _ _ vs=>SV.frzObL h t xs vs
 |_=>True
def frzObH(h:Nat)(t:Ty)(xs:List t.den):List SObj->Prop
 | []=>True
 |x :: l=>x.frzOb h t xs/\frzObH h t xs l
def q5p{h:Nat}{t:Ty}{xs:List t.den}:∀ {H:List SObj} {i:Nat} {x:SObj},frzObH h t xs H->H[i]?=some x->x.frzOb h t xs
 | [],_,_,_,hi=>by simp at hi
 |y :: l,0,x,ho,hi=>by simp at hi;subst hi;exact ho.1
 |y :: l,i+1,x,ho,hi=>q5p ho.2 (by simpa using hi)
theorem j1W(x:SObj):(x.frz h t xs).live=x.live:=by cases x<;>rfl

def frzH(h:Nat)(t:Ty)(xs:List t.den)(H:List SObj):List SObj:=(H.map (SObj.frz h t xs)).set h .dead

theorem q4D{i:Nat}{y:SObj}(d:(frzH h t xs H)[i]?=some y)(hl:y.live=true):i≠h/\∃x,H[i]?=some x/\y=x.frz h t xs/\x.live=true:=by
 unfold frzH at d;have b:i≠h:=λe=>by grind [SObj.live]
 rw [AJ (Ne.symm b),AF] at d;cases f:H[i]? with
 |none=>simp_all
 |some x=>simp [f] at d;exact ⟨b,x,rfl,d.symm,by grind [j1W]⟩

theorem z0g{n:Nat}(hH:H[h]?=some (.row t xs))(d:H[0]?=some (.mark n)):(frzH h t xs H)[0]?=some (.mark n):=by
 unfold frzH;have b:h≠0:=λe=>by simp_all
 rw [AJ b,AF,d];rfl
theorem z7q(m:Wd C H)(u:H[h]?=some (.row t xs)){b:Nat}:OwnB (C.frz h) (frzH h t xs H) b->OwnB C H b/\C.ρ h≠some b:=by rintro ⟨i,y,r,q,l⟩;obtain ⟨j,x,f,rfl,d⟩:=q4D r q;exact ⟨⟨i,x,f,d,l⟩,λe=>j (m.inj i h x _ b f u d rfl l e)⟩
def z8U{E:En}(r:Wd C H)(u:Ext E C H)(R:H[h]?=some (.row t xs))(F:xs.length<=1125899906842624)(Y:frzObH h t xs H):Wd (C.frz h) (frzH h t xs H)/\Ext E (C.frz h) (frzH h t xs H):=by
 have B:∀b,OwnB (C.frz h) (frzH h t xs H) b->OwnB C H b/\C.ρ h≠some b:=by rintro b ⟨i,y,Q,G,d⟩;obtain ⟨J,x,f,rfl,m⟩:=q4D Q G;exact ⟨⟨i,x,f,m,d⟩,λe=>J (r.inj i h x _ b f R m rfl d e)⟩
 have l:∀b,C.ρ h=some b->OwnB C H b:=λb d=>⟨h,_,R,rfl,d⟩;refine ⟨⟨by simp [frzH,Cx.frz,r.n],?_,?_,?_,?_⟩,⟨u.evo.trans (q0P C h),u.size,u.os,u.tape,u.output,u.frame,?_,?_,λn Z hn=>z0g R (u.keep0 n Z hn)⟩⟩
 . intro i y Q;by_cases G:y.live=true
   . obtain ⟨J,x,f,rfl,m⟩:=q4D Q G;have q:=r.obj i x f;cases x with
     |dead=>trivial
     |cells T cs=>obtain ⟨b,vs,N,L,V⟩:=q;exact ⟨b,vs,N,L,q2j r R F (q5p Y f) V⟩
     |mark n=>trivial
     |map kk ks vs=>obtain ⟨b,us,N,L,V⟩:=q;exact ⟨b,us,N,L,q2j r R F (q5p Y f) V⟩
     |row t' ys=>exact q0z (q0P C h).I i rfl (λ_ _=>rfl) (q0f (q0P C h)) q
   cases y<;>first|trivial|simp [SObj.live] at G
 . intro b d;obtain ⟨N,L⟩:=B b d;have:=r.own b N;exact ⟨λhi=>hi.elim this.1 L,this.2⟩
 . intro i j y y' b Q W G U d X;obtain ⟨_,x,f,rfl,m⟩:=q4D Q G;obtain ⟨_,x',S,rfl,O⟩:=q4D W U;exact r.inj i j x x' b f S m O d X
 . rintro b (d|d)
   . exact r.imm b d
   exact (r.own b (l b d)).2
 . rintro b (d|d)
   . exact u.immNew b d
   exact .inr ⟨u.ownNew b (l b d),(q4v r (l b d):Unf C.w b)⟩
 intro b d;exact u.ownNew b (B b d).1

def z0O(h:Nat)(l:H[h]?=some (.row t xs))(f:xs.length<=1125899906842624)(y:frzObH h t xs H)(q:SV.frzObL h t xs tm)(G:Sound P AQ ⟨k0,k,SV.frzL h t xs tm,frzH h t xs H⟩):Sound P AQ ⟨k0,k,tm,H⟩:=by intro E r n C a F d;obtain ⟨B,u⟩:=z8U d.wd d.ext l f y;have j:DefOk E (C.frz h) (frzH h t xs H) a.defers:=⟨d.defs.1,Ghost.same d.wd rfl (λ_ h=>.inl h) (λb m=>orMap m id λm=>⟨h,_,l,rfl,m⟩) (λb m=>(z7q d.wd l m).1) (λ_ _ J=>z0g l J) d.ext.evo.n d.defs.2⟩;exact G E r n (C.frz h) a F ⟨B,u,j,q2j d.wd l f q d.tmps⟩

end
section
open Go

variable [Ghost] {P:Program} {o:Oper} {ev:Operand->SV} {H:List SObj} {K:Out->List SObj->Prop}

variable {x:Operand}
theorem q7G{d dst:TypeId}{q:TypeId}{h n:Nat}{xs:List UInt8}(hop:o.op= .convert d dst x)(hs:P.underlying d=some (.slice q))(ht:P.underlying dst=some .string)(he:P.underlying q=some (.int .u8))(E:ev x= .bld h .u8 n)
 (B:H[h]?=some (.row .u8 xs))(hn:n<=xs.length)(b:xs.length<=1125899906842624)(u:K (.ret (.raw (.string (strOf (xs.take n))))) H):OpV P o ev H K:=by
 refine q0m (by simp_all) (λC e y F=> ?_) u;have l:=F x (by grind [Op.operands]);rw [E] at l;have f:=q5E y B b (off:=0) (n:=n) (by omega) (q5U l);rw [Ap] at f;have m:=q1S (P:=P) f;rw [SV.den] at f;obtain ⟨A,r,c,j,_⟩:=f;simp only [List.cons.injEq,and_true] at j;rw [j] at m;have hb':(Conv.bytesToString (.slice A r c)).run P C.w= .ok (.string (strOf (xs.take n))) C.w:=m
 simp_all [execOp,convert,run_underlying',SV.den]

mutual
def SV.toV:SV->Option Value
 |.raw v=>some v
 |.fn f a b=>match SV.toVL a,SV.toVL b with
  |some x,some y=>some (.func (.func f) x.toArray y.toArray)
  |_,_=>none
 |.agg l=>match SV.toVL l with
  |some x=>some (.agg x.toArray)
  |none=>none
 |_=>none
def SV.toVL:List SV->Option (List Value)
 | []=>some []
 |s :: l=>match SV.toV s,SV.toVL l with
  |some v,some vs=>some (v :: vs)
  |_,_=>none
end
mutual
theorem z6h{C:Cx}:∀ {s:SV} {v u:Value},s.toV=some u->s.den C v->v=u
 |.raw _,v,u,h,d=>by grind [SV.toV,SV.den]
 |.fn f a b,v,u,h,d=>by
  rw [SV.toV] at h;split at h
  . rename_i x y j m;cases h;rw [SV.den] at d;obtain ⟨v1,v2,rfl,d1,d2⟩:=d;rw [q6v j d1,q6v m d2]
  cases h
 |.agg l,v,u,h,d=>by
  rw [SV.toV] at h;split at h
  . rename_i x j;cases h;rw [SV.den] at d;obtain ⟨vs,rfl,d1⟩:=d;rw [q6v j d1]
  cases h
 |.any,_,_,h,_=>by simp [SV.toV] at h
 |.isl ..,_,_,h,_=>by simp [SV.toV] at h
 |.fsl ..,_,_,h,_=>by simp [SV.toV] at h
 |.iptr ..,_,_,h,_=>by simp [SV.toV] at h
 |.ptr ..,_,_,h,_=>by simp [SV.toV] at h
 |.rptr ..,_,_,h,_=>by simp [SV.toV] at h
 |.bld ..,_,_,h,_=>by simp [SV.toV] at h
 |.osl ..,_,_,h,_=>by simp [SV.toV] at h
 |.csl ..,_,_,h,_=>by simp [SV.toV] at h
 |.dat ..,_,_,h,_=>by simp [SV.toV] at h
 |.tup _,_,_,h,_=>by simp [SV.toV] at h
 |.iface ..,_,_,h,_=>by simp [SV.toV] at h
 |.mp _,_,_,h,_=>by simp [SV.toV] at h
 |.imap ..,_,_,h,_=>by simp [SV.toV] at h
theorem q6v{C:Cx}:∀ {l:List SV} {vs us:List Value},SV.toVL l=some us->SV.denL C l vs->vs=us
 | [],vs,us,h,d=>by grind [SV.toVL,SV.denL]
 |s :: l,vs,us,h,d=>by
  rw [SV.toVL] at h;split at h
  . rename_i v ws b f;cases h;rw [SV.denL] at d;obtain ⟨v',us',rfl,d1,d2⟩:=d;rw [z6h b d1,q6v f d2]
  cases h
end
def SV.ofV:Value->SV
 |.agg cs=>.agg (rawL cs.toList)
 |v=>.raw v
variable {C:Cx}
theorem z8e(v:Value):(SV.ofV v).den C v:=by unfold SV.ofV;split;all_goals grind [SV.den,q1a]

def keyKind(P:Program)(t:TypeId):Option (Option IntKind):=match P.underlying t with
 |some (.int k)=>some (some k)
 |some .string=>some none
 |_=>none

variable {t:TypeId}{kk:Option IntKind}
theorem q3l(h:keyKind P t=some kk):(∃k,kk=some k/\P.underlying t=some (.int k))\/(kk=none/\P.underlying t=some .string):=by unfold keyKind at h;grind

variable {k:Value}
theorem z2A{d:TypeDesc}(h:keyKind P t=some kk)(b:P.underlying t=some d){k':Value}(l:keyIs kk k=true)(j:keyIs kk k'=true):Instr.sameNow d k k'=some (keyEq k k'):=by
 rcases q3l h with ⟨q,rfl,f⟩ | ⟨rfl,f⟩
 . rw [f] at b;cases b;cases k<;>simp [keyIs] at l
   cases k'<;>simp [keyIs] at j
   grind [Instr.sameNow,keyEq]
 rw [f] at b;cases b;cases k<;>simp [keyIs] at l
 cases k'<;>simp [keyIs] at j
 simp only [Instr.sameNow,keyEq,Option.some.injEq];rw [Bz,decide_eq_true_eq];exact MapKept.bytes_beq _ _

theorem q7Y{t:TypeId}{kk:Option IntKind}{d:TypeDesc}(h:keyKind P t=some kk)(l:P.underlying t=some d){k:Value}(m:keyIs kk k=true):∀ (b:List MapEntry) (j:Nat),(∀e∈b,keyIs kk e.key=true)->
 Instr.findNow d k b j=some (match findI k (b.map (·.key)) with|some i=>some (i+j,(b.map (·.val)).getD i undef) |none=>none)
 | [],j,_=>by rfl
 |e :: b,j,hk=>by have q:=z2A h l m (hk e (by simp));have ih:=q7Y h l m b (j+1) (λr f=>hk r (by simp [f]));simp only [Instr.findNow,q,Az,findI];grind

theorem q8c(h:keyKind P t=some kk)(m:keyIs kk k=true)(b:List MapEntry)(l:∀e∈b,keyIs kk e.key=true)(w:World):
 (Instr.findKey t k b).run P w= .ok (match findI k (b.map (·.key)) with|some i=>some (i,(b.map (·.val)).getD i undef) |none=>none) w:=by
 have:∃d,P.underlying t=some d:=by rcases q3l h with ⟨q,_,f⟩ | ⟨_,f⟩ <;>exact ⟨_,f⟩
 obtain ⟨d,j⟩:=this;have:=q7Y h j m b 0 l
 simp_all [Instr.findKey,run_underlying']

theorem z4D(h:keyKind P t=some kk)(f:keyIs kk k=true):∃d,P.underlying t=some d/\MapKept.IsKey d k:=by
 rcases q3l h with ⟨q,rfl,b⟩ | ⟨rfl,b⟩
 . exact ⟨_,b,by cases k<;>simp [keyIs] at f;simp [MapKept.IsKey,f]⟩
 exact ⟨_,b,by cases k<;>simp [keyIs] at f;simp [MapKept.IsKey]⟩
theorem q2D(h:keyKind P t=some kk){b:Bool}(hk:keyIs kk k=true)(w:World):(Instr.checkKey b 10000 t k).run P w= .ok () w:=by grind [z4D,MapKept.run_checkKey]

theorem q9l:∀ {k:Value} {ks:List Value} {i:Nat},findI k ks=some i->i<ks.length/\∃k',ks[i]?=some k'/\keyEq k k'=true
 |k,[],i,h=>by simp [findI] at h
 |k,k' :: ks,i,h=>by
  simp only [findI] at h;split at h
  . grind
  simp only [Al] at h;obtain ⟨j,b,rfl⟩:=h;obtain ⟨h1,k'',h2,h3⟩:=q9l b
  simp_all
theorem z5w{k':Value}(b:keyIs kk k=true)(d:keyIs kk k'=true)(h:keyEq k k'=true):k'=k:=by cases kk<;>cases k<;>simp [keyIs] at b<;>cases k'<;>simp [keyIs] at d<;>simp [keyEq] at h<;>subst_vars<;>rfl

theorem z2d{T:TypeId}(kk:Option IntKind)(hop:o.op= .makeMap T none)(f:K (.ret (.mp H.length)) (H++ [.map kk [] []])):OpV P o ev H K:=by
 refine q0L (by simp_all) λC e b _=> ?_;obtain ⟨j,d⟩:=q5A b (.map #[] 0) (.map kk [] []) ⟨C.w.heap.size,[],by simp [Cx.grow],⟨#[],0,q1q _ _,rfl,rfl,by simp⟩,q0y.2 rfl⟩;refine ⟨_,.map (some C.w.heap.size),_,_,f,.inl ?_,j,d,?_⟩
 . simp_all [execOp,Instr.makeMap,Cx.grow]
 rw [SV.den];exact ⟨by simp [Cx.grow,b.n],C.w.heap.size,by simp [Cx.grow,b.n],rfl⟩

def mput{α:Type}(ks:List Value)(vs:List α)(k:Value)(v:α):List Value×List α:=
 match findI k ks with
 |some i=>(ks,vs.set i v)
 |none=>(ks++ [k],vs++ [v])

variable {ks:List Value}
theorem z4c{α β:Type}{vs:List α}{us:List β}{v:α}{u:β}:(mput ks vs k v).1=(mput ks us k u).1:=by grind [mput]
variable {vs:List SV}{v:Value}{s:SV}
theorem z7l{us:List Value}(d:SV.denL C vs us)(b:s.den C v):SV.denL C (mput ks vs k s).2 (mput ks us k v).2:=by
 unfold mput;cases findI k ks with
 |none=>exact q0w.2 ⟨us,[v],rfl,d,q0c.2 ⟨v,[],rfl,b,q0y.2 rfl⟩⟩
 |some i=>exact q1u d b
def SV.norm(s:SV):SV:=match s.toV with
 |some v=>.raw v
 |none=>s
theorem j0b(h:s.den C v):s.norm.den C v:=by grind [SV.norm,SV.den,z6h]
theorem q9z{T kt et:TypeId}{m k:Operand}{h:Nat}{kv:Value}(Z:o.op= .mapUpdate T m k x\/o.op= .insert T m k x)(hT:P.underlying T=some (.map kt et))(B:keyKind P kt=some kk)
 (hm:ev m= .mp h)(ae:ev k= .raw kv)(r:keyIs kk kv=true)(hH:H[h]?=some (.map kk ks vs))(hk:K (.ret .any) (H.set h (.map kk (mput ks vs kv (ev x).norm).1 (mput ks vs kv (ev x).norm).2))):OpV P o ev H K:=by
 refine q0L (by grind) λC e hw hv=> ?_;have Q:=hv m (by grind [Op.operands]);have v2:=hv k (by grind [Op.operands]);have v3:=j0b (hv x (by grind [Op.operands]));obtain ⟨xv,G⟩:∃xv,xv=e x:=⟨_,rfl⟩;rw [<-G] at v3;rw [hm,SV.den] at Q;rw [ae,SV.den] at v2;obtain ⟨_,b,W,Q⟩:=Q;obtain ⟨O,us,J,⟨L,j,l,E,af,y⟩,ac⟩:=hw.obj h _ hH;rw [W] at J;cases J;have ad:∀e∈L.toList,keyIs kk e.key=true:=λe he=>y _ (by grind);have q:=λw=>q8c (P:=P) B r L.toList ad w;have u:∀f d,(f.toList.map (·.key),f.toList.map (·.val))=mput ks us kv xv->(Instr.mapUpdate T (e m) (e k) (e x)).run P C.w= .ok () {C.w with heap:=C.w.heap.setIfInBounds b (.map f d)}->
  ∃s v H' C',K (.ret s) H'/\((execOp e o).run P C.w= .ok (.value v) C'.w\/((execOp e o).run P C.w= .ok .skip C'.w/\v=undef))/\Wd C' H'/\Ext ⟨C,H⟩ C' H'/\s.den C' v:=λf d U R=>by
  have Y:b<C.w.heap.size:=(Ax.1 l).1;have ab:OwnB C H b:=⟨h,_,hH,rfl,W⟩
  have he:Evo C {C with w:={C.w with heap:=C.w.heap.setIfInBounds b (.map f d)}}:=⟨Ac _,λ_ _=>rfl,λO hi=>⟨hi,by
   have hne:O≠b:=λe=>(hw.own b ab).1 (e▸hi)
   grind⟩,λO m hm=>by
   by_cases hbb:O=b
   all_goals simp_all [World.bsize,Ne.symm]⟩
  have hkeys:∀k'∈(mput ks us kv xv).1,keyIs kk k'=true:=by grind [mput]
  obtain ⟨g1,g2,g3⟩:=z1x (so':=.map kk (mput ks vs kv (ev x).norm).1 (mput ks vs kv (ev x).norm).2) hw hH rfl rfl W {C.w with heap:=C.w.heap.setIfInBounds b (.map f d)} (λO J=>by grind) (by simp)
   (λm hm=>by grind [World.bsize]) rfl rfl rfl
   ⟨b,(mput ks us kv xv).2,W,⟨f,d,by simp [Y],by grind [z4c],by rw [<-U],by grind [z4c]⟩,q0f he (z7l ac v3)⟩
  refine ⟨_,undef,_,_,hk,.inr ⟨?_,rfl⟩,g1,g2,by rw [SV.den];trivial⟩;rcases Z with h|h<;>simp [execOp,h,R,Result.andThen]
 cases X:findI kv ks with
 |none=>refine u (L.push {key:=kv,val:=xv,born:=j}) (j+1) (by grind [mput]) ?_;simp [Instr.mapUpdate,run_underlying' hT,Q,v2,<-G,l,q2D B r,MapKept.run_getObj_map l,MapKept.run_setObj_map _ l,q,E,X,Result.andThen]
 |some i=>
  obtain ⟨hi,k',aa,V⟩:=q9l X;have S:k'=kv:=z5w r (y k' (BL aa)) V;subst S;have N:(L[i]?).map (·.key)=some k':=by grind
  have F:(Instr.keyThatStays k' k').run P C.w= .ok k' C.w:=by grind [z4D,MapKept.run_keyThatStays]
  have hlen:L.toList.length=ks.length:=by grind
  refine u (L.modify i λe=>{e with key:=k',val:=xv}) j ?_ ?_
  . simp only [mput,X,Prod.mk.injEq];constructor
    . rw [<-E];apply AE;grind
    rw [<-af];apply AE;grind
  simp [Instr.mapUpdate,run_underlying' hT,Q,v2,<-G,l,q2D B r,MapKept.run_getObj_map l,MapKept.run_setObj_map _ l,q,E,X,Result.andThen,N,F]

def mget(ks:List Value)(vs:List SV)(z k:Value):SV×Bool:=
 match findI k ks with
 |some i=>(vs.getD i (.raw undef),true)
 |none=>(.raw z,false)
def SV.ofS:SV->SV
 |.raw v=>.ofV v
 |s=>s
theorem z8l(h:s.den C v):s.ofS.den C v:=by unfold SV.ofS;grind [SV.den,z8e]
def mres(ok:Bool)(p:SV×Bool):SV:=if ok then .tup [p.1.ofS,.raw (.bool p.2)] else p.1.ofS

def zeroOf(P:Program)(t:TypeId):Option Value:=(P.info? t).bind (·.zero)
theorem q8M{z:Value}(h:zeroOf P t=some z)(w:World):(zeroValue t).run P w= .ok z w:=by
 unfold zeroOf at h;cases hi:P.info? t with
 |none=>grind
 |some i=>simp_all [zeroValue,typeInfo]

def unrawL:List SV->Option (List Value)
 | []=>some []
 |.raw v :: l=>(unrawL l).map (v :: ·)
 |_ :: _=>none
def q4C:∀ {l:List SV} {us:List Value},unrawL l=some us->l=rawL us
 | [],_,h=>by cases h;rfl
 |.raw v :: l,_,h=>by simp only [unrawL,Al] at h;obtain ⟨us,b,rfl⟩:=h;rw [q4C b];rfl
 |.any :: _,_,h=>by cases h
 |.isl _ _ :: _,_,h=>by cases h
 |.fsl _ _ :: _,_,h=>by cases h
 |.iptr .. :: _,_,h=>by cases h
 |.ptr .. :: _,_,h=>by cases h
 |.rptr .. :: _,_,h=>by cases h
 |.bld .. :: _,_,h=>by cases h
 |.osl .. :: _,_,h=>by cases h
 |.csl .. :: _,_,h=>by cases h
 |.dat .. :: _,_,h=>by cases h
 |.agg _ :: _,_,h=>by cases h
 |.tup _ :: _,_,h=>by cases h
 |.fn .. :: _,_,h=>by cases h
 |.iface .. :: _,_,h=>by cases h
 |.mp _ :: _,_,h=>by cases h
 |.imap .. :: _,_,h=>by cases h
def mapOf(H:List SObj):SV->Option (Option IntKind×List Value×List SV)
 |.mp h=>match H[h]? with
  |some (.map kk ks vs)=>some (kk,ks,vs)
  |_=>none
 |.imap kk ks vs=>some (kk,ks,rawL vs)
 |_=>none
theorem z1O(f:Wd C H)(h:mapOf H s=some (kk,ks,vs))(d:s.den C v):∃b us,v= .map (some b)/\mapAt C.w b kk ks us/\SV.denL C vs us:=by
 unfold mapOf at h;split at h
 . split at h
   . rename_i j;cases h;rw [SV.den] at d;obtain ⟨_,b,hb,hv⟩:=d;obtain ⟨b',us,hb',hm,hu⟩:=f.obj _ _ j;grind
   cases h
 all_goals grind [SV.den,q1a]

theorem z5k{T S V:TypeId}{m k:Operand}{ok:Bool}{d z:Value}(y:o.op= .lookup T m k ok)(U:P.underlying T=some (.map S V))(q:keyKind P S=some kk)(Y:zeroOf P V=some z)
 (hm:mapOf H (ev m)=some (kk,ks,vs))(L:ev k= .raw d)(l:keyIs kk d=true)(X:K (.ret (mres ok (mget ks vs z d))) H):OpV P o ev H K:=by
 refine q0m (by simp_all) (s:=mres ok (mget ks vs z d)) (λC e Z W=> ?_) X;have F:=W m (by grind [Op.operands]);have N:=W k (by grind [Op.operands]);rw [L,SV.den] at N;obtain ⟨b,us,F,⟨O,clock,f,B,R,E⟩,hus⟩:=z1O Z hm F;have G:∀e∈O.toList,keyIs kk e.key=true:=λe he=>E _ (by grind);have j:=q8c (P:=P) q l O.toList G C.w;have hlen:O.toList.length=ks.length:=by grind
 have r:(mget ks vs z d).1.den C (match findI d ks with|some i=>us.getD i undef|none=>z):=by
  unfold mget;cases J:findI d ks with
  |none=>rfl
  |some i=>grind [q9l,q0v,q1v]
 have Q:(mget ks vs z d).2=(findI d ks).isSome:=by grind [mget]
 generalize hu:(match findI d ks with|some i=>us.getD i undef|none=>z)=u at r;refine ⟨if ok then .tuple #[u,.bool (mget ks vs z d).2] else u,?_,?_⟩
 . rw [Q,<-hu];cases J:findI d ks with
   |none=>simp [execOp,y,Instr.lookup,run_underlying' U,F,N,f,q2D q l,MapKept.run_getObj_map f,MapKept.run_setObj_map _ f,j,B,J,Result.andThen,q8M Y]
   |some i=>simp [execOp,y,Instr.lookup,run_underlying' U,F,N,f,q2D q l,MapKept.run_getObj_map f,MapKept.run_setObj_map _ f,j,B,R,J,Result.andThen]
 unfold mres;cases ok
 . simp_all [z8l]
 simp only [if_true];rw [SV.den];exact ⟨[u,.bool (mget ks vs z d).2],rfl,q0c.2 ⟨_,_,rfl,z8l r,q0c.2 ⟨_,_,rfl,by rw [SV.den],q0y.2 rfl⟩⟩⟩

theorem z2k{c:Call}{l r:TypeId}(hop:o.op= .call c)(hc:c.callee= .builtin .len)(ha:c.args= #[x])(hty:c.argTypes= #[t])(m:P.underlying t=some (.map l r))
 (E:mapOf H (ev x)=some (kk,ks,vs))(j:K (.ret (.raw (.int .i64 ks.length))) H):OpV P o ev H K:=by
 refine q0m (by simp_all) (λC e u F=> ?_) j;have f:=F x (by grind [Op.operands,Call.operands]);obtain ⟨b,us,q,⟨B,clock,d,hks,hvs,hall⟩,_⟩:=z1O u E f;refine ⟨.int .i64 ks.length,?_,by rw [SV.den]⟩;have y:B.size=ks.length:=by grind
 have hrun:(Builtin.len_ #[t] o.type #[e x]).run P C.w= .ok (.int .i64 ks.length) C.w:=by simp [Builtin.len_,q,run_underlying' m,MapKept.run_getObj_map d,goInt,Result.andThen,y]
 simp_all [execOp,resolve,invoke,builtin]
end
section
open Go

variable [Ghost] {P:Program} {o:Oper} {ev:Operand->SV} {H:List SObj} {K:Out->List SObj->Prop} {t:Ty}

theorem OpV.weaken{ev':Operand->SV}(h:OpV P o ev' H K)(hle:∀x,SV.le (ev x) (ev' x)):OpV P o ev H K:=
 λE C r n a next Q hw hg hv h1 h2=>h E C r n a next Q hw hg (λx hx=>hle x C _ (hv x hx)) h1 h2

variable {α:Type}
theorem q2o{vs us:List α}{o:Nat}(h:o+us.length<=vs.length)(j:Nat):
 (splice vs o us)[j]?=if j<o then vs[j]? else if j<o+us.length then us[j-o]? else vs[j]?:=by
 unfold splice;grind

variable {ty:TypeId}{x:Operand}{xs:List t.den}
theorem q8j{y:Operand}{h i kk n:Nat}{Z:List SV}{d':t.den}{p:Prop}(ab:o.op= .store ty x y)(hs:(P.info? ty).map (·.size)=some n)(he:ev x= .rptr h t i kk)
 (hH:H[h]?=some (.row t xs))(hi:i<xs.length)(hf:(ev y).flat=some Z)(hn:Z.length=n)(hb:kk+n<=t.size)(h1:ones Z=true)
 (hr:t.rd (splice (t.cells (xs.getD i t.dflt)) kk Z)=some (d',p))(hp:p)(hk:K (.ret .any) (H.set h (.row t (xs.set i d')))):OpV P o ev H K:=by
 refine q0L (by simp_all) λC e hw hv=> ?_;have hx:=hv x (by grind [Op.operands]);have hy:=q3n hf (hv y (by grind [Op.operands]));rw [he,SV.den] at hx;obtain ⟨_,b,B,hx⟩:=hx;rcases hw.obj h _ hH with ⟨_,h2⟩ | ⟨Y,E,T,fz,F,N,ae,hsz,L⟩
 . simp_all
 rw [B] at F;cases F;have hlen:(e y).cells.toList.length=n:=by rw [q0v hy,hn]
 have hin:i*t.size+kk+n<=E.toList.length:=by rw [Be];have:(i+1)*t.size<=xs.length*t.size:=AX _ hi;grind
 have f:C.w.heap[b]?=some (.cells E.toList.toArray T fz):=by rw [N]
 have J:(storeCells ⟨b,i*t.size+kk,none⟩ (e y).cells.toList 0).run P C.w= .ok () (C.w.setCells b (i*t.size+kk+0) (e y).cells.toList):=run_storeCells_cells b (i*t.size+kk) _ 0 C.w
  (λj G=>by rw [q0h f];grind)
  (λj G=>by
   have:=ae (i*t.size+kk+0+j) (by grind)
   grind [World.frozen?]) (q4N h1 hy)
 rw [AG] at J;have q:i*t.size+kk+ (e y).cells.toList.length<=E.toList.length:=by omega
 have l:=q1c (e y).cells.toList (i*t.size+kk) C.w E.toList f q;have r:Keeps C.I C.I C.w (C.w.setCells b (i*t.size+kk) (e y).cells.toList):=λY U=>⟨U,q0t (λ(eq:Y=b)=>(hw.own b ⟨h,_,hH,rfl,B⟩).1 (eq▸U)) _ _ _⟩;have aa:∀m,World.bsize C.w b=some m->World.bsize (C.w.setCells b (i*t.size+kk) (e y).cells.toList) b=some m:=λm hm=>by grind [World.bsize,q0r]
 have ac:Evo C {C with w:=C.w.setCells b (i*t.size+kk) (e y).cells.toList}:=⟨Ac _,λ_ _=>rfl,r,λY m hm=>by
  grind [World.bsize,q0t]⟩
 obtain ⟨g1,g2,g3⟩:=z1x (so':=.row t (xs.set i d')) hw hH rfl rfl B (C.w.setCells b (i*t.size+kk) (e y).cells.toList) (λY F=>q0t F _ _ _) (q0R _ _ _)
  aa (q1m _ _ _) (q0T _ _ _) (q0J _ _ _)
  (.inr ⟨b,_,T,fz,B,l,by grind [q0r],by grind [q0r],λj d X=>by
   by_cases G:j=i
   . subst G;rw [Bd hi] at X;cases X;have V:xs[j]?=some (xs.getD j t.dflt):=by simp_all
     obtain ⟨us,R,r2⟩:=L j _ V;have ad:=Ty.rel_size _ _ _ R;refine ⟨splice us kk (e y).cells.toList,?_,λk u O=> ?_⟩
     . refine Ty.rd_rel (C:={C with w:=C.w.setCells b (j*t.size+kk) (e y).cells.toList}) _ _ _ _ _ hr hp (q0f ac (q4o (Ty.cells_den _ _ _ R) hy))
     have Q:=(Am.1 O).1;rw [q0r (by omega)] at Q;rw [q0h l,q2o q];rw [q2o (by omega)] at O;rw [Ag];have W:=λu O=>r2 k u O;simp only [Ag] at W;rw [q0h f] at W;grind
   rw [AJ (Ne.symm G)] at X;obtain ⟨us,R,r2⟩:=L j d X;have ad:=Ty.rel_size _ _ _ R;refine ⟨us,Ty.rel_keep r _ _ _ R,λk u O=> ?_⟩;have Q:=(Am.1 O).1;have W:=r2 k u O;simp only [Ag] at W⊢;rw [q0h f] at W;rw [q0h l,q2o q];rcases Nat.lt_or_gt_of_ne G with G|G
   . have:(j+1)*t.size<=i*t.size:=AX _ G;grind
   have:(i+1)*t.size<=j*t.size:=AX _ G
   grind⟩)
 refine ⟨_,undef,_,_,hk,.inr ⟨?_,rfl⟩,g1,g2,by rw [SV.den];trivial⟩;have S:(e y).cells.size=n:=by omega
 simp [execOp,ab,hx,Instr.storeAt,Instr.sureAddr,Result.andThen,storeVar,q0k hs,S,J]

theorem z0U(f:Nat->α)(s:Nat)(hf:∀j,f (s+j)=f j):∀n,(List.range ((n+1)*s)).map f=(List.range s).map f++(List.range (n*s)).map f:=by simp_all [Nat.add_mul,Br,List.range_add]
theorem q5n{I:Nat->Prop}{w:World}{d:t.den}{m:List Value}(f:Nat->Value)(q:(List.range t.size).map f=m)(l:∀j,f (t.size+j)=f j)(b:t.rel I w d m):∀n,relL I w t (List.replicate n d) ((List.range (n*t.size)).map f)
 |0=>by simp [relL]
 |n+1=>by rw [z0U f t.size l,q,List.replicate_succ];exact ⟨_,_,rfl,b,q5n f q l b n⟩

def Ty.isZero:Ty->List Value->Bool
 |.u8,[.int .u8 n]=>n==0
 |.int k,[.int k' n]=>k==k'&& n==0
 |.bool,[.bool b]=> !b
 |.str,[.string s]=>s.size==0
 |.slice _,[.slice none 0 0]=>true
 |.prod a b,vs=>a.isZero (vs.take a.size) && b.isZero (vs.drop a.size)
 |.unit,[]=>true
 |.ptr _,[.pointer none]=>true
 |.arr n t,vs=>vs.length==n&& decide (t.size=1) && vs.all λv=>t.isZero [v]
 |_,_=>false
theorem Ty.isZero_rel{I:Nat->Prop}{w:World}:∀ {t:Ty} {vs:List Value},t.isZero vs=true->t.rel I w t.dflt vs
 |.prod a b,vs,h=>by simp only [Ty.isZero,Ak] at h;exact ⟨_,_,(AA a.size vs).symm,isZero_rel h.1,isZero_rel h.2⟩
 |.u8,vs,h=>by
  unfold Ty.isZero at h;split at h<;>first| (cases h;done) |skip
  all_goals simp_all [Ty.rel,Ty.dflt]
 |.int k,vs,h=>by unfold Ty.isZero at h;grind [Ty.rel,Ty.dflt]
 |.bool,vs,h=>by unfold Ty.isZero at h;grind [Ty.rel,Ty.dflt]
 |.str,vs,h=>by
  unfold Ty.isZero at h;split at h<;>first| (cases h;done) |skip
  all_goals simp_all [Ty.rel,Ty.dflt]
 |.slice t,vs,h=>by
  unfold Ty.isZero at h;split at h<;>first| (cases h;done) |skip
  all_goals simp_all [Ty.rel,Ty.dflt]
  grind
 |.unit,vs,h=>by grind [Ty.isZero,Ty.rel]
 |.arr n t,vs,h=>by
  simp only [Ty.isZero,Ak,beq_iff_eq,decide_eq_true_eq,Bj] at h;obtain ⟨⟨l,_⟩,m⟩:=h;refine ⟨by simp [Ty.dflt],vs.map λv=>[v],?_,by simp [Ty.dflt,l],λi x us q d=> ?_⟩
  . clear l m;induction vs with
    |nil=>rfl
    |cons v vs ih=>grind
  simp only [Ty.dflt] at q;obtain ⟨hi,rfl⟩:=Am.1 q;rw [AF] at d;rw [List.getElem_replicate];cases j:vs[i]? with
  |none=>simp_all
  |some v=>simp [j] at d;subst d;exact isZero_rel (m v (BL j))
 |.ptr t,vs,h=>by unfold Ty.isZero at h;grind [Ty.rel,Ty.dflt]
 |.clo f t,vs,h=>by simp [Ty.isZero] at h
 |.clp f t,vs,h=>by simp [Ty.isZero] at h
 |.mbs t,vs,h=>by simp [Ty.isZero] at h

variable {i:TypeInfo}{z:Value}
theorem q9o{T e:TypeId}{y:Operand}{G N:IntKind}{n c:Int}(q:o.op= .makeSlice T x y)(R:P.underlying T=some (.slice e))(hi:P.info? e=some i)(X:i.zero=some z)(u:i.size=t.size)(E:z.cells.size=t.size)(hpos:0<t.size)
 (hx:ev x= .raw (.int G n))(Z:ev y= .raw (.int N c))(S:0<=n)(B:n<=c)(hc:c.toNat*i.bytes<=140737488355328)(hc2:c<=1125899906842624)(Q:t.isZero z.cells.toList=true)
 (U:K (.ret (.bld H.length t n.toNat)) (H++ [.row t (List.replicate n.toNat t.dflt)])):OpV P o ev H K:=by
 refine q0L (by simp_all) λC e' Y O=> ?_;have L:=O x (by grind [Op.operands]);have J:=O y (by grind [Op.operands]);rw [hx,SV.den] at L;rw [Z,SV.den] at J
 let f:Nat->Value:=λj=>z.cells[j%z.cells.size]!
 have r:(List.range t.size).map f=z.cells.toList:=by apply Aq;all_goals grind [Nat.mod_eq_of_lt]
 have F:∀j,f (t.size+j)=f j:=λj=>by simp only [f,E];simp_all
 have b:(List.range (c.toNat*t.size)).map f=(List.range (n.toNat*t.size)).map f++((List.range ((c.toNat-n.toNat)*t.size)).map (n.toNat*t.size+ ·)).map f:=by rw [<-Bn,<-List.range_add,<-Nat.add_mul];grind
 have hr:=q5n (I:=C.I) (w:=C.w) f r F (Ty.isZero_rel Q) n.toNat
 obtain ⟨V,q2,W⟩:=q3E (T:=e) (rest:=((List.range ((c.toNat-n.toNat)*t.size)).map (n.toNat*t.size+ ·)).map f) Y (n:=n.toNat) (c:=c.toNat) hr (by simp) (by omega) (by
  grind [List.length_map])
 refine ⟨_,_,_,_,U,.inl ?_,V,q2,W⟩;have m:(i.bytes:Int)*c<=281474976710656:=by grind
 have l:madeCells z.cells (c.toNat*i.size)=((List.range (n.toNat*t.size)).map f++((List.range ((c.toNat-n.toNat)*t.size)).map (n.toNat*t.size+ ·)).map f).toArray:=by rw [<-b,u];apply Array.ext';simp [madeCells,f]
 have d:=run_make C.w T e i z R hi X G N n c S B m (by omega);rw [l] at d;simp only [execOp,q,Sem.run_bind,L,J,d,Result.andThen,Sem.run_pure];rfl

variable {C:Cx}{c:Nat}
theorem j0d(b:Wd C H){vs rest:List Value}{T:TypeId}{n:Nat}{fz:Nat×Nat}(f:relL C.I C.w t xs vs)(d:n<=c)(hc:c*t.size<=vs.length+rest.length)(hfz:∀i,i< (vs++rest).length->¬(fz.1<=i/\i<fz.2)):
 Wd (C.grow (.cells (vs++rest).toArray T fz)) (H++ [.row t xs])/\Ext ⟨C,H⟩ (C.grow (.cells (vs++rest).toArray T fz)) (H++ [.row t xs])/\
  (SV.bld H.length t n).den (C.grow (.cells (vs++rest).toArray T fz)) (.slice (some ⟨C.w.heap.size,0,none⟩) n c):=by
 have r:=q6w b.imm (.cells (vs++rest).toArray T fz);have y:=q0N f
 obtain ⟨q,m⟩:=q5A b (.cells (vs++rest).toArray T fz) (.row t xs) (by
  refine .inr ⟨C.w.heap.size,(vs++rest).toArray,T,fz,by simp [Cx.grow],q1q _ _,by omega,by simp [<-y],?_⟩;refine q3R (q2Z r.I f) λj u l=> ?_;have:(C.grow (.cells (vs++rest).toArray T fz)).w.heap[C.w.heap.size]?=some (.cells (vs++rest).toArray T fz):=q1q _ _;rw [Ag,q0h this,As (Am.1 l).1]
  exact l)
 refine ⟨q,m,?_⟩;rw [SV.den];refine ⟨by simp [Cx.grow,b.n],.inr ⟨C.w.heap.size,c,(vs++rest).length,by simp [Cx.grow,b.n],rfl,d,?_,by grind⟩⟩;unfold World.bsize;rw [show (C.grow (.cells (vs++rest).toArray T fz)).w.heap[C.w.heap.size]?=some (.cells (vs++rest).toArray T fz) from q1q _ _];simp

theorem z1S{d dst e:TypeId}{s:ByteArray}(m:o.op= .convert d dst x)(J:P.underlying d=some .string)(r:P.underlying dst=some (.slice e))(E:P.underlying e=some (.int .u8))(N:ev x= .raw (.string s))
 (y:K (.ret (.bld H.length .u8 s.size)) (H++ [.row .u8 (bytesOf s)])):OpV P o ev H K:=by
 refine q0L (by simp_all) λC e' u B=> ?_;have q:=B x (by grind [Op.operands]);rw [N,SV.den] at q;have f:=run_bytes_of_string (P:=P) C.w d dst e s J r E;have l:s.size<=grownCap C.w s.size 0 e:=by simp [grownCap,Question.cut]
 have j:bytesRow s (grownCap C.w s.size 0 e)=((bytesOf s).map (λb:UInt8=>Value.int .u8 b.toNat)++List.replicate (grownCap C.w s.size 0 e-s.size) (Value.int .u8 0)).toArray:=by grind [bytesRow,bytesOf]
 have hbl:(bytesOf s).length=s.size:=Be;obtain ⟨F,L,G⟩:=j0d (t:=.u8) (T:=e) (H:=H) (fz:=((bytesRow s (grownCap C.w s.size 0 e)).size,(bytesRow s (grownCap C.w s.size 0 e)).size+1)) (rest:=List.replicate (grownCap C.w s.size 0 e-s.size) (Value.int .u8 0)) (q2e u) (n:=s.size) (c:=grownCap C.w s.size 0 e)
  (q4a C.drew.I C.drew.w (bytesOf s)) l (by grind [Ty.size]) (by
   grind)
 refine ⟨_,_,_,_,y,.inl ?_,F,(q1r C H).trans L,G⟩;simp only [execOp,m,q,Sem.run_bind,f,Result.andThen,Sem.run_pure];rw [<-j];rfl

theorem j4Q:SV.le (.fsl t xs) (.isl t xs):=λC v h=>by grind [SV.den]
def SV.wk:SV->SV
 |.fsl t xs=>.isl t xs
 |s=>s
def j0J(s:SV):SV.le s s.wk:=by cases s<;>first|exact SV.le_refl _|exact j4Q

theorem z6t(f:Wd C H){vs rest:List Value}{T:TypeId}(J:relL C.I C.w t xs vs)(G:xs.length<=c)(l:xs.length<=1125899906842624):
 ∃C',C'.w=C.w.alloc (.cells (vs++rest).toArray T)/\Wd C' H/\Ext ⟨C,H⟩ C' H/\(SV.isl t xs).den C' (.slice (some ⟨C.w.heap.size,0,none⟩) xs.length c):=by
 let D:Cx:={C with I:=λb=>C.I b\/b=C.w.heap.size,w:=C.w.alloc (.cells (vs++rest).toArray T)}
 have hsz:D.w.heap.size=C.w.heap.size+1:=by show (C.w.heap.push _).size=_;simp
 have y:Keeps C.I D.I C.w D.w:=λb d=>⟨.inl d,q1p _ _ (f.imm b d)⟩
 have r:Evo C D:=⟨Ac _,λ_ _=>rfl,y,λb m hm=>by
  grind [World.bsize,q1p]⟩
 have q:D.w.heap[C.w.heap.size]?=some (.cells (vs++rest).toArray T):=q1q _ _;refine ⟨D,rfl,⟨f.n,λh o B=> ?_,λb d=> ?_,f.inj,?_⟩,⟨r,by simp_all,rfl,rfl,rfl,λb d _=>q1p _ _ d,?_,λb d=>.inr d,λ_ _ h=>h⟩,?_⟩
 . by_cases E:o.live=true
   . exact q0z (C':=D) y h rfl (λb d=>q1p _ _ (f.own b ⟨h,o,B,E,d⟩).2) (q0f r) (f.obj h o B)
   cases o<;>first|trivial|simp [SObj.live] at E
 . have:=f.own b d;grind
 . rintro b (d|rfl)
   . have:=f.imm b d;omega
   omega
 . rintro b (d|rfl)
   . exact .inl d
   exact .inr ⟨.inl (Ac _),λc T fz G=>by grind⟩
 rw [SV.den];refine ⟨_,_,_,rfl,rfl,G,l,.inr ⟨C.w.heap.size,0,rfl,.inr rfl,?_⟩⟩;refine q3R (q2Z y J) λj u F=> ?_;rw [Ag,q0h q,As (Am.1 F).1];exact F

variable {w:World}{A:Option Addr}{bb:Bool}
def q7Z{tS tX e:TypeId}{n:Nat}{xv:Value}(m:P.underlying tS=some (.slice e))(l:srcType P tX=some bb)(q:P.info? e=some i)(b:(Builtin.lenOf xv).run P w= .ok 0 w)(f:n<=c)
 (j:(Builtin.firstCells i.size 0 xv).run P w= .ok #[] w):
 (Builtin.append_ #[tS,tX] ty #[.slice A n c,xv]).run P w= .ok (.slice A n c) w:=by
 rcases q2i l with ⟨e',d⟩ |d<;>clear l<;>have d:=run_underlying' d
 all_goals cases A<;>simp [Builtin.append_,run_underlying' m,sizeOf,typeInfo,q,d,b,j,f,storeCells]

theorem q8k{c:Call}{y:Operand}{tS tX e:TypeId}{ys:List t.den}{p:Prop}(hop:o.op= .call c)(hc:c.callee= .builtin .append)(ha:c.args= #[x,y])(hty:c.argTypes= #[tS,tX])
 (W:P.underlying tS=some (.slice e))(hx:srcType P tX=some bb)(hi:P.info? e=some i)(G:i.size=t.size)(hz:i.zero=some z)
 (E:ev x= .fsl t xs)(q:srcS t H (ev y)=some (ys,p))(Y:p)
 (h63:xs.length+ys.length<=1125899906842624)(hb:(xs.length+ys.length)*i.bytes<=140737488355328)
 (hk:K (.ret (.isl t (xs++ys))) H):OpV P o ev H K:=by
 refine q0L (by simp_all) λC F L hv=> ?_;have J:=hv x (by grind [Op.operands,Call.operands]);have X:=hv y (by grind [Op.operands,Call.operands]);rw [E,SV.den] at J;obtain ⟨J,A,u⟩:=J;obtain ⟨news,hr,l,R⟩:=z3C L X q Y;obtain ⟨news',N,hlen',f⟩:=z3C (q2e L) (q0Y (q1U C) X) q Y;rw [<-G] at R f;have fin:∀r C',(Builtin.append_ #[tS,tX] o.type #[F x,F y]).run P C.w= .ok r C'.w->Wd C' H->Ext ⟨C,H⟩ C' H->(SV.isl t (xs++ys)).den C' r->
  ∃s v H' C',K (.ret s) H'/\((execOp F o).run P C.w= .ok (.value v) C'.w\/((execOp F o).run P C.w= .ok .skip C'.w/\v=undef))/\Wd C' H'/\Ext ⟨C,H⟩ C' H'/\s.den C' v:=λr C' m Q O V=>
  ⟨_,r,_,C',hk,.inl (by simp_all [execOp,resolve,invoke,builtin]),Q,O,V⟩
 by_cases hy:ys.length=0
 . obtain rfl:ys= []:=Bs hy;obtain rfl:news= []:=by cases hr;rfl
   refine fin (F x) C ?_ L (Ext.refl _ _) ?_
   . rw [u];exact q7Z W hx hi l (Ac _) (by omega)
   grind [SV.den]
 obtain ⟨vs,v1,Z⟩:∃vs,relL C.drew.I C.drew.w t xs vs/\(Builtin.firstCells t.size xs.length (.slice A xs.length xs.length)).run P C.drew.w= .ok vs.toArray C.drew.w:=by
  refine q1n (P:=P) (C:=C.drew) (A:=A) (c:=xs.length) (ys:=xs) ?_;obtain ⟨A',n,c',S,hn,_,_,B⟩:=J;rw [u] at S;simp only [List.cons.injEq,Value.slice.injEq,and_true] at S;obtain ⟨rfl,_,_⟩:=S;rcases B with B| ⟨b,off,rfl,_,B⟩
  . exact .inl B
  refine .inr ⟨b,off,rfl,λj d hj=> ?_⟩;obtain ⟨us,a1,a2⟩:=B j d hj;exact ⟨us,Ty.rel_keep (q1U C).I _ _ _ a1,a2⟩
 rw [<-G] at Z;obtain ⟨cap,hcap,m⟩:=q3w (P:=P) (w:=C.w) (ty:=o.type) W hx hi hz l (sLen:=xs.length) (sCap:=xs.length) (by omega) (by omega) hb Z f;obtain ⟨C',U,Q,O,V⟩:=z6t (T:=e) (rest:=(Builtin.zeroCells z.cells (cap- (xs.length+ys.length))).toList) (q2e L) (q1R v1 N) (c:=cap) (by simp_all) (by simp_all);refine fin _ C' ?_ Q ((q1r C H).trans O) V;rw [u,m,U];simp only [Ab];rfl

variable {kk:IntKind}
def q5o{tS tX e:TypeId}(f:P.underlying tS=some (.slice e))(l:P.underlying tX=some (.int kk))(j:P.info? e=some i):
 (Builtin.append_ #[tS,tX] ty #[.slice A c c,.int .i64 0]).run P w= .ok (.slice A c c) w:=by
 have d:=run_underlying' l;have b:IntKind.i64.wrap 0=0:=by decide
 cases A<;>simp [Builtin.append_,run_underlying' f,sizeOf,typeInfo,j,d,asInt,asIntOf,b,storeCells]

theorem q6n{tS tX e:TypeId}{base:Option Addr}{d:List Value}{sLen sCap n:Nat}(F:P.underlying tS=some (.slice e))(N:P.underlying tX=some (.int kk))(L:P.info? e=some i)(J:i.zero=some z)
 (hpos:0<n*i.size)(b:sCap<sLen+n)(h63:sLen+n<=1125899906842624)(G:(sLen+n)*i.bytes<=140737488355328)
 (f:(Builtin.firstCells i.size sLen (.slice base sLen sCap)).run P w.drew= .ok d.toArray w.drew):
 ∃cap,sLen+n<=cap/\(Builtin.append_ #[tS,tX] ty #[.slice base sLen sCap,.int .i64 n]).run P w= .ok (.slice (some ⟨w.heap.size,0,none⟩) (sLen+n) cap) (w.drew.alloc (.cells (d++(Builtin.zeroCells z.cells n).toList++(Builtin.zeroCells z.cells (cap- (sLen+n))).toList).toArray e)):=by
 refine ⟨(Question.appendCap (sLen+n) sCap e).cut (w.tape w.drawn (.appendCap (sLen+n) sCap e)),by simp [Question.cut],?_⟩;have hfit:=growslice_fits b G;have r:¬(sLen+n<=sCap):=by omega
 have m:¬((9223372036854775807:Int) < (sLen:Int)+ (n:Int)):=by omega
 have u:¬(281474976710656<Builtin.nextslicecap (sLen+n) sCap*i.bytes):=by omega
 have j:IntKind.i64.max=9223372036854775807:=by decide
 have B:IntKind.i64.wrap (n:Int)=n:=IntWalk.i64_in n (by omega);have q:¬((n:Int) <0):=by omega
 have l:¬((281474976710656:Int) < (n:Int)* (i.bytes:Int)):=by grind
 have y:¬(n*i.size=0):=by omega
 have E:=run_underlying' N;simp [Builtin.append_,run_underlying' F,sizeOf,typeInfo,L,E,asInt,asIntOf,B,q,l,r,j,m,u,Question.forced,f,zeroValue,J,newRow];rw [if_neg y];congr 2
 simp_all

theorem j1R{c:Call}{y:Operand}{tS tX e:TypeId}{m:Int}(hop:o.op= .call c)(hc:c.callee= .builtin .append)(ha:c.args= #[x,y])(hty:c.argTypes= #[tS,tX])
 (ht:P.underlying tS=some (.slice e))(hx:P.underlying tX=some (.int kk))(hi:P.info? e=some i)(Q:i.size=t.size)(hz:i.zero=some z)(F:z.cells.size=t.size)(hpos:0<t.size)(q:t.isZero z.cells.toList=true)
 (u:ev x= .fsl t xs)(G:ev y= .raw (.int .i64 m))(h0:0<=m)
 (B:xs.length+m.toNat<=1125899906842624)(Z:(xs.length+m.toNat)*i.bytes<=140737488355328)
 (hk:K (.ret (.isl t (xs++List.replicate m.toNat t.dflt))) H):OpV P o ev H K:=by
 refine q0L (by simp_all) λC L hw hv=> ?_;have J:=hv x (by grind [Op.operands,Call.operands]);have Y:=hv y (by grind [Op.operands,Call.operands]);rw [u,SV.den] at J;rw [G,SV.den] at Y;obtain ⟨J,A,E⟩:=J;obtain ⟨n,rfl⟩:∃n:Nat,m=n:=⟨m.toNat,(Int.toNat_of_nonneg h0).symm⟩;rw [Av] at B Z hk;have fin:∀r C',(Builtin.append_ #[tS,tX] o.type #[L x,L y]).run P C.w= .ok r C'.w->Wd C' H->Ext ⟨C,H⟩ C' H->(SV.isl t (xs++List.replicate n t.dflt)).den C' r->
  ∃s v H' C',K (.ret s) H'/\((execOp L o).run P C.w= .ok (.value v) C'.w\/((execOp L o).run P C.w= .ok .skip C'.w/\v=undef))/\Wd C' H'/\Ext ⟨C,H⟩ C' H'/\s.den C' v:=λr C' l R N X=>
  ⟨_,r,_,C',hk,.inl (by simp_all [execOp,resolve,invoke,builtin]),R,N,X⟩
 by_cases hy:n=0
 . simp_all [Ext.refl,q5o,SV.den]
 obtain ⟨vs,v1,v2⟩:∃vs,relL C.drew.I C.drew.w t xs vs/\(Builtin.firstCells t.size xs.length (.slice A xs.length xs.length)).run P C.drew.w= .ok vs.toArray C.drew.w:=by
  refine q1n (P:=P) (C:=C.drew) (A:=A) (c:=xs.length) (ys:=xs) ?_;obtain ⟨A',n',c',U,hn,_,_,q⟩:=J;rw [E] at U;simp only [List.cons.injEq,Value.slice.injEq,and_true] at U;obtain ⟨rfl,_,_⟩:=U;rcases q with q| ⟨b,off,rfl,_,q⟩
  . exact .inl q
  refine .inr ⟨b,off,rfl,λj d hj=> ?_⟩;obtain ⟨us,a1,a2⟩:=q j d hj;exact ⟨us,Ty.rel_keep (q1U C).I _ _ _ a1,a2⟩
 rw [<-Q] at v2
 let f:Nat->Value:=λj=>z.cells[j%z.cells.size]!
 have O:(List.range t.size).map f=z.cells.toList:=by apply Aq;all_goals grind [Nat.mod_eq_of_lt]
 have V:∀j,f (t.size+j)=f j:=λj=>by simp only [f,F];simp_all
 have hr:=q5n (I:=C.drew.I) (w:=C.drew.w) f O V (Ty.isZero_rel q) n;have S:(Builtin.zeroCells z.cells n).toList=(List.range (n*t.size)).map f:=by simp [Builtin.zeroCells,f,F]
 rw [<-S] at hr;obtain ⟨cap,hcap,l⟩:=q6n (P:=P) (w:=C.w) (ty:=o.type) (base:=A) ht hx hi hz (sLen:=xs.length) (sCap:=xs.length) (n:=n) (Nat.mul_pos (by omega) (by omega)) (by omega) B Z v2;obtain ⟨C',W,R,N,X⟩:=z6t (T:=e) (rest:=(Builtin.zeroCells z.cells (cap- (xs.length+n))).toList) (q2e hw) (q1R v1 hr) (c:=cap) (by simp_all) (by simp_all);refine fin _ C' ?_ R ((q1r C H).trans N) X;rw [E,Y,l,W];simp only [Ab,BG];rfl

variable {lo:Option Operand}{a:Option Int}
theorem q3O{e:Operand->Value}{f d:Operand}{b m:Int}{isS:Bool}{len cap:Nat}(j:∀x∈lo,(ev x).den C (e x))(r:(ev f).den C (e f))(q:(ev d).den C (e d))
 (l:bndV ev lo=some a)(y:bndV ev (some f)=some (some b))(F:bndV ev (some d)=some (some m))(w:World)(E:0<=loOf a)(g1:loOf a<=b)(g2:b<=m)(g3:m<=(cap:Int)):
 (Instr.sliceBounds isS len cap (lo.map e) (some (e f)) (some (e d))).run P w= .ok ((loOf a).toNat,b.toNat,m.toNat) w:=by
 have u:=q5R (P:=P) q F cap (if isS then .slice3Acap else .slice3Alen) w (by omega) (by omega);have B:=q5R (P:=P) r y m.toNat (.slice3B) w (by omega) (by omega);cases lo with
 |none=>simp only [bndV,Option.some.injEq] at l;subst l;simp [Instr.sliceBounds,loOf,u,B]
 |some x=>
  cases a with
  |none=>grind [bndV]
  |some n=>
   simp only [loOf] at*;have:=q5R (P:=P) (j x rfl) l b.toNat (.slice3C) w E (by omega)
   simp_all [Instr.sliceBounds]

def fullS(f:Bool):SV->SV
 |.isl t xs=>if f then .fsl t xs else .isl t xs
 |s=>s
theorem z5D{T:TypeId}{V S:Operand}{b m:Int}{s:SV}{f:Bool}(X:o.op= .slice T x lo (some V) (some S))(d:sliceKind P T (ev x)=true)(h1:bndV ev lo=some a)(W:bndV ev (some V)=some (some b))(h3:bndV ev (some S)=some (some m))
 (Z:0<=loOf a)(g1:loOf a<=b)(Y:b<=m)(g3:m<=(lenOfS (ev x):Int))(hf:f=true->b=m)(hne:∀str,ev x≠ .raw (.string str))(J:sliceTo (loOf a).toNat b.toNat (ev x)=some s)(hk:K (.ret (fullS f s)) H):OpV P o ev H K:=by
 refine q0m (by simp_all) (s:=fullS f s) (λC e _ hv=> ?_) hk;rw [X] at hv;have B:=hv x (by simp [Op.operands]);have G:∀y∈lo,(ev y).den C (e y):=λy hy=>hv y (by simp_all [Op.operands]);have F:(ev V).den C (e V):=hv V (by simp [Op.operands]);have E:(ev S).den C (e S):=hv S (by simp [Op.operands]);have j:∀r:Value,(Instr.sliceAt T (e x) (lo.map e) (some (e V)) (some (e S))).run P C.w= .ok r C.w->(execOp e o).run P C.w= .ok (.value r) C.w:=λr hr=>by simp [execOp,X,hr]
 generalize hsx:ev x=sx at*;unfold sliceKind at d;split at d
 . simp_all
 . rename_i ty xs;obtain ⟨el,Q,u⟩:=q1Z d;simp only [sliceTo,Option.some.injEq] at J;subst J;simp only [lenOfS] at*;rw [SV.den] at B;obtain ⟨A,n,c,O,R,hc,hlim,N⟩:=B;simp only [List.cons.injEq,and_true] at O;subst R;have L:=q3O (P:=P) (C:=C) (e:=e) (isS:=true) (len:=xs.length) (cap:=c) G F E h1 W h3 C.w Z g1 Y (by omega);have aa:(SV.isl ty ((xs.take b.toNat).drop (loOf a).toNat)).den C (.slice (if m.toNat=(loOf a).toNat then A else A.map (·.add ((loOf a).toNat*ty.size))) (b.toNat- (loOf a).toNat) (m.toNat- (loOf a).toNat)):=by
    rw [SV.den];refine ⟨_,_,_,rfl,by simp;omega,by omega,by omega,?_⟩;by_cases U:b.toNat- (loOf a).toNat=0
    . grind
    rcases N with rfl| ⟨q,off,rfl,hI,N⟩
    . simp_all
    refine .inr ⟨q,off+ (loOf a).toNat*ty.size,?_,hI,λi x B=> ?_⟩
    . rw [if_neg (by omega)];simp [q0H]
    grind
   refine ⟨.slice (if m.toNat=(loOf a).toNat then A else A.map (·.add ((loOf a).toNat*ty.size))) (b.toNat- (loOf a).toNat) (m.toNat- (loOf a).toNat),j _ (by simp [Instr.sliceAt,run_underlying' Q,Instr.slice,O,L,q0k u]),?_⟩;cases f with
   |false=>exact aa
   |true=>
    have hbm:=hf rfl
    simp_all [fullS,SV.den]
 . rename_i h ty n;obtain ⟨el,Q,u⟩:=q1Z d;simp only [sliceTo,Option.some.injEq] at J;subst J;simp only [lenOfS] at*;have B:=q5U B;rw [SV.den] at B;obtain ⟨R,A,c,O,hc,N⟩:=B;have L:=q3O (P:=P) (C:=C) (e:=e) (isS:=true) (len:=n) (cap:=c) G F E h1 W h3 C.w Z g1 Y (by omega);refine ⟨.slice (if m.toNat=(loOf a).toNat then A else A.map (·.add ((loOf a).toNat*ty.size))) (b.toNat- (loOf a).toNat) (m.toNat- (loOf a).toNat),j _ ?_,?_⟩
   . simp [Instr.sliceAt,run_underlying' Q,Instr.slice,O,L,q0k u]
   simp only [fullS];rw [SV.den];refine ⟨R,_,_,rfl,by omega,?_⟩;by_cases U:b.toNat- (loOf a).toNat=0
   . exact .inl U
   rcases N with h0| ⟨q,l,rfl⟩
   . omega
   refine .inr ⟨q,l,?_⟩;rw [if_neg (by omega)];simp [q0H]
 . rename_i h ty off n;obtain ⟨el,Q,u⟩:=q1Z d;simp only [sliceTo,Option.some.injEq] at J;subst J;simp only [lenOfS] at*;rw [SV.den] at B;obtain ⟨R,A,c,O,hc,N⟩:=B;have L:=q3O (P:=P) (C:=C) (e:=e) (isS:=true) (len:=n) (cap:=c) G F E h1 W h3 C.w Z g1 Y (by omega);refine ⟨.slice (if m.toNat=(loOf a).toNat then A else A.map (·.add ((loOf a).toNat*ty.size))) (b.toNat- (loOf a).toNat) (m.toNat- (loOf a).toNat),j _ ?_,?_⟩
   . simp [Instr.sliceAt,run_underlying' Q,Instr.slice,O,L,q0k u]
   simp only [fullS];rw [SV.den];refine ⟨R,_,_,rfl,by omega,?_⟩;by_cases U:b.toNat- (loOf a).toNat=0
   . exact .inl U
   rcases N with h0| ⟨q,l,rfl⟩
   . omega
   refine .inr ⟨q,l,?_⟩;rw [if_neg (by omega)];grind [q0H]
 . split at d
   . rename_i el Q;simp only [sliceTo,Option.some.injEq] at J;subst J;simp only [lenOfS] at*;rw [SV.den] at B;have L:=q3O (P:=P) (C:=C) (e:=e) (isS:=true) (len:=0) (cap:=0) G F E h1 W h3 C.w Z g1 Y g3;have e1:(loOf a).toNat=0:=by omega
     have e2:b.toNat=0:=by omega
     have e3:m.toNat=0:=by omega
     rw [e1,e2,e3] at L;obtain ⟨i,hi'⟩:=B4.1 d
     simp_all [fullS,SV.den,Instr.sliceAt,run_underlying',Instr.slice,sizeOf,typeInfo]
   cases d
 . rename_i h ty k0 off n;obtain ⟨el,Q,u⟩:=q1Z d;simp only [sliceTo,Option.some.injEq] at J;subst J;simp only [lenOfS] at*;rw [SV.den] at B;obtain ⟨R,A,c,O,hc,N⟩:=B;have L:=q3O (P:=P) (C:=C) (e:=e) (isS:=true) (len:=n) (cap:=c) G F E h1 W h3 C.w Z g1 Y (by omega);refine ⟨.slice (if m.toNat=(loOf a).toNat then A else A.map (·.add ((loOf a).toNat*ty.size))) (b.toNat- (loOf a).toNat) (m.toNat- (loOf a).toNat),j _ ?_,?_⟩
   . simp [Instr.sliceAt,run_underlying' Q,Instr.slice,O,L,q0k u]
   simp only [fullS];rw [SV.den];refine ⟨R,_,_,rfl,by omega,?_⟩;by_cases U:b.toNat- (loOf a).toNat=0
   . exact .inl U
   rcases N with h0| ⟨q,l,rfl⟩
   . omega
   refine .inr ⟨q,l,?_⟩;rw [if_neg (by omega)];grind [q0H]
 cases d
end
section
open Go

variable [Ghost] {P:Program} {o:Oper} {ev:Operand->SV} {H:List SObj} {K:Out->List SObj->Prop}

def plainK(P:Program)(t:TypeId):Option Nat:=match P.underlying t with
 |some (.int _)=>some 0
 |some .string=>some 1
 |some .bool=>some 2
 |_=>none
def flatK(P:Program):List Field->Nat->Option (List Nat)
 | [],_=>some []
 |f :: fs,i=>match plainK P f.type,flatK P fs (i+1) with
  |some k,some ks=>if f.name≠ "_" /\f.offset=i/\aggOf P f.type=some none then some (k :: ks) else none
  |_,_=>none
def structK(P:Program)(t:TypeId):Option (List Nat):=match P.underlying t with
 |some (.struct fs)=>if P.stoodInHeld t=false/\P.eqGuardType P.depth t=false then flatK P fs.toList 0 else none
 |_=>none
def eqR:Nat->SV->SV->Option Bool
 |0,.raw (.int k a),.raw (.int k' b)=>if k=k' then some (decide (a=b)) else none
 |1,.raw (.string a),.raw (.string b)=>some (decide (a=b))
 |2,.raw (.bool a),.raw (.bool b)=>some (decide (a=b))
 |_,_,_=>none
def eqRs:List Nat->List SV->List SV->Option Bool
 | [],[],[]=>some true
 |k :: ks,a :: l,b :: l'=>match eqR k a b,eqRs ks l l' with
  |some r,some s=>some (r&& s)
  |_,_=>none
 |_,_,_=>none

variable {C:Cx}{t:TypeId}{v:Value}
theorem j6x{k d:Nat}{a b:SV}{u:Value}{r:Bool}(f:plainK P t=some k)(h:eqR k a b=some r)(ha:a.den C u)(hb:b.den C v)(w:World):(Op.equalIn (d+1) t u v).run P w= .ok r w:=by unfold plainK at f;unfold eqR at h;grind [SV.den,run_equalIn_int,run_equalIn_string,q9p,run_equalIn_bool']

theorem q6Q{pre vs:List Value}(h:aggOf P t=some none)(w:World):(part t (pre++v :: vs).toArray pre.length).run P w= .ok v w:=by simp [part,q2x h]

theorem q6l{C:Cx}{d:Nat}(w:World):∀ (q:List Field) (i:Nat) (ks:List Nat) (l m:List SV) (vs us pre j:List Value) (r:Bool),flatK P q i=some ks->eqRs ks l m=some r->SV.denL C l vs->SV.denL C m us->pre.length=i->j.length=i->
 (Op.eqFields (d+1) (pre++vs).toArray (j++us).toArray q).run P w= .ok r w
 | [],i,ks,l,m,vs,us,pre,j,r,hf,he,hl,hl',h1,h2=>by
  cases hf;cases l with
  |nil=>
   cases m with
   |nil=>cases he;rfl
   |cons _ _=>simp [eqRs] at he
  |cons _ _=>grind [eqRs]
 |f :: q,i,ks,l,m,vs,us,pre,j,r,hf,he,hl,hl',h1,h2=>by
  unfold flatK at hf;split at hf
  . rename_i k y S B;split at hf
    . rename_i Y;cases hf;obtain ⟨V,ho,ha⟩:=Y;cases l with
      |nil=>grind [eqRs]
      |cons a l=>
       cases m with
       |nil=>simp [eqRs] at he
       |cons b m=>
        obtain ⟨v,vs,rfl,Q,R⟩:=q0c.1 hl;obtain ⟨u,us,rfl,L,G⟩:=q0c.1 hl';simp only [eqRs] at he;split at he
        . rename_i O W F E;cases he;have X:=q6l (d:=d) w q (i+1) y l m vs us (pre++ [v]) (j++ [u]) W B E R G (by simp [h1]) (by simp [h2]);rw [List.append_assoc,List.append_assoc,List.singleton_append,List.singleton_append] at X;have U:(part f.type (pre++v :: vs).toArray f.offset).run P w= .ok v w:=by grind [q6Q]
          have N:(part f.type (j++u :: us).toArray f.offset).run P w= .ok u w:=by grind [q6Q]
          have J:=j6x (d:=d) S F Q L w;simp only [Op.eqFields];rw [if_pos V];simp only [Sem.run_bind,U,N,J,Result.andThen_ok,Sem.run_ite];cases O;all_goals simp_all
        cases he
    cases hf
  cases hf

variable {op:BinOp}{x:Operand}
theorem z7O{t':TypeId}{y:Operand}{ks:List Nat}{l u:List SV}{r:Bool}(hop:o.op= .binOp op t x y t')(J:op= .eql\/op= .neq)(b:structK P t=some ks)(Q:ev x= .agg l)(N:ev y= .agg u)(h:eqRs ks l u=some r)
 (G:K (.ret (.raw (.bool (if op= .eql then r else !r)))) H):OpV P o ev H K:=by
 refine q0m (by simp_all) (λC e _ E=> ?_) G;have f:=E x (by grind [Op.operands]);have j:=E y (by grind [Op.operands]);rw [Q,SV.den] at f;rw [N,SV.den] at j;obtain ⟨vs,f,L⟩:=f;obtain ⟨us,j,q⟩:=j;refine ⟨.bool (if op= .eql then r else !r),?_,by rw [SV.den]⟩;unfold structK at b;split at b
 . rename_i B O;split at b
   . rename_i F;have m:P.fieldsOf t=B:=by simp [Program.fieldsOf,O]
     have hr:(Op.equalIn 10000 t (.agg vs.toArray) (.agg us.toArray)).run P C.w= .ok r C.w:=by rw [show (10000:Nat)=9999+1 from rfl,run_equalIn_struct C.w 9999 t _ _ (by simp_all) F.1,m];exact q6l (d:=9998) C.w B.toList 0 ks l u vs us [] [] r b h L q rfl rfl
     have hg:=run_eqGuard_agg C.w op t x y vs.toArray us.toArray F.2;rcases J with rfl|rfl;all_goals simp_all [execOp,run_eql_struct,run_neq_struct]
   cases b
 cases b

def kSlice(P:Program)(t:TypeId):Bool:=match P.underlying t with|some (.slice _)=>true|_=>false
theorem z8N(h:kSlice P t=true):∃e,P.underlying t=some (.slice e):=by grind [kSlice]
def SV.emp:SV->Option Prop
 |.isl _ xs=>some (xs= [])
 |.bld _ _ n=>some (n=0)
 |.osl _ _ _ n=>some (n=0)
 |.raw (.slice A _ _)=>some (A=none)
 |_=>none
theorem j4a{s:SV}{E:Prop}(h:s.emp=some E)(b:s.den C v):∃A n c,v= .slice A n c/\(A=none->E):=by
 unfold SV.emp at h;split at h<;>cases h<;>rw [SV.den] at b
 . obtain ⟨A,n,c,hv,_,_,_,hx⟩:=b;grind
 all_goals grind
def j5G{e:TypeId}(b:P.underlying t=some (.slice e))(A:Option Addr)(n c k:Nat)(w:World):(Op.equalIn (k+1) t (.slice A n c) (.slice none 0 0)).run P w= .ok A.isNone w:=by
 have:(underlying t).run P w= .ok (.slice e) w:=by simp [underlying,b]
 cases A<;>simp [Op.equalIn,this]
theorem z4u(b:kSlice P t=true)(A:Option Addr)(n c:Nat)(w:World):
 (binOp .eql t (.slice A n c) (.slice none 0 0)).run P w= .ok (.bool A.isNone) w/\(binOp .neq t (.slice A n c) (.slice none 0 0)).run P w= .ok (.bool !A.isNone) w:=by
 obtain ⟨e,d⟩:=z8N b;have hr:(Op.equal t (.slice A n c) (.slice none 0 0)).run P w= .ok A.isNone w:=j5G d A n c 9999 w
 simp_all [binOp]
theorem z4E{t':TypeId}{y:Operand}{E:Prop}(hop:o.op= .binOp op t x y t')(m:op= .eql\/op= .neq)(B:kSlice P t=true)(F:(ev x).emp=some E)(r:ev y= .raw (.slice none 0 0))
 (q:∀b:Bool,(b=true->E)->K (.ret (.raw (.bool (if op= .eql then b else !b)))) H):OpV P o ev H K:=by
 refine q0L (by simp_all) λC e j d=> ?_;have f:=d x (by grind [Op.operands]);have u:=d y (by grind [Op.operands]);rw [r,SV.den] at u;obtain ⟨A,n,c,f,l⟩:=j4a F f;obtain ⟨g1,g2⟩:=z4u B A n c C.w;have hgd:(eqGuard op t x y (.slice A n c) (.slice none 0 0)).run P C.w= .ok () C.w:=by simp_all [eqGuard]
 refine ⟨_,.bool (if op= .eql then A.isNone else !A.isNone),H,C,q A.isNone (λh=>l (by simpa using h)),.inl ?_,j,Ext.refl _ _,by rw [SV.den]⟩;rcases m with rfl|rfl;all_goals simp_all [execOp]
theorem q8J{t':TypeId}{y:Operand}(hop:o.op= .binOp op t x y t')(f:op= .eql\/op= .neq)(q:kSlice P t=true)(r:ev x= .raw (.slice none 0 0))(j:ev y= .raw (.slice none 0 0))
 (d:K (.ret (.raw (.bool (if op= .eql then true else false)))) H):OpV P o ev H K:=by
 refine q0m (by simp_all) (λC e _ b=> ?_) d;have m:=b x (by grind [Op.operands]);have l:=b y (by grind [Op.operands]);rw [r,SV.den] at m;rw [j,SV.den] at l;obtain ⟨g1,g2⟩:=z4u q none 0 0 C.w;have hgd:(eqGuard op t x y (.slice none 0 0) (.slice none 0 0)).run P C.w= .ok () C.w:=by simp_all [eqGuard]
 refine ⟨.bool (if op= .eql then true else false),?_,by rw [SV.den]⟩;rcases f with rfl|rfl;all_goals simp_all [execOp]
theorem j2V{s:SV}{b:Bool}(h:s.den C v):(SV.tup [s,.raw (.bool b)]).den C (.tuple #[v,.bool b]):=by rw [SV.den];exact ⟨[v,.bool b],rfl,q0c.2 ⟨_,_,rfl,h,q0c.2 ⟨_,_,rfl,by rw [SV.den],q0y.2 rfl⟩⟩⟩
theorem q7i{T:TypeId}(h:notIface P T=true):∃d,P.underlying T=some d/\∀ms,d≠ .interface ms:=by grind [notIface]
theorem z5K{B T:TypeId}{y:SV}(f:o.op= .typeAssert x B T true)(E:notIface P T=true)(F:ev x= .iface T y)(m:K (.ret (.tup [y,.raw (.bool true)])) H):OpV P o ev H K:=by refine q0m (by simp_all) (λC e _ q=> ?_) m;have b:=q x (by grind [Op.operands]);rw [F,SV.den] at b;obtain ⟨u,b,r⟩:=b;refine ⟨.tuple #[u,.bool true],?_,j2V r⟩;obtain ⟨d,l,j⟩:=q7i E;cases d<;>first|exact absurd rfl (j _) |simp [execOp,f,b,Instr.typeAssert,run_underlying' l,Result.andThen]
theorem z1M{F T:TypeId}{z:Value}(b:o.op= .typeAssert x F T true)(G:notIface P T=true)(J:zeroOf P T=some z)(m:ev x= .raw .nilIface\/∃T' y,T'≠T/\ev x= .iface T' y)(B:K (.ret (.tup [.ofV z,.raw (.bool false)])) H):OpV P o ev H K:=by
 refine q0m (by simp_all) (λC e _ E=> ?_) B;have j:=E x (by grind [Op.operands]);refine ⟨.tuple #[z,.bool false],?_,j2V (z8e z)⟩;have f:=q8M J C.w;obtain ⟨d,r,l⟩:=q7i G;rcases m with m| ⟨T',y,q,m⟩ <;>rw [m,SV.den] at j
 . cases d<;>first|exact absurd rfl (l _) |simp [execOp,b,j,Instr.typeAssert,run_underlying' r,f,Result.andThen]
 obtain ⟨u,j,_⟩:=j;cases d<;>first|exact absurd rfl (l _) |simp [execOp,b,j,Instr.typeAssert,run_underlying' r,f,q,Result.andThen]
end
section
open Go

variable [Ghost] {P:Program} {o:Oper} {ev:Operand->SV} {H:List SObj} {K:Out->List SObj->Prop}

theorem z8R{I:Nat->Prop}{w:World}{t:Ty}:∀ {zs:List Value},zs.all (λv=>t.isZero [v])=true->relL I w t (List.replicate zs.length t.dflt) zs
 | [],_=>rfl
 |z :: zs,h=>by rw [BE,Ak] at h;exact ⟨[z],zs,rfl,Ty.isZero_rel h.1,z8R h.2⟩
theorem j4x{T:TypeId}{t:Ty}{zs:List Value}(b:o.op= .alloc T)(l:(P.info? T).bind (λi=>i.zero.map (·.cells.toList))=some zs)(u:t.size=1)(m:zs.all (λv=>t.isZero [v])=true)
 (r:K (.ret (.rptr H.length t 0 0)) (H++ [.row t (List.replicate zs.length t.dflt)])):OpV P o ev H K:=by
 refine q0L (by simp_all) λC e q _=> ?_;obtain ⟨f,d,_⟩:=q3E (T:=T) (rest:=[]) q (n:=zs.length) (c:=zs.length) (z8R m) (by simp) (Ac _) (by rw [u];simp);rw [Ad] at f d;refine ⟨_,.pointer (some ⟨C.w.heap.size,0,none⟩),_,_,r,.inl ?_,f,d,?_⟩
 . cases j:P.info? T with
   |none=>simp_all
   |some i=>
    cases hz0:i.zero with
    |none=>simp_all
    |some z=>simp [j,hz0] at l;simp [execOp,b,Instr.alloc,zeroValue,typeInfo,j,hz0,Result.andThen,newVar,newRow,Cx.grow,<-l]
 grind [SV.den]

def addA(sz n:Nat):SV->Option SV
 |.ptr h off=>some (.ptr h (off+n*sz))
 |.iptr t x k=>some (.iptr t x (k+n*sz))
 |.rptr h t i k=>if k=0/\sz=t.size then some (.rptr h t (i+n) 0) else some (.rptr h t i (k+n*sz))
 |.raw v=>(SV.raw v).add (n*sz)
 |_=>none
def slA(sz lo n:Nat):SV->Option SV
 |.rptr h t i k=>if k=0/\sz=t.size then some (.osl h t (i+lo) n) else none
 |_=>none
theorem q6R{d dst:TypeId}{x:Operand}{q:TypeId}{h off n:Nat}{xs:List UInt8}(hop:o.op= .convert d dst x)(hs:P.underlying d=some (.slice q))(ht:P.underlying dst=some .string)(he:P.underlying q=some (.int .u8))(E:ev x= .osl h .u8 off n)
 (B:H[h]?=some (.row .u8 xs))(F:off+n<=xs.length)(b:xs.length<=1125899906842624)(u:K (.ret (.raw (.string (strOf ((xs.drop off).take n))))) H):OpV P o ev H K:=by
 refine q0m (by simp_all) (λC e y G=> ?_) u;have l:=G x (by grind [Op.operands]);rw [E] at l;have f:=q5E y B b F l;have m:=q1S (P:=P) f;rw [SV.den] at f;obtain ⟨A,r,c,j,_⟩:=f;simp only [List.cons.injEq,and_true] at j;rw [j] at m;have hb':(Conv.bytesToString (.slice A r c)).run P C.w= .ok (.string (strOf ((xs.drop off).take n))) C.w:=m
 simp_all [execOp,convert,run_underlying',SV.den]
end
end Go.Sx