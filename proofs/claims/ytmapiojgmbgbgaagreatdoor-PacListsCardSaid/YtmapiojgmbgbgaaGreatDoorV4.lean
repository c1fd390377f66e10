/- A part of the proof: a symbolic executor over abstract values, and its soundness. -/
import Derived.Test.YtmapiojgmbgbgaaGreatDoorV3
import Derived.Laws.Append
set_option linter.all false
namespace Go.Sx
open Go

variable [Ghost] {P:Program} {AQ:Ex→List SV→List SObj→Prop} {k0:Nat} {k:List It} {t:List SV} {H:List SObj}

def resRow(t':Ty)(xs:List t'.den)(t:Ty)(i k:Nat)(ag:Option Nat):Option SV:=
 if t'=t∧i=0∧k=0 then (match ag with
  |some m=>if t'.plain=true then (if t'.size=1∧xs.length=m∧0<m then some (.dat (.arr m t') xs) else none) else (match xs with
   | [x]=>if t'.size=m then some (.dat t' x) else none
   |_=>none)
  |none=>none) else none
def resV1(P:Program)(t:List SV)(H:List SObj):ResultVar→Option SV
 |.tmp i=>some (t.getD i .any)
 |.cell i ty=>match t.getD i .any,aggOf P ty with
  |.ptr h off,some ag=>match H[h]? with
   |some (.cells _ cs)=>pick cs off ag
   |_=>none
  |.rptr h ty i k,some ag=>match H[h]? with
   |some (.row ty' xs)=>resRow ty' xs ty i k ag
   |_=>none
  |_,_=>none
def resVL(P:Program)(t:List SV)(H:List SObj):List ResultVar→Option (List SV)
 | []=>some []
 |r :: l=>match resV1 P t H r,resVL P t H l with
  |some s,some ss=>some (s :: ss)
  |_,_=>none
def resV(P:Program)(t:List SV)(H:List SObj)(rs:List ResultVar):Option SV:=
 match resVL P t H rs with
 |some [s]=>some s
 |some l=>some (.tup l)
 |none=>none

theorem z6S{C:Cx}{a:Act}{r:ResultVar}{s:SV}(hw:Wd C H)(hd:SV.denL C t a.tmps.toList)(h:resV1 P t H r=some s):
 ∃v,(match r with
  |.tmp t=>(pure (a.tmps.getD t undef):Sem Value)
  |.cell b t=>do loadVar t (←asAddr (a.tmps.getD b undef))).run P C.w= .ok v C.w∧s.den C v:=by
 cases r with
 |tmp i=>
  simp only [resV1] at h;cases h;exact ⟨a.tmps.getD i undef,rfl,q2E hd (.tmp i)⟩
 |cell i ty=>
  simp only [resV1] at h;split at h
  · rename_i hh off ag h1 h2;split at h
    · rename_i T cs hH;have hx:=q2E hd (.tmp i);simp only [evT,Act.eval] at hx;rw [h1,SV.den] at hx;obtain ⟨_,b,hb,hx⟩:=hx;obtain ⟨b',vs,hb',hcell,hdd⟩:=hw.obj hh _ hH;rw [hb] at hb';cases hb';obtain ⟨v,g1,g2⟩:=q1s (P:=P) h2 (b:=b) (base:=0) (off:=off) hdd (fun j u hj=>by rw [Ac,q0g hcell];exact hj) h
      rw [Ac] at g1;exact ⟨v,by simp [hx,asAddr,g1],g2⟩
    cases h
  · rename_i hh t1 i1 k1 ag h1 h2;split at h
    · rename_i t' xs hH;have hx:=q2E hd (.tmp i);simp only [evT,Act.eval] at hx;rw [h1,SV.den] at hx;obtain ⟨_,b,hb,hx⟩:=hx;unfold resRow at h;split at h
      · rename_i hc;obtain ⟨rfl,rfl,rfl⟩:=hc;split at h
        · rename_i m;split at h
          · split at h
            · rename_i hc;obtain ⟨hs,hl,h0⟩:=hc;cases h;obtain ⟨b',hb',hl'⟩:=q8L (i:=0) (m:=m) hw hH hs (by omega) h0
              rw [hb] at hb';cases hb';rw [Au,Ah (by omega)] at hl'
              obtain ⟨v,g1,g2⟩:=q4U (P:=P) h2 hl' (s:=.dat (.arr m t') xs) (by simp [SV.ofT,Ty.plain]) (.inr (by simp [Ty.size,hs]))
              exact ⟨v,by simp [hx,asAddr,g1],g2⟩
            cases h
          rename_i hpl;split at h
          · rename_i x;split at h
            · rename_i hs;cases h;obtain ⟨b',hb',hl'⟩:=q1Q (i:=0) (x:=x) hw hH rfl;rw [hb] at hb';cases hb';rw [Be] at hl';obtain ⟨v,g1,g2⟩:=q4U (P:=P) h2 hl' (s:=.dat t' x) (by simp [SV.ofT,hpl]) (.inr (by rw [hs]))
              exact ⟨v,by simp [hx,asAddr,g1],g2⟩
            cases h
          cases h
        cases h
      cases h
    cases h
  cases h

theorem z0c{C:Cx}{a:Act}(hw:Wd C H)(hd:SV.denL C t a.tmps.toList):∀ {rs:List ResultVar} {l:List SV},resVL P t H rs=some l→
 ∃vs,(rs.mapM (m:=Sem) fun
  |.tmp t=>(pure (a.tmps.getD t undef):Sem Value)
  |.cell b t=>do loadVar t (←asAddr (a.tmps.getD b undef))).run P C.w= .ok vs C.w∧SV.denL C l vs
 | [],l,h=>by
  cases h;exact ⟨[],by simp,q0p.2 rfl⟩
 |r :: rs,l,h=>by
  simp only [resVL] at h;split at h
  · rename_i s ss h1 h2;cases h;obtain ⟨v,g1,g2⟩:=z6S hw hd h1;obtain ⟨vs,g3,g4⟩:=z0c hw hd h2;refine ⟨v :: vs,?_,q0c.2 ⟨v,vs,rfl,g2,g4⟩⟩;rw [CV];simp only [Sem.run_bind]
    erw [g1]
    simp only [Result.andThen]
    erw [g3]
    simp
  cases h

theorem q8Z{C:Cx}{a:Act}{fn:Func}{s:SV}(hw:Wd C H)(hd:SV.denL C t a.tmps.toList)(h:resV P t H fn.results.toList=some s):∃v,(results fn a.tmps).run P C.w= .ok v C.w∧s.den C v:=by
 unfold resV at h
 have key:∀ {l:List SV},resVL P t H fn.results.toList=some l→∃vs:List Value,(fn.results.mapM (m:=Sem) fun
  |.tmp t=>(pure (a.tmps.getD t undef):Sem Value)
  |.cell b t=>do loadVar t (←asAddr (a.tmps.getD b undef))).run P C.w= .ok vs.toArray C.w∧SV.denL C l vs:=by
  intro l hl;obtain ⟨vs,g1,g2⟩:=z0c hw hd hl;refine ⟨vs,?_,g2⟩;rw [B9];simp only [Sem.run_map]
  erw [g1]
  rfl
 split at h
 · rename_i s' hl;cases h;obtain ⟨vs,g1,g2⟩:=key hl;obtain ⟨v,us,rfl,hv,hus⟩:=q0c.1 g2;rw [q0p] at hus;subst hus;refine ⟨v,?_,hv⟩;unfold results;simp only [Sem.run_bind]
   erw [g1]
   simp [Result.andThen]
 · rename_i l hne hl;cases h;obtain ⟨vs,g1,g2⟩:=key hl;have hlen:=q0B g2;refine ⟨.tuple vs.toArray,?_,by rw [SV.den];exact ⟨vs,rfl,g2⟩⟩
   unfold results;simp only [Sem.run_bind]
   erw [g1]
   have hn:¬vs.length=1:=by
    intro h1;rw [hlen] at h1
    match l,h1 with
    | [s'],_=>exact hne s' rfl
   simp [Result.andThen,hn]
 cases h

theorem q6d{w:World}{D:Nat}(h:w.heap[D]?=some (.deferred (some []))):(Instr.takeDeferred D).run P w= .ok [] {w with heap:=w.heap.setIfInBounds D (.deferred none)}:=by
 simp [Instr.takeDeferred,getObj,setObj,Sem.run,h]

def dropD(C:Cx)(D:Nat):Cx:={C with w:={C.w with heap:=C.w.heap.setIfInBounds D (.deferred none)}}
theorem q1E{C:Cx}{D b:Nat}(h:b≠D):(dropD C D).w.heap[b]?=C.w.heap[b]?:=by
 simp only [dropD];rw [BQ (Ne.symm h)]
theorem q6M{C:Cx}{D:Nat}(hi:¬C.I D)(hD:C.w.heap[D]?=some (.deferred (some []))):Evo C (dropD C D):=
 ⟨Ae _,fun _ _=>rfl,fun b hb=>⟨hb,q1E (fun e=>hi (e▸hb))⟩,fun b m hm=>by
  by_cases e:b=D
  · subst e;unfold World.bsize at hm;rw [hD] at hm;simp at hm
  unfold World.bsize at hm⊢;rw [q1E e];exact hm⟩
theorem z8h{C:Cx}{D:Nat}(hw:Wd C H)(hi:¬C.I D)(ho:¬OwnB C H D)(hD:C.w.heap[D]?=some (.deferred (some []))):Wd (dropD C D) H:=by
 have he:=q6M hi hD;refine ⟨hw.n,fun h x hx=> ?_,fun b hb=> ?_,hw.inj,fun b hb=> ?_⟩
 · by_cases hl:x.live=true
   · exact q0C he.I h rfl (fun b hb=>q1E (fun e=>ho (e▸ ⟨h,x,hx,hl,hb⟩))) (q0f he) (hw.obj h x hx)
   cases x<;>first|trivial|simp [SObj.live] at hl
 · have:=hw.own b hb;exact ⟨this.1,by simp only [dropD,Ch];exact this.2⟩
 simp only [dropD,Ch];exact hw.imm b hb
theorem z5l{E:En}{C:Cx}{D:Nat}(hx:Ext E C H)(hi:¬C.I D)(hD:C.w.heap[D]?=some (.deferred (some [])))(hs:E.C.w.heap.size≤D):Ext E (dropD C D) H:=
 ⟨hx.evo.trans (q6M hi hD),by simp only [dropD,Ch];exact hx.size,hx.os,hx.tape,hx.output,fun b hb ho=>(q1E (by omega)).trans (hx.frame b hb ho),fun b hb=>orMap (hx.immNew b hb) id fun ⟨x,u⟩=>⟨x,u.keep (q1E fun e=>hi (e▸hb))⟩,hx.ownNew,hx.keep0⟩

structure MarkOk (E:En) (C:Cx) (H:List SObj) (D:Nat):Prop where
 sz:E.C.w.heap.size≤D
 imm:¬C.I D
 own:¬OwnB C H D
 at_:C.w.heap[D]?=some (.deferred (some []))
theorem q3C{fn:Func}{tmps:Array Value}{R:Ending→World→Prop}{E:En}{u:FrameMode}(hu:u≠ .run):∀ (Ds:List Nat) (C:Cx),Wd C H→Ext E C H→Ds.Nodup→
 (∀D∈Ds,MarkOk E C H D)→
 (Wd (Ds.foldl dropD C) H→Ext E (Ds.foldl dropD C) H→Evo C (Ds.foldl dropD C)→LeavesIn Fence.wide 0 P fn tmps R [] u (Ds.foldl dropD C).w)→LeavesInM Fence.wide 0 P fn tmps R (Ds.map markD) u C.w
 | [],C,hw,hx,_,_,h=>h hw hx (Evo.refl _)
 |D :: Ds,C,hw,hx,hnd,hD,h=>by
  obtain ⟨g1,g2,g3,g4⟩:=hD D (by simp)
  have he:=q6M g2 g4;refine ⟨hu,.inl ⟨D,_,rfl,q6d g4,?_⟩⟩;refine q3C hu Ds (dropD C D) (z8h hw g2 g3 g4) (z5l hx g2 g4 g1) (Bw.1 hnd).2 (fun D' hD'=> ?_) (fun hw' hx' he'=>h hw' hx' (he.trans he'));obtain ⟨k1,k2,k3,k4⟩:=hD D' (by simp [hD'])
  have hne:D'≠D:=fun e=>(Bw.1 hnd).1 (e▸hD');exact ⟨k1,k2,k3,(q1E hne).trans k4⟩

def retQ(P:Program)(fn:Func)(K:Out→List SObj→Prop):Ex→List SV→List SObj→Prop
 |.normal,t,H=>∃s,resV P t H fn.results.toList=some s∧K (.ret s) H
 |.ret,t,H=>∃s,resV P t H fn.results.toList=some s∧K (.ret s) H
 |.pan s,_,H=>K (.pan s) H
 |.exit _,_,_=>False

theorem q6a{fn:Func}{a:Act}{R:Ending→World→Prop}{w:World}{v:Value}(hr:(results fn a.tmps).run P w= .ok v w)(h:R (.returned v) w):LeavesIn Fence.wide 0 P fn a.tmps R [] .returning w:=by
 unfold LeavesIn;exact ⟨v,hr,h⟩

def LeaveOk(E:EnD)(J:Cx→List SObj→Prop):Prop:=
 ∀ (C:Cx) (H:List SObj) (ds:List Deferred),Wd C H→Ext E C H→Ghost.fin E C H ds→∃Ds:List Nat,ds=Ds.map markD∧Ds.Nodup∧(∀D∈Ds,MarkOk E C H D)∧J (Ds.foldl dropD C) H
theorem q4u{f:FuncId}{fn:Func}{c:Code}{args:List SV}{K:Out→List SObj→Prop}{E:EnD}{C:Cx}{vs:List Value}(hf:P.funcs[f]?=some fn)(hb:fn.body=some c)(hE:E.base= [])(hn:E.C.n≤H.length)(hw:Wd C H)(hx:Ext E C H)(hg:Ghost.inv E C H)
 (J:Cx→List SObj→Prop)(hJ:LeaveOk E J)
 (hv:SV.denL C args vs)(h:Sound P (retQ P fn K) ⟨H.length,[.code c],args++List.replicate (fn.ntmps-args.length) .any,H⟩):
 Calls P f vs.toArray C.w fun e w'=>∃o H' C',K o H'∧C'.w=w'∧Wd C' H'∧Ext E C' H'∧J C' H'∧outDen C' o e:=by
 refine (callsIn_wide (n:=0)).1 (callsIn_of_wp_marks hf hb trivial ?_ rfl);have hlen:=q0B hv;have hd:Den E C (args++List.replicate (fn.ntmps-args.length) .any) H {tmps:=vs.toArray++Array.replicate (fn.ntmps-vs.toArray.size) undef,defers:=[]}:=by
  refine ⟨hw,hx,⟨hE.symm,hg⟩,?_⟩;simp only [CB,Cr,AO,hlen];refine q0x.2 ⟨vs,_,rfl,hv,?_⟩;generalize fn.ntmps-args.length=m;induction m with
  |zero=>exact q0p.2 rfl
  |succ m ih=>exact q0c.2 ⟨_,_,Ca,by rw [SV.den];trivial,ih⟩
 have h1:=h E none 0 C _ ⟨hn,Ghost.rd0⟩ hd;simp only [wpT] at h1;refine wpIn_mono h1 fun e a w hq=> ?_;have fin:∀ {C':Cx} {t':List SV} {H':List SObj},(∃s,resV P t' H' fn.results.toList=some s∧K (.ret s) H')→C'.w=w→DenF E C' t' H' a→
  LeavesInM Fence.wide 0 P fn a.tmps (fun e w'=>∃o H' C',K o H'∧C'.w=w'∧Wd C' H'∧Ext E C' H'∧J C' H'∧outDen C' o e) a.defers .returning w:=by
  rintro C' t' H' ⟨s,hs,hk⟩ rfl hd';obtain ⟨Ds,e1,hnd,hok,hj⟩:=hJ _ _ _ hd'.wd hd'.ext hd'.defs;rw [e1];refine q3C (by simp) Ds C' hd'.wd hd'.ext hnd hok fun q1 q2 q3=> ?_
  obtain ⟨v,g1,g2⟩:=q8Z (P:=P) (fn:=fn) q1 (q0f q3 hd'.tmps) hs;exact q6a g1 ⟨.ret s,H',_,hk,rfl,q1,q2,hj,v,rfl,g2⟩
 cases e with
 |normal=>obtain ⟨C',t',H',hq,hw',hd'⟩:=hq;exact fin hq hw' hd'
 |ret=>obtain ⟨C',t',H',hq,hw',hd'⟩:=hq;exact fin hq hw' hd'
 |panic ch=>
  obtain ⟨C',t',H',s,v,hk,rfl,hs,rfl,hw',hx',hdf,_⟩:=hq;obtain ⟨Ds,e1,hnd,hok,hj⟩:=hJ _ _ _ hw' hx' hdf;show LeavesInM _ _ _ _ _ _ _ _ _;rw [e1];exact q3C (by simp) Ds C' hw' hx' hnd hok fun q1 q2 q3=>⟨.pan s,H',_,hk,rfl,q1,q2,hj,v,rfl,q0Z q3 hs⟩
 |exit id=>obtain ⟨_,_,_,hq,_⟩:=hq;exact hq.elim
 |goto l=>exact hq.elim
 |outgrown=>exact hq.elim
theorem z1W{f:FuncId}{fn:Func}{c:Code}{args:List SV}{K:Out→List SObj→Prop}(hf:P.funcs[f]?=some fn)(hb:fn.body=some c)
 (h: @Sound noGhost P (retQ P fn K) ⟨H.length,[.code c],args++List.replicate (fn.ntmps-args.length) .any,H⟩):VCall P f args H K:=by
 intro C vs hw ht hv;refine (@q4u noGhost P H f fn c args K ⟨⟨C,H⟩,[]⟩ C vs hf hb rfl (by rw [hw.n];exact Ae _) hw (Ext.refl _ _) ⟨ht.here,trivial⟩ (fun _ _=>True) (fun _ _ ds _ _ h=>⟨[],h.1,CW,fun _ h=>by simp at h,trivial⟩) hv h).mono ?_
 rintro e w' ⟨o,H',C',hk,h1,h2,h3,_,h4⟩;exact ⟨o,H',C',hk,h1,h2,h3,h4⟩
end Go.Sx
namespace Go.Sx
open Go

variable [Ghost] {P:Program} {o:Oper} {ev:Operand→SV} {H:List SObj} {K:Out→List SObj→Prop}

theorem q6V:∀ (cs:List Value) (off j:Nat) (acc:Array Value),off+j+cs.length≤acc.size→
 ((cs.zipIdx j).foldl (fun (a:Array Value) (x:Value×Nat)=>a.setIfInBounds (off+x.2) x.1) acc).toList=splice acc.toList (off+j) cs
 | [],off,j,acc,_=>by simp [splice]
 |c :: cs,off,j,acc,h=>by
  simp only [AB] at h;simp only [List.zipIdx_cons,Bl];rw [q6V cs off (j+1) _ (by simp;omega),q6S (by simp;omega)]
  simp [Nat.add_assoc]

def fillS(place:Nat→Option (Nat×Nat)):List SV→List (Nat×SV)→Option (List SV)
 |zs,[]=>some zs
 |zs,(i,s) :: rest=>match place i,s.flat with
  |some (off,size),some cs=>if cs.length=size∧off+cs.length≤zs.length then fillS place (splice zs off cs) rest else none
  |_,_=>none

theorem q7n{C:Cx}{place:Nat→Option (Nat×Nat)}:∀ {ps:List (Nat×SV)} {qs:List (Nat×Value)} {zs cs:List SV} {vs:List Value},SV.denL C zs vs→
 (ps.map (·.1)=qs.map (·.1))→SV.denL C (ps.map (·.2)) (qs.map (·.2))→fillS place zs ps=some cs→∃us,Instr.fill place vs.toArray qs=some us.toArray∧SV.denL C cs us
 | [],[],zs,cs,vs,hz,_,_,h=>by cases h;exact ⟨vs,rfl,hz⟩
 | [],_ :: _,_,_,_,_,h,_,_=>by simp at h
 |_ :: _,[],_,_,_,_,h,_,_=>by simp at h
 | (i,s) :: ps,(j,v) :: qs,zs,cs,vs,hz,hi,hd,h=>by
  simp only [AT,List.cons.injEq] at hi;obtain ⟨rfl,hi⟩:=hi;simp only [AT] at hd;obtain ⟨v',us,e,hv,hd⟩:=q0c.1 hd;simp only [List.cons.injEq] at e;obtain ⟨rfl,rfl⟩:=e;simp only [fillS] at h;split at h
  · rename_i off size ds hp hf;split at h
    · rename_i hc;have hfd:=q3l hf hv;have hl:=q0B hfd;have hzl:=q0B hz;obtain ⟨us,h1,h2⟩:=q7n (q4m hz hfd) hi hd h;refine ⟨us,?_,h2⟩;rw [Instr.fill];simp only [hp];rw [if_neg (by simp only [AO,BW,decide_eq_true_eq,not_or];simp only [Av] at hl;omega)]
      have:(v.cells.zipIdx.foldl (fun cs x=>cs.setIfInBounds (off+x.2) x.1) vs.toArray)=(splice vs off v.cells.toList).toArray:=by
       have:=q6V v.cells.toList off 0 vs.toArray (by simp only [AO];omega)
       rw [AK] at this;rw [←CK,Array.toList_zipIdx];apply Array.ext';rw [this]
      rw [←h1,←this]
    cases h
  cases h

inductive PlaceK where
 |fields (l:List (Nat×Nat))
 |arr (sz:Nat)
def PlaceK.fn:PlaceK→Nat→Option (Nat×Nat)
 |.fields l,i=>l[i]?
 |.arr sz,i=>some (i*sz,sz)
def placesOf(P:Program)(t:TypeId):Option PlaceK:=
 match P.underlying t with
 |some (.struct fs)=>(fs.toList.mapM fun f=>(P.info? f.type).map fun i=>(f.offset,i.size)).map .fields
 |some (.array _ e)=>(P.info? e).map fun i=>.arr i.size
 |_=>none

theorem q4t{w:World}:∀ {fs:List Field} {l:List (Nat×Nat)},(fs.mapM (m:=Option) fun f=>(P.info? f.type).map fun i=>(f.offset,i.size))=some l→
 (fs.mapM (m:=Sem) fun f=>do pure (f.offset,←sizeOf f.type)).run P w= .ok l w
 | [],l,h=>by
  rw [List.mapM_nil] at h;cases h;rw [List.mapM_nil];rfl
 |f :: fs,l,h=>by
  rw [CV] at h;cases hi:P.info? f.type with
  |none=>simp [hi] at h
  |some i=>
   cases hr:(fs.mapM (m:=Option) fun f=>(P.info? f.type).map fun i=>(f.offset,i.size)) with
   |none=>simp [hi,hr] at h
   |some l'=>
    simp [hi,hr] at h;have ih:=q4t (w:=w) hr;rw [CV];simp only [Sem.run_bind];have h1:(sizeOf f.type).run P w= .ok i.size w:=q0j (by simp [hi]) w
    simp only [h1,Result.andThen,Sem.run_pure];rw [ih];simp [←h]

theorem z5u{t:TypeId}{parts:Array (Nat×Operand)}{zs:List Value}{pl:PlaceK}{cs:List SV}(hop:o.op= .build t parts)(hz:(P.info? t).bind (fun i=>i.zero.map (·.cells.toList))=some zs)
 (hpl:placesOf P t=some pl)(hf:fillS pl.fn (rawL zs) (parts.toList.map fun p=>(p.1,ev p.2))=some cs)(hk:K (.ret (.agg cs)) H):OpV P o ev H K:=by
 refine q0i (by rw [hop];intro c hc;cases hc) (fun C e _ hv=> ?_) hk
 rw [hop] at hv;simp only [Op.operands] at hv;have hparts:SV.denL C ((parts.toList.map fun p=>(p.1,ev p.2)).map (·.2)) ((parts.toList.map fun p=>(p.1,e p.2)).map (·.2)):=by
  simp only [BO];have:=q2f (C:=C) (ev:=ev) (e:=e) (parts.toList.map (·.2)) (fun x hx=>hv x (by simpa using hx))
  simp only [BO] at this;exact this
 obtain ⟨us,h1,h2⟩:=q7n (C:=C) (qs:=parts.toList.map fun p=>(p.1,e p.2)) (q1e zs) (by simp) hparts hf
 refine ⟨.agg us.toArray,?_,by rw [SV.den];exact ⟨us,rfl,h2⟩⟩
 cases hi:P.info? t with
 |none=>simp [hi] at hz
 |some i=>
  cases hz0:i.zero with
  |none=>simp [hi,hz0] at hz
  |some z=>
   simp [hi,hz0] at hz;have hzz:z.cells=zs.toArray:=by rw [←hz]
   have hzr:(zeroValue t).run P C.w= .ok z C.w:=by simp [zeroValue,typeInfo,hi,hz0]
   unfold placesOf at hpl;split at hpl
   · rename_i fs hu;cases hpl':(fs.toList.mapM (m:=Option) fun f=>(P.info? f.type).map fun i=>(f.offset,i.size)) with
     |none=>rw [hpl'] at hpl;cases hpl
     |some l=>
      rw [hpl'] at hpl;cases hpl;have hm:=q4t (P:=P) (w:=C.w) hpl';have hm':(fs.mapM (m:=Sem) fun f=>do pure (f.offset,←sizeOf f.type)).run P C.w= .ok l.toArray C.w:=by
       rw [B9];simp only [Sem.run_map];rw [hm];rfl
      have hfill:Instr.fill (l.toArray[·]?) zs.toArray (parts.map fun p=>(p.1,e p.2)).toList=some us.toArray:=by
       rw [←h1];congr 1
       · funext j;simp [PlaceK.fn]
       simp
      simp only [execOp,hop,Sem.run_bind,Instr.build,hzr,Result.andThen,run_underlying' hu]
      erw [hm']
      simp only [hzz]
      erw [hfill]
      rfl
   · rename_i n e' hu;cases hie:P.info? e' with
     |none=>simp [hie] at hpl
     |some ie=>
      simp [hie] at hpl;subst hpl;have hse:(sizeOf e').run P C.w= .ok ie.size C.w:=q0j (by simp [hie]) C.w
      have hfill:Instr.fill (fun i=>some (i*ie.size,ie.size)) zs.toArray (parts.map fun p=>(p.1,e p.2)).toList=some us.toArray:=by
       rw [←h1];congr 1;simp
      simp only [execOp,hop,Sem.run_bind,Instr.build,hzr,Result.andThen,run_underlying' hu,hse,hzz]
      erw [hfill]
      rfl
   cases hpl
end Go.Sx
namespace Go.Sx
open Go

variable [Ghost] {P:Program} {o:Oper} {ev:Operand→SV} {H:List SObj} {K:Out→List SObj→Prop}

def relL(I:Nat→Prop)(w:World)(t:Ty):List t.den→List Value→Prop
 | [],vs=>vs= []
 |x :: xs,vs=>∃us vs',vs=us++vs'∧t.rel I w x us∧relL I w t xs vs'

variable {I:Nat→Prop} {w:World} {t:Ty}

theorem q0S:∀ {xs:List t.den} {vs:List Value},relL I w t xs vs→vs.length=xs.length*t.size
 | [],_,h=>by cases h;simp
 |x :: xs,_,h=>by
  obtain ⟨us,vs',rfl,h1,h2⟩:=h;rw [Af,t.rel_size _ _ h1,q0S h2,AB,Nat.add_mul,B3,Bm]

theorem q8B:∀ {xs:List t.den} {vs:List Value},relL I w t xs vs→∀i x,xs[i]?=some x→∃us,t.rel I w x us∧∀k u,us[k]?=some u→vs[i*t.size+k]?=some u
 | [],_,_,i,x,hx=>by simp at hx
 |y :: xs,_,h,0,x,hx=>by
  obtain ⟨us,vs',rfl,h1,h2⟩:=h;simp at hx;subst hx;refine ⟨us,h1,fun k u hu=> ?_⟩;rw [Be,Ac,Ag ((Aa.1 hu).1)];exact hu
 |y :: xs,_,h,i+1,x,hx=>by
  obtain ⟨us,vs',rfl,h1,h2⟩:=h;simp at hx;obtain ⟨us',g1,g2⟩:=q8B h2 i x hx;refine ⟨us',g1,fun k u hu=> ?_⟩;have hl:=t.rel_size _ _ h1;rw [Ao (by rw [hl,Nat.add_mul];omega)]
  rw [hl,show (i+1)*t.size+k-t.size=i*t.size+k by rw [Nat.add_mul];omega]
  exact g2 k u hu

theorem q1C:∀ {xs ys:List t.den} {vs us:List Value},relL I w t xs vs→relL I w t ys us→relL I w t (xs++ys) (vs++us)
 | [],_,_,_,h,k=>by cases h;exact k
 |x :: xs,ys,_,us,h,k=>by
  obtain ⟨us',vs',rfl,h1,h2⟩:=h;exact ⟨us',vs'++us,by rw [List.append_assoc],h1,q1C h2 k⟩

theorem q2S{I':Nat→Prop}{w':World}(hk:Keeps I I' w w'):∀ {xs:List t.den} {vs:List Value},relL I w t xs vs→relL I' w' t xs vs
 | [],_,h=>h
 |x :: xs,_,h=>by
  obtain ⟨us,vs',rfl,h1,h2⟩:=h;exact ⟨us,vs',rfl,t.rel_keep hk _ _ h1,q2S hk h2⟩

theorem q5v:∀ (t:Ty) (x:t.den) (vs:List Value),t.rel I w x vs→∀v∈vs,v.oneCell'=true
 |.u8,_,_,h,v,hv=>by cases h;simp at hv;subst hv;rfl
 |.int _,_,_,h,v,hv=>by cases h;simp at hv;subst hv;rfl
 |.bool,_,_,h,v,hv=>by cases h;simp at hv;subst hv;rfl
 |.str,_,_,h,v,hv=>by cases h.1;simp at hv;subst hv;rfl
 |.slice t,xs,vs,h,v,hv=>by obtain ⟨A,n,c,rfl,_⟩:=h;simp at hv;subst hv;rfl
 |.prod a b,x,vs,h,v,hv=>by
  obtain ⟨v1,v2,rfl,h1,h2⟩:=h;rcases BX.1 hv with hv|hv
  · exact q5v a _ _ h1 v hv
  exact q5v b _ _ h2 v hv
 |.unit,_,_,h,v,hv=>by cases h;cases hv
 |.arr n t,xs,vs,h,v,hv=>by
  obtain ⟨hn,vss,rfl,hl,h⟩:=h;obtain ⟨us,hu,hv⟩:=List.mem_flatten.1 hv;obtain ⟨i,hi,rfl⟩:=AV hu;exact q5v t _ _ (h i (xs[i]'(by omega)) _ (Ab _) (Ab hi)) v hv
 |.ptr t,x,vs,h,v,hv=>by rcases h with ⟨_,rfl⟩ | ⟨z,b,off,us,_,rfl,_⟩ <;> (simp at hv;subst hv;rfl)
 |.clo f t,x,vs,h,v,hv=>by obtain ⟨us,rfl,_⟩:=h;simp at hv;subst hv;rfl
 |.clp f t,x,vs,h,v,hv=>by obtain ⟨b,off,us,rfl,_⟩:=h;simp at hv;subst hv;rfl
 |.mbs t,x,vs,h,v,hv=>by obtain ⟨A,n,c,rfl,_⟩:=h;simp at hv;subst hv;rfl
theorem q8w:∀ {xs:List t.den} {vs:List Value},relL I w t xs vs→∀v∈vs,v.oneCell'=true
 | [],_,h,v,hv=>by cases h;cases hv
 |x :: xs,_,h,v,hv=>by
  obtain ⟨us,vs',rfl,h1,h2⟩:=h;rcases BX.1 hv with hv|hv
  · exact q5v t _ _ h1 v hv
  exact q8w h2 v hv

theorem q3U{xs:List t.den}{vs:List Value}{b off:Nat}(h:relL I w t xs vs)(hc:∀j u,vs[j]?=some u→w.cell? ⟨b,off+j,none⟩=some u):rowAt I w t xs b off:=fun i x hx=>by
 obtain ⟨us,h1,h2⟩:=q8B h i x hx;exact ⟨us,h1,fun k u hu=>by rw [Nat.add_assoc];exact hc _ _ (h2 k u hu)⟩

theorem q7F:∀ {xs:List t.den} {b off:Nat},rowAt I w t xs b off→∃vs,relL I w t xs vs∧∀j u,vs[j]?=some u→w.cell? ⟨b,off+j,none⟩=some u
 | [],_,_,_=>⟨[],rfl,fun j u h=>by simp at h⟩
 |x :: xs,b,off,h=>by
  obtain ⟨us,h1,h2⟩:=h 0 x rfl;have hl:=t.rel_size _ _ h1
  obtain ⟨vs,g1,g2⟩:=q7F (xs:=xs) (b:=b) (off:=off+t.size) (fun i y hy=>by
   obtain ⟨us',k1,k2⟩:=h (i+1) y (by simpa using hy)
   refine ⟨us',k1,fun k u hu=> ?_⟩;have:=k2 k u hu
   rwa [show off+ (i+1)*t.size+k=off+t.size+i*t.size+k by rw [Nat.add_mul];omega] at this)
  refine ⟨us++vs,⟨us,vs,rfl,h1,g1⟩,fun j u hu=> ?_⟩;rcases AC j us.length with hj|hj
  · rw [Ag hj] at hu;have:=h2 j u hu;rwa [Be,AK] at this
  rw [Ao hj] at hu;have:=g2 _ u hu;rwa [show off+t.size+ (j-us.length)=off+j by omega] at this

theorem z0R:∀ {xs:List t.den} {vs:List Value} (n:Nat),relL I w t xs vs→relL I w t (xs.take n) (vs.take (n*t.size))
 | [],_,_,h=>by cases h;simp [relL]
 |x :: xs,_,0,h=>by simp [relL]
 |x :: xs,_,n+1,h=>by
  obtain ⟨us,vs',rfl,h1,h2⟩:=h;have hl:=t.rel_size _ _ h1;refine ⟨us,vs'.take (n*t.size),?_,h1,z0R n h2⟩;rw [Cw,hl,Nat.add_mul,B3,BK,Ah (by omega)]
theorem z0U:∀ {xs:List t.den} {vs:List Value} (n:Nat),relL I w t xs vs→relL I w t (xs.drop n) (vs.drop (n*t.size))
 | [],_,_,h=>by cases h;simp [relL]
 |x :: xs,_,0,h=>by simpa using h
 |x :: xs,_,n+1,h=>by
  obtain ⟨us,vs',rfl,h1,h2⟩:=h;have hl:=t.rel_size _ _ h1;have:=z0U n h2;have e:(us++vs').drop ((n+1)*t.size)=vs'.drop (n*t.size):=by
   rw [BS,hl,Nat.add_mul,B3,BK,AY (by omega),As]
  rw [e];exact this

def srcOf(t:Ty)(H:List SObj):SV→Option (List t.den)
 |.isl t' xs=>if h:t'=t then some (cast (by rw [h]) xs) else none
 |.raw (.slice none 0 0)=>some []
 |.bld h t' n=>match H[h]? with
  |some (.row t'' xs)=>if h:t''=t∧t'=t then some (cast (by rw [h.1]) (xs.take n)) else none
  |_=>none
 |.osl h t' off n=>match H[h]? with
  |some (.row t'' xs)=>if h:t''=t∧t'=t then some (cast (by rw [h.1]) ((xs.drop off).take n)) else none
  |_=>none
 |_=>none

theorem q9E{C:Cx}{h off n:Nat}{xs:List t.den}{v:Value}(hw:Wd C H)(hH:H[h]?=some (.row t xs))(hd:(SV.osl h t off n).den C v)(hn:off+n≤xs.length):
 ∃A c,v= .slice A n c∧n≤c∧(n=0∨∃b,A=some ⟨b,off*t.size,none⟩∧C.ρ h=some b∧b<C.w.heap.size∧rowAt C.I C.w t ((xs.drop off).take n) b (off*t.size)):=by
 rw [SV.den] at hd;obtain ⟨_,A,c,hv,hc,hd⟩:=hd;refine ⟨A,c,hv,hc,?_⟩;rcases hd with h0| ⟨b,hb,hA⟩
 · exact .inl h0
 rcases hw.obj h _ hH with ⟨h1,h2⟩ | ⟨b',arr,T,fz,hb',hcell,hfz,hsz,hrow⟩
 · subst h2;simp at hn;exact .inl (by omega)
 rw [hb] at hb';cases hb';refine .inr ⟨b,hA,hb,(AA.1 hcell).1,?_⟩;obtain ⟨vs,g1,g2⟩:=q7F hrow;refine q3U (z0R n (z0U off g1)) fun j u hu=> ?_;rw [AH] at hu;split at hu
 · rw [AF] at hu;have:=g2 _ u hu;rwa [Ac] at this
 cases hu

theorem q5O{C:Cx}{h n:Nat}{v:Value}(hd:(SV.bld h t n).den C v):(SV.osl h t 0 n).den C v:=by
 simp only [SV.den] at hd⊢;obtain ⟨hn,⟨h1,rfl,rfl⟩ | ⟨b,c,m,hb,rfl,hc,_⟩⟩:=hd
 · exact ⟨hn,none,0,rfl,Ae _,.inl rfl⟩
 exact ⟨hn,_,c,rfl,hc,.inr ⟨b,hb,by rw [Be]⟩⟩

theorem q1g{C:Cx}{A:Option Addr}{c:Nat}{ys:List t.den}(h:ys= []∨∃b off,A=some ⟨b,off,none⟩∧rowAt C.I C.w t ys b off):
 ∃news,relL C.I C.w t ys news∧(Builtin.firstCells t.size ys.length (.slice A ys.length c)).run P C.w= .ok news.toArray C.w:=by
 rcases h with rfl| ⟨b,off,rfl,h⟩
 · refine ⟨[],rfl,?_⟩;cases A with
   |none=>simp [Builtin.firstCells]
   |some a=>simp [Builtin.firstCells,loadCells,loadCellsFrom]
 obtain ⟨vs,g1,g2⟩:=q7F h;refine ⟨vs,g1,?_⟩;have:=run_loadCells_list (P:=P) C.w ⟨b,off,none⟩ vs (fun j v hj=>by rw [q0J];exact g2 j v hj)
 rw [q0S g1] at this;simpa [Builtin.firstCells] using this

theorem z7j{C:Cx}{y:SV}{v:Value}{ys:List t.den}(hw:Wd C H)(hd:y.den C v)(hs:srcOf t H y=some ys)(hok:∀h t' off n xs,(y= .osl h t' off n∨(y= .bld h t' n∧off=0))→H[h]?=some (.row t xs)→off+n≤xs.length):
 ∃A c news,v= .slice A ys.length c∧relL C.I C.w t ys news∧(Builtin.firstCells t.size ys.length v).run P C.w= .ok news.toArray C.w:=by
 unfold srcOf at hs;split at hs
 · split at hs
   · rename_i h;subst h;cases hs;rw [SV.den] at hd;obtain ⟨A,n,c,e,rfl,_,_,hd⟩:=hd;cases e;obtain ⟨news,g1,g2⟩:=q1g (P:=P) (C:=C) (A:=A) (c:=c) (orMap hd id fun ⟨b,off,h1,_,h2⟩=>⟨b,off,h1,h2⟩);exact ⟨A,c,news,rfl,g1,g2⟩
   cases hs
 · cases hs;rw [SV.den] at hd;subst hd;exact ⟨none,0,[],rfl,rfl,by simp [Builtin.firstCells]⟩
 · split at hs
   · split at hs
     · rename_i h _ n _ t'' xs hH ht;obtain ⟨rfl,rfl⟩:=ht;cases hs;have hle:=hok h _ 0 n xs (.inr ⟨rfl,rfl⟩) hH;rw [Ac] at hle;obtain ⟨A,c,rfl,hc,hd⟩:=q9E hw hH (q5O hd) (by omega)
       have hl:(xs.take n).length=n:=by simp;omega
       obtain ⟨news,g1,g2⟩:=q1g (P:=P) (C:=C) (A:=A) (c:=c) (ys:=xs.take n) (by
        rcases hd with rfl| ⟨b,h1,_,_,h2⟩
        · exact .inl (by simp)
        exact .inr ⟨b,_,h1,by simpa using h2⟩)
       rw [hl] at g2;exact ⟨A,c,news,by rw [cast_eq,hl],g1,by rw [cast_eq,hl];exact g2⟩
     cases hs
   cases hs
 · split at hs
   · split at hs
     · rename_i h _ off n _ t'' xs hH ht;obtain ⟨rfl,rfl⟩:=ht;cases hs;have hle:=hok h _ off n xs (.inl rfl) hH;obtain ⟨A,c,rfl,hc,hd⟩:=q9E hw hH hd hle;have hl:((xs.drop off).take n).length=n:=by simp;omega
       obtain ⟨news,g1,g2⟩:=q1g (P:=P) (C:=C) (A:=A) (c:=c) (ys:=(xs.drop off).take n) (by
        rcases hd with rfl| ⟨b,h1,_,_,h2⟩
        · exact .inl (by simp)
        exact .inr ⟨b,_,h1,h2⟩)
       rw [hl] at g2;exact ⟨A,c,news,by rw [cast_eq,hl],g1,by rw [cast_eq,hl];exact g2⟩
     cases hs
   cases hs
 cases hs
end Go.Sx
namespace Go.Sx
open Go

variable [Ghost] {P:Program} {o:Oper} {ev:Operand→SV} {H:List SObj} {K:Out→List SObj→Prop} {t:Ty}

def srcType(P:Program)(t:TypeId):Option Bool:=match P.underlying t with
 |some (.slice _)=>some true
 |some .string=>some false
 |_=>none
theorem q2n{tX:TypeId}{b:Bool}(h:srcType P tX=some b):(∃e,P.underlying tX=some (.slice e))∨P.underlying tX=some .string:=by
 unfold srcType at h;split at h
 · exact .inl ⟨_,by assumption⟩
 · exact .inr (by assumption)
 cases h

section
variable {w:World} {tS tX ty e:TypeId} {i:TypeInfo} {sLen sCap n:Nat} {xv:Value} {news:List Value}

theorem q7L(ht:P.underlying tS=some (.slice e)){bb:Bool}(hx:srcType P tX=some bb)(hi:P.info? e=some i)(hlen:(Builtin.lenOf xv).run P w= .ok 0 w)
 (hfc:(Builtin.firstCells i.size 0 xv).run P w= .ok news.toArray w):
 (Builtin.append_ #[tS,tX] ty #[.slice none 0 0,xv]).run P w= .ok (.slice none 0 0) w:=by
 rcases q2n hx with ⟨e',hd⟩ |hd<;>clear hx<;>have hd:=run_underlying' hd
 all_goals simp [Builtin.append_,run_underlying' ht,sizeOf,typeInfo,hi,hd,hlen,hfc]

theorem q7l{b:Nat}(ht:P.underlying tS=some (.slice e)){bb:Bool}(hx:srcType P tX=some bb)(hi:P.info? e=some i)(hlen:(Builtin.lenOf xv).run P w= .ok n w)
 (hfc:(Builtin.firstCells i.size n xv).run P w= .ok news.toArray w)(hroom:sLen+n≤sCap)
 (hst:(storeCells ⟨b,sLen*i.size,none⟩ news 0).run P w= .ok () (w.setCells b (sLen*i.size) news)):
 (Builtin.append_ #[tS,tX] ty #[.slice (some ⟨b,0,none⟩) sLen sCap,xv]).run P w= .ok (.slice (some ⟨b,0,none⟩) (sLen+n) sCap) (w.setCells b (sLen*i.size) news):=by
 rcases q2n hx with ⟨e',hd⟩ |hd<;>clear hx<;>have hd:=run_underlying' hd
 all_goals simp [Builtin.append_,run_underlying' ht,sizeOf,typeInfo,hi,hd,hlen,hfc,hroom,q0J,hst]

theorem q3w{z:Value}{base:Option Addr}{old:List Value}(ht:P.underlying tS=some (.slice e)){bb:Bool}(hx:srcType P tX=some bb)(hi:P.info? e=some i)(hz:i.zero=some z)(hlen:(Builtin.lenOf xv).run P w= .ok n w)
 (hroom:sCap<sLen+n)(h63:sLen+n≤9223372036854775807)(hb:(sLen+n)*i.bytes≤140737488355328)
 (hold:(Builtin.firstCells i.size sLen (.slice base sLen sCap)).run P w.drew= .ok old.toArray w.drew)
 (hfc:(Builtin.firstCells i.size n xv).run P w.drew= .ok news.toArray w.drew):
 ∃cap,sLen+n≤cap∧(Builtin.append_ #[tS,tX] ty #[.slice base sLen sCap,xv]).run P w= .ok (.slice (some ⟨w.heap.size,0,none⟩) (sLen+n) cap) (w.drew.alloc (.cells (old++news++(Builtin.zeroCells z.cells (cap- (sLen+n))).toList).toArray e)):=by
 refine ⟨(Question.appendCap (sLen+n) sCap e).cut (w.tape w.drawn (.appendCap (sLen+n) sCap e)),by simp [Question.cut],?_⟩
 have hfit:=growslice_fits hroom hb;have hn1:¬(sLen+n≤sCap):=by omega
 have hn2:¬(((sLen:Int)+ (n:Int)) >9223372036854775807):=by omega
 have hn2':¬((9223372036854775807:Int) < (sLen:Int)+ (n:Int)):=hn2;have hn3:¬(281474976710656<Builtin.nextslicecap (sLen+n) sCap*i.bytes):=by omega
 have hmax:IntKind.i64.max=9223372036854775807:=by decide
 rcases q2n hx with ⟨e',hd⟩ |hd<;>clear hx<;>have hd:=run_underlying' hd
 all_goals simp [Builtin.append_,run_underlying' ht,sizeOf,typeInfo,hi,hd,hlen,hn1,hmax,hn2',hn3,Question.forced,hold,hfc,zeroValue,hz,newRow]
 all_goals (congr 2;apply Array.ext';simp)
end

theorem z5I{C:Cx}(hw:Wd C H)(h:Nat){so:SObj}(hso:H[h]?=some so)(hsl:so.live=true):Wd C (H.set h .dead)∧Ext ⟨C,H⟩ C (H.set h .dead):=by
 have hget:∀ {h':Nat} {x:SObj},(H.set h SObj.dead)[h']?=some x→x.live=true→H[h']?=some x:=by
  intro h' x hx hl;by_cases e:h'=h
  · subst e;rcases AC h' H.length with h1|h1
    · rw [Ar h1] at hx;cases hx;simp [SObj.live] at hl
    rw [AJ (by simp;omega)] at hx;cases hx
  rwa [Aq (Ne.symm e)] at hx
 have hown:∀b,OwnB C (H.set h .dead) b→OwnB C H b:=fun b ⟨h',x,hx,hl,hb⟩=>⟨h',x,hget hx hl,hl,hb⟩
 refine ⟨⟨by simp [hw.n],fun h' x hx=> ?_,fun b hb=>hw.own b (hown b hb),fun h1 h2 x x' b hx hx' hl hl'=>hw.inj h1 h2 x x' b (hget hx hl) (hget hx' hl') hl hl',hw.imm⟩,
  ⟨Evo.refl _,Ae _,rfl,rfl,rfl,fun _ _ _=>rfl,fun _ h=>.inl h,fun b hb=>.inr (hown b hb),fun _ _ hn=>q3P hso hsl hn⟩⟩
 by_cases hl:x.live=true
 · exact hw.obj h' x (hget hx hl)
 cases x<;>first|trivial|simp [SObj.live] at hl

theorem q9K{C:Cx}(hw:Wd C H)(hb:Option Nat)(so:SObj)(hlive:∀b,hb=some b→¬C.I b∧b<C.w.heap.size∧¬OwnB C H b)
 (C':Cx)(hC:C'={C with ρ:=(fun h=>if h=C.n then hb else C.ρ h),n:=C.n+1})(hs:objDen C' C.n so):Wd C' (H++ [so])∧Evo C C'∧(∀b,OwnB C' (H++ [so]) b→OwnB C H b∨hb=some b):=by
 subst hC;have he:Evo C {C with ρ:=(fun h=>if h=C.n then hb else C.ρ h),n:=C.n+1}:=⟨CL _,fun h hh=>by simp only;rw [if_neg (by omega)],Keeps.refl _ _,fun _ _ h=>h⟩
 have hown:∀b,OwnB {C with ρ:=(fun h=>if h=C.n then hb else C.ρ h),n:=C.n+1} (H++ [so]) b→OwnB C H b∨hb=some b:=by
  rintro b ⟨h,x,hx,hl,hbx⟩;rcases q0t hx with ⟨h1,h2⟩ | ⟨h1,h2⟩
  · refine .inl ⟨h,x,h2,hl,?_⟩;simp only at hbx;rwa [if_neg (by rw [hw.n];omega)] at hbx
  subst h1;simp only at hbx;rw [if_pos hw.n.symm] at hbx;exact .inr hbx
 refine ⟨⟨by simp [hw.n],?_,?_,?_,hw.imm⟩,he,hown⟩
 · intro h x hx;rcases q0t hx with ⟨h1,h2⟩ | ⟨h1,h2⟩
   · exact q0C he.I h (he.ρ h (by rw [hw.n];exact h1)) (fun _ _=>rfl) (q0f he) (hw.obj h x h2)
   subst h2;rw [h1,←hw.n];exact hs
 · intro b hbb;rcases hown b hbb with h1|h1
   · exact hw.own b h1
   have:=hlive b h1;exact ⟨this.1,this.2.1⟩
 intro h h' x x' b hx hx' hl hl' hbb hbb';rcases q0t hx with ⟨h1,h2⟩ | ⟨h1,h2⟩ <;>rcases q0t hx' with ⟨h1',h2'⟩ | ⟨h1',h2'⟩
 · simp only at hbb hbb';rw [if_neg (by rw [hw.n];omega)] at hbb hbb'
   exact hw.inj h h' x x' b h2 h2' hl hl' hbb hbb'
 · exfalso;simp only at hbb hbb';rw [if_neg (by rw [hw.n];omega)] at hbb
   rw [if_pos (by rw [h1',hw.n])] at hbb'
   exact (hlive b hbb').2.2 ⟨h,x,h2,hl,hbb⟩
 · exfalso;simp only at hbb hbb';rw [if_neg (by rw [hw.n];omega)] at hbb'
   rw [if_pos (by rw [h1,hw.n])] at hbb
   exact (hlive b hbb).2.2 ⟨h',x',h2',hl',hbb'⟩
 omega
end Go.Sx
namespace Go.Sx
open Go

variable [Ghost] {P:Program} {o:Oper} {ev:Operand→SV} {H:List SObj} {K:Out→List SObj→Prop} {t:Ty}

theorem q4q{C:Cx}(hw:Wd C H){xs:List t.den}{vs rest:List Value}{T:TypeId}{n c:Nat}(hr:relL C.I C.w t xs vs)(_hn:n=xs.length)(hnc:n≤c)(hc:c*t.size≤vs.length+rest.length):
 Wd (C.grow (.cells (vs++rest).toArray T)) (H++ [.row t xs])∧Ext ⟨C,H⟩ (C.grow (.cells (vs++rest).toArray T)) (H++ [.row t xs])∧
  (SV.bld H.length t n).den (C.grow (.cells (vs++rest).toArray T)) (.slice (some ⟨C.w.heap.size,0,none⟩) n c):=by
 have he:=q6p hw.imm (.cells (vs++rest).toArray T);have hl:=q0S hr
 obtain ⟨g1,g2⟩:=q5u hw (.cells (vs++rest).toArray T) (.row t xs) (by
  refine .inr ⟨C.w.heap.size,(vs++rest).toArray,T,(0,0),by simp [Cx.grow],q1y _ _,by simp,by simp [←hl],?_⟩
  refine q3U (q2S he.I hr) fun j u hu=> ?_;have:(C.grow (.cells (vs++rest).toArray T)).w.heap[C.w.heap.size]?=some (.cells (vs++rest).toArray T):=q1y _ _;rw [Ac,q0g this,Ag (Aa.1 hu).1]
  exact hu)
 refine ⟨g1,g2,?_⟩;rw [SV.den];refine ⟨by simp [Cx.grow,hw.n],.inr ⟨C.w.heap.size,c,(vs++rest).length,by simp [Cx.grow,hw.n],rfl,hnc,?_,by simpa using hc⟩⟩
 unfold World.bsize;rw [show (C.grow (.cells (vs++rest).toArray T)).w.heap[C.w.heap.size]?=some (.cells (vs++rest).toArray T) from q1y _ _]
 simp

theorem q8E{C:Cx}(hw:Wd C H):∃C',C'.w=C.w∧Wd C' (H++ [.row t []])∧Ext ⟨C,H⟩ C' (H++ [.row t []])∧(SV.bld H.length t 0).den C' (.slice none 0 0):=by
 obtain ⟨g1,g2,g3⟩:=q9K hw none (.row t []) (fun b h=>by cases h) _ rfl (.inl ⟨by simp,rfl⟩)
 refine ⟨{C with ρ:=(fun h=>if h=C.n then none else C.ρ h),n:=C.n+1},rfl,g1,⟨g2,Ae _,rfl,rfl,rfl,fun _ _ _=>rfl,fun _ h=>.inl h,fun b hb=>(g3 b hb).elim .inr (fun h=>by cases h),fun _ _ hn=>q3r hn⟩,?_⟩
 rw [SV.den];exact ⟨by simp [hw.n],.inl ⟨by simp [hw.n],rfl,rfl⟩⟩

def dstOf(t:Ty)(H:List SObj):SV→Option (List SObj×List t.den×Nat)
 |.raw (.slice none 0 0)=>some (H,[],0)
 |.bld h t' n=>match H[h]? with
  |some (.row t'' xs)=>if h':t''=t∧t'=t then some (H.set h .dead,cast (by rw [h'.1]) xs,n) else none
  |_=>none
 |_=>none

def Src(P:Program)(t:Ty)(C:Cx)(v:Value)(ys:List t.den):Prop:=
 ∃news,relL C.I C.w t ys news∧(Builtin.lenOf v).run P C.w= .ok ys.length C.w∧(Builtin.firstCells t.size ys.length v).run P C.w= .ok news.toArray C.w

theorem q5y{C:Cx}{s:SV}{v xv:Value}{tS tX ty e:TypeId}{i:TypeInfo}{z:Value}{bb:Bool}{Hk:List SObj}{xs ys:List t.den}{n:Nat}
 (hw:Wd C H)(hd:s.den C v)(hdst:dstOf t H s=some (Hk,xs,n))(hn:n=xs.length)(hsrc:Src P t C xv ys)(hsrc':Src P t C.drew xv ys)
 (ht:P.underlying tS=some (.slice e))(hx:srcType P tX=some bb)(hi:P.info? e=some i)(hsz:i.size=t.size)(hz:i.zero=some z)(hzs:z.cells.size=t.size)
 (h63:xs.length+ys.length≤1125899906842624)(hb:(xs.length+ys.length)*i.bytes≤140737488355328):
 ∃r C',(Builtin.append_ #[tS,tX] ty #[v,xv]).run P C.w= .ok r C'.w∧Wd C' (Hk++ [.row t (xs++ys)])∧Ext ⟨C,H⟩ C' (Hk++ [.row t (xs++ys)])∧(SV.bld H.length t (xs.length+ys.length)).den C' r:=by
 obtain ⟨news,hr,hlen,hfc⟩:=hsrc;obtain ⟨news',hr',hlen',hfc'⟩:=hsrc';rw [←hsz] at hfc hfc'
 -- a new array, after what is of the old one has been read
 have grow:∀ (C0:Cx) (H0:List SObj),Wd C0 H0→C0.w=C.w.drew→C0.I=C.I→Ext ⟨C,H⟩ C0 H0→H0.length=H.length→∀ (base:Option Addr) (sCap:Nat) (old:List Value),sCap<xs.length+ys.length→relL C0.I C0.w t xs old→
  (Builtin.firstCells i.size xs.length (.slice base xs.length sCap)).run P C.w.drew= .ok old.toArray C.w.drew→
  ∃r C',(Builtin.append_ #[tS,tX] ty #[.slice base xs.length sCap,xv]).run P C.w= .ok r C'.w∧Wd C' (H0++ [.row t (xs++ys)])∧Ext ⟨C,H⟩ C' (H0++ [.row t (xs++ys)])∧(SV.bld H.length t (xs.length+ys.length)).den C' r:=by
  intro C0 H0 hw0 hC0 hI0 hx0 hl0 base sCap old hcap hold hfold;obtain ⟨cap,hc,hrun⟩:=q3w (P:=P) (w:=C.w) (ty:=ty) ht hx hi hz hlen hcap (by omega) hb hfold hfc'
  have hrel:relL C0.I C0.w t (xs++ys) (old++news'):=q1C hold (by rw [hC0,hI0];exact hr')
  have hll:=q0S hrel
  obtain ⟨g1,g2,g3⟩:=q4q (T:=e) (rest:=(Builtin.zeroCells z.cells (cap- (xs.length+ys.length))).toList) hw0 (n:=xs.length+ys.length) (c:=cap) hrel (by simp) hc (by
   rw [hll];simp only [Av,size_zeroCells,hzs,Af,←Nat.add_mul]
   exact AX _ (by omega))
  refine ⟨_,_,?_,g1,hx0.trans g2,by rw [←hl0];exact g3⟩
  rw [hrun];simp only [Cx.grow,hC0];have:C.w.drew.heap.size=C.w.heap.size:=rfl;rw [this]
 have nilcase:∀ (H0:List SObj),Wd C H0→Ext ⟨C,H⟩ C H0→H0.length=H.length→xs= []→v= .slice none 0 0→
  ∃r C',(Builtin.append_ #[tS,tX] ty #[v,xv]).run P C.w= .ok r C'.w∧Wd C' (H0++ [.row t (xs++ys)])∧Ext ⟨C,H⟩ C' (H0++ [.row t (xs++ys)])∧(SV.bld H.length t (xs.length+ys.length)).den C' r:=by
  rintro H0 hw0 hx0 hl0 rfl rfl;by_cases hy:ys.length=0
  · obtain rfl:ys= []:=A7 hy;have hrun:=q7L (P:=P) (ty:=ty) ht hx hi hlen hfc;obtain ⟨C',hC',g1,g2,g3⟩:=q8E (t:=t) hw0;exact ⟨_,C',by rw [hrun,hC'],g1,hx0.trans g2,by rw [←hl0];exact g3⟩
  have:=grow C.drew H0 (q3m hw0) rfl rfl (hx0.trans (q2l C H0)) hl0 none 0 [] (by simp;omega) rfl (by simp [Builtin.firstCells])
  simpa using this
 unfold dstOf at hdst;split at hdst
 · cases hdst;rw [SV.den] at hd;exact nilcase H hw (Ext.refl _ _) rfl rfl hd
 · split at hdst
   · split at hdst
     · rename_i h t' n' _ t'' xs' hH hT;obtain ⟨rfl,rfl⟩:=hT;cases hdst;simp only [cast_eq] at*;obtain ⟨k1,k2⟩:=z5I hw h hH rfl;rw [SV.den] at hd;obtain ⟨hhn,hd⟩:=hd;rcases hw.obj h _ hH with ⟨h1,h2⟩ | ⟨b,arr,T,fz,hb',hcell,hfz,hsize,hrow⟩
       · subst h2;rcases hd with ⟨_,_,rfl⟩ | ⟨b,_,_,hb',_⟩
         · exact nilcase (H.set h .dead) k1 k2 (by simp) rfl rfl
         rw [h1] at hb';cases hb'
       rcases hd with ⟨h1,_⟩ | ⟨b2,c,m,hb2,rfl,hnc,hm,hcm⟩
       · rw [h1] at hb';cases hb'
       rw [hb'] at hb2;cases hb2;subst hn;have hm':m=arr.size:=by unfold World.bsize at hm;rw [hcell] at hm;simpa using hm.symm
       subst hm';have hll:=q0S hr;by_cases hroom:xs'.length+ys.length≤c
       · -- there is room
         have hle:(xs'.length+ys.length)*t'.size≤arr.size:=An (AX _ hroom) hcm;have eL:arr.toList.length=arr.size:=Av;have hfit:xs'.length*i.size+news.length≤arr.toList.length:=by
          rw [eL,hsz,hll,←Nat.add_mul];exact hle
         have hst:(storeCells ⟨b,xs'.length*i.size,none⟩ news 0).run P C.w= .ok () (C.w.setCells b (xs'.length*i.size+0) news):=run_storeCells_cells b _ news 0 C.w
          (fun j hj=>by
           have hj2:xs'.length*i.size+0+j<arr.size:=by omega
           simp only [World.cell?,hcell]
           rw [Bx hj2];rfl)
          (fun j hj=>by
           have hj2:xs'.length*i.size+0+j<arr.size:=by omega
           have:=hfz _ hj2;simp only [World.frozen?,hcell];rw [By];simp only [decide_eq_false_iff_not]
           omega)
          (q8w hr)
         rw [AK] at hst;have hrun:=q7l (P:=P) (ty:=ty) ht hx hi hlen hfc hroom hst;have hcell':C.w.heap[b]?=some (.cells arr.toList.toArray T fz):=by rw [hcell]
         have hnew:=q1u news (xs'.length*i.size) C.w arr.toList hcell' hfit;have hI':Keeps C.I C.I C.w (C.w.setCells b (xs'.length*i.size) news):=fun b' hi'=>⟨hi',q0z (fun (eq:b'=b)=>(hw.own b ⟨h,_,hH,rfl,hb'⟩).1 (eq▸hi')) _ _ _⟩;have hbsz:World.bsize (C.w.setCells b (xs'.length*i.size) news) b=some arr.size:=by
          unfold World.bsize;rw [hnew];simp only [AO];rw [q0s hfit,Av]
         obtain ⟨vs,v1,v2⟩:=q7F hrow;have hvl:=q0S v1;have hobj:∀ (C':Cx) (hh:Nat),C'.I=C.I→C'.w=C.w.setCells b (xs'.length*i.size) news→C'.ρ hh=some b→objDen C' hh (.row t' (xs'++ys)):=by
          intro C' hh e1 e2 e3;refine .inr ⟨b,(splice arr.toList (xs'.length*i.size) news).toArray,T,fz,e3,by rw [e2];exact hnew,?_,?_,?_⟩
          · rw [AO,q0s hfit,Av];exact hfz
          · rw [AO,q0s hfit,Av];simpa using hle
          rw [e1,e2];refine q3U (q2S hI' (q1C v1 hr)) fun j u hu=> ?_;rw [Ac,q0g hnew];unfold splice;rw [hsz];rcases AC j vs.length with hj|hj
          · rw [Ag hj] at hu;have hc2:=v2 j u hu;rw [Ac] at hc2;have hc3:arr.toList[j]?=some u:=by simpa [World.cell?,hcell] using hc2
            rw [Ag (by simp;omega),Ag (by simp;omega),AH,if_pos (by omega)]
            exact hc3
          rw [Ao hj] at hu;have hjl:=(Aa.1 hu).1;have hmin:(arr.toList.take (xs'.length*t'.size)).length=vs.length:=by
           rw [Aw,eL,hvl,Bf hsize]
          rw [Ag (by rw [Af,hmin];omega),Ao (by rw [hmin];omega),hmin]
          exact hu
         obtain ⟨u1,u2,u3⟩:=z0P (so':=.row t' (xs'++ys)) hw hH rfl rfl hb' (C.w.setCells b (xs'.length*i.size) news) (fun b' hb'=>q0z hb' _ _ _) (q1c _ _ _)
          (fun m hm=>by rw [hbsz];unfold World.bsize at hm;rw [hcell] at hm;simpa using hm)
          (q1D _ _ _) (q1f _ _ _) (q0T _ _ _) (hobj _ h rfl rfl hb')
         obtain ⟨q1,q2⟩:=z5I u1 h (so:=.row t' (xs'++ys)) (Ar (Aa.1 hH).1) rfl;have hnown:¬OwnB {C with w:=C.w.setCells b (xs'.length*i.size) news} ((H.set h (.row t' (xs'++ys))).set h .dead) b:=by
          rintro ⟨h',x,hx',hl',hb3⟩;have hne:h'≠h:=fun e=>by
           subst e;rw [Ar (by simp;exact (Aa.1 hH).1)] at hx'
           cases hx';simp [SObj.live] at hl'
          rw [Aq (Ne.symm hne),Aq (Ne.symm hne)] at hx';exact hne (hw.inj h' h x _ b hx' hH hl' rfl hb3 hb')
         obtain ⟨m1,m2,m3⟩:=q9K q1 (some b) (.row t' (xs'++ys)) (fun b' e=>by
          cases e;have:=u1.own b ⟨h,_,Ar (Aa.1 hH).1,rfl,hb'⟩
          exact ⟨this.1,this.2,hnown⟩) _ rfl (hobj _ _ rfl rfl (by simp))
         rw [List.set_set] at m1 m3;refine ⟨_,_,hrun,m1,?_,?_⟩
         · refine ⟨u3.trans m2,by show C.w.heap.size≤(C.w.setCells b (xs'.length*i.size) news).heap.size;rw [q1c];exact Ae _,q1D _ _ _,q1f _ _ _,q0T _ _ _,fun b' _ hno=>q0z (fun (eq:b'=b)=>hno (eq▸ ⟨h,_,hH,rfl,hb'⟩)) _ _ _,fun _ h=>.inl h,fun b' hb3=>.inr ?_,fun _ _ hn=>q3r (q3P hH rfl hn)⟩
           rcases m3 b' hb3 with ⟨h',x,hx',hl',hb4⟩ |h1
           · have hne:h'≠h:=fun e=>by
              subst e;rw [Ar (Aa.1 hH).1] at hx';cases hx';simp [SObj.live] at hl'
             rw [Aq (Ne.symm hne)] at hx';exact ⟨h',x,hx',hl',hb4⟩
           cases h1;exact ⟨h,_,hH,rfl,hb'⟩
         rw [SV.den];refine ⟨by simp [hw.n],.inr ⟨b,c,arr.size,by simp [hw.n],rfl,hroom,hbsz,hcm⟩⟩
       -- a new array
       obtain ⟨vs,v1,v2⟩:=q1g (P:=P) (C:=C.drew) (A:=some ⟨b,0,none⟩) (c:=c) (ys:=xs') (.inr ⟨b,0,rfl,fun j x hx'=>by
        obtain ⟨us,a1,a2⟩:=hrow j x hx'
        exact ⟨us,Ty.rel_keep (q2q C).I _ _ _ a1,a2⟩⟩)
       rw [←hsz] at v2;have:=grow C.drew (H.set h .dead) (q3m k1) rfl rfl (k2.trans (q2l C _)) (by simp) (some ⟨b,0,none⟩) c vs (by omega) v1 v2
       exact this
     cases hdst
   cases hdst
 cases hdst
end Go.Sx
namespace Go.Sx
open Go

variable [Ghost] {P:Program} {o:Oper} {ev:Operand→SV} {H:List SObj} {K:Out→List SObj→Prop} {t:Ty}

def bytesOf(s:ByteArray):List UInt8:=s.data.toList
theorem q5K(I:Nat→Prop)(w:World):∀ (xs:List UInt8),relL I w .u8 xs (xs.map fun b=>.int .u8 b.toNat)
 | []=>rfl
 |x :: xs=>⟨[.int .u8 x.toNat],_,rfl,rfl,q5K I w xs⟩

def srcS(t:Ty)(H:List SObj):SV→Option (List t.den×Prop)
 |.raw (.string s)=>if h:t= .u8 then some (cast (by rw [h]) (bytesOf s),True) else none
 |.bld h t' n=>match srcOf t H (.bld h t' n),H[h]? with
  |some ys,some (.row _ xs)=>some (ys,n≤xs.length)
  |_,_=>none
 |.osl h t' off n=>match srcOf t H (.osl h t' off n),H[h]? with
  |some ys,some (.row _ xs)=>some (ys,off+n≤xs.length)
  |_,_=>none
 |s=>(srcOf t H s).map (·,True)

theorem z2B{C:Cx}{y:SV}{v:Value}{ys:List t.den}{p:Prop}(hw:Wd C H)(hd:y.den C v)(hs:srcS t H y=some (ys,p))(hp:p):Src P t C v ys:=by
 have gen:srcOf t H y=some ys→(∀h t' off n xs,(y= .osl h t' off n∨(y= .bld h t' n∧off=0))→H[h]?=some (.row t xs)→off+n≤xs.length)→Src P t C v ys:=by
  intro h1 h2;obtain ⟨A,c,news,rfl,g1,g2⟩:=z7j (P:=P) hw hd h1 h2;exact ⟨news,g1,by simp [Builtin.lenOf],g2⟩
 unfold srcS at hs;split at hs
 · split at hs
   · rename_i s h;subst h;cases hs;rw [SV.den] at hd;subst hd;refine ⟨_,q5K _ _ _,?_,?_⟩
     · simp [Builtin.lenOf,bytesOf]
     simp only [cast_eq,Builtin.firstCells,bytesOf];have:s.extract 0 s.data.toList.length=s:=by
      have:s.data.toList.length=s.size:=by simp
      rw [this];exact ByteArray.extract_zero_size
     rw [this];simp [←Array.toList_map]
   cases hs
 · split at hs
   · rename_i h t' n _ _ ys' _ xs e1 e2;cases hs;refine gen e1 ?_;rintro h2 t2 off n2 xs2 (e| ⟨e,rfl⟩) hH
     · cases e
     cases e;rw [e2] at hH;cases hH;omega
   cases hs
 · split at hs
   · rename_i h t' off n _ _ ys' _ xs e1 e2;cases hs;refine gen e1 ?_;rintro h2 t2 off2 n2 xs2 (e| ⟨e,rfl⟩) hH
     · cases e;rw [e2] at hH;cases hH;exact hp
     cases e
   cases hs
 rename_i h1 h2 h3;cases hso:srcOf t H y with
 |none=>simp [hso] at hs
 |some ys'=>
  simp [hso] at hs;obtain ⟨rfl,_⟩:=hs;refine gen hso ?_;rintro h t2 off n xs (e| ⟨e,_⟩) _
  · exact (h3 _ _ _ _ e).elim
  exact (h2 _ _ _ e).elim

theorem z4P{c:Call}{x y:Operand}{tS tX e:TypeId}{bb:Bool}{i:TypeInfo}{z:Value}{Hk:List SObj}{xs ys:List t.den}{n:Nat}{p:Prop}(hop:o.op= .call c)(hc:c.callee= .builtin .append)(ha:c.args= #[x,y])(hty:c.argTypes= #[tS,tX])
 (ht:P.underlying tS=some (.slice e))(hx:srcType P tX=some bb)(hi:P.info? e=some i)(hsz:i.size=t.size)(hz:i.zero=some z)(hzs:z.cells.size=t.size)
 (hdst:dstOf t H (ev x)=some (Hk,xs,n))(hn:n=xs.length)(hsrc:srcS t H (ev y)=some (ys,p))(hp:p)
 (h63:xs.length+ys.length≤1125899906842624)(hb:(xs.length+ys.length)*i.bytes≤140737488355328)
 (hk:K (.ret (.bld H.length t (xs.length+ys.length))) (Hk++ [.row t (xs++ys)])):OpV P o ev H K:=by
 refine q0R (by rw [hop];intro c hc;cases hc) fun C e' hw hv=> ?_
 have h0:=hv x (by rw [hop];simp [Op.operands,Call.operands,hc,ha])
 have h1:=hv y (by rw [hop];simp [Op.operands,Call.operands,hc,ha])
 obtain ⟨r,C',hrun,g1,g2,g3⟩:=q5y (P:=P) (ty:=o.type) (tS:=tS) (tX:=tX) hw h0 hdst hn (z2B hw h1 hsrc hp) (z2B (q3m hw) (q0Z (q2q C) h1) hsrc hp) ht hx hi hsz hz hzs h63 hb;exact ⟨_,r,_,C',hk,.inl (by simp [execOp,hop,resolve,hc,ha,hty,invoke,builtin,hrun,Result.andThen]),g1,g2,g3⟩

def rdL(t:Ty):Nat→List SV→Option (List t.den×Prop)
 |0,[]=>some ([],True)
 |n+1,cs=>match t.rd (cs.take t.size),rdL t n (cs.drop t.size) with
  |some (x,p),some (xs,q)=>some (x :: xs,p∧q)
  |_,_=>none
 |0,_=>none
theorem q9m{C:Cx}:∀ (n:Nat) (cs:List SV) (xs:List t.den) (p:Prop) (vs:List Value),rdL t n cs=some (xs,p)→p→SV.denL C cs vs→relL C.I C.w t xs vs∧xs.length=n
 |0,[],xs,p,vs,h,_,hd=>by cases h;exact ⟨by rw [q0p] at hd;exact hd,rfl⟩
 |0,_ :: _,xs,p,vs,h,_,_=>by simp [rdL] at h
 |n+1,cs,xs,p,vs,h,hp,hd=>by
  simp only [rdL] at h;split at h
  · rename_i x1 p1 y1 q1 h1 h2;cases h;rw [←Bb t.size cs] at hd;obtain ⟨v1,v2,rfl,d1,d2⟩:=q0x.1 hd;obtain ⟨g1,g2⟩:=q9m n _ _ _ _ h2 hp.2 d2;exact ⟨⟨v1,v2,rfl,t.rd_rel _ _ _ _ h1 hp.1 d1,g1⟩,by simp [g2]⟩
  cases h

theorem q2L{C:Cx}{e:Operand→Value}{parts:Array (Nat×Operand)}(hv:∀p∈parts.toList,(ev p.2).den C (e p.2)){pl:PlaceK}{zs:List Value}{cs:List SV}(hf:fillS pl.fn (rawL zs) (parts.toList.map fun p=>(p.1,ev p.2))=some cs):
 ∃us,Instr.fill pl.fn zs.toArray (parts.map fun p=>(p.1,e p.2)).toList=some us.toArray∧SV.denL C cs us:=by
 have hparts:SV.denL C ((parts.toList.map fun p=>(p.1,ev p.2)).map (·.2)) ((parts.toList.map fun p=>(p.1,e p.2)).map (·.2)):=by
  simp only [BO]
  have:=q2f (C:=C) (ev:=ev) (e:=e) (parts.toList.map (·.2)) (fun x hx=>by
   obtain ⟨p,hp,rfl⟩:=BU.1 hx
   exact hv p hp)
  simp only [BO] at this;exact this
 obtain ⟨us,h1,h2⟩:=q7n (C:=C) (qs:=parts.toList.map fun p=>(p.1,e p.2)) (q1e zs) (by simp) hparts hf
 exact ⟨us,by rw [←h1];simp,h2⟩

def zerosOf(P:Program)(e:TypeId)(len:Nat):Option (List Value):=
 match P.info? e with
 |some i=>match i.zero with
  |some z=>if len*i.size≤16777216 then some ((Array.range (len*i.size)).map (fun j=>(if len*i.size=0 then #[] else z.cells)[j% (if len*i.size=0 then #[] else z.cells).size]!)).toList else none
  |none=>none
 |none=>none

theorem q7K{T e:TypeId}{len sz:Nat}{parts:Array (Nat×Operand)}{zs:List Value}{cs:List SV}{xs:List t.den}{p:Prop}(hop:o.op= .buildSlice T len parts)(ht:P.underlying T=some (.slice e))(hs:(P.info? e).map (·.size)=some sz)
 (hz:zerosOf P e len=some zs)(hf:fillS (PlaceK.arr sz).fn (rawL zs) (parts.toList.map fun p=>(p.1,ev p.2))=some cs)(hr:rdL t len cs=some (xs,p))(hp:p)
 (hk:K (.ret (.bld H.length t len)) (H++ [.row t xs])):OpV P o ev H K:=by
 refine q0R (by rw [hop];intro c hc;cases hc) fun C e' hw hv=> ?_
 rw [hop] at hv;simp only [Op.operands] at hv;obtain ⟨us,h1,h2⟩:=q2L (C:=C) (e:=e') (parts:=parts) (fun q hq=>hv q.2 (by simpa using ⟨q.1,by simpa using hq⟩)) hf
 obtain ⟨g1,g2⟩:=q9m len cs xs p us hr hp h2;obtain ⟨q1,q2,q3⟩:=q4q (T:=e) (rest:=[]) hw (n:=len) (c:=len) g1 g2.symm (Ae _) (by rw [q0S g1,g2];exact Ae _)
 refine ⟨_,_,_,_,hk,.inl ?_,q1,q2,q3⟩;unfold zerosOf at hz;cases hi:P.info? e with
 |none=>simp [hi] at hz
 |some i=>
  simp only [hi] at hz;cases hz0:i.zero with
  |none=>simp [hz0] at hz
  |some z=>
   simp only [hz0] at hz;split at hz
   · rename_i hle;have hsi:i.size=sz:=by simpa [hi] using hs
     cases hz;simp only [execOp,hop,Sem.run_bind,Instr.buildSlice,run_underlying' ht,Result.andThen,q0j hs,Sem.run_ite];rw [hsi] at h1 hle;rw [if_neg (by omega)]
     have hzr:(zeroValue e).run P C.w= .ok z C.w:=by simp [zeroValue,typeInfo,hi,hz0]
     have h1':=h1;simp only [Cy] at h1';by_cases h0:len*sz=0
     · simp only [if_pos h0,Sem.run_pure] at h1'⊢
       erw [h1']
       simp [newRow,Cx.grow]
     simp only [if_neg h0,hzr,Sem.run_pure] at h1'⊢
     erw [h1']
     simp [newRow,Cx.grow]
   cases hz
theorem j1q{T e:TypeId}{len:Nat}{parts:Array (Nat×Operand)}{zs:List Value}{cs:List SV}(hop:o.op= .buildSlice T len parts)(ht:P.underlying T=some (.slice e))(hs:(P.info? e).map (·.size)=some 1)
 (hz:zerosOf P e len=some zs)(hf:fillS (PlaceK.arr 1).fn (rawL zs) (parts.toList.map fun p=>(p.1,ev p.2))=some cs)(hk:K (.ret (.csl H.length .u8 0 0 len)) (H++ [.cells e cs])):OpV P o ev H K:=by
 refine q0R (by rw [hop];intro c hc;cases hc) fun C e' hw hv=> ?_
 rw [hop] at hv;simp only [Op.operands] at hv;obtain ⟨us,h1,h2⟩:=q2L (C:=C) (e:=e') (parts:=parts) (fun q hq=>hv q.2 (by simpa using ⟨q.1,by simpa using hq⟩)) hf
 obtain ⟨q1,q2⟩:=q5u hw (.cells us.toArray e) (.cells e cs) (q5E hw.imm e h2);refine ⟨_,.slice (some ⟨C.w.heap.size,0,none⟩) len len,_,_,hk,.inl ?_,q1,q2,?_⟩
 · unfold zerosOf at hz;cases hi:P.info? e with
   |none=>simp [hi] at hz
   |some i=>
    simp only [hi] at hz;cases hz0:i.zero with
    |none=>simp [hz0] at hz
    |some z=>
     simp only [hz0] at hz;split at hz
     · rename_i hle;have hsi:i.size=1:=by simpa [hi] using hs
       cases hz;simp only [execOp,hop,Sem.run_bind,Instr.buildSlice,run_underlying' ht,Result.andThen,q0j hs,Sem.run_ite];rw [hsi] at h1 hle;rw [if_neg (by omega)]
       have hzr:(zeroValue e).run P C.w= .ok z C.w:=by simp [zeroValue,typeInfo,hi,hz0]
       have h1':=h1;simp only [Cy] at h1';by_cases h0:len*1=0
       · simp only [if_pos h0,Sem.run_pure] at h1'⊢
         erw [h1']
         simp [newRow,Cx.grow]
       simp only [if_neg h0,hzr,Sem.run_pure] at h1'⊢
       erw [h1']
       simp [newRow,Cx.grow]
     cases hz
 rw [SV.den];exact ⟨by simp [Cx.grow,hw.n],_,len,rfl,Ae _,.inr ⟨C.w.heap.size,by simp [Cx.grow,hw.n],by simp⟩⟩
end Go.Sx
