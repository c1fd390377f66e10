/- A part of the proof: a symbolic executor over abstract values, and its soundness. -/
import Derived.Test.YthbcodbcndiapaaGreatDoorP5
set_option linter.all false
namespace Go.Sx
section
open Go

structure OpI where
 dst:Option Tmp
 op:IOp
 guard:Option (Nat×Bool)

def isLd:IOp->Bool
 |.ld _ _=>true
 |.ldS _ _=>true
 |_=>false
def needsLd(o:Oper):Bool:=match o.op with
 |.load .. =>true
 |_=>false
def gkI:IOp->Bool
 |.st .. |.app .. |.apz .. |.mup .. |.cpy .. =>false
 |_=>true
def kindChk(o:Oper)(i:IOp):Bool:=isLd i==needsLd o&& gkI i==gk o

def compOp'(P:Program)(o:Oper):Option IOp:=
 match compOp P o.op with
 |some i=>if kindChk o i then some i else none
 |none=>none
variable {P:Program}{o:Oper}
theorem compOp'_ok{i:IOp}(h:compOp' P o=some i):compOp P o.op=some i∧isLd i=needsLd o∧gkI i=gk o:=by
 unfold compOp' at h;split at h
 . split at h
   . rename_i hk;cases h;simp only [kindChk,Am,beq_iff_eq] at hk;exact ⟨by assumption,hk⟩
   cases h
 cases h

def compO(P:Program)(all:Array Oper)(o:Oper):Option OpI:=
 match compOp' P o with
 |none=>none
 |some op=>match o.guard with
  |none=>some ⟨o.dst,op,none⟩
  |some (j,b)=>match (all[j]?).bind (·.dst) with
   |some d=>some ⟨o.dst,op,some (d,b)⟩
   |none=>none

variable {all:Array Oper}{io:OpI}
theorem compO_op'(h:compO P all o=some io):compOp' P o=some io.op∧io.dst=o.dst:=by
 unfold compO at h;split at h
 . cases h
 split at h
 . cases h;exact ⟨by assumption,rfl⟩
 split at h
 . cases h;exact ⟨by assumption,rfl⟩
 cases h
def q0H(h:compO P all o=some io):compOp P o.op=some io.op∧io.dst=o.dst:=
 ⟨(compOp'_ok (compO_op' h).1).1,(compO_op' h).2⟩

theorem q0t{t:List SV}(h:compO P all o=some io):
 (io.guard=none->wantedT all t o=some true)∧(∀d b v,io.guard=some (d,b)->t.getD d .any= .raw (.bool v)->wantedT all t o=some (v==b))∧(∀d b vs,io.guard=some (d,b)->t.getD d .any= .raw (.tuple vs)->wantedT all t o=some false):=by
 unfold compO at h;split at h
 . cases h
 split at h
 . rename_i hg;cases h;refine ⟨(fun _=>by unfold wantedT;rw [hg]),(fun d b v e=>by cases e),(fun d b v e=>by cases e)⟩
 rename_i hg;split at h
 . rename_i hd;cases h;refine ⟨(fun e=>by cases e),fun d b v e hv=> ?_,fun d b v e hv=> ?_⟩
   . cases e;unfold wantedT;rw [hg];simp only [hd,hv]
   cases e;unfold wantedT;rw [hg];simp only [hd,hv]
 cases h

inductive IC where
 |skip
 |reg (l:List OpI)
 |drw (l:List (Bool×OpI))
 |seq (a b:IC)
 |cond (c:Operand) (a b:IC)
 |blk (id:Nat) (c:IC)
 |loop (c:IC)
 |exit (id:Nat)
 |ret
 |rf (g:Operand) (ps:Array Tmp) (asg body:IC)        -- a loop over a function
 |scp (c:IC)
 |lbl (l:Nat)
 |hnd (all:Array Oper)        -- a region that is walked by hand

def isPureOp(P:Program)(o:Oper):Bool:=match o.op with
 |.convert _ d _=>match P.underlying d with
  |some (.slice _)=>false
  |_=>true
 |.move _|.assign _|.pick .. |.nilCheck _|.binOp .. |.unOp .. |.fieldAddr .. |.field .. |.indexAddr .. |.index .. |.extract .. |.makeFunc .. |.makeInterface .. |.build .. |.slice .. |.load .. |.lookup .. |.sliceToArrayPointer .. =>true
 |.call {callee:=.builtin .len,..}=>true
 |_=>false
def ldChk(all:Array Oper)(listed:Array Bool)(i:Nat):Bool:=match all[i]? with
 |some o=> !needsLd o||ldFree all listed i
 |none=>false
def isCv(o:Oper):Bool:=match o.op with
 |.convert .. =>true
 |.lookup .. =>true
 |_=>false
def ldChkS(all:Array Oper)(listed:Array Bool)(i:Nat):Bool:=match all[i]? with
 |some o=> !(needsLd o||isCv o) ||closedB all listed
 |none=>false
def toS:IOp->IOp
 |.ld ag x=>.ldS ag x
 |i=>i
def isCallOp(o:Oper):Bool:=match o.op with
 |.call {callee:=.value _,..}=>true
 |_=>false

def isBslOp(o:Oper):Bool:=match o.op with
 |.buildSlice .. =>true
 |_=>false

def nestB(all:Array Oper)(i:Nat):Bool:=match all[i]? with
 |some o=>match o.op,o.dst with
  |.buildSlice ..,some d=>all.toList.any fun o'=>match o'.op with
   |.buildSlice _ _ parts=>parts.toList.any fun p=>match p.2 with
    |.tmp d'=>d'==d
    |_=>false
   |_=>false
  |_,_=>false
 |none=>false
def chooseOp(P:Program)(all:Array Oper)(listed:Array Bool)(rd:List Nat):Option (Nat×Bool):=
 match rd.find? (fun i=>(match all[i]? with|some o=>isPureOp P o|none=>false) && Region.free .any all listed i&& ldChk all listed i) with
 |some i=>some (i,true)
 |none=>match rd with
  | [i]=>some (i,nestB all i&& Region.free .any all listed i)
  |_=>match rd.find? (fun i=>(match all[i]? with|some o=>isCallOp o|none=>false) && Region.free .any all listed i) with
   |some i=>some (i,true)
   |none=>match rd.find? (fun i=>(match all[i]? with|some o=>isPureOp P o|none=>false) && Region.free .any all listed i) with
    |some i=>some (i,true)
    |none=>match rd.find? (fun i=>(match all[i]? with|some o=>isBslOp o|none=>false) && Region.free .any all listed i) with
     |some i=>some (i,true)
     |none=>none

def planChk(all:Array Oper)(listed:Array Bool)(i:Nat)(fl:Bool):Bool:=
 if fl then (Region.ready .any all listed).contains i&& Region.free .any all listed i&& ldChkS all listed i else Region.ready .any all listed== [i]

def planL(P:Program)(all:Array Oper):Nat->Array Bool->Option (List (Bool×OpI))
 |0,listed=>if (Region.ready .any all listed).isEmpty then some [] else none
 |n+1,listed=>if (Region.ready .any all listed).isEmpty then some [] else
  match chooseOp P all listed (Region.ready .any all listed) with
  |some (i,fl)=>match all[i]? with
   |some o=>match compO P all o with
    |some io=>match planL P all n (listed.setIfInBounds i true) with
     |some l=>if planChk all listed i fl then some ((fl,if fl&& !ldChk all listed i then {io with op:=toS io.op} else io) :: l) else none
     |none=>none
    |none=>none
   |none=>none
  |none=>none

def compL(P:Program)(all:Array Oper):List Oper->Option (List OpI)
 | []=>some []
 |o :: l=>match compO P all o,compL P all l with
  |some io,some r=>some (io :: r)
  |_,_=>none

def comp(P:Program):Code->Option IC
 |.skip=>some .skip
 |.region _ all false=>(compL P all all.toList).map .reg
 |.region _ all true=>match planL P all all.size (Array.replicate all.size false) with
  |some l=>some (.drw l)
  |none=>some (.hnd all)
 |.seq a b=>match comp P a,comp P b with
  |some x,some y=>some (.seq x y)
  |_,_=>none
 |.cond c a b=>match comp P a,comp P b with
  |some x,some y=>some (.cond c x y)
  |_,_=>none
 |.block id c=>(comp P c).map (.blk id)
 |.loop c=>(comp P c).map .loop
 |.exit id=>some (.exit id)
 |.ret=>some .ret
 |.rangeFunc g ps a b=>match comp P a,comp P b with
  |some x,some y=>some (.rf g ps x y)
  |_,_=>none
 |.scope c=>(comp P c).map .scp
 |.label l=>some (.lbl l)
 |_=>none

inductive IT where
 |ic (c:IC)
 |ops (l:List OpI)
 |dops (G:List Nat) (l:List (Bool×OpI))
 |blk (id:Nat)
 |stop (Φ:List SV->List SObj->Prop)

structure IM where
 k0:Nat
 todo:List IT
 tmps:List SV
 heap:List SObj

def RelOps(P:Program)(all:Array Oper):List Nat->List OpI->Prop
 | [],[]=>True
 |i :: idx,io :: l=>(∃o,all[i]?=some o∧compO P all o=some io)∧RelOps P all idx l
 |_,_=>False

def RelT(P:Program):List IT->List It->Prop
 | [],k'=>k'= []
 |.ic c :: k,k'=>∃c' r,k'= .code c' :: r∧comp P c'=some c∧RelT P k r
 |.ops l :: k,k'=>∃all idx r,k'= .ops all idx :: r∧RelOps P all idx l∧RelT P k r
 |.dops _ _ :: _,_=>False
 |.blk id :: k,k'=>∃r,k'= .blk id :: r∧RelT P k r
 |.stop Φ :: k,k'=>∃r,k'= .stop Φ :: r∧RelT P k r

def SoundI[Ghost](P:Program)(AQ:Ex->List SV->List SObj->Prop)(m:IM):Prop:=
 match m.todo with
 |.dops G l :: k=>∀all listed fuel k',planL P all fuel listed=some l->RelT P k k'->AnyV P AQ m.k0 k' all G fuel listed m.tmps m.heap
 |td=>∀td',RelT P td td'->Sound P AQ ⟨m.k0,td',m.tmps,m.heap⟩

variable [Ghost] {P:Program} {AQ:Ex->List SV->List SObj->Prop} {k0:Nat} {k:List IT} {t:List SV} {H:List SObj}

def plainT:List IT->Bool
 | []=>true
 |.dops _ _ :: _=>false
 |_ :: _=>true

def q0f{td:List IT}(h:∀td',RelT P td td'->Sound P AQ ⟨k0,td',t,H⟩)(hp:plainT td=true):SoundI P AQ ⟨k0,td,t,H⟩:=by
 unfold SoundI;cases td with
 |nil=>exact h
 |cons x l=>cases x<;>first|exact h|simp [plainT] at hp
def q0g{td:List IT}{td':List It}(h:SoundI P AQ ⟨k0,td,t,H⟩)(hr:RelT P td td'):Sound P AQ ⟨k0,td',t,H⟩:=by
 unfold SoundI at h;cases td with
 |nil=>exact h _ hr
 |cons x l=>cases x<;>first|exact h _ hr| (simp only [RelT] at hr)

theorem j5j(h:AQ .normal t H):SoundI P AQ ⟨k0,[],t,H⟩:=q0f (fun td' hr=>by cases hr;exact z6g h) rfl

def CompInv(P:Program)(c:Code):IC->Prop
 |.skip=>c= .skip
 |.reg l=>∃id all,c= .region id all false∧compL P all all.toList=some l
 |.drw l=>∃id all,c= .region id all true∧planL P all all.size (Array.replicate all.size false)=some l
 |.seq x y=>∃a b,c= .seq a b∧comp P a=some x∧comp P b=some y
 |.cond e x y=>∃a b,c= .cond e a b∧comp P a=some x∧comp P b=some y
 |.blk id x=>∃a,c= .block id a∧comp P a=some x
 |.loop x=>∃a,c= .loop a∧comp P a=some x
 |.exit id=>c= .exit id
 |.ret=>c= .ret
 |.rf g ps x y=>∃a b,c= .rangeFunc g ps a b∧comp P a=some x∧comp P b=some y
 |.scp x=>∃a,c= .scope a∧comp P a=some x
 |.lbl l=>c= .label l
 |.hnd all=>∃id,c= .region id all true

theorem q0L{c:Code}{ic:IC}(h:comp P c=some ic):CompInv P c ic:=by
 cases c with
 |skip=>cases h;rfl
 |region id all d=>
  cases d with
  |false=>simp only [comp,Ap] at h;obtain ⟨l,hl,rfl⟩:=h;exact ⟨id,all,rfl,hl⟩
  |true=>
   simp only [comp] at h;split at h
   . cases h;exact ⟨id,all,rfl,by assumption⟩
   cases h;exact ⟨id,rfl⟩
 |seq a b=>
  simp only [comp] at h;split at h
  . cases h;exact ⟨a,b,rfl,by assumption,by assumption⟩
  cases h
 |cond e a b=>
  simp only [comp] at h;split at h
  . cases h;exact ⟨a,b,rfl,by assumption,by assumption⟩
  cases h
 |block id a=>simp only [comp,Ap] at h;obtain ⟨l,hl,rfl⟩:=h;exact ⟨a,rfl,hl⟩
 |loop a=>simp only [comp,Ap] at h;obtain ⟨l,hl,rfl⟩:=h;exact ⟨a,rfl,hl⟩
 |exit id=>cases h;rfl
 |ret=>cases h;rfl
 |rangeFunc g ps a b=>
  simp only [comp] at h;split at h
  . cases h;exact ⟨a,b,rfl,by assumption,by assumption⟩
  cases h
 |scope a=>simp only [comp,Ap] at h;obtain ⟨l,hl,rfl⟩:=h;exact ⟨a,rfl,hl⟩
 |label l=>cases h;rfl
 |_=>simp [comp] at h

theorem q7z{all:Array Oper}:∀ (n:Nat) {os:List Oper} {l:List OpI},(∀j,os[j]?=all[n+j]?)->compL P all os=some l->RelOps P all ((List.range os.length).map (n+ ·)) l
 |n,[],l,_,h=>by cases h;simp [RelOps]
 |n,o :: os,l,ho,h=>by
  simp only [compL] at h;split at h
  . cases h;rw [AK,B2,AC,BS];refine ⟨⟨o,by have:=ho 0;simpa using this.symm,by assumption⟩,?_⟩;have:=q7z (n+1) (os:=os) (fun j=>by have:=ho (j+1);simp at this;rw [this];congr 1;omega) (by assumption);have e:(fun x=>n+x) ∘Nat.succ=fun x=>n+1+x:=by funext x;simp;omega
    rw [e];exact this
  cases h

theorem j3U(h:SoundI P AQ ⟨k0,k,t,H⟩):SoundI P AQ ⟨k0,.ic .skip :: k,t,H⟩:=q0f (fun td' hr=>by
 obtain ⟨c',r,rfl,hc,hr⟩:=hr;obtain rfl:=q0L hc
 exact z5i (q0g h hr)) rfl
theorem j5Q{a b:IC}(h:SoundI P AQ ⟨k0,.ic a :: .ic b :: k,t,H⟩):SoundI P AQ ⟨k0,.ic (.seq a b) :: k,t,H⟩:=q0f (fun td' hr=>by
 obtain ⟨c',r,rfl,hc,hr⟩:=hr;obtain ⟨x,y,rfl,hx,hy⟩:=q0L hc
 exact z6p (q0g h ⟨x,_,rfl,hx,y,r,rfl,hy,hr⟩)) rfl
theorem j6L{c:IC}(h:SoundI P AQ ⟨k0,.ic c :: k,t,H⟩):SoundI P AQ ⟨k0,.ic (.scp c) :: k,t,H⟩:=q0f (fun td' hr=>by
 obtain ⟨c',r,rfl,hc,hr⟩:=hr;obtain ⟨x,rfl,hx⟩:=q0L hc
 exact z2A (q0g h ⟨x,_,rfl,hx,hr⟩)) rfl
theorem j6l{l:Nat}(h:SoundI P AQ ⟨k0,k,t,H⟩):SoundI P AQ ⟨k0,.ic (.lbl l) :: k,t,H⟩:=q0f (fun td' hr=>by
 obtain ⟨c',r,rfl,hc,hr⟩:=hr;obtain rfl:=q0L hc
 exact z2U (q0g h hr)) rfl
variable {id:Nat}
theorem j6N{c:IC}(h:SoundI P AQ ⟨k0,.ic c :: .blk id :: k,t,H⟩):SoundI P AQ ⟨k0,.ic (.blk id c) :: k,t,H⟩:=q0f (fun td' hr=>by
 obtain ⟨c',r,rfl,hc,hr⟩:=hr;obtain ⟨x,rfl,hx⟩:=q0L hc
 exact z1G (q0g h ⟨x,_,rfl,hx,r,rfl,hr⟩)) rfl
theorem z7U(h:SoundI P AQ ⟨k0,k,t,H⟩):SoundI P AQ ⟨k0,.blk id :: k,t,H⟩:=q0f (fun td' hr=>by
 obtain ⟨r,rfl,hr⟩:=hr
 exact z8h (q0g h hr)) rfl
theorem j3K{Φ:List SV->List SObj->Prop}(h:Φ t H):SoundI P AQ ⟨k0,.stop Φ :: k,t,H⟩:=q0f (fun td' hr=>by
 obtain ⟨r,rfl,hr⟩:=hr
 exact z5t h) rfl
theorem j5z(h:AQ .ret t H):SoundI P AQ ⟨k0,.ic .ret :: k,t,H⟩:=q0f (fun td' hr=>by
 obtain ⟨c',r,rfl,hc,hr⟩:=hr;obtain rfl:=q0L hc
 exact z6C h) rfl
def exitI(id:Nat):List IT->Option (List IT)
 | []=>none
 |.blk id' :: k=>if id'=id then some k else exitI id k
 |_ :: k=>exitI id k
theorem q2T{id:Nat}:∀ {k:List IT} {k':List IT} {r:List It},RelT P k r->exitI id k=some k'->∃r',exitTo' id r=some r'∧RelT P k' r'
 | [],_,_,_,h=>by simp [exitI] at h
 |.blk id' :: k,k',r,hr,h=>by
  obtain ⟨r1,rfl,hr⟩:=hr;unfold exitI at h;unfold exitTo';split at h
  . cases h;rw [if_pos (by assumption)];exact ⟨r1,rfl,hr⟩
  rw [if_neg (by assumption)];exact q2T hr h
 |.ic _ :: k,k',r,hr,h=>by obtain ⟨c',r1,rfl,_,hr⟩:=hr;exact q2T (k:=k) (k':=k') (r:=r1) hr h
 |.ops _ :: k,k',r,hr,h=>by obtain ⟨_,_,r1,rfl,_,hr⟩:=hr;exact q2T (k:=k) (k':=k') (r:=r1) hr h
 |.stop _ :: k,k',r,hr,h=>by obtain ⟨r1,rfl,hr⟩:=hr;exact q2T (k:=k) (k':=k') (r:=r1) hr h
 |.dops _ _ :: k,_,_,hr,_=>hr.elim
theorem j4S{k':List IT}(hk:exitI id k=some k')(h:SoundI P AQ ⟨k0,k',t,H⟩):SoundI P AQ ⟨k0,.ic (.exit id) :: k,t,H⟩:=q0f (fun td' hr=>by
 obtain ⟨c',r,rfl,hc,hr⟩:=hr;obtain rfl:=q0L hc;obtain ⟨r',h1,h2⟩:=q2T hr hk
 exact z5r h1 (q0g h h2)) rfl
theorem q2W{id:Nat}:∀ {k:List IT} {r:List It},RelT P k r->exitI id k=none->exitTo' id r=none
 | [],r,h,_=>by cases h;rfl
 |.blk id' :: k,r,h,hn=>by
  obtain ⟨r1,rfl,hr⟩:=h;unfold exitI at hn;unfold exitTo';split at hn
  . cases hn
  rw [if_neg (by assumption)];exact q2W hr hn
 |.ic _ :: k,r,h,hn=>by obtain ⟨c',r1,rfl,_,hr⟩:=h;exact q2W (k:=k) (r:=r1) hr hn
 |.ops _ :: k,r,h,hn=>by obtain ⟨_,_,r1,rfl,_,hr⟩:=h;exact q2W (k:=k) (r:=r1) hr hn
 |.stop _ :: k,r,h,hn=>by obtain ⟨r1,rfl,hr⟩:=h;exact q2W (k:=k) (r:=r1) hr hn
theorem j0g(hn:exitI id k=none)(h:AQ (.exit id) t H):SoundI P AQ ⟨k0,.ic (.exit id) :: k,t,H⟩:=q0f (fun td' hr E r n C a h0 hd=>by
 obtain ⟨c',r,rfl,hc,hr⟩:=hr;obtain rfl:=q0L hc;simp only [wpT]
 exact wpIn_exit (q2s (q2W hr hn) ⟨C,t,H,h,rfl,Den.fin hd⟩)) rfl
theorem j2P{c:Operand}{a b:IC}{v:Bool}(hc:evT t c= .raw (.bool v))(h1:v=true->SoundI P AQ ⟨k0,.ic a :: k,t,H⟩)(h2:v=false->SoundI P AQ ⟨k0,.ic b :: k,t,H⟩):SoundI P AQ ⟨k0,.ic (.cond c a b) :: k,t,H⟩:=q0f (fun td' hr=>by
 obtain ⟨c',r,rfl,hcc,hr⟩:=hr;obtain ⟨x,y,rfl,hx,hy⟩:=q0L hcc
 exact z4F hc (fun e=>q0g (h1 e) ⟨x,r,rfl,hx,hr⟩) (fun e=>q0g (h2 e) ⟨y,r,rfl,hy,hr⟩)) rfl
variable {l:List OpI}
theorem j7c(h:SoundI P AQ ⟨k0,.ops l :: k,t,H⟩):SoundI P AQ ⟨k0,.ic (.reg l) :: k,t,H⟩:=q0f (fun td' hr=>by
 obtain ⟨c',r,rfl,hc,hr⟩:=hr;obtain ⟨id,all,rfl,hl⟩:=q0L hc;have:=q7z (P:=P) (all:=all) 0 (os:=all.toList) (fun j=>by simp) hl;simp only [Ae,List.map_id',Au] at this
 exact z1w (q0g h ⟨all,_,r,rfl,this,hr⟩)) rfl
theorem z8A(h:SoundI P AQ ⟨k0,k,t,H⟩):SoundI P AQ ⟨k0,.ops [] :: k,t,H⟩:=q0f (fun td' hr=>by
 obtain ⟨all,idx,r,rfl,ho,hr⟩:=hr;cases idx with
 |nil=>exact z0i (q0g h hr)
 |cons i l=>exact ho.elim) rfl
theorem q1r{l:List (Bool×OpI)}(G:List Nat)(hm:P.follows .mixedOrders=true)(h:SoundI P AQ ⟨k0,.dops G l :: k,t,H⟩):SoundI P AQ ⟨k0,.ic (.drw l) :: k,t,H⟩:=q0f (fun td' hr=>by
 obtain ⟨c',r,rfl,hc,hr⟩:=hr;obtain ⟨id,all,rfl,hl⟩:=q0L hc
 exact z4N G hm (h all _ _ r hl hr)) rfl

def opK(P:Program)(AQ:Ex->List SV->List SObj->Prop)(k0:Nat)(td:List IT)(t:List SV)(d:Option Tmp):Out->List SObj->Prop
 |.ret s,H'=>SoundI P AQ ⟨k0,td,putT t d s,H'⟩
 |.pan s,H'=>AQ (.pan s) t H'

theorem j7r(hg:io.guard=none)(h:(io.op.ev H (evT t)).to P H (opK P AQ k0 (.ops l :: k) t io.dst)):SoundI P AQ ⟨k0,.ops (io :: l) :: k,t,H⟩:=q0f (fun td' hr=>by
 obtain ⟨all,idx,r,rfl,ho,hr⟩:=hr;cases idx with
 |nil=>exact ho.elim
 |cons i idx=>
  obtain ⟨⟨o,ho1,ho2⟩,ho⟩:=ho;obtain ⟨hc,hd⟩:=q0H ho2;refine q6I ho1 ((q0t ho2).1 hg) (OpV.mono (q2h hc h) fun x H' hx=> ?_);cases x with
  |ret s=>simp only [opK,hd] at hx;exact q0g hx ⟨all,idx,r,rfl,ho,hr⟩
  |pan s=>exact hx) rfl

def z1C{k:List It}(d:Nat){v b:Bool}(hv:t.getD d .any= .raw (.bool v))(e:v=b)(h:Sound P AQ ⟨k0,k,t.set d (.raw (.bool b)),H⟩):Sound P AQ ⟨k0,k,t,H⟩:=by
 subst e;have:t.set d (.raw (.bool v))=t:=by
  rcases AI d t.length with hl|hl
  . apply Bf;intro i;by_cases hi:i=d
    . subst hi;rw [Ar hl,<-hv,Aa,Ac hl];rfl
    rw [Aq (Ne.symm hi)]
  exact List.set_eq_of_length_le hl
 rwa [this] at h
end
section
open Go

variable [Ghost] {P:Program} {AQ:Ex->List SV->List SObj->Prop} {k0:Nat} {k:List IT} {t:List SV} {H:List SObj}

variable {d:Nat}{b:Bool}
theorem q1L{v:Bool}(hv:t.getD d .any= .raw (.bool v)):(t.set d (.raw (.bool b))).getD d .any= .raw (.bool b):=by
 rcases AI d t.length with hl|hl
 . rw [Aa,Ar hl];rfl
 rw [Aa,AW hl] at hv;simp at hv

variable {io:OpI}{l:List OpI}
theorem j1m{v:Bool}(hg:io.guard=some (d,b))(hv:t.getD d .any= .raw (.bool v))
 (h1:v=b->(io.op.ev H (evT (t.set d (.raw (.bool b))))).to P H (opK P AQ k0 (.ops l :: k) (t.set d (.raw (.bool b))) io.dst))
 (h2:v= !b->SoundI P AQ ⟨k0,.ops l :: k,putT (t.set d (.raw (.bool !b))) io.dst (.raw (.tuple #[])),H⟩):SoundI P AQ ⟨k0,.ops (io :: l) :: k,t,H⟩:=q0f (fun td' hr=>by
 obtain ⟨all,idx,r,rfl,ho,hr⟩:=hr;cases idx with
 |nil=>exact ho.elim
 |cons i idx=>
  obtain ⟨⟨o,ho1,ho2⟩,ho⟩:=ho;obtain ⟨hc,hd⟩:=q0H ho2;by_cases hb:v=b
  . refine z1C d hv hb ?_;refine q6I ho1 (by rw [(q0t ho2).2.1 d b b hg (q1L hv)];simp) (OpV.mono (q2h hc (h1 hb)) fun x H' hx=> ?_);cases x with
    |ret s=>simp only [opK,hd] at hx;exact q0g hx ⟨all,idx,r,rfl,ho,hr⟩
    |pan s=>exact hx
  have hb':v= !b:=by cases v<;>cases b<;>simp_all
  refine z1C d hv hb' ?_;refine q5p ho1 (by rw [(q0t ho2).2.1 d b (!b) hg (q1L hv)];simp) ?_;have:=h2 hb';rw [hd] at this
  exact q0g this ⟨all,idx,r,rfl,ho,hr⟩) rfl

variable {vs:Array Value}
theorem z6v(hg:io.guard=some (d,b))(hv:t.getD d .any= .raw (.tuple vs))
 (h2:SoundI P AQ ⟨k0,.ops l :: k,putT t io.dst (.raw (.tuple #[])),H⟩):SoundI P AQ ⟨k0,.ops (io :: l) :: k,t,H⟩:=q0f (fun td' hr=>by
 obtain ⟨all,idx,r,rfl,ho,hr⟩:=hr;cases idx with
 |nil=>exact ho.elim
 |cons i idx=>
  obtain ⟨⟨o,ho1,ho2⟩,ho⟩:=ho;obtain ⟨hc,hd⟩:=q0H ho2;refine q5p ho1 ((q0t ho2).2.2 d b vs hg hv) ?_;rw [hd] at h2
  exact q0g h2 ⟨all,idx,r,rfl,ho,hr⟩) rfl

variable {all:Array Oper}{fuel:Nat}{listed:Array Bool}{fl:Bool}{l:List (Bool×OpI)}
theorem q1q(h:planL P all fuel listed=some ((fl,io) :: l)):
 ∃n i o io0,fuel=n+1∧all[i]?=some o∧compO P all o=some io0∧planL P all n (listed.setIfInBounds i true)=some l∧
  planChk all listed i fl=true∧io.dst=io0.dst∧io.guard=io0.guard∧((io=io0∧(fl=true->ldChk all listed i=true))∨(fl=true∧io.op=toS io0.op)):=by
 cases fuel with
 |zero=>simp only [planL] at h;split at h<;>cases h
 |succ n=>
  simp only [planL] at h;split at h
  . cases h
  split at h
  . split at h
    . split at h
      . split at h
        . split at h
          . rename_i i fl' _ _ o ho _ io0 hio _ l' hl hc;simp only [Option.some.injEq,List.cons.injEq,Prod.mk.injEq] at h;obtain ⟨⟨rfl,rfl⟩,rfl⟩:=h;refine ⟨n,i,o,io0,rfl,ho,hio,hl,hc,?_⟩;cases hq:(fl'&& !ldChk all listed i) with
            |true=>simp only [if_true,true_and];rw [Am] at hq;exact .inr ⟨hq.1,trivial⟩
            |false=>simp only [AY,if_false,true_and];refine .inl fun hf=> ?_;rw [hf] at hq;simpa using hq
          cases h
        cases h
      cases h
    cases h
  cases h
theorem j2g(i:IOp)(H:List SObj)(ev:Operand->SV):(toS i).ev H ev=i.ev H ev:=by cases i<;>rfl
theorem z5C(h:planL P all fuel listed=some []):(Region.ready .any all listed).isEmpty=true:=by
 cases fuel with
 |zero=>
  simp only [planL] at h;split at h
  . assumption
  cases h
 |succ n=>
  simp only [planL] at h;split at h
  . assumption
  split at h
  . split at h
    . split at h
      . split at h
        . split at h<;>cases h
        cases h
      cases h
    cases h
  cases h

variable {G:List Nat}
def j6v(h:SoundI P AQ ⟨k0,k,t,H⟩):SoundI P AQ ⟨k0,.dops G [] :: k,t,H⟩:=by intro all listed fuel k' hp hr;exact any_nil (z5C hp) (q0g h hr)

def floatOk(G:List Nat)(ev:Operand->SV):IOp->Bool
 |.mov _|.pick .. |.nil _|.bin .. |.eqs .. |.un .. |.toInt .. |.fa .. |.fld .. |.ia .. |.ixs .. |.len .. |.ext .. |.mkf .. |.mke .. |.mki .. |.bld .. |.sl .. |.sl3 .. |.iaa .. |.sla .. |.ixd .. |.ixr .. |.s2a .. |.bdd .. |.sla3 .. =>true
 |.toStr _ x=>match ev x with
  |.bld .. =>false
  |.osl .. =>false
  |_=>true
 |.ld _ x=>match ev x with
  |.ptr h _=>G.contains h
  |.rptr h _ _ _=>G.contains h
  |_=>true
 |.ldS _ x=>match ev x with
  |.ptr h _=>(strictP G).contains h
  |.rptr h _ _ _=>(strictP G).contains h
  |_=>true
 |.mlk _ _ _ m _=>match ev m with
  |.imap .. =>true
  |_=>false
 |_=>false
variable {H':List SObj}{ev:Operand->SV}
theorem z3o{x:Operand}(hf:floatOk G ev (.toStr b x)=true):(IOp.toStr b x).ev H' ev=(IOp.toStr b x).ev H ev:=by
 cases b with
 |false=>rfl
 |true=>
  simp only [IOp.ev,floatOk] at*;generalize ev x=s at*;cases s with
  |bld h t n=>cases hf
  |osl h t off n=>cases hf
  |raw v=>cases v with
   |slice a n c=>cases a<;>cases n<;>cases c<;>rfl
   |_=>rfl
  |isl t xs=>cases t<;>rfl
  |_=>rfl
theorem z4b{kk:Option IntKind}{z:Value}{ok:Bool}{m k:Operand}(hf:floatOk G ev (.mlk kk z ok m k)=true):(IOp.mlk kk z ok m k).ev H' ev=(IOp.mlk kk z ok m k).ev H ev:=by simp only [IOp.ev,floatOk] at*;generalize ev m=s at*;cases s<;>first|rfl| (simp at hf;done)
variable {i:IOp}
theorem z2R(hf:floatOk G ev i=true)(hs:SameG G H H'):i.ev H' ev=i.ev H ev:=by
 cases i<;>first|rfl| (simp [floatOk] at hf;done) |skip
 case toStr b x=>exact z3o hf
 case mlk=>exact z4b hf
 case ld ag x=>
  simp only [IOp.ev,floatOk] at*;generalize ev x=s at*;cases s<;>first|rfl|skip
  . rename_i v;cases v<;>try rfl
    rename_i p;cases p<;>try rfl
    rename_i a;obtain ⟨b,off,sp⟩:=a;cases sp<;>rfl
  . simp only at hf;simp only [evLd];rw [hs _ (by simpa using hf)]
  simp only at hf;simp only [evLd];rw [hs _ (by simpa using hf)]
 case ldS ag x=>
  simp only [IOp.ev,floatOk] at*;generalize ev x=s at*;cases s<;>first|rfl|skip
  . rename_i v;cases v<;>try rfl
    rename_i p;cases p<;>try rfl
    rename_i a;obtain ⟨b,off,sp⟩:=a;cases sp<;>rfl
  . simp only at hf;simp only [evLd];rw [hs _ (q2x (by simpa using hf))]
  simp only at hf;simp only [evLd];rw [hs _ (q2x (by simpa using hf))]

theorem floatS(h:floatOk G ev (toS i)=true):floatOk G ev i=true∧(isLd i=true->∀H H',SameG (strictP G) H H'->i.ev H' ev=i.ev H ev):=by
 cases i<;>first|exact ⟨h,fun hl=>absurd hl Bool.false_ne_true⟩ |skip
 case ld ag x=>simp only [toS,floatOk] at h;refine ⟨?_,fun _ H H' hs=>z2R (G:=strictP G) (by simp only [floatOk];exact h) hs⟩;simp only [floatOk];generalize ev x=s at*;cases s<;>first|rfl| (simp only [List.contains_iff_mem] at h⊢;exact q2x h)
 case ldS ag x=>refine ⟨h,fun _ H H' hs=> ?_⟩;simp only [toS,floatOk] at h;exact z2R (i:=.ld ag x) (G:=strictP G) (by simp only [floatOk];exact h) hs
variable {i:Nat}
def float0{io0:OpI}(hop:(io=io0∧(fl=true->ldChk all listed i=true))∨(fl=true∧io.op=toS io0.op))(hfl:fl=true)(hf:floatOk G ev io.op=true):
 floatOk G ev io0.op=true∧(∀H,io.op.ev H ev=io0.op.ev H ev)∧(isLd io0.op=true->ldChk all listed i=true∨∀H H',SameG (strictP G) H H'->io0.op.ev H' ev=io0.op.ev H ev):=by
 rcases hop with ⟨rfl,h⟩ | ⟨_,h⟩
 . exact ⟨hf,fun _=>rfl,fun _=>.inl (h hfl)⟩
 rw [h] at hf;have h1:=floatS hf;exact ⟨h1.1,fun H=>by rw [h,j2g],fun hl=>.inr (h1.2 hl)⟩
theorem op0{io0:OpI}(hop:(io=io0∧(fl=true->ldChk all listed i=true))∨(fl=true∧io.op=toS io0.op))(H:List SObj):io.op.ev H ev=io0.op.ev H ev:=by
 rcases hop with ⟨rfl,h⟩ | ⟨_,h⟩
 . rfl
 rw [h,j2g]
variable {i:IOp}
theorem z3z(hf:floatOk G ev i=true)(hl:isLd i=false):i.ev H' ev=i.ev H ev:=by
 cases i<;>first|rfl| (simp [floatOk] at hf;done) | (simp [isLd] at hl;done) |skip
 case toStr b x=>exact z3o hf
 case mlk=>exact z4b hf
variable {o:Oper}
def z1E(h:compO P all o=some io)(hl:isLd io.op=true):needsLd o=true:=by rw [<- (compOp'_ok (compO_op' h).1).2.1];exact hl
def j0X(h:compO P all o=some io):gk o=gkI io.op:=(compOp'_ok (compO_op' h).1).2.2.symm

def q1G{i:Nat}(h:planChk all listed i true=true):((Region.ready .any all listed).contains i&& Region.free .any all listed i)=true∧ldChkS all listed i=true:=by simp only [planChk,if_true] at h;rw [Am] at h;exact h

variable {p:Prop}{s:SV}{k':List It}
def z4p{i n:Nat}(ho:all[i]?=some o)(hc:compO P all o=some io)(hw:wantedT all t o=some true)(hf:floatOk G (evT t) io.op=true)(he:io.op.ev H (evT t)= .val p s)(hp:p)(hL:isLd io.op=true->ldChk all listed i=true∨∀H H',SameG (strictP G) H H'->io.op.ev H' (evT t)=io.op.ev H (evT t))
 (hB:planChk all listed i true=true)(h:AnyV P AQ k0 k' all G n (listed.setIfInBounds i true) (putT t o.dst s) H):AnyV P AQ k0 k' all G (n+1) listed t H:=by
 obtain ⟨h1,h2⟩:=q1G hB;cases hl:isLd io.op with
 |false=>exact q3C h1 ho (.inl ⟨hw,fun H' _ K hk=>q2h (q0H hc).1 (by rw [z3z (H:=H) hf hl,he];exact ⟨hp,hk⟩)⟩) h
 |true=>
  rcases hL hl with h3|h3
  . have hL:ldFree all listed i=true:=by simp only [ldChk,ho,z1E hc hl] at h3;simpa using h3
    exact z4Z h1 hL ho (.inl ⟨hw,fun H' hs K hk=>q2h (q0H hc).1 (by rw [z2R hf hs,he];exact ⟨hp,hk⟩)⟩) h
  have hL:closedB all listed=true:=by simp only [ldChkS,ho,z1E hc hl] at h2;simpa using h2
  exact q8I h1 hL ho (.inl ⟨hw,fun H' hs K hk=>q2h (q0H hc).1 (by rw [h3 _ _ hs,he];exact ⟨hp,hk⟩)⟩) h

def j0N(hg:io.guard=none)(hf:floatOk G (evT t) io.op=true)(he:io.op.ev H (evT t)= .val p s)(hp:p)(h:SoundI P AQ ⟨k0,.dops G l :: k,putT t io.dst s,H⟩):
 SoundI P AQ ⟨k0,.dops G ((true,io) :: l) :: k,t,H⟩:=by
 intro all listed fuel k' hpl hr;obtain ⟨n,i,o,io0,rfl,ho,hco,hpl',hB,hdst,hgd,hop⟩:=q1q hpl;obtain ⟨hf0,he0,hL⟩:=float0 hop rfl hf;refine z4p ho hco ((q0t hco).1 (hgd▸hg)) hf0 ((he0 H).symm.trans he) hp hL hB ?_;rw [<- (q0H hco).2,<-hdst];exact h all _ n k' hpl' hr

def z3U(d:Nat){v:Bool}(hv:t.getD d .any= .raw (.bool v))(e:v=b)(h:AnyV P AQ k0 k' all G fuel listed (t.set d (.raw (.bool b))) H):AnyV P AQ k0 k' all G fuel listed t H:=by
 subst e;have:t.set d (.raw (.bool v))=t:=by
  rcases AI d t.length with hl|hl
  . apply Bf;intro i;by_cases hi:i=d
    . subst hi;rw [Ar hl,<-hv,Aa,Ac hl];rfl
    rw [Aq (Ne.symm hi)]
  exact List.set_eq_of_length_le hl
 rwa [this] at h

theorem j0G{v:Bool}(hg:io.guard=some (d,b))(hv:t.getD d .any= .raw (.bool v))
 (h1:v=b->SoundI P AQ ⟨k0,.dops G ((fl,{io with guard:=some (d,b)}) :: l) :: k,t.set d (.raw (.bool b)),H⟩)
 (h2:v= !b->SoundI P AQ ⟨k0,.dops G ((fl,{io with guard:=some (d,b)}) :: l) :: k,t.set d (.raw (.bool !b)),H⟩):SoundI P AQ ⟨k0,.dops G ((fl,io) :: l) :: k,t,H⟩:=by
 have hio:{io with guard:=some (d,b)}=io:=by cases io;simp at hg;subst hg;rfl
 rw [hio] at h1 h2;intro all listed fuel k' hpl hr;by_cases hb:v=b
 . exact z3U d hv hb (h1 hb all listed fuel k' hpl hr)
 have hb':v= !b:=by cases v<;>cases b<;>simp_all
 exact z3U d hv hb' (h2 hb' all listed fuel k' hpl hr)

def z5m(hg:io.guard=some (d,b))(hv:t.getD d .any= .raw (.bool b))(hf:floatOk G (evT t) io.op=true)(he:io.op.ev H (evT t)= .val p s)(hp:p)(h:SoundI P AQ ⟨k0,.dops G l :: k,putT t io.dst s,H⟩):
 SoundI P AQ ⟨k0,.dops G ((true,io) :: l) :: k,t,H⟩:=by
 intro all listed fuel k' hpl hr;obtain ⟨n,i,o,io0,rfl,ho,hco,hpl',hB,hdst,hgd,hop⟩:=q1q hpl;obtain ⟨hf0,he0,hL⟩:=float0 hop rfl hf;refine z4p ho hco (by rw [(q0t hco).2.1 d b b (hgd▸hg) hv];simp) hf0 ((he0 H).symm.trans he) hp hL hB ?_;rw [<- (q0H hco).2,<-hdst];exact h all _ n k' hpl' hr
def z3Q{i:Nat}(fl:Bool)(hB:planChk all listed i fl=true)(ho:all[i]?=some o)(hw:wantedT all t o=some false)
 (h:AnyV P AQ k0 k' all G fuel (listed.setIfInBounds i true) (putT t o.dst (.raw (.tuple #[]))) H):AnyV P AQ k0 k' all G (fuel+1) listed t H:=by
 cases fl with
 |true=>exact j0u (q1G hB).1 ho hw h
 |false=>
  have hB':Region.ready .any all listed= [i]:=by simpa [planChk] using hB
  refine ⟨fun h0=>(by rw [hB'] at h0;cases h0),fun j hj=> ?_⟩;rw [hB'] at hj;obtain rfl:j=i:=by simpa using hj
  exact ⟨o,ho,.inr ⟨hw,SameG.refl _ _,h⟩⟩
def j3g(hg:io.guard=some (d,b))(hv:t.getD d .any= .raw (.bool !b))(h:SoundI P AQ ⟨k0,.dops G l :: k,putT t io.dst (.raw (.tuple #[])),H⟩):
 SoundI P AQ ⟨k0,.dops G ((fl,io) :: l) :: k,t,H⟩:=by
 intro all listed fuel k' hpl hr;obtain ⟨n,i,o,io0,rfl,ho,hco,hpl',hB,hdst,hgd,hop⟩:=q1q hpl;refine z3Q fl hB ho (by rw [(q0t hco).2.1 d b (!b) (hgd▸hg) hv];simp) ?_;rw [<- (q0H hco).2,<-hdst];exact h all _ n k' hpl' hr

def j0t(hg:io.guard=some (d,b))(hv:t.getD d .any= .raw (.tuple vs))(h:SoundI P AQ ⟨k0,.dops G l :: k,putT t io.dst (.raw (.tuple #[])),H⟩):
 SoundI P AQ ⟨k0,.dops G ((fl,io) :: l) :: k,t,H⟩:=by
 intro all listed fuel k' hpl hr;obtain ⟨n,i,o,io0,rfl,ho,hco,hpl',hB,hdst,hgd,hop⟩:=q1q hpl;refine z3Q fl hB ho ((q0t hco).2.2 d b vs (hgd▸hg) hv) ?_;rw [<- (q0H hco).2,<-hdst];exact h all _ n k' hpl' hr

def opKG(P:Program)(AQ:Ex->List SV->List SObj->Prop)(k0:Nat)(g:Bool)(G:List Nat)(H:List SObj)(td:List IT)(t:List SV)(d:Option Tmp):Out->List SObj->Prop
 |.ret s,H'=>(g=true->SameG G H H')∧SoundI P AQ ⟨k0,td,putT t d s,H'⟩
 |.pan s,H'=>AQ (.pan s) [] H'
def j1F(hg:io.guard=none∨∃d b,io.guard=some (d,b)∧t.getD d .any= .raw (.bool b))(h:(io.op.ev H (evT t)).to P H (opKG P AQ k0 true (if gkI io.op then G else strictP G) H (.dops G l :: k) t io.dst)):
 SoundI P AQ ⟨k0,.dops G ((false,io) :: l) :: k,t,H⟩:=by
 intro all listed fuel k' hpl hr;obtain ⟨n,i,o,io0,rfl,ho,hco,hpl',hB,hdst,hgd,hop⟩:=q1q hpl;have hw:wantedT all t o=some true:=by
  rcases hg with hg| ⟨d,b,hg,hv⟩
  . exact (q0t hco).1 (hgd▸hg)
  rw [(q0t hco).2.1 d b b (hgd▸hg) hv];simp
 obtain ⟨rfl, -⟩:io=io0∧True:=by
  rcases hop with h|h
  . exact ⟨h.1,trivial⟩
  cases h.1
 refine j2M hB ho hw (OpV.mono (q2h (q0H hco).1 h) fun x H' hx=> ?_);cases x with
 |ret s=>simp only [opKG,(q0H hco).2] at hx;refine ⟨?_,hx.2 all _ n k' hpl' hr⟩;simp only [gsel,ho];rw [j0X hco];exact hx.1 trivial
 |pan s=>exact hx

def j4M{f:FuncId}{args:List SV}(hg:io.guard=none∨∃d b,io.guard=some (d,b)∧t.getD d .any= .raw (.bool b))(he:∀H',io.op.ev H' (evT t)= .call f args)(hf:enters P f=true)
 (hc:∀ (H':List SObj) (K:Out->List SObj->Prop),K (.ret s) H'->VCallG P f args H' K)(h:SoundI P AQ ⟨k0,.dops G l :: k,putT t io.dst s,H⟩):
 SoundI P AQ ⟨k0,.dops G ((true,io) :: l) :: k,t,H⟩:=by
 intro all listed fuel k' hpl hr;obtain ⟨n,i,o,io0,rfl,ho,hco,hpl',hB,hdst,hgd,hop⟩:=q1q hpl;have hw:wantedT all t o=some true:=by
  rcases hg with hg| ⟨d,b,hg,hv⟩
  . exact (q0t hco).1 (hgd▸hg)
  rw [(q0t hco).2.1 d b b (hgd▸hg) hv];simp
 refine q3C (q1G hB).1 ho (.inl ⟨hw,fun H' _ K hk=>q2h (q0H hco).1 (by rw [<-op0 hop H',he H'];exact ⟨hf,hc H' K hk⟩)⟩) ?_;rw [<- (q0H hco).2,<-hdst];exact h all _ n k' hpl' hr
variable {ag:Option Nat}
theorem z9S{v:Value}:evLd H' ag (.raw v)=evLd H ag (.raw v):=by
 cases v<;>try rfl
 rename_i p;cases p<;>try rfl
 rename_i a;obtain ⟨b,off,sp⟩:=a;cases sp<;>rfl
def z3a{ag':Option Nat}{b off:Nat}(h:evLd H ag' s= .zld ag b off):evLd H' ag' s= .zld ag b off:=by
 cases s with
 |raw v=>rw [z9S (H:=H)];exact h
 |ptr x k=>simp only [evLd] at h;repeat' (first| (cases h;done) |split at h)
 |rptr x t i k=>simp only [evLd,ldRow] at h;repeat' (first| (cases h;done) |split at h)
 |_=>exact h
theorem j5E{b off:Nat}(hf:floatOk G ev i=true)(h:i.ev H ev= .zld ag b off):i.ev H' ev= .zld ag b off:=by
 cases hl:isLd i with
 |false=>rw [z3z (H:=H) hf hl];exact h
 |true=>
  cases i<;>first| (cases hl;done) |skip
  case ld ag' x=>exact z3a h
  case ldS ag' x=>exact z3a h
def j5t{b off:Nat}(hg:io.guard=none∨∃d b,io.guard=some (d,b)∧t.getD d .any= .raw (.bool b))(he:∀H',io.op.ev H' (evT t)= .zld ag b off)
 (hc:∀ (E:EnD) (C:Cx) (H':List SObj),Wd C H'->Ghost.inv E C H'->ZLd C ag b off s)(h:SoundI P AQ ⟨k0,.dops G l :: k,putT t io.dst s,H⟩):
 SoundI P AQ ⟨k0,.dops G ((true,io) :: l) :: k,t,H⟩:=by
 intro all listed fuel k' hpl hr;obtain ⟨n,i,o,io0,rfl,ho,hco,hpl',hB,hdst,hgd,hop⟩:=q1q hpl;have hw:wantedT all t o=some true:=by
  rcases hg with hg| ⟨d,b,hg,hv⟩
  . exact (q0t hco).1 (hgd▸hg)
  rw [(q0t hco).2.1 d b b (hgd▸hg) hv];simp
 refine q3C (q1G hB).1 ho (.inl ⟨hw,fun H' _ K hk=>q2h (q0H hco).1 (by rw [<-op0 hop H',he H'];exact fun E C hw hi=>⟨s,hc E C H' hw hi,hk⟩)⟩) ?_;rw [<- (q0H hco).2,<-hdst];exact h all _ n k' hpl' hr
section
variable {o:Oper} {ev:Operand->SV} {K:Out->List SObj->Prop}
def j0k{C:Cx}{w':World}(hw:Wd C H)(hs:C.w.heap.size<=w'.heap.size)(hb:∀b,b<C.w.heap.size->w'.heap[b]?=C.w.heap[b]?)(h1:w'.os=C.w.os)(h2:w'.tape=C.w.tape)(h3:w'.output=C.w.output):
 Wd {C with w:=w'} H∧Ext ⟨C,H⟩ {C with w:=w'} H:=by
 have he:Evo C {C with w:=w'}:=⟨Af _,fun _ _=>rfl,fun b hI=>⟨hI,hb b (hw.imm b hI)⟩,fun b m hm=>by
  have hlt:=q9P hm;unfold World.bsize at hm⊢
  rw [hb b hlt];exact hm⟩
 refine ⟨⟨hw.n,fun h o ho=> ?_,fun b hb'=> ?_,hw.inj,fun b hI=>An (hw.imm b hI) hs⟩,⟨he,hs,h1,h2,h3,fun b hb' _=>hb b hb',fun b hI=>.inl hI,fun b hb'=>.inr hb',fun _ _ h=>h⟩⟩
 . by_cases hl:o.live=true
   . exact q0E (C':={C with w:=w'}) he.I h rfl (fun b hb'=>hb b (hw.own b ⟨h,o,ho,hl,hb'⟩).2) (q0h he) (hw.obj h o ho)
   cases o<;>first|trivial|simp [SObj.live] at hl
 obtain ⟨h1,h2⟩:=hw.own b hb';exact ⟨h1,An h2 hs⟩
theorem j1n{T e:TypeId}{ty:Ty}{len sz:Nat}{parts:Array (Nat×Operand)}{zs:List Value}{cs:List SV}{xs:List ty.den}(hop:o.op= .buildSlice T len parts)(ht:P.underlying T=some (.slice e))(hs:(P.info? e).map (·.size)=some sz)
 (hz:zerosOf P e len=some zs)(hf:fillS (PlaceK.arr sz).fn (rawL zs) (parts.toList.map fun p=>(p.1,ev p.2))=some cs)(hr:rdL ty len cs=some (xs,p))(hp:p)(hl:len<=1125899906842624)
 (hk:K (.ret (.fsl ty xs)) H):OpV P o ev H K:=by
 refine q0O (by rw [hop];intro c hc;cases hc) fun C e' hw hv=> ?_;rw [hop] at hv;simp only [Op.operands] at hv;obtain ⟨us,h1,h2⟩:=q2O (C:=C) (e:=e') (parts:=parts) (fun q hq=>hv q.2 (by simpa using ⟨q.1,by simpa using hq⟩)) hf;obtain ⟨g1,g2⟩:=q9K len cs xs p us hr hp h2;have hrun:(execOp e' o).run P C.w= .ok (.value (.slice (some ⟨C.w.heap.size,0,none⟩) len len)) (C.w.alloc (.cells us.toArray e)):=by
  unfold zerosOf at hz;cases hi:P.info? e with
  |none=>simp [hi] at hz
  |some i=>
   simp only [hi] at hz;cases hz0:i.zero with
   |none=>simp [hz0] at hz
   |some z=>
    simp only [hz0] at hz;split at hz
    . rename_i hle;have hsi:i.size=sz:=by simpa [hi] using hs
      cases hz;simp only [execOp,hop,Sem.run_bind,Instr.buildSlice,run_underlying' ht,Result.andThen,q0m hs,Sem.run_ite];rw [hsi] at h1 hle;rw [if_neg (by omega)];have hzr:(zeroValue e).run P C.w= .ok z C.w:=by simp [zeroValue,typeInfo,hi,hz0]
      have h1':=h1;simp only [CF] at h1';by_cases h0:len*sz=0
      . simp only [if_pos h0,Sem.run_pure] at h1'⊢
        erw [h1']
        simp [newRow]
      simp only [if_neg h0,hzr,Sem.run_pure] at h1'⊢
      erw [h1']
      simp [newRow]
    cases hz
 have hsz:(C.w.alloc (.cells us.toArray e)).heap.size=C.w.heap.size+1:=Array.size_push _;obtain ⟨w1,w2⟩:=j0k (w':=C.w.alloc (.cells us.toArray e)) hw (by rw [hsz];exact CE _) (fun b hb=>q1x _ _ hb) rfl rfl rfl;have hnew:(C.w.alloc (.cells us.toArray e)).heap[C.w.heap.size]?=some (.cells us.toArray e (0,0)):=q1y _ _
 let C':Cx:={C with w:=C.w.alloc (.cells us.toArray e),I:=fun b=>C.I b∨b=C.w.heap.size}
 have hI:Keeps C.I C'.I C.w C'.w:=fun b hb=>⟨.inl hb,(w2.evo.I b hb).2⟩;have he:Evo C C':=⟨Af _,fun _ _=>rfl,hI,w2.evo.sz⟩;have hnown:∀b,OwnB C H b->b≠C.w.heap.size:=fun b hb=>Nat.ne_of_lt (hw.own b hb).2;refine ⟨.fsl ty xs,.slice (some ⟨C.w.heap.size,0,none⟩) len len,H,C',hk,.inl hrun,⟨hw.n,fun h x hx=> ?_,fun b hb=> ?_,hw.inj,fun b hb=> ?_⟩,⟨he,w2.size,w2.os,w2.tape,w2.output,w2.frame,fun b hb=> ?_,w2.ownNew,w2.keep0⟩,?_⟩
 . by_cases hl:x.live=true
   . exact q0E (C':=C') hI h rfl (fun b hb=>q1x _ _ (hw.own b ⟨h,x,hx,hl,hb⟩).2) (q0h he) (hw.obj h x hx)
   cases x<;>first|trivial|simp [SObj.live] at hl
 . have:=hw.own b hb;exact ⟨fun hi=>hi.elim this.1 (hnown b hb),by show b< (C.w.alloc _).heap.size;rw [hsz];omega⟩
 . show b< (C.w.alloc _).heap.size;rw [hsz];exact hb.elim (fun x=>Nat.lt_succ_of_lt (hw.imm b x)) fun x=>by rw [x];exact Nat.lt_succ_self _
 . refine orMap hb id fun x=>⟨.inl (Db x.symm),fun c T' fz hc=> ?_⟩;subst x;have hc':(C.w.alloc (.cells us.toArray e)).heap[C.w.heap.size]?=_:=hc;rw [hnew] at hc';cases hc';simp
 rw [SV.den];refine ⟨⟨_,len,len,rfl,g2.symm,Af _,hl,.inr ⟨C.w.heap.size,0,rfl,.inr rfl,fun i x hx=> ?_⟩⟩,_,by rw [g2]⟩;obtain ⟨us',q1,q2⟩:=q8Y g1 i x hx;refine ⟨us',Ty.rel_keep hI _ _ _ q1,fun k u hu=> ?_⟩;show (C.w.alloc _).cell? _=_;rw [Ae,q0o hnew];exact q2 k u hu

theorem j4h{op:Op}{ty:Ty}{n sz:Nat}{zs:List Value}{ps:List (Nat×Operand)}(h:compOp P op=some (.bsl ty n sz zs ps))(hn:∀T n ps,op≠ .buildSlice T n ps):False:=by
 unfold compOp at h;repeat' split at h
 all_goals first
  |exact hn _ _ _ rfl
  |contradiction
  | (simp only [Bc,Ap,Option.some.injEq,reduceCtorEq,and_false,exists_false] at h;done)
  | (simp [Bc] at h;done)
end
def isBslI:IOp->Bool
 |.bsl .. =>true
 |_=>false
theorem j4y(h:isBslI (toS i)=true):toS i=i:=by cases i<;>first|rfl|cases h
theorem z6W{t:Ty}:∀ (n:Nat) (cs:List SV) (xs:List t.den) (p:Prop),rdL t n cs=some (xs,p)->xs.length=n
 |0,[],xs,p,h=>by cases h;rfl
 |0,_ :: _,xs,p,h=>by simp [rdL] at h
 |n+1,cs,xs,p,h=>by
  simp only [rdL] at h;split at h
  . cases h;rename_i hr;rw [AK,z6W n _ _ _ hr]
  cases h
theorem j6W{Hk:List SObj}{ty:Ty}{xs:List ty.den}(hg:io.guard=none∨∃d b,io.guard=some (d,b)∧t.getD d .any= .raw (.bool b))(hb:isBslI io.op=true)(he:io.op.ev H (evT t)= .new p s Hk (.row ty xs))(hp:p)(hl:xs.length<=1125899906842624)
 (h:SoundI P AQ ⟨k0,.dops G l :: k,putT t io.dst (.fsl ty xs),H⟩):SoundI P AQ ⟨k0,.dops G ((true,io) :: l) :: k,t,H⟩:=by
 intro all listed fuel k' hpl hr;obtain ⟨n,i,o,io0,rfl,ho,hco,hpl',hB,hdst,hgd,hop⟩:=q1q hpl;have hw:wantedT all t o=some true:=by
  rcases hg with hg| ⟨d,b,hg,hv⟩
  . exact (q0t hco).1 (hgd▸hg)
  rw [(q0t hco).2.1 d b b (hgd▸hg) hv];simp
 have hio:io0.op=io.op:=by
  rcases hop with ⟨rfl,_⟩ | ⟨_,h1⟩
  . rfl
  rw [h1] at hb;rw [h1,j4y hb]
 have hcp:=(q0H hco).1;rw [hio] at hcp;refine q3C (q1G hB).1 ho (.inl ⟨hw,fun H' _ K hk=> ?_⟩) (by rw [<- (q0H hco).2,<-hdst];exact h all _ n k' hpl' hr);cases hx:io.op with
 |bsl ty' m sz zs ps=>
  rw [hx] at he hcp;simp only [IOp.ev] at he;split at he
  . rename_i cs hf;split at he
    . rename_i ys q hr';cases he;cases hop:o.op with
      |buildSlice T n' parts=>
       rw [hop] at hcp;simp only [compOp] at hcp;split at hcp
       . rename_i e hT;split at hcp
         . rename_i ty2 sz' zs' h1 h2 h3;cases hcp;exact j1n hop hT h2 h3 hf hr' hp (z6W _ _ _ _ hr'▸hl) hk
         . cases hcp
         cases hcp
       cases hcp
      |_=>exact (j4h hcp (by rw [hop];intro _ _ _ h;cases h)).elim
    cases he
  cases he
 |_=>rw [hx] at hb;cases hb
end
section
open Go

variable [Ghost] {P:Program} {AQ:Ex->List SV->List SObj->Prop} {k0:Nat} {k:List IT} {t:List SV} {H:List SObj}

def VC(P:Program)(f:FuncId)(args:List SV)(H:List SObj)(K:Out->List SObj->Prop):Prop:=enters P f=true∧VCall P f args H K
def VCG(P:Program)(f:FuncId)(args:List SV)(H:List SObj)(K:Out->List SObj->Prop):Prop:=enters P f=true∧VCallG P f args H K
def VC.g{f:FuncId}{args:List SV}{K:Out->List SObj->Prop}(h:VC P f args H K):VCG P f args H K:=⟨h.1,h.2.g⟩

def CallI(P:Program)(AQ:Ex->List SV->List SObj->Prop)(f:FuncId)(args:List SV)(d:Option Tmp)(m:IM):Prop:=
 VCG P f args m.heap (opK P AQ m.k0 m.todo m.tmps d)
def CallR(P:Program)(AQ:Ex->List SV->List SObj->Prop)(G:List Nat)(f:FuncId)(args:List SV)(d:Option Tmp)(m:IM):Prop:=
 VCG P f args m.heap (opKG P AQ m.k0 true G m.heap m.todo m.tmps d)
def CallF(P:Program)(AQ:Ex->List SV->List SObj->Prop)(f:FuncId)(args:List SV)(d:Option Tmp)(m:IM):Prop:=
 ∃s,enters P f=true∧(∀ (H':List SObj) (K:Out->List SObj->Prop),K (.ret s) H'->VCallG P f args H' K)∧SoundI P AQ {m with tmps:=putT m.tmps d s}

def ZldF(P:Program)(AQ:Ex->List SV->List SObj->Prop)(ag:Option Nat)(b off:Nat)(d:Option Tmp)(m:IM):Prop:=
 ∃s,(∀ (E:EnD) (C:Cx) (H':List SObj),Wd C H'->Ghost.inv E C H'->ZLd C ag b off s)∧SoundI P AQ {m with tmps:=putT m.tmps d s}
def ZldI(P:Program)(AQ:Ex->List SV->List SObj->Prop)(ag:Option Nat)(b off:Nat)(d:Option Tmp)(m:IM):Prop:=(Res.zld ag b off).to P m.heap (opK P AQ m.k0 m.todo m.tmps d)
def ZstI(P:Program)(AQ:Ex->List SV->List SObj->Prop)(n b off:Nat)(y:SV)(d:Option Tmp)(m:IM):Prop:=(Res.zst n b off y).to P m.heap (opK P AQ m.k0 m.todo m.tmps d)
def ZldR(P:Program)(AQ:Ex->List SV->List SObj->Prop)(g:Bool)(G:List Nat)(ag:Option Nat)(b off:Nat)(d:Option Tmp)(m:IM):Prop:=(Res.zld ag b off).to P m.heap (opKG P AQ m.k0 g G m.heap m.todo m.tmps d)
def ZstR(P:Program)(AQ:Ex->List SV->List SObj->Prop)(g:Bool)(G:List Nat)(n b off:Nat)(y:SV)(d:Option Tmp)(m:IM):Prop:=(Res.zst n b off y).to P m.heap (opKG P AQ m.k0 g G m.heap m.todo m.tmps d)
def YldI(P:Program)(AQ:Ex->List SV->List SObj->Prop)(l:Nat)(args:List SV)(d:Option Tmp)(m:IM):Prop:=(Res.yld l args).to P m.heap (opK P AQ m.k0 m.todo m.tmps d)
def YldR(P:Program)(AQ:Ex->List SV->List SObj->Prop)(g:Bool)(G:List Nat)(l:Nat)(args:List SV)(d:Option Tmp)(m:IM):Prop:=(Res.yld l args).to P m.heap (opKG P AQ m.k0 g G m.heap m.todo m.tmps d)

def exec(P:Program)(AQ:Ex->List SV->List SObj->Prop)(rec:IM->Prop)(k0:Nat)(td:List IT)(t:List SV)(H:List SObj)(d:Option Tmp):Res->Prop
 |.val p s=>p∧rec ⟨k0,td,putT t d s,H⟩
 |.amb E s=>∀b:Bool,(b=true->E)->rec ⟨k0,td,putT t d (s b),H⟩
 |.new p s Hk so=>p∧rec ⟨k0,td,putT t d s,Hk++ [so]⟩
 |.set s h so=>rec ⟨k0,td,putT t d s,H.set h so⟩
 |.setp p s h so=>p∧rec ⟨k0,td,putT t d s,H.set h so⟩
 |.call f args=>CallI P AQ f args d ⟨k0,td,t,H⟩
 |.zld ag b off=>ZldI P AQ ag b off d ⟨k0,td,t,H⟩
 |.zst n b off y=>ZstI P AQ n b off y d ⟨k0,td,t,H⟩
 |.yld l args=>YldI P AQ l args d ⟨k0,td,t,H⟩
 |.pan s=>AQ (.pan s) t H
 |.none=>False

def execR(P:Program)(AQ:Ex->List SV->List SObj->Prop)(rec:IM->Prop)(g:Bool)(k0:Nat)(G:List Nat)(td:List IT)(t:List SV)(H:List SObj)(d:Option Tmp):Res->Prop
 |.val p s=>p∧rec ⟨k0,td,putT t d s,H⟩
 |.amb E s=>∀b:Bool,(b=true->E)->rec ⟨k0,td,putT t d (s b),H⟩
 |.new p s Hk so=>p∧(g=true->SameG G H (Hk++ [so]))∧rec ⟨k0,td,putT t d s,Hk++ [so]⟩
 |.set s h so=>(g=true->SameG G H (H.set h so))∧rec ⟨k0,td,putT t d s,H.set h so⟩
 |.setp p s h so=>p∧(g=true->SameG G H (H.set h so))∧rec ⟨k0,td,putT t d s,H.set h so⟩
 |.call f args=>g=true∧CallR P AQ G f args d ⟨k0,td,t,H⟩
 |.zld ag b off=>ZldR P AQ g G ag b off d ⟨k0,td,t,H⟩
 |.zst n b off y=>ZstR P AQ g G n b off y d ⟨k0,td,t,H⟩
 |.yld l args=>YldR P AQ g G l args d ⟨k0,td,t,H⟩
 |.pan s=>AQ (.pan s) [] H
 |.none=>False

def execF(P:Program)(AQ:Ex->List SV->List SObj->Prop)(rec:IM->Prop)(c q:Bool)(k0:Nat)(td:List IT)(t:List SV)(H:List SObj)(d:Option Tmp):Res->Prop
 |.val p s=>p∧rec ⟨k0,td,putT t d s,H⟩
 |.call f args=>c=true∧CallF P AQ f args d ⟨k0,td,t,H⟩
 |.zld ag b off=>ZldF P AQ ag b off d ⟨k0,td,t,H⟩
 |.new p _ _ (.row ty xs)=>q=true∧p∧xs.length<=1125899906842624∧rec ⟨k0,td,putT t d (.fsl ty xs),H⟩
 |_=>False

def gOf:Nat->List Nat
 |0=>[]
 |n+1=>n :: gOf n

def isCallI:IOp->Bool
 |.call _ _=>true
 |_=>false

def bothG(b v:Bool)(A B:Prop):Prop:=(v=b->A)∧(v= !b->B)
def z8Z(A B:Prop):bothG true true A B=A:=by simp [bothG]
def j1j(A B:Prop):bothG true false A B=B:=by simp [bothG]
def j0o(A B:Prop):bothG false true A B=B:=by simp [bothG]
def z9q(A B:Prop):bothG false false A B=A:=by simp [bothG]
theorem j3s(v:Bool)(A B:Prop):bothG true v A B=((v=true->A)∧(v=false->B)):=rfl
theorem j4Z(v:Bool)(A B:Prop):bothG false v A B=((v=false->A)∧(v=true->B)):=rfl
variable {G:List Nat}
def q0w{h:Nat}{H':List SObj}:SameG (h :: G) H H'=(H'[h]?=H[h]?∧SameG G H H'):=by simp [SameG]
def q0D{H':List SObj}:SameG [] H H'=True:=by simp [SameG]

def run(P:Program)(AQ:Ex->List SV->List SObj->Prop):Nat->IM->Prop
 |0,m=>SoundI P AQ m
 |n+1,⟨k0,td,t,H⟩=>match td with
  | []=>AQ .normal t H
  |.ic c :: k=>match c with
   |.skip=>run P AQ n ⟨k0,k,t,H⟩
   |.seq a b=>run P AQ n ⟨k0,.ic a :: .ic b :: k,t,H⟩
   |.cond c a b=>match evT t c with
    |.raw (.bool v)=>bothG true v (run P AQ n ⟨k0,.ic a :: k,t,H⟩) (run P AQ n ⟨k0,.ic b :: k,t,H⟩)
    |_=>False
   |.blk id c=>run P AQ n ⟨k0,.ic c :: .blk id :: k,t,H⟩
   |.loop c=>SoundI P AQ ⟨k0,.ic (.loop c) :: k,t,H⟩
   |.exit id=>match exitI id k with
    |some k'=>run P AQ n ⟨k0,k',t,H⟩
    |none=>AQ (.exit id) t H
   |.ret=>AQ .ret t H
   |.rf g ps a b=>SoundI P AQ ⟨k0,.ic (.rf g ps a b) :: k,t,H⟩
   |.scp c=>run P AQ n ⟨k0,.ic c :: k,t,H⟩
   |.lbl _=>run P AQ n ⟨k0,k,t,H⟩
   |.hnd all=>SoundI P AQ ⟨k0,.ic (.hnd all) :: k,t,H⟩
   |.reg l=>run P AQ n ⟨k0,.ops l :: k,t,H⟩
   |.drw l=>run P AQ n ⟨k0,.dops (gOf H.length) l :: k,t,H⟩
  |.blk _ :: k=>run P AQ n ⟨k0,k,t,H⟩
  |.stop Φ :: _=>Φ t H
  |.ops l :: k=>match l with
   | []=>run P AQ n ⟨k0,k,t,H⟩
   |io :: l=>match io.guard with
    |none=>exec P AQ (run P AQ n) k0 (.ops l :: k) t H io.dst (io.op.ev H (evT t))
    |some (d,b)=>match t.getD d .any with
     |.raw (.bool v)=>bothG b v (exec P AQ (run P AQ n) k0 (.ops l :: k) (t.set d (.raw (.bool b))) H io.dst (io.op.ev H (evT (t.set d (.raw (.bool b))))))
      (run P AQ n ⟨k0,.ops l :: k,putT (t.set d (.raw (.bool !b))) io.dst (.raw (.tuple #[])),H⟩)
     |.raw (.tuple _)=>run P AQ n ⟨k0,.ops l :: k,putT t io.dst (.raw (.tuple #[])),H⟩
     |_=>False
  |.dops G l :: k=>match l with
   | []=>run P AQ n ⟨k0,k,t,H⟩
   | (fl,io) :: l=>match io.guard with
    |none=>match fl with
     |true=>(floatOk G (evT t) io.op||isCallI io.op||isBslI io.op)=true∧execF P AQ (run P AQ n) (isCallI io.op) (isBslI io.op) k0 (.dops G l :: k) t H io.dst (io.op.ev H (evT t))
     |false=>execR P AQ (run P AQ n) true k0 (if gkI io.op then G else strictP G) (.dops G l :: k) t H io.dst (io.op.ev H (evT t))
    |some (d,b)=>match t.getD d .any with
     |.raw (.bool v)=>bothG b v (match fl with
      |true=>(floatOk G (evT (t.set d (.raw (.bool b)))) io.op||isCallI io.op||isBslI io.op)=true∧execF P AQ (run P AQ n) (isCallI io.op) (isBslI io.op) k0 (.dops G l :: k) (t.set d (.raw (.bool b))) H io.dst (io.op.ev H (evT (t.set d (.raw (.bool b)))))
      |false=>execR P AQ (run P AQ n) true k0 (if gkI io.op then G else strictP G) (.dops G l :: k) (t.set d (.raw (.bool b))) H io.dst (io.op.ev H (evT (t.set d (.raw (.bool b))))))
      (run P AQ n ⟨k0,.dops G l :: k,putT (t.set d (.raw (.bool !b))) io.dst (.raw (.tuple #[])),H⟩)
     |.raw (.tuple _)=>run P AQ n ⟨k0,.dops G l :: k,putT t io.dst (.raw (.tuple #[])),H⟩
     |_=>False

variable {rec:IM->Prop}{td:List IT}{d:Option Tmp}
def z6B(hrec:∀m,rec m->SoundI P AQ m){r:Res}(h:exec P AQ rec k0 td t H d r):r.to P H (opK P AQ k0 td t d):=by
 cases r with
 |val p s=>exact ⟨h.1,hrec _ h.2⟩
 |amb E s=>exact fun b hb=>hrec _ (h b hb)
 |new p s Hk so=>exact ⟨h.1,hrec _ h.2⟩
 |set s x so=>exact hrec _ h
 |setp p s x so=>exact ⟨h.1,hrec _ h.2⟩
 |call f args=>exact h
 |zld ag b off=>exact h
 |zst n b off y=>exact h
 |yld l args=>exact h
 |pan s=>exact h
 |none=>exact h
def z3I(hrec:∀m,rec m->SoundI P AQ m){r:Res}{g:Bool}(h:execR P AQ rec g k0 G td t H d r):r.to P H (opKG P AQ k0 g G H td t d):=by
 cases r with
 |val p s=>exact ⟨h.1,fun _=>SameG.refl _ _,hrec _ h.2⟩
 |amb E s=>exact fun b hb=>⟨fun _=>SameG.refl _ _,hrec _ (h b hb)⟩
 |new p s Hk so=>exact ⟨h.1,h.2.1,hrec _ h.2.2⟩
 |set s x so=>exact ⟨h.1,hrec _ h.2⟩
 |setp p s x so=>exact ⟨h.1,h.2.1,hrec _ h.2.2⟩
 |call f args=>obtain ⟨rfl,h⟩:=h;exact h
 |zld ag b off=>exact h
 |zst n b off y=>exact h
 |yld l args=>exact h
 |pan s=>exact h
 |none=>exact h

def j3f{i:IOp}{H':List SObj}{ev:Operand->SV}{f:FuncId}{args:List SV}(key:isCallI i=true)(h:i.ev H ev= .call f args):i.ev H' ev= .call f args:=by cases i<;>first|exact h|simp [isCallI] at key

def q6T(hrec:∀m,rec m->SoundI P AQ m){io:OpI}{l:List (Bool×OpI)}(hg:io.guard=none∨∃d b,io.guard=some (d,b)∧t.getD d .any= .raw (.bool b))
 (hf:(floatOk G (evT t) io.op||isCallI io.op||isBslI io.op)=true)(h:execF P AQ rec (isCallI io.op) (isBslI io.op) k0 (.dops G l :: k) t H io.dst (io.op.ev H (evT t))):SoundI P AQ ⟨k0,.dops G ((true,io) :: l) :: k,t,H⟩:=by
 generalize hr:io.op.ev H (evT t)=r at h;cases r with
 |val p s=>
  have hf':floatOk G (evT t) io.op=true:=by
   rcases Cl.1 hf with h0|h0
   . rcases Cl.1 h0 with h1|h1
     . exact h1
     exfalso;cases hop:io.op<;>rw [hop] at h1<;>simp [isCallI] at h1
     rw [hop] at hr;simp only [IOp.ev] at hr;split at hr
     . cases hr
     . split at hr
       . cases hr
       split at hr<;>cases hr
     cases hr
   exfalso;cases hop:io.op<;>rw [hop] at h0<;>first| (cases h0;done) |skip
   rw [hop] at hr;simp only [IOp.ev] at hr;split at hr
   . split at hr<;>cases hr
   cases hr
  rcases hg with hg| ⟨d,b,hg,hv⟩
  . exact j0N hg hf' hr h.1 (hrec _ h.2)
  exact z5m hg hv hf' hr h.1 (hrec _ h.2)
 |call f args=>obtain ⟨hci,s,h1,h2,h3⟩:=h;exact j4M hg (fun H'=>j3f hci hr) h1 h2 h3
 |amb E s=>exact h.elim
 |new p s Hk so=>
  cases so with
  |row ty xs=>exact j6W hg h.1 hr h.2.1 h.2.2.1 (hrec _ h.2.2.2)
  |_=>exact h.elim
 |set s x so=>exact h.elim
 |setp p s x so=>exact h.elim
 |zld ag b off=>
  have hf':floatOk G (evT t) io.op=true:=by
   rcases Cl.1 hf with h0|h0
   . rcases Cl.1 h0 with h1|h1
     . exact h1
     exfalso;cases hop:io.op<;>rw [hop] at h1<;>simp [isCallI] at h1
     rw [hop] at hr;simp only [IOp.ev] at hr;split at hr
     . cases hr
     . split at hr
       . cases hr
       split at hr<;>cases hr
     cases hr
   exfalso;cases hop:io.op<;>rw [hop] at h0<;>first| (cases h0;done) |skip
   rw [hop] at hr;simp only [IOp.ev] at hr;split at hr
   . split at hr<;>cases hr
   cases hr
  obtain ⟨s,h1,h2⟩:=h;exact j5t hg (fun H'=>j5E hf' hr) h1 h2
 |zst n b off y=>exact h.elim
 |yld l args=>exact h.elim
 |pan s=>exact h.elim
 |none=>exact h.elim

theorem q0r(hm:P.follows .mixedOrders=true):∀ (n:Nat) (m:IM),run P AQ n m->SoundI P AQ m
 |0,_,h=>h
 |n+1,⟨k0,td,t,H⟩,h=>by
  have ih:=q0r hm n;unfold run at h;split at h
  . exact j5j h
  . split at h
    . exact j3U (ih _ h)
    . exact j5Q (ih _ h)
    . split at h
      . exact j2P (by assumption) (fun e=>ih _ (h.1 e)) (fun e=>ih _ (h.2 e))
      exact h.elim
    . exact j6N (ih _ h)
    . exact h
    . split at h
      . exact j4S (by assumption) (ih _ h)
      exact j0g (by assumption) h
    . exact j5z h
    . exact h
    . exact j6L (ih _ h)
    . exact j6l (ih _ h)
    . exact h
    . exact j7c (ih _ h)
    exact q1r _ hm (ih _ h)
  . exact z7U (ih _ h)
  . exact j3K h
  . split at h
    . exact z8A (ih _ h)
    split at h
    . exact j7r (by assumption) (z6B ih h)
    split at h
    . exact j1m (by assumption) (by assumption) (fun e=>z6B ih (h.1 e)) (fun e=>ih _ (h.2 e))
    . exact z6v (by assumption) (by assumption) (ih _ h)
    exact h.elim
  split at h
  . exact j6v (ih _ h)
  rename_i fl io l;split at h
  . rename_i hg;split at h
    . exact q6T ih (.inl hg) h.1 h.2
    exact j1F (.inl hg) (z3I ih h)
  rename_i d b hg;split at h
  . rename_i v hv;have hio:{io with guard:=some (d,b)}=io:=by cases io;simp at hg;subst hg;rfl
    refine j0G hg hv (fun e=> ?_) (fun e=> ?_)
    . rw [hio];have h1:=h.1 e;split at h1
      . exact q6T ih (.inr ⟨d,b,hg,q1L hv⟩) h1.1 h1.2
      exact j1F (.inr ⟨d,b,hg,q1L hv⟩) (z3I ih h1)
    rw [hio];exact j3g hg (q1L hv) (ih _ (h.2 e))
  . exact j0t hg (by assumption) (ih _ h)
  exact h.elim
end
section
open Go

variable [Ghost] {P:Program} {AQ:Ex->List SV->List SObj->Prop} {k0:Nat} {k:List IT} {t:List SV} {H:List SObj}

structure FI where
 ntmps:Nat
 results:List ResultVar
 code:IC

def finfo(P:Program)(f:FuncId):Option FI:=
 match P.funcs[f]? with
 |some fn=>match fn.body with
  |some c=>match comp P c with
   |some ic=>if fn.name== "runtime.NumGoroutine" then none else some ⟨fn.ntmps,fn.results.toList,ic⟩
   |none=>none
  |none=>none
 |none=>none

def retF(P:Program)(rs:List ResultVar)(K:Out->List SObj->Prop):Ex->List SV->List SObj->Prop
 |.normal,t,H=>∃s,resV P t H rs=some s∧K (.ret s) H
 |.ret,t,H=>∃s,resV P t H rs=some s∧K (.ret s) H
 |.pan s,_,H=>K (.pan s) H
 |.exit _,_,_=>False

variable {f:FuncId}{args:List SV}
theorem q1T{fi:FI}{K:Out->List SObj->Prop}(h:finfo P f=some fi)
 (hs: @SoundI noGhost P (retF P fi.results K) ⟨H.length,[.ic fi.code],args++List.replicate (fi.ntmps-args.length) .any,H⟩):VC P f args H K:=by
 unfold finfo at h;split at h
 . rename_i fn hf;split at h
   . rename_i c hb;split at h
     . rename_i ic hc;split at h
       . cases h
       rename_i hn;cases h;refine ⟨by simp [enters,hf,hb];simpa using hn,?_⟩;have hq:retQ P fn K=retF P fn.results.toList K:=by funext e t H;cases e<;>rfl
       exact q7s hf hb (by rw [hq];exact @q0g noGhost _ _ _ _ _ _ _ hs ⟨c,[],rfl,hc,rfl⟩)
     cases h
   cases h
 cases h

def PC(P:Program)(f:FuncId)(args:List SV)(s:SV):Prop:=enters P f=true∧∀ (H:List SObj) (K:Out->List SObj->Prop),K (.ret s) H->VCall P f args H K

def PK(s:SV):Out->List SObj->Prop:=fun o _=>o= .ret s

variable {s:SV}
def q0q(ha:SV.cleanL args=true)(hs:s.clean=true)(h:VC P f args [] (PK s)):PC P f args s:=
 ⟨h.1,fun H K hk=>VCall.frame ha hs h.2 H K hk⟩

variable {d:Option Tmp}{m:IM}
def q0a(hp:PC P f args s)(h:SoundI P AQ {m with tmps:=putT m.tmps d s}):CallI P AQ f args d m:=
 ⟨hp.1,(hp.2 _ _ h).g⟩
def q0c{G:List Nat}(hp:PC P f args s)(h:SoundI P AQ {m with tmps:=putT m.tmps d s}):CallR P AQ G f args d m:=
 ⟨hp.1,(hp.2 _ _ ⟨fun _=>SameG.refl _ _,h⟩).g⟩
def q0e(hp:PC P f args s)(h:SoundI P AQ {m with tmps:=putT m.tmps d s}):CallF P AQ f args d m:=
 ⟨s,hp.1,fun H' K hk=>(hp.2 H' K hk).g,h⟩

mutual
def SV.ren(σ:Nat->Nat):SV->SV
 |.ptr h off=>.ptr (σ h) off
 |.rptr h t i k=>.rptr (σ h) t i k
 |.bld h t n=>.bld (σ h) t n
 |.osl h t off n=>.osl (σ h) t off n
 |.csl h t k i n=>.csl (σ h) t k i n
 |.mp h=>.mp (σ h)
 |.imap kk ks vs=>.imap kk ks vs
 |.agg l=>.agg (SV.renL σ l)
 |.tup l=>.tup (SV.renL σ l)
 |.fn f a b=>.fn f (SV.renL σ a) (SV.renL σ b)
 |.iface T x=>.iface T (SV.ren σ x)
 |.any=>.any
 |.raw v=>.raw v
 |.isl t xs=>.isl t xs
 |.fsl t xs=>.fsl t xs
 |.iptr t x k=>.iptr t x k
 |.dat t x=>.dat t x
def SV.renL(σ:Nat->Nat):List SV->List SV
 | []=>[]
 |s :: l=>SV.ren σ s :: SV.renL σ l
end
mutual
def SV.bel(n:Nat):SV->Bool
 |.ptr h _=>decide (h<n)
 |.rptr h _ _ _=>decide (h<n)
 |.bld h _ _=>decide (h<n)
 |.osl h _ _ _=>decide (h<n)
 |.csl h _ _ _ _=>decide (h<n)
 |.mp h=>decide (h<n)
 |.agg l=>SV.belL n l
 |.tup l=>SV.belL n l
 |.fn _ a b=>SV.belL n a&& SV.belL n b
 |.iface _ x=>SV.bel n x
 |.any=>true
 |.raw _=>true
 |.isl _ _=>true
 |.fsl _ _=>true
 |.iptr _ _ _=>true
 |.dat _ _=>true
 |.imap _ _ _=>true
def SV.belL(n:Nat):List SV->Bool
 | []=>true
 |s :: l=>SV.bel n s&& SV.belL n l
end
def Cx.ren(C:Cx)(σ:Nat->Nat)(n:Nat):Cx:={ρ:=fun h=>C.ρ (σ h),n:=n,I:=C.I,w:=C.w}

mutual
theorem q8Z{C:Cx}{σ:Nat->Nat}{n:Nat}:∀ {s:SV} {v:Value},s.bel n=true->(s.ren σ).den C v->s.den (C.ren σ n) v
 |.any,_,_,_=>by rw [SV.den];trivial
 |.raw _,_,_,d=>by rw [SV.ren,SV.den] at d;rw [SV.den];exact d
 |.isl _ _,_,_,d=>by rw [SV.ren,SV.den] at d;rw [SV.den];exact d
 |.fsl _ _,_,_,d=>by rw [SV.ren,SV.den] at d;rw [SV.den];exact d
 |.iptr _ _ _,_,_,d=>by rw [SV.ren,SV.den] at d;rw [SV.den];exact d
 |.ptr h off,_,hb,d=>by rw [SV.ren,SV.den] at d;rw [SV.den];exact ⟨by simpa [SV.bel,Cx.ren] using hb,d.2⟩
 |.rptr h t i k,_,hb,d=>by rw [SV.ren,SV.den] at d;rw [SV.den];exact ⟨by simpa [SV.bel,Cx.ren] using hb,d.2⟩
 |.bld h t m,_,hb,d=>by rw [SV.ren,SV.den] at d;rw [SV.den];exact ⟨by simpa [SV.bel,Cx.ren] using hb,d.2⟩
 |.osl h t off m,_,hb,d=>by rw [SV.ren,SV.den] at d;rw [SV.den];exact ⟨by simpa [SV.bel,Cx.ren] using hb,d.2⟩
 |.dat _ _,_,_,d=>by rw [SV.ren,SV.den] at d;rw [SV.den];exact d
 |.csl h t k i m,_,hb,d=>by rw [SV.ren,SV.den] at d;rw [SV.den];exact ⟨by simpa [SV.bel,Cx.ren] using hb,d.2⟩
 |.mp h,_,hb,d=>by rw [SV.ren,SV.den] at d;rw [SV.den];exact ⟨by simpa [SV.bel,Cx.ren] using hb,d.2⟩
 |.imap ..,_,_,d=>by rw [SV.ren,SV.den] at d;rw [SV.den];exact d
 |.agg l,_,hb,d=>by rw [SV.ren,SV.den] at d;rw [SV.den];obtain ⟨vs,hv,hl⟩:=d;exact ⟨vs,hv,q2H (by simpa [SV.bel] using hb) hl⟩
 |.tup l,_,hb,d=>by rw [SV.ren,SV.den] at d;rw [SV.den];obtain ⟨vs,hv,hl⟩:=d;exact ⟨vs,hv,q2H (by simpa [SV.bel] using hb) hl⟩
 |.fn f a b,_,hb,d=>by rw [SV.ren,SV.den] at d;rw [SV.den];obtain ⟨v1,v2,hv,h1,h2⟩:=d;simp [SV.bel] at hb;exact ⟨v1,v2,hv,q2H hb.1 h1,q2H hb.2 h2⟩
 |.iface T x,_,hb,d=>by rw [SV.ren,SV.den] at d;rw [SV.den];obtain ⟨u,hv,h1⟩:=d;exact ⟨u,hv,q8Z (by simpa [SV.bel] using hb) h1⟩
theorem q2H{C:Cx}{σ:Nat->Nat}{n:Nat}:∀ {l:List SV} {vs:List Value},SV.belL n l=true->SV.denL C (SV.renL σ l) vs->SV.denL (C.ren σ n) l vs
 | [],_,_,d=>by rw [SV.renL,SV.denL] at d;rw [SV.denL];exact d
 |s :: l,_,hb,d=>by rw [SV.renL,SV.denL] at d;rw [SV.denL];simp [SV.belL] at hb;obtain ⟨v,us,rfl,h1,h2⟩:=d;exact ⟨v,us,rfl,q8Z hb.1 h1,q2H hb.2 h2⟩
end

def SObj.ren(σ:Nat->Nat):SObj->SObj
 |.cells T cs=>.cells T (SV.renL σ cs)
 |.map kk ks vs=>.map kk ks (SV.renL σ vs)
 |o=>o
def SObj.bel(n:Nat):SObj->Bool
 |.cells _ cs=>SV.belL n cs
 |.map _ _ vs=>SV.belL n vs
 |_=>true
variable {σ:Nat->Nat}
def objRen{C:Cx}{n h:Nat}:∀ {o:SObj},o.bel n=true->objDen C (σ h) (o.ren σ)->objDen (C.ren σ n) h o
 |.dead,_,_=>trivial
 |.cells T cs,hb,⟨b,vs,h1,h2,h3⟩=>⟨b,vs,h1,h2,q2H (by simpa [SObj.bel] using hb) h3⟩
 |.row t xs,_,d=>d
 |.map kk ks vs,hb,⟨b,us,h1,h2,h3⟩=>⟨b,us,h1,h2,q2H (by simpa [SObj.bel] using hb) h3⟩
 |.mark _,_,_=>trivial

def leS(σ:Nat->Nat)(s:SV):SV->Prop
 |.any=>True
 |s'=>s=s'.ren σ
def leT(σ:Nat->Nat):List SV->List SV->Prop
 | [],[]=>True
 |s :: l,s' :: l'=>leS σ s s'∧leT σ l l'
 |_,_=>False
def leH(σ:Nat->Nat)(H:List SObj)(i:Nat):List SObj->Prop
 | []=>True
 |.dead :: l=>leH σ H (i+1) l
 |o :: l=>H[σ i]?=some (o.ren σ)∧leH σ H (i+1) l
def belH(n:Nat):List SObj->Bool
 | []=>true
 |o :: l=>o.bel n&& belH n l
def injH(σ:Nat->Nat)(i:Nat):List SObj->List Nat->Bool
 | [],_=>true
 |.dead :: l,seen=>injH σ (i+1) l seen
 |_ :: l,seen=> !seen.contains (σ i) && injH σ (i+1) l (σ i :: seen)
def fixK(σ:Nat->Nat):Nat->Bool
 |0=>true
 |n+1=>(σ n==n) && fixK σ n

structure Le (σ:Nat->Nat) (k0:Nat) (t:List SV) (H:List SObj) (t':List SV) (H':List SObj):Prop where
 tm:leT σ t t'
 hp:leH σ H 0 H'
 bt:SV.belL H'.length t'=true
 bh:belH H'.length H'=true
 inj:injH σ 0 H' []=true
 fix:fixK σ k0=true
 len:k0<=H'.length
 mk0:∀n,0<k0->H[0]?=some (.mark n)->H'[0]?=some (.mark n)

def j3F{C:Cx}{n:Nat}{s':SV}{v:Value}(h:leS σ s s')(hb:s'.bel n=true)(hd:s.den C v):s'.den (C.ren σ n) v:=by cases s'<;>first| (rw [SV.den];trivial) | (simp only [leS] at h;rw [h] at hd;exact q8Z hb hd)
def z1V{C:Cx}{σ:Nat->Nat}{n:Nat}:∀ {t t':List SV} {vs:List Value},leT σ t t'->SV.belL n t'=true->SV.denL C t vs->SV.denL (C.ren σ n) t' vs
 | [],[],_,_,_,d=>by rw [q0y] at d⊢;exact d
 |s :: l,s' :: l',_,h,hb,d=>by obtain ⟨v,us,rfl,h1,h2⟩:=q0d.1 d;simp [SV.belL] at hb;exact q0d.2 ⟨v,us,rfl,j3F h.1 hb.1 h1,z1V h.2 hb.2 h2⟩
 | [],_ :: _,_,h,_,_=>h.elim
 |_ :: _,[],_,h,_,_=>h.elim
def q7f{σ:Nat->Nat}:∀ {H':List SObj} {i h:Nat} {o:SObj},leH σ H i H'->H'[h]?=some o->o.live=true->H[σ (i+h)]?=some (o.ren σ)
 | [],_,_,_,_,hi,_=>by simp at hi
 |x :: l,i,0,o,hl,hi,hlive=>by
  simp at hi;subst hi;cases x with
  |dead=>simp [SObj.live] at hlive
  |cells T cs=>exact hl.1
  |row t xs=>exact hl.1
  |map kk ks vs=>exact hl.1
  |mark n=>exact hl.1
 |x :: l,i,h+1,o,hl,hi,hlive=>by
  simp at hi;have:leH σ H (i+1) l:=by
   cases x with
   |dead=>exact hl
   |cells T cs=>exact hl.2
   |row t xs=>exact hl.2
   |map kk ks vs=>exact hl.2
   |mark n=>exact hl.2
  have:=q7f this hi hlive;rwa [show i+1+h=i+ (h+1) by omega] at this
def q2I{n:Nat}:∀ {H':List SObj} {h:Nat} {o:SObj},belH n H'=true->H'[h]?=some o->o.bel n=true
 | [],_,_,_,hi=>by simp at hi
 |x :: l,0,o,hb,hi=>by simp at hi;subst hi;simp [belH] at hb;exact hb.1
 |x :: l,h+1,o,hb,hi=>by simp at hi;simp [belH] at hb;exact q2I hb.2 hi
def q1S{σ:Nat->Nat}:∀ {H':List SObj} {i h:Nat} {o:SObj} {seen:List Nat},injH σ i H' seen=true->H'[h]?=some o->o.live=true->σ (i+h) ∉ seen
 | [],_,_,_,_,_,hi,_=>by simp at hi
 |x :: l,i,0,o,seen,hj,hi,hl=>by
  simp at hi;subst hi;cases x with
  |dead=>simp [SObj.live] at hl
  |cells T cs=>simp [injH] at hj;simpa using hj.1
  |row t xs=>simp [injH] at hj;simpa using hj.1
  |map kk ks vs=>simp [injH] at hj;simpa using hj.1
  |mark n=>simp [injH] at hj;simpa using hj.1
 |x :: l,i,h+1,o,seen,hj,hi,hl=>by
  simp at hi;have e:i+1+h=i+ (h+1):=by omega
  cases x with
  |dead=>have:=q1S (i:=i+1) (seen:=seen) (by simpa [injH] using hj) hi hl;rwa [e] at this
  |cells T cs=>simp [injH] at hj;have:=q1S hj.2 hi hl;rw [e] at this;exact fun hm=>this (AM _ hm)
  |row t xs=>simp [injH] at hj;have:=q1S hj.2 hi hl;rw [e] at this;exact fun hm=>this (AM _ hm)
  |map kk ks vs=>simp [injH] at hj;have:=q1S hj.2 hi hl;rw [e] at this;exact fun hm=>this (AM _ hm)
  |mark n=>simp [injH] at hj;have:=q1S hj.2 hi hl;rw [e] at this;exact fun hm=>this (AM _ hm)
def q3m{σ:Nat->Nat}:∀ {H':List SObj} {i h h':Nat} {o o':SObj} {seen:List Nat},injH σ i H' seen=true->H'[h]?=some o->H'[h']?=some o'->o.live=true->o'.live=true->h<h'->σ (i+h)≠σ (i+h')
 | [],_,_,_,_,_,_,_,hi,_,_,_,_=>by simp at hi
 |x :: l,i,0,h'+1,o,o',seen,hj,hi,hi',hl,hl',_=>by
  simp at hi hi';subst hi;have e:i+1+h'=i+ (h'+1):=by omega
  cases x with
  |dead=>simp [SObj.live] at hl
  |cells T cs=>simp [injH] at hj;have:=q1S hj.2 hi' hl';rw [e] at this;simp at this;exact fun he=>this.1 he.symm
  |row t xs=>simp [injH] at hj;have:=q1S hj.2 hi' hl';rw [e] at this;simp at this;exact fun he=>this.1 he.symm
  |map kk ks vs=>simp [injH] at hj;have:=q1S hj.2 hi' hl';rw [e] at this;simp at this;exact fun he=>this.1 he.symm
  |mark n=>simp [injH] at hj;have:=q1S hj.2 hi' hl';rw [e] at this;simp at this;exact fun he=>this.1 he.symm
 |x :: l,i,h+1,h'+1,o,o',seen,hj,hi,hi',hl,hl',hlt=>by
  simp at hi hi';have e:i+1+h'=i+ (h'+1):=by omega
  have e2:i+1+h=i+ (h+1):=by omega
  cases x with
  |dead=>have:=q3m (i:=i+1) (seen:=seen) (by simpa [injH] using hj) hi hi' hl hl' (by omega);rwa [e,e2] at this
  |cells T cs=>simp [injH] at hj;have:=q3m hj.2 hi hi' hl hl' (by omega);rwa [e,e2] at this
  |row t xs=>simp [injH] at hj;have:=q3m hj.2 hi hi' hl hl' (by omega);rwa [e,e2] at this
  |map kk ks vs=>simp [injH] at hj;have:=q3m hj.2 hi hi' hl hl' (by omega);rwa [e,e2] at this
  |mark n=>simp [injH] at hj;have:=q3m hj.2 hi hi' hl hl' (by omega);rwa [e,e2] at this
def z3J{σ:Nat->Nat}:∀ {n h:Nat},fixK σ n=true->h<n->σ h=h
 |0,_,_,hh=>absurd hh (by omega)
 |n+1,h,hf,hh=>by
  simp [fixK] at hf;by_cases e:h=n
  . rw [e];exact hf.1
  exact z3J hf.2 (by omega)
theorem q1a(σ:Nat->Nat)(o:SObj):(o.ren σ).live=o.live:=by cases o<;>rfl

def Le.wd{σ:Nat->Nat}{t':List SV}{H':List SObj}{E:EnD}{C:Cx}{a:Act}(h:Le σ k0 t H t' H')(he:E.C.n<=k0)(hd:Den E C t H a):Den E (C.ren σ H'.length) t' H' a:=by
 have hown:∀b,OwnB (C.ren σ H'.length) H' b->OwnB C H b:=by rintro b ⟨i,o,ho,hl,hb⟩;have:=q7f h.hp ho hl;rw [Ae] at this;exact ⟨σ i,_,this,by rw [q1a];exact hl,hb⟩
 have hevo:Evo E.C (C.ren σ H'.length):=⟨As he h.len,fun x hx=>by simp only [Cx.ren];rw [z3J h.fix (by omega)];exact hd.ext.evo.ρ x hx,hd.ext.evo.I,hd.ext.evo.sz⟩
 refine ⟨⟨rfl,?_,fun b hb=>hd.wd.own b (hown b hb),?_,hd.wd.imm⟩,⟨hevo,hd.ext.size,hd.ext.os,hd.ext.tape,hd.ext.output,hd.ext.frame,hd.ext.immNew,fun b hb=>hd.ext.ownNew b (hown b hb),fun n h0 hn=>h.mk0 n (An h0 he) (hd.ext.keep0 n h0 hn)⟩,?_,z1V h.tm h.bt hd.tmps⟩
 . intro i o ho;by_cases hl:o.live=true
   . have:=q7f h.hp ho hl;rw [Ae] at this;exact objRen (q2I h.bh ho) (hd.wd.obj _ _ this)
   cases o<;>first|trivial|simp [SObj.live] at hl
 . intro i j o o' b ho ho' hl hl' hb hb';have e1:=q7f h.hp ho hl;have e2:=q7f h.hp ho' hl';rw [Ae] at e1 e2;have hσ:=hd.wd.inj (σ i) (σ j) _ _ b e1 e2 (by rw [q1a];exact hl) (by rw [q1a];exact hl') hb hb';rcases CW i j with hij|hij|hij
   . have:=q3m h.inj ho ho' hl hl' hij;rw [Ae,Ae] at this;exact absurd hσ this
   . exact hij
   have:=q3m h.inj ho' ho hl' hl hij;rw [Ae,Ae] at this;exact absurd hσ.symm this
 exact ⟨hd.defs.1,Ghost.same hd.wd rfl (fun _ h=>h) (fun _ hb=>.inl hb) hown (fun n h0 hn=>h.mk0 n (An h0 he) hn) hevo.n hd.defs.2⟩

variable {t':List SV}{H':List SObj}
def j0z{k:List It}(h:Le σ k0 t H t' H')(hs:Sound P AQ ⟨k0,k,t',H'⟩):Sound P AQ ⟨k0,k,t,H⟩:=
 fun E r n C a h0 hd=>hs E r n (C.ren σ H'.length) a h0 (h.wd h0.1 hd)
variable {td:List IT}
def j7t(hp:plainT td=true)(h:Le σ k0 t H t' H')(hs:SoundI P AQ ⟨k0,td,t',H'⟩):SoundI P AQ ⟨k0,td,t,H⟩:=
 q0f (fun _ hr=>j0z h (q0g hs hr)) hp

variable {ι:Type}
def sound_loop'{k:List It}(c:Code)(S:ι->List SV×List SObj)(μ:ι->Nat)(p:ι->Prop)(i₀:ι)(h₀:p i₀)(hs:∃σ,Le σ k0 t H (S i₀).1 (S i₀).2)
 (round:∀i,p i->Sound P AQ ⟨k0,.code c :: .stop (fun t' H'=>∃j,p j∧μ j<μ i∧∃σ,Le σ k0 t' H' (S j).1 (S j).2) :: k,(S i).1,(S i).2⟩):
 Sound P AQ ⟨k0,.code (.loop c) :: k,t,H⟩:=fun E r n C a h0 hd=>by
 simp only [wpT];obtain ⟨σ,hσ⟩:=hs;refine q0R (fun m a w=>∃i,p i∧μ i=m∧∃C,C.w=w∧Den E C (S i).1 (S i).2 a) (μ i₀) ⟨i₀,h₀,rfl,C.ren σ (S i₀).2.length,rfl,hσ.wd h0.1 hd⟩ ?_;rintro m a w ⟨i,hp,rfl,C,rfl,hd⟩;have h1:=round i hp E r n C a h0 hd;simp only [wpT] at h1;refine wpIn_mono h1 fun e a w hq=> ?_;cases e with
 |normal=>obtain ⟨C',t',H',⟨j,hj,hlt,σ',hS⟩,rfl,hd'⟩:=hq;exact ⟨μ j,hlt,j,hj,rfl,C'.ren σ' (S j).2.length,rfl,hS.wd h0.1 hd'⟩
 |exit id=>simpa only [Exit.then,exitT] using hq
 |_=>exact hq

def RoundK(k0:Nat)(S:ι->List SV×List SObj)(μ:ι->Nat)(p:ι->Prop)(i:ι):List SV->List SObj->Prop:=
 fun t' H'=>∃j,p j∧μ j<μ i∧∃σ,Le σ k0 t' H' (S j).1 (S j).2

theorem j4w{c:IC}(S:ι->List SV×List SObj)(μ:ι->Nat)(p:ι->Prop)(i₀:ι)(h₀:p i₀)(hs:∃σ,Le σ k0 t H (S i₀).1 (S i₀).2)
 (round:∀i,p i->SoundI P AQ ⟨k0,.ic c :: .stop (RoundK k0 S μ p i) :: k,(S i).1,(S i).2⟩):SoundI P AQ ⟨k0,.ic (.loop c) :: k,t,H⟩:=q0f (fun td' hr=>by
 obtain ⟨c',r,rfl,hc,hr⟩:=hr;obtain ⟨x,rfl,hx⟩:=q0L hc
 exact sound_loop' x S μ p i₀ h₀ hs (fun i hi=>q0g (round i hi) ⟨x,_,rfl,hx,r,rfl,hr⟩)) rfl

def q1j(h:Nat){ty:Ty}{xs:List ty.den}(hp:plainT td=true)(hH:H[h]?=some (.row ty xs))(hlen:xs.length<=1125899906842624)(ho:frzObH h ty xs H)(hot:SV.frzObL h ty xs t)(hs:SoundI P AQ ⟨k0,td,SV.frzL h ty xs t,frzH h ty xs H⟩):SoundI P AQ ⟨k0,td,t,H⟩:=
 q0f (fun _ hr=>z0B h hH hlen ho hot (q0g hs hr)) hp

def OpI.wr(io:OpI):List Nat:=io.dst.toList
def IC.wr:IC->List Nat
 |.reg l=>l.flatMap OpI.wr
 |.drw l=>l.flatMap fun x=>OpI.wr x.2
 |.seq a b=>a.wr++b.wr
 |.cond _ a b=>a.wr++b.wr
 |.blk _ c=>c.wr
 |.loop c=>c.wr
 |.scp c=>c.wr
 |_=>[]
def maskT(ws:List Nat)(t:List SV):List SV:=ws.foldl (fun t d=>t.set d .any) t
end
open Go
/- Short forms of operations. -/
def ci(n:Int):Operand:=.const (.int .i64 n)
def o0(i:IOp):OpI:=⟨none,i,none⟩
def o1(d:Nat)(i:IOp):OpI:=⟨some d,i,none⟩
def oT(d:Nat)(i:IOp)(g:Nat):OpI:=⟨some d,i,some (g,true)⟩
def oF(d:Nat)(i:IOp)(g:Nat):OpI:=⟨some d,i,some (g,false)⟩
def mv(d x:Nat):OpI:=⟨some d,.mov (.tmp x),none⟩
def ex(d i x:Nat):OpI:=⟨some d,.ext i (.tmp x),none⟩
attribute [go_sem] ci o0 o1 oT oF mv ex strictP
def zA:(∀A B:Prop,bothG true true A B=A)∧(∀A B:Prop,bothG true false A B=B)∧(∀A B:Prop,bothG false true A B=B)∧(∀A B:Prop,bothG false false A B=A):=⟨z8Z,j1j,j0o,z9q⟩
def zB:(∀ (v:Bool) (A B:Prop),bothG true v A B=((v=true->A)∧(v=false->B)))∧(∀ (v:Bool) (A B:Prop),bothG false v A B=((v=false->A)∧(v=true->B)))∧(∀ (p:Prop) [Decidable p],(decide p=true)=p)∧(∀ (p:Prop) [Decidable p],(decide p=false)= ¬p)∧
 (∀b:Bool,((!b)=true)=(b=false))∧(∀b:Bool,((!b)=false)=(b=true))∧(∀m n:Nat,((m:Int) < (n:Int))=(m<n))∧(∀m n:Nat,((m:Int)<=(n:Int))=(m<=n)):=
 ⟨j3s,j4Z,fun p _=>decide_eq_true_eq,fun p _=>propext decide_eq_false_iff_not,fun b=>Bool.not_eq_true' b,fun b=>Bool.not_eq_false' b,fun m n=>propext Int.ofNat_lt,fun m n=>propext Int.ofNat_le⟩
attribute [go_sem] q0w q0D gkI mapOf mres mget mput SV.norm SV.ofS unrawL findI keyEq keyIs SV.toV SV.toVL SV.ofV SV.wk fullS run exec execR execF IOp.ev evLd evSt evBin evEq evNil SV.emp eqRs eqR eqOk eqV binV unV evT putT SV.flat SV.one SV.nonNil ones rawL Sx.pick splice fillS PlaceK.fn SV.add resRow addA addB slA slB ldRow stRow viewOf ownPart putPart dstAt putAll Ty.plain Ty.get get1 Ty.arrAt Ty.cellAt SV.ofT SV.datum SV.dflat Ty.putV put1 Ty.modR Ty.modS  SV.len lenOk slOk sliceTo lenOfS bndV loOf hiOf exitI gOf floatOk isCallI isBslI retF resV resVL resV1 PK rdL Ty.rd rdU8 rdInt rdBool rdStr rdSlice rdUnit Ty.size Ty.cells Value.cells Value.oneCell' srcS srcOf dstOf List.getD_cons_zero List.getD_cons_succ List.set_cons_zero List.set_cons_succ List.cons_append List.nil_append List.append_nil List.replicate List.length_cons List.length_nil List.map_cons List.map_nil List.getElem?_cons_zero List.getElem?_cons_succ List.take_succ_cons List.take_zero List.drop_succ_cons List.drop_zero List.take_nil List.drop_nil true_and and_true false_and and_false eq_self Bool.not_true Bool.not_false false_implies implies_true forall_const Option.some.injEq exists_eq_left' exists_eq_left Out.ret.injEq SV.raw.injEq Value.bool.injEq Bool.or_true Bool.true_or Bool.or_false Bool.false_or beq_self_eq_true and_self Bool.and_true Bool.true_and Bool.and_self Bool.and_false Bool.false_and Option.map_some Option.map_none decide_true decide_false Bool.false_eq_true cast_eq List.contains_cons List.contains_nil List.any_nil List.any_cons
/- A goal and what it simplifies to. -/
attribute [go_sem_proc] reduceCtorEq Nat.reduceAdd Nat.reduceSub Nat.reduceLeDiff Nat.reduceLT Nat.reduceEqDiff Nat.reduceBEq Nat.reduceMul Int.reduceToNat Int.reduceEq Int.reduceLT Int.reduceLE
variable {q:Prop}
theorem sxE{p:Prop}(h:q)(e:p=q:=by (simp (maxSteps:=3000000) only [go_sem,↓zA,↓reduceIte,↓reduceDIte];(try simp only [zB]);rfl)):p:=Eq.mpr e h
variable {P:Program}
def goE[Ghost]{AQ:Ex->List SV->List SObj->Prop}{m:IM}(hm:P.follows .mixedOrders=true)(h:q)(e:run P AQ 600 m=q:=by (simp (maxSteps:=3000000) only [go_sem,↓zA,↓reduceIte,↓reduceDIte];(try simp only [zB]);rfl)):SoundI P AQ m:=q0r hm 600 m (Eq.mpr e h)
def runE{f:FuncId}{fi:FI}{args:List SV}{K:Out->List SObj->Prop}{H:List SObj}(hm:P.follows .mixedOrders=true)(hf:finfo P f=some fi)(h:q)
 (e:run P (retF P fi.results K) 600 ⟨H.length,[.ic fi.code],args++List.replicate (fi.ntmps-args.length) .any,H⟩=q:=by (simp (maxSteps:=3000000) only [go_sem,↓zA,↓reduceIte,↓reduceDIte];(try simp only [zB]);rfl)):VC P f args H K:=q1T hf (q0r hm 600 _ (Eq.mpr e h))
theorem sx1{a p:Prop}(w:a)(h:q)(e:a->p=q:=by (intro w;simp (maxSteps:=3000000) only [w,go_sem,↓zA,↓reduceIte,↓reduceDIte];(try simp only [zB]);rfl)):p:=Eq.mpr (e w) h
theorem sx3{a b p:Prop}(w:a)(w2:b)(h:q)(e:a->b->p=q:=by (intro w w2;simp (maxSteps:=3000000) only [w,w2,Ab,go_sem,↓zA,↓reduceIte,↓reduceDIte];(try simp only [zB]);rfl)):p:=Eq.mpr (e w w2) h
end Go.Sx