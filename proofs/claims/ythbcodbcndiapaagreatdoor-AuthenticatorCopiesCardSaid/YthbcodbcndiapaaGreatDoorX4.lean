/- A part of the proof: a symbolic executor over abstract values, and its soundness. -/
import Derived.Test.YthbcodbcndiapaaGreatDoorX3
import Derived.Below
import GoSem.ClaimJoined
import Derived.ChangeArms
import Derived.Carry
import Derived.ChangeSame
import Derived.RowKit
import Derived.RowKit3
set_option linter.all false
namespace Go.Sx
section
open Go

variable [Ghost] {P:Program} {AQ:Ex->List SV->List SObj->Prop} {k0:Nat} {k:List IT} {t:List SV} {H:List SObj}

variable {d:Nat}{b:Bool}
theorem q9Y{v:Bool}(hv:t.getD d .any= .raw (.bool v)):(t.set d (.raw (.bool b))).getD d .any= .raw (.bool b):=by grind

variable {io:OpI}{l:List OpI}
theorem j2c{v:Bool}(hg:io.guard=some (d,b))(A:t.getD d .any= .raw (.bool v))
 (E:v=b->(io.op.ev H (evT (t.set d (.raw (.bool b))))).to P H (opK P AQ k0 (.ops l :: k) (t.set d (.raw (.bool b))) io.dst))
 (D:v= !b->SoundI P AQ ⟨k0,.ops l :: k,putT (t.set d (.raw (.bool !b))) io.dst (.raw (.tuple #[])),H⟩):SoundI P AQ ⟨k0,.ops (io :: l) :: k,t,H⟩:=q0d (λtd' n=>by
 obtain ⟨all,a,r,rfl,e,n⟩:=n;cases a with
 |nil=>exact e.elim
 |cons i a=>
  obtain ⟨⟨o,j,u⟩,e⟩:=e;obtain ⟨F,z⟩:=q0D u;by_cases B:v=b
  . refine z1W d A B ?_;refine q4X j (by grind [q0x]) (OpV.mono (q2g F (E B)) λx H' y=> ?_);cases x with
    |ret s=>simp only [opK,z] at y;exact q0e y ⟨all,a,r,rfl,e,n⟩
    |pan s=>exact y
  have h:v= !b:=by cases v<;>cases b<;>simp_all
  refine z1W d A h ?_;refine q5j j (by grind [q0x]) ?_;have:=D h;rw [z] at this
  exact q0e this ⟨all,a,r,rfl,e,n⟩) rfl

variable {vs:Array Value}
theorem z6X(z:io.guard=some (d,b))(y:t.getD d .any= .raw (.tuple vs))
 (u:SoundI P AQ ⟨k0,.ops l :: k,putT t io.dst (.raw (.tuple #[])),H⟩):SoundI P AQ ⟨k0,.ops (io :: l) :: k,t,H⟩:=q0d (λtd' n=>by
 obtain ⟨all,a,r,rfl,h,n⟩:=n;cases a with
 |nil=>exact h.elim
 |cons i a=>
  obtain ⟨⟨o,j,e⟩,h⟩:=h;obtain ⟨hc,x⟩:=q0D e;refine q5j j ((q0x e).2.2 d b vs z y) ?_;rw [x] at u
  exact q0e u ⟨all,a,r,rfl,h,n⟩) rfl

variable {all:Array Oper}{fuel:Nat}{listed:Array Bool}{fl:Bool}{l:List (Bool×OpI)}
theorem q1w(h:planL P all fuel listed=some ((fl,io) :: l)):
 ∃n i o io0,fuel=n+1/\all[i]?=some o/\compO P all o=some io0/\planL P all n (listed.setIfInBounds i true)=some l/\
  planChk all listed i fl=true/\io.dst=io0.dst/\io.guard=io0.guard/\((io=io0/\(fl=true->ldChk all listed i=true))\/(fl=true/\io.op=toS io0.op)):=by
 cases fuel with
 |zero=>grind [planL]
 |succ n=>simp only [planL] at h;grind
theorem j3c(i:IOp)(H:List SObj)(ev:Operand->SV):(toS i).ev H ev=i.ev H ev:=by cases i<;>rfl
theorem z6a(h:planL P all fuel listed=some []):(Region.ready .any all listed).isEmpty=true:=by
 cases fuel with
 |zero=>grind [planL]
 |succ n=>simp only [planL] at h;grind

variable {G:List Nat}
theorem j7M(h:SoundI P AQ ⟨k0,k,t,H⟩):SoundI P AQ ⟨k0,.dops G [] :: k,t,H⟩:=by intro all listed fuel k' hp hr;grind [any_nil,z6a,q0e]

def floatOk(G:List Nat)(ev:Operand->SV):IOp->Bool
 |.mov _|.pick .. |.nil _|.bin .. |.eqs .. |.un .. |.toInt .. |.fa .. |.fld .. |.ia .. |.ixs .. |.len .. |.ext .. |.mkf .. |.mke .. |.mki .. |.bld .. |.sl .. |.sl3 .. |.iaa .. |.sla .. |.ixd .. |.ixr .. |.s2a .. |.bdd .. |.sla3 .. =>true
 |.toStr _ x=>match ev x with
  |.bld .. =>false
  |.osl .. =>false
  |_=>true
 |.ld _ x=>match ev x with
  |.ptr h _=>G.contains h
  |.rptr h _ _ _=>G.contains h
  |_=>true
 |.ldS _ x=>match ev x with
  |.ptr h _=>(strictP G).contains h
  |.rptr h _ _ _=>(strictP G).contains h
  |_=>true
 |.mlk _ _ _ m _=>match ev m with
  |.imap .. =>true
  |_=>false
 |_=>false
variable {H':List SObj}{ev:Operand->SV}
theorem z3J{x:Operand}(hf:floatOk G ev (.toStr b x)=true):(IOp.toStr b x).ev H' ev=(IOp.toStr b x).ev H ev:=by
 cases b with
 |false=>rfl
 |true=>grind [IOp.ev,floatOk]
theorem z4A{a:Option IntKind}{z:Value}{ok:Bool}{m k:Operand}(hf:floatOk G ev (.mlk a z ok m k)=true):(IOp.mlk a z ok m k).ev H' ev=(IOp.mlk a z ok m k).ev H ev:=by simp only [IOp.ev,floatOk] at*;generalize ev m=s at*;cases s<;>first|rfl|simp_all
variable {i:IOp}
theorem z3j(e:floatOk G ev i=true)(h:SameG G H H'):i.ev H' ev=i.ev H ev:=by
 cases i<;>first|rfl| (simp [floatOk] at e;done) |skip
 case toStr b x=>exact z3J e
 case mlk=>exact z4A e
 case ld ag x=>
  simp only [IOp.ev,floatOk] at*;generalize ev x=s at*;cases s<;>first|rfl|skip
  . rename_i v;cases v<;>try rfl
    rename_i p;cases p<;>try rfl
    rename_i a;obtain ⟨b,off,j⟩:=a;cases j<;>rfl
  . simp only at e;simp only [evLd];rw [h _ (by grind)]
  simp only at e;simp only [evLd];rw [h _ (by grind)]
 case ldS ag x=>
  simp only [IOp.ev,floatOk] at*;generalize ev x=s at*;cases s<;>first|rfl|skip
  . rename_i v;cases v<;>try rfl
    rename_i p;cases p<;>try rfl
    rename_i a;obtain ⟨b,off,j⟩:=a;cases j<;>rfl
  . simp only at e;simp only [evLd];rw [h _ (q2t (by grind))]
  simp only at e;simp only [evLd];rw [h _ (q2t (by grind))]

theorem floatS(h:floatOk G ev (toS i)=true):floatOk G ev i=true/\(isLd i=true->∀H H',SameG (strictP G) H H'->i.ev H' ev=i.ev H ev):=by
 cases i<;>first|exact ⟨h,λe=>absurd e Bool.false_ne_true⟩ |skip
 case ld ag x=>simp only [toS,floatOk] at h;refine ⟨?_,λ_ H H' a=>z3j (G:=strictP G) (by grind [floatOk]) a⟩;grind [floatOk,q2t]
 case ldS ag x=>refine ⟨h,λ_ H H' a=> ?_⟩;simp only [toS,floatOk] at h;exact z3j (i:=.ld ag x) (G:=strictP G) (by grind [floatOk]) a
variable {i:Nat}
theorem float0{a:OpI}(e:(io=a/\(fl=true->ldChk all listed i=true))\/(fl=true/\io.op=toS a.op))(hfl:fl=true)(hf:floatOk G ev io.op=true):
 floatOk G ev a.op=true/\(∀H,io.op.ev H ev=a.op.ev H ev)/\(isLd a.op=true->ldChk all listed i=true\/∀H H',SameG (strictP G) H H'->a.op.ev H' ev=a.op.ev H ev):=by
 rcases e with ⟨rfl,h⟩ | ⟨_,h⟩
 . simp_all
 grind [floatS,j3c]
theorem op0{a:OpI}(e:(io=a/\(fl=true->ldChk all listed i=true))\/(fl=true/\io.op=toS a.op))(H:List SObj):io.op.ev H ev=a.op.ev H ev:=by
 rcases e with ⟨rfl,h⟩ | ⟨_,h⟩
 . rfl
 rw [h,j3c]
variable {i:IOp}
theorem z3V(e:floatOk G ev i=true)(a:isLd i=false):i.ev H' ev=i.ev H ev:=by
 cases i<;>first|rfl| (simp [floatOk] at e;done) | (simp [isLd] at a;done) |skip
 all_goals grind [z3J,z4A]
variable {o:Oper}
theorem z1Y(h:compO P all o=some io)(a:isLd io.op=true):needsLd o=true:=by rw [<- (compOp'_ok (compO_op' h).1).2.1];exact a
def j1O(h:compO P all o=some io):gk o=gkI io.op:=(compOp'_ok (compO_op' h).1).2.2.symm

theorem q1H{i:Nat}(h:planChk all listed i true=true):((Region.ready .any all listed).contains i&& Region.free .any all listed i)=true/\ldChkS all listed i=true:=by simp_all [planChk]

variable {p:Prop}{s:SV}{k':List It}
theorem z4Q{i n:Nat}(u:all[i]?=some o)(z:compO P all o=some io)(j:wantedT all t o=some true)(B:floatOk G (evT t) io.op=true)(x:io.op.ev H (evT t)= .val p s)(r:p)(e:isLd io.op=true->ldChk all listed i=true\/∀H H',SameG (strictP G) H H'->io.op.ev H' (evT t)=io.op.ev H (evT t))
 (F:planChk all listed i true=true)(h:AnyV P AQ k0 k' all G n (listed.setIfInBounds i true) (putT t o.dst s) H):AnyV P AQ k0 k' all G (n+1) listed t H:=by
 obtain ⟨y,h2⟩:=q1H F;cases D:isLd io.op with
 |false=>exact q3x y u (.inl ⟨j,λH' _ K a=>q2g (q0D z).1 (by rw [z3V (H:=H) B D,x];exact ⟨r,a⟩)⟩) h
 |true=>
  rcases e D with E|E
  . have e:ldFree all listed i=true:=by grind [ldChk,z1Y]
    exact z5y y e u (.inl ⟨j,λH' A K a=>q2g (q0D z).1 (by rw [z3j B A,x];exact ⟨r,a⟩)⟩) h
  have e:closedB all listed=true:=by grind [ldChkS,z1Y]
  exact q8O y e u (.inl ⟨j,λH' A K a=>q2g (q0D z).1 (by rw [E _ _ A,x];exact ⟨r,a⟩)⟩) h

def j1C(J:io.guard=none)(B:floatOk G (evT t) io.op=true)(E:io.op.ev H (evT t)= .val p s)(A:p)(h:SoundI P AQ ⟨k0,.dops G l :: k,putT t io.dst s,H⟩):
 SoundI P AQ ⟨k0,.dops G ((true,io) :: l) :: k,t,H⟩:=by
 intro all listed fuel k' y F;obtain ⟨n,i,o,io0,rfl,D,a,j,I,e,r,z⟩:=q1w y;obtain ⟨u,x,L⟩:=float0 z rfl B;refine z4Q D a ((q0x a).1 (r▸J)) u ((x H).symm.trans E) A L I ?_;rw [<- (q0D a).2,<-e];exact h all _ n k' j F

theorem z4t(d:Nat){v:Bool}(hv:t.getD d .any= .raw (.bool v))(e:v=b)(h:AnyV P AQ k0 k' all G fuel listed (t.set d (.raw (.bool b))) H):AnyV P AQ k0 k' all G fuel listed t H:=by
 subst e;have:t.set d (.raw (.bool v))=t:=by
  rcases A8 d t.length with a|a
  . apply AE;grind
  simp_all
 simp_all

theorem j1t{v:Bool}(hg:io.guard=some (d,b))(j:t.getD d .any= .raw (.bool v))
 (r:v=b->SoundI P AQ ⟨k0,.dops G ((fl,{io with guard:=some (d,b)}) :: l) :: k,t.set d (.raw (.bool b)),H⟩)
 (h2:v= !b->SoundI P AQ ⟨k0,.dops G ((fl,{io with guard:=some (d,b)}) :: l) :: k,t.set d (.raw (.bool !b)),H⟩):SoundI P AQ ⟨k0,.dops G ((fl,io) :: l) :: k,t,H⟩:=by
 have h:{io with guard:=some (d,b)}=io:=by cases io;simp_all
 rw [h] at r h2;intro all listed fuel k' e n;by_cases u:v=b
 . exact z4t d j u (r u all listed fuel k' e n)
 have a:v= !b:=by cases v<;>cases b<;>simp_all
 exact z4t d j a (h2 a all listed fuel k' e n)

theorem z5I(hg:io.guard=some (d,b))(hv:t.getD d .any= .raw (.bool b))(A:floatOk G (evT t) io.op=true)(D:io.op.ev H (evT t)= .val p s)(z:p)(h:SoundI P AQ ⟨k0,.dops G l :: k,putT t io.dst s,H⟩):
 SoundI P AQ ⟨k0,.dops G ((true,io) :: l) :: k,t,H⟩:=by
 intro all listed fuel k' x E;obtain ⟨n,i,o,io0,rfl,B,e,j,F,a,hgd,y⟩:=q1w x;obtain ⟨r,u,I⟩:=float0 y rfl A;refine z4Q B e (by grind [q0x]) r ((u H).symm.trans D) z I F ?_;rw [<- (q0D e).2,<-a];exact h all _ n k' j E
theorem z4p{i:Nat}(fl:Bool)(u:planChk all listed i fl=true)(n:all[i]?=some o)(e:wantedT all t o=some false)
 (h:AnyV P AQ k0 k' all G fuel (listed.setIfInBounds i true) (putT t o.dst (.raw (.tuple #[]))) H):AnyV P AQ k0 k' all G (fuel+1) listed t H:=by
 cases fl with
 |true=>exact j1c (q1H u).1 n e h
 |false=>
  have a:Region.ready .any all listed= [i]:=by grind [planChk]
  refine ⟨λh0=>(by simp_all),λj r=> ?_⟩;rw [a] at r;obtain rfl:j=i:=by grind
  exact ⟨o,n,.inr ⟨e,SameG.refl _ _,h⟩⟩
def j4l(B:io.guard=some (d,b))(y:t.getD d .any= .raw (.bool !b))(h:SoundI P AQ ⟨k0,.dops G l :: k,putT t io.dst (.raw (.tuple #[])),H⟩):
 SoundI P AQ ⟨k0,.dops G ((fl,io) :: l) :: k,t,H⟩:=by
 intro all listed fuel k' u z;obtain ⟨n,i,o,io0,rfl,x,e,j,A,a,r,hop⟩:=q1w u;refine z4p fl A x (by rw [(q0x e).2.1 d b (!b) (r▸B) y];simp) ?_;rw [<- (q0D e).2,<-a];exact h all _ n k' j z

theorem j1a(B:io.guard=some (d,b))(y:t.getD d .any= .raw (.tuple vs))(h:SoundI P AQ ⟨k0,.dops G l :: k,putT t io.dst (.raw (.tuple #[])),H⟩):
 SoundI P AQ ⟨k0,.dops G ((fl,io) :: l) :: k,t,H⟩:=by
 intro all listed fuel k' u z;obtain ⟨n,i,o,io0,rfl,x,e,j,A,a,r,hop⟩:=q1w u;refine z4p fl A x ((q0x e).2.2 d b vs (r▸B) y) ?_;rw [<- (q0D e).2,<-a];exact h all _ n k' j z

def opKG(P:Program)(AQ:Ex->List SV->List SObj->Prop)(k0:Nat)(g:Bool)(G:List Nat)(H:List SObj)(td:List IT)(t:List SV)(d:Option Tmp):Out->List SObj->Prop
 |.ret s,H'=>(g=true->SameG G H H')/\SoundI P AQ ⟨k0,td,putT t d s,H'⟩
 |.pan s,H'=>AQ (.pan s) [] H'
theorem j2z(hg:io.guard=none\/∃d b,io.guard=some (d,b)/\t.getD d .any= .raw (.bool b))(h:(io.op.ev H (evT t)).to P H (opKG P AQ k0 true (if gkI io.op then G else strictP G) H (.dops G l :: k) t io.dst)):
 SoundI P AQ ⟨k0,.dops G ((false,io) :: l) :: k,t,H⟩:=by
 intro all listed fuel k' r A;obtain ⟨n,i,o,j,rfl,y,a,e,B,hdst,hgd,hop⟩:=q1w r;have z:wantedT all t o=some true:=by grind [q0x]
 obtain ⟨rfl, -⟩:io=j/\True:=by simp_all
 refine j3N B y z (OpV.mono (q2g (q0D a).1 h) λx H' u=> ?_);cases x with
 |ret s=>
  simp only [opKG,(q0D a).2] at u;refine ⟨?_,u.2 all _ n k' e A⟩;simp only [gsel,y];rw [j1O a]
  simp_all
 |pan s=>exact u

theorem j6a{f:FuncId}{args:List SV}(hg:io.guard=none\/∃d b,io.guard=some (d,b)/\t.getD d .any= .raw (.bool b))(B:∀H',io.op.ev H' (evT t)= .call f args)(z:enters P f=true)
 (F:∀ (H':List SObj) (K:Out->List SObj->Prop),K (.ret s) H'->VCallG P f args H' K)(h:SoundI P AQ ⟨k0,.dops G l :: k,putT t io.dst s,H⟩):
 SoundI P AQ ⟨k0,.dops G ((true,io) :: l) :: k,t,H⟩:=by
 intro all listed fuel k' r D;obtain ⟨n,i,o,io0,rfl,A,e,j,E,a,hgd,u⟩:=q1w r;have x:wantedT all t o=some true:=by grind [q0x]
 refine q3x (q1H E).1 A (.inl ⟨x,λH' _ K y=>q2g (q0D e).1 (by rw [<-op0 u H',B H'];exact ⟨z,F H' K y⟩)⟩) ?_;rw [<- (q0D e).2,<-a];exact h all _ n k' j D
variable {ag:Option Nat}
theorem j0A{v:Value}:evLd H' ag (.raw v)=evLd H ag (.raw v):=by
 cases v<;>try rfl
 rename_i p;cases p<;>try rfl
 rename_i a;obtain ⟨b,off,e⟩:=a;cases e<;>rfl
theorem z3t{a:Option Nat}{b off:Nat}(h:evLd H a s= .zld ag b off):evLd H' a s= .zld ag b off:=by
 cases s with
 |raw v=>grind [j0A]
 |ptr x k=>grind [evLd]
 |rptr x t i k=>simp only [evLd,ldRow] at h;repeat' (first| (cases h;done) |split at h)
 |_=>exact h
theorem j6X{b off:Nat}(hf:floatOk G ev i=true)(h:i.ev H ev= .zld ag b off):i.ev H' ev= .zld ag b off:=by
 cases a:isLd i with
 |false=>grind [z3V]
 |true=>
  cases i<;>first| (cases a;done) |skip
  case ld ag' x=>exact z3t h
  case ldS ag' x=>exact z3t h
theorem j6L{b off:Nat}(hg:io.guard=none\/∃d b,io.guard=some (d,b)/\t.getD d .any= .raw (.bool b))(A:∀H',io.op.ev H' (evT t)= .zld ag b off)
 (F:∀ (E:EnD) (C:Cx) (H':List SObj),Wd C H'->Ghost.inv E C H'->ZLd C ag b off s)(h:SoundI P AQ ⟨k0,.dops G l :: k,putT t io.dst s,H⟩):
 SoundI P AQ ⟨k0,.dops G ((true,io) :: l) :: k,t,H⟩:=by
 intro all listed fuel k' u B;obtain ⟨n,i,o,io0,rfl,z,e,j,D,a,hgd,x⟩:=q1w u;have r:wantedT all t o=some true:=by grind [q0x]
 refine q3x (q1H D).1 z (.inl ⟨r,λH' _ K y=>q2g (q0D e).1 (by rw [<-op0 x H',A H'];exact λE C r I=>⟨s,F E C H' r I,y⟩)⟩) ?_;rw [<- (q0D e).2,<-a];exact h all _ n k' j B
section
variable {o:Oper} {ev:Operand->SV} {K:Out->List SObj->Prop}
theorem z2J{C:Cx}{w':World}(e:Wd C H)(B:C.w.heap.size<=w'.heap.size)(u:∀b,b<C.w.heap.size->w'.heap[b]?=C.w.heap[b]?)(A:w'.os=C.w.os)(z:w'.tape=C.w.tape)(D:w'.output=C.w.output):
 Wd {C with w:=w'} H/\Ext ⟨C,H⟩ {C with w:=w'} H:=by
 have r:Evo C {C with w:=w'}:=⟨Ac _,λ_ _=>rfl,λb j=>⟨j,u b (e.imm b j)⟩,λb m hm=>by
  grind [World.bsize]⟩
 refine ⟨⟨e.n,λh o x=> ?_,λb a=> ?_,e.inj,λb j=>Aj (e.imm b j) B⟩,⟨r,B,A,z,D,λb a _=>u b a,λb j=>.inl j,λb a=>.inr a,λ_ _ h=>h⟩⟩
 . by_cases y:o.live=true
   . exact q0z (C':={C with w:=w'}) r.I h rfl (λb a=>u b (e.own b ⟨h,o,x,y,a⟩).2) (q0f r) (e.obj h o x)
   cases o<;>first|trivial|simp [SObj.live] at y
 obtain ⟨A,z⟩:=e.own b a;grind
theorem j2d{T e:TypeId}{ty:Ty}{len sz:Nat}{parts:Array (Nat×Operand)}{zs:List Value}{cs:List SV}{xs:List ty.den}(A:o.op= .buildSlice T len parts)(ht:P.underlying T=some (.slice e))(hs:(P.info? e).map (·.size)=some sz)
 (y:zerosOf P e len=some zs)(hf:fillS (PlaceK.arr sz).fn (rawL zs) (parts.toList.map λp=>(p.1,ev p.2))=some cs)(hr:rdL ty len cs=some (xs,p))(hp:p)(D:len<=1125899906842624)
 (hk:K (.ret (.fsl ty xs)) H):OpV P o ev H K:=by
 refine q0L (by simp_all) λC W r Q=> ?_;rw [A] at Q;simp only [Op.operands] at Q;obtain ⟨us,V,Z⟩:=q2L (C:=C) (e:=W) (parts:=parts) (λq hq=>Q q.2 (by grind)) hf;obtain ⟨g1,U⟩:=q9X len cs xs p us hr hp Z;have B:(execOp W o).run P C.w= .ok (.value (.slice (some ⟨C.w.heap.size,0,none⟩) len len)) (C.w.alloc (.cells us.toArray e)):=by
  unfold zerosOf at y;cases X:P.info? e with
  |none=>simp_all
  |some i=>
   simp only [X] at y;cases hz0:i.zero with
   |none=>simp_all
   |some z=>
    simp only [hz0] at y;split at y
    . rename_i R;have N:i.size=sz:=by simp_all
      cases y;simp only [execOp,A,Sem.run_bind,Instr.buildSlice,run_underlying' ht,Result.andThen,q0k hs,Sem.run_ite];rw [N] at V R;rw [if_neg (by omega)];have O:(zeroValue e).run P C.w= .ok z C.w:=by simp [zeroValue,typeInfo,X,hz0]
      have h1':=V;simp only [Cm] at h1';by_cases S:len*sz=0
      . simp only [if_pos S,Sem.run_pure] at h1'⊢
        erw [h1']
        simp [newRow]
      simp only [if_neg S,O,Sem.run_pure] at h1'⊢
      erw [h1']
      simp [newRow]
    cases y
 have J:(C.w.alloc (.cells us.toArray e)).heap.size=C.w.heap.size+1:=CQ _;obtain ⟨w1,j⟩:=z2J (w':=C.w.alloc (.cells us.toArray e)) r (by omega) (λb a=>q1p _ _ a) rfl rfl rfl;have hnew:(C.w.alloc (.cells us.toArray e)).heap[C.w.heap.size]?=some (.cells us.toArray e (0,0)):=q1q _ _
 let C':Cx:={C with w:=C.w.alloc (.cells us.toArray e),I:=λb=>C.I b\/b=C.w.heap.size}
 have L:Keeps C.I C'.I C.w C'.w:=λb a=>⟨.inl a,(j.evo.I b a).2⟩;have Y:Evo C C':=⟨Ac _,λ_ _=>rfl,L,j.evo.sz⟩;have hnown:∀b,OwnB C H b->b≠C.w.heap.size:=λb a=>Nat.ne_of_lt (r.own b a).2;refine ⟨.fsl ty xs,.slice (some ⟨C.w.heap.size,0,none⟩) len len,H,C',hk,.inl B,⟨r.n,λh x E=> ?_,λb a=> ?_,r.inj,λb a=> ?_⟩,⟨Y,j.size,j.os,j.tape,j.output,j.frame,λb a=> ?_,j.ownNew,j.keep0⟩,?_⟩
 . by_cases D:x.live=true
   . exact q0z (C':=C') L h rfl (λb a=>q1p _ _ (r.own b ⟨h,x,E,D,a⟩).2) (q0f Y) (r.obj h x E)
   cases x<;>first|trivial|simp [SObj.live] at D
 . have:=r.own b a;grind
 . show b< (C.w.alloc _).heap.size;rw [J];exact a.elim (λx=>Nat.lt_succ_of_lt (r.imm b x)) λx=>by omega
 . refine orMap a id λx=>⟨.inl (CN x.symm),λc T' fz hc=> ?_⟩
   grind
 rw [SV.den];refine ⟨⟨_,len,len,rfl,U.symm,Ac _,D,.inr ⟨C.w.heap.size,0,rfl,.inr rfl,λi x E=> ?_⟩⟩,_,by rw [U]⟩;obtain ⟨F,q1,q2⟩:=q9g g1 i x E;refine ⟨F,Ty.rel_keep L _ _ _ q1,λk u hu=> ?_⟩;show (C.w.alloc _).cell? _=_
 simp_all

theorem j5u{op:Op}{ty:Ty}{n sz:Nat}{zs:List Value}{ps:List (Nat×Operand)}(h:compOp P op=some (.bsl ty n sz zs ps))(a:∀T n ps,op≠ .buildSlice T n ps):False:=by
 unfold compOp at h;repeat' split at h
 all_goals first
  |exact a _ _ _ rfl
  |contradiction
  | (simp only [AL,Al,Option.some.injEq,reduceCtorEq,and_false,exists_false] at h;done)
  | (simp [AL] at h;done)
end
def isBslI:IOp->Bool
 |.bsl .. =>true
 |_=>false
theorem j5M(h:isBslI (toS i)=true):toS i=i:=by cases i<;>first|rfl|cases h
theorem z7C{t:Ty}:∀ (n:Nat) (cs:List SV) (xs:List t.den) (p:Prop),rdL t n cs=some (xs,p)->xs.length=n
 |0,[],xs,p,h=>by cases h;rfl
 |0,_ :: _,xs,p,h=>by simp [rdL] at h
 |n+1,cs,xs,p,h=>by
  simp only [rdL] at h;split at h
  . cases h;rename_i a;rw [AB,z7C n _ _ _ a]
  cases h
theorem j8k{Hk:List SObj}{ty:Ty}{xs:List ty.den}(hg:io.guard=none\/∃d b,io.guard=some (d,b)/\t.getD d .any= .raw (.bool b))(A:isBslI io.op=true)(he:io.op.ev H (evT t)= .new p s Hk (.row ty xs))(hp:p)(hl:xs.length<=1125899906842624)
 (h:SoundI P AQ ⟨k0,.dops G l :: k,putT t io.dst (.fsl ty xs),H⟩):SoundI P AQ ⟨k0,.dops G ((true,io) :: l) :: k,t,H⟩:=by
 intro all listed fuel k' u E;obtain ⟨n,i,o,y,rfl,D,e,j,I,a,hgd,x⟩:=q1w u;have B:wantedT all t o=some true:=by grind [q0x]
 have z:y.op=io.op:=by rcases x with ⟨rfl,_⟩ | ⟨_,h1⟩;all_goals grind [j5M]
 have r:=(q0D e).1;rw [z] at r;refine q3x (q1H I).1 D (.inl ⟨B,λH' _ K hk=> ?_⟩) (by rw [<- (q0D e).2,<-a];exact h all _ n k' j E);cases F:io.op with
 |bsl ty' m sz zs ps=>grind [IOp.ev,compOp,j2d,z7C,j5u]
 |_=>rw [F] at A;cases A
end
section
open Go

variable [Ghost] {P:Program} {AQ:Ex->List SV->List SObj->Prop} {k0:Nat} {k:List IT} {t:List SV} {H:List SObj}

def VC(P:Program)(f:FuncId)(args:List SV)(H:List SObj)(K:Out->List SObj->Prop):Prop:=enters P f=true/\VCall P f args H K
def VCG(P:Program)(f:FuncId)(args:List SV)(H:List SObj)(K:Out->List SObj->Prop):Prop:=enters P f=true/\VCallG P f args H K
def VC.g{f:FuncId}{args:List SV}{K:Out->List SObj->Prop}(h:VC P f args H K):VCG P f args H K:=⟨h.1,h.2.g⟩

def CallI(P:Program)(AQ:Ex->List SV->List SObj->Prop)(f:FuncId)(args:List SV)(d:Option Tmp)(m:IM):Prop:=
 VCG P f args m.heap (opK P AQ m.k0 m.todo m.tmps d)
def CallR(P:Program)(AQ:Ex->List SV->List SObj->Prop)(G:List Nat)(f:FuncId)(args:List SV)(d:Option Tmp)(m:IM):Prop:=
 VCG P f args m.heap (opKG P AQ m.k0 true G m.heap m.todo m.tmps d)
def CallF(P:Program)(AQ:Ex->List SV->List SObj->Prop)(f:FuncId)(args:List SV)(d:Option Tmp)(m:IM):Prop:=
 ∃s,enters P f=true/\(∀ (H':List SObj) (K:Out->List SObj->Prop),K (.ret s) H'->VCallG P f args H' K)/\SoundI P AQ {m with tmps:=putT m.tmps d s}

def ZldF(P:Program)(AQ:Ex->List SV->List SObj->Prop)(ag:Option Nat)(b off:Nat)(d:Option Tmp)(m:IM):Prop:=
 ∃s,(∀ (E:EnD) (C:Cx) (H':List SObj),Wd C H'->Ghost.inv E C H'->ZLd C ag b off s)/\SoundI P AQ {m with tmps:=putT m.tmps d s}
def ZldI(P:Program)(AQ:Ex->List SV->List SObj->Prop)(ag:Option Nat)(b off:Nat)(d:Option Tmp)(m:IM):Prop:=(Res.zld ag b off).to P m.heap (opK P AQ m.k0 m.todo m.tmps d)
def ZstI(P:Program)(AQ:Ex->List SV->List SObj->Prop)(n b off:Nat)(y:SV)(d:Option Tmp)(m:IM):Prop:=(Res.zst n b off y).to P m.heap (opK P AQ m.k0 m.todo m.tmps d)
def ZldR(P:Program)(AQ:Ex->List SV->List SObj->Prop)(g:Bool)(G:List Nat)(ag:Option Nat)(b off:Nat)(d:Option Tmp)(m:IM):Prop:=(Res.zld ag b off).to P m.heap (opKG P AQ m.k0 g G m.heap m.todo m.tmps d)
def ZstR(P:Program)(AQ:Ex->List SV->List SObj->Prop)(g:Bool)(G:List Nat)(n b off:Nat)(y:SV)(d:Option Tmp)(m:IM):Prop:=(Res.zst n b off y).to P m.heap (opKG P AQ m.k0 g G m.heap m.todo m.tmps d)
def YldI(P:Program)(AQ:Ex->List SV->List SObj->Prop)(l:Nat)(args:List SV)(d:Option Tmp)(m:IM):Prop:=(Res.yld l args).to P m.heap (opK P AQ m.k0 m.todo m.tmps d)
def YldR(P:Program)(AQ:Ex->List SV->List SObj->Prop)(g:Bool)(G:List Nat)(l:Nat)(args:List SV)(d:Option Tmp)(m:IM):Prop:=(Res.yld l args).to P m.heap (opKG P AQ m.k0 g G m.heap m.todo m.tmps d)

def exec(P:Program)(AQ:Ex->List SV->List SObj->Prop)(rec:IM->Prop)(k0:Nat)(td:List IT)(t:List SV)(H:List SObj)(d:Option Tmp):Res->Prop
 |.val p s=>p/\rec ⟨k0,td,putT t d s,H⟩
 |.amb E s=>∀b:Bool,(b=true->E)->rec ⟨k0,td,putT t d (s b),H⟩
 |.new p s Hk so=>p/\rec ⟨k0,td,putT t d s,Hk++ [so]⟩
 |.set s h so=>rec ⟨k0,td,putT t d s,H.set h so⟩
 |.setp p s h so=>p/\rec ⟨k0,td,putT t d s,H.set h so⟩
 |.call f args=>CallI P AQ f args d ⟨k0,td,t,H⟩
 |.zld ag b off=>ZldI P AQ ag b off d ⟨k0,td,t,H⟩
 |.zst n b off y=>ZstI P AQ n b off y d ⟨k0,td,t,H⟩
 |.yld l args=>YldI P AQ l args d ⟨k0,td,t,H⟩
 |.pan s=>AQ (.pan s) t H
 |.none=>False

def execR(P:Program)(AQ:Ex->List SV->List SObj->Prop)(rec:IM->Prop)(g:Bool)(k0:Nat)(G:List Nat)(td:List IT)(t:List SV)(H:List SObj)(d:Option Tmp):Res->Prop
 |.val p s=>p/\rec ⟨k0,td,putT t d s,H⟩
 |.amb E s=>∀b:Bool,(b=true->E)->rec ⟨k0,td,putT t d (s b),H⟩
 |.new p s Hk so=>p/\(g=true->SameG G H (Hk++ [so]))/\rec ⟨k0,td,putT t d s,Hk++ [so]⟩
 |.set s h so=>(g=true->SameG G H (H.set h so))/\rec ⟨k0,td,putT t d s,H.set h so⟩
 |.setp p s h so=>p/\(g=true->SameG G H (H.set h so))/\rec ⟨k0,td,putT t d s,H.set h so⟩
 |.call f args=>g=true/\CallR P AQ G f args d ⟨k0,td,t,H⟩
 |.zld ag b off=>ZldR P AQ g G ag b off d ⟨k0,td,t,H⟩
 |.zst n b off y=>ZstR P AQ g G n b off y d ⟨k0,td,t,H⟩
 |.yld l args=>YldR P AQ g G l args d ⟨k0,td,t,H⟩
 |.pan s=>AQ (.pan s) [] H
 |.none=>False

def execF(P:Program)(AQ:Ex->List SV->List SObj->Prop)(rec:IM->Prop)(c q:Bool)(k0:Nat)(td:List IT)(t:List SV)(H:List SObj)(d:Option Tmp):Res->Prop
 |.val p s=>p/\rec ⟨k0,td,putT t d s,H⟩
 |.call f args=>c=true/\CallF P AQ f args d ⟨k0,td,t,H⟩
 |.zld ag b off=>ZldF P AQ ag b off d ⟨k0,td,t,H⟩
 |.new p _ _ (.row ty xs)=>q=true/\p/\xs.length<=1125899906842624/\rec ⟨k0,td,putT t d (.fsl ty xs),H⟩
 |_=>False

def gOf:Nat->List Nat
 |0=>[]
 |n+1=>n :: gOf n

def isCallI:IOp->Bool
 |.call _ _=>true
 |_=>false

def bothG(b v:Bool)(A B:Prop):Prop:=(v=b->A)/\(v= !b->B)
def z9D(A B:Prop):bothG true true A B=A:=by simp [bothG]
def j1Z(A B:Prop):bothG true false A B=B:=by simp [bothG]
def j0W(A B:Prop):bothG false true A B=B:=by simp [bothG]
def z9U(A B:Prop):bothG false false A B=A:=by simp [bothG]
theorem j4A(v:Bool)(A B:Prop):bothG true v A B=((v=true->A)/\(v=false->B)):=rfl
theorem j6o(v:Bool)(A B:Prop):bothG false v A B=((v=false->A)/\(v=true->B)):=rfl
variable {G:List Nat}
def q0u{h:Nat}{H':List SObj}:SameG (h :: G) H H'=(H'[h]?=H[h]?/\SameG G H H'):=by simp [SameG]
def q0A{H':List SObj}:SameG [] H H'=True:=by simp [SameG]

def run(P:Program)(AQ:Ex->List SV->List SObj->Prop):Nat->IM->Prop
 |0,m=>SoundI P AQ m
 |n+1,⟨k0,td,t,H⟩=>match td with
  | []=>AQ .normal t H
  |.ic c :: k=>match c with
   |.skip=>run P AQ n ⟨k0,k,t,H⟩
   |.seq a b=>run P AQ n ⟨k0,.ic a :: .ic b :: k,t,H⟩
   |.cond c a b=>match evT t c with
    |.raw (.bool v)=>bothG true v (run P AQ n ⟨k0,.ic a :: k,t,H⟩) (run P AQ n ⟨k0,.ic b :: k,t,H⟩)
    |_=>False
   |.blk id c=>run P AQ n ⟨k0,.ic c :: .blk id :: k,t,H⟩
   |.loop c=>SoundI P AQ ⟨k0,.ic (.loop c) :: k,t,H⟩
   |.exit id=>match exitI id k with
    |some k'=>run P AQ n ⟨k0,k',t,H⟩
    |none=>AQ (.exit id) t H
   |.ret=>AQ .ret t H
   |.rf g ps a b=>SoundI P AQ ⟨k0,.ic (.rf g ps a b) :: k,t,H⟩
   |.scp c=>run P AQ n ⟨k0,.ic c :: k,t,H⟩
   |.lbl _=>run P AQ n ⟨k0,k,t,H⟩
   |.hnd all=>SoundI P AQ ⟨k0,.ic (.hnd all) :: k,t,H⟩
   |.reg l=>run P AQ n ⟨k0,.ops l :: k,t,H⟩
   |.drw l=>run P AQ n ⟨k0,.dops (gOf H.length) l :: k,t,H⟩
  |.blk _ :: k=>run P AQ n ⟨k0,k,t,H⟩
  |.stop Φ :: _=>Φ t H
  |.ops l :: k=>match l with
   | []=>run P AQ n ⟨k0,k,t,H⟩
   |io :: l=>match io.guard with
    |none=>exec P AQ (run P AQ n) k0 (.ops l :: k) t H io.dst (io.op.ev H (evT t))
    |some (d,b)=>match t.getD d .any with
     |.raw (.bool v)=>bothG b v (exec P AQ (run P AQ n) k0 (.ops l :: k) (t.set d (.raw (.bool b))) H io.dst (io.op.ev H (evT (t.set d (.raw (.bool b))))))
      (run P AQ n ⟨k0,.ops l :: k,putT (t.set d (.raw (.bool !b))) io.dst (.raw (.tuple #[])),H⟩)
     |.raw (.tuple _)=>run P AQ n ⟨k0,.ops l :: k,putT t io.dst (.raw (.tuple #[])),H⟩
     |_=>False
  |.dops G l :: k=>match l with
   | []=>run P AQ n ⟨k0,k,t,H⟩
   | (fl,io) :: l=>match io.guard with
    |none=>match fl with
     |true=>(floatOk G (evT t) io.op||isCallI io.op||isBslI io.op)=true/\execF P AQ (run P AQ n) (isCallI io.op) (isBslI io.op) k0 (.dops G l :: k) t H io.dst (io.op.ev H (evT t))
     |false=>execR P AQ (run P AQ n) true k0 (if gkI io.op then G else strictP G) (.dops G l :: k) t H io.dst (io.op.ev H (evT t))
    |some (d,b)=>match t.getD d .any with
     |.raw (.bool v)=>bothG b v (match fl with
      |true=>(floatOk G (evT (t.set d (.raw (.bool b)))) io.op||isCallI io.op||isBslI io.op)=true/\execF P AQ (run P AQ n) (isCallI io.op) (isBslI io.op) k0 (.dops G l :: k) (t.set d (.raw (.bool b))) H io.dst (io.op.ev H (evT (t.set d (.raw (.bool b)))))
      |false=>execR P AQ (run P AQ n) true k0 (if gkI io.op then G else strictP G) (.dops G l :: k) (t.set d (.raw (.bool b))) H io.dst (io.op.ev H (evT (t.set d (.raw (.bool b))))))
      (run P AQ n ⟨k0,.dops G l :: k,putT (t.set d (.raw (.bool !b))) io.dst (.raw (.tuple #[])),H⟩)
     |.raw (.tuple _)=>run P AQ n ⟨k0,.dops G l :: k,putT t io.dst (.raw (.tuple #[])),H⟩
     |_=>False

variable {rec:IM->Prop}{td:List IT}{d:Option Tmp}
theorem z7e(a:∀m,rec m->SoundI P AQ m){r:Res}(h:exec P AQ rec k0 td t H d r):r.to P H (opK P AQ k0 td t d):=by
 cases r with
 |val p s=>exact ⟨h.1,a _ h.2⟩
 |amb E s=>exact λb e=>a _ (h b e)
 |new p s Hk so=>exact ⟨h.1,a _ h.2⟩
 |set s x so=>exact a _ h
 |setp p s x so=>exact ⟨h.1,a _ h.2⟩
 |call f args=>exact h
 |zld ag b off=>exact h
 |zst n b off y=>exact h
 |yld l args=>exact h
 |pan s=>exact h
 |none=>exact h
theorem z4f(a:∀m,rec m->SoundI P AQ m){r:Res}{g:Bool}(h:execR P AQ rec g k0 G td t H d r):r.to P H (opKG P AQ k0 g G H td t d):=by
 cases r with
 |val p s=>exact ⟨h.1,λ_=>SameG.refl _ _,a _ h.2⟩
 |amb E s=>exact λb e=>⟨λ_=>SameG.refl _ _,a _ (h b e)⟩
 |new p s Hk so=>exact ⟨h.1,h.2.1,a _ h.2.2⟩
 |set s x so=>exact ⟨h.1,a _ h.2⟩
 |setp p s x so=>exact ⟨h.1,h.2.1,a _ h.2.2⟩
 |call f args=>obtain ⟨rfl,h⟩:=h;exact h
 |zld ag b off=>exact h
 |zst n b off y=>exact h
 |yld l args=>exact h
 |pan s=>exact h
 |none=>exact h

def j4j{i:IOp}{H':List SObj}{ev:Operand->SV}{f:FuncId}{args:List SV}(key:isCallI i=true)(h:i.ev H ev= .call f args):i.ev H' ev= .call f args:=by cases i<;>first|exact h|simp [isCallI] at key

theorem q6S(j:∀m,rec m->SoundI P AQ m){io:OpI}{l:List (Bool×OpI)}(A:io.guard=none\/∃d b,io.guard=some (d,b)/\t.getD d .any= .raw (.bool b))
 (I:(floatOk G (evT t) io.op||isCallI io.op||isBslI io.op)=true)(h:execF P AQ rec (isCallI io.op) (isBslI io.op) k0 (.dops G l :: k) t H io.dst (io.op.ev H (evT t))):SoundI P AQ ⟨k0,.dops G ((true,io) :: l) :: k,t,H⟩:=by
 generalize B:io.op.ev H (evT t)=r at h;cases r with
 |val p s=>
  have u:floatOk G (evT t) io.op=true:=by
   rcases B3.1 I with z|z
   . rcases B3.1 z with e|e
     . exact e
     exfalso;cases a:io.op<;>rw [a] at e<;>simp [isCallI] at e
     grind [IOp.ev]
   exfalso;cases a:io.op<;>rw [a] at z<;>first| (cases z;done) |skip
   grind [IOp.ev]
  rcases A with A| ⟨d,b,A,J⟩
  . exact j1C A u B h.1 (j _ h.2)
  exact z5I A J u B h.1 (j _ h.2)
 |call f args=>obtain ⟨F,s,e,D,L⟩:=h;exact j6a A (λH'=>j4j F B) e D L
 |amb E s=>exact h.elim
 |new p s Hk so=>
  cases so with
  |row ty xs=>exact j8k A h.1 B h.2.1 h.2.2.1 (j _ h.2.2.2)
  |_=>exact h.elim
 |set s x so=>exact h.elim
 |setp p s x so=>exact h.elim
 |zld ag b off=>
  have u:floatOk G (evT t) io.op=true:=by
   rcases B3.1 I with z|z
   . rcases B3.1 z with e|e
     . exact e
     exfalso;cases a:io.op<;>rw [a] at e<;>simp [isCallI] at e
     grind [IOp.ev]
   exfalso;cases a:io.op<;>rw [a] at z<;>first| (cases z;done) |skip
   grind [IOp.ev]
  obtain ⟨s,e,D⟩:=h;exact j6L A (λH'=>j6X u B) e D
 |zst n b off y=>exact h.elim
 |yld l args=>exact h.elim
 |pan s=>exact h.elim
 |none=>exact h.elim

theorem q0o(x:P.follows .mixedOrders=true):∀ (n:Nat) (m:IM),run P AQ n m->SoundI P AQ m
 |0,_,h=>h
 |n+1,⟨k0,td,t,H⟩,h=>by
  have a:=q0o x n;unfold run at h;split at h
  . exact j6B h
  . split at h
    . grind [j5h]
    . grind [j7j]
    . split at h
      . exact j3Q (by assumption) (λe=>a _ (h.1 e)) (λe=>a _ (h.2 e))
      simp_all
    . grind [j8a]
    . exact h
    . grind [j6h,j0P]
    . exact j6R h
    . exact h
    . grind [j7Y]
    . grind [j7C]
    all_goals grind [j8p,q1l]
  . grind [z8v]
  . exact j4X h
  . split at h
    . grind [z9f]
    split at h
    . grind [j8E,z7e]
    split at h
    . exact j2c (by assumption) (by assumption) (λe=>z7e a (h.1 e)) (λe=>a _ (h.2 e))
    all_goals grind [z6X]
  split at h
  . grind [j7M]
  rename_i fl io l;split at h
  . grind [q6S,j2z,z4f]
  rename_i d b u;split at h
  . rename_i v r;have j:{io with guard:=some (d,b)}=io:=by cases io;simp_all
    refine j1t u r (λe=> ?_) (λe=> ?_)
    . rw [j];have h1:=h.1 e;grind [q6S,j2z,z4f]
    rw [j];exact j4l u (q9Y r) (a _ (h.2 e))
  all_goals grind [j1a]
end
section
open Go

variable [Ghost] {P:Program} {AQ:Ex->List SV->List SObj->Prop} {k0:Nat} {k:List IT} {t:List SV} {H:List SObj}

structure FI where
 ntmps:Nat
 results:List ResultVar
 code:IC

def finfo(P:Program)(f:FuncId):Option FI:=
 match P.funcs[f]? with
 |some fn=>match fn.body with
  |some c=>match comp P c with
   |some ic=>if fn.name== "runtime.NumGoroutine" then none else some ⟨fn.ntmps,fn.results.toList,ic⟩
   |none=>none
  |none=>none
 |none=>none

def retF(P:Program)(rs:List ResultVar)(K:Out->List SObj->Prop):Ex->List SV->List SObj->Prop
 |.normal,t,H=>∃s,resV P t H rs=some s/\K (.ret s) H
 |.ret,t,H=>∃s,resV P t H rs=some s/\K (.ret s) H
 |.pan s,_,H=>K (.pan s) H
 |.exit _,_,_=>False

variable {f:FuncId}{args:List SV}
theorem q1Q{a:FI}{K:Out->List SObj->Prop}(h:finfo P f=some a)
 (u: @SoundI noGhost P (retF P a.results K) ⟨H.length,[.ic a.code],args++List.replicate (a.ntmps-args.length) .any,H⟩):VC P f args H K:=by
 unfold finfo at h;split at h
 . rename_i fn j;split at h
   . rename_i c r;split at h
     . rename_i ic x;split at h
       . cases h
       rename_i hn;cases h;refine ⟨by grind [enters],?_⟩;have n:retQ P fn K=retF P fn.results.toList K:=by funext e t H;rfl
       exact q4t j r (by rw [n];exact @q0e noGhost _ _ _ _ _ _ _ u ⟨c,[],rfl,x,rfl⟩)
     cases h
   cases h
 cases h

def PC(P:Program)(f:FuncId)(args:List SV)(s:SV):Prop:=enters P f=true/\∀ (H:List SObj) (K:Out->List SObj->Prop),K (.ret s) H->VCall P f args H K

def PK(s:SV):Out->List SObj->Prop:=λo _=>o= .ret s

variable {s:SV}
def q0s(ha:SV.cleanL args=true)(hs:s.clean=true)(h:VC P f args [] (PK s)):PC P f args s:=
 ⟨h.1,λH K hk=>VCall.frame ha hs h.2 H K hk⟩

variable {d:Option Tmp}{m:IM}
def q0b(hp:PC P f args s)(h:SoundI P AQ {m with tmps:=putT m.tmps d s}):CallI P AQ f args d m:=
 ⟨hp.1,(hp.2 _ _ h).g⟩
def q0g{G:List Nat}(hp:PC P f args s)(h:SoundI P AQ {m with tmps:=putT m.tmps d s}):CallR P AQ G f args d m:=
 ⟨hp.1,(hp.2 _ _ ⟨λ_=>SameG.refl _ _,h⟩).g⟩
def q0n(hp:PC P f args s)(h:SoundI P AQ {m with tmps:=putT m.tmps d s}):CallF P AQ f args d m:=
 ⟨s,hp.1,λH' K hk=>(hp.2 H' K hk).g,h⟩

mutual
def SV.ren(σ:Nat->Nat):SV->SV
 |.ptr h off=>.ptr (σ h) off
 |.rptr h t i k=>.rptr (σ h) t i k
 |.bld h t n=>.bld (σ h) t n
 |.osl h t off n=>.osl (σ h) t off n
 |.csl h t k i n=>.csl (σ h) t k i n
 |.mp h=>.mp (σ h)
 |.imap kk ks vs=>.imap kk ks vs
 |.agg l=>.agg (SV.renL σ l)
 |.tup l=>.tup (SV.renL σ l)
 |.fn f a b=>.fn f (SV.renL σ a) (SV.renL σ b)
 |.iface T x=>.iface T (SV.ren σ x)
 |.any=>.any
 |.raw v=>.raw v
 |.isl t xs=>.isl t xs
 |.fsl t xs=>.fsl t xs
 |.iptr t x k=>.iptr t x k
 |.dat t x=>.dat t x
def SV.renL(σ:Nat->Nat):List SV->List SV
 | []=>[]
 |s :: l=>SV.ren σ s :: SV.renL σ l
end
mutual
def SV.bel(n:Nat):SV->Bool
 |.ptr h _=>decide (h<n)
 |.rptr h _ _ _=>decide (h<n)
 |.bld h _ _=>decide (h<n)
 |.osl h _ _ _=>decide (h<n)
 |.csl h _ _ _ _=>decide (h<n)
 |.mp h=>decide (h<n)
 |.agg l=>SV.belL n l
 |.tup l=>SV.belL n l
 |.fn _ a b=>SV.belL n a&& SV.belL n b
 |.iface _ x=>SV.bel n x
 |.any=>true
 |.raw _=>true
 |.isl _ _=>true
 |.fsl _ _=>true
 |.iptr _ _ _=>true
 |.dat _ _=>true
 |.imap _ _ _=>true
def SV.belL(n:Nat):List SV->Bool
 | []=>true
 |s :: l=>SV.bel n s&& SV.belL n l
end
def Cx.ren(C:Cx)(σ:Nat->Nat)(n:Nat):Cx:={ρ:=λh=>C.ρ (σ h),n:=n,I:=C.I,w:=C.w}

mutual
theorem q9h{C:Cx}{σ:Nat->Nat}{n:Nat}:∀ {s:SV} {v:Value},s.bel n=true->(s.ren σ).den C v->s.den (C.ren σ n) v
 |.any,_,_,_=>by rw [SV.den];trivial
 |.raw _,_,_,d=>by grind [SV.ren,SV.den]
 |.isl _ _,_,_,d=>by rw [SV.ren,SV.den] at d;rw [SV.den];exact d
 |.fsl _ _,_,_,d=>by rw [SV.ren,SV.den] at d;rw [SV.den];exact d
 |.iptr _ _ _,_,_,d=>by rw [SV.ren,SV.den] at d;rw [SV.den];exact d
 |.ptr h off,_,hb,d=>by simp_all [SV.ren,SV.den,SV.bel,Cx.ren]
 |.rptr h t i k,_,hb,d=>by simp_all [SV.ren,SV.den,SV.bel,Cx.ren]
 |.bld h t m,_,hb,d=>by simp_all [SV.ren,SV.den,SV.bel,Cx.ren]
 |.osl h t off m,_,hb,d=>by simp_all [SV.ren,SV.den,SV.bel,Cx.ren]
 |.dat _ _,_,_,d=>by rw [SV.ren,SV.den] at d;rw [SV.den];exact d
 |.csl h t k i m,_,hb,d=>by simp_all [SV.ren,SV.den,SV.bel,Cx.ren]
 |.mp h,_,hb,d=>by simp_all [SV.ren,SV.den,SV.bel,Cx.ren]
 |.imap ..,_,_,d=>by rw [SV.ren,SV.den] at d;rw [SV.den];exact d
 |.agg l,_,hb,d=>by rw [SV.ren,SV.den] at d;rw [SV.den];obtain ⟨vs,e,j⟩:=d;exact ⟨vs,e,q2E (by grind [SV.bel]) j⟩
 |.tup l,_,hb,d=>by rw [SV.ren,SV.den] at d;rw [SV.den];obtain ⟨vs,e,j⟩:=d;exact ⟨vs,e,q2E (by grind [SV.bel]) j⟩
 |.fn f a b,_,hb,d=>by rw [SV.ren,SV.den] at d;rw [SV.den];obtain ⟨A,z,e,r,y⟩:=d;simp [SV.bel] at hb;exact ⟨A,z,e,q2E hb.1 r,q2E hb.2 y⟩
 |.iface T x,_,hb,d=>by rw [SV.ren,SV.den] at d;rw [SV.den];obtain ⟨u,e,r⟩:=d;exact ⟨u,e,q9h (by grind [SV.bel]) r⟩
theorem q2E{C:Cx}{σ:Nat->Nat}{n:Nat}:∀ {l:List SV} {vs:List Value},SV.belL n l=true->SV.denL C (SV.renL σ l) vs->SV.denL (C.ren σ n) l vs
 | [],_,_,d=>by grind [SV.renL,SV.denL]
 |s :: l,_,hb,d=>by rw [SV.renL,SV.denL] at d;rw [SV.denL];simp [SV.belL] at hb;obtain ⟨v,us,rfl,a,e⟩:=d;exact ⟨v,us,rfl,q9h hb.1 a,q2E hb.2 e⟩
end

def SObj.ren(σ:Nat->Nat):SObj->SObj
 |.cells T cs=>.cells T (SV.renL σ cs)
 |.map kk ks vs=>.map kk ks (SV.renL σ vs)
 |o=>o
def SObj.bel(n:Nat):SObj->Bool
 |.cells _ cs=>SV.belL n cs
 |.map _ _ vs=>SV.belL n vs
 |_=>true
variable {σ:Nat->Nat}
theorem objRen{C:Cx}{n h:Nat}:∀ {o:SObj},o.bel n=true->objDen C (σ h) (o.ren σ)->objDen (C.ren σ n) h o
 |.dead,_,_=>trivial
 |.cells T cs,hb,⟨b,vs,h1,h2,h3⟩=>⟨b,vs,h1,h2,q2E (by grind [SObj.bel]) h3⟩
 |.row t xs,_,d=>d
 |.map kk ks vs,hb,⟨b,us,h1,h2,h3⟩=>⟨b,us,h1,h2,q2E (by grind [SObj.bel]) h3⟩
 |.mark _,_,_=>trivial

def leS(σ:Nat->Nat)(s:SV):SV->Prop
 |.any=>True
 |s'=>s=s'.ren σ
def leT(σ:Nat->Nat):List SV->List SV->Prop
 | [],[]=>True
 |s :: l,s' :: l'=>leS σ s s'/\leT σ l l'
 |_,_=>False
def leH(σ:Nat->Nat)(H:List SObj)(i:Nat):List SObj->Prop
 | []=>True
 |.dead :: l=>leH σ H (i+1) l
 |o :: l=>H[σ i]?=some (o.ren σ)/\leH σ H (i+1) l
def belH(n:Nat):List SObj->Bool
 | []=>true
 |o :: l=>o.bel n&& belH n l
def injH(σ:Nat->Nat)(i:Nat):List SObj->List Nat->Bool
 | [],_=>true
 |.dead :: l,seen=>injH σ (i+1) l seen
 |_ :: l,seen=> !seen.contains (σ i) && injH σ (i+1) l (σ i :: seen)
def fixK(σ:Nat->Nat):Nat->Bool
 |0=>true
 |n+1=>(σ n==n) && fixK σ n

structure Le (σ:Nat->Nat) (k0:Nat) (t:List SV) (H:List SObj) (t':List SV) (H':List SObj):Prop where
 tm:leT σ t t'
 hp:leH σ H 0 H'
 bt:SV.belL H'.length t'=true
 bh:belH H'.length H'=true
 inj:injH σ 0 H' []=true
 fix:fixK σ k0=true
 len:k0<=H'.length
 mk0:∀n,0<k0->H[0]?=some (.mark n)->H'[0]?=some (.mark n)

def j4S{C:Cx}{n:Nat}{a:SV}{v:Value}(h:leS σ s a)(j:a.bel n=true)(e:s.den C v):a.den (C.ren σ n) v:=by cases a<;>first| (rw [SV.den];trivial) | (simp only [leS] at h;rw [h] at e;exact q9h j e)
theorem z2n{C:Cx}{σ:Nat->Nat}{n:Nat}:∀ {t t':List SV} {vs:List Value},leT σ t t'->SV.belL n t'=true->SV.denL C t vs->SV.denL (C.ren σ n) t' vs
 | [],[],_,_,_,d=>by grind [q0y]
 |s :: l,s' :: l',_,h,hb,d=>by obtain ⟨v,us,rfl,a,e⟩:=q0c.1 d;simp [SV.belL] at hb;exact q0c.2 ⟨v,us,rfl,j4S h.1 hb.1 a,z2n h.2 hb.2 e⟩
 | [],_ :: _,_,h,_,_=>h.elim
 |_ :: _,[],_,h,_,_=>h.elim
theorem q7f{σ:Nat->Nat}:∀ {H':List SObj} {i h:Nat} {o:SObj},leH σ H i H'->H'[h]?=some o->o.live=true->H[σ (i+h)]?=some (o.ren σ)
 | [],_,_,_,_,hi,_=>by simp at hi
 |x :: l,i,0,o,hl,hi,hlive=>by
  simp at hi;subst hi;cases x with
  |dead=>grind [SObj.live]
  |cells T cs=>exact hl.1
  |row t xs=>exact hl.1
  |map kk ks vs=>exact hl.1
  |mark n=>exact hl.1
 |x :: l,i,h+1,o,hl,hi,hlive=>by
  simp at hi;have:leH σ H (i+1) l:=by
   cases x with
   |dead=>exact hl
   |cells T cs=>exact hl.2
   |row t xs=>exact hl.2
   |map kk ks vs=>exact hl.2
   |mark n=>exact hl.2
  have:=q7f this hi hlive;grind
theorem q2F{n:Nat}:∀ {H':List SObj} {h:Nat} {o:SObj},belH n H'=true->H'[h]?=some o->o.bel n=true
 | [],_,_,_,hi=>by simp at hi
 |x :: l,0,o,hb,hi=>by grind [belH]
 |x :: l,h+1,o,hb,hi=>by simp at hi;simp [belH] at hb;exact q2F hb.2 hi
theorem q1P{σ:Nat->Nat}:∀ {H':List SObj} {i h:Nat} {o:SObj} {seen:List Nat},injH σ i H' seen=true->H'[h]?=some o->o.live=true->σ (i+h) ∉ seen
 | [],_,_,_,_,_,hi,_=>by simp at hi
 |x :: l,i,0,o,seen,hj,hi,hl=>by grind [SObj.live,injH]
 |x :: l,i,h+1,o,seen,hj,hi,hl=>by
  simp at hi;have e:i+1+h=i+ (h+1):=by omega
  cases x with
  |dead=>have:=q1P (i:=i+1) (seen:=seen) (by simpa [injH] using hj) hi hl;simp_all
  |cells T cs=>simp [injH] at hj;have:=q1P hj.2 hi hl;simp_all
  |row t xs=>simp [injH] at hj;have:=q1P hj.2 hi hl;simp_all
  |map kk ks vs=>simp [injH] at hj;have:=q1P hj.2 hi hl;simp_all
  |mark n=>simp [injH] at hj;have:=q1P hj.2 hi hl;simp_all
theorem q3i{σ:Nat->Nat}:∀ {H':List SObj} {i h a:Nat} {o o':SObj} {seen:List Nat},injH σ i H' seen=true->H'[h]?=some o->H'[a]?=some o'->o.live=true->o'.live=true->h<a->σ (i+h)≠σ (i+a)
 | [],_,_,_,_,_,_,_,hi,_,_,_,_=>by simp at hi
 |x :: l,i,0,a+1,o,o',seen,hj,hi,hi',hl,hl',_=>by
  simp at hi hi';subst hi;have e:i+1+a=i+ (a+1):=by omega
  cases x with
  |dead=>simp [SObj.live] at hl
  |cells T cs=>simp [injH] at hj;have:=q1P hj.2 hi' hl';grind
  |row t xs=>simp [injH] at hj;have:=q1P hj.2 hi' hl';grind
  |map kk ks vs=>simp [injH] at hj;have:=q1P hj.2 hi' hl';grind
  |mark n=>simp [injH] at hj;have:=q1P hj.2 hi' hl';grind
 |x :: l,i,h+1,a+1,o,o',seen,hj,hi,hi',hl,hl',hlt=>by
  simp at hi hi';have e:i+1+a=i+ (a+1):=by omega
  have e2:i+1+h=i+ (h+1):=by omega
  cases x with
  |dead=>have:=q3i (i:=i+1) (seen:=seen) (by simpa [injH] using hj) hi hi' hl hl' (by omega);simp_all
  |cells T cs=>simp [injH] at hj;have:=q3i hj.2 hi hi' hl hl' (by omega);simp_all
  |row t xs=>simp [injH] at hj;have:=q3i hj.2 hi hi' hl hl' (by omega);simp_all
  |map kk ks vs=>simp [injH] at hj;have:=q3i hj.2 hi hi' hl hl' (by omega);simp_all
  |mark n=>simp [injH] at hj;have:=q3i hj.2 hi hi' hl hl' (by omega);simp_all
theorem z4g{σ:Nat->Nat}:∀ {n h:Nat},fixK σ n=true->h<n->σ h=h
 |0,_,_,hh=>absurd hh (by omega)
 |n+1,h,hf,hh=>by
  simp [fixK] at hf;by_cases e:h=n
  . simp_all
  exact z4g hf.2 (by omega)
theorem q0Z(σ:Nat->Nat)(o:SObj):(o.ren σ).live=o.live:=by cases o<;>rfl

theorem Le.wd{σ:Nat->Nat}{t':List SV}{H':List SObj}{E:EnD}{C:Cx}{a:Act}(h:Le σ k0 t H t' H')(N:E.C.n<=k0)(e:Den E C t H a):Den E (C.ren σ H'.length) t' H' a:=by
 have r:∀b,OwnB (C.ren σ H'.length) H' b->OwnB C H b:=by rintro b ⟨i,o,z,A,y⟩;have:=q7f h.hp z A;rw [Ag] at this;exact ⟨σ i,_,this,by grind [q0Z],y⟩
 have B:Evo E.C (C.ren σ H'.length):=⟨Ao N h.len,λx S=>by simp only [Cx.ren];rw [z4g h.fix (by omega)];exact e.ext.evo.ρ x S,e.ext.evo.I,e.ext.evo.sz⟩
 refine ⟨⟨rfl,?_,λb y=>e.wd.own b (r b y),?_,e.wd.imm⟩,⟨B,e.ext.size,e.ext.os,e.ext.tape,e.ext.output,e.ext.frame,e.ext.immNew,λb y=>e.ext.ownNew b (r b y),λn J O=>h.mk0 n (Aj J N) (e.ext.keep0 n J O)⟩,?_,z2n h.tm h.bt e.tmps⟩
 . intro i o z;by_cases A:o.live=true
   . have:=q7f h.hp z A;rw [Ag] at this;exact objRen (q2F h.bh z) (e.wd.obj _ _ this)
   cases o<;>first|trivial|simp [SObj.live] at A
 . intro i j o o' b z F A D y L;have Q:=q7f h.hp z A;have R:=q7f h.hp F D;rw [Ag] at Q R;have hσ:=e.wd.inj (σ i) (σ j) _ _ b Q R (by grind [q0Z]) (by grind [q0Z]) y L;rcases Nat.lt_trichotomy i j with u|u|u
   . have:=q3i h.inj z F A D u
     simp_all
   . exact u
   have:=q3i h.inj F z D A u
   simp_all
 exact ⟨e.defs.1,Ghost.same e.wd rfl (λ_ h=>h) (λ_ y=>.inl y) r (λn J O=>h.mk0 n (Aj J N) O) B.n e.defs.2⟩

variable {t':List SV}{H':List SObj}
def j1l{k:List It}(h:Le σ k0 t H t' H')(hs:Sound P AQ ⟨k0,k,t',H'⟩):Sound P AQ ⟨k0,k,t,H⟩:=
 λE r n C a h0 hd=>hs E r n (C.ren σ H'.length) a h0 (h.wd h0.1 hd)
variable {td:List IT}
def j8H(hp:plainT td=true)(h:Le σ k0 t H t' H')(hs:SoundI P AQ ⟨k0,td,t',H'⟩):SoundI P AQ ⟨k0,td,t,H⟩:=
 q0d (λ_ hr=>j1l h (q0e hs hr)) hp

variable {ι:Type}
theorem sound_loop'{k:List It}(c:Code)(S:ι->List SV×List SObj)(μ:ι->Nat)(p:ι->Prop)(h:ι)(J:p h)(N:∃σ,Le σ k0 t H (S h).1 (S h).2)
 (round:∀i,p i->Sound P AQ ⟨k0,.code c :: .stop (λt' H'=>∃j,p j/\μ j<μ i/\∃σ,Le σ k0 t' H' (S j).1 (S j).2) :: k,(S i).1,(S i).2⟩):
 Sound P AQ ⟨k0,.code (.loop c) :: k,t,H⟩:=λE r n C a z u=>by
 simp only [wpT];obtain ⟨σ,F⟩:=N;refine q0O (λm a w=>∃i,p i/\μ i=m/\∃C,C.w=w/\Den E C (S i).1 (S i).2 a) (μ h) ⟨h,J,rfl,C.ren σ (S h).2.length,rfl,F.wd z.1 u⟩ ?_;rintro m a w ⟨i,D,rfl,C,rfl,u⟩;have B:=round i D E r n C a z u;simp only [wpT] at B;refine wpIn_mono B λe a w A=> ?_;cases e with
 |normal=>obtain ⟨C',t',H',⟨j,I,x,O,L⟩,rfl,y⟩:=A;exact ⟨μ j,x,j,I,rfl,C'.ren O (S j).2.length,rfl,L.wd z.1 y⟩
 |exit id=>grind [Exit.then,exitT]
 |_=>exact A

def RoundK(k0:Nat)(S:ι->List SV×List SObj)(μ:ι->Nat)(p:ι->Prop)(i:ι):List SV->List SObj->Prop:=
 λt' H'=>∃j,p j/\μ j<μ i/\∃σ,Le σ k0 t' H' (S j).1 (S j).2

theorem j5L{c:IC}(S:ι->List SV×List SObj)(μ:ι->Nat)(p:ι->Prop)(a:ι)(h:p a)(j:∃σ,Le σ k0 t H (S a).1 (S a).2)
 (round:∀i,p i->SoundI P AQ ⟨k0,.ic c :: .stop (RoundK k0 S μ p i) :: k,(S i).1,(S i).2⟩):SoundI P AQ ⟨k0,.ic (.loop c) :: k,t,H⟩:=q0d (λtd' e=>by
 obtain ⟨c',r,rfl,n,e⟩:=e;obtain ⟨x,rfl,y⟩:=q0G n
 exact sound_loop' x S μ p a h j (λi u=>q0e (round i u) ⟨x,_,rfl,y,r,rfl,e⟩)) rfl

def q1o(h:Nat){ty:Ty}{xs:List ty.den}(hp:plainT td=true)(hH:H[h]?=some (.row ty xs))(hlen:xs.length<=1125899906842624)(ho:frzObH h ty xs H)(hot:SV.frzObL h ty xs t)(hs:SoundI P AQ ⟨k0,td,SV.frzL h ty xs t,frzH h ty xs H⟩):SoundI P AQ ⟨k0,td,t,H⟩:=
 q0d (λ_ hr=>z0O h hH hlen ho hot (q0e hs hr)) hp

def OpI.wr(io:OpI):List Nat:=io.dst.toList
def IC.wr:IC->List Nat
 |.reg l=>l.flatMap OpI.wr
 |.drw l=>l.flatMap λx=>OpI.wr x.2
 |.seq a b=>a.wr++b.wr
 |.cond _ a b=>a.wr++b.wr
 |.blk _ c=>c.wr
 |.loop c=>c.wr
 |.scp c=>c.wr
 |_=>[]
def maskT(ws:List Nat)(t:List SV):List SV:=ws.foldl (λt d=>t.set d .any) t
end
open Go
/- Short forms of operations. -/
def ci(n:Int):Operand:=.const (.int .i64 n)
def o0(i:IOp):OpI:=⟨none,i,none⟩
def o1(d:Nat)(i:IOp):OpI:=⟨some d,i,none⟩
def oT(d:Nat)(i:IOp)(g:Nat):OpI:=⟨some d,i,some (g,true)⟩
def oF(d:Nat)(i:IOp)(g:Nat):OpI:=⟨some d,i,some (g,false)⟩
def mv(d x:Nat):OpI:=⟨some d,.mov (.tmp x),none⟩
def ex(d i x:Nat):OpI:=⟨some d,.ext i (.tmp x),none⟩
attribute [go_sem] ci o0 o1 oT oF mv ex strictP
def zA:(∀A B:Prop,bothG true true A B=A)/\(∀A B:Prop,bothG true false A B=B)/\(∀A B:Prop,bothG false true A B=B)/\(∀A B:Prop,bothG false false A B=A):=⟨z9D,j1Z,j0W,z9U⟩
def zB:(∀ (v:Bool) (A B:Prop),bothG true v A B=((v=true->A)/\(v=false->B)))/\(∀ (v:Bool) (A B:Prop),bothG false v A B=((v=false->A)/\(v=true->B)))/\(∀ (p:Prop) [Decidable p],(decide p=true)=p)/\(∀ (p:Prop) [Decidable p],(decide p=false)= ¬p)/\
 (∀b:Bool,((!b)=true)=(b=false))/\(∀b:Bool,((!b)=false)=(b=true))/\(∀m n:Nat,((m:Int) < (n:Int))=(m<n))/\(∀m n:Nat,((m:Int)<=(n:Int))=(m<=n)):=
 ⟨j4A,j6o,λp _=>decide_eq_true_eq,λp _=>propext decide_eq_false_iff_not,λb=>Bool.not_eq_true' b,λb=>Bool.not_eq_false' b,λm n=>propext Int.ofNat_lt,λm n=>propext Int.ofNat_le⟩
attribute [go_sem] q0u q0A gkI mapOf mres mget mput SV.norm SV.ofS unrawL findI keyEq keyIs SV.toV SV.toVL SV.ofV SV.wk fullS run exec execR execF IOp.ev evLd evSt evBin evEq evNil SV.emp eqRs eqR eqOk eqV binV unV evT putT SV.flat SV.one SV.nonNil ones rawL Sx.pick splice fillS PlaceK.fn SV.add resRow addA addB slA slB ldRow stRow viewOf ownPart putPart dstAt putAll Ty.plain Ty.get get1 Ty.arrAt Ty.cellAt SV.ofT SV.datum SV.dflat Ty.putV put1 Ty.modR Ty.modS  SV.len lenOk slOk sliceTo lenOfS bndV loOf hiOf exitI gOf floatOk isCallI isBslI retF resV resVL resV1 PK rdL Ty.rd rdU8 rdInt rdBool rdStr rdSlice rdUnit Ty.size Ty.cells Value.cells Value.oneCell' srcS srcOf dstOf List.getD_cons_zero List.getD_cons_succ List.set_cons_zero List.set_cons_succ List.cons_append List.nil_append List.append_nil List.replicate List.length_cons List.length_nil List.map_cons List.map_nil List.getElem?_cons_zero List.getElem?_cons_succ List.take_succ_cons List.take_zero List.drop_succ_cons List.drop_zero List.take_nil List.drop_nil true_and and_true false_and and_false eq_self Bool.not_true Bool.not_false false_implies implies_true forall_const Option.some.injEq exists_eq_left' exists_eq_left Out.ret.injEq SV.raw.injEq Value.bool.injEq Bool.or_true Bool.true_or Bool.or_false Bool.false_or beq_self_eq_true and_self Bool.and_true Bool.true_and Bool.and_self Bool.and_false Bool.false_and Option.map_some Option.map_none decide_true decide_false Bool.false_eq_true cast_eq List.contains_cons List.contains_nil List.any_nil List.any_cons
/- A goal and what it simplifies to. -/
attribute [go_sem_proc] reduceCtorEq Nat.reduceAdd Nat.reduceSub Nat.reduceLeDiff Nat.reduceLT Nat.reduceEqDiff Nat.reduceBEq Nat.reduceMul Int.reduceToNat Int.reduceEq Int.reduceLT Int.reduceLE
variable {q:Prop}
theorem sxE{p:Prop}(h:q)(e:p=q:=by (simp (maxSteps:=3000000) only [go_sem,↓zA,↓reduceIte,↓reduceDIte];(try simp only [zB]);rfl)):p:=Eq.mpr e h
variable {P:Program}{m:IM}
def goE[Ghost]{AQ:Ex->List SV->List SObj->Prop}(a:P.follows .mixedOrders=true)(h:q)(e:run P AQ 600 m=q:=by (simp (maxSteps:=3000000) only [go_sem,↓zA,↓reduceIte,↓reduceDIte];(try simp only [zB]);rfl)):SoundI P AQ m:=q0o a 600 m (Eq.mpr e h)
variable {f:FuncId}{args:List SV}{K:Out->List SObj->Prop}
def runE{a:FI}{H:List SObj}(j:P.follows .mixedOrders=true)(n:finfo P f=some a)(h:q)
 (e:run P (retF P a.results K) 600 ⟨H.length,[.ic a.code],args++List.replicate (a.ntmps-args.length) .any,H⟩=q:=by (simp (maxSteps:=3000000) only [go_sem,↓zA,↓reduceIte,↓reduceDIte];(try simp only [zB]);rfl)):VC P f args H K:=q1Q n (q0o j 600 _ (Eq.mpr e h))
theorem sx1{a p:Prop}(w:a)(h:q)(e:a->p=q:=by (intro w;simp (maxSteps:=3000000) only [w,go_sem,↓zA,↓reduceIte,↓reduceDIte];(try simp only [zB]);rfl)):p:=Eq.mpr (e w) h
theorem sx3{a b p:Prop}(w:a)(j:b)(h:q)(e:a->b->p=q:=by (intro w j;simp (maxSteps:=3000000) only [w,j,Ab,go_sem,↓zA,↓reduceIte,↓reduceDIte];(try simp only [zB]);rfl)):p:=Eq.mpr (e w j) h
section

variable [Ghost] {P:Program} {AQ:Ex->List SV->List SObj->Prop} {k0:Nat} {k:List IT} {t:List SV} {H:List SObj}

def leM1(s:SV):SV->Prop
 |.any=>True
 |s'=>s=s'
def leM:List SV->List SV->Prop
 | [],[]=>True
 |s :: l,s' :: l'=>leM1 s s'/\leM l l'
 |_,_=>False
def j5e{s a:SV}(h:leM1 s a):SV.le s a:=by cases a<;>first|exact SV.le_any _| (simp only [leM1] at h;subst h;exact SV.le_refl _)
def q3e:∀ {l l':List SV},leM l l'->leL l l'
 | [],[],_=>trivial
 |_ :: _,_ :: _,h=>⟨j5e h.1,q3e h.2⟩
 | [],_ :: _,h=>h.elim
 |_ :: _,[],h=>h.elim
theorem q4H:∀ (l:List SV),leM l l
 | []=>trivial
 |s :: l=>⟨by grind [leM1],q4H l⟩

def setMany(t:List SV):List (Nat×SV)->List SV
 | []=>t
 | (i,s) :: l=>setMany (t.set i s) l

variable {ι:Type}
def RoundX(Hf:ι->List SObj)(S:ι->List SV)(μ:ι->Nat)(p:ι->Prop)(i:ι):List SV->List SObj->Prop:=
 λt' H'=>∃j,p j/\μ j<μ i/\H'=Hf j/\leM t' (S j)

theorem z2I{k:List It}(c:Code)(S:ι->List SV)(Hf:ι->List SObj)(μ:ι->Nat)(p:ι->Prop)(x:ι)(D:p x)(I:H=Hf x)(N:leM t (S x))
 (round:∀i,p i->Sound P AQ ⟨k0,.code c :: .stop (RoundX Hf S μ p i) :: k,S i,Hf i⟩):Sound P AQ ⟨k0,.code (.loop c) :: k,t,H⟩:=λE r n C a L u=>by
 subst I;simp only [wpT];refine q0O (λm a w=>∃i,p i/\μ i=m/\∃C,C.w=w/\Den E C (S i) (Hf i) a) (μ x) ⟨x,D,rfl,C,rfl,u.wd,u.ext,u.defs,q2p (q3e N) u.tmps⟩ ?_;rintro m a w ⟨i,B,rfl,C,rfl,u⟩;have A:=round i B E r n C a L u;simp only [wpT] at A;refine wpIn_mono A λe a w z=> ?_;cases e with
 |normal=>obtain ⟨C',t',H',⟨j,F,y,rfl,J⟩,rfl,h⟩:=z;exact ⟨μ j,y,j,F,rfl,C',rfl,h.wd,h.ext,h.defs,q2p (q3e J) h.tmps⟩
 |exit id=>grind [Exit.then,exitT]
 |_=>exact z

theorem q0p{c:IC}(upd:ι->List (Nat×SV))(Hf:ι->List SObj)(μ:ι->Nat)(p:ι->Prop)(a:ι)(h:p a)(j:H=Hf a)(n:leM t (setMany (maskT c.wr t) (upd a)))
 (round:∀i,p i->SoundI P AQ ⟨k0,.ic c :: .stop (RoundX Hf (λi=>setMany (maskT c.wr t) (upd i)) μ p i) :: k,setMany (maskT c.wr t) (upd i),Hf i⟩):SoundI P AQ ⟨k0,.ic (.loop c) :: k,t,H⟩:=q0d (λtd' e=>by
 obtain ⟨c',r,rfl,u,e⟩:=e;obtain ⟨x,rfl,z⟩:=q0G u
 exact z2I x _ Hf μ p a h j n (λi y=>q0e (round i y) ⟨x,_,rfl,z,r,rfl,e⟩)) rfl

theorem q4T{c:IC}(slot n:Nat)(q:Nat->Prop)(hs:leM t (setMany (maskT c.wr t) [(slot,.raw (.int .i64 ((0:Nat):Int)))]))
 (round:∀i,i<=n->(∀j,j<i->q j)->SoundI P AQ ⟨k0,.ic c :: .stop (RoundX (λ_=>H) (λi=>setMany (maskT c.wr t) [(slot,.raw (.int .i64 ((i:Nat):Int)))]) (λi=>n-i) (λi=>i<=n/\∀j,j<i->q j) i) :: k,setMany (maskT c.wr t) [(slot,.raw (.int .i64 ((i:Nat):Int)))],H⟩):
 SoundI P AQ ⟨k0,.ic (.loop c) :: k,t,H⟩:=
 q0p (λi:Nat=>[(slot,.raw (.int .i64 (i:Int)))]) (λ_=>H) (λi=>n-i) (λi=>i<=n/\∀j,j<i->q j) 0 ⟨Ai _,λ_ h=>absurd h (BT _)⟩ rfl hs λi hi=>round i hi.1 hi.2
variable {i:Nat}
theorem q6A{S:Nat->List SV}{n:Nat}{q:Nat->Prop}(a:i<n)(hall:∀j,j<i->q j)(hq:q i)(h:leM t (S (i+1))):RoundX (λ_=>H) S (λi=>n-i) (λi=>i<=n/\∀j,j<i->q j) i t H:=
 ⟨i+1,⟨a,λj hj=>by
  grind⟩,by grind,rfl,h⟩
theorem q2w(h:i<4611686018427387904):IntKind.i64.wrap ((i:Int)+1)=((i+1:Nat):Int):=by grind [IntWalk.i64_in]

mutual
theorem z8t{C:Cx}:∀ {s:SV} {v:Value},s.den C v->s.bel C.n=true
 |.any,_,_=>rfl
 |.raw _,_,_=>rfl
 |.isl _ _,_,_=>rfl
 |.fsl _ _,_,_=>rfl
 |.iptr _ _ _,_,_=>rfl
 |.dat _ _,_,_=>rfl
 |.ptr h off,_,d=>by grind [SV.den,SV.bel]
 |.rptr h t i k,_,d=>by grind [SV.den,SV.bel]
 |.bld h t m,_,d=>by grind [SV.den,SV.bel]
 |.osl h t off m,_,d=>by grind [SV.den,SV.bel]
 |.csl h t k i m,_,d=>by grind [SV.den,SV.bel]
 |.mp h,_,d=>by grind [SV.den,SV.bel]
 |.imap ..,_,_=>rfl
 |.agg l,_,d=>by rw [SV.den] at d;obtain ⟨vs,_,e⟩:=d;rw [SV.bel];exact q1B e
 |.tup l,_,d=>by rw [SV.den] at d;obtain ⟨vs,_,e⟩:=d;rw [SV.bel];exact q1B e
 |.fn f a b,_,d=>by rw [SV.den] at d;obtain ⟨v1,v2,_,j,r⟩:=d;rw [SV.bel,q1B j,q1B r];rfl
 |.iface T x,_,d=>by rw [SV.den] at d;obtain ⟨u,_,j⟩:=d;rw [SV.bel];exact z8t j
theorem q1B{C:Cx}:∀ {l:List SV} {vs:List Value},SV.denL C l vs->SV.belL C.n l=true
 | [],_,_=>rfl
 |s :: l,_,d=>by rw [SV.denL] at d;obtain ⟨v,us,_,a,e⟩:=d;rw [SV.belL,z8t a,q1B e];rfl
end
theorem q5x{C:Cx}{h:Nat}{o:SObj}(d:objDen C h o):o.bel C.n=true:=by
 cases o with
 |cells T cs=>obtain ⟨b,vs,_,_,a⟩:=d;exact q1B a
 |map kk ks vs=>obtain ⟨b,us,_,_,a⟩:=d;exact q1B a
 |_=>rfl

mutual
theorem z3D:∀ (s:SV),s.ren (λh=>h)=s
 |.any=>rfl
 |.raw _=>rfl
 |.isl _ _=>rfl
 |.fsl _ _=>rfl
 |.iptr _ _ _=>rfl
 |.dat _ _=>rfl
 |.ptr .. =>rfl
 |.rptr .. =>rfl
 |.bld .. =>rfl
 |.osl .. =>rfl
 |.csl .. =>rfl
 |.mp _=>rfl
 |.imap .. =>rfl
 |.agg l=>by rw [SV.ren,q5m]
 |.tup l=>by rw [SV.ren,q5m]
 |.fn f a b=>by rw [SV.ren,q5m,q5m]
 |.iface T x=>by rw [SV.ren,z3D]
theorem q5m:∀ (l:List SV),SV.renL (λh=>h) l=l
 | []=>rfl
 |s :: l=>by rw [SV.renL,z3D,q5m]
end
theorem q1J(o:SObj):o.ren (λh=>h)=o:=by cases o<;>simp [SObj.ren,q5m]

theorem VCall.drop{f:FuncId}{args:List SV}{s:SV}(U:s.clean=true)(h:VCall P f args H λo H'=>o= .ret s/\∃G,H'=H++G)(K:Out->List SObj->Prop)(O:K (.ret s) H):VCall P f args H K:=by
 intro C vs z L V;refine (h C vs z L V).mono ?_;rintro e w' ⟨o,H',C',⟨rfl,G,rfl⟩,rfl,r,j,v,rfl,F⟩
 let D:Cx:={C' with n:=H.length}
 have a:∀ {y o},H[y]?=some o->(H++G)[y]?=some o:=λE=>by rw [As (Am.1 E).1];exact E
 have u:∀b,OwnB D H b->OwnB C' (H++G) b:=λb ⟨y,o,A,S,x⟩=>⟨y,o,a A,S,x⟩;have B:Evo C D:=⟨by rw [z.n];grind,j.evo.ρ,j.evo.I,j.evo.sz⟩
 refine ⟨.ret s,H,D,O,rfl,⟨rfl,λy o A=> ?_,λb x=>r.own b (u b x),λQ J o o' b R N=>r.inj Q J o o' b (a R) (a N),r.imm⟩,⟨B,j.size,j.os,j.tape,j.output,j.frame,j.immNew,λb x=>j.ownNew b (u b x),λ_ _ h=>h⟩,v,rfl,q0B (C:=C') (C':=D) (Keeps.refl _ _) U F⟩;have x:=q5x (z.obj y o A);rw [z.n] at x;have:=objRen (σ:=λh=>h) (n:=H.length) x (by rw [q1J];exact r.obj y o (a A));exact this

def PCH(P:Program)(f:FuncId)(args:List SV)(s:SV)(H:List SObj):Prop:=enters P f=true/\∀K:Out->List SObj->Prop,K (.ret s) H->VCall P f args H K
def PC.at{f:FuncId}{args:List SV}{s:SV}(h:PC P f args s)(H:List SObj):PCH P f args s H:=⟨h.1,h.2 H⟩
def PKE(s:SV)(H:List SObj):Out->List SObj->Prop:=λo H'=>o= .ret s/\∃G,H'=H++G
def z9F{s:SV}(hs:s.clean=true)(h:VC P f args H (PKE s H)):PCH P f args s H:=⟨h.1,VCall.drop hs h.2⟩
variable {d:Option Tmp}
def z9T{s:SV}(hp:PCH P f args s m.heap)(h:SoundI P AQ {m with tmps:=putT m.tmps d s}):CallI P AQ f args d m:=
 ⟨hp.1,(hp.2 _ h).g⟩
def Frz(hd:Nat)(K:Out->List SObj->Prop):Out->List SObj->Prop
 |.ret s,H'=>match H'[hd]? with
  |some (.row t xs)=>xs.length<=1125899906842624/\frzObH hd t xs H'/\s.frzOb hd t xs/\K (.ret (s.frz hd t xs)) (frzH hd t xs H')
  |_=>False
 |.pan s,H'=>K (.pan s) H'
theorem VCall.frz{f:FuncId}{args:List SV}{K:Out->List SObj->Prop}(n:Nat)(h:VCall P f args H (Frz n K)):VCall P f args H K:=by
 intro C vs z I F;refine (h C vs z I F).mono ?_;rintro e w' ⟨o,H',C',r,rfl,j,y,a⟩;cases o with
 |pan s=>exact ⟨.pan s,H',C',r,rfl,j,y,a⟩
 |ret s=>
  simp only [Frz] at r;split at r
  . rename_i t xs x;obtain ⟨u,A,E,J⟩:=r;obtain ⟨D,B⟩:=z8U j y x u A;obtain ⟨v,rfl,a⟩:=a;exact ⟨.ret (s.frz n t xs),frzH n t xs H',C'.frz n,J,rfl,D,B,v,rfl,q4s j x u E a⟩
  simp_all
def FrzM(K:Out->List SObj->Prop)(H:List SObj):Out->List SObj->Prop
 |.ret (.mp h),H'=>∃kk ks vs G,h=H.length/\H'=H++ .map kk ks (rawL vs) :: G/\K (.ret (.imap kk ks vs)) H
 |_,_=>False
theorem VCall.frzM{f:FuncId}{args:List SV}{K:Out->List SObj->Prop}(h:VCall P f args H (FrzM K H)):VCall P f args H K:=by
 intro C vs X ht hv;refine (h C vs X ht hv).mono ?_;rintro e w' ⟨o,H',C',S,rfl,a,u,A⟩;unfold FrzM at S;split at S
 . obtain ⟨R,Q,O,G,rfl,rfl,S⟩:=S;obtain ⟨v,rfl,A⟩:=A;rw [SV.den] at A;obtain ⟨_,b,Y,rfl⟩:=A;have r:(H++ .map R Q (rawL O) :: G)[H.length]?=some (.map R Q (rawL O)):=by simp
   obtain ⟨b',us,W,hm,hu⟩:=a.obj H.length _ r;rw [Y] at W;cases W;rw [q1d hu] at hm;have J:OwnB C' (H++ .map R Q (rawL O) :: G) b:=⟨H.length,_,r,rfl,Y⟩
   let D:Cx:={C' with n:=H.length,I:=λx=>C'.I x\/x=b}
   have j:∀ {y o},H[y]?=some o->(H++ .map R Q (rawL O) :: G)[y]?=some o:=λhh=>by rw [As (Am.1 hh).1];exact hh
   have B:∀x,OwnB D H x->OwnB C' (H++ .map R Q (rawL O) :: G) x/\x≠b:=λx ⟨y,o,V,hl,u⟩=>⟨⟨y,o,j V,hl,u⟩,λe=>by
    subst e;have:=a.inj y H.length _ _ x (j V) r hl rfl u Y
    simp_all⟩
   have Z:Evo C D:=⟨by rw [X.n];grind,u.evo.ρ,λx z=>⟨.inl (u.evo.I x z).1,(u.evo.I x z).2⟩,u.evo.sz⟩
   have L:Keeps C'.I D.I C'.w D.w:=λx z=>⟨.inl z,rfl⟩;refine ⟨.ret (.imap R Q O),H,D,S,rfl,⟨rfl,λy o V=> ?_,λx N=> ?_,λU h2 o o' x g1 g2=>a.inj U h2 o o' x (j g1) (j g2),?_⟩,⟨Z,u.size,u.os,u.tape,u.output,u.frame,?_,λx N=>u.ownNew x (B x N).1,λ_ _ h=>h⟩,.map (some b),rfl,by rw [SV.den];grind⟩
   . have E:=q5x (X.obj y o V);rw [X.n] at E;have U:objDen (C'.ren (λh=>h) H.length) y o:=objRen (σ:=λh=>h) (n:=H.length) E (by rw [q1J];exact a.obj y o (j V));have he:Evo (C'.ren (λh=>h) H.length) D:=⟨Ac _,λ_ _=>rfl,L,λ_ _ h=>h⟩;exact q0z he.I y rfl (λ_ _=>rfl) (q0f he) U
   . obtain ⟨U,h2⟩:=B x N;have:=a.own x U;grind
   . rintro x (F|rfl)
     . exact a.imm x F
     exact (a.own _ J).2
   rintro x (F|rfl)
   . exact u.immNew x F
   exact .inr ⟨u.ownNew _ J,(q4v a J:Unf C'.w _)⟩
 simp_all
def j4Y(h:VC P f args H (FrzM K H)):VC P f args H K:=⟨h.1,VCall.frzM h.2⟩

theorem j2r{vs:List Value}{v:Value}(y:enters P f=true)(h:∀w,Calls P f vs.toArray w λe w'=>e= .returned v/\Go.RowKit.Below w.heap.size w w'):PC P f (rawL vs) (.raw v):=by refine ⟨y,λH K r C us j ht x=> ?_⟩;rw [q1d x];refine (h C.w).mono ?_;rintro e w' ⟨rfl,a⟩;obtain ⟨u,n⟩:=z2J j a.size a.block a.os a.tape a.output;exact ⟨_,H,_,r,rfl,u,n,v,rfl,by rw [SV.den]⟩

theorem z1k{k:List It}{u:List SV}(i:Nat)(ty:Ty)(B:u[i]?=some (.raw (.slice none 0 0)))(A:Sound P AQ ⟨k0,k,u.set i (.bld H.length ty 0),H++ [.row ty []]⟩):Sound P AQ ⟨k0,k,u,H⟩:=by
 intro E r n C a z h;obtain ⟨C',hw,y,j,D⟩:=z2h (t:=ty) h.wd;have:=A E r n C' a z ⟨y,h.ext.trans j,DefOk.next j h.defs,?_⟩
 . simp_all
 have x:=q0f j.evo h.tmps;obtain ⟨v,hv,e⟩:=q1v x B;rw [SV.den] at e;subst e;have:=q1u (i:=i) x D;have he:a.tmps.toList.set i (.slice none 0 0)=a.tmps.toList:=by apply AE;grind
 simp_all
def z1A(i:Nat)(ty:Ty){td:List IT}(hp:plainT td=true)(hi:t[i]?=some (.raw (.slice none 0 0)))(h:SoundI P AQ ⟨k0,td,t.set i (.bld H.length ty 0),H++ [.row ty []]⟩):SoundI P AQ ⟨k0,td,t,H⟩:=
 q0d (λ_ hr=>z1k i ty hi (q0e h hr)) hp

theorem z6s{C:Cx}{h:Nat}{t:Ty}{xs:List t.den}(A:Wd C H)(J:H[h]?=some (.row t xs)):Wd (C.frz h) (H.set h .dead)/\Ext ⟨C,H⟩ (C.frz h) (H.set h .dead):=by
 have B:∀b,C.ρ h=some b->OwnB C H b:=λb a=>⟨h,_,J,rfl,a⟩;have r:∀ {i y},(H.set h .dead)[i]?=some y->y.live=true->i≠h/\H[i]?=some y:=λ{i y} D u=>by
  by_cases e:i=h
  . grind [SObj.live]
  grind
 have z:∀b,OwnB (C.frz h) (H.set h .dead) b->OwnB C H b/\C.ρ h≠some b:=by rintro b ⟨i,y,D,u,a⟩;obtain ⟨F,x⟩:=r D u;exact ⟨⟨i,y,x,u,a⟩,λe=>F (A.inj i h y _ b x J u rfl a e)⟩
 refine ⟨⟨by simp [Cx.frz,A.n],λi y D=> ?_,λb a=> ?_,λi j y Q b D x u E a L=> ?_,?_⟩,⟨q0P C h,Ac _,rfl,rfl,rfl,λ_ _ _=>rfl,?_,λb a=>.inr (z b a).1,λ_ _ S=>q3M J rfl S⟩⟩
 . by_cases u:y.live=true
   . exact q0z (q0P C h).I i rfl (λ_ _=>rfl) (q0f (q0P C h)) (A.obj i y (r D u).2)
   cases y<;>first|trivial|simp [SObj.live] at u
 . obtain ⟨O,N⟩:=z b a;have:=A.own b O;exact ⟨λR=>R.elim this.1 N,this.2⟩
 . exact A.inj i j y Q b (r D u).2 (r x E).2 u E a L
 . rintro b (a|a)
   . exact A.imm b a
   exact (A.own b (B b a)).2
 rintro b (a|a)
 . exact .inl a
 exact .inr ⟨.inr (B b a),(q4v A (B b a):Unf C.w b)⟩
theorem VCall.hand{f:FuncId}{args:List SV}{K:Out->List SObj->Prop}(h:Nat){t:Ty}{xs:List t.den}(x:H[h]?=some (.row t xs))(a:xs.length<=1125899906842624)(z:SV.frzObL h t xs args)
 (E:VCall P f (SV.frzL h t xs args) (H.set h .dead) K):VCall P f args H K:=by
 intro C vs r D B;obtain ⟨A,u⟩:=z6s r x;refine (E (C.frz h) vs A (D.next u) (q2j r x a z B)).mono ?_;rintro e w' ⟨o,H',C',y,rfl,j,F,n⟩;exact ⟨o,H',C',y,rfl,j,u.trans F,n⟩
theorem VCallG.hand{f:FuncId}{args:List SV}{K:Out->List SObj->Prop}(h:Nat){t:Ty}{xs:List t.den}(x:H[h]?=some (.row t xs))(a:xs.length<=1125899906842624)(z:SV.frzObL h t xs args)
 (F:VCallG P f (SV.frzL h t xs args) (H.set h .dead) K):VCallG P f args H K:=by
 intro E C vs r D B;obtain ⟨A,u⟩:=z6s r x;refine (F E (C.frz h) vs A (Ghost.next u D) (q2j r x a z B)).mono ?_;rintro e w' ⟨o,H',C',y,rfl,j,I,n⟩;exact ⟨o,H',C',y,rfl,j,(Stp.of u).trans I,n⟩
def handC(h:Nat)(args:List SV)(H:List SObj)(k:List SV->List SObj->Prop):Prop:=match H[h]? with
 |some (.row t xs)=>xs.length<=1125899906842624/\SV.frzObL h t xs args/\k (SV.frzL h t xs args) (H.set h .dead)
 |_=>False
theorem q0F(h:Nat)(e:handC h args m.heap λa H'=>CallI P AQ f a d {m with heap:=H'}):CallI P AQ f args d m:=by
 unfold handC at e;split at e
 . rename_i t xs j;exact ⟨e.2.2.1,VCallG.hand h j e.1 e.2.1 e.2.2.2⟩
 simp_all
theorem q1G{G:List Nat}(h:Nat)(hG:G.contains h=false)(e:handC h args m.heap λa H'=>CallR P AQ G f a d {m with heap:=H'}):CallR P AQ G f args d m:=by
 unfold handC at e;split at e
 . rename_i t xs n;refine ⟨e.2.2.1,VCallG.hand h n e.1 e.2.1 (e.2.2.2.mono λo H' j=> ?_)⟩;have r:SameG G m.heap (m.heap.set h .dead):=λi hi=>by grind
   cases o with
   |ret s=>exact ⟨λu=>r.trans (j.1 u),j.2⟩
   |pan s=>exact j
 simp_all

def q4w:∀ (l:List Value),SV.cleanL (rawL l)=true
 | []=>rfl
 |_ :: l=>by rw [rawL,Az,SV.cleanL,SV.clean,BU];exact q4w l

variable {α:Type}
theorem getA(G R:List α)(k:Nat):(G++R)[G.length+k]?=R[k]?:=by grind
def getA0(G R:List α):(G++R)[G.length]?=R[0]?:=getA G R 0
theorem setA(G R:List α)(k:Nat)(x:α):(G++R).set (G.length+k) x=G++R.set k x:=by simp_all
def setA0(G R:List α)(x:α):(G++R).set G.length x=G++R.set 0 x:=setA G R 0 x
def j5f(l:List α)(a:α):(l++ [a])[l.length]?=some a:=by simp
def j4J(l:List α)(a b:α):(l++ [a]).set l.length b=l++ [b]:=by simp
def z2E(l:List α)(a:α):(l++ [a]).length=l.length+1:=by simp
theorem wrapi{n:Int}(h: -9223372036854775808<=n/\n<=9223372036854775807):IntKind.i64.wrap n=n:=IntWalk.i64_in n h
variable {l:List α}
theorem q3q{d:α}(h:i<l.length):l.getD i d∈l:=by simp_all
theorem q1W{d:α}(h:i<l.length):l.take (i+1)=l.take i++ [l.getD i d]:=by simp_all
theorem cast0:((0:Nat):Int)=0:=rfl
attribute [go_sem] handC FrzM Frz frzObH SObj.frzOb SV.frzOb SV.frzObL SV.frz SV.frzL frzH SObj.frz List.map_append Int.toNat_natCast cast0 j5f j4J z2E setMany maskT leM leM1 IC.wr OpI.wr List.flatMap_cons List.flatMap_nil Option.toList_some Option.toList_none List.foldl_cons List.foldl_nil
theorem sxaE{p:Prop}(h:q)(e:p=q:=by (simp (maxSteps:=3000000) only [List.append_assoc,getA,getA0,setA,setA0,Ab,Au,go_sem,↓zA,↓reduceIte,↓reduceDIte];(try simp only [zB]);rfl)):p:=Eq.mpr e h
def goaE(a:P.follows .mixedOrders=true)(h:q)(e:run P AQ 600 m=q:=by (simp (maxSteps:=3000000) only [List.append_assoc,getA,getA0,setA,setA0,Ab,Au,go_sem,↓zA,↓reduceIte,↓reduceDIte];(try simp only [zB]);rfl)):SoundI P AQ m:=q0o a 600 m (Eq.mpr e h)
def wsx(i:Nat)(h:i<4611686018427387904):IntKind.i64.wrap ((i:Int)+1)=((i+1:Nat):Int):=q2w h
end
section

variable [Ghost] {P:Program} {AQ:Ex->List SV->List SObj->Prop} {k0:Nat} {k:List IT} {t:List SV} {H:List SObj}

theorem q9n{n:Nat}{s:SV}(a:s.bel n=true):∀ {l:List SV} (i:Nat),SV.belL n l=true->SV.belL n (l.set i s)=true
 | [],_,h=>h
 |x :: l,0,h=>by simp_all [SV.belL]
 |x :: l,i+1,h=>by rw [AY,SV.belL] at*;simp only [Ak] at*;exact ⟨h.1,q9n a i h.2⟩
theorem q2T{n:Nat}:∀ (ws:List Nat) {l:List SV},SV.belL n l=true->SV.belL n (maskT ws l)=true
 | [],_,h=>h
 |d :: ws,l,h=>by simp only [maskT,Bb];exact q2T ws (q9n (s:=.any) rfl d h)
def q2R{n:Nat}:∀ (u:List (Nat×SV)) {l:List SV},(u.all λx=>x.2.bel n)=true->SV.belL n l=true->SV.belL n (setMany l u)=true
 | [],_,_,h=>h
 | (i,s) :: u,l,hu,h=>by simp only [BE,Ak] at hu;exact q2R u hu.2 (q9n hu.1 i h)
theorem q4A{n:Nat}:∀ {L:List SObj},(∀ (h:Nat) (o:SObj),L[h]?=some o->o.bel n=true)->belH n L=true
 | [],_=>rfl
 |o :: l,h=>by simp only [belH,Ak];exact ⟨h 0 o rfl,q4A λi x hx=>h (i+1) x (by grind)⟩
def q7b:∀ {l a:List SV},leM l a->leT (λh=>h) l a
 | [],[],_=>trivial
 |s :: l,s' :: a,h=>by refine ⟨?_,q7b h.2⟩;have:=h.1;cases s'<;>first|trivial| (simp only [leM1] at this;simp only [leS];rw [this];rw [z3D])
 | [],_ :: _,h=>h.elim
 |_ :: _,[],h=>h.elim
theorem z4K{A B:List SObj}{x:SObj}(h0:0<H.length)(h:(H++A)[0]?=some x):(H++B)[0]?=some x:=by grind
theorem q7y{σ:Nat->Nat}{t':List SV}{H':List SObj}{E:EnD}{C:Cx}{a:Act}(V:E.C.n<=k0)(e:Den E C t H a)(S:leT σ t t')(W:SV.belL H'.length t'=true)
 (F:∀h o,H'[h]?=some o->o.live=true->H[σ h]?=some (o.ren σ))(U:belH H'.length H'=true)(J:∀h h' o o',H'[h]?=some o->H'[h']?=some o'->o.live=true->o'.live=true->σ h=σ h'->h=h')(L:∀h,h<k0->σ h=h)(len:k0<=H'.length)(mk:∀n,0<E.C.n->H[0]?=some (.mark n)->H'[0]?=some (.mark n)):
 Den E (C.ren σ H'.length) t' H' a:=by
 have r:∀b,OwnB (C.ren σ H'.length) H' b->OwnB C H b:=by rintro b ⟨i,o,z,A,u⟩;exact ⟨σ i,_,F i o z A,by grind [q0Z],u⟩
 have y:Evo E.C (C.ren σ H'.length):=⟨Ao V len,λx Q=>by simp only [Cx.ren];rw [L x (by omega)];exact e.ext.evo.ρ x Q,e.ext.evo.I,e.ext.evo.sz⟩
 refine ⟨⟨rfl,?_,λb u=>e.wd.own b (r b u),?_,e.wd.imm⟩,⟨y,e.ext.size,e.ext.os,e.ext.tape,e.ext.output,e.ext.frame,e.ext.immNew,λb u=>e.ext.ownNew b (r b u),λn O R=>mk n O (e.ext.keep0 n O R)⟩,?_,z2n S W e.tmps⟩
 . intro i o z;by_cases A:o.live=true
   . exact objRen (q2F U z) (e.wd.obj _ _ (F i o z A))
   cases o<;>first|trivial|simp [SObj.live] at A
 . intro i j o o' b z D A B u N;exact J i j o o' z D A B (e.wd.inj (σ i) (σ j) _ _ b (F i o z A) (F j o' D B) (by grind [q0Z]) (by grind [q0Z]) u N)
 exact ⟨e.defs.1,Ghost.same e.wd rfl (λ_ h=>h) (λ_ u=>.inl u) r mk y.n e.defs.2⟩

def RoundD(H:List SObj)(S:Nat->List SV)(n:Nat)(p:Nat->Prop)(i:Nat):List SV->List SObj->Prop:=
 λt' H'=>i<n/\p (i+1)/\(∃G,H'=H++G)/\leM t' (S (i+1))
theorem z2U{k:List It}(c:Code)(S:Nat->List SV)(n:Nat)(p:Nat->Prop)(U:p 0)(Q:leM t (S 0))(F:k0<=H.length)(O:SV.belL H.length t=true->∀i,SV.belL H.length (S i)=true)
 (round:∀i,i<=n->p i->Sound P AQ ⟨k0,.code c :: .stop (RoundD H S n p i) :: k,S i,H⟩):Sound P AQ ⟨k0,.code (.loop c) :: k,t,H⟩:=λE r m C a x j=>by
 have A:∀i,SV.belL H.length (S i)=true:=O (by have:=q1B j.tmps;rwa [j.wd.n] at this);have z:belH H.length H=true:=q4A λh o L=>by have:=q5x (j.wd.obj h o L);rwa [j.wd.n] at this
 simp only [wpT];refine q0O (λm a w=>∃i,i<=n/\p i/\n-i=m/\∃C,C.w=w/\Den E C (S i) H a) n ⟨0,Ai _,U,rfl,C,rfl,j.wd,j.ext,j.defs,q2p (q3e Q) j.tmps⟩ ?_;rintro m' a w ⟨i,R,B,rfl,C,rfl,j⟩;have J:=round i R B E r m C a x j;simp only [wpT] at J;refine wpIn_mono J λe a w I=> ?_;cases e with
 |normal=>obtain ⟨C',t',H',⟨u,y,⟨G,rfl⟩,V⟩,rfl,D⟩:=I;refine ⟨n- (i+1),by omega,i+1,u,y,rfl,C'.ren (λh=>h) H.length,rfl,?_⟩;exact q7y x.1 D (q7b V) (A _) (λh o L _=>by grind [q1J]) z (λ_ _ _ _ _ _ _ _ e=>e) (λ_ _=>rfl) F (λ_ B N=>by rw [As (Aj B (Ao x.1 F))] at N;exact N)
 |exit id=>grind [Exit.then,exitT]
 |_=>exact I
variable {c:IC}
theorem q1f(upd:Nat->List (Nat×SV))(n:Nat)(q:Nat->Prop)(h:k0<=H.length)(y:∀i,((upd i).all λx=>x.2.bel H.length)=true)(A:leM t (setMany (maskT c.wr t) (upd 0)))
 (round:∀i,i<=n->(∀j,j<i->q j)->SoundI P AQ ⟨k0,.ic c :: .stop (RoundD H (λi=>setMany (maskT c.wr t) (upd i)) n (λi=>∀j,j<i->q j) i) :: k,setMany (maskT c.wr t) (upd i),H⟩):
 SoundI P AQ ⟨k0,.ic (.loop c) :: k,t,H⟩:=q0d (λtd' a=>by
 obtain ⟨c',r,rfl,B,a⟩:=a;obtain ⟨x,rfl,E⟩:=q0G B
 exact z2U x _ n _ (λj u=>absurd u (BT j)) A h (λz i=>q2R _ (y i) (q2T _ z)) (λi D e=>q0e (round i D e) ⟨x,_,rfl,E,r,rfl,a⟩)) rfl
variable {ι:Type}
def RoundG(Hf:ι->List SObj)(S:ι->List SV)(μ:ι->Nat)(p:ι->Prop)(i:ι):List SV->List SObj->Prop:=
 λt' H'=>∃j,p j/\μ j<μ i/\(∃G,H'=Hf j++G)/\leM t' (S j)
theorem z2N{k:List It}(c:Code)(S:ι->List SV)(Hf:ι->List SObj)(μ:ι->Nat)(p:ι->Prop)(x:ι)(V:p x)(N:Nat)(R:H=Hf x)(Q:k0<=N)(L:∀i,(Hf i).length=N)(hB:∀i,belH N (Hf i)=true)(U:leM t (S x))(O:SV.belL N t=true->∀i,SV.belL N (S i)=true)
 (round:∀i,p i->Sound P AQ ⟨k0,.code c :: .stop (RoundG Hf S μ p i) :: k,S i,Hf i⟩):Sound P AQ ⟨k0,.code (.loop c) :: k,t,H⟩:=λE r m C a z u=>by
 subst R;have hbt:∀i,SV.belL N (S i)=true:=O (by have:=q1B u.tmps;rwa [u.wd.n,L] at this);simp only [wpT];refine q0O (λm a w=>∃i,p i/\μ i=m/\∃C,C.w=w/\Den E C (S i) (Hf i) a) (μ x) ⟨x,V,rfl,C,rfl,u.wd,u.ext,u.defs,q2p (q3e U) u.tmps⟩ ?_;rintro m' a w ⟨i,B,rfl,C,rfl,u⟩;have I:=round i B E r m C a z u;simp only [wpT] at I;refine wpIn_mono I λe a w F=> ?_;cases e with
 |normal=>obtain ⟨C',t',H',⟨j,A,y,⟨G,rfl⟩,W⟩,rfl,D⟩:=F;refine ⟨μ j,y,j,A,rfl,C'.ren (λh=>h) (Hf j).length,rfl,?_⟩;exact q7y z.1 D (q7b W) (by simp_all) (λh o ho _=>by grind [q1J]) (by simp_all) (λ_ _ _ _ _ _ _ _ e=>e) (λ_ _=>rfl) (by simp_all) (λ_ B J=>by rw [As (by rw [L];exact Aj B (Ao z.1 Q))] at J;exact J)
 |exit id=>grind [Exit.then,exitT]
 |_=>exact F
theorem z3T(upd:ι->List (Nat×SV))(Hf:ι->List SObj)(μ:ι->Nat)(p:ι->Prop)(a:ι)(j:p a)(N:Nat)(n:H=Hf a)(h:k0<=N)(B:∀i,(Hf i).length=N)(y:∀i,belH N (Hf i)=true)(u:∀i,((upd i).all λx=>x.2.bel N)=true)(A:leM t (setMany (maskT c.wr t) (upd a)))
 (round:∀i,p i->SoundI P AQ ⟨k0,.ic c :: .stop (RoundG Hf (λi=>setMany (maskT c.wr t) (upd i)) μ p i) :: k,setMany (maskT c.wr t) (upd i),Hf i⟩):SoundI P AQ ⟨k0,.ic (.loop c) :: k,t,H⟩:=q0d (λtd' e=>by
 obtain ⟨c',r,rfl,D,e⟩:=e;obtain ⟨x,rfl,F⟩:=q0G D
 exact z2N x _ Hf μ p a j N n h B y A (λz i=>q2R _ (u i) (q2T _ z)) (λi E=>q0e (round i E) ⟨x,_,rfl,F,r,rfl,e⟩)) rfl
theorem q1t{q:Nat->Prop}{i:Nat}(hall:∀j,j<i->q j)(h:q i):∀j,j<i+1->q j:=λj hj=>by grind

def shift(n m h:Nat):Nat:=if h=n then m else h
def RoundA(H:List SObj)(ty:Ty)(S:Nat->List SV)(xs:Nat->List ty.den)(n:Nat)(p:Nat->Prop)(i:Nat):List SV->List SObj->Prop:=
 λt' H'=>i<n/\p (i+1)/\∃G G',H'=H++G++ [.row ty (xs (i+1))]++G'/\leT (shift H.length (H.length+G.length)) t' (S (i+1))
theorem z0b{n m:Nat}:(∀ {s:SV},s.bel n=true->s.ren (shift n m)=s)/\(∀ {l:List SV},SV.belL n l=true->SV.renL (shift n m) l=l):=by
 have hlt:∀h,decide (h<n)=true->shift n m h=h:=λh hh=>by unfold shift;grind
 refine ⟨λ{s}=> ?_,λ{l}=> ?_⟩
 . exact SV.rec (motive_1:=λs=>s.bel n=true->s.ren (shift n m)=s) (motive_2:=λl=>SV.belL n l=true->SV.renL (shift n m) l=l)
    (by intro h;rw [SV.ren]) (by intros;rw [SV.ren]) (by intros;rw [SV.ren]) (by intros;rw [SV.ren]) (by intros;rw [SV.ren]) (λh _ e=>by grind [SV.bel,SV.ren]) (λh _ _ _ e=>by grind [SV.bel,SV.ren]) (λh _ _ e=>by grind [SV.bel,SV.ren]) (λh _ _ _ e=>by grind [SV.bel,SV.ren]) (λh _ _ _ _ e=>by grind [SV.bel,SV.ren]) (by intros;rw [SV.ren])
    (λl j e=>by grind [SV.bel,SV.ren]) (λl j e=>by grind [SV.bel,SV.ren]) (λf a b u y e=>by simp_all [SV.bel,SV.ren]) (λT x j e=>by grind [SV.bel,SV.ren]) (λh e=>by grind [SV.bel,SV.ren]) (by intros;rw [SV.ren])
    (λ_=>by rw [SV.renL]) (λs l r z e=>by simp_all [SV.belL,SV.renL]) s
 exact SV.rec_1 (motive_1:=λs=>s.bel n=true->s.ren (shift n m)=s) (motive_2:=λl=>SV.belL n l=true->SV.renL (shift n m) l=l)
  (by intro h;rw [SV.ren]) (by intros;rw [SV.ren]) (by intros;rw [SV.ren]) (by intros;rw [SV.ren]) (by intros;rw [SV.ren]) (λh _ e=>by grind [SV.bel,SV.ren]) (λh _ _ _ e=>by grind [SV.bel,SV.ren]) (λh _ _ e=>by grind [SV.bel,SV.ren]) (λh _ _ _ e=>by grind [SV.bel,SV.ren]) (λh _ _ _ _ e=>by grind [SV.bel,SV.ren]) (by intros;rw [SV.ren])
  (λl j e=>by grind [SV.bel,SV.ren]) (λl j e=>by grind [SV.bel,SV.ren]) (λf a b u y e=>by simp_all [SV.bel,SV.ren]) (λT x j e=>by grind [SV.bel,SV.ren]) (λh e=>by grind [SV.bel,SV.ren]) (by intros;rw [SV.ren])
  (λ_=>by rw [SV.renL]) (λs l r z e=>by simp_all [SV.belL,SV.renL]) l
theorem z3e{k:List It}(c:Code)(ty:Ty)(S:Nat->List SV)(xs:Nat->List ty.den)(n:Nat)(p:Nat->Prop)(W:p 0)(R:leM t (S 0))(L:k0<=H.length)(x:xs 0= [])(F:belH H.length H=true)(Q:SV.belL (H.length+1) t=true->∀i,SV.belL (H.length+1) (S i)=true)
 (round:∀i,i<=n->p i->Sound P AQ ⟨k0,.code c :: .stop (RoundA H ty S xs n p i) :: k,S i,H++ [.row ty (xs i)]⟩):Sound P AQ ⟨k0,.code (.loop c) :: k,t,H++ [.row ty []]⟩:=λE r m C a B j=>by
 have hbt:∀i,SV.belL (H.length+1) (S i)=true:=Q (by have:=q1B j.tmps;rw [j.wd.n] at this;simp_all);have hbh':∀ys:List ty.den,belH (H.length+1) (H++ [.row ty ys])=true:=λys=>q4A λh o u=>by
  rcases q0j u with ⟨_,u⟩ | ⟨_,rfl⟩
  . have:=q5x (j.wd.obj h o (by grind));rw [j.wd.n] at this;simp_all
  rfl
 simp only [wpT];refine q0O (λm a w=>∃i,i<=n/\p i/\n-i=m/\∃C,C.w=w/\Den E C (S i) (H++ [.row ty (xs i)]) a) n ⟨0,Ai _,W,rfl,C,rfl,by rw [x];exact j.wd,by rw [x];exact j.ext,by rw [x];exact j.defs,q2p (q3e R) j.tmps⟩ ?_;rintro m' a w ⟨i,U,I,rfl,C,rfl,j⟩;have O:=round i U I E r m C a B j;simp only [wpT] at O;refine wpIn_mono O λe a w N=> ?_;cases e with
 |normal=>
  obtain ⟨C',t',H',⟨A,D,G,G',rfl,X⟩,rfl,J⟩:=N;refine ⟨n- (i+1),by omega,i+1,A,D,rfl,C'.ren (shift H.length (H.length+G.length)) (H++ [SObj.row ty (xs (i+1))]).length,rfl,?_⟩;have z:∀h,h<H.length->shift H.length (H.length+G.length) h=h:=λh y=>by unfold shift;grind
  have hshn:shift H.length (H.length+G.length) H.length=H.length+G.length:=by unfold shift;simp_all
  refine q7y B.1 J X (by simp_all) (λh o u hl=> ?_) (by simp_all) (λh h' o o' u ho' _ _ e=> ?_) (λh y=>z h (Aj y L)) (by grind) (λ_ I V=>z4K (Aj I (Ao B.1 L)) (by simpa only [List.append_assoc] using V))
  . rcases q0j u with ⟨y,u⟩ | ⟨y,rfl⟩
    . rw [z h y];have hr:o.ren (shift H.length (H.length+G.length))=o:=by
       have hbo:=q2F F u;cases o with
       |cells T cs=>simp_all [SObj.ren,z0b,SObj.bel]
       |map kk ks vs=>simp_all [SObj.ren,z0b,SObj.bel]
       |_=>rfl
      grind
    grind [SObj.ren]
  grind
 |exit id=>grind [Exit.then,exitT]
 |_=>exact N
theorem j3v(a:Nat)(ty:Ty)(xs:Nat->List ty.den)(upd:Nat->List (Nat×SV))(n:Nat)(q:Nat->Prop)(z:k0<=H.length)(h:xs 0= [])(e:belH H.length H=true)(hu:∀i,((upd i).all λx=>x.2.bel (H.length+1))=true)
 (hs:leM t (setMany (maskT c.wr t) ((a,.bld H.length ty 0) :: upd 0)))
 (round:∀i,i<=n->(∀j,j<i->q j)->SoundI P AQ ⟨k0,.ic c :: .stop (RoundA H ty (λi=>setMany (maskT c.wr t) ((a,.bld H.length ty (xs i).length) :: upd i)) xs n (λi=>∀j,j<i->q j) i) :: k,setMany (maskT c.wr t) ((a,.bld H.length ty (xs i).length) :: upd i),H++ [.row ty (xs i)]⟩):
 SoundI P AQ ⟨k0,.ic (.loop c) :: k,t,H++ [.row ty []]⟩:=q0d (λtd' u=>by
 obtain ⟨c',r,rfl,D,u⟩:=u;obtain ⟨x,rfl,F⟩:=q0G D;refine z3e x ty _ xs n _ (λj A=>absurd A (BT j)) (by simp_all) z h e (λB i=>q2R _ ?_ (q2T _ B)) (λi E y=>q0e (round i E y) ⟨x,_,rfl,F,r,rfl,u⟩);rw [BE,Ak]
 grind [SV.bel]) rfl
attribute [go_sem] leT leS shift SV.ren SV.renL
end

def Ty.inR:(t:Ty)->t.den->Prop
 |.u8,_=>True
 |.int k,n=>k.min<=n/\n<=k.max
 |.bool,_=>True
 |.str,_=>True
 |.slice t,xs=>∀x∈xs,t.inR x
 |.prod a b,x=>a.inR x.1/\b.inR x.2
 |.unit,_=>True
 |.arr _ t,xs=>∀x∈xs,t.inR x
 |.ptr t,x=>∀y,x=some y->t.inR y
 |.clo _ t,x=>t.inR x
 |.clp _ t,x=>t.inR x
 |.mbs t,x=>∀xs,x= .inr xs->∀y∈xs,t.inR y
def tyFs(P:Program)(rec:TypeId->Option Ty):List Field->Nat->Option Ty
 | [],_=>none
 |f :: fs,off=>match rec f.type with
  |none=>none
  |some a=>if f.offset=off/\P.cellsOf f.type=a.size then
   (match fs with
   | []=>some a
   |_ :: _=>(tyFs P rec fs (off+a.size)).map (.prod a ·)) else none
def tyRd(P:Program):Nat->TypeId->Option Ty
 |0,_=>none
 |n+1,t=>match P.underlying t with
  |some .bool=>some .bool
  |some (.int .u8)=>some .u8
  |some (.int k)=>some (.int k)
  |some .string=>some .str
  |some (.slice e)=>match tyRd P n e with
   |some a=>if P.cellsOf e=a.size/\0<P.bytesOf e/\0<a.size then some (.slice a) else none
   |none=>none
  |some (.struct fs)=>match tyFs P (tyRd P n) fs.toList 0 with
   |some a=>if P.cellsOf t=a.size then some a else none
   |none=>none
  |_=>none

variable {H:Type} {enc:TypeId×Value->H} {P:Program} {w:World} {spare:Nat->Bool} {held:Bool}

theorem q1s{l r:List Nat}{B:Nat}(h:(l++r).all (· <=B)=true):l.all (· <=B)=true/\r.all (· <=B)=true:=by simp_all
theorem q4k{e:TypeId}{B:Nat}:∀ {l:List (DataW H)} {i:Nat} {d:DataW H},(DataW.weightsAll P e l).all (· <=B)=true->l[i]?=some d->(d.weights P e).all (· <=B)=true
 | [],_,_,_,h=>by simp at h
 |x :: l,0,d,hw,h=>by simp_all [DataW.weightsAll]
 |x :: l,i+1,d,hw,h=>by rw [DataW.weightsAll] at hw;exact q4k (q1s hw).2 (by simpa using h)
theorem cells?_cell{a:Addr}{n:Nat}{cs:List Value}(h:w.cells? 0 a n=some cs):∀ (k:Nat) (u:Value),cs[k]?=some u->w.cell? (a.add k)=some u:=by
 intro k u r;unfold World.cells? at h;rw [if_pos (Ai _)] at h;have e:=mapM_some_length h;rw [Cg] at e;have j:k<n:=by grind
 have:=mapM_some_get h k k (by simp [j]);rw [this,r]
theorem cell?_spot{a:Addr}{v:Value}(h:w.cell? a=some v):a.spot=none/\a.block<w.heap.size:=by
 unfold World.cell? at h;split at h
 . rename_i c t f j;split at h
   . cases h
   rename_i e;exact ⟨by simpa using e,(Ax.1 j).1⟩
 cases h
theorem z2r{α:Type}{n:Nat}{p:Nat->α->Prop}(h:∀i,i<n->∃x,p i x):∃l:List α,l.length=n/\∀i x,l[i]?=some x->p i x:=by
 induction n with
 |zero=>simp_all
 |succ n a=>obtain ⟨l,e,hp⟩:=a (λi hi=>h i (by omega));obtain ⟨x,hx⟩:=h n (by omega);refine ⟨l++ [x],by simp [e],λi y hy=> ?_⟩;grind
theorem q8w{n:Nat}{rec:TypeId->Option Ty}{cs:List Value}
 (F:∀ (t:TypeId) (cs:List Value) (d:DataW H) (ps:List MemPlace) (ty:Ty),rec t=some ty->DataW.trod enc P w 0 spare held n t cs=some (d,ps)->(d.weights P t).all (· <=reachBytes)=true->∃x:ty.den,ty.rel (λb=>b<w.heap.size) w x cs/\ty.inR x):
 ∀ (j:List Field) (xs:List (DataW H×List MemPlace)) (off:Nat) (ty:Ty),tyFs P rec j off=some ty->xs.length=j.length->
  (∀ (i:Nat) (f:Field),j[i]?=some f->DataW.trod enc P w 0 spare held n f.type ((cs.drop f.offset).take (P.cellsOf f.type))=xs[i]?)->
  (DataW.weightsEach P (j.map (·.type)) (xs.map (·.1))).all (· <=reachBytes)=true->cs.length=off+ty.size->
  ∃x:ty.den,ty.rel (λb=>b<w.heap.size) w x (cs.drop off)/\ty.inR x
 | [],_,_,_,h,_,_,_,_=>by simp [tyFs] at h
 |f :: j,xs,off,ty,h,hl,hx,hw,hc=>by
  unfold tyFs at h;split at h
  . cases h
  rename_i a R;split at h
  . rename_i J;obtain ⟨N,Q⟩:=J;cases xs with
    |nil=>simp at hl
    |cons y ys=>
     have E:=hx 0 f rfl;simp only [List.getElem?_cons_zero] at E;simp only [Az,DataW.weightsEach] at hw;obtain ⟨D,u⟩:=q1s hw;obtain ⟨x,e,r⟩:=F f.type _ y.1 y.2 a R E D;rw [N,Q] at e;split at h
     . grind [List.take_of_length_le]
     rename_i g L;simp only [Al] at h;obtain ⟨b,I,rfl⟩:=h;have hsz:(Ty.prod a b).size=a.size+b.size:=rfl;obtain ⟨z,A,B⟩:=q8w F (g :: L) ys (off+a.size) b I (by grind) (λi O hf=>by have:=hx (i+1) O (by grind);simpa using this) u (by omega);refine ⟨(x,z),⟨_,_,?_,e,A⟩,r,B⟩;rw [<-AW,AA]
  cases h

theorem q9B:∀ (fuel n:Nat) (t:TypeId) (cs:List Value) (d:DataW H) (ps:List MemPlace) (ty:Ty),tyRd P n t=some ty->DataW.trod enc P w 0 spare held fuel t cs=some (d,ps)->(d.weights P t).all (· <=reachBytes)=true->
 ∃x:ty.den,ty.rel (λb=>b<w.heap.size) w x cs/\ty.inR x
 |_,0,_,_,_,_,_,h,_,_=>by simp [tyRd] at h
 |0,n+1,t,cs,d,ps,ty,h,hd,E=>by simp [DataW.trod] at hd
 |fuel+1,n+1,t,cs,d,ps,ty,h,hd,E=>by
  unfold tyRd at h;split at h
  . rename_i r;cases h;obtain ⟨b,rfl,_⟩:=DataW.trod_bool r hd;exact ⟨b,rfl,trivial⟩
  . rename_i r;cases h;obtain ⟨m,rfl,_,y⟩:=DataW.trod_int r hd;simp only [Lit.wf,Ak,decide_eq_true_eq] at y;have Y:(0:Int)<=m:=y.1;have h2:m<=255:=y.2;refine ⟨UInt8.ofNat m.toNat,?_,trivial⟩;grind [Ty.rel,UInt8.toNat_ofNat']
  . rename_i k hne r;cases h;obtain ⟨m,rfl,_,y⟩:=DataW.trod_int r hd;simp only [Lit.wf,Ak,decide_eq_true_eq] at y;exact ⟨m,rfl,y⟩
  . rename_i r;cases h;obtain ⟨s,rfl,z,_⟩:=DataW.trod_string r hd;cases z;simp only [DataW.weights,BE,Cu,CI] at E;have E:=of_decide_eq_true E;refine ⟨s,⟨rfl,?_⟩,trivial⟩;have e1:s.data.toList.length=s.size:=by simp
    grind [reachBytes]
  . rename_i e r;split at h
    . rename_i a ha;split at h
      . rename_i hk;obtain ⟨hk1,U,hk3⟩:=hk;cases h;rcases DataW.trod_slice r hd with ⟨rfl,z⟩ | ⟨A,len,cap,j,rest,m,hm,rfl,z,_,ac,_,hel,he,_,_⟩
        . exact ⟨[],⟨_,_,_,rfl,rfl,Ac _,by simp,.inl rfl⟩,λx z=>by cases z⟩
        cases hm;cases z;simp only [DataW.weights,r,BE,Ak,decide_eq_true_eq] at E;obtain ⟨ad,F⟩:=E;obtain ⟨F,_⟩:=q1s F;have D:len<=1125899906842624:=by simp only [A3,reachBytes] at ad;have:len*1<=(j.length+rest.length)*P.bytesOf e:=Nat.mul_le_mul (by omega) U;omega
        have key:∀i,i<len->∃x:a.den,(∃us,w.cells? 0 (A.add (i*P.cellsOf e)) (P.cellsOf e)=some us/\a.rel (λb=>b<w.heap.size) w x us)/\a.inR x:=λi hi=>by
         have Y:=he i hi;have J:i<j.length:=by omega
         rw [Af J,AL] at Y;obtain ⟨us,L,W⟩:=Y;obtain ⟨x,hx1,hx2⟩:=q9B fuel n e us j[i].1 j[i].2 a ha W (q4k F (by rw [AF,Af J];rfl));grind
        obtain ⟨xs,I,R⟩:=z2r key;refine ⟨xs,⟨some A,len,cap,rfl,I.symm,ac,D,?_⟩,λx z=> ?_⟩
        . by_cases h0:xs= []
          . exact .inl h0
          right;have N:0<len:=by grind
          obtain ⟨x0,⟨O,ab,Z⟩,_⟩:=key 0 N;have hl0:=a.rel_size _ _ Z;have V:O[0]?=some (O.getD 0 default):=by simp_all
          have B:=cells?_cell ab 0 _ V;have Q:(A.add (0*P.cellsOf e)).add 0=A:=by simp [Addr.add]
          rw [Q] at B;obtain ⟨hsp,S⟩:=cell?_spot B;refine ⟨A.block,A.off,by cases A;simp_all,S,λi x z=> ?_⟩;obtain ⟨⟨us,L,aa⟩,_⟩:=R i x z;refine ⟨us,aa,λk u r=> ?_⟩;have:=cells?_cell L k u r;have e1:(A.add (i*P.cellsOf e)).add k=⟨A.block,A.off+i*a.size+k,none⟩:=by cases A;grind [Addr.add]
          simp_all
        obtain ⟨i,hi,rfl⟩:=AT z;exact (R i _ (Af hi)).2
      cases h
    cases h
  . rename_i fs r;split at h
    . rename_i a ha;split at h
      . rename_i hk;cases h;obtain ⟨xs,m,hm,z,D,I,X⟩:=DataW.trod_struct r hd;cases hm;cases z;simp only [DataW.weights,r] at E;have:=q8w (cs:=cs) (λt cs d ps ty=>q9B fuel n t cs d ps ty) fs.toList xs 0 _ ha (by omega) (λi f hf=>X i f (by grind)) E (by omega)
        simp_all
      cases h
    cases h
  cases h
open Go Go.ChangeShapes Go.WideShapes Go.RowKit

def Cx.top(w:World):Cx:={ρ:=λ_=>none,n:=0,I:=λb=>b<w.heap.size,w:=w}
variable {v:Value}{vs:List Value}
def z2s(h:PC P f args (.raw v))(y:SV.denL (Cx.top w) args vs)(B:TabT (Cx.top w) []:=by exact ⟨λe n=>absurd n (by simp [tabList]),λe n=>absurd n (by simp [datList])⟩):
 Calls P f vs.toArray w λe w'=>e= .returned v/\Below w.heap.size w w':=by
 have A:VCall P f args [] (λo _=>o= .ret (.raw v)):=h.2 [] _ rfl;have z:Wd (Cx.top w) []:=⟨rfl,λh o a=>by simp at a,λb ⟨h,o,a,_⟩=>by simp at a,λh h' o o' b a=>by simp at a,λb r=>r⟩
 refine (A (Cx.top w) vs z B y).mono ?_;rintro e w' ⟨o,H',C',rfl,rfl,_,j,u,rfl,x⟩;rw [SV.den] at x;subst x;exact ⟨rfl,j.os,j.tape,j.output,j.size,λb r=>j.frame b r (λ⟨h,o,a,_⟩=>by simp at a)⟩

section
variable {H:Type} {enc:TypeId×Value->H} {P:Program}
theorem trodAll_below'(D:laidOutB P=true){W z:World}(I:Below W.heap.size W z){n:List TypeId}{r:List (DataW H)}{ps:List MemPlace}(u:∀t∈n,P.readableRec t=true/\t<P.types.size)
 (h:DataW.TrodAll enc P W 0 (λ_=>true) true n vs r ps)(e:∀x∈ps,x.block<W.heap.size)(y:Nat->Bool)(j:∀p∈ps,y p.block=true):DataW.TrodAll enc P z 0 y true n vs r ps:=by
 induction n generalizing vs r ps with
 |nil=>obtain ⟨rfl,rfl,rfl⟩:=trodAll_nil h;exact rfl
 |cons t n B=>obtain ⟨v,vs,d,r,p,q,rfl,rfl,rfl,F,E⟩:=trodAll_cons h;refine ⟨p,q,?_,B (λt' A=>u t' (by simp [A])) E (λx a=>e x (by simp [a])) (λx a=>j x (by simp [a])),rfl⟩;exact WideElems.Trod_stays D (u t (by simp)).1 (u t (by simp)).2 F (λx a=>I.same (e x (by simp [a]))) (λx a=>j x (by simp [a]))

def shut_bool'{t:TypeId}{base:Nat}(a:P.underlying t=some .bool)(b:Bool):DataW.Trod enc P w base spare held t (.bool b) (.lit (.bool b)) []:=
 ⟨1,by simp [DataW.trod,Value.cells,a]⟩

theorem j1A{f:Func}{s:ChangeSpec}{W B:World}{args:Array Value}{h u:List (DataW H)}{e:List MemPlace}{L:TypeId}
 (hl:laidOutB P=true)(ht:∀t∈f.params.toList,P.readableRec t=true/\t<P.types.size)(Q:f.resultTypes= #[L])(F:P.underlying L=some .bool)(y:s.vars= [])
 (D:DataW.Whole enc P f.params.toList s.vars false W args.toList h u e)(z:s.fn H (h++u)={results:=[.lit (.bool true)],args:=h})(hb:Below W.heap.size W B):
 s.post enc P f false true false false W args (.bool true) B:=by
 have E:=D.lt;have hW':=D;rw [y] at D;obtain ⟨p,q,hA,N,rfl,O,hn⟩:=D;obtain ⟨rfl,rfl⟩:u= []/\q= []:=by
  cases u with
  |nil=>exact ⟨rfl,N⟩
  |cons g u=>exact N.elim
 rw [Ad] at E O hW';have x:∀ (b:Nat) (a:Nat->Bool) (I:Bool),DataW.TrodAll enc P B b a I f.resultTypes.toList ((Value.bool true).resultList f.resultTypes.size) (s.fn H (h++ [])).results []:=λb a I=>by rw [Q,z];exact trodAll_mk1 (shut_bool' F true)
 have j:∀a:Nat->Bool,(∀A∈p,a A.block=true)->DataW.TrodAll enc P B 0 a true f.params.toList args.toList (s.fn H (h++ [])).args p:=λa hsp=>by grind [trodAll_below']
 have n:∀a:Nat->Bool,DataW.TrodVars enc P B a s.vars (s.fn H (h++ [])).vars []:=λa=>by rw [y,z];exact rfl
 have r:∀A∈p,(λb=>decide (b<W.heap.size)) A.block=true:=λA J=>by simp_all
 refine ⟨h,[],p,[],p,[],hW',x _ _ _,j _ r,n _,World.keptBut_mono (λA J=>⟨J,.inr (by grind)⟩) (hb.frame _),λ_=> ?_⟩
 simp_all
end
mutual
def SV.sealed(H:List SObj):SV->Option (SV×Prop)
 |.any=>some (.any,True)
 |.raw v=>some (.raw v,True)
 |.isl t xs=>some (.isl t xs,True)
 |.fsl t xs=>some (.isl t xs,True)
 |.iptr t x k=>some (.iptr t x k,True)
 |.dat t x=>some (.dat t x,True)
 |.imap kk ks vs=>some (.imap kk ks vs,True)
 |.bld h t n=>match H[h]? with
  |some (.row t' xs)=>if t=t' then some (.isl t' (xs.take n),n<=xs.length/\xs.length<=1125899906842624) else none
  |_=>none
 |.osl h t off n=>match H[h]? with
  |some (.row t' xs)=>if t=t' then some (.isl t' ((xs.drop off).take n),off+n<=xs.length/\xs.length<=1125899906842624) else none
  |_=>none
 |.mp h=>match H[h]? with
  |some (.map kk ks vs)=>(unrawL vs).map λus=>(.imap kk ks us,True)
  |_=>none
 |.agg l=>match SV.sealedL H l with
  |some (l',p)=>some (.agg l',p)
  |none=>none
 |.tup l=>match SV.sealedL H l with
  |some (l',p)=>some (.tup l',p)
  |none=>none
 |_=>none
def SV.sealedL(H:List SObj):List SV->Option (List SV×Prop)
 | []=>some ([],True)
 |s :: l=>match SV.sealed H s,SV.sealedL H l with
  |some (s',p),some (l',q)=>some (s' :: l',p/\q)
  |_,_=>none
end
mutual
def SV.leV:SV->SV->Prop
 |s,.isl t xs=>s= .isl t xs\/(s= .raw (.slice none 0 0)/\xs= [])
 |s,.agg l=>match s with
  |.agg l'=>SV.leVL l' l
  |_=>False
 |s,.tup l=>match s with
  |.tup l'=>SV.leVL l' l
  |_=>False
 |s,s'=>s=s'
def SV.leVL:List SV->List SV->Prop
 | [],l=>l= []
 |s :: l,r=>match r with
  | []=>False
  |s' :: l'=>SV.leV s s'/\SV.leVL l l'
end
def j3m{u:Value}:SV.leV (.raw v) (.raw u)=(v=u):=by simp [SV.leV]
def j5X{t:Ty}{xs ys:List t.den}:SV.leV (.isl t xs) (.isl t ys)=(xs=ys):=by simp [SV.leV]
theorem z6Q{t:Ty}{ys:List t.den}:SV.leV (.raw (.slice none 0 0)) (.isl t ys)=(ys= []):=by simp [SV.leV]
def z3m{l a:List SV}:SV.leV (.agg l) (.agg a)=SV.leVL l a:=by rw [SV.leV]
def z2Q{l a:List SV}:SV.leV (.tup l) (.tup a)=SV.leVL l a:=by rw [SV.leV]
def j1K{j e:Option IntKind}{n a h:List Value}:SV.leV (.imap j n vs) (.imap e a h)=(j=e/\n=a/\vs=h):=by simp [SV.leV]
variable {s:SV}
def q8d{a:SV}{l e:List SV}:SV.leVL (s :: l) (a :: e)=(SV.leV s a/\SV.leVL l e):=by rw [SV.leVL]
def j1F:SV.leVL [] []=True:=by simp [SV.leVL]
mutual
theorem j0Q:∀ (s:SV),SV.leV s s
 |.any=>by simp [SV.leV]
 |.raw _=>by simp [SV.leV]
 |.isl _ _=>by simp [SV.leV]
 |.fsl _ _=>by simp [SV.leV]
 |.iptr .. =>by simp [SV.leV]
 |.ptr .. =>by simp [SV.leV]
 |.rptr .. =>by simp [SV.leV]
 |.bld .. =>by simp [SV.leV]
 |.osl .. =>by simp [SV.leV]
 |.csl .. =>by simp [SV.leV]
 |.dat .. =>by simp [SV.leV]
 |.mp _=>by simp [SV.leV]
 |.imap .. =>by simp [SV.leV]
 |.fn .. =>by simp [SV.leV]
 |.iface .. =>by simp [SV.leV]
 |.agg l=>by rw [z3m];exact q7v l
 |.tup l=>by rw [z2Q];exact q7v l
theorem q7v:∀ (l:List SV),SV.leVL l l
 | []=>by rfl
 |s :: l=>by rw [q8d];exact ⟨j0Q s,q7v l⟩
end
mutual
theorem z2x{C:Cx}:∀ {s j:SV} {v:Value},SV.leV s j->s.den C v->j.den C v
 |s,.isl t xs,v,h,d=>by
  rw [SV.leV] at h;rcases h with rfl| ⟨rfl,rfl⟩
  . exact d
  rw [SV.den] at d;subst d;rw [SV.den];exact ⟨_,_,_,rfl,rfl,Ac _,by simp,.inl rfl⟩
 |.agg l',.agg l,v,h,d=>by rw [z3m] at h;rw [SV.den] at d⊢;obtain ⟨vs,a,e⟩:=d;exact ⟨vs,a,q4K h e⟩
 |.tup l',.tup l,v,h,d=>by rw [z2Q] at h;rw [SV.den] at d⊢;obtain ⟨vs,a,e⟩:=d;exact ⟨vs,a,q4K h e⟩
 |.any,.agg _,_,h,_=>by simp [SV.leV] at h
 |.raw _,.agg _,_,h,_=>by simp [SV.leV] at h
 |.isl _ _,.agg _,_,h,_=>by simp [SV.leV] at h
 |.fsl _ _,.agg _,_,h,_=>by simp [SV.leV] at h
 |.iptr ..,.agg _,_,h,_=>by simp [SV.leV] at h
 |.ptr ..,.agg _,_,h,_=>by simp [SV.leV] at h
 |.rptr ..,.agg _,_,h,_=>by simp [SV.leV] at h
 |.bld ..,.agg _,_,h,_=>by simp [SV.leV] at h
 |.osl ..,.agg _,_,h,_=>by simp [SV.leV] at h
 |.csl ..,.agg _,_,h,_=>by simp [SV.leV] at h
 |.dat ..,.agg _,_,h,_=>by simp [SV.leV] at h
 |.mp _,.agg _,_,h,_=>by simp [SV.leV] at h
 |.imap ..,.agg _,_,h,_=>by simp [SV.leV] at h
 |.fn ..,.agg _,_,h,_=>by simp [SV.leV] at h
 |.iface ..,.agg _,_,h,_=>by simp [SV.leV] at h
 |.tup _,.agg _,_,h,_=>by simp [SV.leV] at h
 |.any,.tup _,_,h,_=>by simp [SV.leV] at h
 |.raw _,.tup _,_,h,_=>by simp [SV.leV] at h
 |.isl _ _,.tup _,_,h,_=>by simp [SV.leV] at h
 |.fsl _ _,.tup _,_,h,_=>by simp [SV.leV] at h
 |.iptr ..,.tup _,_,h,_=>by simp [SV.leV] at h
 |.ptr ..,.tup _,_,h,_=>by simp [SV.leV] at h
 |.rptr ..,.tup _,_,h,_=>by simp [SV.leV] at h
 |.bld ..,.tup _,_,h,_=>by simp [SV.leV] at h
 |.osl ..,.tup _,_,h,_=>by simp [SV.leV] at h
 |.csl ..,.tup _,_,h,_=>by simp [SV.leV] at h
 |.dat ..,.tup _,_,h,_=>by simp [SV.leV] at h
 |.mp _,.tup _,_,h,_=>by simp [SV.leV] at h
 |.imap ..,.tup _,_,h,_=>by simp [SV.leV] at h
 |.fn ..,.tup _,_,h,_=>by simp [SV.leV] at h
 |.iface ..,.tup _,_,h,_=>by simp [SV.leV] at h
 |.agg _,.tup _,_,h,_=>by simp [SV.leV] at h
 |s,.any,v,h,d=>by grind [SV.leV]
 |s,.raw _,v,h,d=>by grind [SV.leV]
 |s,.fsl _ _,v,h,d=>by grind [SV.leV]
 |s,.iptr ..,v,h,d=>by grind [SV.leV]
 |s,.ptr ..,v,h,d=>by grind [SV.leV]
 |s,.rptr ..,v,h,d=>by grind [SV.leV]
 |s,.bld ..,v,h,d=>by grind [SV.leV]
 |s,.osl ..,v,h,d=>by grind [SV.leV]
 |s,.csl ..,v,h,d=>by grind [SV.leV]
 |s,.dat ..,v,h,d=>by grind [SV.leV]
 |s,.mp _,v,h,d=>by grind [SV.leV]
 |s,.imap ..,v,h,d=>by grind [SV.leV]
 |s,.fn ..,v,h,d=>by grind [SV.leV]
 |s,.iface ..,v,h,d=>by grind [SV.leV]
theorem q4K{C:Cx}:∀ {l a:List SV} {vs:List Value},SV.leVL l a->SV.denL C l vs->SV.denL C a vs
 | [],a,vs,h,d=>by grind [SV.leVL]
 |s :: l,[],vs,h,d=>by simp [SV.leVL] at h
 |s :: l,s' :: a,vs,h,d=>by rw [q8d] at h;obtain ⟨v,us,rfl,e,j⟩:=q0c.1 d;exact q0c.2 ⟨v,us,rfl,z2x h.1 e,q4K h.2 j⟩
end

def Cx.shut(C:Cx)(H:List SObj):Cx:={C with n:=0,I:=λb=>C.I b\/OwnB C H b}
mutual
theorem q8P{C:Cx}{H:List SObj}(u:Wd C H):∀ {s r:SV} {p:Prop} {v:Value},s.sealed H=some (r,p)->p->s.den C v->r.den (C.shut H) v
 |.any,_,_,_,h,_,_=>by grind [SV.sealed,SV.den]
 |.raw _,_,_,_,h,_,d=>by grind [SV.sealed,SV.den]
 |.isl _ _,_,_,_,h,_,d=>by simp [SV.sealed] at h;rw [<-h.1];exact q0B (C:=C) (C':=C.shut H) (λb a=>⟨.inl a,rfl⟩) rfl d
 |.fsl _ _,_,_,_,h,_,d=>by simp [SV.sealed] at h;rw [<-h.1];rw [SV.den] at d;exact q0B (C:=C) (C':=C.shut H) (λb a=>⟨.inl a,rfl⟩) rfl (by grind [SV.den])
 |.dat ..,_,_,_,h,_,d=>by simp [SV.sealed] at h;rw [<-h.1];exact q0B (C:=C) (C':=C.shut H) (λb a=>⟨.inl a,rfl⟩) rfl d
 |.iptr ..,_,_,_,h,_,d=>by simp [SV.sealed] at h;rw [<-h.1];exact q0B (C:=C) (C':=C.shut H) (λb a=>⟨.inl a,rfl⟩) rfl d
 |.imap ..,_,_,_,h,_,d=>by simp [SV.sealed] at h;rw [<-h.1];exact q0B (C:=C) (C':=C.shut H) (λb a=>⟨.inl a,rfl⟩) rfl d
 |.bld hd t n,r,p,v,h,hp,d=>by
  unfold SV.sealed at h;split at h
  . rename_i t' xs j;split at h
    . rename_i e;subst e;cases h;have z:=q4s u j hp.2 (s:=.bld hd t n) (by rw [SV.frzOb,if_pos ⟨rfl,rfl⟩];exact hp.1) d;rw [SV.frz,if_pos ⟨rfl,rfl⟩] at z;exact q0B (C:=C.frz hd) (C':=C.shut H) (λb a=>⟨a.elim .inl (λe=>.inr ⟨hd,_,j,rfl,e⟩),rfl⟩) rfl z
    cases h
  cases h
 |.osl hd t off n,r,p,v,h,hp,d=>by
  unfold SV.sealed at h;split at h
  . rename_i t' xs j;split at h
    . rename_i e;subst e;cases h;have z:=q4s u j hp.2 (s:=.osl hd t off n) (by rw [SV.frzOb,if_pos ⟨rfl,rfl⟩];exact hp.1) d;rw [SV.frz,if_pos ⟨rfl,rfl⟩] at z;exact q0B (C:=C.frz hd) (C':=C.shut H) (λb a=>⟨a.elim .inl (λe=>.inr ⟨hd,_,j,rfl,e⟩),rfl⟩) rfl z
    cases h
  cases h
 |.mp hd,r,p,v,h,hp,d=>by
  unfold SV.sealed at h;split at h
  . rename_i kk ks vs j;obtain ⟨us,D,h⟩:=Al.1 h;cases h;obtain rfl:=q4C D;simp only [SV.den] at d⊢;obtain ⟨_,b,a,rfl⟩:=d;obtain ⟨b',us',x,B,y⟩:=u.obj hd _ j;rw [q1d y] at B;rw [a] at x;cases x;exact ⟨b,rfl,.inr ⟨hd,_,j,rfl,a⟩,B⟩
  cases h
 |.agg l,r,p,v,h,hp,d=>by
  unfold SV.sealed at h;split at h
  . cases h;rw [SV.den] at d⊢;obtain ⟨vs,A,y⟩:=d;exact ⟨vs,A,q4p u (by assumption) hp y⟩
  cases h
 |.tup l,r,p,v,h,hp,d=>by
  unfold SV.sealed at h;split at h
  . cases h;rw [SV.den] at d⊢;obtain ⟨vs,A,y⟩:=d;exact ⟨vs,A,q4p u (by assumption) hp y⟩
  cases h
 |.ptr ..,_,_,_,h,_,_=>by simp [SV.sealed] at h
 |.rptr ..,_,_,_,h,_,_=>by simp [SV.sealed] at h
 |.csl ..,_,_,_,h,_,_=>by simp [SV.sealed] at h
 |.fn ..,_,_,_,h,_,_=>by simp [SV.sealed] at h
 |.iface ..,_,_,_,h,_,_=>by simp [SV.sealed] at h
theorem q4p{C:Cx}{H:List SObj}(e:Wd C H):∀ {l a:List SV} {p:Prop} {vs:List Value},SV.sealedL H l=some (a,p)->p->SV.denL C l vs->SV.denL (C.shut H) a vs
 | [],_,_,_,h,_,d=>by grind [SV.sealedL,q0y]
 |s :: l,a,p,vs,h,hp,d=>by
  unfold SV.sealedL at h;split at h
  . cases h;obtain ⟨v,us,rfl,j,n⟩:=q0c.1 d;exact q0c.2 ⟨v,us,rfl,q8P e (by assumption) hp.1 j,q4p e (by assumption) hp.2 n⟩
  cases h
end
def SealK(s:SV):Out->List SObj->Prop
 |.ret s0,H'=>match s0.sealed H' with
  |some (s1,p)=>p/\SV.leV s1 s
  |none=>False
 |.pan _,_=>False
variable {C:Cx}
theorem q8K{us:Array Value}(z:Wd C [])(h:Calls P f us C.w λe w'=>∃o H' C',SealK s o H'/\C'.w=w'/\Wd C' H'/\Ext ⟨C,[]⟩ C' H'/\outDen C' o e):
 Calls P f us C.w λe w'=>∃o H' C',PK s o H'/\C'.w=w'/\Wd C' H'/\Ext ⟨C,[]⟩ C' H'/\outDen C' o e:=by
 refine h.mono ?_;rintro e w' ⟨o,H',C',x,rfl,r,j,y⟩;cases o with
 |pan s0=>exact x.elim
 |ret s0=>
  simp only [SealK] at x;split at x
  . rename_i s1 p A;obtain ⟨v,rfl,y⟩:=y;have hn:C.n=0:=z.n;refine ⟨.ret s,[],C'.shut H',rfl,rfl,⟨rfl,λh o u=>by simp at u,λb ⟨h,o,u,_⟩=>by simp at u,λh h' o o' b u=>by simp at u,?_⟩,⟨⟨by simp_all,λh hh=>by simp_all,λb a=>⟨.inl (j.evo.I b a).1,(j.evo.I b a).2⟩,j.evo.sz⟩,j.size,j.os,j.tape,j.output,j.frame,?_,λb ⟨h,o,u,_⟩=>by simp at u,λ_ _ h=>by simp at h⟩,v,rfl,z2x x.2 (q8P r A x.1 y)⟩
    . rintro b (a|a)
      . exact r.imm b a
      exact (r.own b a).2
    rintro b (a|a)
    . exact j.immNew b a
    exact .inr ⟨j.ownNew b a,(q4v r a:Unf C'.w b)⟩
  simp_all
def VCall.shut{P:Program}{f:FuncId}{args:List SV}{s:SV}(h:VCall P f args [] (SealK s)):VCall P f args [] (PK s):=
 λC vs hw ht hv=>q8K hw (h C vs hw ht hv)
def q0l(ha:SV.cleanL args=true)(hs:s.clean=true)(h:VC P f args [] (SealK s)):PC P f args s:=
 q0s ha hs ⟨h.1,VCall.shut h.2⟩
attribute [go_sem] SealK SV.sealed SV.sealedL j3m j5X z6Q z3m z2Q j1K q8d j1F
section
variable [Ghost] {P:Program} {AQ:Ex->List SV->List SObj->Prop} {k0:Nat} {k:List IT} {t:List SV} {H:List SObj}
def q5O{c:IC}(slot:Nat)(ty:Ty)(xs:Nat->List ty.den)(upd:Nat->List (Nat×SV))(n:Nat)(q:Nat->Prop)(hi:t[slot]?=some (.raw (.slice none 0 0)))(hk:k0<=H.length)(hx0:xs 0= [])(hbh:belH H.length H=true)(hu:∀i,((upd i).all λx=>x.2.bel (H.length+1))=true)
 (hs:leM (t.set slot (.bld H.length ty 0)) (setMany (maskT c.wr (t.set slot (.bld H.length ty 0))) ((slot,.bld H.length ty 0) :: upd 0)))
 (round:∀i,i<=n->(∀j,j<i->q j)->SoundI P AQ ⟨k0,.ic c :: .stop (RoundA H ty (λi=>setMany (maskT c.wr (t.set slot (.bld H.length ty 0))) ((slot,.bld H.length ty (xs i).length) :: upd i)) xs n (λi=>∀j,j<i->q j) i) :: k,setMany (maskT c.wr (t.set slot (.bld H.length ty 0))) ((slot,.bld H.length ty (xs i).length) :: upd i),H++ [.row ty (xs i)]⟩):
 SoundI P AQ ⟨k0,.ic (.loop c) :: k,t,H⟩:=
 z1A slot ty rfl hi (j3v slot ty xs upd n q hk hx0 hbh hu hs round)
def q3g{ty:Ty}{S:Nat->List SV}{xs:Nat->List ty.den}{n i:Nat}{p:Nat->Prop}{t':List SV}{H':List SObj}(G G':List SObj)(hlt:i<n)(hp:p (i+1))(hH:H'=H++G++ [.row ty (xs (i+1))]++G')(hl:leT (shift H.length (H.length+G.length)) t' (S (i+1))):RoundA H ty S xs n p i t' H':=
 ⟨hlt,hp,G,G',hH,hl⟩
theorem z2K{k:List It}(c:Code)(ty:Ty)(S:Nat->List SV)(xs:Nat->List ty.den)(n:Nat)(p:Nat->Prop)(V:p 0)(Q:leM t (S 0))(J:k0<=H.length)(D:belH H.length H=true)(O:SV.belL (H.length+1) t=true->∀i,SV.belL (H.length+1) (S i)=true)
 (round:∀i,i<=n->p i->Sound P AQ ⟨k0,.code c :: .stop (RoundA H ty S xs n p i) :: k,S i,H++ [.row ty (xs i)]⟩):Sound P AQ ⟨k0,.code (.loop c) :: k,t,H++ [.row ty (xs 0)]⟩:=λE r m C a A j=>by
 have hbt:∀i,SV.belL (H.length+1) (S i)=true:=O (by have:=q1B j.tmps;rw [j.wd.n] at this;simp_all);have hbh':∀ys:List ty.den,belH (H.length+1) (H++ [.row ty ys])=true:=λys=>q4A λh o u=>by
  rcases q0j u with ⟨_,u⟩ | ⟨_,rfl⟩
  . have:=q5x (j.wd.obj h o (by grind));rw [j.wd.n] at this;simp_all
  rfl
 simp only [wpT];refine q0O (λm a w=>∃i,i<=n/\p i/\n-i=m/\∃C,C.w=w/\Den E C (S i) (H++ [.row ty (xs i)]) a) n ⟨0,Ai _,V,rfl,C,rfl,j.wd,j.ext,j.defs,q2p (q3e Q) j.tmps⟩ ?_;rintro m' a w ⟨i,R,F,rfl,C,rfl,j⟩;have N:=round i R F E r m C a A j;simp only [wpT] at N;refine wpIn_mono N λe a w L=> ?_;cases e with
 |normal=>
  obtain ⟨C',t',H',⟨z,B,G,G',rfl,W⟩,rfl,I⟩:=L;refine ⟨n- (i+1),by omega,i+1,z,B,rfl,C'.ren (shift H.length (H.length+G.length)) (H++ [SObj.row ty (xs (i+1))]).length,rfl,?_⟩;have y:∀h,h<H.length->shift H.length (H.length+G.length) h=h:=λh x=>by unfold shift;grind
  have hshn:shift H.length (H.length+G.length) H.length=H.length+G.length:=by unfold shift;simp_all
  refine q7y A.1 I W (by simp_all) (λh o u hl=> ?_) (by simp_all) (λh h' o o' u ho' _ _ e=> ?_) (λh x=>y h (Aj x J)) (by grind) (λ_ F U=>z4K (Aj F (Ao A.1 J)) (by simpa only [List.append_assoc] using U))
  . rcases q0j u with ⟨x,u⟩ | ⟨x,rfl⟩
    . rw [y h x];have hr:o.ren (shift H.length (H.length+G.length))=o:=by
       have hbo:=q2F D u;cases o with
       |cells T cs=>simp_all [SObj.ren,z0b,SObj.bel]
       |map kk ks vs=>simp_all [SObj.ren,z0b,SObj.bel]
       |_=>rfl
      grind
    grind [SObj.ren]
  grind
 |exit id=>grind [Exit.then,exitT]
 |_=>exact L
theorem j4v{c:IC}(a:Nat)(ty:Ty)(xs:Nat->List ty.den)(upd:Nat->List (Nat×SV))(n:Nat)(q:Nat->Prop){u:List ty.den}(e:u=xs 0)(z:k0<=H.length)(h:belH H.length H=true)(hu:∀i,((upd i).all λx=>x.2.bel (H.length+1))=true)
 (D:leM t (setMany (maskT c.wr t) ((a,.bld H.length ty (xs 0).length) :: upd 0)))
 (round:∀i,i<=n->(∀j,j<i->q j)->SoundI P AQ ⟨k0,.ic c :: .stop (RoundA H ty (λi=>setMany (maskT c.wr t) ((a,.bld H.length ty (xs i).length) :: upd i)) xs n (λi=>∀j,j<i->q j) i) :: k,setMany (maskT c.wr t) ((a,.bld H.length ty (xs i).length) :: upd i),H++ [.row ty (xs i)]⟩):
 SoundI P AQ ⟨k0,.ic (.loop c) :: k,t,H++ [.row ty u]⟩:=by
 subst e
 exact q0d (λtd' e=>by
 obtain ⟨c',r,rfl,E,e⟩:=e;obtain ⟨x,rfl,I⟩:=q0G E;refine z2K x ty _ xs n _ (λj A=>absurd A (BT j)) D z h (λB i=>q2R _ ?_ (q2T _ B)) (λi F y=>q0e (round i F y) ⟨x,_,rfl,I,r,rfl,e⟩);rw [BE,Ak]
 grind [SV.bel]) rfl
def PC.arg{f:FuncId}{args args':List SV}{s:SV}(h:PC P f args s)(hl:SV.leVL args' args):PC P f args' s:=
 ⟨h.1,λH K hk C vs hw ht hv=>h.2 H K hk C vs hw ht (q4K hl hv)⟩
end
section

variable [Ghost] {P:Program} {AQ:Ex->List SV->List SObj->Prop} {k0:Nat} {k:List IT} {t:List SV} {H:List SObj}

def sig:List Nat->Nat->Nat->Nat
 | [],N,h=>N+h
 |x :: _,_,0=>x
 |_ :: l,N,h+1=>sig l N h
def mgA(σ:Nat->Nat):List Nat->List SObj->List SObj->List SObj
 | [],l,H=>H++l.map (SObj.ren σ)
 |x :: r,o :: l,H=>mgA σ r l (H.set x (o.ren σ))
 |_ :: _,[],H=>H
def Out.ren(σ:Nat->Nat):Out->Out
 |.ret s=>.ret (s.ren σ)
 |.pan s=>.pan (s.ren σ)
def atH(σ:Nat->Nat)(H:List SObj):List Nat->List SObj->Prop
 | [],[]=>True
 |x :: r,o :: l=>H[x]?=some (o.ren σ)/\o.live=true/\atH σ H r l
 |_,_=>False

def z6E{σ:Nat->Nat}:∀ {r:List Nat} {l:List SObj},atH σ H r l->r.length=l.length
 | [],[],_=>rfl
 |_ :: r,_ :: l,h=>by simp [z6E h.2.2]
 | [],_ :: _,h=>h.elim
 |_ :: _,[],h=>h.elim
theorem z6U{σ:Nat->Nat}{N:Nat}:∀ {r:List Nat} {l:List SObj} {h:Nat} {o:SObj},atH σ H r l->l[h]?=some o->H[sig r N h]?=some (o.ren σ)/\o.live=true/\sig r N h∈r
 | [],[],_,_,_,hi=>by simp at hi
 |x :: r,o' :: l,0,o,ha,hi=>by simp at hi;subst hi;exact ⟨ha.1,ha.2.1,by simp [sig]⟩
 |x :: r,o' :: l,h+1,o,ha,hi=>by simp at hi;obtain ⟨g1,g2,g3⟩:=z6U (N:=N) ha.2.2 hi;grind [sig]
 | [],_ :: _,_,_,h,_=>h.elim
 |_ :: _,[],_,_,h,_=>h.elim
theorem z8G:∀ {r:List Nat} {N x:Nat},x∈r->∃h,h<r.length/\sig r N h=x
 |y :: r,N,x,hx=>by
  rcases Ba.1 hx with e|e
  . exact ⟨0,by simp,by simp [sig,e]⟩
  obtain ⟨h,h1,h2⟩:=z8G (N:=N) e;exact ⟨h+1,by grind,by grind [sig]⟩
 | [],_,_,hx=>by simp at hx
theorem z9B:∀ {r:List Nat} {N h a:Nat},r.Nodup->h<r.length->a<r.length->sig r N h=sig r N a->h=a
 |x :: r,N,0,0,_,_,_,_=>rfl
 |x :: r,N,0,a+1,hn,_,hl,he=>by
  simp only [sig] at he;have:sig r N a∈r:=sig_in (by grind)
  simp_all
 |x :: r,N,h+1,0,hn,hl,_,he=>by
  simp only [sig] at he;have:sig r N h∈r:=sig_in (by grind)
  simp_all
 |x :: r,N,h+1,a+1,hn,hl,hl',he=>by simp only [sig] at he;rw [z9B (BA.1 hn).2 (by grind) (by simp_all) he]
 | [],_,_,_,_,hl,_,_=>by simp at hl
where sig_in:∀ {r:List Nat} {N h:Nat},h<r.length->sig r N h∈r
 |x :: r,N,0,_=>by simp [sig]
 |x :: r,N,h+1,hl=>by simp only [sig];exact AH _ (sig_in (by grind))
 | [],_,_,hl=>by simp at hl
theorem z6L:∀ {r:List Nat} {N h:Nat},r.length<=h->sig r N h=N+ (h-r.length)
 | [],N,h,_=>by simp [sig]
 |x :: r,N,h+1,hl=>by simp only [sig];rw [z6L (by grind)];simp
 |x :: r,N,0,hl=>by simp at hl

theorem z8p{σ:Nat->Nat}:∀ {r:List Nat} {l H:List SObj},r.length<=l.length->(mgA σ r l H).length=H.length+ (l.length-r.length)
 | [],l,H,_=>by simp [mgA]
 |x :: r,o :: l,H,h=>by rw [mgA,z8p (by simpa using h)];simp
 |_ :: _,[],_,h=>by simp at h
theorem z9e{σ:Nat->Nat}:∀ {r:List Nat} {l H:List SObj} {i:Nat} {o:SObj},r.length<=l.length->(mgA σ r l H)[i]?=some o->
 (∃k a,l[k]?=some a/\o=a.ren σ/\i=sig r H.length k)\/(i ∉ r/\H[i]?=some o)
 | [],l,H,i,o,_,h=>by
  rw [mgA] at h;rcases A8 i H.length with j|j
  . grind
  rw [AI j,AF] at h;cases u:l[i-H.length]? with
  |none=>simp_all
  |some a=>rw [u] at h;cases h;exact .inl ⟨_,a,u,rfl,by grind [sig]⟩
 |x :: r,o' :: l,H,i,o,j,h=>by
  rw [mgA] at h;rcases z9e (by grind) h with ⟨k,a,z,n,h3⟩ | ⟨z,n⟩
  . exact .inl ⟨k+1,a,by grind,n,by grind [sig]⟩
  by_cases e:i=x
  . subst e;rcases A8 i H.length with y|y
    . rw [Bd y] at n;cases n;exact .inl ⟨0,o',rfl,rfl,rfl⟩
    simp_all
  grind
 |_ :: _,[],_,_,_,j,_=>by simp at j

/- Values that are carried to another context. -/
mutual
theorem z3S{C D:Cx}{σ:Nat->Nat}(r:∀h,h<C.n->D.ρ (σ h)=C.ρ h/\σ h<D.n)(y:D.I=C.I)(j:D.w=C.w):∀ {s:SV} {v:Value},s.den C v->(s.ren σ).den D v
 |.any,_,_=>by rw [SV.ren,SV.den];trivial
 |.raw _,_,d=>by grind [SV.den,SV.ren]
 |.isl _ _,_,d=>by grind [SV.den,SV.ren]
 |.fsl _ _,_,d=>by grind [SV.den,SV.ren]
 |.iptr _ _ _,_,d=>by simp_all [SV.den,SV.ren]
 |.dat _ _,_,d=>by grind [SV.den,SV.ren]
 |.ptr h off,_,d=>by grind [SV.den,SV.ren]
 |.rptr h t i k,_,d=>by grind [SV.den,SV.ren]
 |.bld h t m,_,d=>by simp_all [SV.den,SV.ren]
 |.osl h t off m,_,d=>by grind [SV.den,SV.ren]
 |.csl h t k i m,_,d=>by grind [SV.den,SV.ren]
 |.mp h,_,d=>by grind [SV.den,SV.ren]
 |.imap ..,_,d=>by grind [SV.den,SV.ren]
 |.agg l,_,d=>by rw [SV.den] at d;rw [SV.ren,SV.den];obtain ⟨vs,e,z⟩:=d;exact ⟨vs,e,q4x r y j z⟩
 |.tup l,_,d=>by rw [SV.den] at d;rw [SV.ren,SV.den];obtain ⟨vs,e,z⟩:=d;exact ⟨vs,e,q4x r y j z⟩
 |.fn f a b,_,d=>by rw [SV.den] at d;rw [SV.ren,SV.den];obtain ⟨F,E,e,A,B⟩:=d;exact ⟨F,E,e,q4x r y j A,q4x r y j B⟩
 |.iface T x,_,d=>by rw [SV.den] at d;rw [SV.ren,SV.den];obtain ⟨u,e,A⟩:=d;exact ⟨u,e,z3S r y j A⟩
theorem q4x{C D:Cx}{σ:Nat->Nat}(e:∀h,h<C.n->D.ρ (σ h)=C.ρ h/\σ h<D.n)(j:D.I=C.I)(a:D.w=C.w):∀ {l:List SV} {vs:List Value},SV.denL C l vs->SV.denL D (SV.renL σ l) vs
 | [],_,d=>by grind [SV.denL,SV.renL]
 |s :: l,_,d=>by rw [SV.denL] at d;rw [SV.renL,SV.denL];obtain ⟨v,us,rfl,u,r⟩:=d;exact ⟨v,us,rfl,z3S e j a u,q4x e j a r⟩
end
theorem objUp{D:Cx}{σ:Nat->Nat}{h:Nat}(a:∀h,h<C.n->D.ρ (σ h)=C.ρ h/\σ h<D.n)(r:D.I=C.I)(e:D.w=C.w)(j:h<C.n):∀ {o:SObj},objDen C h o->objDen D (σ h) (o.ren σ)
 |.dead,_=>trivial
 |.cells T cs,⟨b,vs,h1,h2,h3⟩=>⟨b,vs,(a h j).1.trans h1,by simp_all,q4x a r e h3⟩
 |.row t xs,d=>by grind [SObj.ren,objDen]
 |.map kk ks vs,⟨b,us,h1,h2,h3⟩=>⟨b,us,(a h j).1.trans h1,by simp_all,q4x a r e h3⟩
 |.mark _,_=>trivial

theorem z4G{σ:Nat->Nat}{x:Nat}{o:SObj}:∀ {a:List Nat} {l H:List SObj},x ∉ a->H[x]?=some o->(mgA σ a l H)[x]?=some o
 | [],l,H,_,h=>by grind [mgA]
 |y :: r,o' :: l,H,hx,h=>by rw [mgA];refine z4G (λe=>hx (AH _ e)) ?_;grind
 |_ :: _,[],H,_,h=>h
theorem VCall.fr{f:FuncId}{args:List SV}{H0:List SObj}{K0 K:Out->List SObj->Prop}(hs:List Nat)(hnd:hs.Nodup)(ha:atH (sig hs H.length) H hs H0)(hb:SV.belL H0.length args=true)(ak:belH H0.length H0=true)
 (hc:VCall P f args H0 K0)(hk:∀o H',H0.length<=H'.length->K0 o H'->K (o.ren (sig hs H.length)) (mgA (sig hs H.length) hs H' H)):
 VCall P f (SV.renL (sig hs H.length) args) H K:=by
 intro C vs S ht hv;have af:=z6E ha;generalize hσ:sig hs H.length=σ at*;have B:∀ {h o},H0[h]?=some o->H[σ h]?=some (o.ren σ)/\o.live=true/\σ h∈hs:=λhh=>by have:=z6U (N:=H.length) ha hh;simp_all
 let C0:Cx:=C.ren σ H0.length
 have Z:∀b,OwnB C0 H0 b->∃h,h<H0.length/\C.ρ (σ h)=some b/\OwnB C H b:=by rintro b ⟨i,o,J,L,ah⟩;exact ⟨i,(Am.1 J).1,ah,σ i,_,(B J).1,by grind [q0Z],ah⟩
 have am:Wd C0 H0:=by
  refine ⟨rfl,λi o J=>objRen (q2F ak J) (S.obj _ _ (B J).1),λb a=> ?_,λi j o o' b J X L O A z=> ?_,S.imm⟩
  . obtain ⟨_,_,_,V⟩:=Z b a;exact S.own b V
  have e:=S.inj (σ i) (σ j) _ _ b (B J).1 (B X).1 (by grind [q0Z]) (by grind [q0Z]) A z;rw [<-hσ] at e;grind [z9B]
 refine (hc C0 vs am (ht.sub rfl (λ_ h=>h) λb hb=>(Z b hb).elim λ_ h=>h.2.2) (q2E hb hv)).mono ?_;rintro e w' ⟨o,H',C',hK,rfl,y,Q,hd⟩;have hn:H0.length<=H'.length:=by have:=Q.evo.n;rw [y.n] at this;exact this
 have aj:hs.length<=H'.length:=by omega
 let D:Cx:={ρ:=λi=>if i<H.length then C.ρ i else C'.ρ (H0.length+ (i-H.length)),n:=H.length+ (H'.length-H0.length),I:=C'.I,w:=C'.w}
 have ai:∀h,h<H0.length->σ h<H.length:=λh hh=>(Am.1 (B (Af hh)).1).1;have hout:∀h,H0.length<=h->σ h=H.length+ (h-H0.length):=λh hh=>by rw [<-hσ,z6L (by omega),af]
 have hρ:∀h,h<C'.n->D.ρ (σ h)=C'.ρ h/\σ h<D.n:=by
  intro h hh;rw [y.n] at hh;rcases A8 h H0.length with V|V
  . have:=ai h V;refine ⟨?_,by grind⟩;show (if σ h<H.length then C.ρ (σ h) else _)=_;rw [if_pos this];exact (Q.evo.ρ h V).symm
  grind
 have W:Evo C D:=⟨by rw [S.n];grind,λx ae=>by
  show (if x<H.length then C.ρ x else _)=_
  rw [if_pos (by rw [S.n] at ae;exact ae)],Q.evo.I,Q.evo.sz⟩
 have E:∀ {i r},(mgA σ hs H' H)[i]?=some r->(∃h o',H'[h]?=some o'/\r=o'.ren σ/\i=σ h)\/(i ∉ hs/\H[i]?=some r):=λhh=>by
  rcases z9e aj hh with ⟨k,o',R,F,g3⟩ |g
  . rw [hσ] at g3;grind
  simp_all
 have ac:∀i r b,i ∉ hs->H[i]?=some r->r.live=true->C.ρ i=some b->¬OwnB C0 H0 b:=by
  rintro i r b hi J L a ⟨h,o',X,O,z⟩;have e:=S.inj i (σ h) _ _ b J (B X).1 L (by grind [q0Z]) a z
  simp_all
 have U:∀i r,H[i]?=some r->D.ρ i=C.ρ i:=λi r J=>by grind
 have Y:∀b,OwnB D (mgA σ hs H' H) b->OwnB C' H' b\/(OwnB C H b/\¬OwnB C0 H0 b):=by
  rintro b ⟨i,r,J,L,a⟩;rcases E J with ⟨h,o',R,rfl,rfl⟩ | ⟨R,F⟩
  . rw [(hρ h (by rw [y.n];grind)).1] at a;exact .inl ⟨h,o',R,by grind [q0Z],a⟩
  rw [U i r F] at a;exact .inr ⟨⟨i,r,F,L,a⟩,ac i r b R F L a⟩
 refine ⟨o.ren σ,mgA σ hs H' H,D,hk o H' hn hK,rfl,⟨?_,?_,?_,?_,y.imm⟩,⟨W,Q.size,Q.os,Q.tape,Q.output,?_,?_,?_,λn _ hn=>z4G (λh0=>by
  obtain ⟨h,hh,he⟩:=z8G (N:=H.length) h0;rw [hσ] at he
  grind [q0Z,SObj.live]) hn⟩,?_⟩
 . grind [z8p]
 . intro i r J;rcases E J with ⟨h,o',R,rfl,rfl⟩ | ⟨R,F⟩
   . exact objUp hρ rfl rfl (by rw [y.n];grind) (y.obj h o' R)
   by_cases L:r.live=true
   . exact q0z (C':=D) W.I i (U i r F) (λb a=>Q.frame b (S.own b ⟨i,r,F,L,a⟩).2 (ac i r b R F L a)) (q0f W) (S.obj i r F)
   cases r<;>first|trivial|simp [SObj.live] at L
 . intro b a;rcases Y b a with V| ⟨V,h2⟩
   . exact y.own b V
   obtain ⟨R,F⟩:=S.own b V;refine ⟨λhi=> ?_,Aj F Q.size⟩;rcases Q.immNew b hi with q| ⟨q|q,_⟩
   . exact R q
   . exact absurd F (AC.2 q)
   exact h2 q
 . intro i j r aa b J X L O A z;rcases E J with ⟨h,o',R,rfl,rfl⟩ | ⟨R,F⟩ <;>rcases E X with ⟨h',al,ad,rfl,rfl⟩ | ⟨ad,ab⟩
   . rw [(hρ h (by rw [y.n];grind)).1] at A;rw [(hρ h' (by rw [y.n];grind)).1] at z;rw [q0Z] at L O;rw [y.inj h h' _ _ b R ad L O A z]
   . rw [(hρ h (by rw [y.n];grind)).1] at A;rw [U j aa ab] at z;rw [q0Z] at L;rcases Q.ownNew b ⟨h,o',R,L,A⟩ with q|q
     . exact absurd (S.own b ⟨j,aa,ab,O,z⟩).2 (AC.2 q)
     grind
   . rw [(hρ h' (by rw [y.n];grind)).1] at z;rw [U i r F] at A;rw [q0Z] at O;rcases Q.ownNew b ⟨h',al,ad,O,z⟩ with q|q
     . exact absurd (S.own b ⟨i,r,F,L,A⟩).2 (AC.2 q)
     grind
   rw [U i r F] at A;rw [U j aa ab] at z;exact S.inj i j r aa b F ab L O A z
 . intro b a J;refine Q.frame b a λhq=> ?_;grind
 . intro b a;rcases Q.immNew b a with q| ⟨q|q,u⟩
   . exact .inl q
   . exact .inr ⟨.inl q,u⟩
   grind
 . intro b a;rcases Y b a with V| ⟨V,_⟩
   . rcases Q.ownNew b V with q|q
     . exact .inl q
     grind
   simp_all
 cases o with
 |ret s=>obtain ⟨v,rfl,hd⟩:=hd;exact ⟨v,rfl,z3S hρ rfl rfl hd⟩
 |pan s=>obtain ⟨v,rfl,hd⟩:=hd;exact ⟨v,rfl,z3S hρ rfl rfl hd⟩

def Out.val:Out->SV
 |.ret s=>s
 |.pan s=>s
def Out.withV:Out->SV->Out
 |.ret _,s=>.ret s
 |.pan _,s=>.pan s
def SV.leW1(s s':SV):Prop:=s=s'\/s'= .any\/∃t xs,s'= .isl t xs/\(s= .fsl t xs\/(s= .raw (.slice none 0 0)/\xs= []))
def SV.leWL:List SV->List SV->Prop
 | [],[]=>True
 |s :: l,s' :: l'=>SV.leW1 s s'/\SV.leWL l l'
 |_,_=>False
def SV.leW(s s':SV):Prop:=SV.leW1 s s'\/∃l l',s= .tup l/\s'= .tup l'/\SV.leWL l l'
theorem z3I{a:SV}(h:SV.leW1 s a)(d:s.den C v):a.den C v:=by
 rcases h with rfl|rfl| ⟨t,xs,rfl,rfl| ⟨rfl,rfl⟩⟩
 . exact d
 all_goals grind [SV.den,z2x,z6Q]
theorem z3Z{C:Cx}:∀ {l a:List SV} {vs:List Value},SV.leWL l a->SV.denL C l vs->SV.denL C a vs
 | [],[],_,_,d=>d
 |s :: l,s' :: a,_,h,d=>by obtain ⟨v,us,rfl,e,j⟩:=q0c.1 d;exact q0c.2 ⟨v,us,rfl,z3I h.1 e,z3Z h.2 j⟩
 | [],_ :: _,_,h,_=>h.elim
 |_ :: _,[],_,h,_=>h.elim
theorem j3Z{a:SV}(h:SV.leW s a)(d:s.den C v):a.den C v:=by rcases h with h| ⟨l,l',rfl,rfl,h⟩;all_goals grind [z3I,SV.den,z3Z]
def Weak(k0:Nat)(K:Out->List SObj->Prop):Out->List SObj->Prop:=λo H'=>∃σ s2 s3 H2,Le σ k0 [o.val] H' [s2] H2/\SV.leW s2 s3/\K (o.withV s3) H2
theorem VCall.weak{f:FuncId}{args:List SV}{K:Out->List SObj->Prop}(h:VCall P f args H (Weak H.length K)):VCall P f args H K:=by
 intro C vs O y R;refine (h C vs O y R).mono ?_;rintro e w' ⟨o,H',C',⟨σ,s2,J,j,L,z,N⟩,rfl,u,Q,a⟩;have key:∀v,o.val.den C' v->∃D:Cx,D.w=C'.w/\Wd D j/\Ext ⟨C,H⟩ D j/\J.den D v:=by
  intro v A;have r: @Den noGhost ⟨⟨C,H⟩,[]⟩ C' [o.val] H' {tmps:= #[v],defers:=[]}:=⟨u,Q,⟨rfl,⟨y.next Q,y.lt⟩,trivial⟩,q0c.2 ⟨v,[],rfl,A,q0y.2 rfl⟩⟩
  have g:= @Le.wd noGhost _ _ _ _ _ _ _ _ _ L (CN O.n) r;obtain ⟨v',us,S,F,_⟩:=q0c.1 g.tmps;cases S;exact ⟨C'.ren σ j.length,rfl,g.wd,g.ext,j3Z z F⟩
 cases o with
 |ret s=>obtain ⟨v,rfl,a⟩:=a;obtain ⟨D,E,x,I,B⟩:=key v a;exact ⟨.ret J,j,D,N,E,x,I,v,rfl,B⟩
 |pan s=>obtain ⟨v,rfl,a⟩:=a;obtain ⟨D,E,x,I,B⟩:=key v a;exact ⟨.pan J,j,D,N,E,x,I,v,rfl,B⟩
def q7A(h:VC P f args H (Weak H.length K)):VC P f args H K:=⟨h.1,VCall.weak h.2⟩

def PE(P:Program)(f:FuncId)(args:List SV)(H0:List SObj)(o:Out)(H1:List SObj):Prop:=VC P f args H0 λo' H'=>o'=o/\H'=H1
def z9M{H0 H1:List SObj}{o:Out}(h:VC P f args H0 (Weak H0.length λo' H'=>o'=o/\H'=H1)):PE P f args H0 o H1:=q7A h

def afterO(P:Program)(AQ:Ex->List SV->List SObj->Prop)(d:Option Tmp)(m:IM):Out->List SObj->Prop
 |.ret s,H'=>SoundI P AQ {m with tmps:=putT m.tmps d s,heap:=H'}
 |.pan s,H'=>AQ (.pan s) m.tmps H'

variable {d:Option Tmp}
theorem q0i{a:List SV}{H0 H1:List SObj}{o:Out}(e:List Nat)(u:PE P f a H0 o H1)(j:args=SV.renL (sig e m.heap.length) a)(r:e.Nodup)
 (x:atH (sig e m.heap.length) m.heap e H0)(y:SV.belL H0.length a=true)(n:belH H0.length H0=true)
 (h:afterO P AQ d m (o.ren (sig e m.heap.length)) (mgA (sig e m.heap.length) e H1 m.heap)):CallI P AQ f args d m:=by
 subst j;refine ⟨u.1,VCall.g (VCall.fr e r x y n u.2 ?_)⟩;rintro o' H' _ ⟨rfl,rfl⟩;cases o'<;>exact h
def effE{a:List SV}{H0 H1:List SObj}(u:P.follows .mixedOrders=true)(j:List Nat)(r:PE P f a H0 (.ret s) H1)(h:q)(n:args=SV.renL (sig j m.heap.length) a:=by rfl)(hnd:j.Nodup:=by decide)
 (ha:atH (sig j m.heap.length) m.heap j H0:=by (repeat first|exact trivial|exact rfl|refine And.intro ?_ ?_))(hb:SV.belL H0.length a=true:=by rfl)(hbh:belH H0.length H0=true:=by rfl)
 (e:run P AQ 600 {m with tmps:=putT m.tmps d (s.ren (sig j m.heap.length)),heap:=mgA (sig j m.heap.length) j H1 m.heap}=q:=by (simp only [Out.ren,SV.ren,mgA,sig,SObj.ren,SV.renL,List.set,List.map,Ad];simp (maxSteps:=3000000) only [go_sem,↓zA,↓reduceIte,↓reduceDIte];(try simp only [zB]);rfl)):CallI P AQ f args d m:=
 q0i j r n hnd ha hb hbh (q0o u 600 _ (Eq.mpr e h))
def effP{a:List SV}{H0 H1:List SObj}(j:List Nat)(r:PE P f a H0 (.pan s) H1)(h:q)(n:args=SV.renL (sig j m.heap.length) a:=by rfl)(hnd:j.Nodup:=by decide)
 (ha:atH (sig j m.heap.length) m.heap j H0:=by (repeat first|exact trivial|exact rfl|refine And.intro ?_ ?_))(hb:SV.belL H0.length a=true:=by rfl)(hbh:belH H0.length H0=true:=by rfl)
 (e:AQ (.pan (s.ren (sig j m.heap.length))) m.tmps (mgA (sig j m.heap.length) j H1 m.heap)=q:=by (simp only [Out.ren,SV.ren,mgA,sig,SObj.ren,SV.renL,List.set,List.map,Ad];simp (maxSteps:=3000000) only [go_sem,↓zA,↓reduceIte,↓reduceDIte];(try simp only [zB]);rfl)):CallI P AQ f args d m:=
 q0i j r n hnd ha hb hbh (Eq.mpr e h)
end
end Go.Sx